/-
  Rows of texts; tree.leaf, node, group, root, walked.
-/
import Derived.Test.YtjoilobbopdcpaaHash
import Derived.Test.YtjoilobbopdcpaaStrRow
namespace Go.Proofs.Ytjoilobbopdcpaa.B
open Go.RowKit
set_option linter.unusedVariables false
set_option linter.unusedSimpArgs false

/-- v reads as the texts l. -/
def Strs (w : World) (v : Value) (l : List ByteArray) : Prop :=
  ∃ ao cap, v = .slice ao l.length cap ∧ l.length ≤ cap ∧ l.length ≤ maxLen ∧
    (0 < l.length → ∃ g o, ao = some ⟨g, o, none⟩ ∧ g < w.heap.size ∧ ∀ i s, l[i]? = some s → w.cell? ⟨g, o + i, none⟩ = some (.string s))
def strs (l : List ByteArray) : List Value := l.map .string
theorem strs_length (l : List ByteArray) : (strs l).length = l.length := by simp [strs]
theorem strs_app (l m : List ByteArray) : strs (l ++ m) = strs l ++ strs m := by simp [strs]
theorem strs_one (l : List ByteArray) : ∀ u ∈ strs l, u.oneCell' = true := by
  intro u hu
  simp only [strs, List.mem_map] at hu
  obtain ⟨x, _, rfl⟩ := hu
  rfl
theorem Strs.form {w : World} {v : Value} {l : List ByteArray} (h : Strs w v l) : ∃ ao cap, v = .slice ao l.length cap ∧ l.length ≤ cap ∧ l.length ≤ maxLen := by
  obtain ⟨ao, cap, he, h1, h2, h3⟩ := h
  exact ⟨ao, cap, he, h1, h2⟩
theorem Strs.nil (w : World) : Strs w (.slice none 0 0) [] := ⟨none, 0, rfl, Nat.le_refl _, by simp, fun h => by simp at h⟩
theorem Strs.get {w : World} {ao : Option Addr} {n cap : Nat} {l : List ByteArray} (h : Strs w (.slice ao n cap) l) {i : Nat} (hi : i < l.length) : ∃ g o, ao = some ⟨g, o, none⟩ ∧ g < w.heap.size ∧ w.cell? ⟨g, o + i, none⟩ = some (.string l[i]) := by
  obtain ⟨ao', cap', he, _, _, hc⟩ := h
  simp at he
  obtain ⟨rfl, rfl, rfl⟩ := he
  obtain ⟨g, o, e, hg, hc⟩ := hc (by omega)
  exact ⟨g, o, e, hg, hc i _ (List.getElem?_eq_getElem hi)⟩
theorem Strs.keeps {w w' : World} {v : Value} {l : List ByteArray} {S : Nat → Prop} (h : Strs w v l) (hk : Keeps S w w') (hn : ∀ g, (∃ cs t fr, w.heap[g]? = some (.cells cs t fr)) → ¬ S g) : Strs w' v l := by
  obtain ⟨ao, cap, he, h1, h2, h3⟩ := h
  refine ⟨ao, cap, he, h1, h2, fun h0 => ?_⟩
  obtain ⟨g, o, e, hg, hc⟩ := h3 h0
  have hcell : ∃ cs t fr, w.heap[g]? = some (.cells cs t fr) := by
    have := hc 0 l[0] (List.getElem?_eq_getElem h0)
    unfold World.cell? at this
    split at this
    · rename_i cs t fr hcs
      exact ⟨_, _, _, hcs⟩
    · cases this
  refine ⟨g, o, e, Nat.lt_of_lt_of_le hg hk.size, fun i s hs => ?_⟩
  rw [← hc i s hs]
  exact hk.cell hg (hn g hcell)
theorem Strs.below {w w' : World} {v : Value} {l : List ByteArray} (h : Strs w v l) (hb : Below w.heap.size w w') : Strs w' v l :=
  h.keeps (Keeps.of_below (S := fun _ => False) hb) (fun _ _ h => h)
theorem Vlt.map {W : World} {B g gh : Nat} {ks : List ByteArray} (h : Vlt W B g gh none ks) : ∃ es clock, W.heap[gh]? = some (.map es clock) := by
  obtain ⟨h1, h2, h3, gi, gm, gs, a1, a2, a3, a4, a5, D, ⟨es, clock, hb, _⟩, _⟩ := h
  exact ⟨es, clock, hb⟩
theorem Vlt.no {W : World} {B g gh : Nat} {k : Option (ByteArray → ByteArray)} {ks : List ByteArray} (h : Vlt W B g gh k ks) (i : Nat) (hi : ∃ cs t fr, W.heap[i]? = some (.cells cs t fr)) : ¬ HS k gh i := by
  rintro ⟨rfl, rfl⟩
  obtain ⟨es, clock, hb⟩ := h.map
  obtain ⟨cs, t, fr, hc⟩ := hi
  rw [hb] at hc
  cases hc
theorem Strs.ran {w w' : World} {v : Value} {l : List ByteArray} {B g gh c : Nat} {k : Option (ByteArray → ByteArray)} {ks ks' : List ByteArray} (h : Strs w v l) (hv : Vlt w B g gh k ks) (hr : Ran B g gh k c ks ks' w w') : Strs w' v l :=
  h.keeps hr.kp (fun i hi => hv.no i hi)
theorem Strs.of_row {w : World} {v : Value} {l : List ByteArray} (h : Row w 9 1 v l.length (strs l)) : Strs w v l := by
  obtain ⟨h1, h2⟩ := id h
  rcases h2 with ⟨rfl, h0⟩ | ⟨g, cap, cur, lo, hi, rfl, hg, _, hc, hm, _⟩
  · have : l = [] := List.eq_nil_of_length_eq_zero h0
    subst this
    exact Strs.nil w
  · refine ⟨_, cap, rfl, hc, by omega, fun _ => ⟨g, 0, rfl, blk_lt hg, fun i s hs => ?_⟩⟩
    rw [Nat.zero_add]
    exact Row.cells h i _ (by simp [strs, hs])
theorem Strs.of_in {w : World} {v : Value} {l : List ByteArray} (h : F.StrRow w v l) : Strs w v l ∧ ∀ s ∈ l, s.size ≤ maxLen := by
  obtain ⟨ao, cap, he, h1, h2, h3, h4⟩ := h
  refine ⟨⟨ao, cap, he, h1, h2, fun h0 => ?_⟩, fun s hs => ?_⟩
  · obtain ⟨_, g, o, e, hg, _⟩ := h4 0 _ (List.getElem?_eq_getElem h0)
    refine ⟨g, o, e, hg, fun i s hs => ?_⟩
    obtain ⟨_, g', o', e', _, hc⟩ := h4 i s hs
    rw [e] at e'
    cases e'
    exact hc
  · obtain ⟨i, hi⟩ := List.getElem?_of_mem hs
    exact (h4 i s hi).1
/-- A part of a row. -/
theorem Strs.part {w : World} {ao : Option Addr} {n cap : Nat} {l : List ByteArray} (h : Strs w (.slice ao n cap) l) {a b : Nat} (hab : a ≤ b) (hb : b ≤ l.length) : Strs w (.slice (ao.map (fun x => x.add a)) (b - a) (cap - a)) ((l.drop a).take (b - a)) := by
  obtain ⟨ao', cap', he, h1, h2, h3⟩ := h
  simp at he
  obtain ⟨rfl, rfl, rfl⟩ := he
  have hl : ((l.drop a).take (b - a)).length = b - a := by simp; omega
  refine ⟨ao.map (fun x => x.add a), cap - a, by rw [hl], by rw [hl]; omega, by rw [hl]; omega, fun h0 => ?_⟩
  rw [hl] at h0
  obtain ⟨g, o, e, hg, hc⟩ := h3 (by omega)
  refine ⟨g, o + a, by rw [e]; unfold Option.map Addr.add; split <;> simp_all, hg, fun i s hs => ?_⟩
  rw [List.getElem?_take] at hs
  split at hs
  · rw [List.getElem?_drop] at hs
    have := hc (a + i) s hs
    rw [Nat.add_assoc]
    exact this
  · cases hs

/-! ### Texts that are hashed -/
def leafT (s : ByteArray) : ByteArray := ⟨#[0]⟩ ++ s
def cat : List ByteArray → ByteArray
  | [] => ⟨#[]⟩
  | x :: r => x ++ cat r
def nodeT (l : List ByteArray) : ByteArray := ⟨#[1]⟩ ++ cat l
def rootT (n : Int) (top : ByteArray) : ByteArray := ⟨#[2]⟩ ++ (putSpec n 6).1 ++ top
theorem cat_app (a b : List ByteArray) : cat (a ++ b) = cat a ++ cat b := by
  induction a with
  | nil => apply ByteArray.ext; simp [cat]
  | cons x r ih => rw [List.cons_append, cat, cat, ih, ByteArray.append_assoc]
theorem cat_size (l : List ByteArray) (m : Nat) (h : ∀ s ∈ l, s.size ≤ m) : (cat l).size ≤ m * l.length := by
  induction l with
  | nil => exact Nat.zero_le _
  | cons x r ih =>
    rw [cat, ByteArray.size_append, List.length_cons, Nat.mul_add]
    have h1 := h x (by simp)
    have h2 := ih (fun s hs => h s (by simp [hs]))
    omega

set_option maxRecDepth 100000 in
theorem leaf_any {k : Option (ByteArray → ByteArray)} (HO : HashOk k) (B g gh : Nat) (ks : List ByteArray) (s : ByteArray) (w : World) (h : Vlt w B g gh k ks) (hs : s.size ≤ 10000) (hn : ks.length < 1000000000000) :
    Calls Try.prog 26 #[.pointer (some ⟨g, 0, none⟩), .string s] w fun e w' => ∃ ks' r, e = .returned (.string r) ∧ Hd k ks' (leafT s) r ∧ Ran B g gh k 1 ks ks' w w' := by
  have HH := Lib.hid (HO B g gh ks (leafT s) w h (by rw [leafT, ByteArray.size_append]; show 1 + _ ≤ _; omega) hn)
  unfold leafT at HH ⊢
  have hov : ¬ 9223372036854775807 < (⟨#[0]⟩ : ByteArray).size + s.size := by show ¬ _ < 1 + s.size; omega
  have hsz : (⟨#[0]⟩ : ByteArray).size = 1 := rfl
  clear h HO
  go_enter Try.func26, Try.ntmps26
  go_wp2_with fail
  refine HH.out.mono ?_
  rintro e W1 ⟨ks', r, rfl, hd, hr⟩
  have HD := Lib.hid hd
  have HR := Lib.hid hr
  clear hd hr HH
  go_wp2_with fail
  go_ret
  exact ⟨ks', r, rfl, HD.out, HR.out⟩
/-- A node's bytes so far. -/
structure NodI (w : World) (v : Value) (l : List ByteArray) (k : Nat) (bs : ByteArray) (b : Value) (W : World) : Prop where
  row : Strs w v l
  out : Loc w W 5 1 b bs.size (nums (bytesOf bs))
  is : bs = ⟨#[1]⟩ ++ cat (l.take k)
theorem one_row {w : World} : Row (w.alloc (.cells #[.int .u8 1] 5 (0, 0))) 5 1 (.slice (some ⟨w.heap.size, 0, none⟩) 1 1) 1 (nums (bytesOf ⟨#[1]⟩)) :=
  Row.lit (w := w.alloc (.cells #[.int .u8 1] 5 (0, 0))) (get_top rfl) 1 rfl (by unfold maxLen; omega)
theorem strCells_eq2 (s : ByteArray) : Lib.strCells s = nums (bytesOf s) := by rw [nums_bytesOf]; rfl
theorem bytesOf_app (a b : ByteArray) : bytesOf (a ++ b) = bytesOf a ++ bytesOf b := by simp [bytesOf]
set_option maxRecDepth 100000 in
set_option maxHeartbeats 1600000 in
theorem node_any {k : Option (ByteArray → ByteArray)} (HO : HashOk k) (B g gh : Nat) (ks : List ByteArray) (v : Value) (l : List ByteArray) (w : World) (h : Vlt w B g gh k ks) (hv : Strs w v l) (hl : l.length ≤ 100) (hs : ∀ s ∈ l, s.size ≤ 500) (hn : ks.length < 1000000000000) :
    Calls Try.prog 27 #[.pointer (some ⟨g, 0, none⟩), v] w fun e w' => ∃ ks' r, e = .returned (.string r) ∧ Hd k ks' (nodeT l) r ∧ Ran B g gh k 1 ks ks' w w' := by
  obtain ⟨ao, cap, rfl, hcap, hmax⟩ := hv.form
  have HS := Lib.hid hs
  have HV := Lib.hid h
  have HO2 := Lib.hid HO
  obtain ⟨n, hnl⟩ : ∃ n, n = l.length := ⟨_, rfl⟩
  rw [← hnl] at hcap hl hv
  rw [← hnl]
  have hal := (Below.refl _ w).alloc (Nat.le_refl _) (.cells #[.int .u8 1] 5 (0, 0))
  have HI0 := Lib.hid (show NodI w (.slice ao n cap) l 0 ⟨#[1]⟩ (.slice (some ⟨w.heap.size, 0, none⟩) 1 1) (w.alloc (.cells #[.int .u8 1] 5 (0, 0))) from
    ⟨hv, ⟨one_row, hal, fun g hg => by cases hg; exact Nat.le_refl _⟩, by apply ByteArray.ext; simp [cat]⟩)
  have HN := Lib.hid hnl
  clear hnl hv hmax h hal hs HO
  go_enter Try.func27, Try.ntmps27
  go_wp2_with fail
  generalize (w.alloc (.cells #[.int .u8 1] 5 (0, 0))) = W0 at HI0 ⊢
  go_loopg [5, 11] n (fun j b i wr => ∃ (q : Nat) (bs : ByteArray) (v : Value), j + q = n ∧ i = .int .i64 (q : Int) ∧ b = v ∧ NodI w (.slice ao n cap) l q bs v wr)
  case atStart => exact ⟨0, _, _, by omega, rfl, rfl, HI0.out⟩
  case round =>
    clear HI0
    obtain ⟨q, bs, v, hk, rfl, rfl, hI⟩ := hrel
    by_cases hlt : q < n
    · obtain ⟨j, rfl⟩ : ∃ j, gk = j + 1 := ⟨gk - 1, by omega⟩
      have hlen : q < l.length := by rw [← HN.out]; exact hlt
      obtain ⟨gl, oo, rfl, hg, x0⟩ := (hI.row.below hI.out.below).get (i := q) hlen
      obtain ⟨f, hf⟩ : ∃ f, f = l[q] := ⟨_, rfl⟩
      have hfs : f.size ≤ 500 := by rw [hf]; exact HS.out _ (List.getElem_mem hlen)
      have hbs : bs.size ≤ 1 + 500 * n := by
        rw [hI.is, ByteArray.size_append]
        have := cat_size (l.take q) 500 (fun s hs => HS.out s (List.mem_of_mem_take hs))
        rw [List.length_take] at this
        have h1 : 500 * min q l.length ≤ 500 * n := Nat.mul_le_mul_left _ (by omega)
        show 1 + _ ≤ _
        omega
      have hnext : bs ++ f = ⟨#[1]⟩ ++ cat (l.take (q + 1)) := by
        rw [hI.is, List.take_add_one, List.getElem?_eq_getElem hlen, ← hf, ByteArray.append_assoc, cat_app]
        congr 2
        apply ByteArray.ext; simp [cat]
      rw [← hf] at x0
      have u2 : (0 : Int) ≤ (q : Int) := by omega
      have u3 : (q : Int) < (n : Int) := by omega
      have hkj : j + (q + 1) = n := by omega
      have HKJ := Lib.hid hkj
      obtain ⟨m, hm⟩ : ∃ m, m = bs.size := ⟨_, rfl⟩
      have hor := hI.out.row
      rw [← hm] at hor hbs
      obtain ⟨ao2, cap2, rfl, hc2⟩ := hor.form
      have HM := Lib.hid hm
      have HROW := Lib.hid hor
      have HFC := Lib.hid hI
      have HNX := Lib.hid hnext
      obtain ⟨i0, hi, hz0, hz1, hz2⟩ := info_parts infoByte
      have HII := Lib.hid hi
      have HZ0 := Lib.hid hz0
      have HZ1 := Lib.hid hz1
      have HZ2 := Lib.hid hz2
      have hn100 : n ≤ 100 := hl
      clear hI hk hlt hkj hf hnext hm hor hi hz0 hz1 hz2 hlen
      go_wp2_with (refine wpList_append_row _ (by rfl) _ _ _ _ (by rfl) 5 i0 (.int .u8 0) 1 1 Try.underlying84 HII.out HZ0.out HZ1.out HZ2.out rfl (by omega) _ m _ (by rfl) HROW.out _ (by rfl) f.size _ (Feeds.str Try.underlying9 f) (by unfold maxLen; omega) (by omega) wr.heap.size rfl ?_; intro ao5 cap5 w5 hown5 hgrow5 hat5; have HO5 := Lib.hid hown5; have HG5 := Lib.hid hgrow5; have HA5 := Lib.hid hat5; clear hown5 hgrow5 hat5)
      go_roundg j
      case measure => omega
      case rel => exact ⟨q + 1, bs ++ f, _, HKJ.out, by go_num, rfl, by
        have := HM.out
        subst this
        have hap := Loc.app (HFC.out.out) (Below.refl _ wr) HO5.out HG5.out HA5.out (Nat.le_refl _)
        refine ⟨HFC.out.row, ?_, HNX.out⟩
        rw [ByteArray.size_append, bytesOf_app, nums_append]
        rw [strCells_eq2] at hap
        exact hap⟩
    · obtain rfl : gk = 0 := by omega
      obtain rfl : q = n := by omega
      have hcv := row_string (P := Try.prog) Try.underlying84 Try.underlying5 Try.underlying9 hI.out.row
      have hbs : bs = nodeT l := by
        rw [hI.is, List.take_of_length_le (by rw [← HN.out]; exact Nat.le_refl _)]
        rfl
      rw [strOfNums_bytesOf, hbs] at hcv
      have hR0 := (Ran.refl HV.out).below hI.out.below
      have hsz : (nodeT l).size ≤ 100000 := by
        rw [nodeT, ByteArray.size_append]
        have := cat_size l 500 HS.out
        rw [← HN.out] at this
        show 1 + _ ≤ _
        omega
      have HH := Lib.hid (HO2.out B g gh ks (nodeT l) wr hR0.vlt hsz hn)
      have HR0 := Lib.hid hR0
      obtain ⟨m, hm⟩ : ∃ m, m = bs.size := ⟨_, rfl⟩
      have hor := hI.out.row
      rw [← hm] at hor
      obtain ⟨ao2, cap2, rfl, hc2⟩ := hor.form
      clear hI hR0 hsz hbs hm hor hk hlt
      go_wp2_with fail
      refine HH.out.mono ?_
      rintro e W1 ⟨ks', r, rfl, hd, hr⟩
      have HD := Lib.hid hd
      have HR := Lib.hid (HR0.out.trans hr)
      clear hd hr HH
      go_wp2_with fail
      go_ret
      exact ⟨ks', r, rfl, HD.out, HR.out.mono (by omega)⟩
end Go.Proofs.Ytjoilobbopdcpaa.B
