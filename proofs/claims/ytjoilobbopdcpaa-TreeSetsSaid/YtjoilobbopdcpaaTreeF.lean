/-
  tree.Check, walked.
-/
import Derived.Test.YtjoilobbopdcpaaTreeE
namespace Go.Proofs.Ytjoilobbopdcpaa.B
open Go.RowKit
set_option linter.unusedVariables false
set_option linter.unusedSimpArgs false

/-- What a path says from a place on. -/
def ChkR (k : Option (ByteArray → ByteArray)) (ks : List ByteArray) (top : ByteArray) (all : Int) : List Stp → Nat → Nat → ByteArray → Bool → Prop
  | [], n, _, h, b => if n = 1 ∧ top.size ≠ 0 then ∃ r, Hd k ks (rootT all h) r ∧ b = decide (r = top) else b = false
  | x :: p, n, i, h, b => if n < 2 ∨ fitsB x i n = false then b = false else ∃ h', Hd k ks (nodeT (x.sides.take (i % 4) ++ [h] ++ x.sides.drop (i % 4))) h' ∧ ChkR k ks top all p ((n + 3) / 4) (i / 4) h' b
/-- What Check says. -/
def CheckR (k : Option (ByteArray → ByteArray)) (ks : List ByteArray) (top : ByteArray) (n i : Int) (s : ByteArray) (path : List Stp) (b : Bool) : Prop :=
  if i < 0 ∨ n ≤ i ∨ 32768 < n then b = false else ∃ h, Hd k ks (leafT s) h ∧ ChkR k ks top n path n.toNat i.toNat h b
theorem ChkR.pre {k : Option (ByteArray → ByteArray)} {ks ks' : List ByteArray} (hp : ks <+: ks') {top : ByteArray} {all : Int} {b : Bool} : ∀ {p : List Stp} {n i : Nat} {h : ByteArray}, ChkR k ks top all p n i h b → ChkR k ks' top all p n i h b
  | [], n, i, h, hc => by
    unfold ChkR at hc ⊢
    split at hc
    · rename_i hh
      rw [if_pos hh]
      obtain ⟨r, h1, h2⟩ := hc
      exact ⟨r, h1.pre hp, h2⟩
    · rename_i hh
      rw [if_neg hh]
      exact hc
  | x :: p, n, i, h, hc => by
    unfold ChkR at hc ⊢
    split at hc
    · rename_i hh
      rw [if_pos hh]
      exact hc
    · rename_i hh
      rw [if_neg hh]
      obtain ⟨h', h1, h2⟩ := hc
      exact ⟨h', h1.pre hp, h2.pre hp⟩
theorem ChkR.fn {k : Option (ByteArray → ByteArray)} {ks : List ByteArray} {top : ByteArray} {all : Int} {b b' : Bool} : ∀ {p : List Stp} {n i : Nat} {h : ByteArray}, ChkR k ks top all p n i h b → ChkR k ks top all p n i h b' → b = b'
  | [], n, i, h, h1, h2 => by
    unfold ChkR at h1 h2
    split at h1
    · rename_i hh
      rw [if_pos hh] at h2
      obtain ⟨r, a1, a2⟩ := h1
      obtain ⟨r', b1, b2⟩ := h2
      rw [a2, b2, a1.fn b1]
    · rename_i hh
      rw [if_neg hh] at h2
      rw [h1, h2]
  | x :: p, n, i, h, h1, h2 => by
    unfold ChkR at h1 h2
    split at h1
    · rename_i hh
      rw [if_pos hh] at h2
      rw [h1, h2]
    · rename_i hh
      rw [if_neg hh] at h2
      obtain ⟨r, a1, a2⟩ := h1
      obtain ⟨r', b1, b2⟩ := h2
      obtain rfl := a1.fn b1
      exact a2.fn b2
theorem CheckR.pre {k : Option (ByteArray → ByteArray)} {ks ks' : List ByteArray} (hp : ks <+: ks') {top : ByteArray} {n i : Int} {s : ByteArray} {path : List Stp} {b : Bool} (h : CheckR k ks top n i s path b) : CheckR k ks' top n i s path b := by
  unfold CheckR at h ⊢
  split at h
  · rename_i hh
    rw [if_pos hh]
    exact h
  · rename_i hh
    rw [if_neg hh]
    obtain ⟨r, h1, h2⟩ := h
    exact ⟨r, h1.pre hp, h2.pre hp⟩
theorem CheckR.fn {k : Option (ByteArray → ByteArray)} {ks : List ByteArray} {top : ByteArray} {n i : Int} {s : ByteArray} {path : List Stp} {b b' : Bool} (h : CheckR k ks top n i s path b) (h' : CheckR k ks top n i s path b') : b = b' := by
  unfold CheckR at h h'
  split at h
  · rename_i hh
    rw [if_pos hh] at h'
    rw [h, h']
  · rename_i hh
    rw [if_neg hh] at h'
    obtain ⟨r, h1, h2⟩ := h
    obtain ⟨r', h3, h4⟩ := h'
    obtain rfl := h1.fn h3
    exact h2.fn h4
/-- What a row of texts gives to append. -/
theorem Strs.feeds {w : World} {v : Value} {l : List ByteArray} (h : Strs w v l) : Feeds Try.prog 22 1 w v l.length (strs l) := by
  obtain ⟨ao, cap, rfl, h1, h2, h3⟩ := h
  cases ao with
  | none =>
    have h0 : l = [] := by
      cases l with
      | nil => rfl
      | cons x r =>
        obtain ⟨g, o, e, _⟩ := h3 (by simp)
        cases e
    subst h0
    exact ⟨⟨_, Try.underlying22, fun k h => by cases h⟩, by simp [strs], by simp [strs], fun W => rfl, fun W hW => rfl⟩
  | some a =>
    refine Feeds.slice Try.underlying22 a l.length cap (strs l) (by rw [strs_length, Nat.mul_one]) (strs_one l) (fun j u hu => ?_)
    simp only [strs, List.getElem?_map, Option.map_eq_some_iff] at hu
    obtain ⟨s, hs, rfl⟩ := hu
    obtain ⟨g, o, e, hg, hc⟩ := h3 (by have := (List.getElem?_eq_some_iff.1 hs).1; omega)
    cases e
    have := hc j s hs
    unfold Addr.add
    split
    · rename_i he
      rw [he, Nat.add_zero] at this
      exact this
    · exact this
theorem Strs.front {w : World} {ao : Option Addr} {n cap : Nat} {l : List ByteArray} (h : Strs w (.slice ao n cap) l) {b : Nat} (hb : b ≤ l.length) : Strs w (.slice ao b cap) (l.take b) := by
  obtain ⟨ao', cap', he, h1, h2, h3⟩ := h
  simp at he
  obtain ⟨rfl, rfl, rfl⟩ := he
  have hl : (l.take b).length = b := by simp; omega
  refine ⟨ao, cap, by rw [hl], by omega, by omega, fun h0 => ?_⟩
  obtain ⟨g, o, e, hg, hc⟩ := h3 (by omega)
  refine ⟨g, o, e, hg, fun i s hs => ?_⟩
  rw [List.getElem?_take] at hs
  split at hs
  · exact hc i s hs
  · cases hs
theorem Strs.back {w : World} {ao : Option Addr} {n cap : Nat} {l : List ByteArray} (h : Strs w (.slice ao n cap) l) {a : Nat} (ha : a ≤ l.length) : Strs w (.slice (ao.map (fun x => x.add a)) (n - a) (cap - a)) (l.drop a) := by
  have hp := h.part (a := a) (b := l.length) ha (Nat.le_refl _)
  obtain ⟨ao', cap', he, h1, h2, h3⟩ := h
  simp at he
  obtain ⟨rfl, rfl, rfl⟩ := he
  rwa [List.take_of_length_le (by simp)] at hp
theorem made_strs : madeCells (Value.cells (.string ⟨#[]⟩)) (4 * 1) = #[.string ⟨#[]⟩, .string ⟨#[]⟩, .string ⟨#[]⟩, .string ⟨#[]⟩] := by kernel_rfl
def four0 : Array Value := #[.string ⟨#[]⟩, .string ⟨#[]⟩, .string ⟨#[]⟩, .string ⟨#[]⟩]
/-- make([]string, 0, 4). -/
theorem wpList_make4 {ops : Array Oper} {rest : List Oper} {op : Oper} {a : Act} {w : World} {Q : Exit → Act → World → Prop} (hgd : op.guard = none) (x y : Operand) (ho : op.op = .makeSlice 22 x y)
    (hx : a.eval x = .int .i64 0) (hy : a.eval y = .int .i64 4)
    (h : wpList Try.prog ops Q rest (a.put op.dst (.slice (some ⟨w.heap.size, 0, none⟩) 0 4)) (w.alloc (.cells four0 9 (0, 0)))) : wpList Try.prog ops Q (op :: rest) a w := by
  obtain ⟨i0, hi, hz0, hz1, hz2⟩ := info_parts infoStr
  have hr := run_make (P := Try.prog) w 22 9 i0 _ Try.underlying22 hi hz0 .i64 .i64 0 4 (by omega) (by omega) (by rw [hz2]; omega) (by omega)
  rw [hz1, show (4 : Int).toNat = 4 from rfl, show (0 : Int).toNat = 0 from rfl, made_strs] at hr
  refine wpList_plain hgd fun K hK => ?_
  have hK' := hK _ _ h
  unfold Oper.wp execOp
  simp only [ho, hx, hy, Sem.run_bind, hr, Result.andThen_ok, Sem.run_pure]
  exact hK'
theorem Loc.four {w0 w : World} (hb : Below w0.heap.size w0 w) : Loc w0 (w.alloc (.cells four0 9 (0, 0))) 9 1 (.slice (some ⟨w.heap.size, 0, none⟩) 0 4) 0 (strs []) :=
  ⟨⟨rfl, .inr ⟨w.heap.size, 4, four0, 0, 0, rfl, get_top rfl, .inl (Nat.le_refl _), by omega, by unfold maxLen; omega, rfl, rfl⟩⟩, hb.alloc hb.size _, fun g hg => by cases hg; exact hb.size⟩
theorem loc_zero {w0 w : World} {e : TypeId} {ao : Option Addr} {n cap : Nat} {xs : List Value} (h : Loc w0 w e 1 (.slice ao (0 + n) cap) (0 + n) (strs [] ++ xs)) : Loc w0 w e 1 (.slice ao n cap) n xs := by
  rw [Nat.zero_add] at h
  exact h
theorem loc_plus {w0 w : World} {e : TypeId} {ao : Option Addr} {n cap : Nat} {xs : List Value} (h : Loc w0 w e 1 (.slice ao (n + 0) cap) (n + 0) xs) : Loc w0 w e 1 (.slice ao n cap) n xs := h
theorem nil_feeds (w : World) (ao : Option Addr) (r c : Nat) (hr : r = 0) (hc : c = 0) : Feeds Try.prog 22 1 w (.slice ao r c) 0 (strs []) := by
  subst hr
  subst hc
  exact Strs.feeds (l := []) ⟨ao, 0, rfl, Nat.le_refl _, Nat.zero_le _, fun h => absurd h (by decide)⟩
theorem wrap_div {i : Nat} (h : i ≤ 32768) : wrap64 ((i : Int) / 4) = ((i / 4 : Nat) : Int) := by
  rw [IntWalk.wrap64_in _ ⟨by omega, by omega⟩]
  omega
theorem str_eq2 {a b : ByteArray} : a.toList = b.toList ↔ a = b := ⟨fun h => by
    rw [ByteArray.toList_eq, ByteArray.toList_eq] at h
    exact ByteArray.ext (Array.toList_inj.mp h), fun h => by rw [h]⟩
theorem str_beq2 (s t : ByteArray) : (s.toList == t.toList) = decide (s = t) := by
  by_cases h : s = t
  · subst h; simp
  · have : s.toList ≠ t.toList := fun h' => h (str_eq2.1 h')
    simp [h, this]
theorem str_empty2 (s : ByteArray) : s.toList.isEmpty = decide (s.size = 0) := by
  rw [ByteArray.toList_eq]
  have : s.size = s.data.toList.length := by rw [Array.length_toList]; rfl
  rw [this]
  cases s.data.toList <;> simp
/-- What stands in a round of Check. -/
structure ChkI (w : World) (B g gh : Nat) (k : Option (ByteArray → ByteArray)) (ks0 : List ByteArray) (top : ByteArray) (all : Int) (path : List Stp) (n0 i0 : Nat) (h0 : ByteArray) (q n i : Nat) (h : ByteArray) (ks : List ByteArray) (W : World) : Prop where
  ran : Ran B g gh k (1 + q) ks0 ks w W
  lt : i < n
  n32 : n ≤ 32768
  hs : h.size = 32
  ext : ∀ b ks', ks <+: ks' → ChkR k ks' top all (path.drop q) n i h b → ChkR k ks' top all path n0 i0 h0 b
def CheckPost (B g gh : Nat) (k : Option (ByteArray → ByteArray)) (c : Nat) (ks : List ByteArray) (w : World) (top : ByteArray) (n i : Int) (s : ByteArray) (path : List Stp) (e : Ending) (w' : World) : Prop :=
  ∃ ks' b, e = .returned (.bool b) ∧ CheckR k ks' top n i s path b ∧ Ran B g gh k c ks ks' w w'
theorem strs_row {w : World} {v : Value} {l : List ByteArray} {n : Nat} {xs : List Value} (hn : n = l.length) (hx : xs = strs l) (h : Row w 9 1 v n xs) : Strs w v l := by
  subst hn
  subst hx
  exact Strs.of_row h
theorem chk_step {k : Option (ByteArray → ByteArray)} (HK : VK k) {B g gh : Nat} {ks ks2 : List ByteArray} {w wr w7 : World} {top h0 h : ByteArray} {all : Int} {path : List Stp} {n0 i0 q n i a L : Nat} (hI : ChkI w B g gh k ks top all path n0 i0 h0 q n i h ks2 wr)
    (hm : path.length ≤ 1000) (hk : ks.length < 100000000000) (hlt : q < path.length) {x : Stp} (hx : x = path[q]) (hf : fitsB x i n = true) (hn2 : ¬ n < 2) (ha : a = i % 4) (hL : L = x.sides.length) {v7 : Value} {r7 : Nat} {xs7 : List Value}
    (hr7 : r7 = a + 1 + (L - a)) (hxs7 : xs7 = strs (x.sides.take a) ++ [.string h] ++ strs (x.sides.drop a)) (hrow : Row w7 9 1 v7 r7 xs7) (hb : Below wr.heap.size wr w7) :
    Calls Try.prog 27 #[.pointer (some ⟨g, 0, none⟩), v7] w7 fun e W8 => ∃ ks3 r, e = .returned (.string r) ∧ ks2 <+: ks3 ∧ ChkI w B g gh k ks top all path n0 i0 h0 (q + 1) ((n + 3) / 4) (i / 4) r ks3 W8 := by
  have hf2 := hf
  unfold fitsB at hf2
  simp only [Bool.and_eq_true, decide_eq_true_eq, List.all_eq_true] at hf2
  obtain ⟨hat, hL3, hall⟩ := hf2
  have hlt4 := hI.lt
  have htk : (x.sides.take a).length = a := by rw [List.length_take]; omega
  have hlen : (x.sides.take a ++ [h] ++ x.sides.drop a).length = a + 1 + (L - a) := by
    rw [List.length_append, List.length_append, htk, List.length_drop, hL]; rfl
  have hst := strs_row (l := x.sides.take a ++ [h] ++ x.sides.drop a) (hr7.trans hlen.symm) (hxs7.trans (by simp [strs])) hrow
  have hr8 := hI.ran.below hb
  have hall7 : ∀ t ∈ x.sides.take a ++ [h] ++ x.sides.drop a, t.size ≤ 500 := by
    intro t ht
    have h32 := hI.hs
    rcases List.mem_append.1 ht with ht | ht
    · rcases List.mem_append.1 ht with ht | ht
      · have := hall t (List.mem_of_mem_take ht); omega
      · rw [List.mem_singleton.1 ht]; omega
    · have := hall t (List.mem_of_mem_drop ht); omega
  have hlen2 := hr8.len
  refine (node_any HK.ok B g gh ks2 v7 _ w7 hr8.vlt hst (by omega) hall7 (by omega)).mono ?_
  rintro e W8 ⟨ks3, r, rfl, hd, hr⟩
  have hn32 := hI.n32
  refine ⟨ks3, r, rfl, hr.pre, ⟨(hr8.trans hr).mono (by omega), by omega, by omega, hd.size HK, fun b ks' hp hc => hI.ext b ks' (hr.pre.trans hp) ?_⟩⟩
  rw [List.drop_eq_getElem_cons hlt, ← hx, ChkR, if_neg (fun hh => hh.elim hn2 (fun hh => by rw [hf] at hh; cases hh)), ← ha]
  exact ⟨r, hd.pre hp, hc⟩
set_option maxRecDepth 100000 in
set_option maxHeartbeats 3200000 in
theorem Check_any {k : Option (ByteArray → ByteArray)} (HK : VK k) (B g gh : Nat) (ks : List ByteArray) (top : ByteArray) (n i : Int) (hn : in64 n) (hi : in64 i) (s : ByteArray) (hs : s.size ≤ 10000) (v : Value) (path : List Stp) (hpl : path.length ≤ 1000) (w : World) (hv : Vlt w B g gh k ks) (hp : StepsAt w v path) (hk : ks.length < 100000000000) :
    Calls Try.prog 18 #[.pointer (some ⟨g, 0, none⟩), .string top, .int .i64 n, .int .i64 i, .string s, v] w (CheckPost B g gh k (path.length + 2) ks w top n i s path) := by
  obtain ⟨ao, cap, rfl, hcap, hmax⟩ := hp.form
  have hu := Try.underlying40
  obtain ⟨m, hm⟩ : ∃ m, m = path.length := ⟨_, rfl⟩
  rw [← hm] at hcap hp hpl
  rw [← hm]
  by_cases hout : i < 0 ∨ n ≤ i ∨ 32768 < n
  · have HR := Lib.hid (fun ks' => show CheckR k ks' top n i s path false by rw [CheckR, if_pos hout])
    have HRN := Lib.hid (Ran.refl hv)
    clear hm hv hp hmax
    by_cases h1 : i < 0
    · clear hout
      go_enter Try.func18, Try.ntmps18
      go_wp2_with fail
      go_ret
      exact ⟨ks, _, rfl, HR.out ks, HRN.out.mono (by omega)⟩
    · have h1' : 0 ≤ i := by omega
      by_cases h2 : n ≤ i
      · clear hout
        go_enter Try.func18, Try.ntmps18
        go_wp2_with fail
        go_ret
        exact ⟨ks, _, rfl, HR.out ks, HRN.out.mono (by omega)⟩
      · have h2' : i < n := by omega
        have h3 : 32768 < n := by omega
        clear hout
        go_enter Try.func18, Try.ntmps18
        go_wp2_with fail
        go_ret
        exact ⟨ks, _, rfl, HR.out ks, HRN.out.mono (by omega)⟩
  obtain ⟨i0, rfl⟩ : ∃ i0 : Nat, i = (i0 : Int) := ⟨i.toNat, by omega⟩
  obtain ⟨n0, rfl⟩ : ∃ n0 : Nat, n = (n0 : Int) := ⟨n.toNat, by omega⟩
  have h1 : ¬ (i0 : Int) < 0 := by omega
  have h2 : (i0 : Int) < (n0 : Int) := by omega
  have h3 : (n0 : Int) ≤ 32768 := by omega
  have h4 : i0 < n0 := by omega
  have h5 : n0 ≤ 32768 := by omega
  have HRes := Lib.hid (fun ks' h0 b (hd : Hd k ks' (leafT s) h0) (hc : ChkR k ks' top (n0 : Int) path n0 i0 h0 b) => show CheckR k ks' top (n0 : Int) (i0 : Int) s path b by
    rw [CheckR, if_neg hout]; exact ⟨h0, hd, hc⟩)
  have HLF := Lib.hid (leaf_any HK.ok B g gh ks s w hv hs (by omega))
  have HV := Lib.hid hv
  have HP := Lib.hid hp
  have HK2 := Lib.hid HK
  have HM := Lib.hid hm
  have H45 := Lib.hid (And.intro h4 h5)
  clear hout hv hp HK hm hmax h4 h5 hn hi
  go_enter Try.func18, Try.ntmps18
  go_wp2_with fail
  refine HLF.out.mono ?_
  rintro e W1 ⟨ks1, h0, rfl, hd, hr⟩
  have HI0 := Lib.hid (show ChkI w B g gh k ks top (n0 : Int) path n0 i0 h0 0 n0 i0 h0 ks1 W1 from ⟨hr, H45.out.1, H45.out.2, hd.size HK2.out, fun b ks' _ hc => hc⟩)
  have HD0 := Lib.hid hd
  clear hd hr HLF h1 h2 h3
  go_wp2_with fail
  go_loopg [2, 3, 14, 35] m (fun j tn ti th tq wr => ∃ (q n i : Nat) (h : ByteArray) (ks2 : List ByteArray), j + q = m ∧ tq = .int .i64 (q : Int) ∧ tn = .int .i64 (n : Int) ∧ ti = .int .i64 (i : Int) ∧ th = .string h ∧ ks1 <+: ks2 ∧ ChkI w B g gh k ks top (n0 : Int) path n0 i0 h0 q n i h ks2 wr)
  case atStart => exact ⟨0, n0, i0, h0, ks1, by omega, rfl, rfl, rfl, rfl, List.prefix_refl _, HI0.out⟩
  case round =>
    clear HI0
    obtain ⟨q, n, i, h, ks2, hkq, rfl, rfl, rfl, rfl, hpre, hI⟩ := hrel
    by_cases hlt : q < m
    · obtain ⟨j, rfl⟩ : ∃ j, gk = j + 1 := ⟨gk - 1, by omega⟩
      have hlen : q < path.length := by rw [← HM.out]; exact hlt
      obtain ⟨g1, o1, sv, rfl, hg1, hxw, c1, c2, hst⟩ := (HP.out.ran HV.out hI.ran).get (i := q) hlen
      have hext := hI.ext
      rw [List.drop_eq_getElem_cons hlen] at hext
      obtain ⟨x, hx⟩ : ∃ x, x = path[q] := ⟨_, rfl⟩
      rw [← hx] at hxw c1 hst hext
      obtain ⟨aos, caps, rfl, hcs, hms⟩ := hst.form
      have u2 : (0 : Int) ≤ (q : Int) := by omega
      have u3 : (q : Int) < (m : Int) := by omega
      have hkj : j + (q + 1) = m := by omega
      have HKJ := Lib.hid hkj
      have HX := Lib.hid hx
      have HI := Lib.hid hI
      have HPR := Lib.hid hpre
      have HST := Lib.hid hst
      by_cases hn2 : n < 2
      · have z1 : (n : Int) < 2 := by omega
        have HC := Lib.hid (fun ks' hp => hext false ks' hp (by rw [ChkR, if_pos (.inl hn2)]))
        clear hI hext hpre hlt hkq hx hst hxw hn2
        go_wp2_with fail
        go_ret
        exact ⟨ks2, _, rfl, HRes.out ks2 h0 false (HD0.out.pre HPR.out) (HC.out ks2 (List.prefix_refl _)), (HI.out.ran.below ((Below.refl _ wr).alloc (Nat.le_refl _) _)).mono (by have := HKJ.out; omega)⟩
      · have z1 : ¬ (n : Int) < 2 := by omega
        have hlt32 := hI.n32
        have hin := hI.lt
        have HFT := Lib.hid (fun W (h : Strs W (.slice aos x.sides.length caps) x.sides) => fits_any x hxw (.slice aos x.sides.length caps) i n hin (by omega) W h)
        by_cases hf : fitsB x i n = false
        · have HC := Lib.hid (fun ks' hp => hext false ks' hp (by rw [ChkR, if_pos (.inr hf)]))
          have HF := Lib.hid hf
          clear hI hext hpre hlt hkq hx hst hxw hn2 hf
          go_wp2_with fail
          refine (HFT.out _ (HST.out.below ((Below.refl _ wr).alloc (Nat.le_refl _) _))).mono ?_
          rw [HF.out]
          rintro e W1 ⟨rfl, hb1⟩
          have HB1 := Lib.hid (((Below.refl _ wr).alloc (Nat.le_refl _) _).trans (hb1.mono (by simp)))
          clear hb1 HFT
          go_wp2_with fail
          go_ret
          exact ⟨ks2, _, rfl, HRes.out ks2 h0 false (HD0.out.pre HPR.out) (HC.out ks2 (List.prefix_refl _)), (HI.out.ran.below HB1.out).mono (by have := HKJ.out; omega)⟩
        · have hf : fitsB x i n = true := by simpa using hf
          have HF := Lib.hid hf
          unfold fitsB at hf
          simp only [Bool.and_eq_true, decide_eq_true_eq, List.all_eq_true] at hf
          obtain ⟨hat, hL, hall⟩ := hf
          obtain ⟨a, ha⟩ : ∃ a, a = i % 4 := ⟨_, rfl⟩
          obtain ⟨L, hLL⟩ : ∃ L, L = x.sides.length := ⟨_, rfl⟩
          have hal : a ≤ L := by omega
          have hL3 : L ≤ 3 := by omega
          rw [hat, ← ha] at c1
          rw [← hLL] at c2
          have HEX := Lib.hid hext
          have HALL := Lib.hid hall
          have HA := Lib.hid ha
          have HLL := Lib.hid hLL
          have hFT2 := HFT.out
          rw [hat, ← ha, ← hLL, HF.out] at hFT2
          have HFT2 := Lib.hid hFT2
          have hst2 := HST.out
          rw [← hLL] at hst2
          have HST2 := Lib.hid hst2
          have z2 : (0 : Int) ≤ (a : Int) := by omega
          have z3 : (a : Int) ≤ (L : Int) := by omega
          have hcs2 : L ≤ caps := by omega
          have z4 : (a : Int) ≤ (caps : Int) := by omega
          have HIN := Lib.hid hin
          have HN2 := Lib.hid hn2
          obtain ⟨i0', hi0, hz0, hz1, hz2⟩ := info_parts infoStr
          have HII := Lib.hid hi0
          have HZ0 := Lib.hid hz0
          have HZ1 := Lib.hid hz1
          have HZ2 := Lib.hid hz2
          clear hI hext hpre hlt hkq hx hst hxw hn2 hat hL hall ha hLL HFT hFT2 hst2 hi0 hz0 hz1 hz2 hcs hms hin
          go_wp2_with fail
          refine (HFT2.out _ (HST2.out.below ((Below.refl _ wr).alloc (Nat.le_refl _) _))).mono ?_
          rintro e W1 ⟨rfl, hb1⟩
          have hx1 : W1.heap[wr.heap.size]? = some (.cells #[.int .i64 a, .slice aos L caps] 40 (0, 0)) := (hb1.block _ (by simp)).trans (get_top rfl)
          have hb01 : Below wr.heap.size wr W1 := ((Below.refl _ wr).alloc (Nat.le_refl _) _).trans (hb1.mono (by simp))
          obtain ⟨gx, hgx⟩ : ∃ g, g = wr.heap.size := ⟨_, rfl⟩
          rw [← hgx] at hx1 ⊢
          have k0 := (blk_cell hx1 0).trans rfl
          have k1 := (blk_cell hx1 1).trans rfl
          have hgl := blk_lt hx1
          have HX1 := Lib.hid hx1
          have HGX := Lib.hid hgx
          have HB01 := Lib.hid hb01
          have hS2 := HST2.out.below (hb01.alloc (Nat.le_trans (Nat.le_refl _) hb01.size) (.cells four0 9 (0, 0)))
          have HS2 := Lib.hid hS2
          have HFA := Lib.hid ((hS2.front (b := a) (by rw [← HLL.out]; exact hal)).feeds)
          have htk : (x.sides.take a).length = a := by rw [List.length_take, ← HLL.out]; omega
          have HTK := Lib.hid htk
          have hfa := HFA.out
          rw [htk] at hfa
          have HFA2 := Lib.hid hfa
          have HL0 := Lib.hid (Loc.four hb01)
          clear hx1 hb1 hb01 hgx hS2 htk hfa HFT2 HFA
          by_cases hac : a = caps
          · have hLa : a = L := by omega
            subst hac
            subst hLa
            cases aos with
            | none =>
              go_wp2_with (first | (refine wpList_make4 (by rfl) _ _ (by rfl) (by rfl) (by rfl) ?_) | (refine wpList_append_row _ (by rfl) _ _ _ _ (by rfl) 9 i0' (.string ⟨#[]⟩) 1 16 Try.underlying22 HII.out HZ0.out HZ1.out HZ2.out rfl (by omega) _ 0 _ (by rfl) HL0.out.row _ (by rfl) a _ HFA2.out (by unfold maxLen; omega) (by omega) (W1.heap.size + 1) (by simp) ?_; intro ao5 cap5 w5 hown5 hgrow5 hat5; have hx5 := (hgrow5.block gx (by simp; omega) (by simp [Value.ownBlock]; omega)).trans (get_below HX1.out); have j0 := (blk_cell hx5 0).trans rfl; have j1 := (blk_cell hx5 1).trans rfl; have hgl5 := blk_lt hx5; have HX5 := Lib.hid hx5; have HL5 := Lib.hid (loc_zero (Loc.app HL0.out (Below.refl _ _) hown5 hgrow5 hat5 (by simp))); clear hown5 hgrow5 hat5 hx5) | (refine wpList_append_row _ (by rfl) _ _ _ _ (by rfl) 9 i0' (.string ⟨#[]⟩) 1 16 Try.underlying22 HII.out HZ0.out HZ1.out HZ2.out rfl (by omega) _ a _ (by rfl) (HL5.out.row.alloc _) _ (by rfl) 1 [.string h] (Feeds.slice Try.underlying22 ⟨w5.heap.size, 0, none⟩ 1 1 _ (by rfl) (by simp [Value.oneCell']) (World.news_of_block (cs := #[.string h]) (t := 9) (fr := (0, 0)) (get_top rfl))) (by unfold maxLen; omega) (by omega) (w5.heap.size + 1) (by simp) ?_; intro ao6 cap6 w6 hown6 hgrow6 hat6; have hx6 := (hgrow6.block gx (by have := blk_lt HX5.out; simp; omega) (HL5.out.row.ne_type HX5.out (by decide))).trans (get_below HX5.out); have l0 := (blk_cell hx6 0).trans rfl; have l1 := (blk_cell hx6 1).trans rfl; have hgl6 := blk_lt hx6; have hl6 := Loc.app HL5.out ((Below.refl _ w5).alloc (Nat.le_refl _) _) hown6 hgrow6 hat6 (by omega); have HL6 := Lib.hid hl6; have hfc := ((HST2.out.below hl6.below).back (a := a) (by rw [← HLL.out]; exact hal)).feeds; have hdl : (x.sides.drop a).length = a - a := (by rw [List.length_drop, ← HLL.out]); rw [hdl] at hfc; have HFC := Lib.hid hfc; have HX6 := Lib.hid hx6; clear hown6 hgrow6 hat6 hx6 hl6 hfc hdl) | (refine wpList_append_row _ (by rfl) _ _ _ _ (by rfl) 9 i0' (.string ⟨#[]⟩) 1 16 Try.underlying22 HII.out HZ0.out HZ1.out HZ2.out rfl (by omega) _ (a + 1) _ (by rfl) HL6.out.row _ (by rfl) 0 (strs []) (nil_feeds _ _ _ _ (by omega) (by omega)) (by unfold maxLen; omega) (by omega) w6.heap.size rfl ?_; intro ao7 cap7 w7 hown7 hgrow7 hat7; have HL7 := Lib.hid (loc_plus (Loc.app HL6.out (Below.refl _ _) hown7 hgrow7 hat7 (Nat.le_refl _))); clear hown7 hgrow7 hat7))
              refine (chk_step HK2.out HI.out (by have := HM.out; omega) (by omega) (by have := HM.out; omega) HX.out HF.out HN2.out HA.out HLL.out (by omega) (by rw [List.drop_of_length_le (by rw [← HLL.out]; exact Nat.le_refl _)]) HL7.out.row HL7.out.below).mono ?_
              clear HFC HFA2 HL0 HL5 HL6 HL7
              rintro e W8 ⟨ks3, r, rfl, hp3, hI3⟩
              have HN32 := Lib.hid hI3.n32
              have HI3 := Lib.hid hI3
              have HP3 := Lib.hid hp3
              clear hI3 hp3
              go_wp2_with fail
              go_roundg j
              case measure => omega
              case rel => exact ⟨q + 1, (n + 3) / 4, i / 4, r, ks3, HKJ.out, by go_num, congrArg (Value.int .i64) (by omega), congrArg (Value.int .i64) (wrap_div (by have := HIN.out; have := HI.out.n32; omega)), rfl, HPR.out.trans HP3.out, HI3.out⟩
            | some ad =>
              go_wp2_with (first | (refine wpList_make4 (by rfl) _ _ (by rfl) (by rfl) (by rfl) ?_) | (refine wpList_append_row _ (by rfl) _ _ _ _ (by rfl) 9 i0' (.string ⟨#[]⟩) 1 16 Try.underlying22 HII.out HZ0.out HZ1.out HZ2.out rfl (by omega) _ 0 _ (by rfl) HL0.out.row _ (by rfl) a _ HFA2.out (by unfold maxLen; omega) (by omega) (W1.heap.size + 1) (by simp) ?_; intro ao5 cap5 w5 hown5 hgrow5 hat5; have hx5 := (hgrow5.block gx (by simp; omega) (by simp [Value.ownBlock]; omega)).trans (get_below HX1.out); have j0 := (blk_cell hx5 0).trans rfl; have j1 := (blk_cell hx5 1).trans rfl; have hgl5 := blk_lt hx5; have HX5 := Lib.hid hx5; have HL5 := Lib.hid (loc_zero (Loc.app HL0.out (Below.refl _ _) hown5 hgrow5 hat5 (by simp))); clear hown5 hgrow5 hat5 hx5) | (refine wpList_append_row _ (by rfl) _ _ _ _ (by rfl) 9 i0' (.string ⟨#[]⟩) 1 16 Try.underlying22 HII.out HZ0.out HZ1.out HZ2.out rfl (by omega) _ a _ (by rfl) (HL5.out.row.alloc _) _ (by rfl) 1 [.string h] (Feeds.slice Try.underlying22 ⟨w5.heap.size, 0, none⟩ 1 1 _ (by rfl) (by simp [Value.oneCell']) (World.news_of_block (cs := #[.string h]) (t := 9) (fr := (0, 0)) (get_top rfl))) (by unfold maxLen; omega) (by omega) (w5.heap.size + 1) (by simp) ?_; intro ao6 cap6 w6 hown6 hgrow6 hat6; have hx6 := (hgrow6.block gx (by have := blk_lt HX5.out; simp; omega) (HL5.out.row.ne_type HX5.out (by decide))).trans (get_below HX5.out); have l0 := (blk_cell hx6 0).trans rfl; have l1 := (blk_cell hx6 1).trans rfl; have hgl6 := blk_lt hx6; have hl6 := Loc.app HL5.out ((Below.refl _ w5).alloc (Nat.le_refl _) _) hown6 hgrow6 hat6 (by omega); have HL6 := Lib.hid hl6; have hfc := ((HST2.out.below hl6.below).back (a := a) (by rw [← HLL.out]; exact hal)).feeds; have hdl : (x.sides.drop a).length = a - a := (by rw [List.length_drop, ← HLL.out]); rw [hdl] at hfc; have HFC := Lib.hid hfc; have HX6 := Lib.hid hx6; clear hown6 hgrow6 hat6 hx6 hl6 hfc hdl) | (refine wpList_append_row _ (by rfl) _ _ _ _ (by rfl) 9 i0' (.string ⟨#[]⟩) 1 16 Try.underlying22 HII.out HZ0.out HZ1.out HZ2.out rfl (by omega) _ (a + 1) _ (by rfl) HL6.out.row _ (by rfl) 0 (strs []) (nil_feeds _ _ _ _ (by omega) (by omega)) (by unfold maxLen; omega) (by omega) w6.heap.size rfl ?_; intro ao7 cap7 w7 hown7 hgrow7 hat7; have HL7 := Lib.hid (loc_plus (Loc.app HL6.out (Below.refl _ _) hown7 hgrow7 hat7 (Nat.le_refl _))); clear hown7 hgrow7 hat7))
              refine (chk_step HK2.out HI.out (by have := HM.out; omega) (by omega) (by have := HM.out; omega) HX.out HF.out HN2.out HA.out HLL.out (by omega) (by rw [List.drop_of_length_le (by rw [← HLL.out]; exact Nat.le_refl _)]) HL7.out.row HL7.out.below).mono ?_
              clear HFC HFA2 HL0 HL5 HL6 HL7
              rintro e W8 ⟨ks3, r, rfl, hp3, hI3⟩
              have HN32 := Lib.hid hI3.n32
              have HI3 := Lib.hid hI3
              have HP3 := Lib.hid hp3
              clear hI3 hp3
              go_wp2_with fail
              go_roundg j
              case measure => omega
              case rel => exact ⟨q + 1, (n + 3) / 4, i / 4, r, ks3, HKJ.out, by go_num, congrArg (Value.int .i64) (by omega), congrArg (Value.int .i64) (wrap_div (by have := HIN.out; have := HI.out.n32; omega)), rfl, HPR.out.trans HP3.out, HI3.out⟩
          · have hac2 : ¬ caps = a := fun h => hac h.symm
            go_wp2_with (first | (refine wpList_make4 (by rfl) _ _ (by rfl) (by rfl) (by rfl) ?_) | (refine wpList_append_row _ (by rfl) _ _ _ _ (by rfl) 9 i0' (.string ⟨#[]⟩) 1 16 Try.underlying22 HII.out HZ0.out HZ1.out HZ2.out rfl (by omega) _ 0 _ (by rfl) HL0.out.row _ (by rfl) a _ HFA2.out (by unfold maxLen; omega) (by omega) (W1.heap.size + 1) (by simp) ?_; intro ao5 cap5 w5 hown5 hgrow5 hat5; have hx5 := (hgrow5.block gx (by simp; omega) (by simp [Value.ownBlock]; omega)).trans (get_below HX1.out); have j0 := (blk_cell hx5 0).trans rfl; have j1 := (blk_cell hx5 1).trans rfl; have hgl5 := blk_lt hx5; have HX5 := Lib.hid hx5; have HL5 := Lib.hid (loc_zero (Loc.app HL0.out (Below.refl _ _) hown5 hgrow5 hat5 (by simp))); clear hown5 hgrow5 hat5 hx5) | (refine wpList_append_row _ (by rfl) _ _ _ _ (by rfl) 9 i0' (.string ⟨#[]⟩) 1 16 Try.underlying22 HII.out HZ0.out HZ1.out HZ2.out rfl (by omega) _ a _ (by rfl) (HL5.out.row.alloc _) _ (by rfl) 1 [.string h] (Feeds.slice Try.underlying22 ⟨w5.heap.size, 0, none⟩ 1 1 _ (by rfl) (by simp [Value.oneCell']) (World.news_of_block (cs := #[.string h]) (t := 9) (fr := (0, 0)) (get_top rfl))) (by unfold maxLen; omega) (by omega) (w5.heap.size + 1) (by simp) ?_; intro ao6 cap6 w6 hown6 hgrow6 hat6; have hx6 := (hgrow6.block gx (by have := blk_lt HX5.out; simp; omega) (HL5.out.row.ne_type HX5.out (by decide))).trans (get_below HX5.out); have l0 := (blk_cell hx6 0).trans rfl; have l1 := (blk_cell hx6 1).trans rfl; have hgl6 := blk_lt hx6; have hl6 := Loc.app HL5.out ((Below.refl _ w5).alloc (Nat.le_refl _) _) hown6 hgrow6 hat6 (by omega); have HL6 := Lib.hid hl6; have hfc := ((HST2.out.below hl6.below).back (a := a) (by rw [← HLL.out]; exact hal)).feeds; have hdl : (x.sides.drop a).length = L - a := (by rw [List.length_drop, ← HLL.out]); rw [hdl] at hfc; have HFC := Lib.hid hfc; have HX6 := Lib.hid hx6; clear hown6 hgrow6 hat6 hx6 hl6 hfc hdl) | (refine wpList_append_row _ (by rfl) _ _ _ _ (by rfl) 9 i0' (.string ⟨#[]⟩) 1 16 Try.underlying22 HII.out HZ0.out HZ1.out HZ2.out rfl (by omega) _ (a + 1) _ (by rfl) HL6.out.row _ (by rfl) (L - a) _ HFC.out (by unfold maxLen; omega) (by omega) w6.heap.size rfl ?_; intro ao7 cap7 w7 hown7 hgrow7 hat7; have HL7 := Lib.hid (Loc.app HL6.out (Below.refl _ _) hown7 hgrow7 hat7 (Nat.le_refl _)); clear hown7 hgrow7 hat7))
            refine (chk_step HK2.out HI.out (by have := HM.out; omega) (by omega) (by have := HM.out; omega) HX.out HF.out HN2.out HA.out HLL.out rfl rfl HL7.out.row HL7.out.below).mono ?_
            clear HFC HFA2 HL0 HL5 HL6 HL7
            rintro e W8 ⟨ks3, r, rfl, hp3, hI3⟩
            have HN32 := Lib.hid hI3.n32
            have HI3 := Lib.hid hI3
            have HP3 := Lib.hid hp3
            clear hI3 hp3
            go_wp2_with fail
            go_roundg j
            case measure => omega
            case rel => exact ⟨q + 1, (n + 3) / 4, i / 4, r, ks3, HKJ.out, by go_num, congrArg (Value.int .i64) (by omega), congrArg (Value.int .i64) (wrap_div (by have := HIN.out; have := HI.out.n32; omega)), rfl, HPR.out.trans HP3.out, HI3.out⟩
    · obtain rfl : gk = 0 := by omega
      obtain rfl : q = m := by omega
      have hc := hI.ext
      rw [List.drop_of_length_le (by rw [← HM.out]; exact Nat.le_refl _)] at hc
      have he := str_empty2 top
      have HI := Lib.hid hI
      have HPR := Lib.hid hpre
      by_cases hn1 : n = 1
      · by_cases htop : top.size = 0
        · have he2 : top.toList.isEmpty = true := by rw [he]; simp [htop]
          have HC := Lib.hid (fun ks' hp => hc false ks' hp (by rw [ChkR, if_neg (by simp [htop])]))
          clear hI hc hpre he hlt hkq htop
          subst hn1
          go_wp2_with fail
          go_ret
          exact ⟨ks2, _, rfl, HRes.out ks2 h0 false (HD0.out.pre HPR.out) (HC.out ks2 (List.prefix_refl _)), HI.out.ran.mono (by omega)⟩
        · have he2 : top.toList.isEmpty = false := by rw [he]; simp [htop]
          have HRT := Lib.hid (root_any HK2.out.ok B g gh ks2 (n0 : Int) (by have := H45.out; omega) (by have := H45.out; omega) h wr hI.ran.vlt (by rw [hI.hs]; omega) (by have := hI.ran.len; omega))
          have HC := Lib.hid (fun ks' (hp : ks2 <+: ks') r (hd : Hd k ks' (rootT (n0 : Int) h) r) => hc (decide (r = top)) ks' hp (by rw [ChkR, if_pos ⟨hn1, htop⟩]; exact ⟨r, hd, rfl⟩))
          clear hI hc hpre he hlt hkq htop
          subst hn1
          go_wp2_with fail
          refine HRT.out.mono ?_
          rintro e W2 ⟨ks3, r, rfl, hd, hr⟩
          have hb := str_beq2 r top
          have HR := Lib.hid hr
          have HD := Lib.hid hd
          obtain ⟨bb, hbb⟩ : ∃ b, b = decide (r = top) := ⟨_, rfl⟩
          rw [← hbb] at hb
          have HBB := Lib.hid hbb
          clear hd hr HRT hbb
          go_wp2_with fail
          go_ret
          exact ⟨ks3, bb, rfl, HRes.out ks3 h0 bb ((HD0.out.pre HPR.out).pre HR.out.pre) (by rw [HBB.out]; exact HC.out ks3 HR.out.pre r HD.out), (HI.out.ran.trans HR.out).mono (by omega)⟩
      · have hn2 : ((n : Int) == 1) = false := by simp; omega
        have hn3 : ¬ n = 1 := hn1
        have HC := Lib.hid (fun ks' hp => hc false ks' hp (by rw [ChkR, if_neg (by simp [hn1])]))
        clear hI hc hpre he hlt hkq hn1
        go_wp2_with fail
        go_ret
        exact ⟨ks2, _, rfl, HRes.out ks2 h0 false (HD0.out.pre HPR.out) (HC.out ks2 (List.prefix_refl _)), HI.out.ran.mono (by omega)⟩
end Go.Proofs.Ytjoilobbopdcpaa.B
