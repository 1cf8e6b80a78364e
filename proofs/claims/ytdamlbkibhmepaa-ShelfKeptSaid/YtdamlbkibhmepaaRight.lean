/-
  shelf.Right and the document's, walked.
-/
import Derived.Test.YtdamlbkibhmepaaFind
import Derived.Test.YtdamlbkibhmepaaName
import Derived.Maps.Own
import Derived.Maps.OwnOps
import Derived.Maps.Views
namespace Go.Proofs.Ytdamlbkibhmepaa.B
open Go.RowKit
set_option linter.unusedVariables false
set_option linter.unusedSimpArgs false

/-- How many of the first k have this name. -/
def cnt (l : List Ent) (k : Nat) (s : ByteArray) : Nat := ((l.take k).filter (fun x => !free x && decide (x.nm = s))).length
/-- May slot k be as it is? -/
def rightOne (l : List Ent) (k : Nat) : Bool :=
  if free (l.getD k .zero) = true then decide ((l.getD k .zero).a = 0) && decide ((l.getD k .zero).b = 0)
  else decide (nameSpec (l.getD k .zero).nm = 0) && decide (cnt l k (l.getD k .zero).nm = 0)
def rights (l : List Ent) (k : Nat) : List Bool := (List.range k).map (rightOne l)
def bools (bs : List Bool) : List Value := bs.map .bool
theorem bools_append (a b : List Bool) : bools (a ++ b) = bools a ++ bools b := by simp [bools]
theorem rights_succ (l : List Ent) (k : Nat) : rights l (k + 1) = rights l k ++ [rightOne l k] := by simp [rights, List.range_succ]
theorem rights_length (l : List Ent) (k : Nat) : (rights l k).length = k := by simp [rights]
theorem cnt_zero (l : List Ent) (s : ByteArray) : cnt l 0 s = 0 := by simp [cnt]
theorem cnt_succ (l : List Ent) (k : Nat) (h : k < l.length) (s : ByteArray) : cnt l (k + 1) s = cnt l k s + (if free l[k] = false ∧ l[k].nm = s then 1 else 0) := by
  unfold cnt
  rw [List.take_add_one, List.getElem?_eq_getElem h]
  simp only [Option.toList_some, List.filter_append, List.length_append]
  congr 1
  by_cases hf : free l[k] = true <;> by_cases hs : l[k].nm = s <;> simp [hs, hf]
theorem cnt_le (l : List Ent) (k : Nat) (s : ByteArray) : cnt l k s ≤ k := by
  unfold cnt
  have := List.length_filter_le (fun x => !free x && decide (x.nm = s)) (l.take k)
  rw [List.length_take] at this
  omega
theorem infoBool : (Try.prog.info? 4).map (fun i => (i.zero, i.size, i.bytes)) = some (some (.bool false), 1, 1) := by kernel_rfl

/-! ### A map of counts -/
theorem keyed : Go.Maps.Keyed Try.prog 9 := Go.Maps.string_keyed Try.underlying9
theorem zeroInt (w : World) : (zeroValue 3).run Try.prog w = .ok (.int .i64 0) w := by kernel_rfl
def kl (s : ByteArray) : Lit := .string s.data.toList
theorem kl_inj {s t : ByteArray} (h : kl s = kl t) : s = t := by
  simp only [kl, Lit.string.injEq] at h
  exact ByteArray.ext (Array.toList_inj.mp h)
/-- Block b is a map of at most n entries that gives f. -/
def CntMap (w : World) (b n : Nat) (f : ByteArray → Int) : Prop :=
  ∃ D : DataW Unit, w.ownsMap Try.prog 9 (plainElem Try.prog 3) b n D ∧ Go.Maps.IsMap D ∧ ∀ s, D.atKey (kl s) (.lit (.int .i64 0)) = .lit (.int .i64 (f s))
theorem CntMap.made (w : World) : CntMap (w.alloc (.map #[] 0)) w.heap.size 0 (fun _ => 0) :=
  ⟨_, World.ownsMap_made _ _ _ _, Go.Maps.isMap_empty, fun _ => rfl⟩
theorem CntMap.lt {w : World} {b n : Nat} {f : ByteArray → Int} (h : CntMap w b n f) : b < w.heap.size := by
  obtain ⟨D, h1, _⟩ := h
  exact h1.lt
theorem CntMap.kept {w w' : World} {b n : Nat} {f : ByteArray → Int} {row : Option Nat} (h : CntMap w b n f) (hg : w.grownBy w' row) (hne : some b ≠ row) : CntMap w' b n f := by
  obtain ⟨D, h1, h2, h3⟩ := h
  exact ⟨D, h1.kept hg hne, h2, h3⟩
theorem CntMap.below {w w' : World} {b n : Nat} {f : ByteArray → Int} (h : CntMap w b n f) (hb : Below w.heap.size w w') : CntMap w' b n f :=
  h.kept (row := none) ⟨hb.os, hb.tape, hb.output, hb.size, fun i hi _ => hb.block i hi⟩ (by simp)
theorem CntMap.ne_row {w : World} {b n : Nat} {f : ByteArray → Int} (h : CntMap w b n f) {e : TypeId} {size : Nat} {v : Value} {m : Nat} {xs : List Value} (hr : Row w e size v m xs) : some b ≠ v.ownBlock := by
  obtain ⟨D, ⟨es, clock, hb, _⟩, _⟩ := h
  intro he
  rcases hr.2 with ⟨rfl, _⟩ | ⟨g, cap, cur, lo, hi, rfl, hg, _⟩
  · simp [Value.ownBlock] at he
  · simp [Value.ownBlock] at he
    subst he
    rw [hb] at hg
    cases hg
theorem CntMap.look {w : World} {b n : Nat} {f : ByteArray → Int} (h : CntMap w b n f) {s : ByteArray} (hs : s.size ≤ maxLen) : (Instr.lookup 55 (.map (some b)) (.string s) false).run Try.prog w = .ok (.int .i64 (f s)) w := by
  obtain ⟨D, h1, h2, h3⟩ := h
  obtain ⟨c, hrun, hat, _⟩ := h1.lookup_int keyed Try.underlying55 Try.underlying3 (zeroInt w) (Go.WideMaps.keyOf_string_mk Try.underlying9 hs)
  have := h3 s
  unfold kl at this
  rw [hat] at this
  simp only [DataW.lit.injEq, Lit.int.injEq, true_and] at this
  rw [hrun, this]
theorem CntMap.put {w : World} {b n : Nat} {f : ByteArray → Int} (h : CntMap w b n f) {s : ByteArray} (hs : s.size ≤ maxLen) (hn : n < maxLen) {c : Int} (hc : (Lit.int .i64 c).wf = true) :
    ∃ w', (Instr.mapUpdate 55 (.map (some b)) (.string s) (.int .i64 c)).run Try.prog w = .ok () w' ∧ CntMap w' b (n + 1) (fun t => if t = s then c else f t) ∧ w.grownBy w' (some b) := by
  obtain ⟨D, h1, h2, h3⟩ := h
  obtain ⟨w', hrun, r1, r2⟩ := h1.update keyed Try.underlying55 hn (Go.WideMaps.keyOf_string_mk Try.underlying9 hs) (plainElem_int Try.underlying3 hc)
  refine ⟨w', hrun, ⟨_, r1, h2.put _ _, fun t => ?_⟩, r2⟩
  by_cases ht : t = s
  · subst ht
    show _ = DataW.lit (.int .i64 (if t = t then c else f t))
    rw [if_pos rfl]
    exact Go.Maps.atKey_put_same h2 (by simp [kl, WideAt.IsKeyLit]) _ _
  · show _ = DataW.lit (.int .i64 (if t = s then c else f t))
    rw [if_neg ht, ← h3 t]
    exact Go.Maps.atKey_put_other (fun he => ht (kl_inj he)) _ _
theorem wpList_mapUpdate_run {P : Program} {w w1 : World} {ops : Array Oper} {rest : List Oper} {o : Oper} {a : Act} {Q : Exit → Act → World → Prop} (hg : o.guard = none) (m x v : Operand) (t : TypeId) (hop : o.op = Op.mapUpdate t m x v)
    (mv xv vv : Value) (hm : a.eval m = mv) (hx : a.eval x = xv) (hv : a.eval v = vv) (hrun : (Instr.mapUpdate t mv xv vv).run P w = .ok () w1) (h : wpList P ops Q rest (a.put o.dst undef) w1) : wpList P ops Q (o :: rest) a w := by
  refine wpList_plain hg fun K' hK' => ?_
  unfold Oper.wp
  simp [execOp, hop, hm, hx, hv, hrun, Result.andThen]
  exact hK' _ _ h
theorem cnt_free (l : List Ent) (k : Nat) (h : k < l.length) (hf : free l[k] = true) : cnt l (k + 1) = cnt l k := by
  funext t
  rw [cnt_succ l k h, if_neg (by simp [hf])]
  rfl
theorem cnt_fun (l : List Ent) (k : Nat) (h : k < l.length) (hf : free l[k] = false) : (fun t => ((cnt l (k + 1) t : Nat) : Int)) = (fun t => if t = l[k].nm then ((cnt l k l[k].nm : Nat) : Int) + 1 else ((cnt l k t : Nat) : Int)) := by
  funext t
  rw [cnt_succ l k h]
  by_cases ht : t = l[k].nm
  · subst ht
    simp [hf]
  · rw [if_neg (fun e => ht e.2.symm), if_neg ht]; simp
theorem eql_gen (s : ByteArray) (a b : Int) (W : World) : (binOp .eql 37 (.agg #[.string s, .int .i64 a, .int .i64 b]) (.agg #[.string ⟨#[]⟩, .int .i64 0, .int .i64 0])).run Try.prog W = .ok (.bool (decide (s.size = 0) && (decide (a = 0) && decide (b = 0)))) W := by
  have hu := Try.underlying37
  have hi := Try.underlying3
  have hs := Try.underlying9
  have he := str_empty s
  by_cases h : s.toList = []
  · have hc : decide (s.size = 0) = true := by rw [← he, h]; rfl
    rw [hc]
    clear he hc
    simp [go_sem]
    repeat' split
    all_goals simp_all
  · have hc : decide (s.size = 0) = false := by
      rw [← he]
      cases hl : s.toList with
      | nil => exact absurd hl h
      | cons x r => rfl
    rw [hc]
    clear he hc
    simp [go_sem]
    repeat' split
    all_goals simp_all
/-- A round of shelf.Right. -/
structure RightI (w : World) (v : Value) (l : List Ent) (k : Nat) (out : Value) (W : World) : Prop where
  row : EntRow w v l
  map : CntMap W w.heap.size k (fun s => (cnt l k s : Nat))
  out : Loc w W 4 1 out k (bools (rights l k))
theorem Loc.beside {w0 w w1 : World} {e : TypeId} {size : Nat} {v : Value} {n b : Nat} {xs : List Value} (h : Loc w0 w e size v n xs) (hg : w.grownBy w1 (some b)) (hb : w0.heap.size ≤ b) (hne : some b ≠ v.ownBlock) : Loc w0 w1 e size v n xs :=
  ⟨h.row.kept (S := fun i => i = b) (Keeps.of_grown hg (fun k hk => (Option.some.inj hk).symm)) (fun k hk he => hne (by rw [hk, he])), h.below.grown hg h.below.size (fun k hk => by cases hk; exact hb), h.base⟩
theorem RightI.fin {w W W1 W2 : World} {v out : Value} {l : List Ent} {k cap H : Nat} {ao : Option Addr} {bb : Bool} (row : EntRow w v l) (hmap : CntMap W w.heap.size (k + 1) (fun s => (cnt l (k + 1) s : Nat))) (hout : Loc w W 4 1 out k (bools (rights l k))) (hb : Below W.heap.size W W1)
    (hbb : rightOne l k = bb) (hown : Row W2 4 1 (.slice ao (k + 1) cap) (k + 1) (bools (rights l k) ++ [.bool bb])) (hgrow : W1.grownBy W2 out.ownBlock)
    (hat : (Value.slice ao (k + 1) cap).ownBlock = out.ownBlock ∨ (Value.slice ao (k + 1) cap).ownBlock = some H) (hH : W.heap.size ≤ H) : RightI w v l (k + 1) (.slice ao (k + 1) cap) W2 := by
  refine ⟨row, (hmap.below hb).kept hgrow ((hmap.below hb).ne_row (hout.step hb).row), ?_⟩
  rw [rights_succ, bools_append, hbb]
  exact Loc.app hout hb hown hgrow hat hH
theorem CntMap.mono {w : World} {b n m : Nat} {f : ByteArray → Int} (h : CntMap w b n f) (hn : n ≤ m) : CntMap w b m f := by
  obtain ⟨D, h1, h2, h3⟩ := h
  exact ⟨D, h1.mono hn, h2, h3⟩
set_option maxRecDepth 100000 in
set_option maxHeartbeats 1600000 in
theorem Right_any (v : Value) (l : List Ent) (w : World) (h : EntRow w v l) (hsz : l.length ≤ 1000000) :
    Calls Try.prog 23 #[v] w fun e w' => ∃ v', e = .returned v' ∧ Loc w w' 4 1 v' l.length (bools (rights l l.length)) := by
  obtain ⟨ao, cap, rfl, hcap, hmax⟩ := h.form
  have hmm := @run_makeMap Try.prog
  have hu := Try.underlying37
  have HWF := Lib.hid h.all
  obtain ⟨n, hnl⟩ : ∃ n, n = l.length := ⟨_, rfl⟩
  rw [← hnl] at hcap hsz h
  rw [← hnl]
  have HI0 := Lib.hid (show RightI w (.slice ao n cap) l 0 (.slice none 0 0) (w.alloc (.map #[] 0)) from ⟨h, by
    have := CntMap.made w
    simpa [cnt_zero] using this, Loc.nil ((Below.refl _ w).alloc (Nat.le_refl _) _) _ _⟩)
  have HN := Lib.hid hnl
  clear hnl h hmax
  go_enter Try.func23, Try.ntmps23
  go_wp2_with fail
  generalize (w.alloc (.map #[] 0)) = W0 at HI0 ⊢
  obtain ⟨gm, hgm⟩ : ∃ g, g = w.heap.size := ⟨_, rfl⟩
  rw [← hgm]
  have HGM := Lib.hid hgm
  clear hgm
  go_loopg [3, 11] n (fun j o i wr => ∃ (k : Nat) (v : Value), j + k = n ∧ i = .int .i64 (k : Int) ∧ o = v ∧ RightI w (.slice ao n cap) l k v wr)
  case atStart => exact ⟨0, _, by omega, rfl, rfl, HI0.out⟩
  case round =>
    clear HI0
    obtain ⟨k, v, hk, rfl, rfl, hI⟩ := hrel
    by_cases hlt : k < n
    · obtain ⟨j, rfl⟩ : ∃ j, gk = j + 1 := ⟨gk - 1, by omega⟩
      have hlen : k < l.length := by rw [← HN.out]; exact hlt
      obtain ⟨g, oo, rfl, hg, hwf, hc⟩ := (hI.row.below hI.out.below).get (i := k) hlen
      have e1 := hc k hlen
      have hgd : l.getD k .zero = l[k] := by simp [List.getD, hlen]
      have hone : rightOne l k = if free (l[k]) = true then decide (l[k].a = 0) && decide (l[k].b = 0) else decide (nameSpec l[k].nm = 0) && decide (cnt l k l[k].nm = 0) := by unfold rightOne; rw [hgd]
      rw [hgd] at e1 hwf
      have hmap := hI.map
      have hfun := fun h => cnt_fun l k hlen h
      have hfreeC := fun h => cnt_free l k hlen h
      obtain ⟨f, hf⟩ : ∃ f, f = l[k] := ⟨_, rfl⟩
      rw [← hf] at e1 hwf hone hfun hfreeC
      have x0 : wr.cell? ⟨g, oo + k * 3, none⟩ = some (.string f.nm) := e1 0 _ rfl
      have x1 : wr.cell? ⟨g, oo + k * 3 + 1, none⟩ = some (.int .i64 f.a) := e1 1 _ rfl
      have x2 : wr.cell? ⟨g, oo + k * 3 + 2, none⟩ = some (.int .i64 f.b) := e1 2 _ rfl
      have u2 : (0 : Int) ≤ (k : Int) := by omega
      have u3 : (k : Int) < (n : Int) := by omega
      have hkj : j + (k + 1) = n := by omega
      have HKJ := Lib.hid hkj
      have hbe := str_empty f.nm
      have hE := eql_gen f.nm f.a f.b
      have hnm : f.nm.size ≤ maxLen := hwf.1
      obtain ⟨bz, hbz⟩ : ∃ b, b = decide (f.nm.size = 0) := ⟨_, rfl⟩
      rw [← hbz] at hbe hE
      have hfree : free f = bz := hbz.symm
      rw [hfree] at hone hfun hfreeC
      obtain ⟨bb0, hbb0⟩ : ∃ b, b = (decide (f.a = 0) && decide (f.b = 0)) := ⟨_, rfl⟩
      rw [← hbb0] at hE hone
      obtain ⟨ao2, cap2, rfl, hc2⟩ := hI.out.row.form
      have HFC := Lib.hid hI
      have HONE := Lib.hid hone
      have HFUN := Lib.hid hfun
      have HFREE := Lib.hid hfreeC
      have HMAP := Lib.hid hmap
      have HNM := Lib.hid hnm
      obtain ⟨i0, hi, hz0, hz1, hz2⟩ := info_parts infoBool
      have HII := Lib.hid hi
      have HZ0 := Lib.hid hz0
      have HZ1 := Lib.hid hz1
      have HZ2 := Lib.hid hz2
      have hkn : k ≤ 1000000 := by omega
      clear hI e1 hc hf hk hkj hlt hgd hbz hwf hone hfun hfreeC hmap hfree hbb0 hi hz0 hz1 hz2 hnm
      have hal : Below wr.heap.size wr (wr.alloc (.cells #[.string f.nm, .int .i64 f.a, .int .i64 f.b] 37 (0, 0))) := (Below.refl _ wr).alloc (Nat.le_refl _) _
      have HAL := Lib.hid hal
      clear hal
      cases bz with
      | true =>
        obtain ⟨bb, hbb⟩ : ∃ b, b = (true && bb0) := ⟨_, rfl⟩
        rw [← hbb] at hE
        have HBB := Lib.hid (show rightOne l k = bb by rw [HONE.out, hbb]; rfl)
        have HROW := Lib.hid ((HFC.out.out.step HAL.out).row)
        clear hbb
        go_wp2_with (refine wpList_append_row _ (by rfl) _ _ _ _ (by rfl) 4 i0 (.bool false) 1 1 Try.underlying39 HII.out HZ0.out HZ1.out HZ2.out rfl (by omega) _ k _ (by rfl) (HROW.out.alloc _) _ (by rfl) 1 [.bool bb] (Feeds.slice Try.underlying39 ⟨wr.heap.size + 1, 0, none⟩ 1 1 _ (by rfl) (by simp [Value.oneCell']) (World.news_of_block (cs := #[.bool bb]) (t := 4) (fr := (0, 0)) (get_top (by simp)))) (by unfold maxLen; omega) (by omega) (wr.heap.size + 1 + 1) (by simp) ?_; intro ao5 cap5 w5 hown5 hgrow5 hat5; have HO5 := Lib.hid hown5; have HG5 := Lib.hid hgrow5; have HA5 := Lib.hid hat5; clear hown5 hgrow5 hat5)
        go_roundg j
        case measure => omega
        case rel => exact ⟨k + 1, _, HKJ.out, by go_num, rfl, by
          have hm := HMAP.out.mono (Nat.le_succ k)
          rw [← HFREE.out trivial] at hm
          exact RightI.fin HFC.out.row hm HFC.out.out (HAL.out.trans (((Below.refl _ _).alloc (Nat.le_refl _) _).mono HAL.out.size)) HBB.out HO5.out HG5.out HA5.out (by omega)⟩
      | false =>
        have HFUN2 := Lib.hid (HFUN.out rfl)
        have HC := Lib.hid (fun W => Name_any f.nm (by have := HNM.out; unfold maxLen at this; omega) W)
        have hcl := cnt_le l k f.nm
        obtain ⟨c, hcc⟩ : ∃ c, c = cnt l k f.nm := ⟨_, rfl⟩
        rw [← hcc] at hcl
        obtain ⟨ns, hns⟩ : ∃ s, s = nameSpec f.nm := ⟨_, rfl⟩
        rw [← hns] at HC
        have hw1 : wrap64 ((c : Int) + 1) = (c : Int) + 1 := IntWalk.wrap64_in _ ⟨by omega, by omega⟩
        have HW1 := Lib.hid hw1
        have HCC := Lib.hid hcc
        have HNS := Lib.hid hns
        clear hcc hns hw1 hcl
        go_wp2_with fail
        refine (HC.out _).mono ?_
        rintro e W1 ⟨rfl, hb1⟩
        have hb01 := HAL.out.trans (hb1.mono HAL.out.size)
        have y0 : W1.heap[wr.heap.size]? = some (.cells #[.string f.nm, .int .i64 f.a, .int .i64 f.b] 37 (0, 0)) := (hb1.block _ (by simp)).trans (get_top rfl)
        have z0 := (blk_cell y0 0).trans rfl
        have hm1 := HMAP.out.below hb01
        have hlook := hm1.look HNM.out
        rw [← HCC.out] at hlook
        obtain ⟨W2, hput, hm2, hg2⟩ := hm1.put HNM.out (by unfold maxLen; omega) (Go.RowKit.wrap64_wf ((c : Int) + 1))
        have hl1 := HFC.out.out.step hb01
        have hl2 := hl1.beside hg2 (Nat.le_refl _) (hm1.ne_row hl1.row)
        rw [HW1.out, show (fun t => if t = f.nm then ((c : Int) + 1) else ((cnt l k t : Nat) : Int)) = (fun t => ((cnt l (k + 1) t : Nat) : Int)) by rw [HFUN2.out, HCC.out]] at hm2
        rw [← HGM.out] at hlook hput
        have HPUT := Lib.hid hput
        have HL2 := Lib.hid hl2
        have HM2 := Lib.hid hm2
        have HROW := Lib.hid hl2.row
        have hlk2 := hlook
        clear hput hl2 hm2 hl1 hm1 hg2 hb01 hb1 y0 HC
        by_cases hn0 : ns = 0
        · subst hn0
          obtain ⟨bb, hbb⟩ : ∃ b, b = ((c : Int) == 0) := ⟨_, rfl⟩
          have HBB := Lib.hid (show rightOne l k = bb by
            rw [HONE.out, if_neg (by simp), ← HNS.out, ← HCC.out, hbb]
            by_cases h : c = 0 <;> simp [h])
          have hbb' := hbb.symm
          clear hbb
          go_wp2_with (first | (at_mapUpdate; refine wpList_mapUpdate_run (by rfl) _ _ _ _ (by rfl) _ _ _ (by rfl) (by rfl) (by rfl) HPUT.out ?_) | (refine wpList_append_row _ (by rfl) _ _ _ _ (by rfl) 4 i0 (.bool false) 1 1 Try.underlying39 HII.out HZ0.out HZ1.out HZ2.out rfl (by omega) _ k _ (by rfl) (HROW.out.alloc _) _ (by rfl) 1 [.bool bb] (Feeds.slice Try.underlying39 ⟨W2.heap.size, 0, none⟩ 1 1 _ (by rfl) (by simp [Value.oneCell']) (World.news_of_block (cs := #[.bool bb]) (t := 4) (fr := (0, 0)) (get_top (by simp)))) (by unfold maxLen; omega) (by omega) (W2.heap.size + 1) (by simp) ?_; intro ao5 cap5 w5 hown5 hgrow5 hat5; have HO5 := Lib.hid hown5; have HG5 := Lib.hid hgrow5; have HA5 := Lib.hid hat5; clear hown5 hgrow5 hat5))
          go_roundg j
          case measure => omega
          case rel => exact ⟨k + 1, _, HKJ.out, by go_num, rfl, RightI.fin HFC.out.row HM2.out HL2.out ((Below.refl _ _).alloc (Nat.le_refl _) _) HBB.out HO5.out HG5.out HA5.out (by omega)⟩
        · have hn1 : (ns == 0) = false := by simpa using hn0
          obtain ⟨bb, hbb⟩ : ∃ b, b = false := ⟨_, rfl⟩
          have HBB := Lib.hid (show rightOne l k = false by
            rw [HONE.out, if_neg (by simp), ← HNS.out]
            simp [hn0])
          clear hbb hn0
          go_wp2_with (first | (at_mapUpdate; refine wpList_mapUpdate_run (by rfl) _ _ _ _ (by rfl) _ _ _ (by rfl) (by rfl) (by rfl) HPUT.out ?_) | (refine wpList_append_row _ (by rfl) _ _ _ _ (by rfl) 4 i0 (.bool false) 1 1 Try.underlying39 HII.out HZ0.out HZ1.out HZ2.out rfl (by omega) _ k _ (by rfl) (HROW.out.alloc _) _ (by rfl) 1 [.bool false] (Feeds.slice Try.underlying39 ⟨W2.heap.size, 0, none⟩ 1 1 _ (by rfl) (by simp [Value.oneCell']) (World.news_of_block (cs := #[.bool false]) (t := 4) (fr := (0, 0)) (get_top (by simp)))) (by unfold maxLen; omega) (by omega) (W2.heap.size + 1) (by simp) ?_; intro ao5 cap5 w5 hown5 hgrow5 hat5; have HO5 := Lib.hid hown5; have HG5 := Lib.hid hgrow5; have HA5 := Lib.hid hat5; clear hown5 hgrow5 hat5))
          go_roundg j
          case measure => omega
          case rel => exact ⟨k + 1, _, HKJ.out, by go_num, rfl, RightI.fin HFC.out.row HM2.out HL2.out ((Below.refl _ _).alloc (Nat.le_refl _) _) HBB.out HO5.out HG5.out HA5.out (by omega)⟩
    · obtain rfl : gk = 0 := by omega
      obtain rfl : k = n := by omega
      have HL := Lib.hid hI.out
      clear hI
      go_wp2_with fail
      go_ret
      rw [HN.out]
      exact ⟨_, rfl, by rw [← HN.out]; exact HL.out⟩
end Go.Proofs.Ytdamlbkibhmepaa.B
