/-
  tree.Path, walked.
-/
import Derived.Test.YtjoilobbopdcpaaTreeL
namespace Go.Proofs.Ytjoilobbopdcpaa.B
open Go.RowKit
set_option linter.unusedVariables false
set_option linter.unusedSimpArgs false

theorem Up.le {k : Option (ByteArray → ByteArray)} {ks : List ByteArray} : ∀ {rest : List (List ByteArray)} {row : List ByteArray}, Up k ks row rest → ∀ r ∈ rest, r.length ≤ row.length
  | [], row, h, r, hr => by simp at hr
  | b :: rest, row, h, r, hr => by
    have h1 := h.1
    have h2 := h.2.1.1
    rcases List.mem_cons.1 hr with rfl | hr
    · omega
    · have := Up.le h.2.2 r hr; omega
theorem TreeR.rowlen {k : Option (ByteArray → ByteArray)} {ks l : List ByteArray} {rows : List (List ByteArray)} (h : TreeR k ks l rows) (q : Nat) : (rows.getD q []).length ≤ l.length := by
  obtain ⟨row, rest, rfl, h1, h2⟩ := h.up
  have hl := h1.1
  by_cases hq : q < (row :: rest).length
  · have e : (row :: rest).getD q [] = (row :: rest)[q] := by simp only [List.getD]; rw [List.getElem?_eq_getElem hq]; rfl
    rw [e]
    rcases List.mem_cons.1 (List.getElem_mem hq) with he | he
    · rw [he]; omega
    · have := h2.le _ he; omega
  · have e : (row :: rest).getD q [] = [] := by simp [List.getD, List.getElem?_eq_none (by omega : (row :: rest).length ≤ q)]
    rw [e]; simp
theorem PathI.push {w wr w6 w7 : World} {k : Option (ByteArray → ByteArray)} {ks l row : List ByteArray} {rows : List (List ByteArray)} {i0 q i r6 cap capr : Nat} {ao aor : Option Addr} {svs xs6 : List Value} {sv : Value} {path : List Stp} (h : PathI w rows i0 q i (.slice aor q capr) svs path wr) (ht : TreeR k ks l rows) (hq : q + 1 < rows.length) (hq2 : q < 1000) (hrow : row = rows.getD q [])
    (HL : Loc wr w6 9 1 sv r6 xs6) (hr6 : r6 = (stepOf row i).sides.length) (hx6 : xs6 = strs (stepOf row i).sides) (o : Obj) {a : Int} (ha : a = (stepOf row i).at') (hown : Row w7 40 2 (.slice ao (q + 1) cap) (q + 1) (scells path svs ++ [.int .i64 a, sv]))
    (hgrow : (w6.alloc o).grownBy w7 (Value.slice aor q capr).ownBlock) (hat : (Value.slice ao (q + 1) cap).ownBlock = (Value.slice aor q capr).ownBlock ∨ (Value.slice ao (q + 1) cap).ownBlock = some (w6.heap.size + 1)) :
    PathI w rows i0 (q + 1) (i / 4) (.slice ao (q + 1) cap) (svs ++ [sv]) (path ++ [stepOf row i]) w7 := by
  subst hrow
  subst ha
  have h0 := h.bel.size
  have h1 := HL.below.size
  have hr := h.out.outer.row
  rw [h.len] at hr
  have hloc : Loc w wr 40 2 (.slice aor q capr) q (scells path svs) := ⟨hr, h.bel, h.out.outer.base⟩
  have hl7 := hloc.app (HL.below.alloc h1 o) hown hgrow hat (by omega)
  refine h.next ht hq hl7.below ?_
  refine PathM.push (h.out.below HL.below) h.len.symm ?_ hq2 ⟨?_, fun b hb => Nat.le_trans h0 (HL.base b hb)⟩ o hown hgrow hat (by omega)
  · constructor <;> simp only [stepOf] <;> omega
  · rw [← hr6, ← hx6]
    exact HL.row
set_option maxRecDepth 100000 in
set_option maxHeartbeats 1600000 in
theorem Path_out (b0 gt g : Nat) (rows : List (List ByteArray)) (vr : Value) (vs : List Value) (w : World) (h : TreeM b0 gt g rows vr vs w) (hn : 0 < rows.length) (hn2 : rows.length ≤ 1000000000) (i : Int) (hi : i < 0 ∨ ((rows.getD 0 []).length : Int) ≤ i) :
    Calls Try.prog 17 #[.pointer (some ⟨gt, 0, none⟩), .int .i64 i] w fun e w' => e = .returned (.tuple #[.slice none 0 0, .int .i64 2]) ∧ w' = w := by
  obtain ⟨ob, capr, v0, rfl, hob, hv0, x0, ho0⟩ := h.at_ hn
  obtain ⟨n, hnn⟩ : ∃ n, n = rows.length := ⟨_, rfl⟩
  obtain ⟨m, hm⟩ : ∃ m, m = (rows.getD 0 []).length := ⟨_, rfl⟩
  rw [← hm] at hi ho0
  rw [← hnn] at hn hn2 h
  obtain ⟨a0, c0, rfl, hc0⟩ := ho0.row.form
  have b1 := (blk_cell h.blk 1).trans rfl
  have HT := Lib.hid (tnone_any gt g _ n capr w h.blk hn hn2)
  clear h ho0 hv0 hnn hm
  by_cases hneg : i < 0
  · clear hi
    go_enter Try.func17, Try.ntmps17
    go_wp2_with fail
    refine HT.out.mono ?_
    rintro e W1 ⟨rfl, rfl⟩
    go_wp2_with fail
    go_ret2
    exact ⟨rfl, rfl⟩
  · have h2 : (m : Int) ≤ i := by omega
    clear hi
    go_enter Try.func17, Try.ntmps17
    go_wp2_with fail
    refine HT.out.mono ?_
    rintro e W1 ⟨rfl, rfl⟩
    go_wp2_with fail
    go_ret2
    exact ⟨rfl, rfl⟩
def PathPost (w : World) (rows : List (List ByteArray)) (i : Nat) (e : Ending) (w' : World) : Prop :=
  ∃ v svs, e = .returned (.tuple #[v, .int .i64 0]) ∧ PathM w.heap.size v svs (pathR rows i) w' ∧ Below w.heap.size w w'
set_option maxRecDepth 100000 in
set_option maxHeartbeats 3200000 in
theorem Path_any {k : Option (ByteArray → ByteArray)} (b0 gt g : Nat) (ks l : List ByteArray) (rows : List (List ByteArray)) (vr : Value) (vs : List Value) (w : World) (ht : TreeR k ks l rows) (h : TreeM b0 gt g rows vr vs w) (hl : l.length ≤ 1000) (i0 : Nat) (hi : i0 < l.length) :
    Calls Try.prog 17 #[.pointer (some ⟨gt, 0, none⟩), .int .i64 i0] w (PathPost w rows i0) := by
  have hn := ht.pos
  have hcn := ht.count
  have hl0 := ht.len0
  obtain ⟨ob, capr, v0, rfl, hob, hv0, x0, ho0⟩ := h.at_ hn
  obtain ⟨n, hnn⟩ : ∃ n, n = rows.length := ⟨_, rfl⟩
  obtain ⟨m, hm⟩ : ∃ m, m = (rows.getD 0 []).length := ⟨_, rfl⟩
  have hlt0 : i0 < (rows.getD 0 []).length := by omega
  rw [← hm] at ho0 hl0
  rw [← hnn] at hn hcn h
  obtain ⟨a0, c0, rfl, hc0⟩ := ho0.row.form
  have b1 := (blk_cell h.blk 1).trans rfl
  have HTN := Lib.hid (tnone_any gt g _ n capr w h.blk hn (by omega))
  have HM := Lib.hid h
  have HT := Lib.hid ht
  have HN := Lib.hid hnn
  have z1 : ¬ (i0 : Int) < 0 := by omega
  have z2 : ¬ (m : Int) ≤ (i0 : Int) := by omega
  have z3 : ¬ m ≤ i0 := by omega
  have hn1000 : n ≤ 1001 := by omega
  have HI0 := Lib.hid (show PathI w rows i0 0 i0 (.slice none 0 0) [] [] w from ⟨Below.refl _ _, PathM.nil _ _, rfl, hlt0, by omega, rfl⟩)
  clear h ht ho0 hv0 hnn hm hlt0 hcn hl0 hc0
  go_enter Try.func17, Try.ntmps17
  go_wp2_with fail
  refine HTN.out.mono ?_
  rintro e W1 ⟨rfl, rfl⟩
  go_wp2_with fail
  clear x0 b1
  go_loopg [1, 6, 7] (n - 1) (fun j ti out ty wr => ∃ (q i : Nat) (v : Value) (svs : List Value) (path : List Stp), j + q = n - 1 ∧ ti = .int .i64 (i : Int) ∧ ty = .int .i64 (q : Int) ∧ out = v ∧ PathI W1 rows i0 q i v svs path wr)
  case atStart => exact ⟨0, i0, _, _, _, by omega, rfl, rfl, rfl, HI0.out⟩
  case round =>
    clear HI0
    obtain ⟨q, i, v, svs, path, hk, rfl, rfl, hvv, hI⟩ := hrel
    have hvv := hvv.symm
    subst hvv
    have hTM := HM.out.below hI.bel
    have b1 := (blk_cell hTM.blk 1).trans rfl
    by_cases hlt : q < n - 1
    · obtain ⟨j, rfl⟩ : ∃ j, gk = j + 1 := ⟨gk - 1, by omega⟩
      have hkj : j + (q + 1) = n - 1 := by omega
      have HKJ := Lib.hid hkj
      have hq : q < rows.length := by rw [← HN.out]; omega
      obtain ⟨ob', capr', vq, he, _, _, xq, hoq⟩ := hTM.at_ hq
      simp at he
      obtain ⟨rfl, hnx, rfl⟩ := he
      clear hnx
      obtain ⟨row, hrow⟩ : ∃ r, r = rows.getD q [] := ⟨_, rfl⟩
      rw [← hrow] at hoq
      have hlt2 := hI.lt
      rw [← hrow] at hlt2
      have hrl : row.length ≤ 1000000000 := by have := HT.out.rowlen q; rw [← hrow] at this; omega
      obtain ⟨s1, s2, s3⟩ := stepOf_sides row i hlt2
      have HGR := Lib.hid (group_any vq row (i / 4) wr (Strs.of_row hoq.row) (by omega) hrl)
      obtain ⟨aq, cq, rfl, _⟩ := hoq.row.form
      have hi1000 := hI.i1000
      obtain ⟨L, hL⟩ : ∃ L, L = (groupL row (i / 4)).length := ⟨_, rfl⟩
      rw [← hL] at s1 s2 s3
      obtain ⟨a, ha⟩ : ∃ a, a = i % 4 := ⟨_, rfl⟩
      rw [← ha] at s2
      have HLL := Lib.hid hL
      have HA := Lib.hid ha
      have HI := Lib.hid hI
      have HROW := Lib.hid hrow
      have HS1 := Lib.hid s1
      have HLT2 := Lib.hid hlt2
      have u2 : (0 : Int) ≤ (q : Int) := by omega
      have u3 : (q : Int) < (n : Int) := by omega
      have u4 : (q : Int) + 1 < (n : Int) := by omega
      have hq1000 : q ≤ 1001 := by omega
      have hlr := hI.out.outer.row
      rw [hI.len] at hlr
      obtain ⟨aor, capo, rfl, _⟩ := hlr.form
      have HLR := Lib.hid hlr
      obtain ⟨i1, hi, hz0, hz1, hz2⟩ := info_parts infoStr
      have HII := Lib.hid hi
      have HZ0 := Lib.hid hz0
      have HZ1 := Lib.hid hz1
      have HZ2 := Lib.hid hz2
      obtain ⟨i2, hi, hz0, hz1, hz2⟩ := info_parts infoStep
      have HII2 := Lib.hid hi
      have HY0 := Lib.hid hz0
      have HY1 := Lib.hid hz1
      have HY2 := Lib.hid hz2
      clear hI hTM hk hlt hkj hq hoq hrow hlt2 hrl s1 hL ha hlr hi hz0 hz1 hz2
      go_wp2_with fail
      rw [show (i : Int) / 4 = ((i / 4 : Nat) : Int) by omega]
      refine HGR.out.mono ?_
      rintro e W2 ⟨vg, rfl, hsg, hweq⟩
      have hweq := hweq.symm
      subst hweq
      obtain ⟨aos, caps, rfl, hcs, hms⟩ := hsg.form
      obtain ⟨gs, os, rfl, hgs, _⟩ := hsg.get (i := 0) (by rw [← HLL.out]; omega)
      rw [← HLL.out] at hsg hcs ⊢
      have HFA := Lib.hid (((hsg.below ((Below.refl _ wr).alloc (Nat.le_refl _) (.cells four0 9 (0, 0)))).front (b := a) (by rw [← HLL.out]; omega)).feeds)
      have htk : ((groupL row (i / 4)).take a).length = a := by rw [List.length_take, ← HLL.out]; omega
      have hfa := HFA.out
      rw [htk] at hfa
      have HFA2 := Lib.hid hfa
      have HL0 := Lib.hid (Loc.four (Below.refl _ wr))
      have HSG := Lib.hid hsg
      have hm4 : (i : Int) % 4 = (a : Int) := by have := HA.out; omega
      have HM4 := Lib.hid hm4
      have u5 : (0 : Int) ≤ (a : Int) := by omega
      have u6 : (a : Int) ≤ (caps : Int) := by omega
      have u7 : (a : Int) + 1 ≤ (L : Int) := by omega
      have u8 : (0 : Int) ≤ (a : Int) + 1 := by omega
      clear hsg hfa htk HFA hms
      by_cases hac : a + 1 = caps
      · have hLa : L = a + 1 := by omega
        subst hac
        subst hLa
        go_wp2_with (first | (refine wpList_make4 (by rfl) _ _ (by rfl) (by rfl) (by rfl) ?_) | (refine wpList_append_row _ (by rfl) _ _ _ _ (by rfl) 9 i1 (.string ⟨#[]⟩) 1 16 Try.underlying22 HII.out HZ0.out HZ1.out HZ2.out rfl (by omega) _ 0 _ (by rfl) HL0.out.row _ (by rfl) a _ HFA2.out (by unfold maxLen; omega) (by omega) (wr.heap.size + 1) (by simp) ?_; intro ao5 cap5 w5 hown5 hgrow5 hat5; have HL5 := Lib.hid (loc_zero (Loc.app HL0.out (Below.refl _ _) hown5 hgrow5 hat5 (by simp))); have hfc := ((HSG.out.below (HL5.out.below)).back (a := a + 1) (by rw [← HLL.out]; omega)).feeds; have hdl : ((groupL row (i / 4)).drop (a + 1)).length = (a + 1) - (a + 1) := (by rw [List.length_drop, ← HLL.out]); rw [hdl] at hfc; have HFC := Lib.hid hfc; clear hown5 hgrow5 hat5 hfc hdl) | (refine wpList_append_row _ (by rfl) _ _ _ _ (by rfl) 9 i1 (.string ⟨#[]⟩) 1 16 Try.underlying22 HII.out HZ0.out HZ1.out HZ2.out rfl (by omega) _ a _ (by rfl) HL5.out.row _ (by rfl) 0 (strs []) (nil_feeds _ _ _ _ (by omega) (by omega)) (by unfold maxLen; omega) (by omega) w5.heap.size rfl ?_; intro ao6 cap6 w6 hown6 hgrow6 hat6; have HL6 := Lib.hid (loc_plus (Loc.app HL5.out (Below.refl _ _) hown6 hgrow6 hat6 (Nat.le_refl _))); have HR6 := Lib.hid ((HLR.out.kept (Keeps.of_below (S := fun _ => False) HL6.out.below) (fun _ _ h => h)).alloc (.cells #[.int .i64 a, .slice ao6 a cap6] 40 (0, 0))); clear hown6 hgrow6 hat6) | (refine wpList_append_row _ (by rfl) _ _ _ _ (by rfl) 40 i2 (.agg #[.int .i64 0, .slice none 0 0]) 2 32 Try.underlying31 HII2.out HY0.out HY1.out HY2.out rfl (by omega) _ q _ (by rfl) HR6.out _ (by rfl) 1 [.int .i64 a, .slice ao6 a cap6] (Feeds.slice Try.underlying31 ⟨w6.heap.size, 0, none⟩ 1 1 _ (by rfl) (by simp [Value.oneCell']) (World.news_of_block (cs := #[.int .i64 a, .slice ao6 a cap6]) (t := 40) (fr := (0, 0)) (get_top rfl))) (by unfold maxLen; omega) (by omega) (w6.heap.size + 1) (by simp) ?_; intro ao7 cap7 w7 hown7 hgrow7 hat7; have HO7 := Lib.hid hown7; have HG7 := Lib.hid hgrow7; have HT7 := Lib.hid hat7; clear hown7 hgrow7 hat7))
        go_roundg j
        case measure => omega
        case rel => exact ⟨q + 1, i / 4, _, svs ++ [.slice ao6 a cap6], path ++ [stepOf row i], HKJ.out, congrArg (Value.int .i64) (by omega), by go_num, rfl, HI.out.push HT.out (by rw [← HN.out]; omega) (by omega) HROW.out HL6.out (by have := HS1.out; omega) (by rw [show (stepOf row i).sides = (groupL row (i / 4)).take (i % 4) ++ (groupL row (i / 4)).drop (i % 4 + 1) from rfl, ← HA.out, strs_app]; rw [List.drop_of_length_le (by rw [← HLL.out]; exact Nat.le_refl _)]) _ (show (a : Int) = ((i % 4 : Nat) : Int) by rw [← HA.out]) HO7.out HG7.out HT7.out⟩
      · have hac2 : ¬ caps = a + 1 := fun h => hac h.symm
        go_wp2_with (first | (refine wpList_make4 (by rfl) _ _ (by rfl) (by rfl) (by rfl) ?_) | (refine wpList_append_row _ (by rfl) _ _ _ _ (by rfl) 9 i1 (.string ⟨#[]⟩) 1 16 Try.underlying22 HII.out HZ0.out HZ1.out HZ2.out rfl (by omega) _ 0 _ (by rfl) HL0.out.row _ (by rfl) a _ HFA2.out (by unfold maxLen; omega) (by omega) (wr.heap.size + 1) (by simp) ?_; intro ao5 cap5 w5 hown5 hgrow5 hat5; have HL5 := Lib.hid (loc_zero (Loc.app HL0.out (Below.refl _ _) hown5 hgrow5 hat5 (by simp))); have hfc := ((HSG.out.below (HL5.out.below)).back (a := a + 1) (by rw [← HLL.out]; omega)).feeds; have hdl : ((groupL row (i / 4)).drop (a + 1)).length = L - (a + 1) := (by rw [List.length_drop, ← HLL.out]); rw [hdl] at hfc; have HFC := Lib.hid hfc; clear hown5 hgrow5 hat5 hfc hdl) | (refine wpList_append_row _ (by rfl) _ _ _ _ (by rfl) 9 i1 (.string ⟨#[]⟩) 1 16 Try.underlying22 HII.out HZ0.out HZ1.out HZ2.out rfl (by omega) _ a _ (by rfl) HL5.out.row _ (by rfl) (L - (a + 1)) _ HFC.out (by unfold maxLen; omega) (by omega) w5.heap.size rfl ?_; intro ao6 cap6 w6 hown6 hgrow6 hat6; have HL6 := Lib.hid (Loc.app HL5.out (Below.refl _ _) hown6 hgrow6 hat6 (Nat.le_refl _)); have HR6 := Lib.hid ((HLR.out.kept (Keeps.of_below (S := fun _ => False) HL6.out.below) (fun _ _ h => h)).alloc (.cells #[.int .i64 a, .slice ao6 (a + (L - (a + 1))) cap6] 40 (0, 0))); clear hown6 hgrow6 hat6) | (refine wpList_append_row _ (by rfl) _ _ _ _ (by rfl) 40 i2 (.agg #[.int .i64 0, .slice none 0 0]) 2 32 Try.underlying31 HII2.out HY0.out HY1.out HY2.out rfl (by omega) _ q _ (by rfl) HR6.out _ (by rfl) 1 [.int .i64 a, .slice ao6 (a + (L - (a + 1))) cap6] (Feeds.slice Try.underlying31 ⟨w6.heap.size, 0, none⟩ 1 1 _ (by rfl) (by simp [Value.oneCell']) (World.news_of_block (cs := #[.int .i64 a, .slice ao6 (a + (L - (a + 1))) cap6]) (t := 40) (fr := (0, 0)) (get_top rfl))) (by unfold maxLen; omega) (by omega) (w6.heap.size + 1) (by simp) ?_; intro ao7 cap7 w7 hown7 hgrow7 hat7; have HO7 := Lib.hid hown7; have HG7 := Lib.hid hgrow7; have HT7 := Lib.hid hat7; clear hown7 hgrow7 hat7))
        go_roundg j
        case measure => omega
        case rel => exact ⟨q + 1, i / 4, _, svs ++ [.slice ao6 (a + (L - (a + 1))) cap6], path ++ [stepOf row i], HKJ.out, congrArg (Value.int .i64) (by omega), by go_num, rfl, HI.out.push HT.out (by rw [← HN.out]; omega) (by omega) HROW.out HL6.out (by have := HS1.out; omega) (by rw [show (stepOf row i).sides = (groupL row (i / 4)).take (i % 4) ++ (groupL row (i / 4)).drop (i % 4 + 1) from rfl, ← HA.out, strs_app]) _ (show (a : Int) = ((i % 4 : Nat) : Int) by rw [← HA.out]) HO7.out HG7.out HT7.out⟩
    · obtain rfl : gk = 0 := by omega
      have hqn : q = n - 1 := by omega
      have u3 : ¬ (q : Int) + 1 < (n : Int) := by omega
      have u4 : (q : Int) ≤ 2000 := by omega
      have hend := hI.ext
      rw [pathR_last (by rw [← HN.out]; omega), List.append_nil] at hend
      have hp := hI.out
      rw [hend] at hp
      have HP := Lib.hid hp
      have HB := Lib.hid hI.bel
      clear hI hp hend hTM hk hlt hqn
      go_wp2_with fail
      go_ret2
      exact ⟨_, svs, rfl, HP.out, HB.out⟩
end Go.Proofs.Ytjoilobbopdcpaa.B
