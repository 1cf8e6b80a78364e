/-
  The document's Path, walked.
-/
import Derived.Test.YtjoilobbopdcpaaRTreeC
import Derived.Test.YtjoilobbopdcpaaTreePa
namespace Go.Proofs.Ytjoilobbopdcpaa.B
open Go.RowKit
set_option linter.unusedVariables false
set_option linter.unusedSimpArgs false

/-- A list's beginning, without the place a. -/
def skipL (l : List ByteArray) (a q : Nat) : List ByteArray := if q ≤ a then l.take q else l.take a ++ (l.take q).drop (a + 1)
theorem skipL_zero (l : List ByteArray) (a : Nat) : skipL l a 0 = [] := by simp [skipL]
theorem skipL_ne {l : List ByteArray} {a q : Nat} (h : q < l.length) (hne : q ≠ a) : skipL l a (q + 1) = skipL l a q ++ [l[q]] := by
  have ht : l.take (q + 1) = l.take q ++ [l[q]] := by rw [List.take_add_one, List.getElem?_eq_getElem h]; rfl
  unfold skipL
  by_cases h1 : q < a
  · rw [if_pos (by omega), if_pos (by omega), ht]
  · rw [if_neg (by omega), if_neg (by omega), ht, List.drop_append_of_le_length (by rw [List.length_take]; omega), List.append_assoc]
theorem skipL_eq {l : List ByteArray} {a : Nat} : skipL l a (a + 1) = skipL l a a := by
  unfold skipL
  rw [if_neg (by omega), if_pos (Nat.le_refl _), List.drop_of_length_le (by rw [List.length_take]; omega), List.append_nil]
theorem skipL_end {l : List ByteArray} {a q : Nat} (hq : q = l.length) (ha : a < l.length) : skipL l a q = l.take a ++ l.drop (a + 1) := by
  subst hq
  rw [skipL, if_neg (by omega), List.take_of_length_le (Nat.le_refl _)]
theorem skipL_len (l : List ByteArray) (a q : Nat) : (skipL l a q).length ≤ q := by
  unfold skipL
  split
  · rw [List.length_take]; omega
  · rw [List.length_append, List.length_drop, List.length_take, List.length_take]; omega
def RPathIn (w : World) (l : List ByteArray) (i0 : Nat) (e : Ending) (w' : World) : Prop :=
  ∃ v svs rows, e = .returned (.tuple #[v, .int .i64 0]) ∧ TreeR (some shaF) [] l rows ∧ PathM w.heap.size v svs (pathR rows i0) w' ∧ Below w.heap.size w w'
def RPathPost (w : World) (l : List ByteArray) (i : Int) (e : Ending) (w' : World) : Prop :=
  ∃ v svs path, e = .returned (.tuple #[v, .int .i64 (pErr l.length i)]) ∧ PathM w.heap.size v svs path w' ∧ (∀ rows, TreeR (some shaF) [] l rows → path = pAll rows l.length i) ∧ Below w.heap.size w w'
theorem PathM.deep {b0 b1 : Nat} {v : Value} {svs : List Value} {path : List Stp} {W : World} (h : PathM b1 v svs path W) (hb : b0 ≤ b1) : PathM b0 v svs path W :=
  ⟨⟨h.outer.row, fun g hg => Nat.le_trans hb (h.outer.base g hg)⟩, h.len, fun i sv x h1 h2 => ⟨(h.inner i sv x h1 h2).1, ⟨(h.inner i sv x h1 h2).2.row, fun g hg => Nat.le_trans hb ((h.inner i sv x h1 h2).2.base g hg)⟩⟩, h.small⟩
set_option maxRecDepth 100000 in
set_option maxHeartbeats 3200000 in
theorem refPath_out (g : Nat) (ao : Option Addr) (n cap : Nat) (hn : n ≤ 1000000) (i : Int) (h : i < 0 ∨ (n : Int) ≤ i) (w : World) :
    Calls Try.prog 24 #[.pointer (some ⟨g, 0, none⟩), .slice ao n cap, .int .i64 i] w fun e w' => e = .returned (.tuple #[.slice none 0 0, .int .i64 2]) ∧ Below w.heap.size w w' := by
  by_cases h0 : i < 0
  · clear h
    go_enter Try.func24, Try.ntmps24
    go_wp2
    go_ret2
    exact ⟨rfl, Below.refl _ _⟩
  · have h1 : (n : Int) ≤ i := by omega
    clear h
    go_enter Try.func24, Try.ntmps24
    go_wp2
    go_ret2
    exact ⟨rfl, Below.refl _ _⟩
set_option maxRecDepth 100000 in
set_option maxHeartbeats 3200000 in
theorem refPath_in (g : Nat) (v : Value) (l : List ByteArray) (i0 : Nat) (w : World) (h : RefV w g) (hv : Strs w v l) (hl : l.length ≤ 1000) (hs : ∀ s ∈ l, s.size ≤ 500) (hi : i0 < l.length) :
    Calls Try.prog 24 #[.pointer (some ⟨g, 0, none⟩), v, .int .i64 i0] w (RPathIn w l i0) := by
  have HRW := Lib.hid (Rows_any g v l w h hv hl hs)
  obtain ⟨ao, cap, rfl, hcap, hmax⟩ := hv.form
  have HNL := Lib.hid (show ∃ n, n = l.length from ⟨_, rfl⟩)
  have z1 : ¬ (i0 : Int) < 0 := by omega
  have z2 : ¬ (l.length : Int) ≤ (i0 : Int) := by omega
  have z3 : ¬ l.length ≤ i0 := by omega
  have hi0 : i0 < 1000 := by omega
  have HI := Lib.hid hi
  have HLM := Lib.hid hl
  clear h hv hs hmax hcap hi
  go_enter Try.func24, Try.ntmps24
  go_wp2_with fail
  refine HRW.out.mono ?_
  rintro e W1 ⟨rows, vr, vs, rfl, hT, hM, hb⟩
  have hpos := hT.pos
  have hcount := hT.count
  have hl0 := hT.len0
  obtain ⟨ob, capr, v, rfl, hob, hcr, hv0, c2, hrow⟩ := hM.at_ (i := 0) (by omega)
  obtain ⟨n, hnn⟩ : ∃ n, n = rows.length := ⟨_, rfl⟩
  have HI0 := Lib.hid (show PathI W1 rows i0 0 i0 (.slice none 0 0) [] [] W1 from ⟨Below.refl _ _, PathM.nil _ _, rfl, by have := HI.out; omega, hi0, rfl⟩)
  rw [← hnn] at hpos hcount hM hcr ⊢
  have hn1000 : n ≤ 1001 := by have := HLM.out; omega
  have HM := Lib.hid hM
  have HT := Lib.hid hT
  have HB := Lib.hid hb
  have HN := Lib.hid hnn
  clear hM hT hb hnn HRW hcount hl0 hv0 c2 hrow z1 z2 z3 hl
  go_wp2_with fail
  go_loopg [2, 9, 10] (n - 1) (fun j ti out ty wr => ∃ (q i : Nat) (v : Value) (svs : List Value) (path : List Stp), j + q = n - 1 ∧ ti = .int .i64 (i : Int) ∧ ty = .int .i64 (q : Int) ∧ out = v ∧ PathI W1 rows i0 q i v svs path wr)
  case atStart => exact ⟨0, i0, _, _, _, by omega, rfl, rfl, rfl, HI0.out⟩
  case round =>
    clear HI0
    obtain ⟨q, i, v, svs, path, hk, rfl, rfl, hvv, hI⟩ := hrel
    have hvv := hvv.symm
    subst hvv
    have hTM := HM.out.below hI.bel
    by_cases hlt : q < n - 1
    · obtain ⟨j, rfl⟩ : ∃ j, gk = j + 1 := ⟨gk - 1, by omega⟩
      have hkj : j + (q + 1) = n - 1 := by omega
      have HKJ := Lib.hid hkj
      have hq : q < rows.length := by rw [← HN.out]; omega
      obtain ⟨ob', capr', vq, he, _, _, _, xq, hoq⟩ := hTM.at_ hq
      simp at he
      obtain ⟨rfl, hnx, rfl⟩ := he
      clear hnx
      obtain ⟨row, hrow⟩ : ∃ r, r = rows.getD q [] := ⟨_, rfl⟩
      rw [← hrow] at hoq
      have hlt2 := hI.lt
      rw [← hrow] at hlt2
      have hrl : row.length ≤ 1000000000 := by have := HT.out.rowlen q; rw [← hrow] at this; have := HLM.out; omega
      obtain ⟨s1, s2, s3⟩ := stepOf_sides row i hlt2
      have HGR := Lib.hid (rgroup_any vq row i wr (Strs.of_row hoq.row) hlt2 hrl)
      obtain ⟨aq, cq, rfl, _⟩ := hoq.row.form
      have hi1000 := hI.i1000
      obtain ⟨L, hL⟩ : ∃ L, L = (groupL row (i / 4)).length := ⟨_, rfl⟩
      rw [← hL] at s1 s2 s3
      obtain ⟨a, ha⟩ : ∃ a, a = i % 4 := ⟨_, rfl⟩
      rw [← ha] at s2
      have HLL := Lib.hid hL
      have HA := Lib.hid ha
      have hm4 : (i : Int) % 4 = (a : Int) := by omega
      have HM4 := Lib.hid hm4
      have HIA := Lib.hid hI
      have HROW := Lib.hid hrow
      have HS1 := Lib.hid s1
      have HLT2 := Lib.hid hlt2
      have u2 : (0 : Int) ≤ (q : Int) := by omega
      have u3 : (q : Int) < (n : Int) := by omega
      have u4 : (q : Int) + 1 < (n : Int) := by omega
      have hq1000 : q ≤ 1001 := by omega
      have hlr := hI.out.outer.row
      rw [hI.len] at hlr
      obtain ⟨aor, capo, rfl, _⟩ := hlr.form
      have HLR := Lib.hid hlr
      clear hI hTM hk hlt hkj hq hoq hrow hlt2 hrl s1 hL ha hlr
      go_wp2_with fail
      refine HGR.out.mono ?_
      rintro e W2 ⟨vg, rfl, hsg, hweq⟩
      have hweq := hweq.symm
      subst hweq
      obtain ⟨aos, caps, rfl, hcs, hms⟩ := hsg.form
      obtain ⟨gs, os, rfl, hgs, _⟩ := hsg.get (i := 0) (by rw [← HLL.out]; omega)
      rw [← HLL.out] at hsg hcs ⊢
      have HSG := Lib.hid hsg
      have HJ0 := Lib.hid (show Loc wr wr 9 1 (.slice none 0 0) 0 (strs (skipL (groupL row (i / 4)) a 0)) from by rw [skipL_zero]; exact Loc.nil (Below.refl _ _) _ _)
      clear hsg hms HGR xq
      go_wp2_with fail
      obtain ⟨W6, rfl⟩ : ∃ W6, W6 = wr := ⟨_, rfl⟩
      go_loopg [12, 13] L (fun j s jj wr => ∃ (p r : Nat) (vs : Value), j + p = L ∧ r ≤ p ∧ jj = .int .i64 (p : Int) ∧ s = vs ∧ r = (skipL (groupL row (i / 4)) a p).length ∧ Loc W6 wr 9 1 vs r (strs (skipL (groupL row (i / 4)) a p)))
      case atStart => exact ⟨0, 0, _, by omega, Nat.le_refl _, rfl, rfl, by rw [skipL_zero]; rfl, HJ0.out⟩
      case round =>
        clear HJ0
        obtain ⟨p, r, vs, hk, hrp, rfl, hvs, hr, hS⟩ := hrel
        have hvs := hvs.symm
        subst hvs
        by_cases hlt : p < L
        · obtain ⟨j2, rfl⟩ : ∃ j, gk = j + 1 := ⟨gk - 1, by omega⟩
          have hkj : j2 + (p + 1) = L := by omega
          have hlen : p < (groupL row (i / 4)).length := by rw [← HLL.out]; exact hlt
          obtain ⟨gs', os', he, hg, x0⟩ := (HSG.out.below hS.below).get (i := p) hlen
          simp at he
          obtain ⟨rfl, rfl⟩ := he
          have HKJ2 := Lib.hid hkj
          have u6 : (0 : Int) ≤ (p : Int) := by omega
          have u7 : (p : Int) < (L : Int) := by omega
          have hp4 : p ≤ 4 := by omega
          have hr4 : r ≤ 4 := by omega
          obtain ⟨ao2, cap2, rfl, hc2⟩ := hS.row.form
          by_cases hpa : p = a
          · subst hpa
            have hsk := skipL_eq (l := groupL row (i / 4)) (a := p)
            have hbp : ((p : Int) != (p : Int)) = false := by simp
            rw [← hsk] at hr hS
            have HS := Lib.hid hS
            have HR := Lib.hid hr
            have HRP := Lib.hid hrp
            clear hS hr hk hlt hkj hsk hrp x0
            clear hlen
            go_wp2_with fail
            go_roundg j2
            case measure => omega
            case rel => exact ⟨p + 1, r, _, HKJ2.out, by have := HRP.out; omega, by go_num, rfl, HR.out, HS.out⟩
          · have hsk := skipL_ne hlen hpa
            obtain ⟨f, hf⟩ : ∃ f, f = (groupL row (i / 4))[p] := ⟨_, rfl⟩
            rw [← hf] at x0 hsk
            have hbp : ((p : Int) != (a : Int)) = true := by simp; omega
            have hne : ¬ p = a := hpa
            have HSK := Lib.hid hsk
            have HS := Lib.hid hS
            have HR := Lib.hid hr
            have HRP := Lib.hid hrp
            obtain ⟨i0', hi, hz0, hz1, hz2⟩ := info_parts infoStr
            have HII := Lib.hid hi
            have HZ0 := Lib.hid hz0
            have HZ1 := Lib.hid hz1
            have HZ2 := Lib.hid hz2
            clear hS hr hk hlt hkj hsk hrp hf hi hz0 hz1 hz2 hpa hlen
            go_wp2_with (refine wpList_append_row _ (by rfl) _ _ _ _ (by rfl) 9 i0' (.string ⟨#[]⟩) 1 16 Try.underlying22 HII.out HZ0.out HZ1.out HZ2.out rfl (by omega) _ r _ (by rfl) (HS.out.row.alloc _) _ (by rfl) 1 [.string f] (Feeds.slice Try.underlying22 ⟨wr.heap.size, 0, none⟩ 1 1 _ (by rfl) (by simp [Value.oneCell']) (World.news_of_block (cs := #[.string f]) (t := 9) (fr := (0, 0)) (get_top rfl))) (by unfold maxLen; omega) (by omega) (wr.heap.size + 1) (by simp) ?_; intro ao5 cap5 w5 hown5 hgrow5 hat5; have HL5 := Lib.hid (Loc.app HS.out ((Below.refl _ wr).alloc (Nat.le_refl _) _) hown5 hgrow5 hat5 (by omega)); clear hown5 hgrow5 hat5)
            go_roundg j2
            case measure => omega
            case rel => exact ⟨p + 1, r + 1, _, HKJ2.out, by have := HRP.out; omega, by go_num, rfl, by rw [HSK.out, List.length_append, ← HR.out]; rfl, by rw [HSK.out, strs_app]; exact HL5.out⟩
        · obtain rfl : gk = 0 := by omega
          obtain rfl : p = L := by omega
          have hend := skipL_end HLL.out (a := a) (by rw [← HLL.out]; omega)
          have hst : (stepOf row i).sides = skipL (groupL row (i / 4)) a p := by rw [hend, HA.out]; rfl
          have HST := Lib.hid hst
          obtain ⟨ao6, cap6, rfl, hc2⟩ := hS.row.form
          have HR6 := Lib.hid (HLR.out.kept (Keeps.of_below (S := fun _ => False) hS.below) (fun _ _ h => h))
          have HS := Lib.hid hS
          have HR := Lib.hid hr
          have hr4 : r ≤ 4 := by omega
          obtain ⟨i2, hi, hz0, hz1, hz2⟩ := info_parts infoStep
          have HII2 := Lib.hid hi
          have HY0 := Lib.hid hz0
          have HY1 := Lib.hid hz1
          have HY2 := Lib.hid hz2
          have hiq : (i : Int) / 4 = ((i / 4 : Nat) : Int) := by omega
          have HIQ := Lib.hid hiq
          clear hS hr hk hlt hend hst hi hz0 hz1 hz2 hiq hrp
          go_wp2_with (refine wpList_append_row _ (by rfl) _ _ _ _ (by rfl) 40 i2 (.agg #[.int .i64 0, .slice none 0 0]) 2 32 Try.underlying31 HII2.out HY0.out HY1.out HY2.out rfl (by omega) _ q _ (by rfl) (HR6.out.alloc _) _ (by rfl) 1 [.int .i64 a, .slice ao6 r cap6] (Feeds.slice Try.underlying31 ⟨wr.heap.size, 0, none⟩ 1 1 _ (by rfl) (by simp [Value.oneCell']) (World.news_of_block (cs := #[.int .i64 a, .slice ao6 r cap6]) (t := 40) (fr := (0, 0)) (get_top rfl))) (by unfold maxLen; omega) (by omega) (wr.heap.size + 1) (by simp) ?_; intro ao7 cap7 w7 hown7 hgrow7 hat7; have HO7 := Lib.hid hown7; have HG7 := Lib.hid hgrow7; have HT7 := Lib.hid hat7; clear hown7 hgrow7 hat7)
          go_roundg j
          case measure => omega
          case rel => exact ⟨q + 1, i / 4, _, svs ++ [.slice ao6 r cap6], path ++ [stepOf row i], HKJ.out, congrArg (Value.int .i64) (by omega), by go_num, rfl, HIA.out.push HT.out (by rw [← HN.out]; omega) (by omega) HROW.out HS.out (by rw [HST.out]; exact HR.out) (by rw [HST.out]) _ (show (a : Int) = ((i % 4 : Nat) : Int) by rw [← HA.out]) HO7.out HG7.out HT7.out⟩
    · obtain rfl : gk = 0 := by omega
      have hqn : q = n - 1 := by omega
      have u3 : ¬ (q : Int) + 1 < (n : Int) := by omega
      have u4 : (q : Int) ≤ 2000 := by omega
      have hend := hI.ext
      rw [pathR_last (by rw [← HN.out]; omega), List.append_nil] at hend
      have hp := hI.out
      rw [hend] at hp
      have HP := Lib.hid (hp.deep HB.out.size)
      have HBE := Lib.hid (HB.out.trans (hI.bel.mono HB.out.size))
      clear hI hp hend hTM hk hlt hqn
      go_wp2_with fail
      go_ret2
      exact ⟨_, svs, rows, rfl, HT.out, HP.out, HBE.out⟩
theorem refPath_any (g : Nat) (v : Value) (l : List ByteArray) (i : Int) (hi : in64 i) (w : World) (h : RefV w g) (hv : Strs w v l) (hl : l.length ≤ 1000) (hs : ∀ s ∈ l, s.size ≤ 500) :
    Calls Try.prog 24 #[.pointer (some ⟨g, 0, none⟩), v, .int .i64 i] w (RPathPost w l i) := by
  by_cases ho : i < 0 ∨ (l.length : Int) ≤ i
  · obtain ⟨ao, cap, rfl, hcap, hmax⟩ := hv.form
    refine (refPath_out g ao l.length cap (by omega) i ho w).mono ?_
    rintro e W ⟨rfl, hb⟩
    exact ⟨_, [], [], by rw [pErr, if_pos ho], PathM.nil _ _, fun rows _ => by rw [pAll, if_pos ho], hb⟩
  · obtain ⟨m, rfl⟩ : ∃ m : Nat, i = (m : Int) := ⟨i.toNat, by omega⟩
    refine (refPath_in g v l m w h hv hl hs (by omega)).mono ?_
    rintro e W ⟨v, svs, rows, rfl, hT, hp, hb⟩
    exact ⟨v, svs, _, by rw [pErr, if_neg ho], hp, fun rows' hT' => by rw [pAll, if_neg ho, hT'.fn hT]; rfl, hb⟩
end Go.Proofs.Ytjoilobbopdcpaa.B
