/-
  The document's Right, walked.
-/
import Derived.Test.YtdamlbkibhmepaaRight
namespace Go.Proofs.Ytdamlbkibhmepaa.B
open Go.RowKit
set_option linter.unusedVariables false
set_option linter.unusedSimpArgs false

theorem idx_first (p : Ent → Bool) : ∀ (l : List Ent) (k : Nat) (i : Int) (hk : k < l.length), p l[k] = true → (idx p l i = i + k ↔ ((l.take k).filter p).length = 0)
  | [], k, i, hk, _ => by simp at hk
  | x :: r, 0, i, hk, h => by
    have : p x = true := h
    simp [idx, this]
  | x :: r, k + 1, i, hk, h => by
    have ih := idx_first p r k (i + 1) (by simpa using hk) (by simpa using h)
    have hr := idx_range p r (i + 1)
    rw [idx, List.take_succ_cons, List.filter_cons]
    by_cases hx : p x = true
    · rw [if_pos hx, if_pos hx]
      simp only [List.length_cons]
      omega
    · rw [if_neg hx, if_neg hx, ← ih]
      omega
theorem find_first (l : List Ent) (k : Nat) (hk : k < l.length) (h0 : free l[k] = false) : findL l[k].nm l = k ↔ cnt l k l[k].nm = 0 := by
  have hz : ¬ l[k].nm.size = 0 := by
    intro h
    rw [free, h] at h0
    simp at h0
  rw [findL, if_neg hz]
  have := idx_first (isN l[k].nm) l k 0 hk (by simp [isN])
  rw [Int.zero_add] at this
  rw [this, cnt]
  have hf : (l.take k).filter (fun x => !free x && decide (x.nm = l[k].nm)) = (l.take k).filter (isN l[k].nm) := by
    apply List.filter_congr
    intro x _
    by_cases hx : x.nm = l[k].nm
    · have : free x = false := by rw [free, hx]; simpa [free] using h0
      simp [isN, hx, this]
    · simp [isN, hx]
  rw [hf]
structure RRightI (w : World) (v : Value) (l : List Ent) (k : Nat) (out : Value) (W : World) : Prop where
  row : EntRow w v l
  out : Loc w W 4 1 out k (bools (rights l k))
theorem RRightI.fin {w W W1 W2 : World} {v out : Value} {l : List Ent} {k cap H : Nat} {ao : Option Addr} {bb : Bool} (row : EntRow w v l) (hout : Loc w W 4 1 out k (bools (rights l k))) (hb : Below W.heap.size W W1)
    (hbb : rightOne l k = bb) (hown : Row W2 4 1 (.slice ao (k + 1) cap) (k + 1) (bools (rights l k) ++ [.bool bb])) (hgrow : W1.grownBy W2 out.ownBlock)
    (hat : (Value.slice ao (k + 1) cap).ownBlock = out.ownBlock ∨ (Value.slice ao (k + 1) cap).ownBlock = some H) (hH : W.heap.size ≤ H) : RRightI w v l (k + 1) (.slice ao (k + 1) cap) W2 := by
  refine ⟨row, ?_⟩
  rw [rights_succ, bools_append, hbb]
  exact Loc.app hout hb hown hgrow hat hH
set_option maxRecDepth 100000 in
set_option maxHeartbeats 1600000 in
theorem refRight_any (v : Value) (l : List Ent) (w : World) (h : EntRow w v l) (hsz : l.length ≤ 1000000) :
    Calls Try.prog 24 #[v] w fun e w' => ∃ v', e = .returned v' ∧ Loc w w' 4 1 v' l.length (bools (rights l l.length)) := by
  obtain ⟨ao, cap, rfl, hcap, hmax⟩ := h.form
  have hu := Try.underlying37
  obtain ⟨n, hnl⟩ : ∃ n, n = l.length := ⟨_, rfl⟩
  rw [← hnl] at hcap hsz h
  rw [← hnl]
  have HI0 := Lib.hid (show RRightI w (.slice ao n cap) l 0 (.slice none 0 0) w from ⟨h, Loc.nil (Below.refl _ _) _ _⟩)
  have HN := Lib.hid hnl
  clear hnl h hmax
  go_enter Try.func24, Try.ntmps24
  go_wp2_with fail
  go_loopg [3, 4] n (fun j o i wr => ∃ (k : Nat) (v : Value), j + k = n ∧ i = .int .i64 (k : Int) ∧ o = v ∧ RRightI w (.slice ao n cap) l k v wr)
  case atStart => exact ⟨0, _, by omega, rfl, rfl, HI0.out⟩
  case round =>
    clear HI0
    obtain ⟨k, v, hk, rfl, rfl, hI⟩ := hrel
    by_cases hlt : k < n
    · obtain ⟨j, rfl⟩ : ∃ j, gk = j + 1 := ⟨gk - 1, by omega⟩
      have hlen : k < l.length := by rw [← HN.out]; exact hlt
      have hrow := hI.row.below hI.out.below
      obtain ⟨g, oo, rfl, hg, hwf, hc⟩ := hrow.get (i := k) hlen
      have e1 := hc k hlen
      have hgd : l.getD k .zero = l[k] := by simp [List.getD, hlen]
      have hone : rightOne l k = if free (l[k]) = true then decide (l[k].a = 0) && decide (l[k].b = 0) else decide (nameSpec l[k].nm = 0) && decide (cnt l k l[k].nm = 0) := by unfold rightOne; rw [hgd]
      rw [hgd] at e1 hwf
      have hfirst := fun h => find_first l k hlen h
      obtain ⟨f, hf⟩ : ∃ f, f = l[k] := ⟨_, rfl⟩
      rw [← hf] at e1 hwf hone hfirst
      have x0 : wr.cell? ⟨g, oo + k * 3, none⟩ = some (.string f.nm) := e1 0 _ rfl
      have x1 : wr.cell? ⟨g, oo + k * 3 + 1, none⟩ = some (.int .i64 f.a) := e1 1 _ rfl
      have x2 : wr.cell? ⟨g, oo + k * 3 + 2, none⟩ = some (.int .i64 f.b) := e1 2 _ rfl
      have u2 : (0 : Int) ≤ (k : Int) := by omega
      have u3 : (k : Int) < (n : Int) := by omega
      have hkj : j + (k + 1) = n := by omega
      have HKJ := Lib.hid hkj
      have hbe := str_empty f.nm
      have hnm : f.nm.size ≤ maxLen := hwf.1
      obtain ⟨bz, hbz⟩ : ∃ b, b = decide (f.nm.size = 0) := ⟨_, rfl⟩
      rw [← hbz] at hbe
      have hfree : free f = bz := hbz.symm
      rw [hfree] at hone hfirst
      obtain ⟨ao2, cap2, rfl, hc2⟩ := hI.out.row.form
      have HFC := Lib.hid hI
      have HONE := Lib.hid hone
      have HFIRST := Lib.hid hfirst
      have HNM := Lib.hid hnm
      have HROWL := Lib.hid hrow
      obtain ⟨i0, hi, hz0, hz1, hz2⟩ := info_parts infoBool
      have HII := Lib.hid hi
      have HZ0 := Lib.hid hz0
      have HZ1 := Lib.hid hz1
      have HZ2 := Lib.hid hz2
      have hkn : k ≤ 1000000 := by omega
      clear hI e1 hc hf hk hkj hlt hgd hbz hwf hone hfirst hfree hi hz0 hz1 hz2 hnm hrow
      have hal : Below wr.heap.size wr (wr.alloc (.cells #[.string f.nm, .int .i64 f.a, .int .i64 f.b] 37 (0, 0))) := (Below.refl _ wr).alloc (Nat.le_refl _) _
      have HAL := Lib.hid hal
      clear hal
      cases bz with
      | true =>
        have HROW := Lib.hid ((HFC.out.out.step HAL.out).row)
        have hone := HONE.out
        simp only [if_true] at hone
        obtain ⟨ba, hba⟩ : ∃ b, b = decide (f.a = 0) := ⟨_, rfl⟩
        obtain ⟨bc, hbc⟩ : ∃ b, b = decide (f.b = 0) := ⟨_, rfl⟩
        rw [← hba, ← hbc] at hone
        have ta : (f.a == 0) = ba := by rw [hba]; by_cases h : f.a = 0 <;> simp [h]
        have tb : (f.b == 0) = bc := by rw [hbc]; by_cases h : f.b = 0 <;> simp [h]
        have HONE2 := Lib.hid hone
        clear hba hbc hone
        cases ba with
        | true =>
          cases bc with
          | true =>
            go_wp2_with (refine wpList_append_row _ (by rfl) _ _ _ _ (by rfl) 4 i0 (.bool false) 1 1 Try.underlying39 HII.out HZ0.out HZ1.out HZ2.out rfl (by omega) _ k _ (by rfl) (HROW.out.alloc _) _ (by rfl) 1 [.bool true] (Feeds.slice Try.underlying39 ⟨wr.heap.size + 1, 0, none⟩ 1 1 _ (by rfl) (by simp [Value.oneCell']) (World.news_of_block (cs := #[.bool true]) (t := 4) (fr := (0, 0)) (get_top (by simp)))) (by unfold maxLen; omega) (by omega) (wr.heap.size + 1 + 1) (by simp) ?_; intro ao5 cap5 w5 hown5 hgrow5 hat5; have HO5 := Lib.hid hown5; have HG5 := Lib.hid hgrow5; have HA5 := Lib.hid hat5; clear hown5 hgrow5 hat5)
            go_roundg j
            case measure => omega
            case rel => exact ⟨k + 1, _, HKJ.out, by go_num, rfl, RRightI.fin HFC.out.row HFC.out.out (HAL.out.trans (((Below.refl _ _).alloc (Nat.le_refl _) _).mono HAL.out.size)) HONE2.out HO5.out HG5.out HA5.out (by omega)⟩
          | false =>
            go_wp2_with (refine wpList_append_row _ (by rfl) _ _ _ _ (by rfl) 4 i0 (.bool false) 1 1 Try.underlying39 HII.out HZ0.out HZ1.out HZ2.out rfl (by omega) _ k _ (by rfl) (HROW.out.alloc _) _ (by rfl) 1 [.bool false] (Feeds.slice Try.underlying39 ⟨wr.heap.size + 1, 0, none⟩ 1 1 _ (by rfl) (by simp [Value.oneCell']) (World.news_of_block (cs := #[.bool false]) (t := 4) (fr := (0, 0)) (get_top (by simp)))) (by unfold maxLen; omega) (by omega) (wr.heap.size + 1 + 1) (by simp) ?_; intro ao5 cap5 w5 hown5 hgrow5 hat5; have HO5 := Lib.hid hown5; have HG5 := Lib.hid hgrow5; have HA5 := Lib.hid hat5; clear hown5 hgrow5 hat5)
            go_roundg j
            case measure => omega
            case rel => exact ⟨k + 1, _, HKJ.out, by go_num, rfl, RRightI.fin HFC.out.row HFC.out.out (HAL.out.trans (((Below.refl _ _).alloc (Nat.le_refl _) _).mono HAL.out.size)) HONE2.out HO5.out HG5.out HA5.out (by omega)⟩
        | false =>
          go_wp2_with (refine wpList_append_row _ (by rfl) _ _ _ _ (by rfl) 4 i0 (.bool false) 1 1 Try.underlying39 HII.out HZ0.out HZ1.out HZ2.out rfl (by omega) _ k _ (by rfl) (HROW.out.alloc _) _ (by rfl) 1 [.bool false] (Feeds.slice Try.underlying39 ⟨wr.heap.size + 1, 0, none⟩ 1 1 _ (by rfl) (by simp [Value.oneCell']) (World.news_of_block (cs := #[.bool false]) (t := 4) (fr := (0, 0)) (get_top (by simp)))) (by unfold maxLen; omega) (by omega) (wr.heap.size + 1 + 1) (by simp) ?_; intro ao5 cap5 w5 hown5 hgrow5 hat5; have HO5 := Lib.hid hown5; have HG5 := Lib.hid hgrow5; have HA5 := Lib.hid hat5; clear hown5 hgrow5 hat5)
          go_roundg j
          case measure => omega
          case rel => exact ⟨k + 1, _, HKJ.out, by go_num, rfl, RRightI.fin HFC.out.row HFC.out.out (HAL.out.trans (((Below.refl _ _).alloc (Nat.le_refl _) _).mono HAL.out.size)) HONE2.out HO5.out HG5.out HA5.out (by omega)⟩
      | false =>
        have HC := Lib.hid (fun W => refName_any f.nm (by have := HNM.out; unfold maxLen at this; omega) W)
        have hone := HONE.out
        rw [if_neg (by simp)] at hone
        have hfi := HFIRST.out rfl
        obtain ⟨ns, hns⟩ : ∃ s, s = nameSpec f.nm := ⟨_, rfl⟩
        rw [← hns] at HC hone
        clear hns
        by_cases hn0 : ns = 0
        · subst hn0
          have HFI := Lib.hid (fun W (hb : Below wr.heap.size wr W) => refFind_any _ l f.nm W (HROWL.out.below hb) (by rw [← HN.out]; omega))
          obtain ⟨fi, hfi2⟩ : ∃ s, s = findL f.nm l := ⟨_, rfl⟩
          rw [← hfi2] at HFI hfi
          obtain ⟨bb, hbb⟩ : ∃ b, b = (fi == (k : Int)) := ⟨_, rfl⟩
          have HBB := Lib.hid (show rightOne l k = bb by
            rw [hone, hbb]
            by_cases h : cnt l k f.nm = 0
            · simp [h, hfi.2 h]
            · have : ¬ fi = (k : Int) := fun h' => h (hfi.1 h')
              simp [h, this])
          have hbb' := hbb.symm
          clear hbb hfi hfi2 hone
          go_wp2_with fail
          refine (HC.out _).mono ?_
          rintro e W1 ⟨rfl, hb1⟩
          have HB1 := Lib.hid (HAL.out.trans (hb1.mono HAL.out.size))
          have y0 : W1.heap[wr.heap.size]? = some (.cells #[.string f.nm, .int .i64 f.a, .int .i64 f.b] 37 (0, 0)) := (hb1.block _ (by simp)).trans (get_top rfl)
          have z0 := (blk_cell y0 0).trans rfl
          clear hb1 HC y0
          go_wp2_with fail
          refine (HFI.out _ HB1.out).mono ?_
          rintro e W2 ⟨rfl, hb2⟩
          have HB2 := Lib.hid (HB1.out.trans (hb2.mono HB1.out.size))
          have HROW := Lib.hid ((HFC.out.out.step HB2.out).row)
          clear hb2 HFI HB1
          go_wp2_with (refine wpList_append_row _ (by rfl) _ _ _ _ (by rfl) 4 i0 (.bool false) 1 1 Try.underlying39 HII.out HZ0.out HZ1.out HZ2.out rfl (by omega) _ k _ (by rfl) (HROW.out.alloc _) _ (by rfl) 1 [.bool bb] (Feeds.slice Try.underlying39 ⟨W2.heap.size, 0, none⟩ 1 1 _ (by rfl) (by simp [Value.oneCell']) (World.news_of_block (cs := #[.bool bb]) (t := 4) (fr := (0, 0)) (get_top (by simp)))) (by unfold maxLen; omega) (by omega) (W2.heap.size + 1) (by simp) ?_; intro ao5 cap5 w5 hown5 hgrow5 hat5; have HO5 := Lib.hid hown5; have HG5 := Lib.hid hgrow5; have HA5 := Lib.hid hat5; clear hown5 hgrow5 hat5)
          go_roundg j
          case measure => omega
          case rel => exact ⟨k + 1, _, HKJ.out, by go_num, rfl, RRightI.fin HFC.out.row (HFC.out.out.step HB2.out) ((Below.refl _ _).alloc (Nat.le_refl _) _) HBB.out HO5.out HG5.out HA5.out (by omega)⟩
        · have hn1 : (ns == 0) = false := by simpa using hn0
          have HBB := Lib.hid (show rightOne l k = false by rw [hone]; simp [hn0])
          clear hone hfi hn0
          go_wp2_with fail
          refine (HC.out _).mono ?_
          rintro e W2 ⟨rfl, hb2⟩
          have HB2 := Lib.hid (HAL.out.trans (hb2.mono HAL.out.size))
          have HROW := Lib.hid ((HFC.out.out.step HB2.out).row)
          clear hb2 HC
          go_wp2_with (refine wpList_append_row _ (by rfl) _ _ _ _ (by rfl) 4 i0 (.bool false) 1 1 Try.underlying39 HII.out HZ0.out HZ1.out HZ2.out rfl (by omega) _ k _ (by rfl) (HROW.out.alloc _) _ (by rfl) 1 [.bool false] (Feeds.slice Try.underlying39 ⟨W2.heap.size, 0, none⟩ 1 1 _ (by rfl) (by simp [Value.oneCell']) (World.news_of_block (cs := #[.bool false]) (t := 4) (fr := (0, 0)) (get_top (by simp)))) (by unfold maxLen; omega) (by omega) (W2.heap.size + 1) (by simp) ?_; intro ao5 cap5 w5 hown5 hgrow5 hat5; have HO5 := Lib.hid hown5; have HG5 := Lib.hid hgrow5; have HA5 := Lib.hid hat5; clear hown5 hgrow5 hat5)
          go_roundg j
          case measure => omega
          case rel => exact ⟨k + 1, _, HKJ.out, by go_num, rfl, RRightI.fin HFC.out.row (HFC.out.out.step HB2.out) ((Below.refl _ _).alloc (Nat.le_refl _) _) HBB.out HO5.out HG5.out HA5.out (by omega)⟩
    · obtain rfl : gk = 0 := by omega
      obtain rfl : k = n := by omega
      have HL := Lib.hid hI.out
      clear hI
      go_wp2_with fail
      go_ret
      exact ⟨_, rfl, HL.out⟩
end Go.Proofs.Ytdamlbkibhmepaa.B
