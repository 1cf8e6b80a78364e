/-
  ShelfEnters.
-/
import Derived.Test.YtdamlbkibhmepaaShelfAwake
import Derived.Test.YtdamlbkibhmepaaEnters
namespace Go.Proofs.Ytdamlbkibhmepaa.B
open Go.RowKit
set_option linter.unusedVariables false
set_option linter.unusedSimpArgs false

theorem ecells_one2 (l : List Ent) : ∀ u ∈ ecells l, u.oneCell' = true := by
  intro u hu
  simp only [ecells, List.mem_flatMap, Ent.cells] at hu
  obtain ⟨x, _, hx⟩ := hu
  simp at hx
  rcases hx with rfl | rfl | rfl <;> rfl
theorem ecells_at2 (l : List Ent) (j : Nat) (u : Value) (h : (ecells l)[j]? = some u) : ∃ i q x, j = i * 3 + q ∧ q < 3 ∧ l[i]? = some x ∧ x.cells[q]? = some u := by
  have hj : j < l.length * 3 := by
    have := (List.getElem?_eq_some_iff.1 h).1
    rwa [ecells_length] at this
  have hi : j / 3 < l.length := by omega
  refine ⟨j / 3, j % 3, l[j / 3], by omega, by omega, by simp [hi], ?_⟩
  rw [← ecells_get l (j / 3) (j % 3) l[j / 3] (by simp [hi]) (by omega), show j / 3 * 3 + j % 3 = j by omega]
  exact h
theorem EntRow.feeds2 {w : World} {v : Value} {l : List Ent} (h : EntRow w v l) : Feeds Try.prog 22 3 w v l.length (ecells l) := by
  obtain ⟨ao, cap, rfl, h1, h2, h3⟩ := h
  cases ao with
  | none =>
    have h0 : l = [] := by
      cases l with
      | nil => rfl
      | cons x r =>
        obtain ⟨g, o, e, _⟩ := h3 (by simp)
        cases e
    subst h0
    exact ⟨⟨_, Try.underlying22, fun k h => by cases h⟩, by simp [ecells], by simp [ecells], fun W => rfl, fun W hW => rfl⟩
  | some a =>
    refine Feeds.slice Try.underlying22 a l.length cap (ecells l) (ecells_length l) (ecells_one2 l) (fun j u hu => ?_)
    obtain ⟨i, q, x, rfl, hq, hx, hu2⟩ := ecells_at2 l j u hu
    obtain ⟨g, o, e, hg, hc⟩ := h3 (by have := (List.getElem?_eq_some_iff.1 hx).1; omega)
    cases e
    have := (hc i x hx).2 q u hu2
    unfold Addr.add
    split
    · rename_i he
      rw [he, Nat.add_zero] at this
      exact this
    · exact this
theorem Row.cell4 {w : World} {e : TypeId} {n cap g : Nat} {xs : List Value} (h : Row w e 3 (.slice (some ⟨g, 0, none⟩) n cap) n xs) {k : Nat} (hk : k < n * 3) : (∃ u, w.cell? ⟨g, k, none⟩ = some u) ∧ w.frozen? ⟨g, k, none⟩ = false := by
  rcases h.2 with ⟨hz, _⟩ | ⟨g', cap', cur, lo, hi, he, hg, hmk, hnc, _, hcs, _⟩
  · simp at hz
  · simp at he
    obtain ⟨rfl, rfl⟩ := he
    have : n * 3 ≤ cap * 3 := Nat.mul_le_mul_right _ hnc
    refine ⟨⟨cur[k]'(by omega), by rw [blk_cell hg]; simp⟩, ?_⟩
    simp [World.frozen?, hg]
    intro h1
    rcases hmk with h | h <;> omega
theorem Row.set {w : World} {e : TypeId} {n cap g : Nat} {xs : List Value} (h : Row w e 3 (.slice (some ⟨g, 0, none⟩) n cap) n xs) (k : Nat) (u : Value) : Row (w.setCell ⟨g, k, none⟩ u) e 3 (.slice (some ⟨g, 0, none⟩) n cap) n (xs.set k u) := by
  rcases h.2 with ⟨hz, _⟩ | ⟨g', cap', cur, lo, hi, he, hg, hmk, hnc, hcm, hcs, ht⟩
  · simp at hz
  · simp at he
    obtain ⟨rfl, rfl⟩ := he
    refine ⟨by rw [List.length_set]; exact h.1, .inr ⟨g, cap, _, lo, hi, rfl, blk_set hg k u, hmk, hnc, hcm, by rw [Array.size_setIfInBounds]; exact hcs, ?_⟩⟩
    rw [Array.toList_setIfInBounds, List.take_set, ht]
theorem row_zero {w : World} {e : TypeId} {ao : Option Addr} {n cap : Nat} {xs : List Value} (h : Row w e 3 (.slice ao (0 + n) cap) (0 + n) ([] ++ xs)) : Row w e 3 (.slice ao n cap) n xs := by
  rw [Nat.zero_add] at h
  exact h
theorem own_zero {ao : Option Addr} {n cap b : Nat} (h : (Value.slice ao (0 + n) cap).ownBlock = (Value.slice (some ⟨b, 0, none⟩) 0 0).ownBlock ∨ (Value.slice ao (0 + n) cap).ownBlock = some (b + 1)) : ∀ k, (Value.slice ao n cap).ownBlock = some k → b ≤ k := by
  intro k hk
  rw [Nat.zero_add] at h
  rcases h with h | h
  · have h2 : (Value.slice ao n cap).ownBlock = some b := h
    rw [h2] at hk; cases hk; exact Nat.le_refl _
  · have h2 : (Value.slice ao n cap).ownBlock = some (b + 1) := h
    rw [h2] at hk; cases hk; omega
theorem namesL_le2 (l : List Ent) : (namesL l).length ≤ l.length := List.length_filter_le _ _
structure EntI (w : World) (gx : Nat) (x : Ent) (vl vm : Value) (l m : List Ent) (W : World) : Prop where
  bel : Below w.heap.size w W
  bx : W.heap[gx]? = some (.cells #[.string x.nm, .int .i64 x.a, .int .i64 x.b] 37 (0, 0))
  l : EntRow W vl l
  m : EntRow W vm m
theorem EntI.below {w W W1 : World} {gx : Nat} {x : Ent} {vl vm : Value} {l m : List Ent} (h : EntI w gx x vl vm l m W) (hb : Below W.heap.size W W1) : EntI w gx x vl vm l m W1 :=
  ⟨h.bel.trans (hb.mono h.bel.size), (hb.block gx (blk_lt h.bx)).trans h.bx, h.l.below hb, h.m.below hb⟩
set_option maxRecDepth 100000 in
set_option maxHeartbeats 1600000 in
theorem shelfEnters_walk (v : Value) (l : List Ent) (x : Ent) (hxw : x.wf) (w : World) (h : EntRow w v l) :
    Calls Try.prog 8 #[v, .agg #[.string x.nm, .int .i64 x.a, .int .i64 x.b]] w fun e w' => e = .returned (.bool true) ∧ Below w.heap.size w w' := by
  obtain ⟨ao, cap, rfl, hcap, hmax⟩ := h.form
  have hu := Try.underlying37
  have hlm : (l.length : Int) ≤ 9223372036854775807 := by unfold maxLen at hmax; omega
  have HAL := Lib.hid ((Below.refl _ w).alloc (Nat.le_refl _) (.cells #[.string x.nm, .int .i64 x.a, .int .i64 x.b] 37 (0, 0)))
  have he := str_empty x.nm
  have HWF := Lib.hid h.all
  have HXW := Lib.hid hxw
  have H := Lib.hid (h.below HAL.out)
  obtain ⟨n, hn⟩ : ∃ n, n = l.length := ⟨_, rfl⟩
  have HN := Lib.hid hn
  rw [← hn] at hcap hlm H
  rw [← hn]
  clear h hmax hn hxw
  by_cases hbig : 300 < n
  · have i1 : (300 : Int) < (n : Int) := by omega
    have HB := HAL
    clear hbig H HAL
    obtain ⟨bz, hbz⟩ : ∃ b, b = decide (x.nm.size = 0) := ⟨_, rfl⟩
    rw [← hbz] at he
    clear hbz
    go_enter Try.func8, Try.ntmps8
    go_wp2_with fail
    refine (shelfAwake_any _).mono ?_
    rintro e W9 ⟨rfl, hb9⟩
    have HB9 := Lib.hid (HB.out.trans (hb9.mono HB.out.size))
    clear hb9 HB
    go_wp2_with fail
    go_ret
    exact ⟨rfl, HB9.out⟩
  have i1 : ¬ (300 : Int) < (n : Int) := by omega
  by_cases hz : x.nm.size = 0
  · have he2 : x.nm.toList.isEmpty = true := by rw [he]; simp [hz]
    have HB := HAL
    clear he H HAL hbig
    go_enter Try.func8, Try.ntmps8
    go_wp2_with fail
    refine (shelfAwake_any _).mono ?_
    rintro e W9 ⟨rfl, hb9⟩
    have HB9 := Lib.hid (HB.out.trans (hb9.mono HB.out.size))
    clear hb9 HB
    go_wp2_with fail
    go_ret
    exact ⟨rfl, HB9.out⟩
  have he2 : x.nm.toList.isEmpty = false := by rw [he]; simp [hz]
  have hn300 : n ≤ 300 := by omega
  have HL300 := Lib.hid (show l.length ≤ 300 by rw [← HN.out]; exact hn300)
  have HF := Lib.hid (Find_any _ l x.nm _ H.out (by have := HL300.out; omega))
  have HZ := Lib.hid hz
  obtain ⟨fi, hfi⟩ : ∃ i, i = findL x.nm l := ⟨_, rfl⟩
  rw [← hfi] at HF
  have HFI := Lib.hid hfi
  clear he hz hfi hbig
  by_cases hf0 : 0 ≤ fi
  · go_enter Try.func8, Try.ntmps8
    go_wp2_with fail
    refine HF.out.mono ?_
    rintro e W1 ⟨rfl, hb1⟩
    have HB := Lib.hid (HAL.out.trans (hb1.mono HAL.out.size))
    clear hb1 HF H HAL
    go_wp2_with fail
    refine (shelfAwake_any _).mono ?_
    rintro e W9 ⟨rfl, hb9⟩
    have HB9 := Lib.hid (HB.out.trans (hb9.mono HB.out.size))
    clear hb9 HB
    go_wp2_with fail
    go_ret
    exact ⟨rfl, HB9.out⟩
  have hf1 : fi < 0 := by omega
  clear hf0
  have HI0 := Lib.hid (show (w.alloc (.cells #[.string x.nm, .int .i64 x.a, .int .i64 x.b] 37 (0, 0))).heap[w.heap.size]? = some (.cells #[.string x.nm, .int .i64 x.a, .int .i64 x.b] 37 (0, 0)) from get_top rfl)
  go_enter Try.func8, Try.ntmps8
  go_wp2_with fail
  refine HF.out.mono ?_
  rintro e W1 ⟨rfl, hb1⟩
  have HX1 := Lib.hid ((hb1.block _ (by simp)).trans HI0.out)
  have HB1 := Lib.hid (HAL.out.trans (hb1.mono HAL.out.size))
  have H1 := Lib.hid (H.out.below hb1)
  obtain ⟨gx, hgx⟩ : ∃ g, g = w.heap.size := ⟨_, rfl⟩
  rw [← hgx] at HX1 ⊢
  have HGX := Lib.hid hgx
  clear hb1 HF H HAL HI0 hgx
  go_wp2_with fail
  refine (Spare_any _ l W1 H1.out (by have := HL300.out; omega)).mono ?_
  rintro e W2 ⟨rfl, hb2⟩
  have HX2 := Lib.hid ((hb2.block _ (blk_lt HX1.out)).trans HX1.out)
  have HB2 := Lib.hid (HB1.out.trans (hb2.mono HB1.out.size))
  have H2 := Lib.hid (H1.out.below hb2)
  clear hb2 HB1 HX1 H1
  have hsr := spareL_range l
  have HEL := Lib.hid (entered_length l x)
  obtain ⟨sp, hsp⟩ : ∃ s : Nat, spareL l = (s : Int) := ⟨(spareL l).toNat, by omega⟩
  have hspn : sp ≤ n := by rw [HN.out]; omega
  rw [hsp]
  have HSP := Lib.hid hsp
  clear hsr hsp
  obtain ⟨i0, hi, hz0, hz1, hz2⟩ := info_parts infoEntry
  have HII := Lib.hid hi
  have HZ0 := Lib.hid hz0
  have HZ1 := Lib.hid hz1
  have HZ2 := Lib.hid hz2
  have hal := (Below.refl _ W2).alloc (Nat.le_refl _) (.cells #[] 37 (0, 0))
  have hfd := (H2.out.below hal).feeds2
  rw [← HN.out] at hfd
  have HFD := Lib.hid hfd
  have HROW := Lib.hid (Row.lit3 (w := W2.alloc (.cells #[] 37 (0, 0))) (get_top rfl) 0 rfl (Nat.zero_le _))
  have HAL2 := Lib.hid hal
  clear hal hi hz0 hz1 hz2 hfd
  have HM1 := Lib.hid (show findL x.nm (entered l x) = (sp : Int) by rw [entered_find HZ.out (by rw [← HFI.out]; exact hf1), HSP.out])
  have HM2 := Lib.hid (fun (s : ByteArray) (hs : ¬ s.size = 0) (hm : ∃ y ∈ l, y.nm = s) => entered_other (l := l) (x := x) HZ.out (by rw [← HFI.out]; exact hf1) hs hm)
  have HM3 := Lib.hid (entered_names (l := l) (x := x) HZ.out)
  have HMW := Lib.hid (entered_wf (l := l) (x := x) HWF.out HXW.out)
  have hme : entered l x = if sp = n then l ++ [x] else l.set sp x := by
    rw [entered, HSP.out, Int.toNat_natCast, ← HN.out]
    by_cases h : sp = n
    · rw [if_pos h, if_pos (by omega)]
    · rw [if_neg h, if_neg (by omega)]
  have HME := Lib.hid hme
  clear hme
  by_cases hsn : sp = n
  · have hme := HME.out
    rw [if_pos hsn] at hme
    have HME2 := Lib.hid hme
    subst hsn
    clear hme HME
    go_wp2_with (first | (refine wpList_append_row _ (by rfl) _ _ _ _ (by rfl) 37 i0 (.agg #[.string ⟨#[]⟩, .int .i64 0, .int .i64 0]) 3 32 Try.underlying22 HII.out HZ0.out HZ1.out HZ2.out rfl (by omega) _ 0 _ (by rfl) HROW.out _ (by rfl) sp (ecells l) HFD.out (by unfold maxLen; omega) (by omega) (W2.heap.size + 1) (by simp) ?_; intro ao5 cap5 w5 hown5 hgrow5 hat5; have hx5 := (hgrow5.block gx (by have := blk_lt HX2.out; simp; omega) (by have := blk_lt HX2.out; simp [Value.ownBlock]; omega)).trans ((Lib.alloc_old W2 _ gx (blk_lt HX2.out)).trans HX2.out); have k0 := (blk_cell hx5 0).trans rfl; have k1 := (blk_cell hx5 1).trans rfl; have k2 := (blk_cell hx5 2).trans rfl; have HX5 := Lib.hid hx5; have hbx5 := HAL2.out.grown hgrow5 (by simp) (fun k hk => by cases hk; exact Nat.le_refl _); have HBX5 := Lib.hid hbx5; have HBW5 := Lib.hid (HB2.out.trans (hbx5.mono HB2.out.size)); have hr5 := row_zero hown5; have HR5 := Lib.hid hr5; have HOW5 := Lib.hid (own_zero hat5); clear hown5 hgrow5 hat5 hx5 hbx5 hr5) | (refine wpList_append_row _ (by rfl) _ _ _ _ (by rfl) 37 i0 (.agg #[.string ⟨#[]⟩, .int .i64 0, .int .i64 0]) 3 32 Try.underlying22 HII.out HZ0.out HZ1.out HZ2.out rfl (by omega) _ sp _ (by rfl) (HR5.out.alloc _) _ (by rfl) 1 [.string x.nm, .int .i64 x.a, .int .i64 x.b] (Feeds.slice Try.underlying22 ⟨w5.heap.size, 0, none⟩ 1 1 _ (by rfl) (by simp [Value.oneCell']) (World.news_of_block (cs := #[.string x.nm, .int .i64 x.a, .int .i64 x.b]) (t := 37) (fr := (0, 0)) (get_top rfl))) (by unfold maxLen; omega) (by omega) (w5.heap.size + 1) (by simp) ?_; intro ao6 cap6 w6 hown6 hgrow6 hat6; have hx6 := (hgrow6.block gx (by have := blk_lt HX5.out; simp; omega) (fun he => by have h1 := HOW5.out gx he.symm; have h2 := blk_lt HX2.out; omega)).trans ((Lib.alloc_old w5 _ gx (blk_lt HX5.out)).trans HX5.out); have HX6 := Lib.hid hx6; have HO6 := Lib.hid hown6; have HG6 := Lib.hid hgrow6; clear hown6 hgrow6 hat6 hx6))
    have hI : EntI w gx x (.slice ao sp cap) (.slice ao6 (sp + 1) cap6) l (entered l x) w6 := by
      refine ⟨?_, HX6.out, ?_, ?_⟩
      · exact (HBW5.out.alloc HBW5.out.size _).grown HG6.out (by have := HBW5.out.size; simp; omega) (fun k hk => Nat.le_trans HB2.out.size (HOW5.out k hk))
      · exact H2.out.below (((HBX5.out.alloc HBX5.out.size _)).grown HG6.out (by have := HBX5.out.size; simp; omega) (fun k hk => HOW5.out k hk))
      · refine entRow_row ?_ HMW.out
        have h := HO6.out
        rw [HME2.out, ecells_append, List.length_append, List.length_singleton, ← HN.out]
        simpa [ecells, Ent.cells] using h
    have hml : (entered l x).length = sp + 1 := by rw [HME2.out, List.length_append, List.length_singleton, ← HN.out]
    have HI0 := Lib.hid hI
    have HML := Lib.hid hml
    clear hI hml
    go_loopg [7] sp (fun j i wr => ∃ k : Nat, j + k = sp ∧ i = .int .i64 (k : Int) ∧ EntI w gx x (.slice ao sp cap) (.slice ao6 (sp + 1) cap6) l (entered l x) wr)
    case atStart => exact ⟨0, by omega, rfl, HI0.out⟩
    case round =>
      clear HI0
      obtain ⟨k, hk, rfl, hI⟩ := hrel
      by_cases hlt : k < sp
      · obtain ⟨j, rfl⟩ : ∃ j, gk = j + 1 := ⟨gk - 1, by omega⟩
        have hlen : k < l.length := by rw [← HN.out]; exact hlt
        obtain ⟨g, oo, rfl, hg, hwf, hc⟩ := hI.l.get (i := k) hlen
        have e1 := hc k hlen
        have hgd : l.getD k .zero = l[k] := by simp [List.getD, hlen]
        rw [hgd] at e1
        have hmem : l[k] ∈ l := List.getElem_mem hlen
        obtain ⟨f, hf⟩ : ∃ f, f = l[k] := ⟨_, rfl⟩
        rw [← hf] at e1 hmem
        have x0 : wr.cell? ⟨g, oo + k * 3, none⟩ = some (.string f.nm) := e1 0 _ rfl
        have u2 : (0 : Int) ≤ (k : Int) := by omega
        have u3 : (k : Int) < (sp : Int) := by omega
        have hkj : j + (k + 1) = sp := by omega
        have HKJ := Lib.hid hkj
        have hbe := str_empty f.nm
        have HI := Lib.hid hI
        by_cases hbz : f.nm.size = 0
        · have hbe2 : f.nm.toList.isEmpty = true := by rw [hbe]; simp [hbz]
          clear hI e1 hc hf hk hkj hlt hgd hwf hbe hbz hmem
          go_wp2_with fail
          go_quiet (fail)
          go_wp2_with fail
          go_roundg j
          case measure => omega
          case rel => exact ⟨k + 1, HKJ.out, by go_num, ⟨bdrewN HI.out.bel _, HI.out.bx, HI.out.l, HI.out.m⟩⟩
        · have hbe2 : f.nm.toList.isEmpty = false := by rw [hbe]; simp [hbz]
          have hmf := fun W (hb : Below wr.heap.size wr W) => Find_any _ (entered l x) f.nm W (hI.m.below hb) (by rw [HML.out]; omega)
          have hlf := fun W (hb : Below wr.heap.size wr W) => Find_any _ l f.nm W (hI.l.below hb) (by rw [← HN.out]; omega)
          rw [HM2.out f.nm hbz ⟨f, hmem, rfl⟩] at hmf
          obtain ⟨c, hcc⟩ : ∃ c, c = findL f.nm l := ⟨_, rfl⟩
          rw [← hcc] at hmf hlf
          have HMF := Lib.hid hmf
          have HLF := Lib.hid hlf
          clear hI e1 hc hf hk hkj hlt hgd hwf hbe hbz hmem hmf hlf hcc
          go_wp2_with fail
          go_region_held3 (fun w' => Below wr.heap.size wr w' ∧ w'.cell? ⟨g, oo + k * 3, none⟩ = some (.string f.nm)) (first | exact ⟨(Below.refl _ wr).drew, x0⟩ | (have hh := ‹Below _ _ _ ∧ _›; exact ⟨hh.1.trans (hb5.mono hh.1.size), (World.cell?_of_block (hb5.block g (Nat.lt_of_lt_of_le hg hh.1.size))).trans hh.2⟩)) (first | (go_at_call 17; refine (HMF.out _ (And.left ‹Below _ _ _ ∧ _›)).mono ?_; rintro e W5 ⟨rfl, hb5⟩) | (go_at_call 17; refine (HLF.out _ (And.left ‹Below _ _ _ ∧ _›)).mono ?_; rintro e W5 ⟨rfl, hb5⟩))
          all_goals (have HB5 := Lib.hid (And.left ‹Below _ _ _ ∧ _›))
          all_goals (clear ‹Below _ _ _ ∧ _›)
          all_goals go_wp2_with fail
          all_goals go_roundg j
          case measure => omega
          case rel => exact ⟨k + 1, HKJ.out, by go_num, HI.out.below HB5.out⟩
      · obtain rfl : gk = 0 := by omega
        obtain rfl : k = sp := by omega
        have k0 := (blk_cell hI.bx 0).trans rfl
        have k1 := (blk_cell hI.bx 1).trans rfl
        have k2 := (blk_cell hI.bx 2).trans rfl
        have HI := Lib.hid hI
        clear hI hlt hk
        go_wp2_with fail
        refine (Find_any _ (entered l x) x.nm wr HI.out.m (by rw [HML.out]; omega)).mono ?_
        rw [HM1.out]
        rintro e W6 ⟨rfl, hb6⟩
        have HI6 := Lib.hid (HI.out.below hb6)
        clear hb6 HI k0 k1 k2
        go_wp2_with fail
        refine (Names_any _ (entered l x) W6 HI6.out.m (by rw [HML.out]; omega)).mono ?_
        rintro e W7 ⟨v7, rfl, hL7⟩
        obtain ⟨ao7, cap7, rfl, _⟩ := hL7.row.form
        have HI7 := Lib.hid (HI6.out.below hL7.below)
        rw [HM3.out]
        clear hL7 HI6
        go_wp2_with fail
        refine (Names_any _ l W7 HI7.out.l (by have := HL300.out; omega)).mono ?_
        rintro e W8 ⟨v8, rfl, hL8⟩
        obtain ⟨ao8, cap8, rfl, _⟩ := hL8.row.form
        have HB := Lib.hid (HI7.out.below hL8.below).bel
        have hq := namesL_le2 l
        have hw1 : wrap64 (((namesL l).length : Int) + 1) = (((namesL l).length + 1 : Nat) : Int) := by
          have := HL300.out
          rw [IntWalk.wrap64_in _ ⟨by omega, by omega⟩]; omega
        clear hL8 HI7 hq
        go_wp2_with fail
        refine (shelfAwake_any _).mono ?_
        rintro e W9 ⟨rfl, hb9⟩
        have HB9 := Lib.hid (HB.out.trans (hb9.mono HB.out.size))
        clear hb9 HB
        go_wp2_with fail
        go_ret
        exact ⟨rfl, HB9.out⟩
  · have hme := HME.out
    rw [if_neg hsn] at hme
    have HME2 := Lib.hid hme
    have hspn2 : sp < n := by omega
    have hz1 : (sp : Int) < (n : Int) := by omega
    have hz2 : ((sp : Int) == (n : Int)) = false := by simp; omega
    have hz3 : ¬ n < sp := by omega
    clear hme HME
    go_wp2_with (first | (refine wpList_append_row _ (by rfl) _ _ _ _ (by rfl) 37 i0 (.agg #[.string ⟨#[]⟩, .int .i64 0, .int .i64 0]) 3 32 Try.underlying22 HII.out HZ0.out HZ1.out HZ2.out rfl (by omega) _ 0 _ (by rfl) HROW.out _ (by rfl) n (ecells l) HFD.out (by unfold maxLen; omega) (by omega) (W2.heap.size + 1) (by simp) ?_; intro ao5 cap5 w5 hown5 hgrow5 hat5; have hx5 := (hgrow5.block gx (by have := blk_lt HX2.out; simp; omega) (by have := blk_lt HX2.out; simp [Value.ownBlock]; omega)).trans ((Lib.alloc_old W2 _ gx (blk_lt HX2.out)).trans HX2.out); have k0 := (blk_cell hx5 0).trans rfl; have k1 := (blk_cell hx5 1).trans rfl; have k2 := (blk_cell hx5 2).trans rfl; have HX5 := Lib.hid hx5; have hbx5 := HAL2.out.grown hgrow5 (by simp) (fun k hk => by cases hk; exact Nat.le_refl _); have HBX5 := Lib.hid hbx5; have HBW5 := Lib.hid (HB2.out.trans (hbx5.mono HB2.out.size)); have hr5 := row_zero hown5; have HR5 := Lib.hid hr5; have HOW5 := Lib.hid (own_zero hat5); obtain ⟨g5, cp5, he5, _, _⟩ := hr5.form_pos (show 0 < n by omega); simp only [Value.slice.injEq, true_and] at he5; obtain ⟨rfl, rfl⟩ := he5; obtain ⟨⟨z0, d0⟩, f0⟩ := hr5.cell4 (k := sp * 3) (by omega); obtain ⟨⟨z1, d1⟩, f1⟩ := hr5.cell4 (k := sp * 3 + 1) (by omega); obtain ⟨⟨z2, d2⟩, f2⟩ := hr5.cell4 (k := sp * 3 + 2) (by omega); clear hown5 hgrow5 hat5 hx5 hbx5 hr5))
    have hg5 : W2.heap.size ≤ g5 := HOW5.out g5 rfl
    have hgx5 : gx ≠ g5 := by have := blk_lt HX2.out; omega
    have hI : EntI w gx x (.slice ao n cap) (.slice (some ⟨g5, 0, none⟩) n cap5) l (entered l x) (((w5.setCell ⟨g5, sp * 3, none⟩ (.string x.nm)).setCell ⟨g5, sp * 3 + 1, none⟩ (.int .i64 x.a)).setCell ⟨g5, sp * 3 + 2, none⟩ (.int .i64 x.b)) := by
      refine ⟨?_, ?_, ?_, ?_⟩
      · exact ((HBW5.out.setCell (p := ⟨g5, sp * 3, none⟩) (Nat.le_trans HB2.out.size hg5) _).setCell (p := ⟨g5, sp * 3 + 1, none⟩) (Nat.le_trans HB2.out.size hg5) _).setCell (p := ⟨g5, sp * 3 + 2, none⟩) (Nat.le_trans HB2.out.size hg5) _
      · exact (Below.heap_setCell _ _ _ _ hgx5).trans ((Below.heap_setCell _ _ _ _ hgx5).trans ((Below.heap_setCell _ _ _ _ hgx5).trans HX5.out))
      · exact H2.out.below (((HBX5.out.setCell (p := ⟨g5, sp * 3, none⟩) hg5 _).setCell (p := ⟨g5, sp * 3 + 1, none⟩) hg5 _).setCell (p := ⟨g5, sp * 3 + 2, none⟩) hg5 _)
      · refine entRow_row ?_ HMW.out
        rw [HME2.out, List.length_set, ← HN.out, ecells_set (by rw [← HN.out]; exact hspn2)]
        exact ((HR5.out.set (sp * 3) _).set (sp * 3 + 1) _).set (sp * 3 + 2) _
    have hml : (entered l x).length = n := by rw [HME2.out, List.length_set, ← HN.out]
    clear hspn hspn2 hz1 hz2 hz3 hsn
    have HI0 := Lib.hid hI
    have HML := Lib.hid hml
    clear hI hml
    generalize (((w5.setCell ⟨g5, sp * 3, none⟩ (.string x.nm)).setCell ⟨g5, sp * 3 + 1, none⟩ (.int .i64 x.a)).setCell ⟨g5, sp * 3 + 2, none⟩ (.int .i64 x.b)) = W3 at HI0 ⊢
    go_loopg [7] n (fun j i wr => ∃ k : Nat, j + k = n ∧ i = .int .i64 (k : Int) ∧ EntI w gx x (.slice ao n cap) (.slice (some ⟨g5, 0, none⟩) n cap5) l (entered l x) wr)
    case atStart => exact ⟨0, by omega, rfl, HI0.out⟩
    case round =>
      clear HI0
      obtain ⟨k, hk, rfl, hI⟩ := hrel
      by_cases hlt : k < n
      · obtain ⟨j, rfl⟩ : ∃ j, gk = j + 1 := ⟨gk - 1, by omega⟩
        have hlen : k < l.length := by rw [← HN.out]; exact hlt
        obtain ⟨g, oo, rfl, hg, hwf, hc⟩ := hI.l.get (i := k) hlen
        have e1 := hc k hlen
        have hgd : l.getD k .zero = l[k] := by simp [List.getD, hlen]
        rw [hgd] at e1
        have hmem : l[k] ∈ l := List.getElem_mem hlen
        obtain ⟨f, hf⟩ : ∃ f, f = l[k] := ⟨_, rfl⟩
        rw [← hf] at e1 hmem
        have x0 : wr.cell? ⟨g, oo + k * 3, none⟩ = some (.string f.nm) := e1 0 _ rfl
        have u2 : (0 : Int) ≤ (k : Int) := by omega
        have u3 : (k : Int) < (n : Int) := by omega
        have hkj : j + (k + 1) = n := by omega
        have HKJ := Lib.hid hkj
        have hbe := str_empty f.nm
        have HI := Lib.hid hI
        by_cases hbz : f.nm.size = 0
        · have hbe2 : f.nm.toList.isEmpty = true := by rw [hbe]; simp [hbz]
          clear hI e1 hc hf hk hkj hlt hgd hwf hbe hbz hmem
          go_wp2_with fail
          go_quiet (fail)
          go_wp2_with fail
          go_roundg j
          case measure => omega
          case rel => exact ⟨k + 1, HKJ.out, by go_num, ⟨bdrewN HI.out.bel _, HI.out.bx, HI.out.l, HI.out.m⟩⟩
        · have hbe2 : f.nm.toList.isEmpty = false := by rw [hbe]; simp [hbz]
          have hmf := fun W (hb : Below wr.heap.size wr W) => Find_any _ (entered l x) f.nm W (hI.m.below hb) (by rw [HML.out]; omega)
          have hlf := fun W (hb : Below wr.heap.size wr W) => Find_any _ l f.nm W (hI.l.below hb) (by rw [← HN.out]; omega)
          rw [HM2.out f.nm hbz ⟨f, hmem, rfl⟩] at hmf
          obtain ⟨c, hcc⟩ : ∃ c, c = findL f.nm l := ⟨_, rfl⟩
          rw [← hcc] at hmf hlf
          have HMF := Lib.hid hmf
          have HLF := Lib.hid hlf
          clear hI e1 hc hf hk hkj hlt hgd hwf hbe hbz hmem hmf hlf hcc
          go_wp2_with fail
          go_region_held3 (fun w' => Below wr.heap.size wr w' ∧ w'.cell? ⟨g, oo + k * 3, none⟩ = some (.string f.nm)) (first | exact ⟨(Below.refl _ wr).drew, x0⟩ | (have hh := ‹Below _ _ _ ∧ _›; exact ⟨hh.1.trans (hb5.mono hh.1.size), (World.cell?_of_block (hb5.block g (Nat.lt_of_lt_of_le hg hh.1.size))).trans hh.2⟩)) (first | (go_at_call 17; refine (HMF.out _ (And.left ‹Below _ _ _ ∧ _›)).mono ?_; rintro e W5 ⟨rfl, hb5⟩) | (go_at_call 17; refine (HLF.out _ (And.left ‹Below _ _ _ ∧ _›)).mono ?_; rintro e W5 ⟨rfl, hb5⟩))
          all_goals (have HB5 := Lib.hid (And.left ‹Below _ _ _ ∧ _›))
          all_goals (clear ‹Below _ _ _ ∧ _›)
          all_goals go_wp2_with fail
          all_goals go_roundg j
          case measure => omega
          case rel => exact ⟨k + 1, HKJ.out, by go_num, HI.out.below HB5.out⟩
      · obtain rfl : gk = 0 := by omega
        obtain rfl : k = n := by omega
        have k0 := (blk_cell hI.bx 0).trans rfl
        have k1 := (blk_cell hI.bx 1).trans rfl
        have k2 := (blk_cell hI.bx 2).trans rfl
        have HI := Lib.hid hI
        clear hI hlt hk
        go_wp2_with fail
        refine (Find_any _ (entered l x) x.nm wr HI.out.m (by rw [HML.out]; omega)).mono ?_
        rw [HM1.out]
        rintro e W6 ⟨rfl, hb6⟩
        have HI6 := Lib.hid (HI.out.below hb6)
        clear hb6 HI k0 k1 k2
        go_wp2_with fail
        refine (Names_any _ (entered l x) W6 HI6.out.m (by rw [HML.out]; omega)).mono ?_
        rintro e W7 ⟨v7, rfl, hL7⟩
        obtain ⟨ao7, cap7, rfl, _⟩ := hL7.row.form
        have HI7 := Lib.hid (HI6.out.below hL7.below)
        rw [HM3.out]
        clear hL7 HI6
        go_wp2_with fail
        refine (Names_any _ l W7 HI7.out.l (by have := HL300.out; omega)).mono ?_
        rintro e W8 ⟨v8, rfl, hL8⟩
        obtain ⟨ao8, cap8, rfl, _⟩ := hL8.row.form
        have HB := Lib.hid (HI7.out.below hL8.below).bel
        have hq := namesL_le2 l
        have hw1 : wrap64 (((namesL l).length : Int) + 1) = (((namesL l).length + 1 : Nat) : Int) := by
          have := HL300.out
          rw [IntWalk.wrap64_in _ ⟨by omega, by omega⟩]; omega
        clear hL8 HI7 hq
        go_wp2_with fail
        refine (shelfAwake_any _).mono ?_
        rintro e W9 ⟨rfl, hb9⟩
        have HB9 := Lib.hid (HB.out.trans (hb9.mono HB.out.size))
        clear hb9 HB
        go_wp2_with fail
        go_ret
        exact ⟨rfl, HB9.out⟩
end Go.Proofs.Ytdamlbkibhmepaa.B
