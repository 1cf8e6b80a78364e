/-
  ReportReads.
-/
import Derived.Test.YthobfbiobnmceaaOfP
import Derived.Test.YthobfbiobnmceaaRepAwake
namespace Go.Proofs.Ythobfbiobnmceaa.PReportReads
open Go.RowKit Go.Proofs.Ythobfbiobnmceaa.B
open Go.Proofs.YthobfbiobnmceaaW.PrintWords Go.Proofs.YthobfbiobnmceaaW.PrintLast Go.Proofs.YthobfbiobnmceaaW.PrintMore
set_option linter.unusedVariables false
set_option linter.unusedSimpArgs false

/-- The row, as the print's words say it. -/
theorem rowC {w : World} {v : Value} {l : List Four} (h : FndRow w v l) : ∃ ao cap, v = .slice ao l.length cap ∧ l.length ≤ cap ∧ Kd.C k54 w ao (l.map toS).length (l.map toS) := by
  obtain ⟨ao, cap, rfl, h1, h2, h3⟩ := h
  refine ⟨ao, cap, rfl, h1, rfl, by rw [List.length_map]; unfold maxLen at h2; omega, fun h0 => ?_⟩
  rw [List.length_map] at h0
  obtain ⟨g, o, rfl, hg, hc⟩ := h3 h0
  refine ⟨⟨g, o, none⟩, rfl, fun j p hp => ?_⟩
  rw [List.getElem?_map, Option.map_eq_some_iff] at hp
  obtain ⟨f, hf, rfl⟩ := hp
  refine ⟨f.cells, rfl, ⟨[.int .i64 f.a], [.int .i64 f.b, .int .i64 f.c, .int .i64 f.d], rfl, rfl, [.int .i64 f.b], [.int .i64 f.c, .int .i64 f.d], rfl, rfl, [.int .i64 f.c], [.int .i64 f.d], rfl, rfl, rfl⟩, fun i u hu => ?_⟩
  have := (hc j f hf).2 i u hu
  have hi : i < 4 := (List.getElem?_eq_some_iff.1 hu).1
  have hsz : k54.sz = 4 := rfl
  rw [hsz]
  unfold Addr.add
  split
  · rename_i he
    rw [he, Nat.add_zero] at this
    exact this
  · exact this
theorem same_l0 (a0 a1 a2 b0 b1 b2 : Int) (l : List Four) (hl : l.length ≤ 100000) : ∀ (j i K : Nat), i + j = l.length → grapnelref16_Same.l0 (j + 1 + K) i a0 a1 a2 (l.map toS) b0 b1 b2 (l.map toS) = some true
  | 0, i, K, h => by rw [show 0 + 1 + K = K + 1 by omega, grapnelref16_Same.l0, if_neg (by simp; omega)]
  | j + 1, i, K, h => by
    rw [show j + 1 + 1 + K = (j + 1 + K) + 1 by omega, grapnelref16_Same.l0, if_pos (by simp; omega), if_pos (by omega), if_pos (by simp; omega)]
    simp only [beq_self_eq_true, Bool.not_true, Bool.or_self, Bool.false_eq_true, if_false]
    rw [IntWalk.wrap64_in _ ⟨by omega, by omega⟩, show (i : Int) + 1 = ((i + 1 : Nat) : Int) by omega]
    exact same_l0 a0 a1 a2 b0 b1 b2 l hl j (i + 1) K (by omega)
theorem same_print (a0 a1 a2 : Int) (l : List Four) (hl : l.length ≤ 100000) : grapnelref16_Same.f (l.length + 2) a0 a1 a2 (l.map toS) a0 a1 a2 (l.map toS) = some true := by
  rw [grapnelref16_Same.f, if_pos rfl, if_pos rfl, if_pos rfl, show l.length + 2 = (l.length + 1) + 1 by omega, grapnelref16_Same.j0, if_neg (by simp)]
  exact same_l0 a0 a1 a2 a0 a1 a2 l hl l.length 0 0 (by omega)
theorem refOf_any (s : ByteArray) (hs : s.size ≤ 100000) (w : World) :
    Calls Try.prog 16 #[.string s] w fun e w' => ∃ (A : Option Addr) (c : Nat), e = .returned (.tuple #[.agg #[.int .i64 (repOf s).a0, .int .i64 (repOf s).a1, .int .i64 (repOf s).a2, .slice A (repOf s).l.length c], .int .i64 (repOf s).e]) ∧ (repOf s).l.length ≤ c ∧ Kd.C k54 w' A ((repOf s).l.map toS).length ((repOf s).l.map toS) ∧ Below w.heap.size w w' := by
  obtain ⟨k, hk⟩ := of_print s hs
  refine (grapnelref16_Of.calls k s _ _ _ _ _ w hk).mono ?_
  rintro e w' ⟨v, rfl, hR, hb⟩
  obtain ⟨A, c, rfl, hc, hC⟩ := Kd.R_reads hR
  rw [List.length_map] at hc
  refine ⟨A, c, by rw [List.length_map], hc, hC, hb⟩
/-- Two reports that hold the same are the same. -/
theorem same_any (a0 a1 a2 : Int) (A B : Option Addr) (c d : Nat) (l : List Four) (hl : l.length ≤ 100000) (w : World) (h1 : Kd.C k54 w A (l.map toS).length (l.map toS)) (hc : l.length ≤ c) (h2 : Kd.C k54 w B (l.map toS).length (l.map toS)) (hd : l.length ≤ d) :
    Calls Try.prog 17 #[.agg #[.int .i64 a0, .int .i64 a1, .int .i64 a2, .slice A l.length c], .agg #[.int .i64 a0, .int .i64 a1, .int .i64 a2, .slice B l.length d]] w fun e w' => e = .returned (.bool true) ∧ Below w.heap.size w w' := by
  have := grapnelref16_Same.calls (l.length + 2) a0 a1 a2 A c (l.map toS) a0 a1 a2 B d (l.map toS) true w h1 (by rw [List.length_map]; exact hc) h2 (by rw [List.length_map]; exact hd) (same_print a0 a1 a2 l hl)
  rw [List.length_map] at this
  exact this
theorem repOf_small (s : ByteArray) (hs : s.size ≤ 3000) : (repOf s).l.length ≤ 100000 := by
  unfold repOf
  split
  · simp
  · split
    · simp
    · split
      · simp
      · split
        · simp only [fndsOf_length]; omega
        · simp
set_option maxRecDepth 100000 in
theorem reportReads_cut (s0 s : ByteArray) (hs : s.size ≤ 3000) (hc : s = if 3000 < s0.size then s0.extract 0 3000 else s0) (w : World) (h0 : s0.size ≤ 140737488351232) :
    Calls Try.prog 4 #[.string s0] w fun e w' => e = .returned (.bool true) ∧ Below w.heap.size w w' := by
  have hu24 := Try.underlying24
  have HF := Lib.hid (fun W => repOf_any s (by omega) W)
  have HG := Lib.hid (fun W => refOf_any s (by omega) W)
  have hsm := repOf_small s hs
  obtain ⟨⟨a0, a1, a2, l, e0⟩, hR⟩ : ∃ R, R = repOf s := ⟨_, rfl⟩
  rw [← hR] at HF HG hsm
  simp only at hsm HG
  have HSM := Lib.hid hsm
  clear hR hsm
  have key : ∀ W : World, Below w.heap.size w W → True := fun _ _ => trivial
  by_cases hbig : 3000 < s0.size
  · have hbig' : (3000 : Int) < (s0.size : Int) := by omega
    rw [if_pos hbig] at hc
    have HC := Lib.hid hc.symm
    clear hc key
    go_enter Try.func4, Try.ntmps4
    go_wp2_with fail
    rw [HC.out]
    refine (HF.out _).mono ?_
    rintro e W1 ⟨v1, rfl, hr1, hb1⟩
    obtain ⟨A1, c1, rfl, hc1, hC1⟩ := rowC hr1
    have HB1 := Lib.hid hb1
    have HC1 := Lib.hid hC1
    have HL1 := Lib.hid hc1
    simp only
    clear hr1 hb1 hC1 hc1 HF
    go_wp2_with fail
    refine (HG.out _).mono ?_
    rintro e W2 ⟨A2, c2, rfl, hc2, hC2, hb2⟩
    have hx := (hb2.block W1.heap.size (by simp)).trans (get_top rfl)
    have d0 := (B.blk_cell hx 0).trans rfl
    have d1 := (B.blk_cell hx 1).trans rfl
    have d2 := (B.blk_cell hx 2).trans rfl
    have d3 := (B.blk_cell hx 3).trans rfl
    have hlt := B.blk_lt hx
    have hb12 := ((Below.refl _ W1).alloc (Nat.le_refl _) _).trans (hb2.mono (by simp))
    have HCA := Lib.hid (Kd.C_below HC1.out hb12)
    have HCB := Lib.hid hC2
    have HL2 := Lib.hid hc2
    have HB2 := Lib.hid (HB1.out.trans (hb12.mono HB1.out.size))
    clear hx hb12 hb2 hC2 hc2 HC1 HB1 HG
    simp only
    go_wp2_with fail
    refine (same_any a0 a1 a2 A1 A2 c1 c2 l HSM.out _ (Kd.C_below HCA.out ((Below.refl _ W2).alloc (Nat.le_refl _) _)) HL1.out (Kd.C_below HCB.out ((Below.refl _ W2).alloc (Nat.le_refl _) _)) HL2.out).mono ?_
    rintro e W3 ⟨rfl, hb3⟩
    have HB3 := Lib.hid (HB2.out.trans ((((Below.refl _ W2).alloc (Nat.le_refl _) _).trans (hb3.mono (by simp))).mono HB2.out.size))
    clear hb3 HCA HCB
    go_wp2_with fail
    refine (repAwake_any _).mono ?_
    rintro e W4 ⟨rfl, hb4⟩
    have HB4 := Lib.hid (HB3.out.trans (hb4.mono HB3.out.size))
    clear hb4
    go_wp2_with fail
    go_ret
    exact ⟨rfl, HB4.out⟩
  · have hbig' : ¬ (3000 : Int) < (s0.size : Int) := by omega
    rw [if_neg hbig] at hc
    subst hc
    clear key
    go_enter Try.func4, Try.ntmps4
    go_wp2_with fail
    refine (HF.out _).mono ?_
    rintro e W1 ⟨v1, rfl, hr1, hb1⟩
    obtain ⟨A1, c1, rfl, hc1, hC1⟩ := rowC hr1
    have HB1 := Lib.hid hb1
    have HC1 := Lib.hid hC1
    have HL1 := Lib.hid hc1
    simp only
    clear hr1 hb1 hC1 hc1 HF
    go_wp2_with fail
    refine (HG.out _).mono ?_
    rintro e W2 ⟨A2, c2, rfl, hc2, hC2, hb2⟩
    have hx := (hb2.block W1.heap.size (by simp)).trans (get_top rfl)
    have d0 := (B.blk_cell hx 0).trans rfl
    have d1 := (B.blk_cell hx 1).trans rfl
    have d2 := (B.blk_cell hx 2).trans rfl
    have d3 := (B.blk_cell hx 3).trans rfl
    have hlt := B.blk_lt hx
    have hb12 := ((Below.refl _ W1).alloc (Nat.le_refl _) _).trans (hb2.mono (by simp))
    have HCA := Lib.hid (Kd.C_below HC1.out hb12)
    have HCB := Lib.hid hC2
    have HL2 := Lib.hid hc2
    have HB2 := Lib.hid (HB1.out.trans (hb12.mono HB1.out.size))
    clear hx hb12 hb2 hC2 hc2 HC1 HB1 HG
    simp only
    go_wp2_with fail
    refine (same_any a0 a1 a2 A1 A2 c1 c2 l HSM.out _ (Kd.C_below HCA.out ((Below.refl _ W2).alloc (Nat.le_refl _) _)) HL1.out (Kd.C_below HCB.out ((Below.refl _ W2).alloc (Nat.le_refl _) _)) HL2.out).mono ?_
    rintro e W3 ⟨rfl, hb3⟩
    have HB3 := Lib.hid (HB2.out.trans ((((Below.refl _ W2).alloc (Nat.le_refl _) _).trans (hb3.mono (by simp))).mono HB2.out.size))
    clear hb3 HCA HCB
    go_wp2_with fail
    refine (repAwake_any _).mono ?_
    rintro e W4 ⟨rfl, hb4⟩
    have HB4 := Lib.hid (HB3.out.trans (hb4.mono HB3.out.size))
    clear hb4
    go_wp2_with fail
    go_ret
    exact ⟨rfl, HB4.out⟩
end Go.Proofs.Ythobfbiobnmceaa.PReportReads
