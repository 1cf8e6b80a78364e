/-
  TreeRoots.
-/
import Derived.Test.YtjoilobbopdcpaaRTreeC
namespace Go.Proofs.Ytjoilobbopdcpaa.B
open Go.RowKit
set_option linter.unusedVariables false
set_option linter.unusedSimpArgs false

set_option maxRecDepth 100000 in
set_option maxHeartbeats 1600000 in
theorem treeRoots_walk (v1 : Value) (l1 : List ByteArray) (w : World) (h1 : Strs w v1 l1) :
    Calls Try.prog 8 #[v1] w fun e w' => e = .returned (.bool true) ∧ Below w.heap.size w w' := by
  obtain ⟨ao1, cap1, rfl, hc1, hm1⟩ := h1.form
  have HS1 := Lib.hid (some_any 40 (by decide) _ l1 w h1)
  obtain ⟨m1, hl1⟩ : ∃ m, m = l1.length := ⟨_, rfl⟩
  rw [← hl1] at HS1 ⊢
  clear h1 hc1 hm1 hl1
  go_enter Try.func8, Try.ntmps8
  go_wp2_with fail
  refine HS1.out.mono ?_
  rintro e W1 ⟨v1', rfl, hA⟩
  obtain ⟨ao1', cap1', rfl, hc1⟩ := hA.row.form
  have HA := Lib.hid hA
  clear hA HS1
  go_wp2_with fail
  refine (real_any W1).mono ?_
  rintro e W2 ⟨g, gw, rfl, hv, hw, hb⟩
  obtain ⟨l, hl⟩ : ∃ a, a = someL l1 40 := ⟨_, rfl⟩
  have hl40 : l.length ≤ 40 := by rw [hl, someL_len]; omega
  have HAS := Lib.hid (show ∀ s ∈ l, s.size ≤ 500 by rw [hl]; intro s hs; have := someL_size s hs; omega)
  have hA2 := (Strs.of_row HA.out.row).below hb
  have HB2 := Lib.hid (HA.out.below.trans (hb.mono HA.out.below.size))
  rw [← hl] at hA2 hc1 ⊢
  have HNW := Lib.hid (New_any vk_real _ g gw [] _ l W2 hv hA2 (by omega) HAS.out (by decide))
  have HRR := Lib.hid (fun W (hb : Below W2.heap.size W2 W) => refRoot_any gw _ l W (hw.below hb) (hA2.below hb) (by omega) HAS.out)
  obtain ⟨n, hn⟩ : ∃ n, n = l.length := ⟨_, rfl⟩
  rw [← hn] at hl40 hc1 HRR ⊢
  have HN := Lib.hid hn
  have HV := Lib.hid hv
  clear hv hw hb hA2 HA hl hn
  go_wp2_with fail
  rw [HN.out]
  refine HNW.out.mono ?_
  rintro e W3 ⟨gt, ks1, rows, vr, vs, rfl, hT, hM, hR⟩
  have hk1 := hR.len
  have hl2 := HN.out
  simp only [List.length_nil] at hk1
  rw [← HN.out]
  have HRT := Lib.hid (Root_of vk_real _ _ gt g gw ks1 l rows vr vs W3 (by omega) hR.vlt hT hM (by omega))
  have HR := Lib.hid hR
  have HT := Lib.hid hT
  have HM := Lib.hid hM
  have hk3 : ks1.length ≤ 120 := by omega
  clear hk1 hl2 hR hT hM HNW
  go_wp2_with fail
  refine HRT.out.mono ?_
  rintro e W4 ⟨ks2, r, rfl, hr, hR2⟩
  have hR4 := (HR.out.trans hR2).real
  have HB4 := Lib.hid hR4
  have HM4 := Lib.hid (HM.out.ran HR.out.vlt hR2)
  have HRF := Lib.hid hr
  clear hr hR2 HRT HM hR4
  go_wp2_with fail
  refine (HRR.out W4 HB4.out).mono ?_
  rintro e W5 ⟨r', rfl, hr', hb⟩
  obtain rfl := (hr'.pre (List.nil_prefix (l := ks2))).fn HRF.out
  have HB5 := Lib.hid (HB4.out.trans (hb.mono HB4.out.size))
  have hM5 := HM4.out.below hb
  have hpos := HT.out.pos
  have hcount := HT.out.count
  have HC := Lib.hid (Count_any _ gt g rows vr vs W5 hM5 hpos (by have := HN.out; omega))
  have hl0 := HT.out.len0
  rw [hl0, ← HN.out] at HC
  have HBB := Lib.hid (HB2.out.trans (HB5.out.mono HB2.out.size))
  clear hr' hb hM5 HRR HRF HM4 HB4 hpos hcount hl0
  go_wp2_with fail
  refine HC.out.mono ?_
  rintro e W6 ⟨rfl, rfl⟩
  go_wp2_with fail
  refine (awake_any _).mono ?_
  rintro e W9 ⟨rfl, hb⟩
  have HF2 := Lib.hid (HBB.out.trans (hb.mono HBB.out.size))
  clear hb
  go_wp2_with fail
  go_ret
  exact ⟨rfl, HF2.out⟩
end Go.Proofs.Ytjoilobbopdcpaa.B
