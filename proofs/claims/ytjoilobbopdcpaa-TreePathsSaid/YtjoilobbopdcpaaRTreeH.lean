/-
  TreePaths.
-/
import Derived.Test.YtjoilobbopdcpaaRTreeG
namespace Go.Proofs.Ytjoilobbopdcpaa.B
open Go.RowKit
set_option linter.unusedVariables false
set_option linter.unusedSimpArgs false

theorem TreeR.anyks {f : ByteArray → ByteArray} {ks l : List ByteArray} (ks' : List ByteArray) {rows : List (List ByteArray)} (h : TreeR (some f) ks l rows) : TreeR (some f) ks' l rows :=
  ⟨h.first, h.linked, h.last⟩
set_option maxRecDepth 100000 in
set_option maxHeartbeats 1600000 in
theorem treePaths_walk (v1 : Value) (l1 : List ByteArray) (i : Int) (hi : in64 i) (w : World) (h1 : Strs w v1 l1) :
    Calls Try.prog 11 #[v1, .int .i64 i] w fun e w' => e = .returned (.bool true) ∧ Below w.heap.size w w' := by
  obtain ⟨ao1, cap1, rfl, hc1, hm1⟩ := h1.form
  have HS1 := Lib.hid (some_any 40 (by decide) _ l1 w h1)
  obtain ⟨m1, hl1⟩ : ∃ m, m = l1.length := ⟨_, rfl⟩
  rw [← hl1] at HS1 ⊢
  have HI := Lib.hid hi
  clear h1 hc1 hm1 hl1 hi
  go_enter Try.func11, Try.ntmps11
  go_wp2_with fail
  refine HS1.out.mono ?_
  rintro e W1 ⟨v1', rfl, hA⟩
  obtain ⟨ao1', cap1', rfl, hc1⟩ := hA.row.form
  have HA := Lib.hid hA
  clear hA HS1
  go_wp2_with fail
  refine (real_any W1).mono ?_
  rintro e W2 ⟨g, gw, rfl, hv, hw, hb⟩
  obtain ⟨l, hl⟩ : ∃ a, a = someL l1 40 := ⟨_, rfl⟩
  have hl40 : l.length ≤ 40 := by rw [hl, someL_len]; omega
  have HAS := Lib.hid (show ∀ s ∈ l, s.size ≤ 500 by rw [hl]; intro s hs; have := someL_size s hs; omega)
  have hA2 := (Strs.of_row HA.out.row).below hb
  have HB2 := Lib.hid (HA.out.below.trans (hb.mono HA.out.below.size))
  rw [← hl] at hA2 hc1 ⊢
  have HNW := Lib.hid (New_any vk_real _ g gw [] _ l W2 hv hA2 (by omega) HAS.out (by decide))
  have HRR := Lib.hid (fun W (hb : Below W2.heap.size W2 W) => refPath_any gw _ l i HI.out W (hw.below hb) (hA2.below hb) (by omega) HAS.out)
  obtain ⟨n, hn⟩ : ∃ n, n = l.length := ⟨_, rfl⟩
  rw [← hn] at hl40 hc1 HRR ⊢
  have HN := Lib.hid hn
  have HV := Lib.hid hv
  clear hv hw hb hA2 HA hl hn
  go_wp2_with fail
  rw [HN.out]
  refine HNW.out.mono ?_
  rintro e W3 ⟨gt, ks1, rows, vr, vs, rfl, hT, hM, hR⟩
  have hl2 := HN.out
  rw [← HN.out]
  have HP := Lib.hid (Path_all _ gt g ks1 l rows vr vs W3 hT hM (by omega) i)
  have hlen := pAll_len hT l.length i
  have HPL := Lib.hid (show (pAll rows l.length i).length ≤ 100 by omega)
  have HT := Lib.hid (hT.anyks [])
  have HR := Lib.hid hR.real
  clear hl2 hR hT hM HNW hlen
  go_wp2_with fail
  refine HP.out.mono ?_
  rintro e W4 ⟨vp, svs, rfl, hp, hb⟩
  have hb24 := HR.out.trans (hb.mono HR.out.size)
  have HB4 := Lib.hid hb24
  have HPM := Lib.hid hp.steps
  clear hp hb HP hb24
  go_wp2_with fail
  refine (HRR.out W4 HB4.out).mono ?_
  rintro e W5 ⟨vq, svq, path, rfl, hq, hpe, hb⟩
  obtain rfl := hpe rows HT.out
  have HB5 := Lib.hid (HB4.out.trans (hb.mono HB4.out.size))
  have HSM := Lib.hid (same_any vp vq (pAll rows l.length i) (by have := HPL.out; omega) W5 (HPM.out.below hb) hq.steps)
  have HBB := Lib.hid (HB2.out.trans (HB5.out.mono HB2.out.size))
  have hee : (pErr l.length i == pErr l.length i) = true := by simp
  clear hq hb hpe HRR HPM HB4
  generalize pErr l.length i = pe at hee ⊢
  go_wp2_with fail
  refine HSM.out.mono ?_
  rintro e W6 ⟨rfl, hb⟩
  have HBC := Lib.hid (HBB.out.trans (hb.mono HBB.out.size))
  clear hb HSM
  go_wp2_with fail
  refine (awake_any _).mono ?_
  rintro e W9 ⟨rfl, hb⟩
  have HF2 := Lib.hid (HBC.out.trans (hb.mono HBC.out.size))
  clear hb
  go_wp2_with fail
  go_ret
  exact ⟨rfl, HF2.out⟩
end Go.Proofs.Ytjoilobbopdcpaa.B
