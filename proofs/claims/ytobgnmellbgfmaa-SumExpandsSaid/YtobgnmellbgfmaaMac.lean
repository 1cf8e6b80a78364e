/-
  sum.Mac and Extract, walked.
-/
import Derived.Test.YtobgnmellbgfmaaPads
namespace Go.Proofs.Ytobgnmellbgfmaa.B
open Go.RowKit
set_option linter.unusedVariables false

theorem stored_mix {W1 : World} {g : Nat} {Z : List Value} (hZ : Z.length = 75) (h : W1.heap[g]? = some (.cells (splc mix0 0 Z).toArray 38 (0, 0))) : W1.heap[g]? = some (.cells Z.toArray 38 (0, 0)) := by
  rw [h, splc_whole hZ]
/-- Two mixes are laid into two new variables: what the first store leaves, and the second. -/
structure Laid1 (w : World) (g : Nat) (Zi : List Value) (W : World) : Prop where
  bel : Below w.heap.size w W
  h1 : W.heap[g]? = some (.cells Zi.toArray 38 (0, 0))
  h2 : W.heap[g + 1]? = some (.cells mix0.toArray 38 (0, 0))
  ge : w.heap.size ≤ g
structure Laid2 (w : World) (g : Nat) (Zi Zo : List Value) (W : World) : Prop where
  bel : Below w.heap.size w W
  h1 : W.heap[g]? = some (.cells Zi.toArray 38 (0, 0))
  h2 : W.heap[g + 1]? = some (.cells Zo.toArray 38 (0, 0))
  ge : w.heap.size ≤ g
theorem laid1 {w W1 W2 : World} {Zi : List Value} {K : List Int} (hz : MixZ Zi K) (hb : Below w.heap.size w W1) (h : W2.heap[W1.heap.size]? = some (.cells (splc mix0 0 Zi).toArray 38 (0, 0)))
    (hk : Keeps (fun i => i = W1.heap.size) ((W1.alloc (.cells mix0.toArray 38 (0, 0))).alloc (.cells mix0.toArray 38 (0, 0))) W2) : Laid1 w W1.heap.size Zi W2 := by
  have hs := hb.size
  refine ⟨(hb.trans ((((Below.refl _ W1).alloc (Nat.le_refl _) _).alloc (by simp) _).mono hs)).trans (hk.below (by simp; omega) (by intro i hi; omega)), stored_mix hz.length h, hk.at_ (get_top (by simp)) (by omega), hs⟩
theorem laid2 {w W2 W3 : World} {Zi Zo : List Value} {K : List Int} {g : Nat} (hz : MixZ Zo K) (hl : Laid1 w g Zi W2) (h : W3.heap[g + 1]? = some (.cells (splc mix0 0 Zo).toArray 38 (0, 0)))
    (hk : Keeps (fun i => i = g + 1) W2 W3) : Laid2 w g Zi Zo W3 := by
  have hs := hl.ge
  exact ⟨hl.bel.trans (hk.below hl.bel.size (by intro i hi; omega)), hk.at_ hl.h1 (by omega), stored_mix hz.length h, hs⟩
theorem Laid2.below {w W W1 : World} {g : Nat} {Zi Zo : List Value} (h : Laid2 w g Zi Zo W) (hb : Below W.heap.size W W1) : Laid2 w g Zi Zo W1 :=
  ⟨h.bel.trans (hb.mono h.bel.size), (hb.block _ (blk_lt h.h1)).trans h.h1, (hb.block _ (blk_lt h.h2)).trans h.h2, h.ge⟩
set_option maxRecDepth 100000 in
set_option maxHeartbeats 1600000 in
theorem mac_any (key s : ByteArray) (hk : key.size ≤ 800000000000) (hs : s.size ≤ 800000000000) (w : World) :
    Calls Try.prog 19 #[.string key, .string s] w fun e w' => e = .returned (.string (strOfNums (hmac (bytesOf key) (bytesOf s)))) ∧ Below w.heap.size w w' := by
  have hum := Try.underlying38
  have HUM := Lib.hid hum
  clear hum
  go_enter Try.func19, Try.ntmps19
  go_wp2_with fail
  refine (pads_any key hk w).mono ?_
  rintro e W1 ⟨Zi, Zo, rfl, hzi, hzo, hb1⟩
  have HZI := Lib.hid hzi
  have HZO := Lib.hid hzo
  have HB1 := Lib.hid hb1
  have HIM := Lib.hid (show (Try.prog.info? 38).map (·.size) = some Zi.length by rw [infoMix, hzi.length])
  have HOM := Lib.hid (show (Try.prog.info? 38).map (·.size) = some Zo.length by rw [infoMix, hzo.length])
  have HBO := Lib.hid (fun W => both_any Zi Zo (ipad (bytesOf key)) (opad (bytesOf key)) s hzi hzo (by rw [ipad_length]; omega) (by rw [opad_length]; omega) hs W)
  clear hzi hzo hb1
  go_wp2_with (first | (refine wpList_alloc_known (by rfl) 38 (by rfl) mix0.toArray (mix0_zero _) ?_) | (refine wpList_store_part (by rfl) 38 (.tmp 5) (.tmp 10) (by rfl) W1.heap.size 0 Zi mix0 38 (by rfl) (by rfl) (get_below (get_top rfl)) (by rw [HZI.out.length]; exact Nat.le_refl _) HIM.out HZI.out.one ?_; intro W2 hW2 hK2; have HL1 := Lib.hid (laid1 HZI.out HB1.out hW2 hK2); clear hW2 hK2) | (refine wpList_store_part (by rfl) 38 (.tmp 6) (.tmp 11) (by rfl) (W1.heap.size + 1) 0 Zo mix0 38 (by first | rfl | simp [go_sem]) (by rfl) HL1.out.h2 (by rw [HZO.out.length]; exact Nat.le_refl _) HOM.out HZO.out.one ?_; intro W3 hW3 hK3; have HL2 := Lib.hid (laid2 HZO.out HL1.out hW3 hK3); clear hW3 hK3) | (refine wpList_load_row (by rfl) 38 (.tmp 5) (by rfl) W1.heap.size (by rfl) 38 Zi.toArray (0, 0) _ HL2.out.h1 HUM.out rfl (by simpa using HIM.out) ?_) | (refine wpList_load_row (by rfl) 38 (.tmp 6) (by rfl) (W1.heap.size + 1) (by first | rfl | simp [go_sem]) 38 Zo.toArray (0, 0) _ HL2.out.h2 HUM.out rfl (by simpa using HOM.out) ?_))
  refine (HBO.out _).mono ?_
  rintro e W4 ⟨rfl, hb4⟩
  have HB4 := Lib.hid (HL2.out.bel.trans (hb4.mono HL2.out.bel.size))
  clear hb4 HBO
  go_wp2
  go_ret
  exact ⟨rfl, HB4.out⟩
theorem extract_any (key s : ByteArray) (hk : key.size ≤ 800000000000) (hs : s.size ≤ 800000000000) (w : World) :
    Calls Try.prog 21 #[.string key, .string s] w fun e w' => e = .returned (.string (strOfNums (hmac (bytesOf key) (bytesOf s)))) ∧ Below w.heap.size w w' := by
  go_enter Try.func21, Try.ntmps21
  go_wp2_with fail
  refine (mac_any key s hk hs w).mono ?_
  rintro e W1 ⟨rfl, hb1⟩
  have HB1 := Lib.hid hb1
  clear hb1
  go_wp2
  go_ret
  exact ⟨rfl, HB1.out⟩
end Go.Proofs.Ytobgnmellbgfmaa.B
