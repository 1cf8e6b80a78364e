/-
  sum.both, walked: two mixes by value: what the second one tells of the first one's sum.
-/
import Derived.Test.YtobgnmellbgfmaaSum
namespace Go.Proofs.Ytobgnmellbgfmaa.B
open Go.RowKit
set_option linter.unusedVariables false

/-- The cells of a mix that has taken bs. -/
def MixZ (Z : List Value) (bs : List Int) : Prop := ∃ P, P.take (bs.length % 64) = bs.drop (64 * (bs.length / 64)) ∧ Z = mixC (shaN bs (bs.length / 64)) P ((bs.length % 64 : Nat) : Int) bs.length ∧ P.length = 64 ∧ Bs P
theorem Mx.cells {W : World} {g : Nat} {bs : List Int} (h : Mx W g bs) : ∃ Z, MixZ Z bs ∧ W.heap[g]? = some (.cells Z.toArray 38 (0, 0)) := by
  obtain ⟨P, h1, h2, h3⟩ := h
  exact ⟨_, ⟨P, h1, rfl, h2.p64, h3⟩, h2.blk⟩
theorem MixZ.mx {W : World} {g : Nat} {Z : List Value} {bs : List Int} (h : MixZ Z bs) (hg : W.heap[g]? = some (.cells Z.toArray 38 (0, 0))) : Mx W g bs := by
  obtain ⟨P, h1, rfl, h2, h3⟩ := h
  exact ⟨P, h1, ⟨hg, shaN_length _ _, h2⟩, h3⟩
theorem MixZ.length {Z : List Value} {bs : List Int} (h : MixZ Z bs) : Z.length = 75 := by
  obtain ⟨P, h1, rfl, h2, h3⟩ := h
  exact mixC_length (shaN_length _ _) h2 _ _
theorem MixZ.one {Z : List Value} {bs : List Int} (h : MixZ Z bs) : ∀ v ∈ Z, v.oneCell' = true := by
  obtain ⟨P, h1, rfl, h2, h3⟩ := h
  exact mixC_oneCell _ _ _ _

set_option maxRecDepth 100000 in
set_option maxHeartbeats 1600000 in
theorem both_any (Zi Zo : List Value) (x y : List Int) (s : ByteArray) (hi : MixZ Zi x) (ho : MixZ Zo y) (hx : x.length ≤ 1000000) (hy : y.length ≤ 1000000) (hs : s.size ≤ 800000000000) (w : World) :
    Calls Try.prog 33 #[.agg Zi.toArray, .agg Zo.toArray, .string s] w fun e w' => e = .returned (.string (strOfNums (sha (y ++ sha (x ++ bytesOf s))))) ∧ Below w.heap.size w w' := by
  have h1 : Mx ((w.alloc (.cells Zi.toArray 38 (0, 0))).alloc (.cells Zo.toArray 38 (0, 0))) w.heap.size x := hi.mx (get_below (get_top rfl))
  have h2 : Mx ((w.alloc (.cells Zi.toArray 38 (0, 0))).alloc (.cells Zo.toArray 38 (0, 0))) (w.heap.size + 1) y := ho.mx (get_top (by simp))
  have hb : Below w.heap.size w ((w.alloc (.cells Zi.toArray 38 (0, 0))).alloc (.cells Zo.toArray 38 (0, 0))) := ((Below.refl _ w).alloc (Nat.le_refl _) _).alloc (by simp) _
  have HF1 := Lib.hid (feed_any w.heap.size s x _ h1 (by omega))
  have H2 := Lib.hid h2
  have HB := Lib.hid hb
  have HX := Lib.hid hx
  have HY := Lib.hid hy
  clear h1 h2 hb hx hy hi ho
  go_enter Try.func33, Try.ntmps33
  go_wp2_with (first | (refine wpList_box (by rfl) 38 (.tmp 0) (by rfl) Zi.toArray (by rfl) ?_) | (refine wpList_box (by rfl) 38 (.tmp 1) (by rfl) Zo.toArray (by rfl) ?_))
  refine HF1.out.mono ?_
  rintro e W1 ⟨rfl, hm1, hk1⟩
  have HT1 := Lib.hid (told_any w.heap.size _ W1 hm1 (by rw [List.length_append, bytesOf_length]; have := HX.out; omega))
  have HM2 := Lib.hid (H2.out.kept hk1 (by omega))
  have HB1 := Lib.hid (HB.out.trans (hk1.below HB.out.size (by intro i hi; omega)))
  clear hm1 hk1 HF1 H2 HB
  go_wp2_with fail
  refine HT1.out.mono ?_
  rintro e W2 ⟨rfl, hb2⟩
  have hlen : (strOfNums (sha (x ++ bytesOf s))).size = 32 := by rw [strOfNums_size, sha_length]
  have HF2 := Lib.hid (feed_any (w.heap.size + 1) (strOfNums (sha (x ++ bytesOf s))) y W2 (HM2.out.below hb2 HM2.out.lt) (by rw [hlen]; have := HY.out; omega))
  have HB2 := Lib.hid (HB1.out.trans (hb2.mono HB1.out.size))
  clear hb2 hlen HM2 HB1 HT1
  go_wp2_with fail
  refine HF2.out.mono ?_
  rintro e W3 ⟨rfl, hm3, hk3⟩
  rw [bytesOf_strOfNums _ (sha_b _)] at hm3
  have HT3 := Lib.hid (told_any (w.heap.size + 1) _ W3 hm3 (by rw [List.length_append, sha_length]; have := HY.out; omega))
  have HB3 := Lib.hid (HB2.out.trans (hk3.below HB2.out.size (by intro i hi; omega)))
  clear hm3 hk3 HF2 HB2
  go_wp2_with fail
  refine HT3.out.mono ?_
  rintro e W4 ⟨rfl, hb4⟩
  have HB4 := Lib.hid (HB3.out.trans (hb4.mono HB3.out.size))
  clear hb4 HT3 HB3
  go_wp2
  go_ret
  exact ⟨rfl, HB4.out⟩
end Go.Proofs.Ytobgnmellbgfmaa.B
