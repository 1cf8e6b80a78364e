/-
  The real vault's marks, and the document's, walked.
-/
import Derived.Test.YthobfbiobnmceaaVaultN
import Derived.Test.YthobfbiobnmceaaBoxSame
import Derived.Test.YthobfbiobnmceaaSumHC
namespace Go.Proofs.Ythobfbiobnmceaa.B
open Go.RowKit
set_option linter.unusedVariables false
set_option linter.unusedSimpArgs false

/-- The key of the law's vaults. -/
def keyB : ByteArray := (stretchSpec ⟨#[112]⟩ ⟨#[115]⟩ 1 32).1
theorem stretch_ps : stretchSpec ⟨#[112]⟩ ⟨#[115]⟩ 1 32 = (keyB, 0) := by
  have h : (stretchSpec ⟨#[112]⟩ ⟨#[115]⟩ 1 32).2 = 0 := by rw [stretchSpec, if_neg (by decide)]
  rw [← h]
  rfl
theorem keyB_size : keyB.size ≤ 32 := by
  rw [keyB, stretchSpec, if_neg (by decide), strOfNums_size, List.length_take]
  exact Nat.min_le_left _ _
/-- The key for a purpose. -/
def underB (p : ByteArray) : ByteArray := (expandSpec keyB p 32).1
theorem underB_size (p : ByteArray) : (underB p).size ≤ 32 := by
  rw [underB, expandSpec, if_neg (by decide), strOfNums_size, List.length_take]
  exact Nat.min_le_left _ _
def markS : ByteArray := ⟨#[109, 97, 114, 107, 32]⟩
/-- The whole mark of a text, for a purpose. -/
def markW (label s : ByteArray) : ByteArray := strOfNums (hmac (bytesOf (underB (markS ++ label))) (bytesOf s))
theorem markW_size (label s : ByteArray) : (markW label s).size = 32 := by rw [markW, strOfNums_size, hmac, sha_length]
def markR (label s : ByteArray) : ByteArray := (markW label s).extract 0 16
theorem markR_size (label s : ByteArray) : (markR label s).size = 16 := by rw [markR, ByteArray.size_extract, markW_size]; rfl
set_option maxRecDepth 100000 in
theorem under_real (gr : Nat) (p : ByteArray) (hp : p.size ≤ 100000) (w : World) (h : w.heap[gr]? = some (.cells #[.string keyB] 82 (0, 0))) :
    Calls Try.prog 53 #[.pointer (some ⟨gr, 0, none⟩), .string p] w fun e w' => e = .returned (.string (underB p)) ∧ Below w.heap.size w w' := by
  have c0 := (blk_cell h 0).trans rfl
  have HE := Lib.hid (expand_any keyB p 32 (Nat.le_trans keyB_size (by decide)) hp w)
  unfold underB
  generalize keyB = key at HE c0 ⊢
  clear h
  go_enter Try.func53, Try.ntmps53
  go_wp2_with fail
  refine HE.out.mono ?_
  rintro e W1 ⟨rfl, hb⟩
  have HB := Lib.hid hb
  clear hb HE
  go_wp2_with fail
  go_ret
  exact ⟨rfl, HB.out⟩
set_option maxRecDepth 100000 in
theorem mac_real (gr : Nat) (label s : ByteArray) (hl : label.size ≤ 90000) (hs : s.size ≤ 800000) (w : World) (h : w.heap[gr]? = some (.cells #[.string keyB] 82 (0, 0))) :
    Calls Try.prog 35 #[.pointer (some ⟨gr, 0, none⟩), .string label, .string s] w fun e w' => e = .returned (.string (markR label s)) ∧ Below w.heap.size w w' := by
  have hz : (markS ++ label).size ≤ 100000 := by rw [ByteArray.size_append]; have : markS.size = 5 := rfl; omega
  have HU := Lib.hid (under_real gr (markS ++ label) hz w h)
  have HM := Lib.hid (fun W => mac_any (underB (markS ++ label)) s (Nat.le_trans (underB_size _) (by decide)) (by omega) W)
  have hsz := markW_size label s
  unfold markR
  rw [show strOfNums (hmac (bytesOf (underB (markS ++ label))) (bytesOf s)) = markW label s from rfl] at HM
  generalize markW label s = M at HM hsz ⊢
  generalize underB (markS ++ label) = K at HM HU
  have h16 : (16 : Int) ≤ (M.size : Int) := by omega
  clear h hsz
  unfold markS at HU
  go_enter Try.func35, Try.ntmps35
  go_wp2_with fail
  refine HU.out.mono ?_
  rintro e W1 ⟨rfl, hb1⟩
  have HB1 := Lib.hid hb1
  clear hb1 HU
  go_wp2_with fail
  refine (HM.out _).mono ?_
  rintro e W2 ⟨rfl, hb2⟩
  have HB2 := Lib.hid (HB1.out.trans (hb2.mono HB1.out.size))
  clear hb2 HM
  go_wp2_with fail
  go_ret
  exact ⟨rfl, HB2.out⟩
set_option maxRecDepth 100000 in
theorem made_real (gr : Nat) (label s tag : ByteArray) (hl : label.size ≤ 90000) (hs : s.size ≤ 800000) (w : World) (h : w.heap[gr]? = some (.cells #[.string keyB] 82 (0, 0))) :
    Calls Try.prog 55 #[.pointer (some ⟨gr, 0, none⟩), .string label, .string s, .string tag] w fun e w' => e = .returned (.bool (decide (markR label s = tag))) ∧ Below w.heap.size w w' := by
  have HM := Lib.hid (mac_real gr label s hl hs w h)
  have hsz := markR_size label s
  have HS := Lib.hid (fun W => boxSame_any (markR label s) tag (by omega) W)
  generalize markR label s = M at HM HS ⊢
  clear h hsz
  go_enter Try.func55, Try.ntmps55
  go_wp2_with fail
  refine HM.out.mono ?_
  rintro e W1 ⟨rfl, hb1⟩
  have HB1 := Lib.hid hb1
  clear hb1 HM
  go_wp2_with fail
  refine (HS.out _).mono ?_
  rintro e W2 ⟨rfl, hb2⟩
  have HB2 := Lib.hid (HB1.out.trans (hb2.mono HB1.out.size))
  clear hb2 HS
  go_wp2_with fail
  go_ret
  exact ⟨rfl, HB2.out⟩
set_option maxRecDepth 100000 in
theorem none_real (g gr : Nat) (w : World) (h : w.heap[g]? = some (.cells #[.pointer (some ⟨gr, 0, none⟩), .pointer none] 78 (0, 0))) :
    Calls Try.prog 33 #[.pointer (some ⟨g, 0, none⟩)] w fun e w' => e = .returned (.bool false) ∧ w' = w := by
  have c0 := (blk_cell h 0).trans rfl
  have c1 := (blk_cell h 1).trans rfl
  clear h
  go_enter Try.func33, Try.ntmps33
  go_wp2
  go_ret
  exact ⟨rfl, rfl⟩
/-- A real vault at block g. -/
def Vlr (W : World) (g gr : Nat) : Prop := W.heap[g]? = some (.cells #[.pointer (some ⟨gr, 0, none⟩), .pointer none] 78 (0, 0)) ∧ W.heap[gr]? = some (.cells #[.string keyB] 82 (0, 0))
theorem Vlr.below {W W' : World} {g gr : Nat} (h : Vlr W g gr) (hb : Below W.heap.size W W') : Vlr W' g gr :=
  ⟨(hb.block g (blk_lt h.1)).trans h.1, (hb.block gr (blk_lt h.2)).trans h.2⟩
set_option maxRecDepth 100000 in
theorem Mac_real (g gr : Nat) (label s : ByteArray) (hl : label.size ≤ 90000) (hs : s.size ≤ 800000) (w : World) (h : Vlr w g gr) :
    Calls Try.prog 19 #[.pointer (some ⟨g, 0, none⟩), .string label, .string s] w fun e w' => e = .returned (.string (markR label s)) ∧ Below w.heap.size w w' := by
  have c0 := (blk_cell h.1 0).trans rfl
  have c1 := (blk_cell h.1 1).trans rfl
  have HN := Lib.hid (none_real g gr w h.1)
  have HM := Lib.hid (mac_real gr label s hl hs w h.2)
  generalize markR label s = M at HM ⊢
  clear h
  go_enter Try.func19, Try.ntmps19
  go_wp2_with fail
  refine HN.out.mono ?_
  rintro e W1 ⟨rfl, hw1⟩
  subst hw1
  go_wp2_with fail
  refine HM.out.mono ?_
  rintro e W2 ⟨rfl, hb⟩
  have HB := Lib.hid hb
  clear hb HM HN
  go_wp2_with fail
  go_ret
  exact ⟨rfl, HB.out⟩
set_option maxRecDepth 100000 in
theorem Made_real (g gr : Nat) (label s tag : ByteArray) (hl : label.size ≤ 90000) (hs : s.size ≤ 800000) (w : World) (h : Vlr w g gr) :
    Calls Try.prog 36 #[.pointer (some ⟨g, 0, none⟩), .string label, .string s, .string tag] w fun e w' => e = .returned (.bool (decide (markR label s = tag))) ∧ Below w.heap.size w w' := by
  have c0 := (blk_cell h.1 0).trans rfl
  have c1 := (blk_cell h.1 1).trans rfl
  have HN := Lib.hid (none_real g gr w h.1)
  have HM := Lib.hid (made_real gr label s tag hl hs w h.2)
  generalize decide (markR label s = tag) = M at HM ⊢
  clear h
  go_enter Try.func36, Try.ntmps36
  go_wp2_with fail
  refine HN.out.mono ?_
  rintro e W1 ⟨rfl, hw1⟩
  subst hw1
  go_wp2_with fail
  refine HM.out.mono ?_
  rintro e W2 ⟨rfl, hb⟩
  have HB := Lib.hid hb
  clear hb HM HN
  go_wp2_with fail
  go_ret
  exact ⟨rfl, HB.out⟩
set_option maxRecDepth 100000 in
theorem Real_any (w : World) :
    Calls Try.prog 22 #[.string ⟨#[112]⟩, .string ⟨#[115]⟩, .int .i64 1] w fun e w' => ∃ g gr, e = .returned (.tuple #[.pointer (some ⟨g, 0, none⟩), .int .i64 0]) ∧ g < w'.heap.size ∧ gr < w'.heap.size ∧ g ≠ gr ∧ w'.heap[g]? = some (.cells #[.pointer (some ⟨gr, 0, none⟩), .pointer none] 78 (0, 0)) ∧ w'.heap[gr]? = some (.cells #[.string keyB] 82 (0, 0)) ∧ Below w.heap.size w w' := by
  have HS := Lib.hid (stretch_any ⟨#[112]⟩ ⟨#[115]⟩ 1 32 (by decide) (by decide) w)
  rw [stretch_ps] at HS
  generalize keyB = key at HS ⊢
  go_enter Try.func22, Try.ntmps22
  go_wp2_with fail
  refine HS.out.mono ?_
  rintro e W1 ⟨rfl, hb⟩
  have HB := Lib.hid hb
  clear hb HS
  go_wp2_with fail
  go_ret2
  exact ⟨W1.heap.size + 1, W1.heap.size, rfl, by simp, by simp; omega, by omega, get_top (by simp), get_below (get_top rfl), (HB.out.alloc HB.out.size _).alloc (by have := HB.out.size; simp; omega) _⟩
set_option maxRecDepth 100000 in
theorem refReal_any (w : World) :
    Calls Try.prog 23 #[.string ⟨#[112]⟩, .string ⟨#[115]⟩, .int .i64 1] w fun e w' => ∃ g, e = .returned (.tuple #[.pointer (some ⟨g, 0, none⟩), .int .i64 0]) ∧ w.heap.size ≤ g ∧ w'.heap[g]? = some (.cells #[.bool false, .string keyB, .slice none 0 0, .slice none 0 0, .slice none 0 0] 86 (0, 0)) ∧ Below w.heap.size w w' := by
  have HS := Lib.hid (refStretch_any ⟨#[112]⟩ ⟨#[115]⟩ 1 32 (by decide) (by decide) w)
  rw [stretch_ps] at HS
  generalize keyB = key at HS ⊢
  go_enter Try.func23, Try.ntmps23
  go_wp2_with fail
  refine HS.out.mono ?_
  rintro e W1 ⟨rfl, hb⟩
  have HB := Lib.hid hb
  clear hb HS
  go_wp2_with fail
  go_ret2
  exact ⟨W1.heap.size, rfl, HB.out.size, get_top rfl, HB.out.alloc HB.out.size _⟩
/-- The document's real vault at block g. -/
def RefV (W : World) (g : Nat) : Prop := W.heap[g]? = some (.cells #[.bool false, .string keyB, .slice none 0 0, .slice none 0 0, .slice none 0 0] 86 (0, 0))
theorem RefV.below {W W' : World} {g : Nat} (h : RefV W g) (hb : Below W.heap.size W W') : RefV W' g := (hb.block g (blk_lt h)).trans h
set_option maxRecDepth 100000 in
theorem refUnder_any (g : Nat) (p : ByteArray) (hp : p.size ≤ 100000) (w : World) (h : RefV w g) :
    Calls Try.prog 40 #[.pointer (some ⟨g, 0, none⟩), .string p] w fun e w' => e = .returned (.string (underB p)) ∧ Below w.heap.size w w' := by
  have c1 := (blk_cell h 1).trans rfl
  have HE := Lib.hid (refExpand_any keyB p 32 (Nat.le_trans keyB_size (by decide)) hp w)
  unfold underB
  generalize keyB = key at HE c1 ⊢
  clear h
  go_enter Try.func40, Try.ntmps40
  go_wp2_with fail
  refine HE.out.mono ?_
  rintro e W1 ⟨rfl, hb⟩
  have HB := Lib.hid hb
  clear hb HE
  go_wp2_with fail
  go_ret
  exact ⟨rfl, HB.out⟩
set_option maxRecDepth 100000 in
theorem refVMac_any (g : Nat) (label s : ByteArray) (hl : label.size ≤ 90000) (hs : s.size ≤ 800000) (w : World) (h : RefV w g) :
    Calls Try.prog 24 #[.pointer (some ⟨g, 0, none⟩), .string label, .string s] w fun e w' => e = .returned (.string (markR label s)) ∧ Below w.heap.size w w' := by
  have c0 := (blk_cell h 0).trans rfl
  have hz : (markS ++ label).size ≤ 100000 := by rw [ByteArray.size_append]; have : markS.size = 5 := rfl; omega
  have HU := Lib.hid (refUnder_any g (markS ++ label) hz w h)
  have HM := Lib.hid (fun W => refMac_any (underB (markS ++ label)) s (Nat.le_trans (underB_size _) (by decide)) (by omega) W)
  have hsz := markW_size label s
  unfold markR
  rw [show strOfNums (hmac (bytesOf (underB (markS ++ label))) (bytesOf s)) = markW label s from rfl] at HM
  generalize markW label s = M at HM hsz ⊢
  generalize underB (markS ++ label) = K at HM HU
  have h16 : (16 : Int) ≤ (M.size : Int) := by omega
  clear h hsz
  unfold markS at HU
  go_enter Try.func24, Try.ntmps24
  go_wp2_with fail
  refine HU.out.mono ?_
  rintro e W1 ⟨rfl, hb1⟩
  have HB1 := Lib.hid hb1
  clear hb1 HU
  go_wp2_with fail
  refine (HM.out _).mono ?_
  rintro e W2 ⟨rfl, hb2⟩
  have HB2 := Lib.hid (HB1.out.trans (hb2.mono HB1.out.size))
  clear hb2 HM
  go_wp2_with fail
  go_ret
  exact ⟨rfl, HB2.out⟩
end Go.Proofs.Ythobfbiobnmceaa.B
