/-
  report.fields, walked: numbers, each in its width, one behind the other into a builder.
-/
import Derived.Test.YthobfbiobnmceaaRising
import Derived.Test.YthobfbiobnmceaaPut
namespace Go.Proofs.Ythobfbiobnmceaa.B
open Go.RowKit
set_option linter.unusedVariables false
set_option linter.unusedSimpArgs false

theorem bytes_append (a b : ByteArray) : bytesOf (a ++ b) = bytesOf a ++ bytesOf b := by simp [bytesOf]
theorem putSpec_size (n w : Int) : (putSpec n w).1.size ≤ 6 := by
  unfold putSpec
  split
  · exact Nat.zero_le _
  · split
    · rw [strOfNums_size, le_length]; omega
    · exact Nat.zero_le _
def fieldsSpec : List (Int × Int) → ByteArray → ByteArray × Int
  | [], s => (s, 0)
  | p :: r, s => if (putSpec p.1 p.2).2 = 0 then fieldsSpec r (s ++ (putSpec p.1 p.2).1) else (s, (putSpec p.1 p.2).2)
def pairCells (ps : List (Int × Int)) : List Value := ps.flatMap fun p => [.int .i64 p.1, .int .i64 p.2]
theorem pairCells_get : ∀ (ps : List (Int × Int)) (i : Nat) (p : Int × Int), ps[i]? = some p → (pairCells ps)[i * 2]? = some (.int .i64 p.1) ∧ (pairCells ps)[i * 2 + 1]? = some (.int .i64 p.2)
  | [], i, p, h => by simp at h
  | q :: r, 0, p, h => by
    simp at h
    subst h
    exact ⟨rfl, rfl⟩
  | q :: r, i + 1, p, h => by
    have := pairCells_get r i p (by simpa using h)
    have e : pairCells (q :: r) = .int .i64 q.1 :: .int .i64 q.2 :: pairCells r := rfl
    rw [e, show (i + 1) * 2 = i * 2 + 1 + 1 by omega]
    exact this
def PairRow (w : World) (b : Nat) (ps : List (Int × Int)) : Prop := w.heap[b]? = some (.cells (pairCells ps).toArray 60 (0, 0))
structure FldI (w : World) (g b : Nat) (ps : List (Int × Int)) (s : ByteArray) (W : World) : Prop where
  fr : BFrame g w W
  bld : Bld W g (bytesOf s)
  row : PairRow W b ps
theorem FldI.below {w W W1 : World} {g b : Nat} {ps : List (Int × Int)} {s : ByteArray} (h : FldI w g b ps s W) (hb : Below W.heap.size W W1) : FldI w g b ps s W1 :=
  ⟨h.fr.trans (BFrame.of_below (Nat.le_of_lt h.bld.lt) hb), h.bld.below hb, (hb.block b (blk_lt h.row)).trans h.row⟩
theorem FldI.put {w W W1 : World} {g b : Nat} {ps : List (Int × Int)} {s s1 : ByteArray} (h : FldI w g b ps s W) (hgb : b ≠ g) (hb : Bld W1 g (bytesOf s1)) (hf : BFrame g W W1) : FldI w g b ps s1 W1 :=
  ⟨h.fr.trans hf, hb, hf.rest b _ _ _ hgb h.row (by decide)⟩
set_option maxRecDepth 100000 in
set_option maxHeartbeats 3200000 in
theorem fields_any (g b : Nat) (ps : List (Int × Int)) (s : ByteArray) (w : World) (hgb : b ≠ g) (h : Bld w g (bytesOf s)) (hp : PairRow w b ps) (hsz : s.size + 6 * ps.length ≤ 100000000) (hw : ∀ p ∈ ps, -9223372036854775808 ≤ p.1 ∧ p.1 ≤ 9223372036854775807) :
    Calls Try.prog 27 #[.pointer (some ⟨g, 0, none⟩), .slice (some ⟨b, 0, none⟩) ps.length ps.length] w fun e w' => e = .returned (.int .i64 (fieldsSpec ps s).2) ∧ Bld w' g (bytesOf (fieldsSpec ps s).1) ∧ BFrame g w w' := by
  obtain ⟨R, hR⟩ : ∃ R, R = fieldsSpec ps s := ⟨_, rfl⟩
  rw [← hR]
  have HR := Lib.hid hR
  obtain ⟨n, hn⟩ : ∃ n, n = ps.length := ⟨_, rfl⟩
  rw [← hn] at hsz ⊢
  have HN := Lib.hid hn
  have HI0 := Lib.hid (show FldI w g b ps s w from ⟨BFrame.refl _ _, h, hp⟩)
  have HW := Lib.hid hw
  clear hR hn h hp hw
  go_enter Try.func27, Try.ntmps27
  go_wp2_with fail
  go_loopg [11] n (fun j i wr => ∃ (k : Nat) (s1 : ByteArray), j + k = n ∧ i = .int .i64 (k : Int) ∧ R = fieldsSpec (ps.drop k) s1 ∧ s1.size + 6 * j ≤ 100000000 ∧ FldI w g b ps s1 wr)
  case atStart => exact ⟨0, s, rfl, rfl, HR.out, hsz, HI0.out⟩
  case round =>
    clear HI0 HR
    obtain ⟨k, s1, hk, rfl, hq, hs1, hI⟩ := hrel
    by_cases hlt : k < n
    · obtain ⟨j, rfl⟩ : ∃ j, gk = j + 1 := ⟨gk - 1, by omega⟩
      have hlen : k < ps.length := by rw [← HN.out]; exact hlt
      rw [List.drop_eq_getElem_cons hlen] at hq
      have hget : ps[k]? = some ps[k] := List.getElem?_eq_getElem hlen
      obtain ⟨hc1, hc2⟩ := pairCells_get ps k _ hget
      have hrange := HW.out ps[k] (List.getElem_mem hlen)
      obtain ⟨⟨x, y⟩, hxy⟩ : ∃ p, p = ps[k] := ⟨_, rfl⟩
      rw [← hxy] at hq hc1 hc2 hrange
      have c1 : wr.cell? ⟨b, k * 2, none⟩ = some (.int .i64 x) := by rw [blk_cell hI.row]; simpa using hc1
      have c2 : wr.cell? ⟨b, k * 2 + 1, none⟩ = some (.int .i64 y) := by rw [blk_cell hI.row]; simpa using hc2
      have HP := Lib.hid (Put_any x y hrange.1 hrange.2)
      have hps := putSpec_size x y
      obtain ⟨⟨t, st⟩, ht⟩ : ∃ q, q = putSpec x y := ⟨_, rfl⟩
      simp only [fieldsSpec] at hq
      rw [← ht] at hq HP hps
      simp only at hq HP hps
      have HQ := Lib.hid hq
      have HI := Lib.hid hI
      have u0 : (0 : Int) ≤ (k : Int) := by omega
      have u1 : (k : Int) < (n : Int) := by omega
      clear hq hI hc1 hc2 hrange hxy hget ht hlen
      go_wp2_with fail
      refine (HP.out _).mono ?_
      rintro e W1 ⟨rfl, hb1⟩
      have HI1 := Lib.hid (HI.out.below (((Below.refl _ wr).alloc (Nat.le_refl _) _).trans (hb1.mono (by simp))))
      have hq := HQ.out
      clear HI hb1 HQ HP c1 c2
      by_cases hz : st = 0
      · subst hz
        rw [if_pos rfl] at hq
        have HQ := Lib.hid hq
        have HWS := Lib.hid (writeString_any g t (bytesOf s1) W1 HI1.out.bld (by rw [bytesOf_length]; omega))
        clear hq
        go_wp2_with fail
        refine HWS.out.mono ?_
        rintro e W2 ⟨rfl, hb2, hf2⟩
        rw [← bytes_append] at hb2
        have HI2 := Lib.hid (HI1.out.put hgb hb2 hf2)
        clear HI1 HWS hb2 hf2
        go_wp2_with fail
        go_roundg j
        case measure => omega
        case rel => exact ⟨k + 1, s1 ++ t, by omega, by go_num, HQ.out, by rw [ByteArray.size_append]; omega, HI2.out⟩
      · rw [if_neg hz] at hq
        have HQ := Lib.hid hq
        clear hq
        go_wp2_with fail
        go_ret
        rw [HQ.out]
        exact ⟨rfl, HI1.out.bld, HI1.out.fr⟩
    · obtain rfl : gk = 0 := by omega
      obtain rfl : k = n := by omega
      rw [List.drop_of_length_le (by rw [← HN.out]; exact Nat.le_refl _)] at hq
      have HQ := Lib.hid hq
      have HI := Lib.hid hI
      clear hq hI
      go_wp2_with fail
      go_ret
      rw [HQ.out]
      exact ⟨rfl, HI.out.bld, HI.out.fr⟩
end Go.Proofs.Ythobfbiobnmceaa.B
