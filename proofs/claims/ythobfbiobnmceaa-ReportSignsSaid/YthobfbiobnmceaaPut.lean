/-
  pack.Put walked: what it answers at every number and width.
-/
import Derived.Test.YthobfbiobnmceaaProg
import Derived.Test.YthobfbiobnmceaaWriter
namespace Go.Proofs.Ythobfbiobnmceaa.B
open Go.RowKit
set_option linter.unusedVariables false

/-- What a writer that was just made holds. -/
theorem Wr.made (w : World) : Wr (w.alloc (.cells #[.slice none 0 0, .bool false] 120)) w.heap.size (.slice none 0 0) [] false :=
  ⟨heap_alloc_new w _, Row.nil _ _ _, by simp [Value.ownBlock]⟩

/-- Has a number room in so many bytes? -/
def fits (n : Int) (k : Nat) : Bool := decide (0 ≤ n) && (n / 2 ^ (8 * k) == 0)
/-- What stands behind a put. -/
def putXs (xs : List Int) (n : Int) (k : Nat) : List Int := if fits n k = true then xs ++ le n k else xs
def putBad (bad : Bool) (n : Int) (k : Nat) : Bool := if fits n k = true then bad else true

theorem put_any (g : Nat) (v : Value) (xs : List Int) (bad : Bool) (n width : Int) (w : World) (h : Wr w g v xs bad) (hx : xs.length ≤ 1000000) (hn : -9223372036854775808 ≤ n) (hn2 : n ≤ 9223372036854775807) (h0 : 0 ≤ width) (h6 : width ≤ 6) :
    Calls Try.prog 61 #[.pointer (some ⟨g, 0, none⟩), .int .i64 n, .int .i64 width] w fun e w' => e = .returned (.tuple #[]) ∧ WrTo g v w (putXs xs n width.toNat) (putBad bad n width.toNat) w' := by
  have hpow : (8 * width).toNat = 8 * width.toNat := by omega
  by_cases hneg : n < 0
  · have hf : fits n width.toNat = false := by simp [fits]; omega
    rw [putXs, putBad, hf]
    exact put_neg g v xs bad n width w h hneg
  · by_cases hov : n / 2 ^ (8 * width.toNat) = 0
    · have hf : fits n width.toNat = true := by simp [fits, hov]; omega
      rw [putXs, putBad, hf]
      exact put_good g v xs bad n width w h hx (by omega) hn2 h0 h6 (by rw [hpow, hov]; rfl)
    · have hf : fits n width.toNat = false := by simp [fits, hov]
      rw [putXs, putBad, hf]
      exact put_over g v xs bad n width w h (by omega) hn2 h0 h6 (by rw [hpow]; simpa using hov)

/-- What Put answers. -/
def putSpec (n width : Int) : ByteArray × Int := if width < 1 ∨ 6 < width then (⟨#[]⟩, 1) else if fits n width.toNat = true then (strOfNums (le n width.toNat), 0) else (⟨#[]⟩, 2)

/-- What is left of the world behind a call that worked on a writer of its own. -/
theorem WrTo.below {w w1 : World} {o : Obj} {xs : List Int} {bad : Bool} (h : WrTo w.heap.size (.slice none 0 0) (w.alloc o) xs bad w1) : Below w.heap.size w w1 := by
  obtain ⟨v', _, hk, _⟩ := h
  have h1 : Below w.heap.size (w.alloc o) w1 := hk.below (by simp) (fun i hi hs => by
    rcases hs with hs | hs
    · omega
    · simp [Value.ownBlock] at hs)
  exact ((Below.refl _ w).alloc (Nat.le_refl _) o).trans h1

set_option maxRecDepth 100000 in
theorem Put_any (n width : Int) (hn : -9223372036854775808 ≤ n) (hn2 : n ≤ 9223372036854775807) (w : World) :
    Calls Try.prog 43 #[.int .i64 n, .int .i64 width] w fun e w' => e = .returned (.tuple #[.string (putSpec n width).1, .int .i64 (putSpec n width).2]) ∧ Below w.heap.size w w' := by
  by_cases h1 : width < 1
  · have hs : putSpec n width = (⟨#[]⟩, 1) := by simp [putSpec, h1]
    have HS := Lib.hid hs
    clear hs
    go_enter Try.func43, Try.ntmps43
    go_wp2
    go_ret2
    rw [HS.out]
    exact ⟨rfl, Below.refl _ _⟩
  by_cases h6 : 6 < width
  · have hs : putSpec n width = (⟨#[]⟩, 1) := by simp [putSpec, h6]
    have HS := Lib.hid hs
    clear hs
    go_enter Try.func43, Try.ntmps43
    go_wp2
    go_ret2
    rw [HS.out]
    exact ⟨rfl, Below.refl _ _⟩
  have hw := Wr.made w
  have HW := Lib.hid hw
  clear hw
  by_cases hf : fits n width.toNat = true
  · have hs : putSpec n width = (strOfNums (le n width.toNat), 0) := by rw [putSpec, if_neg (by omega), if_pos hf]
    have HS := Lib.hid hs
    have hx : putXs [] n width.toNat = le n width.toNat := by rw [putXs, if_pos hf]; rfl
    have hb : putBad false n width.toNat = false := by rw [putBad, if_pos hf]
    have HX := Lib.hid hx
    have HB := Lib.hid hb
    clear hs hx hb hf
    go_enter Try.func43, Try.ntmps43
    go_wp2_with fail
    refine (put_any _ _ _ _ n width _ HW.out (by simp) hn hn2 (by omega) (by omega)).mono ?_
    rintro e w1 ⟨rfl, hw1⟩
    rw [HX.out, HB.out] at hw1
    have HB1 := Lib.hid (WrTo.below hw1)
    obtain ⟨v', hW, hK, hv⟩ := hw1
    obtain ⟨ao, cap, rfl, hcap⟩ := hW.own.form
    have hc0 := blk_cell hW.blk 0
    have hc1 := blk_cell hW.blk 1
    have hcs := row_string (P := Try.prog) Try.underlying50 Try.underlying5 Try.underlying9 hW.own
    clear hW hK hv
    go_wp2
    go_ret2
    rw [HS.out]
    exact ⟨rfl, HB1.out⟩
  · have hs : putSpec n width = (⟨#[]⟩, 2) := by rw [putSpec, if_neg (by omega), if_neg hf]
    have HS := Lib.hid hs
    have hb : putBad false n width.toNat = true := by rw [putBad, if_neg hf]
    have HB := Lib.hid hb
    clear hs hb hf
    go_enter Try.func43, Try.ntmps43
    go_wp2_with fail
    refine (put_any _ _ _ _ n width _ HW.out (by simp) hn hn2 (by omega) (by omega)).mono ?_
    rintro e w1 ⟨rfl, hw1⟩
    rw [HB.out] at hw1
    have HB1 := Lib.hid (WrTo.below hw1)
    obtain ⟨v', hW, hK, hv⟩ := hw1
    have hc1 := blk_cell hW.blk 1
    clear hW hK hv
    go_wp2
    go_ret2
    rw [HS.out]
    exact ⟨rfl, HB1.out⟩

end Go.Proofs.Ythobfbiobnmceaa.B
