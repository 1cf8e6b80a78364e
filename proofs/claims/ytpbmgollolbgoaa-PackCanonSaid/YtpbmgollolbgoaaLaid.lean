/-
  The document's laid (grapnelref01.laid), walked: numbers, each in its width, one behind the other.
-/
import Derived.Test.YtpbmgollolbgoaaHead
namespace Go.Proofs.Ytpbmgollolbgoaa.B
open Go.RowKit
set_option linter.unusedVariables false

def ints (xs : List Int) : List Value := xs.map fun x => .int .i64 x
theorem ints_length (xs : List Int) : (ints xs).length = xs.length := by simp [ints]
/-- Numbers and widths, side by side. -/
def sides (l : List Int) (ws : List Int) : List (Int × Nat) := (l.zip ws).map fun p => (p.1, p.2.toNat)
theorem putSpec_good (n w : Int) (h1 : 1 ≤ w) (h6 : w ≤ 6) : putSpec n w = if fits n w.toNat = true then (strOfNums (le n w.toNat), 0) else (⟨#[]⟩, 2) := by rw [putSpec, if_neg (by omega)]
def laidSpec (fs : List (Int × Nat)) : ByteArray × Bool := if good fs = true then (strOfNums (lay fs), true) else (⟨#[]⟩, false)
theorem good_append (a b : List (Int × Nat)) : good (a ++ b) = (good a && good b) := by simp [good]
theorem lay_append (a b : List (Int × Nat)) : lay (a ++ b) = lay a ++ lay b := by simp [lay]
theorem sides_take (l ws : List Int) (k : Nat) (h1 : k < l.length) (h2 : k < ws.length) : (sides l ws).take (k + 1) = (sides l ws).take k ++ [(l.getD k 0, (ws.getD k 0).toNat)] := by
  have hk : k < (sides l ws).length := by simp [sides]; omega
  rw [List.take_add_one, List.getElem?_eq_getElem hk]
  simp [sides, List.getD, List.getElem?_eq_getElem h1, List.getElem?_eq_getElem h2]

theorem good_take {fs : List (Int × Nat)} (k : Nat) (h : good fs = true) : good (fs.take k) = true := by
  simp only [good, List.all_eq_true] at h ⊢
  exact fun x hx => h x (List.mem_of_mem_take hx)
theorem lay_small (l ws : List Int) (k : Nat) (hk : k ≤ 1000) (hw : ∀ x ∈ ws, 1 ≤ x ∧ x ≤ 6) : (lay ((sides l ws).take k)).length ≤ 100000000 := by
  have h : ∀ fs : List (Int × Nat), (∀ f ∈ fs, f.2 ≤ 6) → (lay fs).length ≤ 6 * fs.length := by
    intro fs
    induction fs with
    | nil => intro _; simp [lay]
    | cons f r ih =>
      intro hf
      have h1 := hf f (by simp)
      have h2 := ih (fun g hg => hf g (by simp [hg]))
      have h3 : lay (f :: r) = le f.1 f.2 ++ lay r := rfl
      rw [h3, List.length_append, le_length, List.length_cons]
      omega
  have h2 := h ((sides l ws).take k) (fun f hf => by
    have := List.mem_of_mem_take hf
    simp only [sides, List.mem_map] at this
    obtain ⟨p, hp, rfl⟩ := this
    have := hw p.2 (List.of_mem_zip hp).2
    show p.2.toNat ≤ 6
    omega)
  have h3 : ((sides l ws).take k).length ≤ k := List.length_take_le _ _
  omega

theorem laid_any (v1 v2 : Value) (l ws : List Int) (w : World) (h1 : Row w 3 1 v1 l.length (ints l)) (h2 : Row w 3 1 v2 ws.length (ints ws)) (hlen : l.length = ws.length) (hl : l.length ≤ 1000)
    (hr : ∀ x ∈ l, -9223372036854775808 ≤ x ∧ x ≤ 9223372036854775807) (hw : ∀ x ∈ ws, 1 ≤ x ∧ x ≤ 6) :
    Calls Try.prog 46 #[v1, v2] w fun e w' => e = .returned (.tuple #[.string (laidSpec (sides l ws)).1, .bool (laidSpec (sides l ws)).2]) ∧ Below w.heap.size w w' := by
  obtain ⟨a1, c1, rfl, hc1⟩ := h1.form
  obtain ⟨a2, c2, rfl, hc2⟩ := h2.form
  have R1 := Lib.hid h1
  have R2 := Lib.hid h2
  have HL := Lib.hid hlen
  have HW := Lib.hid hw
  clear h1 h2 hlen
  go_enter Try.func46, Try.ntmps46
  go_wp2
  go_loopg [6, 7] l.length (fun j s i wr => ∃ k : Nat, j + k = l.length ∧ i = .int .i64 k ∧ s = .string (strOfNums (lay ((sides l ws).take k))) ∧ Aside (good ((sides l ws).take k) = true ∧ Below w.heap.size w wr))
  case atStart => exact ⟨0, rfl, rfl, rfl, rfl, Below.refl _ _⟩
  case round =>
    obtain ⟨k, hk, rfl, rfl, hA⟩ := hrel
    by_cases hlt : k < l.length
    · have hk2 : k < ws.length := by rw [← HL.out]; exact hlt
      obtain ⟨g1, q1, e1, _, hg1⟩ := R1.out.form_pos (by omega)
      obtain ⟨g2, q2, e2, _, hg2⟩ := R2.out.form_pos (by omega)
      simp only [Value.slice.injEq, true_and] at e1 e2
      obtain ⟨rfl, rfl⟩ := e1
      obtain ⟨rfl, rfl⟩ := e2
      have hcell1 : wr.cell? ⟨g1, k, none⟩ = some (.int .i64 (l.getD k 0)) := by
        rw [hA.out.2.cell (p := ⟨g1, k, none⟩) hg1]
        exact R1.out.cells k _ (by simp [ints, List.getD, List.getElem?_eq_getElem hlt])
      have hcell2 : wr.cell? ⟨g2, k, none⟩ = some (.int .i64 (ws.getD k 0)) := by
        rw [hA.out.2.cell (p := ⟨g2, k, none⟩) hg2]
        exact R2.out.cells k _ (by simp [ints, List.getD, List.getElem?_eq_getElem hk2])
      have hx := hr (l.getD k 0) (by simp [List.getD, List.getElem?_eq_getElem hlt])
      have hy := hw (ws.getD k 0) (by simp [List.getD, List.getElem?_eq_getElem hk2])
      have hst := sides_take l ws k hlt hk2
      obtain ⟨x, hxe⟩ : ∃ x, x = l.getD k 0 := ⟨_, rfl⟩
      obtain ⟨y, hye⟩ : ∃ y, y = ws.getD k 0 := ⟨_, rfl⟩
      rw [← hxe] at hcell1 hx hst
      rw [← hye] at hcell2 hy hst
      have HST := Lib.hid hst
      have b1 : (0 : Int) ≤ (k : Int) := by omega
      have b2 : (k : Int) < (l.length : Int) := by omega
      have b3 : (k : Int) < (ws.length : Int) := by omega
      have l1 := Nat.lt_of_lt_of_le hg1 hA.out.2.size
      have l2 := Nat.lt_of_lt_of_le hg2 hA.out.2.size
      clear hst hxe hye hr hw
      by_cases hf : fits x y.toNat = true
      · have hp : putSpec x y = (strOfNums (le x y.toNat), 0) := by rw [putSpec_good _ _ hy.1 hy.2, if_pos hf]
        have HP := Lib.hid hp
        have HF := Lib.hid hf
        clear hp hf
        go_wp2
        go_region_held3 (fun w' => w'.cell? ⟨g1, k, none⟩ = some (.int .i64 x) ∧ w'.cell? ⟨g2, k, none⟩ = some (.int .i64 y)) (first | go_keep | (refine ⟨?_, ?_⟩ <;> (rw [hbc.cell (by simpa using ‹_›)]; assumption)))
          ((go_at_call 18; refine (refPut_any x y hx.2 _).mono ?_; rw [HP.out]; rintro e w1 ⟨rfl, hbc⟩))
        have HB := Lib.hid (show Below w.heap.size w w1 from hA.out.2.drew.trans (hbc.mono hA.out.2.size))
        have hcat : strOfNums (lay ((sides l ws).take k)) ++ strOfNums (le x y.toNat) = strOfNums (lay ((sides l ws).take (k + 1))) := by rw [HST.out, lay_append, strOfNums_append]; simp [lay]
        have hgd : good ((sides l ws).take (k + 1)) = true := by rw [HST.out, good_append, hA.out.1]; simp [good, HF.out]
        have hsz1 : (strOfNums (lay ((sides l ws).take k))).size ≤ 100000000 := by rw [strOfNums_size]; exact lay_small _ _ _ (by omega) HW.out
        have hsz2 : (strOfNums (le x y.toNat)).size ≤ 6 := by rw [strOfNums_size, le_length]; omega
        have HC := Lib.hid hcat
        have HG := Lib.hid hgd
        clear hcat hgd hbc
        go_wp2
        go_roundg (gk - 1)
        case measure => omega
        case rel => exact ⟨k + 1, by omega, by go_num, by rw [HC.out], HG.out, HB.out⟩
      · have hp : putSpec x y = (⟨#[]⟩, 2) := by rw [putSpec_good _ _ hy.1 hy.2, if_neg hf]
        have hs : laidSpec (sides l ws) = (⟨#[]⟩, false) := by
          rw [laidSpec, if_neg]
          intro hgd
          refine hf ?_
          have := good_take (k + 1) hgd
          rw [HST.out, good_append] at this
          simpa [good] using (Bool.and_eq_true_iff.1 this).2
        have HP := Lib.hid hp
        have HS := Lib.hid hs
        clear hp hf hs
        go_wp2
        go_region_held3 (fun w' => w'.cell? ⟨g1, k, none⟩ = some (.int .i64 x) ∧ w'.cell? ⟨g2, k, none⟩ = some (.int .i64 y)) (first | go_keep | (refine ⟨?_, ?_⟩ <;> (rw [hbc.cell (by simpa using ‹_›)]; assumption)))
          ((go_at_call 18; refine (refPut_any x y hx.2 _).mono ?_; rw [HP.out]; rintro e w1 ⟨rfl, hbc⟩))
        have HB := Lib.hid (show Below w.heap.size w w1 from hA.out.2.drew.trans (hbc.mono hA.out.2.size))
        clear hbc
        go_wp2
        go_ret2
        rw [HS.out]
        exact ⟨rfl, HB.out⟩
    · obtain rfl : gk = 0 := by omega
      have hkl : (sides l ws).take k = sides l ws := List.take_of_length_le (by simp [sides]; have := HL.out; omega)
      have hs : laidSpec (sides l ws) = (strOfNums (lay (sides l ws)), true) := by rw [laidSpec, if_pos (by rw [← hkl]; exact hA.out.1)]
      rw [hkl]
      have HS := Lib.hid hs
      clear hs hkl
      go_wp2
      go_ret2
      rw [HS.out]
      exact ⟨rfl, hA.out.2⟩
end Go.Proofs.Ytpbmgollolbgoaa.B
