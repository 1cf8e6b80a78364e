/-
  pack.Entry, all its answers in one, and records of unlike values are unlike bytes.
-/
import Derived.Test.YtpbmgollolbgoaaEntry
import Derived.Test.YtpbmgollolbgoaaLawsA
namespace Go.Proofs.Ytpbmgollolbgoaa.B
open Go.RowKit
set_option linter.unusedVariables false

theorem Entry_any (s : ByteArray) (a1 a2 : Int) (m1 : -9223372036854775808 ≤ a1) (n1 : a1 ≤ 9223372036854775807) (m2 : -9223372036854775808 ≤ a2) (n2 : a2 ≤ 9223372036854775807) (w : World) :
    Calls Try.prog 24 #[.agg #[.string s, .int .i64 a1, .int .i64 a2]] w fun e w' => e = .returned (.tuple #[.string (entrySpec s a1 a2).1, .int .i64 (entrySpec s a1 a2).2]) ∧ Below w.heap.size w w' := by
  by_cases h19 : 19 < s.size
  · exact Entry_refused s a1 a2 (.inl h19) w
  by_cases h0 : s.size = 0
  · by_cases h12 : a1 ≠ 0 ∨ a2 ≠ 0
    · exact Entry_refused s a1 a2 (.inr ⟨h0, h12⟩) w
    · obtain rfl := empty_of_size h0
      obtain rfl : a1 = 0 := by omega
      obtain rfl : a2 = 0 := by omega
      exact Entry_none w
  · exact Entry_some s a1 a2 h19 h0 m1 n1 m2 n2 w


theorem bytesOf_strOfNums (xs : List Int) (h : ∀ x ∈ xs, 0 ≤ x ∧ x < 256) : bytesOf (strOfNums xs) = xs := by
  rw [bytesOf, strOfNums_data, List.map_map]
  refine (List.map_congr_left (g := id) fun x hx => ?_).trans (List.map_id _)
  have := h x hx
  simp
  omega
theorem strOfNums_inj {xs ys : List Int} (hx : ∀ x ∈ xs, 0 ≤ x ∧ x < 256) (hy : ∀ x ∈ ys, 0 ≤ x ∧ x < 256) (h : strOfNums xs = strOfNums ys) : xs = ys := by
  rw [← bytesOf_strOfNums xs hx, h, bytesOf_strOfNums ys hy]
theorem le_range (n : Int) (k : Nat) : ∀ x ∈ le n k, 0 ≤ x ∧ x < 256 := by
  intro x hx
  simp only [le, List.mem_map] at hx
  obtain ⟨i, _, rfl⟩ := hx
  omega
theorem le_mod {n m : Int} (hn : 0 ≤ n) (hm : 0 ≤ m) {k : Nat} (h : le n k = le m k) : ∀ j, j ≤ k → n % 2 ^ (8 * j) = m % 2 ^ (8 * j)
  | 0, _ => by simp
  | j + 1, hj => by
    have h1 : (le n k)[j]? = (le m k)[j]? := by rw [h]
    simp only [le, List.getElem?_map, List.getElem?_range (show j < k by omega), Option.map_some, Option.some.injEq] at h1
    rw [mod_pow_succ n hn, mod_pow_succ m hm, le_mod hn hm h j (by omega), h1]
theorem le_inj {n m : Int} {k : Nat} (hn : fits n k = true) (hm : fits m k = true) (h : le n k = le m k) : n = m := by
  obtain ⟨h0, h1⟩ := fits_mod hn
  obtain ⟨g0, g1⟩ := fits_mod hm
  rw [← h1, ← g1]
  exact le_mod h0 g0 h k (Nat.le_refl _)
theorem lay_range : ∀ fs : List (Int × Nat), ∀ x ∈ lay fs, 0 ≤ x ∧ x < 256 := by
  intro fs x hx
  simp only [lay, List.mem_flatMap] at hx
  obtain ⟨f, _, hf⟩ := hx
  exact le_range _ _ _ hf
theorem lay_inj : ∀ {fs gs : List (Int × Nat)}, fs.map Prod.snd = gs.map Prod.snd → good fs = true → good gs = true → lay fs = lay gs → fs = gs
  | [], [], _, _, _, _ => rfl
  | [], _ :: _, h, _, _, _ => by simp at h
  | _ :: _, [], h, _, _, _ => by simp at h
  | (n, k) :: fs, (m, l) :: gs, h, h1, h2, h3 => by
    simp only [List.map_cons, List.cons.injEq] at h
    obtain ⟨rfl, h⟩ := h
    simp only [good, List.all_cons, Bool.and_eq_true] at h1 h2
    simp only [lay, List.flatMap_cons] at h3
    obtain ⟨e1, e2⟩ := List.append_inj h3 (by rw [le_length, le_length])
    rw [le_inj h1.1 h2.1 e1, lay_inj h h1.2 h2.2 e2]
theorem headSpec_inj {fs gs : List (Int × Nat)} (hl : fs.map Prod.snd = gs.map Prod.snd) (h1 : (headSpec fs).2 = 0) (h2 : (headSpec gs).2 = 0) (h : (headSpec fs).1 = (headSpec gs).1) : fs = gs := by
  unfold headSpec at h1 h2 h
  split at h1 <;> rename_i g1
  · split at h2 <;> rename_i g2
    · rw [if_pos g1, if_pos g2] at h
      have h := strOfNums_inj (by
        intro x hx
        simp only [List.mem_append, magic, List.mem_cons, List.mem_replicate, List.not_mem_nil, or_false] at hx
        rcases hx with (hx | hx) | hx
        · omega
        · exact lay_range _ _ hx
        · omega) (by
        intro x hx
        simp only [List.mem_append, magic, List.mem_cons, List.mem_replicate, List.not_mem_nil, or_false] at hx
        rcases hx with (hx | hx) | hx
        · omega
        · exact lay_range _ _ hx
        · omega) h
      have h := List.append_cancel_right h
      exact lay_inj hl g1 g2 (List.append_cancel_left h)
    · simp at h2
  · simp at h1
theorem bytesOf_range (s : ByteArray) : ∀ x ∈ bytesOf s, 0 ≤ x ∧ x < 256 := by
  intro x hx
  simp only [bytesOf, List.mem_map] at hx
  obtain ⟨b, _, rfl⟩ := hx
  have := UInt8.toNat_lt b
  omega
theorem entrySpec_inj {s t : ByteArray} {a1 a2 b1 b2 : Int} (h1 : (entrySpec s a1 a2).2 = 0) (h2 : (entrySpec t b1 b2).2 = 0) (h : (entrySpec s a1 a2).1 = (entrySpec t b1 b2).1) : s = t ∧ a1 = b1 ∧ a2 = b2 := by
  unfold entrySpec at h1 h2 h
  by_cases c1 : 19 < s.size
  · simp [c1] at h1
  by_cases c2 : 19 < t.size
  · simp [c2] at h2
  rw [if_neg c1] at h1 h
  rw [if_neg c2] at h2 h
  by_cases d1 : s.size = 0 ∧ (a1 ≠ 0 ∨ a2 ≠ 0)
  · simp [d1] at h1
  by_cases d2 : t.size = 0 ∧ (b1 ≠ 0 ∨ b2 ≠ 0)
  · simp [d2] at h2
  rw [if_neg d1] at h1 h
  rw [if_neg d2] at h2 h
  by_cases g1 : good (entryFs a1 a2) = true
  · by_cases g2 : good (entryFs b1 b2) = true
    · rw [if_pos g1, if_pos g2] at h
      have hr : ∀ (s : ByteArray) (a1 a2 : Int), s.size ≤ 19 → ∀ x ∈ entryXs s a1 a2, 0 ≤ x ∧ x < 256 := by
        intro s a1 a2 hs x hx
        simp only [List.mem_append, entryXs, List.mem_cons, List.mem_replicate, List.not_mem_nil, or_false] at hx
        rcases hx with ((hx | hx) | hx) | hx
        · omega
        · exact bytesOf_range _ _ hx
        · omega
        · exact lay_range _ _ hx
      have h := strOfNums_inj (hr _ _ _ (by omega)) (hr _ _ _ (by omega)) h
      simp only [entryXs, List.cons_append, List.nil_append, List.cons.injEq] at h
      obtain ⟨e0, h⟩ := h
      have e0 : s.size = t.size := by omega
      rw [List.append_assoc, List.append_assoc] at h
      obtain ⟨e1, h⟩ := List.append_inj h (by rw [bytesOf_length, bytesOf_length, e0])
      rw [e0] at h
      have h := lay_inj (fs := entryFs a1 a2) (gs := entryFs b1 b2) rfl g1 g2 (List.append_cancel_left h)
      simp only [entryFs, List.cons.injEq, Prod.mk.injEq, and_true] at h
      refine ⟨?_, h.1, h.2⟩
      rw [← strOfNums_bytesOf s, e1, strOfNums_bytesOf]
    · simp [g2] at h2
  · simp [g1] at h1
end Go.Proofs.Ytpbmgollolbgoaa.B
