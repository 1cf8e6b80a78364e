/-
  Slots and blocks are each other's: the plain law.
-/
import Derived.Test.YtdamlbkibhmepaaBody
namespace Go.Proofs.Ytdamlbkibhmepaa.B
open Go.RowKit
set_option linter.unusedVariables false
set_option linter.unusedSimpArgs false

theorem str_ext {a b : ByteArray} (h : bytesOf a = bytesOf b) : a = b := by rw [← strOfNums_bytesOf a, h, strOfNums_bytesOf]
theorem bytesOf_range' (s : ByteArray) : ∀ x ∈ bytesOf s, 0 ≤ x ∧ x < 256 := by
  intro x hx
  simp only [bytesOf, List.mem_map] at hx
  obtain ⟨b, _, rfl⟩ := hx
  have := b.toNat_lt
  omega
theorem le_range2 (n : Int) (k : Nat) : ∀ x ∈ le n k, 0 ≤ x ∧ x < 256 := by
  intro x hx
  simp only [le, List.mem_map] at hx
  obtain ⟨i, _, rfl⟩ := hx
  omega
theorem fits_mod2 {n : Int} {k : Nat} (h : fits n k = true) : 0 ≤ n ∧ n % 2 ^ (8 * k) = n := by
  simp only [fits, Bool.and_eq_true, decide_eq_true_eq, beq_iff_eq] at h
  have hp : (0 : Int) < 2 ^ (8 * k) := Int.pow_pos (by decide)
  have := Int.emod_add_mul_ediv n (2 ^ (8 * k))
  rw [h.2, Int.mul_zero] at this
  exact ⟨h.1, by omega⟩
theorem entry_back {s : ByteArray} {a b : Int} (h : (entrySpec s a b).2 = 0) : entryOfSpec (entrySpec s a b).1 = (s, a, b, 0) := by
  unfold entrySpec at h ⊢
  split at h
  · cases h
  rename_i h1
  rw [if_neg h1]
  split at h
  · cases h
  rename_i h2
  rw [if_neg h2]
  split at h
  case isFalse => cases h
  rename_i h3
  rw [if_pos h3]
  simp only
  have hg : fits a 4 = true ∧ fits b 4 = true := by
    simpa [good, entryFs] using h3
  have ha := fits_mod2 hg.1
  have hb := fits_mod2 hg.2
  obtain ⟨n, hn⟩ : ∃ n, n = s.size := ⟨_, rfl⟩
  have hn19 : n ≤ 19 := by omega
  have hlay : lay (entryFs a b) = le a 4 ++ le b 4 := by simp [lay, entryFs]
  have hxs : entryXs s a b = le (n : Int) 1 ++ (bytesOf s ++ (List.replicate (19 - n) 0 ++ (le a 4 ++ le b 4))) := by
    rw [entryXs, hlay, ← hn]
    have : le (n : Int) 1 = [(n : Int)] := by
      simp [le]; omega
    rw [this]
    simp [List.append_assoc]
  have hr : ∀ x ∈ entryXs s a b, 0 ≤ x ∧ x < 256 := by
    rw [hxs]
    intro x hx
    simp only [List.mem_append, List.mem_replicate] at hx
    rcases hx with hx | hx | hx | hx | hx
    · exact le_range2 _ _ x hx
    · exact bytesOf_range' s x hx
    · omega
    · exact le_range2 _ _ x hx
    · exact le_range2 _ _ x hx
  obtain ⟨t, ht⟩ : ∃ t, t = strOfNums (entryXs s a b) := ⟨_, rfl⟩
  rw [← ht]
  have hbt : bytesOf t = entryXs s a b := by rw [ht]; exact bytesOf_strOfNums _ hr
  have hbl : (bytesOf s).length = n := by rw [bytesOf_length, hn]
  have hsz : t.size = 28 := by
    rw [← bytesOf_length, hbt, hxs]
    simp only [List.length_append, le_length, hbl, List.length_replicate]
    omega
  have e0 : num t 0 1 = (n : Int) := by
    have : t = (⟨#[]⟩ : ByteArray) ++ strOfNums (le (n : Int) 1) ++ strOfNums (bytesOf s ++ (List.replicate (19 - n) 0 ++ (le a 4 ++ le b 4))) := by
      rw [ht, hxs, strOfNums_append]
      congr 1
    have h := num_back ⟨#[]⟩ (strOfNums (bytesOf s ++ (List.replicate (19 - n) 0 ++ (le a 4 ++ le b 4)))) (n : Int) (by omega) 1 1 (Nat.le_refl _)
    rw [← this] at h
    have h' : num t 0 1 = (n : Int) % 2 ^ (8 * 1) := h
    rw [h']
    omega
  have hpre : (strOfNums (le (n : Int) 1 ++ (bytesOf s ++ List.replicate (19 - n) 0))).size = 20 := by
    rw [strOfNums_size]
    simp only [List.length_append, le_length, hbl, List.length_replicate]
    omega
  have e1 : num t 20 4 = a := by
    have : t = strOfNums (le (n : Int) 1 ++ (bytesOf s ++ List.replicate (19 - n) 0)) ++ strOfNums (le a 4) ++ strOfNums (le b 4) := by
      rw [ht, hxs, ← strOfNums_append, ← strOfNums_append]
      simp [List.append_assoc]
    have h := num_back (strOfNums (le (n : Int) 1 ++ (bytesOf s ++ List.replicate (19 - n) 0))) (strOfNums (le b 4)) a ha.1 4 4 (Nat.le_refl _)
    rw [← this, hpre] at h
    rw [h]
    exact ha.2
  have hpre2 : (strOfNums (le (n : Int) 1 ++ (bytesOf s ++ (List.replicate (19 - n) 0 ++ le a 4)))).size = 24 := by
    rw [strOfNums_size]
    simp only [List.length_append, le_length, hbl, List.length_replicate]
    omega
  have e2 : num t 24 4 = b := by
    have : t = strOfNums (le (n : Int) 1 ++ (bytesOf s ++ (List.replicate (19 - n) 0 ++ le a 4))) ++ strOfNums (le b 4) ++ ⟨#[]⟩ := by
      rw [ht, hxs, ← strOfNums_append]
      have e : ∀ x : ByteArray, x ++ (⟨#[]⟩ : ByteArray) = x := fun x => by apply ByteArray.ext; simp
      rw [e]
      simp [List.append_assoc]
    have h := num_back (strOfNums (le (n : Int) 1 ++ (bytesOf s ++ (List.replicate (19 - n) 0 ++ le a 4)))) ⟨#[]⟩ b hb.1 4 4 (Nat.le_refl _)
    rw [← this, hpre2] at h
    rw [h]
    exact hb.2
  have hle1 : (le (n : Int) 1).length = 1 := le_length _ _
  have e3 : t.extract 1 (1 + n) = s := by
    apply str_ext
    rw [bytesOf_extract, hbt, hxs, List.drop_left' hle1, show 1 + n - 1 = n by omega, List.take_left' hbl]
  have e4 : allZero (t.extract (1 + n) 20) = true := by
    unfold allZero
    rw [bytesOf_extract, hbt, hxs, ← List.append_assoc, List.drop_left' (by rw [List.length_append, hle1, hbl]), show 20 - (1 + n) = 19 - n by omega, List.take_left' (by simp)]
    simp
  have hnat : (num t 0 1).toNat = n := by rw [e0]; rfl
  rw [entryOfSpec, if_neg (by omega), if_neg (by omega), hnat, if_neg (by omega), e1, e2, e3, e4, if_neg]
  intro h
  rcases h with h | h
  · cases h
  · exact h2 ⟨by omega, h.2⟩
theorem entryB_back {x : Ent} (h : (entryB x).2 = 0) : entryOfSpec (entryB x).1 = (x.nm, x.a, x.b, 0) := entry_back h
theorem entryB_canon (s : ByteArray) (k : Nat) (h : errAt s k = 0) : entryB (entAt s k) = (cutAt s k, 0) := entry_canon (cutAt s k) h
theorem body_reads : ∀ (l : List Ent) (s : ByteArray), (bodyFrom l s).2 = 0 → ∃ u, (bodyFrom l s).1 = s ++ u ∧ u.size = 28 * l.length ∧ ∀ i x, l[i]? = some x → (s ++ u).extract (s.size + 28 * i) (s.size + 28 * i + 28) = (entryB x).1 ∧ (entryB x).2 = 0
  | [], s, _ => ⟨⟨#[]⟩, by apply ByteArray.ext; simp [bodyFrom], rfl, by simp⟩
  | x :: r, s, h => by
    rw [bodyFrom] at h ⊢
    split at h
    · rename_i hx
      rw [if_pos hx]
      obtain ⟨u, h1, h2, h3⟩ := body_reads r _ h
      have hsz := entryB_size hx
      refine ⟨(entryB x).1 ++ u, by rw [h1, ByteArray.append_assoc], by rw [ByteArray.size_append, hsz, h2, List.length_cons]; omega, fun i y hy => ?_⟩
      match i, hy with
      | 0, hy =>
        obtain rfl : x = y := by simpa using hy
        refine ⟨?_, hx⟩
        apply str_ext
        rw [bytesOf_extract, bytesOf_app, bytesOf_app]
        simp only [Nat.mul_zero, Nat.add_zero]
        rw [List.drop_left' (bytesOf_length s), show s.size + 28 - s.size = 28 by omega, List.take_left' (by rw [bytesOf_length, hsz])]
      | i + 1, hy =>
        have := h3 i y (by simpa using hy)
        rw [ByteArray.size_append, hsz] at this
        refine ⟨?_, this.2⟩
        rw [← this.1, ByteArray.append_assoc]
        congr 1 <;> omega
    · rename_i hx
      exact absurd h hx
theorem pageFrom_ok (s : ByteArray) (n : Nat) (h : ∀ i, i < n → errAt s i = 0) : ∀ (j k : Nat), j + k = n → pageFrom s j k = (entsAt s n, 0)
  | 0, k, hk => by
    obtain rfl : k = n := by omega
    rfl
  | j + 1, k, hk => by
    rw [pageFrom, if_pos (h k (by omega))]
    exact pageFrom_ok s n h j (k + 1) (by omega)
theorem page_back {l : List Ent} (h : (bodySpec l).2 = 0) : pageSpec (bodySpec l).1 = (l, 0) := by
  unfold bodySpec at h ⊢
  split at h
  case isFalse => cases h
  rename_i hl
  rw [if_pos hl]
  obtain ⟨u, h1, h2, h3⟩ := body_reads l ⟨#[]⟩ h
  have e : ∀ x : ByteArray, (⟨#[]⟩ : ByteArray) ++ x = x := fun x => by apply ByteArray.ext; simp
  rw [e] at h1
  have h3' : ∀ i x, l[i]? = some x → cutAt u i = (entryB x).1 ∧ (entryB x).2 = 0 := fun i x hx => by
    have := h3 i x hx
    rw [e] at this
    refine ⟨?_, this.2⟩
    rw [← this.1, cutAt]
    show _ = u.extract (0 + 28 * i) (0 + 28 * i + 28)
    rw [Nat.zero_add]
  rw [h1, pageSpec, if_pos (by omega)]
  have hget : ∀ i, i < 16 → ∃ x, l[i]? = some x := fun i hi => ⟨l[i]'(by omega), by simp [hl, hi]⟩
  rw [pageFrom_ok u 16 (fun i hi => by
    obtain ⟨x, hx⟩ := hget i hi
    have := h3' i x hx
    rw [errAt, this.1, entryB_back this.2]) 16 0 rfl]
  congr 1
  apply List.ext_getElem?
  intro i
  by_cases hi : i < 16
  · obtain ⟨x, hx⟩ := hget i hi
    have := h3' i x hx
    rw [hx, entsAt, List.getElem?_map, List.getElem?_range hi, Option.map_some, entAt, this.1, entryB_back this.2]
  · rw [List.getElem?_eq_none (by rw [entsAt_length]; omega), List.getElem?_eq_none (by omega)]
theorem pageFrom_errs (s : ByteArray) : ∀ (j k : Nat), (pageFrom s j k).2 = 0 → pageFrom s j k = (entsAt s (k + j), 0) ∧ ∀ i, k ≤ i → i < k + j → errAt s i = 0
  | 0, k, h => ⟨rfl, fun i h1 h2 => by omega⟩
  | j + 1, k, h => by
    rw [pageFrom] at h ⊢
    split at h
    · rename_i he
      rw [if_pos he]
      obtain ⟨h1, h2⟩ := pageFrom_errs s j (k + 1) h
      refine ⟨by rw [h1, show k + 1 + j = k + (j + 1) by omega], fun i h3 h4 => ?_⟩
      by_cases hi : i = k
      · rw [hi]; exact he
      · exact h2 i (by omega) (by omega)
    · rename_i he
      exact absurd h he
theorem bodyFrom_ents (s : ByteArray) : ∀ (j i : Nat) (t : ByteArray), 28 * (i + j) ≤ s.size → (∀ q, i ≤ q → q < i + j → errAt s q = 0) → bodyFrom ((List.range' i j).map (entAt s)) t = (t ++ s.extract (28 * i) (28 * (i + j)), 0)
  | 0, i, t, _, _ => by
    have e : s.extract (28 * i) (28 * (i + 0)) = ⟨#[]⟩ := by apply ByteArray.ext; simp
    rw [e]
    simp only [List.range'_zero, List.map_nil, bodyFrom]
    congr 1
    apply ByteArray.ext; simp
  | j + 1, i, t, h, he => by
    rw [List.range'_succ, List.map_cons, bodyFrom, entryB_canon s i (he i (by omega) (by omega))]
    simp only [if_true]
    rw [bodyFrom_ents s j (i + 1) _ (by omega) (fun q h1 h2 => he q (by omega) (by omega)), ByteArray.append_assoc, cutAt, show 28 * (i + 1) = 28 * i + 28 by omega, ByteArray.extract_append_extract]
    congr 2
    · congr 1 <;> omega
theorem page_forth {s : ByteArray} (h : (pageSpec s).2 = 0) : bodySpec (pageSpec s).1 = (s, 0) := by
  unfold pageSpec at h ⊢
  split at h
  case isFalse => cases h
  rename_i hs
  rw [if_pos hs]
  obtain ⟨h1, h2⟩ := pageFrom_errs s 16 0 h
  rw [h1]
  simp only
  rw [bodySpec, if_pos (entsAt_length s 16)]
  have := bodyFrom_ents s 16 0 ⟨#[]⟩ (by omega) (fun q h3 h4 => h2 q h3 (by omega))
  rw [show (List.range' 0 16).map (entAt s) = entsAt s (0 + 16) by rw [entsAt, List.range_eq_range']] at this
  rw [this]
  have e : ∀ x : ByteArray, (⟨#[]⟩ : ByteArray) ++ x = x := fun x => by apply ByteArray.ext; simp
  rw [e, show 28 * 0 = 0 from rfl, show 28 * (0 + 16) = s.size by omega, ByteArray.extract_zero_size]
end Go.Proofs.Ytdamlbkibhmepaa.B
