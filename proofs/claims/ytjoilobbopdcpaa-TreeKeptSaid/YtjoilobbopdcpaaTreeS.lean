/-
  Under the ideal vault no other text is shown at a place.
-/
import Derived.Test.YtjoilobbopdcpaaTreeQ
namespace Go.Proofs.Ytjoilobbopdcpaa.B
open Go.RowKit
set_option linter.unusedVariables false
set_option linter.unusedSimpArgs false

theorem ChkR.ends {k : Option (ByteArray → ByteArray)} {ks : List ByteArray} {top : ByteArray} {all : Int} : ∀ {p : List Stp} {n i : Nat} {h : ByteArray}, ChkR k ks top all p n i h true → ∃ h', Hd k ks (rootT all h') top
  | [], n, i, h, hc => by
    unfold ChkR at hc
    split at hc
    · obtain ⟨r, h1, h2⟩ := hc
      have : r = top := by simpa using h2.symm
      subst this
      exact ⟨h, h1⟩
    · cases hc
  | x :: p, n, i, h, hc => by
    unfold ChkR at hc
    split at hc
    · cases hc
    · obtain ⟨h', h1, h2⟩ := hc
      exact h2.ends
theorem mid_len {l : List ByteArray} {a : Nat} {h : ByteArray} (ha : a ≤ l.length) : (l.take a ++ [h] ++ l.drop a).length = l.length + 1 ∧ (l.take a ++ [h] ++ l.drop a)[a]? = some h := by
  have htl : (l.take a).length = a := by rw [List.length_take]; omega
  refine ⟨by rw [List.length_append, List.length_append, htl, List.length_drop]; simp; omega, ?_⟩
  rw [List.append_assoc, List.getElem?_append_right (by omega), htl, Nat.sub_self]
  rfl
theorem ChkR.bent {ks : List ByteArray} (hn : ks.length < 100000000000000) {top : ByteArray} {all : Int} (hall : 0 ≤ all ∧ all < 281474976710656) : ∀ {p : List Stp} {rest : List (List ByteArray)} {row : List ByteArray} {i : Nat} {h : ByteArray}, Up none ks row rest → (∀ s ∈ row, s.size = 32) → h.size = 32 → i < row.length → Hd none ks (rootT all (topOf (row :: rest))) top → ChkR none ks top all p row.length i h true → row[i]? = some h
  | [], rest, row, i, h, hu, hr, hh, hi, ht, hc => by
    unfold ChkR at hc
    split at hc
    · rename_i hcond
      obtain ⟨r, h1, h2⟩ := hc
      have : r = top := by simpa using h2.symm
      subst this
      have h3 := (rootT_inj hall hall (h1.inj hn ht)).2
      cases rest with
      | cons b rest => have := hu.1; omega
      | nil =>
        match row, hcond.1, hi with
        | [x], _, hi =>
          have : i = 0 := by simpa using hi
          subst this
          rw [h3]
          rfl
    · cases hc
  | x :: p, rest, row, i, h, hu, hr, hh, hi, ht, hc => by
    unfold ChkR at hc
    split at hc
    · cases hc
    · rename_i hcond
      have hc2 : ¬ row.length < 2 := fun hx => hcond (.inl hx)
      have hf : fitsB x i row.length = true := by
        cases hf : fitsB x i row.length with
        | true => rfl
        | false => exact absurd (.inr hf) hcond
      obtain ⟨h', h1, h2⟩ := hc
      cases rest with
      | nil => exact absurd hu hc2
      | cons b rest =>
        have hnd := hu.2.1
        rw [topOf_cons] at ht
        have hib : i / 4 < b.length := by rw [hnd.1]; omega
        rw [← hnd.1] at h2
        have hg := ChkR.bent hn hall hu.2.2 (hnd.size vk_none) (h1.size vk_none) hib ht h2
        obtain ⟨r, h3, h4⟩ := hnd.2 (i / 4) hib
        rw [hg] at h3
        cases h3
        unfold fitsB at hf
        simp only [Bool.and_eq_true, decide_eq_true_eq, List.all_eq_true] at hf
        obtain ⟨_, hL, hall2⟩ := hf
        have hgl := groupL_len row (i / 4)
        have ha : i % 4 ≤ x.sides.length := by omega
        obtain ⟨m1, m2⟩ := mid_len (h := h) ha
        have he := nodeT_inj (by rw [m1]; omega) (fun s hs => by
          rcases List.mem_append.1 hs with hs | hs
          · rcases List.mem_append.1 hs with hs | hs
            · exact hall2 s (List.mem_of_mem_take hs)
            · rw [List.mem_singleton.1 hs]; exact hh
          · exact hall2 s (List.mem_of_mem_drop hs)) (fun s hs => hr s (groupL_mem hs)) (h1.inj hn h4)
        rw [he] at m2
        have hri := List.getElem?_eq_getElem hi
        rw [group_get hri] at m2
        rw [hri, m2]
theorem CheckR.bent {ks l : List ByteArray} {rows : List (List ByteArray)} {top s : ByteArray} {n i : Int} {p : List Stp} (hn : ks.length < 100000000000000) (ht : TreeR none ks l rows) (hl : l.length ≤ 1000) (hd : Hd none ks (rootT l.length (topOf rows)) top) (hc : CheckR none ks top n i s p true) : n = l.length ∧ 0 ≤ i ∧ i < n ∧ l[i.toNat]? = some s := by
  obtain ⟨row, rest, rfl, h1, h2⟩ := ht.up
  unfold CheckR at hc
  split at hc
  · cases hc
  · rename_i hcond
    obtain ⟨h, h3, h4⟩ := hc
    obtain ⟨h', h5⟩ := h4.ends
    have hnl := (rootT_inj (by omega) (by omega) (h5.inj hn hd)).1
    subst hnl
    have e1 : (l.length : Int).toNat = row.length := by rw [h1.1]; omega
    rw [e1] at h4
    have hg := ChkR.bent hn (by omega) h2 (h1.size vk_none) (h3.size vk_none) (by rw [h1.1]; omega) hd h4
    have hil : i.toNat < l.length := by omega
    have hli := List.getElem?_eq_getElem hil
    obtain ⟨r, h6, h7⟩ := h1.2 _ _ hli
    rw [hg] at h6
    cases h6
    exact ⟨rfl, by omega, by omega, by rw [hli, leafT_inj (h7.inj hn h3)]⟩
end Go.Proofs.Ytjoilobbopdcpaa.B
