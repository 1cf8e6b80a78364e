/-
  A report's bytes are read again; cut or longer ones are refused: the plain law.
-/
import Derived.Test.YthobfbiobnmceaaNumBack
namespace Go.Proofs.Ythobfbiobnmceaa.B
open Go.RowKit
set_option linter.unusedVariables false

def wsum : List (Int × Int) → Nat
  | [] => 0
  | p :: r => p.2.toNat + wsum r
def readsAt (t : ByteArray) : Nat → List (Int × Int) → Prop
  | _, [] => True
  | p, q :: r => num t p q.2.toNat = q.1 ∧ readsAt t (p + q.2.toNat) r
theorem putSpec_fits {n w : Int} (h : (putSpec n w).2 = 0) : fits n w.toNat = true ∧ (putSpec n w).1 = strOfNums (le n w.toNat) := by
  unfold putSpec at h ⊢
  split
  · rename_i hc
    rw [if_pos hc] at h
    cases h
  · rename_i hc
    rw [if_neg hc] at h
    split
    · rename_i hf
      exact ⟨hf, rfl⟩
    · rename_i hf
      rw [if_neg hf] at h
      cases h
theorem fields_reads : ∀ (ps : List (Int × Int)) (s : ByteArray), (fieldsSpec ps s).2 = 0 → ∃ u, (fieldsSpec ps s).1 = s ++ u ∧ u.size = wsum ps ∧ ∀ b, readsAt (s ++ u ++ b) s.size ps
  | [], s, _ => ⟨⟨#[]⟩, by apply ByteArray.ext; simp [fieldsSpec], rfl, fun _ => trivial⟩
  | p :: r, s, h => by
    simp only [fieldsSpec] at h ⊢
    split at h
    · rename_i hp
      rw [if_pos hp]
      obtain ⟨hf, ht⟩ := putSpec_fits hp
      obtain ⟨u, h1, h2, h3⟩ := fields_reads r _ h
      obtain ⟨hn0, hm⟩ := fits_mod hf
      refine ⟨(putSpec p.1 p.2).1 ++ u, by rw [h1, ByteArray.append_assoc], by rw [ByteArray.size_append, h2, ht, strOfNums_size, le_length]; rfl, fun b => ?_⟩
      have h4 := h3 b
      have e : s ++ ((putSpec p.1 p.2).1 ++ u) ++ b = s ++ (putSpec p.1 p.2).1 ++ u ++ b := by rw [← ByteArray.append_assoc]
      have e2 : s ++ (putSpec p.1 p.2).1 ++ u ++ b = s ++ strOfNums (le p.1 p.2.toNat) ++ (u ++ b) := by rw [ByteArray.append_assoc, ht]
      refine ⟨?_, ?_⟩
      · rw [e, e2, num_back s (u ++ b) p.1 hn0 p.2.toNat _ (Nat.le_refl _), hm]
      · rw [e]
        rw [ByteArray.size_append, ht, strOfNums_size, le_length] at h4
        rw [← ht] at h4
        exact h4
    · rename_i hp
      exact absurd h hp
theorem body_reads : ∀ (l : List Four) (s : ByteArray), (bodyB l s).2 = 0 → ∃ u, (bodyB l s).1 = s ++ u ∧ u.size = 14 * l.length ∧ ∀ b i f, l[i]? = some f → fndAt (s ++ u ++ b) (s.size + 14 * i) = f
  | [], s, _ => ⟨⟨#[]⟩, by apply ByteArray.ext; simp [bodyB], rfl, fun _ i f h => by simp at h⟩
  | x :: r, s, h => by
    simp only [bodyB] at h ⊢
    split at h
    · rename_i hp
      rw [if_pos hp]
      obtain ⟨t, h1, h2, h3⟩ := fields_reads _ _ hp
      rw [h1] at h ⊢
      obtain ⟨u, h4, h5, h6⟩ := body_reads r _ h
      have hw : wsum (fndPs x) = 14 := rfl
      refine ⟨t ++ u, by rw [h4, ByteArray.append_assoc], by rw [ByteArray.size_append, h2, h5, hw, List.length_cons]; omega, fun b i f hf => ?_⟩
      have e : s ++ (t ++ u) ++ b = s ++ t ++ u ++ b := by rw [← ByteArray.append_assoc]
      rw [e]
      cases i with
      | zero =>
        simp at hf
        subst hf
        have h7 := h3 (u ++ b)
        rw [← ByteArray.append_assoc] at h7
        obtain ⟨q1, q2, q3, q4, _⟩ := h7
        have k1 : num (s ++ t ++ u ++ b) s.size 2 = x.a := q1
        have k2 : num (s ++ t ++ u ++ b) (s.size + 2) 4 = x.b := q2
        have k3 : num (s ++ t ++ u ++ b) (s.size + 2 + 4) 4 = x.c := q3
        have k4 : num (s ++ t ++ u ++ b) (s.size + 2 + 4 + 4) 4 = x.d := q4
        rw [fndAt, Nat.mul_zero, Nat.add_zero, k1, k2, show s.size + 6 = s.size + 2 + 4 by omega, k3, show s.size + 10 = s.size + 2 + 4 + 4 by omega, k4]
      | succ i =>
        have h7 := h6 b i f (by simpa using hf)
        rw [ByteArray.size_append, h2, hw] at h7
        rw [show s.size + 14 * (i + 1) = s.size + 14 + 14 * i by omega]
        exact h7
    · rename_i hp
      exact absurd h hp
/-- What a report's bytes read as, whatever follows. -/
theorem rep_reads {a0 a1 a2 : Int} {l : List Four} (h : (repBytes a0 a1 a2 l).2 = 0) :
    rises l = true ∧ (repBytes a0 a1 a2 l).1.size = 20 + 14 * l.length ∧ ∀ b, num ((repBytes a0 a1 a2 l).1 ++ b) 0 6 = a0 ∧ num ((repBytes a0 a1 a2 l).1 ++ b) 6 6 = a1 ∧ num ((repBytes a0 a1 a2 l).1 ++ b) 12 4 = a2 ∧ num ((repBytes a0 a1 a2 l).1 ++ b) 16 4 = l.length ∧ fndsOf ((repBytes a0 a1 a2 l).1 ++ b) l.length = l := by
  unfold repBytes at h ⊢
  split at h
  · rename_i hr
    rw [if_pos hr]
    split at h
    · rename_i hh
      rw [if_pos hh]
      obtain ⟨t, h1, h2, h3⟩ := fields_reads _ _ hh
      have ht : (fieldsSpec (headPs a0 a1 a2 l.length) ⟨#[]⟩).1 = t := by
        rw [h1]
        apply ByteArray.ext
        simp
      rw [ht] at h ⊢
      obtain ⟨u, h4, h5, h6⟩ := body_reads l t h
      have hw : wsum (headPs a0 a1 a2 l.length) = 20 := rfl
      rw [hw] at h2
      refine ⟨hr, by rw [h4, ByteArray.size_append, h2, h5], fun b => ?_⟩
      rw [h4]
      have h7 := h3 (u ++ b)
      have e : (⟨#[]⟩ : ByteArray) ++ t ++ (u ++ b) = t ++ u ++ b := by
        rw [show (⟨#[]⟩ : ByteArray) ++ t = t by apply ByteArray.ext; simp, ByteArray.append_assoc]
      rw [e] at h7
      obtain ⟨q1, q2, q3, q4, _⟩ := h7
      refine ⟨q1, q2, q3, q4, ?_⟩
      apply List.ext_getElem?
      intro i
      by_cases hi : i < l.length
      · have hg : l[i]? = some l[i] := List.getElem?_eq_getElem hi
        have := h6 b i _ hg
        rw [h2] at this
        rw [hg, fndsOf, List.getElem?_map, List.getElem?_range hi, Option.map_some, this]
      · rw [List.getElem?_eq_none (by rw [fndsOf_length]; omega), List.getElem?_eq_none (by omega)]
    · rename_i hh
      exact absurd h hh
  · cases h
theorem repOf_back {a0 a1 a2 : Int} {l : List Four} (h : (repBytes a0 a1 a2 l).2 = 0) : repOf (repBytes a0 a1 a2 l).1 = ⟨a0, a1, a2, l, 0⟩ := by
  obtain ⟨hr, hs, hb⟩ := rep_reads h
  have h2 := hb ⟨#[]⟩
  rw [show (repBytes a0 a1 a2 l).1 ++ (⟨#[]⟩ : ByteArray) = (repBytes a0 a1 a2 l).1 by apply ByteArray.ext; simp] at h2
  obtain ⟨q0, q1, q2, q3, q4⟩ := h2
  have hd : (20 + 14 * l.length - 20) / 14 = l.length := by omega
  rw [repOf, hs, if_neg (by omega), q3, hd, if_neg (by omega), if_neg (by omega), q4, if_pos hr, q0, q1, q2]
theorem repOf_more {a0 a1 a2 : Int} {l : List Four} (h : (repBytes a0 a1 a2 l).2 = 0) (b : ByteArray) (hb0 : 0 < b.size) : (repOf ((repBytes a0 a1 a2 l).1 ++ b)).e = 4 := by
  obtain ⟨hr, hs, hb⟩ := rep_reads h
  obtain ⟨q0, q1, q2, q3, q4⟩ := hb b
  have hsz : ((repBytes a0 a1 a2 l).1 ++ b).size = 20 + 14 * l.length + b.size := by rw [ByteArray.size_append, hs]
  rw [repOf, hsz, if_neg (by omega), q3, if_neg (by omega), if_pos (by omega)]
theorem byteAt_extract (s : ByteArray) (c i : Nat) (hi : i < c) : byteAt (s.extract 0 c) i = byteAt s i := by
  rw [byteAt_list, byteAt_list]
  simp only [Lib.extract_data, List.drop_zero, Nat.sub_zero, List.getD, List.getElem?_take, if_pos hi]
theorem num_extract (s : ByteArray) (c p : Nat) : ∀ k, p + k ≤ c → num (s.extract 0 c) p k = num s p k
  | 0, _ => rfl
  | k + 1, h => by rw [num, num, num_extract s c p k (by omega), byteAt_extract s c (p + k) (by omega)]
theorem repOf_cut {a0 a1 a2 : Int} {l : List Four} (h : (repBytes a0 a1 a2 l).2 = 0) (c : Nat) (hc : c < (repBytes a0 a1 a2 l).1.size) : (repOf ((repBytes a0 a1 a2 l).1.extract 0 c)).e = 3 := by
  obtain ⟨hr, hs, hb⟩ := rep_reads h
  have h2 := hb ⟨#[]⟩
  rw [show (repBytes a0 a1 a2 l).1 ++ (⟨#[]⟩ : ByteArray) = (repBytes a0 a1 a2 l).1 by apply ByteArray.ext; simp] at h2
  obtain ⟨q0, q1, q2, q3, q4⟩ := h2
  have hsz : ((repBytes a0 a1 a2 l).1.extract 0 c).size = c := by rw [ByteArray.size_extract]; omega
  rw [repOf, hsz]
  split
  · rfl
  · rw [num_extract _ _ _ _ (by omega), q3, if_pos (by omega)]
end Go.Proofs.Ythobfbiobnmceaa.B
