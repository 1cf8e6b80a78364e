/-
  The document's rising (the print's functions), as a plain law.
-/
import Derived.Test.YthobfbiobnmceaaPReportBytesx5
import Derived.Test.YthobfbiobnmceaaFndSort
namespace Go.Proofs.Ythobfbiobnmceaa.PReportBytes
open Go.RowKit Go.Proofs.Ythobfbiobnmceaa.B
open Go.Proofs.YthobfbiobnmceaaW.PrintWords Go.Proofs.YthobfbiobnmceaaW.PrintLast Go.Proofs.YthobfbiobnmceaaW.PrintMore
set_option linter.unusedVariables false
set_option linter.unusedSimpArgs false

def toS (f : Four) : S54 := ⟨f.a, f.b, f.c, f.d⟩
theorem rd_map (l : List Four) (i : Nat) : rd_T54 (l.map toS) (i : Int) = toS (l.getD i .zero) := by
  unfold rd_T54
  simp only [Int.toNat_natCast, List.getD, List.getElem?_map]
  cases l[i]? <;> rfl
theorem ahead_print (y x : Four) : grapnelref14_ahead.f y.a y.b y.c y.d x.a x.b x.c x.d = some (B.ahead y x) := by
  have e : B.ahead y x = (if y.a = x.a then if y.b = x.b then if y.c = x.c then if y.d = x.d then false else decide (y.d < x.d) else decide (y.c < x.c) else decide (y.b < x.b) else decide (y.a < x.a)) := rfl
  rw [e, grapnelref14_ahead.f]
  split
  · split
    · split
      · split
        · rename_i h; simp [h]
        · rfl
      · rfl
    · rfl
  · rfl
theorem one_print (y x : Four) : (!(y.a == x.a) || (!(y.b == x.b) || (!(y.c == x.c) || (!(y.d == x.d))))) = !one y x := by simp [one, Bool.not_and]
theorem l1_print (l out : List Four) (i : Nat) (hi : i < l.length) (hl : l.length ≤ 100000) (hout : out.length ≤ 100000) : ∀ (j m : Nat) (next : List Four) (done : Bool) (K : Nat), m + j = out.length → next.length + 2 * j ≤ 1000000 →
    grapnelref14_Sort.l1 (2 * j + 1 + K) (l.map toS) (out.map toS) i (next.map toS) done m = grapnelref14_Sort.l0 K (l.map toS) ((insL (l.getD i .zero) (out.drop m) next done).map toS) ((i + 1 : Nat) : Int)
  | 0, m, next, done, K, hm, hn => by
    rw [show 2 * 0 + 1 + K = K + 1 by omega, grapnelref14_Sort.l1, if_neg (by simp; omega), List.drop_of_length_le (by omega), insL, IntWalk.wrap64_in _ ⟨by omega, by omega⟩]
    have e : (i : Int) + 1 = ((i + 1 : Nat) : Int) := by omega
    cases done with
    | true => rw [if_pos rfl, if_pos rfl, e]
    | false =>
      rw [if_neg (by simp), if_pos (by omega), if_pos (by simp; omega), if_pos (by simp; omega), if_neg (by simp), rd_map, e, List.map_append]
      rfl
  | j + 1, m, next, done, K, hm, hn => by
    have hmo : m < out.length := by omega
    have hd : out.drop m = out.getD m .zero :: out.drop (m + 1) := by
      rw [List.drop_eq_getElem_cons hmo]
      simp [List.getD, hmo]
    obtain ⟨y, hy⟩ : ∃ y, y = out.getD m .zero := ⟨_, rfl⟩
    obtain ⟨x, hx⟩ : ∃ x, x = l.getD i .zero := ⟨_, rfl⟩
    have ih := fun nx dn h => l1_print l out i hi hl hout j (m + 1) nx dn K (by omega) h
    rw [← hx] at ih ⊢
    rw [hd, ← hy, insL]
    have ew : wrap64 ((m : Int) + 1) = ((m + 1 : Nat) : Int) := by rw [IntWalk.wrap64_in _ ⟨by omega, by omega⟩]; omega
    have b1 : (m : Int) < ((out.map toS).length : Int) := by simp; omega
    have b2 : (i : Int) < ((l.map toS).length : Int) := by simp; omega
    have b3 : (next.map toS).length < 4398046511104 := by simp; omega
    have b4 : (0 : Int) ≤ (m : Int) := by omega
    have b5 : (0 : Int) ≤ (i : Int) := by omega
    have J : ∀ (t : Bool), grapnelref14_Sort.j2 (2 * j + 1 + K + 1) (l.map toS) (out.map toS) i (next.map toS) done m t =
        grapnelref14_Sort.l0 K (l.map toS) ((insL x (out.drop (m + 1)) (if one y x = true then (if t = true then next ++ [x] else next) else (if t = true then next ++ [x] else next) ++ [y]) (t || done)).map toS) ((i + 1 : Nat) : Int) := by
      intro t
      have hop := one_print y x
      have hS : ∀ (f : Four), (⟨(toS f).f0, (toS f).f1, (toS f).f2, (toS f).f3⟩ : S54) = toS f := fun _ => rfl
      have hf : ∀ (f : Four), (toS f).f0 = f.a ∧ (toS f).f1 = f.b ∧ (toS f).f2 = f.c ∧ (toS f).f3 = f.d := fun _ => ⟨rfl, rfl, rfl, rfl⟩
      rw [grapnelref14_Sort.j2]
      simp only [rd_map, ← hx, ← hy, hS]
      simp only [(hf _).1, (hf _).2.1, (hf _).2.2.1, (hf _).2.2.2, hop]
      cases t with
      | true =>
        simp only [if_pos, b5, b2, b3, b4, b1, Option.bind_some, if_true]
        cases ho : one y x with
        | true =>
          simp only [Bool.not_true, Bool.false_eq_true, if_false, if_true]
          rw [ew, show (next.map toS) ++ [toS x] = (next ++ [x]).map toS by simp, ih _ _ (by simp; omega)]
          rfl
        | false =>
          simp only [Bool.not_false, if_true, Bool.false_eq_true, if_false]
          rw [if_pos (by simp; omega), ew, show (next.map toS) ++ [toS x] ++ [toS y] = (next ++ [x] ++ [y]).map toS by simp, ih _ _ (by simp; omega)]
          rfl
      | false =>
        simp only [if_pos, b5, b2, b3, b4, b1, Bool.false_eq_true, if_false]
        cases ho : one y x with
        | true =>
          simp only [Bool.not_true, Bool.false_eq_true, if_false, if_true]
          rw [ew, ih _ _ (by omega)]
          rfl
        | false =>
          simp only [Bool.not_false, if_true, Bool.false_eq_true, if_false]
          rw [ew, show (next.map toS) ++ [toS y] = (next ++ [y]).map toS by simp, ih _ _ (by simp; omega)]
          rfl
    rw [show 2 * (j + 1) + 1 + K = (2 * j + 1 + K + 1) + 1 by omega, grapnelref14_Sort.l1, if_pos b1]
    cases done with
    | true =>
      rw [if_pos rfl, J false, if_pos rfl]
      rfl
    | false =>
      rw [if_neg (by simp), if_pos b4, if_pos b5, if_pos b2, rd_map, rd_map, ← hx, ← hy]
      have ea : grapnelref14_ahead.f (toS y).f0 (toS y).f1 (toS y).f2 (toS y).f3 (toS x).f0 (toS x).f1 (toS x).f2 (toS x).f3 = some (B.ahead y x) := ahead_print y x
      rw [ea, Option.bind_some, J]
      cases B.ahead y x <;> cases one y x <;> rfl
theorem l0_print (l : List Four) (hl : l.length ≤ 100000) (N : Nat) (hN : l.length ≤ N) : ∀ (j i : Nat) (out : List Four) (K : Nat), i + j = l.length → out.length ≤ i →
    grapnelref14_Sort.l0 (j * (2 * N + 2) + 1 + K) (l.map toS) (out.map toS) i = some ((sortL (l.drop i) out).map toS)
  | 0, i, out, K, hi, ho => by
    rw [show 0 * (2 * N + 2) + 1 + K = K + 1 by omega, grapnelref14_Sort.l0, if_neg (by simp; omega), List.drop_of_length_le (by omega)]
    rfl
  | j + 1, i, out, K, hi, ho => by
    have hil : i < l.length := by omega
    have hd : l.drop i = l.getD i .zero :: l.drop (i + 1) := by
      rw [List.drop_eq_getElem_cons hil]
      simp [List.getD, hil]
    have hlen := insR_length (l.getD i .zero) out
    have h := l1_print l out i hil hl (by omega) out.length 0 [] false (j * (2 * N + 2) + 1 + (K + 2 * N - 2 * out.length)) (by omega) (by simp; omega)
    have ef : (j + 1) * (2 * N + 2) + 1 + K = (2 * out.length + 1 + (j * (2 * N + 2) + 1 + (K + 2 * N - 2 * out.length))) + 1 := by
      rw [Nat.succ_mul]
      omega
    rw [ef, grapnelref14_Sort.l0, if_pos (by simp; omega)]
    refine Eq.trans h ?_
    rw [List.drop_zero, insL_eq, List.nil_append, l0_print l hl N hN j (i + 1) _ _ (by omega) (by omega), hd]
    rfl
theorem rl_print (l s : List Four) (hl : l.length ≤ 100000) (hs : s.length = l.length) : ∀ (j i K : Nat), i + j = l.length → grapnelref16_Rises.l0 (j + 1 + K) (l.map toS) (s.map toS) i = some (decide (s.drop i = l.drop i))
  | 0, i, K, hi => by
    rw [show 0 + 1 + K = K + 1 by omega, grapnelref16_Rises.l0, if_neg (by simp; omega), List.drop_of_length_le (by omega), List.drop_of_length_le (by omega)]
    simp
  | j + 1, i, K, hi => by
    have hil : i < l.length := by omega
    have h1 : l.drop i = l.getD i .zero :: l.drop (i + 1) := by
      rw [List.drop_eq_getElem_cons hil]
      simp [List.getD, hil]
    have h2 : s.drop i = s.getD i .zero :: s.drop (i + 1) := by
      rw [List.drop_eq_getElem_cons (by omega)]
      simp [List.getD, hs, hil]
    have hop := one_print (s.getD i .zero) (l.getD i .zero)
    have hf : ∀ (f : Four), (toS f).f0 = f.a ∧ (toS f).f1 = f.b ∧ (toS f).f2 = f.c ∧ (toS f).f3 = f.d := fun _ => ⟨rfl, rfl, rfl, rfl⟩
    rw [show j + 1 + 1 + K = (j + 1 + K) + 1 by omega, grapnelref16_Rises.l0, if_pos (by simp; omega), if_pos (by omega), if_pos (by simp; omega), rd_map, rd_map, h1, h2]
    simp only [(hf _).1, (hf _).2.1, (hf _).2.2.1, (hf _).2.2.2, hop]
    rw [IntWalk.wrap64_in _ ⟨by omega, by omega⟩, show (i : Int) + 1 = ((i + 1 : Nat) : Int) by omega, rl_print l s hl hs j (i + 1) K (by omega)]
    cases ho : one (s.getD i .zero) (l.getD i .zero) with
    | true =>
      rw [one_iff] at ho
      rw [ho]
      simp
    | false =>
      have hne : s.getD i .zero ≠ l.getD i .zero := fun e => by
        rw [← one_iff, ho] at e
        cases e
      simp only [Bool.not_false, if_true]
      congr 1
      symm
      simp only [decide_eq_false_iff_not]
      intro h
      exact hne (List.cons.inj h).1
/-- The document says that findings rise just where they do. -/
theorem rises_print (l : List Four) (hl : l.length ≤ 100000) (K : Nat) : grapnelref16_Rises.f (l.length * (2 * l.length + 2) + l.length + 2 + K) (l.map toS) = some (rises l) := by
  have h := l0_print l hl l.length (Nat.le_refl _) l.length 0 [] (l.length + 1 + K) (by omega) (by simp)
  rw [show l.length * (2 * l.length + 2) + 1 + (l.length + 1 + K) = l.length * (2 * l.length + 2) + l.length + 2 + K by omega] at h
  have h' : grapnelref14_Sort.f (l.length * (2 * l.length + 2) + l.length + 2 + K) (l.map toS) = some ((sortL (l.drop 0) []).map toS) := h
  rw [grapnelref16_Rises.f, h', Option.bind_some, List.drop_zero]
  have key : rises l = decide (sortL l [] = l) := by
    by_cases hr : rises l = true
    · rw [hr, decide_eq_true ((rises_sort l).2 hr)]
    · rw [decide_eq_false (fun h => hr ((rises_sort l).1 h))]
      simpa using hr
  split
  · rename_i hlen
    have hlen' : (sortL l []).length = l.length := by simp at hlen; omega
    have h2 := rl_print l (sortL l []) hl hlen' l.length 0 (l.length * (2 * l.length + 2) + 1 + K) (by omega)
    rw [show l.length + 1 + (l.length * (2 * l.length + 2) + 1 + K) = l.length * (2 * l.length + 2) + l.length + 2 + K by omega] at h2
    refine Eq.trans h2 ?_
    rw [key, List.drop_zero, List.drop_zero]
  · rename_i hlen
    rw [key, decide_eq_false]
    intro h
    apply hlen
    simp [h]
end Go.Proofs.Ythobfbiobnmceaa.PReportBytes
