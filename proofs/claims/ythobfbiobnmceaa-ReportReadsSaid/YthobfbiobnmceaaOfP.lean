/-
  The document's reading of a report (the print's functions) is the program's.
-/
import Derived.Test.YthobfbiobnmceaaRisesQ
import Derived.Test.YthobfbiobnmceaaGetP
namespace Go.Proofs.Ythobfbiobnmceaa.PReportReads
open Go.RowKit Go.Proofs.Ythobfbiobnmceaa.B
open Go.Proofs.YthobfbiobnmceaaW.PrintWords Go.Proofs.YthobfbiobnmceaaW.PrintLast Go.Proofs.YthobfbiobnmceaaW.PrintMore
set_option linter.unusedVariables false
set_option linter.unusedSimpArgs false

theorem of_l0 (s : ByteArray) (n : Nat) (hn : s.size = 20 + 14 * n) (hs : s.size ≤ 100000) (a0 a1 a2 : Int) : ∀ (j i K : Nat), i + j = n →
    grapnelref16_Of.l0 (j + (n * (2 * n + 2) + n + 2) + 20 + K) s n i a0 a1 a2 ((fndsOf s i).map toS) =
      some (if rises (fndsOf s n) = true then (a0, a1, a2, (fndsOf s n).map toS, 0) else (0, 0, 0, [], 5))
  | 0, i, K, h => by
    obtain rfl : i = n := by omega
    have hl := fndsOf_length s i
    have hr := rises_print (fndsOf s i) (by rw [hl]; omega) (19 + K)
    rw [hl] at hr
    rw [show 0 + (i * (2 * i + 2) + i + 2) + 20 + K = (i * (2 * i + 2) + i + 2 + (19 + K)) + 1 by omega, grapnelref16_Of.l0, if_neg (by omega), hr, Option.bind_some]
    split <;> rfl
  | j + 1, i, K, h => by
    have hin : i < n := by omega
    have e0 : wrap64 (14 * (i : Int)) = 14 * (i : Int) := IntWalk.wrap64_in _ ⟨by omega, by omega⟩
    have e1 : wrap64 (20 + 14 * (i : Int)) = ((20 + 14 * i : Nat) : Int) := by rw [IntWalk.wrap64_in _ ⟨by omega, by omega⟩]; omega
    have e2 : wrap64 (((20 + 14 * i : Nat) : Int) + 2) = ((20 + 14 * i + 2 : Nat) : Int) := by rw [IntWalk.wrap64_in _ ⟨by omega, by omega⟩]; omega
    have e3 : wrap64 (((20 + 14 * i : Nat) : Int) + 6) = ((20 + 14 * i + 6 : Nat) : Int) := by rw [IntWalk.wrap64_in _ ⟨by omega, by omega⟩]; omega
    have e4 : wrap64 (((20 + 14 * i : Nat) : Int) + 10) = ((20 + 14 * i + 10 : Nat) : Int) := by rw [IntWalk.wrap64_in _ ⟨by omega, by omega⟩]; omega
    have e5 : wrap64 ((i : Int) + 1) = ((i + 1 : Nat) : Int) := by rw [IntWalk.wrap64_in _ ⟨by omega, by omega⟩]; omega
    have g1 := Get_plain s (20 + 14 * i) 2 (by omega) (by omega) (by omega) (by omega) (j + (n * (2 * n + 2) + n + 2) + 10 + K)
    have g2 := Get_plain s (20 + 14 * i + 2) 4 (by omega) (by omega) (by omega) (by omega) (j + (n * (2 * n + 2) + n + 2) + 10 + K)
    have g3 := Get_plain s (20 + 14 * i + 6) 4 (by omega) (by omega) (by omega) (by omega) (j + (n * (2 * n + 2) + n + 2) + 10 + K)
    have g4 := Get_plain s (20 + 14 * i + 10) 4 (by omega) (by omega) (by omega) (by omega) (j + (n * (2 * n + 2) + n + 2) + 10 + K)
    rw [show j + (n * (2 * n + 2) + n + 2) + 10 + K + 10 = j + (n * (2 * n + 2) + n + 2) + 20 + K by omega] at g1 g2 g3 g4
    have ih := of_l0 s n hn hs a0 a1 a2 j (i + 1) K (by omega)
    rw [show j + 1 + (n * (2 * n + 2) + n + 2) + 20 + K = (j + (n * (2 * n + 2) + n + 2) + 20 + K) + 1 by omega, grapnelref16_Of.l0, if_pos (by omega), e0, e1, e2, e3, e4, e5]
    have c2 : ((2 : Nat) : Int) = 2 := rfl
    have c4 : ((4 : Nat) : Int) = 4 := rfl
    rw [c2] at g1
    rw [c4] at g2 g3 g4
    rw [g1, Option.bind_some, g2, Option.bind_some, g3, Option.bind_some, g4, Option.bind_some, if_pos (by simp [fndsOf_length]; omega)]
    rw [fndsOf_succ, List.map_append] at ih
    exact ih
theorem of_print (s : ByteArray) (hs : s.size ≤ 100000) : ∃ k, grapnelref16_Of.f k s = some ((repOf s).a0, (repOf s).a1, (repOf s).a2, (repOf s).l.map toS, (repOf s).e) := by
  by_cases h20 : s.size < 20
  · refine ⟨0, ?_⟩
    rw [grapnelref16_Of.f, if_pos (by omega), repOf, if_pos h20]
    rfl
  · obtain ⟨n, hn⟩ : ∃ n, n = (s.size - 20) / 14 := ⟨_, rfl⟩
    refine ⟨n + (n * (2 * n + 2) + n + 2) + 20, ?_⟩
    have g1 := Get_plain s 0 6 (by omega) (by omega) (by omega) (by omega) (n + (n * (2 * n + 2) + n + 2) + 10)
    have g2 := Get_plain s 6 6 (by omega) (by omega) (by omega) (by omega) (n + (n * (2 * n + 2) + n + 2) + 10)
    have g3 := Get_plain s 12 4 (by omega) (by omega) (by omega) (by omega) (n + (n * (2 * n + 2) + n + 2) + 10)
    have g4 := Get_plain s 16 4 (by omega) (by omega) (by omega) (by omega) (n + (n * (2 * n + 2) + n + 2) + 10)
    have hr := num_range s 16 4
    have hr2 : num s 16 4 < 4294967296 := hr.2
    have hr1 := hr.1
    have e1 : wrap64 (14 * num s 16 4) = 14 * num s 16 4 := IntWalk.wrap64_in _ ⟨by omega, by omega⟩
    have e2 : wrap64 ((s.size : Int) - 20) = (s.size : Int) - 20 := IntWalk.wrap64_in _ ⟨by omega, by omega⟩
    rw [grapnelref16_Of.f, if_neg (by omega)]
    refine (congrArg (fun o => Option.bind o _) g1).trans ?_
    rw [Option.bind_some]
    refine (congrArg (fun o => Option.bind o _) g2).trans ?_
    rw [Option.bind_some]
    refine (congrArg (fun o => Option.bind o _) g3).trans ?_
    rw [Option.bind_some]
    refine (congrArg (fun o => Option.bind o _) g4).trans ?_
    rw [Option.bind_some]
    simp only
    rw [e1, e2, repOf, if_neg h20, ← hn]
    by_cases hA : num s 16 4 > (n : Int)
    · rw [if_pos (by omega), if_pos hA]
      rfl
    · rw [if_neg (by omega), if_neg hA]
      by_cases hB : ((s.size - 20 : Nat) : Int) > num s 16 4 * 14
      · rw [if_pos (by omega), if_pos hB]
        rfl
      · rw [if_neg (by omega), if_neg hB]
        have hnn : num s 16 4 = (n : Int) := by omega
        rw [hnn]
        have h := of_l0 s n (by omega) hs (num s 0 6) (num s 6 6) (num s 12 4) n 0 0 (by omega)
        refine Eq.trans h ?_
        split <;> rfl
end Go.Proofs.Ythobfbiobnmceaa.PReportReads
