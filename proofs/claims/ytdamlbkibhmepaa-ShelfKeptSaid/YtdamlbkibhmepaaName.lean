/-
  path.Name and the document's, walked.
-/
import Derived.Test.YtdamlbkibhmepaaEntRow
import Derived.Laws.RangeAny
namespace Go.Proofs.Ytdamlbkibhmepaa.B
open Go.RowKit
set_option linter.unusedVariables false
set_option linter.unusedSimpArgs false

def okB (b : Int) : Bool := decide (33 ≤ b ∧ b ≤ 126 ∧ b ≠ 47)
/-- From place k on (j places). -/
def okFrom (s : ByteArray) : Nat → Nat → Bool
  | 0, _ => true
  | j + 1, k => if okB (byteAt s k) = true then okFrom s j (k + 1) else false
def dotty (s : ByteArray) : Bool := decide (s.size = 0) || decide (s = ⟨#[46]⟩) || decide (s = ⟨#[46, 46]⟩)
/-- May a name be? -/
def nameSpec (s : ByteArray) : Int := if 19 < s.size then 4 else if dotty s = true then 40 else if okFrom s s.size 0 = true then 0 else 40

set_option maxRecDepth 100000 in
set_option maxHeartbeats 1600000 in
theorem refName_any (s : ByteArray) (hs : s.size ≤ 9223372036854775807) (w : World) :
    Calls Try.prog 35 #[.string s] w fun e w' => e = .returned (.int .i64 (nameSpec s)) ∧ Below w.heap.size w w' := by
  obtain ⟨R, hR⟩ : ∃ R, R = nameSpec s := ⟨_, rfl⟩
  rw [← hR]
  unfold nameSpec at hR
  by_cases h19 : 19 < s.size
  · rw [if_pos h19] at hR
    have i1 : (19 : Int) < (s.size : Int) := by omega
    have HR := Lib.hid hR
    clear hR h19
    go_enter Try.func35, Try.ntmps35
    go_wp2_with fail
    go_ret
    exact ⟨by rw [HR.out]; rfl, Below.refl _ _⟩
  rw [if_neg h19] at hR
  have i1 : ¬ (19 : Int) < (s.size : Int) := by omega
  have i2 : (s.size : Int) ≤ 19 := by omega
  have f0 := str_empty s
  have f1 := str_beq s ⟨#[46]⟩
  have f2 := str_beq s ⟨#[46, 46]⟩
  have l1 : (⟨#[46]⟩ : ByteArray).toList = [46] := by rw [ByteArray.toList_eq]
  have l2 : (⟨#[46, 46]⟩ : ByteArray).toList = [46, 46] := by rw [ByteArray.toList_eq]
  rw [l1] at f1
  rw [l2] at f2
  unfold dotty at hR
  obtain ⟨b0, e0⟩ : ∃ b, b = decide (s.size = 0) := ⟨_, rfl⟩
  obtain ⟨b1, e1⟩ : ∃ b, b = decide (s = (⟨#[46]⟩ : ByteArray)) := ⟨_, rfl⟩
  obtain ⟨b2, e2⟩ : ∃ b, b = decide (s = (⟨#[46, 46]⟩ : ByteArray)) := ⟨_, rfl⟩
  rw [← e0, ← e1, ← e2] at hR
  rw [← e0] at f0
  rw [← e1] at f1
  rw [← e2] at f2
  clear e0 e1 e2 h19 l1 l2
  by_cases hd : (b0 || b1 || b2) = true
  · rw [if_pos hd] at hR
    have HR := Lib.hid hR
    clear hR
    cases b0 <;> cases b1 <;> cases b2 <;> first | cases hd | skip
    all_goals go_enter Try.func35, Try.ntmps35
    all_goals go_wp2_with fail
    all_goals go_ret
    all_goals exact ⟨by rw [HR.out]; rfl, Below.refl _ _⟩
  rw [if_neg hd] at hR
  have HR := Lib.hid hR
  obtain ⟨rfl, rfl, rfl⟩ : b0 = false ∧ b1 = false ∧ b2 = false := by cases b0 <;> cases b1 <;> cases b2 <;> simp_all
  obtain ⟨n, hn⟩ : ∃ n, n = s.size := ⟨_, rfl⟩
  have HN := Lib.hid hn
  clear hR hd hn
  go_enter Try.func35, Try.ntmps35
  go_wp2_with fail
  go_loopg [3] n (fun j i wr => ∃ k : Nat, j + k = n ∧ i = .int .i64 (k : Int) ∧ R = (if okFrom s j k = true then 0 else 40) ∧ Below w.heap.size w wr)
  case atStart => exact ⟨0, by omega, rfl, by rw [HN.out]; exact HR.out, Below.refl _ _⟩
  case round =>
    clear HR
    obtain ⟨k, hk, rfl, hq, hI⟩ := hrel
    have HI := Lib.hid hI
    clear hI
    by_cases hlt : k < n
    · obtain ⟨j, rfl⟩ : ∃ j, gk = j + 1 := ⟨gk - 1, by omega⟩
      have hks : k < s.size := by rw [← HN.out]; exact hlt
      have u2 : (0 : Int) ≤ (k : Int) := by omega
      have u3 : (k : Int) < (s.size : Int) := by omega
      have hb := byteAt_range s k
      have hbo := byteAt_of s k hks
      rw [okFrom] at hq
      have hkj : j + (k + 1) = n := by omega
      have HKJ := Lib.hid hkj
      have hk20 : k ≤ 19 := by omega
      by_cases hok : okB (byteAt s k) = true
      · rw [if_pos hok] at hq
        have HQ := Lib.hid hq
        unfold okB at hok
        have hok' := of_decide_eq_true hok
        have o1 := hok'.1
        have o2 := hok'.2.1
        have o3 : (byteAt s k == 47) = false := by simpa using hok'.2.2
        clear hkj hk hlt hok hok' hq hb
        go_wp2_with fail
        go_roundg j
        case measure => omega
        case rel => exact ⟨k + 1, HKJ.out, by go_num, HQ.out, HI.out⟩
      · rw [if_neg hok] at hq
        have HQ := Lib.hid hq
        have hor : byteAt s k < 33 ∨ 126 < byteAt s k ∨ (33 ≤ byteAt s k ∧ byteAt s k ≤ 126 ∧ (byteAt s k == 47) = true) := by
          by_cases h1 : byteAt s k < 33
          · exact .inl h1
          · by_cases h2 : 126 < byteAt s k
            · exact .inr (.inl h2)
            · refine .inr (.inr ⟨by omega, by omega, ?_⟩)
              simp only [beq_iff_eq]
              apply Classical.byContradiction
              intro h3
              exact hok (by unfold okB; exact decide_eq_true ⟨by omega, by omega, h3⟩)
        clear hkj hk hlt hok hq hb
        rcases hor with o1 | o1 | ⟨o1, o2, o3⟩
        · go_wp2_with fail
          go_ret
          exact ⟨by rw [HQ.out]; rfl, HI.out⟩
        · have o2 : 33 ≤ byteAt s k := by omega
          go_wp2_with fail
          go_ret
          exact ⟨by rw [HQ.out]; rfl, HI.out⟩
        · go_wp2_with fail
          go_ret
          exact ⟨by rw [HQ.out]; rfl, HI.out⟩
    · obtain rfl : gk = 0 := by omega
      obtain rfl : k = n := by omega
      have HQ := Lib.hid hq
      have u3 : (s.size : Int) ≤ (k : Int) := by rw [HN.out]; omega
      clear hq hlt hk
      go_wp2_with fail
      go_ret
      exact ⟨by rw [HQ.out]; rfl, HI.out⟩
set_option maxRecDepth 100000 in
set_option maxHeartbeats 1600000 in
theorem Name_any (s : ByteArray) (hs : s.size ≤ 9223372036854775807) (w : World) :
    Calls Try.prog 34 #[.string s] w fun e w' => e = .returned (.int .i64 (nameSpec s)) ∧ Below w.heap.size w w' := by
  obtain ⟨R, hR⟩ : ∃ R, R = nameSpec s := ⟨_, rfl⟩
  rw [← hR]
  unfold nameSpec at hR
  by_cases h19 : 19 < s.size
  · rw [if_pos h19] at hR
    have i1 : (19 : Int) < (s.size : Int) := by omega
    have HR := Lib.hid hR
    clear hR h19
    go_enter Try.func34, Try.ntmps34
    go_wp2_with fail
    go_ret
    exact ⟨by rw [HR.out]; rfl, Below.refl _ _⟩
  rw [if_neg h19] at hR
  have i1 : ¬ (19 : Int) < (s.size : Int) := by omega
  have i2 : (s.size : Int) ≤ 19 := by omega
  have f0 := str_empty s
  have f1 := str_beq s ⟨#[46]⟩
  have f2 := str_beq s ⟨#[46, 46]⟩
  have l1 : (⟨#[46]⟩ : ByteArray).toList = [46] := by rw [ByteArray.toList_eq]
  have l2 : (⟨#[46, 46]⟩ : ByteArray).toList = [46, 46] := by rw [ByteArray.toList_eq]
  rw [l1] at f1
  rw [l2] at f2
  unfold dotty at hR
  obtain ⟨b0, e0⟩ : ∃ b, b = decide (s.size = 0) := ⟨_, rfl⟩
  obtain ⟨b1, e1⟩ : ∃ b, b = decide (s = (⟨#[46]⟩ : ByteArray)) := ⟨_, rfl⟩
  obtain ⟨b2, e2⟩ : ∃ b, b = decide (s = (⟨#[46, 46]⟩ : ByteArray)) := ⟨_, rfl⟩
  rw [← e0, ← e1, ← e2] at hR
  rw [← e0] at f0
  rw [← e1] at f1
  rw [← e2] at f2
  clear e0 e1 e2 h19 l1 l2
  by_cases hd : (b0 || b1 || b2) = true
  · rw [if_pos hd] at hR
    have HR := Lib.hid hR
    clear hR
    cases b0 <;> cases b1 <;> cases b2 <;> first | cases hd | skip
    all_goals go_enter Try.func34, Try.ntmps34
    all_goals go_wp2_with fail
    all_goals go_ret
    all_goals exact ⟨by rw [HR.out]; rfl, Below.refl _ _⟩
  rw [if_neg hd] at hR
  have HR := Lib.hid hR
  obtain ⟨rfl, rfl, rfl⟩ : b0 = false ∧ b1 = false ∧ b2 = false := by cases b0 <;> cases b1 <;> cases b2 <;> simp_all
  obtain ⟨n, hn⟩ : ∃ n, n = s.size := ⟨_, rfl⟩
  have HN := Lib.hid hn
  clear hR hd hn
  go_enter Try.func34, Try.ntmps34
  go_wp2_with fail
  go_loopg [4] n (fun j i wr => ∃ k : Nat, j + k = n ∧ wr = w.iter s k ∧ R = (if okFrom s j k = true then 0 else 40))
  case atStart => exact ⟨0, by omega, rfl, by rw [HN.out]; exact HR.out⟩
  case round =>
    clear HR
    obtain ⟨k, hk, rfl, hq⟩ := hrel
    have HI := Lib.hid (show Below w.heap.size w (w.iter s k) from (Below.refl _ w).alloc (Nat.le_refl _) _)
    by_cases hlt : k < n
    · obtain ⟨j, rfl⟩ : ∃ j, gk = j + 1 := ⟨gk - 1, by omega⟩
      have hks : k < s.size := by rw [← HN.out]; exact hlt
      have hb := byteAt_range s k
      have hbo := byteAt_of s k hks
      rw [okFrom] at hq
      have hkj : j + (k + 1) = n := by omega
      have HKJ := Lib.hid hkj
      by_cases hasc : (s[k]'hks).toNat < 128
      · have hnx : ∀ ty, (Instr.next (.pointer (some ⟨w.heap.size, 0, none⟩)) true ty).run Try.prog (w.iter s k) = _ := fun ty => run_next_ascii w s k ty hks hasc
        rw [hbo] at hnx
        obtain ⟨b, hbb⟩ : ∃ b, b = byteAt s k := ⟨_, rfl⟩
        rw [← hbb] at hnx hq hb
        by_cases hok : okB b = true
        · rw [if_pos hok] at hq
          have HQ := Lib.hid hq
          unfold okB at hok
          have hok' := of_decide_eq_true hok
          have o1 := hok'.1
          have o2 := hok'.2.1
          have o3 : (b == 47) = false := by simpa using hok'.2.2
          clear hkj hk hlt hok hok' hq hb hbo hasc hbb
          go_wp2_with fail
          go_roundg j
          case measure => omega
          case rel => exact ⟨k + 1, HKJ.out, rfl, HQ.out⟩
        · rw [if_neg hok] at hq
          have HQ := Lib.hid hq
          have hor : b < 33 ∨ 126 < b ∨ (33 ≤ b ∧ b ≤ 126 ∧ (b == 47) = true) := by
            by_cases h1 : b < 33
            · exact .inl h1
            · by_cases h2 : 126 < b
              · exact .inr (.inl h2)
              · refine .inr (.inr ⟨by omega, by omega, ?_⟩)
                simp only [beq_iff_eq]
                apply Classical.byContradiction
                intro h3
                exact hok (by unfold okB; exact decide_eq_true ⟨by omega, by omega, h3⟩)
          have HI1 := Lib.hid (show Below w.heap.size w (w.iter s (k + 1)) from (Below.refl _ w).alloc (Nat.le_refl _) _)
          clear hkj hk hlt hok hq hb hbo hasc hbb
          rcases hor with o1 | o1 | ⟨o1, o2, o3⟩
          · go_wp2_with fail
            go_ret
            exact ⟨by rw [HQ.out]; rfl, HI1.out⟩
          · have o2 : 33 ≤ b := by omega
            go_wp2_with fail
            go_ret
            exact ⟨by rw [HQ.out]; rfl, HI1.out⟩
          · go_wp2_with fail
            go_ret
            exact ⟨by rw [HQ.out]; rfl, HI1.out⟩
      · have hnx : ∀ ty, (Instr.next (.pointer (some ⟨w.heap.size, 0, none⟩)) true ty).run Try.prog (w.iter s k) = _ := fun ty => run_next_any w s k ty hks
        have hhi := (decode_high s k hks (by omega)).1
        have hle := decode_le s k
        obtain ⟨r, hr⟩ : ∃ r, r = (Utf8.decode s k).1 := ⟨_, rfl⟩
        obtain ⟨d, hd⟩ : ∃ d, d = (Utf8.decode s k).2 := ⟨_, rfl⟩
        rw [← hr, ← hd] at hnx
        rw [← hr] at hhi hle
        have hok : ¬ okB (byteAt s k) = true := by
          intro h
          have := of_decide_eq_true h
          omega
        rw [if_neg hok] at hq
        have HQ := Lib.hid hq
        have HI1 := Lib.hid (show Below w.heap.size w (w.iter s (k + d)) from (Below.refl _ w).alloc (Nat.le_refl _) _)
        have o1 : (126 : Int) < (r : Int) := by omega
        have o2 : (33 : Int) ≤ (r : Int) := by omega
        clear hkj hk hlt hok hq hb hbo hasc hr hd hhi hle
        go_wp2_with fail
        go_ret
        exact ⟨by rw [HQ.out]; rfl, HI1.out⟩
    · obtain rfl : gk = 0 := by omega
      obtain rfl : k = n := by omega
      have HQ := Lib.hid hq
      have hnx : ∀ ty, (Instr.next (.pointer (some ⟨w.heap.size, 0, none⟩)) true ty).run Try.prog (w.iter s k) = _ := fun ty => run_next_end w s k ty (by rw [← HN.out]; omega)
      clear hq hlt hk
      go_wp2_with fail
      go_ret
      exact ⟨by rw [HQ.out]; rfl, HI.out⟩
end Go.Proofs.Ytdamlbkibhmepaa.B
