/-
  SumExpands, SumStretches, SumBegins: the laws' walks.
-/
import Derived.Test.YtobgnmellbgfmaaRefStretch
import Derived.Test.YtobgnmellbgfmaaSumAwake
namespace Go.Proofs.Ytobgnmellbgfmaa.B
open Go.RowKit
set_option linter.unusedVariables false

set_option maxRecDepth 100000 in
theorem SumExpands_walk (key info : ByteArray) (n : Int) (hk : key.size ≤ 140737488351232) (hi : info.size ≤ 140737488351232) (w : World) :
    Calls Try.prog 9 #[.string key, .string info, .int .i64 n] w fun e w' => e = .returned (.bool true) ∧ Below w.heap.size w w' := by
  have hz := cutS_size key 512
  have hy := cutS_size info 512
  go_enter Try.func9, Try.ntmps9
  go_wp2_with fail
  refine (cut_any key 512 (by omega) hk _).mono ?_
  rintro e W0 ⟨rfl, rfl⟩
  obtain ⟨c, hc⟩ : ∃ c, c = cutS key 512 := ⟨_, rfl⟩
  rw [← hc] at hz
  rw [← hc]
  clear hc
  go_wp2_with fail
  refine (cut_any info 512 (by omega) hi _).mono ?_
  rintro e W0 ⟨rfl, rfl⟩
  obtain ⟨d, hd⟩ : ∃ c, c = cutS info 512 := ⟨_, rfl⟩
  rw [← hd] at hy
  rw [← hd]
  clear hd
  go_wp2_with fail
  refine (expand_any c d n (by omega) (by omega) _).mono ?_
  rintro e W1 ⟨rfl, hb1⟩
  have HB1 := Lib.hid hb1
  clear hb1
  go_wp2_with fail
  refine (refExpand_any c d n (by omega) (by omega) _).mono ?_
  rintro e W2 ⟨rfl, hb2⟩
  have HB2 := Lib.hid (HB1.out.trans (hb2.mono HB1.out.size))
  clear hb2
  go_wp2_with fail
  refine (awake_any _).mono ?_
  rintro e W5 ⟨rfl, hb5⟩
  have HB5 := Lib.hid (HB2.out.trans (hb5.mono HB2.out.size))
  clear hb5
  go_wp2
  go_ret
  exact ⟨rfl, HB5.out⟩

set_option maxRecDepth 100000 in
theorem SumStretches_walk (key salt : ByteArray) (rounds n : Int) (hk : key.size ≤ 140737488351232) (hi : salt.size ≤ 140737488351232) (w : World) :
    Calls Try.prog 10 #[.string key, .string salt, .int .i64 rounds, .int .i64 n] w fun e w' => e = .returned (.bool true) ∧ Below w.heap.size w w' := by
  have hz := cutS_size key 256
  have hy := cutS_size salt 256
  go_enter Try.func10, Try.ntmps10
  go_wp2_with fail
  refine (cut_any key 256 (by omega) hk _).mono ?_
  rintro e W0 ⟨rfl, rfl⟩
  obtain ⟨c, hc⟩ : ∃ c, c = cutS key 256 := ⟨_, rfl⟩
  rw [← hc] at hz
  rw [← hc]
  clear hc
  go_wp2_with fail
  refine (cut_any salt 256 (by omega) hi _).mono ?_
  rintro e W0 ⟨rfl, rfl⟩
  obtain ⟨d, hd⟩ : ∃ c, c = cutS salt 256 := ⟨_, rfl⟩
  rw [← hd] at hy
  rw [← hd]
  clear hd
  by_cases b1 : 20 < rounds
  · by_cases b2 : rounds ≤ 1000
    all_goals
      go_wp2_with fail
      refine (stretch_any c d _ n (by omega) (by omega) _).mono ?_
      rintro e W1 ⟨rfl, hb1⟩
      have HB1 := Lib.hid hb1
      clear hb1
      go_wp2_with fail
      refine (refStretch_any c d _ n (by omega) (by omega) _).mono ?_
      rintro e W2 ⟨rfl, hb2⟩
      have HB2 := Lib.hid (HB1.out.trans (hb2.mono HB1.out.size))
      clear hb2
      go_wp2_with fail
      refine (awake_any _).mono ?_
      rintro e W5 ⟨rfl, hb5⟩
      have HB5 := Lib.hid (HB2.out.trans (hb5.mono HB2.out.size))
      clear hb5
      go_wp2
      go_ret
      exact ⟨rfl, HB5.out⟩
  · go_wp2_with fail
    refine (stretch_any c d _ n (by omega) (by omega) _).mono ?_
    rintro e W1 ⟨rfl, hb1⟩
    have HB1 := Lib.hid hb1
    clear hb1
    go_wp2_with fail
    refine (refStretch_any c d _ n (by omega) (by omega) _).mono ?_
    rintro e W2 ⟨rfl, hb2⟩
    have HB2 := Lib.hid (HB1.out.trans (hb2.mono HB1.out.size))
    clear hb2
    go_wp2_with fail
    refine (awake_any _).mono ?_
    rintro e W5 ⟨rfl, hb5⟩
    have HB5 := Lib.hid (HB2.out.trans (hb5.mono HB2.out.size))
    clear hb5
    go_wp2
    go_ret
    exact ⟨rfl, HB5.out⟩

theorem expandSpec_at (key info : ByteArray) {n m : Nat} (h : n ≤ m) (hm : m ≤ 1024) : ∃ A B : ByteArray, expandSpec key info n = (A, 0) ∧ expandSpec key info m = (B, 0) ∧ B.size = m ∧ B.extract 0 n = A := by
  have hl := expB_length (bytesOf key) (bytesOf info) ((m + 31) / 32)
  refine ⟨_, _, by rw [expandSpec, if_neg (by omega), Int.toNat_natCast], by rw [expandSpec, if_neg (by omega), Int.toNat_natCast], ?_, ?_⟩
  · rw [strOfNums_size, List.length_take, hl]; omega
  · rw [strOfNums_take, List.take_take, Nat.min_eq_left h, take_prefix (expB_length _ _) (expB_prefix _ _) h]
theorem stretchSpec_at (key salt : ByteArray) {n m : Nat} (h : n ≤ m) (hm : m ≤ 1024) : ∃ A B : ByteArray, stretchSpec key salt 3 n = (A, 0) ∧ stretchSpec key salt 3 m = (B, 0) ∧ B.size = m ∧ B.extract 0 n = A := by
  have hl := strB_length (bytesOf key) (bytesOf salt) 3 ((m + 31) / 32)
  refine ⟨_, _, by rw [stretchSpec, if_neg (by omega), Int.toNat_natCast], by rw [stretchSpec, if_neg (by omega), Int.toNat_natCast], ?_, ?_⟩
  · show (strOfNums ((strB (bytesOf key) (bytesOf salt) 3 ((m + 31) / 32)).take m)).size = m
    rw [strOfNums_size, List.length_take, hl]; omega
  · show (strOfNums ((strB (bytesOf key) (bytesOf salt) 3 ((m + 31) / 32)).take m)).extract 0 n = strOfNums ((strB (bytesOf key) (bytesOf salt) 3 ((n + 31) / 32)).take n)
    rw [strOfNums_take, List.take_take, Nat.min_eq_left h, take_prefix (strB_length _ _ _) (strB_prefix _ _ _) h]

set_option maxRecDepth 100000 in
set_option maxHeartbeats 800000 in
theorem SumBegins_walk (key info : ByteArray) (n m : Int) (hk : key.size ≤ 140737488351232) (hi : info.size ≤ 140737488351232) (w : World) :
    Calls Try.prog 11 #[.string key, .string info, .int .i64 n, .int .i64 m] w fun e w' => e = .returned (.bool true) ∧ Below w.heap.size w w' := by
  have hz := cutS_size key 256
  have hy := cutS_size info 256
  go_enter Try.func11, Try.ntmps11
  go_wp2_with fail
  refine (cut_any key 256 (by omega) hk _).mono ?_
  rintro e W0 ⟨rfl, rfl⟩
  obtain ⟨c, hc⟩ : ∃ c, c = cutS key 256 := ⟨_, rfl⟩
  rw [← hc] at hz
  rw [← hc]
  clear hc
  go_wp2_with fail
  refine (cut_any info 256 (by omega) hi _).mono ?_
  rintro e W0 ⟨rfl, rfl⟩
  obtain ⟨d, hd⟩ : ∃ c, c = cutS info 256 := ⟨_, rfl⟩
  rw [← hd] at hy
  rw [← hd]
  clear hd
  by_cases hbad : n < 0 ∨ m < n ∨ 1024 < m
  · by_cases b1 : n < 0
    · clear hbad
      go_wp2_with fail
      refine (awake_any _).mono ?_
      rintro e W5 ⟨rfl, hb5⟩
      have HB5 := Lib.hid hb5
      clear hb5
      go_wp2
      go_ret
      exact ⟨rfl, HB5.out⟩
    by_cases b2 : m < n
    · clear hbad
      go_wp2_with fail
      refine (awake_any _).mono ?_
      rintro e W5 ⟨rfl, hb5⟩
      have HB5 := Lib.hid hb5
      clear hb5
      go_wp2
      go_ret
      exact ⟨rfl, HB5.out⟩
    · have b3 : 1024 < m := by omega
      clear hbad
      go_wp2_with fail
      refine (awake_any _).mono ?_
      rintro e W5 ⟨rfl, hb5⟩
      have HB5 := Lib.hid hb5
      clear hb5
      go_wp2
      go_ret
      exact ⟨rfl, HB5.out⟩
  · obtain ⟨n, rfl⟩ := Int.eq_ofNat_of_zero_le (show 0 ≤ n by omega)
    obtain ⟨m, rfl⟩ := Int.eq_ofNat_of_zero_le (show 0 ≤ m by omega)
    have hnm : n ≤ m := by omega
    have hm : m ≤ 1024 := by omega
    have hnm1 : (n : Int) ≤ (m : Int) := by omega
    have hn0 : (0 : Int) ≤ (n : Int) := by omega
    obtain ⟨A, B, e1, e2, e3, e4⟩ := expandSpec_at c d hnm hm
    obtain ⟨C, D, f1, f2, f3, f4⟩ := stretchSpec_at c d hnm hm
    have E1 := Lib.hid e1
    have E2 := Lib.hid e2
    have F1 := Lib.hid f1
    have F2 := Lib.hid f2
    have E3 := Lib.hid e3
    have F3 := Lib.hid f3
    have E4 := Lib.hid e4
    have F4 := Lib.hid f4
    clear hbad e1 e2 e3 e4 f1 f2 f3 f4
    go_wp2_with fail
    refine (expand_any c d _ (by omega) (by omega) _).mono ?_
    rw [E1.out]
    rintro e W1 ⟨rfl, hb1⟩
    have HB1 := Lib.hid hb1
    clear hb1
    go_wp2_with fail
    refine (expand_any c d _ (by omega) (by omega) _).mono ?_
    rw [E2.out]
    rintro e W2 ⟨rfl, hb2⟩
    have HB2 := Lib.hid (HB1.out.trans (hb2.mono HB1.out.size))
    clear hb2
    go_wp2_with fail
    refine (stretch_any c d _ _ (by omega) (by omega) _).mono ?_
    rw [F1.out]
    rintro e W3 ⟨rfl, hb3⟩
    have HB3 := Lib.hid (HB2.out.trans (hb3.mono HB2.out.size))
    clear hb3
    go_wp2_with fail
    refine (stretch_any c d _ _ (by omega) (by omega) _).mono ?_
    rw [F2.out]
    rintro e W4 ⟨rfl, hb4⟩
    have HB4 := Lib.hid (HB3.out.trans (hb4.mono HB3.out.size))
    clear hb4
    have e3 := E3.out
    have e4 := E4.out
    have f3 := F3.out
    have f4 := F4.out
    go_wp2_with fail
    refine (awake_any _).mono ?_
    rintro e W5 ⟨rfl, hb5⟩
    have HB5 := Lib.hid (HB4.out.trans (hb5.mono HB4.out.size))
    clear hb5
    go_wp2
    go_ret
    exact ⟨rfl, HB5.out⟩
end Go.Proofs.Ytobgnmellbgfmaa.B
namespace Go.Proofs.Ytobgnmellbgfmaa.R
open Go.RowKit
set_option linter.unusedVariables false
theorem SumExpands (key info : ByteArray) (n : Int) (w : World) (h1 : key.size ≤ 140737488351232) (h2 : info.size ≤ 140737488351232) (h3 : (Lit.int .i64 n).wf = true) :
    Calls Try.prog 9 #[.string key, .string info, .int .i64 n] w fun e w' => e = .returned (.bool true) ∧ Below w.heap.size w w' := B.SumExpands_walk key info n h1 h2 w
theorem SumStretches (key salt : ByteArray) (rounds n : Int) (w : World) (h1 : key.size ≤ 140737488351232) (h2 : salt.size ≤ 140737488351232) (h3 : (Lit.int .i64 rounds).wf = true) (h4 : (Lit.int .i64 n).wf = true) :
    Calls Try.prog 10 #[.string key, .string salt, .int .i64 rounds, .int .i64 n] w fun e w' => e = .returned (.bool true) ∧ Below w.heap.size w w' := B.SumStretches_walk key salt rounds n h1 h2 w
theorem SumBegins (key info : ByteArray) (n m : Int) (w : World) (h1 : key.size ≤ 140737488351232) (h2 : info.size ≤ 140737488351232) (h3 : (Lit.int .i64 n).wf = true) (h4 : (Lit.int .i64 m).wf = true) :
    Calls Try.prog 11 #[.string key, .string info, .int .i64 n, .int .i64 m] w fun e w' => e = .returned (.bool true) ∧ Below w.heap.size w w' := B.SumBegins_walk key info n m h1 h2 w
end Go.Proofs.Ytobgnmellbgfmaa.R
