/-
  The document's Expand (grapnelref02), walked.
-/
import Derived.Test.YtobgnmellbgfmaaRefMac
import Derived.Test.YtobgnmellbgfmaaExpand
namespace Go.Proofs.Ytobgnmellbgfmaa.B
open Go.RowKit
set_option linter.unusedVariables false
set_option linter.unusedSimpArgs false

theorem strOfNums_take (xs : List Int) (m : Nat) : (strOfNums xs).extract 0 m = strOfNums (xs.take m) := by
  apply ByteArray.ext
  simp [strOfNums, List.map_take]

set_option maxRecDepth 100000 in
set_option maxHeartbeats 3200000 in
theorem refExpand_any (key info : ByteArray) (n : Int) (hk : key.size ≤ 100000) (hi : info.size ≤ 100000) (w : World) :
    Calls Try.prog 23 #[.string key, .string info, .int .i64 n] w fun e w' => e = .returned (.tuple #[.string (expandSpec key info n).1, .int .i64 (expandSpec key info n).2]) ∧ Below w.heap.size w w' := by
  by_cases h0 : n < 0
  · have HS := Lib.hid (show expandSpec key info n = (⟨#[]⟩, 1) by rw [expandSpec, if_pos (.inl h0)])
    go_enter Try.func23, Try.ntmps23
    go_wp2
    go_ret2
    rw [HS.out]
    exact ⟨rfl, Below.refl _ _⟩
  by_cases h1 : 8160 < n
  · have HS := Lib.hid (show expandSpec key info n = (⟨#[]⟩, 1) by rw [expandSpec, if_pos (.inr h1)])
    go_enter Try.func23, Try.ntmps23
    go_wp2
    go_ret2
    rw [HS.out]
    exact ⟨rfl, Below.refl _ _⟩
  obtain ⟨m, rfl⟩ := Int.eq_ofNat_of_zero_le (show 0 ≤ n by omega)
  have HS := Lib.hid (show expandSpec key info (m : Int) = (strOfNums ((expB (bytesOf key) (bytesOf info) ((m + 31) / 32)).take m), 0) by rw [expandSpec, if_neg (by omega), Int.toNat_natCast])
  have hm : m ≤ 8160 := by omega
  obtain ⟨KB, hKB⟩ : ∃ K, K = bytesOf key := ⟨_, rfl⟩
  obtain ⟨IB, hIB⟩ : ∃ I, I = bytesOf info := ⟨_, rfl⟩
  rw [← hIB, ← hKB] at HS
  have HKB := Lib.hid hKB
  have HIB := Lib.hid hIB
  obtain ⟨M, hM⟩ : ∃ M, M = (m + 31) / 32 := ⟨_, rfl⟩
  rw [← hM] at HS
  clear hKB hIB
  go_enter Try.func23, Try.ntmps23
  go_wp2_with fail
  go_loopg [8, 9, 10] M (fun j o t i wr => ∃ (k : Nat), j + k = M ∧ o = .string (strOfNums (expB KB IB k)) ∧ t = .string (strOfNums (expT KB IB k)) ∧ i = .int .i64 ((k : Int) + 1) ∧ Below w.heap.size w wr)
  case atStart => exact ⟨0, rfl, rfl, rfl, rfl, Below.refl _ _⟩
  case round =>
    obtain ⟨k, hk, rfl, rfl, rfl, hI⟩ := hrel
    have hkM : k ≤ M := by omega
    have hM256 : M ≤ 255 := by omega
    have hos : (strOfNums (expB KB IB k)).size = 32 * k := by rw [strOfNums_size, expB_length]
    by_cases hlt : k < M
    · have hts := expT_small KB IB k
      have hT1 : (strOfNums (expT KB IB k)).size ≤ 32 := by rw [strOfNums_size]; exact hts
      have hT2 : bytesOf (strOfNums (expT KB IB k)) = expT KB IB k := bytesOf_strOfNums _ (expT_b KB IB k)
      obtain ⟨T, hT⟩ : ∃ T, T = strOfNums (expT KB IB k) := ⟨_, rfl⟩
      rw [← hT] at hT1 hT2
      rw [← hT]
      have hc : ((k : Int) + 1) % 256 = (k : Int) + 1 := Int.emod_eq_of_lt (by omega) (by omega)
      have hcw := conv1 wr ((k : Int) + 1)
      have hcs : (strOfNums [(k : Int) + 1]).size = 1 := by rw [strOfNums_size]; rfl
      have hcb : bytesOf (strOfNums [(k : Int) + 1]) = [(k : Int) + 1] := bytesOf_strOfNums _ (fun x hx => by
        obtain rfl := List.mem_singleton.1 hx
        omega)
      obtain ⟨C, hC⟩ : ∃ C, C = strOfNums [(k : Int) + 1] := ⟨_, rfl⟩
      rw [← hC] at hcw hcs hcb
      have z1 : ¬ 9223372036854775807 < T.size + info.size := by omega
      have z2 : ¬ 9223372036854775807 < T.size + info.size + C.size := by omega
      have hsz : (T ++ info ++ C).size ≤ 800000 := by rw [ByteArray.size_append, ByteArray.size_append]; omega
      have hnx : strOfNums (hmac KB (bytesOf (T ++ info ++ C))) = strOfNums (expT KB IB (k + 1)) := by
        rw [bytesOf_append, bytesOf_append, hT2, hcb, ← HIB.out, expT, hc]
      have hT1s : (strOfNums (expT KB IB (k + 1))).size ≤ 32 := by rw [strOfNums_size, expT_length]; exact Nat.le_refl _
      have hcat : strOfNums (expB KB IB k) ++ strOfNums (expT KB IB (k + 1)) = strOfNums (expB KB IB (k + 1)) := by rw [← strOfNums_append]; rfl
      obtain ⟨T1, hT1'⟩ : ∃ T, T = strOfNums (expT KB IB (k + 1)) := ⟨_, rfl⟩
      obtain ⟨O, hO⟩ : ∃ O, O = strOfNums (expB KB IB k) := ⟨_, rfl⟩
      rw [← hT1'] at hT1s hcat hnx
      rw [← hO] at hcat hos
      rw [← hO]
      have hol : ((O.size : Int) < (m : Int)) := by omega
      have z3 : ¬ 9223372036854775807 < O.size + T1.size := by omega
      have HNX := Lib.hid hnx
      have HSZ := Lib.hid hsz
      have HI := Lib.hid hI
      have HCAT := Lib.hid hcat
      have HT1 := Lib.hid hT1'
      clear hT hT1 hT2 hts hc hcs hcb hC hnx hsz hI hcat hT1' hO hos
      go_wp2_with fail
      refine (refMac_any key _ (by omega) (by have := HSZ.out; omega) _).mono ?_
      rw [← HKB.out, HNX.out]
      rintro e W4 ⟨rfl, hb4⟩
      have HI4 := Lib.hid (HI.out.trans ((((Below.refl _ wr).alloc (Nat.le_refl _) _).trans (hb4.mono (by simp))).mono HI.out.size))
      clear hb4 hcw HI
      go_wp2_with fail
      go_roundg (gk - 1)
      case measure => omega
      case rel => exact ⟨k + 1, by omega, by rw [HCAT.out], by rw [HT1.out], by go_num, HI4.out⟩
    · obtain rfl : k = M := by omega
      have hHS := HS.out
      have hex := strOfNums_take (expB KB IB k) m
      obtain ⟨O, hO⟩ : ∃ O, O = strOfNums (expB KB IB k) := ⟨_, rfl⟩
      rw [← hO] at hos hex
      rw [← hex] at hHS
      rw [← hO]
      have HS := Lib.hid hHS
      have hol : ¬ ((O.size : Int) < (m : Int)) := by omega
      have hm0 : (0 : Int) ≤ (m : Int) := by omega
      have hmo : (m : Int) ≤ (O.size : Int) := by omega
      clear hos hex hHS hM hO hkM hM256 hlt hk
      go_wp2
      go_ret2
      rw [HS.out]
      exact ⟨rfl, hI⟩
end Go.Proofs.Ytobgnmellbgfmaa.B
