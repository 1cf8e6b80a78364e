/-
  SumMacs, SumKeys: the laws' walks.
-/
import Derived.Test.YtobgnmellbgfmaaMac
import Derived.Test.YtobgnmellbgfmaaRefMac
import Derived.Test.YtobgnmellbgfmaaSumAwake
namespace Go.Proofs.Ytobgnmellbgfmaa.B
open Go.RowKit
set_option linter.unusedVariables false

theorem kblk_long {K : List Int} (h : 64 < K.length) : kblk (sha K) = kblk K := by
  rw [kblk, kblk, if_neg (by rw [sha_length]; omega), if_pos h]
theorem hmac_long {K : List Int} (h : 64 < K.length) (x : List Int) : hmac (sha K) x = hmac K x := by
  rw [hmac, hmac, opad, opad, ipad, ipad, kblk_long h]
theorem kblk_noughts {K : List Int} {n : Nat} (h : K.length + n ≤ 64) : kblk (K ++ List.replicate n 0) = kblk K := by
  have hl : (K ++ List.replicate n (0 : Int)).length = K.length + n := by simp
  rw [kblk, kblk, if_neg (by omega), if_neg (by omega), kpad, kpad, List.append_assoc, List.replicate_append_replicate, hl]
  congr 2
  omega
theorem hmac_noughts {K : List Int} {n : Nat} (h : K.length + n ≤ 64) (x : List Int) : hmac (K ++ List.replicate n 0) x = hmac K x := by
  rw [hmac, hmac, opad, opad, ipad, ipad, kblk_noughts h]

set_option maxRecDepth 100000 in
theorem SumMacs_walk (key s : ByteArray) (hk : key.size ≤ 140737488351232) (hs : s.size ≤ 140737488351232) (w : World) :
    Calls Try.prog 8 #[.string key, .string s] w fun e w' => e = .returned (.bool true) ∧ Below w.heap.size w w' := by
  have hz := cutS_size key 16384
  have hy := cutS_size s 16384
  go_enter Try.func8, Try.ntmps8
  go_wp2_with fail
  refine (cut_any key 16384 (by omega) hk _).mono ?_
  rintro e W0 ⟨rfl, rfl⟩
  obtain ⟨c, hc⟩ : ∃ c, c = cutS key 16384 := ⟨_, rfl⟩
  rw [← hc] at hz
  rw [← hc]
  clear hc
  go_wp2_with fail
  refine (cut_any s 16384 (by omega) hs _).mono ?_
  rintro e W0 ⟨rfl, rfl⟩
  obtain ⟨d, hd⟩ : ∃ c, c = cutS s 16384 := ⟨_, rfl⟩
  rw [← hd] at hy
  rw [← hd]
  clear hd
  go_wp2_with fail
  refine (mac_any c d (by omega) (by omega) _).mono ?_
  rintro e W1 ⟨rfl, hb1⟩
  have HB1 := Lib.hid hb1
  clear hb1
  go_wp2_with fail
  refine (refMac_any c d (by omega) (by omega) _).mono ?_
  rintro e W2 ⟨rfl, hb2⟩
  have HB2 := Lib.hid (HB1.out.trans (hb2.mono HB1.out.size))
  clear hb2
  go_wp2_with fail
  refine (extract_any c d (by omega) (by omega) _).mono ?_
  rintro e W3 ⟨rfl, hb3⟩
  have HB3 := Lib.hid (HB2.out.trans (hb3.mono HB2.out.size))
  clear hb3
  go_wp2_with fail
  refine (refMac_any c d (by omega) (by omega) _).mono ?_
  rintro e W4 ⟨rfl, hb4⟩
  have HB4 := Lib.hid (HB3.out.trans (hb4.mono HB3.out.size))
  clear hb4
  go_wp2_with fail
  refine (awake_any _).mono ?_
  rintro e W5 ⟨rfl, hb5⟩
  have HB5 := Lib.hid (HB4.out.trans (hb5.mono HB4.out.size))
  clear hb5
  go_wp2
  go_ret
  exact ⟨rfl, HB5.out⟩

set_option maxRecDepth 100000 in
set_option maxHeartbeats 800000 in
theorem SumKeys_walk (key s : ByteArray) (more : Int) (hk : key.size ≤ 140737488351232) (hs : s.size ≤ 140737488351232) (hm1 : -9223372036854775808 ≤ more) (hm2 : more ≤ 9223372036854775807) (w : World) :
    Calls Try.prog 7 #[.string key, .string s, .int .i64 more] w fun e w' => e = .returned (.bool true) ∧ Below w.heap.size w w' := by
  have hz := cutS_size key 4096
  have hy := cutS_size s 4096
  go_enter Try.func7, Try.ntmps7
  go_wp2_with fail
  refine (cut_any key 4096 (by omega) hk _).mono ?_
  rintro e W0 ⟨rfl, rfl⟩
  obtain ⟨c, hc⟩ : ∃ c, c = cutS key 4096 := ⟨_, rfl⟩
  rw [← hc] at hz
  rw [← hc]
  clear hc
  go_wp2_with fail
  refine (cut_any s 4096 (by omega) hs _).mono ?_
  rintro e W0 ⟨rfl, rfl⟩
  obtain ⟨d, hd⟩ : ∃ c, c = cutS s 4096 := ⟨_, rfl⟩
  rw [← hd] at hy
  rw [← hd]
  clear hd
  have hl := bytesOf_length c
  by_cases hbig : 64 < c.size
  · have HL := Lib.hid (show strOfNums (hmac (bytesOf (strOfNums (sha (bytesOf c)))) (bytesOf d)) = strOfNums (hmac (bytesOf c) (bytesOf d)) by rw [bytesOf_strOfNums _ (sha_b _), hmac_long (by omega)])
    have HZ := Lib.hid (show (strOfNums (sha (bytesOf c))).size ≤ 32 by rw [strOfNums_size, sha_length]; exact Nat.le_refl _)
    clear hl
    go_wp2_with fail
    refine (mac_any c d (by omega) (by omega) _).mono ?_
    rintro e W1 ⟨rfl, hb1⟩
    have HB1 := Lib.hid hb1
    clear hb1
    go_wp2_with fail
    refine (sum_any c (by omega) _).mono ?_
    rintro e W2 ⟨rfl, hb2⟩
    have HB2 := Lib.hid (HB1.out.trans (hb2.mono HB1.out.size))
    clear hb2
    go_wp2_with fail
    refine (mac_any _ d (by have := HZ.out; omega) (by omega) _).mono ?_
    rw [HL.out]
    rintro e W3 ⟨rfl, hb3⟩
    have HB3 := Lib.hid (HB2.out.trans (hb3.mono HB2.out.size))
    clear hb3
    go_wp2_with fail
    refine (awake_any _).mono ?_
    rintro e W5 ⟨rfl, hb5⟩
    have HB5 := Lib.hid (HB3.out.trans (hb5.mono HB3.out.size))
    clear hb5
    go_wp2
    go_ret
    exact ⟨rfl, HB5.out⟩
  · obtain ⟨q, hq⟩ : ∃ q : Nat, q = 65 - c.size := ⟨_, rfl⟩
    have hq2 : (65 : Int) - (c.size : Int) = (q : Int) := by omega
    have hq0 : 0 < q := by omega
    have hq65 : q ≤ 65 := by omega
    have hqi : ¬ ((q : Int) = 0) := by omega
    have HQ := Lib.hid hq
    have htl : more.tmod (q : Int) < (q : Int) ∧ -(q : Int) < more.tmod (q : Int) := by
      have h1 := Int.tmod_lt_of_pos more (show (0 : Int) < (q : Int) by omega)
      have h3 := Int.tmod_lt_of_pos (-more) (show (0 : Int) < (q : Int) by omega)
      rw [Int.neg_tmod] at h3
      have h2 : -(q : Int) < more.tmod (q : Int) := by omega
      exact ⟨h1, h2⟩
    have hcase : ∃ m : Nat, m < q ∧ (more.tmod (q : Int) = (m : Int) ∨ more.tmod (q : Int) = -(m : Int) ∧ 0 < m) := by
      by_cases h : 0 ≤ more.tmod (q : Int)
      · exact ⟨(more.tmod (q : Int)).toNat, by omega, .inl (by omega)⟩
      · exact ⟨(-more.tmod (q : Int)).toNat, by omega, .inr ⟨by omega, by omega⟩⟩
    obtain ⟨m, hmq, hmr⟩ := hcase
    clear htl hq
    have hnn : (strOfNums (List.replicate m 0)).size = m := by rw [strOfNums_size, List.length_replicate]
    have hbn : bytesOf (strOfNums (List.replicate m 0)) = List.replicate m 0 := bytesOf_strOfNums _ (fun x hx => by
      obtain rfl := List.eq_of_mem_replicate hx
      omega)
    have hcv : ∀ W : World, (convert 40 9 (.slice (some ⟨W.heap.size, 0, none⟩) m m)).run Try.prog (W.alloc (.cells (nums (List.replicate m 0)).toArray 5 (0, 0))) = .ok (.string (strOfNums (List.replicate m 0))) (W.alloc (.cells (nums (List.replicate m 0)).toArray 5 (0, 0))) := fun W =>
      run_convert_bytes_arg _ _ _ Try.underlying40 Try.underlying5 W.heap.size 0 m m (List.replicate m 0) (by simp) (fun j hj => by rw [Nat.zero_add, blk_cell (get_top rfl) j]; exact nums_get (by simpa using hj)) _ Try.underlying9
    obtain ⟨N, hN⟩ : ∃ N, N = strOfNums (List.replicate m 0) := ⟨_, rfl⟩
    rw [← hN] at hnn hbn
    simp only [← hN] at hcv
    have hcw := hcv w
    have HL := Lib.hid (show strOfNums (hmac (bytesOf (c ++ N)) (bytesOf d)) = strOfNums (hmac (bytesOf c) (bytesOf d)) by rw [bytesOf_append, hbn, hmac_noughts (by omega)])
    have HNS := Lib.hid (show (c ++ N).size ≤ 10000 by rw [ByteArray.size_append]; omega)
    have hns : ¬ 9223372036854775807 < c.size + N.size := by omega
    have hm65 : m ≤ 64 := by omega
    have hm0 : (0 : Int) ≤ (m : Int) := by omega
    clear hnn hbn hcv hN hl hmq hq0 hq65
    rcases hmr with hmr | ⟨hmr, hmp⟩
    all_goals
      go_wp2_with (refine wpList_make_bytes (by rfl) 40 _ _ (by rfl) 5 Try.underlying40 infoByte m (by rfl) (by rfl) (by omega) ?_)
      refine (mac_any _ d (by have := HNS.out; omega) (by omega) _).mono ?_
      rw [HL.out]
      rintro e W1 ⟨rfl, hb1⟩
      have HB1 := Lib.hid (((Below.refl _ w).alloc (Nat.le_refl _) _).trans (hb1.mono (by simp)))
      clear hb1 hcw
      go_wp2_with fail
      refine (mac_any c d (by omega) (by omega) _).mono ?_
      rintro e W2 ⟨rfl, hb2⟩
      have HB2 := Lib.hid (HB1.out.trans (hb2.mono HB1.out.size))
      clear hb2
      go_wp2_with fail
      refine (awake_any _).mono ?_
      rintro e W5 ⟨rfl, hb5⟩
      have HB5 := Lib.hid (HB2.out.trans (hb5.mono HB2.out.size))
      clear hb5
      go_wp2
      go_ret
      exact ⟨rfl, HB5.out⟩
end Go.Proofs.Ytobgnmellbgfmaa.B
