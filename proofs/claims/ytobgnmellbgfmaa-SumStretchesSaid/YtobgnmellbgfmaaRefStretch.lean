/-
  The document's Stretch (grapnelref02), walked.
-/
import Derived.Test.YtobgnmellbgfmaaRefExpand
import Derived.Test.YtobgnmellbgfmaaStretch
namespace Go.Proofs.Ytobgnmellbgfmaa.B
open Go.RowKit
set_option linter.unusedVariables false
set_option linter.unusedSimpArgs false

/-- The inner loops of the document's Stretch: t, block gt, holds xs. -/
structure RStI (w : World) (gt ct : Nat) (xs : List Int) (W : World) : Prop where
  bel : Below w.heap.size w W
  t : Row W 5 1 (.slice (some ⟨gt, 0, none⟩) 32 ct) 32 (nums xs)
  ge : w.heap.size ≤ gt
theorem RStI.below {w W W1 : World} {gt ct : Nat} {xs : List Int} (h : RStI w gt ct xs W) (hb : Below W.heap.size W W1) : RStI w gt ct xs W1 :=
  ⟨h.bel.trans (hb.mono h.bel.size), h.t.kept (S := fun _ => False) (Keeps.of_below hb) (fun _ _ h => h), h.ge⟩
theorem RStI.drew {w W : World} {gt ct : Nat} {xs : List Int} (h : RStI w gt ct xs W) : RStI w gt ct xs W.drew := h.below ((Below.refl _ W).drew)
theorem RStI.put {w W : World} {gt ct : Nat} {xs : List Int} (h : RStI w gt ct xs W) (i : Nat) (y : Int) : RStI w gt ct (xs.set i y) (W.setCell ⟨gt, i, none⟩ (.int .u8 y)) := by
  have hk : Keeps (fun i => i = gt) W (W.setCell ⟨gt, i, none⟩ (.int .u8 y)) := Keeps.setCell (S := fun i => i = gt) (Keeps.refl _ _) (fun _ => rfl) _
  have hg := h.ge
  refine ⟨h.bel.trans (hk.below h.bel.size (by intro j hj; omega)), ?_, hg⟩
  have := h.t.put i (.int .u8 y)
  rw [nums, List.map_set]
  exact this
theorem RStI.start {w W : World} {xs : List Int} {U : ByteArray} (h : Below w.heap.size w W) (hU : U.size = 32) (hx : bytesOf U = xs) : RStI w W.heap.size (grownCap W 32 0 5) xs (Lib.bytesWorld W 5 U) := by
  have hr := Row.bytes W 5 U (by rw [hU]; unfold maxLen; omega)
  rw [← nums_bytesOf, hx, hU] at hr
  exact ⟨h.trans ((bytes_below W _ U).mono h.size), hr, h.size⟩

set_option maxRecDepth 100000 in
set_option maxHeartbeats 6400000 in
theorem refStretch_any (key salt : ByteArray) (rounds n : Int) (hk : key.size ≤ 100000) (hi : salt.size ≤ 100000) (w : World) :
    Calls Try.prog 25 #[.string key, .string salt, .int .i64 rounds, .int .i64 n] w fun e w' => e = .returned (.tuple #[.string (stretchSpec key salt rounds n).1, .int .i64 (stretchSpec key salt rounds n).2]) ∧ Below w.heap.size w w' := by
  by_cases hbad : rounds < 1 ∨ 1000 < rounds ∨ n < 0 ∨ 1024 < n
  · have HS := Lib.hid (show stretchSpec key salt rounds n = (⟨#[]⟩, 1) by rw [stretchSpec, if_pos hbad])
    by_cases b1 : rounds < 1
    · clear hbad
      go_enter Try.func25, Try.ntmps25
      go_wp2
      go_ret2
      rw [HS.out]
      exact ⟨rfl, Below.refl _ _⟩
    by_cases b2 : 1000 < rounds
    · clear hbad
      go_enter Try.func25, Try.ntmps25
      go_wp2
      go_ret2
      rw [HS.out]
      exact ⟨rfl, Below.refl _ _⟩
    by_cases b3 : n < 0
    · clear hbad
      go_enter Try.func25, Try.ntmps25
      go_wp2
      go_ret2
      rw [HS.out]
      exact ⟨rfl, Below.refl _ _⟩
    · have b4 : 1024 < n := by omega
      clear hbad
      go_enter Try.func25, Try.ntmps25
      go_wp2
      go_ret2
      rw [HS.out]
      exact ⟨rfl, Below.refl _ _⟩
  obtain ⟨m, rfl⟩ := Int.eq_ofNat_of_zero_le (show 0 ≤ n by omega)
  obtain ⟨q, rfl⟩ : ∃ q : Nat, rounds = (q : Int) + 1 := ⟨(rounds - 1).toNat, by omega⟩
  have HS := Lib.hid (show stretchSpec key salt ((q : Int) + 1) (m : Int) = (strOfNums ((strB (bytesOf key) (bytesOf salt) (q + 1) ((m + 31) / 32)).take m), 0) by rw [stretchSpec, if_neg (by omega), Int.toNat_natCast, show ((q : Int) + 1).toNat = q + 1 by omega])
  have hm : m ≤ 1024 := by omega
  have hq : q ≤ 999 := by omega
  obtain ⟨KB, hKB⟩ : ∃ K, K = bytesOf key := ⟨_, rfl⟩
  obtain ⟨SB, hSB⟩ : ∃ I, I = bytesOf salt := ⟨_, rfl⟩
  rw [← hSB, ← hKB] at HS
  have HKB := Lib.hid hKB
  have HSB := Lib.hid hSB
  obtain ⟨M, hM⟩ : ∃ M, M = (m + 31) / 32 := ⟨_, rfl⟩
  rw [← hM] at HS
  clear hKB hSB hbad
  go_enter Try.func25, Try.ntmps25
  go_wp2_with fail
  go_loopg [10, 11] M (fun j o i wr => ∃ (k : Nat), j + k = M ∧ o = .string (strOfNums (strB KB SB (q + 1) k)) ∧ i = .int .i64 ((k : Int) + 1) ∧ Below w.heap.size w wr)
  case atStart => exact ⟨0, rfl, rfl, rfl, Below.refl _ _⟩
  case round =>
    obtain ⟨k, hk, rfl, rfl, hI⟩ := hrel
    have hkM : k ≤ M := by omega
    have hM32 : M ≤ 32 := by omega
    have hos : (strOfNums (strB KB SB (q + 1) k)).size = 32 * k := by rw [strOfNums_size, strB_length]
    by_cases hlt : k < M
    · have hk32 : k < 32 := by omega
      obtain ⟨O, hO⟩ : ∃ O, O = strOfNums (strB KB SB (q + 1) k) := ⟨_, rfl⟩
      rw [← hO] at hos
      rw [← hO]
      have hol : ((O.size : Int) < (m : Int)) := by omega
      have hO32 : O.size ≤ 1024 := by omega
      have HO := Lib.hid hO
      have hcw := conv4 wr 0 0 (((k : Int) + 1) / 256) ((k : Int) + 1)
      have hbe := be4_small hk32
      rw [show ((k : Int) + 1) / 16777216 = 0 by omega, show ((k : Int) + 1) / 65536 = 0 by omega] at hbe
      rw [← hbe] at hcw
      have hm255 : bits .and .i64 ((k : Int) + 1) 255 = (k : Int) + 1 := by
        have h := bits_mask .i64 63 (by decide) wraps_i64 8 (by decide) ((k : Int) + 1) (by omega) (by omega)
        rw [show ((2 : Int) ^ 8 - 1) = 255 from rfl, show ((2 : Int) ^ 8) = 256 from rfl, Int.emod_eq_of_lt (by omega) (by omega)] at h
        exact h
      have hcs : (strOfNums (be4 ((k : Int) + 1))).size = 4 := by rw [strOfNums_size]; rfl
      have hcb : bytesOf (strOfNums (be4 ((k : Int) + 1))) = be4 ((k : Int) + 1) := bytesOf_strOfNums _ (be4_b _)
      obtain ⟨C, hC⟩ : ∃ C, C = strOfNums (be4 ((k : Int) + 1)) := ⟨_, rfl⟩
      rw [← hC] at hcw hcs hcb
      have z1 : ¬ 9223372036854775807 < salt.size + C.size := by omega
      have hsz : (salt ++ C).size ≤ 800000 := by rw [ByteArray.size_append]; omega
      have hnx : strOfNums (hmac KB (bytesOf (salt ++ C))) = strOfNums (strU KB SB (k + 1) 0) := by
        rw [bytesOf_append, hcb, ← HSB.out, strU]
        rfl
      have HNX := Lib.hid hnx
      have HSZ := Lib.hid hsz
      have HI := Lib.hid hI
      clear hI hbe hcs hcb hC hnx hsz hO hos
      go_wp2_with fail
      refine (refMac_any key _ (by omega) (by have := HSZ.out; omega) _).mono ?_
      rw [← HKB.out, HNX.out]
      rintro e W4 ⟨rfl, hb4⟩
      have HI4 := Lib.hid (HI.out.trans ((((Below.refl _ wr).alloc (Nat.le_refl _) _).trans (hb4.mono (by simp))).mono HI.out.size))
      obtain ⟨hu1, hu2⟩ := strU_str KB SB (k + 1) 0
      obtain ⟨U, hU⟩ : ∃ U, U = strOfNums (strU KB SB (k + 1) 0) := ⟨_, rfl⟩
      rw [← hU] at hu1 hu2
      rw [← hU]
      have hcv : (convert 9 40 (.string U)).run Try.prog W4 = .ok (.slice (some ⟨W4.heap.size, 0, none⟩) U.size (grownCap W4 U.size 0 5)) (Lib.bytesWorld W4 5 U) := Lib.run_convert_string_bytes (P := Try.prog) W4 9 40 5 U Try.underlying9 Try.underlying40 Try.underlying5
      rw [hu1] at hcv
      have hS0 := RStI.start HI4.out hu1 (show bytesOf U = strX KB SB (k + 1) 0 from hu2)
      obtain ⟨W5, hW5⟩ : ∃ W, W = Lib.bytesWorld W4 5 U := ⟨_, rfl⟩
      obtain ⟨ct, hct⟩ : ∃ c, c = grownCap W4 32 0 5 := ⟨_, rfl⟩
      rw [← hW5, ← hct] at hcv hS0
      obtain ⟨gt, hgt⟩ : ∃ g, g = W4.heap.size := ⟨_, rfl⟩
      rw [← hgt] at hcv hS0
      have HS0 := Lib.hid hS0
      have HU := Lib.hid hU
      clear hb4 hcw HI hu1 hu2 hU hW5 hct hgt hS0 HI4 HSZ HNX hm255 z1
      go_wp2_with fail
      go_loopg [12, 14] q (fun j2 u i wr => ∃ (j : Nat), j2 + j = q ∧ u = .string (strOfNums (strU KB SB (k + 1) j)) ∧ i = .int .i64 ((j : Int) + 1) ∧ RStI w gt ct (strX KB SB (k + 1) j) wr)
      case atStart => exact ⟨0, rfl, by rw [HU.out], rfl, HS0.out⟩
      case round =>
        clear HS0 hcv
        obtain ⟨j, hj, rfl, rfl, hI⟩ := hrel
        by_cases hjq : j < q
        · obtain ⟨hu1, hu2⟩ := strU_str KB SB (k + 1) j
          have hnx : strOfNums (hmac KB (bytesOf (strOfNums (strU KB SB (k + 1) j)))) = strOfNums (strU KB SB (k + 1) (j + 1)) := by
            rw [hu2, strU]
          obtain ⟨U2, hU2⟩ : ∃ U, U = strOfNums (strU KB SB (k + 1) j) := ⟨_, rfl⟩
          rw [← hU2] at hu1 hnx
          rw [← hU2]
          have HU1 := Lib.hid hu1
          have HNX := Lib.hid hnx
          have HI := Lib.hid hI
          clear hu1 hu2 hnx hI hU2
          go_wp2_with fail
          refine (refMac_any key _ (by omega) (by rw [HU1.out]; omega) _).mono ?_
          rw [← HKB.out, HNX.out]
          rintro e W6 ⟨rfl, hb6⟩
          have HI6 := Lib.hid (HI.out.below hb6)
          obtain ⟨hu1, hu2⟩ := strU_str KB SB (k + 1) (j + 1)
          obtain ⟨U3, hU3⟩ : ∃ U, U = strOfNums (strU KB SB (k + 1) (j + 1)) := ⟨_, rfl⟩
          rw [← hU3] at hu1 hu2
          rw [← hU3]
          have hul := strU_length KB SB (k + 1) (j + 1)
          have hub := strU_b KB SB (k + 1) (j + 1)
          have hxl := strX_length KB SB (k + 1) j
          have hxb := strX_b KB SB (k + 1) j
          have hzz : strX KB SB (k + 1) (j + 1) = List.zipWith xr (strX KB SB (k + 1) j) (strU KB SB (k + 1) (j + 1)) := rfl
          obtain ⟨V, hV⟩ : ∃ V, V = strU KB SB (k + 1) (j + 1) := ⟨_, rfl⟩
          obtain ⟨X, hX⟩ : ∃ X, X = strX KB SB (k + 1) j := ⟨_, rfl⟩
          rw [← hV] at hu2 hul hub hzz
          rw [← hX] at hxl hxb hzz HI6
          have HUL := Lib.hid hul
          have HUB := Lib.hid hub
          have HXL := Lib.hid hxl
          have HXB := Lib.hid hxb
          have HZZ := Lib.hid hzz
          have HU3 := Lib.hid hU3
          have HV3 := Lib.hid hu2
          have HU3S := Lib.hid hu1
          have hZl : (List.zipWith xr X V).length = 32 := by rw [List.length_zipWith, hxl, hul]; rfl
          obtain ⟨Z, hZ⟩ : ∃ Z, Z = List.zipWith xr X V := ⟨_, rfl⟩
          rw [← hZ] at hZl
          have HZ := Lib.hid hZ
          have HZL := Lib.hid hZl
          clear hb6 hu1 hu2 hU3 hul hub hxl hxb hzz hV hX HI HNX HU1 hZ hZl
          go_wp2_with fail
          go_loopg [15] 32 (fun j2 i wr => ∃ (c : Nat), j2 + c = 32 ∧ i = .int .i64 (c : Int) ∧ RStI w gt ct (Z.take c ++ X.drop c) wr)
          case atStart => exact ⟨0, rfl, rfl, by simpa using HI6.out⟩
          case round =>
            clear HI6
            obtain ⟨c, hc, rfl, hI⟩ := hrel
            by_cases hc32 : c < 32
            · have hlen : (Z.take c ++ X.drop c).length = 32 := by simp [HZL.out, HXL.out]; omega
              have kx : wr.cell? ⟨gt, c, none⟩ = some (.int .u8 (X.getD c 0)) := by
                refine hI.t.cells c _ ?_
                rw [nums, List.getElem?_map, List.getElem?_eq_getElem (by omega)]
                have := part_get (Z := Z) (X := X) (c := c) (by rw [HXL.out, HZL.out]) (by rw [HZL.out]; exact hc32)
                rw [List.getD, List.getElem?_eq_getElem (by omega), Option.getD_some] at this
                rw [this]
                rfl
              have kf := hI.t.free hc32
              have hzg := zip_get (X := X) (U := V) (c := c) (by rw [HXL.out]; exact hc32) (by rw [HUL.out]; exact hc32)
              rw [← HZ.out] at hzg
              have hxx := HXB.out.get c
              have hvv := HUB.out.get c
              have hcu : c < U3.size := by rw [HU3S.out]; exact hc32
              have hgu := bytesOf_get HV3.out hcu
              have hput := fun y => hI.put c y
              have hset := set_part (Z := Z) (X := X) (c := c) (by rw [HXL.out, HZL.out]) (by rw [HZL.out]; exact hc32)
              obtain ⟨x, hx⟩ : ∃ x, x = X.getD c 0 := ⟨_, rfl⟩
              obtain ⟨y, hy⟩ : ∃ x, x = V.getD c 0 := ⟨_, rfl⟩
              rw [← hx] at kx hzg hxx
              rw [← hy] at hgu hzg hvv
              obtain ⟨z, e1⟩ : ∃ z, bits .xor .u8 x y = z := ⟨_, rfl⟩
              have hzz : z = Z.getD c 0 := by rw [← e1, xor_u8 hxx hvv, hzg]
              have hp := hput z
              rw [hzz, hset, ← hzz] at hp
              have HP := Lib.hid hp
              have q5 : (c : Int) < 32 := by omega
              have q7 : (0 : Int) ≤ (c : Int) := by omega
              clear hlen hzg hxx hvv hput hset hx hy hzz hp hI
              go_wp2_with fail
              go_still_tail 11, (by kernel_rfl)
              change wpList _ _ _ _ _ wr.drew
              go_wp2_with fail
              go_roundg (gk - 1)
              case measure => omega
              case rel => exact ⟨c + 1, by omega, by go_num, HP.out.drew⟩
            · obtain rfl : c = 32 := by omega
              have hfin := hI
              rw [List.take_of_length_le (by rw [HZL.out]; exact Nat.le_refl _), List.drop_of_length_le (by rw [HXL.out]; exact Nat.le_refl _), List.append_nil, HZ.out, ← HZZ.out] at hfin
              have HF := Lib.hid hfin
              clear hI hfin hc hc32
              go_wp2_with fail
              go_roundg (q - (j + 1))
              case measure => omega
              case rel => exact ⟨j + 1, by omega, by rw [HU3.out], by go_num, HF.out⟩
        · obtain rfl : j = q := by omega
          have hcs := row_string (P := Try.prog) Try.underlying40 Try.underlying5 Try.underlying9 hI.t
          have hxs : (strOfNums (strX KB SB (k + 1) j)).size = 32 := by rw [strOfNums_size, strX_length]
          have hcat : O ++ strOfNums (strX KB SB (k + 1) j) = strOfNums (strB KB SB (j + 1) (k + 1)) := by rw [HO.out, ← strOfNums_append]; rfl
          obtain ⟨Y, hY⟩ : ∃ Y, Y = strOfNums (strX KB SB (k + 1) j) := ⟨_, rfl⟩
          rw [← hY] at hcs hxs hcat
          have z2 : ¬ 9223372036854775807 < O.size + Y.size := by omega
          have HCAT := Lib.hid hcat
          have HB := Lib.hid hI.bel
          clear hI hcat hY hxs hj hjq
          go_wp2_with fail
          go_roundg (M - (k + 1))
          case measure => omega
          case rel => exact ⟨k + 1, by omega, by rw [HCAT.out], by go_num, HB.out⟩
    · obtain rfl : k = M := by omega
      have hHS := HS.out
      have hex := strOfNums_take (strB KB SB (q + 1) k) m
      obtain ⟨O, hO⟩ : ∃ O, O = strOfNums (strB KB SB (q + 1) k) := ⟨_, rfl⟩
      rw [← hO] at hos hex
      rw [← hex] at hHS
      rw [← hO]
      have HS := Lib.hid hHS
      have hol : ¬ ((O.size : Int) < (m : Int)) := by omega
      have hm0 : (0 : Int) ≤ (m : Int) := by omega
      have hmo : (m : Int) ≤ (O.size : Int) := by omega
      clear hos hex hHS hM hO hkM hM32 hlt hk
      go_wp2
      go_ret2
      rw [HS.out]
      exact ⟨rfl, hI⟩
end Go.Proofs.Ytobgnmellbgfmaa.B
