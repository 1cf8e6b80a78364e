/-
  sum.Stretch, walked.
-/
import Derived.Test.YtobgnmellbgfmaaExpand
namespace Go.Proofs.Ytobgnmellbgfmaa.B
open Go.RowKit
set_option linter.unusedVariables false
set_option linter.unusedSimpArgs false

theorem Row.free {w : World} {e : TypeId} {n cap g : Nat} {xs : List Value} (h : Row w e 1 (.slice (some ⟨g, 0, none⟩) n cap) n xs) {i : Nat} (hi : i < n) : w.frozen? ⟨g, i, none⟩ = false := by
  rcases h.2 with ⟨hz, _⟩ | ⟨g', cap', cur, lo, hi', he, hg, hmk, hnc, _⟩
  · simp at hz
  · simp at he
    obtain ⟨rfl, rfl⟩ := he
    simp [World.frozen?, hg]
    omega
theorem Row.put {w : World} {e : TypeId} {n cap g : Nat} {xs : List Value} (h : Row w e 1 (.slice (some ⟨g, 0, none⟩) n cap) n xs) (i : Nat) (u : Value) : Row (w.setCell ⟨g, i, none⟩ u) e 1 (.slice (some ⟨g, 0, none⟩) n cap) n (xs.set i u) := by
  refine ⟨by rw [List.length_set]; exact h.1, ?_⟩
  rcases h.2 with ⟨hz, _⟩ | ⟨g', cap', cur, lo, hi', he, hg, hmk, hnc, hcm, hcs, ht⟩
  · simp at hz
  · simp at he
    obtain ⟨rfl, rfl⟩ := he
    refine .inr ⟨g, cap, _, lo, hi', rfl, blk_set hg i u, hmk, hnc, hcm, by simpa using hcs, ?_⟩
    rw [Array.toList_setIfInBounds, List.take_set, ht]
/-- The inner loops of Stretch: t, block gt, holds xs. -/
structure StrI (w : World) (g : Nat) (Zi Zo : List Value) (n : Nat) (ys : List Int) (v : Value) (gt ct : Nat) (xs : List Int) (W : World) : Prop where
  e : ExpI w g Zi Zo n ys v W
  t : Row W 5 1 (.slice (some ⟨gt, 0, none⟩) 32 ct) 32 (nums xs)
  ge : w.heap.size ≤ gt
  ne : some gt ≠ v.ownBlock
theorem StrI.below {w W W1 : World} {g n gt ct : Nat} {Zi Zo : List Value} {ys xs : List Int} {v : Value} (h : StrI w g Zi Zo n ys v gt ct xs W) (hb : Below W.heap.size W W1) : StrI w g Zi Zo n ys v gt ct xs W1 :=
  ⟨h.e.below hb, h.t.kept (S := fun _ => False) (Keeps.of_below hb) (fun _ _ h => h), h.ge, h.ne⟩
theorem StrI.drew {w W : World} {g n gt ct : Nat} {Zi Zo : List Value} {ys xs : List Int} {v : Value} (h : StrI w g Zi Zo n ys v gt ct xs W) : StrI w g Zi Zo n ys v gt ct xs W.drew := h.below ((Below.refl _ W).drew)
theorem ExpI.kept {w W W1 : World} {g n gt : Nat} {Zi Zo : List Value} {xs : List Int} {v : Value} (h : ExpI w g Zi Zo n xs v W) (hk : Keeps (fun i => i = gt) W W1) (h1 : gt ≠ g) (h2 : gt ≠ g + 1) (h3 : some gt ≠ v.ownBlock) (h4 : w.heap.size ≤ gt) : ExpI w g Zi Zo n xs v W1 :=
  ⟨⟨h.l.bel.trans (hk.below h.l.bel.size (by intro i hi; omega)), hk.at_ h.l.h1 (by omega), hk.at_ h.l.h2 (by omega), h.l.ge⟩, h.b.row.kept hk (fun k hk2 he => h3 (by rw [hk2, he])), h.b.below.trans (hk.below h.b.below.size (by intro i hi; omega)), h.b.base⟩
theorem StrI.put {w W : World} {g n gt ct : Nat} {Zi Zo : List Value} {ys xs : List Int} {v : Value} (h : StrI w g Zi Zo n ys v gt ct xs W) (i : Nat) (y : Int) : StrI w g Zi Zo n ys v gt ct (xs.set i y) (W.setCell ⟨gt, i, none⟩ (.int .u8 y)) := by
  have n1 : some g ≠ some gt := h.t.ne_type h.e.l.h1 (by decide)
  have n2 : some (g + 1) ≠ some gt := h.t.ne_type h.e.l.h2 (by decide)
  refine ⟨h.e.kept (Keeps.setCell (S := fun i => i = gt) (Keeps.refl _ _) (fun _ => rfl) _) (fun e => n1 (by rw [e])) (fun e => n2 (by rw [e])) h.ne h.ge, ?_, h.ge, h.ne⟩
  have := h.t.put i (.int .u8 y)
  rw [nums, List.map_set]
  exact this
theorem conv4 (W : World) (a b c d : Int) : (convert 40 9 (.slice (some ⟨W.heap.size, 0, none⟩) 4 4)).run Try.prog (W.alloc (.cells #[.int .u8 a, .int .u8 b, .int .u8 c, .int .u8 d] 5 (0, 0))) = .ok (.string (strOfNums [a, b, c, d])) (W.alloc (.cells #[.int .u8 a, .int .u8 b, .int .u8 c, .int .u8 d] 5 (0, 0))) :=
  run_convert_bytes_arg _ _ _ Try.underlying40 Try.underlying5 W.heap.size 0 4 4 [a, b, c, d] rfl (fun j hj => by
    rw [blk_cell (get_top rfl)]
    match j, hj with
    | 0, _ => rfl
    | 1, _ => rfl
    | 2, _ => rfl
    | 3, _ => rfl) _ Try.underlying9

theorem be4_small {k : Nat} (hk : k < 32) : be4 ((k : Int) + 1) = [((k : Int) + 1) / 16777216, ((k : Int) + 1) / 65536, ((k : Int) + 1) / 256, (k : Int) + 1] := by
  rw [be4, Int.emod_eq_of_lt (a := ((k : Int) + 1) / 16777216) (by omega) (by omega), Int.emod_eq_of_lt (a := ((k : Int) + 1) / 65536) (by omega) (by omega), Int.emod_eq_of_lt (a := ((k : Int) + 1) / 256) (by omega) (by omega), Int.emod_eq_of_lt (a := (k : Int) + 1) (by omega) (by omega)]
theorem bytesOf_get {s : ByteArray} {xs : List Int} (h : bytesOf s = xs) {i : Nat} (hi : i < s.size) : ((s[i]).toNat : Int) = xs.getD i 0 := by
  subst h
  rw [bytesOf, List.getD, List.getElem?_map]
  have : i < s.data.toList.length := by rw [Array.length_toList]; exact hi
  rw [List.getElem?_eq_getElem this]
  simp
  rfl
theorem set_part {Z X : List Int} {c : Nat} (hl : X.length = Z.length) (hc : c < Z.length) : (Z.take c ++ X.drop c).set c (Z.getD c 0) = Z.take (c + 1) ++ X.drop (c + 1) := by
  have h1 : (Z.take c).length = c := by simp; omega
  rw [List.set_append_right _ _ (by omega), h1, Nat.sub_self, List.drop_eq_getElem_cons (show c < X.length by omega), List.set_cons_zero, List.take_add_one, List.getElem?_eq_getElem hc, List.append_assoc]
  simp [List.getD, List.getElem?_eq_getElem hc]
theorem part_get {Z X : List Int} {c : Nat} (hl : X.length = Z.length) (hc : c < Z.length) : (Z.take c ++ X.drop c).getD c 0 = X.getD c 0 := by
  rw [List.getD, List.getElem?_append_right (by simp; omega), ← List.getD, List.length_take, Nat.min_eq_left (by omega), Nat.sub_self]
  simp [List.getD, List.getElem?_drop]
theorem zip_get {X U : List Int} {c : Nat} (hx : c < X.length) (hu : c < U.length) : (List.zipWith xr X U).getD c 0 = xr (X.getD c 0) (U.getD c 0) := by
  rw [List.getD, List.getElem?_eq_getElem (by simp; omega), Option.getD_some, List.getElem_zipWith]
  simp [List.getD, List.getElem?_eq_getElem hx, List.getElem?_eq_getElem hu]
theorem strU_str (K S : List Int) (i j : Nat) : (strOfNums (strU K S i j)).size = 32 ∧ bytesOf (strOfNums (strU K S i j)) = strU K S i j :=
  ⟨by rw [strOfNums_size, strU_length], bytesOf_strOfNums _ (strU_b K S i j)⟩
theorem StrI.start {w W : World} {g n : Nat} {Zi Zo : List Value} {ys xs : List Int} {v : Value} {U : ByteArray} (h : ExpI w g Zi Zo n ys v W) (hU : U.size = 32) (hx : bytesOf U = xs) :
    StrI w g Zi Zo n ys v W.heap.size (grownCap W 32 0 5) xs (Lib.bytesWorld W 5 U) := by
  have hr := Row.bytes W 5 U (by rw [hU]; unfold maxLen; omega)
  rw [← nums_bytesOf, hx, hU] at hr
  refine ⟨h.below (bytes_below W _ U), hr, h.l.bel.size, fun he => ?_⟩
  have := h.b.row.lt W.heap.size he.symm
  omega

set_option maxRecDepth 100000 in
set_option maxHeartbeats 6400000 in
theorem stretch_any (key salt : ByteArray) (rounds n : Int) (hk : key.size ≤ 100000) (hi : salt.size ≤ 100000) (w : World) :
    Calls Try.prog 24 #[.string key, .string salt, .int .i64 rounds, .int .i64 n] w fun e w' => e = .returned (.tuple #[.string (stretchSpec key salt rounds n).1, .int .i64 (stretchSpec key salt rounds n).2]) ∧ Below w.heap.size w w' := by
  by_cases hbad : rounds < 1 ∨ 1000 < rounds ∨ n < 0 ∨ 1024 < n
  · have HS := Lib.hid (show stretchSpec key salt rounds n = (⟨#[]⟩, 1) by rw [stretchSpec, if_pos hbad])
    by_cases b1 : rounds < 1
    · clear hbad
      go_enter Try.func24, Try.ntmps24
      go_wp2
      go_ret2
      rw [HS.out]
      exact ⟨rfl, Below.refl _ _⟩
    by_cases b2 : 1000 < rounds
    · clear hbad
      go_enter Try.func24, Try.ntmps24
      go_wp2
      go_ret2
      rw [HS.out]
      exact ⟨rfl, Below.refl _ _⟩
    by_cases b3 : n < 0
    · clear hbad
      go_enter Try.func24, Try.ntmps24
      go_wp2
      go_ret2
      rw [HS.out]
      exact ⟨rfl, Below.refl _ _⟩
    · have b4 : 1024 < n := by omega
      clear hbad
      go_enter Try.func24, Try.ntmps24
      go_wp2
      go_ret2
      rw [HS.out]
      exact ⟨rfl, Below.refl _ _⟩
  obtain ⟨m, rfl⟩ := Int.eq_ofNat_of_zero_le (show 0 ≤ n by omega)
  obtain ⟨q, rfl⟩ : ∃ q : Nat, rounds = (q : Int) + 1 := ⟨(rounds - 1).toNat, by omega⟩
  have HS := Lib.hid (show stretchSpec key salt ((q : Int) + 1) (m : Int) = (strOfNums ((strB (bytesOf key) (bytesOf salt) (q + 1) ((m + 31) / 32)).take m), 0) by rw [stretchSpec, if_neg (by omega), Int.toNat_natCast, show ((q : Int) + 1).toNat = q + 1 by omega])
  have hm : m ≤ 1024 := by omega
  have hq : q ≤ 999 := by omega
  have hum := Try.underlying38
  have HUM := Lib.hid hum
  clear hum hbad
  go_enter Try.func24, Try.ntmps24
  go_wp2_with fail
  refine (pads_any key (by omega) w).mono ?_
  rintro e W1 ⟨Zi, Zo, rfl, hzi, hzo, hb1⟩
  obtain ⟨KB, hKB⟩ : ∃ K, K = bytesOf key := ⟨_, rfl⟩
  rw [← hKB] at hzi hzo HS
  have HKB := Lib.hid hKB
  have HZI := Lib.hid hzi
  have HZO := Lib.hid hzo
  have HB1 := Lib.hid hb1
  have HIM := Lib.hid (show (Try.prog.info? 38).map (·.size) = some Zi.length by rw [infoMix, hzi.length])
  have HOM := Lib.hid (show (Try.prog.info? 38).map (·.size) = some Zo.length by rw [infoMix, hzo.length])
  have HBO := Lib.hid (fun (s : ByteArray) (hs : s.size ≤ 800000) W => both_any Zi Zo (ipad KB) (opad KB) s hzi hzo (by rw [ipad_length]; omega) (by rw [opad_length]; omega) (by omega) W)
  clear hzi hzo hb1 hKB
  go_wp2_with (first | (refine wpList_alloc_known (by rfl) 38 (by rfl) mix0.toArray (mix0_zero _) ?_) | (refine wpList_store_part (by rfl) 38 (.tmp 10) (.tmp 34) (by rfl) W1.heap.size 0 Zi mix0 38 (by rfl) (by rfl) (get_below (get_top rfl)) (by rw [HZI.out.length]; exact Nat.le_refl _) HIM.out HZI.out.one ?_; intro W2 hW2 hK2; have HL1 := Lib.hid (laid1 HZI.out HB1.out hW2 hK2); clear hW2 hK2) | (refine wpList_store_part (by rfl) 38 (.tmp 11) (.tmp 35) (by rfl) (W1.heap.size + 1) 0 Zo mix0 38 (by first | rfl | simp [go_sem]) (by rfl) HL1.out.h2 (by rw [HZO.out.length]; exact Nat.le_refl _) HOM.out HZO.out.one ?_; intro W3 hW3 hK3; have HL2 := Lib.hid (laid2 HZO.out HL1.out hW3 hK3); clear hW3 hK3))
  obtain ⟨g, hg⟩ : ∃ g, g = W1.heap.size := ⟨_, rfl⟩
  rw [← hg] at HL2
  rw [← hg]
  clear hg HL1 HB1
  obtain ⟨SB, hSB⟩ : ∃ I, I = bytesOf salt := ⟨_, rfl⟩
  rw [← hSB] at HS
  have HSB := Lib.hid hSB
  clear hSB
  obtain ⟨M, hM⟩ : ∃ M, M = (m + 31) / 32 := ⟨_, rfl⟩
  rw [← hM] at HS
  have HE0 := Lib.hid (show ExpI w g Zi Zo 0 [] (.slice none 0 0) W3 from ⟨HL2.out, Loc.nil HL2.out.bel _ _⟩)
  clear HL2
  go_loopg [12, 13] M (fun j b i wr => ∃ (k : Nat) (v : Value), j + k = M ∧ v = b ∧ i = .int .i64 ((k : Int) + 1) ∧ ExpI w g Zi Zo (32 * k) (strB KB SB (q + 1) k) v wr)
  case atStart => exact ⟨0, _, rfl, rfl, rfl, HE0.out⟩
  case round =>
    clear HE0
    obtain ⟨k, v, hk, rfl, rfl, hI⟩ := hrel
    obtain ⟨L, hL⟩ : ∃ L, L = 32 * k := ⟨_, rfl⟩
    rw [← hL] at hI
    obtain ⟨ao, cap, rfl, hcap⟩ := hI.b.row.form
    have hkM : k ≤ M := by omega
    have hM32 : M ≤ 32 := by omega
    by_cases hlt : k < M
    · have hLm : L < m := by omega
      have hlt1 : ((L : Int) < (m : Int)) := by omega
      have hk32 : k < 32 := by omega
      have hcw := conv4 wr (((k : Int) + 1) / 16777216) (((k : Int) + 1) / 65536) (((k : Int) + 1) / 256) ((k : Int) + 1)
      have hbe := be4_small hk32
      rw [← hbe] at hcw
      have hcs : (strOfNums (be4 ((k : Int) + 1))).size = 4 := by rw [strOfNums_size]; rfl
      have hcb : bytesOf (strOfNums (be4 ((k : Int) + 1))) = be4 ((k : Int) + 1) := bytesOf_strOfNums _ (be4_b _)
      obtain ⟨C, hC⟩ : ∃ C, C = strOfNums (be4 ((k : Int) + 1)) := ⟨_, rfl⟩
      rw [← hC] at hcw hcs hcb
      have z1 : ¬ 9223372036854775807 < salt.size + C.size := by omega
      have hsz : (salt ++ C).size ≤ 800000 := by rw [ByteArray.size_append]; omega
      have hnx : strOfNums (sha (opad KB ++ sha (ipad KB ++ bytesOf (salt ++ C)))) = strOfNums (strU KB SB (k + 1) 0) := by
        rw [bytesOf_append, hcb, ← HSB.out, strU, hmac]
        rfl
      have HNX := Lib.hid hnx
      have HSZ := Lib.hid hsz
      have HI := Lib.hid hI
      have HL := Lib.hid hL
      clear hI hL hLm hbe hcs hcb hC hnx hsz
      go_wp2_with (first | (refine wpList_load_row (by rfl) 38 (.tmp 10) (by rfl) g (by rfl) 38 Zi.toArray (0, 0) _ HI.out.l.h1 HUM.out rfl (by simpa using HIM.out) ?_) | (refine wpList_load_row (by rfl) 38 (.tmp 11) (by rfl) (g + 1) (by rfl) 38 Zo.toArray (0, 0) _ HI.out.l.h2 HUM.out rfl (by simpa using HOM.out) ?_))
      refine (HBO.out _ HSZ.out _).mono ?_
      rw [HNX.out]
      rintro e W4 ⟨rfl, hb4⟩
      have HI4 := Lib.hid (HI.out.below (((Below.refl _ wr).alloc (Nat.le_refl _) _).trans (hb4.mono (by simp))))
      obtain ⟨hu1, hu2⟩ := strU_str KB SB (k + 1) 0
      obtain ⟨U, hU⟩ : ∃ U, U = strOfNums (strU KB SB (k + 1) 0) := ⟨_, rfl⟩
      rw [← hU] at hu1 hu2
      rw [← hU]
      have hcv : (convert 9 40 (.string U)).run Try.prog W4 = .ok (.slice (some ⟨W4.heap.size, 0, none⟩) U.size (grownCap W4 U.size 0 5)) (Lib.bytesWorld W4 5 U) := Lib.run_convert_string_bytes (P := Try.prog) W4 9 40 5 U Try.underlying9 Try.underlying40 Try.underlying5
      rw [hu1] at hcv
      have hS0 := StrI.start HI4.out hu1 (show bytesOf U = strX KB SB (k + 1) 0 from hu2)
      obtain ⟨W5, hW5⟩ : ∃ W, W = Lib.bytesWorld W4 5 U := ⟨_, rfl⟩
      obtain ⟨ct, hct⟩ : ∃ c, c = grownCap W4 32 0 5 := ⟨_, rfl⟩
      rw [← hW5, ← hct] at hcv hS0
      obtain ⟨gt, hgt⟩ : ∃ g, g = W4.heap.size := ⟨_, rfl⟩
      rw [← hgt] at hcv hS0
      have HS0 := Lib.hid hS0
      have HU := Lib.hid hU
      clear hb4 hcw HI hu1 hu2 hU hW5 hct hgt hS0 HI4 HSZ HNX
      go_wp2_with fail
      go_loopg [14, 64] q (fun j2 u i wr => ∃ (j : Nat), j2 + j = q ∧ u = .string (strOfNums (strU KB SB (k + 1) j)) ∧ i = .int .i64 (j : Int) ∧ StrI w g Zi Zo L (strB KB SB (q + 1) k) (.slice ao L cap) gt ct (strX KB SB (k + 1) j) wr)
      case atStart => exact ⟨0, rfl, by rw [HU.out], rfl, HS0.out⟩
      case round =>
        clear HS0 hcv
        obtain ⟨j, hj, rfl, rfl, hI⟩ := hrel
        by_cases hjq : j < q
        · obtain ⟨hu1, hu2⟩ := strU_str KB SB (k + 1) j
          have hnx : strOfNums (sha (opad KB ++ sha (ipad KB ++ bytesOf (strOfNums (strU KB SB (k + 1) j))))) = strOfNums (strU KB SB (k + 1) (j + 1)) := by
            rw [hu2, strU, hmac]
          obtain ⟨U2, hU2⟩ : ∃ U, U = strOfNums (strU KB SB (k + 1) j) := ⟨_, rfl⟩
          rw [← hU2] at hu1 hnx
          rw [← hU2]
          have HU1 := Lib.hid hu1
          have HNX := Lib.hid hnx
          have HI := Lib.hid hI
          clear hu1 hu2 hnx hI hU2
          go_wp2_with (first | (refine wpList_load_row (by rfl) 38 (.tmp 10) (by rfl) g (by rfl) 38 Zi.toArray (0, 0) _ HI.out.e.l.h1 HUM.out rfl (by simpa using HIM.out) ?_) | (refine wpList_load_row (by rfl) 38 (.tmp 11) (by rfl) (g + 1) (by rfl) 38 Zo.toArray (0, 0) _ HI.out.e.l.h2 HUM.out rfl (by simpa using HOM.out) ?_))
          refine (HBO.out _ (by rw [HU1.out]; omega) _).mono ?_
          rw [HNX.out]
          rintro e W6 ⟨rfl, hb6⟩
          have HI6 := Lib.hid (HI.out.below hb6)
          obtain ⟨hu1, hu2⟩ := strU_str KB SB (k + 1) (j + 1)
          obtain ⟨U3, hU3⟩ : ∃ U, U = strOfNums (strU KB SB (k + 1) (j + 1)) := ⟨_, rfl⟩
          rw [← hU3] at hu1 hu2
          rw [← hU3]
          have hul := strU_length KB SB (k + 1) (j + 1)
          have hub := strU_b KB SB (k + 1) (j + 1)
          have hxl := strX_length KB SB (k + 1) j
          have hxb := strX_b KB SB (k + 1) j
          have hzz : strX KB SB (k + 1) (j + 1) = List.zipWith xr (strX KB SB (k + 1) j) (strU KB SB (k + 1) (j + 1)) := rfl
          obtain ⟨V, hV⟩ : ∃ V, V = strU KB SB (k + 1) (j + 1) := ⟨_, rfl⟩
          obtain ⟨X, hX⟩ : ∃ X, X = strX KB SB (k + 1) j := ⟨_, rfl⟩
          rw [← hV] at hu2 hul hub hzz
          rw [← hX] at hxl hxb hzz HI6
          have HUL := Lib.hid hul
          have HUB := Lib.hid hub
          have HXL := Lib.hid hxl
          have HXB := Lib.hid hxb
          have HZZ := Lib.hid hzz
          have HU3 := Lib.hid hU3
          have HV3 := Lib.hid hu2
          have HU3S := Lib.hid hu1
          have hZl : (List.zipWith xr X V).length = 32 := by rw [List.length_zipWith, hxl, hul]; rfl
          obtain ⟨Z, hZ⟩ : ∃ Z, Z = List.zipWith xr X V := ⟨_, rfl⟩
          rw [← hZ] at hZl
          have HZ := Lib.hid hZ
          have HZL := Lib.hid hZl
          clear hb6 hu1 hu2 hU3 hul hub hxl hxb hzz hV hX HI HNX HU1 hZ hZl
          go_wp2_with fail
          go_loopg [72] 32 (fun j2 i wr => ∃ (c : Nat), j2 + c = 32 ∧ i = .int .i64 (c : Int) ∧ StrI w g Zi Zo L (strB KB SB (q + 1) k) (.slice ao L cap) gt ct (Z.take c ++ X.drop c) wr)
          case atStart => exact ⟨0, rfl, rfl, by simpa using HI6.out⟩
          case round =>
            clear HI6
            obtain ⟨c, hc, rfl, hI⟩ := hrel
            by_cases hc32 : c < 32
            · have hlen : (Z.take c ++ X.drop c).length = 32 := by simp [HZL.out, HXL.out]; omega
              have kx : wr.cell? ⟨gt, c, none⟩ = some (.int .u8 (X.getD c 0)) := by
                refine hI.t.cells c _ ?_
                rw [nums, List.getElem?_map, List.getElem?_eq_getElem (by omega)]
                have := part_get (Z := Z) (X := X) (c := c) (by rw [HXL.out, HZL.out]) (by rw [HZL.out]; exact hc32)
                rw [List.getD, List.getElem?_eq_getElem (by omega), Option.getD_some] at this
                rw [this]
                rfl
              have kf := hI.t.free hc32
              have hzg := zip_get (X := X) (U := V) (c := c) (by rw [HXL.out]; exact hc32) (by rw [HUL.out]; exact hc32)
              rw [← HZ.out] at hzg
              have hxx := HXB.out.get c
              have hvv := HUB.out.get c
              have hcu : c < U3.size := by rw [HU3S.out]; exact hc32
              have hgu := bytesOf_get HV3.out hcu
              have hput := fun y => hI.put c y
              have hset := set_part (Z := Z) (X := X) (c := c) (by rw [HXL.out, HZL.out]) (by rw [HZL.out]; exact hc32)
              obtain ⟨x, hx⟩ : ∃ x, x = X.getD c 0 := ⟨_, rfl⟩
              obtain ⟨y, hy⟩ : ∃ x, x = V.getD c 0 := ⟨_, rfl⟩
              rw [← hx] at kx hzg hxx
              rw [← hy] at hgu hzg hvv
              obtain ⟨z, e1⟩ : ∃ z, bits .xor .u8 x y = z := ⟨_, rfl⟩
              have hzz : z = Z.getD c 0 := by rw [← e1, xor_u8 hxx hvv, hzg]
              have hp := hput z
              rw [hzz, hset, ← hzz] at hp
              have HP := Lib.hid hp
              have q5 : (c : Int) < 32 := by omega
              have q7 : (0 : Int) ≤ (c : Int) := by omega
              clear hlen hzg hxx hvv hput hset hx hy hzz hp hI
              go_wp2_with fail
              go_still_tail 9, (by kernel_rfl)
              change wpList _ _ _ _ _ wr.drew
              go_wp2_with fail
              go_roundg (gk - 1)
              case measure => omega
              case rel => exact ⟨c + 1, by omega, by go_num, HP.out.drew⟩
            · obtain rfl : c = 32 := by omega
              have hfin := hI
              rw [List.take_of_length_le (by rw [HZL.out]; exact Nat.le_refl _), List.drop_of_length_le (by rw [HXL.out]; exact Nat.le_refl _), List.append_nil, HZ.out, ← HZZ.out] at hfin
              have HF := Lib.hid hfin
              clear hI hfin hc hc32
              go_wp2_with fail
              go_roundg (q - (j + 1))
              case measure => omega
              case rel => exact ⟨j + 1, by omega, by rw [HU3.out], by go_num, HF.out⟩
        · obtain rfl : j = q := by omega
          have HI := Lib.hid hI
          obtain ⟨i0, hi, hz0, hz1, hz2⟩ := info_parts infoByte
          have HII := Lib.hid hi
          have HZ0 := Lib.hid hz0
          have HZ1 := Lib.hid hz1
          have HZ2 := Lib.hid hz2
          have hL8 : L ≤ 1024 := by have := HL.out; omega
          have hcat : strB KB SB (j + 1) k ++ strX KB SB (k + 1) j = strB KB SB (j + 1) (k + 1) := rfl
          have HCAT := Lib.hid hcat
          clear hI hi hz0 hz1 hz2 hcat hj hjq
          go_wp2_with (refine wpList_append_row _ (by rfl) _ _ _ _ (by rfl) 5 i0 (.int .u8 0) 1 1 Try.underlying40 HII.out HZ0.out HZ1.out HZ2.out rfl (by omega) _ _ _ (by rfl) HI.out.e.b.row _ (by rfl) 32 _ (Feeds.row Try.underlying40 HI.out.t (nums_one _)) (by unfold maxLen; omega) (by omega) wr.heap.size rfl ?_; intro ao5 cap5 w5 hown5 hgrow5 hat5; have HI5 := Lib.hid (HI.out.e.grow (Below.refl _ _) hown5 rfl hgrow5 hat5 (Nat.le_refl _)); rw [HCAT.out] at HI5; clear hown5 hgrow5 hat5)
          have e9 : L + 32 = 32 * (k + 1) := by rw [HL.out]; omega
          have HI6 := Lib.hid (show ExpI w g Zi Zo (32 * (k + 1)) (strB KB SB (j + 1) (k + 1)) (.slice ao5 (L + 32) cap5) w5 by rw [← e9]; exact HI5.out)
          clear e9 HI5 HI
          go_roundg (M - (k + 1))
          case measure => omega
          case rel => exact ⟨k + 1, _, by omega, rfl, by go_num, HI6.out⟩
    · obtain rfl : k = M := by omega
      have hmL : m ≤ L := by omega
      have hlt1 : ¬ ((L : Int) < (m : Int)) := by omega
      have hxl := strB_length KB SB (q + 1) k
      have hHS := HS.out
      obtain ⟨xs, hxs⟩ : ∃ xs, xs = strB KB SB (q + 1) k := ⟨_, rfl⟩
      rw [← hxs] at hI hxl hHS
      have HS := Lib.hid hHS
      have HBEL := Lib.hid hI.l.bel
      rcases hI.b.row.2 with ⟨he, hL0⟩ | ⟨gb, cap', cur, lo, hi, he, _⟩
      · simp at he
        obtain ⟨rfl, rfl, rfl⟩ := he
        obtain rfl : m = 0 := by omega
        have hcv := run_convert_bytes_nil (P := Try.prog) wr 40 5 Try.underlying40 Try.underlying5 0 0 9 Try.underlying9
        clear hI hL hM hHS hxl hxs hk hlt hkM hM32
        go_wp2
        go_ret2
        have hs := HS.out
        rw [show ((0 : Nat) : Int) = 0 from rfl] at hs
        rw [hs]
        exact ⟨rfl, HBEL.out⟩
      · simp at he
        obtain ⟨rfl, rfl⟩ := he
        have hmc : (m : Int) ≤ (cap : Int) := by omega
        have hm0 : (0 : Int) ≤ (m : Int) := by omega
        have hcv : (convert 40 9 (.slice (some ⟨gb, 0, none⟩) m cap)).run Try.prog wr = .ok (.string (strOfNums (xs.take m))) wr :=
          run_convert_bytes_arg wr _ _ Try.underlying40 Try.underlying5 gb 0 m cap (xs.take m) (by rw [List.length_take]; omega) (fun j hj => by
            rw [Nat.zero_add]
            refine hI.b.row.cells j _ ?_
            simp [nums, List.getD, List.getElem?_take, show j < m by omega, List.getElem?_eq_getElem (show j < xs.length by omega)]) _ Try.underlying9
        clear hI hL hM hHS hxl hxs hk hlt hkM hM32
        go_wp2
        go_ret2
        rw [HS.out]
        exact ⟨rfl, HBEL.out⟩
end Go.Proofs.Ytobgnmellbgfmaa.B
