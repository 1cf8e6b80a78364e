/-
  The document's words, right and low, by their printed functions: they are the plain ones.
-/
import Derived.Test.YtobgnmellbgfmaaShaB
import Derived.Test.YtobgnmellbgfmaaBytes
import Derived.Test.YtobgnmellbgfmaaPSumSumsx1
import Derived.Test.YtobgnmellbgfmaaPSumSumsx2
namespace Go.Proofs.Ytobgnmellbgfmaa.B
open Go.RowKit
open Go.Proofs.YtobgnmellbgfmaaW.PrintWords (rd shl shr)
open Go.Proofs.Ytobgnmellbgfmaa.PSumSums
set_option linter.unusedVariables false

theorem wrap_id {x : Int} (h1 : -9223372036854775808 ≤ x) (h2 : x ≤ 9223372036854775807) : wrap64 x = x := by
  unfold wrap64
  omega
theorem pLow (x : Int) (h0 : 0 ≤ x) (h1 : x < 9223372036854775808) : grapnelref02_low.f x = some (x % 4294967296) := by
  unfold grapnelref02_low.f
  rw [low_eq x h0 h1]
theorem pRight {x : Int} (h : W32 x) {n : Nat} (h2 : 2 ≤ n) (hn : n ≤ 32) : grapnelref02_right.f x (n : Int) = some (rr x n) := by
  have hw : wrap64 (32 - (n : Int)) = ((32 - n : Nat) : Int) := by rw [wrap_id (by omega) (by omega)]; omega
  obtain ⟨h3, h4, h5, h6⟩ := rr_parts h hn
  have hq := pow_pos2 (32 - n)
  have hq1 : (2 : Int) ^ (32 - n) ≤ 1073741824 := by
    have h : (2 : Int) ^ (32 - n) ≤ 2 ^ 30 := by exact_mod_cast Nat.pow_le_pow_right (show 0 < 2 by decide) (show 32 - n ≤ 30 by omega)
    rwa [show (2 : Int) ^ 30 = 1073741824 from rfl] at h
  have hb : x * 2 ^ (32 - n) < 4611686018427387904 := by
    have a := Int.mul_lt_mul_of_pos_right h.2 hq
    have b := Int.mul_le_mul_of_nonneg_left hq1 (show (0 : Int) ≤ 4294967296 by decide)
    omega
  have hb0 : 0 ≤ x * 2 ^ (32 - n) := Int.mul_nonneg h.1 (Int.le_of_lt hq)
  unfold grapnelref02_right.f
  rw [if_pos (by omega), hw, if_pos (by omega)]
  unfold shr shl
  rw [Int.toNat_natCast, Int.toNat_natCast, show min n IntKind.i64.bits = n from Nat.min_eq_left (by show n ≤ 64; omega), show min (32 - n) IntKind.i64.bits = 32 - n from Nat.min_eq_left (by show 32 - n ≤ 64; omega), wraps_i64 _ hb0 (by omega)]
  rw [bits_or_comm, bits_join .i64 63 (by decide) wraps_i64 (32 - n) _ _ hb0 (Int.mul_emod_left _ _) (by omega) h3 h4 (by omega), pLow _ (by omega) (by omega), Option.bind_some, rr]
  have hm := mul_mod h hn
  congr 1
  omega

theorem rd_nat (xs : List Int) (i : Nat) : rd xs (i : Int) = xs.getD i 0 := by simp [rd]
theorem wrapSub (i n : Nat) (h : n ≤ i) (hi : i ≤ 1000) : wrap64 ((i : Int) - (n : Int)) = ((i - n : Nat) : Int) := by
  rw [wrap_id (by omega) (by omega)]
  omega
theorem wrapAdd (i n : Nat) (h : n ≤ 1000) (hi : i ≤ 1000) : wrap64 ((i : Int) + (n : Int)) = ((i + n : Nat) : Int) := by
  rw [wrap_id (by omega) (by omega)]
  omega
theorem wrapFour (i : Nat) (hi : i ≤ 1000) : wrap64 (4 * (i : Int)) = ((4 * i : Nat) : Int) := by
  rw [wrap_id (by omega) (by omega)]
  omega
/-- The chain of a word's making. -/
theorem chainW {x15 x2 x16 x7 : Int} (w15 : W32 x15) (w2 : W32 x2) (w16 : W32 x16) (w7 : W32 x7) :
    grapnelref02_right.f x15 7 = some (rr x15 7) ∧ grapnelref02_right.f x15 18 = some (rr x15 18) ∧ grapnelref02_right.f x2 17 = some (rr x2 17) ∧ grapnelref02_right.f x2 19 = some (rr x2 19) ∧
    grapnelref02_low.f (wrap64 (wrap64 (wrap64 (x16 + bits .xor .i64 (bits .xor .i64 (rr x15 7) (rr x15 18)) (x15 / 8)) + x7) + bits .xor .i64 (bits .xor .i64 (rr x2 17) (rr x2 19)) (x2 / 1024))) = some ((x16 + sg0 x15 + x7 + sg1 x2) % 4294967296) := by
  refine ⟨pRight w15 (n := 7) (by omega) (by omega), pRight w15 (n := 18) (by omega) (by omega), pRight w2 (n := 17) (by omega) (by omega), pRight w2 (n := 19) (by omega) (by omega), ?_⟩
  have d8 : W32 (x15 / 8) := by unfold W32 at *; omega
  have d10 : W32 (x2 / 1024) := by unfold W32 at *; omega
  rw [xor_i64 (rr_w w15 (by omega)) (rr_w w15 (by omega)), xor_i64 (xr_w (rr_w w15 (by omega)) (rr_w w15 (by omega))) d8, xor_i64 (rr_w w2 (by omega)) (rr_w w2 (by omega)), xor_i64 (xr_w (rr_w w2 (by omega)) (rr_w w2 (by omega))) d10]
  have s0 := sg0_w w15
  have s1 := sg1_w w2
  rw [show xr (xr (rr x15 7) (rr x15 18)) (x15 / 8) = sg0 x15 from rfl, show xr (xr (rr x2 17) (rr x2 19)) (x2 / 1024) = sg1 x2 from rfl]
  generalize sg0 x15 = y0 at *
  generalize sg1 x2 = y1 at *
  unfold W32 at w16 w7 s0 s1
  rw [wrap_id (x := x16 + y0) (by omega) (by omega), wrap_id (x := x16 + y0 + x7) (by omega) (by omega), wrap_id (by omega) (by omega), pLow _ (by omega) (by omega)]
theorem nextW_late {b l : List Int} {i : Nat} (hl : l.length = i) (hi : 16 ≤ i) : nextW b l = (l.getD (i - 16) 0 + sg0 (l.getD (i - 15) 0) + l.getD (i - 7) 0 + sg1 (l.getD (i - 2) 0)) % 4294967296 := by
  subst hl
  rw [nextW, if_neg (by omega)]
theorem nextW_early {b l : List Int} {i : Nat} (hl : l.length = i) (hi : i < 16) : nextW b l = b.getD (4 * i) 0 * 16777216 + b.getD (4 * i + 1) 0 * 65536 + b.getD (4 * i + 2) 0 * 256 + b.getD (4 * i + 3) 0 := by
  subst hl
  rw [nextW, if_pos hi]
theorem pWords_l1 {b r : List Int} (hb : Bs b) (n : Nat) (hn64 : n = 64) (hr : wd b n = r) : ∀ (d k i : Nat), 16 ≤ i → i + d = 64 → d < k → grapnelref02_words.l1 k (wd b i) (i : Int) = some r
  | d, 0, i, _, _, h => by omega
  | 0, k + 1, i, _, hi, _ => by
    obtain rfl : i = n := by omega
    unfold grapnelref02_words.l1
    rw [if_neg (by omega), hr]
  | d + 1, k + 1, i, h16, hi, hd => by
    have ih := pWords_l1 hb n hn64 hr d k (i + 1) (by omega) (by omega) (by omega)
    rw [wd] at ih
    clear hr
    have hl := wd_length b i
    have hw := wd_w hb i
    have hn := nextW_late (b := b) hl h16
    rw [hn] at ih
    clear hn
    generalize wd b i = l at *
    have w15 := hw.get (i - 15)
    have w2 := hw.get (i - 2)
    have w16 := hw.get (i - 16)
    have w7 := hw.get (i - 7)
    have hi64 : (i : Int) < 64 := by omega
    have h64 : i ≤ 1000 := by omega
    have g15 : 15 ≤ i := by omega
    have g2 : 2 ≤ i := by omega
    have g16 : 16 ≤ i := h16
    have g7 : 7 ≤ i := by omega
    have c15 : (0 : Int) ≤ ((i - 15 : Nat) : Int) := by omega
    have c2 : (0 : Int) ≤ ((i - 2 : Nat) : Int) := by omega
    have c16 : (0 : Int) ≤ ((i - 16 : Nat) : Int) := by omega
    have c7 : (0 : Int) ≤ ((i - 7 : Nat) : Int) := by omega
    have d15 : ((i - 15 : Nat) : Int) < (i : Int) := by omega
    have d2 : ((i - 2 : Nat) : Int) < (i : Int) := by omega
    have d16 : ((i - 16 : Nat) : Int) < (i : Int) := by omega
    have d7 : ((i - 7 : Nat) : Int) < (i : Int) := by omega
    have dk : i < 17592186044416 := by omega
    obtain ⟨r7, r18, r17, r19, rl⟩ := chainW w15 w2 w16 w7
    have e15 := wrapSub i 15 g15 h64
    have e2 := wrapSub i 2 g2 h64
    have e16 := wrapSub i 16 g16 h64
    have e7 := wrapSub i 7 g7 h64
    have e1 := wrapAdd i 1 (by decide) h64
    simp only [Int.cast_ofNat_Int] at e15 e2 e16 e7 e1
    unfold grapnelref02_words.l1
    simp only [hi64, e15, e2, e16, e7, e1, hl, rd_nat, c15, c2, c16, c7, d15, d2, d16, d7, dk, if_true, r7, r18, r17, r19, rl, Option.bind_some]
    exact ih
theorem chainB {y0 y1 y2 y3 : Int} (b0 : 0 ≤ y0 ∧ y0 < 256) (b1 : 0 ≤ y1 ∧ y1 < 256) (b2 : 0 ≤ y2 ∧ y2 < 256) (b3 : 0 ≤ y3 ∧ y3 < 256) :
    wrap64 (wrap64 (wrap64 (wrap64 (wrap64 y0 * 16777216) + wrap64 (wrap64 y1 * 65536)) + wrap64 (wrap64 y2 * 256)) + wrap64 y3) = y0 * 16777216 + y1 * 65536 + y2 * 256 + y3 := by
  rw [wrap_id (x := y0) (by omega) (by omega), wrap_id (x := y1) (by omega) (by omega), wrap_id (x := y2) (by omega) (by omega), wrap_id (x := y3) (by omega) (by omega)]
  rw [wrap_id (x := y0 * 16777216) (by omega) (by omega), wrap_id (x := y1 * 65536) (by omega) (by omega), wrap_id (x := y2 * 256) (by omega) (by omega)]
  rw [wrap_id (x := y0 * 16777216 + y1 * 65536) (by omega) (by omega), wrap_id (x := y0 * 16777216 + y1 * 65536 + y2 * 256) (by omega) (by omega), wrap_id (by omega) (by omega)]
theorem pWords_l0 {b r : List Int} (hb : Bs b) (hlen : b.length = 64) (n : Nat) (hn64 : n = 64) (hr : wd b n = r) : ∀ (d k i : Nat), i + d = 16 → d + 50 < k → grapnelref02_words.l0 k b (wd b i) (i : Int) = some r
  | d, 0, i, _, h => by omega
  | 0, k + 1, i, hi, hk => by
    obtain rfl : i = 16 := by omega
    unfold grapnelref02_words.l0
    rw [if_neg (by omega)]
    exact pWords_l1 hb n hn64 hr 48 k 16 (by omega) (by omega) (by omega)
  | d + 1, k + 1, i, hi, hk => by
    have ih := pWords_l0 hb hlen n hn64 hr d k (i + 1) (by omega) (by omega)
    rw [wd] at ih
    clear hr
    have hl := wd_length b i
    have hn := nextW_early (b := b) hl (by omega)
    rw [hn] at ih
    clear hn
    generalize wd b i = l at *
    have b0 := hb.get (4 * i)
    have b1 := hb.get (4 * i + 1)
    have b2 := hb.get (4 * i + 2)
    have b3 := hb.get (4 * i + 3)
    have hi16 : (i : Int) < 16 := by omega
    have h64 : i ≤ 1000 := by omega
    have h4 : 4 * i ≤ 1000 := by omega
    have c0 : (0 : Int) ≤ ((4 * i : Nat) : Int) := by omega
    have c1 : (0 : Int) ≤ ((4 * i + 1 : Nat) : Int) := by omega
    have c2 : (0 : Int) ≤ ((4 * i + 2 : Nat) : Int) := by omega
    have c3 : (0 : Int) ≤ ((4 * i + 3 : Nat) : Int) := by omega
    have d0 : ((4 * i : Nat) : Int) < ((64 : Nat) : Int) := by omega
    have d1 : ((4 * i + 1 : Nat) : Int) < ((64 : Nat) : Int) := by omega
    have d2 : ((4 * i + 2 : Nat) : Int) < ((64 : Nat) : Int) := by omega
    have d3 : ((4 * i + 3 : Nat) : Int) < ((64 : Nat) : Int) := by omega
    have dk : i < 17592186044416 := by omega
    have hy := chainB b0 b1 b2 b3
    have e0 := wrapFour i h64
    have e1 := wrapAdd (4 * i) 1 (by decide) h4
    have e2 := wrapAdd (4 * i) 2 (by decide) h4
    have e3 := wrapAdd (4 * i) 3 (by decide) h4
    have e4 := wrapAdd i 1 (by decide) h64
    simp only [Int.cast_ofNat_Int] at e1 e2 e3 e4
    unfold grapnelref02_words.l0
    simp only [hi16, e0, e1, e2, e3, e4, hl, hlen, rd_nat, c0, c1, c2, c3, d0, d1, d2, d3, dk, if_true, hy]
    exact ih
theorem pWords {b : List Int} (hb : Bs b) (hlen : b.length = 64) : grapnelref02_words.f 100 b = some (wd b 64) := pWords_l0 hb hlen 64 rfl rfl 16 100 0 (by omega) (by omega)

/-! ### The contracts, in this text's own words -/
open Go.Proofs.YtobgnmellbgfmaaW.PrintWords in
theorem loc_of_R {w0 w : World} {t : TypeId} {k : IntKind} {ok : Nat → Prop} {v : Value} {r : List Int} (h : Kd.R (Kd.int k) t w w0.heap.size ok v r) (hb : Below w0.heap.size w0 w) : Loc w0 w t 1 v r.length (r.map (Value.int k)) := by
  have ho := Kd.own_of_R h
  exact ⟨Row.of_own ho, hb, fun g hg => own_base ho g hg⟩
theorem keys_any (w : World) : Calls Try.prog 27 #[] w fun e w' => ∃ v, e = .returned v ∧ Loc w w' 3 1 v 64 (ints shaK) := by
  refine (grapnelref02_keys.calls shaK w rfl).mono ?_
  rintro e w' ⟨v, rfl, hR, hb⟩
  exact ⟨v, rfl, loc_of_R hR hb⟩
open Go.Proofs.YtobgnmellbgfmaaW.PrintWords in
theorem words_any (b : List Int) (hb : Bs b) (hlen : b.length = 64) (ad : Addr) (cap : Nat) (hcap : 64 ≤ cap) (w : World) (hc : ∀ j, j < 64 → w.cell? (ad.add j) = some (.int .u8 (b.getD j 0))) :
    Calls Try.prog 28 #[.slice (some ad) 64 cap] w fun e w' => ∃ v, e = .returned v ∧ Loc w w' 3 1 v 64 (ints (wd b 64)) := by
  have hC : Kd.C (Kd.int .u8) w (some ad) b.length b := by
    refine ⟨rfl, by omega, fun _ => ⟨ad, rfl, fun j p hp => ⟨[.int .u8 p], rfl, rfl, fun i u hu => ?_⟩⟩⟩
    obtain ⟨hj, hj2⟩ := List.getElem?_eq_some_iff.1 hp
    have h1 := hc j (by omega)
    rw [List.getD, List.getElem?_eq_getElem hj, Option.getD_some, hj2] at h1
    match i, hu with
    | 0, hu =>
      simp only [List.getElem?_cons_zero, Option.some.injEq] at hu
      subst hu
      show w.cell? (ad.add (j * 1 + 0)) = _
      rw [Nat.mul_one, Nat.add_zero]
      exact h1
  have h := grapnelref02_words.calls 100 (some ad) cap b (wd b 64) w hC (by omega) (pWords hb hlen)
  rw [hlen] at h
  refine h.mono ?_
  rintro e w' ⟨v, rfl, hR, hbl⟩
  have hl := loc_of_R hR hbl
  rw [wd_length] at hl
  exact ⟨v, rfl, hl⟩
theorem right_any (x : Int) (h : W32 x) (n : Nat) (h2 : 2 ≤ n) (hn : n ≤ 32) (w : World) : Calls Try.prog 29 #[.int .i64 x, .int .i64 n] w fun e w' => e = .returned (.int .i64 (rr x n)) ∧ ∃ d, w' = w.drewN d :=
  (grapnelref02_right.calls x n _ w (pRight h h2 hn)).mono fun _ _ ⟨he, hd⟩ => ⟨he, hd.out⟩
theorem low_any (x : Int) (h0 : 0 ≤ x) (h1 : x < 9223372036854775808) (w : World) : Calls Try.prog 30 #[.int .i64 x] w fun e w' => e = .returned (.int .i64 (x % 4294967296)) ∧ ∃ d, w' = w.drewN d :=
  (grapnelref02_low.calls x _ w (pLow x h0 h1)).mono fun _ _ ⟨he, hd⟩ => ⟨he, hd.out⟩
theorem low_same (x : Int) (h0 : 0 ≤ x) (h1 : x < 9223372036854775808) (w : World) : Calls Try.prog 30 #[.int .i64 x] w fun e w' => e = .returned (.int .i64 (x % 4294967296)) ∧ w' = w := by
  have h := low_eq x h0 h1
  have H := Lib.hid h
  clear h
  go_enter Try.func30, Try.ntmps30
  go_wp2
  go_ret
  exact ⟨by simp [← H.out], rfl⟩
end Go.Proofs.Ytobgnmellbgfmaa.B
