/-
  The machine's operations on words are the plain ones; ranges and lengths; what is behind a block does not turn its state.
-/
import Derived.Test.YtobgnmellbgfmaaSha
import Derived.Test.YtobgnmellbgfmaaBase
import Derived.Laws.BitsLemmas
namespace Go.Proofs.Ytobgnmellbgfmaa.B
open Go.RowKit
set_option linter.unusedVariables false

/-- A word. -/
def W32 (x : Int) : Prop := 0 ≤ x ∧ x < 4294967296
theorem wraps_u32 (n : Int) (h₀ : 0 ≤ n) (h₁ : n < 2 ^ 32) : IntKind.u32.wrap n = n := by rw [IntKind.wrap_u32]; omega
theorem wraps_i64 (n : Int) (h₀ : 0 ≤ n) (h₁ : n < 2 ^ 63) : IntKind.i64.wrap n = n := by rw [IntKind.wrap_i64]; omega
theorem bits_xor_nat (k : IntKind) (j : Nat) (hj : j ≤ k.bits) (hk : ∀ n : Int, 0 ≤ n → n < 2 ^ j → k.wrap n = n) (a b : Nat) (ha : a < 2 ^ j) (hb : b < 2 ^ j) : bits .xor k a b = ((a ^^^ b : Nat) : Int) := by
  have hp : 2 ^ j ≤ 2 ^ k.bits := Nat.pow_le_pow_right (by decide) hj
  have ha' : a % 2 ^ k.bits = a := Nat.mod_eq_of_lt (Nat.lt_of_lt_of_le ha hp)
  have hb' : b % 2 ^ k.bits = b := Nat.mod_eq_of_lt (Nat.lt_of_lt_of_le hb hp)
  have cast : ∀ n : Nat, n < 2 ^ j → ((n : Nat) : Int) < 2 ^ j := fun n h => by exact_mod_cast h
  simp only [bits, BitVec.ofInt_natCast, BitVec.toNat_xor, BitVec.toNat_ofNat, ha', hb']
  exact hk _ (Int.natCast_nonneg _) (cast _ (Nat.xor_lt_two_pow ha hb))
theorem nat_of {x : Int} (h : W32 x) : ∃ n : Nat, x = n ∧ n < 2 ^ 32 := by
  obtain ⟨n, rfl⟩ := Int.eq_ofNat_of_zero_le h.1
  have := h.2
  exact ⟨n, rfl, by omega⟩
theorem xor_u32 {a b : Int} (ha : W32 a) (hb : W32 b) : bits .xor .u32 a b = xr a b := by
  obtain ⟨m, rfl, hm⟩ := nat_of ha
  obtain ⟨n, rfl, hn⟩ := nat_of hb
  exact bits_xor_nat .u32 32 (by decide) wraps_u32 m n hm hn
theorem xor_i64 {a b : Int} (ha : W32 a) (hb : W32 b) : bits .xor .i64 a b = xr a b := by
  obtain ⟨m, rfl, hm⟩ := nat_of ha
  obtain ⟨n, rfl, hn⟩ := nat_of hb
  exact bits_xor_nat .i64 63 (by decide) wraps_i64 m n (by omega) (by omega)
theorem and_u32 {a b : Int} (ha : W32 a) (hb : W32 b) : bits .and .u32 a b = an a b := by
  obtain ⟨m, rfl, hm⟩ := nat_of ha
  obtain ⟨n, rfl, hn⟩ := nat_of hb
  exact (bits_nat .u32 32 (by decide) wraps_u32 m n hm hn).1
theorem and_i64 {a b : Int} (ha : W32 a) (hb : W32 b) : bits .and .i64 a b = an a b := by
  obtain ⟨m, rfl, hm⟩ := nat_of ha
  obtain ⟨n, rfl, hn⟩ := nat_of hb
  exact (bits_nat .i64 63 (by decide) wraps_i64 m n (by omega) (by omega)).1
theorem xr_w {a b : Int} (ha : W32 a) (hb : W32 b) : W32 (xr a b) := by
  obtain ⟨m, rfl, hm⟩ := nat_of ha
  obtain ⟨n, rfl, hn⟩ := nat_of hb
  have : m ^^^ n < 2 ^ 32 := Nat.xor_lt_two_pow hm hn
  unfold W32 xr
  simp only [Int.toNat_natCast]
  omega
theorem an_w {a b : Int} (ha : W32 a) (hb : W32 b) : W32 (an a b) := by
  obtain ⟨m, rfl, hm⟩ := nat_of ha
  obtain ⟨n, rfl, hn⟩ := nat_of hb
  have : m &&& n < 2 ^ 32 := Nat.and_lt_two_pow _ hn
  unfold W32 an
  simp only [Int.toNat_natCast]
  omega
theorem bits_or_comm (k : IntKind) (a b : Int) : bits .or k a b = bits .or k b a := by
  simp only [bits]
  rw [BitVec.or_comm]
theorem pow_split {n : Nat} (hn : n ≤ 32) : (2 : Int) ^ n * 2 ^ (32 - n) = 4294967296 := by
  rw [← Int.pow_add, show n + (32 - n) = 32 by omega]
  rfl
theorem pow_pos2 (n : Nat) : (0 : Int) < 2 ^ n := Int.pow_pos (by decide)
theorem rr_parts {x : Int} (h : W32 x) {n : Nat} (hn : n ≤ 32) : 0 ≤ x / 2 ^ n ∧ x / 2 ^ n < 2 ^ (32 - n) ∧ 0 ≤ (x % 2 ^ n) * 2 ^ (32 - n) ∧ (x % 2 ^ n) * 2 ^ (32 - n) + 2 ^ (32 - n) ≤ 4294967296 := by
  have hp := pow_pos2 n
  have hq := pow_pos2 (32 - n)
  have hs := pow_split hn
  refine ⟨Int.ediv_nonneg h.1 (Int.le_of_lt hp), ?_, Int.mul_nonneg (Int.emod_nonneg _ (by omega)) (Int.le_of_lt hq), ?_⟩
  · rw [Int.ediv_lt_iff_lt_mul hp, Int.mul_comm, hs]
    exact h.2
  · have h1 : x % 2 ^ n + 1 ≤ 2 ^ n := Int.emod_lt_of_pos _ hp
    have h2 := Int.mul_le_mul_of_nonneg_right h1 (Int.le_of_lt hq)
    rw [hs, Int.add_mul, Int.one_mul] at h2
    exact h2
theorem rr_w {x : Int} (h : W32 x) {n : Nat} (hn : n ≤ 32) : W32 (rr x n) := by
  obtain ⟨h1, h2, h3, h4⟩ := rr_parts h hn
  unfold W32 rr
  omega
theorem mul_mod {x : Int} (h : W32 x) {n : Nat} (hn : n ≤ 32) : x * 2 ^ (32 - n) % 4294967296 = (x % 2 ^ n) * 2 ^ (32 - n) := by
  rw [← pow_split hn, Int.mul_comm x, Int.mul_comm (2 ^ n), Int.mul_emod_mul_of_pos _ _ (pow_pos2 _), Int.mul_comm]
theorem or_rr (k : IntKind) (j : Nat) (hj : j ≤ k.bits) (hj2 : 32 ≤ j) (hk : ∀ n : Int, 0 ≤ n → n < 2 ^ j → k.wrap n = n) {x : Int} (h : W32 x) {n : Nat} (hn : n ≤ 32) :
    bits .or k (x / 2 ^ n) ((x % 2 ^ n) * 2 ^ (32 - n)) = rr x n := by
  obtain ⟨h1, h2, h3, h4⟩ := rr_parts h hn
  have h5 : (4294967296 : Int) ≤ 2 ^ j := by
    have h : (2 : Int) ^ 32 ≤ 2 ^ j := by exact_mod_cast Nat.pow_le_pow_right (show 0 < 2 by decide) hj2
    rwa [show (2 : Int) ^ 32 = 4294967296 from rfl] at h
  have hq := pow_pos2 (32 - n)
  have hq1 : (2 : Int) ^ (32 - n) ≤ 4294967296 := by omega
  rw [bits_or_comm, bits_join k j hj hk (32 - n) _ _ h3 (Int.mul_emod_left _ _) (by omega) h1 h2 (by omega), rr, Int.add_comm]
theorem right_u32 {x : Int} (h : W32 x) {n : Nat} (hn : n ≤ 32) : bits .or .u32 (x / 2 ^ n) (IntKind.u32.wrap (x * 2 ^ (32 - n))) = rr x n := by
  rw [IntKind.wrap_u32, mul_mod h hn, or_rr .u32 32 (by decide) (by decide) wraps_u32 h hn]
theorem low_eq (x : Int) (h0 : 0 ≤ x) (h1 : x < 9223372036854775808) : bits .and .i64 x 4294967295 = x % 4294967296 := bits_mask .i64 63 (by decide) wraps_i64 32 (by decide) x h0 h1

theorem W32.mod (x : Int) : W32 (x % 4294967296) := by unfold W32; omega
theorem sg0_w {x : Int} (h : W32 x) : W32 (sg0 x) := xr_w (xr_w (rr_w h (by omega)) (rr_w h (by omega))) (by unfold W32 at *; omega)
theorem sg1_w {x : Int} (h : W32 x) : W32 (sg1 x) := xr_w (xr_w (rr_w h (by omega)) (rr_w h (by omega))) (by unfold W32 at *; omega)
theorem bs0_w {x : Int} (h : W32 x) : W32 (bs0 x) := xr_w (xr_w (rr_w h (by omega)) (rr_w h (by omega))) (rr_w h (by omega))
theorem bs1_w {x : Int} (h : W32 x) : W32 (bs1 x) := xr_w (xr_w (rr_w h (by omega)) (rr_w h (by omega))) (rr_w h (by omega))
theorem chs_w {e f g : Int} (he : W32 e) (hf : W32 f) (hg : W32 g) : W32 (chs e f g) := xr_w (an_w he hf) (an_w (by unfold W32 at *; omega) hg)
theorem mjs_w {a b c : Int} (ha : W32 a) (hb : W32 b) (hc : W32 c) : W32 (mjs a b c) := xr_w (xr_w (an_w ha hb) (an_w ha hc)) (an_w hb hc)

/-- All are words; all are bytes. -/
def Ws (l : List Int) : Prop := ∀ x ∈ l, W32 x
def Bs (l : List Int) : Prop := ∀ x ∈ l, 0 ≤ x ∧ x < 256
theorem Ws.get {l : List Int} (h : Ws l) (i : Nat) : W32 (l.getD i 0) := by
  by_cases hi : i < l.length
  · rw [List.getD, List.getElem?_eq_getElem hi]
    exact h _ (List.getElem_mem hi)
  · rw [List.getD, List.getElem?_eq_none (by omega)]
    unfold W32
    simp
theorem Bs.get {l : List Int} (h : Bs l) (i : Nat) : 0 ≤ l.getD i 0 ∧ l.getD i 0 < 256 := by
  by_cases hi : i < l.length
  · rw [List.getD, List.getElem?_eq_getElem hi]
    exact h _ (List.getElem_mem hi)
  · rw [List.getD, List.getElem?_eq_none (by omega)]
    simp
theorem Ws.append {a b : List Int} (ha : Ws a) (hb : Ws b) : Ws (a ++ b) := fun x hx => (List.mem_append.1 hx).elim (ha x) (hb x)
theorem Bs.append {a b : List Int} (ha : Bs a) (hb : Bs b) : Bs (a ++ b) := fun x hx => (List.mem_append.1 hx).elim (ha x) (hb x)
theorem Bs.drop {a : List Int} (ha : Bs a) (n : Nat) : Bs (a.drop n) := fun x hx => ha x (List.mem_of_mem_drop hx)
theorem Bs.take {a : List Int} (ha : Bs a) (n : Nat) : Bs (a.take n) := fun x hx => ha x (List.mem_of_mem_take hx)
theorem nextW_w {b l : List Int} (hb : Bs b) (hl : Ws l) : W32 (nextW b l) := by
  unfold nextW
  split
  · have h0 := hb.get (4 * l.length)
    have h1 := hb.get (4 * l.length + 1)
    have h2 := hb.get (4 * l.length + 2)
    have h3 := hb.get (4 * l.length + 3)
    unfold W32
    omega
  · exact W32.mod _
theorem wd_length (b : List Int) : ∀ n, (wd b n).length = n
  | 0 => rfl
  | n + 1 => by rw [wd, List.length_append, wd_length b n]; rfl
theorem wd_w {b : List Int} (hb : Bs b) : ∀ n, Ws (wd b n)
  | 0 => fun x hx => by simp [wd] at hx
  | n + 1 => by
    rw [wd]
    refine (wd_w hb n).append fun x hx => ?_
    obtain rfl := List.mem_singleton.1 hx
    exact nextW_w hb (wd_w hb n)
theorem rnd_length (x : List Int) (k w : Int) : (rnd x k w).length = 8 := rfl
theorem rnd_w {x : List Int} (hx : Ws x) (k w : Int) : Ws (rnd x k w) := by
  intro y hy
  simp only [rnd, List.mem_cons, List.not_mem_nil, or_false] at hy
  rcases hy with rfl | rfl | rfl | rfl | rfl | rfl | rfl | rfl <;> first | exact hx.get _ | exact W32.mod _
theorem rnds_length {h : List Int} (hl : h.length = 8) (w : List Int) : ∀ n, (rnds w h n).length = 8
  | 0 => hl
  | n + 1 => rfl
theorem rnds_w {h : List Int} (hh : Ws h) (w : List Int) : ∀ n, Ws (rnds w h n)
  | 0 => hh
  | n + 1 => rnd_w (rnds_w hh w n) _ _
theorem turn_length {h : List Int} (hl : h.length = 8) (b : List Int) : (turn h b).length = 8 := by
  rw [turn, adds, List.length_zipWith, rnds_length hl, hl]
  rfl
theorem turn_w (h b : List Int) : Ws (turn h b) := by
  intro x hx
  rw [turn, adds] at hx
  obtain ⟨i, hi, rfl⟩ := List.mem_iff_getElem.1 hx
  rw [List.getElem_zipWith]
  exact W32.mod _
theorem shaH_w : Ws shaH := by unfold Ws W32; decide
theorem shaN_length (bs : List Int) : ∀ n, (shaN bs n).length = 8
  | 0 => rfl
  | n + 1 => turn_length (shaN_length bs n) _
theorem shaN_w (bs : List Int) : ∀ n, Ws (shaN bs n)
  | 0 => shaH_w
  | n + 1 => turn_w _ _
theorem shaN_prefix (bs more : List Int) : ∀ n, 64 * n ≤ bs.length → shaN (bs ++ more) n = shaN bs n
  | 0, _ => rfl
  | n + 1, h => by
    rw [shaN, shaN, shaN_prefix bs more n (by omega), List.drop_append_of_le_length (by omega), List.take_append_of_le_length (by simp; omega)]
theorem fill_length (bs : List Int) : (fill bs).length = 64 * ((bs.length + 72) / 64) := by
  simp only [fill, gap, be8, List.length_append, List.length_replicate, List.length_map, List.length_range, List.length_singleton]
  omega
theorem be4_b (x : Int) : Bs (be4 x) := by
  intro y hy
  simp only [be4, List.mem_cons, List.not_mem_nil, or_false] at hy
  omega
theorem be8_b (x : Int) : Bs (be8 x) := by
  intro y hy
  simp only [be8, List.mem_map] at hy
  obtain ⟨i, _, rfl⟩ := hy
  exact ⟨Int.emod_nonneg _ (by decide), Int.emod_lt_of_pos _ (by decide)⟩
theorem sha_length (bs : List Int) : (sha bs).length = 32 := by
  have h := shaN_length (fill bs) ((bs.length + 72) / 64)
  rw [sha, shaW]
  generalize shaN (fill bs) ((bs.length + 72) / 64) = l at h
  match l, h with
  | [a, b, c, d, e, f, g, i], _ => rfl
theorem sha_b (bs : List Int) : Bs (sha bs) := by
  intro x hx
  rw [sha, List.mem_flatMap] at hx
  obtain ⟨y, _, hy⟩ := hx
  exact be4_b y x hy
theorem fill_b {bs : List Int} (h : Bs bs) : Bs (fill bs) := by
  refine ((h.append ?_).append ?_).append (be8_b _)
  · intro x hx
    obtain rfl := List.mem_singleton.1 hx
    decide
  · intro x hx
    obtain rfl := List.eq_of_mem_replicate hx
    decide
theorem sha_abc : (sha [97, 98, 99]).take 4 = [0xba, 0x78, 0x16, 0xbf] ∧ (sha [97, 98, 99]).drop 28 = [0xf2, 0, 0x15, 0xad] := by decide +kernel
end Go.Proofs.Ytobgnmellbgfmaa.B
