/-
  SumHA: what is wanted of Base, Bytes, Sha, ShaB, ShaH, Filled, Blocks, RefSumH.
-/
import Derived.WalkKit
import Derived.WalkSpells
import Derived.WalkLawsBesides
import Derived.KernelRfl
import Derived.Lib.Hide
import Derived.Lib.ConvBytes
import Derived.Lib.AppendStr
import Derived.Deep.RegionHeld3
import Derived.Deep.RegionLaw
import Derived.ArgAppend
import Derived.Deep.LoopGhost
import Derived.Deep.QuietTactic
import Derived.BigQuiet
import Derived.Outline
import Derived.Deep.AppendLies
import Derived.Test.YthobfbiobnmceaaProg
import Derived.Lib.Strings
import Derived.Laws.BitsLemmas
import Derived.StillTailTactics
import Derived.Deep.MidRow
import Derived.Test.YthobfbiobnmceaaBase
import Derived.Test.YthobfbiobnmceaaBytes
import Derived.Test.YthobfbiobnmceaaWriter
import Derived.Test.YthobfbiobnmceaaPut
import Derived.Test.YthobfbiobnmceaaCursor
import Derived.Test.YthobfbiobnmceaaGet
import Derived.Test.YthobfbiobnmceaaRefPut
import Derived.Test.YthobfbiobnmceaaPadE
set_option linter.unusedVariables false
set_option linter.unusedSimpArgs false
namespace Go.Proofs.Ythobfbiobnmceaa.B
open Go.RowKit
open Go.RowKit
set_option linter.unusedVariables false
end Go.Proofs.Ythobfbiobnmceaa.B
namespace Go.Proofs.Ythobfbiobnmceaa.B
open Go.RowKit
set_option linter.unusedVariables false
def rr (x : Int) (n : Nat) : Int := x / 2 ^ n + (x % 2 ^ n) * 2 ^ (32 - n)
def xr (a b : Int) : Int := ((a.toNat ^^^ b.toNat : Nat) : Int)
def an (a b : Int) : Int := ((a.toNat &&& b.toNat : Nat) : Int)
def sg0 (x : Int) : Int := xr (xr (rr x 7) (rr x 18)) (x / 8)
def sg1 (x : Int) : Int := xr (xr (rr x 17) (rr x 19)) (x / 1024)
def bs1 (x : Int) : Int := xr (xr (rr x 6) (rr x 11)) (rr x 25)
def bs0 (x : Int) : Int := xr (xr (rr x 2) (rr x 13)) (rr x 22)
def chs (e f g : Int) : Int := xr (an e f) (an (4294967295 - e) g)
def mjs (a b c : Int) : Int := xr (xr (an a b) (an a c)) (an b c)
def shaK : List Int := [1116352408, 1899447441, 3049323471, 3921009573, 961987163, 1508970993, 2453635748, 2870763221, 3624381080, 310598401, 607225278, 1426881987, 1925078388, 2162078206, 2614888103, 3248222580, 3835390401, 4022224774, 264347078, 604807628, 770255983, 1249150122, 1555081692, 1996064986, 2554220882, 2821834349, 2952996808, 3210313671, 3336571891, 3584528711, 113926993, 338241895, 666307205, 773529912, 1294757372, 1396182291, 1695183700, 1986661051, 2177026350, 2456956037, 2730485921, 2820302411, 3259730800, 3345764771, 3516065817, 3600352804, 4094571909, 275423344, 430227734, 506948616, 659060556, 883997877, 958139571, 1322822218, 1537002063, 1747873779, 1955562222, 2024104815, 2227730452, 2361852424, 2428436474, 2756734187, 3204031479, 3329325298]
def shaH : List Int := [1779033703, 3144134277, 1013904242, 2773480762, 1359893119, 2600822924, 528734635, 1541459225]
/-- A block's next word. -/
def nextW (b l : List Int) : Int :=
  if l.length < 16 then b.getD (4 * l.length) 0 * 16777216 + b.getD (4 * l.length + 1) 0 * 65536 + b.getD (4 * l.length + 2) 0 * 256 + b.getD (4 * l.length + 3) 0
  else (l.getD (l.length - 16) 0 + sg0 (l.getD (l.length - 15) 0) + l.getD (l.length - 7) 0 + sg1 (l.getD (l.length - 2) 0)) % 4294967296
/-- A block's first words. -/
def wd (b : List Int) : Nat → List Int
  | 0 => []
  | n + 1 => wd b n ++ [nextW b (wd b n)]
/-- One round. -/
def rnd (x : List Int) (k w : Int) : List Int :=
  [(x.getD 7 0 + bs1 (x.getD 4 0) + chs (x.getD 4 0) (x.getD 5 0) (x.getD 6 0) + k + w + (bs0 (x.getD 0 0) + mjs (x.getD 0 0) (x.getD 1 0) (x.getD 2 0))) % 4294967296, x.getD 0 0, x.getD 1 0, x.getD 2 0,
   (x.getD 3 0 + (x.getD 7 0 + bs1 (x.getD 4 0) + chs (x.getD 4 0) (x.getD 5 0) (x.getD 6 0) + k + w)) % 4294967296, x.getD 4 0, x.getD 5 0, x.getD 6 0]
def rnds (w h : List Int) : Nat → List Int
  | 0 => h
  | i + 1 => rnd (rnds w h i) (shaK.getD i 0) (w.getD i 0)
def adds (h x : List Int) : List Int := List.zipWith (fun a c => (a + c) % 4294967296) h x
/-- A state behind one block. -/
def turn (h b : List Int) : List Int := adds h (rnds (wd b 64) h 64)
/-- The state behind the first n blocks. -/
def shaN (bs : List Int) : Nat → List Int
  | 0 => shaH
  | n + 1 => turn (shaN bs n) ((bs.drop (64 * n)).take 64)
def be4 (x : Int) : List Int := [x / 16777216 % 256, x / 65536 % 256, x / 256 % 256, x % 256]
def be8 (n : Int) : List Int := (List.range 8).map fun i => n / 2 ^ (56 - 8 * i) % 256
/-- How many bytes 0. -/
def gap (n : Nat) : Nat := (119 - n % 64) % 64
/-- A text, filled up. -/
def fill (bs : List Int) : List Int := bs ++ [128] ++ List.replicate (gap bs.length) 0 ++ be8 (8 * bs.length)
def shaW (bs : List Int) : List Int := shaN (fill bs) ((bs.length + 72) / 64)
/-- A text's sum. -/
def sha (bs : List Int) : List Int := (shaW bs).flatMap be4
/-- A word. -/
def W32 (x : Int) : Prop := 0 ≤ x ∧ x < 4294967296
theorem wraps_i64 (n : Int) (h₀ : 0 ≤ n) (h₁ : n < 2 ^ 63) : IntKind.i64.wrap n = n := by rw [IntKind.wrap_i64]; omega
theorem bits_xor_nat (k : IntKind) (j : Nat) (hj : j ≤ k.bits) (hk : ∀ n : Int, 0 ≤ n → n < 2 ^ j → k.wrap n = n) (a b : Nat) (ha : a < 2 ^ j) (hb : b < 2 ^ j) : bits .xor k a b = ((a ^^^ b : Nat) : Int) := by
  have hp : 2 ^ j ≤ 2 ^ k.bits := Nat.pow_le_pow_right (by decide) hj
  have ha' : a % 2 ^ k.bits = a := Nat.mod_eq_of_lt (Nat.lt_of_lt_of_le ha hp)
  have hb' : b % 2 ^ k.bits = b := Nat.mod_eq_of_lt (Nat.lt_of_lt_of_le hb hp)
  have cast : ∀ n : Nat, n < 2 ^ j → ((n : Nat) : Int) < 2 ^ j := fun n h => by exact_mod_cast h
  simp only [bits, BitVec.ofInt_natCast, BitVec.toNat_xor, BitVec.toNat_ofNat, ha', hb']
  exact hk _ (Int.natCast_nonneg _) (cast _ (Nat.xor_lt_two_pow ha hb))
theorem nat_of {x : Int} (h : W32 x) : ∃ n : Nat, x = n ∧ n < 2 ^ 32 := by
  obtain ⟨n, rfl⟩ := Int.eq_ofNat_of_zero_le h.1
  have := h.2
  exact ⟨n, rfl, by omega⟩
theorem xor_i64 {a b : Int} (ha : W32 a) (hb : W32 b) : bits .xor .i64 a b = xr a b := by
  obtain ⟨m, rfl, hm⟩ := nat_of ha
  obtain ⟨n, rfl, hn⟩ := nat_of hb
  exact bits_xor_nat .i64 63 (by decide) wraps_i64 m n (by omega) (by omega)
theorem and_i64 {a b : Int} (ha : W32 a) (hb : W32 b) : bits .and .i64 a b = an a b := by
  obtain ⟨m, rfl, hm⟩ := nat_of ha
  obtain ⟨n, rfl, hn⟩ := nat_of hb
  exact (bits_nat .i64 63 (by decide) wraps_i64 m n (by omega) (by omega)).1
theorem xr_w {a b : Int} (ha : W32 a) (hb : W32 b) : W32 (xr a b) := by
  obtain ⟨m, rfl, hm⟩ := nat_of ha
  obtain ⟨n, rfl, hn⟩ := nat_of hb
  have : m ^^^ n < 2 ^ 32 := Nat.xor_lt_two_pow hm hn
  unfold W32 xr
  simp only [Int.toNat_natCast]
  omega
theorem an_w {a b : Int} (ha : W32 a) (hb : W32 b) : W32 (an a b) := by
  obtain ⟨m, rfl, hm⟩ := nat_of ha
  obtain ⟨n, rfl, hn⟩ := nat_of hb
  have : m &&& n < 2 ^ 32 := Nat.and_lt_two_pow _ hn
  unfold W32 an
  simp only [Int.toNat_natCast]
  omega
theorem bits_or_comm (k : IntKind) (a b : Int) : bits .or k a b = bits .or k b a := by
  simp only [bits]
  rw [BitVec.or_comm]
theorem pow_split {n : Nat} (hn : n ≤ 32) : (2 : Int) ^ n * 2 ^ (32 - n) = 4294967296 := by
  rw [← Int.pow_add, show n + (32 - n) = 32 by omega]
  rfl
theorem pow_pos2 (n : Nat) : (0 : Int) < 2 ^ n := Int.pow_pos (by decide)
theorem rr_parts {x : Int} (h : W32 x) {n : Nat} (hn : n ≤ 32) : 0 ≤ x / 2 ^ n ∧ x / 2 ^ n < 2 ^ (32 - n) ∧ 0 ≤ (x % 2 ^ n) * 2 ^ (32 - n) ∧ (x % 2 ^ n) * 2 ^ (32 - n) + 2 ^ (32 - n) ≤ 4294967296 := by
  have hp := pow_pos2 n
  have hq := pow_pos2 (32 - n)
  have hs := pow_split hn
  refine ⟨Int.ediv_nonneg h.1 (Int.le_of_lt hp), ?_, Int.mul_nonneg (Int.emod_nonneg _ (by omega)) (Int.le_of_lt hq), ?_⟩
  · rw [Int.ediv_lt_iff_lt_mul hp, Int.mul_comm, hs]
    exact h.2
  · have h1 : x % 2 ^ n + 1 ≤ 2 ^ n := Int.emod_lt_of_pos _ hp
    have h2 := Int.mul_le_mul_of_nonneg_right h1 (Int.le_of_lt hq)
    rw [hs, Int.add_mul, Int.one_mul] at h2
    exact h2
theorem rr_w {x : Int} (h : W32 x) {n : Nat} (hn : n ≤ 32) : W32 (rr x n) := by
  obtain ⟨h1, h2, h3, h4⟩ := rr_parts h hn
  unfold W32 rr
  omega
theorem mul_mod {x : Int} (h : W32 x) {n : Nat} (hn : n ≤ 32) : x * 2 ^ (32 - n) % 4294967296 = (x % 2 ^ n) * 2 ^ (32 - n) := by
  rw [← pow_split hn, Int.mul_comm x, Int.mul_comm (2 ^ n), Int.mul_emod_mul_of_pos _ _ (pow_pos2 _), Int.mul_comm]
theorem low_eq (x : Int) (h0 : 0 ≤ x) (h1 : x < 9223372036854775808) : bits .and .i64 x 4294967295 = x % 4294967296 := bits_mask .i64 63 (by decide) wraps_i64 32 (by decide) x h0 h1
theorem W32.mod (x : Int) : W32 (x % 4294967296) := by unfold W32; omega
theorem sg0_w {x : Int} (h : W32 x) : W32 (sg0 x) := xr_w (xr_w (rr_w h (by omega)) (rr_w h (by omega))) (by unfold W32 at *; omega)
theorem sg1_w {x : Int} (h : W32 x) : W32 (sg1 x) := xr_w (xr_w (rr_w h (by omega)) (rr_w h (by omega))) (by unfold W32 at *; omega)
theorem bs0_w {x : Int} (h : W32 x) : W32 (bs0 x) := xr_w (xr_w (rr_w h (by omega)) (rr_w h (by omega))) (rr_w h (by omega))
theorem bs1_w {x : Int} (h : W32 x) : W32 (bs1 x) := xr_w (xr_w (rr_w h (by omega)) (rr_w h (by omega))) (rr_w h (by omega))
theorem chs_w {e f g : Int} (he : W32 e) (hf : W32 f) (hg : W32 g) : W32 (chs e f g) := xr_w (an_w he hf) (an_w (by unfold W32 at *; omega) hg)
theorem mjs_w {a b c : Int} (ha : W32 a) (hb : W32 b) (hc : W32 c) : W32 (mjs a b c) := xr_w (xr_w (an_w ha hb) (an_w ha hc)) (an_w hb hc)
/-- All are words; all are bytes. -/
def Ws (l : List Int) : Prop := ∀ x ∈ l, W32 x
def Bs (l : List Int) : Prop := ∀ x ∈ l, 0 ≤ x ∧ x < 256
theorem Ws.get {l : List Int} (h : Ws l) (i : Nat) : W32 (l.getD i 0) := by
  by_cases hi : i < l.length
  · rw [List.getD, List.getElem?_eq_getElem hi]
    exact h _ (List.getElem_mem hi)
  · rw [List.getD, List.getElem?_eq_none (by omega)]
    unfold W32
    simp
theorem Bs.get {l : List Int} (h : Bs l) (i : Nat) : 0 ≤ l.getD i 0 ∧ l.getD i 0 < 256 := by
  by_cases hi : i < l.length
  · rw [List.getD, List.getElem?_eq_getElem hi]
    exact h _ (List.getElem_mem hi)
  · rw [List.getD, List.getElem?_eq_none (by omega)]
    simp
theorem Ws.append {a b : List Int} (ha : Ws a) (hb : Ws b) : Ws (a ++ b) := fun x hx => (List.mem_append.1 hx).elim (ha x) (hb x)
theorem Bs.append {a b : List Int} (ha : Bs a) (hb : Bs b) : Bs (a ++ b) := fun x hx => (List.mem_append.1 hx).elim (ha x) (hb x)
theorem Bs.drop {a : List Int} (ha : Bs a) (n : Nat) : Bs (a.drop n) := fun x hx => ha x (List.mem_of_mem_drop hx)
theorem Bs.take {a : List Int} (ha : Bs a) (n : Nat) : Bs (a.take n) := fun x hx => ha x (List.mem_of_mem_take hx)
theorem nextW_w {b l : List Int} (hb : Bs b) (hl : Ws l) : W32 (nextW b l) := by
  unfold nextW
  split
  · have h0 := hb.get (4 * l.length)
    have h1 := hb.get (4 * l.length + 1)
    have h2 := hb.get (4 * l.length + 2)
    have h3 := hb.get (4 * l.length + 3)
    unfold W32
    omega
  · exact W32.mod _
theorem wd_length (b : List Int) : ∀ n, (wd b n).length = n
  | 0 => rfl
  | n + 1 => by rw [wd, List.length_append, wd_length b n]; rfl
theorem wd_w {b : List Int} (hb : Bs b) : ∀ n, Ws (wd b n)
  | 0 => fun x hx => by simp [wd] at hx
  | n + 1 => by
    rw [wd]
    refine (wd_w hb n).append fun x hx => ?_
    obtain rfl := List.mem_singleton.1 hx
    exact nextW_w hb (wd_w hb n)
theorem rnd_w {x : List Int} (hx : Ws x) (k w : Int) : Ws (rnd x k w) := by
  intro y hy
  simp only [rnd, List.mem_cons, List.not_mem_nil, or_false] at hy
  rcases hy with rfl | rfl | rfl | rfl | rfl | rfl | rfl | rfl <;> first | exact hx.get _ | exact W32.mod _
theorem rnds_length {h : List Int} (hl : h.length = 8) (w : List Int) : ∀ n, (rnds w h n).length = 8
  | 0 => hl
  | n + 1 => rfl
theorem rnds_w {h : List Int} (hh : Ws h) (w : List Int) : ∀ n, Ws (rnds w h n)
  | 0 => hh
  | n + 1 => rnd_w (rnds_w hh w n) _ _
theorem turn_length {h : List Int} (hl : h.length = 8) (b : List Int) : (turn h b).length = 8 := by
  rw [turn, adds, List.length_zipWith, rnds_length hl, hl]
  rfl
theorem turn_w (h b : List Int) : Ws (turn h b) := by
  intro x hx
  rw [turn, adds] at hx
  obtain ⟨i, hi, rfl⟩ := List.mem_iff_getElem.1 hx
  rw [List.getElem_zipWith]
  exact W32.mod _
theorem shaH_w : Ws shaH := by unfold Ws W32; decide
theorem shaN_length (bs : List Int) : ∀ n, (shaN bs n).length = 8
  | 0 => rfl
  | n + 1 => turn_length (shaN_length bs n) _
theorem shaN_w (bs : List Int) : ∀ n, Ws (shaN bs n)
  | 0 => shaH_w
  | n + 1 => turn_w _ _
theorem fill_length (bs : List Int) : (fill bs).length = 64 * ((bs.length + 72) / 64) := by
  simp only [fill, gap, be8, List.length_append, List.length_replicate, List.length_map, List.length_range, List.length_singleton]
  omega
theorem be8_b (x : Int) : Bs (be8 x) := by
  intro y hy
  simp only [be8, List.mem_map] at hy
  obtain ⟨i, _, rfl⟩ := hy
  exact ⟨Int.emod_nonneg _ (by decide), Int.emod_lt_of_pos _ (by decide)⟩
theorem fill_b {bs : List Int} (h : Bs bs) : Bs (fill bs) := by
  refine ((h.append ?_).append ?_).append (be8_b _)
  · intro x hx
    obtain rfl := List.mem_singleton.1 hx
    decide
  · intro x hx
    obtain rfl := List.eq_of_mem_replicate hx
    decide
theorem wrap_id {x : Int} (h1 : -9223372036854775808 ≤ x) (h2 : x ≤ 9223372036854775807) : wrap64 x = x := by
  unfold wrap64
  omega
theorem drewN_zero (w : World) : w.drewN 0 = w := by rfl
set_option maxRecDepth 100000 in
theorem low_any (x : Int) (h0 : 0 ≤ x) (h1 : x < 9223372036854775808) (w : World) : Calls Try.prog 75 #[.int .i64 x] w fun e w' => e = .returned (.int .i64 (x % 4294967296)) ∧ ∃ d, w' = w.drewN d := by
  have hl := low_eq x h0 h1
  go_enter Try.func75, Try.ntmps75
  go_wp2
  go_ret
  exact ⟨rfl, 0, (drewN_zero w).symm⟩
theorem low_same (x : Int) (h0 : 0 ≤ x) (h1 : x < 9223372036854775808) (w : World) : Calls Try.prog 75 #[.int .i64 x] w fun e w' => e = .returned (.int .i64 (x % 4294967296)) ∧ w' = w := by
  have h := low_eq x h0 h1
  have H := Lib.hid h
  clear h
  go_enter Try.func75, Try.ntmps75
  go_wp2
  go_ret
  exact ⟨by simp [← H.out], rfl⟩
theorem right_arg {x : Int} (h : W32 x) {n : Nat} (h2 : 2 ≤ n) (hn : n ≤ 32) :
    0 ≤ bits .or .i64 (x / 2 ^ n) (wrap64 (x * 2 ^ (32 - n))) ∧ bits .or .i64 (x / 2 ^ n) (wrap64 (x * 2 ^ (32 - n))) < 9223372036854775808 ∧ bits .or .i64 (x / 2 ^ n) (wrap64 (x * 2 ^ (32 - n))) % 4294967296 = rr x n := by
  obtain ⟨h3, h4, h5, h6⟩ := rr_parts h hn
  have hq := pow_pos2 (32 - n)
  have hq1 : (2 : Int) ^ (32 - n) ≤ 1073741824 := by
    have h : (2 : Int) ^ (32 - n) ≤ 2 ^ 30 := by exact_mod_cast Nat.pow_le_pow_right (show 0 < 2 by decide) (show 32 - n ≤ 30 by omega)
    rwa [show (2 : Int) ^ 30 = 1073741824 from rfl] at h
  have hb : x * 2 ^ (32 - n) < 4611686018427387904 := by
    have a := Int.mul_lt_mul_of_pos_right h.2 hq
    have b := Int.mul_le_mul_of_nonneg_left hq1 (show (0 : Int) ≤ 4294967296 by decide)
    omega
  have hb0 : 0 ≤ x * 2 ^ (32 - n) := Int.mul_nonneg h.1 (Int.le_of_lt hq)
  rw [wrap_id (by omega) (by omega), bits_or_comm, bits_join .i64 63 (by decide) wraps_i64 (32 - n) _ _ hb0 (Int.mul_emod_left _ _) (by omega) h3 h4 (by omega)]
  have hm := mul_mod h hn
  refine ⟨by omega, by omega, ?_⟩
  rw [rr]
  omega
set_option maxRecDepth 100000 in
theorem right_any (x : Int) (h : W32 x) (n : Nat) (h2 : 2 ≤ n) (hn : n ≤ 32) (w : World) : Calls Try.prog 74 #[.int .i64 x, .int .i64 n] w fun e w' => e = .returned (.int .i64 (rr x n)) ∧ ∃ d, w' = w.drewN d := by
  have e1 : wrap64 (32 - (n : Int)) = ((32 - n : Nat) : Int) := by rw [wrap_id (by omega) (by omega)]; omega
  obtain ⟨a1, a2, a3⟩ := right_arg h h2 hn
  have HL := Lib.hid (fun W => low_any _ a1 a2 W)
  rw [a3] at HL
  have z1 : (0 : Int) ≤ (n : Int) := by omega
  clear a1 a2 a3
  go_enter Try.func74, Try.ntmps74
  go_wp2_with fail
  go_quiet ((go_at_call 75; (refine (HL.out _).mono ?_); rintro e w' ⟨rfl, nd, rfl⟩; exact ⟨rfl, _, World.drewN_drewN _ _ _⟩))
  go_wp2_with fail
  go_ret
  exact ⟨rfl, _, rfl⟩
set_option maxRecDepth 100000 in
set_option maxHeartbeats 1600000 in
theorem keys_any (w : World) : Calls Try.prog 72 #[] w fun e w' => ∃ v, e = .returned v ∧ Loc w w' 3 1 v 64 (ints shaK) := by
  go_enter Try.func72, Try.ntmps72
  go_wp2_with fail
  go_ret
  have hl := (Below.refl _ w).alloc (Nat.le_refl _) (.cells (ints shaK).toArray 3 (0, 0))
  exact ⟨_, rfl, ⟨Row.lit (cs := (ints shaK).toArray) (get_top rfl) 64 rfl (by unfold maxLen; omega), hl, fun g hg => by cases hg; exact Nat.le_refl _⟩⟩
theorem nextW_late {b l : List Int} {i : Nat} (hl : l.length = i) (hi : 16 ≤ i) : nextW b l = (l.getD (i - 16) 0 + sg0 (l.getD (i - 15) 0) + l.getD (i - 7) 0 + sg1 (l.getD (i - 2) 0)) % 4294967296 := by
  subst hl
  rw [nextW, if_neg (by omega)]
theorem nextW_early {b l : List Int} {i : Nat} (hl : l.length = i) (hi : i < 16) : nextW b l = b.getD (4 * i) 0 * 16777216 + b.getD (4 * i + 1) 0 * 65536 + b.getD (4 * i + 2) 0 * 256 + b.getD (4 * i + 3) 0 := by
  subst hl
  rw [nextW, if_pos hi]
/-- append onto a row, whatever is appended. -/
theorem run_append_row2 {P : Program} (w : World) (t tx ty e : TypeId) (i : TypeInfo) (z : Value) (size bytes : Nat) (ht : P.underlying t = some (.slice e)) (hi : P.info? e = some i) (hz : i.zero = some z)
    (hsize : i.size = size) (hby : i.bytes = bytes) (hzs : z.cells.size = size) (hbp : bytes ≠ 0)
    (v : Value) (n : Nat) (xs : List Value) (hown : Row w e size v n xs) (x : Value) (m : Nat) (news : List Value) (hf : Feeds P tx size w x m news)
    (h63 : n + m ≤ maxLen) (hbytes : (n + m) * bytes ≤ 140737488355328) :
    ∃ v' w', (Builtin.append_ #[t, tx] ty #[v, x]).run P w = .ok v' w' ∧ Row w' e size v' (n + m) (xs ++ news) ∧ w.grownBy w' v.ownBlock ∧
      (v'.ownBlock = v.ownBlock ∨ (v'.ownBlock = some w.heap.size ∧ w.grownBy w' none)) := by
  obtain ⟨d, hd, hdk⟩ := hf.ty
  have hlen := hf.count
  have hsmall : n + m ≤ 9223372036854775807 := by simp only [maxLen] at h63; omega
  have hl2 : (xs ++ news).length = (n + m) * size := by rw [List.length_append, hown.1, hf.len, Nat.add_mul]
  have grown : ∀ (old : Nat), old < n + m → ∀ (row : Option Nat),
      Row (w.drew.alloc (.cells (xs.toArray ++ news.toArray ++ Builtin.zeroCells z.cells (grownCap w (n + m) old e - (n + m))) e)) e size
        (.slice (some ⟨w.heap.size, 0, none⟩) (n + m) (grownCap w (n + m) old e)) (n + m) (xs ++ news) ∧
      w.grownBy (w.drew.alloc (.cells (xs.toArray ++ news.toArray ++ Builtin.zeroCells z.cells (grownCap w (n + m) old e - (n + m))) e)) row := by
    intro old ho row
    have hge := grownCap_ge w (n + m) old e
    have hcm : grownCap w (n + m) old e ≤ maxLen := grownCap_le_maxLen w (n + m) old e h63
    refine ⟨⟨hl2, .inr ⟨w.heap.size, _, _, 0, 0, rfl, heap_alloc_new w.drew _, .inl (Nat.le_refl _), hge, hcm, ?_, ?_⟩⟩, ⟨rfl, rfl, rfl, by simp, fun k hk _ => Below.heap_alloc w.drew _ k hk⟩⟩
    · simp only [Array.size_append, List.size_toArray, size_zeroCells, hzs, hown.1, hf.len, ← Nat.add_mul]
      congr 1
      omega
    · simp only [Array.toList_append, List.append_assoc]
      rw [← List.append_assoc, ← hl2]
      exact List.take_left
  rcases hown.2 with ⟨rfl, rfl⟩ | ⟨g, cap, cur, lo, hi', rfl, hg, hmk, hnc, hcm, hcs, htake⟩
  · obtain rfl : xs = [] := List.eq_nil_of_length_eq_zero (by simpa using hown.1)
    have hfi := hf.first w rfl
    by_cases hm : m = 0
    · subst hm
      obtain rfl : news = [] := List.eq_nil_of_length_eq_zero (by simpa using hf.len)
      refine ⟨.slice none 0 0, w, ?_, Row.nil w e size, ⟨rfl, rfl, rfl, Nat.le_refl _, fun _ _ _ => rfl⟩, .inl rfl⟩
      simp [Builtin.append_, run_underlying ht, run_underlying hd, sizeOf, typeInfo, hi, hsize, hlen, hfi]
    · have hnn : ¬ (m ≤ 0) := by omega
      have h63' : ¬ (9223372036854775807 < (m : Int)) := by omega
      have h48' : ¬ (281474976710656 < Builtin.nextslicecap m 0 * i.bytes) := by
        have := growslice_fits (need := m) (old := 0) (bytes := bytes) (by omega) (by simpa using hbytes)
        rw [hby]; omega
      have hfi := hf.first w.drew rfl
      have hgr := grown 0 (by omega) none
      simp only [Nat.zero_add, List.nil_append, Array.empty_append] at hgr
      refine ⟨_, _, ?_, by simpa using hgr.1, by simpa [Value.ownBlock] using hgr.2, .inr ⟨rfl, by simpa using hgr.2⟩⟩
      have hm' : m ≠ 0 := hm
      simp [Builtin.append_, run_underlying ht, run_underlying hd, sizeOf, typeInfo, zeroValue, hi, hsize, hz, hlen, hm', h63', h48', Question.forced, run_firstCells_none, hfi, newRow, grownCap]
  · have hfi := hf.first w rfl
    by_cases hroom : n + m ≤ cap
    · have hfit : n * size + news.length ≤ cur.size := by rw [hf.len, hcs, ← Nat.add_mul]; exact Nat.mul_le_mul_right _ hroom
      have hst := run_storeCells_cells (P := P) g (n * size) news 0 w
        (fun j hj => by rw [blk_cell hg]; simp; omega)
        (fun j hj => by
          simp [World.frozen?, hg]
          intro h1
          rcases hmk with h | h
          · omega
          · have := hcs; omega) hf.one
      simp only [Nat.add_zero] at hst
      obtain ⟨cur', q1, q2, q3⟩ := setCells_heap g news (n * size) w cur e (lo, hi') hg hfit
      refine ⟨.slice (some ⟨g, 0, none⟩) (n + m) cap, w.setCells g (n * size) news, ?_, ⟨hl2, .inr ⟨g, cap, cur', lo, hi', rfl, q1, hmk, hroom, hcm, by rw [q2, hcs], ?_⟩⟩, setCells_grown g news _ w, .inl rfl⟩
      · simp [Builtin.append_, run_underlying ht, run_underlying hd, sizeOf, typeInfo, hi, hsize, hlen, hroom, hfi, Addr.add_lit, hst]
      · rw [q3, htake, ← hl2, List.take_left]
    · have hnn : ¬ (n + m ≤ cap) := hroom
      have h63' : ¬ (9223372036854775807 < ((n : Int) + (m : Int))) := by omega
      have h48' : ¬ (281474976710656 < Builtin.nextslicecap (n + m) cap * i.bytes) := by
        have := growslice_fits (need := n + m) (old := cap) (bytes := bytes) (by omega) hbytes
        rw [hby]; omega
      have hfd := hf.first w.drew rfl
      have hfo := run_firstCells_some (P := P) w.drew size n ⟨g, 0, none⟩ n cap xs hown.1 (fun j u hj => by
        rw [Addr.add_lit, Nat.zero_add]
        have := Row.cells hown j u hj
        simpa using this)
      have hgr := grown cap (by omega) (Value.ownBlock (.slice (some ⟨g, 0, none⟩) n cap))
      refine ⟨_, _, ?_, hgr.1, hgr.2, .inr ⟨rfl, (grown cap (by omega) none).2⟩⟩
      simp [Builtin.append_, run_underlying ht, run_underlying hd, sizeOf, typeInfo, zeroValue, hi, hsize, hz, hlen, hnn, h63', h48', Question.forced, hfd, hfo, newRow, grownCap]
      congr 2
      apply Array.ext'
      simp [List.append_assoc]
/-- The same at the operation. -/
theorem wp_append_row2 {P : Program} (w : World) {o : Oper} {a : Act} {K : Act → World → Prop} {Q : Exit → Act → World → Prop} (s x : Operand) (t tx : TypeId)
    (ho : o.op = .call { callee := .builtin .append, args := #[s, x], argTypes := #[t, tx] })
    (e : TypeId) (i : TypeInfo) (z : Value) (size bytes : Nat) (ht : P.underlying t = some (.slice e)) (hi : P.info? e = some i) (hz : i.zero = some z)
    (hsize : i.size = size) (hby : i.bytes = bytes) (hzs : z.cells.size = size) (hbp : bytes ≠ 0)
    (v : Value) (n : Nat) (xs : List Value) (hs : a.eval s = v) (hown : Row w e size v n xs) (xv : Value) (hx : a.eval x = xv) (m : Nat) (news : List Value) (hf : Feeds P tx size w xv m news)
    (h63 : n + m ≤ maxLen) (hbytes : (n + m) * bytes ≤ 140737488355328) (H : Nat) (hH : w.heap.size = H)
    (h : ∀ ao cap w', Row w' e size (.slice ao (n + m) cap) (n + m) (xs ++ news) → w.grownBy w' v.ownBlock → ((Value.slice ao (n + m) cap).ownBlock = v.ownBlock ∨ ((Value.slice ao (n + m) cap).ownBlock = some H ∧ w.grownBy w' none)) → K (a.put o.dst (.slice ao (n + m) cap)) w') : o.wp P a w K Q := by
  obtain ⟨v', w', hr, h2, h3, h4⟩ := run_append_row2 (P := P) w t tx o.type e i z size bytes ht hi hz hsize hby hzs hbp v n xs hown xv m news hf h63 hbytes
  obtain ⟨ao, cap, rfl, _⟩ := h2.form
  unfold Oper.wp execOp
  simp only [ho, resolve, invoke, builtin, Sem.run_bind, Sem.run_pure, Result.andThen_ok, List.map_toArray, List.map_cons, List.map_nil, hs, hx, hr]
  exact h ao cap w' h2 h3 (by rw [← hH]; exact h4)
/-- At a step of a region that draws its order. -/
theorem step_append_row2 {P : Program} {w : World} {ops : Array Oper} {o : Oper} {a : Act} {K : Act → World → Prop} {Q : Exit → Act → World → Prop} {E : Prop} (hgd : o.guard = none) (s x : Operand) (t tx : TypeId)
    (ho : o.op = .call { callee := .builtin .append, args := #[s, x], argTypes := #[t, tx] })
    (e : TypeId) (i : TypeInfo) (z : Value) (size bytes : Nat) (ht : P.underlying t = some (.slice e)) (hi : P.info? e = some i) (hz : i.zero = some z)
    (hsize : i.size = size) (hby : i.bytes = bytes) (hzs : z.cells.size = size) (hbp : bytes ≠ 0)
    (v : Value) (n : Nat) (xs : List Value) (hs : a.eval s = v) (hown : Row w e size v n xs) (xv : Value) (hx : a.eval x = xv) (m : Nat) (news : List Value) (hf : Feeds P tx size w xv m news)
    (h63 : n + m ≤ maxLen) (hbytes : (n + m) * bytes ≤ 140737488355328) (H : Nat) (hH : w.heap.size = H)
    (h : ∀ ao cap w', Row w' e size (.slice ao (n + m) cap) (n + m) (xs ++ news) → w.grownBy w' v.ownBlock → ((Value.slice ao (n + m) cap).ownBlock = v.ownBlock ∨ ((Value.slice ao (n + m) cap).ownBlock = some H ∧ w.grownBy w' none)) → K (a.put o.dst (.slice ao (n + m) cap)) w') :
    if Region.wanted o (yielded ops a.tmps) = true then Oper.wp P o a w K Q else E := by
  have hw : Region.wanted o (yielded ops a.tmps) = true := by simp [Region.wanted, hgd]
  rw [if_pos hw]
  exact wp_append_row2 w s x t tx ho e i z size bytes ht hi hz hsize hby hzs hbp v n xs hs hown xv hx m news hf h63 hbytes H hH h
theorem bel_push {w wm : World} (o : Obj) (h1 : wm.os = w.os) (h2 : wm.tape = w.tape) (h3 : wm.output = w.output) (h4 : wm.heap = w.heap.push o) : Below w.heap.size w wm :=
  ⟨h1, h2, h3, by rw [h4, Array.size_push]; omega, fun k hk => by rw [h4, Array.getElem?_push, if_neg (by omega)]⟩
theorem row_push {w wm : World} (o : Obj) (h4 : wm.heap = w.heap.push o) {e : TypeId} {size : Nat} {v : Value} {n : Nat} {xs : List Value} (h : Row w e size v n xs) : Row wm e size v n xs := by
  refine ⟨h.1, ?_⟩
  rcases h.2 with hz | ⟨g, cap, cur, lo, hi, rfl, hg, rest⟩
  · exact .inl hz
  · refine .inr ⟨g, cap, cur, lo, hi, rfl, ?_, rest⟩
    rw [h4, Array.getElem?_push, if_neg (by have := blk_lt hg; omega)]
    exact hg
/-- What an append leaves of the row's old cells. -/
theorem app_keeps {w wm w5 : World} {o : Obj} (h4 : wm.heap = w.heap.push o) {e : TypeId} {n cap5 cap2 g2 H j : Nat} {ao5 : Option Addr} {xs news : List Value} {u : Value} {v : Value} (hv : v = .slice (some ⟨g2, 0, none⟩) n cap2) (hown : Row w5 e 1 (.slice ao5 (n + 1) cap5) (n + 1) (xs ++ news))
    (hat : (Value.slice ao5 (n + 1) cap5).ownBlock = v.ownBlock ∨ ((Value.slice ao5 (n + 1) cap5).ownBlock = some H ∧ wm.grownBy w5 none)) (hlt : g2 < w.heap.size) (hx : xs[j]? = some u) (hc : w.cell? ⟨g2, j, none⟩ = some u) : w5.cell? ⟨g2, j, none⟩ = some u := by
  subst hv
  rcases hat with h | ⟨_, h⟩
  · obtain ⟨g5, c5, he, _, _⟩ := hown.form_pos (by omega)
    simp at he
    obtain ⟨rfl, rfl⟩ := he
    simp [Value.ownBlock] at h
    subst h
    exact hown.cells j u (by rw [List.getElem?_append_left (List.getElem?_eq_some_iff.1 hx).1]; exact hx)
  · rw [← hc]
    refine World.cell?_of_block ?_
    show w5.heap[g2]? = w.heap[g2]?
    rw [h.block g2 (by rw [h4, Array.size_push]; omega) (by simp), h4, Array.getElem?_push, if_neg (by omega)]
/-- The chain of a late word. -/
theorem chainH {x15 x2 x16 x7 : Int} (w15 : W32 x15) (w2 : W32 x2) (w16 : W32 x16) (w7 : W32 x7) :
    ∃ u0 s0 u1 s1 t0 t1 t2, bits .xor .i64 (rr x15 7) (rr x15 18) = u0 ∧ bits .xor .i64 u0 (x15 / 8) = s0 ∧ bits .xor .i64 (rr x2 17) (rr x2 19) = u1 ∧ bits .xor .i64 u1 (x2 / 1024) = s1 ∧
      IntKind.i64.wrap (x16 + s0) = t0 ∧ IntKind.i64.wrap (t0 + x7) = t1 ∧ IntKind.i64.wrap (t1 + s1) = t2 ∧ 0 ≤ t2 ∧ t2 < 9223372036854775808 ∧ t2 % 4294967296 = (x16 + sg0 x15 + x7 + sg1 x2) % 4294967296 := by
  have d8 : W32 (x15 / 8) := by unfold W32 at *; omega
  have d10 : W32 (x2 / 1024) := by unfold W32 at *; omega
  have s0 := sg0_w w15
  have s1 := sg1_w w2
  refine ⟨_, _, _, _, _, _, _, rfl, rfl, rfl, rfl, rfl, rfl, rfl, ?_⟩
  rw [xor_i64 (rr_w w15 (by omega)) (rr_w w15 (by omega)), xor_i64 (xr_w (rr_w w15 (by omega)) (rr_w w15 (by omega))) d8, xor_i64 (rr_w w2 (by omega)) (rr_w w2 (by omega)), xor_i64 (xr_w (rr_w w2 (by omega)) (rr_w w2 (by omega))) d10]
  rw [show xr (xr (rr x15 7) (rr x15 18)) (x15 / 8) = sg0 x15 from rfl, show xr (xr (rr x2 17) (rr x2 19)) (x2 / 1024) = sg1 x2 from rfl]
  generalize sg0 x15 = y0 at *
  generalize sg1 x2 = y1 at *
  unfold W32 at w16 w7 s0 s1
  rw [wraps_i64 (x16 + y0) (by omega) (by omega), wraps_i64 (x16 + y0 + x7) (by omega) (by omega), wraps_i64 _ (by omega) (by omega)]
  exact ⟨by omega, by omega, rfl⟩
/-- What stands in a round of words. -/
structure WrdI (w : World) (b : List Int) (i : Nat) (v : Value) (W : World) : Prop where
  out : Loc w W 3 1 v i (ints (wd b i))
theorem add_none (g o k : Nat) : (⟨g, o, none⟩ : Addr).add k = ⟨g, o + k, none⟩ := by
  unfold Addr.add
  split
  · rename_i he
    rw [he, Nat.add_zero]
  · rfl
theorem cell_lt {w : World} {p : Addr} {u : Value} (h : w.cell? p = some u) : p.block < w.heap.size := by
  unfold World.cell? at h
  split at h
  · rename_i hb
    exact blk_lt hb
  · cases h
set_option maxRecDepth 100000 in
set_option maxHeartbeats 3200000 in
theorem words_any (b : List Int) (hb : Bs b) (hlen : b.length = 64) (gb p : Nat) (cap : Nat) (hcap : 64 ≤ cap) (w : World) (hc0 : ∀ j, j < 64 → w.cell? ((⟨gb, p, none⟩ : Addr).add j) = some (.int .u8 (b.getD j 0))) :
    Calls Try.prog 73 #[.slice (some ⟨gb, p, none⟩) 64 cap] w fun e w' => ∃ v, e = .returned v ∧ Loc w w' 3 1 v 64 (ints (wd b 64)) := by
  have hc : ∀ j, j < 64 → w.cell? ⟨gb, p + j, none⟩ = some (.int .u8 (b.getD j 0)) := fun j hj => by rw [← add_none]; exact hc0 j hj
  have hlt : gb < w.heap.size := cell_lt (hc 0 (by omega))
  have HC := Lib.hid hc
  have HB := Lib.hid hb
  have HI0 := Lib.hid (show WrdI w b 0 (.slice none 0 0) w from ⟨Loc.nil (Below.refl _ _) _ _⟩)
  clear hc hc0 hb
  go_enter Try.func73, Try.ntmps73
  go_wp2_with fail
  go_loopg [3, 4] 16 (fun j o i wr => ∃ (k : Nat) (v : Value), j + k = 16 ∧ i = .int .i64 (k : Int) ∧ o = v ∧ WrdI w b k v wr)
  case atStart => exact ⟨0, _, by omega, rfl, rfl, HI0.out⟩
  case round =>
    obtain ⟨k, v, hk, rfl, hov, hI⟩ := hrel
    have hov := hov.symm
    subst hov
    obtain ⟨ao, cap1, rfl, hcv⟩ := hI.out.row.form
    by_cases hk16 : k < 16
    · obtain ⟨j, rfl⟩ : ∃ j, gk = j + 1 := ⟨gk - 1, by omega⟩
      have hkj : j + (k + 1) = 16 := by omega
      have HKJ := Lib.hid hkj
      have iD : (0 : Int) ≤ (k : Int) := by omega
      have iE : (k : Int) < 16 := by omega
      have hk1000 : k ≤ 1000 := by omega
      have HI := Lib.hid hI
      have g0 := (hI.out.below.cell (p := ⟨gb, p + (4 * k), none⟩) hlt).trans (HC.out (4 * k) (by omega))
      have g1 := (hI.out.below.cell (p := ⟨gb, p + (4 * k + 1), none⟩) hlt).trans (HC.out (4 * k + 1) (by omega))
      have g2 := (hI.out.below.cell (p := ⟨gb, p + (4 * k + 2), none⟩) hlt).trans (HC.out (4 * k + 2) (by omega))
      have g3 := (hI.out.below.cell (p := ⟨gb, p + (4 * k + 3), none⟩) hlt).trans (HC.out (4 * k + 3) (by omega))
      have w0 : IntKind.i64.wrap (4 * (k : Int)) = 4 * (k : Int) := IntWalk.i64_in _ (by omega)
      have w1 : IntKind.i64.wrap (4 * (k : Int) + 1) = 4 * (k : Int) + 1 := IntWalk.i64_in _ (by omega)
      have w2 : IntKind.i64.wrap (4 * (k : Int) + 2) = 4 * (k : Int) + 2 := IntWalk.i64_in _ (by omega)
      have w3 : IntKind.i64.wrap (4 * (k : Int) + 3) = 4 * (k : Int) + 3 := IntWalk.i64_in _ (by omega)
      have i1 : (0 : Int) ≤ 4 * (k : Int) := by omega
      have i2 : 4 * (k : Int) < 64 := by omega
      have i3 : 4 * (k : Int) + 1 < 64 := by omega
      have i4 : 4 * (k : Int) + 2 < 64 := by omega
      have i5 : 4 * (k : Int) + 3 < 64 := by omega
      have i6 : (4 * (k : Int)).toNat = 4 * k := by omega
      have i7 : (4 * (k : Int) + 1).toNat = 4 * k + 1 := by omega
      have i8 : (4 * (k : Int) + 2).toNat = 4 * k + 2 := by omega
      have i9 : (4 * (k : Int) + 3).toNat = 4 * k + 3 := by omega
      have iA : (0 : Int) ≤ 4 * (k : Int) + 1 := by omega
      have iB : (0 : Int) ≤ 4 * (k : Int) + 2 := by omega
      have iC : (0 : Int) ≤ 4 * (k : Int) + 3 := by omega
      have b0 := HB.out.get (4 * k)
      have b1 := HB.out.get (4 * k + 1)
      have b2 := HB.out.get (4 * k + 2)
      have b3 := HB.out.get (4 * k + 3)
      have hnx := nextW_early (b := b) (wd_length b k) hk16
      generalize b.getD (4 * k) 0 = y0 at g0 b0 hnx
      generalize b.getD (4 * k + 1) 0 = y1 at g1 b1 hnx
      generalize b.getD (4 * k + 2) 0 = y2 at g2 b2 hnx
      generalize b.getD (4 * k + 3) 0 = y3 at g3 b3 hnx
      have A0 : IntKind.i64.wrap y0 = y0 := wraps_i64 _ (by omega) (by omega)
      have A1 : IntKind.i64.wrap y1 = y1 := wraps_i64 _ (by omega) (by omega)
      have A2 : IntKind.i64.wrap y2 = y2 := wraps_i64 _ (by omega) (by omega)
      have A3 : IntKind.i64.wrap y3 = y3 := wraps_i64 _ (by omega) (by omega)
      obtain ⟨p0, hp0⟩ : ∃ q, q = y0 * 16777216 := ⟨_, rfl⟩
      obtain ⟨p1, hp1⟩ : ∃ q, q = y1 * 65536 := ⟨_, rfl⟩
      obtain ⟨p2, hp2⟩ : ∃ q, q = y2 * 256 := ⟨_, rfl⟩
      obtain ⟨q1, hq1⟩ : ∃ q, q = p0 + p1 := ⟨_, rfl⟩
      obtain ⟨q2, hq2⟩ : ∃ q, q = q1 + p2 := ⟨_, rfl⟩
      obtain ⟨X, hX⟩ : ∃ q, q = q2 + y3 := ⟨_, rfl⟩
      have hnx2 : nextW b (wd b k) = X := by rw [hnx]; omega
      have B0 : IntKind.i64.wrap (y0 * 16777216) = p0 := by rw [← hp0]; exact wraps_i64 _ (by omega) (by omega)
      have B1 : IntKind.i64.wrap (y1 * 65536) = p1 := by rw [← hp1]; exact wraps_i64 _ (by omega) (by omega)
      have B2 : IntKind.i64.wrap (y2 * 256) = p2 := by rw [← hp2]; exact wraps_i64 _ (by omega) (by omega)
      have C0 : IntKind.i64.wrap (p0 + p1) = q1 := by rw [← hq1]; exact wraps_i64 _ (by omega) (by omega)
      have C1 : IntKind.i64.wrap (q1 + p2) = q2 := by rw [← hq2]; exact wraps_i64 _ (by omega) (by omega)
      have C2 : IntKind.i64.wrap (q2 + y3) = X := by rw [← hX]; exact wraps_i64 _ (by omega) (by omega)
      have hwd : ints (wd b (k + 1)) = ints (wd b k) ++ [.int .i64 X] := by rw [wd, hnx2]; simp [ints]
      have HWD := Lib.hid hwd
      obtain ⟨i0, hi, hz0, hz1, hz2⟩ := info_parts infoInt
      have HII := Lib.hid hi
      have HZ0 := Lib.hid hz0
      have HZ1 := Lib.hid hz1
      have HZ2 := Lib.hid hz2
      have hvne : some gb ≠ (Value.slice ao k cap1).ownBlock := fun he => by
        have := hI.out.base gb he.symm
        omega
      have hgw : gb < wr.heap.size := Nat.lt_of_lt_of_le hlt hI.out.below.size
      clear hI hk hkj hk16 hnx hnx2 hwd hp0 hp1 hp2 hq1 hq2 hX b0 b1 b2 b3 hi hz0 hz1 hz2
      go_wp2_with fail
      go_region_held3 (fun w' => w'.cell? ⟨gb, p + 4 * k, none⟩ = some (.int .u8 y0) ∧ w'.cell? ⟨gb, p + (4 * k + 1), none⟩ = some (.int .u8 y1) ∧ w'.cell? ⟨gb, p + (4 * k + 2), none⟩ = some (.int .u8 y2) ∧ w'.cell? ⟨gb, p + (4 * k + 3), none⟩ = some (.int .u8 y3)) (first | exact ⟨g0, g1, g2, g3⟩ | go_keep | exact G5) (first | (refine step_append_row (by rfl) _ _ _ _ (by rfl) 3 i0 (.int .i64 0) 1 8 Try.underlying65 HII.out HZ0.out HZ1.out HZ2.out rfl (by omega) _ _ _ (by rfl) ((HI.out.out.row.alloc _).drew) _ (by rfl) 1 [.int .i64 X] (Feeds.slice Try.underlying65 ⟨wr.heap.size, 0, none⟩ 1 1 _ (by rfl) (by simp [Value.oneCell']) (World.news_of_block (cs := #[.int .i64 X]) (t := 3) (fr := (0, 0)) (heap_alloc_new wr _))) (by unfold maxLen; omega) (by omega) (wr.heap.size + 1) (by simp) ?_; intro ao5 cap5 w5 hown5 hgrow5 hat5; have G5 : w5.cell? ⟨gb, p + 4 * k, none⟩ = some (.int .u8 y0) ∧ w5.cell? ⟨gb, p + (4 * k + 1), none⟩ = some (.int .u8 y1) ∧ w5.cell? ⟨gb, p + (4 * k + 2), none⟩ = some (.int .u8 y2) ∧ w5.cell? ⟨gb, p + (4 * k + 3), none⟩ = some (.int .u8 y3) := ⟨((hgrow5.cell_far ⟨gb, _, none⟩ (by simp; omega) hvne).trans (World.cell?_of_block (w := wr) (Below.heap_alloc wr _ gb hgw))).trans g0, ((hgrow5.cell_far ⟨gb, _, none⟩ (by simp; omega) hvne).trans (World.cell?_of_block (w := wr) (Below.heap_alloc wr _ gb hgw))).trans g1, ((hgrow5.cell_far ⟨gb, _, none⟩ (by simp; omega) hvne).trans (World.cell?_of_block (w := wr) (Below.heap_alloc wr _ gb hgw))).trans g2, ((hgrow5.cell_far ⟨gb, _, none⟩ (by simp; omega) hvne).trans (World.cell?_of_block (w := wr) (Below.heap_alloc wr _ gb hgw))).trans g3⟩))
      have HL5 := Lib.hid (Loc.app HI.out.out (((Below.refl _ wr).alloc (Nat.le_refl _) _).drew) hown5 hgrow5 hat5 (by omega))
      clear hown5 hgrow5 hat5 G5 g0 g1 g2 g3 hvne A0 A1 A2 A3 B0 B1 B2 C0 C1 C2
      go_wp2_with fail
      go_roundg j
      case measure => omega
      case rel => exact ⟨k + 1, _, HKJ.out, by go_num, rfl, ⟨by rw [HWD.out]; exact HL5.out⟩⟩
    · obtain rfl : gk = 0 := by omega
      obtain rfl : k = 16 := by omega
      have HI16 := Lib.hid hI
      clear hI hk hk16 HI0
      go_wp2_with fail
      go_loopg [3, 5] 48 (fun j o i wr => ∃ (n : Nat) (v : Value), j + n = 64 ∧ 16 ≤ n ∧ i = .int .i64 (n : Int) ∧ o = v ∧ WrdI w b n v wr)
      case atStart => exact ⟨16, _, by omega, by omega, rfl, rfl, HI16.out⟩
      case round =>
        clear HI16
        obtain ⟨n, v, hk, h16, rfl, hov, hI⟩ := hrel
        have hov := hov.symm
        subst hov
        by_cases hn64 : n < 64
        · obtain ⟨j, rfl⟩ : ∃ j, gk = j + 1 := ⟨gk - 1, by omega⟩
          have hkj : j + (n + 1) = 64 := by omega
          have HKJ := Lib.hid hkj
          have HI := Lib.hid hI
          obtain ⟨g2, cap2, rfl, hc2, hlt2⟩ := hI.out.row.form_pos (by omega)
          have hl := wd_length b n
          have hw := wd_w HB.out n
          have hnx := nextW_late (b := b) hl h16
          have cells := fun q (hq : q < n) => hI.out.row.cells q (.int .i64 ((wd b n).getD q 0)) (by simp [ints, List.getD, hl, hq])
          have c15 := cells (n - 15) (by omega)
          have c2 := cells (n - 2) (by omega)
          have c16 := cells (n - 16) (by omega)
          have c7 := cells (n - 7) (by omega)
          have xs16 : (ints (wd b n))[n - 16]? = some (.int .i64 ((wd b n).getD (n - 16) 0)) := by simp [ints, List.getD, hl, (show n - 16 < n by omega)]
          have xs7 : (ints (wd b n))[n - 7]? = some (.int .i64 ((wd b n).getD (n - 7) 0)) := by simp [ints, List.getD, hl, (show n - 7 < n by omega)]
          have w15 := hw.get (n - 15)
          have w2 := hw.get (n - 2)
          have w16 := hw.get (n - 16)
          have w7 := hw.get (n - 7)
          generalize (wd b n).getD (n - 15) 0 = x15 at c15 w15 hnx
          generalize (wd b n).getD (n - 2) 0 = x2 at c2 w2 hnx
          generalize (wd b n).getD (n - 16) 0 = x16 at c16 w16 hnx xs16
          generalize (wd b n).getD (n - 7) 0 = x7 at c7 w7 hnx xs7
          obtain ⟨j15, hj15⟩ : ∃ q, q = n - 15 := ⟨_, rfl⟩
          obtain ⟨j2, hj2⟩ : ∃ q, q = n - 2 := ⟨_, rfl⟩
          obtain ⟨j16, hj16⟩ : ∃ q, q = n - 16 := ⟨_, rfl⟩
          obtain ⟨j7, hj7⟩ : ∃ q, q = n - 7 := ⟨_, rfl⟩
          rw [← hj15] at c15
          rw [← hj2] at c2
          rw [← hj16] at c16 xs16
          rw [← hj7] at c7 xs7
          have HX16 := Lib.hid xs16
          have HX7 := Lib.hid xs7
          obtain ⟨u0, s0, u1, s1, t0, t1, t2, k1, k2, k3, k4, k5, k6, k7, k8, k9, k10⟩ := chainH w15 w2 w16 w7
          have rR7 := fun W => right_any x15 w15 7 (by omega) (by omega) W
          simp only [Int.cast_ofNat_Int] at rR7
          have R7 := Lib.hid rR7
          clear rR7
          have rR18 := fun W => right_any x15 w15 18 (by omega) (by omega) W
          simp only [Int.cast_ofNat_Int] at rR18
          have R18 := Lib.hid rR18
          clear rR18
          have rR17 := fun W => right_any x2 w2 17 (by omega) (by omega) W
          simp only [Int.cast_ofNat_Int] at rR17
          have R17 := Lib.hid rR17
          clear rR17
          have rR19 := fun W => right_any x2 w2 19 (by omega) (by omega) W
          simp only [Int.cast_ofNat_Int] at rR19
          have R19 := Lib.hid rR19
          clear rR19
          have RL := Lib.hid (fun W => low_any t2 k8 k9 W)
          generalize rr x15 7 = r7 at R7 k1
          generalize rr x15 18 = r18 at R18 k1
          generalize rr x2 17 = r17 at R17 k3
          generalize rr x2 19 = r19 at R19 k3
          rw [k10, ← hnx] at RL
          have hwd : ints (wd b (n + 1)) = ints (wd b n) ++ [.int .i64 (nextW b (wd b n))] := by rw [wd]; simp [ints]
          generalize nextW b (wd b n) = X at RL hwd
          have HWD := Lib.hid hwd
          have e15 : (n : Int) - 15 = (j15 : Int) := by omega
          have e2 : (n : Int) - 2 = (j2 : Int) := by omega
          have e16 : (n : Int) - 16 = (j16 : Int) := by omega
          have e7 : (n : Int) - 7 = (j7 : Int) := by omega
          have b15 : (j15 : Int) < (n : Int) ∧ (0 : Int) ≤ (j15 : Int) ∧ j15 ≤ 1000 := by omega
          have b2 : (j2 : Int) < (n : Int) ∧ (0 : Int) ≤ (j2 : Int) ∧ j2 ≤ 1000 := by omega
          have b16 : (j16 : Int) < (n : Int) ∧ (0 : Int) ≤ (j16 : Int) ∧ j16 ≤ 1000 := by omega
          have b7 : (j7 : Int) < (n : Int) ∧ (0 : Int) ≤ (j7 : Int) ∧ j7 ≤ 1000 := by omega
          obtain ⟨b151, b152, b153⟩ := b15
          obtain ⟨b21, b22, b23⟩ := b2
          obtain ⟨b161, b162, b163⟩ := b16
          obtain ⟨b71, b72, b73⟩ := b7
          have q15 : IntKind.i64.wrap (j15 : Int) = (j15 : Int) := IntWalk.i64_in _ (by omega)
          have q2 : IntKind.i64.wrap (j2 : Int) = (j2 : Int) := IntWalk.i64_in _ (by omega)
          have q16 : IntKind.i64.wrap (j16 : Int) = (j16 : Int) := IntWalk.i64_in _ (by omega)
          have q7 : IntKind.i64.wrap (j7 : Int) = (j7 : Int) := IntWalk.i64_in _ (by omega)
          have u2 : (n : Int) < 64 := by omega
          have hn1000 : n ≤ 1000 := by omega
          obtain ⟨i0, hi, hz0, hz1, hz2⟩ := info_parts infoInt
          have HII := Lib.hid hi
          have HZ0 := Lib.hid hz0
          have HZ1 := Lib.hid hz1
          have HZ2 := Lib.hid hz2
          clear hI hk h16 hn64 hkj hl hw hnx cells xs16 xs7 w15 w2 w16 w7 hj15 hj2 hj16 hj7 k8 k9 k10 hwd hi hz0 hz1 hz2
          go_wp2_with fail
          go_region_held3 (fun w' => w'.cell? ⟨g2, j16, none⟩ = some (.int .i64 x16) ∧ w'.cell? ⟨g2, j7, none⟩ = some (.int .i64 x7)) (first | exact ⟨c16, c7⟩ | go_keep | exact G5) (first | (go_at_call 74; (with_reducible refine (R7.out _).mono ?_); rintro e w' ⟨rfl, nd, rfl⟩) | (go_at_call 74; (with_reducible refine (R18.out _).mono ?_); rintro e w' ⟨rfl, nd, rfl⟩) | (go_at_call 74; (with_reducible refine (R17.out _).mono ?_); rintro e w' ⟨rfl, nd, rfl⟩) | (go_at_call 74; (with_reducible refine (R19.out _).mono ?_); rintro e w' ⟨rfl, nd, rfl⟩) | (go_at_call 75; (with_reducible refine (RL.out _).mono ?_); rintro e w' ⟨rfl, nd, rfl⟩) | (refine step_append_row2 (by rfl) _ _ _ _ (by rfl) 3 i0 (.int .i64 0) 1 8 Try.underlying65 HII.out HZ0.out HZ1.out HZ2.out rfl (by omega) _ _ _ (by rfl) (row_push _ rfl HI.out.out.row) _ (by rfl) 1 [.int .i64 X] (Feeds.slice Try.underlying65 ⟨wr.heap.size, 0, none⟩ 1 1 _ (by rfl) (by simp [Value.oneCell']) (World.news_of_block (cs := #[.int .i64 X]) (t := 3) (fr := (0, 0)) (heap_alloc_new _ _))) (by unfold maxLen; omega) (by omega) (wr.heap.size + 1) (by simp) ?_; intro ao5 cap5 w5 hown5 hgrow5 hat5; have HL5 := Lib.hid (Loc.app HI.out.out (by exact bel_push _ rfl rfl rfl rfl) hown5 hgrow5 (hat5.imp id And.left) (by omega)); have G5 : w5.cell? ⟨g2, j16, none⟩ = some (.int .i64 x16) ∧ w5.cell? ⟨g2, j7, none⟩ = some (.int .i64 x7) := ⟨app_keeps (by exact rfl) rfl hown5 hat5 hlt2 HX16.out c16, app_keeps (by exact rfl) rfl hown5 hat5 hlt2 HX7.out c7⟩; clear hown5 hgrow5 hat5) | fail "x")
          clear G5
          go_wp2_with fail
          go_roundg j
          case measure => omega
          case rel => exact ⟨n + 1, _, HKJ.out, by omega, by go_num, rfl, ⟨by rw [HWD.out]; exact HL5.out⟩⟩
        · obtain rfl : gk = 0 := by omega
          obtain rfl : n = 64 := by omega
          have HI64 := Lib.hid hI.out
          clear hI hk hn64
          go_wp2_with fail
          go_ret
          exact ⟨_, rfl, HI64.out⟩
theorem gap_lt (n : Nat) : gap n < 64 := by unfold gap; omega
theorem gap_at (n : Nat) : (n + 1 + gap n) % 64 = 56 := by unfold gap; omega
theorem gap_before (n k : Nat) (h : k < gap n) : (n + 1 + k) % 64 ≠ 56 := by unfold gap at h; omega
theorem be8_take (n : Int) (k : Nat) (h : k < 8) : (be8 n).take (k + 1) = (be8 n).take k ++ [n / 2 ^ (56 - 8 * k) % 256] := by
  rw [List.take_add_one]
  congr 1
  rw [be8, List.getElem?_map, List.getElem?_range h]
  rfl
set_option maxRecDepth 100000 in
set_option maxHeartbeats 1600000 in
theorem filled_any (s : ByteArray) (hs : s.size ≤ 1000000) (w : World) :
    Calls Try.prog 71 #[.string s] w fun e w' => ∃ v, e = .returned v ∧ Loc w w' 5 1 v (fill (bytesOf s)).length (nums (fill (bytesOf s))) := by
  obtain ⟨i0, hi, hz0, hz1, hz2⟩ := info_parts infoByte
  have HI := Lib.hid hi
  have HZ0 := Lib.hid hz0
  have HZ1 := Lib.hid hz1
  have HZ2 := Lib.hid hz2
  clear hi hz0 hz1 hz2
  have hcv : (convert 9 50 (.string s)).run Try.prog w = .ok (.slice (some ⟨w.heap.size, 0, none⟩) s.size (grownCap w s.size 0 5)) (Lib.bytesWorld w 5 s) := Lib.run_convert_string_bytes (P := Try.prog) w 9 50 5 s Try.underlying9 Try.underlying50 Try.underlying5
  have hrow := Row.bytes w 5 s (by unfold maxLen; omega)
  rw [← nums_bytesOf] at hrow
  have hbel := bytes_below w 5 s
  have hlw := Lib.bytesWorld_size w 5 s
  generalize Lib.bytesWorld w 5 s = W0 at *
  generalize grownCap w s.size 0 5 = cap0 at *
  have hL0 : Loc w W0 5 1 (.slice (some ⟨w.heap.size, 0, none⟩) s.size cap0) s.size (nums (bytesOf s)) := ⟨hrow, hbel, fun g hg => by
    have : w.heap.size = g := by simpa [Value.ownBlock] using hg
    omega⟩
  have HL0 := Lib.hid hL0
  have hlt : w.heap.size < W0.heap.size := by omega
  clear hrow hbel hlw hL0
  go_enter Try.func71, Try.ntmps71
  go_wp2_with (at_builtin; go_must (refine wpList_append_row _ (by rfl) _ _ _ _ (by rfl) 5 i0 (.int .u8 0) 1 1 Try.underlying50 HI.out HZ0.out HZ1.out HZ2.out rfl (by omega) _ _ _ (by rfl) (HL0.out.row.alloc _) _ (by rfl) 1 [.int .u8 128] (Feeds.slice Try.underlying50 ⟨W0.heap.size, 0, none⟩ 1 1 _ rfl (by simp [Value.oneCell']) (World.news_of_block (cs := #[.int .u8 128]) (t := 5) (fr := (0, 0)) (heap_alloc_new W0 _))) (by unfold maxLen; omega) (by omega) (W0.heap.size + 1) (by simp) ?_); intro ao2 cap2 w1 hown1 hgrow hat)
  have hloc := HL0.out.app ((Below.refl _ W0).alloc (Nat.le_refl _) _) hown1 hgrow hat (by omega)
  rw [show nums (bytesOf s) ++ [.int .u8 128] = nums (bytesOf s ++ [128]) by rw [nums_append]; rfl] at hloc
  have HL := Lib.hid hloc
  clear hloc hown1 hgrow hat hcv HL0 hlt
  go_loopg [3] (gap s.size) (fun j b wr => ∃ (k : Nat) (v : Value), j + k = gap s.size ∧ b = v ∧ Loc w wr 5 1 v (s.size + 1 + k) (nums (bytesOf s ++ [128] ++ List.replicate k 0)))
  case atStart => exact ⟨0, _, rfl, rfl, by simpa using HL.out⟩
  case round =>
    obtain ⟨k, v, hk, rfl, hA⟩ := hrel
    obtain ⟨m, hm⟩ : ∃ m, m = s.size + 1 + k := ⟨_, rfl⟩
    rw [← hm] at hA
    have hg := gap_lt s.size
    have hm1 : m ≤ 1000100 := by omega
    obtain ⟨ao, cap, rfl, hcap⟩ := hA.row.form
    by_cases hlt : k < gap s.size
    · have hne := gap_before s.size k hlt
      rw [← hm] at hne
      have ht : ((m : Int) % 64 != 56) = true := by simp; omega
      have HA := Lib.hid hA
      have HM := Lib.hid hm
      clear hA hm hne
      go_wp2_with (at_builtin; go_must (refine wpList_append_row _ (by rfl) _ _ _ _ (by rfl) 5 i0 (.int .u8 0) 1 1 Try.underlying50 HI.out HZ0.out HZ1.out HZ2.out rfl (by omega) _ _ _ (by rfl) (HA.out.row.alloc _) _ (by rfl) 1 [.int .u8 0] (Feeds.slice Try.underlying50 ⟨wr.heap.size, 0, none⟩ 1 1 _ rfl (by simp [Value.oneCell']) (World.news_of_block (cs := #[.int .u8 0]) (t := 5) (fr := (0, 0)) (heap_alloc_new wr _))) (by unfold maxLen; omega) (by omega) (wr.heap.size + 1) (by simp) ?_); intro ao3 cap3 w3 hown3 hgrow3 hat3)
      have hloc := HA.out.app ((Below.refl _ wr).alloc (Nat.le_refl _) _) hown3 hgrow3 hat3 (by omega)
      rw [show nums (bytesOf s ++ [128] ++ List.replicate k 0) ++ [.int .u8 0] = nums (bytesOf s ++ [128] ++ List.replicate (k + 1) 0) by rw [List.replicate_succ', ← List.append_assoc, nums_append _ [0]]; rfl, show m + 1 = s.size + 1 + (k + 1) by rw [HM.out]; omega] at hloc
      have HS := Lib.hid hloc
      have e1 : m + 1 = s.size + 1 + (k + 1) := by rw [HM.out]; omega
      clear hloc hown3 hgrow3 hat3
      go_roundg (gk - 1)
      case measure => omega
      case rel => exact ⟨k + 1, _, by omega, by rw [e1], HS.out⟩
    · obtain rfl : k = gap s.size := by omega
      have hga := gap_at s.size
      rw [← hm] at hga
      have ht : ((m : Int) % 64 != 56) = false := by simp; omega
      have HA := Lib.hid hA
      have HM := Lib.hid hm
      obtain ⟨B, hB⟩ : ∃ B : Int, B = 8 * (s.size : Int) := ⟨_, rfl⟩
      have hB0 : 0 ≤ B := by omega
      have hB1 : B ≤ 8000000 := by omega
      have HBB := Lib.hid hB
      have hB' := hB.symm
      clear hA hm hga hlt hk hB
      go_wp2
      obtain ⟨ys, hys⟩ : ∃ ys, ys = bytesOf s ++ [128] ++ List.replicate (gap s.size) 0 := ⟨_, rfl⟩
      have hA2 := HA.out
      rw [← hys] at hA2
      have HA2 := Lib.hid hA2
      have HYS := Lib.hid hys
      clear HA hA2 hys
      go_loopg [3, 5] 8 (fun j b sh wr => ∃ (k : Nat) (v : Value), j + k = 8 ∧ b = v ∧ sh = .int .i64 (56 - 8 * (k : Int)) ∧ Loc w wr 5 1 v (m + k) (nums (ys ++ (be8 B).take k)))
      case atStart => exact ⟨0, _, rfl, rfl, rfl, by simpa using HA2.out⟩
      case round =>
        obtain ⟨k, v, hk, rfl, rfl, hA⟩ := hrel
        obtain ⟨n, hn⟩ : ∃ n, n = m + k := ⟨_, rfl⟩
        rw [← hn] at hA
        have hn1 : n ≤ 1000200 := by omega
        obtain ⟨sh, hsh⟩ : ∃ sh : Int, sh = 56 - 8 * (k : Int) := ⟨_, rfl⟩
        rw [← hsh]
        obtain ⟨ao, cap, rfl, hcap⟩ := hA.row.form
        have HA := Lib.hid hA
        have HN := Lib.hid hn
        by_cases hlt : k < 8
        · have h0 : 0 ≤ sh := by omega
          have h56 : sh ≤ 56 := by omega
          have hmin : sh.toNat = 56 - 8 * k := by omega
          have HSH := Lib.hid hsh
          have HK := Lib.hid hlt
          have HMIN := Lib.hid hmin
          obtain ⟨y, hy⟩ : ∃ y, y = B / 2 ^ sh.toNat := ⟨_, rfl⟩
          have hy' := hy.symm
          have HY := Lib.hid hy
          clear hA hn hsh hlt hmin hy
          go_wp2_with (at_builtin; go_must (refine wpList_append_row _ (by rfl) _ _ _ _ (by rfl) 5 i0 (.int .u8 0) 1 1 Try.underlying50 HI.out HZ0.out HZ1.out HZ2.out rfl (by omega) _ _ _ (by rfl) (HA.out.row.alloc _) _ (by rfl) 1 [.int .u8 (y % 256)] (Feeds.slice Try.underlying50 ⟨wr.heap.size, 0, none⟩ 1 1 _ rfl (by simp [Value.oneCell']) (World.news_of_block (cs := #[.int .u8 (y % 256)]) (t := 5) (fr := (0, 0)) (heap_alloc_new wr _))) (by unfold maxLen; omega) (by omega) (wr.heap.size + 1) (by simp) ?_); intro ao4 cap4 w4 hown4 hgrow4 hat4)
          have hloc := HA.out.app ((Below.refl _ wr).alloc (Nat.le_refl _) _) hown4 hgrow4 hat4 (by omega)
          rw [show nums (ys ++ (be8 B).take k) ++ [.int .u8 (y % 256)] = nums (ys ++ (be8 B).take (k + 1)) by rw [be8_take B k HK.out, ← List.append_assoc, nums_append _ [_], HY.out, HMIN.out]; rfl, show n + 1 = m + (k + 1) by rw [HN.out]; omega] at hloc
          have HS := Lib.hid hloc
          have e1 : n + 1 = m + (k + 1) := by rw [HN.out]; omega
          have e2 : sh - 8 = 56 - 8 * ((k + 1 : Nat) : Int) := by rw [HSH.out]; omega
          clear hloc hown4 hgrow4 hat4 hy'
          go_roundg (gk - 1)
          case measure => omega
          case rel => exact ⟨k + 1, _, by omega, by rw [e1], by rw [e2], HS.out⟩
        · obtain rfl : k = 8 := by omega
          have h0 : sh < 0 := by omega
          clear hA hn hsh hlt
          go_wp2
          go_ret
          have hfin := HA.out
          have hl : (be8 B).length = 8 := by simp [be8]
          rw [List.take_of_length_le (by omega), HYS.out] at hfin
          have hfl : fill (bytesOf s) = bytesOf s ++ [128] ++ List.replicate (gap s.size) 0 ++ be8 B := by rw [fill, bytesOf_length, HBB.out]
          have hn8 : n = (fill (bytesOf s)).length := by
            rw [hfl]
            have := HN.out
            have := HM.out
            simp [bytesOf_length, hl]
            omega
          refine ⟨_, rfl, ?_⟩
          rw [← hfl] at hfin
          rw [← hn8]
          exact hfin
end Go.Proofs.Ythobfbiobnmceaa.B
namespace Go.Proofs.Ythobfbiobnmceaa.B
open Go.RowKit
set_option linter.unusedVariables false
/-- The blocks of the document's Sum behind m blocks of the text. -/
structure SumI (w : World) (gh gb gq : Nat) (fb : List Int) (m : Nat) (W : World) : Prop where
  bel : Below w.heap.size w W
  hh : W.heap[gh]? = some (.cells (ints (shaN fb m)).toArray 3 (0, 0))
  bb : ∀ j, j < fb.length → W.cell? ⟨gb, j, none⟩ = some (.int .u8 (fb.getD j 0))
  kk : ∀ j, j < 64 → W.cell? ⟨gq, j, none⟩ = some (.int .i64 (shaK.getD j 0))
  lb : gb < W.heap.size
  lk : gq < W.heap.size
  gt : w.heap.size ≤ gh
  nb : gb ≠ gh
  nk : gq ≠ gh
theorem SumI.below {w : World} {gh gb gq : Nat} {fb : List Int} {m : Nat} {W W1 : World} (h : SumI w gh gb gq fb m W) (hb : Below W.heap.size W W1) : SumI w gh gb gq fb m W1 :=
  ⟨h.bel.trans (hb.mono h.bel.size), (hb.block _ (blk_lt h.hh)).trans h.hh, fun j hj => (hb.cell (p := ⟨gb, j, none⟩) h.lb).trans (h.bb j hj), fun j hj => (hb.cell (p := ⟨gq, j, none⟩) h.lk).trans (h.kk j hj), Nat.lt_of_lt_of_le h.lb hb.size, Nat.lt_of_lt_of_le h.lk hb.size, h.gt, h.nb, h.nk⟩
/-- The rounds: x leads to the eight words behind n of them. -/
structure RndI (w4 : World) (gh : Nat) (ws H : List Int) (gx capx n : Nat) (W : World) : Prop where
  bel : Below w4.heap.size w4 W
  lt : gx < W.heap.size
  cap : 8 ≤ capx
  ne : gx ≠ gh
  xx : ∀ c, c < 8 → W.cell? ⟨gx, c, none⟩ = some (.int .i64 ((rnds ws H n).getD c 0))
theorem eight (l : List Int) (h : l.length = 8) : ∃ x0 x1 x2 x3 x4 x5 x6 x7, l = [x0, x1, x2, x3, x4, x5, x6, x7] := by
  match l, h with
  | [x0, x1, x2, x3, x4, x5, x6, x7], _ => exact ⟨_, _, _, _, _, _, _, _, rfl⟩
/-- The state's words are added one by one: c of them are done. -/
structure AddI (W5 : World) (gh : Nat) (H X : List Int) (c : Nat) (W : World) : Prop where
  keep : Keeps (fun i => i = gh) W5 W
  blk : W.heap[gh]? = some (.cells (ints ((adds H X).take c ++ H.drop c)).toArray 3 (0, 0))
theorem adds_length {H X : List Int} (h : H.length = 8) (x : X.length = 8) : (adds H X).length = 8 := by rw [adds, List.length_zipWith, h, x]; rfl
theorem adds_get {H X : List Int} (h : H.length = 8) (x : X.length = 8) (c : Nat) (hc : c < 8) : (adds H X).getD c 0 = (H.getD c 0 + X.getD c 0) % 4294967296 := by
  have hl := adds_length h x
  rw [List.getD, List.getElem?_eq_getElem (by omega), Option.getD_some]
  simp [adds, List.getD, List.getElem?_eq_getElem (show c < H.length by omega), List.getElem?_eq_getElem (show c < X.length by omega)]
theorem AddI.at_ {W5 W : World} {gh : Nat} {H X : List Int} {c : Nat} (h : AddI W5 gh H X c W) (hH : H.length = 8) (hX : X.length = 8) (hc : c < 8) : W.cell? ⟨gh, c, none⟩ = some (.int .i64 (H.getD c 0)) := by
  have hl := adds_length hH hX
  rw [blk_cell h.blk c, List.getElem?_toArray, ints, List.getElem?_map, List.getElem?_append_right (by simp; omega)]
  simp [hl, Nat.min_eq_left (show c ≤ 8 by omega), List.getD, List.getElem?_eq_getElem (show c < H.length by omega)]
theorem AddI.put {W5 W : World} {gh : Nat} {H X : List Int} {c : Nat} (h : AddI W5 gh H X c W) (hH : H.length = 8) (hX : X.length = 8) (hc : c < 8) (y : Int) (hy : y = (adds H X).getD c 0) : AddI W5 gh H X (c + 1) (W.setCell ⟨gh, c, none⟩ (.int .i64 y)) := by
  have hl := adds_length hH hX
  refine ⟨h.keep.setCell (fun _ => rfl) _, ?_⟩
  rw [blk_set h.blk]
  congr 2
  simp only [ints, List.setIfInBounds_toArray]
  congr 1
  rw [show (Value.int .i64 y) = (fun x => Value.int .i64 x) y from rfl, ← List.map_set]
  congr 1
  have h1 : ((adds H X).take c).length = c := by simp; omega
  rw [List.set_append_right _ _ (by omega), h1, Nat.sub_self, List.drop_eq_getElem_cons (show c < H.length by omega), List.set_cons_zero, hy, ← List.take_append_getElem (show c < (adds H X).length by omega), List.append_assoc]
  simp [List.getD, List.getElem?_eq_getElem (show c < (adds H X).length by omega)]
theorem AddI.drew {W5 W : World} {gh : Nat} {H X : List Int} {c : Nat} (h : AddI W5 gh H X c W) : AddI W5 gh H X c W.drew := ⟨h.keep.drew, h.blk⟩
theorem SumI.turned {w W5 W : World} {gh gb gq : Nat} {fb bl H X : List Int} {m : Nat} (h : SumI w gh gb gq fb m W5) (hH : H = shaN fb m) (hb : bl = (fb.drop (64 * m)).take 64) (hX : X = rnds (wd bl 64) H 64) (hA : AddI W5 gh H X 8 W) : SumI w gh gb gq fb (m + 1) W := by
  have h8 : H.length = 8 := by rw [hH, shaN_length]
  have x8 : X.length = 8 := by rw [hX, rnds_length h8]
  have hblk := hA.blk
  rw [List.take_of_length_le (by rw [adds_length h8 x8]; omega), List.drop_of_length_le (by omega), List.append_nil, hX, hb, hH] at hblk
  refine ⟨h.bel.trans (hA.keep.below h.bel.size (by intro i hi he; have := h.gt; omega)), hblk, fun j hj => ?_, fun j hj => ?_, Nat.lt_of_lt_of_le h.lb hA.keep.size, Nat.lt_of_lt_of_le h.lk hA.keep.size, h.gt, h.nb, h.nk⟩
  · exact (hA.keep.cell (p := ⟨gb, j, none⟩) h.lb h.nb).trans (h.bb j hj)
  · exact (hA.keep.cell (p := ⟨gq, j, none⟩) h.lk h.nk).trans (h.kk j hj)
/-- The first sum of a round, as the document reckons it. -/
theorem tSum {x4 x5 x6 x7 k v : Int} (h4 : W32 x4) (h5 : W32 x5) (h6 : W32 x6) (h7 : W32 x7) (hk : W32 k) (hv : W32 v) :
    ∃ y1 y2 s1 y3 y4 y5 y6 s2 s3 t : Int, bits .xor .i64 (rr x4 6) (rr x4 11) = y1 ∧ bits .xor .i64 y1 (rr x4 25) = y2 ∧ IntKind.i64.wrap (x7 + y2) = s1 ∧ bits .and .i64 x4 x5 = y3 ∧ IntKind.i64.wrap (4294967295 - x4) = y4 ∧ bits .and .i64 y4 x6 = y5 ∧ bits .xor .i64 y3 y5 = y6 ∧
      IntKind.i64.wrap (s1 + y6) = s2 ∧ IntKind.i64.wrap (s2 + k) = s3 ∧ IntKind.i64.wrap (s3 + v) = t ∧ t = x7 + bs1 x4 + chs x4 x5 x6 + k + v ∧ 0 ≤ t ∧ t < 21474836480 := by
  have a := bs1_w h4
  have b := chs_w h4 h5 h6
  have c4 : W32 (4294967295 - x4) := by unfold W32 at *; omega
  refine ⟨_, _, _, _, _, _, _, _, _, _, rfl, rfl, rfl, rfl, rfl, rfl, rfl, rfl, rfl, rfl, ?_⟩
  rw [xor_i64 (rr_w h4 (by omega)) (rr_w h4 (by omega)), xor_i64 (xr_w (rr_w h4 (by omega)) (rr_w h4 (by omega))) (rr_w h4 (by omega)), and_i64 h4 h5, wraps_i64 (4294967295 - x4) c4.1 (by unfold W32 at *; omega), and_i64 c4 h6, xor_i64 (an_w h4 h5) (an_w c4 h6)]
  rw [show xr (xr (rr x4 6) (rr x4 11)) (rr x4 25) = bs1 x4 from rfl, show xr (an x4 x5) (an (4294967295 - x4) x6) = chs x4 x5 x6 from rfl]
  generalize bs1 x4 = p at *
  generalize chs x4 x5 x6 = q at *
  unfold W32 at *
  rw [wraps_i64 (x7 + p) (by omega) (by omega), wraps_i64 (x7 + p + q) (by omega) (by omega), wraps_i64 (x7 + p + q + k) (by omega) (by omega), wraps_i64 (x7 + p + q + k + v) (by omega) (by omega)]
  omega
theorem uSum {x0 x1 x2 : Int} (h0 : W32 x0) (h1 : W32 x1) (h2 : W32 x2) :
    ∃ y1 y2 y3 y4 y5 y6 y7 u : Int, bits .xor .i64 (rr x0 2) (rr x0 13) = y1 ∧ bits .xor .i64 y1 (rr x0 22) = y2 ∧ bits .and .i64 x0 x1 = y3 ∧ bits .and .i64 x0 x2 = y4 ∧ bits .xor .i64 y3 y4 = y5 ∧ bits .and .i64 x1 x2 = y6 ∧ bits .xor .i64 y5 y6 = y7 ∧ IntKind.i64.wrap (y2 + y7) = u ∧
      u = bs0 x0 + mjs x0 x1 x2 ∧ 0 ≤ u ∧ u < 8589934592 := by
  have a := bs0_w h0
  have b := mjs_w h0 h1 h2
  refine ⟨_, _, _, _, _, _, _, _, rfl, rfl, rfl, rfl, rfl, rfl, rfl, rfl, ?_⟩
  rw [xor_i64 (rr_w h0 (by omega)) (rr_w h0 (by omega)), xor_i64 (xr_w (rr_w h0 (by omega)) (rr_w h0 (by omega))) (rr_w h0 (by omega)), and_i64 h0 h1, and_i64 h0 h2, and_i64 h1 h2, xor_i64 (an_w h0 h1) (an_w h0 h2), xor_i64 (xr_w (an_w h0 h1) (an_w h0 h2)) (an_w h1 h2)]
  rw [show xr (xr (rr x0 2) (rr x0 13)) (rr x0 22) = bs0 x0 from rfl, show xr (xr (an x0 x1) (an x0 x2)) (an x1 x2) = mjs x0 x1 x2 from rfl]
  generalize bs0 x0 = p at *
  generalize mjs x0 x1 x2 = q at *
  unfold W32 at *
  rw [wraps_i64 (p + q) (by omega) (by omega)]
  omega
set_option maxRecDepth 100000 in
set_option maxHeartbeats 6400000 in
theorem refSum_any (s : ByteArray) (hs : s.size ≤ 1000000) (w : World) :
    Calls Try.prog 58 #[.string s] w fun e w' => e = .returned (.string (strOfNums (sha (bytesOf s)))) ∧ Below w.heap.size w w' := by
  obtain ⟨fb, hfb⟩ : ∃ fb, fb = fill (bytesOf s) := ⟨_, rfl⟩
  have hbs : Bs fb := by rw [hfb]; exact fill_b (bytesOf_range s)
  obtain ⟨M, hM⟩ : ∃ M, M = (s.size + 72) / 64 := ⟨_, rfl⟩
  have hlen : fb.length = 64 * M := by rw [hfb, fill_length, bytesOf_length, ← hM]
  have hM1 : M ≤ 20000 := by omega
  have HFB := Lib.hid hfb
  have HBS := Lib.hid hbs
  have HLEN := Lib.hid hlen
  have HM := Lib.hid hM
  clear hfb hbs hlen hM
  go_enter Try.func58, Try.ntmps58
  go_wp2_with fail
  refine (filled_any s hs _).mono ?_
  rintro e w1 ⟨v, rfl, hL⟩
  rw [← HFB.out] at hL
  have h0 : 0 < fb.length := by rw [HLEN.out, HM.out]; omega
  obtain ⟨gb, capb, rfl, hcb, hgb⟩ := hL.row.form_pos h0
  have HL := Lib.hid hL
  clear hL
  go_wp2_with fail
  refine (keys_any _).mono ?_
  rintro e w2 ⟨v, rfl, hK⟩
  obtain ⟨gq, capk, rfl, hck, hgk⟩ := hK.row.form_pos (by decide)
  have hI : SumI w w.heap.size gb gq fb 0 w2 := by
    have hb1 := HL.out.below
    have hz : (w.alloc (.cells #[.int .i64 1779033703, .int .i64 3144134277, .int .i64 1013904242, .int .i64 2773480762, .int .i64 1359893119, .int .i64 2600822924, .int .i64 528734635, .int .i64 1541459225] 3)).heap.size = w.heap.size + 1 := by simp
    have hs1 := hb1.size
    have hs2 := hK.below.size
    have hgb2 := HL.out.base gb rfl
    have hgk2 := hK.base gq rfl
    refine ⟨?_, ?_, fun j hj => ?_, fun j hj => ?_, by omega, hgk, Nat.le_refl _, by omega, by omega⟩
    · exact ((Below.refl _ w).alloc (Nat.le_refl _) _).trans ((hb1.mono (by omega)).trans (hK.below.mono (by omega)))
    · exact (hK.below.block _ (by omega)).trans ((hb1.block _ (by omega)).trans (heap_alloc_new w _))
    · rw [hK.below.cell (p := ⟨gb, j, none⟩) (by simpa using hgb)]
      exact HL.out.row.cells j _ (by simp [nums, List.getElem?_eq_getElem hj, List.getD])
    · exact hK.row.cells j _ (by simp [ints, List.getElem?_eq_getElem (show j < shaK.length from hj), List.getD])
  have HI := Lib.hid hI
  clear hK HL hI hgk hgb
  obtain ⟨gh, hgh⟩ : ∃ gh, gh = w.heap.size := ⟨_, rfl⟩
  have HI2 := HI.out
  rw [← hgh] at HI2 ⊢
  have HI := Lib.hid HI2
  clear HI2 hgh
  obtain ⟨N, hN⟩ : ∃ N, N = fb.length := ⟨_, rfl⟩
  have hN2 : N = 64 * M := by rw [hN, HLEN.out]
  rw [← hN] at hcb h0 ⊢
  have HN := Lib.hid hN
  have HN2 := Lib.hid hN2
  have hNM : N ≤ 1280000 := by omega
  clear hN hN2
  go_wp2_with fail
  go_loopg [6] M (fun j at_ wr => ∃ m : Nat, j + m = M ∧ at_ = .int .i64 ((64 * m : Nat) : Int) ∧ SumI w gh gb gq fb m wr)
  case atStart => exact ⟨0, rfl, rfl, HI.out⟩
  case round =>
    obtain ⟨m, hm, rfl, hI⟩ := hrel
    have HI := Lib.hid hI
    clear hI
    obtain ⟨p, hp⟩ : ∃ p, p = 64 * m := ⟨_, rfl⟩
    rw [← hp]
    by_cases hlt : m < M
    · have hpN : p + 64 ≤ N := by rw [HN2.out]; omega
      have HP := Lib.hid hp
      clear hp
      have q1 : (p : Int) < (N : Int) := by omega
      have q2 : (p : Int) + 64 ≤ (capb : Int) := by omega
      have q3 : (0 : Int) ≤ (p : Int) := by omega
      obtain ⟨bl, hbl⟩ : ∃ bl, bl = (fb.drop (64 * m)).take 64 := ⟨_, rfl⟩
      have hbll : bl.length = 64 := by rw [hbl, List.length_take, List.length_drop, ← HN.out, ← HP.out]; omega
      have hblb : Bs bl := by rw [hbl]; exact (HBS.out.drop _).take _
      have hblg : ∀ j, j < 64 → wr.cell? ((⟨gb, p, none⟩ : Addr).add j) = some (.int .u8 (bl.getD j 0)) := by
        intro j hj
        rw [Addr.add_mid, HI.out.bb (p + j) (by rw [← HN.out]; omega), hbl, ← HP.out]
        simp [List.getD, List.getElem?_drop, hj]
      have HBL := Lib.hid hbl
      have HBLL := Lib.hid hbll
      have HBLB := Lib.hid hblb
      have HBLG := Lib.hid hblg
      clear hbl hbll hblb hblg
      go_wp2_with fail
      refine (words_any bl HBLB.out HBLL.out gb p (capb - p) (by omega) _ HBLG.out).mono ?_
      rintro e w3 ⟨v, rfl, hW⟩
      obtain ⟨gw, capw, rfl, hcw, hgw⟩ := hW.row.form_pos (by decide)
      have HI3 := Lib.hid (HI.out.below hW.below)
      have hgwb := hW.base gw rfl
      have hwne : gw ≠ gh := by have := blk_lt HI.out.hh; omega
      have hwc : ∀ j, j < 64 → w3.cell? ⟨gw, j, none⟩ = some (.int .i64 ((wd bl 64).getD j 0)) := fun j hj => hW.row.cells j _ (by
        simp [ints, List.getElem?_eq_getElem (show j < (wd bl 64).length by rw [wd_length]; exact hj), List.getD])
      have HWC := Lib.hid hwc
      clear hW hwc hgwb
      have hH8 := shaN_length fb m
      have hHW := shaN_w fb m
      obtain ⟨H, hH⟩ : ∃ H, H = shaN fb m := ⟨_, rfl⟩
      rw [← hH] at hH8 hHW
      have hhc := HI3.out.hh
      rw [← hH] at hhc
      obtain ⟨ws, hws⟩ : ∃ ws, ws = wd bl 64 := ⟨_, rfl⟩
      have hwc := HWC.out
      rw [← hws] at hwc
      have hwW : Ws ws := by rw [hws]; exact wd_w HBLB.out 64
      have HH8 := Lib.hid hH8
      have HHW := Lib.hid hHW
      have HHC := Lib.hid hhc
      have HH := Lib.hid hH
      have HWS := Lib.hid hws
      have HWW := Lib.hid hwW
      have HWC := Lib.hid hwc
      obtain ⟨i0, hi, hz0, hz1, hz2⟩ := info_parts infoInt
      have HII := Lib.hid hi
      have HZ0 := Lib.hid hz0
      have HZ1 := Lib.hid hz1
      have HZ2 := Lib.hid hz2
      have hfeed : Feeds Try.prog 65 1 (w3.alloc (.cells #[] 3 (0, 0))) (.slice (some ⟨gh, 0, none⟩) 8 8) 8 (ints H) := by
        refine Feeds.slice Try.underlying65 _ 8 8 _ (by rw [ints_length, hH8]) (ints_oneCell _) (fun j u hj => ?_)
        rw [Addr.add_mid, Nat.zero_add, blk_cell (get_below hhc), List.getElem?_toArray]
        exact hj
      have HFE := Lib.hid hfeed
      clear hH8 hHW hhc hH hws hwW hwc hi hz0 hz1 hz2 hfeed
      go_wp2_with (at_builtin; go_must (refine wpList_append_row _ (by rfl) _ _ _ _ (by rfl) 3 i0 (.int .i64 0) 1 8 Try.underlying65 HII.out HZ0.out HZ1.out HZ2.out rfl (by omega) _ _ _ (by rfl) (Row.lit (get_top rfl) 0 rfl (by unfold maxLen; omega)) _ (by rfl) 8 (ints H) HFE.out (by unfold maxLen; omega) (by omega) (w3.heap.size + 1) (by simp) ?_); intro ao4 cap4 w4 hown4 hgrow4 hat4)
      have hB4 : Below w3.heap.size w3 w4 := ((Below.refl _ w3).alloc (Nat.le_refl _) _).grown hgrow4 (by simp) (fun k hk => by
        have : w3.heap.size = k := by simpa [Value.ownBlock] using hk
        omega)
      rw [Nat.zero_add, List.nil_append] at hown4
      obtain ⟨gx, capx, hsl, hcx, hgx⟩ := hown4.form_pos (by decide)
      have hax : ao4 = some ⟨gx, 0, none⟩ ∧ cap4 = capx := by simpa using hsl
      obtain ⟨rfl, rfl⟩ := hax
      have HI4 := Lib.hid (HI3.out.below hB4)
      have hw4 : ∀ j, j < 64 → w4.cell? ⟨gw, j, none⟩ = some (.int .i64 (ws.getD j 0)) := fun j hj => (hB4.cell (p := ⟨gw, j, none⟩) hgw).trans (HWC.out j hj)
      have HW4 := Lib.hid hw4
      have hgw4 : gw < w4.heap.size := Nat.lt_of_lt_of_le hgw hB4.size
      have hxne : gx ≠ gh := by
        have := blk_lt HI3.out.hh
        rcases hat4 with h | h
        · have : gx = w3.heap.size := by simpa [Value.ownBlock] using h
          omega
        · have : gx = w3.heap.size + 1 := by simpa [Value.ownBlock] using h
          omega
      have hRI : RndI w4 gh ws H gx cap4 0 w4 := ⟨Below.refl _ _, hgx, hcx, hxne, fun c hc => hown4.cells c _ (by
        have := HH8.out
        simp [rnds, ints, List.getElem?_eq_getElem (show c < H.length by omega), List.getD])⟩
      have HRI := Lib.hid hRI
      clear hown4 hgrow4 hat4 hB4 hRI hw4 hsl hxne hgx hcx HFE HHC HI3 HWC
      go_loopg [8, 9] 64 (fun j x i wr => ∃ (n gx capx : Nat), j + n = 64 ∧ x = .slice (some ⟨gx, 0, none⟩) 8 capx ∧ i = .int .i64 (n : Int) ∧ RndI w4 gh ws H gx capx n wr)
      case atStart => exact ⟨0, gx, cap4, rfl, rfl, rfl, HRI.out⟩
      case round =>
        clear HRI
        obtain ⟨n, gx, capx, hn, rfl, rfl, hR⟩ := hrel
        have HR := Lib.hid hR
        clear hR
        by_cases hn64 : n < 64
        · obtain ⟨x0, x1, x2, x3, x4, x5, x6, x7, hx⟩ := eight (rnds ws H n) (rnds_length HH8.out ws n)
          have hxw := rnds_w HHW.out ws n
          rw [hx] at hxw
          have v0 := hxw x0 (by simp)
          have v1 := hxw x1 (by simp)
          have v2 := hxw x2 (by simp)
          have v3 := hxw x3 (by simp)
          have v4 := hxw x4 (by simp)
          have v5 := hxw x5 (by simp)
          have v6 := hxw x6 (by simp)
          have v7 := hxw x7 (by simp)
          obtain ⟨kk, hkk⟩ : ∃ kk, kk = shaK.getD n 0 := ⟨_, rfl⟩
          obtain ⟨vv, hvv⟩ : ∃ vv, vv = ws.getD n 0 := ⟨_, rfl⟩
          have hkw : W32 kk := by rw [hkk]; exact Ws.get (by unfold Ws W32; decide) n
          have hvw : W32 vv := by rw [hvv]; exact HWW.out.get n
          have ck : wr.cell? ⟨gq, n, none⟩ = some (.int .i64 kk) := by rw [hkk]; exact (HR.out.bel.cell (p := ⟨gq, n, none⟩) HI4.out.lk).trans (HI4.out.kk n hn64)
          have cw : wr.cell? ⟨gw, n, none⟩ = some (.int .i64 vv) := by rw [hvv]; exact (HR.out.bel.cell (p := ⟨gw, n, none⟩) hgw4).trans (HW4.out n hn64)
          have cx := HR.out.xx
          rw [hx] at cx
          have c0 := cx 0 (by omega)
          have c1 := cx 1 (by omega)
          have c2 := cx 2 (by omega)
          have c3 := cx 3 (by omega)
          have c4 := cx 4 (by omega)
          have c5 := cx 5 (by omega)
          have c6 := cx 6 (by omega)
          have c7 := cx 7 (by omega)
          simp only [List.getD_cons_zero, List.getD_cons_succ] at c0 c1 c2 c3 c4 c5 c6 c7
          obtain ⟨y1, y2, s1, y3, y4, y5, y6, s2, s3, tt, e1, e2, e3, e4, e5, e6, e7, e8, e9, e10, htt, ht0, ht1⟩ := tSum v4 v5 v6 v7 hkw hvw
          have HTT := Lib.hid htt
          have HX := Lib.hid hx
          have HKK := Lib.hid hkk
          have HVV := Lib.hid hvv
          have A4 := Lib.hid v4
          have A0 := Lib.hid v0
          have HVS := Lib.hid (⟨v0, v1, v2, v3, v4, v5, v6, v7⟩ : W32 x0 ∧ W32 x1 ∧ W32 x2 ∧ W32 x3 ∧ W32 x4 ∧ W32 x5 ∧ W32 x6 ∧ W32 x7)
          have r6 := right_any x4 v4 6 (by omega) (by omega)
          have r11 := right_any x4 v4 11 (by omega) (by omega)
          have r25 := right_any x4 v4 25 (by omega) (by omega)
          simp only [Int.cast_ofNat_Int] at r6 r11 r25
          have R6 := Lib.hid r6
          have R11 := Lib.hid r11
          have R25 := Lib.hid r25
          have q4 : (n : Int) < 64 := by omega
          have q5 : (0 : Int) ≤ (n : Int) := by omega
          have T0 := Lib.hid ht0
          have T1 := Lib.hid ht1
          clear htt hx hkk hvv v0 v1 v2 v3 v4 v5 v6 v7 hxw hkw hvw cx r6 r11 r25 ht0 ht1
          go_wp2_with fail
          go_quiet ((first | (go_at_call 74; (with_reducible refine (R6.out _).mono ?_); rintro e w' ⟨rfl, nd, rfl⟩; exact ⟨rfl, _, World.drewN_drewN _ _ _⟩) | (go_at_call 74; (with_reducible refine (R11.out _).mono ?_); rintro e w' ⟨rfl, nd, rfl⟩; exact ⟨rfl, _, World.drewN_drewN _ _ _⟩) | (go_at_call 74; (with_reducible refine (R25.out _).mono ?_); rintro e w' ⟨rfl, nd, rfl⟩; exact ⟨rfl, _, World.drewN_drewN _ _ _⟩)))
          obtain ⟨W1, hW1⟩ : ∃ W1, wr.drewN nq = W1 := ⟨_, rfl⟩
          have hR1 : RndI w4 gh ws H gx capx n W1 := by
            rw [← hW1]
            exact ⟨bdrewN HR.out.bel nq, HR.out.lt, HR.out.cap, HR.out.ne, HR.out.xx⟩
          have c0 := hR1.xx 0 (by omega)
          have c1 := hR1.xx 1 (by omega)
          have c2 := hR1.xx 2 (by omega)
          have c3 := hR1.xx 3 (by omega)
          have c4 := hR1.xx 4 (by omega)
          have c5 := hR1.xx 5 (by omega)
          have c6 := hR1.xx 6 (by omega)
          rw [HX.out] at c0 c1 c2 c3 c4 c5 c6
          simp only [List.getD_cons_zero, List.getD_cons_succ] at c0 c1 c2 c3 c4 c5 c6
          have HR1 := Lib.hid hR1
          rw [hW1]
          clear hW1 hR1 HR e1 e2 e3 e4 e5 e6 e7 e8 e9 e10 ck cw R6 R11 R25
          obtain ⟨v0, v1, v2, v3, v4, v5, v6, v7⟩ := HVS.out
          obtain ⟨z1, z2, z3, z4, z5, z6, z7, uu, e1, e2, e3, e4, e5, e6, e7, e8, huu, hu0, hu1⟩ := uSum v0 v1 v2
          have HUU := Lib.hid huu
          have r2 := right_any x0 v0 2 (by omega) (by omega)
          have r13 := right_any x0 v0 13 (by omega) (by omega)
          have r22 := right_any x0 v0 22 (by omega) (by omega)
          simp only [Int.cast_ofNat_Int] at r2 r13 r22
          have R2 := Lib.hid r2
          have R13 := Lib.hid r13
          have R22 := Lib.hid r22
          have U0 := Lib.hid hu0
          have U1 := Lib.hid hu1
          clear r2 r13 r22 huu hu0 hu1 v0 v1 v2 v3 v4 v5 v6 v7
          go_wp2_with fail
          go_quiet ((first | (go_at_call 74; (with_reducible refine (R2.out _).mono ?_); rintro e w' ⟨rfl, nd, rfl⟩; exact ⟨rfl, _, World.drewN_drewN _ _ _⟩) | (go_at_call 74; (with_reducible refine (R13.out _).mono ?_); rintro e w' ⟨rfl, nd, rfl⟩; exact ⟨rfl, _, World.drewN_drewN _ _ _⟩) | (go_at_call 74; (with_reducible refine (R22.out _).mono ?_); rintro e w' ⟨rfl, nd, rfl⟩; exact ⟨rfl, _, World.drewN_drewN _ _ _⟩)))
          obtain ⟨W2, hW2⟩ : ∃ W2, W1.drewN nq = W2 := ⟨_, rfl⟩
          have hR2 : RndI w4 gh ws H gx capx n W2 := by
            rw [← hW2]
            exact ⟨bdrewN HR1.out.bel nq, HR1.out.lt, HR1.out.cap, HR1.out.ne, HR1.out.xx⟩
          have d0 := hR2.xx 0 (by omega)
          have d1 := hR2.xx 1 (by omega)
          have d2 := hR2.xx 2 (by omega)
          have d3 := hR2.xx 3 (by omega)
          have d4 := hR2.xx 4 (by omega)
          have d5 := hR2.xx 5 (by omega)
          have d6 := hR2.xx 6 (by omega)
          rw [HX.out] at d0 d1 d2 d3 d4 d5 d6
          simp only [List.getD_cons_zero, List.getD_cons_succ] at d0 d1 d2 d3 d4 d5 d6
          have HR2 := Lib.hid hR2
          rw [hW2]
          clear hW2 hR2 HR1 e1 e2 e3 e4 e5 e6 e7 e8 R2 R13 R22 c0 c1 c2 c3 c4 c5 c6
          obtain ⟨s4, hs4⟩ : ∃ s4, IntKind.i64.wrap (tt + uu) = s4 := ⟨_, rfl⟩
          obtain ⟨s5, hs5⟩ : ∃ s5, IntKind.i64.wrap (x3 + tt) = s5 := ⟨_, rfl⟩
          have t0 := T0.out
          have t1 := T1.out
          have u0 := U0.out
          have u1 := U1.out
          have g3 := HVS.out.2.2.2.1
          have hv4 : s4 = tt + uu := by rw [← hs4]; exact wraps_i64 _ (by omega) (by omega)
          have hv5 : s5 = x3 + tt := by rw [← hs5]; exact wraps_i64 _ (by unfold W32 at g3; omega) (by unfold W32 at g3; omega)
          have L4 := Lib.hid (low_same s4 (by omega) (by omega))
          have L5 := Lib.hid (low_same s5 (by unfold W32 at g3; omega) (by unfold W32 at g3; omega))
          have HV4 := Lib.hid hv4
          have HV5 := Lib.hid hv5
          clear t0 t1 u0 u1 g3 hv4 hv5
          go_wp2_with fail
          go_still_tail 28, (by kernel_rfl)
          still_call (L4.out _)
          repeat still_step
          still_call (L5.out _)
          repeat still_step
          refine wpStill_nil ?_
          change wpList _ _ _ _ _ W2.drew
          go_wp2_with fail
          have hR3 : RndI w4 gh ws H W2.heap.size 8 (n + 1) (W2.drew.alloc (.cells #[.int .i64 (s4 % 4294967296), .int .i64 x0, .int .i64 x1, .int .i64 x2, .int .i64 (s5 % 4294967296), .int .i64 x4, .int .i64 x5, .int .i64 x6] 3)) := by
            have hgh : gh < W2.heap.size := Nat.lt_of_lt_of_le (blk_lt HI4.out.hh) HR2.out.bel.size
            have hb : (W2.drew.alloc (.cells #[.int .i64 (s4 % 4294967296), .int .i64 x0, .int .i64 x1, .int .i64 x2, .int .i64 (s5 % 4294967296), .int .i64 x4, .int .i64 x5, .int .i64 x6] 3)).heap[W2.heap.size]? = some (.cells #[.int .i64 (s4 % 4294967296), .int .i64 x0, .int .i64 x1, .int .i64 x2, .int .i64 (s5 % 4294967296), .int .i64 x4, .int .i64 x5, .int .i64 x6] 3 (0, 0)) := get_top rfl
            refine ⟨HR2.out.bel.drew.alloc HR2.out.bel.size _, blk_lt hb, Nat.le_refl _, by omega, fun c hc => ?_⟩
            rw [blk_cell hb c, rnds, HX.out, ← HKK.out, ← HVV.out]
            have e4 : s4 % 4294967296 = (x7 + bs1 x4 + chs x4 x5 x6 + kk + vv + (bs0 x0 + mjs x0 x1 x2)) % 4294967296 := by rw [HV4.out, HTT.out, HUU.out]
            have e5 : s5 % 4294967296 = (x3 + (x7 + bs1 x4 + chs x4 x5 x6 + kk + vv)) % 4294967296 := by rw [HV5.out, HTT.out]
            rw [e4, e5]
            match c, hc with
            | 0, _ => rfl
            | 1, _ => rfl
            | 2, _ => rfl
            | 3, _ => rfl
            | 4, _ => rfl
            | 5, _ => rfl
            | 6, _ => rfl
            | 7, _ => rfl
          have HR3 := Lib.hid hR3
          clear hR3 hs4 hs5 d0 d1 d2 d3 d4 d5 d6
          go_roundg (gk - 1)
          case measure => omega
          case rel => exact ⟨n + 1, W2.heap.size, 8, by omega, rfl, by go_num, HR3.out⟩
        · obtain rfl : n = 64 := by omega
          obtain ⟨X, hX⟩ : ∃ X, X = rnds ws H 64 := ⟨_, rfl⟩
          have hxx := HR.out.xx
          rw [← hX] at hxx
          have hX8 : X.length = 8 := by rw [hX]; exact rnds_length HH8.out ws 64
          have hXW : Ws X := by rw [hX]; exact rnds_w HHW.out ws 64
          have HI5 := Lib.hid (HI4.out.below HR.out.bel)
          have hA0 : AddI wr gh H X 0 wr := ⟨Keeps.refl _ _, by rw [List.take_zero, List.nil_append, List.drop_zero, HH.out]; exact HI5.out.hh⟩
          have HA0 := Lib.hid hA0
          have HXX := Lib.hid hxx
          have HX8 := Lib.hid hX8
          have HXW := Lib.hid hXW
          have HXE := Lib.hid hX
          have hxne := HR.out.ne
          have hxlt := HR.out.lt
          have hxcap := HR.out.cap
          clear hxx hX8 hXW hX hA0 hn64 hn HR
          obtain ⟨W5, hW5⟩ : ∃ W5, W5 = wr := ⟨_, rfl⟩
          have HA1 := HA0.out
          have HI6 := HI5.out
          have HXX1 := HXX.out
          rw [← hW5] at HA1 HI6 HXX1 hxlt
          have HA0 := Lib.hid HA1
          have HI5 := Lib.hid HI6
          have HXX := Lib.hid HXX1
          have HA2 := HA1
          rw [hW5] at HA2
          clear HA1 HI6 HXX1
          go_wp2_with fail
          go_loopg [12] 8 (fun j i wr => ∃ c : Nat, j + c = 8 ∧ i = .int .i64 (c : Int) ∧ AddI W5 gh H X c wr)
          case atStart => exact ⟨0, rfl, rfl, by rw [← hW5]; exact HA0.out⟩
          case round =>
            clear hW5
            obtain ⟨c, hc, rfl, hA⟩ := hrel
            by_cases hc8 : c < 8
            · have k1 := hA.at_ HH8.out HX8.out hc8
              have k2 := (hA.keep.cell (p := ⟨gx, c, none⟩) hxlt hxne).trans (HXX.out c hc8)
              have kf := blk_frozen hA.blk c
              have w1 := HHW.out.get c
              have w2 := HXW.out.get c
              have hg := adds_get HH8.out HX8.out c hc8
              obtain ⟨a, ha⟩ : ∃ a, a = H.getD c 0 := ⟨_, rfl⟩
              obtain ⟨b, hb⟩ : ∃ b, b = X.getD c 0 := ⟨_, rfl⟩
              rw [← ha] at k1 w1 hg
              rw [← hb] at k2 w2 hg
              obtain ⟨s6, hs6⟩ : ∃ s6, IntKind.i64.wrap (a + b) = s6 := ⟨_, rfl⟩
              have hv6 : s6 = a + b := by rw [← hs6]; exact wraps_i64 _ (by unfold W32 at w1 w2; omega) (by unfold W32 at w1 w2; omega)
              have L6 := Lib.hid (low_same s6 (by unfold W32 at w1 w2; omega) (by unfold W32 at w1 w2; omega))
              have hp := hA.put HH8.out HX8.out hc8 (s6 % 4294967296) (by rw [hg, hv6])
              have HP := Lib.hid hp
              have q5 : (c : Int) < 8 := by omega
              have q6 : (c : Int) < (capx : Int) := by omega
              have q7 : (0 : Int) ≤ (c : Int) := by omega
              clear ha hb hp hv6 w1 w2 hg hA
              go_wp2_with fail
              go_still_tail 13, (by kernel_rfl)
              still_call (L6.out _)
              repeat still_step
              refine wpStill_nil ?_
              change wpList _ _ _ _ _ wr.drew
              go_wp2_with fail
              go_roundg (gk - 1)
              case measure => omega
              case rel => exact ⟨c + 1, by omega, by go_num, HP.out.drew⟩
            · obtain rfl : c = 8 := by omega
              have hS := HI5.out.turned HH.out HBL.out (by rw [HXE.out, HWS.out]) hA
              have HS := Lib.hid hS
              have hp64 : ((p : Int) + 64) = ((64 * (m + 1) : Nat) : Int) := by rw [HP.out]; omega
              have HP64 := Lib.hid hp64
              clear hp64 hA hS hc hc8
              go_wp2_with fail
              go_roundg (M - (m + 1))
              case measure => omega
              case rel => exact ⟨m + 1, by omega, by rw [HP64.out], HS.out⟩
    · obtain rfl : m = M := by omega
      have hpN : p = N := by rw [HN2.out, hp]
      subst hpN
      have hfin := HI.out.hh
      rw [show shaN fb m = shaW (bytesOf s) by rw [HFB.out, shaW, bytesOf_length, ← HM.out]] at hfin
      have hHW : Ws (shaW (bytesOf s)) := shaN_w _ _
      have hH8 : (shaW (bytesOf s)).length = 8 := shaN_length _ _
      have hsha : sha (bytesOf s) = (shaW (bytesOf s)).flatMap be4 := rfl
      obtain ⟨H, hH⟩ : ∃ H, H = shaW (bytesOf s) := ⟨_, rfl⟩
      rw [← hH] at hfin hHW hH8 hsha
      have HF := Lib.hid hfin
      have HHW := Lib.hid hHW
      have HH8 := Lib.hid hH8
      have HSHA := Lib.hid hsha
      have HBEL := Lib.hid HI.out.bel
      clear hfin hHW hH8 hsha hH hp hm hlt HI
      go_wp2_with fail
      obtain ⟨W6, hW6⟩ : ∃ W6, W6 = wr := ⟨_, rfl⟩
      have HF1 := HF.out
      have HB1 := HBEL.out
      rw [← hW6] at HF1 HB1
      have HF := Lib.hid HF1
      have HBEL := Lib.hid HB1
      clear HF1 HB1
      go_loopg [13, 14] 8 (fun j o i wr => ∃ (k : Nat) (v : Value), j + k = 8 ∧ v = o ∧ i = .int .i64 (k : Int) ∧ Loc W6 wr 5 1 v (4 * k) (nums ((H.take k).flatMap be4)))
      case atStart => exact ⟨0, .slice none 0 0, rfl, rfl, rfl, by rw [← hW6]; exact Loc.nil (Below.refl _ _) _ _⟩
      case round =>
        clear hW6
        obtain ⟨k, v, hk, rfl, rfl, hA⟩ := hrel
        by_cases hk8 : k < 8
        · have hb0 := HF.out
          have hgh := blk_lt hb0
          have ck : wr.cell? ⟨gh, k, none⟩ = some (.int .i64 (H.getD k 0)) := by
            rw [hA.below.cell (p := ⟨gh, k, none⟩) hgh, blk_cell hb0 k]
            have := HH8.out
            simp [ints, List.getElem?_eq_getElem (show k < H.length by omega), List.getD]
          have wk := HHW.out.get k
          obtain ⟨a, ha⟩ : ∃ a, a = H.getD k 0 := ⟨_, rfl⟩
          rw [← ha] at ck wk
          have HA := Lib.hid hA
          have HAA := Lib.hid ha
          have WK := Lib.hid wk
          have q5 : (k : Int) < 8 := by omega
          have q7 : (0 : Int) ≤ (k : Int) := by omega
          obtain ⟨a0, a1⟩ := wk
          obtain ⟨c0, e0⟩ : ∃ c, IntKind.u8.wrap (a / 16777216) = c := ⟨_, rfl⟩
          obtain ⟨b1, f1⟩ : ∃ c, bits .and .i64 (a / 65536) 255 = c := ⟨_, rfl⟩
          obtain ⟨c1, e1⟩ : ∃ c, IntKind.u8.wrap b1 = c := ⟨_, rfl⟩
          obtain ⟨b2, f2⟩ : ∃ c, bits .and .i64 (a / 256) 255 = c := ⟨_, rfl⟩
          obtain ⟨c2, e2⟩ : ∃ c, IntKind.u8.wrap b2 = c := ⟨_, rfl⟩
          obtain ⟨b3, f3⟩ : ∃ c, bits .and .i64 a 255 = c := ⟨_, rfl⟩
          obtain ⟨c3, e3⟩ : ∃ c, IntKind.u8.wrap b3 = c := ⟨_, rfl⟩
          have hbe : be4 a = [c0, c1, c2, c3] := by
            have m := fun x h0 h1 => bits_mask .i64 63 (by decide) wraps_i64 8 (by decide) x h0 h1
            have m1 := m (a / 65536) (by omega) (by omega)
            have m2 := m (a / 256) (by omega) (by omega)
            have m3 := m a (by omega) (by omega)
            rw [show ((2 : Int) ^ 8 - 1) = 255 from rfl, show ((2 : Int) ^ 8) = 256 from rfl] at m1 m2 m3
            rw [← e0, ← e1, ← e2, ← e3, ← f1, ← f2, ← f3, m1, m2, m3, IntKind.wrap_u8, IntKind.wrap_u8, IntKind.wrap_u8, IntKind.wrap_u8, be4]
            simp
          have HBE := Lib.hid hbe
          have hvne : some gh ≠ v.ownBlock := fun he => by
            have := hA.base gh he.symm
            omega
          have hghwr : gh < wr.heap.size := Nat.lt_of_lt_of_le hgh hA.below.size
          have hHH8 := HH8.out
          have htk : (H.take (k + 1)).flatMap be4 = (H.take k).flatMap be4 ++ be4 a := by
            rw [ha, List.take_add_one, List.getElem?_eq_getElem (show k < H.length by omega), List.flatMap_append]
            simp [List.getD, List.getElem?_eq_getElem (show k < H.length by omega)]
          have HTK := Lib.hid htk
          obtain ⟨n, hn⟩ : ∃ n, n = 4 * k := ⟨_, rfl⟩
          have hA1 := hA
          rw [← hn] at hA1
          have HA := Lib.hid hA1
          have hn32 : n ≤ 32 := by omega
          have HN4 := Lib.hid hn
          obtain ⟨i0, hi, hz0, hz1, hz2⟩ := info_parts infoByte
          have HII := Lib.hid hi
          have HZ0 := Lib.hid hz0
          have HZ1 := Lib.hid hz1
          have HZ2 := Lib.hid hz2
          clear hA hA1 ha hb0 hgh hbe htk hHH8 hn hi hz0 hz1 hz2
          go_wp2_with fail
          go_region_held3 (fun w' => w'.cell? ⟨gh, k, none⟩ = some (.int .i64 a)) (first | go_keep | exact (hgrow5.cell_far ⟨gh, k, none⟩ (by simp; omega) hvne).trans ((World.cell?_of_block (w := wr) (Below.heap_alloc wr _ gh hghwr)).trans ck))
            ((refine step_append_row (by rfl) _ _ _ _ (by rfl) 5 i0 (.int .u8 0) 1 1 Try.underlying50 HII.out HZ0.out HZ1.out HZ2.out rfl (by omega) v _ _ (by rfl) ((HA.out.row.alloc _).drew) _ (by rfl) 4 [.int .u8 c0, .int .u8 c1, .int .u8 c2, .int .u8 c3] (Feeds.slice Try.underlying50 ⟨wr.heap.size, 0, none⟩ 4 4 _ (by rfl) (by simp [Value.oneCell']) (World.news_of_block (cs := #[.int .u8 c0, .int .u8 c1, .int .u8 c2, .int .u8 c3]) (t := 5) (fr := (0, 0)) (heap_alloc_new wr _))) (by unfold maxLen; omega) (by omega) (wr.heap.size + 1) (by simp) ?_; intro ao5 cap5 w5 hown5 hgrow5 hat5))
          have hloc := HA.out.app (((Below.refl _ wr).alloc (Nat.le_refl _) _).drew) hown5 hgrow5 hat5 (by omega)
          rw [show nums ((H.take k).flatMap be4) ++ [.int .u8 c0, .int .u8 c1, .int .u8 c2, .int .u8 c3] = nums ((H.take (k + 1)).flatMap be4) by rw [HTK.out, HBE.out, nums_append]; rfl, show n + 4 = 4 * (k + 1) by rw [HN4.out]; omega] at hloc
          have HS := Lib.hid hloc
          have e9 : n + 4 = 4 * (k + 1) := by rw [HN4.out]; omega
          clear hloc hown5 hgrow5 hat5 e0 e1 e2 e3 f1 f2 f3 ck
          go_wp2_with fail
          go_roundg (gk - 1)
          case measure => omega
          case rel => exact ⟨k + 1, _, by omega, by rw [e9], by go_num, HS.out⟩
        · obtain rfl : k = 8 := by omega
          have hcs := row_string (P := Try.prog) Try.underlying50 Try.underlying5 Try.underlying9 hA.row
          have hl8 := HH8.out
          rw [List.take_of_length_le (by omega), ← HSHA.out] at hcs
          have HB := Lib.hid (HBEL.out.trans (hA.below.mono HBEL.out.size))
          clear hA hl8
          go_wp2
          go_ret
          exact ⟨rfl, HB.out⟩
end Go.Proofs.Ythobfbiobnmceaa.B
