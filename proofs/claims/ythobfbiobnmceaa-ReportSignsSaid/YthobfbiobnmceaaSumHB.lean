/-
  SumHB: what is wanted of Base, Bytes, Sha, ShaB, ShaH, Filled, Blocks, RefSumH, TurnedH, Round, Turn, Mix, Any, Feed, New, Told, Sum, Both, Pads, Mac, RefMac, ExpP, Expand, RefExpand, Stretch, RefStretch.
-/
import Derived.WalkKit
import Derived.WalkSpells
import Derived.WalkLawsBesides
import Derived.KernelRfl
import Derived.Lib.Hide
import Derived.Lib.ConvBytes
import Derived.Lib.AppendStr
import Derived.Deep.RegionHeld3
import Derived.Deep.RegionLaw
import Derived.ArgAppend
import Derived.Deep.LoopGhost
import Derived.Deep.QuietTactic
import Derived.BigQuiet
import Derived.Outline
import Derived.Deep.AppendLies
import Derived.Test.YthobfbiobnmceaaProg
import Derived.Lib.Strings
import Derived.Laws.BitsLemmas
import Derived.StillTailTactics
import Derived.Deep.MidRow
import Derived.RegionTactic
import Derived.Test.YthobfbiobnmceaaBase
import Derived.Test.YthobfbiobnmceaaBytes
import Derived.Test.YthobfbiobnmceaaWriter
import Derived.Test.YthobfbiobnmceaaPut
import Derived.Test.YthobfbiobnmceaaCursor
import Derived.Test.YthobfbiobnmceaaGet
import Derived.Test.YthobfbiobnmceaaRefPut
import Derived.Test.YthobfbiobnmceaaPadE
import Derived.Test.YthobfbiobnmceaaSumHA
set_option linter.unusedVariables false
set_option linter.unusedSimpArgs false
namespace Go.Proofs.Ythobfbiobnmceaa.B
open Go.RowKit
open Go.RowKit
set_option linter.unusedVariables false
end Go.Proofs.Ythobfbiobnmceaa.B
namespace Go.Proofs.Ythobfbiobnmceaa.B
open Go.RowKit
set_option linter.unusedVariables false
theorem wraps_u32 (n : Int) (h₀ : 0 ≤ n) (h₁ : n < 2 ^ 32) : IntKind.u32.wrap n = n := by rw [IntKind.wrap_u32]; omega
theorem xor_u32 {a b : Int} (ha : W32 a) (hb : W32 b) : bits .xor .u32 a b = xr a b := by
  obtain ⟨m, rfl, hm⟩ := nat_of ha
  obtain ⟨n, rfl, hn⟩ := nat_of hb
  exact bits_xor_nat .u32 32 (by decide) wraps_u32 m n hm hn
theorem and_u32 {a b : Int} (ha : W32 a) (hb : W32 b) : bits .and .u32 a b = an a b := by
  obtain ⟨m, rfl, hm⟩ := nat_of ha
  obtain ⟨n, rfl, hn⟩ := nat_of hb
  exact (bits_nat .u32 32 (by decide) wraps_u32 m n hm hn).1
theorem or_rr (k : IntKind) (j : Nat) (hj : j ≤ k.bits) (hj2 : 32 ≤ j) (hk : ∀ n : Int, 0 ≤ n → n < 2 ^ j → k.wrap n = n) {x : Int} (h : W32 x) {n : Nat} (hn : n ≤ 32) :
    bits .or k (x / 2 ^ n) ((x % 2 ^ n) * 2 ^ (32 - n)) = rr x n := by
  obtain ⟨h1, h2, h3, h4⟩ := rr_parts h hn
  have h5 : (4294967296 : Int) ≤ 2 ^ j := by
    have h : (2 : Int) ^ 32 ≤ 2 ^ j := by exact_mod_cast Nat.pow_le_pow_right (show 0 < 2 by decide) hj2
    rwa [show (2 : Int) ^ 32 = 4294967296 from rfl] at h
  have hq := pow_pos2 (32 - n)
  have hq1 : (2 : Int) ^ (32 - n) ≤ 4294967296 := by omega
  rw [bits_or_comm, bits_join k j hj hk (32 - n) _ _ h3 (Int.mul_emod_left _ _) (by omega) h1 h2 (by omega), rr, Int.add_comm]
theorem right_u32 {x : Int} (h : W32 x) {n : Nat} (hn : n ≤ 32) : bits .or .u32 (x / 2 ^ n) (IntKind.u32.wrap (x * 2 ^ (32 - n))) = rr x n := by
  rw [IntKind.wrap_u32, mul_mod h hn, or_rr .u32 32 (by decide) (by decide) wraps_u32 h hn]
theorem shaN_prefix (bs more : List Int) : ∀ n, 64 * n ≤ bs.length → shaN (bs ++ more) n = shaN bs n
  | 0, _ => rfl
  | n + 1, h => by
    rw [shaN, shaN, shaN_prefix bs more n (by omega), List.drop_append_of_le_length (by omega), List.take_append_of_le_length (by simp; omega)]
set_option maxRecDepth 100000 in
theorem right32_any (x : Int) (h : W32 x) (n : Nat) (h2 : 2 ≤ n) (hn : n ≤ 32) (w : World) : Calls Try.prog 79 #[.int .u32 x, .int .i64 n] w fun e w' => e = .returned (.int .u32 (rr x n)) ∧ ∃ d, w' = w.drewN d := by
  have e1 : wrap64 (32 - (n : Int)) = ((32 - n : Nat) : Int) := by rw [wrap_id (by omega) (by omega)]; omega
  have hr : bits .or .u32 (x / 2 ^ n) (x * 2 ^ (32 - n) % 4294967296) = rr x n := right_u32 h hn
  have z1 : (0 : Int) ≤ (n : Int) := by omega
  go_enter Try.func79, Try.ntmps79
  go_wp2_with fail
  go_quiet (fail)
  go_wp2_with fail
  go_ret
  exact ⟨rfl, _, rfl⟩
end Go.Proofs.Ythobfbiobnmceaa.B
namespace Go.Proofs.Ythobfbiobnmceaa.B
open Go.RowKit
set_option linter.unusedVariables false
theorem thereOf {W : World} {g : Nat} {cs : Array Value} {t : TypeId} (h : W.heap[g]? = some (.cells cs t (0, 0))) : W.there g 0 cs.size := fun j hj => by
  rw [Nat.zero_add, blk_cell h j]
  exact ⟨by simp [hj], blk_frozen h j⟩
theorem setAll {W : World} {g : Nat} {cur cs : Array Value} {t : TypeId} {fr : Nat × Nat} (h : W.heap[g]? = some (.cells cur t fr)) (hl : cs.size = cur.size) : (W.setCells g 0 cs.toList).heap[g]? = some (.cells cs t fr) := by
  obtain ⟨cur', h1, h2, h3⟩ := setCells_heap g cs.toList 0 W cur t fr h (by simp [hl])
  rw [h1]
  congr 2
  apply Array.ext'
  rw [h3]
  simp [hl]
theorem setCells_keeps (w : World) (g : Nat) (vs : List Value) : Keeps (fun i => i = g) w (w.setCells g 0 vs) := Keeps.of_grown (setCells_grown g vs 0 w) (fun k hk => (Option.some.inj hk).symm)
/-- A whole block is stored: behind it the world is any that keeps all but that block, and has the new cells there. -/
theorem wpList_store_row {P : Program} {ops : Array Oper} {rest : List Oper} {op : Oper} {a : Act} {w : World} {Q : Exit → Act → World → Prop} (hgd : op.guard = none) (ty : TypeId) (x y : Operand) (ho : op.op = .store ty x y)
    (g : Nat) (cells cur : Array Value) (t : TypeId) (hx : a.eval x = .pointer (some ⟨g, 0, none⟩)) (hy : a.eval y = .agg cells)
    (hg : w.heap[g]? = some (.cells cur t (0, 0))) (hs : cells.size = cur.size) (hi : (P.info? ty).map (·.size) = some cells.size) (h1 : ∀ v ∈ cells.toList, v.oneCell' = true)
    (h : ∀ W : World, W.heap[g]? = some (.cells cells t (0, 0)) → Keeps (fun i => i = g) w W → wpList P ops Q rest (a.put op.dst undef) W) : wpList P ops Q (op :: rest) a w :=
  wpList_store_mid hgd ty x y ho g 0 cells hx hy (hs ▸ thereOf hg) hi (Array.all_eq_true_iff_forall_mem.2 fun v hv => h1 v (by simpa using hv)) (h _ (setAll hg hs) (setCells_keeps w g _))
/-- The same of one result alone. -/
theorem bodyPost_row {P : Program} {fn : Func} {R : Ending → World → Prop} {a : Act} {w : World} {p : Tmp} {ty : TypeId} (hres : fn.results = #[.cell p ty]) (g : Nat) (t : TypeId) (cs : Array Value) (fr : Nat × Nat) (d : TypeDesc)
    (hp : a.tmps.getD p undef = .pointer (some ⟨g, 0, none⟩)) (hg : w.heap[g]? = some (.cells cs t fr)) (hu : P.underlying ty = some d) (hd : (match d with | .struct _ | .array _ _ => true | _ => false) = true)
    (hi : (P.info? ty).map (·.size) = some cs.size) (hdf : a.defers = []) (hR : R (.returned (.agg cs)) w) : bodyPost P fn R .ret a w :=
  bodyPost_ret (results_cell_row hres a.tmps w g t cs fr d hp hg hu hd hi) hdf hR
end Go.Proofs.Ythobfbiobnmceaa.B
namespace Go.Proofs.Ythobfbiobnmceaa.B
open Go.RowKit
set_option linter.unusedVariables false
/-- Words as values. -/
def u32s (xs : List Int) : List Value := xs.map fun x => .int .u32 x
theorem u32s_length (xs : List Int) : (u32s xs).length = xs.length := by simp [u32s]
theorem u32s_oneCell (xs : List Int) : ∀ v ∈ u32s xs, v.oneCell' = true := by
  intro v hv
  simp only [u32s, List.mem_map] at hv
  obtain ⟨x, _, rfl⟩ := hv
  rfl
theorem u32s_get {xs : List Int} {i : Nat} (h : i < xs.length) : (u32s xs).toArray[i]? = some (.int .u32 (xs.getD i 0)) := by
  simp [u32s, List.getElem?_eq_getElem h, List.getD]
theorem nums_get {xs : List Int} {i : Nat} (h : i < xs.length) : (nums xs).toArray[i]? = some (.int .u8 (xs.getD i 0)) := by
  simp [nums, List.getElem?_eq_getElem h, List.getD]
theorem infoK : (Try.prog.info? 141).map (·.size) = some 64 := by kernel_rfl
theorem infoH : (Try.prog.info? 108).map (·.size) = some 8 := by kernel_rfl
set_option maxRecDepth 100000 in
set_option maxHeartbeats 3200000 in
theorem constants_any (w : World) : Calls Try.prog 80 #[] w fun e w' => e = .returned (.agg (u32s shaK).toArray) ∧ Below w.heap.size w w' := by
  have hu := Try.underlying141
  have hz := heap_alloc_new w (.cells (u32s (List.replicate 64 0)).toArray 141 (0, 0))
  have HZ := Lib.hid hz
  clear hz
  go_enter Try.func80, Try.ntmps80
  go_wp2_with (refine wpList_store_row (by rfl) 141 _ _ (by rfl) w.heap.size (u32s shaK).toArray (u32s (List.replicate 64 0)).toArray 141 (by rfl) (by rfl) HZ.out rfl infoK (u32s_oneCell _) ?_; intro W1 hW1 hK1; have HW1 := Lib.hid hW1; have HK1 := Lib.hid hK1; clear hW1 hK1)
  refine bodyPost_row rfl w.heap.size 141 (u32s shaK).toArray (0, 0) _ (by rfl) HW1.out Try.underlying141 rfl infoK rfl ?_
  exact ⟨rfl, ((Below.refl _ w).alloc (Nat.le_refl _) _).trans (HK1.out.below (by simp) (by intro i hi; omega))⟩
theorem not_u32 {x : Int} (h : W32 x) : bits .xor .u32 4294967295 x = 4294967295 - x := by
  obtain ⟨n, rfl, hn⟩ := nat_of h
  have h1 := bits_xor_nat .u32 32 (by decide) wraps_u32 4294967295 n (by decide) hn
  rw [show ((4294967295 : Nat) : Int) = 4294967295 from rfl] at h1
  rw [h1]
  have h2 : (BitVec.allOnes 32 ^^^ BitVec.ofNat 32 n).toNat = 2 ^ 32 - 1 - n := by
    rw [BitVec.allOnes_xor, BitVec.toNat_not, BitVec.toNat_ofNat, Nat.mod_eq_of_lt hn]
  rw [BitVec.toNat_xor, BitVec.toNat_allOnes, BitVec.toNat_ofNat, Nat.mod_eq_of_lt hn] at h2
  rw [show (4294967295 : Nat) = 2 ^ 32 - 1 from rfl, h2]
  omega
theorem tSum32 {x4 x5 x6 x7 k v : Int} (h4 : W32 x4) (h5 : W32 x5) (h6 : W32 x6) (h7 : W32 x7) (hk : W32 k) (hv : W32 v) :
    ∃ y1 y2 s1 y3 y4 y5 y6 : Int, bits .xor .u32 (rr x4 6) (rr x4 11) = y1 ∧ bits .xor .u32 y1 (rr x4 25) = y2 ∧ IntKind.u32.wrap (x7 + y2) = s1 ∧ bits .and .u32 x4 x5 = y3 ∧ bits .xor .u32 IntKind.u32.max x4 = y4 ∧ bits .and .u32 y4 x6 = y5 ∧ bits .xor .u32 y3 y5 = y6 ∧
      (s1 + y6 + k + v) % 4294967296 = (x7 + bs1 x4 + chs x4 x5 x6 + k + v) % 4294967296 := by
  have c4 : W32 (4294967295 - x4) := by unfold W32 at *; omega
  refine ⟨_, _, _, _, _, _, _, rfl, rfl, rfl, rfl, rfl, rfl, rfl, ?_⟩
  rw [xor_u32 (rr_w h4 (by omega)) (rr_w h4 (by omega)), xor_u32 (xr_w (rr_w h4 (by omega)) (rr_w h4 (by omega))) (rr_w h4 (by omega)), and_u32 h4 h5, show IntKind.u32.max = 4294967295 from rfl, not_u32 h4, and_u32 c4 h6, xor_u32 (an_w h4 h5) (an_w c4 h6)]
  rw [show xr (xr (rr x4 6) (rr x4 11)) (rr x4 25) = bs1 x4 from rfl, show xr (an x4 x5) (an (4294967295 - x4) x6) = chs x4 x5 x6 from rfl]
  generalize bs1 x4 = p
  generalize chs x4 x5 x6 = q
  rw [IntKind.wrap_u32]
  omega
theorem uSum32 {x0 x1 x2 : Int} (h0 : W32 x0) (h1 : W32 x1) (h2 : W32 x2) :
    ∃ y1 y2 y3 y4 y5 y6 y7 u : Int, bits .xor .u32 (rr x0 2) (rr x0 13) = y1 ∧ bits .xor .u32 y1 (rr x0 22) = y2 ∧ bits .and .u32 x0 x1 = y3 ∧ bits .and .u32 x0 x2 = y4 ∧ bits .xor .u32 y3 y4 = y5 ∧ bits .and .u32 x1 x2 = y6 ∧ bits .xor .u32 y5 y6 = y7 ∧ IntKind.u32.wrap (y2 + y7) = u ∧
      u = (bs0 x0 + mjs x0 x1 x2) % 4294967296 := by
  refine ⟨_, _, _, _, _, _, _, _, rfl, rfl, rfl, rfl, rfl, rfl, rfl, rfl, ?_⟩
  rw [xor_u32 (rr_w h0 (by omega)) (rr_w h0 (by omega)), xor_u32 (xr_w (rr_w h0 (by omega)) (rr_w h0 (by omega))) (rr_w h0 (by omega)), and_u32 h0 h1, and_u32 h0 h2, and_u32 h1 h2, xor_u32 (an_w h0 h1) (an_w h0 h2), xor_u32 (xr_w (an_w h0 h1) (an_w h0 h2)) (an_w h1 h2)]
  rw [show xr (xr (rr x0 2) (rr x0 13)) (rr x0 22) = bs0 x0 from rfl, show xr (xr (an x0 x1) (an x0 x2)) (an x1 x2) = mjs x0 x1 x2 from rfl, IntKind.wrap_u32]
/-- The words' array with the first k of them there. -/
def wdAt (B : List Int) (k : Nat) : Array Value := (u32s (wd B k ++ List.replicate (64 - k) 0)).toArray
theorem wdAt_get (B : List Int) (k j : Nat) (hj : j < k) : (wdAt B k)[j]? = some (.int .u32 ((wd B k).getD j 0)) := by
  have hl := wd_length B k
  have := u32s_get (xs := wd B k ++ List.replicate (64 - k) 0) (i := j) (by simp; omega)
  rw [wdAt, this, List.getD, List.getElem?_append_left (by omega), ← List.getD]
theorem wdAt_zero (B : List Int) (k : Nat) (hk : k < 64) : (wdAt B k)[k]? = some (.int .u32 0) := by
  have hl := wd_length B k
  have := u32s_get (xs := wd B k ++ List.replicate (64 - k) 0) (i := k) (by simp; omega)
  rw [wdAt, this, List.getD, List.getElem?_append_right (by omega), hl, Nat.sub_self, List.getElem?_replicate]
  simp [show 0 < 64 - k by omega]
theorem wdAt_set (B : List Int) (k : Nat) (hk : k < 64) (y : Int) (hy : y = nextW B (wd B k)) : (wdAt B k).setIfInBounds k (.int .u32 y) = wdAt B (k + 1) := by
  have hl := wd_length B k
  simp only [wdAt, u32s, List.setIfInBounds_toArray]
  congr 1
  rw [show (Value.int .u32 y) = (fun x => Value.int .u32 x) y from rfl, ← List.map_set]
  congr 1
  rw [List.set_append_right _ _ (by omega), hl, Nat.sub_self, show 64 - k = (64 - (k + 1)) + 1 by omega, List.replicate_succ, List.set_cons_zero, wd, hy, List.append_assoc]
  rfl
/-- The world of turned: the state's box, the block's box, the result's and the words' array. -/
structure TurnI (w : World) (H B : List Int) (k : Nat) (W : World) : Prop where
  bel : Below w.heap.size w W
  hh : W.heap[w.heap.size]? = some (.cells (u32s H).toArray 108 (0, 0))
  bb : W.heap[w.heap.size + 1]? = some (.cells (nums B).toArray 109 (0, 0))
  rr : W.heap[w.heap.size + 1 + 1]? = some (.cells (u32s (List.replicate 8 0)).toArray 108 (0, 0))
  ww : W.heap[w.heap.size + 1 + 1 + 1]? = some (.cells (wdAt B k) 141 (0, 0))
theorem TurnI.below {w W W1 : World} {H B : List Int} {k : Nat} (h : TurnI w H B k W) (hb : Below W.heap.size W W1) : TurnI w H B k W1 :=
  ⟨h.bel.trans (hb.mono h.bel.size), (hb.block _ (blk_lt h.hh)).trans h.hh, (hb.block _ (blk_lt h.bb)).trans h.bb, (hb.block _ (blk_lt h.rr)).trans h.rr, (hb.block _ (blk_lt h.ww)).trans h.ww⟩
theorem TurnI.drew {w W : World} {H B : List Int} {k : Nat} (h : TurnI w H B k W) : TurnI w H B k W.drew := ⟨h.bel.drew, h.hh, h.bb, h.rr, h.ww⟩
theorem TurnI.drewN {w W : World} {H B : List Int} {k : Nat} (h : TurnI w H B k W) (n : Nat) : TurnI w H B k (W.drewN n) := ⟨bdrewN h.bel n, h.hh, h.bb, h.rr, h.ww⟩
theorem TurnI.put {w W : World} {H B : List Int} {k : Nat} (h : TurnI w H B k W) (hk : k < 64) (y : Int) (hy : y = nextW B (wd B k)) : TurnI w H B (k + 1) (W.setCell ⟨w.heap.size + 1 + 1 + 1, k, none⟩ (.int .u32 y)) := by
  refine ⟨h.bel.setCell (by simp; omega) _, ?_, ?_, ?_, ?_⟩
  · exact (Below.heap_setCell W _ _ _ (by simp <;> omega)).trans h.hh
  · exact (Below.heap_setCell W _ _ _ (by simp <;> omega)).trans h.bb
  · exact (Below.heap_setCell W _ _ _ (by simp <;> omega)).trans h.rr
  · rw [blk_set h.ww, wdAt_set B k hk y hy]
/-- Four bytes as a word, as the program joins them. -/
theorem orSum {y0 y1 y2 y3 : Int} (h0 : 0 ≤ y0 ∧ y0 < 256) (h1 : 0 ≤ y1 ∧ y1 < 256) (h2 : 0 ≤ y2 ∧ y2 < 256) (h3 : 0 ≤ y3 ∧ y3 < 256) :
    IntKind.u32.wrap y0 = y0 ∧ IntKind.u32.wrap y1 = y1 ∧ IntKind.u32.wrap y2 = y2 ∧ IntKind.u32.wrap y3 = y3 ∧ ∃ z0 z1 z2 v1 v2 v : Int, IntKind.u32.wrap (y0 * 16777216) = z0 ∧ IntKind.u32.wrap (y1 * 65536) = z1 ∧ IntKind.u32.wrap (y2 * 256) = z2 ∧
      bits .or .u32 z0 z1 = v1 ∧ bits .or .u32 v1 z2 = v2 ∧ bits .or .u32 v2 y3 = v ∧ v = y0 * 16777216 + y1 * 65536 + y2 * 256 + y3 := by
  refine ⟨wraps_u32 _ (by omega) (by omega), wraps_u32 _ (by omega) (by omega), wraps_u32 _ (by omega) (by omega), wraps_u32 _ (by omega) (by omega), _, _, _, _, _, _, rfl, rfl, rfl, rfl, rfl, rfl, ?_⟩
  rw [wraps_u32 (y0 * 16777216) (by omega) (by omega), wraps_u32 (y1 * 65536) (by omega) (by omega), wraps_u32 (y2 * 256) (by omega) (by omega)]
  have p24 : (2 : Int) ^ 24 = 16777216 := rfl
  have p16 : (2 : Int) ^ 16 = 65536 := rfl
  have p8 : (2 : Int) ^ 8 = 256 := rfl
  have a1 : bits .or .u32 (y0 * 16777216) (y1 * 65536) = y0 * 16777216 + y1 * 65536 := bits_join .u32 32 (by decide) wraps_u32 24 _ _ (by omega) (by rw [p24]; omega) (by omega) (by omega) (by rw [p24]; omega) (by omega)
  have a2 : bits .or .u32 (y0 * 16777216 + y1 * 65536) (y2 * 256) = y0 * 16777216 + y1 * 65536 + y2 * 256 := bits_join .u32 32 (by decide) wraps_u32 16 _ _ (by omega) (by rw [p16]; omega) (by omega) (by omega) (by rw [p16]; omega) (by omega)
  have a3 : bits .or .u32 (y0 * 16777216 + y1 * 65536 + y2 * 256) y3 = y0 * 16777216 + y1 * 65536 + y2 * 256 + y3 := bits_join .u32 32 (by decide) wraps_u32 8 _ _ (by omega) (by rw [p8]; omega) (by omega) (by omega) (by rw [p8]; omega) (by omega)
  rw [a1, a2, a3]
/-- The next word, as the program reckons it. -/
theorem wSum {x15 x2 x16 x7 : Int} (h15 : W32 x15) (h2 : W32 x2) (h16 : W32 x16) (h7 : W32 x7) :
    ∃ a1 a2 b1 b2 s1 s2 v : Int, bits .xor .u32 (rr x15 7) (rr x15 18) = a1 ∧ bits .xor .u32 a1 (x15 / 8) = a2 ∧ bits .xor .u32 (rr x2 17) (rr x2 19) = b1 ∧ bits .xor .u32 b1 (x2 / 1024) = b2 ∧
      IntKind.u32.wrap (x16 + a2) = s1 ∧ IntKind.u32.wrap (s1 + x7) = s2 ∧ IntKind.u32.wrap (s2 + b2) = v ∧ v = (x16 + sg0 x15 + x7 + sg1 x2) % 4294967296 := by
  have d8 : W32 (x15 / 8) := by unfold W32 at *; omega
  have d10 : W32 (x2 / 1024) := by unfold W32 at *; omega
  refine ⟨_, _, _, _, _, _, _, rfl, rfl, rfl, rfl, rfl, rfl, rfl, ?_⟩
  rw [xor_u32 (rr_w h15 (by omega)) (rr_w h15 (by omega)), xor_u32 (xr_w (rr_w h15 (by omega)) (rr_w h15 (by omega))) d8, xor_u32 (rr_w h2 (by omega)) (rr_w h2 (by omega)), xor_u32 (xr_w (rr_w h2 (by omega)) (rr_w h2 (by omega))) d10]
  rw [show xr (xr (rr x15 7) (rr x15 18)) (x15 / 8) = sg0 x15 from rfl, show xr (xr (rr x2 17) (rr x2 19)) (x2 / 1024) = sg1 x2 from rfl]
  generalize sg0 x15 = p
  generalize sg1 x2 = q
  rw [IntKind.wrap_u32, IntKind.wrap_u32, IntKind.wrap_u32]
  omega
/-- The rounds of the program: block gk holds the constants, block gs the state behind n of them. -/
structure RdsI (w : World) (H B : List Int) (gk gs n : Nat) (W : World) : Prop where
  ti : TurnI w H B 64 W
  kk : W.heap[gk]? = some (.cells (u32s shaK).toArray 141 (0, 0))
  ss : W.heap[gs]? = some (.cells (u32s (rnds (wd B 64) H n)).toArray 108 (0, 0))
  gtk : w.heap.size + 1 + 1 + 1 < gk
  gts : gk < gs
theorem RdsI.drewN {w W : World} {H B : List Int} {gk gs n : Nat} (h : RdsI w H B gk gs n W) (d : Nat) : RdsI w H B gk gs n (W.drewN d) := ⟨h.ti.drewN d, h.kk, h.ss, h.gtk, h.gts⟩
theorem RdsI.put {w W W1 : World} {H B : List Int} {gk gs n : Nat} (h : RdsI w H B gk gs n W) (hk : Keeps (fun i => i = gs) W W1) (hs : W1.heap[gs]? = some (.cells (u32s (rnds (wd B 64) H (n + 1))).toArray 108 (0, 0))) : RdsI w H B gk gs (n + 1) W1 := by
  have a := h.gtk
  have b := h.gts
  exact ⟨⟨h.ti.bel.trans (hk.below h.ti.bel.size (by intro i hi; omega)), hk.at_ h.ti.hh (by omega), hk.at_ h.ti.bb (by omega), hk.at_ h.ti.rr (by omega), hk.at_ h.ti.ww (by omega)⟩, hk.at_ h.kk (by omega), hs, h.gtk, h.gts⟩
theorem eight32 (l : List Int) (h : l.length = 8) : ∃ x0 x1 x2 x3 x4 x5 x6 x7, l = [x0, x1, x2, x3, x4, x5, x6, x7] := by
  match l, h with
  | [x0, x1, x2, x3, x4, x5, x6, x7], _ => exact ⟨_, _, _, _, _, _, _, _, rfl⟩
/-- The state's words are added one by one: c of them are done. -/
structure AddU (W5 : World) (gh : Nat) (H X : List Int) (c : Nat) (W : World) : Prop where
  keep : Keeps (fun i => i = gh) W5 W
  blk : W.heap[gh]? = some (.cells (u32s ((adds H X).take c ++ H.drop c)).toArray 108 (0, 0))
theorem addu_length {H X : List Int} (h : H.length = 8) (x : X.length = 8) : (adds H X).length = 8 := by rw [adds, List.length_zipWith, h, x]; rfl
theorem addu_get {H X : List Int} (h : H.length = 8) (x : X.length = 8) (c : Nat) (hc : c < 8) : (adds H X).getD c 0 = (H.getD c 0 + X.getD c 0) % 4294967296 := by
  have hl := addu_length h x
  rw [List.getD, List.getElem?_eq_getElem (by omega), Option.getD_some]
  simp [adds, List.getD, List.getElem?_eq_getElem (show c < H.length by omega), List.getElem?_eq_getElem (show c < X.length by omega)]
theorem AddU.at_ {W5 W : World} {gh : Nat} {H X : List Int} {c : Nat} (h : AddU W5 gh H X c W) (hH : H.length = 8) (hX : X.length = 8) (hc : c < 8) : W.cell? ⟨gh, c, none⟩ = some (.int .u32 (H.getD c 0)) := by
  have hl := addu_length hH hX
  rw [blk_cell h.blk c, List.getElem?_toArray, u32s, List.getElem?_map, List.getElem?_append_right (by simp; omega)]
  simp [hl, Nat.min_eq_left (show c ≤ 8 by omega), List.getD, List.getElem?_eq_getElem (show c < H.length by omega)]
theorem AddU.put {W5 W : World} {gh : Nat} {H X : List Int} {c : Nat} (h : AddU W5 gh H X c W) (hH : H.length = 8) (hX : X.length = 8) (hc : c < 8) (y : Int) (hy : y = (adds H X).getD c 0) : AddU W5 gh H X (c + 1) (W.setCell ⟨gh, c, none⟩ (.int .u32 y)) := by
  have hl := addu_length hH hX
  refine ⟨h.keep.setCell (fun _ => rfl) _, ?_⟩
  rw [blk_set h.blk]
  congr 2
  simp only [u32s, List.setIfInBounds_toArray]
  congr 1
  rw [show (Value.int .u32 y) = (fun x => Value.int .u32 x) y from rfl, ← List.map_set]
  congr 1
  have h1 : ((adds H X).take c).length = c := by simp; omega
  rw [List.set_append_right _ _ (by omega), h1, Nat.sub_self, List.drop_eq_getElem_cons (show c < H.length by omega), List.set_cons_zero, hy, ← List.take_append_getElem (show c < (adds H X).length by omega), List.append_assoc]
  simp [List.getD, List.getElem?_eq_getElem (show c < (adds H X).length by omega)]
theorem AddU.drew {W5 W : World} {gh : Nat} {H X : List Int} {c : Nat} (h : AddU W5 gh H X c W) : AddU W5 gh H X c W.drew := ⟨h.keep.drew, h.blk⟩
set_option maxRecDepth 100000 in
set_option maxHeartbeats 6400000 in
theorem turned_any (H B : List Int) (hH8 : H.length = 8) (hHW : Ws H) (hB64 : B.length = 64) (hBB : Bs B) (w : World) :
    Calls Try.prog 78 #[.agg (u32s H).toArray, .agg (nums B).toArray] w fun e w' => e = .returned (.agg (u32s (turn H B)).toArray) ∧ Below w.heap.size w w' := by
  have hu8 := Try.underlying108
  have hu64 := Try.underlying141
  have hub := Try.underlying109
  have h0 : TurnI w H B 0 ((((w.alloc (.cells (u32s H).toArray 108 (0, 0))).alloc (.cells (nums B).toArray 109 (0, 0))).alloc (.cells (u32s (List.replicate 8 0)).toArray 108 (0, 0))).alloc (.cells (wdAt B 0) 141 (0, 0))) := by
    refine ⟨?_, get_below (get_below (get_below (get_top rfl))), get_below (get_below (get_top (by simp))), get_below (get_top (by simp)), get_top (by simp)⟩
    exact ((((Below.refl _ w).alloc (Nat.le_refl _) _).alloc (by simp) _).alloc (by simp; omega) _).alloc (by simp; omega) _
  have HI0 := Lib.hid h0
  have H8 := Lib.hid hH8
  have HW := Lib.hid hHW
  have B64 := Lib.hid hB64
  have BB := Lib.hid hBB
  clear h0 hH8 hHW hB64 hBB
  go_enter Try.func78, Try.ntmps78
  go_wp2_with fail
  go_loopg [16] 16 (fun j i wr => ∃ k : Nat, j + k = 16 ∧ i = .int .i64 (k : Int) ∧ TurnI w H B k wr)
  case atStart => exact ⟨0, rfl, rfl, HI0.out⟩
  case round =>
    obtain ⟨k, hk, rfl, hI⟩ := hrel
    have HI := Lib.hid hI
    clear hI HI0
    by_cases hk16 : k < 16
    · have hb := fun j (hj : j < 64) => (blk_cell HI.out.bb j).trans (nums_get (by rw [B64.out]; exact hj))
      have k0 := hb (4 * k) (by omega)
      have k1 := hb (4 * k + 1) (by omega)
      have k2 := hb (4 * k + 2) (by omega)
      have k3 := hb (4 * k + 3) (by omega)
      have g0 := BB.out.get (4 * k)
      have g1 := BB.out.get (4 * k + 1)
      have g2 := BB.out.get (4 * k + 2)
      have g3 := BB.out.get (4 * k + 3)
      have hy := nextW_early (b := B) (wd_length B k) hk16
      obtain ⟨y0, e0⟩ : ∃ y, y = B.getD (4 * k) 0 := ⟨_, rfl⟩
      obtain ⟨y1, e1⟩ : ∃ y, y = B.getD (4 * k + 1) 0 := ⟨_, rfl⟩
      obtain ⟨y2, e2⟩ : ∃ y, y = B.getD (4 * k + 2) 0 := ⟨_, rfl⟩
      obtain ⟨y3, e3⟩ : ∃ y, y = B.getD (4 * k + 3) 0 := ⟨_, rfl⟩
      rw [← e0] at k0 g0 hy
      rw [← e1] at k1 g1 hy
      rw [← e2] at k2 g2 hy
      rw [← e3] at k3 g3 hy
      have kw := (blk_cell HI.out.ww k).trans (wdAt_zero B k (by omega))
      have kf := blk_frozen HI.out.ww k
      have HY := Lib.hid hy
      have G0 := Lib.hid g0
      have G1 := Lib.hid g1
      have G2 := Lib.hid g2
      have G3 := Lib.hid g3
      have i1 : (0 : Int) ≤ 4 * (k : Int) := by omega
      have i2 : 4 * (k : Int) < 64 := by omega
      have i3 : 4 * (k : Int) + 1 < 64 := by omega
      have i4 : 4 * (k : Int) + 2 < 64 := by omega
      have i5 : 4 * (k : Int) + 3 < 64 := by omega
      have i6 : (4 * (k : Int)).toNat = 4 * k := by omega
      have i7 : (4 * (k : Int) + 1).toNat = 4 * k + 1 := by omega
      have i8 : (4 * (k : Int) + 2).toNat = 4 * k + 2 := by omega
      have i9 : (4 * (k : Int) + 3).toNat = 4 * k + 3 := by omega
      have iA : (0 : Int) ≤ 4 * (k : Int) + 1 := by omega
      have iB : (0 : Int) ≤ 4 * (k : Int) + 2 := by omega
      have iC : (0 : Int) ≤ 4 * (k : Int) + 3 := by omega
      have w0 : IntKind.i64.wrap (4 * (k : Int)) = 4 * (k : Int) := IntWalk.i64_in _ (by omega)
      have w1 : IntKind.i64.wrap (4 * (k : Int) + 1) = 4 * (k : Int) + 1 := IntWalk.i64_in _ (by omega)
      have w2 : IntKind.i64.wrap (4 * (k : Int) + 2) = 4 * (k : Int) + 2 := IntWalk.i64_in _ (by omega)
      have w3 : IntKind.i64.wrap (4 * (k : Int) + 3) = 4 * (k : Int) + 3 := IntWalk.i64_in _ (by omega)
      obtain ⟨c0, c1, c2, c3, z0, z1, z2, v1, v2, vv, d0, d1, d2, d3, d4, d5, hv⟩ := orSum g0 g1 g2 g3
      have hp := HI.out.put (by omega : k < 64) vv (by rw [hv, hy])
      have HP := Lib.hid hp
      have iD : (0 : Int) ≤ (k : Int) := by omega
      have iE : (k : Int) < 64 := by omega
      clear hb hy g0 g1 g2 g3 e0 e1 e2 e3 hv hp
      go_wp2_with fail
      go_still_tail 31, (by kernel_rfl)
      change wpList _ _ _ _ _ wr.drew
      go_wp2_with fail
      go_roundg (gk - 1)
      case measure => omega
      case rel => exact ⟨k + 1, by omega, by go_num, HP.out.drew⟩
    · obtain rfl : k = 16 := by omega
      clear hk hk16
      go_wp2_with fail
      have HI16 := Lib.hid HI.out
      clear HI
      go_loopg [7] 48 (fun j i wr => ∃ n : Nat, j + n = 64 ∧ 16 ≤ n ∧ i = .int .i64 (n : Int) ∧ TurnI w H B n wr)
      case atStart => exact ⟨16, rfl, by omega, rfl, HI16.out⟩
      case round =>
        clear HI16
        obtain ⟨n, hn, hn16, rfl, hI⟩ := hrel
        have HI := Lib.hid hI
        clear hI
        by_cases hn64 : n < 64
        · have hw := fun j (hj : j < n) => (blk_cell HI.out.ww j).trans (wdAt_get B n j hj)
          have c15 := hw (n - 15) (by omega)
          have c2 := hw (n - 2) (by omega)
          have c16 := hw (n - 16) (by omega)
          have c7 := hw (n - 7) (by omega)
          have hWW := wd_w BB.out n
          have g15 := hWW.get (n - 15)
          have g2 := hWW.get (n - 2)
          have g16 := hWW.get (n - 16)
          have g7 := hWW.get (n - 7)
          have hy := nextW_late (b := B) (wd_length B n) hn16
          obtain ⟨x15, e15⟩ : ∃ y, y = (wd B n).getD (n - 15) 0 := ⟨_, rfl⟩
          obtain ⟨x2, e2⟩ : ∃ y, y = (wd B n).getD (n - 2) 0 := ⟨_, rfl⟩
          obtain ⟨x16, e16⟩ : ∃ y, y = (wd B n).getD (n - 16) 0 := ⟨_, rfl⟩
          obtain ⟨x7, e7⟩ : ∃ y, y = (wd B n).getD (n - 7) 0 := ⟨_, rfl⟩
          rw [← e15] at c15 g15 hy
          rw [← e2] at c2 g2 hy
          rw [← e16] at c16 g16 hy
          rw [← e7] at c7 g7 hy
          obtain ⟨a1, a2, b1, b2, s1, s2, vv, f1, f2, f3, f4, f5, f6, f7, hv⟩ := wSum g15 g2 g16 g7
          have hp := HI.out.put hn64 vv (by rw [hv, hy])
          have HP := Lib.hid hp
          have kw := (blk_cell HI.out.ww n).trans (wdAt_zero B n hn64)
          have kf := blk_frozen HI.out.ww n
          have r7 := right32_any x15 g15 7 (by omega) (by omega)
          have r18 := right32_any x15 g15 18 (by omega) (by omega)
          have r17 := right32_any x2 g2 17 (by omega) (by omega)
          have r19 := right32_any x2 g2 19 (by omega) (by omega)
          simp only [Int.cast_ofNat_Int] at r7 r18 r17 r19
          have R7 := Lib.hid r7
          have R18 := Lib.hid r18
          have R17 := Lib.hid r17
          have R19 := Lib.hid r19
          have i1 : (0 : Int) ≤ (n : Int) - 15 := by omega
          have i2 : (0 : Int) ≤ (n : Int) - 2 := by omega
          have i3 : (0 : Int) ≤ (n : Int) - 16 := by omega
          have i4 : (0 : Int) ≤ (n : Int) - 7 := by omega
          have m15 : (15 : Int) ≤ (n : Int) := by omega
          have m2 : (2 : Int) ≤ (n : Int) := by omega
          have m16 : (16 : Int) ≤ (n : Int) := by omega
          have m7 : (7 : Int) ≤ (n : Int) := by omega
          have j1 : (n : Int) - 15 < 64 := by omega
          have j2 : (n : Int) - 2 < 64 := by omega
          have j3 : (n : Int) - 16 < 64 := by omega
          have j4 : (n : Int) - 7 < 64 := by omega
          have iD : (0 : Int) ≤ (n : Int) := by omega
          have iE : (n : Int) < 64 := by omega
          have t1 : ((n : Int) - 15).toNat = n - 15 := by omega
          have t2 : ((n : Int) - 2).toNat = n - 2 := by omega
          have t3 : ((n : Int) - 16).toNat = n - 16 := by omega
          have t4 : ((n : Int) - 7).toNat = n - 7 := by omega
          have w1 : IntKind.i64.wrap ((n : Int) - 15) = (n : Int) - 15 := IntWalk.i64_in _ (by omega)
          have w2 : IntKind.i64.wrap ((n : Int) - 2) = (n : Int) - 2 := IntWalk.i64_in _ (by omega)
          have w3 : IntKind.i64.wrap ((n : Int) - 16) = (n : Int) - 16 := IntWalk.i64_in _ (by omega)
          have w4 : IntKind.i64.wrap ((n : Int) - 7) = (n : Int) - 7 := IntWalk.i64_in _ (by omega)
          clear hw hWW g15 g2 g16 g7 hy e15 e2 e16 e7 hv hp r7 r18 r17 r19
          go_wp2_with fail
          go_quiet ((first | (go_at_call 79; (with_reducible refine (R7.out _).mono ?_); rintro e w' ⟨rfl, nd, rfl⟩; exact ⟨rfl, _, World.drewN_drewN _ _ _⟩) | (go_at_call 79; (with_reducible refine (R18.out _).mono ?_); rintro e w' ⟨rfl, nd, rfl⟩; exact ⟨rfl, _, World.drewN_drewN _ _ _⟩)))
          obtain ⟨W1, hW1⟩ : ∃ Wz, wr.drewN nq = Wz := ⟨_, rfl⟩
          rw [hW1]
          have c2 : W1.cell? ⟨w.heap.size + 1 + 1 + 1, n - 2, none⟩ = some (.int .u32 x2) := by rw [← hW1]; exact c2
          have c16 : W1.cell? ⟨w.heap.size + 1 + 1 + 1, n - 16, none⟩ = some (.int .u32 x16) := by rw [← hW1]; exact c16
          have c7 : W1.cell? ⟨w.heap.size + 1 + 1 + 1, n - 7, none⟩ = some (.int .u32 x7) := by rw [← hW1]; exact c7
          have kw : W1.cell? ⟨w.heap.size + 1 + 1 + 1, n, none⟩ = some (.int .u32 0) := by rw [← hW1]; exact kw
          have kf : W1.frozen? ⟨w.heap.size + 1 + 1 + 1, n, none⟩ = false := by rw [← hW1]; exact kf
          have HP := Lib.hid (show TurnI w H B (n + 1) (W1.setCell ⟨w.heap.size + 1 + 1 + 1, n, none⟩ (.int .u32 vv)) by rw [← hW1]; exact HP.out.drewN nq)
          clear hW1
          go_wp2_with fail
          go_quiet ((first | (go_at_call 79; (with_reducible refine (R17.out _).mono ?_); rintro e w' ⟨rfl, nd, rfl⟩; exact ⟨rfl, _, World.drewN_drewN _ _ _⟩) | (go_at_call 79; (with_reducible refine (R19.out _).mono ?_); rintro e w' ⟨rfl, nd, rfl⟩; exact ⟨rfl, _, World.drewN_drewN _ _ _⟩)))
          obtain ⟨W2, hW1⟩ : ∃ Wz, W1.drewN nq = Wz := ⟨_, rfl⟩
          rw [hW1]
          have c2 : W2.cell? ⟨w.heap.size + 1 + 1 + 1, n - 2, none⟩ = some (.int .u32 x2) := by rw [← hW1]; exact c2
          have c16 : W2.cell? ⟨w.heap.size + 1 + 1 + 1, n - 16, none⟩ = some (.int .u32 x16) := by rw [← hW1]; exact c16
          have c7 : W2.cell? ⟨w.heap.size + 1 + 1 + 1, n - 7, none⟩ = some (.int .u32 x7) := by rw [← hW1]; exact c7
          have kw : W2.cell? ⟨w.heap.size + 1 + 1 + 1, n, none⟩ = some (.int .u32 0) := by rw [← hW1]; exact kw
          have kf : W2.frozen? ⟨w.heap.size + 1 + 1 + 1, n, none⟩ = false := by rw [← hW1]; exact kf
          have HP := Lib.hid (show TurnI w H B (n + 1) (W2.setCell ⟨w.heap.size + 1 + 1 + 1, n, none⟩ (.int .u32 vv)) by rw [← hW1]; exact HP.out.drewN nq)
          clear hW1
          go_wp2_with fail
          go_still_tail 15, (by kernel_rfl)
          change wpList _ _ _ _ _ W2.drew
          go_wp2_with fail
          go_roundg (gk - 1)
          case measure => omega
          case rel => exact ⟨n + 1, by omega, by omega, by go_num, HP.out.drew⟩
        · obtain rfl : n = 64 := by omega
          clear hn hn16 hn64
          have HI64 := Lib.hid HI.out
          clear HI
          go_wp2_with fail
          refine (constants_any _).mono ?_
          rintro e W3 ⟨rfl, hb⟩
          have HT3 := Lib.hid (HI64.out.below hb)
          clear hb HI64
          go_wp2_with (first | (refine wpList_store_row (by rfl) 141 _ _ (by rfl) W3.heap.size (u32s shaK).toArray (u32s (List.replicate 64 0)).toArray 141 (by rfl) (by rfl) (get_top rfl) rfl infoK (u32s_oneCell _) ?_; intro W4 hW4 hK4; have HT4 := Lib.hid (HT3.out.below (((Below.refl _ W3).alloc (Nat.le_refl _) _).trans (hK4.below (by simp) (by intro i hi; omega)))); have HK4 := Lib.hid hW4; clear hW4 hK4) | (refine wpList_load_row (by rfl) 108 _ (by rfl) w.heap.size (by rfl) 108 _ (0, 0) _ HT4.out.hh Try.underlying108 rfl (by rw [infoH]; simp [u32s_length, H8.out]) ?_) | (refine wpList_store_row (by rfl) 108 _ _ (by rfl) W4.heap.size (u32s H).toArray (u32s (List.replicate 8 0)).toArray 108 (by rfl) (by rfl) (get_top rfl) (by simp [u32s_length, H8.out]) (by rw [infoH]; simp [u32s_length, H8.out]) (u32s_oneCell _) ?_; intro W5 hW5 hK5; have HT5 := Lib.hid (HT4.out.below (((Below.refl _ W4).alloc (Nat.le_refl _) _).trans (hK5.below (by simp) (by intro i hi; omega)))); have HK5 := Lib.hid (hK5.at_ (get_below HK4.out) (by have := blk_lt HK4.out; omega)); have HS5 := Lib.hid hW5; clear hW5 hK5))
          obtain ⟨gk0, hgk0⟩ : ∃ g, g = W3.heap.size := ⟨_, rfl⟩
          obtain ⟨gs, hgs⟩ : ∃ g, g = W4.heap.size := ⟨_, rfl⟩
          have hR0 : RdsI w H B gk0 gs 0 W5 := by
            have a := blk_lt HT3.out.ww
            have b := blk_lt HK4.out
            rw [hgk0, hgs]
            exact ⟨HT5.out, HK5.out, HS5.out, a, b⟩
          rw [← hgk0, ← hgs]
          have HR0 := Lib.hid hR0
          clear hR0 hgk0 hgs HT3 HT4 HT5 HK4 HK5 HS5
          have hwW := wd_w BB.out 64
          have hwl := wd_length B 64
          obtain ⟨ws, hws⟩ : ∃ ws, ws = wd B 64 := ⟨_, rfl⟩
          rw [← hws] at hwW hwl
          have HWS := Lib.hid hws
          have HWW := Lib.hid hwW
          have HWL := Lib.hid hwl
          clear hws hwW hwl
          go_loopg [106] 64 (fun j i wr => ∃ n : Nat, j + n = 64 ∧ i = .int .i64 (n : Int) ∧ RdsI w H B gk0 gs n wr)
          case atStart => exact ⟨0, rfl, rfl, HR0.out⟩
          case round =>
            clear HR0
            obtain ⟨n, hn, rfl, hR⟩ := hrel
            have HR := Lib.hid hR
            clear hR
            by_cases hn64 : n < 64
            · obtain ⟨x0, x1, x2, x3, x4, x5, x6, x7, hx⟩ := eight32 (rnds ws H n) (rnds_length H8.out ws n)
              have hxw := rnds_w HW.out ws n
              rw [hx] at hxw
              have v0 := hxw x0 (by simp)
              have v1 := hxw x1 (by simp)
              have v2 := hxw x2 (by simp)
              have v3 := hxw x3 (by simp)
              have v4 := hxw x4 (by simp)
              have v5 := hxw x5 (by simp)
              have v6 := hxw x6 (by simp)
              have v7 := hxw x7 (by simp)
              obtain ⟨kk, hkk⟩ : ∃ kk, kk = shaK.getD n 0 := ⟨_, rfl⟩
              obtain ⟨vv, hvv⟩ : ∃ vv, vv = ws.getD n 0 := ⟨_, rfl⟩
              have hkw : W32 kk := by rw [hkk]; exact Ws.get (by unfold Ws W32; decide) n
              have hvw : W32 vv := by rw [hvv]; exact HWW.out.get n
              have ck : wr.cell? ⟨gk0, n, none⟩ = some (.int .u32 kk) := by rw [hkk]; exact (blk_cell HR.out.kk n).trans (u32s_get hn64)
              have cw : wr.cell? ⟨w.heap.size + 1 + 1 + 1, n, none⟩ = some (.int .u32 vv) := by rw [hvv, HWS.out]; exact (blk_cell HR.out.ti.ww n).trans (wdAt_get B 64 n hn64)
              have hss := HR.out.ss
              rw [← HWS.out, hx] at hss
              have HSS := Lib.hid (show wr.heap[gs]? = some (.cells #[.int .u32 x0, .int .u32 x1, .int .u32 x2, .int .u32 x3, .int .u32 x4, .int .u32 x5, .int .u32 x6, .int .u32 x7] 108 (0, 0)) from hss)
              have q0 : wr.cell? ⟨gs, 0, none⟩ = some (.int .u32 x0) := (blk_cell HSS.out 0).trans rfl
              have q1 : wr.cell? ⟨gs, 1, none⟩ = some (.int .u32 x1) := (blk_cell HSS.out 1).trans rfl
              have q2 : wr.cell? ⟨gs, 2, none⟩ = some (.int .u32 x2) := (blk_cell HSS.out 2).trans rfl
              have q3 : wr.cell? ⟨gs, 3, none⟩ = some (.int .u32 x3) := (blk_cell HSS.out 3).trans rfl
              have q4 : wr.cell? ⟨gs, 4, none⟩ = some (.int .u32 x4) := (blk_cell HSS.out 4).trans rfl
              have q5 : wr.cell? ⟨gs, 5, none⟩ = some (.int .u32 x5) := (blk_cell HSS.out 5).trans rfl
              have q6 : wr.cell? ⟨gs, 6, none⟩ = some (.int .u32 x6) := (blk_cell HSS.out 6).trans rfl
              have q7 : wr.cell? ⟨gs, 7, none⟩ = some (.int .u32 x7) := (blk_cell HSS.out 7).trans rfl
              obtain ⟨y1, y2, s1, y3, y4, y5, y6, e1, e2, e3, e4, e5, e6, e7, htt⟩ := tSum32 v4 v5 v6 v7 hkw hvw
              obtain ⟨z1, z2, z3, z4, z5, z6, z7, uu, f1, f2, f3, f4, f5, f6, f7, f8, huu⟩ := uSum32 v0 v1 v2
              have r6 := right32_any x4 v4 6 (by omega) (by omega)
              have r11 := right32_any x4 v4 11 (by omega) (by omega)
              have r25 := right32_any x4 v4 25 (by omega) (by omega)
              have r2 := right32_any x0 v0 2 (by omega) (by omega)
              have r13 := right32_any x0 v0 13 (by omega) (by omega)
              have r22 := right32_any x0 v0 22 (by omega) (by omega)
              simp only [Int.cast_ofNat_Int] at r6 r11 r25 r2 r13 r22
              have R6 := Lib.hid r6
              have R11 := Lib.hid r11
              have R25 := Lib.hid r25
              have R2 := Lib.hid r2
              have R13 := Lib.hid r13
              have R22 := Lib.hid r22
              have hnext : rnds ws H (n + 1) = [(s1 + y6 + kk + vv + uu) % 4294967296, x0, x1, x2, (x3 + (s1 + y6 + kk + vv)) % 4294967296, x4, x5, x6] := by
                have a4 : (x7 + bs1 x4 + chs x4 x5 x6 + kk + vv + (bs0 x0 + mjs x0 x1 x2)) % 4294967296 = (s1 + y6 + kk + vv + uu) % 4294967296 := by omega
                have a5 : (x3 + (x7 + bs1 x4 + chs x4 x5 x6 + kk + vv)) % 4294967296 = (x3 + (s1 + y6 + kk + vv)) % 4294967296 := by omega
                rw [rnds, hx, ← hkk, ← hvv, rnd]
                simp only [List.getD_cons_zero, List.getD_cons_succ]
                rw [a4, a5]
              have HNX := Lib.hid hnext
              have iD : (0 : Int) ≤ (n : Int) := by omega
              have iE : (n : Int) < 64 := by omega
              clear hx hxw v0 v1 v2 v3 v4 v5 v6 v7 hkk hvv hkw hvw hss htt huu r6 r11 r25 r2 r13 r22 hnext
              go_wp2_with fail
              go_quiet ((first | (go_at_call 79; (with_reducible refine (R6.out _).mono ?_); rintro e w' ⟨rfl, nd, rfl⟩; exact ⟨rfl, _, World.drewN_drewN _ _ _⟩) | (go_at_call 79; (with_reducible refine (R11.out _).mono ?_); rintro e w' ⟨rfl, nd, rfl⟩; exact ⟨rfl, _, World.drewN_drewN _ _ _⟩) | (go_at_call 79; (with_reducible refine (R25.out _).mono ?_); rintro e w' ⟨rfl, nd, rfl⟩; exact ⟨rfl, _, World.drewN_drewN _ _ _⟩)))
              obtain ⟨V1, hW1⟩ : ∃ Wz, wr.drewN nq = Wz := ⟨_, rfl⟩
              rw [hW1]
              have HSS := Lib.hid (show V1.heap[gs]? = some (.cells #[.int .u32 x0, .int .u32 x1, .int .u32 x2, .int .u32 x3, .int .u32 x4, .int .u32 x5, .int .u32 x6, .int .u32 x7] 108 (0, 0)) by rw [← hW1]; exact HSS.out)
              have HR := Lib.hid (show RdsI w H B gk0 gs n V1 by rw [← hW1]; exact HR.out.drewN nq)
              clear hW1
              have q0 : V1.cell? ⟨gs, 0, none⟩ = some (.int .u32 x0) := (blk_cell HSS.out 0).trans rfl
              have q1 : V1.cell? ⟨gs, 1, none⟩ = some (.int .u32 x1) := (blk_cell HSS.out 1).trans rfl
              have q2 : V1.cell? ⟨gs, 2, none⟩ = some (.int .u32 x2) := (blk_cell HSS.out 2).trans rfl
              have q3 : V1.cell? ⟨gs, 3, none⟩ = some (.int .u32 x3) := (blk_cell HSS.out 3).trans rfl
              have q4 : V1.cell? ⟨gs, 4, none⟩ = some (.int .u32 x4) := (blk_cell HSS.out 4).trans rfl
              have q5 : V1.cell? ⟨gs, 5, none⟩ = some (.int .u32 x5) := (blk_cell HSS.out 5).trans rfl
              have q6 : V1.cell? ⟨gs, 6, none⟩ = some (.int .u32 x6) := (blk_cell HSS.out 6).trans rfl
              have q7 : V1.cell? ⟨gs, 7, none⟩ = some (.int .u32 x7) := (blk_cell HSS.out 7).trans rfl
              go_wp2_with fail
              go_quiet ((first | (go_at_call 79; (with_reducible refine (R2.out _).mono ?_); rintro e w' ⟨rfl, nd, rfl⟩; exact ⟨rfl, _, World.drewN_drewN _ _ _⟩) | (go_at_call 79; (with_reducible refine (R13.out _).mono ?_); rintro e w' ⟨rfl, nd, rfl⟩; exact ⟨rfl, _, World.drewN_drewN _ _ _⟩) | (go_at_call 79; (with_reducible refine (R22.out _).mono ?_); rintro e w' ⟨rfl, nd, rfl⟩; exact ⟨rfl, _, World.drewN_drewN _ _ _⟩)))
              obtain ⟨V2, hW1⟩ : ∃ Wz, V1.drewN nq = Wz := ⟨_, rfl⟩
              rw [hW1]
              have HSS := Lib.hid (show V2.heap[gs]? = some (.cells #[.int .u32 x0, .int .u32 x1, .int .u32 x2, .int .u32 x3, .int .u32 x4, .int .u32 x5, .int .u32 x6, .int .u32 x7] 108 (0, 0)) by rw [← hW1]; exact HSS.out)
              have HR := Lib.hid (show RdsI w H B gk0 gs n V2 by rw [← hW1]; exact HR.out.drewN nq)
              clear hW1
              have q0 : V2.cell? ⟨gs, 0, none⟩ = some (.int .u32 x0) := (blk_cell HSS.out 0).trans rfl
              have q1 : V2.cell? ⟨gs, 1, none⟩ = some (.int .u32 x1) := (blk_cell HSS.out 1).trans rfl
              have q2 : V2.cell? ⟨gs, 2, none⟩ = some (.int .u32 x2) := (blk_cell HSS.out 2).trans rfl
              have q3 : V2.cell? ⟨gs, 3, none⟩ = some (.int .u32 x3) := (blk_cell HSS.out 3).trans rfl
              have q4 : V2.cell? ⟨gs, 4, none⟩ = some (.int .u32 x4) := (blk_cell HSS.out 4).trans rfl
              have q5 : V2.cell? ⟨gs, 5, none⟩ = some (.int .u32 x5) := (blk_cell HSS.out 5).trans rfl
              have q6 : V2.cell? ⟨gs, 6, none⟩ = some (.int .u32 x6) := (blk_cell HSS.out 6).trans rfl
              have q7 : V2.cell? ⟨gs, 7, none⟩ = some (.int .u32 x7) := (blk_cell HSS.out 7).trans rfl
              clear e1 e2 e3 e4 e5 e6 e7 f1 f2 f3 f4 f5 f6 f7 f8 R6 R11 R25 R2 R13 R22
              go_wp2_with (first | (refine wpList_store_row (by rfl) 108 _ _ (by rfl) gs #[.int .u32 ((s1 + y6 + kk + vv + uu) % 4294967296), .int .u32 x0, .int .u32 x1, .int .u32 x2, .int .u32 ((x3 + (s1 + y6 + kk + vv)) % 4294967296), .int .u32 x4, .int .u32 x5, .int .u32 x6] #[.int .u32 x0, .int .u32 x1, .int .u32 x2, .int .u32 x3, .int .u32 x4, .int .u32 x5, .int .u32 x6, .int .u32 x7] 108 (by rfl) (by rfl) HSS.out rfl infoH (by simp [Value.oneCell']) ?_; intro V3 hV3 hK3; have HV3 := Lib.hid (HR.out.put hK3 (by rw [hV3, ← HWS.out, HNX.out]; rfl)); clear hV3 hK3))
              go_roundg (gk - 1)
              case measure => omega
              case rel => exact ⟨n + 1, by omega, by go_num, HV3.out⟩
            · obtain rfl : n = 64 := by omega
              clear hn hn64
              obtain ⟨X, hX⟩ : ∃ X, X = rnds ws H 64 := ⟨_, rfl⟩
              have hX8 : X.length = 8 := by rw [hX]; exact rnds_length H8.out ws 64
              have hss := HR.out.ss
              rw [← HWS.out, ← hX] at hss
              have hT : turn H B = adds H X := by rw [turn, hX, HWS.out]
              obtain ⟨W5, hW5⟩ : ∃ W5, W5 = wr := ⟨_, rfl⟩
              have HA0 := Lib.hid (show AddU W5 w.heap.size H X 0 wr from by rw [hW5]; exact ⟨Keeps.refl _ _, by rw [List.take_zero, List.nil_append, List.drop_zero]; exact HR.out.ti.hh⟩)
              rw [← hW5] at hss
              have HSX := Lib.hid hss
              have HX8 := Lib.hid hX8
              have HT := Lib.hid hT
              have HGS := Lib.hid (show w.heap.size < gs from by have := HR.out.gtk; have := HR.out.gts; omega)
              have HRR := Lib.hid (show W5.heap[w.heap.size + 1 + 1]? = some (.cells (u32s (List.replicate 8 0)).toArray 108 (0, 0)) from by rw [hW5]; exact HR.out.ti.rr)
              have HBE := Lib.hid (show Below w.heap.size w W5 from by rw [hW5]; exact HR.out.ti.bel)
              have HTL := Lib.hid (turn_length H8.out B)
              clear hX hX8 hss hT HR hW5
              go_wp2_with fail
              go_loopg [194] 8 (fun j i wr => ∃ c : Nat, j + c = 8 ∧ i = .int .i64 (c : Int) ∧ AddU W5 w.heap.size H X c wr)
              case atStart => exact ⟨0, rfl, rfl, HA0.out⟩
              case round =>
                clear HA0
                obtain ⟨c, hc, rfl, hA⟩ := hrel
                by_cases hc8 : c < 8
                · have k1 := hA.at_ H8.out HX8.out hc8
                  have k2 := (hA.keep.cell (p := ⟨gs, c, none⟩) (blk_lt HSX.out) (by have := HGS.out; simp; omega)).trans ((blk_cell HSX.out c).trans (u32s_get (by rw [HX8.out]; exact hc8)))
                  have kf := blk_frozen hA.blk c
                  have hg := addu_get H8.out HX8.out c hc8
                  obtain ⟨a, ha⟩ : ∃ a, a = H.getD c 0 := ⟨_, rfl⟩
                  obtain ⟨b, hb⟩ : ∃ b, b = X.getD c 0 := ⟨_, rfl⟩
                  rw [← ha] at k1 hg
                  rw [← hb] at k2 hg
                  have hp := hA.put H8.out HX8.out hc8 ((a + b) % 4294967296) hg.symm
                  have HP := Lib.hid hp
                  have q5 : (c : Int) < 8 := by omega
                  have q7 : (0 : Int) ≤ (c : Int) := by omega
                  clear ha hb hp hg hA
                  go_wp2_with fail
                  go_still_tail 8, (by kernel_rfl)
                  change wpList _ _ _ _ _ wr.drew
                  go_wp2_with fail
                  go_roundg (gk - 1)
                  case measure => omega
                  case rel => exact ⟨c + 1, by omega, by go_num, HP.out.drew⟩
                · obtain rfl : c = 8 := by omega
                  have hf := hA.blk
                  have hal := addu_length H8.out HX8.out
                  rw [List.take_of_length_le (by omega), List.drop_of_length_le (by rw [H8.out]; omega), List.append_nil, ← HT.out] at hf
                  have HF := Lib.hid hf
                  have HRR2 := Lib.hid (hA.keep.at_ HRR.out (by omega))
                  have HBE2 := Lib.hid (HBE.out.trans (hA.keep.below HBE.out.size (by intro i hi; omega)))
                  clear hA hc hc8 hf hal HRR HBE HSX
                  go_wp2_with (first | (refine wpList_load_row (by rfl) 108 _ (by rfl) w.heap.size (by rfl) 108 _ (0, 0) _ HF.out Try.underlying108 rfl (by rw [infoH]; simp [u32s_length, HTL.out]) ?_) | (refine wpList_store_row (by rfl) 108 _ _ (by rfl) (w.heap.size + 1 + 1) (u32s (turn H B)).toArray (u32s (List.replicate 8 0)).toArray 108 (by rfl) (by rfl) HRR2.out (by simp [u32s_length, HTL.out]) (by rw [infoH]; simp [u32s_length, HTL.out]) (u32s_oneCell _) ?_; intro W6 hW6 hK6; have HW6 := Lib.hid hW6; have HK6 := Lib.hid hK6; clear hW6 hK6))
                  refine bodyPost_row rfl (w.heap.size + 1 + 1) 108 (u32s (turn H B)).toArray (0, 0) _ (by rfl) HW6.out Try.underlying108 rfl (by rw [infoH]; simp [u32s_length, HTL.out]) rfl ?_
                  exact ⟨rfl, HBE2.out.trans (HK6.out.below HBE2.out.size (by intro i hi; omega))⟩
def splc {α : Type} (L : List α) (o : Nat) (cs : List α) : List α := L.take o ++ (cs ++ L.drop (o + cs.length))
theorem splc_length {α : Type} (L : List α) (o : Nat) (cs : List α) (h : o + cs.length ≤ L.length) : (splc L o cs).length = L.length := by simp [splc]; omega
theorem midRange {W : World} {g : Nat} {a b c : List Value} {t : TypeId} {fr : Nat × Nat} (h : W.heap[g]? = some (.cells (a ++ (b ++ c)).toArray t fr)) {o : Nat} (ho : a.length = o) : W.rangeAt g o b := by
  subst ho
  intro j v hv
  have hj : j < b.length := (List.getElem?_eq_some_iff.1 hv).1
  rw [blk_cell h, List.getElem?_toArray, List.getElem?_append_right (by omega), Nat.add_sub_cancel_left, List.getElem?_append_left hj, hv]
theorem midThere {W : World} {g : Nat} {L : List Value} {t : TypeId} (h : W.heap[g]? = some (.cells L.toArray t (0, 0))) {o n : Nat} (hn : o + n ≤ L.length) : W.there g o n := fun j hj => by
  rw [blk_cell h]
  exact ⟨by simp; omega, blk_frozen h _⟩
theorem setMid {W : World} {g : Nat} {L : List Value} {t : TypeId} {fr : Nat × Nat} (h : W.heap[g]? = some (.cells L.toArray t fr)) (o : Nat) (cs : List Value) (hl : o + cs.length ≤ L.length) : (W.setCells g o cs).heap[g]? = some (.cells (splc L o cs).toArray t fr) := by
  obtain ⟨cur', h1, h2, h3⟩ := setCells_heap g cs o W L.toArray t fr h (by simpa using hl)
  rw [h1]
  congr 2
  apply Array.ext'
  rw [h3]
  simp [splc]
theorem setCells_keeps_at (w : World) (g o : Nat) (vs : List Value) : Keeps (fun i => i = g) w (w.setCells g o vs) := Keeps.of_grown (setCells_grown g vs o w) (fun k hk => (Option.some.inj hk).symm)
/-- copy(dst, s) of a text's bytes. -/
theorem run_copy_str {P : Program} (w : World) (dT sT ty elem : TypeId) (g o dLen dCap : Nat) (s : ByteArray) (L : List Value) (t : TypeId)
    (hu : P.underlying dT = some (.slice elem)) (hs : (P.info? elem).map (·.size) = some 1) (hg : w.heap[g]? = some (.cells L.toArray t (0, 0))) (hfit : o + min s.size dLen ≤ L.length) :
    (Builtin.copy_ #[dT, sT] ty #[.slice (some ⟨g, o, none⟩) dLen dCap, .string s]).run P w = .ok (goInt (min s.size dLen : Nat)) (w.setCells g o (nums ((bytesOf s).take (min s.size dLen)))) := by
  have hc : ∀ n : Nat, ((s.extract 0 n).data.map fun b => Value.int .u8 b.toNat).toList = nums ((bytesOf s).take n) := fun n => by
    rw [Array.toList_map, Lib.extract_data, nums, bytesOf]
    simp only [Nat.sub_zero, List.drop_zero, List.map_take, List.map_map]
    rfl
  have hlen : (nums ((bytesOf s).take (min s.size dLen))).length = min s.size dLen := by
    rw [nums_length, List.length_take, bytesOf_length]
    omega
  have hst := run_storeCells_cells (P := P) g o (nums ((bytesOf s).take (min s.size dLen))) 0 w
    (fun j hj => by rw [Nat.add_zero]; exact ((midThere hg (o := o) (n := min s.size dLen) (by omega)) j (by omega)).1)
    (fun j hj => by rw [Nat.add_zero]; exact ((midThere hg (o := o) (n := min s.size dLen) (by omega)) j (by omega)).2) (nums_one _)
  simp only [Nat.add_zero] at hst
  cases hq : P.info? elem with
  | none => simp [hq] at hs
  | some i =>
    have hn : Nat.min s.size dLen = min s.size dLen := rfl
    have hsz : (sizeOf elem).run P w = .ok i.size w := by simp [sizeOf, typeInfo, hq]
    simp only [Builtin.copy_, Builtin.lenOf, Builtin.firstCells, hsz, Sem.run_bind, Sem.run_pure, run_underlying hu, Result.andThen_ok, List.getElem?_toArray, List.getElem?_cons_zero, List.getElem?_cons_succ, hn, hc, hst]
theorem wpList_copy_str {P : Program} {w : World} {ops : Array Oper} {rest : List Oper} {op : Oper} {a : Act} {Q : Exit → Act → World → Prop} (hgd : op.guard = none) (d x : Operand) (dT sT : TypeId)
    (ho : op.op = .call { callee := .builtin .copy, args := #[d, x], argTypes := #[dT, sT] }) (elem : TypeId) (hu : P.underlying dT = some (.slice elem)) (hs : (P.info? elem).map (·.size) = some 1)
    (g o dLen dCap : Nat) (s : ByteArray) (L : List Value) (t : TypeId) (hd : a.eval d = .slice (some ⟨g, o, none⟩) dLen dCap) (hx : a.eval x = .string s) (hg : w.heap[g]? = some (.cells L.toArray t (0, 0)))
    (n : Nat) (hn : n = min s.size dLen) (hfit : o + n ≤ L.length)
    (h : ∀ W : World, W.heap[g]? = some (.cells (splc L o (nums ((bytesOf s).take n))).toArray t (0, 0)) → Keeps (fun i => i = g) w W → wpList P ops Q rest (a.put op.dst (.int .i64 n)) W) : wpList P ops Q (op :: rest) a w := by
  subst hn
  refine wpList_plain hgd fun K hK => ?_
  have hrun := run_copy_str (P := P) w dT sT op.type elem g o dLen dCap s L t hu hs hg hfit
  unfold Oper.wp
  simp only [execOp, ho, resolve, invoke, builtin, Sem.run_bind, Sem.run_pure, Result.andThen_ok, List.map_toArray, List.map_cons, List.map_nil, hd, hx, hrun]
  have hl : (nums ((bytesOf s).take (min s.size dLen))).length = min s.size dLen := by
    rw [nums_length, List.length_take, bytesOf_length]
    omega
  exact hK _ _ (h _ (setMid hg o _ (by omega)) (setCells_keeps_at w g o _))
theorem splc_mid {α : Type} {a b c cs : List α} {k o : Nat} (ha : a.length = k) (hl : o + cs.length ≤ b.length) : splc (a ++ (b ++ c)) (k + o) cs = a ++ (splc b o cs ++ c) := by
  subst ha
  simp only [splc]
  rw [List.take_append, List.take_of_length_le (by omega), Nat.add_sub_cancel_left, List.take_append_of_le_length (by omega), List.append_assoc, Nat.add_assoc, List.drop_append, List.drop_eq_nil_of_le (by omega), Nat.add_sub_cancel_left, List.drop_append_of_le_length hl, List.nil_append]
  simp
theorem splc_head {α : Type} {a b cs : List α} (hl : cs.length = a.length) : splc (a ++ b) 0 cs = cs ++ b := by
  simp [splc, hl]
theorem nums_splc (P : List Int) (o : Nat) (cs : List Int) : nums (splc P o cs) = splc (nums P) o (nums cs) := by
  simp [splc, nums]
theorem splc_take (P : List Int) (o : Nat) (cs : List Int) (hl : o + cs.length ≤ P.length) : (splc P o cs).take (o + cs.length) = P.take o ++ cs := by
  rw [splc, ← List.append_assoc, List.take_append_of_le_length (by simp; omega), List.take_of_length_le (by simp; omega)]
theorem feed_small {cs new P : List Int} {h : Nat} (hh : cs.length % 64 = h) (hP : P.length = 64) (hp : P.take h = cs.drop (64 * (cs.length / 64))) (hn : h + new.length < 64) :
    (cs ++ new).length / 64 = cs.length / 64 ∧ (cs ++ new).length % 64 = h + new.length ∧ shaN (cs ++ new) (cs.length / 64) = shaN cs (cs.length / 64) ∧ (splc P h new).take (h + new.length) = (cs ++ new).drop (64 * (cs.length / 64)) := by
  refine ⟨by simp; omega, by simp; omega, shaN_prefix cs new _ (by omega), ?_⟩
  rw [splc_take P h new (by omega), hp, List.drop_append_of_le_length (by omega)]
theorem feed_full {cs new P : List Int} {h : Nat} (hh : cs.length % 64 = h) (hP : P.length = 64) (hp : P.take h = cs.drop (64 * (cs.length / 64))) (hn : h + new.length = 64) :
    (cs ++ new).length / 64 = cs.length / 64 + 1 ∧ (cs ++ new).length % 64 = 0 ∧ shaN (cs ++ new) (cs.length / 64 + 1) = turn (shaN cs (cs.length / 64)) (splc P h new) ∧ (splc P h new).length = 64 := by
  have h1 : (cs ++ new).length = cs.length + new.length := List.length_append
  have h2 : (splc P h new).length = 64 := by rw [splc_length _ _ _ (by omega), hP]
  refine ⟨by omega, by omega, ?_, h2⟩
  have h3 := splc_take P h new (by omega)
  rw [List.take_of_length_le (by omega), hp] at h3
  rw [shaN, shaN_prefix cs new _ (by omega), h3, List.drop_append_of_le_length (by omega), List.take_of_length_le (by simp; omega)]
/-- A mix's cells: its state, its part, how many of that are held, how many it has taken, that New gave it. -/
def mixC (H P : List Int) (h a : Int) : List Value := u32s H ++ (nums P ++ [.int .i64 h, .int .u64 a, .bool true])
theorem mixC_length {H P : List Int} (hH : H.length = 8) (hP : P.length = 64) (h a : Int) : (mixC H P h a).length = 75 := by simp [mixC, u32s_length, nums_length, hH, hP]
theorem mixC_oneCell (H P : List Int) (h a : Int) : ∀ v ∈ mixC H P h a, v.oneCell' = true := by
  intro v hv
  rw [mixC, List.mem_append, List.mem_append] at hv
  rcases hv with hv | hv | hv
  · exact u32s_oneCell H v hv
  · exact nums_one P v hv
  · simp at hv
    rcases hv with rfl | rfl | rfl <;> rfl
/-- Block g is a mix. -/
structure MixV (W : World) (g : Nat) (H P : List Int) (h a : Int) : Prop where
  blk : W.heap[g]? = some (.cells (mixC H P h a).toArray 112 (0, 0))
  h8 : H.length = 8
  p64 : P.length = 64
theorem mix_tail {H P : List Int} (hH : H.length = 8) (hP : P.length = 64) (h a : Int) (i : Nat) : (mixC H P h a)[72 + i]? = [Value.int .i64 h, .int .u64 a, .bool true][i]? := by
  rw [mixC, List.getElem?_append_right (by rw [u32s_length]; omega), List.getElem?_append_right (by rw [nums_length, u32s_length]; omega)]
  rw [nums_length, u32s_length, hH, hP]
  congr 1
  omega
theorem mix_tail_set {H P : List Int} (hH : H.length = 8) (hP : P.length = 64) (h a : Int) (i : Nat) (v : Value) : (mixC H P h a).set (72 + i) v = u32s H ++ (nums P ++ [Value.int .i64 h, .int .u64 a, .bool true].set i v) := by
  rw [mixC, List.set_append_right _ _ (by rw [u32s_length]; omega), List.set_append_right _ _ (by rw [nums_length, u32s_length]; omega), nums_length, u32s_length, hH, hP]
  congr 3
  omega
section
variable {W : World} {g : Nat} {H P : List Int} {h a : Int} (m : MixV W g H P h a)
include m
theorem MixV.held : W.cell? ⟨g, 72, none⟩ = some (.int .i64 h) := by rw [blk_cell m.blk, List.getElem?_toArray]; exact mix_tail m.h8 m.p64 h a 0
theorem MixV.all : W.cell? ⟨g, 73, none⟩ = some (.int .u64 a) := by rw [blk_cell m.blk, List.getElem?_toArray]; exact mix_tail m.h8 m.p64 h a 1
theorem MixV.made : W.cell? ⟨g, 74, none⟩ = some (.bool true) := by rw [blk_cell m.blk, List.getElem?_toArray]; exact mix_tail m.h8 m.p64 h a 2
theorem MixV.free (i : Nat) : W.frozen? ⟨g, i, none⟩ = false := blk_frozen m.blk i
theorem MixV.state : W.rangeAt g 0 (u32s H) := midRange (a := []) m.blk rfl
theorem MixV.part : W.rangeAt g 8 (nums P) := midRange m.blk (by rw [u32s_length, m.h8])
theorem MixV.setHeld (x : Int) : MixV (W.setCell ⟨g, 72, none⟩ (.int .i64 x)) g H P x a := ⟨by
  rw [blk_set m.blk, List.setIfInBounds_toArray]
  congr 3
  exact mix_tail_set m.h8 m.p64 h a 0 _, m.h8, m.p64⟩
theorem MixV.setAll (x : Int) : MixV (W.setCell ⟨g, 73, none⟩ (.int .u64 x)) g H P h x := ⟨by
  rw [blk_set m.blk, List.setIfInBounds_toArray]
  congr 3
  exact mix_tail_set m.h8 m.p64 h a 1 _, m.h8, m.p64⟩
theorem MixV.drewN (n : Nat) : MixV (W.drewN n) g H P h a := ⟨m.blk, m.h8, m.p64⟩
theorem MixV.drew : MixV W.drew g H P h a := ⟨m.blk, m.h8, m.p64⟩
theorem MixV.alloc (o : Obj) : MixV (W.alloc o) g H P h a := ⟨get_below m.blk, m.h8, m.p64⟩
theorem MixV.kept {S : Nat → Prop} {W1 : World} (hk : Keeps S W W1) (hn : ¬ S g) : MixV W1 g H P h a := ⟨hk.at_ m.blk hn, m.h8, m.p64⟩
theorem MixV.below {B : Nat} {W1 : World} (hb : Below B W W1) (hB : g < B) : MixV W1 g H P h a := ⟨(hb.block g hB).trans m.blk, m.h8, m.p64⟩
theorem MixV.fits : (mixC H P h a).length = 75 := mixC_length m.h8 m.p64 h a
theorem MixV.copied {o : Nat} {new : List Int} (hl : o + new.length ≤ 64) : splc (mixC H P h a) (8 + o) (nums new) = mixC H (splc P o new) h a := by
  rw [mixC, splc_mid (by rw [u32s_length, m.h8]) (by rw [nums_length, nums_length, m.p64]; exact hl), ← nums_splc, mixC]
theorem MixV.turned (H1 : List Int) (h1 : H1.length = 8) : splc (mixC H P h a) 0 (u32s H1) = mixC H1 P h a := by
  rw [mixC, splc_head (by rw [u32s_length, u32s_length, m.h8, h1]), mixC]
theorem MixV.lt : g < W.heap.size := blk_lt m.blk
end
theorem Bs.splc {P new : List Int} (hP : Bs P) (hn : Bs new) (o : Nat) : Bs (splc P o new) := (hP.take o).append (hn.append (hP.drop _))
/-- Block g is a mix that has taken bs, and of which 'all' says a. -/
def MixA (W : World) (g : Nat) (bs : List Int) (a : Int) : Prop := ∃ P, P.take (bs.length % 64) = bs.drop (64 * (bs.length / 64)) ∧ MixV W g (shaN bs (bs.length / 64)) P ((bs.length % 64 : Nat) : Int) a ∧ Bs P
theorem infoMix : (Try.prog.info? 112).map (·.size) = some 75 := by kernel_rfl
theorem infoB64 : (Try.prog.info? 109).map (·.size) = some 64 := by kernel_rfl
theorem sizeByte : (Try.prog.info? 5).map (·.size) = some 1 := by kernel_rfl
section
variable {P : Program} {md : Region.Mode} {ops : Array Oper} {Q : Exit → Act → World → Prop} {fuel : Nat} {listed : Array Bool} {a : Act} {w : World} {i : Nat} {rs : List Nat} {d : Option Tmp} {T : TypeId} {p : String} {af : Array Edge}
/-- An operation that yields in whatever world is taken first. -/
theorem takeU {op : Op} {v : Value} (i : Nat) (ho : ops[i]? = some { dst := d, op := op, type := T, pos := p, after := af, guard := none })
    (hs : Region.noSelect ops = true) (hf : Region.free md ops listed i = true) (hr : (Region.ready md ops listed).contains i = true) (hQ : ∀ c a w, Q (.panic c) (a.put d v) w → Q (.panic c) a w)
    (hy : ∀ w, (execOp a.eval { dst := d, op := op, type := T, pos := p, after := af, guard := none }).run P w = .ok (.value v) w)
    (h : wpAny P md ops Q fuel (listed.setIfInBounds i true) (a.put d v) w) : wpAny P md ops Q (fuel + 1) listed a w :=
  wpAny_take ho hs hf hr hQ (Or.inl ⟨by simp [Region.wanted], hy⟩) h
/-- An operation that nothing guards comes up. -/
theorem consU {op : Op} (ho : ops[i]? = some { dst := d, op := op, type := T, pos := p, after := af, guard := none })
    (h : ∀ K' : Act → World → Prop, (∀ a w, wpAny P md ops Q fuel (listed.setIfInBounds i true) a w → K' a w) → Oper.wp P { dst := d, op := op, type := T, pos := p, after := af, guard := none } a w K' Q)
    (hs : AllReady P md ops Q fuel listed a w rs) : AllReady P md ops Q fuel listed a w (i :: rs) :=
  AllReady.cons ho (fun K' hK => by rw [if_pos (by simp [Region.wanted])]; exact h K' hK) hs
/-- A range is loaded. -/
theorem consLoad {ty : TypeId} {x : Operand} (ho : ops[i]? = some { dst := d, op := .load ty x, type := T, pos := p, after := af, guard := none })
    (b off : Nat) (hx : a.eval x = .pointer (some ⟨b, off, none⟩)) (cs : List Value) (ds : TypeDesc) (hc : w.rangeAt b off cs) (hu : P.underlying ty = some ds) (hd : ds.isRow = true) (hi : (P.info? ty).map (·.size) = some cs.length)
    (h : wpAny P md ops Q fuel (listed.setIfInBounds i true) (a.put d (.agg cs.toArray)) w) (hs : AllReady P md ops Q fuel listed a w rs) : AllReady P md ops Q fuel listed a w (i :: rs) :=
  consU ho (fun K' hK => wp_load_mid ty x rfl b off hx cs ds hc hu hd hi (hK _ _ h)) hs
/-- A range is stored. -/
theorem consStore {ty : TypeId} {x y : Operand} (ho : ops[i]? = some { dst := d, op := .store ty x y, type := T, pos := p, after := af, guard := none })
    (g o : Nat) (cs L : List Value) (t : TypeId) (hx : a.eval x = .pointer (some ⟨g, o, none⟩)) (hy : a.eval y = .agg cs.toArray)
    (hg : w.heap[g]? = some (.cells L.toArray t (0, 0))) (hsz : o + cs.length ≤ L.length) (hi : (P.info? ty).map (·.size) = some cs.length) (h1 : ∀ v ∈ cs, v.oneCell' = true)
    (h : ∀ W : World, W.heap[g]? = some (.cells (splc L o cs).toArray t (0, 0)) → Keeps (fun i => i = g) w W → wpAny P md ops Q fuel (listed.setIfInBounds i true) (a.put d undef) W) (hs : AllReady P md ops Q fuel listed a w rs) : AllReady P md ops Q fuel listed a w (i :: rs) :=
  consU ho (fun K' hK => wp_store_mid ty x y rfl g o cs.toArray hx hy (midThere hg (by simpa using hsz)) (by simpa using hi) (all_oneCell_toArray h1) (hK _ _ (h _ (by simpa using setMid hg o cs hsz) (by simpa using setCells_keeps_at w g o cs)))) hs
end
/-- Block g is a mix that has taken bs. -/
def Mx (W : World) (g : Nat) (bs : List Int) : Prop := MixA W g bs bs.length
theorem Mx.kept {S : Nat → Prop} {W W1 : World} {g : Nat} {bs : List Int} (h : Mx W g bs) (hk : Keeps S W W1) (hn : ¬ S g) : Mx W1 g bs := by
  obtain ⟨P, h1, h2, h3⟩ := h
  exact ⟨P, h1, h2.kept hk hn, h3⟩
theorem Mx.below {B : Nat} {W W1 : World} {g : Nat} {bs : List Int} (h : Mx W g bs) (hb : Below B W W1) (hg : g < B) : Mx W1 g bs := by
  obtain ⟨P, h1, h2, h3⟩ := h
  exact ⟨P, h1, h2.below hb hg, h3⟩
theorem Mx.lt {W : World} {g : Nat} {bs : List Int} (h : Mx W g bs) : g < W.heap.size := by
  obtain ⟨P, h1, h2, h3⟩ := h
  exact h2.lt
/-- Feed at work: k bytes of s are taken. -/
structure FeedI (w : World) (g : Nat) (bs ss : List Int) (k : Nat) (W : World) : Prop where
  mix : MixA W g (bs ++ ss.take k) ((bs.length + ss.length : Nat) : Int)
  keep : Keeps (fun i => i = g) w W
/-- What the copy leaves. -/
theorem feed_copied {w wr W1 : World} {g q n : Nat} {H P : List Int} {a : Int} {r : ByteArray} (hv : MixV wr g H P q a) (hb : Bs P) (hk : Keeps (fun i => i = g) w wr) (hn : n ≤ r.size) (hq : n ≤ 64 - q) (h64 : q < 64)
    (h1 : W1.heap[g]? = some (.cells (splc (mixC H P q a) (8 + q) (nums ((bytesOf r).take n))).toArray 112 (0, 0))) (hk1 : Keeps (fun i => i = g) wr.drew W1) :
    MixV W1 g H (splc P q ((bytesOf r).take n)) q a ∧ Bs (splc P q ((bytesOf r).take n)) ∧ Keeps (fun i => i = g) w W1 := by
  have hnew : ((bytesOf r).take n).length = n := by rw [List.length_take, bytesOf_length]; omega
  refine ⟨⟨?_, hv.h8, by rw [splc_length _ _ _ (by rw [hnew, hv.p64]; omega), hv.p64]⟩, hb.splc (Bs.take (bytesOf_range r) n) q, hk.drew.trans hk1 (fun _ _ h => h)⟩
  rw [hv.copied (by rw [hnew]; omega)] at h1
  exact h1
theorem take_more {ss : List Int} {k n : Nat} {bs cs : List Int} {r : ByteArray} (hcs : cs = bs ++ ss.take k) (hr : bytesOf r = ss.drop k) : bs ++ ss.take (k + n) = cs ++ (bytesOf r).take n := by
  rw [hcs, hr, List.append_assoc, List.take_add]
/-- A round that does not fill the part. -/
theorem feedI_small {w W1 : World} {g q n k : Nat} {H P bs cs ss : List Int} {a : Int} {r : ByteArray} (F : MixV W1 g H (splc P q ((bytesOf r).take n)) q a ∧ Bs (splc P q ((bytesOf r).take n)) ∧ Keeps (fun i => i = g) w W1)
    (hcs : cs = bs ++ ss.take k) (hq : q = cs.length % 64) (hH : H = shaN cs (cs.length / 64)) (ha : a = ((bs.length + ss.length : Nat) : Int)) (hp : P.take q = cs.drop (64 * (cs.length / 64))) (hP : P.length = 64)
    (hr : bytesOf r = ss.drop k) (hn : n ≤ r.size) (hlt : q + n < 64) : FeedI w g bs ss (k + n) (W1.setCell ⟨g, 72, none⟩ (.int .i64 ((q : Int) + (n : Int)))) := by
  obtain ⟨hv, hb, hk⟩ := F
  have hl : ((bytesOf r).take n).length = n := by rw [List.length_take, bytesOf_length]; omega
  obtain ⟨e1, e2, e3, e4⟩ := feed_small (new := (bytesOf r).take n) hq.symm hP hp (by rw [hl]; exact hlt)
  refine ⟨?_, Keeps.setCell (S := fun i => i = g) hk (fun _ => rfl) _⟩
  rw [take_more hcs hr, ← ha]
  rw [hl] at e2 e4
  refine ⟨_, by rw [e2, e1]; exact e4, ?_, hb⟩
  rw [e1, e2, e3, ← hH]
  exact hv.setHeld _
/-- A round that fills it. -/
theorem feedI_full {w W1 : World} {g q n k : Nat} {H P bs cs ss : List Int} {a : Int} {r : ByteArray} (hv : MixV W1 g (turn H (splc P q ((bytesOf r).take n))) (splc P q ((bytesOf r).take n)) 0 a) (hb : Bs (splc P q ((bytesOf r).take n))) (hk : Keeps (fun i => i = g) w W1)
    (hcs : cs = bs ++ ss.take k) (hq : q = cs.length % 64) (hH : H = shaN cs (cs.length / 64)) (ha : a = ((bs.length + ss.length : Nat) : Int)) (hp : P.take q = cs.drop (64 * (cs.length / 64))) (hP : P.length = 64)
    (hr : bytesOf r = ss.drop k) (hn : n ≤ r.size) (hlt : q + n = 64) : FeedI w g bs ss (k + n) W1 := by
  have hl : ((bytesOf r).take n).length = n := by rw [List.length_take, bytesOf_length]; omega
  obtain ⟨e1, e2, e3, e4⟩ := feed_full (new := (bytesOf r).take n) hq.symm hP hp (by rw [hl]; exact hlt)
  refine ⟨?_, hk⟩
  rw [take_more hcs hr, ← ha]
  have hlen : (cs ++ (bytesOf r).take n).length = 64 * (cs.length / 64 + 1) := by omega
  refine ⟨_, by rw [e2, e1, List.take_zero, List.drop_of_length_le (by omega)], ?_, hb⟩
  rw [e1, e2, e3, ← hH]
  exact hv
theorem bytesOf_rest {r : ByteArray} {n k : Nat} {ss : List Int} (hn : n ≤ r.size) (hr : bytesOf r = ss.drop k) : bytesOf (r.extract n r.size) = ss.drop (k + n) ∧ (r.extract n r.size).size = r.size - n := by
  refine ⟨?_, by rw [ByteArray.size_extract]; omega⟩
  rw [bytesOf_extract, List.take_of_length_le (by rw [List.length_drop, bytesOf_length]; omega), hr, List.drop_drop]
set_option maxRecDepth 100000 in
set_option maxHeartbeats 3200000 in
theorem feed_any (g : Nat) (s : ByteArray) (bs : List Int) (w : World) (hm : Mx w g bs) (hsz : bs.length + s.size ≤ 1000000000000) :
    Calls Try.prog 69 #[.pointer (some ⟨g, 0, none⟩), .string s] w fun e w' => e = .returned (.tuple #[]) ∧ Mx w' g (bs ++ bytesOf s) ∧ Keeps (fun i => i = g) w w' := by
  obtain ⟨P0, hp0, hv0, hb0⟩ := hm
  have c74 := hv0.made
  have c73 := hv0.all
  have f73 := hv0.free 73
  have hl : (bytesOf s).length = s.size := bytesOf_length s
  have hI0 : FeedI w g bs (bytesOf s) 0 (w.setCell ⟨g, 73, none⟩ (.int .u64 ((bs.length : Int) + (s.size : Int)))) := by
    refine ⟨⟨P0, ?_, ?_, hb0⟩, Keeps.setCell (S := fun i => i = g) (Keeps.refl _ _) (fun _ => rfl) _⟩
    · simpa using hp0
    · have := hv0.setAll ((bs.length : Int) + (s.size : Int))
      simpa [hl] using this
  have HI0 := Lib.hid hI0
  obtain ⟨nb, hnb⟩ : ∃ n, n = bs.length := ⟨_, rfl⟩
  rw [← hnb] at c73 hsz
  rw [← hnb] at HI0
  have HNB := Lib.hid hnb
  have HBL := Lib.hid hl
  clear hI0 hp0 hv0 hb0 hl hnb
  have hu64 := Try.underlying109
  go_enter Try.func69, Try.ntmps69
  go_wp2_with fail
  go_loopg [1] s.size (fun j v wr => ∃ (k : Nat) (r : ByteArray), j + k = s.size ∧ v = .string r ∧ bytesOf r = (bytesOf s).drop k ∧ r.size = j ∧ FeedI w g bs (bytesOf s) k wr)
  case atStart => exact ⟨0, s, rfl, rfl, rfl, rfl, by have h0 := HI0.out; rw [HNB.out]; rw [HNB.out] at h0; exact h0⟩
  case round =>
    obtain ⟨k, r, hk, rfl, hr, hrs, hI⟩ := hrel
    by_cases hpos : 0 < r.size
    · obtain ⟨⟨P, hp, hv, hb⟩, hkp⟩ := hI
      obtain ⟨cs, hcs⟩ : ∃ cs, cs = bs ++ (bytesOf s).take k := ⟨_, rfl⟩
      rw [← hcs] at hp hv
      obtain ⟨q, hh⟩ : ∃ q, q = cs.length % 64 := ⟨_, rfl⟩
      rw [← hh] at hp hv
      obtain ⟨H, hH⟩ : ∃ H, H = shaN cs (cs.length / 64) := ⟨_, rfl⟩
      rw [← hH] at hv
      obtain ⟨a, ha⟩ : ∃ a : Int, a = ((bs.length + (bytesOf s).length : Nat) : Int) := ⟨_, rfl⟩
      rw [← ha] at hv
      obtain ⟨n, hn⟩ : ∃ n, n = min r.size (64 - q) := ⟨_, rfl⟩
      have hh64 : q < 64 := by omega
      have hn0 : 0 < n := by omega
      have hn1 : n ≤ r.size := by omega
      have hn2 : n ≤ 64 - q := by omega
      have hrm : r.size ≤ 1000000000000 := by omega
      have i1 : (q : Int) ≤ 64 := by omega
      have i2 : (0 : Int) ≤ (q : Int) := by omega
      have i6 : ¬ (64 = q) := by omega
      have c72 := hv.held
      have f72 := hv.free 72
      have HV := Lib.hid hv
      have HP := Lib.hid hp
      have HB := Lib.hid hb
      have HKP := Lib.hid hkp
      have HCS := Lib.hid hcs
      have HH := Lib.hid hh
      have HHH := Lib.hid hH
      have HA := Lib.hid ha
      have HN := Lib.hid hn
      have HR := Lib.hid hr
      have HRS := Lib.hid hrs
      have HK := Lib.hid hk
      clear hp hv hb hkp hcs hh hH ha hn hr hrs hk HI0
      have i3 : (n : Int) ≤ (r.size : Int) := by omega
      have i4 : (0 : Int) ≤ (n : Int) := by omega
      have i5 : (n : Int) ≤ 64 := by omega
      go_wp2_with fail
      go_still_tail 9, (by kernel_rfl)
      change wpList _ _ _ _ _ wr.drew
      by_cases hfull : q + n = 64
      · have e64 : (q : Int) + (n : Int) = 64 := by omega
        go_wp2_with (refine wpList_copy_str (by rfl) (.tmp 34) (.tmp 35) 50 9 (by rfl) 5 Try.underlying50 sizeByte g (8 + q) (64 - q) (64 - q) r (mixC H P q a) 112 (by rfl) (by rfl) HV.out.drew.blk n HN.out (by rw [HV.out.fits]; omega) ?_; intro W1 hW1 hK1; clear c72 f72; have F := feed_copied HV.out HB.out HKP.out hn1 hn2 hh64 hW1 hK1; have c72 := F.1.held; have f72 := F.1.free 72; have F1 := Lib.hid F; clear hW1 hK1 F)
        obtain ⟨P1, hP1⟩ : ∃ P1, P1 = splc P q ((bytesOf r).take n) := ⟨_, rfl⟩
        have hv2 := F1.out.1.setHeld 64
        have hb2 := F1.out.2.1
        rw [← hP1] at hv2 hb2
        obtain ⟨W2, hW2⟩ : ∃ W2, W2 = W1.setCell ⟨g, 72, none⟩ (.int .i64 64) := ⟨_, rfl⟩
        rw [← hW2] at hv2
        have hk2 : Keeps (fun i => i = g) w W2 := by rw [hW2]; exact Keeps.setCell (S := fun i => i = g) F1.out.2.2 (fun _ => rfl) _
        rw [← hW2]
        have HW8 : Hid (Ws H) := by rw [HHH.out]; exact Lib.hid (shaN_w _ _)
        have HV2 := Lib.hid hv2
        have HK2 := Lib.hid hk2
        have HB2 := Lib.hid hb2
        have HP1 := Lib.hid hP1
        clear hW2 hv2 hk2 hb2 hP1 c72 f72 F1
        refine wp_region_any (by kernel_rfl) ?_
        change wpAny _ _ _ _ _ _ _ (World.drew W2)
        refine takeU (v := ?_) 0 rfl (by kernel_rfl) (by kernel_rfl) (by kernel_rfl) (fun _ _ _ h => h) ?_ ?_
        rotate_left
        · intro w; go_simp; with_reducible rfl
        simp only [Act.put, List.setIfInBounds_toArray, List.set_cons_zero, List.set_cons_succ]
        refine takeU (v := ?_) 1 rfl (by kernel_rfl) (by kernel_rfl) (by kernel_rfl) (fun _ _ _ h => h) ?_ ?_
        rotate_left
        · intro w; go_simp; with_reducible rfl
        simp only [Act.put, List.setIfInBounds_toArray, List.set_cons_zero, List.set_cons_succ]
        refine takeU (v := ?_) 2 rfl (by kernel_rfl) (by kernel_rfl) (by kernel_rfl) (fun _ _ _ h => h) ?_ ?_
        rotate_left
        · intro w; go_simp; with_reducible rfl
        simp only [Act.put, List.setIfInBounds_toArray, List.set_cons_zero, List.set_cons_succ]
        refine takeU (v := ?_) 3 rfl (by kernel_rfl) (by kernel_rfl) (by kernel_rfl) (fun _ _ _ h => h) ?_ ?_
        rotate_left
        · intro w; go_simp; with_reducible rfl
        simp only [Act.put, List.setIfInBounds_toArray, List.set_cons_zero, List.set_cons_succ]
        refine takeU (v := ?_) 5 rfl (by kernel_rfl) (by kernel_rfl) (by kernel_rfl) (fun _ _ _ h => h) ?_ ?_
        rotate_left
        · intro w; go_simp; with_reducible rfl
        simp only [Act.put, List.setIfInBounds_toArray, List.set_cons_zero, List.set_cons_succ]
        refine takeU (v := ?_) 6 rfl (by kernel_rfl) (by kernel_rfl) (by kernel_rfl) (fun _ _ _ h => h) ?_ ?_
        rotate_left
        · intro w; go_simp; with_reducible rfl
        simp only [Act.put, List.setIfInBounds_toArray, List.set_cons_zero, List.set_cons_succ]
        refine takeU (v := ?_) 7 rfl (by kernel_rfl) (by kernel_rfl) (by kernel_rfl) (fun _ _ _ h => h) ?_ ?_
        rotate_left
        · intro w; go_simp; with_reducible rfl
        simp only [Act.put, List.setIfInBounds_toArray, List.set_cons_zero, List.set_cons_succ]
        refine wpAny_ready (rs := [4, 8]) (by kernel_rfl) (by simp) ?_
        refine consLoad (by rfl) g 0 (by rfl) (u32s H) _ HV2.out.drew.state Try.underlying108 rfl (by rw [infoH, u32s_length, HV2.out.h8]) ?_ ?_
        · try simp only [Act.put, List.setIfInBounds_toArray, List.set_cons_zero, List.set_cons_succ]
          refine wpAny_ready (rs := [8]) (by kernel_rfl) (by simp) ?_
          refine consLoad (by rfl) g 8 (by rfl) (nums P1) _ HV2.out.drew.part Try.underlying109 rfl (by rw [infoB64, nums_length, HV2.out.p64]) ?_ AllReady.nil
          try simp only [Act.put, List.setIfInBounds_toArray, List.set_cons_zero, List.set_cons_succ]
          refine wpAny_ready (rs := [9]) (by kernel_rfl) (by simp) ?_
          refine consU (by rfl) (fun K hK => ?_) AllReady.nil
          go_simp
          refine (turned_any H P1 HV2.out.h8 HW8.out HV2.out.p64 HB2.out _).mono ?_
          rintro e W3 ⟨rfl, hb3⟩
          dsimp only
          refine hK _ _ ?_
          clear hK K
          try simp only [Act.put, List.setIfInBounds_toArray, List.set_cons_zero, List.set_cons_succ]
          refine takeU (v := ?_) 10 rfl (by kernel_rfl) (by kernel_rfl) (by kernel_rfl) (fun _ _ _ h => h) ?_ ?_
          rotate_left
          · intro w; go_simp; with_reducible rfl
          simp only [Act.put, List.setIfInBounds_toArray, List.set_cons_zero, List.set_cons_succ]
          refine takeU (v := ?_) 11 rfl (by kernel_rfl) (by kernel_rfl) (by kernel_rfl) (fun _ _ _ h => h) ?_ ?_
          rotate_left
          · intro w; go_simp; with_reducible rfl
          simp only [Act.put, List.setIfInBounds_toArray, List.set_cons_zero, List.set_cons_succ]
          have hv3 := HV2.out.drew.below hb3 HV2.out.lt
          refine wpAny_ready (rs := [12]) (by kernel_rfl) (by simp) ?_
          refine consStore (by rfl) g 0 (u32s (turn H P1)) (mixC H P1 64 a) 112 (by rfl) (by rfl) hv3.blk (by rw [hv3.fits, u32s_length, turn_length hv3.h8]; omega) (by rw [infoH, u32s_length, turn_length hv3.h8]) (u32s_oneCell _) ?_ AllReady.nil
          intro W4 hW4 hK4
          try simp only [Act.put, List.setIfInBounds_toArray, List.set_cons_zero, List.set_cons_succ]
          refine wpAny_done (by kernel_rfl) ?_ _
          have hv4 : MixV W4 g (turn H P1) P1 64 a := ⟨by rw [hv3.turned _ (turn_length hv3.h8 _)] at hW4; exact hW4, turn_length hv3.h8 _, hv3.p64⟩
          have hk4 : Keeps (fun i => i = g) w W4 := (HK2.out.drew.trans (Keeps.of_below (S := fun i => i = g) hb3) (fun _ _ h => h)).trans hK4 (fun _ _ h => h)
          have c72 := hv4.held
          have f72 := hv4.free 72
          have hv5 := hv4.setHeld 0
          have hb5 := HB2.out
          have hk5 := Keeps.setCell (S := fun i => i = g) hk4 (p := ⟨g, 72, none⟩) (fun _ => rfl) (.int .i64 0)
          rw [HP1.out] at hv5 hb5
          have HX := Lib.hid (feedI_full hv5 hb5 hk5 HCS.out HH.out HHH.out HA.out HP.out HV.out.p64 HR.out hn1 hfull)
          have HY := Lib.hid (bytesOf_rest hn1 HR.out)
          clear hv3 hv4 hk4 hW4 hK4 hb3 hv5 hb5 hk5
          go_wp2_with fail
          go_roundg (gk - n)
          case measure => have := HRS.out; omega
          case rel => exact ⟨k + n, r.extract n r.size, by have := HRS.out; have := HK.out; omega, rfl, HY.out.1, by rw [HY.out.2, HRS.out], HX.out⟩
        refine consLoad (by rfl) g 8 (by rfl) (nums P1) _ HV2.out.drew.part Try.underlying109 rfl (by rw [infoB64, nums_length, HV2.out.p64]) ?_ ?_
        · try simp only [Act.put, List.setIfInBounds_toArray, List.set_cons_zero, List.set_cons_succ]
          refine wpAny_ready (rs := [4]) (by kernel_rfl) (by simp) ?_
          refine consLoad (by rfl) g 0 (by rfl) (u32s H) _ HV2.out.drew.state Try.underlying108 rfl (by rw [infoH, u32s_length, HV2.out.h8]) ?_ AllReady.nil
          try simp only [Act.put, List.setIfInBounds_toArray, List.set_cons_zero, List.set_cons_succ]
          refine wpAny_ready (rs := [9]) (by kernel_rfl) (by simp) ?_
          refine consU (by rfl) (fun K hK => ?_) AllReady.nil
          go_simp
          refine (turned_any H P1 HV2.out.h8 HW8.out HV2.out.p64 HB2.out _).mono ?_
          rintro e W3 ⟨rfl, hb3⟩
          dsimp only
          refine hK _ _ ?_
          clear hK K
          try simp only [Act.put, List.setIfInBounds_toArray, List.set_cons_zero, List.set_cons_succ]
          refine takeU (v := ?_) 10 rfl (by kernel_rfl) (by kernel_rfl) (by kernel_rfl) (fun _ _ _ h => h) ?_ ?_
          rotate_left
          · intro w; go_simp; with_reducible rfl
          simp only [Act.put, List.setIfInBounds_toArray, List.set_cons_zero, List.set_cons_succ]
          refine takeU (v := ?_) 11 rfl (by kernel_rfl) (by kernel_rfl) (by kernel_rfl) (fun _ _ _ h => h) ?_ ?_
          rotate_left
          · intro w; go_simp; with_reducible rfl
          simp only [Act.put, List.setIfInBounds_toArray, List.set_cons_zero, List.set_cons_succ]
          have hv3 := HV2.out.drew.below hb3 HV2.out.lt
          refine wpAny_ready (rs := [12]) (by kernel_rfl) (by simp) ?_
          refine consStore (by rfl) g 0 (u32s (turn H P1)) (mixC H P1 64 a) 112 (by rfl) (by rfl) hv3.blk (by rw [hv3.fits, u32s_length, turn_length hv3.h8]; omega) (by rw [infoH, u32s_length, turn_length hv3.h8]) (u32s_oneCell _) ?_ AllReady.nil
          intro W4 hW4 hK4
          try simp only [Act.put, List.setIfInBounds_toArray, List.set_cons_zero, List.set_cons_succ]
          refine wpAny_done (by kernel_rfl) ?_ _
          have hv4 : MixV W4 g (turn H P1) P1 64 a := ⟨by rw [hv3.turned _ (turn_length hv3.h8 _)] at hW4; exact hW4, turn_length hv3.h8 _, hv3.p64⟩
          have hk4 : Keeps (fun i => i = g) w W4 := (HK2.out.drew.trans (Keeps.of_below (S := fun i => i = g) hb3) (fun _ _ h => h)).trans hK4 (fun _ _ h => h)
          have c72 := hv4.held
          have f72 := hv4.free 72
          have hv5 := hv4.setHeld 0
          have hb5 := HB2.out
          have hk5 := Keeps.setCell (S := fun i => i = g) hk4 (p := ⟨g, 72, none⟩) (fun _ => rfl) (.int .i64 0)
          rw [HP1.out] at hv5 hb5
          have HX := Lib.hid (feedI_full hv5 hb5 hk5 HCS.out HH.out HHH.out HA.out HP.out HV.out.p64 HR.out hn1 hfull)
          have HY := Lib.hid (bytesOf_rest hn1 HR.out)
          clear hv3 hv4 hk4 hW4 hK4 hb3 hv5 hb5 hk5
          go_wp2_with fail
          go_roundg (gk - n)
          case measure => have := HRS.out; omega
          case rel => exact ⟨k + n, r.extract n r.size, by have := HRS.out; have := HK.out; omega, rfl, HY.out.1, by rw [HY.out.2, HRS.out], HX.out⟩
        exact AllReady.nil
      · have e64 : ¬ ((q : Int) + (n : Int) = 64) := by omega
        go_wp2_with (refine wpList_copy_str (by rfl) (.tmp 34) (.tmp 35) 50 9 (by rfl) 5 Try.underlying50 sizeByte g (8 + q) (64 - q) (64 - q) r (mixC H P q a) 112 (by rfl) (by rfl) HV.out.drew.blk n HN.out (by rw [HV.out.fits]; omega) ?_; intro W1 hW1 hK1; clear c72 f72; have F := feed_copied HV.out HB.out HKP.out hn1 hn2 hh64 hW1 hK1; have c72 := F.1.held; have f72 := F.1.free 72; have F1 := Lib.hid F; clear hW1 hK1 F)
        have HX := Lib.hid (feedI_small F1.out HCS.out HH.out HHH.out HA.out HP.out HV.out.p64 HR.out hn1 (by omega))
        have HY := Lib.hid (bytesOf_rest hn1 HR.out)
        clear F1 c72 f72 e64
        go_roundg (gk - n)
        case measure => have := HRS.out; omega
        case rel => exact ⟨k + n, r.extract n r.size, by have := HRS.out; have := HK.out; omega, rfl, HY.out.1, by rw [HY.out.2, HRS.out], HX.out⟩
    · obtain ⟨hmx, hkp⟩ := hI
      have hk0 : k = s.size := by omega
      rw [List.take_of_length_le (by rw [bytesOf_length]; omega)] at hmx
      have hmx2 : Mx wr g (bs ++ bytesOf s) := by unfold Mx; rw [List.length_append]; exact hmx
      have HM := Lib.hid hmx2
      have HKP := Lib.hid hkp
      clear hmx hmx2 hkp hr hrs hk hk0 HI0
      go_wp2_with fail
      go_end0
      exact ⟨rfl, HM.out, HKP.out⟩
def zero64 : List Int := List.replicate 64 0
theorem mx_zero (W : World) (g : Nat) (h : W.heap[g]? = some (.cells (mixC shaH zero64 0 0).toArray 112 (0, 0))) : Mx W g [] := by
  refine ⟨zero64, rfl, ⟨h, rfl, by simp [zero64]⟩, fun x hx => ?_⟩
  obtain rfl := List.eq_of_mem_replicate hx
  omega
/-- A struct or an array is built whose value is known. -/
theorem wpList_build_known {P : Program} {ops : Array Oper} {rest : List Oper} {op : Oper} {a : Act} {w : World} {Q : Exit → Act → World → Prop} (hgd : op.guard = none) (ty : TypeId) (parts : Array (Nat × Operand)) (ho : op.op = .build ty parts) (ps : Array (Nat × Value)) (hp : (parts.map fun (i, x) => (i, a.eval x)) = ps)
    (v : Value) (hy : (Instr.build ty ps).run P w = .ok v w) (h : wpList P ops Q rest (a.put op.dst v) w) : wpList P ops Q (op :: rest) a w :=
  wpList_plain hgd fun K hK => by
    subst hp
    unfold Oper.wp execOp
    simp only [ho, Sem.run_bind, hy, Result.andThen_ok, Sem.run_pure]
    exact hK _ _ h
/-- A value is laid into a new block. -/
theorem wpList_box {P : Program} {ops : Array Oper} {rest : List Oper} {op : Oper} {a : Act} {w : World} {Q : Exit → Act → World → Prop} (hgd : op.guard = none) (ty : TypeId) (x : Operand) (ho : op.op = .box ty x)
    (cs : Array Value) (hx : a.eval x = .agg cs)
    (h : wpList P ops Q rest (a.put op.dst (.pointer (some ⟨w.heap.size, 0, none⟩))) (w.alloc (.cells cs ty (0, 0)))) : wpList P ops Q (op :: rest) a w :=
  wpList_plain hgd fun K hK => by
    have hK' := hK _ _ h
    unfold Oper.wp execOp
    simp only [ho, hx]
    exact hK'
/-- A variable is laid whose zero value is known. -/
theorem wpList_alloc_known {P : Program} {ops : Array Oper} {rest : List Oper} {op : Oper} {a : Act} {w : World} {Q : Exit → Act → World → Prop} (hgd : op.guard = none) (ty : TypeId) (ho : op.op = .alloc ty)
    (cs : Array Value) (hz : (zeroValue ty).run P w = .ok (.agg cs) w)
    (h : wpList P ops Q rest (a.put op.dst (.pointer (some ⟨w.heap.size, 0, none⟩))) (w.alloc (.cells cs ty (0, 0)))) : wpList P ops Q (op :: rest) a w :=
  wpList_plain hgd fun K hK => by
    have hK' := hK _ _ h
    unfold Oper.wp execOp
    simp only [ho, Instr.alloc, Sem.run_bind, hz, Result.andThen_ok, Sem.run_pure]
    exact hK'
def mix0 : List Value := u32s (List.replicate 8 0) ++ (nums zero64 ++ [.int .i64 0, .int .u64 0, .bool false])
theorem mix0_zero (w : World) : (zeroValue 112).run Try.prog w = .ok (.agg mix0.toArray) w := by kernel_rfl
set_option maxRecDepth 100000 in
set_option maxHeartbeats 1600000 in
theorem new_any (w : World) : Calls Try.prog 68 #[] w fun e w' => e = .returned (.pointer (some ⟨w.heap.size, 0, none⟩)) ∧ Mx w' w.heap.size [] ∧ Below w.heap.size w w' := by
  go_enter Try.func68, Try.ntmps68
  go_wp2_with (first | (refine wpList_build_known (by rfl) 112 _ (by rfl) _ rfl (.agg (mixC shaH zero64 0 0).toArray) (by kernel_rfl) ?_) | (refine wpList_box (by rfl) 112 _ (by rfl) (mixC shaH zero64 0 0).toArray (by rfl) ?_))
  go_ret
  refine ⟨rfl, mx_zero _ _ ?_, (Below.refl _ w).alloc (Nat.le_refl _) _⟩
  exact get_top rfl
/-- Told at work: its copy has taken cs. -/
structure ToldI (w : World) (gz : Nat) (cs : List Int) (W : World) : Prop where
  bel : Below w.heap.size w W
  mx : Mx W gz cs
theorem ToldI.fed {w W W1 : World} {gz : Nat} {cs ds : List Int} (h : ToldI w gz cs W) (hz : w.heap.size ≤ gz) (hm : Mx W1 gz ds) (hk : Keeps (fun i => i = gz) W W1) : ToldI w gz ds W1 :=
  ⟨h.bel.trans (hk.below h.bel.size (by intro i hi; omega)), hm⟩
theorem ToldI.below {w W W1 : World} {gz : Nat} {cs : List Int} (h : ToldI w gz cs W) (hb : Below W.heap.size W W1) : ToldI w gz cs W1 :=
  ⟨h.bel.trans (hb.mono h.bel.size), h.mx.below hb h.mx.lt⟩
theorem Mx.held {W : World} {g : Nat} {bs : List Int} (h : Mx W g bs) : W.cell? ⟨g, 72, none⟩ = some (.int .i64 ((bs.length % 64 : Nat) : Int)) := by
  obtain ⟨P, h1, h2, h3⟩ := h
  exact h2.held
theorem Mx.all {W : World} {g : Nat} {bs : List Int} (h : Mx W g bs) : W.cell? ⟨g, 73, none⟩ = some (.int .u64 (bs.length : Int)) := by
  obtain ⟨P, h1, h2, h3⟩ := h
  exact h2.all
theorem Mx.made {W : World} {g : Nat} {bs : List Int} (h : Mx W g bs) : W.cell? ⟨g, 74, none⟩ = some (.bool true) := by
  obtain ⟨P, h1, h2, h3⟩ := h
  exact h2.made
theorem Mx.state {W : World} {g : Nat} {bs : List Int} (h : Mx W g bs) : W.rangeAt g 0 (u32s (shaN bs (bs.length / 64))) := by
  obtain ⟨P, h1, h2, h3⟩ := h
  exact h2.state
theorem toldI_start {w W1 : World} {g : Nat} {bs P0 : List Int} {Z : List Value} (hv : MixV w g (shaN bs (bs.length / 64)) P0 ((bs.length % 64 : Nat) : Int) bs.length) (hp : P0.take (bs.length % 64) = bs.drop (64 * (bs.length / 64))) (hb : Bs P0)
    (hZ : Z = mixC (shaN bs (bs.length / 64)) P0 ((bs.length % 64 : Nat) : Int) (bs.length : Int)) (h1 : W1.heap[w.heap.size]? = some (.cells Z.toArray 112 (0, 0))) (hk : Keeps (fun i => i = w.heap.size) (w.alloc (.cells mix0.toArray 112 (0, 0))) W1) :
    ToldI w w.heap.size bs W1 :=
  ⟨((Below.refl _ w).alloc (Nat.le_refl _) _).trans (hk.below (by simp) (by intro i hi; omega)), P0, hp, ⟨by rw [h1, hZ], hv.h8, hv.p64⟩, hb⟩
/-- The number's bytes are laid one by one: k of them are there. -/
structure ToldN (w : World) (gz : Nat) (cs : List Int) (gn : Nat) (B : Int) (k : Nat) (W : World) : Prop where
  t : ToldI w gz cs W
  nn : W.heap[gn]? = some (.cells (nums ((be8 B).take k ++ List.replicate (8 - k) 0)).toArray 140 (0, 0))
  gt : gz < gn
  ge : w.heap.size ≤ gz
theorem be8_length (B : Int) : (be8 B).length = 8 := by simp [be8]
theorem ToldN.put {w W : World} {gz gn k : Nat} {cs : List Int} {B : Int} (h : ToldN w gz cs gn B k W) (hk : k < 8) (y : Int) (hy : y = B / 2 ^ (56 - 8 * k) % 256) : ToldN w gz cs gn B (k + 1) (W.setCell ⟨gn, k, none⟩ (.int .u8 y)) := by
  have hgt := h.gt
  have hge := h.ge
  have hk1 : Keeps (fun i => i = gn) W (W.setCell ⟨gn, k, none⟩ (.int .u8 y)) := Keeps.setCell (S := fun i => i = gn) (Keeps.refl _ _) (fun _ => rfl) _
  refine ⟨⟨h.t.bel.trans (hk1.below h.t.bel.size (by intro i hi; omega)), h.t.mx.kept hk1 (by omega)⟩, ?_, hgt, hge⟩
  rw [blk_set h.nn]
  congr 2
  have hl := be8_length B
  have h1 : ((be8 B).take k).length = k := by simp; omega
  simp only [nums, List.setIfInBounds_toArray]
  congr 1
  rw [show (Value.int .u8 y) = (fun x => Value.int .u8 x) y from rfl, ← List.map_set]
  congr 1
  rw [List.set_append_right _ _ (by omega), h1, Nat.sub_self, show 8 - k = (8 - (k + 1)) + 1 by omega, List.replicate_succ, List.set_cons_zero, be8_take B k hk, hy, List.append_assoc]
  rfl
theorem ToldN.at_ {w W : World} {gz gn k : Nat} {cs : List Int} {B : Int} (h : ToldN w gz cs gn B k W) (hk : k < 8) : W.cell? ⟨gn, k, none⟩ = some (.int .u8 0) := by
  have hl := be8_length B
  rw [blk_cell h.nn k, nums_get (by simp; omega), List.getD, List.getElem?_append_right (by simp; omega)]
  rw [show k - ((be8 B).take k).length = 0 by simp; omega, List.getElem?_replicate, if_pos (by omega)]
  rfl
theorem toldN_start {w W : World} {gz : Nat} {cs : List Int} {B : Int} (h : ToldI w gz cs W) (hge : w.heap.size ≤ gz) : ToldN w gz cs W.heap.size B 0 (W.alloc (.cells #[.int .u8 0, .int .u8 0, .int .u8 0, .int .u8 0, .int .u8 0, .int .u8 0, .int .u8 0, .int .u8 0] 140 (0, 0))) :=
  ⟨h.below ((Below.refl _ _).alloc (Nat.le_refl _) _), get_top rfl, h.mx.lt, hge⟩
theorem index8 (H : List Int) (h8 : H.length = 8) (k : Nat) (hk : k < 8) (W : World) : (Instr.index 108 (.agg (u32s H).toArray) (.int .i64 k)).run Try.prog W = .ok (.int .u32 (H.getD k 0)) W := by
  have hua := Try.underlying108
  have hue := Try.underlying107
  obtain ⟨x0, x1, x2, x3, x4, x5, x6, x7, rfl⟩ := eight32 H h8
  match k, hk with
  | 0, _ => simp [Instr.index, run_underlying hua, asIntOf, go_sem, u32s]
  | 1, _ => simp [Instr.index, run_underlying hua, asIntOf, go_sem, u32s]
  | 2, _ => simp [Instr.index, run_underlying hua, asIntOf, go_sem, u32s]
  | 3, _ => simp [Instr.index, run_underlying hua, asIntOf, go_sem, u32s]
  | 4, _ => simp [Instr.index, run_underlying hua, asIntOf, go_sem, u32s]
  | 5, _ => simp [Instr.index, run_underlying hua, asIntOf, go_sem, u32s]
  | 6, _ => simp [Instr.index, run_underlying hua, asIntOf, go_sem, u32s]
  | 7, _ => simp [Instr.index, run_underlying hua, asIntOf, go_sem, u32s]
theorem wpList_index_known {P : Program} {ops : Array Oper} {rest : List Oper} {op : Oper} {a : Act} {w : World} {Q : Exit → Act → World → Prop} (hgd : op.guard = none) (ty : TypeId) (x y : Operand) (ho : op.op = .index ty x y) (xv yv : Value) (hx : a.eval x = xv) (hyv : a.eval y = yv)
    (v : Value) (hy : (Instr.index ty xv yv).run P w = .ok v w) (h : wpList P ops Q rest (a.put op.dst v) w) : wpList P ops Q (op :: rest) a w :=
  wpList_plain hgd fun K hK => by
    have hK' := hK _ _ h
    unfold Oper.wp execOp
    simp only [ho, hx, hyv, Sem.run_bind, hy, Result.andThen_ok, Sem.run_pure]
    exact hK'
set_option maxRecDepth 100000 in
set_option maxHeartbeats 3200000 in
theorem told_any (g : Nat) (bs : List Int) (w : World) (hm : Mx w g bs) (hsz : bs.length ≤ 900000000000) :
    Calls Try.prog 70 #[.pointer (some ⟨g, 0, none⟩)] w fun e w' => e = .returned (.string (strOfNums (sha bs))) ∧ Below w.heap.size w w' := by
  have c74 := hm.made
  obtain ⟨P0, hp0, hv0, hb0⟩ := hm
  obtain ⟨Z, hZ⟩ : ∃ Z, Z = mixC (shaN bs (bs.length / 64)) P0 ((bs.length % 64 : Nat) : Int) (bs.length : Int) := ⟨_, rfl⟩
  have hz75 : Z.length = 75 := by rw [hZ]; exact hv0.fits
  have hz1 : ∀ v ∈ Z, v.oneCell' = true := by rw [hZ]; exact mixC_oneCell _ _ _ _
  have hblk := hv0.blk
  rw [← hZ] at hblk
  have HBLK := Lib.hid hblk
  have HZ := Lib.hid hZ
  have HZ75 := Lib.hid hz75
  have HZ1 := Lib.hid hz1
  have HV0 := Lib.hid hv0
  have HP0 := Lib.hid hp0
  have HB0 := Lib.hid hb0
  have hum := Try.underlying112
  have HUM := Lib.hid hum
  clear hblk hZ hz75 hz1 hv0 hp0 hb0 hum
  go_enter Try.func70, Try.ntmps70
  go_wp2_with (first | (refine wpList_load_row (by rfl) 112 _ (by rfl) g (by rfl) 112 Z.toArray (0, 0) _ HBLK.out HUM.out rfl (by rw [infoMix]; simp [HZ75.out]) ?_) | (refine wpList_alloc_known (by rfl) 112 (by rfl) mix0.toArray (mix0_zero _) ?_) | (refine wpList_store_row (by rfl) 112 _ _ (by rfl) w.heap.size Z.toArray mix0.toArray 112 (by rfl) (by rfl) (get_top rfl) (by simp [HZ75.out]; rfl) (by rw [infoMix]; simp [HZ75.out]) (by simpa using HZ1.out) ?_; intro W1 hW1 hK1; have hT1 := toldI_start HV0.out HP0.out HB0.out HZ.out hW1 hK1; have c73 := hT1.mx.all; have HT1 := Lib.hid hT1; clear hT1 hW1 hK1))
  refine (feed_any w.heap.size ⟨#[128]⟩ bs W1 HT1.out.mx (by show bs.length + 1 ≤ 1000000000000; omega)).mono ?_
  rintro e W2 ⟨rfl, hm2, hk2⟩
  have HT2 := Lib.hid (show ToldI w w.heap.size (bs ++ [128]) W2 from HT1.out.fed (Nat.le_refl _) hm2 hk2)
  obtain ⟨gz, hgz⟩ : ∃ g, g = w.heap.size := ⟨_, rfl⟩
  rw [← hgz] at HT2
  have HGZ := Lib.hid (show w.heap.size ≤ gz by omega)
  obtain ⟨B, hB⟩ : ∃ B : Int, B = (bs.length : Int) * 8 := ⟨_, rfl⟩
  rw [← hgz, ← hB]
  have HB := Lib.hid hB
  have hB0 : 0 ≤ B := by omega
  have hB1 : B ≤ 8000000000000 := by omega
  have HSZ := Lib.hid hsz
  clear hm2 hk2 HT1 c73 hgz hB hsz
  go_wp2_with fail
  go_loopg [28] (gap bs.length) (fun j x wr => ∃ k : Nat, j + k = gap bs.length ∧ ToldI w gz (bs ++ [128] ++ List.replicate k 0) wr)
  case atStart => exact ⟨0, rfl, by simpa using HT2.out⟩
  case round =>
    clear HT2
    obtain ⟨k, hk, hI⟩ := hrel
    have hgl := gap_lt bs.length
    have hlen : (bs ++ [128] ++ List.replicate k 0).length = bs.length + 1 + k := by simp; omega
    have c72 := hI.mx.held
    rw [hlen] at c72
    have HI := Lib.hid hI
    by_cases hlt : k < gap bs.length
    · have hne := gap_before bs.length k hlt
      obtain ⟨q, hq⟩ : ∃ q, q = (bs.length + 1 + k) % 64 := ⟨_, rfl⟩
      rw [← hq] at c72 hne
      have ht : ((q : Int) != 56) = true := by simp; omega
      have hs1 := HSZ.out
      have HF := Lib.hid (feed_any gz ⟨#[0]⟩ (bs ++ [128] ++ List.replicate k 0) wr hI.mx (by rw [hlen]; show bs.length + 1 + k + 1 ≤ 1000000000000; omega))
      clear hI hq hlen hs1 hne
      go_wp2_with fail
      refine HF.out.mono ?_
      rintro e W3 ⟨rfl, hm3, hk3⟩
      have HX := Lib.hid (show ToldI w gz (bs ++ [128] ++ List.replicate (k + 1) 0) W3 from HI.out.fed HGZ.out (by rw [List.replicate_succ', ← List.append_assoc]; exact hm3) hk3)
      clear hm3 hk3 HI HF c72 ht
      go_wp2_with fail
      go_roundg (gk - 1)
      case measure => omega
      case rel => exact ⟨k + 1, by omega, HX.out⟩
    · obtain rfl : k = gap bs.length := by omega
      have hga := gap_at bs.length
      rw [show (bs.length + 1 + gap bs.length) % 64 = 56 from hga] at c72
      clear hI hlen hga hgl hk hlt
      go_wp2_with fail
      have HN0 := Lib.hid (toldN_start (B := B) HI.out HGZ.out)
      obtain ⟨gn, hgn⟩ : ∃ g, g = wr.heap.size := ⟨_, rfl⟩
      rw [← hgn] at HN0
      rw [← hgn]
      clear hgn HI c72
      go_loopg [30] 8 (fun j i wr => ∃ k : Nat, j + k = 8 ∧ i = .int .i64 (k : Int) ∧ ToldN w gz (bs ++ [128] ++ List.replicate (gap bs.length) 0) gn B k wr)
      case atStart => exact ⟨0, rfl, rfl, HN0.out⟩
      case round =>
        clear HN0
        obtain ⟨k, hk, rfl, hI⟩ := hrel
        by_cases hlt : k < 8
        · have ck := hI.at_ hlt
          have fk := blk_frozen hI.nn k
          obtain ⟨sh, hsh⟩ : ∃ sh : Int, sh = 56 - 8 * (k : Int) := ⟨_, rfl⟩
          have h0 : 0 ≤ sh := by omega
          have h56 : sh ≤ 56 := by omega
          have hsh' := hsh.symm
          have hmin : sh.toNat = 56 - 8 * k := by omega
          obtain ⟨y, hy⟩ : ∃ y, y = B / 2 ^ sh.toNat := ⟨_, rfl⟩
          have hy' := hy.symm
          have HP := Lib.hid (hI.put hlt (y % 256) (by rw [hy, hmin]))
          clear hI hsh hmin hy
          go_wp2_with fail
          go_roundg (gk - 1)
          case measure => omega
          case rel => exact ⟨k + 1, by omega, by go_num, HP.out⟩
        · obtain rfl : k = 8 := by omega
          have hl8 := be8_length B
          have hnn := hI.nn
          rw [List.take_of_length_le (by omega), show (8 - 8 : Nat) = 0 from rfl, List.replicate_zero, List.append_nil] at hnn
          have hconv : (convert 50 9 (.slice (some ⟨gn, 0, none⟩) 8 8)).run Try.prog wr = .ok (.string (strOfNums (be8 B))) wr :=
            run_convert_bytes_arg wr _ _ Try.underlying50 Try.underlying5 gn 0 8 8 (be8 B) hl8 (fun j hj => by rw [Nat.zero_add, blk_cell hnn j]; exact nums_get (by omega)) _ Try.underlying9
          have HF := Lib.hid (feed_any gz (strOfNums (be8 B)) (bs ++ [128] ++ List.replicate (gap bs.length) 0) wr hI.t.mx (by rw [strOfNums_size, hl8]; have := HSZ.out; have := gap_lt bs.length; simp; omega))
          have HI := Lib.hid hI.t
          clear hI hl8 hnn hlt hk
          go_wp2_with fail
          refine HF.out.mono ?_
          rintro e W3 ⟨rfl, hm3, hk3⟩
          have hfill : bs ++ [128] ++ List.replicate (gap bs.length) 0 ++ bytesOf (strOfNums (be8 B)) = fill bs := by
            rw [bytesOf_strOfNums _ (be8_b B), fill, HB.out, Int.mul_comm]
          rw [hfill] at hm3
          have hT3 : ToldI w gz (fill bs) W3 := HI.out.fed HGZ.out hm3 hk3
          have hst := hT3.mx.state
          rw [show shaN (fill bs) ((fill bs).length / 64) = shaW bs by rw [shaW, fill_length, Nat.mul_div_cancel_left _ (by omega)]] at hst
          have HST := Lib.hid hst
          have HT3 := Lib.hid hT3.bel
          clear hm3 hk3 hfill hT3 hst HI HF hconv
          have hH8 : (shaW bs).length = 8 := shaN_length _ _
          have hHW : Ws (shaW bs) := shaN_w _ _
          have hsha : sha bs = (shaW bs).flatMap be4 := rfl
          obtain ⟨H, hH⟩ : ∃ H, H = shaW bs := ⟨_, rfl⟩
          rw [← hH] at HST hH8 hHW hsha
          have HH8 := Lib.hid hH8
          have HHW := Lib.hid hHW
          have HSHA := Lib.hid hsha
          clear hH hH8 hHW hsha
          go_wp2_with (refine wpList_load_mid (by rfl) 108 _ (by rfl) gz 0 (by rfl) (u32s H) _ HST.out Try.underlying108 rfl (by rw [infoH, u32s_length, HH8.out]) ?_)
          go_loopg [7, 47] 8 (fun j o i wr => ∃ (k : Nat) (v : Value), j + k = 8 ∧ v = o ∧ i = .int .i64 (k : Int) ∧ Loc W3 wr 5 1 v (4 * k) (nums ((H.take k).flatMap be4)))
          case atStart => exact ⟨0, .slice none 0 0, rfl, rfl, rfl, Loc.nil (Below.refl _ _) _ _⟩
          case round =>
            obtain ⟨k, v, hk, rfl, rfl, hA⟩ := hrel
            by_cases hk8 : k < 8
            · have wk := HHW.out.get k
              have hix := fun W => index8 H HH8.out k hk8 W
              obtain ⟨a, ha⟩ : ∃ a, a = H.getD k 0 := ⟨_, rfl⟩
              rw [← ha] at wk
              simp only [← ha] at hix
              have hHH8 := HH8.out
              have htk : (H.take (k + 1)).flatMap be4 = (H.take k).flatMap be4 ++ be4 a := by
                rw [ha, List.take_add_one, List.getElem?_eq_getElem (show k < H.length by omega), List.flatMap_append]
                simp [List.getD, List.getElem?_eq_getElem (show k < H.length by omega)]
              obtain ⟨n, hn⟩ : ∃ n, n = 4 * k := ⟨_, rfl⟩
              rw [← hn] at hA
              have hn32 : n ≤ 32 := by omega
              have HA := Lib.hid hA
              have HTK := Lib.hid htk
              have HN4 := Lib.hid hn
              have HIX := Lib.hid hix
              have HBE := Lib.hid (show be4 a = [a / 16777216, a / 65536 % 256, a / 256 % 256, a % 256] by rw [be4, Int.emod_eq_of_lt (a := a / 16777216) (by have := wk.1; omega) (by have := wk.2; omega)])
              obtain ⟨a0, a1⟩ := wk
              have q5 : (k : Int) < 8 := by omega
              have q7 : (0 : Int) ≤ (k : Int) := by omega
              obtain ⟨i0, hi, hz0, hz1, hz2⟩ := info_parts infoByte
              have HII := Lib.hid hi
              have HZ0 := Lib.hid hz0
              have HZ1 := Lib.hid hz1
              have HZ2 := Lib.hid hz2
              clear hA ha htk hHH8 hn hi hz0 hz1 hz2 hix
              go_wp2_with (first | (refine wpList_index_known (by rfl) 108 _ _ (by rfl) _ _ (by rfl) (by rfl) _ (HIX.out _) ?_) | (refine wpList_append_row _ (by rfl) _ _ _ _ (by rfl) 5 i0 (.int .u8 0) 1 1 Try.underlying50 HII.out HZ0.out HZ1.out HZ2.out rfl (by omega) v _ _ (by rfl) (HA.out.row.alloc _) _ (by rfl) 4 [.int .u8 (a / 16777216), .int .u8 (a / 65536 % 256), .int .u8 (a / 256 % 256), .int .u8 (a % 256)] (Feeds.slice Try.underlying50 ⟨wr.heap.size, 0, none⟩ 4 4 _ (by rfl) (by simp [Value.oneCell']) (World.news_of_block (cs := #[.int .u8 (a / 16777216), .int .u8 (a / 65536 % 256), .int .u8 (a / 256 % 256), .int .u8 (a % 256)]) (t := 5) (fr := (0, 0)) (heap_alloc_new wr _))) (by unfold maxLen; omega) (by omega) (wr.heap.size + 1) (by simp) ?_; intro ao5 cap5 w5 hown5 hgrow5 hat5))
              have hloc := HA.out.app (((Below.refl _ wr).alloc (Nat.le_refl _) _)) hown5 hgrow5 hat5 (by omega)
              rw [show nums ((H.take k).flatMap be4) ++ [.int .u8 (a / 16777216), .int .u8 (a / 65536 % 256), .int .u8 (a / 256 % 256), .int .u8 (a % 256)] = nums ((H.take (k + 1)).flatMap be4) by rw [HTK.out, HBE.out, nums_append]; rfl, show n + 4 = 4 * (k + 1) by rw [HN4.out]; omega] at hloc
              have HS := Lib.hid hloc
              have e9 : n + 4 = 4 * (k + 1) := by rw [HN4.out]; omega
              clear hloc hown5 hgrow5 hat5
              go_roundg (gk - 1)
              case measure => omega
              case rel => exact ⟨k + 1, _, by omega, by rw [e9], by go_num, HS.out⟩
            · obtain rfl : k = 8 := by omega
              have hcs := row_string (P := Try.prog) Try.underlying50 Try.underlying5 Try.underlying9 hA.row
              have hl8 := HH8.out
              rw [List.take_of_length_le (by omega), ← HSHA.out] at hcs
              have HB := Lib.hid (HT3.out.trans (hA.below.mono HT3.out.size))
              clear hA hl8
              go_wp2
              go_ret
              exact ⟨rfl, HB.out⟩
set_option maxRecDepth 100000 in
set_option maxHeartbeats 1600000 in
theorem sum_any (s : ByteArray) (hs : s.size ≤ 800000000000) (w : World) : Calls Try.prog 67 #[.string s] w fun e w' => e = .returned (.string (strOfNums (sha (bytesOf s)))) ∧ Below w.heap.size w w' := by
  go_enter Try.func67, Try.ntmps67
  go_wp2_with fail
  refine (new_any w).mono ?_
  rintro e W1 ⟨rfl, hm1, hb1⟩
  have HF := Lib.hid (feed_any w.heap.size s [] W1 hm1 (by simp; omega))
  have HB1 := Lib.hid hb1
  clear hm1 hb1
  go_wp2_with fail
  refine HF.out.mono ?_
  rintro e W2 ⟨rfl, hm2, hk2⟩
  rw [List.nil_append] at hm2
  have HT := Lib.hid (told_any w.heap.size (bytesOf s) W2 hm2 (by rw [bytesOf_length]; omega))
  have HB2 := Lib.hid (HB1.out.trans (hk2.below HB1.out.size (by intro i hi; omega)))
  clear hm2 hk2 HF HB1
  go_wp2_with fail
  refine HT.out.mono ?_
  rintro e W3 ⟨rfl, hb3⟩
  have HB3 := Lib.hid (HB2.out.trans (hb3.mono HB2.out.size))
  clear hb3 HT HB2
  go_wp2
  go_ret
  exact ⟨rfl, HB3.out⟩
/-- The cells of a mix that has taken bs. -/
def MixZ (Z : List Value) (bs : List Int) : Prop := ∃ P, P.take (bs.length % 64) = bs.drop (64 * (bs.length / 64)) ∧ Z = mixC (shaN bs (bs.length / 64)) P ((bs.length % 64 : Nat) : Int) bs.length ∧ P.length = 64 ∧ Bs P
theorem Mx.cells {W : World} {g : Nat} {bs : List Int} (h : Mx W g bs) : ∃ Z, MixZ Z bs ∧ W.heap[g]? = some (.cells Z.toArray 112 (0, 0)) := by
  obtain ⟨P, h1, h2, h3⟩ := h
  exact ⟨_, ⟨P, h1, rfl, h2.p64, h3⟩, h2.blk⟩
theorem MixZ.mx {W : World} {g : Nat} {Z : List Value} {bs : List Int} (h : MixZ Z bs) (hg : W.heap[g]? = some (.cells Z.toArray 112 (0, 0))) : Mx W g bs := by
  obtain ⟨P, h1, rfl, h2, h3⟩ := h
  exact ⟨P, h1, ⟨hg, shaN_length _ _, h2⟩, h3⟩
theorem MixZ.length {Z : List Value} {bs : List Int} (h : MixZ Z bs) : Z.length = 75 := by
  obtain ⟨P, h1, rfl, h2, h3⟩ := h
  exact mixC_length (shaN_length _ _) h2 _ _
theorem MixZ.one {Z : List Value} {bs : List Int} (h : MixZ Z bs) : ∀ v ∈ Z, v.oneCell' = true := by
  obtain ⟨P, h1, rfl, h2, h3⟩ := h
  exact mixC_oneCell _ _ _ _
/-- The two blocks are made: k bytes of each are done. -/
structure PadI (w : World) (gx gy : Nat) (D : List Int) (k : Nat) (W : World) : Prop where
  bel : Below w.heap.size w W
  r1 : W.heap[w.heap.size]? = some (.cells mix0.toArray 112 (0, 0))
  r2 : W.heap[w.heap.size + 1]? = some (.cells mix0.toArray 112 (0, 0))
  xx : W.heap[gx]? = some (.cells (nums ((D.take k).map (fun x => xr x 54) ++ D.drop k)).toArray 109 (0, 0))
  yy : W.heap[gy]? = some (.cells (nums ((D.take k).map (fun x => xr x 92) ++ List.replicate (64 - k) 0)).toArray 109 (0, 0))
  gtx : w.heap.size + 1 < gx
  gty : gx < gy
theorem PadI.at_ {w W : World} {gx gy k : Nat} {D : List Int} (h : PadI w gx gy D k W) (hD : D.length = 64) (hk : k < 64) : W.cell? ⟨gx, k, none⟩ = some (.int .u8 (D.getD k 0)) := by
  rw [blk_cell h.xx k, nums_get (by simp; omega), List.getD, List.getElem?_append_right (by simp; omega), ← List.getD]
  simp [List.getD, List.getElem?_drop, hD, Nat.min_eq_left (show k ≤ 64 by omega)]
theorem set_done {D Z : List Int} {k : Nat} (hk : k < D.length) (c : Int) (h0 : 0 < Z.length) : ((D.take k).map (fun x => xr x c) ++ Z).set k (xr (D.getD k 0) c) = (D.take (k + 1)).map (fun x => xr x c) ++ Z.drop 1 := by
  have h1 : ((D.take k).map (fun x => xr x c)).length = k := by simp; omega
  match Z, h0 with
  | z :: Z, _ =>
    rw [List.set_append_right _ _ (by omega), h1, Nat.sub_self, List.set_cons_zero, List.take_add_one, List.getElem?_eq_getElem hk, List.map_append, List.append_assoc]
    simp [List.getD, List.getElem?_eq_getElem hk]
theorem nums_set (l : List Int) (k : Nat) (y : Int) : (nums l).toArray.setIfInBounds k (.int .u8 y) = (nums (l.set k y)).toArray := by
  rw [List.setIfInBounds_toArray, nums, nums, List.map_set]
theorem PadI.put {w W : World} {gx gy k : Nat} {D : List Int} (h : PadI w gx gy D k W) (hD : D.length = 64) (hk : k < 64) (y x : Int) (hy : y = xr (D.getD k 0) 92) (hx : x = xr (D.getD k 0) 54) :
    PadI w gx gy D (k + 1) ((W.setCell ⟨gy, k, none⟩ (.int .u8 y)).setCell ⟨gx, k, none⟩ (.int .u8 x)) := by
  have a := h.gtx
  have b := h.gty
  refine ⟨(h.bel.setCell (by simp; omega) _).setCell (by simp; omega) _, ?_, ?_, ?_, ?_, a, b⟩
  · exact (Below.heap_setCell _ _ _ _ (by simp; omega)).trans ((Below.heap_setCell W _ _ _ (by simp; omega)).trans h.r1)
  · exact (Below.heap_setCell _ _ _ _ (by simp; omega)).trans ((Below.heap_setCell W _ _ _ (by simp; omega)).trans h.r2)
  · have hb : (W.setCell ⟨gy, k, none⟩ (.int .u8 y)).heap[gx]? = _ := (Below.heap_setCell W _ _ _ (by simp; omega)).trans h.xx
    rw [blk_set hb, nums_set, hx, set_done (by omega) 54 (by simp; omega), List.drop_drop]
  · refine (Below.heap_setCell _ _ _ _ (by simp; omega)).trans ?_
    rw [blk_set h.yy, nums_set, hy, set_done (by omega) 92 (by simp; omega), List.drop_replicate, Nat.sub_sub]
/-- Behind the loop. -/
structure PadE (w : World) (gx gy : Nat) (X Y : List Int) (W : World) : Prop where
  bel : Below w.heap.size w W
  r1 : W.heap[w.heap.size]? = some (.cells mix0.toArray 112 (0, 0))
  r2 : W.heap[w.heap.size + 1]? = some (.cells mix0.toArray 112 (0, 0))
  xx : W.heap[gx]? = some (.cells (nums X).toArray 109 (0, 0))
  yy : W.heap[gy]? = some (.cells (nums Y).toArray 109 (0, 0))
theorem PadE.kept {w W W1 : World} {gx gy : Nat} {X Y : List Int} {S : Nat → Prop} (h : PadE w gx gy X Y W) (hk : Keeps S W W1) (hS : ∀ i, i < W.heap.size → S i → w.heap.size + 1 < i ∧ i ≠ gx ∧ i ≠ gy) : PadE w gx gy X Y W1 := by
  have a := blk_lt h.r1
  have b := blk_lt h.r2
  have c := blk_lt h.xx
  have d := blk_lt h.yy
  refine ⟨h.bel.trans (hk.below h.bel.size (fun i hi hs => ?_)), hk.at_ h.r1 (fun hs => ?_), hk.at_ h.r2 (fun hs => ?_), hk.at_ h.xx (fun hs => ?_), hk.at_ h.yy (fun hs => ?_)⟩
  · have := hS i (by omega) hs; omega
  · have := hS _ a hs; omega
  · have := hS _ b hs; omega
  · have := hS _ c hs; omega
  · have := hS _ d hs; omega
structure Laid2 (w : World) (g : Nat) (Zi Zo : List Value) (W : World) : Prop where
  bel : Below w.heap.size w W
  h1 : W.heap[g]? = some (.cells Zi.toArray 112 (0, 0))
  h2 : W.heap[g + 1]? = some (.cells Zo.toArray 112 (0, 0))
  ge : w.heap.size ≤ g
theorem Laid2.below {w W W1 : World} {g : Nat} {Zi Zo : List Value} (h : Laid2 w g Zi Zo W) (hb : Below W.heap.size W W1) : Laid2 w g Zi Zo W1 :=
  ⟨h.bel.trans (hb.mono h.bel.size), (hb.block _ (blk_lt h.h1)).trans h.h1, (hb.block _ (blk_lt h.h2)).trans h.h2, h.ge⟩
/-- The two blocks are made: k bytes of each are done. -/
structure RPadI (w : World) (gx gy : Nat) (D : List Int) (k : Nat) (W : World) : Prop where
  bel : Below w.heap.size w W
  xx : W.heap[gx]? = some (.cells (nums ((D.take k).map (fun x => xr x 54) ++ List.replicate (64 - k) 0)).toArray 5 (0, 0))
  yy : W.heap[gy]? = some (.cells (nums ((D.take k).map (fun x => xr x 92) ++ List.replicate (64 - k) 0)).toArray 5 (0, 0))
  gtx : w.heap.size ≤ gx
  gty : gx < gy
theorem RPadI.put {w W : World} {gx gy k : Nat} {D : List Int} (h : RPadI w gx gy D k W) (hD : D.length = 64) (hk : k < 64) (x y : Int) (hx : x = xr (D.getD k 0) 54) (hy : y = xr (D.getD k 0) 92) :
    RPadI w gx gy D (k + 1) ((W.setCell ⟨gx, k, none⟩ (.int .u8 x)).setCell ⟨gy, k, none⟩ (.int .u8 y)) := by
  have a := h.gtx
  have b := h.gty
  refine ⟨(h.bel.setCell (by simp; omega) _).setCell (by simp; omega) _, ?_, ?_, a, b⟩
  · refine (Below.heap_setCell _ _ _ _ (by simp; omega)).trans ?_
    rw [blk_set h.xx, nums_set, hx, set_done (by omega) 54 (by simp; omega), List.drop_replicate, Nat.sub_sub]
  · have hb : (W.setCell ⟨gx, k, none⟩ (.int .u8 x)).heap[gy]? = _ := (Below.heap_setCell W _ _ _ (by simp; omega)).trans h.yy
    rw [blk_set hb, nums_set, hy, set_done (by omega) 92 (by simp; omega), List.drop_replicate, Nat.sub_sub]
end Go.Proofs.Ythobfbiobnmceaa.B
namespace Go.Proofs.Ythobfbiobnmceaa.B
open Go.RowKit
set_option linter.unusedVariables false
set_option linter.unusedSimpArgs false
/-- The loop of Expand: b holds the bytes xs, n of them. -/
structure ExpI (w : World) (g : Nat) (Zi Zo : List Value) (n : Nat) (xs : List Int) (v : Value) (W : World) : Prop where
  l : Laid2 w g Zi Zo W
  b : Loc w W 5 1 v n (nums xs)
theorem ExpI.below {w W W1 : World} {g n : Nat} {Zi Zo : List Value} {xs : List Int} {v : Value} (h : ExpI w g Zi Zo n xs v W) (hb : Below W.heap.size W W1) : ExpI w g Zi Zo n xs v W1 := ⟨h.l.below hb, h.b.step hb⟩
end Go.Proofs.Ythobfbiobnmceaa.B
namespace Go.Proofs.Ythobfbiobnmceaa.B
open Go.RowKit
set_option linter.unusedVariables false
set_option linter.unusedSimpArgs false
theorem Row.free {w : World} {e : TypeId} {n cap g : Nat} {xs : List Value} (h : Row w e 1 (.slice (some ⟨g, 0, none⟩) n cap) n xs) {i : Nat} (hi : i < n) : w.frozen? ⟨g, i, none⟩ = false := by
  rcases h.2 with ⟨hz, _⟩ | ⟨g', cap', cur, lo, hi', he, hg, hmk, hnc, _⟩
  · simp at hz
  · simp at he
    obtain ⟨rfl, rfl⟩ := he
    simp [World.frozen?, hg]
    omega
theorem Row.put {w : World} {e : TypeId} {n cap g : Nat} {xs : List Value} (h : Row w e 1 (.slice (some ⟨g, 0, none⟩) n cap) n xs) (i : Nat) (u : Value) : Row (w.setCell ⟨g, i, none⟩ u) e 1 (.slice (some ⟨g, 0, none⟩) n cap) n (xs.set i u) := by
  refine ⟨by rw [List.length_set]; exact h.1, ?_⟩
  rcases h.2 with ⟨hz, _⟩ | ⟨g', cap', cur, lo, hi', he, hg, hmk, hnc, hcm, hcs, ht⟩
  · simp at hz
  · simp at he
    obtain ⟨rfl, rfl⟩ := he
    refine .inr ⟨g, cap, _, lo, hi', rfl, blk_set hg i u, hmk, hnc, hcm, by simpa using hcs, ?_⟩
    rw [Array.toList_setIfInBounds, List.take_set, ht]
/-- The inner loops of Stretch: t, block gt, holds xs. -/
structure StrI (w : World) (g : Nat) (Zi Zo : List Value) (n : Nat) (ys : List Int) (v : Value) (gt ct : Nat) (xs : List Int) (W : World) : Prop where
  e : ExpI w g Zi Zo n ys v W
  t : Row W 5 1 (.slice (some ⟨gt, 0, none⟩) 32 ct) 32 (nums xs)
  ge : w.heap.size ≤ gt
  ne : some gt ≠ v.ownBlock
theorem StrI.below {w W W1 : World} {g n gt ct : Nat} {Zi Zo : List Value} {ys xs : List Int} {v : Value} (h : StrI w g Zi Zo n ys v gt ct xs W) (hb : Below W.heap.size W W1) : StrI w g Zi Zo n ys v gt ct xs W1 :=
  ⟨h.e.below hb, h.t.kept (S := fun _ => False) (Keeps.of_below hb) (fun _ _ h => h), h.ge, h.ne⟩
theorem StrI.drew {w W : World} {g n gt ct : Nat} {Zi Zo : List Value} {ys xs : List Int} {v : Value} (h : StrI w g Zi Zo n ys v gt ct xs W) : StrI w g Zi Zo n ys v gt ct xs W.drew := h.below ((Below.refl _ W).drew)
theorem ExpI.kept {w W W1 : World} {g n gt : Nat} {Zi Zo : List Value} {xs : List Int} {v : Value} (h : ExpI w g Zi Zo n xs v W) (hk : Keeps (fun i => i = gt) W W1) (h1 : gt ≠ g) (h2 : gt ≠ g + 1) (h3 : some gt ≠ v.ownBlock) (h4 : w.heap.size ≤ gt) : ExpI w g Zi Zo n xs v W1 :=
  ⟨⟨h.l.bel.trans (hk.below h.l.bel.size (by intro i hi; omega)), hk.at_ h.l.h1 (by omega), hk.at_ h.l.h2 (by omega), h.l.ge⟩, h.b.row.kept hk (fun k hk2 he => h3 (by rw [hk2, he])), h.b.below.trans (hk.below h.b.below.size (by intro i hi; omega)), h.b.base⟩
theorem StrI.put {w W : World} {g n gt ct : Nat} {Zi Zo : List Value} {ys xs : List Int} {v : Value} (h : StrI w g Zi Zo n ys v gt ct xs W) (i : Nat) (y : Int) : StrI w g Zi Zo n ys v gt ct (xs.set i y) (W.setCell ⟨gt, i, none⟩ (.int .u8 y)) := by
  have n1 : some g ≠ some gt := h.t.ne_type h.e.l.h1 (by decide)
  have n2 : some (g + 1) ≠ some gt := h.t.ne_type h.e.l.h2 (by decide)
  refine ⟨h.e.kept (Keeps.setCell (S := fun i => i = gt) (Keeps.refl _ _) (fun _ => rfl) _) (fun e => n1 (by rw [e])) (fun e => n2 (by rw [e])) h.ne h.ge, ?_, h.ge, h.ne⟩
  have := h.t.put i (.int .u8 y)
  rw [nums, List.map_set]
  exact this
/-- The inner loops of the document's Stretch: t, block gt, holds xs. -/
structure RStI (w : World) (gt ct : Nat) (xs : List Int) (W : World) : Prop where
  bel : Below w.heap.size w W
  t : Row W 5 1 (.slice (some ⟨gt, 0, none⟩) 32 ct) 32 (nums xs)
  ge : w.heap.size ≤ gt
theorem RStI.below {w W W1 : World} {gt ct : Nat} {xs : List Int} (h : RStI w gt ct xs W) (hb : Below W.heap.size W W1) : RStI w gt ct xs W1 :=
  ⟨h.bel.trans (hb.mono h.bel.size), h.t.kept (S := fun _ => False) (Keeps.of_below hb) (fun _ _ h => h), h.ge⟩
theorem RStI.drew {w W : World} {gt ct : Nat} {xs : List Int} (h : RStI w gt ct xs W) : RStI w gt ct xs W.drew := h.below ((Below.refl _ W).drew)
theorem RStI.put {w W : World} {gt ct : Nat} {xs : List Int} (h : RStI w gt ct xs W) (i : Nat) (y : Int) : RStI w gt ct (xs.set i y) (W.setCell ⟨gt, i, none⟩ (.int .u8 y)) := by
  have hk : Keeps (fun i => i = gt) W (W.setCell ⟨gt, i, none⟩ (.int .u8 y)) := Keeps.setCell (S := fun i => i = gt) (Keeps.refl _ _) (fun _ => rfl) _
  have hg := h.ge
  refine ⟨h.bel.trans (hk.below h.bel.size (by intro j hj; omega)), ?_, hg⟩
  have := h.t.put i (.int .u8 y)
  rw [nums, List.map_set]
  exact this
end Go.Proofs.Ythobfbiobnmceaa.B
