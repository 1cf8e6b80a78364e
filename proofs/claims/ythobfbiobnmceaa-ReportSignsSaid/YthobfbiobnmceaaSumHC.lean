/-
  SumHC: what is wanted of Base, Bytes, Sha, ShaB, ShaH, Filled, Blocks, RefSumH, TurnedH, Round, Turn, Mix, Any, Feed, New, Told, Sum, Both, Pads, Mac, RefMac, ExpP, Expand, RefExpand, Stretch, RefStretch.
-/
import Derived.WalkKit
import Derived.WalkSpells
import Derived.WalkLawsBesides
import Derived.KernelRfl
import Derived.Lib.Hide
import Derived.Lib.ConvBytes
import Derived.Lib.AppendStr
import Derived.Deep.RegionHeld3
import Derived.Deep.RegionLaw
import Derived.ArgAppend
import Derived.Deep.LoopGhost
import Derived.Deep.QuietTactic
import Derived.BigQuiet
import Derived.Outline
import Derived.Deep.AppendLies
import Derived.Test.YthobfbiobnmceaaProg
import Derived.Lib.Strings
import Derived.Laws.BitsLemmas
import Derived.StillTailTactics
import Derived.Deep.MidRow
import Derived.RegionTactic
import Derived.Test.YthobfbiobnmceaaBase
import Derived.Test.YthobfbiobnmceaaBytes
import Derived.Test.YthobfbiobnmceaaWriter
import Derived.Test.YthobfbiobnmceaaPut
import Derived.Test.YthobfbiobnmceaaCursor
import Derived.Test.YthobfbiobnmceaaGet
import Derived.Test.YthobfbiobnmceaaRefPut
import Derived.Test.YthobfbiobnmceaaPadE
import Derived.Test.YthobfbiobnmceaaSumHA
import Derived.Test.YthobfbiobnmceaaSumHB
set_option linter.unusedVariables false
set_option linter.unusedSimpArgs false
namespace Go.Proofs.Ythobfbiobnmceaa.B
open Go.RowKit
open Go.RowKit
set_option linter.unusedVariables false
end Go.Proofs.Ythobfbiobnmceaa.B
namespace Go.Proofs.Ythobfbiobnmceaa.B
open Go.RowKit
set_option linter.unusedVariables false
theorem be4_b (x : Int) : Bs (be4 x) := by
  intro y hy
  simp only [be4, List.mem_cons, List.not_mem_nil, or_false] at hy
  omega
theorem sha_length (bs : List Int) : (sha bs).length = 32 := by
  have h := shaN_length (fill bs) ((bs.length + 72) / 64)
  rw [sha, shaW]
  generalize shaN (fill bs) ((bs.length + 72) / 64) = l at h
  match l, h with
  | [a, b, c, d, e, f, g, i], _ => rfl
theorem sha_b (bs : List Int) : Bs (sha bs) := by
  intro x hx
  rw [sha, List.mem_flatMap] at hx
  obtain ⟨y, _, hy⟩ := hx
  exact be4_b y x hy
end Go.Proofs.Ythobfbiobnmceaa.B
namespace Go.Proofs.Ythobfbiobnmceaa.B
open Go.RowKit
set_option linter.unusedVariables false
theorem rangeOf {W : World} {g : Nat} {cs : List Value} {t : TypeId} {fr : Nat × Nat} (h : W.heap[g]? = some (.cells cs.toArray t fr)) : W.rangeAt g 0 cs := fun j v hv => by
  rw [blk_cell h (0 + j), Nat.zero_add, ← hv]
  exact List.getElem?_toArray
end Go.Proofs.Ythobfbiobnmceaa.B
namespace Go.Proofs.Ythobfbiobnmceaa.B
open Go.RowKit
set_option linter.unusedVariables false
end Go.Proofs.Ythobfbiobnmceaa.B
namespace Go.Proofs.Ythobfbiobnmceaa.B
open Go.RowKit
set_option linter.unusedVariables false
/-- Cells are stored into the middle of a block. -/
theorem wpList_store_part {P : Program} {ops : Array Oper} {rest : List Oper} {op : Oper} {a : Act} {w : World} {Q : Exit → Act → World → Prop} (hgd : op.guard = none) (ty : TypeId) (x y : Operand) (ho : op.op = .store ty x y)
    (g o : Nat) (cs L : List Value) (t : TypeId) (hx : a.eval x = .pointer (some ⟨g, o, none⟩)) (hy : a.eval y = .agg cs.toArray)
    (hg : w.heap[g]? = some (.cells L.toArray t (0, 0))) (hs : o + cs.length ≤ L.length) (hi : (P.info? ty).map (·.size) = some cs.length) (h1 : ∀ v ∈ cs, v.oneCell' = true)
    (h : ∀ W : World, W.heap[g]? = some (.cells (splc L o cs).toArray t (0, 0)) → Keeps (fun i => i = g) w W → wpList P ops Q rest (a.put op.dst undef) W) : wpList P ops Q (op :: rest) a w :=
  wpList_store_mid hgd ty x y ho g o cs.toArray hx hy (midThere hg (by simpa using hs)) (by simpa using hi) (all_oneCell_toArray h1) (h _ (by simpa using setMid hg o cs hs) (by simpa using setCells_keeps_at w g o cs))
section
variable {W : World} {g : Nat} {H P : List Int} {h a : Int} (m : MixV W g H P h a)
include m
end
section
variable {P : Program} {md : Region.Mode} {ops : Array Oper} {Q : Exit → Act → World → Prop} {fuel : Nat} {listed : Array Bool} {a : Act} {w : World} {i : Nat} {rs : List Nat} {d : Option Tmp} {T : TypeId} {p : String} {af : Array Edge}
/-- A conversion that is known. -/
theorem consConv {S D : TypeId} {x : Operand} (ho : ops[i]? = some { dst := d, op := .convert S D x, type := T, pos := p, after := af, guard := none }) (v u : Value) (hx : a.eval x = v) (hc : (convert S D v).run P w = .ok u w)
    (h : wpAny P md ops Q fuel (listed.setIfInBounds i true) (a.put d u) w) (hs : AllReady P md ops Q fuel listed a w rs) : AllReady P md ops Q fuel listed a w (i :: rs) :=
  consU ho (fun K' hK => by
    have hK' := hK _ _ h
    unfold Oper.wp execOp
    simp only [hx, Sem.run_bind, hc, Result.andThen_ok, Sem.run_pure]
    exact hK') hs
end
end Go.Proofs.Ythobfbiobnmceaa.B
namespace Go.Proofs.Ythobfbiobnmceaa.B
open Go.RowKit
set_option linter.unusedVariables false
end Go.Proofs.Ythobfbiobnmceaa.B
namespace Go.Proofs.Ythobfbiobnmceaa.B
open Go.RowKit
set_option linter.unusedVariables false
set_option maxRecDepth 100000 in
set_option maxHeartbeats 1600000 in
theorem both_any (Zi Zo : List Value) (x y : List Int) (s : ByteArray) (hi : MixZ Zi x) (ho : MixZ Zo y) (hx : x.length ≤ 1000000) (hy : y.length ≤ 1000000) (hs : s.size ≤ 800000000000) (w : World) :
    Calls Try.prog 57 #[.agg Zi.toArray, .agg Zo.toArray, .string s] w fun e w' => e = .returned (.string (strOfNums (sha (y ++ sha (x ++ bytesOf s))))) ∧ Below w.heap.size w w' := by
  have h1 : Mx ((w.alloc (.cells Zi.toArray 112 (0, 0))).alloc (.cells Zo.toArray 112 (0, 0))) w.heap.size x := hi.mx (get_below (get_top rfl))
  have h2 : Mx ((w.alloc (.cells Zi.toArray 112 (0, 0))).alloc (.cells Zo.toArray 112 (0, 0))) (w.heap.size + 1) y := ho.mx (get_top (by simp))
  have hb : Below w.heap.size w ((w.alloc (.cells Zi.toArray 112 (0, 0))).alloc (.cells Zo.toArray 112 (0, 0))) := ((Below.refl _ w).alloc (Nat.le_refl _) _).alloc (by simp) _
  have HF1 := Lib.hid (feed_any w.heap.size s x _ h1 (by omega))
  have H2 := Lib.hid h2
  have HB := Lib.hid hb
  have HX := Lib.hid hx
  have HY := Lib.hid hy
  clear h1 h2 hb hx hy hi ho
  go_enter Try.func57, Try.ntmps57
  go_wp2_with (first | (refine wpList_box (by rfl) 112 (.tmp 0) (by rfl) Zi.toArray (by rfl) ?_) | (refine wpList_box (by rfl) 112 (.tmp 1) (by rfl) Zo.toArray (by rfl) ?_))
  refine HF1.out.mono ?_
  rintro e W1 ⟨rfl, hm1, hk1⟩
  have HT1 := Lib.hid (told_any w.heap.size _ W1 hm1 (by rw [List.length_append, bytesOf_length]; have := HX.out; omega))
  have HM2 := Lib.hid (H2.out.kept hk1 (by omega))
  have HB1 := Lib.hid (HB.out.trans (hk1.below HB.out.size (by intro i hi; omega)))
  clear hm1 hk1 HF1 H2 HB
  go_wp2_with fail
  refine HT1.out.mono ?_
  rintro e W2 ⟨rfl, hb2⟩
  have hlen : (strOfNums (sha (x ++ bytesOf s))).size = 32 := by rw [strOfNums_size, sha_length]
  have HF2 := Lib.hid (feed_any (w.heap.size + 1) (strOfNums (sha (x ++ bytesOf s))) y W2 (HM2.out.below hb2 HM2.out.lt) (by rw [hlen]; have := HY.out; omega))
  have HB2 := Lib.hid (HB1.out.trans (hb2.mono HB1.out.size))
  clear hb2 hlen HM2 HB1 HT1
  go_wp2_with fail
  refine HF2.out.mono ?_
  rintro e W3 ⟨rfl, hm3, hk3⟩
  rw [bytesOf_strOfNums _ (sha_b _)] at hm3
  have HT3 := Lib.hid (told_any (w.heap.size + 1) _ W3 hm3 (by rw [List.length_append, sha_length]; have := HY.out; omega))
  have HB3 := Lib.hid (HB2.out.trans (hk3.below HB2.out.size (by intro i hi; omega)))
  clear hm3 hk3 HF2 HB2
  go_wp2_with fail
  refine HT3.out.mono ?_
  rintro e W4 ⟨rfl, hb4⟩
  have HB4 := Lib.hid (HB3.out.trans (hb4.mono HB3.out.size))
  clear hb4 HT3 HB3
  go_wp2
  go_ret
  exact ⟨rfl, HB4.out⟩
theorem bytesOf_append (a b : ByteArray) : bytesOf (a ++ b) = bytesOf a ++ bytesOf b := by simp [bytesOf]
/-- A key, filled up to a block. -/
def kpad (k : List Int) : List Int := k ++ List.replicate (64 - k.length) 0
def kblk (K : List Int) : List Int := kpad (if 64 < K.length then sha K else K)
def ipad (K : List Int) : List Int := (kblk K).map fun x => xr x 54
def opad (K : List Int) : List Int := (kblk K).map fun x => xr x 92
/-- A text's HMAC under a key. -/
def hmac (K x : List Int) : List Int := sha (opad K ++ sha (ipad K ++ x))
theorem kpad_length {k : List Int} (h : k.length ≤ 64) : (kpad k).length = 64 := by simp [kpad]; omega
theorem kpad_b {k : List Int} (h : Bs k) : Bs (kpad k) := h.append fun x hx => by
  obtain rfl := List.eq_of_mem_replicate hx
  omega
theorem kcut_length (K : List Int) : (if 64 < K.length then sha K else K).length ≤ 64 := by
  split
  · rw [sha_length]; omega
  · omega
theorem kblk_length (K : List Int) : (kblk K).length = 64 := kpad_length (kcut_length K)
theorem ipad_length (K : List Int) : (ipad K).length = 64 := by rw [ipad, List.length_map, kblk_length]
theorem opad_length (K : List Int) : (opad K).length = 64 := by rw [opad, List.length_map, kblk_length]
theorem hmac_length (K x : List Int) : (hmac K x).length = 32 := sha_length _
theorem hmac_b (K x : List Int) : Bs (hmac K x) := sha_b _
theorem wraps_u8 (n : Int) (h₀ : 0 ≤ n) (h₁ : n < 2 ^ 8) : IntKind.u8.wrap n = n := by rw [IntKind.wrap_u8]; omega
theorem xor_u8 {a b : Int} (ha : 0 ≤ a ∧ a < 256) (hb : 0 ≤ b ∧ b < 256) : bits .xor .u8 a b = xr a b := by
  obtain ⟨m, rfl⟩ := Int.eq_ofNat_of_zero_le ha.1
  obtain ⟨n, rfl⟩ := Int.eq_ofNat_of_zero_le hb.1
  exact bits_xor_nat .u8 8 (by decide) wraps_u8 m n (by omega) (by omega)
theorem xr_b {a b : Int} (ha : 0 ≤ a ∧ a < 256) (hb : 0 ≤ b ∧ b < 256) : 0 ≤ xr a b ∧ xr a b < 256 := by
  obtain ⟨m, rfl⟩ := Int.eq_ofNat_of_zero_le ha.1
  obtain ⟨n, rfl⟩ := Int.eq_ofNat_of_zero_le hb.1
  have : m ^^^ n < 2 ^ 8 := Nat.xor_lt_two_pow (by omega) (by omega)
  unfold xr
  simp only [Int.toNat_natCast]
  omega
theorem xmap_b {l : List Int} (h : Bs l) (c : Int) (hc : 0 ≤ c ∧ c < 256) : Bs (l.map fun x => xr x c) := by
  intro y hy
  obtain ⟨x, hx, rfl⟩ := List.mem_map.1 hy
  exact xr_b (h x hx) hc
theorem PadI.at2 {w W : World} {gx gy k : Nat} {D : List Int} (h : PadI w gx gy D k W) (hD : D.length = 64) (hk : k < 64) : W.cell? ⟨gy, k, none⟩ = some (.int .u8 0) := by
  rw [blk_cell h.yy k, nums_get (by simp; omega), List.getD, List.getElem?_append_right (by simp; omega), List.length_map, List.length_take, hD, Nat.min_eq_left (show k ≤ 64 by omega), Nat.sub_self, List.getElem?_replicate, if_pos (by omega)]
  rfl
theorem zero64_zero (w : World) : (zeroValue 109).run Try.prog w = .ok (.agg (nums zero64).toArray) w := by kernel_rfl
/-- Two mixes that have taken a key's blocks, by value. -/
def PadsOf (K : List Int) (w : World) (e : Ending) (w' : World) : Prop := ∃ Zi Zo, e = .returned (.tuple #[.agg Zi.toArray, .agg Zo.toArray]) ∧ MixZ Zi (ipad K) ∧ MixZ Zo (opad K) ∧ Below w.heap.size w w'
/-- The world of pads behind its first lines: the key, or its sum. -/
structure PadS (w : World) (K : List Int) (k : ByteArray) (W : World) : Prop where
  bel : Below w.heap.size w W
  r1 : W.heap[w.heap.size]? = some (.cells mix0.toArray 112 (0, 0))
  r2 : W.heap[w.heap.size + 1]? = some (.cells mix0.toArray 112 (0, 0))
  kk : bytesOf k = (if 64 < K.length then sha K else K)
  k64 : k.size ≤ 64
theorem padI_start {w W W1 : World} {K : List Int} {k : ByteArray} (h : PadS w K k W) (h1 : W1.heap[W.heap.size]? = some (.cells (splc (nums zero64) 0 (nums ((bytesOf k).take k.size))).toArray 109 (0, 0)))
    (hk : Keeps (fun i => i = W.heap.size) ((W.alloc (.cells (nums zero64).toArray 109 (0, 0))).alloc (.cells (nums zero64).toArray 109 (0, 0))) W1) : PadI w W.heap.size (W.heap.size + 1) (kblk K) 0 W1 := by
  have b2 := blk_lt h.r2
  have e : kblk K = kpad (bytesOf k) := by rw [kblk, ← h.kk]
  have hl := bytesOf_length k
  refine ⟨(h.bel.alloc h.bel.size _ |>.alloc (by simp; have := h.bel.size; omega) _).trans (hk.below (by simp; have := h.bel.size; omega) (by intro i hi; have := h.bel.size; omega)), ?_, ?_, ?_, ?_, by omega, by omega⟩
  · exact hk.at_ (get_below (get_below h.r1)) (by omega)
  · exact hk.at_ (get_below (get_below h.r2)) (by omega)
  · rw [h1, List.take_zero, List.map_nil, List.nil_append, List.drop_zero, e, kpad, List.take_of_length_le (by omega), splc, nums_append]
    congr 3
    rw [List.take_zero, List.nil_append, Nat.zero_add, nums_length, zero64]
    simp only [nums, List.map_replicate, List.drop_replicate]
  · rw [List.take_zero, List.map_nil, List.nil_append]
    exact hk.at_ (get_top (by simp)) (by omega)
theorem PadI.done {w W : World} {gx gy : Nat} {D : List Int} (h : PadI w gx gy D 64 W) (hD : D.length = 64) : PadE w gx gy (D.map fun x => xr x 54) (D.map fun x => xr x 92) W := by
  obtain ⟨h1, h2, h3, h4, h5, h6, h7⟩ := h
  rw [List.take_of_length_le (by omega), List.drop_of_length_le (by omega), List.append_nil] at h4
  rw [List.take_of_length_le (by omega), Nat.sub_self, List.replicate_zero, List.append_nil] at h5
  exact ⟨h1, h2, h3, h4, h5⟩
theorem conv64 (W : World) (g : Nat) (X : List Int) (hX : X.length = 64) (h : W.heap[g]? = some (.cells (nums X).toArray 109 (0, 0))) : (convert 50 9 (.slice (some ⟨g, 0, none⟩) 64 64)).run Try.prog W = .ok (.string (strOfNums X)) W :=
  run_convert_bytes_arg W _ _ Try.underlying50 Try.underlying5 g 0 64 64 X hX (fun j hj => by rw [Nat.zero_add, blk_cell h j]; exact nums_get (by omega)) _ Try.underlying9
theorem splc_whole {Z : List Value} (h : Z.length = 75) : splc mix0 0 Z = Z := by
  rw [splc, List.take_zero, List.nil_append, Nat.zero_add, List.drop_of_length_le (by rw [h]; exact Nat.le_refl _), List.append_nil]
theorem results_cell_cell {fn : Func} {p q : Tmp} {ty tz : TypeId} (h : fn.results = #[.cell p ty, .cell q tz]) (tmps : Array Value) (P : Program) (w : World) :
    (results fn tmps).run P w = ((asAddr (tmps.getD p undef)).run P w).andThen fun a w1 => ((loadVar ty a).run P w1).andThen fun v w2 => ((asAddr (tmps.getD q undef)).run P w2).andThen fun b w3 => ((loadVar tz b).run P w3).andThen fun u w4 => .ok (.tuple #[v, u]) w4 := by
  simp only [results, h]
  simp [Sem.run_bind, Result.andThen]
/-- A function whose results are two variables' blocks. -/
theorem bodyPost_row_row {P : Program} {fn : Func} {R : Ending → World → Prop} {a : Act} {w : World} {p q : Tmp} {ty : TypeId} (hres : fn.results = #[.cell p ty, .cell q ty]) (g g2 : Nat) (cs cs2 : Array Value) (fr fr2 : Nat × Nat) (d : TypeDesc)
    (hp : a.tmps.getD p undef = .pointer (some ⟨g, 0, none⟩)) (hq : a.tmps.getD q undef = .pointer (some ⟨g2, 0, none⟩)) (hg : w.heap[g]? = some (.cells cs ty fr)) (hg2 : w.heap[g2]? = some (.cells cs2 ty fr2)) (hu : P.underlying ty = some d) (hd : (match d with | .struct _ | .array _ _ => true | _ => false) = true)
    (hi : (P.info? ty).map (·.size) = some cs.size) (hi2 : (P.info? ty).map (·.size) = some cs2.size) (hdf : a.defers = []) (hR : R (.returned (.tuple #[.agg cs, .agg cs2])) w) : bodyPost P fn R .ret a w := by
  refine bodyPost_ret (v := .tuple #[.agg cs, .agg cs2]) ?_ hdf hR
  rw [results_cell_cell hres, hp, hq]
  simp [asAddr, Result.andThen, run_loadVar_row w g ty ty cs fr d hg hu hd hi, run_loadVar_row w g2 ty ty cs2 fr2 d hg2 hu hd hi2]
set_option maxRecDepth 100000 in
set_option maxHeartbeats 3200000 in
theorem pads_any (key : ByteArray) (hk : key.size ≤ 800000000000) (w : World) : Calls Try.prog 56 #[.string key] w (PadsOf (bytesOf key) w) := by
  have hl := bytesOf_length key
  have hb0 : Below w.heap.size w ((w.alloc (.cells mix0.toArray 112 (0, 0))).alloc (.cells mix0.toArray 112 (0, 0))) := ((Below.refl _ w).alloc (Nat.le_refl _) _).alloc (by simp) _
  have HB0 := Lib.hid hb0
  have HKL := Lib.hid hl
  have hub := Try.underlying109
  have hum := Try.underlying112
  have HUM := Lib.hid hum
  clear hum
  obtain ⟨KB, hKB⟩ : ∃ K, K = bytesOf key := ⟨_, rfl⟩
  rw [← hKB]
  have HKB := Lib.hid hKB
  clear hb0 hl hKB
  go_enter Try.func56, Try.ntmps56
  by_cases hbig : 64 < key.size
  · go_wp2_with (refine wpList_alloc_known (by rfl) 112 (by rfl) mix0.toArray (mix0_zero _) ?_)
    refine (sum_any key hk _).mono ?_
    rintro e W1 ⟨rfl, hb1⟩
    have HS : Hid (PadS w KB (strOfNums (sha (bytesOf key))) W1) := Lib.hid ⟨HB0.out.trans (hb1.mono (by simp; omega)), (hb1.block _ (by simp; omega)).trans (get_below (get_top rfl)), (hb1.block _ (by simp)).trans (get_top (by simp)), by rw [bytesOf_strOfNums _ (sha_b _), HKB.out, if_pos (by rw [HKL.out]; exact hbig)], by rw [strOfNums_size, sha_length]; omega⟩
    obtain ⟨K0, hK0⟩ : ∃ K, K = strOfNums (sha (bytesOf key)) := ⟨_, rfl⟩
    rw [← hK0] at HS
    rw [← hK0]
    clear hb1 hK0
    go_wp2_with (first | (refine wpList_alloc_known (by rfl) 109 (by rfl) (nums zero64).toArray (zero64_zero _) ?_) | (refine wpList_copy_str (by rfl) (.tmp 14) (.tmp 15) 50 9 (by rfl) 5 Try.underlying50 sizeByte W1.heap.size 0 64 64 K0 (nums zero64) 109 (by rfl) (by rfl) (get_below (get_top rfl)) K0.size (by have := HS.out.k64; omega) (by have := HS.out.k64; simp [nums_length, zero64]; omega) ?_; intro W2 hW2 hK2; have HP0 := Lib.hid (padI_start HS.out hW2 hK2); clear hW2 hK2))
    obtain ⟨gx, hgx⟩ : ∃ g, g = W1.heap.size := ⟨_, rfl⟩
    rw [← hgx] at HP0
    rw [← hgx]
    have hDb : Bs (kblk KB) := by rw [kblk, ← HS.out.kk]; exact kpad_b (bytesOf_range _)
    have HDB := Lib.hid hDb
    clear hgx hDb HS
    have hI64 : (ipad KB).length = 64 := ipad_length KB
    have hO64 : (opad KB).length = 64 := opad_length KB
    have hD64 := kblk_length KB
    obtain ⟨I, hI⟩ : ∃ I, I = ipad KB := ⟨_, rfl⟩
    obtain ⟨O, hO⟩ : ∃ O, O = opad KB := ⟨_, rfl⟩
    obtain ⟨D, hD⟩ : ∃ D, D = kblk KB := ⟨_, rfl⟩
    have hID : D.map (fun x => xr x 54) = I := by rw [hI, hD, ipad]
    have hOD : D.map (fun x => xr x 92) = O := by rw [hO, hD, opad]
    rw [← hD] at HP0 HDB hD64
    rw [← hI] at hI64
    rw [← hO] at hO64
    have HD := Lib.hid hD64
    have HI64 := Lib.hid hI64
    have HO64 := Lib.hid hO64
    have HID := Lib.hid hID
    have HOD := Lib.hid hOD
    have HIK := Lib.hid hI
    have HOK := Lib.hid hO
    have HIB : Hid (Bs I) := by rw [← hID]; exact Lib.hid (xmap_b HDB.out 54 (by omega))
    have HOB : Hid (Bs O) := by rw [← hOD]; exact Lib.hid (xmap_b HDB.out 92 (by omega))
    clear hI64 hO64 hD64 hID hOD hI hO hD
    go_loopg [17] 64 (fun j i wr => ∃ k : Nat, j + k = 64 ∧ i = .int .i64 (k : Int) ∧ PadI w gx (gx + 1) D k wr)
    case atStart => exact ⟨0, rfl, rfl, HP0.out⟩
    case round =>
      clear HP0
      obtain ⟨k, hk, rfl, hI⟩ := hrel
      by_cases hlt : k < 64
      · have cx := hI.at_ HD.out hlt
        have cy := hI.at2 HD.out hlt
        have fx := blk_frozen hI.xx k
        have fy := blk_frozen hI.yy k
        have hd := HDB.out.get k
        have hp := fun y x => hI.put HD.out hlt y x
        obtain ⟨d, hdd⟩ : ∃ d, d = D.getD k 0 := ⟨_, rfl⟩
        rw [← hdd] at cx hd
        simp only [← hdd] at hp
        obtain ⟨y, e1⟩ : ∃ y, bits .xor .u8 d 92 = y := ⟨_, rfl⟩
        obtain ⟨x, e2⟩ : ∃ x, bits .xor .u8 d 54 = x := ⟨_, rfl⟩
        have HP := Lib.hid (hp y x (by rw [← e1, xor_u8 hd (by omega)]) (by rw [← e2, xor_u8 hd (by omega)]))
        have q5 : (k : Int) < 64 := by omega
        have q7 : (0 : Int) ≤ (k : Int) := by omega
        clear hp hdd hd hI
        go_wp2_with fail
        go_roundg (gk - 1)
        case measure => omega
        case rel => exact ⟨k + 1, by omega, by go_num, HP.out⟩
      · obtain rfl : k = 64 := by omega
        have hE := hI.done HD.out
        rw [HID.out, HOD.out] at hE
        have HE := Lib.hid hE
        clear hI hE hk hlt
        go_wp2_with fail
        refine (new_any _).mono ?_
        rintro e W4 ⟨rfl, hm4, hb4⟩
        dsimp only
        have HE4 := Lib.hid (HE.out.kept (Keeps.of_below (S := fun _ => False) hb4) (fun i hi hs => hs.elim))
        have HM4 := Lib.hid hm4
        have hga0 : w.heap.size + 1 < wr.heap.size ∧ gx < wr.heap.size ∧ gx + 1 < wr.heap.size := ⟨blk_lt HE.out.r2, blk_lt HE.out.xx, blk_lt HE.out.yy⟩
        obtain ⟨ga, hga⟩ : ∃ g, g = wr.heap.size := ⟨_, rfl⟩
        rw [← hga] at hga0 HM4
        have HGA := Lib.hid hga0
        have HGE := Lib.hid hga
        clear hm4 hb4 HE hga0
        go_wp2_with fail
        refine (new_any _).mono ?_
        rintro e W5 ⟨rfl, hm5, hb5⟩
        rw [← hga]
        obtain ⟨gb, hgb⟩ : ∃ g, g = W4.heap.size := ⟨_, rfl⟩
        have HGB := Lib.hid (show ga < gb by rw [hgb]; exact HM4.out.lt)
        have hm4 := HM4.out.below hb5 HM4.out.lt
        have HE5 := Lib.hid (HE4.out.kept (Keeps.of_below (S := fun _ => False) hb5) (fun i hi hs => hs.elim))
        rw [← hgb] at hm5
        rw [← hgb]
        have HM5 := Lib.hid hm5
        have HF1 := Lib.hid (feed_any ga (strOfNums I) [] W5 hm4 (by rw [strOfNums_size, HI64.out]; simp))
        have hc1 := conv64 W5 gx I HI64.out HE5.out.xx
        clear hm4 hm5 hb5 hgb hga HE4 HM4
        go_wp2_with fail
        refine HF1.out.mono ?_
        rintro e W6 ⟨rfl, hm6, hk6⟩
        rw [List.nil_append, bytesOf_strOfNums _ HIB.out] at hm6
        have HM6 := Lib.hid hm6
        have HE6 := Lib.hid (HE5.out.kept hk6 (fun i hi hs => by have := HGA.out; omega))
        have HF2 := Lib.hid (feed_any gb (strOfNums O) [] W6 (HM5.out.kept hk6 (by have := HGB.out; omega)) (by rw [strOfNums_size, HO64.out]; simp))
        have hc2 := conv64 W6 (gx + 1) O HO64.out HE6.out.yy
        clear hm6 hk6 hc1 HE5 HM5 HF1
        go_wp2_with fail
        refine HF2.out.mono ?_
        rintro e W7 ⟨rfl, hm7, hk7⟩
        rw [List.nil_append, bytesOf_strOfNums _ HOB.out] at hm7
        have HE7 := Lib.hid (HE6.out.kept hk7 (fun i hi hs => by have := HGA.out; have := HGB.out; omega))
        have hma := HM6.out.kept hk7 (by have := HGB.out; omega)
        obtain ⟨Zi, hzi, hbi⟩ := hma.cells
        obtain ⟨Zo, hzo, hbo⟩ := hm7.cells
        have HZI := Lib.hid hzi
        have HZO := Lib.hid hzo
        have HBI := Lib.hid hbi
        have HBO := Lib.hid hbo
        clear hm7 hk7 hma hzi hzo hbi hbo hc2 HE6 HM6 HF2
        go_wp2_with fail
        have HIM := Lib.hid (show (Try.prog.info? 112).map (·.size) = some Zi.length by rw [infoMix, HZI.out.length])
        have HOM := Lib.hid (show (Try.prog.info? 112).map (·.size) = some Zo.length by rw [infoMix, HZO.out.length])
        refine wp_region_any (by kernel_rfl) ?_
        change wpAny _ _ _ _ _ _ _ (World.drew W7)
        refine takeU (v := ?_) 0 rfl (by kernel_rfl) (by kernel_rfl) (by kernel_rfl) (fun _ _ _ h => h) ?_ ?_
        rotate_left
        · intro w; go_simp; with_reducible rfl
        try simp only [Act.put, List.setIfInBounds_toArray, List.set_cons_zero, List.set_cons_succ]
        refine takeU (v := ?_) 1 rfl (by kernel_rfl) (by kernel_rfl) (by kernel_rfl) (fun _ _ _ h => h) ?_ ?_
        rotate_left
        · intro w; go_simp; with_reducible rfl
        try simp only [Act.put, List.setIfInBounds_toArray, List.set_cons_zero, List.set_cons_succ]
        refine takeU (v := ?_) 3 rfl (by kernel_rfl) (by kernel_rfl) (by kernel_rfl) (fun _ _ _ h => h) ?_ ?_
        rotate_left
        · intro w; go_simp; with_reducible rfl
        try simp only [Act.put, List.setIfInBounds_toArray, List.set_cons_zero, List.set_cons_succ]
        refine takeU (v := ?_) 4 rfl (by kernel_rfl) (by kernel_rfl) (by kernel_rfl) (fun _ _ _ h => h) ?_ ?_
        rotate_left
        · intro w; go_simp; with_reducible rfl
        try simp only [Act.put, List.setIfInBounds_toArray, List.set_cons_zero, List.set_cons_succ]
        have HB0' := Lib.hid (show (World.drew W7).heap[gb]? = some (.cells Zo.toArray 112 (0, 0)) from HBO.out)
        refine wpAny_ready (rs := [2, 5]) (by kernel_rfl) (by simp) ?_
        refine consLoad (by rfl) ga 0 (by rfl) Zi _ (rangeOf HBI.out) HUM.out rfl HIM.out ?_ ?_
        · try simp only [Act.put, List.setIfInBounds_toArray, List.set_cons_zero, List.set_cons_succ]
          refine wpAny_ready (rs := [5, 6]) (by kernel_rfl) (by simp) ?_
          refine consLoad (by rfl) gb 0 (by rfl) Zo _ (rangeOf HB0'.out) HUM.out rfl HOM.out ?_ ?_
          · try simp only [Act.put, List.setIfInBounds_toArray, List.set_cons_zero, List.set_cons_succ]
            refine wpAny_ready (rs := [6]) (by kernel_rfl) (by simp) ?_
            refine consStore (by rfl) w.heap.size 0 Zi mix0 112 (by rfl) (by rfl) HE7.out.r1 (by rw [HZI.out.length]; exact Nat.le_refl _) HIM.out HZI.out.one ?_ AllReady.nil
            intro W8 h8 k8
            try simp only [Act.put, List.setIfInBounds_toArray, List.set_cons_zero, List.set_cons_succ]
            have hs6 : W8.heap[w.heap.size]? = some (.cells Zi.toArray 112 (0, 0)) := by rw [h8, splc_whole HZI.out.length]
            have hs7 := k8.at_ HE7.out.r2 (by omega)
            refine wpAny_ready (rs := [7]) (by kernel_rfl) (by simp) ?_
            refine consStore (by rfl) (w.heap.size + 1) 0 Zo mix0 112 (by rfl) (by rfl) hs7 (by rw [HZO.out.length]; exact Nat.le_refl _) HOM.out HZO.out.one ?_ AllReady.nil
            intro W9 h9 k9
            try simp only [Act.put, List.setIfInBounds_toArray, List.set_cons_zero, List.set_cons_succ]
            refine wpAny_done (by kernel_rfl) ?_ _
            have hs9 : W9.heap[w.heap.size + 1]? = some (.cells Zo.toArray 112 (0, 0)) := by rw [h9, splc_whole HZO.out.length]
            have hs8 := k9.at_ hs6 (by omega)
            have hbe : Below w.heap.size w W9 := (HE7.out.bel.drew.trans (k8.below HE7.out.bel.size (by intro i hi; omega))).trans (k9.below (by have := k8.size; have := HE7.out.bel.size; exact Nat.le_trans this k8.size) (by intro i hi; omega))
            have H8 := Lib.hid hs8
            have H9 := Lib.hid hs9
            have HBE := Lib.hid hbe
            clear h8 k8 h9 k9 hs6 hs7 hs8 hs9 hbe
            go_wp2_with fail
            refine bodyPost_row_row rfl w.heap.size (w.heap.size + 1) Zi.toArray Zo.toArray (0, 0) (0, 0) _ (by rfl) (by rfl) H8.out H9.out HUM.out rfl (by simpa using HIM.out) (by simpa using HOM.out) rfl ?_
            exact ⟨Zi, Zo, rfl, by rw [← HIK.out]; exact HZI.out, by rw [← HOK.out]; exact HZO.out, HBE.out⟩
          refine consStore (by rfl) w.heap.size 0 Zi mix0 112 (by rfl) (by rfl) HE7.out.r1 (by rw [HZI.out.length]; exact Nat.le_refl _) HIM.out HZI.out.one ?_ AllReady.nil
          intro W8 h8 k8
          try simp only [Act.put, List.setIfInBounds_toArray, List.set_cons_zero, List.set_cons_succ]
          have hs6 : W8.heap[w.heap.size]? = some (.cells Zi.toArray 112 (0, 0)) := by rw [h8, splc_whole HZI.out.length]
          have hs7 := k8.at_ HE7.out.r2 (by omega)
          have hgb8 := k8.at_ HB0'.out (by have := HGA.out; have := HGB.out; omega)
          refine wpAny_ready (rs := [5]) (by kernel_rfl) (by simp) ?_
          refine consLoad (by rfl) gb 0 (by rfl) Zo _ (rangeOf hgb8) HUM.out rfl HOM.out ?_ AllReady.nil
          try simp only [Act.put, List.setIfInBounds_toArray, List.set_cons_zero, List.set_cons_succ]
          clear hgb8
          refine wpAny_ready (rs := [7]) (by kernel_rfl) (by simp) ?_
          refine consStore (by rfl) (w.heap.size + 1) 0 Zo mix0 112 (by rfl) (by rfl) hs7 (by rw [HZO.out.length]; exact Nat.le_refl _) HOM.out HZO.out.one ?_ AllReady.nil
          intro W9 h9 k9
          try simp only [Act.put, List.setIfInBounds_toArray, List.set_cons_zero, List.set_cons_succ]
          refine wpAny_done (by kernel_rfl) ?_ _
          have hs9 : W9.heap[w.heap.size + 1]? = some (.cells Zo.toArray 112 (0, 0)) := by rw [h9, splc_whole HZO.out.length]
          have hs8 := k9.at_ hs6 (by omega)
          have hbe : Below w.heap.size w W9 := (HE7.out.bel.drew.trans (k8.below HE7.out.bel.size (by intro i hi; omega))).trans (k9.below (by have := k8.size; have := HE7.out.bel.size; exact Nat.le_trans this k8.size) (by intro i hi; omega))
          have H8 := Lib.hid hs8
          have H9 := Lib.hid hs9
          have HBE := Lib.hid hbe
          clear h8 k8 h9 k9 hs6 hs7 hs8 hs9 hbe
          go_wp2_with fail
          refine bodyPost_row_row rfl w.heap.size (w.heap.size + 1) Zi.toArray Zo.toArray (0, 0) (0, 0) _ (by rfl) (by rfl) H8.out H9.out HUM.out rfl (by simpa using HIM.out) (by simpa using HOM.out) rfl ?_
          exact ⟨Zi, Zo, rfl, by rw [← HIK.out]; exact HZI.out, by rw [← HOK.out]; exact HZO.out, HBE.out⟩
        refine consLoad (by rfl) gb 0 (by rfl) Zo _ (rangeOf HB0'.out) HUM.out rfl HOM.out ?_ AllReady.nil
        try simp only [Act.put, List.setIfInBounds_toArray, List.set_cons_zero, List.set_cons_succ]
        refine wpAny_ready (rs := [2]) (by kernel_rfl) (by simp) ?_
        refine consLoad (by rfl) ga 0 (by rfl) Zi _ (rangeOf HBI.out) HUM.out rfl HIM.out ?_ AllReady.nil
        try simp only [Act.put, List.setIfInBounds_toArray, List.set_cons_zero, List.set_cons_succ]
        refine wpAny_ready (rs := [6]) (by kernel_rfl) (by simp) ?_
        refine consStore (by rfl) w.heap.size 0 Zi mix0 112 (by rfl) (by rfl) HE7.out.r1 (by rw [HZI.out.length]; exact Nat.le_refl _) HIM.out HZI.out.one ?_ AllReady.nil
        intro W8 h8 k8
        try simp only [Act.put, List.setIfInBounds_toArray, List.set_cons_zero, List.set_cons_succ]
        have hs6 : W8.heap[w.heap.size]? = some (.cells Zi.toArray 112 (0, 0)) := by rw [h8, splc_whole HZI.out.length]
        have hs7 := k8.at_ HE7.out.r2 (by omega)
        refine wpAny_ready (rs := [7]) (by kernel_rfl) (by simp) ?_
        refine consStore (by rfl) (w.heap.size + 1) 0 Zo mix0 112 (by rfl) (by rfl) hs7 (by rw [HZO.out.length]; exact Nat.le_refl _) HOM.out HZO.out.one ?_ AllReady.nil
        intro W9 h9 k9
        try simp only [Act.put, List.setIfInBounds_toArray, List.set_cons_zero, List.set_cons_succ]
        refine wpAny_done (by kernel_rfl) ?_ _
        have hs9 : W9.heap[w.heap.size + 1]? = some (.cells Zo.toArray 112 (0, 0)) := by rw [h9, splc_whole HZO.out.length]
        have hs8 := k9.at_ hs6 (by omega)
        have hbe : Below w.heap.size w W9 := (HE7.out.bel.drew.trans (k8.below HE7.out.bel.size (by intro i hi; omega))).trans (k9.below (by have := k8.size; have := HE7.out.bel.size; exact Nat.le_trans this k8.size) (by intro i hi; omega))
        have H8 := Lib.hid hs8
        have H9 := Lib.hid hs9
        have HBE := Lib.hid hbe
        clear h8 k8 h9 k9 hs6 hs7 hs8 hs9 hbe
        go_wp2_with fail
        refine bodyPost_row_row rfl w.heap.size (w.heap.size + 1) Zi.toArray Zo.toArray (0, 0) (0, 0) _ (by rfl) (by rfl) H8.out H9.out HUM.out rfl (by simpa using HIM.out) (by simpa using HOM.out) rfl ?_
        exact ⟨Zi, Zo, rfl, by rw [← HIK.out]; exact HZI.out, by rw [← HOK.out]; exact HZO.out, HBE.out⟩
  · have HS : Hid (PadS w KB key ((w.alloc (.cells mix0.toArray 112 (0, 0))).alloc (.cells mix0.toArray 112 (0, 0)))) := Lib.hid ⟨HB0.out, get_below (get_top rfl), get_top (by simp), by rw [HKB.out, if_neg (by rw [HKL.out]; exact hbig)], by omega⟩
    have HGS := Lib.hid (show ((w.alloc (.cells mix0.toArray 112 (0, 0))).alloc (.cells mix0.toArray 112 (0, 0))).heap.size = w.heap.size + 1 + 1 by simp)
    go_wp2_with (first | (refine wpList_alloc_known (by rfl) 112 (by rfl) mix0.toArray (mix0_zero _) ?_) | (refine wpList_alloc_known (by rfl) 109 (by rfl) (nums zero64).toArray (zero64_zero _) ?_) | (refine wpList_copy_str (by rfl) (.tmp 14) (.tmp 15) 50 9 (by rfl) 5 Try.underlying50 sizeByte (w.heap.size + 1 + 1) 0 64 64 key (nums zero64) 109 (by rfl) (by rfl) (get_below (get_top (by simp))) key.size (by have := HS.out.k64; omega) (by have := HS.out.k64; simp [nums_length, zero64]; omega) ?_; intro W2 hW2 hK2; have HP0 := Lib.hid (padI_start HS.out (by rw [HGS.out]; exact hW2) (by rw [HGS.out]; exact hK2)); rw [HGS.out] at HP0; clear hW2 hK2))
    obtain ⟨gx, hgx⟩ : ∃ g, g = w.heap.size + 1 + 1 := ⟨_, rfl⟩
    rw [← hgx] at HP0
    rw [← hgx]
    have hDb : Bs (kblk KB) := by rw [kblk, ← HS.out.kk]; exact kpad_b (bytesOf_range _)
    have HDB := Lib.hid hDb
    clear hgx hDb HS HGS
    have hI64 : (ipad KB).length = 64 := ipad_length KB
    have hO64 : (opad KB).length = 64 := opad_length KB
    have hD64 := kblk_length KB
    obtain ⟨I, hI⟩ : ∃ I, I = ipad KB := ⟨_, rfl⟩
    obtain ⟨O, hO⟩ : ∃ O, O = opad KB := ⟨_, rfl⟩
    obtain ⟨D, hD⟩ : ∃ D, D = kblk KB := ⟨_, rfl⟩
    have hID : D.map (fun x => xr x 54) = I := by rw [hI, hD, ipad]
    have hOD : D.map (fun x => xr x 92) = O := by rw [hO, hD, opad]
    rw [← hD] at HP0 HDB hD64
    rw [← hI] at hI64
    rw [← hO] at hO64
    have HD := Lib.hid hD64
    have HI64 := Lib.hid hI64
    have HO64 := Lib.hid hO64
    have HID := Lib.hid hID
    have HOD := Lib.hid hOD
    have HIK := Lib.hid hI
    have HOK := Lib.hid hO
    have HIB : Hid (Bs I) := by rw [← hID]; exact Lib.hid (xmap_b HDB.out 54 (by omega))
    have HOB : Hid (Bs O) := by rw [← hOD]; exact Lib.hid (xmap_b HDB.out 92 (by omega))
    clear hI64 hO64 hD64 hID hOD hI hO hD
    go_loopg [17] 64 (fun j i wr => ∃ k : Nat, j + k = 64 ∧ i = .int .i64 (k : Int) ∧ PadI w gx (gx + 1) D k wr)
    case atStart => exact ⟨0, rfl, rfl, HP0.out⟩
    case round =>
      clear HP0
      obtain ⟨k, hk, rfl, hI⟩ := hrel
      by_cases hlt : k < 64
      · have cx := hI.at_ HD.out hlt
        have cy := hI.at2 HD.out hlt
        have fx := blk_frozen hI.xx k
        have fy := blk_frozen hI.yy k
        have hd := HDB.out.get k
        have hp := fun y x => hI.put HD.out hlt y x
        obtain ⟨d, hdd⟩ : ∃ d, d = D.getD k 0 := ⟨_, rfl⟩
        rw [← hdd] at cx hd
        simp only [← hdd] at hp
        obtain ⟨y, e1⟩ : ∃ y, bits .xor .u8 d 92 = y := ⟨_, rfl⟩
        obtain ⟨x, e2⟩ : ∃ x, bits .xor .u8 d 54 = x := ⟨_, rfl⟩
        have HP := Lib.hid (hp y x (by rw [← e1, xor_u8 hd (by omega)]) (by rw [← e2, xor_u8 hd (by omega)]))
        have q5 : (k : Int) < 64 := by omega
        have q7 : (0 : Int) ≤ (k : Int) := by omega
        clear hp hdd hd hI
        go_wp2_with fail
        go_roundg (gk - 1)
        case measure => omega
        case rel => exact ⟨k + 1, by omega, by go_num, HP.out⟩
      · obtain rfl : k = 64 := by omega
        have hE := hI.done HD.out
        rw [HID.out, HOD.out] at hE
        have HE := Lib.hid hE
        clear hI hE hk hlt
        go_wp2_with fail
        refine (new_any _).mono ?_
        rintro e W4 ⟨rfl, hm4, hb4⟩
        dsimp only
        have HE4 := Lib.hid (HE.out.kept (Keeps.of_below (S := fun _ => False) hb4) (fun i hi hs => hs.elim))
        have HM4 := Lib.hid hm4
        have hga0 : w.heap.size + 1 < wr.heap.size ∧ gx < wr.heap.size ∧ gx + 1 < wr.heap.size := ⟨blk_lt HE.out.r2, blk_lt HE.out.xx, blk_lt HE.out.yy⟩
        obtain ⟨ga, hga⟩ : ∃ g, g = wr.heap.size := ⟨_, rfl⟩
        rw [← hga] at hga0 HM4
        have HGA := Lib.hid hga0
        have HGE := Lib.hid hga
        clear hm4 hb4 HE hga0
        go_wp2_with fail
        refine (new_any _).mono ?_
        rintro e W5 ⟨rfl, hm5, hb5⟩
        rw [← hga]
        obtain ⟨gb, hgb⟩ : ∃ g, g = W4.heap.size := ⟨_, rfl⟩
        have HGB := Lib.hid (show ga < gb by rw [hgb]; exact HM4.out.lt)
        have hm4 := HM4.out.below hb5 HM4.out.lt
        have HE5 := Lib.hid (HE4.out.kept (Keeps.of_below (S := fun _ => False) hb5) (fun i hi hs => hs.elim))
        rw [← hgb] at hm5
        rw [← hgb]
        have HM5 := Lib.hid hm5
        have HF1 := Lib.hid (feed_any ga (strOfNums I) [] W5 hm4 (by rw [strOfNums_size, HI64.out]; simp))
        have hc1 := conv64 W5 gx I HI64.out HE5.out.xx
        clear hm4 hm5 hb5 hgb hga HE4 HM4
        go_wp2_with fail
        refine HF1.out.mono ?_
        rintro e W6 ⟨rfl, hm6, hk6⟩
        rw [List.nil_append, bytesOf_strOfNums _ HIB.out] at hm6
        have HM6 := Lib.hid hm6
        have HE6 := Lib.hid (HE5.out.kept hk6 (fun i hi hs => by have := HGA.out; omega))
        have HF2 := Lib.hid (feed_any gb (strOfNums O) [] W6 (HM5.out.kept hk6 (by have := HGB.out; omega)) (by rw [strOfNums_size, HO64.out]; simp))
        have hc2 := conv64 W6 (gx + 1) O HO64.out HE6.out.yy
        clear hm6 hk6 hc1 HE5 HM5 HF1
        go_wp2_with fail
        refine HF2.out.mono ?_
        rintro e W7 ⟨rfl, hm7, hk7⟩
        rw [List.nil_append, bytesOf_strOfNums _ HOB.out] at hm7
        have HE7 := Lib.hid (HE6.out.kept hk7 (fun i hi hs => by have := HGA.out; have := HGB.out; omega))
        have hma := HM6.out.kept hk7 (by have := HGB.out; omega)
        obtain ⟨Zi, hzi, hbi⟩ := hma.cells
        obtain ⟨Zo, hzo, hbo⟩ := hm7.cells
        have HZI := Lib.hid hzi
        have HZO := Lib.hid hzo
        have HBI := Lib.hid hbi
        have HBO := Lib.hid hbo
        clear hm7 hk7 hma hzi hzo hbi hbo hc2 HE6 HM6 HF2
        go_wp2_with fail
        have HIM := Lib.hid (show (Try.prog.info? 112).map (·.size) = some Zi.length by rw [infoMix, HZI.out.length])
        have HOM := Lib.hid (show (Try.prog.info? 112).map (·.size) = some Zo.length by rw [infoMix, HZO.out.length])
        refine wp_region_any (by kernel_rfl) ?_
        change wpAny _ _ _ _ _ _ _ (World.drew W7)
        refine takeU (v := ?_) 0 rfl (by kernel_rfl) (by kernel_rfl) (by kernel_rfl) (fun _ _ _ h => h) ?_ ?_
        rotate_left
        · intro w; go_simp; with_reducible rfl
        try simp only [Act.put, List.setIfInBounds_toArray, List.set_cons_zero, List.set_cons_succ]
        refine takeU (v := ?_) 1 rfl (by kernel_rfl) (by kernel_rfl) (by kernel_rfl) (fun _ _ _ h => h) ?_ ?_
        rotate_left
        · intro w; go_simp; with_reducible rfl
        try simp only [Act.put, List.setIfInBounds_toArray, List.set_cons_zero, List.set_cons_succ]
        refine takeU (v := ?_) 3 rfl (by kernel_rfl) (by kernel_rfl) (by kernel_rfl) (fun _ _ _ h => h) ?_ ?_
        rotate_left
        · intro w; go_simp; with_reducible rfl
        try simp only [Act.put, List.setIfInBounds_toArray, List.set_cons_zero, List.set_cons_succ]
        refine takeU (v := ?_) 4 rfl (by kernel_rfl) (by kernel_rfl) (by kernel_rfl) (fun _ _ _ h => h) ?_ ?_
        rotate_left
        · intro w; go_simp; with_reducible rfl
        try simp only [Act.put, List.setIfInBounds_toArray, List.set_cons_zero, List.set_cons_succ]
        have HB0' := Lib.hid (show (World.drew W7).heap[gb]? = some (.cells Zo.toArray 112 (0, 0)) from HBO.out)
        refine wpAny_ready (rs := [2, 5]) (by kernel_rfl) (by simp) ?_
        refine consLoad (by rfl) ga 0 (by rfl) Zi _ (rangeOf HBI.out) HUM.out rfl HIM.out ?_ ?_
        · try simp only [Act.put, List.setIfInBounds_toArray, List.set_cons_zero, List.set_cons_succ]
          refine wpAny_ready (rs := [5, 6]) (by kernel_rfl) (by simp) ?_
          refine consLoad (by rfl) gb 0 (by rfl) Zo _ (rangeOf HB0'.out) HUM.out rfl HOM.out ?_ ?_
          · try simp only [Act.put, List.setIfInBounds_toArray, List.set_cons_zero, List.set_cons_succ]
            refine wpAny_ready (rs := [6]) (by kernel_rfl) (by simp) ?_
            refine consStore (by rfl) w.heap.size 0 Zi mix0 112 (by rfl) (by rfl) HE7.out.r1 (by rw [HZI.out.length]; exact Nat.le_refl _) HIM.out HZI.out.one ?_ AllReady.nil
            intro W8 h8 k8
            try simp only [Act.put, List.setIfInBounds_toArray, List.set_cons_zero, List.set_cons_succ]
            have hs6 : W8.heap[w.heap.size]? = some (.cells Zi.toArray 112 (0, 0)) := by rw [h8, splc_whole HZI.out.length]
            have hs7 := k8.at_ HE7.out.r2 (by omega)
            refine wpAny_ready (rs := [7]) (by kernel_rfl) (by simp) ?_
            refine consStore (by rfl) (w.heap.size + 1) 0 Zo mix0 112 (by rfl) (by rfl) hs7 (by rw [HZO.out.length]; exact Nat.le_refl _) HOM.out HZO.out.one ?_ AllReady.nil
            intro W9 h9 k9
            try simp only [Act.put, List.setIfInBounds_toArray, List.set_cons_zero, List.set_cons_succ]
            refine wpAny_done (by kernel_rfl) ?_ _
            have hs9 : W9.heap[w.heap.size + 1]? = some (.cells Zo.toArray 112 (0, 0)) := by rw [h9, splc_whole HZO.out.length]
            have hs8 := k9.at_ hs6 (by omega)
            have hbe : Below w.heap.size w W9 := (HE7.out.bel.drew.trans (k8.below HE7.out.bel.size (by intro i hi; omega))).trans (k9.below (by have := k8.size; have := HE7.out.bel.size; exact Nat.le_trans this k8.size) (by intro i hi; omega))
            have H8 := Lib.hid hs8
            have H9 := Lib.hid hs9
            have HBE := Lib.hid hbe
            clear h8 k8 h9 k9 hs6 hs7 hs8 hs9 hbe
            go_wp2_with fail
            refine bodyPost_row_row rfl w.heap.size (w.heap.size + 1) Zi.toArray Zo.toArray (0, 0) (0, 0) _ (by rfl) (by rfl) H8.out H9.out HUM.out rfl (by simpa using HIM.out) (by simpa using HOM.out) rfl ?_
            exact ⟨Zi, Zo, rfl, by rw [← HIK.out]; exact HZI.out, by rw [← HOK.out]; exact HZO.out, HBE.out⟩
          refine consStore (by rfl) w.heap.size 0 Zi mix0 112 (by rfl) (by rfl) HE7.out.r1 (by rw [HZI.out.length]; exact Nat.le_refl _) HIM.out HZI.out.one ?_ AllReady.nil
          intro W8 h8 k8
          try simp only [Act.put, List.setIfInBounds_toArray, List.set_cons_zero, List.set_cons_succ]
          have hs6 : W8.heap[w.heap.size]? = some (.cells Zi.toArray 112 (0, 0)) := by rw [h8, splc_whole HZI.out.length]
          have hs7 := k8.at_ HE7.out.r2 (by omega)
          have hgb8 := k8.at_ HB0'.out (by have := HGA.out; have := HGB.out; omega)
          refine wpAny_ready (rs := [5]) (by kernel_rfl) (by simp) ?_
          refine consLoad (by rfl) gb 0 (by rfl) Zo _ (rangeOf hgb8) HUM.out rfl HOM.out ?_ AllReady.nil
          try simp only [Act.put, List.setIfInBounds_toArray, List.set_cons_zero, List.set_cons_succ]
          clear hgb8
          refine wpAny_ready (rs := [7]) (by kernel_rfl) (by simp) ?_
          refine consStore (by rfl) (w.heap.size + 1) 0 Zo mix0 112 (by rfl) (by rfl) hs7 (by rw [HZO.out.length]; exact Nat.le_refl _) HOM.out HZO.out.one ?_ AllReady.nil
          intro W9 h9 k9
          try simp only [Act.put, List.setIfInBounds_toArray, List.set_cons_zero, List.set_cons_succ]
          refine wpAny_done (by kernel_rfl) ?_ _
          have hs9 : W9.heap[w.heap.size + 1]? = some (.cells Zo.toArray 112 (0, 0)) := by rw [h9, splc_whole HZO.out.length]
          have hs8 := k9.at_ hs6 (by omega)
          have hbe : Below w.heap.size w W9 := (HE7.out.bel.drew.trans (k8.below HE7.out.bel.size (by intro i hi; omega))).trans (k9.below (by have := k8.size; have := HE7.out.bel.size; exact Nat.le_trans this k8.size) (by intro i hi; omega))
          have H8 := Lib.hid hs8
          have H9 := Lib.hid hs9
          have HBE := Lib.hid hbe
          clear h8 k8 h9 k9 hs6 hs7 hs8 hs9 hbe
          go_wp2_with fail
          refine bodyPost_row_row rfl w.heap.size (w.heap.size + 1) Zi.toArray Zo.toArray (0, 0) (0, 0) _ (by rfl) (by rfl) H8.out H9.out HUM.out rfl (by simpa using HIM.out) (by simpa using HOM.out) rfl ?_
          exact ⟨Zi, Zo, rfl, by rw [← HIK.out]; exact HZI.out, by rw [← HOK.out]; exact HZO.out, HBE.out⟩
        refine consLoad (by rfl) gb 0 (by rfl) Zo _ (rangeOf HB0'.out) HUM.out rfl HOM.out ?_ AllReady.nil
        try simp only [Act.put, List.setIfInBounds_toArray, List.set_cons_zero, List.set_cons_succ]
        refine wpAny_ready (rs := [2]) (by kernel_rfl) (by simp) ?_
        refine consLoad (by rfl) ga 0 (by rfl) Zi _ (rangeOf HBI.out) HUM.out rfl HIM.out ?_ AllReady.nil
        try simp only [Act.put, List.setIfInBounds_toArray, List.set_cons_zero, List.set_cons_succ]
        refine wpAny_ready (rs := [6]) (by kernel_rfl) (by simp) ?_
        refine consStore (by rfl) w.heap.size 0 Zi mix0 112 (by rfl) (by rfl) HE7.out.r1 (by rw [HZI.out.length]; exact Nat.le_refl _) HIM.out HZI.out.one ?_ AllReady.nil
        intro W8 h8 k8
        try simp only [Act.put, List.setIfInBounds_toArray, List.set_cons_zero, List.set_cons_succ]
        have hs6 : W8.heap[w.heap.size]? = some (.cells Zi.toArray 112 (0, 0)) := by rw [h8, splc_whole HZI.out.length]
        have hs7 := k8.at_ HE7.out.r2 (by omega)
        refine wpAny_ready (rs := [7]) (by kernel_rfl) (by simp) ?_
        refine consStore (by rfl) (w.heap.size + 1) 0 Zo mix0 112 (by rfl) (by rfl) hs7 (by rw [HZO.out.length]; exact Nat.le_refl _) HOM.out HZO.out.one ?_ AllReady.nil
        intro W9 h9 k9
        try simp only [Act.put, List.setIfInBounds_toArray, List.set_cons_zero, List.set_cons_succ]
        refine wpAny_done (by kernel_rfl) ?_ _
        have hs9 : W9.heap[w.heap.size + 1]? = some (.cells Zo.toArray 112 (0, 0)) := by rw [h9, splc_whole HZO.out.length]
        have hs8 := k9.at_ hs6 (by omega)
        have hbe : Below w.heap.size w W9 := (HE7.out.bel.drew.trans (k8.below HE7.out.bel.size (by intro i hi; omega))).trans (k9.below (by have := k8.size; have := HE7.out.bel.size; exact Nat.le_trans this k8.size) (by intro i hi; omega))
        have H8 := Lib.hid hs8
        have H9 := Lib.hid hs9
        have HBE := Lib.hid hbe
        clear h8 k8 h9 k9 hs6 hs7 hs8 hs9 hbe
        go_wp2_with fail
        refine bodyPost_row_row rfl w.heap.size (w.heap.size + 1) Zi.toArray Zo.toArray (0, 0) (0, 0) _ (by rfl) (by rfl) H8.out H9.out HUM.out rfl (by simpa using HIM.out) (by simpa using HOM.out) rfl ?_
        exact ⟨Zi, Zo, rfl, by rw [← HIK.out]; exact HZI.out, by rw [← HOK.out]; exact HZO.out, HBE.out⟩
theorem stored_mix {W1 : World} {g : Nat} {Z : List Value} (hZ : Z.length = 75) (h : W1.heap[g]? = some (.cells (splc mix0 0 Z).toArray 112 (0, 0))) : W1.heap[g]? = some (.cells Z.toArray 112 (0, 0)) := by
  rw [h, splc_whole hZ]
/-- Two mixes are laid into two new variables: what the first store leaves, and the second. -/
structure Laid1 (w : World) (g : Nat) (Zi : List Value) (W : World) : Prop where
  bel : Below w.heap.size w W
  h1 : W.heap[g]? = some (.cells Zi.toArray 112 (0, 0))
  h2 : W.heap[g + 1]? = some (.cells mix0.toArray 112 (0, 0))
  ge : w.heap.size ≤ g
theorem laid1 {w W1 W2 : World} {Zi : List Value} {K : List Int} (hz : MixZ Zi K) (hb : Below w.heap.size w W1) (h : W2.heap[W1.heap.size]? = some (.cells (splc mix0 0 Zi).toArray 112 (0, 0)))
    (hk : Keeps (fun i => i = W1.heap.size) ((W1.alloc (.cells mix0.toArray 112 (0, 0))).alloc (.cells mix0.toArray 112 (0, 0))) W2) : Laid1 w W1.heap.size Zi W2 := by
  have hs := hb.size
  refine ⟨(hb.trans ((((Below.refl _ W1).alloc (Nat.le_refl _) _).alloc (by simp) _).mono hs)).trans (hk.below (by simp; omega) (by intro i hi; omega)), stored_mix hz.length h, hk.at_ (get_top (by simp)) (by omega), hs⟩
theorem laid2 {w W2 W3 : World} {Zi Zo : List Value} {K : List Int} {g : Nat} (hz : MixZ Zo K) (hl : Laid1 w g Zi W2) (h : W3.heap[g + 1]? = some (.cells (splc mix0 0 Zo).toArray 112 (0, 0)))
    (hk : Keeps (fun i => i = g + 1) W2 W3) : Laid2 w g Zi Zo W3 := by
  have hs := hl.ge
  exact ⟨hl.bel.trans (hk.below hl.bel.size (by intro i hi; omega)), hk.at_ hl.h1 (by omega), stored_mix hz.length h, hs⟩
set_option maxRecDepth 100000 in
set_option maxHeartbeats 1600000 in
theorem mac_any (key s : ByteArray) (hk : key.size ≤ 800000000000) (hs : s.size ≤ 800000000000) (w : World) :
    Calls Try.prog 52 #[.string key, .string s] w fun e w' => e = .returned (.string (strOfNums (hmac (bytesOf key) (bytesOf s)))) ∧ Below w.heap.size w w' := by
  have hum := Try.underlying112
  have HUM := Lib.hid hum
  clear hum
  go_enter Try.func52, Try.ntmps52
  go_wp2_with fail
  refine (pads_any key hk w).mono ?_
  rintro e W1 ⟨Zi, Zo, rfl, hzi, hzo, hb1⟩
  have HZI := Lib.hid hzi
  have HZO := Lib.hid hzo
  have HB1 := Lib.hid hb1
  have HIM := Lib.hid (show (Try.prog.info? 112).map (·.size) = some Zi.length by rw [infoMix, hzi.length])
  have HOM := Lib.hid (show (Try.prog.info? 112).map (·.size) = some Zo.length by rw [infoMix, hzo.length])
  have HBO := Lib.hid (fun W => both_any Zi Zo (ipad (bytesOf key)) (opad (bytesOf key)) s hzi hzo (by rw [ipad_length]; omega) (by rw [opad_length]; omega) hs W)
  clear hzi hzo hb1
  go_wp2_with (first | (refine wpList_alloc_known (by rfl) 112 (by rfl) mix0.toArray (mix0_zero _) ?_) | (refine wpList_store_part (by rfl) 112 (.tmp 5) (.tmp 10) (by rfl) W1.heap.size 0 Zi mix0 112 (by rfl) (by rfl) (get_below (get_top rfl)) (by rw [HZI.out.length]; exact Nat.le_refl _) HIM.out HZI.out.one ?_; intro W2 hW2 hK2; have HL1 := Lib.hid (laid1 HZI.out HB1.out hW2 hK2); clear hW2 hK2) | (refine wpList_store_part (by rfl) 112 (.tmp 6) (.tmp 11) (by rfl) (W1.heap.size + 1) 0 Zo mix0 112 (by first | rfl | simp [go_sem]) (by rfl) HL1.out.h2 (by rw [HZO.out.length]; exact Nat.le_refl _) HOM.out HZO.out.one ?_; intro W3 hW3 hK3; have HL2 := Lib.hid (laid2 HZO.out HL1.out hW3 hK3); clear hW3 hK3) | (refine wpList_load_row (by rfl) 112 (.tmp 5) (by rfl) W1.heap.size (by rfl) 112 Zi.toArray (0, 0) _ HL2.out.h1 HUM.out rfl (by simpa using HIM.out) ?_) | (refine wpList_load_row (by rfl) 112 (.tmp 6) (by rfl) (W1.heap.size + 1) (by first | rfl | simp [go_sem]) 112 Zo.toArray (0, 0) _ HL2.out.h2 HUM.out rfl (by simpa using HOM.out) ?_))
  refine (HBO.out _).mono ?_
  rintro e W4 ⟨rfl, hb4⟩
  have HB4 := Lib.hid (HL2.out.bel.trans (hb4.mono HL2.out.bel.size))
  clear hb4 HBO
  go_wp2
  go_ret
  exact ⟨rfl, HB4.out⟩
theorem RPadI.atx {w W : World} {gx gy k : Nat} {D : List Int} (h : RPadI w gx gy D k W) (hD : D.length = 64) (hk : k < 64) : W.cell? ⟨gx, k, none⟩ = some (.int .u8 0) := by
  rw [blk_cell h.xx k, nums_get (by simp; omega), List.getD, List.getElem?_append_right (by simp; omega), List.length_map, List.length_take, hD, Nat.min_eq_left (show k ≤ 64 by omega), Nat.sub_self, List.getElem?_replicate, if_pos (by omega)]
  rfl
theorem RPadI.aty {w W : World} {gx gy k : Nat} {D : List Int} (h : RPadI w gx gy D k W) (hD : D.length = 64) (hk : k < 64) : W.cell? ⟨gy, k, none⟩ = some (.int .u8 0) := by
  rw [blk_cell h.yy k, nums_get (by simp; omega), List.getD, List.getElem?_append_right (by simp; omega), List.length_map, List.length_take, hD, Nat.min_eq_left (show k ≤ 64 by omega), Nat.sub_self, List.getElem?_replicate, if_pos (by omega)]
  rfl
theorem convRow64 (W : World) (g : Nat) (X : List Int) (hX : X.length = 64) (h : W.heap[g]? = some (.cells (nums X).toArray 5 (0, 0))) : (convert 50 9 (.slice (some ⟨g, 0, none⟩) 64 64)).run Try.prog W = .ok (.string (strOfNums X)) W :=
  run_convert_bytes_arg W _ _ Try.underlying50 Try.underlying5 g 0 64 64 X hX (fun j hj => by rw [Nat.zero_add, blk_cell h j]; exact nums_get (by omega)) _ Try.underlying9
theorem made_bytes (n : Nat) : madeCells #[.int .u8 0] n = (nums (List.replicate n 0)).toArray := by
  apply Array.ext
  · simp [madeCells, nums]
  · intro i h1 h2
    simp [madeCells, nums, Nat.mod_one]
/-- make([]byte, n). -/
theorem wpList_make_bytes {P : Program} {ops : Array Oper} {rest : List Oper} {op : Oper} {a : Act} {w : World} {Q : Exit → Act → World → Prop} (hgd : op.guard = none) (t : TypeId) (x y : Operand) (ho : op.op = .makeSlice t x y)
    (e : TypeId) (ht : P.underlying t = some (.slice e)) (hinfo : (P.info? e).map (fun i => (i.zero, i.size, i.bytes)) = some (some (.int .u8 0), 1, 1)) (n : Nat) (hx : a.eval x = .int .i64 n) (hy : a.eval y = .int .i64 n) (hn : n ≤ 140737488355328)
    (h : wpList P ops Q rest (a.put op.dst (.slice (some ⟨w.heap.size, 0, none⟩) n n)) (w.alloc (.cells (nums (List.replicate n 0)).toArray e (0, 0)))) : wpList P ops Q (op :: rest) a w := by
  obtain ⟨i0, hi, hz0, hz1, hz2⟩ := info_parts hinfo
  have hr := run_make (P := P) w t e i0 (.int .u8 0) ht hi hz0 .i64 .i64 n n (by omega) (Int.le_refl _) (by rw [hz2]; omega) (by omega)
  rw [hz1, Int.toNat_natCast, Nat.mul_one, show Value.cells (.int .u8 0) = #[.int .u8 0] from rfl, made_bytes] at hr
  refine wpList_plain hgd fun K hK => ?_
  have hK' := hK _ _ h
  unfold Oper.wp execOp
  simp only [ho, hx, hy, Sem.run_bind, hr, Result.andThen_ok, Sem.run_pure]
  exact hK'
theorem rpad_start {w W : World} {D : List Int} (hb : Below w.heap.size w W) : RPadI w W.heap.size (W.heap.size + 1) D 0 ((W.alloc (.cells (nums zero64).toArray 5 (0, 0))).alloc (.cells (nums zero64).toArray 5 (0, 0))) :=
  ⟨hb.trans ((((Below.refl _ W).alloc (Nat.le_refl _) _).alloc (by simp) _).mono hb.size), get_below (get_top rfl), get_top (by simp), hb.size, by omega⟩
theorem kpad_get {k : ByteArray} {i : Nat} (hi : i < 64) : (kpad (bytesOf k)).getD i 0 = if h : i < k.size then ((k[i]).toNat : Int) else 0 := by
  have hl := bytesOf_length k
  split
  · rename_i h
    rw [kpad, List.getD, List.getElem?_append_left (by omega), bytesOf, List.getElem?_map]
    have : i < k.data.toList.length := by rw [Array.length_toList]; exact h
    rw [List.getElem?_eq_getElem this]
    simp
    rfl
  · rw [kpad, List.getD, List.getElem?_append_right (by omega), List.getElem?_replicate, if_pos (by omega)]
    rfl
set_option maxRecDepth 100000 in
set_option maxHeartbeats 3200000 in
theorem refMac_any (key s : ByteArray) (hk : key.size ≤ 900000) (hs : s.size ≤ 900000) (w : World) :
    Calls Try.prog 39 #[.string key, .string s] w fun e w' => e = .returned (.string (strOfNums (hmac (bytesOf key) (bytesOf s)))) ∧ Below w.heap.size w w' := by
  have hl := bytesOf_length key
  have HKL := Lib.hid hl
  obtain ⟨KB, hKB⟩ : ∃ K, K = bytesOf key := ⟨_, rfl⟩
  rw [← hKB]
  have HKB := Lib.hid hKB
  clear hl hKB
  go_enter Try.func39, Try.ntmps39
  by_cases hbig : 64 < key.size
  · go_wp2_with fail
    refine (refSum_any key (by omega) _).mono ?_
    rintro e W1 ⟨rfl, hb1⟩
    have hkk : kblk KB = kpad (bytesOf (strOfNums (sha (bytesOf key)))) := by rw [bytesOf_strOfNums _ (sha_b _), kblk, HKB.out, if_pos (by rw [HKL.out]; exact hbig)]
    have hk64 : (strOfNums (sha (bytesOf key))).size ≤ 64 := by rw [strOfNums_size, sha_length]; omega
    obtain ⟨K0, hK0⟩ : ∃ K, K = strOfNums (sha (bytesOf key)) := ⟨_, rfl⟩
    rw [← hK0] at hkk hk64
    rw [← hK0]
    have HP0 := Lib.hid (rpad_start (D := kblk KB) hb1)
    have HKK := Lib.hid hkk
    clear hb1 hK0 hkk
    go_wp2_with (refine wpList_make_bytes (by rfl) 50 _ _ (by rfl) 5 Try.underlying50 infoByte 64 (by rfl) (by rfl) (by omega) ?_)
    obtain ⟨gx, hgx⟩ : ∃ g, g = W1.heap.size := ⟨_, rfl⟩
    rw [← hgx] at HP0
    try rw [← hgx]
    clear hgx
    have hI64 : (ipad KB).length = 64 := ipad_length KB
    have hO64 : (opad KB).length = 64 := opad_length KB
    have hD64 := kblk_length KB
    have hDB : Bs (kblk KB) := by rw [HKK.out]; exact kpad_b (bytesOf_range _)
    obtain ⟨I, hI⟩ : ∃ I, I = ipad KB := ⟨_, rfl⟩
    obtain ⟨O, hO⟩ : ∃ O, O = opad KB := ⟨_, rfl⟩
    obtain ⟨D, hD⟩ : ∃ D, D = kblk KB := ⟨_, rfl⟩
    have hID : D.map (fun x => xr x 54) = I := by rw [hI, hD, ipad]
    have hOD : D.map (fun x => xr x 92) = O := by rw [hO, hD, opad]
    have hfin : hmac KB (bytesOf s) = sha (O ++ sha (I ++ bytesOf s)) := by rw [hmac, hO, hI]
    rw [← hD] at HP0 hDB hD64 HKK
    rw [← hI] at hI64
    rw [← hO] at hO64
    have HD := Lib.hid hD64
    have HDB := Lib.hid hDB
    have HI64 := Lib.hid hI64
    have HO64 := Lib.hid hO64
    have HID := Lib.hid hID
    have HOD := Lib.hid hOD
    have HFIN := Lib.hid hfin
    have HIB : Hid (Bs I) := by rw [← hID]; exact Lib.hid (xmap_b hDB 54 (by omega))
    have HOB : Hid (Bs O) := by rw [← hOD]; exact Lib.hid (xmap_b hDB 92 (by omega))
    clear hI64 hO64 hD64 hID hOD hI hO hD hDB hfin
    go_loopg [7] 64 (fun j i wr => ∃ k : Nat, j + k = 64 ∧ i = .int .i64 (k : Int) ∧ RPadI w gx (gx + 1) D k wr)
    case atStart => exact ⟨0, rfl, rfl, HP0.out⟩
    case round =>
      clear HP0
      obtain ⟨k, hk, rfl, hI⟩ := hrel
      by_cases hlt : k < 64
      · have cx := hI.atx HD.out hlt
        have cy := hI.aty HD.out hlt
        have fx := blk_frozen hI.xx k
        have fy := blk_frozen hI.yy k
        have hd := HDB.out.get k
        have hp := fun x y => hI.put HD.out hlt x y
        have hg := kpad_get (k := K0) hlt
        rw [← HKK.out] at hg
        obtain ⟨d, hdd⟩ : ∃ d, d = D.getD k 0 := ⟨_, rfl⟩
        rw [← hdd] at hd hg
        simp only [← hdd] at hp
        obtain ⟨y, e1⟩ : ∃ y, bits .xor .u8 d 92 = y := ⟨_, rfl⟩
        obtain ⟨x, e2⟩ : ∃ x, bits .xor .u8 d 54 = x := ⟨_, rfl⟩
        have HP := Lib.hid (hp x y (by rw [← e2, xor_u8 hd (by omega)]) (by rw [← e1, xor_u8 hd (by omega)]))
        have q5 : (k : Int) < 64 := by omega
        have q7 : (0 : Int) ≤ (k : Int) := by omega
        clear hp hdd hd hI
        by_cases hin : k < K0.size
        · rw [dif_pos hin] at hg
          have hgs := hg.symm
          clear hg
          go_wp2_with fail
          go_roundg (gk - 1)
          case measure => omega
          case rel => exact ⟨k + 1, by omega, by go_num, HP.out⟩
        · rw [dif_neg hin] at hg
          subst hg
          go_wp2_with fail
          go_roundg (gk - 1)
          case measure => omega
          case rel => exact ⟨k + 1, by omega, by go_num, HP.out⟩
      · obtain rfl : k = 64 := by omega
        have hx := hI.xx
        have hy := hI.yy
        rw [List.take_of_length_le (by rw [HD.out]; omega), Nat.sub_self, List.replicate_zero, List.append_nil, HID.out] at hx
        rw [List.take_of_length_le (by rw [HD.out]; omega), Nat.sub_self, List.replicate_zero, List.append_nil, HOD.out] at hy
        have hc1 := convRow64 wr.drew gx I HI64.out hx
        have hc2 := convRow64 wr.drew (gx + 1) O HO64.out hy
        have hsx : (strOfNums I).size = 64 := by rw [strOfNums_size, HI64.out]
        have hso : (strOfNums O).size = 64 := by rw [strOfNums_size, HO64.out]
        have hbx : bytesOf (strOfNums I) = I := bytesOf_strOfNums _ HIB.out
        have hbo : bytesOf (strOfNums O) = O := bytesOf_strOfNums _ HOB.out
        obtain ⟨SX, hSX⟩ : ∃ S, S = strOfNums I := ⟨_, rfl⟩
        obtain ⟨SO, hSO⟩ : ∃ S, S = strOfNums O := ⟨_, rfl⟩
        rw [← hSX] at hc1 hsx hbx
        rw [← hSO] at hc2 hso hbo
        have HX := Lib.hid hx
        have HY := Lib.hid hy
        have HC1 := Lib.hid hc1
        have HC2 := Lib.hid hc2
        have HSX := Lib.hid hsx
        have HSO := Lib.hid hso
        have HBX := Lib.hid hbx
        have HBO := Lib.hid hbo
        have HBEL := Lib.hid hI.bel
        have HSOE := Lib.hid hSO
        clear hI hx hy hc1 hc2 hsx hso hbx hbo hSX hSO hlt hk
        go_wp2_with fail
        have HZ1 := Lib.hid (show SX.size + s.size ≤ 1000000 by have := HSX.out; omega)
        have hz1 : ¬ 9223372036854775807 < SX.size + s.size := by have := HZ1.out; omega
        refine wp_region_any (by kernel_rfl) ?_
        change wpAny _ _ _ _ _ _ _ (World.drew wr)
        refine takeU (v := ?_) 0 rfl (by kernel_rfl) (by kernel_rfl) (by kernel_rfl) (fun _ _ _ h => h) ?_ ?_
        rotate_left
        · intro w; go_simp; with_reducible rfl
        try simp only [Act.put, List.setIfInBounds_toArray, List.set_cons_zero, List.set_cons_succ]
        refine takeU (v := ?_) 2 rfl (by kernel_rfl) (by kernel_rfl) (by kernel_rfl) (fun _ _ _ h => h) ?_ ?_
        rotate_left
        · intro w; go_simp; with_reducible rfl
        try simp only [Act.put, List.setIfInBounds_toArray, List.set_cons_zero, List.set_cons_succ]
        refine takeU (v := ?_) 4 rfl (by kernel_rfl) (by kernel_rfl) (by kernel_rfl) (fun _ _ _ h => h) ?_ ?_
        rotate_left
        · intro w; go_simp; with_reducible rfl
        try simp only [Act.put, List.setIfInBounds_toArray, List.set_cons_zero, List.set_cons_succ]
        refine wpAny_ready (rs := [1, 3]) (by kernel_rfl) (by simp) ?_
        refine consConv (by rfl) _ (.string SO) (by rfl) HC2.out ?_ ?_
        · try simp only [Act.put, List.setIfInBounds_toArray, List.set_cons_zero, List.set_cons_succ]
          refine wpAny_ready (rs := [3]) (by kernel_rfl) (by simp) ?_
          refine consConv (by rfl) _ (.string SX) (by rfl) HC1.out ?_ AllReady.nil
          try simp only [Act.put, List.setIfInBounds_toArray, List.set_cons_zero, List.set_cons_succ]
          refine takeU (v := ?_) 5 rfl (by kernel_rfl) (by kernel_rfl) (by kernel_rfl) (fun _ _ _ h => h) ?_ ?_
          rotate_left
          · intro w; go_simp; with_reducible rfl
          try simp only [Act.put, List.setIfInBounds_toArray, List.set_cons_zero, List.set_cons_succ]
          refine wpAny_ready (rs := [6]) (by kernel_rfl) (by simp) ?_
          refine consU (by rfl) (fun K hK => ?_) AllReady.nil
          go_simp
          refine (refSum_any (SX ++ s) (by rw [ByteArray.size_append]; exact HZ1.out) _).mono ?_
          rintro e W3 ⟨rfl, hb3⟩
          dsimp only
          refine hK _ _ ?_
          clear hK K
          try simp only [Act.put, List.setIfInBounds_toArray, List.set_cons_zero, List.set_cons_succ]
          have hz2 : (strOfNums (sha (bytesOf (SX ++ s)))).size ≤ 32 := by rw [strOfNums_size, sha_length]; exact Nat.le_refl _
          obtain ⟨T, hT⟩ : ∃ T, T = strOfNums (sha (bytesOf (SX ++ s))) := ⟨_, rfl⟩
          rw [← hT] at hz2
          rw [← hT]
          have HT := Lib.hid hT
          clear hT
          have HZ3 := Lib.hid (show SO.size + T.size ≤ 1000000 by have := HSO.out; omega)
          have hz3 : ¬ 9223372036854775807 < SO.size + T.size := by have := HZ3.out; omega
          refine takeU (v := ?_) 7 rfl (by kernel_rfl) (by kernel_rfl) (by kernel_rfl) (fun _ _ _ h => h) ?_ ?_
          rotate_left
          · intro w; go_simp; with_reducible rfl
          try simp only [Act.put, List.setIfInBounds_toArray, List.set_cons_zero, List.set_cons_succ]
          refine wpAny_ready (rs := [8]) (by kernel_rfl) (by simp) ?_
          refine consU (by rfl) (fun K hK => ?_) AllReady.nil
          go_simp
          refine (refSum_any (SO ++ T) (by rw [ByteArray.size_append]; exact HZ3.out) _).mono ?_
          rintro e W4 ⟨rfl, hb4⟩
          dsimp only
          refine hK _ _ ?_
          clear hK K
          try simp only [Act.put, List.setIfInBounds_toArray, List.set_cons_zero, List.set_cons_succ]
          refine takeU (v := ?_) 9 rfl (by kernel_rfl) (by kernel_rfl) (by kernel_rfl) (fun _ _ _ h => h) ?_ ?_
          rotate_left
          · intro w; go_simp; with_reducible rfl
          try simp only [Act.put, List.setIfInBounds_toArray, List.set_cons_zero, List.set_cons_succ]
          refine wpAny_done (by kernel_rfl) ?_ _
          have hf := HFIN.out
          have hT2 : bytesOf T = sha (bytesOf (SX ++ s)) := by rw [HT.out, bytesOf_strOfNums _ (sha_b _)]
          have hres : sha (bytesOf (SO ++ T)) = hmac KB (bytesOf s) := by rw [hf, bytesOf_append, hT2, bytesOf_append, HBX.out, HBO.out]
          rw [hres]
          have HBE := Lib.hid ((HBEL.out.drew.trans (hb3.mono HBEL.out.size)).trans (hb4.mono (Nat.le_trans HBEL.out.size hb3.size)))
          clear hf hT2 hres hb3 hb4 hz1 hz2 hz3
          go_wp2_with fail
          go_ret
          exact ⟨rfl, HBE.out⟩
        refine consConv (by rfl) _ (.string SX) (by rfl) HC1.out ?_ AllReady.nil
        try simp only [Act.put, List.setIfInBounds_toArray, List.set_cons_zero, List.set_cons_succ]
        refine takeU (v := ?_) 5 rfl (by kernel_rfl) (by kernel_rfl) (by kernel_rfl) (fun _ _ _ h => h) ?_ ?_
        rotate_left
        · intro w; go_simp; with_reducible rfl
        try simp only [Act.put, List.setIfInBounds_toArray, List.set_cons_zero, List.set_cons_succ]
        refine wpAny_ready (rs := [1, 6]) (by kernel_rfl) (by simp) ?_
        refine consConv (by rfl) _ (.string SO) (by rfl) HC2.out ?_ ?_
        · try simp only [Act.put, List.setIfInBounds_toArray, List.set_cons_zero, List.set_cons_succ]
          refine wpAny_ready (rs := [6]) (by kernel_rfl) (by simp) ?_
          refine consU (by rfl) (fun K hK => ?_) AllReady.nil
          go_simp
          refine (refSum_any (SX ++ s) (by rw [ByteArray.size_append]; exact HZ1.out) _).mono ?_
          rintro e W3 ⟨rfl, hb3⟩
          dsimp only
          refine hK _ _ ?_
          clear hK K
          try simp only [Act.put, List.setIfInBounds_toArray, List.set_cons_zero, List.set_cons_succ]
          have hz2 : (strOfNums (sha (bytesOf (SX ++ s)))).size ≤ 32 := by rw [strOfNums_size, sha_length]; exact Nat.le_refl _
          obtain ⟨T, hT⟩ : ∃ T, T = strOfNums (sha (bytesOf (SX ++ s))) := ⟨_, rfl⟩
          rw [← hT] at hz2
          rw [← hT]
          have HT := Lib.hid hT
          clear hT
          have HZ3 := Lib.hid (show SO.size + T.size ≤ 1000000 by have := HSO.out; omega)
          have hz3 : ¬ 9223372036854775807 < SO.size + T.size := by have := HZ3.out; omega
          refine takeU (v := ?_) 7 rfl (by kernel_rfl) (by kernel_rfl) (by kernel_rfl) (fun _ _ _ h => h) ?_ ?_
          rotate_left
          · intro w; go_simp; with_reducible rfl
          try simp only [Act.put, List.setIfInBounds_toArray, List.set_cons_zero, List.set_cons_succ]
          refine wpAny_ready (rs := [8]) (by kernel_rfl) (by simp) ?_
          refine consU (by rfl) (fun K hK => ?_) AllReady.nil
          go_simp
          refine (refSum_any (SO ++ T) (by rw [ByteArray.size_append]; exact HZ3.out) _).mono ?_
          rintro e W4 ⟨rfl, hb4⟩
          dsimp only
          refine hK _ _ ?_
          clear hK K
          try simp only [Act.put, List.setIfInBounds_toArray, List.set_cons_zero, List.set_cons_succ]
          refine takeU (v := ?_) 9 rfl (by kernel_rfl) (by kernel_rfl) (by kernel_rfl) (fun _ _ _ h => h) ?_ ?_
          rotate_left
          · intro w; go_simp; with_reducible rfl
          try simp only [Act.put, List.setIfInBounds_toArray, List.set_cons_zero, List.set_cons_succ]
          refine wpAny_done (by kernel_rfl) ?_ _
          have hf := HFIN.out
          have hT2 : bytesOf T = sha (bytesOf (SX ++ s)) := by rw [HT.out, bytesOf_strOfNums _ (sha_b _)]
          have hres : sha (bytesOf (SO ++ T)) = hmac KB (bytesOf s) := by rw [hf, bytesOf_append, hT2, bytesOf_append, HBX.out, HBO.out]
          rw [hres]
          have HBE := Lib.hid ((HBEL.out.drew.trans (hb3.mono HBEL.out.size)).trans (hb4.mono (Nat.le_trans HBEL.out.size hb3.size)))
          clear hf hT2 hres hb3 hb4 hz1 hz2 hz3
          go_wp2_with fail
          go_ret
          exact ⟨rfl, HBE.out⟩
        refine consU (by rfl) (fun K hK => ?_) AllReady.nil
        go_simp
        refine (refSum_any (SX ++ s) (by rw [ByteArray.size_append]; exact HZ1.out) _).mono ?_
        rintro e W3 ⟨rfl, hb3⟩
        dsimp only
        refine hK _ _ ?_
        clear hK K
        try simp only [Act.put, List.setIfInBounds_toArray, List.set_cons_zero, List.set_cons_succ]
        have hz2 : (strOfNums (sha (bytesOf (SX ++ s)))).size ≤ 32 := by rw [strOfNums_size, sha_length]; exact Nat.le_refl _
        obtain ⟨T, hT⟩ : ∃ T, T = strOfNums (sha (bytesOf (SX ++ s))) := ⟨_, rfl⟩
        rw [← hT] at hz2
        rw [← hT]
        have HT := Lib.hid hT
        clear hT
        have HZ3 := Lib.hid (show SO.size + T.size ≤ 1000000 by have := HSO.out; omega)
        have hz3 : ¬ 9223372036854775807 < SO.size + T.size := by have := HZ3.out; omega
        have hc3 := convRow64 W3 (gx + 1) O HO64.out ((hb3.block _ (blk_lt HY.out)).trans HY.out)
        rw [← HSOE.out] at hc3
        have HC3 := Lib.hid hc3
        clear hc3
        refine wpAny_ready (rs := [1]) (by kernel_rfl) (by simp) ?_
        refine consConv (by rfl) _ (.string SO) (by rfl) HC3.out ?_ AllReady.nil
        try simp only [Act.put, List.setIfInBounds_toArray, List.set_cons_zero, List.set_cons_succ]
        refine takeU (v := ?_) 7 rfl (by kernel_rfl) (by kernel_rfl) (by kernel_rfl) (fun _ _ _ h => h) ?_ ?_
        rotate_left
        · intro w; go_simp; with_reducible rfl
        try simp only [Act.put, List.setIfInBounds_toArray, List.set_cons_zero, List.set_cons_succ]
        refine wpAny_ready (rs := [8]) (by kernel_rfl) (by simp) ?_
        refine consU (by rfl) (fun K hK => ?_) AllReady.nil
        go_simp
        refine (refSum_any (SO ++ T) (by rw [ByteArray.size_append]; exact HZ3.out) _).mono ?_
        rintro e W4 ⟨rfl, hb4⟩
        dsimp only
        refine hK _ _ ?_
        clear hK K
        try simp only [Act.put, List.setIfInBounds_toArray, List.set_cons_zero, List.set_cons_succ]
        refine takeU (v := ?_) 9 rfl (by kernel_rfl) (by kernel_rfl) (by kernel_rfl) (fun _ _ _ h => h) ?_ ?_
        rotate_left
        · intro w; go_simp; with_reducible rfl
        try simp only [Act.put, List.setIfInBounds_toArray, List.set_cons_zero, List.set_cons_succ]
        refine wpAny_done (by kernel_rfl) ?_ _
        have hf := HFIN.out
        have hT2 : bytesOf T = sha (bytesOf (SX ++ s)) := by rw [HT.out, bytesOf_strOfNums _ (sha_b _)]
        have hres : sha (bytesOf (SO ++ T)) = hmac KB (bytesOf s) := by rw [hf, bytesOf_append, hT2, bytesOf_append, HBX.out, HBO.out]
        rw [hres]
        have HBE := Lib.hid ((HBEL.out.drew.trans (hb3.mono HBEL.out.size)).trans (hb4.mono (Nat.le_trans HBEL.out.size hb3.size)))
        clear hf hT2 hres hb3 hb4 hz1 hz2 hz3
        go_wp2_with fail
        go_ret
        exact ⟨rfl, HBE.out⟩
  · have hkk : kblk KB = kpad (bytesOf key) := by rw [kblk, HKB.out, if_neg (by rw [HKL.out]; exact hbig)]
    obtain ⟨K0, hK0⟩ : ∃ K, K = key := ⟨_, rfl⟩
    have hk64 : K0.size ≤ 64 := by rw [hK0]; omega
    rw [← hK0] at hkk
    have HP0 := Lib.hid (rpad_start (D := kblk KB) (Below.refl _ w))
    have HKK := Lib.hid hkk
    clear hkk
    go_wp2_with (refine wpList_make_bytes (by rfl) 50 _ _ (by rfl) 5 Try.underlying50 infoByte 64 (by rfl) (by rfl) (by omega) ?_)
    obtain ⟨gx, hgx⟩ : ∃ g, g = w.heap.size := ⟨_, rfl⟩
    rw [← hgx] at HP0
    try rw [← hgx]
    clear hgx
    try rw [← hK0]
    clear hK0
    have hI64 : (ipad KB).length = 64 := ipad_length KB
    have hO64 : (opad KB).length = 64 := opad_length KB
    have hD64 := kblk_length KB
    have hDB : Bs (kblk KB) := by rw [HKK.out]; exact kpad_b (bytesOf_range _)
    obtain ⟨I, hI⟩ : ∃ I, I = ipad KB := ⟨_, rfl⟩
    obtain ⟨O, hO⟩ : ∃ O, O = opad KB := ⟨_, rfl⟩
    obtain ⟨D, hD⟩ : ∃ D, D = kblk KB := ⟨_, rfl⟩
    have hID : D.map (fun x => xr x 54) = I := by rw [hI, hD, ipad]
    have hOD : D.map (fun x => xr x 92) = O := by rw [hO, hD, opad]
    have hfin : hmac KB (bytesOf s) = sha (O ++ sha (I ++ bytesOf s)) := by rw [hmac, hO, hI]
    rw [← hD] at HP0 hDB hD64 HKK
    rw [← hI] at hI64
    rw [← hO] at hO64
    have HD := Lib.hid hD64
    have HDB := Lib.hid hDB
    have HI64 := Lib.hid hI64
    have HO64 := Lib.hid hO64
    have HID := Lib.hid hID
    have HOD := Lib.hid hOD
    have HFIN := Lib.hid hfin
    have HIB : Hid (Bs I) := by rw [← hID]; exact Lib.hid (xmap_b hDB 54 (by omega))
    have HOB : Hid (Bs O) := by rw [← hOD]; exact Lib.hid (xmap_b hDB 92 (by omega))
    clear hI64 hO64 hD64 hID hOD hI hO hD hDB hfin
    go_loopg [7] 64 (fun j i wr => ∃ k : Nat, j + k = 64 ∧ i = .int .i64 (k : Int) ∧ RPadI w gx (gx + 1) D k wr)
    case atStart => exact ⟨0, rfl, rfl, HP0.out⟩
    case round =>
      clear HP0
      obtain ⟨k, hk, rfl, hI⟩ := hrel
      by_cases hlt : k < 64
      · have cx := hI.atx HD.out hlt
        have cy := hI.aty HD.out hlt
        have fx := blk_frozen hI.xx k
        have fy := blk_frozen hI.yy k
        have hd := HDB.out.get k
        have hp := fun x y => hI.put HD.out hlt x y
        have hg := kpad_get (k := K0) hlt
        rw [← HKK.out] at hg
        obtain ⟨d, hdd⟩ : ∃ d, d = D.getD k 0 := ⟨_, rfl⟩
        rw [← hdd] at hd hg
        simp only [← hdd] at hp
        obtain ⟨y, e1⟩ : ∃ y, bits .xor .u8 d 92 = y := ⟨_, rfl⟩
        obtain ⟨x, e2⟩ : ∃ x, bits .xor .u8 d 54 = x := ⟨_, rfl⟩
        have HP := Lib.hid (hp x y (by rw [← e2, xor_u8 hd (by omega)]) (by rw [← e1, xor_u8 hd (by omega)]))
        have q5 : (k : Int) < 64 := by omega
        have q7 : (0 : Int) ≤ (k : Int) := by omega
        clear hp hdd hd hI
        by_cases hin : k < K0.size
        · rw [dif_pos hin] at hg
          have hgs := hg.symm
          clear hg
          go_wp2_with fail
          go_roundg (gk - 1)
          case measure => omega
          case rel => exact ⟨k + 1, by omega, by go_num, HP.out⟩
        · rw [dif_neg hin] at hg
          subst hg
          go_wp2_with fail
          go_roundg (gk - 1)
          case measure => omega
          case rel => exact ⟨k + 1, by omega, by go_num, HP.out⟩
      · obtain rfl : k = 64 := by omega
        have hx := hI.xx
        have hy := hI.yy
        rw [List.take_of_length_le (by rw [HD.out]; omega), Nat.sub_self, List.replicate_zero, List.append_nil, HID.out] at hx
        rw [List.take_of_length_le (by rw [HD.out]; omega), Nat.sub_self, List.replicate_zero, List.append_nil, HOD.out] at hy
        have hc1 := convRow64 wr.drew gx I HI64.out hx
        have hc2 := convRow64 wr.drew (gx + 1) O HO64.out hy
        have hsx : (strOfNums I).size = 64 := by rw [strOfNums_size, HI64.out]
        have hso : (strOfNums O).size = 64 := by rw [strOfNums_size, HO64.out]
        have hbx : bytesOf (strOfNums I) = I := bytesOf_strOfNums _ HIB.out
        have hbo : bytesOf (strOfNums O) = O := bytesOf_strOfNums _ HOB.out
        obtain ⟨SX, hSX⟩ : ∃ S, S = strOfNums I := ⟨_, rfl⟩
        obtain ⟨SO, hSO⟩ : ∃ S, S = strOfNums O := ⟨_, rfl⟩
        rw [← hSX] at hc1 hsx hbx
        rw [← hSO] at hc2 hso hbo
        have HX := Lib.hid hx
        have HY := Lib.hid hy
        have HC1 := Lib.hid hc1
        have HC2 := Lib.hid hc2
        have HSX := Lib.hid hsx
        have HSO := Lib.hid hso
        have HBX := Lib.hid hbx
        have HBO := Lib.hid hbo
        have HBEL := Lib.hid hI.bel
        have HSOE := Lib.hid hSO
        clear hI hx hy hc1 hc2 hsx hso hbx hbo hSX hSO hlt hk
        go_wp2_with fail
        have HZ1 := Lib.hid (show SX.size + s.size ≤ 1000000 by have := HSX.out; omega)
        have hz1 : ¬ 9223372036854775807 < SX.size + s.size := by have := HZ1.out; omega
        refine wp_region_any (by kernel_rfl) ?_
        change wpAny _ _ _ _ _ _ _ (World.drew wr)
        refine takeU (v := ?_) 0 rfl (by kernel_rfl) (by kernel_rfl) (by kernel_rfl) (fun _ _ _ h => h) ?_ ?_
        rotate_left
        · intro w; go_simp; with_reducible rfl
        try simp only [Act.put, List.setIfInBounds_toArray, List.set_cons_zero, List.set_cons_succ]
        refine takeU (v := ?_) 2 rfl (by kernel_rfl) (by kernel_rfl) (by kernel_rfl) (fun _ _ _ h => h) ?_ ?_
        rotate_left
        · intro w; go_simp; with_reducible rfl
        try simp only [Act.put, List.setIfInBounds_toArray, List.set_cons_zero, List.set_cons_succ]
        refine takeU (v := ?_) 4 rfl (by kernel_rfl) (by kernel_rfl) (by kernel_rfl) (fun _ _ _ h => h) ?_ ?_
        rotate_left
        · intro w; go_simp; with_reducible rfl
        try simp only [Act.put, List.setIfInBounds_toArray, List.set_cons_zero, List.set_cons_succ]
        refine wpAny_ready (rs := [1, 3]) (by kernel_rfl) (by simp) ?_
        refine consConv (by rfl) _ (.string SO) (by rfl) HC2.out ?_ ?_
        · try simp only [Act.put, List.setIfInBounds_toArray, List.set_cons_zero, List.set_cons_succ]
          refine wpAny_ready (rs := [3]) (by kernel_rfl) (by simp) ?_
          refine consConv (by rfl) _ (.string SX) (by rfl) HC1.out ?_ AllReady.nil
          try simp only [Act.put, List.setIfInBounds_toArray, List.set_cons_zero, List.set_cons_succ]
          refine takeU (v := ?_) 5 rfl (by kernel_rfl) (by kernel_rfl) (by kernel_rfl) (fun _ _ _ h => h) ?_ ?_
          rotate_left
          · intro w; go_simp; with_reducible rfl
          try simp only [Act.put, List.setIfInBounds_toArray, List.set_cons_zero, List.set_cons_succ]
          refine wpAny_ready (rs := [6]) (by kernel_rfl) (by simp) ?_
          refine consU (by rfl) (fun K hK => ?_) AllReady.nil
          go_simp
          refine (refSum_any (SX ++ s) (by rw [ByteArray.size_append]; exact HZ1.out) _).mono ?_
          rintro e W3 ⟨rfl, hb3⟩
          dsimp only
          refine hK _ _ ?_
          clear hK K
          try simp only [Act.put, List.setIfInBounds_toArray, List.set_cons_zero, List.set_cons_succ]
          have hz2 : (strOfNums (sha (bytesOf (SX ++ s)))).size ≤ 32 := by rw [strOfNums_size, sha_length]; exact Nat.le_refl _
          obtain ⟨T, hT⟩ : ∃ T, T = strOfNums (sha (bytesOf (SX ++ s))) := ⟨_, rfl⟩
          rw [← hT] at hz2
          rw [← hT]
          have HT := Lib.hid hT
          clear hT
          have HZ3 := Lib.hid (show SO.size + T.size ≤ 1000000 by have := HSO.out; omega)
          have hz3 : ¬ 9223372036854775807 < SO.size + T.size := by have := HZ3.out; omega
          refine takeU (v := ?_) 7 rfl (by kernel_rfl) (by kernel_rfl) (by kernel_rfl) (fun _ _ _ h => h) ?_ ?_
          rotate_left
          · intro w; go_simp; with_reducible rfl
          try simp only [Act.put, List.setIfInBounds_toArray, List.set_cons_zero, List.set_cons_succ]
          refine wpAny_ready (rs := [8]) (by kernel_rfl) (by simp) ?_
          refine consU (by rfl) (fun K hK => ?_) AllReady.nil
          go_simp
          refine (refSum_any (SO ++ T) (by rw [ByteArray.size_append]; exact HZ3.out) _).mono ?_
          rintro e W4 ⟨rfl, hb4⟩
          dsimp only
          refine hK _ _ ?_
          clear hK K
          try simp only [Act.put, List.setIfInBounds_toArray, List.set_cons_zero, List.set_cons_succ]
          refine takeU (v := ?_) 9 rfl (by kernel_rfl) (by kernel_rfl) (by kernel_rfl) (fun _ _ _ h => h) ?_ ?_
          rotate_left
          · intro w; go_simp; with_reducible rfl
          try simp only [Act.put, List.setIfInBounds_toArray, List.set_cons_zero, List.set_cons_succ]
          refine wpAny_done (by kernel_rfl) ?_ _
          have hf := HFIN.out
          have hT2 : bytesOf T = sha (bytesOf (SX ++ s)) := by rw [HT.out, bytesOf_strOfNums _ (sha_b _)]
          have hres : sha (bytesOf (SO ++ T)) = hmac KB (bytesOf s) := by rw [hf, bytesOf_append, hT2, bytesOf_append, HBX.out, HBO.out]
          rw [hres]
          have HBE := Lib.hid ((HBEL.out.drew.trans (hb3.mono HBEL.out.size)).trans (hb4.mono (Nat.le_trans HBEL.out.size hb3.size)))
          clear hf hT2 hres hb3 hb4 hz1 hz2 hz3
          go_wp2_with fail
          go_ret
          exact ⟨rfl, HBE.out⟩
        refine consConv (by rfl) _ (.string SX) (by rfl) HC1.out ?_ AllReady.nil
        try simp only [Act.put, List.setIfInBounds_toArray, List.set_cons_zero, List.set_cons_succ]
        refine takeU (v := ?_) 5 rfl (by kernel_rfl) (by kernel_rfl) (by kernel_rfl) (fun _ _ _ h => h) ?_ ?_
        rotate_left
        · intro w; go_simp; with_reducible rfl
        try simp only [Act.put, List.setIfInBounds_toArray, List.set_cons_zero, List.set_cons_succ]
        refine wpAny_ready (rs := [1, 6]) (by kernel_rfl) (by simp) ?_
        refine consConv (by rfl) _ (.string SO) (by rfl) HC2.out ?_ ?_
        · try simp only [Act.put, List.setIfInBounds_toArray, List.set_cons_zero, List.set_cons_succ]
          refine wpAny_ready (rs := [6]) (by kernel_rfl) (by simp) ?_
          refine consU (by rfl) (fun K hK => ?_) AllReady.nil
          go_simp
          refine (refSum_any (SX ++ s) (by rw [ByteArray.size_append]; exact HZ1.out) _).mono ?_
          rintro e W3 ⟨rfl, hb3⟩
          dsimp only
          refine hK _ _ ?_
          clear hK K
          try simp only [Act.put, List.setIfInBounds_toArray, List.set_cons_zero, List.set_cons_succ]
          have hz2 : (strOfNums (sha (bytesOf (SX ++ s)))).size ≤ 32 := by rw [strOfNums_size, sha_length]; exact Nat.le_refl _
          obtain ⟨T, hT⟩ : ∃ T, T = strOfNums (sha (bytesOf (SX ++ s))) := ⟨_, rfl⟩
          rw [← hT] at hz2
          rw [← hT]
          have HT := Lib.hid hT
          clear hT
          have HZ3 := Lib.hid (show SO.size + T.size ≤ 1000000 by have := HSO.out; omega)
          have hz3 : ¬ 9223372036854775807 < SO.size + T.size := by have := HZ3.out; omega
          refine takeU (v := ?_) 7 rfl (by kernel_rfl) (by kernel_rfl) (by kernel_rfl) (fun _ _ _ h => h) ?_ ?_
          rotate_left
          · intro w; go_simp; with_reducible rfl
          try simp only [Act.put, List.setIfInBounds_toArray, List.set_cons_zero, List.set_cons_succ]
          refine wpAny_ready (rs := [8]) (by kernel_rfl) (by simp) ?_
          refine consU (by rfl) (fun K hK => ?_) AllReady.nil
          go_simp
          refine (refSum_any (SO ++ T) (by rw [ByteArray.size_append]; exact HZ3.out) _).mono ?_
          rintro e W4 ⟨rfl, hb4⟩
          dsimp only
          refine hK _ _ ?_
          clear hK K
          try simp only [Act.put, List.setIfInBounds_toArray, List.set_cons_zero, List.set_cons_succ]
          refine takeU (v := ?_) 9 rfl (by kernel_rfl) (by kernel_rfl) (by kernel_rfl) (fun _ _ _ h => h) ?_ ?_
          rotate_left
          · intro w; go_simp; with_reducible rfl
          try simp only [Act.put, List.setIfInBounds_toArray, List.set_cons_zero, List.set_cons_succ]
          refine wpAny_done (by kernel_rfl) ?_ _
          have hf := HFIN.out
          have hT2 : bytesOf T = sha (bytesOf (SX ++ s)) := by rw [HT.out, bytesOf_strOfNums _ (sha_b _)]
          have hres : sha (bytesOf (SO ++ T)) = hmac KB (bytesOf s) := by rw [hf, bytesOf_append, hT2, bytesOf_append, HBX.out, HBO.out]
          rw [hres]
          have HBE := Lib.hid ((HBEL.out.drew.trans (hb3.mono HBEL.out.size)).trans (hb4.mono (Nat.le_trans HBEL.out.size hb3.size)))
          clear hf hT2 hres hb3 hb4 hz1 hz2 hz3
          go_wp2_with fail
          go_ret
          exact ⟨rfl, HBE.out⟩
        refine consU (by rfl) (fun K hK => ?_) AllReady.nil
        go_simp
        refine (refSum_any (SX ++ s) (by rw [ByteArray.size_append]; exact HZ1.out) _).mono ?_
        rintro e W3 ⟨rfl, hb3⟩
        dsimp only
        refine hK _ _ ?_
        clear hK K
        try simp only [Act.put, List.setIfInBounds_toArray, List.set_cons_zero, List.set_cons_succ]
        have hz2 : (strOfNums (sha (bytesOf (SX ++ s)))).size ≤ 32 := by rw [strOfNums_size, sha_length]; exact Nat.le_refl _
        obtain ⟨T, hT⟩ : ∃ T, T = strOfNums (sha (bytesOf (SX ++ s))) := ⟨_, rfl⟩
        rw [← hT] at hz2
        rw [← hT]
        have HT := Lib.hid hT
        clear hT
        have HZ3 := Lib.hid (show SO.size + T.size ≤ 1000000 by have := HSO.out; omega)
        have hz3 : ¬ 9223372036854775807 < SO.size + T.size := by have := HZ3.out; omega
        have hc3 := convRow64 W3 (gx + 1) O HO64.out ((hb3.block _ (blk_lt HY.out)).trans HY.out)
        rw [← HSOE.out] at hc3
        have HC3 := Lib.hid hc3
        clear hc3
        refine wpAny_ready (rs := [1]) (by kernel_rfl) (by simp) ?_
        refine consConv (by rfl) _ (.string SO) (by rfl) HC3.out ?_ AllReady.nil
        try simp only [Act.put, List.setIfInBounds_toArray, List.set_cons_zero, List.set_cons_succ]
        refine takeU (v := ?_) 7 rfl (by kernel_rfl) (by kernel_rfl) (by kernel_rfl) (fun _ _ _ h => h) ?_ ?_
        rotate_left
        · intro w; go_simp; with_reducible rfl
        try simp only [Act.put, List.setIfInBounds_toArray, List.set_cons_zero, List.set_cons_succ]
        refine wpAny_ready (rs := [8]) (by kernel_rfl) (by simp) ?_
        refine consU (by rfl) (fun K hK => ?_) AllReady.nil
        go_simp
        refine (refSum_any (SO ++ T) (by rw [ByteArray.size_append]; exact HZ3.out) _).mono ?_
        rintro e W4 ⟨rfl, hb4⟩
        dsimp only
        refine hK _ _ ?_
        clear hK K
        try simp only [Act.put, List.setIfInBounds_toArray, List.set_cons_zero, List.set_cons_succ]
        refine takeU (v := ?_) 9 rfl (by kernel_rfl) (by kernel_rfl) (by kernel_rfl) (fun _ _ _ h => h) ?_ ?_
        rotate_left
        · intro w; go_simp; with_reducible rfl
        try simp only [Act.put, List.setIfInBounds_toArray, List.set_cons_zero, List.set_cons_succ]
        refine wpAny_done (by kernel_rfl) ?_ _
        have hf := HFIN.out
        have hT2 : bytesOf T = sha (bytesOf (SX ++ s)) := by rw [HT.out, bytesOf_strOfNums _ (sha_b _)]
        have hres : sha (bytesOf (SO ++ T)) = hmac KB (bytesOf s) := by rw [hf, bytesOf_append, hT2, bytesOf_append, HBX.out, HBO.out]
        rw [hres]
        have HBE := Lib.hid ((HBEL.out.drew.trans (hb3.mono HBEL.out.size)).trans (hb4.mono (Nat.le_trans HBEL.out.size hb3.size)))
        clear hf hT2 hres hb3 hb4 hz1 hz2 hz3
        go_wp2_with fail
        go_ret
        exact ⟨rfl, HBE.out⟩
/-- The texts of HKDF, one by one, and all of them. -/
def expT (K I : List Int) : Nat → List Int
  | 0 => []
  | i + 1 => hmac K (expT K I i ++ I ++ [((i : Int) + 1) % 256])
def expB (K I : List Int) : Nat → List Int
  | 0 => []
  | i + 1 => expB K I i ++ expT K I (i + 1)
/-- PBKDF2's texts: of block i the one behind j rounds more; their sum; all blocks. -/
def strU (K S : List Int) (i : Nat) : Nat → List Int
  | 0 => hmac K (S ++ be4 i)
  | j + 1 => hmac K (strU K S i j)
def strX (K S : List Int) (i : Nat) : Nat → List Int
  | 0 => strU K S i 0
  | j + 1 => List.zipWith xr (strX K S i j) (strU K S i (j + 1))
def strB (K S : List Int) (r : Nat) : Nat → List Int
  | 0 => []
  | i + 1 => strB K S r i ++ strX K S (i + 1) (r - 1)
theorem expT_b (K I : List Int) : ∀ i, Bs (expT K I i)
  | 0 => fun x hx => by cases hx
  | i + 1 => hmac_b _ _
theorem expT_length (K I : List Int) (i : Nat) : (expT K I (i + 1)).length = 32 := hmac_length _ _
theorem expT_small (K I : List Int) : ∀ i, (expT K I i).length ≤ 32
  | 0 => by simp [expT]
  | i + 1 => by rw [expT_length]; exact Nat.le_refl _
theorem expB_length (K I : List Int) : ∀ i, (expB K I i).length = 32 * i
  | 0 => rfl
  | i + 1 => by rw [expB, List.length_append, expB_length K I i, expT_length]; omega
theorem strU_b (K S : List Int) (i : Nat) : ∀ j, Bs (strU K S i j)
  | 0 => hmac_b _ _
  | j + 1 => hmac_b _ _
theorem strU_length (K S : List Int) (i : Nat) : ∀ j, (strU K S i j).length = 32
  | 0 => hmac_length _ _
  | j + 1 => hmac_length _ _
theorem strX_length (K S : List Int) (i : Nat) : ∀ j, (strX K S i j).length = 32
  | 0 => strU_length K S i 0
  | j + 1 => by rw [strX, List.length_zipWith, strX_length K S i j, strU_length]; rfl
theorem zip_b {a b : List Int} (ha : Bs a) (hb : Bs b) : Bs (List.zipWith xr a b) := by
  intro x hx
  obtain ⟨i, hi, rfl⟩ := List.mem_iff_getElem.1 hx
  rw [List.getElem_zipWith]
  exact xr_b (ha _ (List.getElem_mem _)) (hb _ (List.getElem_mem _))
theorem strX_b (K S : List Int) (i : Nat) : ∀ j, Bs (strX K S i j)
  | 0 => strU_b K S i 0
  | j + 1 => zip_b (strX_b K S i j) (strU_b K S i _)
theorem strB_length (K S : List Int) (r : Nat) : ∀ i, (strB K S r i).length = 32 * i
  | 0 => rfl
  | i + 1 => by rw [strB, List.length_append, strB_length K S r i, strX_length]; omega
/-- What Expand answers. -/
def expandSpec (key info : ByteArray) (n : Int) : ByteArray × Int :=
  if n < 0 ∨ 8160 < n then (⟨#[]⟩, 1) else (strOfNums ((expB (bytesOf key) (bytesOf info) ((n.toNat + 31) / 32)).take n.toNat), 0)
/-- What Stretch answers. -/
def stretchSpec (pass salt : ByteArray) (rounds n : Int) : ByteArray × Int :=
  if rounds < 1 ∨ 1000 < rounds ∨ n < 0 ∨ 1024 < n then (⟨#[]⟩, 1) else (strOfNums ((strB (bytesOf pass) (bytesOf salt) rounds.toNat ((n.toNat + 31) / 32)).take n.toNat), 0)
theorem ExpI.grow {w W Wm W1 : World} {g n m cap H : Nat} {Zi Zo : List Value} {xs ys : List Int} {v : Value} {ao : Option Addr} {news : List Value} (h : ExpI w g Zi Zo n xs v W) (hm : Below W.heap.size W Wm)
    (hown : Row W1 5 1 (.slice ao (n + m) cap) (n + m) (nums xs ++ news)) (hn : news = nums ys) (hgrow : Wm.grownBy W1 v.ownBlock)
    (hat : (Value.slice ao (n + m) cap).ownBlock = v.ownBlock ∨ (Value.slice ao (n + m) cap).ownBlock = some H) (hH : W.heap.size ≤ H) : ExpI w g Zi Zo (n + m) (xs ++ ys) (.slice ao (n + m) cap) W1 := by
  subst hn
  have hb := h.b.app hm hown hgrow hat hH
  have n1 := h.b.row.ne_type h.l.h1 (by decide)
  have n2 := h.b.row.ne_type h.l.h2 (by decide)
  have k1 := (hm.block _ (blk_lt h.l.h1)).trans h.l.h1
  have k2 := (hm.block _ (blk_lt h.l.h2)).trans h.l.h2
  rw [← nums_append] at hb
  exact ⟨⟨hb.below, (hgrow.block _ (blk_lt k1) n1).trans k1, (hgrow.block _ (blk_lt k2) n2).trans k2, h.l.ge⟩, hb⟩
theorem conv1 (W : World) (c : Int) : (convert 50 9 (.slice (some ⟨W.heap.size, 0, none⟩) 1 1)).run Try.prog (W.alloc (.cells #[.int .u8 c] 5 (0, 0))) = .ok (.string (strOfNums [c])) (W.alloc (.cells #[.int .u8 c] 5 (0, 0))) :=
  run_convert_bytes_arg _ _ _ Try.underlying50 Try.underlying5 W.heap.size 0 1 1 [c] rfl (fun j hj => by
    obtain rfl : j = 0 := by omega
    rw [blk_cell (get_top rfl)]
    rfl) _ Try.underlying9
set_option maxRecDepth 100000 in
set_option maxHeartbeats 3200000 in
theorem expand_any (key info : ByteArray) (n : Int) (hk : key.size ≤ 100000) (hi : info.size ≤ 100000) (w : World) :
    Calls Try.prog 65 #[.string key, .string info, .int .i64 n] w fun e w' => e = .returned (.tuple #[.string (expandSpec key info n).1, .int .i64 (expandSpec key info n).2]) ∧ Below w.heap.size w w' := by
  by_cases h0 : n < 0
  · have HS := Lib.hid (show expandSpec key info n = (⟨#[]⟩, 1) by rw [expandSpec, if_pos (.inl h0)])
    go_enter Try.func65, Try.ntmps65
    go_wp2
    go_ret2
    rw [HS.out]
    exact ⟨rfl, Below.refl _ _⟩
  by_cases h1 : 8160 < n
  · have HS := Lib.hid (show expandSpec key info n = (⟨#[]⟩, 1) by rw [expandSpec, if_pos (.inr h1)])
    go_enter Try.func65, Try.ntmps65
    go_wp2
    go_ret2
    rw [HS.out]
    exact ⟨rfl, Below.refl _ _⟩
  obtain ⟨m, rfl⟩ := Int.eq_ofNat_of_zero_le (show 0 ≤ n by omega)
  have HS := Lib.hid (show expandSpec key info (m : Int) = (strOfNums ((expB (bytesOf key) (bytesOf info) ((m + 31) / 32)).take m), 0) by rw [expandSpec, if_neg (by omega), Int.toNat_natCast])
  have hm : m ≤ 8160 := by omega
  have hum := Try.underlying112
  have HUM := Lib.hid hum
  clear hum
  go_enter Try.func65, Try.ntmps65
  go_wp2_with fail
  refine (pads_any key (by omega) w).mono ?_
  rintro e W1 ⟨Zi, Zo, rfl, hzi, hzo, hb1⟩
  obtain ⟨KB, hKB⟩ : ∃ K, K = bytesOf key := ⟨_, rfl⟩
  rw [← hKB] at hzi hzo HS
  have HKB := Lib.hid hKB
  have HZI := Lib.hid hzi
  have HZO := Lib.hid hzo
  have HB1 := Lib.hid hb1
  have HIM := Lib.hid (show (Try.prog.info? 112).map (·.size) = some Zi.length by rw [infoMix, hzi.length])
  have HOM := Lib.hid (show (Try.prog.info? 112).map (·.size) = some Zo.length by rw [infoMix, hzo.length])
  have HBO := Lib.hid (fun (s : ByteArray) (hs : s.size ≤ 800000) W => both_any Zi Zo (ipad KB) (opad KB) s hzi hzo (by rw [ipad_length]; omega) (by rw [opad_length]; omega) (by omega) W)
  clear hzi hzo hb1 hKB
  go_wp2_with (first | (refine wpList_alloc_known (by rfl) 112 (by rfl) mix0.toArray (mix0_zero _) ?_) | (refine wpList_store_part (by rfl) 112 (.tmp 8) (.tmp 22) (by rfl) W1.heap.size 0 Zi mix0 112 (by rfl) (by rfl) (get_below (get_top rfl)) (by rw [HZI.out.length]; exact Nat.le_refl _) HIM.out HZI.out.one ?_; intro W2 hW2 hK2; have HL1 := Lib.hid (laid1 HZI.out HB1.out hW2 hK2); clear hW2 hK2) | (refine wpList_store_part (by rfl) 112 (.tmp 9) (.tmp 23) (by rfl) (W1.heap.size + 1) 0 Zo mix0 112 (by first | rfl | simp [go_sem]) (by rfl) HL1.out.h2 (by rw [HZO.out.length]; exact Nat.le_refl _) HOM.out HZO.out.one ?_; intro W3 hW3 hK3; have HL2 := Lib.hid (laid2 HZO.out HL1.out hW3 hK3); clear hW3 hK3))
  obtain ⟨g, hg⟩ : ∃ g, g = W1.heap.size := ⟨_, rfl⟩
  rw [← hg] at HL2
  rw [← hg]
  clear hg HL1 HB1
  obtain ⟨IB, hIB⟩ : ∃ I, I = bytesOf info := ⟨_, rfl⟩
  rw [← hIB] at HS
  have HIB := Lib.hid hIB
  clear hIB
  obtain ⟨M, hM⟩ : ∃ M, M = (m + 31) / 32 := ⟨_, rfl⟩
  rw [← hM] at HS
  have HE0 := Lib.hid (show ExpI w g Zi Zo 0 [] (.slice none 0 0) W3 from ⟨HL2.out, Loc.nil HL2.out.bel _ _⟩)
  clear HL2
  go_loopg [10, 11, 12] M (fun j b t i wr => ∃ (k : Nat) (v : Value), j + k = M ∧ v = b ∧ t = .string (strOfNums (expT KB IB k)) ∧ i = .int .i64 ((k : Int) + 1) ∧ ExpI w g Zi Zo (32 * k) (expB KB IB k) v wr)
  case atStart => exact ⟨0, _, rfl, rfl, rfl, rfl, HE0.out⟩
  case round =>
    clear HE0
    obtain ⟨k, v, hk, rfl, rfl, rfl, hI⟩ := hrel
    obtain ⟨L, hL⟩ : ∃ L, L = 32 * k := ⟨_, rfl⟩
    rw [← hL] at hI
    obtain ⟨ao, cap, rfl, hcap⟩ := hI.b.row.form
    have hkM : k ≤ M := by omega
    have hM256 : M ≤ 255 := by omega
    by_cases hlt : k < M
    · have hLm : L < m := by omega
      have hlt1 : ((L : Int) < (m : Int)) := by omega
      have hts := expT_small KB IB k
      have hT1 : (strOfNums (expT KB IB k)).size ≤ 32 := by rw [strOfNums_size]; exact hts
      have hT2 : bytesOf (strOfNums (expT KB IB k)) = expT KB IB k := bytesOf_strOfNums _ (expT_b KB IB k)
      obtain ⟨T, hT⟩ : ∃ T, T = strOfNums (expT KB IB k) := ⟨_, rfl⟩
      rw [← hT] at hT1 hT2
      rw [← hT]
      have hc : ((k : Int) + 1) % 256 = (k : Int) + 1 := Int.emod_eq_of_lt (by omega) (by omega)
      have hcw := conv1 wr ((k : Int) + 1)
      have hcs : (strOfNums [(k : Int) + 1]).size = 1 := by rw [strOfNums_size]; rfl
      have hcb : bytesOf (strOfNums [(k : Int) + 1]) = [(k : Int) + 1] := bytesOf_strOfNums _ (fun x hx => by
        obtain rfl := List.mem_singleton.1 hx
        omega)
      obtain ⟨C, hC⟩ : ∃ C, C = strOfNums [(k : Int) + 1] := ⟨_, rfl⟩
      rw [← hC] at hcw hcs hcb
      have z1 : ¬ 9223372036854775807 < T.size + info.size := by omega
      have z2 : ¬ 9223372036854775807 < T.size + info.size + C.size := by omega
      have hsz : (T ++ info ++ C).size ≤ 800000 := by rw [ByteArray.size_append, ByteArray.size_append]; omega
      have hnx : strOfNums (sha (opad KB ++ sha (ipad KB ++ bytesOf (T ++ info ++ C)))) = strOfNums (expT KB IB (k + 1)) := by
        rw [bytesOf_append, bytesOf_append, hT2, hcb, ← HIB.out, expT, hc, hmac]
      have HNX := Lib.hid hnx
      have HSZ := Lib.hid hsz
      have HI := Lib.hid hI
      have HL := Lib.hid hL
      clear hT hT1 hT2 hts hc hcs hcb hC hnx hsz hI hL hLm
      go_wp2_with (first | (refine wpList_load_row (by rfl) 112 (.tmp 8) (by rfl) g (by rfl) 112 Zi.toArray (0, 0) _ HI.out.l.h1 HUM.out rfl (by simpa using HIM.out) ?_) | (refine wpList_load_row (by rfl) 112 (.tmp 9) (by rfl) (g + 1) (by rfl) 112 Zo.toArray (0, 0) _ HI.out.l.h2 HUM.out rfl (by simpa using HOM.out) ?_))
      refine (HBO.out _ HSZ.out _).mono ?_
      rw [HNX.out]
      rintro e W4 ⟨rfl, hb4⟩
      have HI4 := Lib.hid (HI.out.below (((Below.refl _ wr).alloc (Nat.le_refl _) _).trans (hb4.mono (by simp))))
      have hTs : (strOfNums (expT KB IB (k + 1))).size = 32 := by rw [strOfNums_size, expT_length]
      have hTb : Lib.strCells (strOfNums (expT KB IB (k + 1))) = nums (expT KB IB (k + 1)) := by
        rw [Lib.strCells, ← nums_bytesOf, bytesOf_strOfNums _ (expT_b KB IB (k + 1))]
      have hcat : expB KB IB k ++ expT KB IB (k + 1) = expB KB IB (k + 1) := rfl
      obtain ⟨T1, hT1⟩ : ∃ T, T = strOfNums (expT KB IB (k + 1)) := ⟨_, rfl⟩
      rw [← hT1] at hTs hTb
      have HT1 := Lib.hid hT1
      have HTS := Lib.hid hTs
      have HTB := Lib.hid hTb
      have HCAT := Lib.hid hcat
      rw [← hT1]
      obtain ⟨i0, hi, hz0, hz1, hz2⟩ := info_parts infoByte
      have HII := Lib.hid hi
      have HZ0 := Lib.hid hz0
      have HZ1 := Lib.hid hz1
      have HZ2 := Lib.hid hz2
      have hL8 : L ≤ 8160 := by omega
      clear hb4 hT1 hTs hTb hcat hcw HI hi hz0 hz1 hz2
      go_wp2_with (refine wpList_append_row _ (by rfl) _ _ _ _ (by rfl) 5 i0 (.int .u8 0) 1 1 Try.underlying50 HII.out HZ0.out HZ1.out HZ2.out rfl (by omega) _ _ _ (by rfl) HI4.out.b.row _ (by rfl) T1.size _ (Feeds.str Try.underlying9 T1) (by have := HTS.out; unfold maxLen; omega) (by have := HTS.out; omega) W4.heap.size rfl ?_; intro ao5 cap5 w5 hown5 hgrow5 hat5; have HI5 := Lib.hid (HI4.out.grow (Below.refl _ _) hown5 HTB.out hgrow5 hat5 (Nat.le_refl _)); rw [HCAT.out] at HI5; clear hown5 hgrow5 hat5)
      have e9 : L + T1.size = 32 * (k + 1) := by rw [HTS.out, HL.out]; omega
      have HI6 := Lib.hid (show ExpI w g Zi Zo (32 * (k + 1)) (expB KB IB (k + 1)) (.slice ao5 (L + T1.size) cap5) w5 by rw [← e9]; exact HI5.out)
      clear e9 HI5 HI4
      go_roundg (gk - 1)
      case measure => omega
      case rel => exact ⟨k + 1, _, by omega, rfl, by rw [HT1.out], by go_num, HI6.out⟩
    · obtain rfl : k = M := by omega
      have hmL : m ≤ L := by omega
      have hlt1 : ¬ ((L : Int) < (m : Int)) := by omega
      have hxl := expB_length KB IB k
      have hHS := HS.out
      obtain ⟨xs, hxs⟩ : ∃ xs, xs = expB KB IB k := ⟨_, rfl⟩
      rw [← hxs] at hI hxl hHS
      have HS := Lib.hid hHS
      have HBEL := Lib.hid hI.l.bel
      rcases hI.b.row.2 with ⟨he, hL0⟩ | ⟨gb, cap', cur, lo, hi, he, _⟩
      · simp at he
        obtain ⟨rfl, rfl, rfl⟩ := he
        obtain rfl : m = 0 := by omega
        have hcv := run_convert_bytes_nil (P := Try.prog) wr 50 5 Try.underlying50 Try.underlying5 0 0 9 Try.underlying9
        clear hI hL hM hHS hxl hxs hk hlt hkM hM256
        go_wp2
        go_ret2
        have hs := HS.out
        rw [show ((0 : Nat) : Int) = 0 from rfl] at hs
        rw [hs]
        exact ⟨rfl, HBEL.out⟩
      · simp at he
        obtain ⟨rfl, rfl⟩ := he
        have hmc : (m : Int) ≤ (cap : Int) := by omega
        have hm0 : (0 : Int) ≤ (m : Int) := by omega
        have hcv : (convert 50 9 (.slice (some ⟨gb, 0, none⟩) m cap)).run Try.prog wr = .ok (.string (strOfNums (xs.take m))) wr :=
          run_convert_bytes_arg wr _ _ Try.underlying50 Try.underlying5 gb 0 m cap (xs.take m) (by rw [List.length_take]; omega) (fun j hj => by
            rw [Nat.zero_add]
            refine hI.b.row.cells j _ ?_
            simp [nums, List.getD, List.getElem?_take, show j < m by omega, List.getElem?_eq_getElem (show j < xs.length by omega)]) _ Try.underlying9
        clear hI hL hM hHS hxl hxs hk hlt hkM hM256
        go_wp2
        go_ret2
        rw [HS.out]
        exact ⟨rfl, HBEL.out⟩
theorem strOfNums_take (xs : List Int) (m : Nat) : (strOfNums xs).extract 0 m = strOfNums (xs.take m) := by
  apply ByteArray.ext
  simp [strOfNums, List.map_take]
set_option maxRecDepth 100000 in
set_option maxHeartbeats 3200000 in
theorem refExpand_any (key info : ByteArray) (n : Int) (hk : key.size ≤ 100000) (hi : info.size ≤ 100000) (w : World) :
    Calls Try.prog 59 #[.string key, .string info, .int .i64 n] w fun e w' => e = .returned (.tuple #[.string (expandSpec key info n).1, .int .i64 (expandSpec key info n).2]) ∧ Below w.heap.size w w' := by
  by_cases h0 : n < 0
  · have HS := Lib.hid (show expandSpec key info n = (⟨#[]⟩, 1) by rw [expandSpec, if_pos (.inl h0)])
    go_enter Try.func59, Try.ntmps59
    go_wp2
    go_ret2
    rw [HS.out]
    exact ⟨rfl, Below.refl _ _⟩
  by_cases h1 : 8160 < n
  · have HS := Lib.hid (show expandSpec key info n = (⟨#[]⟩, 1) by rw [expandSpec, if_pos (.inr h1)])
    go_enter Try.func59, Try.ntmps59
    go_wp2
    go_ret2
    rw [HS.out]
    exact ⟨rfl, Below.refl _ _⟩
  obtain ⟨m, rfl⟩ := Int.eq_ofNat_of_zero_le (show 0 ≤ n by omega)
  have HS := Lib.hid (show expandSpec key info (m : Int) = (strOfNums ((expB (bytesOf key) (bytesOf info) ((m + 31) / 32)).take m), 0) by rw [expandSpec, if_neg (by omega), Int.toNat_natCast])
  have hm : m ≤ 8160 := by omega
  obtain ⟨KB, hKB⟩ : ∃ K, K = bytesOf key := ⟨_, rfl⟩
  obtain ⟨IB, hIB⟩ : ∃ I, I = bytesOf info := ⟨_, rfl⟩
  rw [← hIB, ← hKB] at HS
  have HKB := Lib.hid hKB
  have HIB := Lib.hid hIB
  obtain ⟨M, hM⟩ : ∃ M, M = (m + 31) / 32 := ⟨_, rfl⟩
  rw [← hM] at HS
  clear hKB hIB
  go_enter Try.func59, Try.ntmps59
  go_wp2_with fail
  go_loopg [8, 9, 10] M (fun j o t i wr => ∃ (k : Nat), j + k = M ∧ o = .string (strOfNums (expB KB IB k)) ∧ t = .string (strOfNums (expT KB IB k)) ∧ i = .int .i64 ((k : Int) + 1) ∧ Below w.heap.size w wr)
  case atStart => exact ⟨0, rfl, rfl, rfl, rfl, Below.refl _ _⟩
  case round =>
    obtain ⟨k, hk, rfl, rfl, rfl, hI⟩ := hrel
    have hkM : k ≤ M := by omega
    have hM256 : M ≤ 255 := by omega
    have hos : (strOfNums (expB KB IB k)).size = 32 * k := by rw [strOfNums_size, expB_length]
    by_cases hlt : k < M
    · have hts := expT_small KB IB k
      have hT1 : (strOfNums (expT KB IB k)).size ≤ 32 := by rw [strOfNums_size]; exact hts
      have hT2 : bytesOf (strOfNums (expT KB IB k)) = expT KB IB k := bytesOf_strOfNums _ (expT_b KB IB k)
      obtain ⟨T, hT⟩ : ∃ T, T = strOfNums (expT KB IB k) := ⟨_, rfl⟩
      rw [← hT] at hT1 hT2
      rw [← hT]
      have hc : ((k : Int) + 1) % 256 = (k : Int) + 1 := Int.emod_eq_of_lt (by omega) (by omega)
      have hcw := conv1 wr ((k : Int) + 1)
      have hcs : (strOfNums [(k : Int) + 1]).size = 1 := by rw [strOfNums_size]; rfl
      have hcb : bytesOf (strOfNums [(k : Int) + 1]) = [(k : Int) + 1] := bytesOf_strOfNums _ (fun x hx => by
        obtain rfl := List.mem_singleton.1 hx
        omega)
      obtain ⟨C, hC⟩ : ∃ C, C = strOfNums [(k : Int) + 1] := ⟨_, rfl⟩
      rw [← hC] at hcw hcs hcb
      have z1 : ¬ 9223372036854775807 < T.size + info.size := by omega
      have z2 : ¬ 9223372036854775807 < T.size + info.size + C.size := by omega
      have hsz : (T ++ info ++ C).size ≤ 800000 := by rw [ByteArray.size_append, ByteArray.size_append]; omega
      have hnx : strOfNums (hmac KB (bytesOf (T ++ info ++ C))) = strOfNums (expT KB IB (k + 1)) := by
        rw [bytesOf_append, bytesOf_append, hT2, hcb, ← HIB.out, expT, hc]
      have hT1s : (strOfNums (expT KB IB (k + 1))).size ≤ 32 := by rw [strOfNums_size, expT_length]; exact Nat.le_refl _
      have hcat : strOfNums (expB KB IB k) ++ strOfNums (expT KB IB (k + 1)) = strOfNums (expB KB IB (k + 1)) := by rw [← strOfNums_append]; rfl
      obtain ⟨T1, hT1'⟩ : ∃ T, T = strOfNums (expT KB IB (k + 1)) := ⟨_, rfl⟩
      obtain ⟨O, hO⟩ : ∃ O, O = strOfNums (expB KB IB k) := ⟨_, rfl⟩
      rw [← hT1'] at hT1s hcat hnx
      rw [← hO] at hcat hos
      rw [← hO]
      have hol : ((O.size : Int) < (m : Int)) := by omega
      have z3 : ¬ 9223372036854775807 < O.size + T1.size := by omega
      have HNX := Lib.hid hnx
      have HSZ := Lib.hid hsz
      have HI := Lib.hid hI
      have HCAT := Lib.hid hcat
      have HT1 := Lib.hid hT1'
      clear hT hT1 hT2 hts hc hcs hcb hC hnx hsz hI hcat hT1' hO hos
      go_wp2_with fail
      refine (refMac_any key _ (by omega) (by have := HSZ.out; omega) _).mono ?_
      rw [← HKB.out, HNX.out]
      rintro e W4 ⟨rfl, hb4⟩
      have HI4 := Lib.hid (HI.out.trans ((((Below.refl _ wr).alloc (Nat.le_refl _) _).trans (hb4.mono (by simp))).mono HI.out.size))
      clear hb4 hcw HI
      go_wp2_with fail
      go_roundg (gk - 1)
      case measure => omega
      case rel => exact ⟨k + 1, by omega, by rw [HCAT.out], by rw [HT1.out], by go_num, HI4.out⟩
    · obtain rfl : k = M := by omega
      have hHS := HS.out
      have hex := strOfNums_take (expB KB IB k) m
      obtain ⟨O, hO⟩ : ∃ O, O = strOfNums (expB KB IB k) := ⟨_, rfl⟩
      rw [← hO] at hos hex
      rw [← hex] at hHS
      rw [← hO]
      have HS := Lib.hid hHS
      have hol : ¬ ((O.size : Int) < (m : Int)) := by omega
      have hm0 : (0 : Int) ≤ (m : Int) := by omega
      have hmo : (m : Int) ≤ (O.size : Int) := by omega
      clear hos hex hHS hM hO hkM hM256 hlt hk
      go_wp2
      go_ret2
      rw [HS.out]
      exact ⟨rfl, hI⟩
theorem conv4 (W : World) (a b c d : Int) : (convert 50 9 (.slice (some ⟨W.heap.size, 0, none⟩) 4 4)).run Try.prog (W.alloc (.cells #[.int .u8 a, .int .u8 b, .int .u8 c, .int .u8 d] 5 (0, 0))) = .ok (.string (strOfNums [a, b, c, d])) (W.alloc (.cells #[.int .u8 a, .int .u8 b, .int .u8 c, .int .u8 d] 5 (0, 0))) :=
  run_convert_bytes_arg _ _ _ Try.underlying50 Try.underlying5 W.heap.size 0 4 4 [a, b, c, d] rfl (fun j hj => by
    rw [blk_cell (get_top rfl)]
    match j, hj with
    | 0, _ => rfl
    | 1, _ => rfl
    | 2, _ => rfl
    | 3, _ => rfl) _ Try.underlying9
theorem be4_small {k : Nat} (hk : k < 32) : be4 ((k : Int) + 1) = [((k : Int) + 1) / 16777216, ((k : Int) + 1) / 65536, ((k : Int) + 1) / 256, (k : Int) + 1] := by
  rw [be4, Int.emod_eq_of_lt (a := ((k : Int) + 1) / 16777216) (by omega) (by omega), Int.emod_eq_of_lt (a := ((k : Int) + 1) / 65536) (by omega) (by omega), Int.emod_eq_of_lt (a := ((k : Int) + 1) / 256) (by omega) (by omega), Int.emod_eq_of_lt (a := (k : Int) + 1) (by omega) (by omega)]
theorem bytesOf_get {s : ByteArray} {xs : List Int} (h : bytesOf s = xs) {i : Nat} (hi : i < s.size) : ((s[i]).toNat : Int) = xs.getD i 0 := by
  subst h
  rw [bytesOf, List.getD, List.getElem?_map]
  have : i < s.data.toList.length := by rw [Array.length_toList]; exact hi
  rw [List.getElem?_eq_getElem this]
  simp
  rfl
theorem set_part {Z X : List Int} {c : Nat} (hl : X.length = Z.length) (hc : c < Z.length) : (Z.take c ++ X.drop c).set c (Z.getD c 0) = Z.take (c + 1) ++ X.drop (c + 1) := by
  have h1 : (Z.take c).length = c := by simp; omega
  rw [List.set_append_right _ _ (by omega), h1, Nat.sub_self, List.drop_eq_getElem_cons (show c < X.length by omega), List.set_cons_zero, List.take_add_one, List.getElem?_eq_getElem hc, List.append_assoc]
  simp [List.getD, List.getElem?_eq_getElem hc]
theorem part_get {Z X : List Int} {c : Nat} (hl : X.length = Z.length) (hc : c < Z.length) : (Z.take c ++ X.drop c).getD c 0 = X.getD c 0 := by
  rw [List.getD, List.getElem?_append_right (by simp; omega), ← List.getD, List.length_take, Nat.min_eq_left (by omega), Nat.sub_self]
  simp [List.getD, List.getElem?_drop]
theorem zip_get {X U : List Int} {c : Nat} (hx : c < X.length) (hu : c < U.length) : (List.zipWith xr X U).getD c 0 = xr (X.getD c 0) (U.getD c 0) := by
  rw [List.getD, List.getElem?_eq_getElem (by simp; omega), Option.getD_some, List.getElem_zipWith]
  simp [List.getD, List.getElem?_eq_getElem hx, List.getElem?_eq_getElem hu]
theorem strU_str (K S : List Int) (i j : Nat) : (strOfNums (strU K S i j)).size = 32 ∧ bytesOf (strOfNums (strU K S i j)) = strU K S i j :=
  ⟨by rw [strOfNums_size, strU_length], bytesOf_strOfNums _ (strU_b K S i j)⟩
theorem StrI.start {w W : World} {g n : Nat} {Zi Zo : List Value} {ys xs : List Int} {v : Value} {U : ByteArray} (h : ExpI w g Zi Zo n ys v W) (hU : U.size = 32) (hx : bytesOf U = xs) :
    StrI w g Zi Zo n ys v W.heap.size (grownCap W 32 0 5) xs (Lib.bytesWorld W 5 U) := by
  have hr := Row.bytes W 5 U (by rw [hU]; unfold maxLen; omega)
  rw [← nums_bytesOf, hx, hU] at hr
  refine ⟨h.below (bytes_below W _ U), hr, h.l.bel.size, fun he => ?_⟩
  have := h.b.row.lt W.heap.size he.symm
  omega
set_option maxRecDepth 100000 in
set_option maxHeartbeats 6400000 in
theorem stretch_any (key salt : ByteArray) (rounds n : Int) (hk : key.size ≤ 100000) (hi : salt.size ≤ 100000) (w : World) :
    Calls Try.prog 37 #[.string key, .string salt, .int .i64 rounds, .int .i64 n] w fun e w' => e = .returned (.tuple #[.string (stretchSpec key salt rounds n).1, .int .i64 (stretchSpec key salt rounds n).2]) ∧ Below w.heap.size w w' := by
  by_cases hbad : rounds < 1 ∨ 1000 < rounds ∨ n < 0 ∨ 1024 < n
  · have HS := Lib.hid (show stretchSpec key salt rounds n = (⟨#[]⟩, 1) by rw [stretchSpec, if_pos hbad])
    by_cases b1 : rounds < 1
    · clear hbad
      go_enter Try.func37, Try.ntmps37
      go_wp2
      go_ret2
      rw [HS.out]
      exact ⟨rfl, Below.refl _ _⟩
    by_cases b2 : 1000 < rounds
    · clear hbad
      go_enter Try.func37, Try.ntmps37
      go_wp2
      go_ret2
      rw [HS.out]
      exact ⟨rfl, Below.refl _ _⟩
    by_cases b3 : n < 0
    · clear hbad
      go_enter Try.func37, Try.ntmps37
      go_wp2
      go_ret2
      rw [HS.out]
      exact ⟨rfl, Below.refl _ _⟩
    · have b4 : 1024 < n := by omega
      clear hbad
      go_enter Try.func37, Try.ntmps37
      go_wp2
      go_ret2
      rw [HS.out]
      exact ⟨rfl, Below.refl _ _⟩
  obtain ⟨m, rfl⟩ := Int.eq_ofNat_of_zero_le (show 0 ≤ n by omega)
  obtain ⟨q, rfl⟩ : ∃ q : Nat, rounds = (q : Int) + 1 := ⟨(rounds - 1).toNat, by omega⟩
  have HS := Lib.hid (show stretchSpec key salt ((q : Int) + 1) (m : Int) = (strOfNums ((strB (bytesOf key) (bytesOf salt) (q + 1) ((m + 31) / 32)).take m), 0) by rw [stretchSpec, if_neg (by omega), Int.toNat_natCast, show ((q : Int) + 1).toNat = q + 1 by omega])
  have hm : m ≤ 1024 := by omega
  have hq : q ≤ 999 := by omega
  have hum := Try.underlying112
  have HUM := Lib.hid hum
  clear hum hbad
  go_enter Try.func37, Try.ntmps37
  go_wp2_with fail
  refine (pads_any key (by omega) w).mono ?_
  rintro e W1 ⟨Zi, Zo, rfl, hzi, hzo, hb1⟩
  obtain ⟨KB, hKB⟩ : ∃ K, K = bytesOf key := ⟨_, rfl⟩
  rw [← hKB] at hzi hzo HS
  have HKB := Lib.hid hKB
  have HZI := Lib.hid hzi
  have HZO := Lib.hid hzo
  have HB1 := Lib.hid hb1
  have HIM := Lib.hid (show (Try.prog.info? 112).map (·.size) = some Zi.length by rw [infoMix, hzi.length])
  have HOM := Lib.hid (show (Try.prog.info? 112).map (·.size) = some Zo.length by rw [infoMix, hzo.length])
  have HBO := Lib.hid (fun (s : ByteArray) (hs : s.size ≤ 800000) W => both_any Zi Zo (ipad KB) (opad KB) s hzi hzo (by rw [ipad_length]; omega) (by rw [opad_length]; omega) (by omega) W)
  clear hzi hzo hb1 hKB
  go_wp2_with (first | (refine wpList_alloc_known (by rfl) 112 (by rfl) mix0.toArray (mix0_zero _) ?_) | (refine wpList_store_part (by rfl) 112 (.tmp 10) (.tmp 34) (by rfl) W1.heap.size 0 Zi mix0 112 (by rfl) (by rfl) (get_below (get_top rfl)) (by rw [HZI.out.length]; exact Nat.le_refl _) HIM.out HZI.out.one ?_; intro W2 hW2 hK2; have HL1 := Lib.hid (laid1 HZI.out HB1.out hW2 hK2); clear hW2 hK2) | (refine wpList_store_part (by rfl) 112 (.tmp 11) (.tmp 35) (by rfl) (W1.heap.size + 1) 0 Zo mix0 112 (by first | rfl | simp [go_sem]) (by rfl) HL1.out.h2 (by rw [HZO.out.length]; exact Nat.le_refl _) HOM.out HZO.out.one ?_; intro W3 hW3 hK3; have HL2 := Lib.hid (laid2 HZO.out HL1.out hW3 hK3); clear hW3 hK3))
  obtain ⟨g, hg⟩ : ∃ g, g = W1.heap.size := ⟨_, rfl⟩
  rw [← hg] at HL2
  rw [← hg]
  clear hg HL1 HB1
  obtain ⟨SB, hSB⟩ : ∃ I, I = bytesOf salt := ⟨_, rfl⟩
  rw [← hSB] at HS
  have HSB := Lib.hid hSB
  clear hSB
  obtain ⟨M, hM⟩ : ∃ M, M = (m + 31) / 32 := ⟨_, rfl⟩
  rw [← hM] at HS
  have HE0 := Lib.hid (show ExpI w g Zi Zo 0 [] (.slice none 0 0) W3 from ⟨HL2.out, Loc.nil HL2.out.bel _ _⟩)
  clear HL2
  go_loopg [12, 13] M (fun j b i wr => ∃ (k : Nat) (v : Value), j + k = M ∧ v = b ∧ i = .int .i64 ((k : Int) + 1) ∧ ExpI w g Zi Zo (32 * k) (strB KB SB (q + 1) k) v wr)
  case atStart => exact ⟨0, _, rfl, rfl, rfl, HE0.out⟩
  case round =>
    clear HE0
    obtain ⟨k, v, hk, rfl, rfl, hI⟩ := hrel
    obtain ⟨L, hL⟩ : ∃ L, L = 32 * k := ⟨_, rfl⟩
    rw [← hL] at hI
    obtain ⟨ao, cap, rfl, hcap⟩ := hI.b.row.form
    have hkM : k ≤ M := by omega
    have hM32 : M ≤ 32 := by omega
    by_cases hlt : k < M
    · have hLm : L < m := by omega
      have hlt1 : ((L : Int) < (m : Int)) := by omega
      have hk32 : k < 32 := by omega
      have hcw := conv4 wr (((k : Int) + 1) / 16777216) (((k : Int) + 1) / 65536) (((k : Int) + 1) / 256) ((k : Int) + 1)
      have hbe := be4_small hk32
      rw [← hbe] at hcw
      have hcs : (strOfNums (be4 ((k : Int) + 1))).size = 4 := by rw [strOfNums_size]; rfl
      have hcb : bytesOf (strOfNums (be4 ((k : Int) + 1))) = be4 ((k : Int) + 1) := bytesOf_strOfNums _ (be4_b _)
      obtain ⟨C, hC⟩ : ∃ C, C = strOfNums (be4 ((k : Int) + 1)) := ⟨_, rfl⟩
      rw [← hC] at hcw hcs hcb
      have z1 : ¬ 9223372036854775807 < salt.size + C.size := by omega
      have hsz : (salt ++ C).size ≤ 800000 := by rw [ByteArray.size_append]; omega
      have hnx : strOfNums (sha (opad KB ++ sha (ipad KB ++ bytesOf (salt ++ C)))) = strOfNums (strU KB SB (k + 1) 0) := by
        rw [bytesOf_append, hcb, ← HSB.out, strU, hmac]
        rfl
      have HNX := Lib.hid hnx
      have HSZ := Lib.hid hsz
      have HI := Lib.hid hI
      have HL := Lib.hid hL
      clear hI hL hLm hbe hcs hcb hC hnx hsz
      go_wp2_with (first | (refine wpList_load_row (by rfl) 112 (.tmp 10) (by rfl) g (by rfl) 112 Zi.toArray (0, 0) _ HI.out.l.h1 HUM.out rfl (by simpa using HIM.out) ?_) | (refine wpList_load_row (by rfl) 112 (.tmp 11) (by rfl) (g + 1) (by rfl) 112 Zo.toArray (0, 0) _ HI.out.l.h2 HUM.out rfl (by simpa using HOM.out) ?_))
      refine (HBO.out _ HSZ.out _).mono ?_
      rw [HNX.out]
      rintro e W4 ⟨rfl, hb4⟩
      have HI4 := Lib.hid (HI.out.below (((Below.refl _ wr).alloc (Nat.le_refl _) _).trans (hb4.mono (by simp))))
      obtain ⟨hu1, hu2⟩ := strU_str KB SB (k + 1) 0
      obtain ⟨U, hU⟩ : ∃ U, U = strOfNums (strU KB SB (k + 1) 0) := ⟨_, rfl⟩
      rw [← hU] at hu1 hu2
      rw [← hU]
      have hcv : (convert 9 50 (.string U)).run Try.prog W4 = .ok (.slice (some ⟨W4.heap.size, 0, none⟩) U.size (grownCap W4 U.size 0 5)) (Lib.bytesWorld W4 5 U) := Lib.run_convert_string_bytes (P := Try.prog) W4 9 50 5 U Try.underlying9 Try.underlying50 Try.underlying5
      rw [hu1] at hcv
      have hS0 := StrI.start HI4.out hu1 (show bytesOf U = strX KB SB (k + 1) 0 from hu2)
      obtain ⟨W5, hW5⟩ : ∃ W, W = Lib.bytesWorld W4 5 U := ⟨_, rfl⟩
      obtain ⟨ct, hct⟩ : ∃ c, c = grownCap W4 32 0 5 := ⟨_, rfl⟩
      rw [← hW5, ← hct] at hcv hS0
      obtain ⟨gt, hgt⟩ : ∃ g, g = W4.heap.size := ⟨_, rfl⟩
      rw [← hgt] at hcv hS0
      have HS0 := Lib.hid hS0
      have HU := Lib.hid hU
      clear hb4 hcw HI hu1 hu2 hU hW5 hct hgt hS0 HI4 HSZ HNX
      go_wp2_with fail
      go_loopg [14, 64] q (fun j2 u i wr => ∃ (j : Nat), j2 + j = q ∧ u = .string (strOfNums (strU KB SB (k + 1) j)) ∧ i = .int .i64 (j : Int) ∧ StrI w g Zi Zo L (strB KB SB (q + 1) k) (.slice ao L cap) gt ct (strX KB SB (k + 1) j) wr)
      case atStart => exact ⟨0, rfl, by rw [HU.out], rfl, HS0.out⟩
      case round =>
        clear HS0 hcv
        obtain ⟨j, hj, rfl, rfl, hI⟩ := hrel
        by_cases hjq : j < q
        · obtain ⟨hu1, hu2⟩ := strU_str KB SB (k + 1) j
          have hnx : strOfNums (sha (opad KB ++ sha (ipad KB ++ bytesOf (strOfNums (strU KB SB (k + 1) j))))) = strOfNums (strU KB SB (k + 1) (j + 1)) := by
            rw [hu2, strU, hmac]
          obtain ⟨U2, hU2⟩ : ∃ U, U = strOfNums (strU KB SB (k + 1) j) := ⟨_, rfl⟩
          rw [← hU2] at hu1 hnx
          rw [← hU2]
          have HU1 := Lib.hid hu1
          have HNX := Lib.hid hnx
          have HI := Lib.hid hI
          clear hu1 hu2 hnx hI hU2
          go_wp2_with (first | (refine wpList_load_row (by rfl) 112 (.tmp 10) (by rfl) g (by rfl) 112 Zi.toArray (0, 0) _ HI.out.e.l.h1 HUM.out rfl (by simpa using HIM.out) ?_) | (refine wpList_load_row (by rfl) 112 (.tmp 11) (by rfl) (g + 1) (by rfl) 112 Zo.toArray (0, 0) _ HI.out.e.l.h2 HUM.out rfl (by simpa using HOM.out) ?_))
          refine (HBO.out _ (by rw [HU1.out]; omega) _).mono ?_
          rw [HNX.out]
          rintro e W6 ⟨rfl, hb6⟩
          have HI6 := Lib.hid (HI.out.below hb6)
          obtain ⟨hu1, hu2⟩ := strU_str KB SB (k + 1) (j + 1)
          obtain ⟨U3, hU3⟩ : ∃ U, U = strOfNums (strU KB SB (k + 1) (j + 1)) := ⟨_, rfl⟩
          rw [← hU3] at hu1 hu2
          rw [← hU3]
          have hul := strU_length KB SB (k + 1) (j + 1)
          have hub := strU_b KB SB (k + 1) (j + 1)
          have hxl := strX_length KB SB (k + 1) j
          have hxb := strX_b KB SB (k + 1) j
          have hzz : strX KB SB (k + 1) (j + 1) = List.zipWith xr (strX KB SB (k + 1) j) (strU KB SB (k + 1) (j + 1)) := rfl
          obtain ⟨V, hV⟩ : ∃ V, V = strU KB SB (k + 1) (j + 1) := ⟨_, rfl⟩
          obtain ⟨X, hX⟩ : ∃ X, X = strX KB SB (k + 1) j := ⟨_, rfl⟩
          rw [← hV] at hu2 hul hub hzz
          rw [← hX] at hxl hxb hzz HI6
          have HUL := Lib.hid hul
          have HUB := Lib.hid hub
          have HXL := Lib.hid hxl
          have HXB := Lib.hid hxb
          have HZZ := Lib.hid hzz
          have HU3 := Lib.hid hU3
          have HV3 := Lib.hid hu2
          have HU3S := Lib.hid hu1
          have hZl : (List.zipWith xr X V).length = 32 := by rw [List.length_zipWith, hxl, hul]; rfl
          obtain ⟨Z, hZ⟩ : ∃ Z, Z = List.zipWith xr X V := ⟨_, rfl⟩
          rw [← hZ] at hZl
          have HZ := Lib.hid hZ
          have HZL := Lib.hid hZl
          clear hb6 hu1 hu2 hU3 hul hub hxl hxb hzz hV hX HI HNX HU1 hZ hZl
          go_wp2_with fail
          go_loopg [72] 32 (fun j2 i wr => ∃ (c : Nat), j2 + c = 32 ∧ i = .int .i64 (c : Int) ∧ StrI w g Zi Zo L (strB KB SB (q + 1) k) (.slice ao L cap) gt ct (Z.take c ++ X.drop c) wr)
          case atStart => exact ⟨0, rfl, rfl, by simpa using HI6.out⟩
          case round =>
            clear HI6
            obtain ⟨c, hc, rfl, hI⟩ := hrel
            by_cases hc32 : c < 32
            · have hlen : (Z.take c ++ X.drop c).length = 32 := by simp [HZL.out, HXL.out]; omega
              have kx : wr.cell? ⟨gt, c, none⟩ = some (.int .u8 (X.getD c 0)) := by
                refine hI.t.cells c _ ?_
                rw [nums, List.getElem?_map, List.getElem?_eq_getElem (by omega)]
                have := part_get (Z := Z) (X := X) (c := c) (by rw [HXL.out, HZL.out]) (by rw [HZL.out]; exact hc32)
                rw [List.getD, List.getElem?_eq_getElem (by omega), Option.getD_some] at this
                rw [this]
                rfl
              have kf := hI.t.free hc32
              have hzg := zip_get (X := X) (U := V) (c := c) (by rw [HXL.out]; exact hc32) (by rw [HUL.out]; exact hc32)
              rw [← HZ.out] at hzg
              have hxx := HXB.out.get c
              have hvv := HUB.out.get c
              have hcu : c < U3.size := by rw [HU3S.out]; exact hc32
              have hgu := bytesOf_get HV3.out hcu
              have hput := fun y => hI.put c y
              have hset := set_part (Z := Z) (X := X) (c := c) (by rw [HXL.out, HZL.out]) (by rw [HZL.out]; exact hc32)
              obtain ⟨x, hx⟩ : ∃ x, x = X.getD c 0 := ⟨_, rfl⟩
              obtain ⟨y, hy⟩ : ∃ x, x = V.getD c 0 := ⟨_, rfl⟩
              rw [← hx] at kx hzg hxx
              rw [← hy] at hgu hzg hvv
              obtain ⟨z, e1⟩ : ∃ z, bits .xor .u8 x y = z := ⟨_, rfl⟩
              have hzz : z = Z.getD c 0 := by rw [← e1, xor_u8 hxx hvv, hzg]
              have hp := hput z
              rw [hzz, hset, ← hzz] at hp
              have HP := Lib.hid hp
              have q5 : (c : Int) < 32 := by omega
              have q7 : (0 : Int) ≤ (c : Int) := by omega
              clear hlen hzg hxx hvv hput hset hx hy hzz hp hI
              go_wp2_with fail
              go_still_tail 9, (by kernel_rfl)
              change wpList _ _ _ _ _ wr.drew
              go_wp2_with fail
              go_roundg (gk - 1)
              case measure => omega
              case rel => exact ⟨c + 1, by omega, by go_num, HP.out.drew⟩
            · obtain rfl : c = 32 := by omega
              have hfin := hI
              rw [List.take_of_length_le (by rw [HZL.out]; exact Nat.le_refl _), List.drop_of_length_le (by rw [HXL.out]; exact Nat.le_refl _), List.append_nil, HZ.out, ← HZZ.out] at hfin
              have HF := Lib.hid hfin
              clear hI hfin hc hc32
              go_wp2_with fail
              go_roundg (q - (j + 1))
              case measure => omega
              case rel => exact ⟨j + 1, by omega, by rw [HU3.out], by go_num, HF.out⟩
        · obtain rfl : j = q := by omega
          have HI := Lib.hid hI
          obtain ⟨i0, hi, hz0, hz1, hz2⟩ := info_parts infoByte
          have HII := Lib.hid hi
          have HZ0 := Lib.hid hz0
          have HZ1 := Lib.hid hz1
          have HZ2 := Lib.hid hz2
          have hL8 : L ≤ 1024 := by have := HL.out; omega
          have hcat : strB KB SB (j + 1) k ++ strX KB SB (k + 1) j = strB KB SB (j + 1) (k + 1) := rfl
          have HCAT := Lib.hid hcat
          clear hI hi hz0 hz1 hz2 hcat hj hjq
          go_wp2_with (refine wpList_append_row _ (by rfl) _ _ _ _ (by rfl) 5 i0 (.int .u8 0) 1 1 Try.underlying50 HII.out HZ0.out HZ1.out HZ2.out rfl (by omega) _ _ _ (by rfl) HI.out.e.b.row _ (by rfl) 32 _ (Feeds.row Try.underlying50 HI.out.t (nums_one _)) (by unfold maxLen; omega) (by omega) wr.heap.size rfl ?_; intro ao5 cap5 w5 hown5 hgrow5 hat5; have HI5 := Lib.hid (HI.out.e.grow (Below.refl _ _) hown5 rfl hgrow5 hat5 (Nat.le_refl _)); rw [HCAT.out] at HI5; clear hown5 hgrow5 hat5)
          have e9 : L + 32 = 32 * (k + 1) := by rw [HL.out]; omega
          have HI6 := Lib.hid (show ExpI w g Zi Zo (32 * (k + 1)) (strB KB SB (j + 1) (k + 1)) (.slice ao5 (L + 32) cap5) w5 by rw [← e9]; exact HI5.out)
          clear e9 HI5 HI
          go_roundg (M - (k + 1))
          case measure => omega
          case rel => exact ⟨k + 1, _, by omega, rfl, by go_num, HI6.out⟩
    · obtain rfl : k = M := by omega
      have hmL : m ≤ L := by omega
      have hlt1 : ¬ ((L : Int) < (m : Int)) := by omega
      have hxl := strB_length KB SB (q + 1) k
      have hHS := HS.out
      obtain ⟨xs, hxs⟩ : ∃ xs, xs = strB KB SB (q + 1) k := ⟨_, rfl⟩
      rw [← hxs] at hI hxl hHS
      have HS := Lib.hid hHS
      have HBEL := Lib.hid hI.l.bel
      rcases hI.b.row.2 with ⟨he, hL0⟩ | ⟨gb, cap', cur, lo, hi, he, _⟩
      · simp at he
        obtain ⟨rfl, rfl, rfl⟩ := he
        obtain rfl : m = 0 := by omega
        have hcv := run_convert_bytes_nil (P := Try.prog) wr 50 5 Try.underlying50 Try.underlying5 0 0 9 Try.underlying9
        clear hI hL hM hHS hxl hxs hk hlt hkM hM32
        go_wp2
        go_ret2
        have hs := HS.out
        rw [show ((0 : Nat) : Int) = 0 from rfl] at hs
        rw [hs]
        exact ⟨rfl, HBEL.out⟩
      · simp at he
        obtain ⟨rfl, rfl⟩ := he
        have hmc : (m : Int) ≤ (cap : Int) := by omega
        have hm0 : (0 : Int) ≤ (m : Int) := by omega
        have hcv : (convert 50 9 (.slice (some ⟨gb, 0, none⟩) m cap)).run Try.prog wr = .ok (.string (strOfNums (xs.take m))) wr :=
          run_convert_bytes_arg wr _ _ Try.underlying50 Try.underlying5 gb 0 m cap (xs.take m) (by rw [List.length_take]; omega) (fun j hj => by
            rw [Nat.zero_add]
            refine hI.b.row.cells j _ ?_
            simp [nums, List.getD, List.getElem?_take, show j < m by omega, List.getElem?_eq_getElem (show j < xs.length by omega)]) _ Try.underlying9
        clear hI hL hM hHS hxl hxs hk hlt hkM hM32
        go_wp2
        go_ret2
        rw [HS.out]
        exact ⟨rfl, HBEL.out⟩
theorem RStI.start {w W : World} {xs : List Int} {U : ByteArray} (h : Below w.heap.size w W) (hU : U.size = 32) (hx : bytesOf U = xs) : RStI w W.heap.size (grownCap W 32 0 5) xs (Lib.bytesWorld W 5 U) := by
  have hr := Row.bytes W 5 U (by rw [hU]; unfold maxLen; omega)
  rw [← nums_bytesOf, hx, hU] at hr
  exact ⟨h.trans ((bytes_below W _ U).mono h.size), hr, h.size⟩
set_option maxRecDepth 100000 in
set_option maxHeartbeats 6400000 in
theorem refStretch_any (key salt : ByteArray) (rounds n : Int) (hk : key.size ≤ 100000) (hi : salt.size ≤ 100000) (w : World) :
    Calls Try.prog 38 #[.string key, .string salt, .int .i64 rounds, .int .i64 n] w fun e w' => e = .returned (.tuple #[.string (stretchSpec key salt rounds n).1, .int .i64 (stretchSpec key salt rounds n).2]) ∧ Below w.heap.size w w' := by
  by_cases hbad : rounds < 1 ∨ 1000 < rounds ∨ n < 0 ∨ 1024 < n
  · have HS := Lib.hid (show stretchSpec key salt rounds n = (⟨#[]⟩, 1) by rw [stretchSpec, if_pos hbad])
    by_cases b1 : rounds < 1
    · clear hbad
      go_enter Try.func38, Try.ntmps38
      go_wp2
      go_ret2
      rw [HS.out]
      exact ⟨rfl, Below.refl _ _⟩
    by_cases b2 : 1000 < rounds
    · clear hbad
      go_enter Try.func38, Try.ntmps38
      go_wp2
      go_ret2
      rw [HS.out]
      exact ⟨rfl, Below.refl _ _⟩
    by_cases b3 : n < 0
    · clear hbad
      go_enter Try.func38, Try.ntmps38
      go_wp2
      go_ret2
      rw [HS.out]
      exact ⟨rfl, Below.refl _ _⟩
    · have b4 : 1024 < n := by omega
      clear hbad
      go_enter Try.func38, Try.ntmps38
      go_wp2
      go_ret2
      rw [HS.out]
      exact ⟨rfl, Below.refl _ _⟩
  obtain ⟨m, rfl⟩ := Int.eq_ofNat_of_zero_le (show 0 ≤ n by omega)
  obtain ⟨q, rfl⟩ : ∃ q : Nat, rounds = (q : Int) + 1 := ⟨(rounds - 1).toNat, by omega⟩
  have HS := Lib.hid (show stretchSpec key salt ((q : Int) + 1) (m : Int) = (strOfNums ((strB (bytesOf key) (bytesOf salt) (q + 1) ((m + 31) / 32)).take m), 0) by rw [stretchSpec, if_neg (by omega), Int.toNat_natCast, show ((q : Int) + 1).toNat = q + 1 by omega])
  have hm : m ≤ 1024 := by omega
  have hq : q ≤ 999 := by omega
  obtain ⟨KB, hKB⟩ : ∃ K, K = bytesOf key := ⟨_, rfl⟩
  obtain ⟨SB, hSB⟩ : ∃ I, I = bytesOf salt := ⟨_, rfl⟩
  rw [← hSB, ← hKB] at HS
  have HKB := Lib.hid hKB
  have HSB := Lib.hid hSB
  obtain ⟨M, hM⟩ : ∃ M, M = (m + 31) / 32 := ⟨_, rfl⟩
  rw [← hM] at HS
  clear hKB hSB hbad
  go_enter Try.func38, Try.ntmps38
  go_wp2_with fail
  go_loopg [10, 11] M (fun j o i wr => ∃ (k : Nat), j + k = M ∧ o = .string (strOfNums (strB KB SB (q + 1) k)) ∧ i = .int .i64 ((k : Int) + 1) ∧ Below w.heap.size w wr)
  case atStart => exact ⟨0, rfl, rfl, rfl, Below.refl _ _⟩
  case round =>
    obtain ⟨k, hk, rfl, rfl, hI⟩ := hrel
    have hkM : k ≤ M := by omega
    have hM32 : M ≤ 32 := by omega
    have hos : (strOfNums (strB KB SB (q + 1) k)).size = 32 * k := by rw [strOfNums_size, strB_length]
    by_cases hlt : k < M
    · have hk32 : k < 32 := by omega
      obtain ⟨O, hO⟩ : ∃ O, O = strOfNums (strB KB SB (q + 1) k) := ⟨_, rfl⟩
      rw [← hO] at hos
      rw [← hO]
      have hol : ((O.size : Int) < (m : Int)) := by omega
      have hO32 : O.size ≤ 1024 := by omega
      have HO := Lib.hid hO
      have hcw := conv4 wr 0 0 (((k : Int) + 1) / 256) ((k : Int) + 1)
      have hbe := be4_small hk32
      rw [show ((k : Int) + 1) / 16777216 = 0 by omega, show ((k : Int) + 1) / 65536 = 0 by omega] at hbe
      rw [← hbe] at hcw
      have hm255 : bits .and .i64 ((k : Int) + 1) 255 = (k : Int) + 1 := by
        have h := bits_mask .i64 63 (by decide) wraps_i64 8 (by decide) ((k : Int) + 1) (by omega) (by omega)
        rw [show ((2 : Int) ^ 8 - 1) = 255 from rfl, show ((2 : Int) ^ 8) = 256 from rfl, Int.emod_eq_of_lt (by omega) (by omega)] at h
        exact h
      have hcs : (strOfNums (be4 ((k : Int) + 1))).size = 4 := by rw [strOfNums_size]; rfl
      have hcb : bytesOf (strOfNums (be4 ((k : Int) + 1))) = be4 ((k : Int) + 1) := bytesOf_strOfNums _ (be4_b _)
      obtain ⟨C, hC⟩ : ∃ C, C = strOfNums (be4 ((k : Int) + 1)) := ⟨_, rfl⟩
      rw [← hC] at hcw hcs hcb
      have z1 : ¬ 9223372036854775807 < salt.size + C.size := by omega
      have hsz : (salt ++ C).size ≤ 800000 := by rw [ByteArray.size_append]; omega
      have hnx : strOfNums (hmac KB (bytesOf (salt ++ C))) = strOfNums (strU KB SB (k + 1) 0) := by
        rw [bytesOf_append, hcb, ← HSB.out, strU]
        rfl
      have HNX := Lib.hid hnx
      have HSZ := Lib.hid hsz
      have HI := Lib.hid hI
      clear hI hbe hcs hcb hC hnx hsz hO hos
      go_wp2_with fail
      refine (refMac_any key _ (by omega) (by have := HSZ.out; omega) _).mono ?_
      rw [← HKB.out, HNX.out]
      rintro e W4 ⟨rfl, hb4⟩
      have HI4 := Lib.hid (HI.out.trans ((((Below.refl _ wr).alloc (Nat.le_refl _) _).trans (hb4.mono (by simp))).mono HI.out.size))
      obtain ⟨hu1, hu2⟩ := strU_str KB SB (k + 1) 0
      obtain ⟨U, hU⟩ : ∃ U, U = strOfNums (strU KB SB (k + 1) 0) := ⟨_, rfl⟩
      rw [← hU] at hu1 hu2
      rw [← hU]
      have hcv : (convert 9 50 (.string U)).run Try.prog W4 = .ok (.slice (some ⟨W4.heap.size, 0, none⟩) U.size (grownCap W4 U.size 0 5)) (Lib.bytesWorld W4 5 U) := Lib.run_convert_string_bytes (P := Try.prog) W4 9 50 5 U Try.underlying9 Try.underlying50 Try.underlying5
      rw [hu1] at hcv
      have hS0 := RStI.start HI4.out hu1 (show bytesOf U = strX KB SB (k + 1) 0 from hu2)
      obtain ⟨W5, hW5⟩ : ∃ W, W = Lib.bytesWorld W4 5 U := ⟨_, rfl⟩
      obtain ⟨ct, hct⟩ : ∃ c, c = grownCap W4 32 0 5 := ⟨_, rfl⟩
      rw [← hW5, ← hct] at hcv hS0
      obtain ⟨gt, hgt⟩ : ∃ g, g = W4.heap.size := ⟨_, rfl⟩
      rw [← hgt] at hcv hS0
      have HS0 := Lib.hid hS0
      have HU := Lib.hid hU
      clear hb4 hcw HI hu1 hu2 hU hW5 hct hgt hS0 HI4 HSZ HNX hm255 z1
      go_wp2_with fail
      go_loopg [12, 14] q (fun j2 u i wr => ∃ (j : Nat), j2 + j = q ∧ u = .string (strOfNums (strU KB SB (k + 1) j)) ∧ i = .int .i64 ((j : Int) + 1) ∧ RStI w gt ct (strX KB SB (k + 1) j) wr)
      case atStart => exact ⟨0, rfl, by rw [HU.out], rfl, HS0.out⟩
      case round =>
        clear HS0 hcv
        obtain ⟨j, hj, rfl, rfl, hI⟩ := hrel
        by_cases hjq : j < q
        · obtain ⟨hu1, hu2⟩ := strU_str KB SB (k + 1) j
          have hnx : strOfNums (hmac KB (bytesOf (strOfNums (strU KB SB (k + 1) j)))) = strOfNums (strU KB SB (k + 1) (j + 1)) := by
            rw [hu2, strU]
          obtain ⟨U2, hU2⟩ : ∃ U, U = strOfNums (strU KB SB (k + 1) j) := ⟨_, rfl⟩
          rw [← hU2] at hu1 hnx
          rw [← hU2]
          have HU1 := Lib.hid hu1
          have HNX := Lib.hid hnx
          have HI := Lib.hid hI
          clear hu1 hu2 hnx hI hU2
          go_wp2_with fail
          refine (refMac_any key _ (by omega) (by rw [HU1.out]; omega) _).mono ?_
          rw [← HKB.out, HNX.out]
          rintro e W6 ⟨rfl, hb6⟩
          have HI6 := Lib.hid (HI.out.below hb6)
          obtain ⟨hu1, hu2⟩ := strU_str KB SB (k + 1) (j + 1)
          obtain ⟨U3, hU3⟩ : ∃ U, U = strOfNums (strU KB SB (k + 1) (j + 1)) := ⟨_, rfl⟩
          rw [← hU3] at hu1 hu2
          rw [← hU3]
          have hul := strU_length KB SB (k + 1) (j + 1)
          have hub := strU_b KB SB (k + 1) (j + 1)
          have hxl := strX_length KB SB (k + 1) j
          have hxb := strX_b KB SB (k + 1) j
          have hzz : strX KB SB (k + 1) (j + 1) = List.zipWith xr (strX KB SB (k + 1) j) (strU KB SB (k + 1) (j + 1)) := rfl
          obtain ⟨V, hV⟩ : ∃ V, V = strU KB SB (k + 1) (j + 1) := ⟨_, rfl⟩
          obtain ⟨X, hX⟩ : ∃ X, X = strX KB SB (k + 1) j := ⟨_, rfl⟩
          rw [← hV] at hu2 hul hub hzz
          rw [← hX] at hxl hxb hzz HI6
          have HUL := Lib.hid hul
          have HUB := Lib.hid hub
          have HXL := Lib.hid hxl
          have HXB := Lib.hid hxb
          have HZZ := Lib.hid hzz
          have HU3 := Lib.hid hU3
          have HV3 := Lib.hid hu2
          have HU3S := Lib.hid hu1
          have hZl : (List.zipWith xr X V).length = 32 := by rw [List.length_zipWith, hxl, hul]; rfl
          obtain ⟨Z, hZ⟩ : ∃ Z, Z = List.zipWith xr X V := ⟨_, rfl⟩
          rw [← hZ] at hZl
          have HZ := Lib.hid hZ
          have HZL := Lib.hid hZl
          clear hb6 hu1 hu2 hU3 hul hub hxl hxb hzz hV hX HI HNX HU1 hZ hZl
          go_wp2_with fail
          go_loopg [15] 32 (fun j2 i wr => ∃ (c : Nat), j2 + c = 32 ∧ i = .int .i64 (c : Int) ∧ RStI w gt ct (Z.take c ++ X.drop c) wr)
          case atStart => exact ⟨0, rfl, rfl, by simpa using HI6.out⟩
          case round =>
            clear HI6
            obtain ⟨c, hc, rfl, hI⟩ := hrel
            by_cases hc32 : c < 32
            · have hlen : (Z.take c ++ X.drop c).length = 32 := by simp [HZL.out, HXL.out]; omega
              have kx : wr.cell? ⟨gt, c, none⟩ = some (.int .u8 (X.getD c 0)) := by
                refine hI.t.cells c _ ?_
                rw [nums, List.getElem?_map, List.getElem?_eq_getElem (by omega)]
                have := part_get (Z := Z) (X := X) (c := c) (by rw [HXL.out, HZL.out]) (by rw [HZL.out]; exact hc32)
                rw [List.getD, List.getElem?_eq_getElem (by omega), Option.getD_some] at this
                rw [this]
                rfl
              have kf := hI.t.free hc32
              have hzg := zip_get (X := X) (U := V) (c := c) (by rw [HXL.out]; exact hc32) (by rw [HUL.out]; exact hc32)
              rw [← HZ.out] at hzg
              have hxx := HXB.out.get c
              have hvv := HUB.out.get c
              have hcu : c < U3.size := by rw [HU3S.out]; exact hc32
              have hgu := bytesOf_get HV3.out hcu
              have hput := fun y => hI.put c y
              have hset := set_part (Z := Z) (X := X) (c := c) (by rw [HXL.out, HZL.out]) (by rw [HZL.out]; exact hc32)
              obtain ⟨x, hx⟩ : ∃ x, x = X.getD c 0 := ⟨_, rfl⟩
              obtain ⟨y, hy⟩ : ∃ x, x = V.getD c 0 := ⟨_, rfl⟩
              rw [← hx] at kx hzg hxx
              rw [← hy] at hgu hzg hvv
              obtain ⟨z, e1⟩ : ∃ z, bits .xor .u8 x y = z := ⟨_, rfl⟩
              have hzz : z = Z.getD c 0 := by rw [← e1, xor_u8 hxx hvv, hzg]
              have hp := hput z
              rw [hzz, hset, ← hzz] at hp
              have HP := Lib.hid hp
              have q5 : (c : Int) < 32 := by omega
              have q7 : (0 : Int) ≤ (c : Int) := by omega
              clear hlen hzg hxx hvv hput hset hx hy hzz hp hI
              go_wp2_with fail
              go_still_tail 11, (by kernel_rfl)
              change wpList _ _ _ _ _ wr.drew
              go_wp2_with fail
              go_roundg (gk - 1)
              case measure => omega
              case rel => exact ⟨c + 1, by omega, by go_num, HP.out.drew⟩
            · obtain rfl : c = 32 := by omega
              have hfin := hI
              rw [List.take_of_length_le (by rw [HZL.out]; exact Nat.le_refl _), List.drop_of_length_le (by rw [HXL.out]; exact Nat.le_refl _), List.append_nil, HZ.out, ← HZZ.out] at hfin
              have HF := Lib.hid hfin
              clear hI hfin hc hc32
              go_wp2_with fail
              go_roundg (q - (j + 1))
              case measure => omega
              case rel => exact ⟨j + 1, by omega, by rw [HU3.out], by go_num, HF.out⟩
        · obtain rfl : j = q := by omega
          have hcs := row_string (P := Try.prog) Try.underlying50 Try.underlying5 Try.underlying9 hI.t
          have hxs : (strOfNums (strX KB SB (k + 1) j)).size = 32 := by rw [strOfNums_size, strX_length]
          have hcat : O ++ strOfNums (strX KB SB (k + 1) j) = strOfNums (strB KB SB (j + 1) (k + 1)) := by rw [HO.out, ← strOfNums_append]; rfl
          obtain ⟨Y, hY⟩ : ∃ Y, Y = strOfNums (strX KB SB (k + 1) j) := ⟨_, rfl⟩
          rw [← hY] at hcs hxs hcat
          have z2 : ¬ 9223372036854775807 < O.size + Y.size := by omega
          have HCAT := Lib.hid hcat
          have HB := Lib.hid hI.bel
          clear hI hcat hY hxs hj hjq
          go_wp2_with fail
          go_roundg (M - (k + 1))
          case measure => omega
          case rel => exact ⟨k + 1, by omega, by rw [HCAT.out], by go_num, HB.out⟩
    · obtain rfl : k = M := by omega
      have hHS := HS.out
      have hex := strOfNums_take (strB KB SB (q + 1) k) m
      obtain ⟨O, hO⟩ : ∃ O, O = strOfNums (strB KB SB (q + 1) k) := ⟨_, rfl⟩
      rw [← hO] at hos hex
      rw [← hex] at hHS
      rw [← hO]
      have HS := Lib.hid hHS
      have hol : ¬ ((O.size : Int) < (m : Int)) := by omega
      have hm0 : (0 : Int) ≤ (m : Int) := by omega
      have hmo : (m : Int) ≤ (O.size : Int) := by omega
      clear hos hex hHS hM hO hkM hM32 hlt hk
      go_wp2
      go_ret2
      rw [HS.out]
      exact ⟨rfl, hI⟩
end Go.Proofs.Ythobfbiobnmceaa.B
