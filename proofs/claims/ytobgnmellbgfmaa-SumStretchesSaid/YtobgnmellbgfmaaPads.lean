/-
  sum.pads, walked: two mixes that have taken a key's two blocks.
-/
import Derived.Test.YtobgnmellbgfmaaBoth
namespace Go.Proofs.Ytobgnmellbgfmaa.B
open Go.RowKit
set_option linter.unusedVariables false
set_option linter.unusedSimpArgs false

theorem bytesOf_append (a b : ByteArray) : bytesOf (a ++ b) = bytesOf a ++ bytesOf b := by simp [bytesOf]
/-- A key, filled up to a block. -/
def kpad (k : List Int) : List Int := k ++ List.replicate (64 - k.length) 0
def kblk (K : List Int) : List Int := kpad (if 64 < K.length then sha K else K)
def ipad (K : List Int) : List Int := (kblk K).map fun x => xr x 54
def opad (K : List Int) : List Int := (kblk K).map fun x => xr x 92
/-- A text's HMAC under a key. -/
def hmac (K x : List Int) : List Int := sha (opad K ++ sha (ipad K ++ x))
theorem kpad_length {k : List Int} (h : k.length ≤ 64) : (kpad k).length = 64 := by simp [kpad]; omega
theorem kpad_b {k : List Int} (h : Bs k) : Bs (kpad k) := h.append fun x hx => by
  obtain rfl := List.eq_of_mem_replicate hx
  omega
theorem kcut_length (K : List Int) : (if 64 < K.length then sha K else K).length ≤ 64 := by
  split
  · rw [sha_length]; omega
  · omega
theorem kblk_length (K : List Int) : (kblk K).length = 64 := kpad_length (kcut_length K)
theorem ipad_length (K : List Int) : (ipad K).length = 64 := by rw [ipad, List.length_map, kblk_length]
theorem opad_length (K : List Int) : (opad K).length = 64 := by rw [opad, List.length_map, kblk_length]
theorem hmac_length (K x : List Int) : (hmac K x).length = 32 := sha_length _
theorem hmac_b (K x : List Int) : Bs (hmac K x) := sha_b _
theorem wraps_u8 (n : Int) (h₀ : 0 ≤ n) (h₁ : n < 2 ^ 8) : IntKind.u8.wrap n = n := by rw [IntKind.wrap_u8]; omega
theorem xor_u8 {a b : Int} (ha : 0 ≤ a ∧ a < 256) (hb : 0 ≤ b ∧ b < 256) : bits .xor .u8 a b = xr a b := by
  obtain ⟨m, rfl⟩ := Int.eq_ofNat_of_zero_le ha.1
  obtain ⟨n, rfl⟩ := Int.eq_ofNat_of_zero_le hb.1
  exact bits_xor_nat .u8 8 (by decide) wraps_u8 m n (by omega) (by omega)
theorem xr_b {a b : Int} (ha : 0 ≤ a ∧ a < 256) (hb : 0 ≤ b ∧ b < 256) : 0 ≤ xr a b ∧ xr a b < 256 := by
  obtain ⟨m, rfl⟩ := Int.eq_ofNat_of_zero_le ha.1
  obtain ⟨n, rfl⟩ := Int.eq_ofNat_of_zero_le hb.1
  have : m ^^^ n < 2 ^ 8 := Nat.xor_lt_two_pow (by omega) (by omega)
  unfold xr
  simp only [Int.toNat_natCast]
  omega
theorem xmap_b {l : List Int} (h : Bs l) (c : Int) (hc : 0 ≤ c ∧ c < 256) : Bs (l.map fun x => xr x c) := by
  intro y hy
  obtain ⟨x, hx, rfl⟩ := List.mem_map.1 hy
  exact xr_b (h x hx) hc

/-- The two blocks are made: k bytes of each are done. -/
structure PadI (w : World) (gx gy : Nat) (D : List Int) (k : Nat) (W : World) : Prop where
  bel : Below w.heap.size w W
  r1 : W.heap[w.heap.size]? = some (.cells mix0.toArray 38 (0, 0))
  r2 : W.heap[w.heap.size + 1]? = some (.cells mix0.toArray 38 (0, 0))
  xx : W.heap[gx]? = some (.cells (nums ((D.take k).map (fun x => xr x 54) ++ D.drop k)).toArray 35 (0, 0))
  yy : W.heap[gy]? = some (.cells (nums ((D.take k).map (fun x => xr x 92) ++ List.replicate (64 - k) 0)).toArray 35 (0, 0))
  gtx : w.heap.size + 1 < gx
  gty : gx < gy
theorem PadI.at_ {w W : World} {gx gy k : Nat} {D : List Int} (h : PadI w gx gy D k W) (hD : D.length = 64) (hk : k < 64) : W.cell? ⟨gx, k, none⟩ = some (.int .u8 (D.getD k 0)) := by
  rw [blk_cell h.xx k, nums_get (by simp; omega), List.getD, List.getElem?_append_right (by simp; omega), ← List.getD]
  simp [List.getD, List.getElem?_drop, hD, Nat.min_eq_left (show k ≤ 64 by omega)]
theorem PadI.at2 {w W : World} {gx gy k : Nat} {D : List Int} (h : PadI w gx gy D k W) (hD : D.length = 64) (hk : k < 64) : W.cell? ⟨gy, k, none⟩ = some (.int .u8 0) := by
  rw [blk_cell h.yy k, nums_get (by simp; omega), List.getD, List.getElem?_append_right (by simp; omega), List.length_map, List.length_take, hD, Nat.min_eq_left (show k ≤ 64 by omega), Nat.sub_self, List.getElem?_replicate, if_pos (by omega)]
  rfl
theorem set_done {D Z : List Int} {k : Nat} (hk : k < D.length) (c : Int) (h0 : 0 < Z.length) : ((D.take k).map (fun x => xr x c) ++ Z).set k (xr (D.getD k 0) c) = (D.take (k + 1)).map (fun x => xr x c) ++ Z.drop 1 := by
  have h1 : ((D.take k).map (fun x => xr x c)).length = k := by simp; omega
  match Z, h0 with
  | z :: Z, _ =>
    rw [List.set_append_right _ _ (by omega), h1, Nat.sub_self, List.set_cons_zero, List.take_add_one, List.getElem?_eq_getElem hk, List.map_append, List.append_assoc]
    simp [List.getD, List.getElem?_eq_getElem hk]
theorem nums_set (l : List Int) (k : Nat) (y : Int) : (nums l).toArray.setIfInBounds k (.int .u8 y) = (nums (l.set k y)).toArray := by
  rw [List.setIfInBounds_toArray, nums, nums, List.map_set]
theorem PadI.put {w W : World} {gx gy k : Nat} {D : List Int} (h : PadI w gx gy D k W) (hD : D.length = 64) (hk : k < 64) (y x : Int) (hy : y = xr (D.getD k 0) 92) (hx : x = xr (D.getD k 0) 54) :
    PadI w gx gy D (k + 1) ((W.setCell ⟨gy, k, none⟩ (.int .u8 y)).setCell ⟨gx, k, none⟩ (.int .u8 x)) := by
  have a := h.gtx
  have b := h.gty
  refine ⟨(h.bel.setCell (by simp; omega) _).setCell (by simp; omega) _, ?_, ?_, ?_, ?_, a, b⟩
  · exact (Below.heap_setCell _ _ _ _ (by simp; omega)).trans ((Below.heap_setCell W _ _ _ (by simp; omega)).trans h.r1)
  · exact (Below.heap_setCell _ _ _ _ (by simp; omega)).trans ((Below.heap_setCell W _ _ _ (by simp; omega)).trans h.r2)
  · have hb : (W.setCell ⟨gy, k, none⟩ (.int .u8 y)).heap[gx]? = _ := (Below.heap_setCell W _ _ _ (by simp; omega)).trans h.xx
    rw [blk_set hb, nums_set, hx, set_done (by omega) 54 (by simp; omega), List.drop_drop]
  · refine (Below.heap_setCell _ _ _ _ (by simp; omega)).trans ?_
    rw [blk_set h.yy, nums_set, hy, set_done (by omega) 92 (by simp; omega), List.drop_replicate, Nat.sub_sub]
theorem zero64_zero (w : World) : (zeroValue 35).run Try.prog w = .ok (.agg (nums zero64).toArray) w := by kernel_rfl
/-- Two mixes that have taken a key's blocks, by value. -/
def PadsOf (K : List Int) (w : World) (e : Ending) (w' : World) : Prop := ∃ Zi Zo, e = .returned (.tuple #[.agg Zi.toArray, .agg Zo.toArray]) ∧ MixZ Zi (ipad K) ∧ MixZ Zo (opad K) ∧ Below w.heap.size w w'
/-- The world of pads behind its first lines: the key, or its sum. -/
structure PadS (w : World) (K : List Int) (k : ByteArray) (W : World) : Prop where
  bel : Below w.heap.size w W
  r1 : W.heap[w.heap.size]? = some (.cells mix0.toArray 38 (0, 0))
  r2 : W.heap[w.heap.size + 1]? = some (.cells mix0.toArray 38 (0, 0))
  kk : bytesOf k = (if 64 < K.length then sha K else K)
  k64 : k.size ≤ 64
theorem padI_start {w W W1 : World} {K : List Int} {k : ByteArray} (h : PadS w K k W) (h1 : W1.heap[W.heap.size]? = some (.cells (splc (nums zero64) 0 (nums ((bytesOf k).take k.size))).toArray 35 (0, 0)))
    (hk : Keeps (fun i => i = W.heap.size) ((W.alloc (.cells (nums zero64).toArray 35 (0, 0))).alloc (.cells (nums zero64).toArray 35 (0, 0))) W1) : PadI w W.heap.size (W.heap.size + 1) (kblk K) 0 W1 := by
  have b2 := blk_lt h.r2
  have e : kblk K = kpad (bytesOf k) := by rw [kblk, ← h.kk]
  have hl := bytesOf_length k
  refine ⟨(h.bel.alloc h.bel.size _ |>.alloc (by simp; have := h.bel.size; omega) _).trans (hk.below (by simp; have := h.bel.size; omega) (by intro i hi; have := h.bel.size; omega)), ?_, ?_, ?_, ?_, by omega, by omega⟩
  · exact hk.at_ (get_below (get_below h.r1)) (by omega)
  · exact hk.at_ (get_below (get_below h.r2)) (by omega)
  · rw [h1, List.take_zero, List.map_nil, List.nil_append, List.drop_zero, e, kpad, List.take_of_length_le (by omega), splc, nums_append]
    congr 3
    rw [List.take_zero, List.nil_append, Nat.zero_add, nums_length, zero64]
    simp only [nums, List.map_replicate, List.drop_replicate]
  · rw [List.take_zero, List.map_nil, List.nil_append]
    exact hk.at_ (get_top (by simp)) (by omega)

/-- Behind the loop. -/
structure PadE (w : World) (gx gy : Nat) (X Y : List Int) (W : World) : Prop where
  bel : Below w.heap.size w W
  r1 : W.heap[w.heap.size]? = some (.cells mix0.toArray 38 (0, 0))
  r2 : W.heap[w.heap.size + 1]? = some (.cells mix0.toArray 38 (0, 0))
  xx : W.heap[gx]? = some (.cells (nums X).toArray 35 (0, 0))
  yy : W.heap[gy]? = some (.cells (nums Y).toArray 35 (0, 0))
theorem PadI.done {w W : World} {gx gy : Nat} {D : List Int} (h : PadI w gx gy D 64 W) (hD : D.length = 64) : PadE w gx gy (D.map fun x => xr x 54) (D.map fun x => xr x 92) W := by
  obtain ⟨h1, h2, h3, h4, h5, h6, h7⟩ := h
  rw [List.take_of_length_le (by omega), List.drop_of_length_le (by omega), List.append_nil] at h4
  rw [List.take_of_length_le (by omega), Nat.sub_self, List.replicate_zero, List.append_nil] at h5
  exact ⟨h1, h2, h3, h4, h5⟩
theorem PadE.kept {w W W1 : World} {gx gy : Nat} {X Y : List Int} {S : Nat → Prop} (h : PadE w gx gy X Y W) (hk : Keeps S W W1) (hS : ∀ i, i < W.heap.size → S i → w.heap.size + 1 < i ∧ i ≠ gx ∧ i ≠ gy) : PadE w gx gy X Y W1 := by
  have a := blk_lt h.r1
  have b := blk_lt h.r2
  have c := blk_lt h.xx
  have d := blk_lt h.yy
  refine ⟨h.bel.trans (hk.below h.bel.size (fun i hi hs => ?_)), hk.at_ h.r1 (fun hs => ?_), hk.at_ h.r2 (fun hs => ?_), hk.at_ h.xx (fun hs => ?_), hk.at_ h.yy (fun hs => ?_)⟩
  · have := hS i (by omega) hs; omega
  · have := hS _ a hs; omega
  · have := hS _ b hs; omega
  · have := hS _ c hs; omega
  · have := hS _ d hs; omega
theorem conv64 (W : World) (g : Nat) (X : List Int) (hX : X.length = 64) (h : W.heap[g]? = some (.cells (nums X).toArray 35 (0, 0))) : (convert 40 9 (.slice (some ⟨g, 0, none⟩) 64 64)).run Try.prog W = .ok (.string (strOfNums X)) W :=
  run_convert_bytes_arg W _ _ Try.underlying40 Try.underlying5 g 0 64 64 X hX (fun j hj => by rw [Nat.zero_add, blk_cell h j]; exact nums_get (by omega)) _ Try.underlying9

theorem splc_whole {Z : List Value} (h : Z.length = 75) : splc mix0 0 Z = Z := by
  rw [splc, List.take_zero, List.nil_append, Nat.zero_add, List.drop_of_length_le (by rw [h]; exact Nat.le_refl _), List.append_nil]
theorem results_cell_cell {fn : Func} {p q : Tmp} {ty tz : TypeId} (h : fn.results = #[.cell p ty, .cell q tz]) (tmps : Array Value) (P : Program) (w : World) :
    (results fn tmps).run P w = ((asAddr (tmps.getD p undef)).run P w).andThen fun a w1 => ((loadVar ty a).run P w1).andThen fun v w2 => ((asAddr (tmps.getD q undef)).run P w2).andThen fun b w3 => ((loadVar tz b).run P w3).andThen fun u w4 => .ok (.tuple #[v, u]) w4 := by
  simp only [results, h]
  simp [Sem.run_bind, Result.andThen]
/-- A function whose results are two variables' blocks. -/
theorem bodyPost_row_row {P : Program} {fn : Func} {R : Ending → World → Prop} {a : Act} {w : World} {p q : Tmp} {ty : TypeId} (hres : fn.results = #[.cell p ty, .cell q ty]) (g g2 : Nat) (cs cs2 : Array Value) (fr fr2 : Nat × Nat) (d : TypeDesc)
    (hp : a.tmps.getD p undef = .pointer (some ⟨g, 0, none⟩)) (hq : a.tmps.getD q undef = .pointer (some ⟨g2, 0, none⟩)) (hg : w.heap[g]? = some (.cells cs ty fr)) (hg2 : w.heap[g2]? = some (.cells cs2 ty fr2)) (hu : P.underlying ty = some d) (hd : (match d with | .struct _ | .array _ _ => true | _ => false) = true)
    (hi : (P.info? ty).map (·.size) = some cs.size) (hi2 : (P.info? ty).map (·.size) = some cs2.size) (hdf : a.defers = []) (hR : R (.returned (.tuple #[.agg cs, .agg cs2])) w) : bodyPost P fn R .ret a w := by
  refine bodyPost_ret (v := .tuple #[.agg cs, .agg cs2]) ?_ hdf hR
  rw [results_cell_cell hres, hp, hq]
  simp [asAddr, Result.andThen, run_loadVar_row w g ty ty cs fr d hg hu hd hi, run_loadVar_row w g2 ty ty cs2 fr2 d hg2 hu hd hi2]
set_option maxRecDepth 100000 in
set_option maxHeartbeats 3200000 in
theorem pads_any (key : ByteArray) (hk : key.size ≤ 800000000000) (w : World) : Calls Try.prog 32 #[.string key] w (PadsOf (bytesOf key) w) := by
  have hl := bytesOf_length key
  have hb0 : Below w.heap.size w ((w.alloc (.cells mix0.toArray 38 (0, 0))).alloc (.cells mix0.toArray 38 (0, 0))) := ((Below.refl _ w).alloc (Nat.le_refl _) _).alloc (by simp) _
  have HB0 := Lib.hid hb0
  have HKL := Lib.hid hl
  have hub := Try.underlying35
  have hum := Try.underlying38
  have HUM := Lib.hid hum
  clear hum
  obtain ⟨KB, hKB⟩ : ∃ K, K = bytesOf key := ⟨_, rfl⟩
  rw [← hKB]
  have HKB := Lib.hid hKB
  clear hb0 hl hKB
  go_enter Try.func32, Try.ntmps32
  by_cases hbig : 64 < key.size
  · go_wp2_with (refine wpList_alloc_known (by rfl) 38 (by rfl) mix0.toArray (mix0_zero _) ?_)
    refine (sum_any key hk _).mono ?_
    rintro e W1 ⟨rfl, hb1⟩
    have HS : Hid (PadS w KB (strOfNums (sha (bytesOf key))) W1) := Lib.hid ⟨HB0.out.trans (hb1.mono (by simp; omega)), (hb1.block _ (by simp; omega)).trans (get_below (get_top rfl)), (hb1.block _ (by simp)).trans (get_top (by simp)), by rw [bytesOf_strOfNums _ (sha_b _), HKB.out, if_pos (by rw [HKL.out]; exact hbig)], by rw [strOfNums_size, sha_length]; omega⟩
    obtain ⟨K0, hK0⟩ : ∃ K, K = strOfNums (sha (bytesOf key)) := ⟨_, rfl⟩
    rw [← hK0] at HS
    rw [← hK0]
    clear hb1 hK0
    go_wp2_with (first | (refine wpList_alloc_known (by rfl) 35 (by rfl) (nums zero64).toArray (zero64_zero _) ?_) | (refine wpList_copy_str (by rfl) (.tmp 14) (.tmp 15) 40 9 (by rfl) 5 Try.underlying40 sizeByte W1.heap.size 0 64 64 K0 (nums zero64) 35 (by rfl) (by rfl) (get_below (get_top rfl)) K0.size (by have := HS.out.k64; omega) (by have := HS.out.k64; simp [nums_length, zero64]; omega) ?_; intro W2 hW2 hK2; have HP0 := Lib.hid (padI_start HS.out hW2 hK2); clear hW2 hK2))
    obtain ⟨gx, hgx⟩ : ∃ g, g = W1.heap.size := ⟨_, rfl⟩
    rw [← hgx] at HP0
    rw [← hgx]
    have hDb : Bs (kblk KB) := by rw [kblk, ← HS.out.kk]; exact kpad_b (bytesOf_range _)
    have HDB := Lib.hid hDb
    clear hgx hDb HS
    have hI64 : (ipad KB).length = 64 := ipad_length KB
    have hO64 : (opad KB).length = 64 := opad_length KB
    have hD64 := kblk_length KB
    obtain ⟨I, hI⟩ : ∃ I, I = ipad KB := ⟨_, rfl⟩
    obtain ⟨O, hO⟩ : ∃ O, O = opad KB := ⟨_, rfl⟩
    obtain ⟨D, hD⟩ : ∃ D, D = kblk KB := ⟨_, rfl⟩
    have hID : D.map (fun x => xr x 54) = I := by rw [hI, hD, ipad]
    have hOD : D.map (fun x => xr x 92) = O := by rw [hO, hD, opad]
    rw [← hD] at HP0 HDB hD64
    rw [← hI] at hI64
    rw [← hO] at hO64
    have HD := Lib.hid hD64
    have HI64 := Lib.hid hI64
    have HO64 := Lib.hid hO64
    have HID := Lib.hid hID
    have HOD := Lib.hid hOD
    have HIK := Lib.hid hI
    have HOK := Lib.hid hO
    have HIB : Hid (Bs I) := by rw [← hID]; exact Lib.hid (xmap_b HDB.out 54 (by omega))
    have HOB : Hid (Bs O) := by rw [← hOD]; exact Lib.hid (xmap_b HDB.out 92 (by omega))
    clear hI64 hO64 hD64 hID hOD hI hO hD
    go_loopg [17] 64 (fun j i wr => ∃ k : Nat, j + k = 64 ∧ i = .int .i64 (k : Int) ∧ PadI w gx (gx + 1) D k wr)
    case atStart => exact ⟨0, rfl, rfl, HP0.out⟩
    case round =>
      clear HP0
      obtain ⟨k, hk, rfl, hI⟩ := hrel
      by_cases hlt : k < 64
      · have cx := hI.at_ HD.out hlt
        have cy := hI.at2 HD.out hlt
        have fx := blk_frozen hI.xx k
        have fy := blk_frozen hI.yy k
        have hd := HDB.out.get k
        have hp := fun y x => hI.put HD.out hlt y x
        obtain ⟨d, hdd⟩ : ∃ d, d = D.getD k 0 := ⟨_, rfl⟩
        rw [← hdd] at cx hd
        simp only [← hdd] at hp
        obtain ⟨y, e1⟩ : ∃ y, bits .xor .u8 d 92 = y := ⟨_, rfl⟩
        obtain ⟨x, e2⟩ : ∃ x, bits .xor .u8 d 54 = x := ⟨_, rfl⟩
        have HP := Lib.hid (hp y x (by rw [← e1, xor_u8 hd (by omega)]) (by rw [← e2, xor_u8 hd (by omega)]))
        have q5 : (k : Int) < 64 := by omega
        have q7 : (0 : Int) ≤ (k : Int) := by omega
        clear hp hdd hd hI
        go_wp2_with fail
        go_roundg (gk - 1)
        case measure => omega
        case rel => exact ⟨k + 1, by omega, by go_num, HP.out⟩
      · obtain rfl : k = 64 := by omega
        have hE := hI.done HD.out
        rw [HID.out, HOD.out] at hE
        have HE := Lib.hid hE
        clear hI hE hk hlt
        go_wp2_with fail
        refine (new_any _).mono ?_
        rintro e W4 ⟨rfl, hm4, hb4⟩
        dsimp only
        have HE4 := Lib.hid (HE.out.kept (Keeps.of_below (S := fun _ => False) hb4) (fun i hi hs => hs.elim))
        have HM4 := Lib.hid hm4
        have hga0 : w.heap.size + 1 < wr.heap.size ∧ gx < wr.heap.size ∧ gx + 1 < wr.heap.size := ⟨blk_lt HE.out.r2, blk_lt HE.out.xx, blk_lt HE.out.yy⟩
        obtain ⟨ga, hga⟩ : ∃ g, g = wr.heap.size := ⟨_, rfl⟩
        rw [← hga] at hga0 HM4
        have HGA := Lib.hid hga0
        have HGE := Lib.hid hga
        clear hm4 hb4 HE hga0
        go_wp2_with fail
        refine (new_any _).mono ?_
        rintro e W5 ⟨rfl, hm5, hb5⟩
        rw [← hga]
        obtain ⟨gb, hgb⟩ : ∃ g, g = W4.heap.size := ⟨_, rfl⟩
        have HGB := Lib.hid (show ga < gb by rw [hgb]; exact HM4.out.lt)
        have hm4 := HM4.out.below hb5 HM4.out.lt
        have HE5 := Lib.hid (HE4.out.kept (Keeps.of_below (S := fun _ => False) hb5) (fun i hi hs => hs.elim))
        rw [← hgb] at hm5
        rw [← hgb]
        have HM5 := Lib.hid hm5
        have HF1 := Lib.hid (feed_any ga (strOfNums I) [] W5 hm4 (by rw [strOfNums_size, HI64.out]; simp))
        have hc1 := conv64 W5 gx I HI64.out HE5.out.xx
        clear hm4 hm5 hb5 hgb hga HE4 HM4
        go_wp2_with fail
        refine HF1.out.mono ?_
        rintro e W6 ⟨rfl, hm6, hk6⟩
        rw [List.nil_append, bytesOf_strOfNums _ HIB.out] at hm6
        have HM6 := Lib.hid hm6
        have HE6 := Lib.hid (HE5.out.kept hk6 (fun i hi hs => by have := HGA.out; omega))
        have HF2 := Lib.hid (feed_any gb (strOfNums O) [] W6 (HM5.out.kept hk6 (by have := HGB.out; omega)) (by rw [strOfNums_size, HO64.out]; simp))
        have hc2 := conv64 W6 (gx + 1) O HO64.out HE6.out.yy
        clear hm6 hk6 hc1 HE5 HM5 HF1
        go_wp2_with fail
        refine HF2.out.mono ?_
        rintro e W7 ⟨rfl, hm7, hk7⟩
        rw [List.nil_append, bytesOf_strOfNums _ HOB.out] at hm7
        have HE7 := Lib.hid (HE6.out.kept hk7 (fun i hi hs => by have := HGA.out; have := HGB.out; omega))
        have hma := HM6.out.kept hk7 (by have := HGB.out; omega)
        obtain ⟨Zi, hzi, hbi⟩ := hma.cells
        obtain ⟨Zo, hzo, hbo⟩ := hm7.cells
        have HZI := Lib.hid hzi
        have HZO := Lib.hid hzo
        have HBI := Lib.hid hbi
        have HBO := Lib.hid hbo
        clear hm7 hk7 hma hzi hzo hbi hbo hc2 HE6 HM6 HF2
        go_wp2_with fail
        have HIM := Lib.hid (show (Try.prog.info? 38).map (·.size) = some Zi.length by rw [infoMix, HZI.out.length])
        have HOM := Lib.hid (show (Try.prog.info? 38).map (·.size) = some Zo.length by rw [infoMix, HZO.out.length])
        refine wp_region_any (by kernel_rfl) ?_
        change wpAny _ _ _ _ _ _ _ (World.drew W7)
        refine takeU (v := ?_) 0 rfl (by kernel_rfl) (by kernel_rfl) (by kernel_rfl) (fun _ _ _ h => h) ?_ ?_
        rotate_left
        · intro w; go_simp; with_reducible rfl
        try simp only [Act.put, List.setIfInBounds_toArray, List.set_cons_zero, List.set_cons_succ]
        refine takeU (v := ?_) 1 rfl (by kernel_rfl) (by kernel_rfl) (by kernel_rfl) (fun _ _ _ h => h) ?_ ?_
        rotate_left
        · intro w; go_simp; with_reducible rfl
        try simp only [Act.put, List.setIfInBounds_toArray, List.set_cons_zero, List.set_cons_succ]
        refine takeU (v := ?_) 3 rfl (by kernel_rfl) (by kernel_rfl) (by kernel_rfl) (fun _ _ _ h => h) ?_ ?_
        rotate_left
        · intro w; go_simp; with_reducible rfl
        try simp only [Act.put, List.setIfInBounds_toArray, List.set_cons_zero, List.set_cons_succ]
        refine takeU (v := ?_) 4 rfl (by kernel_rfl) (by kernel_rfl) (by kernel_rfl) (fun _ _ _ h => h) ?_ ?_
        rotate_left
        · intro w; go_simp; with_reducible rfl
        try simp only [Act.put, List.setIfInBounds_toArray, List.set_cons_zero, List.set_cons_succ]
        have HB0' := Lib.hid (show (World.drew W7).heap[gb]? = some (.cells Zo.toArray 38 (0, 0)) from HBO.out)
        refine wpAny_ready (rs := [2, 5]) (by kernel_rfl) (by simp) ?_
        refine consLoad (by rfl) ga 0 (by rfl) Zi _ (rangeOf HBI.out) HUM.out rfl HIM.out ?_ ?_
        · try simp only [Act.put, List.setIfInBounds_toArray, List.set_cons_zero, List.set_cons_succ]
          refine wpAny_ready (rs := [5, 6]) (by kernel_rfl) (by simp) ?_
          refine consLoad (by rfl) gb 0 (by rfl) Zo _ (rangeOf HB0'.out) HUM.out rfl HOM.out ?_ ?_
          · try simp only [Act.put, List.setIfInBounds_toArray, List.set_cons_zero, List.set_cons_succ]
            refine wpAny_ready (rs := [6]) (by kernel_rfl) (by simp) ?_
            refine consStore (by rfl) w.heap.size 0 Zi mix0 38 (by rfl) (by rfl) HE7.out.r1 (by rw [HZI.out.length]; exact Nat.le_refl _) HIM.out HZI.out.one ?_ AllReady.nil
            intro W8 h8 k8
            try simp only [Act.put, List.setIfInBounds_toArray, List.set_cons_zero, List.set_cons_succ]
            have hs6 : W8.heap[w.heap.size]? = some (.cells Zi.toArray 38 (0, 0)) := by rw [h8, splc_whole HZI.out.length]
            have hs7 := k8.at_ HE7.out.r2 (by omega)
            refine wpAny_ready (rs := [7]) (by kernel_rfl) (by simp) ?_
            refine consStore (by rfl) (w.heap.size + 1) 0 Zo mix0 38 (by rfl) (by rfl) hs7 (by rw [HZO.out.length]; exact Nat.le_refl _) HOM.out HZO.out.one ?_ AllReady.nil
            intro W9 h9 k9
            try simp only [Act.put, List.setIfInBounds_toArray, List.set_cons_zero, List.set_cons_succ]
            refine wpAny_done (by kernel_rfl) ?_ _
            have hs9 : W9.heap[w.heap.size + 1]? = some (.cells Zo.toArray 38 (0, 0)) := by rw [h9, splc_whole HZO.out.length]
            have hs8 := k9.at_ hs6 (by omega)
            have hbe : Below w.heap.size w W9 := (HE7.out.bel.drew.trans (k8.below HE7.out.bel.size (by intro i hi; omega))).trans (k9.below (by have := k8.size; have := HE7.out.bel.size; exact Nat.le_trans this k8.size) (by intro i hi; omega))
            have H8 := Lib.hid hs8
            have H9 := Lib.hid hs9
            have HBE := Lib.hid hbe
            clear h8 k8 h9 k9 hs6 hs7 hs8 hs9 hbe
            go_wp2_with fail
            refine bodyPost_row_row rfl w.heap.size (w.heap.size + 1) Zi.toArray Zo.toArray (0, 0) (0, 0) _ (by rfl) (by rfl) H8.out H9.out HUM.out rfl (by simpa using HIM.out) (by simpa using HOM.out) rfl ?_
            exact ⟨Zi, Zo, rfl, by rw [← HIK.out]; exact HZI.out, by rw [← HOK.out]; exact HZO.out, HBE.out⟩
          refine consStore (by rfl) w.heap.size 0 Zi mix0 38 (by rfl) (by rfl) HE7.out.r1 (by rw [HZI.out.length]; exact Nat.le_refl _) HIM.out HZI.out.one ?_ AllReady.nil
          intro W8 h8 k8
          try simp only [Act.put, List.setIfInBounds_toArray, List.set_cons_zero, List.set_cons_succ]
          have hs6 : W8.heap[w.heap.size]? = some (.cells Zi.toArray 38 (0, 0)) := by rw [h8, splc_whole HZI.out.length]
          have hs7 := k8.at_ HE7.out.r2 (by omega)
          have hgb8 := k8.at_ HB0'.out (by have := HGA.out; have := HGB.out; omega)
          refine wpAny_ready (rs := [5]) (by kernel_rfl) (by simp) ?_
          refine consLoad (by rfl) gb 0 (by rfl) Zo _ (rangeOf hgb8) HUM.out rfl HOM.out ?_ AllReady.nil
          try simp only [Act.put, List.setIfInBounds_toArray, List.set_cons_zero, List.set_cons_succ]
          clear hgb8
          refine wpAny_ready (rs := [7]) (by kernel_rfl) (by simp) ?_
          refine consStore (by rfl) (w.heap.size + 1) 0 Zo mix0 38 (by rfl) (by rfl) hs7 (by rw [HZO.out.length]; exact Nat.le_refl _) HOM.out HZO.out.one ?_ AllReady.nil
          intro W9 h9 k9
          try simp only [Act.put, List.setIfInBounds_toArray, List.set_cons_zero, List.set_cons_succ]
          refine wpAny_done (by kernel_rfl) ?_ _
          have hs9 : W9.heap[w.heap.size + 1]? = some (.cells Zo.toArray 38 (0, 0)) := by rw [h9, splc_whole HZO.out.length]
          have hs8 := k9.at_ hs6 (by omega)
          have hbe : Below w.heap.size w W9 := (HE7.out.bel.drew.trans (k8.below HE7.out.bel.size (by intro i hi; omega))).trans (k9.below (by have := k8.size; have := HE7.out.bel.size; exact Nat.le_trans this k8.size) (by intro i hi; omega))
          have H8 := Lib.hid hs8
          have H9 := Lib.hid hs9
          have HBE := Lib.hid hbe
          clear h8 k8 h9 k9 hs6 hs7 hs8 hs9 hbe
          go_wp2_with fail
          refine bodyPost_row_row rfl w.heap.size (w.heap.size + 1) Zi.toArray Zo.toArray (0, 0) (0, 0) _ (by rfl) (by rfl) H8.out H9.out HUM.out rfl (by simpa using HIM.out) (by simpa using HOM.out) rfl ?_
          exact ⟨Zi, Zo, rfl, by rw [← HIK.out]; exact HZI.out, by rw [← HOK.out]; exact HZO.out, HBE.out⟩
        refine consLoad (by rfl) gb 0 (by rfl) Zo _ (rangeOf HB0'.out) HUM.out rfl HOM.out ?_ AllReady.nil
        try simp only [Act.put, List.setIfInBounds_toArray, List.set_cons_zero, List.set_cons_succ]
        refine wpAny_ready (rs := [2]) (by kernel_rfl) (by simp) ?_
        refine consLoad (by rfl) ga 0 (by rfl) Zi _ (rangeOf HBI.out) HUM.out rfl HIM.out ?_ AllReady.nil
        try simp only [Act.put, List.setIfInBounds_toArray, List.set_cons_zero, List.set_cons_succ]
        refine wpAny_ready (rs := [6]) (by kernel_rfl) (by simp) ?_
        refine consStore (by rfl) w.heap.size 0 Zi mix0 38 (by rfl) (by rfl) HE7.out.r1 (by rw [HZI.out.length]; exact Nat.le_refl _) HIM.out HZI.out.one ?_ AllReady.nil
        intro W8 h8 k8
        try simp only [Act.put, List.setIfInBounds_toArray, List.set_cons_zero, List.set_cons_succ]
        have hs6 : W8.heap[w.heap.size]? = some (.cells Zi.toArray 38 (0, 0)) := by rw [h8, splc_whole HZI.out.length]
        have hs7 := k8.at_ HE7.out.r2 (by omega)
        refine wpAny_ready (rs := [7]) (by kernel_rfl) (by simp) ?_
        refine consStore (by rfl) (w.heap.size + 1) 0 Zo mix0 38 (by rfl) (by rfl) hs7 (by rw [HZO.out.length]; exact Nat.le_refl _) HOM.out HZO.out.one ?_ AllReady.nil
        intro W9 h9 k9
        try simp only [Act.put, List.setIfInBounds_toArray, List.set_cons_zero, List.set_cons_succ]
        refine wpAny_done (by kernel_rfl) ?_ _
        have hs9 : W9.heap[w.heap.size + 1]? = some (.cells Zo.toArray 38 (0, 0)) := by rw [h9, splc_whole HZO.out.length]
        have hs8 := k9.at_ hs6 (by omega)
        have hbe : Below w.heap.size w W9 := (HE7.out.bel.drew.trans (k8.below HE7.out.bel.size (by intro i hi; omega))).trans (k9.below (by have := k8.size; have := HE7.out.bel.size; exact Nat.le_trans this k8.size) (by intro i hi; omega))
        have H8 := Lib.hid hs8
        have H9 := Lib.hid hs9
        have HBE := Lib.hid hbe
        clear h8 k8 h9 k9 hs6 hs7 hs8 hs9 hbe
        go_wp2_with fail
        refine bodyPost_row_row rfl w.heap.size (w.heap.size + 1) Zi.toArray Zo.toArray (0, 0) (0, 0) _ (by rfl) (by rfl) H8.out H9.out HUM.out rfl (by simpa using HIM.out) (by simpa using HOM.out) rfl ?_
        exact ⟨Zi, Zo, rfl, by rw [← HIK.out]; exact HZI.out, by rw [← HOK.out]; exact HZO.out, HBE.out⟩
  · have HS : Hid (PadS w KB key ((w.alloc (.cells mix0.toArray 38 (0, 0))).alloc (.cells mix0.toArray 38 (0, 0)))) := Lib.hid ⟨HB0.out, get_below (get_top rfl), get_top (by simp), by rw [HKB.out, if_neg (by rw [HKL.out]; exact hbig)], by omega⟩
    have HGS := Lib.hid (show ((w.alloc (.cells mix0.toArray 38 (0, 0))).alloc (.cells mix0.toArray 38 (0, 0))).heap.size = w.heap.size + 1 + 1 by simp)
    go_wp2_with (first | (refine wpList_alloc_known (by rfl) 38 (by rfl) mix0.toArray (mix0_zero _) ?_) | (refine wpList_alloc_known (by rfl) 35 (by rfl) (nums zero64).toArray (zero64_zero _) ?_) | (refine wpList_copy_str (by rfl) (.tmp 14) (.tmp 15) 40 9 (by rfl) 5 Try.underlying40 sizeByte (w.heap.size + 1 + 1) 0 64 64 key (nums zero64) 35 (by rfl) (by rfl) (get_below (get_top (by simp))) key.size (by have := HS.out.k64; omega) (by have := HS.out.k64; simp [nums_length, zero64]; omega) ?_; intro W2 hW2 hK2; have HP0 := Lib.hid (padI_start HS.out (by rw [HGS.out]; exact hW2) (by rw [HGS.out]; exact hK2)); rw [HGS.out] at HP0; clear hW2 hK2))
    obtain ⟨gx, hgx⟩ : ∃ g, g = w.heap.size + 1 + 1 := ⟨_, rfl⟩
    rw [← hgx] at HP0
    rw [← hgx]
    have hDb : Bs (kblk KB) := by rw [kblk, ← HS.out.kk]; exact kpad_b (bytesOf_range _)
    have HDB := Lib.hid hDb
    clear hgx hDb HS HGS
    have hI64 : (ipad KB).length = 64 := ipad_length KB
    have hO64 : (opad KB).length = 64 := opad_length KB
    have hD64 := kblk_length KB
    obtain ⟨I, hI⟩ : ∃ I, I = ipad KB := ⟨_, rfl⟩
    obtain ⟨O, hO⟩ : ∃ O, O = opad KB := ⟨_, rfl⟩
    obtain ⟨D, hD⟩ : ∃ D, D = kblk KB := ⟨_, rfl⟩
    have hID : D.map (fun x => xr x 54) = I := by rw [hI, hD, ipad]
    have hOD : D.map (fun x => xr x 92) = O := by rw [hO, hD, opad]
    rw [← hD] at HP0 HDB hD64
    rw [← hI] at hI64
    rw [← hO] at hO64
    have HD := Lib.hid hD64
    have HI64 := Lib.hid hI64
    have HO64 := Lib.hid hO64
    have HID := Lib.hid hID
    have HOD := Lib.hid hOD
    have HIK := Lib.hid hI
    have HOK := Lib.hid hO
    have HIB : Hid (Bs I) := by rw [← hID]; exact Lib.hid (xmap_b HDB.out 54 (by omega))
    have HOB : Hid (Bs O) := by rw [← hOD]; exact Lib.hid (xmap_b HDB.out 92 (by omega))
    clear hI64 hO64 hD64 hID hOD hI hO hD
    go_loopg [17] 64 (fun j i wr => ∃ k : Nat, j + k = 64 ∧ i = .int .i64 (k : Int) ∧ PadI w gx (gx + 1) D k wr)
    case atStart => exact ⟨0, rfl, rfl, HP0.out⟩
    case round =>
      clear HP0
      obtain ⟨k, hk, rfl, hI⟩ := hrel
      by_cases hlt : k < 64
      · have cx := hI.at_ HD.out hlt
        have cy := hI.at2 HD.out hlt
        have fx := blk_frozen hI.xx k
        have fy := blk_frozen hI.yy k
        have hd := HDB.out.get k
        have hp := fun y x => hI.put HD.out hlt y x
        obtain ⟨d, hdd⟩ : ∃ d, d = D.getD k 0 := ⟨_, rfl⟩
        rw [← hdd] at cx hd
        simp only [← hdd] at hp
        obtain ⟨y, e1⟩ : ∃ y, bits .xor .u8 d 92 = y := ⟨_, rfl⟩
        obtain ⟨x, e2⟩ : ∃ x, bits .xor .u8 d 54 = x := ⟨_, rfl⟩
        have HP := Lib.hid (hp y x (by rw [← e1, xor_u8 hd (by omega)]) (by rw [← e2, xor_u8 hd (by omega)]))
        have q5 : (k : Int) < 64 := by omega
        have q7 : (0 : Int) ≤ (k : Int) := by omega
        clear hp hdd hd hI
        go_wp2_with fail
        go_roundg (gk - 1)
        case measure => omega
        case rel => exact ⟨k + 1, by omega, by go_num, HP.out⟩
      · obtain rfl : k = 64 := by omega
        have hE := hI.done HD.out
        rw [HID.out, HOD.out] at hE
        have HE := Lib.hid hE
        clear hI hE hk hlt
        go_wp2_with fail
        refine (new_any _).mono ?_
        rintro e W4 ⟨rfl, hm4, hb4⟩
        dsimp only
        have HE4 := Lib.hid (HE.out.kept (Keeps.of_below (S := fun _ => False) hb4) (fun i hi hs => hs.elim))
        have HM4 := Lib.hid hm4
        have hga0 : w.heap.size + 1 < wr.heap.size ∧ gx < wr.heap.size ∧ gx + 1 < wr.heap.size := ⟨blk_lt HE.out.r2, blk_lt HE.out.xx, blk_lt HE.out.yy⟩
        obtain ⟨ga, hga⟩ : ∃ g, g = wr.heap.size := ⟨_, rfl⟩
        rw [← hga] at hga0 HM4
        have HGA := Lib.hid hga0
        have HGE := Lib.hid hga
        clear hm4 hb4 HE hga0
        go_wp2_with fail
        refine (new_any _).mono ?_
        rintro e W5 ⟨rfl, hm5, hb5⟩
        rw [← hga]
        obtain ⟨gb, hgb⟩ : ∃ g, g = W4.heap.size := ⟨_, rfl⟩
        have HGB := Lib.hid (show ga < gb by rw [hgb]; exact HM4.out.lt)
        have hm4 := HM4.out.below hb5 HM4.out.lt
        have HE5 := Lib.hid (HE4.out.kept (Keeps.of_below (S := fun _ => False) hb5) (fun i hi hs => hs.elim))
        rw [← hgb] at hm5
        rw [← hgb]
        have HM5 := Lib.hid hm5
        have HF1 := Lib.hid (feed_any ga (strOfNums I) [] W5 hm4 (by rw [strOfNums_size, HI64.out]; simp))
        have hc1 := conv64 W5 gx I HI64.out HE5.out.xx
        clear hm4 hm5 hb5 hgb hga HE4 HM4
        go_wp2_with fail
        refine HF1.out.mono ?_
        rintro e W6 ⟨rfl, hm6, hk6⟩
        rw [List.nil_append, bytesOf_strOfNums _ HIB.out] at hm6
        have HM6 := Lib.hid hm6
        have HE6 := Lib.hid (HE5.out.kept hk6 (fun i hi hs => by have := HGA.out; omega))
        have HF2 := Lib.hid (feed_any gb (strOfNums O) [] W6 (HM5.out.kept hk6 (by have := HGB.out; omega)) (by rw [strOfNums_size, HO64.out]; simp))
        have hc2 := conv64 W6 (gx + 1) O HO64.out HE6.out.yy
        clear hm6 hk6 hc1 HE5 HM5 HF1
        go_wp2_with fail
        refine HF2.out.mono ?_
        rintro e W7 ⟨rfl, hm7, hk7⟩
        rw [List.nil_append, bytesOf_strOfNums _ HOB.out] at hm7
        have HE7 := Lib.hid (HE6.out.kept hk7 (fun i hi hs => by have := HGA.out; have := HGB.out; omega))
        have hma := HM6.out.kept hk7 (by have := HGB.out; omega)
        obtain ⟨Zi, hzi, hbi⟩ := hma.cells
        obtain ⟨Zo, hzo, hbo⟩ := hm7.cells
        have HZI := Lib.hid hzi
        have HZO := Lib.hid hzo
        have HBI := Lib.hid hbi
        have HBO := Lib.hid hbo
        clear hm7 hk7 hma hzi hzo hbi hbo hc2 HE6 HM6 HF2
        go_wp2_with fail
        have HIM := Lib.hid (show (Try.prog.info? 38).map (·.size) = some Zi.length by rw [infoMix, HZI.out.length])
        have HOM := Lib.hid (show (Try.prog.info? 38).map (·.size) = some Zo.length by rw [infoMix, HZO.out.length])
        refine wp_region_any (by kernel_rfl) ?_
        change wpAny _ _ _ _ _ _ _ (World.drew W7)
        refine takeU (v := ?_) 0 rfl (by kernel_rfl) (by kernel_rfl) (by kernel_rfl) (fun _ _ _ h => h) ?_ ?_
        rotate_left
        · intro w; go_simp; with_reducible rfl
        try simp only [Act.put, List.setIfInBounds_toArray, List.set_cons_zero, List.set_cons_succ]
        refine takeU (v := ?_) 1 rfl (by kernel_rfl) (by kernel_rfl) (by kernel_rfl) (fun _ _ _ h => h) ?_ ?_
        rotate_left
        · intro w; go_simp; with_reducible rfl
        try simp only [Act.put, List.setIfInBounds_toArray, List.set_cons_zero, List.set_cons_succ]
        refine takeU (v := ?_) 3 rfl (by kernel_rfl) (by kernel_rfl) (by kernel_rfl) (fun _ _ _ h => h) ?_ ?_
        rotate_left
        · intro w; go_simp; with_reducible rfl
        try simp only [Act.put, List.setIfInBounds_toArray, List.set_cons_zero, List.set_cons_succ]
        refine takeU (v := ?_) 4 rfl (by kernel_rfl) (by kernel_rfl) (by kernel_rfl) (fun _ _ _ h => h) ?_ ?_
        rotate_left
        · intro w; go_simp; with_reducible rfl
        try simp only [Act.put, List.setIfInBounds_toArray, List.set_cons_zero, List.set_cons_succ]
        have HB0' := Lib.hid (show (World.drew W7).heap[gb]? = some (.cells Zo.toArray 38 (0, 0)) from HBO.out)
        refine wpAny_ready (rs := [2, 5]) (by kernel_rfl) (by simp) ?_
        refine consLoad (by rfl) ga 0 (by rfl) Zi _ (rangeOf HBI.out) HUM.out rfl HIM.out ?_ ?_
        · try simp only [Act.put, List.setIfInBounds_toArray, List.set_cons_zero, List.set_cons_succ]
          refine wpAny_ready (rs := [5, 6]) (by kernel_rfl) (by simp) ?_
          refine consLoad (by rfl) gb 0 (by rfl) Zo _ (rangeOf HB0'.out) HUM.out rfl HOM.out ?_ ?_
          · try simp only [Act.put, List.setIfInBounds_toArray, List.set_cons_zero, List.set_cons_succ]
            refine wpAny_ready (rs := [6]) (by kernel_rfl) (by simp) ?_
            refine consStore (by rfl) w.heap.size 0 Zi mix0 38 (by rfl) (by rfl) HE7.out.r1 (by rw [HZI.out.length]; exact Nat.le_refl _) HIM.out HZI.out.one ?_ AllReady.nil
            intro W8 h8 k8
            try simp only [Act.put, List.setIfInBounds_toArray, List.set_cons_zero, List.set_cons_succ]
            have hs6 : W8.heap[w.heap.size]? = some (.cells Zi.toArray 38 (0, 0)) := by rw [h8, splc_whole HZI.out.length]
            have hs7 := k8.at_ HE7.out.r2 (by omega)
            refine wpAny_ready (rs := [7]) (by kernel_rfl) (by simp) ?_
            refine consStore (by rfl) (w.heap.size + 1) 0 Zo mix0 38 (by rfl) (by rfl) hs7 (by rw [HZO.out.length]; exact Nat.le_refl _) HOM.out HZO.out.one ?_ AllReady.nil
            intro W9 h9 k9
            try simp only [Act.put, List.setIfInBounds_toArray, List.set_cons_zero, List.set_cons_succ]
            refine wpAny_done (by kernel_rfl) ?_ _
            have hs9 : W9.heap[w.heap.size + 1]? = some (.cells Zo.toArray 38 (0, 0)) := by rw [h9, splc_whole HZO.out.length]
            have hs8 := k9.at_ hs6 (by omega)
            have hbe : Below w.heap.size w W9 := (HE7.out.bel.drew.trans (k8.below HE7.out.bel.size (by intro i hi; omega))).trans (k9.below (by have := k8.size; have := HE7.out.bel.size; exact Nat.le_trans this k8.size) (by intro i hi; omega))
            have H8 := Lib.hid hs8
            have H9 := Lib.hid hs9
            have HBE := Lib.hid hbe
            clear h8 k8 h9 k9 hs6 hs7 hs8 hs9 hbe
            go_wp2_with fail
            refine bodyPost_row_row rfl w.heap.size (w.heap.size + 1) Zi.toArray Zo.toArray (0, 0) (0, 0) _ (by rfl) (by rfl) H8.out H9.out HUM.out rfl (by simpa using HIM.out) (by simpa using HOM.out) rfl ?_
            exact ⟨Zi, Zo, rfl, by rw [← HIK.out]; exact HZI.out, by rw [← HOK.out]; exact HZO.out, HBE.out⟩
          refine consStore (by rfl) w.heap.size 0 Zi mix0 38 (by rfl) (by rfl) HE7.out.r1 (by rw [HZI.out.length]; exact Nat.le_refl _) HIM.out HZI.out.one ?_ AllReady.nil
          intro W8 h8 k8
          try simp only [Act.put, List.setIfInBounds_toArray, List.set_cons_zero, List.set_cons_succ]
          have hs6 : W8.heap[w.heap.size]? = some (.cells Zi.toArray 38 (0, 0)) := by rw [h8, splc_whole HZI.out.length]
          have hs7 := k8.at_ HE7.out.r2 (by omega)
          have hgb8 := k8.at_ HB0'.out (by have := HGA.out; have := HGB.out; omega)
          refine wpAny_ready (rs := [5]) (by kernel_rfl) (by simp) ?_
          refine consLoad (by rfl) gb 0 (by rfl) Zo _ (rangeOf hgb8) HUM.out rfl HOM.out ?_ AllReady.nil
          try simp only [Act.put, List.setIfInBounds_toArray, List.set_cons_zero, List.set_cons_succ]
          clear hgb8
          refine wpAny_ready (rs := [7]) (by kernel_rfl) (by simp) ?_
          refine consStore (by rfl) (w.heap.size + 1) 0 Zo mix0 38 (by rfl) (by rfl) hs7 (by rw [HZO.out.length]; exact Nat.le_refl _) HOM.out HZO.out.one ?_ AllReady.nil
          intro W9 h9 k9
          try simp only [Act.put, List.setIfInBounds_toArray, List.set_cons_zero, List.set_cons_succ]
          refine wpAny_done (by kernel_rfl) ?_ _
          have hs9 : W9.heap[w.heap.size + 1]? = some (.cells Zo.toArray 38 (0, 0)) := by rw [h9, splc_whole HZO.out.length]
          have hs8 := k9.at_ hs6 (by omega)
          have hbe : Below w.heap.size w W9 := (HE7.out.bel.drew.trans (k8.below HE7.out.bel.size (by intro i hi; omega))).trans (k9.below (by have := k8.size; have := HE7.out.bel.size; exact Nat.le_trans this k8.size) (by intro i hi; omega))
          have H8 := Lib.hid hs8
          have H9 := Lib.hid hs9
          have HBE := Lib.hid hbe
          clear h8 k8 h9 k9 hs6 hs7 hs8 hs9 hbe
          go_wp2_with fail
          refine bodyPost_row_row rfl w.heap.size (w.heap.size + 1) Zi.toArray Zo.toArray (0, 0) (0, 0) _ (by rfl) (by rfl) H8.out H9.out HUM.out rfl (by simpa using HIM.out) (by simpa using HOM.out) rfl ?_
          exact ⟨Zi, Zo, rfl, by rw [← HIK.out]; exact HZI.out, by rw [← HOK.out]; exact HZO.out, HBE.out⟩
        refine consLoad (by rfl) gb 0 (by rfl) Zo _ (rangeOf HB0'.out) HUM.out rfl HOM.out ?_ AllReady.nil
        try simp only [Act.put, List.setIfInBounds_toArray, List.set_cons_zero, List.set_cons_succ]
        refine wpAny_ready (rs := [2]) (by kernel_rfl) (by simp) ?_
        refine consLoad (by rfl) ga 0 (by rfl) Zi _ (rangeOf HBI.out) HUM.out rfl HIM.out ?_ AllReady.nil
        try simp only [Act.put, List.setIfInBounds_toArray, List.set_cons_zero, List.set_cons_succ]
        refine wpAny_ready (rs := [6]) (by kernel_rfl) (by simp) ?_
        refine consStore (by rfl) w.heap.size 0 Zi mix0 38 (by rfl) (by rfl) HE7.out.r1 (by rw [HZI.out.length]; exact Nat.le_refl _) HIM.out HZI.out.one ?_ AllReady.nil
        intro W8 h8 k8
        try simp only [Act.put, List.setIfInBounds_toArray, List.set_cons_zero, List.set_cons_succ]
        have hs6 : W8.heap[w.heap.size]? = some (.cells Zi.toArray 38 (0, 0)) := by rw [h8, splc_whole HZI.out.length]
        have hs7 := k8.at_ HE7.out.r2 (by omega)
        refine wpAny_ready (rs := [7]) (by kernel_rfl) (by simp) ?_
        refine consStore (by rfl) (w.heap.size + 1) 0 Zo mix0 38 (by rfl) (by rfl) hs7 (by rw [HZO.out.length]; exact Nat.le_refl _) HOM.out HZO.out.one ?_ AllReady.nil
        intro W9 h9 k9
        try simp only [Act.put, List.setIfInBounds_toArray, List.set_cons_zero, List.set_cons_succ]
        refine wpAny_done (by kernel_rfl) ?_ _
        have hs9 : W9.heap[w.heap.size + 1]? = some (.cells Zo.toArray 38 (0, 0)) := by rw [h9, splc_whole HZO.out.length]
        have hs8 := k9.at_ hs6 (by omega)
        have hbe : Below w.heap.size w W9 := (HE7.out.bel.drew.trans (k8.below HE7.out.bel.size (by intro i hi; omega))).trans (k9.below (by have := k8.size; have := HE7.out.bel.size; exact Nat.le_trans this k8.size) (by intro i hi; omega))
        have H8 := Lib.hid hs8
        have H9 := Lib.hid hs9
        have HBE := Lib.hid hbe
        clear h8 k8 h9 k9 hs6 hs7 hs8 hs9 hbe
        go_wp2_with fail
        refine bodyPost_row_row rfl w.heap.size (w.heap.size + 1) Zi.toArray Zo.toArray (0, 0) (0, 0) _ (by rfl) (by rfl) H8.out H9.out HUM.out rfl (by simpa using HIM.out) (by simpa using HOM.out) rfl ?_
        exact ⟨Zi, Zo, rfl, by rw [← HIK.out]; exact HZI.out, by rw [← HOK.out]; exact HZO.out, HBE.out⟩
end Go.Proofs.Ytobgnmellbgfmaa.B
