/-
  The document's Mac (grapnelref02), walked.
-/
import Derived.Test.YtobgnmellbgfmaaPads
import Derived.Test.YtobgnmellbgfmaaRefSum
namespace Go.Proofs.Ytobgnmellbgfmaa.B
open Go.RowKit
set_option linter.unusedVariables false
set_option linter.unusedSimpArgs false

/-- The two blocks are made: k bytes of each are done. -/
structure RPadI (w : World) (gx gy : Nat) (D : List Int) (k : Nat) (W : World) : Prop where
  bel : Below w.heap.size w W
  xx : W.heap[gx]? = some (.cells (nums ((D.take k).map (fun x => xr x 54) ++ List.replicate (64 - k) 0)).toArray 5 (0, 0))
  yy : W.heap[gy]? = some (.cells (nums ((D.take k).map (fun x => xr x 92) ++ List.replicate (64 - k) 0)).toArray 5 (0, 0))
  gtx : w.heap.size ≤ gx
  gty : gx < gy
theorem RPadI.atx {w W : World} {gx gy k : Nat} {D : List Int} (h : RPadI w gx gy D k W) (hD : D.length = 64) (hk : k < 64) : W.cell? ⟨gx, k, none⟩ = some (.int .u8 0) := by
  rw [blk_cell h.xx k, nums_get (by simp; omega), List.getD, List.getElem?_append_right (by simp; omega), List.length_map, List.length_take, hD, Nat.min_eq_left (show k ≤ 64 by omega), Nat.sub_self, List.getElem?_replicate, if_pos (by omega)]
  rfl
theorem RPadI.aty {w W : World} {gx gy k : Nat} {D : List Int} (h : RPadI w gx gy D k W) (hD : D.length = 64) (hk : k < 64) : W.cell? ⟨gy, k, none⟩ = some (.int .u8 0) := by
  rw [blk_cell h.yy k, nums_get (by simp; omega), List.getD, List.getElem?_append_right (by simp; omega), List.length_map, List.length_take, hD, Nat.min_eq_left (show k ≤ 64 by omega), Nat.sub_self, List.getElem?_replicate, if_pos (by omega)]
  rfl
theorem RPadI.put {w W : World} {gx gy k : Nat} {D : List Int} (h : RPadI w gx gy D k W) (hD : D.length = 64) (hk : k < 64) (x y : Int) (hx : x = xr (D.getD k 0) 54) (hy : y = xr (D.getD k 0) 92) :
    RPadI w gx gy D (k + 1) ((W.setCell ⟨gx, k, none⟩ (.int .u8 x)).setCell ⟨gy, k, none⟩ (.int .u8 y)) := by
  have a := h.gtx
  have b := h.gty
  refine ⟨(h.bel.setCell (by simp; omega) _).setCell (by simp; omega) _, ?_, ?_, a, b⟩
  · refine (Below.heap_setCell _ _ _ _ (by simp; omega)).trans ?_
    rw [blk_set h.xx, nums_set, hx, set_done (by omega) 54 (by simp; omega), List.drop_replicate, Nat.sub_sub]
  · have hb : (W.setCell ⟨gx, k, none⟩ (.int .u8 x)).heap[gy]? = _ := (Below.heap_setCell W _ _ _ (by simp; omega)).trans h.yy
    rw [blk_set hb, nums_set, hy, set_done (by omega) 92 (by simp; omega), List.drop_replicate, Nat.sub_sub]
theorem convRow64 (W : World) (g : Nat) (X : List Int) (hX : X.length = 64) (h : W.heap[g]? = some (.cells (nums X).toArray 5 (0, 0))) : (convert 40 9 (.slice (some ⟨g, 0, none⟩) 64 64)).run Try.prog W = .ok (.string (strOfNums X)) W :=
  run_convert_bytes_arg W _ _ Try.underlying40 Try.underlying5 g 0 64 64 X hX (fun j hj => by rw [Nat.zero_add, blk_cell h j]; exact nums_get (by omega)) _ Try.underlying9


theorem made_bytes (n : Nat) : madeCells #[.int .u8 0] n = (nums (List.replicate n 0)).toArray := by
  apply Array.ext
  · simp [madeCells, nums]
  · intro i h1 h2
    simp [madeCells, nums, Nat.mod_one]
/-- make([]byte, n). -/
theorem wpList_make_bytes {P : Program} {ops : Array Oper} {rest : List Oper} {op : Oper} {a : Act} {w : World} {Q : Exit → Act → World → Prop} (hgd : op.guard = none) (t : TypeId) (x y : Operand) (ho : op.op = .makeSlice t x y)
    (e : TypeId) (ht : P.underlying t = some (.slice e)) (hinfo : (P.info? e).map (fun i => (i.zero, i.size, i.bytes)) = some (some (.int .u8 0), 1, 1)) (n : Nat) (hx : a.eval x = .int .i64 n) (hy : a.eval y = .int .i64 n) (hn : n ≤ 140737488355328)
    (h : wpList P ops Q rest (a.put op.dst (.slice (some ⟨w.heap.size, 0, none⟩) n n)) (w.alloc (.cells (nums (List.replicate n 0)).toArray e (0, 0)))) : wpList P ops Q (op :: rest) a w := by
  obtain ⟨i0, hi, hz0, hz1, hz2⟩ := info_parts hinfo
  have hr := run_make (P := P) w t e i0 (.int .u8 0) ht hi hz0 .i64 .i64 n n (by omega) (Int.le_refl _) (by rw [hz2]; omega) (by omega)
  rw [hz1, Int.toNat_natCast, Nat.mul_one, show Value.cells (.int .u8 0) = #[.int .u8 0] from rfl, made_bytes] at hr
  refine wpList_plain hgd fun K hK => ?_
  have hK' := hK _ _ h
  unfold Oper.wp execOp
  simp only [ho, hx, hy, Sem.run_bind, hr, Result.andThen_ok, Sem.run_pure]
  exact hK'
theorem rpad_start {w W : World} {D : List Int} (hb : Below w.heap.size w W) : RPadI w W.heap.size (W.heap.size + 1) D 0 ((W.alloc (.cells (nums zero64).toArray 5 (0, 0))).alloc (.cells (nums zero64).toArray 5 (0, 0))) :=
  ⟨hb.trans ((((Below.refl _ W).alloc (Nat.le_refl _) _).alloc (by simp) _).mono hb.size), get_below (get_top rfl), get_top (by simp), hb.size, by omega⟩
theorem kpad_get {k : ByteArray} {i : Nat} (hi : i < 64) : (kpad (bytesOf k)).getD i 0 = if h : i < k.size then ((k[i]).toNat : Int) else 0 := by
  have hl := bytesOf_length k
  split
  · rename_i h
    rw [kpad, List.getD, List.getElem?_append_left (by omega), bytesOf, List.getElem?_map]
    have : i < k.data.toList.length := by rw [Array.length_toList]; exact h
    rw [List.getElem?_eq_getElem this]
    simp
    rfl
  · rw [kpad, List.getD, List.getElem?_append_right (by omega), List.getElem?_replicate, if_pos (by omega)]
    rfl
set_option maxRecDepth 100000 in
set_option maxHeartbeats 3200000 in
theorem refMac_any (key s : ByteArray) (hk : key.size ≤ 900000) (hs : s.size ≤ 900000) (w : World) :
    Calls Try.prog 20 #[.string key, .string s] w fun e w' => e = .returned (.string (strOfNums (hmac (bytesOf key) (bytesOf s)))) ∧ Below w.heap.size w w' := by
  have hl := bytesOf_length key
  have HKL := Lib.hid hl
  obtain ⟨KB, hKB⟩ : ∃ K, K = bytesOf key := ⟨_, rfl⟩
  rw [← hKB]
  have HKB := Lib.hid hKB
  clear hl hKB
  go_enter Try.func20, Try.ntmps20
  by_cases hbig : 64 < key.size
  · go_wp2_with fail
    refine (refSum_any key (by omega) _).mono ?_
    rintro e W1 ⟨rfl, hb1⟩
    have hkk : kblk KB = kpad (bytesOf (strOfNums (sha (bytesOf key)))) := by rw [bytesOf_strOfNums _ (sha_b _), kblk, HKB.out, if_pos (by rw [HKL.out]; exact hbig)]
    have hk64 : (strOfNums (sha (bytesOf key))).size ≤ 64 := by rw [strOfNums_size, sha_length]; omega
    obtain ⟨K0, hK0⟩ : ∃ K, K = strOfNums (sha (bytesOf key)) := ⟨_, rfl⟩
    rw [← hK0] at hkk hk64
    rw [← hK0]
    have HP0 := Lib.hid (rpad_start (D := kblk KB) hb1)
    have HKK := Lib.hid hkk
    clear hb1 hK0 hkk
    go_wp2_with (refine wpList_make_bytes (by rfl) 40 _ _ (by rfl) 5 Try.underlying40 infoByte 64 (by rfl) (by rfl) (by omega) ?_)
    obtain ⟨gx, hgx⟩ : ∃ g, g = W1.heap.size := ⟨_, rfl⟩
    rw [← hgx] at HP0
    try rw [← hgx]
    clear hgx
    have hI64 : (ipad KB).length = 64 := ipad_length KB
    have hO64 : (opad KB).length = 64 := opad_length KB
    have hD64 := kblk_length KB
    have hDB : Bs (kblk KB) := by rw [HKK.out]; exact kpad_b (bytesOf_range _)
    obtain ⟨I, hI⟩ : ∃ I, I = ipad KB := ⟨_, rfl⟩
    obtain ⟨O, hO⟩ : ∃ O, O = opad KB := ⟨_, rfl⟩
    obtain ⟨D, hD⟩ : ∃ D, D = kblk KB := ⟨_, rfl⟩
    have hID : D.map (fun x => xr x 54) = I := by rw [hI, hD, ipad]
    have hOD : D.map (fun x => xr x 92) = O := by rw [hO, hD, opad]
    have hfin : hmac KB (bytesOf s) = sha (O ++ sha (I ++ bytesOf s)) := by rw [hmac, hO, hI]
    rw [← hD] at HP0 hDB hD64 HKK
    rw [← hI] at hI64
    rw [← hO] at hO64
    have HD := Lib.hid hD64
    have HDB := Lib.hid hDB
    have HI64 := Lib.hid hI64
    have HO64 := Lib.hid hO64
    have HID := Lib.hid hID
    have HOD := Lib.hid hOD
    have HFIN := Lib.hid hfin
    have HIB : Hid (Bs I) := by rw [← hID]; exact Lib.hid (xmap_b hDB 54 (by omega))
    have HOB : Hid (Bs O) := by rw [← hOD]; exact Lib.hid (xmap_b hDB 92 (by omega))
    clear hI64 hO64 hD64 hID hOD hI hO hD hDB hfin
    go_loopg [7] 64 (fun j i wr => ∃ k : Nat, j + k = 64 ∧ i = .int .i64 (k : Int) ∧ RPadI w gx (gx + 1) D k wr)
    case atStart => exact ⟨0, rfl, rfl, HP0.out⟩
    case round =>
      clear HP0
      obtain ⟨k, hk, rfl, hI⟩ := hrel
      by_cases hlt : k < 64
      · have cx := hI.atx HD.out hlt
        have cy := hI.aty HD.out hlt
        have fx := blk_frozen hI.xx k
        have fy := blk_frozen hI.yy k
        have hd := HDB.out.get k
        have hp := fun x y => hI.put HD.out hlt x y
        have hg := kpad_get (k := K0) hlt
        rw [← HKK.out] at hg
        obtain ⟨d, hdd⟩ : ∃ d, d = D.getD k 0 := ⟨_, rfl⟩
        rw [← hdd] at hd hg
        simp only [← hdd] at hp
        obtain ⟨y, e1⟩ : ∃ y, bits .xor .u8 d 92 = y := ⟨_, rfl⟩
        obtain ⟨x, e2⟩ : ∃ x, bits .xor .u8 d 54 = x := ⟨_, rfl⟩
        have HP := Lib.hid (hp x y (by rw [← e2, xor_u8 hd (by omega)]) (by rw [← e1, xor_u8 hd (by omega)]))
        have q5 : (k : Int) < 64 := by omega
        have q7 : (0 : Int) ≤ (k : Int) := by omega
        clear hp hdd hd hI
        by_cases hin : k < K0.size
        · rw [dif_pos hin] at hg
          have hgs := hg.symm
          clear hg
          go_wp2_with fail
          go_roundg (gk - 1)
          case measure => omega
          case rel => exact ⟨k + 1, by omega, by go_num, HP.out⟩
        · rw [dif_neg hin] at hg
          subst hg
          go_wp2_with fail
          go_roundg (gk - 1)
          case measure => omega
          case rel => exact ⟨k + 1, by omega, by go_num, HP.out⟩
      · obtain rfl : k = 64 := by omega
        have hx := hI.xx
        have hy := hI.yy
        rw [List.take_of_length_le (by rw [HD.out]; omega), Nat.sub_self, List.replicate_zero, List.append_nil, HID.out] at hx
        rw [List.take_of_length_le (by rw [HD.out]; omega), Nat.sub_self, List.replicate_zero, List.append_nil, HOD.out] at hy
        have hc1 := convRow64 wr.drew gx I HI64.out hx
        have hc2 := convRow64 wr.drew (gx + 1) O HO64.out hy
        have hsx : (strOfNums I).size = 64 := by rw [strOfNums_size, HI64.out]
        have hso : (strOfNums O).size = 64 := by rw [strOfNums_size, HO64.out]
        have hbx : bytesOf (strOfNums I) = I := bytesOf_strOfNums _ HIB.out
        have hbo : bytesOf (strOfNums O) = O := bytesOf_strOfNums _ HOB.out
        obtain ⟨SX, hSX⟩ : ∃ S, S = strOfNums I := ⟨_, rfl⟩
        obtain ⟨SO, hSO⟩ : ∃ S, S = strOfNums O := ⟨_, rfl⟩
        rw [← hSX] at hc1 hsx hbx
        rw [← hSO] at hc2 hso hbo
        have HX := Lib.hid hx
        have HY := Lib.hid hy
        have HC1 := Lib.hid hc1
        have HC2 := Lib.hid hc2
        have HSX := Lib.hid hsx
        have HSO := Lib.hid hso
        have HBX := Lib.hid hbx
        have HBO := Lib.hid hbo
        have HBEL := Lib.hid hI.bel
        have HSOE := Lib.hid hSO
        clear hI hx hy hc1 hc2 hsx hso hbx hbo hSX hSO hlt hk
        go_wp2_with fail
        have HZ1 := Lib.hid (show SX.size + s.size ≤ 1000000 by have := HSX.out; omega)
        have hz1 : ¬ 9223372036854775807 < SX.size + s.size := by have := HZ1.out; omega
        refine wp_region_any (by kernel_rfl) ?_
        change wpAny _ _ _ _ _ _ _ (World.drew wr)
        refine takeU (v := ?_) 0 rfl (by kernel_rfl) (by kernel_rfl) (by kernel_rfl) (fun _ _ _ h => h) ?_ ?_
        rotate_left
        · intro w; go_simp; with_reducible rfl
        try simp only [Act.put, List.setIfInBounds_toArray, List.set_cons_zero, List.set_cons_succ]
        refine takeU (v := ?_) 2 rfl (by kernel_rfl) (by kernel_rfl) (by kernel_rfl) (fun _ _ _ h => h) ?_ ?_
        rotate_left
        · intro w; go_simp; with_reducible rfl
        try simp only [Act.put, List.setIfInBounds_toArray, List.set_cons_zero, List.set_cons_succ]
        refine takeU (v := ?_) 4 rfl (by kernel_rfl) (by kernel_rfl) (by kernel_rfl) (fun _ _ _ h => h) ?_ ?_
        rotate_left
        · intro w; go_simp; with_reducible rfl
        try simp only [Act.put, List.setIfInBounds_toArray, List.set_cons_zero, List.set_cons_succ]
        refine wpAny_ready (rs := [1, 3]) (by kernel_rfl) (by simp) ?_
        refine consConv (by rfl) _ (.string SO) (by rfl) HC2.out ?_ ?_
        · try simp only [Act.put, List.setIfInBounds_toArray, List.set_cons_zero, List.set_cons_succ]
          refine wpAny_ready (rs := [3]) (by kernel_rfl) (by simp) ?_
          refine consConv (by rfl) _ (.string SX) (by rfl) HC1.out ?_ AllReady.nil
          try simp only [Act.put, List.setIfInBounds_toArray, List.set_cons_zero, List.set_cons_succ]
          refine takeU (v := ?_) 5 rfl (by kernel_rfl) (by kernel_rfl) (by kernel_rfl) (fun _ _ _ h => h) ?_ ?_
          rotate_left
          · intro w; go_simp; with_reducible rfl
          try simp only [Act.put, List.setIfInBounds_toArray, List.set_cons_zero, List.set_cons_succ]
          refine wpAny_ready (rs := [6]) (by kernel_rfl) (by simp) ?_
          refine consU (by rfl) (fun K hK => ?_) AllReady.nil
          go_simp
          refine (refSum_any (SX ++ s) (by rw [ByteArray.size_append]; exact HZ1.out) _).mono ?_
          rintro e W3 ⟨rfl, hb3⟩
          dsimp only
          refine hK _ _ ?_
          clear hK K
          try simp only [Act.put, List.setIfInBounds_toArray, List.set_cons_zero, List.set_cons_succ]
          have hz2 : (strOfNums (sha (bytesOf (SX ++ s)))).size ≤ 32 := by rw [strOfNums_size, sha_length]; exact Nat.le_refl _
          obtain ⟨T, hT⟩ : ∃ T, T = strOfNums (sha (bytesOf (SX ++ s))) := ⟨_, rfl⟩
          rw [← hT] at hz2
          rw [← hT]
          have HT := Lib.hid hT
          clear hT
          have HZ3 := Lib.hid (show SO.size + T.size ≤ 1000000 by have := HSO.out; omega)
          have hz3 : ¬ 9223372036854775807 < SO.size + T.size := by have := HZ3.out; omega
          refine takeU (v := ?_) 7 rfl (by kernel_rfl) (by kernel_rfl) (by kernel_rfl) (fun _ _ _ h => h) ?_ ?_
          rotate_left
          · intro w; go_simp; with_reducible rfl
          try simp only [Act.put, List.setIfInBounds_toArray, List.set_cons_zero, List.set_cons_succ]
          refine wpAny_ready (rs := [8]) (by kernel_rfl) (by simp) ?_
          refine consU (by rfl) (fun K hK => ?_) AllReady.nil
          go_simp
          refine (refSum_any (SO ++ T) (by rw [ByteArray.size_append]; exact HZ3.out) _).mono ?_
          rintro e W4 ⟨rfl, hb4⟩
          dsimp only
          refine hK _ _ ?_
          clear hK K
          try simp only [Act.put, List.setIfInBounds_toArray, List.set_cons_zero, List.set_cons_succ]
          refine takeU (v := ?_) 9 rfl (by kernel_rfl) (by kernel_rfl) (by kernel_rfl) (fun _ _ _ h => h) ?_ ?_
          rotate_left
          · intro w; go_simp; with_reducible rfl
          try simp only [Act.put, List.setIfInBounds_toArray, List.set_cons_zero, List.set_cons_succ]
          refine wpAny_done (by kernel_rfl) ?_ _
          have hf := HFIN.out
          have hT2 : bytesOf T = sha (bytesOf (SX ++ s)) := by rw [HT.out, bytesOf_strOfNums _ (sha_b _)]
          have hres : sha (bytesOf (SO ++ T)) = hmac KB (bytesOf s) := by rw [hf, bytesOf_append, hT2, bytesOf_append, HBX.out, HBO.out]
          rw [hres]
          have HBE := Lib.hid ((HBEL.out.drew.trans (hb3.mono HBEL.out.size)).trans (hb4.mono (Nat.le_trans HBEL.out.size hb3.size)))
          clear hf hT2 hres hb3 hb4 hz1 hz2 hz3
          go_wp2_with fail
          go_ret
          exact ⟨rfl, HBE.out⟩
        refine consConv (by rfl) _ (.string SX) (by rfl) HC1.out ?_ AllReady.nil
        try simp only [Act.put, List.setIfInBounds_toArray, List.set_cons_zero, List.set_cons_succ]
        refine takeU (v := ?_) 5 rfl (by kernel_rfl) (by kernel_rfl) (by kernel_rfl) (fun _ _ _ h => h) ?_ ?_
        rotate_left
        · intro w; go_simp; with_reducible rfl
        try simp only [Act.put, List.setIfInBounds_toArray, List.set_cons_zero, List.set_cons_succ]
        refine wpAny_ready (rs := [1, 6]) (by kernel_rfl) (by simp) ?_
        refine consConv (by rfl) _ (.string SO) (by rfl) HC2.out ?_ ?_
        · try simp only [Act.put, List.setIfInBounds_toArray, List.set_cons_zero, List.set_cons_succ]
          refine wpAny_ready (rs := [6]) (by kernel_rfl) (by simp) ?_
          refine consU (by rfl) (fun K hK => ?_) AllReady.nil
          go_simp
          refine (refSum_any (SX ++ s) (by rw [ByteArray.size_append]; exact HZ1.out) _).mono ?_
          rintro e W3 ⟨rfl, hb3⟩
          dsimp only
          refine hK _ _ ?_
          clear hK K
          try simp only [Act.put, List.setIfInBounds_toArray, List.set_cons_zero, List.set_cons_succ]
          have hz2 : (strOfNums (sha (bytesOf (SX ++ s)))).size ≤ 32 := by rw [strOfNums_size, sha_length]; exact Nat.le_refl _
          obtain ⟨T, hT⟩ : ∃ T, T = strOfNums (sha (bytesOf (SX ++ s))) := ⟨_, rfl⟩
          rw [← hT] at hz2
          rw [← hT]
          have HT := Lib.hid hT
          clear hT
          have HZ3 := Lib.hid (show SO.size + T.size ≤ 1000000 by have := HSO.out; omega)
          have hz3 : ¬ 9223372036854775807 < SO.size + T.size := by have := HZ3.out; omega
          refine takeU (v := ?_) 7 rfl (by kernel_rfl) (by kernel_rfl) (by kernel_rfl) (fun _ _ _ h => h) ?_ ?_
          rotate_left
          · intro w; go_simp; with_reducible rfl
          try simp only [Act.put, List.setIfInBounds_toArray, List.set_cons_zero, List.set_cons_succ]
          refine wpAny_ready (rs := [8]) (by kernel_rfl) (by simp) ?_
          refine consU (by rfl) (fun K hK => ?_) AllReady.nil
          go_simp
          refine (refSum_any (SO ++ T) (by rw [ByteArray.size_append]; exact HZ3.out) _).mono ?_
          rintro e W4 ⟨rfl, hb4⟩
          dsimp only
          refine hK _ _ ?_
          clear hK K
          try simp only [Act.put, List.setIfInBounds_toArray, List.set_cons_zero, List.set_cons_succ]
          refine takeU (v := ?_) 9 rfl (by kernel_rfl) (by kernel_rfl) (by kernel_rfl) (fun _ _ _ h => h) ?_ ?_
          rotate_left
          · intro w; go_simp; with_reducible rfl
          try simp only [Act.put, List.setIfInBounds_toArray, List.set_cons_zero, List.set_cons_succ]
          refine wpAny_done (by kernel_rfl) ?_ _
          have hf := HFIN.out
          have hT2 : bytesOf T = sha (bytesOf (SX ++ s)) := by rw [HT.out, bytesOf_strOfNums _ (sha_b _)]
          have hres : sha (bytesOf (SO ++ T)) = hmac KB (bytesOf s) := by rw [hf, bytesOf_append, hT2, bytesOf_append, HBX.out, HBO.out]
          rw [hres]
          have HBE := Lib.hid ((HBEL.out.drew.trans (hb3.mono HBEL.out.size)).trans (hb4.mono (Nat.le_trans HBEL.out.size hb3.size)))
          clear hf hT2 hres hb3 hb4 hz1 hz2 hz3
          go_wp2_with fail
          go_ret
          exact ⟨rfl, HBE.out⟩
        refine consU (by rfl) (fun K hK => ?_) AllReady.nil
        go_simp
        refine (refSum_any (SX ++ s) (by rw [ByteArray.size_append]; exact HZ1.out) _).mono ?_
        rintro e W3 ⟨rfl, hb3⟩
        dsimp only
        refine hK _ _ ?_
        clear hK K
        try simp only [Act.put, List.setIfInBounds_toArray, List.set_cons_zero, List.set_cons_succ]
        have hz2 : (strOfNums (sha (bytesOf (SX ++ s)))).size ≤ 32 := by rw [strOfNums_size, sha_length]; exact Nat.le_refl _
        obtain ⟨T, hT⟩ : ∃ T, T = strOfNums (sha (bytesOf (SX ++ s))) := ⟨_, rfl⟩
        rw [← hT] at hz2
        rw [← hT]
        have HT := Lib.hid hT
        clear hT
        have HZ3 := Lib.hid (show SO.size + T.size ≤ 1000000 by have := HSO.out; omega)
        have hz3 : ¬ 9223372036854775807 < SO.size + T.size := by have := HZ3.out; omega
        have hc3 := convRow64 W3 (gx + 1) O HO64.out ((hb3.block _ (blk_lt HY.out)).trans HY.out)
        rw [← HSOE.out] at hc3
        have HC3 := Lib.hid hc3
        clear hc3
        refine wpAny_ready (rs := [1]) (by kernel_rfl) (by simp) ?_
        refine consConv (by rfl) _ (.string SO) (by rfl) HC3.out ?_ AllReady.nil
        try simp only [Act.put, List.setIfInBounds_toArray, List.set_cons_zero, List.set_cons_succ]
        refine takeU (v := ?_) 7 rfl (by kernel_rfl) (by kernel_rfl) (by kernel_rfl) (fun _ _ _ h => h) ?_ ?_
        rotate_left
        · intro w; go_simp; with_reducible rfl
        try simp only [Act.put, List.setIfInBounds_toArray, List.set_cons_zero, List.set_cons_succ]
        refine wpAny_ready (rs := [8]) (by kernel_rfl) (by simp) ?_
        refine consU (by rfl) (fun K hK => ?_) AllReady.nil
        go_simp
        refine (refSum_any (SO ++ T) (by rw [ByteArray.size_append]; exact HZ3.out) _).mono ?_
        rintro e W4 ⟨rfl, hb4⟩
        dsimp only
        refine hK _ _ ?_
        clear hK K
        try simp only [Act.put, List.setIfInBounds_toArray, List.set_cons_zero, List.set_cons_succ]
        refine takeU (v := ?_) 9 rfl (by kernel_rfl) (by kernel_rfl) (by kernel_rfl) (fun _ _ _ h => h) ?_ ?_
        rotate_left
        · intro w; go_simp; with_reducible rfl
        try simp only [Act.put, List.setIfInBounds_toArray, List.set_cons_zero, List.set_cons_succ]
        refine wpAny_done (by kernel_rfl) ?_ _
        have hf := HFIN.out
        have hT2 : bytesOf T = sha (bytesOf (SX ++ s)) := by rw [HT.out, bytesOf_strOfNums _ (sha_b _)]
        have hres : sha (bytesOf (SO ++ T)) = hmac KB (bytesOf s) := by rw [hf, bytesOf_append, hT2, bytesOf_append, HBX.out, HBO.out]
        rw [hres]
        have HBE := Lib.hid ((HBEL.out.drew.trans (hb3.mono HBEL.out.size)).trans (hb4.mono (Nat.le_trans HBEL.out.size hb3.size)))
        clear hf hT2 hres hb3 hb4 hz1 hz2 hz3
        go_wp2_with fail
        go_ret
        exact ⟨rfl, HBE.out⟩
  · have hkk : kblk KB = kpad (bytesOf key) := by rw [kblk, HKB.out, if_neg (by rw [HKL.out]; exact hbig)]
    obtain ⟨K0, hK0⟩ : ∃ K, K = key := ⟨_, rfl⟩
    have hk64 : K0.size ≤ 64 := by rw [hK0]; omega
    rw [← hK0] at hkk
    have HP0 := Lib.hid (rpad_start (D := kblk KB) (Below.refl _ w))
    have HKK := Lib.hid hkk
    clear hkk
    go_wp2_with (refine wpList_make_bytes (by rfl) 40 _ _ (by rfl) 5 Try.underlying40 infoByte 64 (by rfl) (by rfl) (by omega) ?_)
    obtain ⟨gx, hgx⟩ : ∃ g, g = w.heap.size := ⟨_, rfl⟩
    rw [← hgx] at HP0
    try rw [← hgx]
    clear hgx
    try rw [← hK0]
    clear hK0
    have hI64 : (ipad KB).length = 64 := ipad_length KB
    have hO64 : (opad KB).length = 64 := opad_length KB
    have hD64 := kblk_length KB
    have hDB : Bs (kblk KB) := by rw [HKK.out]; exact kpad_b (bytesOf_range _)
    obtain ⟨I, hI⟩ : ∃ I, I = ipad KB := ⟨_, rfl⟩
    obtain ⟨O, hO⟩ : ∃ O, O = opad KB := ⟨_, rfl⟩
    obtain ⟨D, hD⟩ : ∃ D, D = kblk KB := ⟨_, rfl⟩
    have hID : D.map (fun x => xr x 54) = I := by rw [hI, hD, ipad]
    have hOD : D.map (fun x => xr x 92) = O := by rw [hO, hD, opad]
    have hfin : hmac KB (bytesOf s) = sha (O ++ sha (I ++ bytesOf s)) := by rw [hmac, hO, hI]
    rw [← hD] at HP0 hDB hD64 HKK
    rw [← hI] at hI64
    rw [← hO] at hO64
    have HD := Lib.hid hD64
    have HDB := Lib.hid hDB
    have HI64 := Lib.hid hI64
    have HO64 := Lib.hid hO64
    have HID := Lib.hid hID
    have HOD := Lib.hid hOD
    have HFIN := Lib.hid hfin
    have HIB : Hid (Bs I) := by rw [← hID]; exact Lib.hid (xmap_b hDB 54 (by omega))
    have HOB : Hid (Bs O) := by rw [← hOD]; exact Lib.hid (xmap_b hDB 92 (by omega))
    clear hI64 hO64 hD64 hID hOD hI hO hD hDB hfin
    go_loopg [7] 64 (fun j i wr => ∃ k : Nat, j + k = 64 ∧ i = .int .i64 (k : Int) ∧ RPadI w gx (gx + 1) D k wr)
    case atStart => exact ⟨0, rfl, rfl, HP0.out⟩
    case round =>
      clear HP0
      obtain ⟨k, hk, rfl, hI⟩ := hrel
      by_cases hlt : k < 64
      · have cx := hI.atx HD.out hlt
        have cy := hI.aty HD.out hlt
        have fx := blk_frozen hI.xx k
        have fy := blk_frozen hI.yy k
        have hd := HDB.out.get k
        have hp := fun x y => hI.put HD.out hlt x y
        have hg := kpad_get (k := K0) hlt
        rw [← HKK.out] at hg
        obtain ⟨d, hdd⟩ : ∃ d, d = D.getD k 0 := ⟨_, rfl⟩
        rw [← hdd] at hd hg
        simp only [← hdd] at hp
        obtain ⟨y, e1⟩ : ∃ y, bits .xor .u8 d 92 = y := ⟨_, rfl⟩
        obtain ⟨x, e2⟩ : ∃ x, bits .xor .u8 d 54 = x := ⟨_, rfl⟩
        have HP := Lib.hid (hp x y (by rw [← e2, xor_u8 hd (by omega)]) (by rw [← e1, xor_u8 hd (by omega)]))
        have q5 : (k : Int) < 64 := by omega
        have q7 : (0 : Int) ≤ (k : Int) := by omega
        clear hp hdd hd hI
        by_cases hin : k < K0.size
        · rw [dif_pos hin] at hg
          have hgs := hg.symm
          clear hg
          go_wp2_with fail
          go_roundg (gk - 1)
          case measure => omega
          case rel => exact ⟨k + 1, by omega, by go_num, HP.out⟩
        · rw [dif_neg hin] at hg
          subst hg
          go_wp2_with fail
          go_roundg (gk - 1)
          case measure => omega
          case rel => exact ⟨k + 1, by omega, by go_num, HP.out⟩
      · obtain rfl : k = 64 := by omega
        have hx := hI.xx
        have hy := hI.yy
        rw [List.take_of_length_le (by rw [HD.out]; omega), Nat.sub_self, List.replicate_zero, List.append_nil, HID.out] at hx
        rw [List.take_of_length_le (by rw [HD.out]; omega), Nat.sub_self, List.replicate_zero, List.append_nil, HOD.out] at hy
        have hc1 := convRow64 wr.drew gx I HI64.out hx
        have hc2 := convRow64 wr.drew (gx + 1) O HO64.out hy
        have hsx : (strOfNums I).size = 64 := by rw [strOfNums_size, HI64.out]
        have hso : (strOfNums O).size = 64 := by rw [strOfNums_size, HO64.out]
        have hbx : bytesOf (strOfNums I) = I := bytesOf_strOfNums _ HIB.out
        have hbo : bytesOf (strOfNums O) = O := bytesOf_strOfNums _ HOB.out
        obtain ⟨SX, hSX⟩ : ∃ S, S = strOfNums I := ⟨_, rfl⟩
        obtain ⟨SO, hSO⟩ : ∃ S, S = strOfNums O := ⟨_, rfl⟩
        rw [← hSX] at hc1 hsx hbx
        rw [← hSO] at hc2 hso hbo
        have HX := Lib.hid hx
        have HY := Lib.hid hy
        have HC1 := Lib.hid hc1
        have HC2 := Lib.hid hc2
        have HSX := Lib.hid hsx
        have HSO := Lib.hid hso
        have HBX := Lib.hid hbx
        have HBO := Lib.hid hbo
        have HBEL := Lib.hid hI.bel
        have HSOE := Lib.hid hSO
        clear hI hx hy hc1 hc2 hsx hso hbx hbo hSX hSO hlt hk
        go_wp2_with fail
        have HZ1 := Lib.hid (show SX.size + s.size ≤ 1000000 by have := HSX.out; omega)
        have hz1 : ¬ 9223372036854775807 < SX.size + s.size := by have := HZ1.out; omega
        refine wp_region_any (by kernel_rfl) ?_
        change wpAny _ _ _ _ _ _ _ (World.drew wr)
        refine takeU (v := ?_) 0 rfl (by kernel_rfl) (by kernel_rfl) (by kernel_rfl) (fun _ _ _ h => h) ?_ ?_
        rotate_left
        · intro w; go_simp; with_reducible rfl
        try simp only [Act.put, List.setIfInBounds_toArray, List.set_cons_zero, List.set_cons_succ]
        refine takeU (v := ?_) 2 rfl (by kernel_rfl) (by kernel_rfl) (by kernel_rfl) (fun _ _ _ h => h) ?_ ?_
        rotate_left
        · intro w; go_simp; with_reducible rfl
        try simp only [Act.put, List.setIfInBounds_toArray, List.set_cons_zero, List.set_cons_succ]
        refine takeU (v := ?_) 4 rfl (by kernel_rfl) (by kernel_rfl) (by kernel_rfl) (fun _ _ _ h => h) ?_ ?_
        rotate_left
        · intro w; go_simp; with_reducible rfl
        try simp only [Act.put, List.setIfInBounds_toArray, List.set_cons_zero, List.set_cons_succ]
        refine wpAny_ready (rs := [1, 3]) (by kernel_rfl) (by simp) ?_
        refine consConv (by rfl) _ (.string SO) (by rfl) HC2.out ?_ ?_
        · try simp only [Act.put, List.setIfInBounds_toArray, List.set_cons_zero, List.set_cons_succ]
          refine wpAny_ready (rs := [3]) (by kernel_rfl) (by simp) ?_
          refine consConv (by rfl) _ (.string SX) (by rfl) HC1.out ?_ AllReady.nil
          try simp only [Act.put, List.setIfInBounds_toArray, List.set_cons_zero, List.set_cons_succ]
          refine takeU (v := ?_) 5 rfl (by kernel_rfl) (by kernel_rfl) (by kernel_rfl) (fun _ _ _ h => h) ?_ ?_
          rotate_left
          · intro w; go_simp; with_reducible rfl
          try simp only [Act.put, List.setIfInBounds_toArray, List.set_cons_zero, List.set_cons_succ]
          refine wpAny_ready (rs := [6]) (by kernel_rfl) (by simp) ?_
          refine consU (by rfl) (fun K hK => ?_) AllReady.nil
          go_simp
          refine (refSum_any (SX ++ s) (by rw [ByteArray.size_append]; exact HZ1.out) _).mono ?_
          rintro e W3 ⟨rfl, hb3⟩
          dsimp only
          refine hK _ _ ?_
          clear hK K
          try simp only [Act.put, List.setIfInBounds_toArray, List.set_cons_zero, List.set_cons_succ]
          have hz2 : (strOfNums (sha (bytesOf (SX ++ s)))).size ≤ 32 := by rw [strOfNums_size, sha_length]; exact Nat.le_refl _
          obtain ⟨T, hT⟩ : ∃ T, T = strOfNums (sha (bytesOf (SX ++ s))) := ⟨_, rfl⟩
          rw [← hT] at hz2
          rw [← hT]
          have HT := Lib.hid hT
          clear hT
          have HZ3 := Lib.hid (show SO.size + T.size ≤ 1000000 by have := HSO.out; omega)
          have hz3 : ¬ 9223372036854775807 < SO.size + T.size := by have := HZ3.out; omega
          refine takeU (v := ?_) 7 rfl (by kernel_rfl) (by kernel_rfl) (by kernel_rfl) (fun _ _ _ h => h) ?_ ?_
          rotate_left
          · intro w; go_simp; with_reducible rfl
          try simp only [Act.put, List.setIfInBounds_toArray, List.set_cons_zero, List.set_cons_succ]
          refine wpAny_ready (rs := [8]) (by kernel_rfl) (by simp) ?_
          refine consU (by rfl) (fun K hK => ?_) AllReady.nil
          go_simp
          refine (refSum_any (SO ++ T) (by rw [ByteArray.size_append]; exact HZ3.out) _).mono ?_
          rintro e W4 ⟨rfl, hb4⟩
          dsimp only
          refine hK _ _ ?_
          clear hK K
          try simp only [Act.put, List.setIfInBounds_toArray, List.set_cons_zero, List.set_cons_succ]
          refine takeU (v := ?_) 9 rfl (by kernel_rfl) (by kernel_rfl) (by kernel_rfl) (fun _ _ _ h => h) ?_ ?_
          rotate_left
          · intro w; go_simp; with_reducible rfl
          try simp only [Act.put, List.setIfInBounds_toArray, List.set_cons_zero, List.set_cons_succ]
          refine wpAny_done (by kernel_rfl) ?_ _
          have hf := HFIN.out
          have hT2 : bytesOf T = sha (bytesOf (SX ++ s)) := by rw [HT.out, bytesOf_strOfNums _ (sha_b _)]
          have hres : sha (bytesOf (SO ++ T)) = hmac KB (bytesOf s) := by rw [hf, bytesOf_append, hT2, bytesOf_append, HBX.out, HBO.out]
          rw [hres]
          have HBE := Lib.hid ((HBEL.out.drew.trans (hb3.mono HBEL.out.size)).trans (hb4.mono (Nat.le_trans HBEL.out.size hb3.size)))
          clear hf hT2 hres hb3 hb4 hz1 hz2 hz3
          go_wp2_with fail
          go_ret
          exact ⟨rfl, HBE.out⟩
        refine consConv (by rfl) _ (.string SX) (by rfl) HC1.out ?_ AllReady.nil
        try simp only [Act.put, List.setIfInBounds_toArray, List.set_cons_zero, List.set_cons_succ]
        refine takeU (v := ?_) 5 rfl (by kernel_rfl) (by kernel_rfl) (by kernel_rfl) (fun _ _ _ h => h) ?_ ?_
        rotate_left
        · intro w; go_simp; with_reducible rfl
        try simp only [Act.put, List.setIfInBounds_toArray, List.set_cons_zero, List.set_cons_succ]
        refine wpAny_ready (rs := [1, 6]) (by kernel_rfl) (by simp) ?_
        refine consConv (by rfl) _ (.string SO) (by rfl) HC2.out ?_ ?_
        · try simp only [Act.put, List.setIfInBounds_toArray, List.set_cons_zero, List.set_cons_succ]
          refine wpAny_ready (rs := [6]) (by kernel_rfl) (by simp) ?_
          refine consU (by rfl) (fun K hK => ?_) AllReady.nil
          go_simp
          refine (refSum_any (SX ++ s) (by rw [ByteArray.size_append]; exact HZ1.out) _).mono ?_
          rintro e W3 ⟨rfl, hb3⟩
          dsimp only
          refine hK _ _ ?_
          clear hK K
          try simp only [Act.put, List.setIfInBounds_toArray, List.set_cons_zero, List.set_cons_succ]
          have hz2 : (strOfNums (sha (bytesOf (SX ++ s)))).size ≤ 32 := by rw [strOfNums_size, sha_length]; exact Nat.le_refl _
          obtain ⟨T, hT⟩ : ∃ T, T = strOfNums (sha (bytesOf (SX ++ s))) := ⟨_, rfl⟩
          rw [← hT] at hz2
          rw [← hT]
          have HT := Lib.hid hT
          clear hT
          have HZ3 := Lib.hid (show SO.size + T.size ≤ 1000000 by have := HSO.out; omega)
          have hz3 : ¬ 9223372036854775807 < SO.size + T.size := by have := HZ3.out; omega
          refine takeU (v := ?_) 7 rfl (by kernel_rfl) (by kernel_rfl) (by kernel_rfl) (fun _ _ _ h => h) ?_ ?_
          rotate_left
          · intro w; go_simp; with_reducible rfl
          try simp only [Act.put, List.setIfInBounds_toArray, List.set_cons_zero, List.set_cons_succ]
          refine wpAny_ready (rs := [8]) (by kernel_rfl) (by simp) ?_
          refine consU (by rfl) (fun K hK => ?_) AllReady.nil
          go_simp
          refine (refSum_any (SO ++ T) (by rw [ByteArray.size_append]; exact HZ3.out) _).mono ?_
          rintro e W4 ⟨rfl, hb4⟩
          dsimp only
          refine hK _ _ ?_
          clear hK K
          try simp only [Act.put, List.setIfInBounds_toArray, List.set_cons_zero, List.set_cons_succ]
          refine takeU (v := ?_) 9 rfl (by kernel_rfl) (by kernel_rfl) (by kernel_rfl) (fun _ _ _ h => h) ?_ ?_
          rotate_left
          · intro w; go_simp; with_reducible rfl
          try simp only [Act.put, List.setIfInBounds_toArray, List.set_cons_zero, List.set_cons_succ]
          refine wpAny_done (by kernel_rfl) ?_ _
          have hf := HFIN.out
          have hT2 : bytesOf T = sha (bytesOf (SX ++ s)) := by rw [HT.out, bytesOf_strOfNums _ (sha_b _)]
          have hres : sha (bytesOf (SO ++ T)) = hmac KB (bytesOf s) := by rw [hf, bytesOf_append, hT2, bytesOf_append, HBX.out, HBO.out]
          rw [hres]
          have HBE := Lib.hid ((HBEL.out.drew.trans (hb3.mono HBEL.out.size)).trans (hb4.mono (Nat.le_trans HBEL.out.size hb3.size)))
          clear hf hT2 hres hb3 hb4 hz1 hz2 hz3
          go_wp2_with fail
          go_ret
          exact ⟨rfl, HBE.out⟩
        refine consU (by rfl) (fun K hK => ?_) AllReady.nil
        go_simp
        refine (refSum_any (SX ++ s) (by rw [ByteArray.size_append]; exact HZ1.out) _).mono ?_
        rintro e W3 ⟨rfl, hb3⟩
        dsimp only
        refine hK _ _ ?_
        clear hK K
        try simp only [Act.put, List.setIfInBounds_toArray, List.set_cons_zero, List.set_cons_succ]
        have hz2 : (strOfNums (sha (bytesOf (SX ++ s)))).size ≤ 32 := by rw [strOfNums_size, sha_length]; exact Nat.le_refl _
        obtain ⟨T, hT⟩ : ∃ T, T = strOfNums (sha (bytesOf (SX ++ s))) := ⟨_, rfl⟩
        rw [← hT] at hz2
        rw [← hT]
        have HT := Lib.hid hT
        clear hT
        have HZ3 := Lib.hid (show SO.size + T.size ≤ 1000000 by have := HSO.out; omega)
        have hz3 : ¬ 9223372036854775807 < SO.size + T.size := by have := HZ3.out; omega
        have hc3 := convRow64 W3 (gx + 1) O HO64.out ((hb3.block _ (blk_lt HY.out)).trans HY.out)
        rw [← HSOE.out] at hc3
        have HC3 := Lib.hid hc3
        clear hc3
        refine wpAny_ready (rs := [1]) (by kernel_rfl) (by simp) ?_
        refine consConv (by rfl) _ (.string SO) (by rfl) HC3.out ?_ AllReady.nil
        try simp only [Act.put, List.setIfInBounds_toArray, List.set_cons_zero, List.set_cons_succ]
        refine takeU (v := ?_) 7 rfl (by kernel_rfl) (by kernel_rfl) (by kernel_rfl) (fun _ _ _ h => h) ?_ ?_
        rotate_left
        · intro w; go_simp; with_reducible rfl
        try simp only [Act.put, List.setIfInBounds_toArray, List.set_cons_zero, List.set_cons_succ]
        refine wpAny_ready (rs := [8]) (by kernel_rfl) (by simp) ?_
        refine consU (by rfl) (fun K hK => ?_) AllReady.nil
        go_simp
        refine (refSum_any (SO ++ T) (by rw [ByteArray.size_append]; exact HZ3.out) _).mono ?_
        rintro e W4 ⟨rfl, hb4⟩
        dsimp only
        refine hK _ _ ?_
        clear hK K
        try simp only [Act.put, List.setIfInBounds_toArray, List.set_cons_zero, List.set_cons_succ]
        refine takeU (v := ?_) 9 rfl (by kernel_rfl) (by kernel_rfl) (by kernel_rfl) (fun _ _ _ h => h) ?_ ?_
        rotate_left
        · intro w; go_simp; with_reducible rfl
        try simp only [Act.put, List.setIfInBounds_toArray, List.set_cons_zero, List.set_cons_succ]
        refine wpAny_done (by kernel_rfl) ?_ _
        have hf := HFIN.out
        have hT2 : bytesOf T = sha (bytesOf (SX ++ s)) := by rw [HT.out, bytesOf_strOfNums _ (sha_b _)]
        have hres : sha (bytesOf (SO ++ T)) = hmac KB (bytesOf s) := by rw [hf, bytesOf_append, hT2, bytesOf_append, HBX.out, HBO.out]
        rw [hres]
        have HBE := Lib.hid ((HBEL.out.drew.trans (hb3.mono HBEL.out.size)).trans (hb4.mono (Nat.le_trans HBEL.out.size hb3.size)))
        clear hf hT2 hres hb3 hb4 hz1 hz2 hz3
        go_wp2_with fail
        go_ret
        exact ⟨rfl, HBE.out⟩
end Go.Proofs.Ytobgnmellbgfmaa.B
