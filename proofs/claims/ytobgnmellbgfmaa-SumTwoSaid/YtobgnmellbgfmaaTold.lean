/-
  sum.Told, walked: the sum of all that a mix has taken.
-/
import Derived.Test.YtobgnmellbgfmaaNew
import Derived.Test.YtobgnmellbgfmaaFilled
namespace Go.Proofs.Ytobgnmellbgfmaa.B
open Go.RowKit
set_option linter.unusedVariables false
set_option linter.unusedSimpArgs false

/-- Told at work: its copy has taken cs. -/
structure ToldI (w : World) (gz : Nat) (cs : List Int) (W : World) : Prop where
  bel : Below w.heap.size w W
  mx : Mx W gz cs
theorem ToldI.fed {w W W1 : World} {gz : Nat} {cs ds : List Int} (h : ToldI w gz cs W) (hz : w.heap.size ≤ gz) (hm : Mx W1 gz ds) (hk : Keeps (fun i => i = gz) W W1) : ToldI w gz ds W1 :=
  ⟨h.bel.trans (hk.below h.bel.size (by intro i hi; omega)), hm⟩
theorem ToldI.below {w W W1 : World} {gz : Nat} {cs : List Int} (h : ToldI w gz cs W) (hb : Below W.heap.size W W1) : ToldI w gz cs W1 :=
  ⟨h.bel.trans (hb.mono h.bel.size), h.mx.below hb h.mx.lt⟩
theorem Mx.held {W : World} {g : Nat} {bs : List Int} (h : Mx W g bs) : W.cell? ⟨g, 72, none⟩ = some (.int .i64 ((bs.length % 64 : Nat) : Int)) := by
  obtain ⟨P, h1, h2, h3⟩ := h
  exact h2.held
theorem Mx.all {W : World} {g : Nat} {bs : List Int} (h : Mx W g bs) : W.cell? ⟨g, 73, none⟩ = some (.int .u64 (bs.length : Int)) := by
  obtain ⟨P, h1, h2, h3⟩ := h
  exact h2.all
theorem Mx.made {W : World} {g : Nat} {bs : List Int} (h : Mx W g bs) : W.cell? ⟨g, 74, none⟩ = some (.bool true) := by
  obtain ⟨P, h1, h2, h3⟩ := h
  exact h2.made
theorem Mx.state {W : World} {g : Nat} {bs : List Int} (h : Mx W g bs) : W.rangeAt g 0 (u32s (shaN bs (bs.length / 64))) := by
  obtain ⟨P, h1, h2, h3⟩ := h
  exact h2.state

theorem toldI_start {w W1 : World} {g : Nat} {bs P0 : List Int} {Z : List Value} (hv : MixV w g (shaN bs (bs.length / 64)) P0 ((bs.length % 64 : Nat) : Int) bs.length) (hp : P0.take (bs.length % 64) = bs.drop (64 * (bs.length / 64))) (hb : Bs P0)
    (hZ : Z = mixC (shaN bs (bs.length / 64)) P0 ((bs.length % 64 : Nat) : Int) (bs.length : Int)) (h1 : W1.heap[w.heap.size]? = some (.cells Z.toArray 38 (0, 0))) (hk : Keeps (fun i => i = w.heap.size) (w.alloc (.cells mix0.toArray 38 (0, 0))) W1) :
    ToldI w w.heap.size bs W1 :=
  ⟨((Below.refl _ w).alloc (Nat.le_refl _) _).trans (hk.below (by simp) (by intro i hi; omega)), P0, hp, ⟨by rw [h1, hZ], hv.h8, hv.p64⟩, hb⟩
/-- The number's bytes are laid one by one: k of them are there. -/
structure ToldN (w : World) (gz : Nat) (cs : List Int) (gn : Nat) (B : Int) (k : Nat) (W : World) : Prop where
  t : ToldI w gz cs W
  nn : W.heap[gn]? = some (.cells (nums ((be8 B).take k ++ List.replicate (8 - k) 0)).toArray 56 (0, 0))
  gt : gz < gn
  ge : w.heap.size ≤ gz
theorem be8_length (B : Int) : (be8 B).length = 8 := by simp [be8]
theorem ToldN.put {w W : World} {gz gn k : Nat} {cs : List Int} {B : Int} (h : ToldN w gz cs gn B k W) (hk : k < 8) (y : Int) (hy : y = B / 2 ^ (56 - 8 * k) % 256) : ToldN w gz cs gn B (k + 1) (W.setCell ⟨gn, k, none⟩ (.int .u8 y)) := by
  have hgt := h.gt
  have hge := h.ge
  have hk1 : Keeps (fun i => i = gn) W (W.setCell ⟨gn, k, none⟩ (.int .u8 y)) := Keeps.setCell (S := fun i => i = gn) (Keeps.refl _ _) (fun _ => rfl) _
  refine ⟨⟨h.t.bel.trans (hk1.below h.t.bel.size (by intro i hi; omega)), h.t.mx.kept hk1 (by omega)⟩, ?_, hgt, hge⟩
  rw [blk_set h.nn]
  congr 2
  have hl := be8_length B
  have h1 : ((be8 B).take k).length = k := by simp; omega
  simp only [nums, List.setIfInBounds_toArray]
  congr 1
  rw [show (Value.int .u8 y) = (fun x => Value.int .u8 x) y from rfl, ← List.map_set]
  congr 1
  rw [List.set_append_right _ _ (by omega), h1, Nat.sub_self, show 8 - k = (8 - (k + 1)) + 1 by omega, List.replicate_succ, List.set_cons_zero, be8_take B k hk, hy, List.append_assoc]
  rfl
theorem ToldN.at_ {w W : World} {gz gn k : Nat} {cs : List Int} {B : Int} (h : ToldN w gz cs gn B k W) (hk : k < 8) : W.cell? ⟨gn, k, none⟩ = some (.int .u8 0) := by
  have hl := be8_length B
  rw [blk_cell h.nn k, nums_get (by simp; omega), List.getD, List.getElem?_append_right (by simp; omega)]
  rw [show k - ((be8 B).take k).length = 0 by simp; omega, List.getElem?_replicate, if_pos (by omega)]
  rfl
theorem toldN_start {w W : World} {gz : Nat} {cs : List Int} {B : Int} (h : ToldI w gz cs W) (hge : w.heap.size ≤ gz) : ToldN w gz cs W.heap.size B 0 (W.alloc (.cells #[.int .u8 0, .int .u8 0, .int .u8 0, .int .u8 0, .int .u8 0, .int .u8 0, .int .u8 0, .int .u8 0] 56 (0, 0))) :=
  ⟨h.below ((Below.refl _ _).alloc (Nat.le_refl _) _), get_top rfl, h.mx.lt, hge⟩
theorem index8 (H : List Int) (h8 : H.length = 8) (k : Nat) (hk : k < 8) (W : World) : (Instr.index 34 (.agg (u32s H).toArray) (.int .i64 k)).run Try.prog W = .ok (.int .u32 (H.getD k 0)) W := by
  have hua := Try.underlying34
  have hue := Try.underlying33
  obtain ⟨x0, x1, x2, x3, x4, x5, x6, x7, rfl⟩ := eight32 H h8
  match k, hk with
  | 0, _ => simp [Instr.index, run_underlying hua, asIntOf, go_sem, u32s]
  | 1, _ => simp [Instr.index, run_underlying hua, asIntOf, go_sem, u32s]
  | 2, _ => simp [Instr.index, run_underlying hua, asIntOf, go_sem, u32s]
  | 3, _ => simp [Instr.index, run_underlying hua, asIntOf, go_sem, u32s]
  | 4, _ => simp [Instr.index, run_underlying hua, asIntOf, go_sem, u32s]
  | 5, _ => simp [Instr.index, run_underlying hua, asIntOf, go_sem, u32s]
  | 6, _ => simp [Instr.index, run_underlying hua, asIntOf, go_sem, u32s]
  | 7, _ => simp [Instr.index, run_underlying hua, asIntOf, go_sem, u32s]
theorem wpList_index_known {P : Program} {ops : Array Oper} {rest : List Oper} {op : Oper} {a : Act} {w : World} {Q : Exit → Act → World → Prop} (hgd : op.guard = none) (ty : TypeId) (x y : Operand) (ho : op.op = .index ty x y) (xv yv : Value) (hx : a.eval x = xv) (hyv : a.eval y = yv)
    (v : Value) (hy : (Instr.index ty xv yv).run P w = .ok v w) (h : wpList P ops Q rest (a.put op.dst v) w) : wpList P ops Q (op :: rest) a w :=
  wpList_plain hgd fun K hK => by
    have hK' := hK _ _ h
    unfold Oper.wp execOp
    simp only [ho, hx, hyv, Sem.run_bind, hy, Result.andThen_ok, Sem.run_pure]
    exact hK'
set_option maxRecDepth 100000 in
set_option maxHeartbeats 3200000 in
theorem told_any (g : Nat) (bs : List Int) (w : World) (hm : Mx w g bs) (hsz : bs.length ≤ 900000000000) :
    Calls Try.prog 18 #[.pointer (some ⟨g, 0, none⟩)] w fun e w' => e = .returned (.string (strOfNums (sha bs))) ∧ Below w.heap.size w w' := by
  have c74 := hm.made
  obtain ⟨P0, hp0, hv0, hb0⟩ := hm
  obtain ⟨Z, hZ⟩ : ∃ Z, Z = mixC (shaN bs (bs.length / 64)) P0 ((bs.length % 64 : Nat) : Int) (bs.length : Int) := ⟨_, rfl⟩
  have hz75 : Z.length = 75 := by rw [hZ]; exact hv0.fits
  have hz1 : ∀ v ∈ Z, v.oneCell' = true := by rw [hZ]; exact mixC_oneCell _ _ _ _
  have hblk := hv0.blk
  rw [← hZ] at hblk
  have HBLK := Lib.hid hblk
  have HZ := Lib.hid hZ
  have HZ75 := Lib.hid hz75
  have HZ1 := Lib.hid hz1
  have HV0 := Lib.hid hv0
  have HP0 := Lib.hid hp0
  have HB0 := Lib.hid hb0
  have hum := Try.underlying38
  have HUM := Lib.hid hum
  clear hblk hZ hz75 hz1 hv0 hp0 hb0 hum
  go_enter Try.func18, Try.ntmps18
  go_wp2_with (first | (refine wpList_load_row (by rfl) 38 _ (by rfl) g (by rfl) 38 Z.toArray (0, 0) _ HBLK.out HUM.out rfl (by rw [infoMix]; simp [HZ75.out]) ?_) | (refine wpList_alloc_known (by rfl) 38 (by rfl) mix0.toArray (mix0_zero _) ?_) | (refine wpList_store_row (by rfl) 38 _ _ (by rfl) w.heap.size Z.toArray mix0.toArray 38 (by rfl) (by rfl) (get_top rfl) (by simp [HZ75.out]; rfl) (by rw [infoMix]; simp [HZ75.out]) (by simpa using HZ1.out) ?_; intro W1 hW1 hK1; have hT1 := toldI_start HV0.out HP0.out HB0.out HZ.out hW1 hK1; have c73 := hT1.mx.all; have HT1 := Lib.hid hT1; clear hT1 hW1 hK1))
  refine (feed_any w.heap.size ⟨#[128]⟩ bs W1 HT1.out.mx (by show bs.length + 1 ≤ 1000000000000; omega)).mono ?_
  rintro e W2 ⟨rfl, hm2, hk2⟩
  have HT2 := Lib.hid (show ToldI w w.heap.size (bs ++ [128]) W2 from HT1.out.fed (Nat.le_refl _) hm2 hk2)
  obtain ⟨gz, hgz⟩ : ∃ g, g = w.heap.size := ⟨_, rfl⟩
  rw [← hgz] at HT2
  have HGZ := Lib.hid (show w.heap.size ≤ gz by omega)
  obtain ⟨B, hB⟩ : ∃ B : Int, B = (bs.length : Int) * 8 := ⟨_, rfl⟩
  rw [← hgz, ← hB]
  have HB := Lib.hid hB
  have hB0 : 0 ≤ B := by omega
  have hB1 : B ≤ 8000000000000 := by omega
  have HSZ := Lib.hid hsz
  clear hm2 hk2 HT1 c73 hgz hB hsz
  go_wp2_with fail
  go_loopg [28] (gap bs.length) (fun j x wr => ∃ k : Nat, j + k = gap bs.length ∧ ToldI w gz (bs ++ [128] ++ List.replicate k 0) wr)
  case atStart => exact ⟨0, rfl, by simpa using HT2.out⟩
  case round =>
    clear HT2
    obtain ⟨k, hk, hI⟩ := hrel
    have hgl := gap_lt bs.length
    have hlen : (bs ++ [128] ++ List.replicate k 0).length = bs.length + 1 + k := by simp; omega
    have c72 := hI.mx.held
    rw [hlen] at c72
    have HI := Lib.hid hI
    by_cases hlt : k < gap bs.length
    · have hne := gap_before bs.length k hlt
      obtain ⟨q, hq⟩ : ∃ q, q = (bs.length + 1 + k) % 64 := ⟨_, rfl⟩
      rw [← hq] at c72 hne
      have ht : ((q : Int) != 56) = true := by simp; omega
      have hs1 := HSZ.out
      have HF := Lib.hid (feed_any gz ⟨#[0]⟩ (bs ++ [128] ++ List.replicate k 0) wr hI.mx (by rw [hlen]; show bs.length + 1 + k + 1 ≤ 1000000000000; omega))
      clear hI hq hlen hs1 hne
      go_wp2_with fail
      refine HF.out.mono ?_
      rintro e W3 ⟨rfl, hm3, hk3⟩
      have HX := Lib.hid (show ToldI w gz (bs ++ [128] ++ List.replicate (k + 1) 0) W3 from HI.out.fed HGZ.out (by rw [List.replicate_succ', ← List.append_assoc]; exact hm3) hk3)
      clear hm3 hk3 HI HF c72 ht
      go_wp2_with fail
      go_roundg (gk - 1)
      case measure => omega
      case rel => exact ⟨k + 1, by omega, HX.out⟩
    · obtain rfl : k = gap bs.length := by omega
      have hga := gap_at bs.length
      rw [show (bs.length + 1 + gap bs.length) % 64 = 56 from hga] at c72
      clear hI hlen hga hgl hk hlt
      go_wp2_with fail
      have HN0 := Lib.hid (toldN_start (B := B) HI.out HGZ.out)
      obtain ⟨gn, hgn⟩ : ∃ g, g = wr.heap.size := ⟨_, rfl⟩
      rw [← hgn] at HN0
      rw [← hgn]
      clear hgn HI c72
      go_loopg [30] 8 (fun j i wr => ∃ k : Nat, j + k = 8 ∧ i = .int .i64 (k : Int) ∧ ToldN w gz (bs ++ [128] ++ List.replicate (gap bs.length) 0) gn B k wr)
      case atStart => exact ⟨0, rfl, rfl, HN0.out⟩
      case round =>
        clear HN0
        obtain ⟨k, hk, rfl, hI⟩ := hrel
        by_cases hlt : k < 8
        · have ck := hI.at_ hlt
          have fk := blk_frozen hI.nn k
          obtain ⟨sh, hsh⟩ : ∃ sh : Int, sh = 56 - 8 * (k : Int) := ⟨_, rfl⟩
          have h0 : 0 ≤ sh := by omega
          have h56 : sh ≤ 56 := by omega
          have hsh' := hsh.symm
          have hmin : sh.toNat = 56 - 8 * k := by omega
          obtain ⟨y, hy⟩ : ∃ y, y = B / 2 ^ sh.toNat := ⟨_, rfl⟩
          have hy' := hy.symm
          have HP := Lib.hid (hI.put hlt (y % 256) (by rw [hy, hmin]))
          clear hI hsh hmin hy
          go_wp2_with fail
          go_roundg (gk - 1)
          case measure => omega
          case rel => exact ⟨k + 1, by omega, by go_num, HP.out⟩
        · obtain rfl : k = 8 := by omega
          have hl8 := be8_length B
          have hnn := hI.nn
          rw [List.take_of_length_le (by omega), show (8 - 8 : Nat) = 0 from rfl, List.replicate_zero, List.append_nil] at hnn
          have hconv : (convert 40 9 (.slice (some ⟨gn, 0, none⟩) 8 8)).run Try.prog wr = .ok (.string (strOfNums (be8 B))) wr :=
            run_convert_bytes_arg wr _ _ Try.underlying40 Try.underlying5 gn 0 8 8 (be8 B) hl8 (fun j hj => by rw [Nat.zero_add, blk_cell hnn j]; exact nums_get (by omega)) _ Try.underlying9
          have HF := Lib.hid (feed_any gz (strOfNums (be8 B)) (bs ++ [128] ++ List.replicate (gap bs.length) 0) wr hI.t.mx (by rw [strOfNums_size, hl8]; have := HSZ.out; have := gap_lt bs.length; simp; omega))
          have HI := Lib.hid hI.t
          clear hI hl8 hnn hlt hk
          go_wp2_with fail
          refine HF.out.mono ?_
          rintro e W3 ⟨rfl, hm3, hk3⟩
          have hfill : bs ++ [128] ++ List.replicate (gap bs.length) 0 ++ bytesOf (strOfNums (be8 B)) = fill bs := by
            rw [bytesOf_strOfNums _ (be8_b B), fill, HB.out, Int.mul_comm]
          rw [hfill] at hm3
          have hT3 : ToldI w gz (fill bs) W3 := HI.out.fed HGZ.out hm3 hk3
          have hst := hT3.mx.state
          rw [show shaN (fill bs) ((fill bs).length / 64) = shaW bs by rw [shaW, fill_length, Nat.mul_div_cancel_left _ (by omega)]] at hst
          have HST := Lib.hid hst
          have HT3 := Lib.hid hT3.bel
          clear hm3 hk3 hfill hT3 hst HI HF hconv
          have hH8 : (shaW bs).length = 8 := shaN_length _ _
          have hHW : Ws (shaW bs) := shaN_w _ _
          have hsha : sha bs = (shaW bs).flatMap be4 := rfl
          obtain ⟨H, hH⟩ : ∃ H, H = shaW bs := ⟨_, rfl⟩
          rw [← hH] at HST hH8 hHW hsha
          have HH8 := Lib.hid hH8
          have HHW := Lib.hid hHW
          have HSHA := Lib.hid hsha
          clear hH hH8 hHW hsha
          go_wp2_with (refine wpList_load_mid (by rfl) 34 _ (by rfl) gz 0 (by rfl) (u32s H) _ HST.out Try.underlying34 rfl (by rw [infoH, u32s_length, HH8.out]) ?_)
          go_loopg [7, 47] 8 (fun j o i wr => ∃ (k : Nat) (v : Value), j + k = 8 ∧ v = o ∧ i = .int .i64 (k : Int) ∧ Loc W3 wr 5 1 v (4 * k) (nums ((H.take k).flatMap be4)))
          case atStart => exact ⟨0, .slice none 0 0, rfl, rfl, rfl, Loc.nil (Below.refl _ _) _ _⟩
          case round =>
            obtain ⟨k, v, hk, rfl, rfl, hA⟩ := hrel
            by_cases hk8 : k < 8
            · have wk := HHW.out.get k
              have hix := fun W => index8 H HH8.out k hk8 W
              obtain ⟨a, ha⟩ : ∃ a, a = H.getD k 0 := ⟨_, rfl⟩
              rw [← ha] at wk
              simp only [← ha] at hix
              have hHH8 := HH8.out
              have htk : (H.take (k + 1)).flatMap be4 = (H.take k).flatMap be4 ++ be4 a := by
                rw [ha, List.take_add_one, List.getElem?_eq_getElem (show k < H.length by omega), List.flatMap_append]
                simp [List.getD, List.getElem?_eq_getElem (show k < H.length by omega)]
              obtain ⟨n, hn⟩ : ∃ n, n = 4 * k := ⟨_, rfl⟩
              rw [← hn] at hA
              have hn32 : n ≤ 32 := by omega
              have HA := Lib.hid hA
              have HTK := Lib.hid htk
              have HN4 := Lib.hid hn
              have HIX := Lib.hid hix
              have HBE := Lib.hid (show be4 a = [a / 16777216, a / 65536 % 256, a / 256 % 256, a % 256] by rw [be4, Int.emod_eq_of_lt (a := a / 16777216) (by have := wk.1; omega) (by have := wk.2; omega)])
              obtain ⟨a0, a1⟩ := wk
              have q5 : (k : Int) < 8 := by omega
              have q7 : (0 : Int) ≤ (k : Int) := by omega
              obtain ⟨i0, hi, hz0, hz1, hz2⟩ := info_parts infoByte
              have HII := Lib.hid hi
              have HZ0 := Lib.hid hz0
              have HZ1 := Lib.hid hz1
              have HZ2 := Lib.hid hz2
              clear hA ha htk hHH8 hn hi hz0 hz1 hz2 hix
              go_wp2_with (first | (refine wpList_index_known (by rfl) 34 _ _ (by rfl) _ _ (by rfl) (by rfl) _ (HIX.out _) ?_) | (refine wpList_append_row _ (by rfl) _ _ _ _ (by rfl) 5 i0 (.int .u8 0) 1 1 Try.underlying40 HII.out HZ0.out HZ1.out HZ2.out rfl (by omega) v _ _ (by rfl) (HA.out.row.alloc _) _ (by rfl) 4 [.int .u8 (a / 16777216), .int .u8 (a / 65536 % 256), .int .u8 (a / 256 % 256), .int .u8 (a % 256)] (Feeds.slice Try.underlying40 ⟨wr.heap.size, 0, none⟩ 4 4 _ (by rfl) (by simp [Value.oneCell']) (World.news_of_block (cs := #[.int .u8 (a / 16777216), .int .u8 (a / 65536 % 256), .int .u8 (a / 256 % 256), .int .u8 (a % 256)]) (t := 5) (fr := (0, 0)) (heap_alloc_new wr _))) (by unfold maxLen; omega) (by omega) (wr.heap.size + 1) (by simp) ?_; intro ao5 cap5 w5 hown5 hgrow5 hat5))
              have hloc := HA.out.app (((Below.refl _ wr).alloc (Nat.le_refl _) _)) hown5 hgrow5 hat5 (by omega)
              rw [show nums ((H.take k).flatMap be4) ++ [.int .u8 (a / 16777216), .int .u8 (a / 65536 % 256), .int .u8 (a / 256 % 256), .int .u8 (a % 256)] = nums ((H.take (k + 1)).flatMap be4) by rw [HTK.out, HBE.out, nums_append]; rfl, show n + 4 = 4 * (k + 1) by rw [HN4.out]; omega] at hloc
              have HS := Lib.hid hloc
              have e9 : n + 4 = 4 * (k + 1) := by rw [HN4.out]; omega
              clear hloc hown5 hgrow5 hat5
              go_roundg (gk - 1)
              case measure => omega
              case rel => exact ⟨k + 1, _, by omega, by rw [e9], by go_num, HS.out⟩
            · obtain rfl : k = 8 := by omega
              have hcs := row_string (P := Try.prog) Try.underlying40 Try.underlying5 Try.underlying9 hA.row
              have hl8 := HH8.out
              rw [List.take_of_length_le (by omega), ← HSHA.out] at hcs
              have HB := Lib.hid (HT3.out.trans (hA.below.mono HT3.out.size))
              clear hA hl8
              go_wp2
              go_ret
              exact ⟨rfl, HB.out⟩
end Go.Proofs.Ytobgnmellbgfmaa.B
