/-
  sum.New and Feed, walked: a mix of nothing; a mix that has taken more bytes.
-/
import Derived.Test.YtobgnmellbgfmaaTurn
import Derived.Test.YtobgnmellbgfmaaAny
import Derived.StillTailTactics
namespace Go.Proofs.Ytobgnmellbgfmaa.B
open Go.RowKit
set_option linter.unusedVariables false
set_option linter.unusedSimpArgs false

/-- Block g is a mix that has taken bs. -/
def Mx (W : World) (g : Nat) (bs : List Int) : Prop := MixA W g bs bs.length
theorem Mx.kept {S : Nat → Prop} {W W1 : World} {g : Nat} {bs : List Int} (h : Mx W g bs) (hk : Keeps S W W1) (hn : ¬ S g) : Mx W1 g bs := by
  obtain ⟨P, h1, h2, h3⟩ := h
  exact ⟨P, h1, h2.kept hk hn, h3⟩
theorem Mx.below {B : Nat} {W W1 : World} {g : Nat} {bs : List Int} (h : Mx W g bs) (hb : Below B W W1) (hg : g < B) : Mx W1 g bs := by
  obtain ⟨P, h1, h2, h3⟩ := h
  exact ⟨P, h1, h2.below hb hg, h3⟩
theorem Mx.lt {W : World} {g : Nat} {bs : List Int} (h : Mx W g bs) : g < W.heap.size := by
  obtain ⟨P, h1, h2, h3⟩ := h
  exact h2.lt

/-- Feed at work: k bytes of s are taken. -/
structure FeedI (w : World) (g : Nat) (bs ss : List Int) (k : Nat) (W : World) : Prop where
  mix : MixA W g (bs ++ ss.take k) ((bs.length + ss.length : Nat) : Int)
  keep : Keeps (fun i => i = g) w W

/-- What the copy leaves. -/
theorem feed_copied {w wr W1 : World} {g q n : Nat} {H P : List Int} {a : Int} {r : ByteArray} (hv : MixV wr g H P q a) (hb : Bs P) (hk : Keeps (fun i => i = g) w wr) (hn : n ≤ r.size) (hq : n ≤ 64 - q) (h64 : q < 64)
    (h1 : W1.heap[g]? = some (.cells (splc (mixC H P q a) (8 + q) (nums ((bytesOf r).take n))).toArray 38 (0, 0))) (hk1 : Keeps (fun i => i = g) wr.drew W1) :
    MixV W1 g H (splc P q ((bytesOf r).take n)) q a ∧ Bs (splc P q ((bytesOf r).take n)) ∧ Keeps (fun i => i = g) w W1 := by
  have hnew : ((bytesOf r).take n).length = n := by rw [List.length_take, bytesOf_length]; omega
  refine ⟨⟨?_, hv.h8, by rw [splc_length _ _ _ (by rw [hnew, hv.p64]; omega), hv.p64]⟩, hb.splc (Bs.take (bytesOf_range r) n) q, hk.drew.trans hk1 (fun _ _ h => h)⟩
  rw [hv.copied (by rw [hnew]; omega)] at h1
  exact h1

theorem take_more {ss : List Int} {k n : Nat} {bs cs : List Int} {r : ByteArray} (hcs : cs = bs ++ ss.take k) (hr : bytesOf r = ss.drop k) : bs ++ ss.take (k + n) = cs ++ (bytesOf r).take n := by
  rw [hcs, hr, List.append_assoc, List.take_add]
/-- A round that does not fill the part. -/
theorem feedI_small {w W1 : World} {g q n k : Nat} {H P bs cs ss : List Int} {a : Int} {r : ByteArray} (F : MixV W1 g H (splc P q ((bytesOf r).take n)) q a ∧ Bs (splc P q ((bytesOf r).take n)) ∧ Keeps (fun i => i = g) w W1)
    (hcs : cs = bs ++ ss.take k) (hq : q = cs.length % 64) (hH : H = shaN cs (cs.length / 64)) (ha : a = ((bs.length + ss.length : Nat) : Int)) (hp : P.take q = cs.drop (64 * (cs.length / 64))) (hP : P.length = 64)
    (hr : bytesOf r = ss.drop k) (hn : n ≤ r.size) (hlt : q + n < 64) : FeedI w g bs ss (k + n) (W1.setCell ⟨g, 72, none⟩ (.int .i64 ((q : Int) + (n : Int)))) := by
  obtain ⟨hv, hb, hk⟩ := F
  have hl : ((bytesOf r).take n).length = n := by rw [List.length_take, bytesOf_length]; omega
  obtain ⟨e1, e2, e3, e4⟩ := feed_small (new := (bytesOf r).take n) hq.symm hP hp (by rw [hl]; exact hlt)
  refine ⟨?_, Keeps.setCell (S := fun i => i = g) hk (fun _ => rfl) _⟩
  rw [take_more hcs hr, ← ha]
  rw [hl] at e2 e4
  refine ⟨_, by rw [e2, e1]; exact e4, ?_, hb⟩
  rw [e1, e2, e3, ← hH]
  exact hv.setHeld _
/-- A round that fills it. -/
theorem feedI_full {w W1 : World} {g q n k : Nat} {H P bs cs ss : List Int} {a : Int} {r : ByteArray} (hv : MixV W1 g (turn H (splc P q ((bytesOf r).take n))) (splc P q ((bytesOf r).take n)) 0 a) (hb : Bs (splc P q ((bytesOf r).take n))) (hk : Keeps (fun i => i = g) w W1)
    (hcs : cs = bs ++ ss.take k) (hq : q = cs.length % 64) (hH : H = shaN cs (cs.length / 64)) (ha : a = ((bs.length + ss.length : Nat) : Int)) (hp : P.take q = cs.drop (64 * (cs.length / 64))) (hP : P.length = 64)
    (hr : bytesOf r = ss.drop k) (hn : n ≤ r.size) (hlt : q + n = 64) : FeedI w g bs ss (k + n) W1 := by
  have hl : ((bytesOf r).take n).length = n := by rw [List.length_take, bytesOf_length]; omega
  obtain ⟨e1, e2, e3, e4⟩ := feed_full (new := (bytesOf r).take n) hq.symm hP hp (by rw [hl]; exact hlt)
  refine ⟨?_, hk⟩
  rw [take_more hcs hr, ← ha]
  have hlen : (cs ++ (bytesOf r).take n).length = 64 * (cs.length / 64 + 1) := by omega
  refine ⟨_, by rw [e2, e1, List.take_zero, List.drop_of_length_le (by omega)], ?_, hb⟩
  rw [e1, e2, e3, ← hH]
  exact hv
theorem bytesOf_rest {r : ByteArray} {n k : Nat} {ss : List Int} (hn : n ≤ r.size) (hr : bytesOf r = ss.drop k) : bytesOf (r.extract n r.size) = ss.drop (k + n) ∧ (r.extract n r.size).size = r.size - n := by
  refine ⟨?_, by rw [ByteArray.size_extract]; omega⟩
  rw [bytesOf_extract, List.take_of_length_le (by rw [List.length_drop, bytesOf_length]; omega), hr, List.drop_drop]

theorem wrap_u64 (n : Int) (h0 : 0 ≤ n) (h1 : n < 18446744073709551616) : IntKind.u64.wrap n = n := by rw [IntKind.wrap_u64]; omega

set_option maxRecDepth 100000 in
set_option maxHeartbeats 3200000 in
theorem feed_any (g : Nat) (s : ByteArray) (bs : List Int) (w : World) (hm : Mx w g bs) (hsz : bs.length + s.size ≤ 1000000000000) :
    Calls Try.prog 17 #[.pointer (some ⟨g, 0, none⟩), .string s] w fun e w' => e = .returned (.tuple #[]) ∧ Mx w' g (bs ++ bytesOf s) ∧ Keeps (fun i => i = g) w w' := by
  obtain ⟨P0, hp0, hv0, hb0⟩ := hm
  have c74 := hv0.made
  have c73 := hv0.all
  have f73 := hv0.free 73
  have hl : (bytesOf s).length = s.size := bytesOf_length s
  have hI0 : FeedI w g bs (bytesOf s) 0 (w.setCell ⟨g, 73, none⟩ (.int .u64 ((bs.length : Int) + (s.size : Int)))) := by
    refine ⟨⟨P0, ?_, ?_, hb0⟩, Keeps.setCell (S := fun i => i = g) (Keeps.refl _ _) (fun _ => rfl) _⟩
    · simpa using hp0
    · have := hv0.setAll ((bs.length : Int) + (s.size : Int))
      simpa [hl] using this
  have HI0 := Lib.hid hI0
  obtain ⟨nb, hnb⟩ : ∃ n, n = bs.length := ⟨_, rfl⟩
  rw [← hnb] at c73 hsz
  rw [← hnb] at HI0
  have HNB := Lib.hid hnb
  have HBL := Lib.hid hl
  clear hI0 hp0 hv0 hb0 hl hnb
  have hu64 := Try.underlying35
  go_enter Try.func17, Try.ntmps17
  go_wp2_with fail
  go_loopg [1] s.size (fun j v wr => ∃ (k : Nat) (r : ByteArray), j + k = s.size ∧ v = .string r ∧ bytesOf r = (bytesOf s).drop k ∧ r.size = j ∧ FeedI w g bs (bytesOf s) k wr)
  case atStart => exact ⟨0, s, rfl, rfl, rfl, rfl, by have h0 := HI0.out; rw [HNB.out]; rw [HNB.out] at h0; exact h0⟩
  case round =>
    obtain ⟨k, r, hk, rfl, hr, hrs, hI⟩ := hrel
    by_cases hpos : 0 < r.size
    · obtain ⟨⟨P, hp, hv, hb⟩, hkp⟩ := hI
      obtain ⟨cs, hcs⟩ : ∃ cs, cs = bs ++ (bytesOf s).take k := ⟨_, rfl⟩
      rw [← hcs] at hp hv
      obtain ⟨q, hh⟩ : ∃ q, q = cs.length % 64 := ⟨_, rfl⟩
      rw [← hh] at hp hv
      obtain ⟨H, hH⟩ : ∃ H, H = shaN cs (cs.length / 64) := ⟨_, rfl⟩
      rw [← hH] at hv
      obtain ⟨a, ha⟩ : ∃ a : Int, a = ((bs.length + (bytesOf s).length : Nat) : Int) := ⟨_, rfl⟩
      rw [← ha] at hv
      obtain ⟨n, hn⟩ : ∃ n, n = min r.size (64 - q) := ⟨_, rfl⟩
      have hh64 : q < 64 := by omega
      have hn0 : 0 < n := by omega
      have hn1 : n ≤ r.size := by omega
      have hn2 : n ≤ 64 - q := by omega
      have hrm : r.size ≤ 1000000000000 := by omega
      have i1 : (q : Int) ≤ 64 := by omega
      have i2 : (0 : Int) ≤ (q : Int) := by omega
      have i6 : ¬ (64 = q) := by omega
      have c72 := hv.held
      have f72 := hv.free 72
      have HV := Lib.hid hv
      have HP := Lib.hid hp
      have HB := Lib.hid hb
      have HKP := Lib.hid hkp
      have HCS := Lib.hid hcs
      have HH := Lib.hid hh
      have HHH := Lib.hid hH
      have HA := Lib.hid ha
      have HN := Lib.hid hn
      have HR := Lib.hid hr
      have HRS := Lib.hid hrs
      have HK := Lib.hid hk
      clear hp hv hb hkp hcs hh hH ha hn hr hrs hk HI0
      have i3 : (n : Int) ≤ (r.size : Int) := by omega
      have i4 : (0 : Int) ≤ (n : Int) := by omega
      have i5 : (n : Int) ≤ 64 := by omega
      go_wp2_with fail
      go_still_tail 9, (by kernel_rfl)
      change wpList _ _ _ _ _ wr.drew
      by_cases hfull : q + n = 64
      · have e64 : (q : Int) + (n : Int) = 64 := by omega
        go_wp2_with (refine wpList_copy_str (by rfl) (.tmp 34) (.tmp 35) 40 9 (by rfl) 5 Try.underlying40 sizeByte g (8 + q) (64 - q) (64 - q) r (mixC H P q a) 38 (by rfl) (by rfl) HV.out.drew.blk n HN.out (by rw [HV.out.fits]; omega) ?_; intro W1 hW1 hK1; clear c72 f72; have F := feed_copied HV.out HB.out HKP.out hn1 hn2 hh64 hW1 hK1; have c72 := F.1.held; have f72 := F.1.free 72; have F1 := Lib.hid F; clear hW1 hK1 F)
        obtain ⟨P1, hP1⟩ : ∃ P1, P1 = splc P q ((bytesOf r).take n) := ⟨_, rfl⟩
        have hv2 := F1.out.1.setHeld 64
        have hb2 := F1.out.2.1
        rw [← hP1] at hv2 hb2
        obtain ⟨W2, hW2⟩ : ∃ W2, W2 = W1.setCell ⟨g, 72, none⟩ (.int .i64 64) := ⟨_, rfl⟩
        rw [← hW2] at hv2
        have hk2 : Keeps (fun i => i = g) w W2 := by rw [hW2]; exact Keeps.setCell (S := fun i => i = g) F1.out.2.2 (fun _ => rfl) _
        rw [← hW2]
        have HW8 : Hid (Ws H) := by rw [HHH.out]; exact Lib.hid (shaN_w _ _)
        have HV2 := Lib.hid hv2
        have HK2 := Lib.hid hk2
        have HB2 := Lib.hid hb2
        have HP1 := Lib.hid hP1
        clear hW2 hv2 hk2 hb2 hP1 c72 f72 F1
        refine wp_region_any (by kernel_rfl) ?_
        change wpAny _ _ _ _ _ _ _ (World.drew W2)
        refine takeU (v := ?_) 0 rfl (by kernel_rfl) (by kernel_rfl) (by kernel_rfl) (fun _ _ _ h => h) ?_ ?_
        rotate_left
        · intro w; go_simp; with_reducible rfl
        simp only [Act.put, List.setIfInBounds_toArray, List.set_cons_zero, List.set_cons_succ]
        refine takeU (v := ?_) 1 rfl (by kernel_rfl) (by kernel_rfl) (by kernel_rfl) (fun _ _ _ h => h) ?_ ?_
        rotate_left
        · intro w; go_simp; with_reducible rfl
        simp only [Act.put, List.setIfInBounds_toArray, List.set_cons_zero, List.set_cons_succ]
        refine takeU (v := ?_) 2 rfl (by kernel_rfl) (by kernel_rfl) (by kernel_rfl) (fun _ _ _ h => h) ?_ ?_
        rotate_left
        · intro w; go_simp; with_reducible rfl
        simp only [Act.put, List.setIfInBounds_toArray, List.set_cons_zero, List.set_cons_succ]
        refine takeU (v := ?_) 3 rfl (by kernel_rfl) (by kernel_rfl) (by kernel_rfl) (fun _ _ _ h => h) ?_ ?_
        rotate_left
        · intro w; go_simp; with_reducible rfl
        simp only [Act.put, List.setIfInBounds_toArray, List.set_cons_zero, List.set_cons_succ]
        refine takeU (v := ?_) 5 rfl (by kernel_rfl) (by kernel_rfl) (by kernel_rfl) (fun _ _ _ h => h) ?_ ?_
        rotate_left
        · intro w; go_simp; with_reducible rfl
        simp only [Act.put, List.setIfInBounds_toArray, List.set_cons_zero, List.set_cons_succ]
        refine takeU (v := ?_) 6 rfl (by kernel_rfl) (by kernel_rfl) (by kernel_rfl) (fun _ _ _ h => h) ?_ ?_
        rotate_left
        · intro w; go_simp; with_reducible rfl
        simp only [Act.put, List.setIfInBounds_toArray, List.set_cons_zero, List.set_cons_succ]
        refine takeU (v := ?_) 7 rfl (by kernel_rfl) (by kernel_rfl) (by kernel_rfl) (fun _ _ _ h => h) ?_ ?_
        rotate_left
        · intro w; go_simp; with_reducible rfl
        simp only [Act.put, List.setIfInBounds_toArray, List.set_cons_zero, List.set_cons_succ]
        refine wpAny_ready (rs := [4, 8]) (by kernel_rfl) (by simp) ?_
        refine consLoad (by rfl) g 0 (by rfl) (u32s H) _ HV2.out.drew.state Try.underlying34 rfl (by rw [infoH, u32s_length, HV2.out.h8]) ?_ ?_
        · try simp only [Act.put, List.setIfInBounds_toArray, List.set_cons_zero, List.set_cons_succ]
          refine wpAny_ready (rs := [8]) (by kernel_rfl) (by simp) ?_
          refine consLoad (by rfl) g 8 (by rfl) (nums P1) _ HV2.out.drew.part Try.underlying35 rfl (by rw [infoB64, nums_length, HV2.out.p64]) ?_ AllReady.nil
          try simp only [Act.put, List.setIfInBounds_toArray, List.set_cons_zero, List.set_cons_succ]
          refine wpAny_ready (rs := [9]) (by kernel_rfl) (by simp) ?_
          refine consU (by rfl) (fun K hK => ?_) AllReady.nil
          go_simp
          refine (turned_any H P1 HV2.out.h8 HW8.out HV2.out.p64 HB2.out _).mono ?_
          rintro e W3 ⟨rfl, hb3⟩
          dsimp only
          refine hK _ _ ?_
          clear hK K
          try simp only [Act.put, List.setIfInBounds_toArray, List.set_cons_zero, List.set_cons_succ]
          refine takeU (v := ?_) 10 rfl (by kernel_rfl) (by kernel_rfl) (by kernel_rfl) (fun _ _ _ h => h) ?_ ?_
          rotate_left
          · intro w; go_simp; with_reducible rfl
          simp only [Act.put, List.setIfInBounds_toArray, List.set_cons_zero, List.set_cons_succ]
          refine takeU (v := ?_) 11 rfl (by kernel_rfl) (by kernel_rfl) (by kernel_rfl) (fun _ _ _ h => h) ?_ ?_
          rotate_left
          · intro w; go_simp; with_reducible rfl
          simp only [Act.put, List.setIfInBounds_toArray, List.set_cons_zero, List.set_cons_succ]
          have hv3 := HV2.out.drew.below hb3 HV2.out.lt
          refine wpAny_ready (rs := [12]) (by kernel_rfl) (by simp) ?_
          refine consStore (by rfl) g 0 (u32s (turn H P1)) (mixC H P1 64 a) 38 (by rfl) (by rfl) hv3.blk (by rw [hv3.fits, u32s_length, turn_length hv3.h8]; omega) (by rw [infoH, u32s_length, turn_length hv3.h8]) (u32s_oneCell _) ?_ AllReady.nil
          intro W4 hW4 hK4
          try simp only [Act.put, List.setIfInBounds_toArray, List.set_cons_zero, List.set_cons_succ]
          refine wpAny_done (by kernel_rfl) ?_ _
          have hv4 : MixV W4 g (turn H P1) P1 64 a := ⟨by rw [hv3.turned _ (turn_length hv3.h8 _)] at hW4; exact hW4, turn_length hv3.h8 _, hv3.p64⟩
          have hk4 : Keeps (fun i => i = g) w W4 := (HK2.out.drew.trans (Keeps.of_below (S := fun i => i = g) hb3) (fun _ _ h => h)).trans hK4 (fun _ _ h => h)
          have c72 := hv4.held
          have f72 := hv4.free 72
          have hv5 := hv4.setHeld 0
          have hb5 := HB2.out
          have hk5 := Keeps.setCell (S := fun i => i = g) hk4 (p := ⟨g, 72, none⟩) (fun _ => rfl) (.int .i64 0)
          rw [HP1.out] at hv5 hb5
          have HX := Lib.hid (feedI_full hv5 hb5 hk5 HCS.out HH.out HHH.out HA.out HP.out HV.out.p64 HR.out hn1 hfull)
          have HY := Lib.hid (bytesOf_rest hn1 HR.out)
          clear hv3 hv4 hk4 hW4 hK4 hb3 hv5 hb5 hk5
          go_wp2_with fail
          go_roundg (gk - n)
          case measure => have := HRS.out; omega
          case rel => exact ⟨k + n, r.extract n r.size, by have := HRS.out; have := HK.out; omega, rfl, HY.out.1, by rw [HY.out.2, HRS.out], HX.out⟩
        refine consLoad (by rfl) g 8 (by rfl) (nums P1) _ HV2.out.drew.part Try.underlying35 rfl (by rw [infoB64, nums_length, HV2.out.p64]) ?_ ?_
        · try simp only [Act.put, List.setIfInBounds_toArray, List.set_cons_zero, List.set_cons_succ]
          refine wpAny_ready (rs := [4]) (by kernel_rfl) (by simp) ?_
          refine consLoad (by rfl) g 0 (by rfl) (u32s H) _ HV2.out.drew.state Try.underlying34 rfl (by rw [infoH, u32s_length, HV2.out.h8]) ?_ AllReady.nil
          try simp only [Act.put, List.setIfInBounds_toArray, List.set_cons_zero, List.set_cons_succ]
          refine wpAny_ready (rs := [9]) (by kernel_rfl) (by simp) ?_
          refine consU (by rfl) (fun K hK => ?_) AllReady.nil
          go_simp
          refine (turned_any H P1 HV2.out.h8 HW8.out HV2.out.p64 HB2.out _).mono ?_
          rintro e W3 ⟨rfl, hb3⟩
          dsimp only
          refine hK _ _ ?_
          clear hK K
          try simp only [Act.put, List.setIfInBounds_toArray, List.set_cons_zero, List.set_cons_succ]
          refine takeU (v := ?_) 10 rfl (by kernel_rfl) (by kernel_rfl) (by kernel_rfl) (fun _ _ _ h => h) ?_ ?_
          rotate_left
          · intro w; go_simp; with_reducible rfl
          simp only [Act.put, List.setIfInBounds_toArray, List.set_cons_zero, List.set_cons_succ]
          refine takeU (v := ?_) 11 rfl (by kernel_rfl) (by kernel_rfl) (by kernel_rfl) (fun _ _ _ h => h) ?_ ?_
          rotate_left
          · intro w; go_simp; with_reducible rfl
          simp only [Act.put, List.setIfInBounds_toArray, List.set_cons_zero, List.set_cons_succ]
          have hv3 := HV2.out.drew.below hb3 HV2.out.lt
          refine wpAny_ready (rs := [12]) (by kernel_rfl) (by simp) ?_
          refine consStore (by rfl) g 0 (u32s (turn H P1)) (mixC H P1 64 a) 38 (by rfl) (by rfl) hv3.blk (by rw [hv3.fits, u32s_length, turn_length hv3.h8]; omega) (by rw [infoH, u32s_length, turn_length hv3.h8]) (u32s_oneCell _) ?_ AllReady.nil
          intro W4 hW4 hK4
          try simp only [Act.put, List.setIfInBounds_toArray, List.set_cons_zero, List.set_cons_succ]
          refine wpAny_done (by kernel_rfl) ?_ _
          have hv4 : MixV W4 g (turn H P1) P1 64 a := ⟨by rw [hv3.turned _ (turn_length hv3.h8 _)] at hW4; exact hW4, turn_length hv3.h8 _, hv3.p64⟩
          have hk4 : Keeps (fun i => i = g) w W4 := (HK2.out.drew.trans (Keeps.of_below (S := fun i => i = g) hb3) (fun _ _ h => h)).trans hK4 (fun _ _ h => h)
          have c72 := hv4.held
          have f72 := hv4.free 72
          have hv5 := hv4.setHeld 0
          have hb5 := HB2.out
          have hk5 := Keeps.setCell (S := fun i => i = g) hk4 (p := ⟨g, 72, none⟩) (fun _ => rfl) (.int .i64 0)
          rw [HP1.out] at hv5 hb5
          have HX := Lib.hid (feedI_full hv5 hb5 hk5 HCS.out HH.out HHH.out HA.out HP.out HV.out.p64 HR.out hn1 hfull)
          have HY := Lib.hid (bytesOf_rest hn1 HR.out)
          clear hv3 hv4 hk4 hW4 hK4 hb3 hv5 hb5 hk5
          go_wp2_with fail
          go_roundg (gk - n)
          case measure => have := HRS.out; omega
          case rel => exact ⟨k + n, r.extract n r.size, by have := HRS.out; have := HK.out; omega, rfl, HY.out.1, by rw [HY.out.2, HRS.out], HX.out⟩
        exact AllReady.nil
      · have e64 : ¬ ((q : Int) + (n : Int) = 64) := by omega
        go_wp2_with (refine wpList_copy_str (by rfl) (.tmp 34) (.tmp 35) 40 9 (by rfl) 5 Try.underlying40 sizeByte g (8 + q) (64 - q) (64 - q) r (mixC H P q a) 38 (by rfl) (by rfl) HV.out.drew.blk n HN.out (by rw [HV.out.fits]; omega) ?_; intro W1 hW1 hK1; clear c72 f72; have F := feed_copied HV.out HB.out HKP.out hn1 hn2 hh64 hW1 hK1; have c72 := F.1.held; have f72 := F.1.free 72; have F1 := Lib.hid F; clear hW1 hK1 F)
        have HX := Lib.hid (feedI_small F1.out HCS.out HH.out HHH.out HA.out HP.out HV.out.p64 HR.out hn1 (by omega))
        have HY := Lib.hid (bytesOf_rest hn1 HR.out)
        clear F1 c72 f72 e64
        go_roundg (gk - n)
        case measure => have := HRS.out; omega
        case rel => exact ⟨k + n, r.extract n r.size, by have := HRS.out; have := HK.out; omega, rfl, HY.out.1, by rw [HY.out.2, HRS.out], HX.out⟩
    · obtain ⟨hmx, hkp⟩ := hI
      have hk0 : k = s.size := by omega
      rw [List.take_of_length_le (by rw [bytesOf_length]; omega)] at hmx
      have hmx2 : Mx wr g (bs ++ bytesOf s) := by unfold Mx; rw [List.length_append]; exact hmx
      have HM := Lib.hid hmx2
      have HKP := Lib.hid hkp
      clear hmx hmx2 hkp hr hrs hk hk0 HI0
      go_wp2_with fail
      go_end0
      exact ⟨rfl, HM.out, HKP.out⟩
end Go.Proofs.Ytobgnmellbgfmaa.B
