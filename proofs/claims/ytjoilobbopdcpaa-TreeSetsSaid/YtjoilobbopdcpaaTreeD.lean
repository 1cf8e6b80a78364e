/-
  tree's Count, Root, walked; hashes of the ideal vault are unlike.
-/
import Derived.Test.YtjoilobbopdcpaaTreeC
import Derived.StillTailTactics
namespace Go.Proofs.Ytjoilobbopdcpaa.B
open Go.RowKit
set_option linter.unusedVariables false
set_option linter.unusedSimpArgs false

theorem putSpec_six {n : Int} (hn : 0 ≤ n ∧ n < 281474976710656) : putSpec n 6 = (strOfNums (le n 6), 0) ∧ fits n 6 = true := by
  have fn : fits n 6 = true := by
    simp only [fits, Bool.and_eq_true, decide_eq_true_eq, beq_iff_eq]
    exact ⟨hn.1, Int.ediv_eq_zero_of_lt hn.1 hn.2⟩
  have h6 : (6 : Int).toNat = 6 := rfl
  exact ⟨by rw [putSpec, if_neg (by omega), h6, if_pos fn], fn⟩
theorem putSpec_inj {n m : Int} (hn : 0 ≤ n ∧ n < 281474976710656) (hm : 0 ≤ m ∧ m < 281474976710656) (h : (putSpec n 6).1 = (putSpec m 6).1) : n = m ∧ (putSpec n 6).1.size = 6 := by
  obtain ⟨e1, fn⟩ := putSpec_six hn
  obtain ⟨e2, fm⟩ := putSpec_six hm
  rw [e1, e2] at h
  refine ⟨?_, ?_⟩
  · have := congrArg bytesOf h
    simp only at this
    rw [bytesOf_strOfNums _ (le_range n 6), bytesOf_strOfNums _ (le_range m 6)] at this
    exact le_inj fn fm this
  · rw [e1]
    simp only
    rw [strOfNums_size, le_length]
theorem put_size {n : Int} (hn : 0 ≤ n ∧ n < 281474976710656) : (putSpec n 6).1.size = 6 := (putSpec_inj hn hn rfl).2
theorem numberedS_inj {n m : Int} (hn : 0 ≤ n ∧ n < 281474976710656) (hm : 0 ≤ m ∧ m < 281474976710656) (h : numberedS n 32 = numberedS m 32) : n = m := by
  have e : ∀ n : Int, 0 ≤ n ∧ n < 281474976710656 → numberedS n 32 = (putSpec n 6).1 ++ strOfNums (List.replicate 26 0) := fun n hn => by
    have := put_size hn
    rw [numberedS, padSpec, if_neg (by omega), if_neg (by omega)]
    simp only
    rw [this]
    rfl
  rw [e n hn, e m hm] at h
  have hb := congrArg bytesOf h
  rw [bytesOf_app, bytesOf_app] at hb
  have := List.append_inj_left hb (by rw [bytesOf_length, bytesOf_length, put_size hn, put_size hm])
  have h2 : (putSpec n 6).1 = (putSpec m 6).1 := by
    rw [← strOfNums_bytesOf (putSpec n 6).1, this, strOfNums_bytesOf]
  exact (putSpec_inj hn hm h2).1
/-- Under the ideal vault unlike texts have unlike hashes. -/
theorem Hd.inj {ks : List ByteArray} {t t' r : ByteArray} (hn : ks.length < 100000000000000) (h : Hd none ks t r) (h' : Hd none ks t' r) : t = t' := by
  have h1 := posOf_lt h.1
  have h2 := posOf_lt h'.1
  have := numberedS_inj (n := (posOf ks t : Int) + 1) (m := (posOf ks t' : Int) + 1) (by omega) (by omega) (by rw [← h.2, ← h'.2])
  exact posOf_inj h.1 h'.1 (by omega)

/-- A tree's rows in its cells. -/
theorem TreeM.at_ {b0 gt g : Nat} {rows : List (List ByteArray)} {vr : Value} {vs : List Value} {W : World} (h : TreeM b0 gt g rows vr vs W) {i : Nat} (hi : i < rows.length) :
    ∃ ob cap v, vr = .slice (some ⟨ob, 0, none⟩) rows.length cap ∧ ob < W.heap.size ∧ vs[i]? = some v ∧ W.cell? ⟨ob, i, none⟩ = some v ∧ Own b0 W 9 1 v (rows.getD i []).length (strs (rows.getD i [])) := by
  have hvi : i < vs.length := by rw [h.len]; exact hi
  obtain ⟨ob, cap, he, _, hlt⟩ := h.outer.row.form_pos (by omega)
  have hr := h.outer.row
  rw [he] at hr
  have hv : vs[i]? = some vs[i] := List.getElem?_eq_getElem hvi
  have hg : rows.getD i [] = rows[i] := by simp [List.getD, hi]
  refine ⟨ob, cap, vs[i], by rw [he, h.len], hlt, hv, hr.cells i _ hv, ?_⟩
  rw [hg]
  exact h.inner i _ _ hv (List.getElem?_eq_getElem hi)
set_option maxRecDepth 100000 in
theorem tnone_any (gt g : Nat) (ao : Option Addr) (n cap : Nat) (w : World) (h : w.heap[gt]? = some (.cells #[.pointer (some ⟨g, 0, none⟩), .slice ao n cap] 69 (0, 0))) (hn : 0 < n) (hn2 : n ≤ 1000000000) :
    Calls Try.prog 29 #[.pointer (some ⟨gt, 0, none⟩)] w fun e w' => e = .returned (.bool false) ∧ w' = w := by
  have c0 := (blk_cell h 0).trans rfl
  have c1 := (blk_cell h 1).trans rfl
  have i1 : ((n : Int) == 0) = false := by simp; omega
  have i2 : ¬ n = 0 := by omega
  clear h
  go_enter Try.func29, Try.ntmps29
  go_wp2
  go_ret
  exact ⟨rfl, rfl⟩
set_option maxRecDepth 100000 in
theorem tnone_nil (w : World) :
    Calls Try.prog 29 #[.pointer none] w fun e w' => e = .returned (.bool true) ∧ w' = w := by
  go_enter Try.func29, Try.ntmps29
  go_wp2
  go_ret
  exact ⟨rfl, rfl⟩
set_option maxRecDepth 100000 in
theorem Count_any (b0 gt g : Nat) (rows : List (List ByteArray)) (vr : Value) (vs : List Value) (w : World) (h : TreeM b0 gt g rows vr vs w) (hn : 0 < rows.length) (hn2 : rows.length ≤ 1000000000) :
    Calls Try.prog 19 #[.pointer (some ⟨gt, 0, none⟩)] w fun e w' => e = .returned (.int .i64 (rows.getD 0 []).length) ∧ w' = w := by
  obtain ⟨ob, cap, v, rfl, hob, hv, c2, hrow⟩ := h.at_ hn
  obtain ⟨ao, cap2, rfl, _⟩ := hrow.row.form
  have HT := Lib.hid (tnone_any gt g _ _ _ w h.blk hn hn2)
  have c0 := (blk_cell h.blk 0).trans rfl
  have c1 := (blk_cell h.blk 1).trans rfl
  obtain ⟨m, hm⟩ : ∃ m, m = rows.length := ⟨_, rfl⟩
  rw [← hm] at c0 c1 hn
  have z : (0 : Int) < (m : Int) := by omega
  clear h hrow hv hm
  go_enter Try.func19, Try.ntmps19
  go_wp2_with fail
  refine HT.out.mono ?_
  rintro e W1 ⟨rfl, hw⟩
  subst hw
  go_wp2_with fail
  go_ret
  exact ⟨rfl, rfl⟩
def topOf (rows : List (List ByteArray)) : ByteArray := ((rows.getD (rows.length - 1) []).getD 0 ⟨#[]⟩)
set_option maxRecDepth 100000 in
set_option maxHeartbeats 1600000 in
theorem Root_any {k : Option (ByteArray → ByteArray)} (HK : VK k) (B b0 gt g gh : Nat) (ks : List ByteArray) (rows : List (List ByteArray)) (vr : Value) (vs : List Value) (w : World) (hv : Vlt w B g gh k ks) (h : TreeM b0 gt g rows vr vs w) (hn : 0 < rows.length) (hn2 : rows.length ≤ 1000000000) (hl0 : (rows.getD 0 []).length ≤ 1000000000) (hts : (topOf rows).size ≤ 10000) (hk : ks.length < 1000000000000) :
    Calls Try.prog 15 #[.pointer (some ⟨gt, 0, none⟩)] w fun e w' => ∃ ks' r, e = .returned (.string r) ∧ Hd k ks' (rootT (rows.getD 0 []).length (topOf rows)) r ∧ Ran B g gh k 1 ks ks' w w' := by
  obtain ⟨ob, cap, v, rfl, hob, hv0, c2, hrow⟩ := h.at_ hn
  obtain ⟨ao, cap2, rfl, _⟩ := hrow.row.form
  obtain ⟨ob', cap', v', he, _, hv1, c3, hrow1⟩ := h.at_ (i := rows.length - 1) (by omega)
  simp only [Value.slice.injEq, Option.some.injEq, Addr.mk.injEq, and_true, true_and] at he
  obtain ⟨rfl, rfl⟩ := he
  have HT := Lib.hid (tnone_any gt g _ _ _ w h.blk hn hn2)
  have c0 := (blk_cell h.blk 0).trans rfl
  have c1 := (blk_cell h.blk 1).trans rfl
  have HR := Lib.hid (fun W (hvw : Vlt W B g gh k ks) => root_any HK.ok B g gh ks ((rows.getD 0 []).length : Int) (by omega) (by omega) (topOf rows) W hvw hts hk)
  have HV := Lib.hid hv
  obtain ⟨p, hp⟩ : ∃ p, p = (rows.getD 0 []).length := ⟨_, rfl⟩
  rw [← hp] at c2 hl0 HR ⊢
  have htop : topOf rows = (rows.getD (rows.length - 1) []).getD 0 ⟨#[]⟩ := rfl
  obtain ⟨m, hm⟩ : ∃ m, m = rows.length := ⟨_, rfl⟩
  rw [← hm] at c0 c1 hn c3 hrow1 htop hn2
  have z : (0 : Int) < (m : Int) := by omega
  have w1 : wrap64 ((m : Int) - 1) = ((m - 1 : Nat) : Int) := by
    rw [IntWalk.wrap64_in _ ⟨by omega, by omega⟩]; omega
  have w2 : IntKind.i64.wrap ((m : Int) - 1) = ((m - 1 : Nat) : Int) := by
    rw [show (m : Int) - 1 = ((m - 1 : Nat) : Int) by omega]
    exact IntWalk.i64_in _ (by omega)
  have z2 : ((m - 1 : Nat) : Int) < (m : Int) := by omega
  have z3 : (0 : Int) ≤ ((m - 1 : Nat) : Int) := by omega
  obtain ⟨last, hlast⟩ : ∃ l, l = rows.getD (m - 1) [] := ⟨_, rfl⟩
  rw [← hlast] at hrow1 htop
  obtain ⟨q, hq⟩ : ∃ q, q = m - 1 := ⟨_, rfl⟩
  rw [← hq] at w1 w2 z2 z3 c3
  obtain ⟨t, ht⟩ : ∃ t, t = topOf rows := ⟨_, rfl⟩
  rw [← ht] at HR htop ⊢
  clear h hrow hv0 hm hp hlast hq hv1 ht hv hts
  by_cases hlen : 0 < last.length
  · obtain ⟨gl, capl, he, _, hgl⟩ := hrow1.row.form_pos hlen
    subst he
    have hu : (strs last)[0]? = some (.string t) := by
      rw [htop]
      simp [strs, hlen, List.getD]
    have c4 := hrow1.row.cells 0 _ hu
    have z4 : (0 : Int) < (last.length : Int) := by omega
    obtain ⟨n, hn'⟩ : ∃ n, n = last.length := ⟨_, rfl⟩
    rw [← hn'] at z4 c3
    clear hrow1 hlen hn' hu htop
    go_enter Try.func15, Try.ntmps15
    go_wp2_with fail
    refine HT.out.mono ?_
    rintro e W1 ⟨rfl, hw⟩
    subst hw
    go_wp2_with fail
    go_quiet (fail)
    go_wp2_with fail
    obtain ⟨W2, hW2⟩ : ∃ W, W1.drewN nq = W := ⟨_, rfl⟩
    have HR0 := Lib.hid (show Ran B g gh k 0 ks ks W1 W2 by
      rw [← hW2]
      exact (Ran.refl HV.out).below (bdrewN (Below.refl _ W1) nq))
    have e0 : W2.cell? ⟨gt, 0, none⟩ = some (.pointer (some ⟨g, 0, none⟩)) := by rw [← hW2]; exact c0
    have e1 : W2.cell? ⟨gt, 1, none⟩ = some (.slice (some ⟨ob, 0, none⟩) m cap) := by rw [← hW2]; exact c1
    have e2 : W2.cell? ⟨ob, 0, none⟩ = some (.slice ao p cap2) := by rw [← hW2]; exact c2
    rw [hW2]
    clear hW2 c0 c1 c2 c3
    go_still_tail 12, (by kernel_rfl)
    change wpList _ _ _ _ _ W2.drew
    go_wp2_with fail
    refine (HR.out W2.drew (HR0.out.vlt.same (Nat.le_refl _) (fun i hi => rfl))).mono ?_
    rintro e W3 ⟨ks', r, rfl, hd, hr⟩
    have HD := Lib.hid hd
    have HRR := Lib.hid ((HR0.out.below ((Below.refl _ W2).drew)).trans hr)
    clear hd hr HR
    go_wp2_with fail
    go_ret
    exact ⟨ks', r, rfl, HD.out, HRR.out.mono (by omega)⟩
  · have hl0' : last.length = 0 := by omega
    have hln : last = [] := List.eq_nil_of_length_eq_zero hl0'
    obtain ⟨al, capl, he, hgl⟩ := hrow1.row.form
    subst he
    have ht0 : t = ⟨#[]⟩ := by rw [htop, hln]; rfl
    rw [hl0'] at c3
    subst ht0
    clear hrow1 hlen htop hln hl0' hgl
    go_enter Try.func15, Try.ntmps15
    go_wp2_with fail
    refine HT.out.mono ?_
    rintro e W1 ⟨rfl, hw⟩
    subst hw
    go_wp2_with fail
    go_quiet (fail)
    go_wp2_with fail
    obtain ⟨W2, hW2⟩ : ∃ W, W1.drewN nq = W := ⟨_, rfl⟩
    have HR0 := Lib.hid (show Ran B g gh k 0 ks ks W1 W2 by
      rw [← hW2]
      exact (Ran.refl HV.out).below (bdrewN (Below.refl _ W1) nq))
    have e0 : W2.cell? ⟨gt, 0, none⟩ = some (.pointer (some ⟨g, 0, none⟩)) := by rw [← hW2]; exact c0
    have e1 : W2.cell? ⟨gt, 1, none⟩ = some (.slice (some ⟨ob, 0, none⟩) m cap) := by rw [← hW2]; exact c1
    have e2 : W2.cell? ⟨ob, 0, none⟩ = some (.slice ao p cap2) := by rw [← hW2]; exact c2
    rw [hW2]
    clear hW2 c0 c1 c2 c3
    go_still_tail 12, (by kernel_rfl)
    change wpList _ _ _ _ _ W2.drew
    go_wp2_with fail
    refine (HR.out W2.drew (HR0.out.vlt.same (Nat.le_refl _) (fun i hi => rfl))).mono ?_
    rintro e W3 ⟨ks', r, rfl, hd, hr⟩
    have HD := Lib.hid hd
    have HRR := Lib.hid ((HR0.out.below ((Below.refl _ W2).drew)).trans hr)
    clear hd hr HR
    go_wp2_with fail
    go_ret
    exact ⟨ks', r, rfl, HD.out, HRR.out.mono (by omega)⟩
end Go.Proofs.Ytjoilobbopdcpaa.B
