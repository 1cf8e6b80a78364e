/-
  Each leaf is shown by its path; TreeShown.
-/
import Derived.Test.YtjoilobbopdcpaaTreeP
import Derived.Deep.RegionHeld3
namespace Go.Proofs.Ytjoilobbopdcpaa.B
open Go.RowKit
set_option linter.unusedVariables false
set_option linter.unusedSimpArgs false

theorem pathR_len : ∀ (rows : List (List ByteArray)) (i : Nat), (pathR rows i).length ≤ rows.length
  | [], i => by simp [pathR]
  | [_], i => by simp [pathR]
  | row :: b :: rest, i => by
    have := pathR_len (b :: rest) (i / 4)
    simp only [pathR, List.length_cons] at this ⊢
    omega
theorem mid_get {l : List ByteArray} {a : Nat} {h : ByteArray} (hg : l[a]? = some h) : (l.take a ++ l.drop (a + 1)).take a ++ [h] ++ (l.take a ++ l.drop (a + 1)).drop a = l := by
  have hlt := (List.getElem?_eq_some_iff.1 hg).1
  have htl : (l.take a).length = a := by rw [List.length_take]; omega
  rw [List.take_append_of_le_length (by omega), List.take_of_length_le (by omega), List.drop_append_of_le_length (by omega), List.drop_of_length_le (l := l.take a) (by omega), List.nil_append, List.append_assoc, List.singleton_append]
  have hh : l.drop a = h :: l.drop (a + 1) := by
    rw [List.drop_eq_getElem_cons hlt]
    rw [List.getElem?_eq_getElem hlt] at hg
    cases hg
    rfl
  rw [← hh, List.take_append_drop]
theorem fits_stepOf {row : List ByteArray} (hr : ∀ s ∈ row, s.size = 32) {i : Nat} (hi : i < row.length) : fitsB (stepOf row i) i row.length = true := by
  have h1 := stepOf_sides row i hi
  have h2 := groupL_len row (i / 4)
  unfold fitsB
  simp only [Bool.and_eq_true, decide_eq_true_eq, List.all_eq_true]
  refine ⟨rfl, by omega, fun s hs => ?_⟩
  rcases List.mem_append.1 hs with h | h
  · exact hr s (groupL_mem (List.mem_of_mem_take h))
  · exact hr s (groupL_mem (List.mem_of_mem_drop h))
theorem group_get {row : List ByteArray} {i : Nat} {h : ByteArray} (hg : row[i]? = some h) : (groupL row (i / 4))[i % 4]? = some h := by
  unfold groupL
  rw [List.getElem?_take_of_lt (by omega), List.getElem?_drop, show 4 * (i / 4) + i % 4 = i by omega]
  exact hg
theorem ChkR.shown {k : Option (ByteArray → ByteArray)} (HK : VK k) {ks : List ByteArray} {top : ByteArray} {all : Int} {b : Bool} : ∀ {rest : List (List ByteArray)} {row : List ByteArray} {i : Nat} {h : ByteArray}, Up k ks row rest → (∀ s ∈ row, s.size = 32) → row[i]? = some h → Hd k ks (rootT all (topOf (row :: rest))) top → ChkR k ks top all (pathR (row :: rest) i) row.length i h b → b = true
  | [], row, i, h, hu, hr, hg, ht, hc => by
    have hi := (List.getElem?_eq_some_iff.1 hg).1
    have hrow : row = [h] ∧ i = 0 := by
      unfold Up at hu
      match row, hu, hi, hg with
      | [x], _, hi, hg =>
        have : i = 0 := by simpa using hi
        subst this
        simp at hg
        exact ⟨by rw [hg], rfl⟩
    obtain ⟨rfl, rfl⟩ := hrow
    have hz := ht.size HK
    unfold pathR ChkR at hc
    rw [if_pos ⟨rfl, by omega⟩] at hc
    obtain ⟨r, h1, h2⟩ := hc
    have htop : topOf [[h]] = h := rfl
    rw [htop] at ht
    rw [h2, h1.fn ht]
    simp
  | c :: rest, row, i, h, hu, hr, hg, ht, hc => by
    have hi := (List.getElem?_eq_some_iff.1 hg).1
    have h2 := hu.1
    have hnd := hu.2.1
    rw [topOf_cons] at ht
    unfold pathR ChkR at hc
    rw [if_neg (fun hh => hh.elim (fun hh => by omega) (fun hh => by rw [fits_stepOf hr hi] at hh; cases hh))] at hc
    obtain ⟨h', h3, h4⟩ := hc
    have hgg := group_get hg
    have h3' : Hd k ks (nodeT (groupL row (i / 4))) h' := by
      have := mid_get hgg
      have e : (stepOf row i).sides = (groupL row (i / 4)).take (i % 4) ++ (groupL row (i / 4)).drop (i % 4 + 1) := rfl
      rw [e, this] at h3
      exact h3
    have hic : i / 4 < c.length := by rw [hnd.1]; omega
    obtain ⟨r, h5, h6⟩ := hnd.2 (i / 4) hic
    obtain rfl := h6.fn h3'
    refine ChkR.shown HK hu.2.2 (hnd.size HK) h5 ht ?_
    rw [hnd.1]
    exact h4
theorem CheckR.shown {k : Option (ByteArray → ByteArray)} (HK : VK k) {ks l : List ByteArray} {rows : List (List ByteArray)} {top s : ByteArray} {i : Nat} {b : Bool} (ht : TreeR k ks l rows) (hl : l.length ≤ 1000) (hs : l[i]? = some s) (hd : Hd k ks (rootT l.length (topOf rows)) top) (hc : CheckR k ks top l.length i s (pathR rows i) b) : b = true := by
  have hi := (List.getElem?_eq_some_iff.1 hs).1
  obtain ⟨row, rest, rfl, h1, h2⟩ := ht.up
  unfold CheckR at hc
  rw [if_neg (by omega)] at hc
  obtain ⟨h, h3, h4⟩ := hc
  obtain ⟨r, h5, h6⟩ := h1.2 i s hs
  obtain rfl := h6.fn h3
  have e1 : (l.length : Int).toNat = row.length := by rw [h1.1]; omega
  have e2 : (i : Int).toNat = i := by omega
  rw [e1, e2] at h4
  exact ChkR.shown HK h2 (h1.size HK) h5 hd h4
theorem Check_shown {k : Option (ByteArray → ByteArray)} (HK : VK k) (B g gh : Nat) (ks l : List ByteArray) (rows : List (List ByteArray)) (top s : ByteArray) (w : World) (hv : Vlt w B g gh k ks) (ht : TreeR k ks l rows) (hd : Hd k ks (rootT l.length (topOf rows)) top) (i : Nat) (hl : l.length ≤ 500) (hi : l[i]? = some s) (hs : s.size ≤ 500) (v : Value) (hp : StepsAt w v (pathR rows i)) (hk : ks.length < 10000000000) :
    Calls Try.prog 18 #[.pointer (some ⟨g, 0, none⟩), .string top, .int .i64 l.length, .int .i64 i, .string s, v] w fun e w' => e = .returned (.bool true) ∧ ∃ ks', Ran B g gh k 1000 ks ks' w w' := by
  have h1 := ht.count
  have h2 := pathR_len rows i
  have h3 := (List.getElem?_eq_some_iff.1 hi).1
  refine (Check_any HK B g gh ks top l.length i ⟨by omega, by omega⟩ ⟨by omega, by omega⟩ s (by omega) v (pathR rows i) (by omega) w hv hp (by omega)).mono ?_
  rintro e W ⟨ks', b, rfl, hc, hr⟩
  obtain rfl := CheckR.shown HK (ht.pre hr.pre) (by omega) hi (hd.pre hr.pre) hc
  exact ⟨rfl, ks', hr.mono (by omega)⟩
theorem RootR.hd {k : Option (ByteArray → ByteArray)} {ks l : List ByteArray} {rows : List (List ByteArray)} {r : ByteArray} (h : RootR k ks l r) (ht : TreeR k ks l rows) : Hd k ks (rootT l.length (topOf rows)) r := by
  obtain ⟨rows', h1, h2⟩ := h
  obtain rfl := h1.fn ht
  exact h2
set_option maxRecDepth 100000 in
set_option maxHeartbeats 1600000 in
theorem treeShown_walk (v1 : Value) (l1 : List ByteArray) (i : Int) (hi : in64 i) (w : World) (h1 : Strs w v1 l1) :
    Calls Try.prog 4 #[v1, .int .i64 i] w fun e w' => e = .returned (.bool true) ∧ Below w.heap.size w w' := by
  obtain ⟨ao1, cap1, rfl, hc1, hm1⟩ := h1.form
  have HS1 := Lib.hid (some_any 60 (by decide) _ l1 w h1)
  clear h1 hc1 hm1
  go_enter Try.func4, Try.ntmps4
  go_wp2_with fail
  refine HS1.out.mono ?_
  rintro e W1 ⟨v1', rfl, hA⟩
  obtain ⟨l, ha⟩ : ∃ a, a = someL l1 60 := ⟨_, rfl⟩
  have hl60 : l.length ≤ 60 := by rw [ha, someL_len]; omega
  have HAS := Lib.hid (show ∀ s ∈ l, s.size ≤ 64 by rw [ha]; exact someL_size)
  rw [← ha] at hA
  obtain ⟨ao1', cap1', rfl, hcp⟩ := hA.row.form
  have HA := Lib.hid hA
  clear hA HS1 ha
  go_wp2_with fail
  refine (Ideal_any W1).mono ?_
  rintro e W3 ⟨g, gh, rfl, hv, hb, hgh⟩
  have hA3 := (Strs.of_row HA.out.row).below hb
  have HA3 := Lib.hid hA3
  have HB0 := Lib.hid (HA.out.below.trans (hb.mono HA.out.below.size))
  have HGH := Lib.hid (Nat.le_trans HA.out.below.size hgh)
  have HV := Lib.hid hv
  have HNW := Lib.hid (New_any vk_none _ g gh [] _ l W3 hv hA3 (by omega) (fun s hs => by have := HAS.out s hs; omega) (by decide))
  clear hA3 hv hb hgh HA
  go_wp2_with fail
  refine HNW.out.mono ?_
  rintro e W5 ⟨gt, ks1, rows, vr, vs, rfl, hT, hM, hR⟩
  have hk := hR.len
  simp only [List.length_nil] at hk
  have HT := Lib.hid hT
  have HM := Lib.hid hM
  have HR := Lib.hid hR
  have HA5 := Lib.hid (HA3.out.ran HV.out hR)
  have hk5 : ks1.length ≤ 180 := by omega
  clear hk HNW HA3 HV hT hM hR
  obtain ⟨n, hn⟩ : ∃ n, n = l.length := ⟨_, rfl⟩
  have HN := Lib.hid hn
  rw [← hn] at hl60 hcp HA5 ⊢
  by_cases hout : i < 0 ∨ (n : Int) ≤ i
  · have HP := Lib.hid (Path_out _ gt g rows vr vs W5 HM.out HT.out.pos (by have := HT.out.count; omega) i (by rw [HT.out.len0, ← hn]; exact hout))
    have HF := Lib.hid (HR.out.below0 HB0.out HGH.out)
    clear hn
    by_cases hneg : i < 0
    · clear hout
      go_wp2_with fail
      refine HP.out.mono ?_
      rintro e W6 ⟨rfl, rfl⟩
      go_wp2_with fail
      refine (awake_any _).mono ?_
      rintro e W9 ⟨rfl, hb⟩
      have HF2 := Lib.hid (HF.out.trans (hb.mono HF.out.size))
      clear hb
      go_wp2_with fail
      go_ret
      exact ⟨rfl, HF2.out⟩
    · have hge : (n : Int) ≤ i := by omega
      clear hout
      go_wp2_with fail
      refine HP.out.mono ?_
      rintro e W6 ⟨rfl, rfl⟩
      go_wp2_with fail
      refine (awake_any _).mono ?_
      rintro e W9 ⟨rfl, hb⟩
      have HF2 := Lib.hid (HF.out.trans (hb.mono HF.out.size))
      clear hb
      go_wp2_with fail
      go_ret
      exact ⟨rfl, HF2.out⟩
  obtain ⟨m, rfl⟩ : ∃ m : Nat, i = (m : Int) := ⟨i.toNat, by omega⟩
  have z1 : ¬ (m : Int) < 0 := by omega
  have z2 : ¬ (n : Int) ≤ (m : Int) := by omega
  have z3 : ¬ n ≤ m := by omega
  have hml : m < l.length := by omega
  have HP := Lib.hid (Path_any _ gt g ks1 l rows vr vs W5 HT.out HM.out (by omega) m hml)
  have HML := Lib.hid hml
  clear hout hn hml hi
  go_wp2_with fail
  refine HP.out.mono ?_
  rintro e W6 ⟨vp, svs, rfl, hp, hb6⟩
  have hr6 := HR.out.below (hb6.mono (Nat.le_refl _))
  have HR6 := Lib.hid hr6
  have HPT := Lib.hid hp.steps
  have HM6 := Lib.hid (HM.out.below hb6)
  have hA6 := HA5.out.below hb6
  have HA6 := Lib.hid hA6
  obtain ⟨gl, ol, rfl, hgl, x0⟩ := hA6.get (i := m) HML.out
  obtain ⟨s, hs⟩ : ∃ s, s = l[m]'HML.out := ⟨_, rfl⟩
  rw [← hs] at x0
  have HS := Lib.hid (show l[m]? = some s by rw [hs]; exact List.getElem?_eq_getElem HML.out)
  have HSS := Lib.hid (show s.size ≤ 500 by have := HAS.out s (by rw [hs]; exact List.getElem_mem _); omega)
  obtain ⟨aop, capp, rfl, hpc⟩ := hp.outer.row.form
  clear hr6 hp hb6 hA6 hs HA5 HR HP
  have z4 : (0 : Int) ≤ (m : Int) := by omega
  have z5 : (m : Int) < (n : Int) := by omega
  have HNO := Lib.hid (HR6.out.vlt.no gl (cell_isCells x0))
  have HRT := Lib.hid (fun W (hb : Below W6.heap.size W6 W) => Root_of vk_none _ _ gt g gh ks1 l rows vr vs W (by rw [← HN.out]; omega) (HR6.out.below hb).vlt HT.out (HM6.out.below hb) (by omega))
  have HCK := Lib.hid (fun (W7 : World) ks2 r (hr : RootR none ks2 l r) (hR : Ran _ g gh none 1 ks1 ks2 W6.drew W7) W (hb : Below W7.heap.size W7 W) => by
    have hh := Check_shown vk_none _ g gh ks2 l rows r s W (hR.below hb).vlt (HT.out.pre hR.pre) (hr.hd (HT.out.pre hR.pre)) m (by rw [← HN.out]; omega) HS.out HSS.out (.slice aop (pathR rows m).length capp) (((HPT.out.below (Below.refl _ W6).drew).ran (HR6.out.below (Below.refl _ W6).drew).vlt hR).below hb) (by have := hR.len; omega)
    rw [← HN.out] at hh
    exact hh)
  have HF := Lib.hid (HR6.out.below0 HB0.out HGH.out)
  go_wp2_with fail
  go_region_held3 (fun w' => w'.cell? ⟨gl, ol + m, none⟩ = some (.string s)) (first | exact x0 | exact x7 | exact x8 | exact x9) (first | (go_at_call 15; refine (HRT.out _ (Below.refl _ W6).drew).mono ?_; rintro e W7 ⟨ks2, r, rfl, hr, hR⟩; have x7 : W7.cell? ⟨gl, ol + m, none⟩ = some (.string s) := ((hR.kp.cell (p := ⟨gl, ol + m, none⟩) hgl HNO.out).trans x0); have HRR := Lib.hid hr; have HR7 := Lib.hid hR; clear hr hR) | (go_at_call 18; refine (HCK.out _ _ _ HRR.out HR7.out _ (by first | exact Below.refl _ _ | exact (Below.refl _ _).drew)).mono ?_; rintro e W8 ⟨rfl, ks3, hR⟩; have x8 : W8.cell? ⟨gl, ol + m, none⟩ = some (.string s) := ((hR.kp.cell (p := ⟨gl, ol + m, none⟩) (Nat.lt_of_lt_of_le hgl HR7.out.kp.size) HNO.out).trans x7); have HR8 := Lib.hid hR; clear hR) | (go_at_call 16; refine (awake_any _).mono ?_; rintro e W9 ⟨rfl, hb⟩; have x9 : W9.cell? ⟨gl, ol + m, none⟩ = some (.string s) := ((World.cell?_of_block (hb.block gl (Nat.lt_of_lt_of_le hgl (Nat.le_trans HR7.out.kp.size HR8.out.kp.size)))).trans x8); have HB9 := Lib.hid hb; clear hb))
  have hF8 := HR8.out.below0 (HR7.out.below0 HF.out.drew HGH.out) HGH.out
  have HF9 := Lib.hid (hF8.trans (HB9.out.mono hF8.size))
  clear hF8
  go_wp2_with fail
  go_ret
  exact ⟨rfl, HF9.out⟩
end Go.Proofs.Ytjoilobbopdcpaa.B
