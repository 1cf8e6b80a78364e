/-
  TreeKept.
-/
import Derived.Test.YtjoilobbopdcpaaTreeU
namespace Go.Proofs.Ytjoilobbopdcpaa.B
open Go.RowKit
set_option linter.unusedVariables false
set_option linter.unusedSimpArgs false

theorem BendI.at2 {b0 g pn cap : Nat} {svs : List Value} {path : List Stp} {w W : World} (h : BendI b0 (.slice (some ⟨g, 0, none⟩) pn cap) svs path w W) (hpn : pn = path.length) {i : Nat} {sv : Value} {x : Stp} (h1 : svs[i]? = some sv) (h2 : path[i]? = some x) : g < W.heap.size ∧ W.cell? ⟨g, i * 2, none⟩ = some (.int .i64 x.at') ∧ W.cell? ⟨g, i * 2 + 1, none⟩ = some sv ∧ RowL W sv x.sides.length ∧ ∀ g, sv.ownBlock = some g → b0 ≤ g := by
  subst hpn
  obtain ⟨c1, c2⟩ := scells_get h2 h1
  obtain ⟨h3, h4⟩ := h.inner i _ _ h1 h2
  have hlt := (List.getElem?_eq_some_iff.1 h2).1
  obtain ⟨g', cap', he, hc, hg⟩ := h.outer.row.form_pos (by omega)
  simp at he
  obtain ⟨rfl, rfl⟩ := he
  exact ⟨hg, h.outer.row.cells _ _ c1, h.outer.row.cells _ _ c2, h3, h4⟩
theorem RowL.form {w : World} {v : Value} {n : Nat} (h : RowL w v n) : ∃ ao cap, v = .slice ao n cap ∧ n ≤ cap := by
  obtain ⟨xs, h⟩ := h
  exact h.form
theorem RowL.max {w : World} {v : Value} {n : Nat} (h : RowL w v n) : n ≤ maxLen := by
  obtain ⟨xs, h1, h2⟩ := h
  rcases h2 with ⟨_, hz⟩ | ⟨g, cap, cur, lo, hi, rfl, hg, hf, hc, hm, hs, ht⟩
  · omega
  · omega
/-- What stands while the texts' own list is bent. -/
structure KeptI (w : World) (B b0 b1 g gh gt n : Nat) (ks : List ByteArray) (rows : List (List ByteArray)) (vr : Value) (vs : List Value) (vl v2 : Value) (svs2 : List Value) (P : List Stp) (W : World) : Prop where
  bel : Below w.heap.size w W
  vlt : Vlt W B g gh none ks
  mem : TreeM b0 gt g rows vr vs W
  row : RowL W vl n
  path : PathM b1 v2 svs2 P W
theorem KeptI.set {w W : World} {B b0 b1 g gh gt n : Nat} {ks : List ByteArray} {rows : List (List ByteArray)} {vr vl v2 : Value} {vs svs2 : List Value} {P : List Stp} (h : KeptI w B b0 b1 g gh gt n ks rows vr vs vl v2 svs2 P W) {b o : Nat} (hb : w.heap.size ≤ b) (hb0 : b < b0) (hb1 : b < b1) {cs : Array Value} {fr : Nat × Nat} (hc : W.heap[b]? = some (.cells cs 9 fr)) (s : ByteArray) : KeptI w B b0 b1 g gh gt n ks rows vr vs vl v2 svs2 P (W.setCell ⟨b, o, none⟩ (.string s)) :=
  have hk := keeps_set W b o (.string s)
  ⟨h.bel.setCell hb _, h.vlt.low hk hc, h.mem.low hk (fun i e => by subst e; exact hb0), h.row.set b o s, h.path.low hk (fun i e => by subst e; exact hb1)⟩
set_option maxRecDepth 100000 in
set_option maxHeartbeats 3200000 in
theorem treeKept_walk (v1 : Value) (l1 : List ByteArray) (i : Int) (hi : in64 i) (w : World) (h1 : Strs w v1 l1) :
    Calls Try.prog 6 #[v1, .int .i64 i] w fun e w' => e = .returned (.bool true) ∧ Below w.heap.size w w' := by
  obtain ⟨ao1, cap1, rfl, hc1, hm1⟩ := h1.form
  have HS1 := Lib.hid (some_any 30 (by decide) _ l1 w h1)
  clear h1 hc1 hm1
  go_enter Try.func6, Try.ntmps6
  go_wp2_with fail
  refine HS1.out.mono ?_
  rintro e W1 ⟨v1', rfl, hA⟩
  obtain ⟨l, ha⟩ : ∃ a, a = someL l1 30 := ⟨_, rfl⟩
  have hl30 : l.length ≤ 30 := by rw [ha, someL_len]; omega
  have HAS := Lib.hid (show ∀ s ∈ l, s.size ≤ 64 by rw [ha]; exact someL_size)
  rw [← ha] at hA
  obtain ⟨ao1', cap1', rfl, hcp⟩ := hA.row.form
  have HA := Lib.hid hA
  clear hA HS1 ha
  go_wp2_with fail
  refine (Ideal_any W1).mono ?_
  rintro e W3 ⟨g, gh, rfl, hv, hb, hgh⟩
  have hA3 := (Strs.of_row HA.out.row).below hb
  have hown3 : Own w.heap.size W3 9 1 (.slice ao1' l.length cap1') l.length (strs l) := (Own.mk HA.out.row HA.out.base).step hb
  have hlow : ∀ b, (Value.slice ao1' l.length cap1').ownBlock = some b → b < W3.heap.size := fun b hb2 => Nat.lt_of_lt_of_le (HA.out.row.lt b hb2) hb.size
  have HB0 := Lib.hid (HA.out.below.trans (hb.mono HA.out.below.size))
  have HGH := Lib.hid (Nat.le_trans HA.out.below.size hgh)
  have HV := Lib.hid hv
  have HNW := Lib.hid (New_any vk_none _ g gh [] _ l W3 hv hA3 (by omega) (fun s hs => by have := HAS.out s hs; omega) (by decide))
  have HOWN3 := Lib.hid hown3
  have HLOW := Lib.hid hlow
  clear hA3 hv hb hgh HA hown3 hlow
  go_wp2_with fail
  refine HNW.out.mono ?_
  rintro e W5 ⟨gt, ks1, rows, vr, vs, rfl, hT, hM, hR⟩
  have hk := hR.len
  simp only [List.length_nil] at hk
  have HT := Lib.hid hT
  have HM := Lib.hid hM
  have HR := Lib.hid hR
  have HOWN5 := Lib.hid (HOWN3.out.ran HV.out hR)
  have hk5 : ks1.length ≤ 90 := by omega
  have HRT := Lib.hid (Root_of vk_none _ _ gt g gh ks1 l rows vr vs W5 (by omega) hR.vlt hT hM (by omega))
  clear hk HNW hT hM hR HOWN3
  go_wp2_with fail
  refine HRT.out.mono ?_
  rintro e W6 ⟨ks2, r0, rfl, hr, hR⟩
  have hk6 : ks2.length ≤ 91 := by have := hR.len; omega
  have HT6 := Lib.hid (HT.out.pre hR.pre)
  have HM6 := Lib.hid (HM.out.ran HR.out.vlt hR)
  have HR6 := Lib.hid (HR.out.trans hR)
  have HOWN6 := Lib.hid (HOWN5.out.ran HR.out.vlt hR)
  have HR0 := Lib.hid hr
  have HP := Lib.hid (Path_all _ gt g ks2 l rows vr vs W6 HT6.out HM6.out (by omega) i)
  clear hr hR HT HM HR HOWN5 HRT
  obtain ⟨n, hn⟩ : ∃ n, n = l.length := ⟨_, rfl⟩
  have HN := Lib.hid hn
  rw [← hn] at hl30 hcp HOWN6 HP HLOW ⊢
  obtain ⟨E, hE⟩ : ∃ E, E = pErr n i := ⟨_, rfl⟩
  obtain ⟨P, hPP⟩ : ∃ P, P = pAll rows n i := ⟨_, rfl⟩
  have HP32 := Lib.hid (show ∀ x ∈ P, ∀ s ∈ x.sides, s.size = 32 by rw [hPP]; exact pAll_small vk_none HT6.out n i)
  have hpl : P.length ≤ 31 := by have := pAll_len HT6.out n i; rw [← hn, ← hPP] at this; omega
  have HEE := Lib.hid hE
  have HPP := Lib.hid hPP
  rw [← hE, ← hPP] at HP
  clear hn hE hPP
  go_wp2_with fail
  refine HP.out.mono ?_
  rintro e W7 ⟨v, svs, rfl, hp, hb7⟩
  obtain ⟨aop, capp, rfl, hpc⟩ := hp.outer.row.form
  obtain ⟨pn, hpn⟩ : ∃ n, n = P.length := ⟨_, rfl⟩
  have HPN := Lib.hid hpn
  have hbd := hp.bend
  rw [← hpn] at hpc hpl hbd ⊢
  have HBD := Lib.hid hbd
  have HB7 := Lib.hid hb7
  clear hp hb7 hpn hbd HP
  go_wp2_with fail
  go_loopg [10] pn (fun j ti wr => ∃ q : Nat, j + q = pn ∧ ti = .int .i64 (q : Int) ∧ BendI W6.heap.size (.slice aop pn capp) svs P W7 wr)
  case atStart => exact ⟨0, by omega, rfl, HBD.out⟩
  case round =>
    clear HBD
    obtain ⟨q, hk, rfl, hI⟩ := hrel
    by_cases hlt : q < pn
    · obtain ⟨j, rfl⟩ : ∃ j, gk = j + 1 := ⟨gk - 1, by omega⟩
      have hql : q < P.length := by rw [← HPN.out]; exact hlt
      obtain ⟨gp, capp', sv, x, he, _, hx, hsv, _, _, _, _⟩ := hI.get hql
      simp at he
      obtain ⟨rfl, hnx, rfl⟩ := he
      clear hnx
      have HI := Lib.hid hI
      obtain ⟨hgp, c1, c2, hrl, hbase⟩ := hI.at2 HPN.out hsv hx
      have hmx := hrl.max
      obtain ⟨aos, caps, rfl, hcs⟩ := hrl.form
      have u2 : (0 : Int) ≤ (q : Int) := by omega
      have u3 : (q : Int) < (pn : Int) := by omega
      have hkj : j + (q + 1) = pn := by omega
      have HKJ := Lib.hid hkj
      have HX := Lib.hid hx
      have HSV := Lib.hid hsv
      obtain ⟨m, hm⟩ : ∃ m, m = x.sides.length := ⟨_, rfl⟩
      have HMM := Lib.hid hm
      rw [← hm] at hcs hmx
      have HMX := Lib.hid (show m ≤ 9223372036854775807 by unfold maxLen at hmx; omega)
      clear hI hk hlt hql hx hsv hrl hbase hkj hm c1 c2
      go_wp2_with fail
      go_loopg [11] m (fun j2 ti wr2 => ∃ q2 : Nat, j2 + q2 = m ∧ ti = .int .i64 (q2 : Int) ∧ BendI W6.heap.size (.slice (some ⟨gp, 0, none⟩) pn capp) svs P W7 wr2)
      case atStart => exact ⟨0, by omega, rfl, HI.out⟩
      case round =>
        clear HI
        obtain ⟨q2, hk2, rfl, hI2⟩ := hrel
        obtain ⟨hgp2, c1, c2, hrl, hbase⟩ := hI2.at2 HPN.out HSV.out HX.out
        rw [← HMM.out] at c2 hrl hbase
        by_cases hlt2 : q2 < m
        · obtain ⟨j2, rfl⟩ : ∃ j, gk = j + 1 := ⟨gk - 1, by omega⟩
          obtain ⟨g3, cap3, cs3, fr3, u, he, hc3, hb3, d1, f1⟩ := hrl.at_ hlt2
          simp at he
          obtain ⟨rfl, rfl⟩ := he
          have hset := hI2.set (o := q2) (hbase g3 rfl) hb3 ⟨#[98, 101, 110, 116]⟩
          have HSET := Lib.hid hset
          have u4 : (0 : Int) ≤ (q2 : Int) := by omega
          have u5 : (q2 : Int) < (m : Int) := by omega
          have hkj2 : j2 + (q2 + 1) = m := by omega
          have HKJ2 := Lib.hid hkj2
          have hq2 : m ≤ 9223372036854775807 := HMX.out
          clear hI2 hrl hbase hset hk2 hlt2 hkj2 hb3
          go_wp2_with fail
          go_roundg j2
          case measure => omega
          case rel => exact ⟨q2 + 1, HKJ2.out, by go_num, HSET.out⟩
        · have HI2 := Lib.hid hI2
          have hq2m : q2 = m := by omega
          subst hq2m
          clear hI2 hrl hbase hk2 hlt2
          go_wp2_with fail
          go_roundg j
          case measure => omega
          case rel => exact ⟨q + 1, HKJ.out, by go_num, HI2.out⟩
    · obtain rfl : gk = 0 := by omega
      have hqn : q = pn := by omega
      subst hqn
      have hb8 := HB7.out.trans (hI.bel.mono (Nat.le_refl _))
      have HR8 := Lib.hid (HR6.out.below hb8)
      have HM8 := Lib.hid (HM6.out.below hb8)
      have HOWN8 := Lib.hid (HOWN6.out.step hb8)
      have HP8 := Lib.hid (Path_all _ gt g ks2 l rows vr vs wr HT6.out (HM6.out.below hb8) (by rw [← HN.out]; omega) i)
      rw [← HN.out, ← HEE.out, ← HPP.out] at HP8
      clear hI hb8 hk hlt HB7
      go_wp2_with fail
      refine HP8.out.mono ?_
      rintro e W9 ⟨v2, svs2, rfl, hp, hb9⟩
      obtain ⟨aoq, capq, rfl, hpc2⟩ := hp.outer.row.form
      rw [← HPN.out] at hp hpc2 ⊢
      obtain ⟨b1, hb1⟩ : ∃ b, b = wr.heap.size := ⟨_, rfl⟩
      rw [← hb1] at hp
      have h3b : W3.heap.size ≤ b1 := by rw [hb1]; exact HR8.out.kp.size
      have hF8 := HR8.out.below0 HB0.out HGH.out
      have HK0 := Lib.hid (show KeptI w W3.heap.size W3.heap.size b1 g gh gt n ks2 rows vr vs (.slice ao1' n cap1') (.slice aoq q capq) svs2 P W9 from
        ⟨hF8.trans (hb9.mono hF8.size), (HR8.out.below hb9).vlt, HM8.out.below hb9, ⟨_, (HOWN8.out.step hb9).row⟩, hp⟩)
      have HBASE := Lib.hid HOWN8.out.base
      have H3B := Lib.hid h3b
      clear hb1 hp h3b hF8 hb9 HR8 HM8 HOWN8 HP8
      go_wp2_with fail
      go_loopg [14] n (fun j ti wx => ∃ q3 : Nat, j + q3 = n ∧ ti = .int .i64 (q3 : Int) ∧ KeptI w W3.heap.size W3.heap.size b1 g gh gt n ks2 rows vr vs (.slice ao1' n cap1') (.slice aoq q capq) svs2 P wx)
      case atStart => exact ⟨0, by omega, rfl, HK0.out⟩
      case round =>
        clear HK0
        obtain ⟨q3, hk3, rfl, hK⟩ := hrel
        by_cases hlt3 : q3 < n
        · obtain ⟨j3, rfl⟩ : ∃ j, gk = j + 1 := ⟨gk - 1, by omega⟩
          obtain ⟨g3, cap3, cs3, fr3, u, he, hc3, hb3, d1, f1⟩ := hK.row.at_ hlt3
          simp at he
          obtain ⟨rfl, rfl⟩ := he
          have h3 := HLOW.out g3 rfl
          have hset := hK.set (o := q3) (HBASE.out g3 rfl) h3 (Nat.lt_of_lt_of_le h3 H3B.out) hb3 ⟨#[98, 101, 110, 116]⟩
          have HSET := Lib.hid hset
          have u4 : (0 : Int) ≤ (q3 : Int) := by omega
          have u5 : (q3 : Int) < (n : Int) := by omega
          have hkj3 : j3 + (q3 + 1) = n := by omega
          have HKJ3 := Lib.hid hkj3
          have hq3 : q3 ≤ 30 := by omega
          clear hK hset hk3 hlt3 hkj3 hb3 h3
          go_wp2_with fail
          go_roundg j3
          case measure => omega
          case rel => exact ⟨q3 + 1, HKJ3.out, by go_num, HSET.out⟩
        · have hq3n : q3 = n := by omega
          subst hq3n
          have HK := Lib.hid hK
          clear hK hk3 hlt3
          obtain ⟨W10, hW10⟩ : ∃ W, W = wr := ⟨_, rfl⟩
          subst hW10
          go_wp2_with fail
          have HST := Lib.hid HK.out.path.steps
          go_loopg [15, 16] q (fun j tb ti wx => ∃ q4 : Nat, j + q4 = q ∧ ti = .int .i64 (q4 : Int) ∧ tb = .bool false ∧ wx = W10)
          case atStart => exact ⟨0, by omega, rfl, rfl, rfl⟩
          case round =>
            obtain ⟨q4, hk4, rfl, rfl, rfl⟩ := hrel
            by_cases hlt4 : q4 < q
            · obtain ⟨j4, rfl⟩ : ∃ j, gk = j + 1 := ⟨gk - 1, by omega⟩
              have hq4 : q4 < P.length := by rw [← HPN.out]; exact hlt4
              obtain ⟨g4, o4, sv4, rfl, hg4, hw4, c1, c2, hs4⟩ := HST.out.get (i := q4) hq4
              clear hw4
              obtain ⟨x, hx⟩ : ∃ x, x = P[q4] := ⟨_, rfl⟩
              rw [← hx] at c1 hs4
              have HX32 := Lib.hid (show ∀ s ∈ x.sides, s.size = 32 by rw [hx]; exact HP32.out _ (List.getElem_mem hq4))
              obtain ⟨aos, caps, rfl, hcs, hms⟩ := hs4.form
              obtain ⟨m, hm⟩ : ∃ m, m = x.sides.length := ⟨_, rfl⟩
              have HMM := Lib.hid hm
              rw [← hm] at hcs hms hs4 c2
              have HS4 := Lib.hid hs4
              have hm63 : m ≤ 9223372036854775807 := by unfold maxLen at hms; omega
              have u2 : (0 : Int) ≤ (q4 : Int) := by omega
              have u3 : (q4 : Int) < (q : Int) := by omega
              have hkj4 : j4 + (q4 + 1) = q := by omega
              have HKJ4 := Lib.hid hkj4
              clear hk4 hlt4 hkj4 hq4 hx hm hs4 hms
              go_wp2_with fail
              go_loopg [15, 17] m (fun j tb ti wx => ∃ q5 : Nat, j + q5 = m ∧ ti = .int .i64 (q5 : Int) ∧ tb = .bool false ∧ wx = wr)
              case atStart => exact ⟨0, by omega, rfl, rfl, rfl⟩
              case round =>
                obtain ⟨q5, hk5', rfl, rfl, hwr⟩ := hrel
                subst hwr
                by_cases hlt5 : q5 < m
                · obtain ⟨j5, rfl⟩ : ∃ j, gk = j + 1 := ⟨gk - 1, by omega⟩
                  have hq5 : q5 < x.sides.length := by rw [← HMM.out]; exact hlt5
                  obtain ⟨g5, o5, rfl, hg5, x5⟩ := HS4.out.get (i := q5) hq5
                  obtain ⟨t, ht⟩ : ∃ t, t = x.sides[q5] := ⟨_, rfl⟩
                  rw [← ht] at x5
                  have ht32 : t.size = 32 := by rw [ht]; exact HX32.out _ (List.getElem_mem hq5)
                  have hbe : (t.toList == (⟨#[98, 101, 110, 116]⟩ : ByteArray).toList) = false := by
                    rw [str_beq2]
                    refine decide_eq_false (fun e => ?_)
                    subst e
                    exact absurd ht32 (by decide)
                  rw [show (⟨#[98, 101, 110, 116]⟩ : ByteArray).toList = [98, 101, 110, 116] by rw [ByteArray.toList_eq]] at hbe
                  have u4 : (0 : Int) ≤ (q5 : Int) := by omega
                  have u5 : (q5 : Int) < (m : Int) := by omega
                  have hkj5 : j5 + (q5 + 1) = m := by omega
                  have HKJ5 := Lib.hid hkj5
                  clear hk5' hlt5 hkj5 hq5 ht
                  go_wp2_with fail
                  go_roundg j5
                  case measure => omega
                  case rel => exact ⟨q5 + 1, HKJ5.out, by go_num, rfl, rfl⟩
                · have hqm : q5 = m := by omega
                  subst hqm
                  clear hk5' hlt5
                  go_wp2_with fail
                  go_roundg j4
                  case measure => omega
                  case rel => exact ⟨q4 + 1, HKJ4.out, by go_num, rfl, rfl⟩
            · have hqm : q4 = q := by omega
              subst hqm
              have HRT := Lib.hid (Root_of vk_none _ _ gt g gh ks2 l rows vr vs wr (by rw [← HN.out]; omega) HK.out.vlt HT6.out HK.out.mem (by omega))
              clear hk4 hlt4
              go_wp2_with fail
              refine HRT.out.mono ?_
              rintro e W11 ⟨ks3, r1, rfl, hr1, hR1⟩
              obtain rfl := hr1.fn (HR0.out.pre hR1.pre)
              have HF := Lib.hid (hR1.below0 HK.out.bel HGH.out)
              clear hr1 hR1 HRT
              go_wp2_with fail
              refine (awake_any _).mono ?_
              rintro e W12 ⟨rfl, hb⟩
              have HF2 := Lib.hid (HF.out.trans (hb.mono HF.out.size))
              clear hb
              go_wp2_with fail
              go_ret
              exact ⟨rfl, HF2.out⟩
end Go.Proofs.Ytjoilobbopdcpaa.B
