/-
  Steps; tree.fits, walked.
-/
import Derived.Test.YtjoilobbopdcpaaTreeD
namespace Go.Proofs.Ytjoilobbopdcpaa.B
open Go.RowKit
set_option linter.unusedVariables false
set_option linter.unusedSimpArgs false

structure Stp where
  at' : Int
  sides : List ByteArray
def in64 (n : Int) : Prop := -9223372036854775808 ≤ n ∧ n ≤ 9223372036854775807
/-- v reads as the steps path. -/
def StepsAt (w : World) (v : Value) (path : List Stp) : Prop :=
  ∃ ao cap, v = .slice ao path.length cap ∧ path.length ≤ cap ∧ path.length ≤ maxLen ∧
    (0 < path.length → ∃ g o, ao = some ⟨g, o, none⟩ ∧ g < w.heap.size ∧ ∀ (i : Nat) x, path[i]? = some x → in64 x.at' ∧ ∃ sv, w.cell? ⟨g, o + i * 2, none⟩ = some (.int .i64 x.at') ∧ w.cell? ⟨g, o + i * 2 + 1, none⟩ = some sv ∧ Strs w sv x.sides)
theorem StepsAt.form {w : World} {v : Value} {path : List Stp} (h : StepsAt w v path) : ∃ ao cap, v = .slice ao path.length cap ∧ path.length ≤ cap ∧ path.length ≤ maxLen := by
  obtain ⟨ao, cap, he, h1, h2, h3⟩ := h
  exact ⟨ao, cap, he, h1, h2⟩
theorem StepsAt.nil (w : World) : StepsAt w (.slice none 0 0) [] := ⟨none, 0, rfl, Nat.le_refl _, by simp, fun h => by simp at h⟩
theorem cell_isCells {w : World} {g i : Nat} {u : Value} (h : w.cell? ⟨g, i, none⟩ = some u) : ∃ cs t fr, w.heap[g]? = some (.cells cs t fr) := by
  unfold World.cell? at h
  split at h
  · rename_i cs t fr hcs
    exact ⟨_, _, _, hcs⟩
  · cases h
theorem StepsAt.keeps {w w' : World} {v : Value} {path : List Stp} {S : Nat → Prop} (h : StepsAt w v path) (hk : Keeps S w w') (hn : ∀ g, (∃ cs t fr, w.heap[g]? = some (.cells cs t fr)) → ¬ S g) : StepsAt w' v path := by
  obtain ⟨ao, cap, he, h1, h2, h3⟩ := h
  refine ⟨ao, cap, he, h1, h2, fun h0 => ?_⟩
  obtain ⟨g, o, e, hg, hc⟩ := h3 h0
  refine ⟨g, o, e, Nat.lt_of_lt_of_le hg hk.size, fun i x hx => ?_⟩
  obtain ⟨hw, sv, c1, c2, hs⟩ := hc i x hx
  have hng := hn g (cell_isCells c1)
  exact ⟨hw, sv, (hk.cell (p := ⟨g, _, none⟩) hg hng).trans c1, (hk.cell (p := ⟨g, _, none⟩) hg hng).trans c2, hs.keeps hk hn⟩
theorem StepsAt.below {w w' : World} {v : Value} {path : List Stp} (h : StepsAt w v path) (hb : Below w.heap.size w w') : StepsAt w' v path :=
  h.keeps (Keeps.of_below (S := fun _ => False) hb) (fun _ _ h => h)
theorem StepsAt.ran {w w' : World} {v : Value} {path : List Stp} {B g gh c : Nat} {k : Option (ByteArray → ByteArray)} {ks ks' : List ByteArray} (h : StepsAt w v path) (hv : Vlt w B g gh k ks) (hr : Ran B g gh k c ks ks' w w') : StepsAt w' v path :=
  h.keeps hr.kp (fun i hi => hv.no i hi)
theorem StepsAt.get {w : World} {ao : Option Addr} {n cap : Nat} {path : List Stp} (h : StepsAt w (.slice ao n cap) path) {i : Nat} (hi : i < path.length) : ∃ g o sv, ao = some ⟨g, o, none⟩ ∧ g < w.heap.size ∧ in64 (path[i]).at' ∧ w.cell? ⟨g, o + i * 2, none⟩ = some (.int .i64 (path[i]).at') ∧ w.cell? ⟨g, o + i * 2 + 1, none⟩ = some sv ∧ Strs w sv (path[i]).sides := by
  obtain ⟨ao', cap', he, _, _, hc⟩ := h
  simp at he
  obtain ⟨rfl, rfl, rfl⟩ := he
  obtain ⟨g, o, e, hg, hc⟩ := hc (by omega)
  obtain ⟨hw, sv, c1, c2, hs⟩ := hc i _ (List.getElem?_eq_getElem hi)
  exact ⟨g, o, sv, e, hg, hw, c1, c2, hs⟩
/-- May a step stand at place i of n? -/
def fitsB (x : Stp) (i n : Nat) : Bool := decide (x.at' = ((i % 4 : Nat) : Int)) && (decide (x.sides.length + 1 = min 4 (n - i / 4 * 4)) && x.sides.all (fun s => decide (s.size = 32)))
set_option maxRecDepth 100000 in
set_option maxHeartbeats 1600000 in
theorem fits_any (x : Stp) (hx : in64 x.at') (sv : Value) (i n : Nat) (hi : i < n) (hn : n ≤ 1000000) (w : World) (hs : Strs w sv x.sides) :
    Calls Try.prog 31 #[.agg #[.int .i64 x.at', sv], .int .i64 i, .int .i64 n] w fun e w' => e = .returned (.bool (fitsB x i n)) ∧ Below w.heap.size w w' := by
  obtain ⟨ao, cap, rfl, hcap, hmax⟩ := hs.form
  have hu := Try.underlying40
  obtain ⟨R, hR⟩ : ∃ R, R = fitsB x i n := ⟨_, rfl⟩
  rw [← hR]
  unfold fitsB at hR
  obtain ⟨m, hm⟩ : ∃ m, m = x.sides.length := ⟨_, rfl⟩
  rw [← hm] at hcap hmax hR hs
  rw [← hm]
  have hlm : (m : Int) ≤ 9223372036854775807 := by unfold maxLen at hmax; omega
  obtain ⟨a, ha⟩ : ∃ a, a = x.at' := ⟨_, rfl⟩
  rw [← ha] at hR hx ⊢
  have HM := Lib.hid hm
  have HS := Lib.hid hs
  obtain ⟨r, hr⟩ : ∃ r, r = i % 4 := ⟨_, rfl⟩
  obtain ⟨d, hd⟩ : ∃ d, d = min 4 (n - i / 4 * 4) := ⟨_, rfl⟩
  have e1 : (i : Int) % 4 = (r : Int) := by omega
  have hd1 : 1 ≤ d := by omega
  rw [← hr, ← hd] at hR
  clear hm hs hmax ha
  obtain ⟨Q, hQ⟩ : ∃ Q, Q = i / 4 := ⟨_, rfl⟩
  have e2 : (i : Int) / 4 = (Q : Int) := by omega
  have v1 : wrap64 ((Q : Int) * 4) = (Q : Int) * 4 := IntWalk.wrap64_in _ ⟨by omega, by omega⟩
  obtain ⟨D, hD⟩ : ∃ D, D = n - Q * 4 := ⟨_, rfl⟩
  have v2 : wrap64 ((n : Int) - (Q : Int) * 4) = (D : Int) := by
    rw [IntWalk.wrap64_in _ ⟨by omega, by omega⟩]; omega
  have e3 : (n : Int) - (Q : Int) * 4 = (D : Int) := by omega
  have hdd : d = min 4 D := by rw [hd, hD, hQ]
  rw [← hQ] at hd
  have hD1 : 1 ≤ D := by omega
  by_cases hat : a = (r : Int)
  · have hb : (a != (r : Int)) = false := by simpa using hat
    by_cases hD4 : D < 4
    · have z1 : (D : Int) < 4 := by omega
      have z2 : wrap64 ((D : Int) - 1) = ((D - 1 : Nat) : Int) := by
        rw [IntWalk.wrap64_in _ ⟨by omega, by omega⟩]; omega
      obtain ⟨E, hE⟩ : ∃ E, E = D - 1 := ⟨_, rfl⟩
      rw [← hE] at z2
      have e4 : (D : Int) - 1 = (E : Int) := by omega
      have hdE : d = E + 1 := by omega
      clear hQ hD hE hD4 hdd
      by_cases hmd : m + 1 = d
      · have hbm5 : m = E := by omega
        subst hbm5
        have hbm : ((m : Int) != (m : Int)) = false := by simp
        have hbm2 : True := trivial
        rw [decide_eq_true hat, decide_eq_true hmd, Bool.true_and, Bool.true_and] at hR
        have HR := Lib.hid hR
        have HI0 := Lib.hid (HS.out.below ((Below.refl _ w).alloc (Nat.le_refl _) (.cells #[.int .i64 a, .slice ao m cap] 40 (0, 0))))
        have HB0 := Lib.hid ((Below.refl _ w).alloc (Nat.le_refl _) (.cells #[.int .i64 a, .slice ao m cap] 40 (0, 0)))
        clear hR hd hr hmd hbm2 hat
        go_enter Try.func31, Try.ntmps31
        go_wp2_with fail
        generalize (w.alloc (.cells #[.int .i64 a, .slice ao m cap] 40 (0, 0))) = W0 at HI0 HB0 ⊢
        clear hbm v1 v2 z1 z2 hdE hb hD1 e1 e2 e3 e4
        go_loopg [30] m (fun j i wr => ∃ q : Nat, j + q = m ∧ i = .int .i64 (q : Int) ∧ R = (x.sides.drop q).all (fun s => decide (s.size = 32)) ∧ wr = W0)
        case atStart => exact ⟨0, by omega, rfl, HR.out, rfl⟩
        case round =>
          clear HR
          obtain ⟨q, hk, rfl, hq, rfl⟩ := hrel
          by_cases hlt : q < m
          · obtain ⟨j, rfl⟩ : ∃ j, gk = j + 1 := ⟨gk - 1, by omega⟩
            have hlen : q < x.sides.length := by rw [← HM.out]; exact hlt
            obtain ⟨gl, oo, rfl, hg, x0⟩ := HI0.out.get (i := q) hlen
            rw [List.drop_eq_getElem_cons hlen, List.all_cons] at hq
            obtain ⟨f, hf⟩ : ∃ f, f = x.sides[q] := ⟨_, rfl⟩
            rw [← hf] at x0 hq
            have u2 : (0 : Int) ≤ (q : Int) := by omega
            have u3 : (q : Int) < (m : Int) := by omega
            have hkj : j + (q + 1) = m := by omega
            have HKJ := Lib.hid hkj
            by_cases h32 : f.size = 32
            · have hb : ((f.size : Int) != 32) = false := by simp; omega
              rw [decide_eq_true h32, Bool.true_and] at hq
              have HQ := Lib.hid hq
              clear hq hk hlt hkj hf h32 hlen
              go_wp2_with fail
              go_roundg j
              case measure => omega
              case rel => exact ⟨q + 1, HKJ.out, by go_num, HQ.out, rfl⟩
            · have hb : ((f.size : Int) != 32) = true := by simp; omega
              rw [decide_eq_false h32, Bool.false_and] at hq
              have HQ := Lib.hid hq
              clear hq hk hlt hkj hf h32 hlen
              go_wp2_with fail
              go_ret
              exact ⟨by rw [HQ.out]; rfl, HB0.out⟩
          · obtain rfl : gk = 0 := by omega
            obtain rfl : q = m := by omega
            rw [List.drop_of_length_le (by rw [← HM.out]; exact Nat.le_refl _)] at hq
            have HQ := Lib.hid hq
            clear hq hk hlt
            go_wp2_with fail
            go_ret
            exact ⟨by rw [HQ.out]; rfl, HB0.out⟩
      · have hbm5 : ¬ m = E := by omega
        have hbm6 : (m == E) = false := by simp [hbm5]
        have hbm7 : (m != E) = true := by simp [hbm5]
        have hbm : ((m : Int) != (E : Int)) = true := by simp; omega
        rw [decide_eq_true hat, decide_eq_false hmd, Bool.true_and, Bool.false_and] at hR
        have HR := Lib.hid hR
        clear hR hd hr hmd hat
        go_enter Try.func31, Try.ntmps31
        go_wp2_with fail
        go_ret
        exact ⟨by rw [HR.out]; rfl, (Below.refl _ w).alloc (Nat.le_refl _) _⟩
    · have z1 : ¬ (D : Int) < 4 := by omega
      have hdE : d = 4 := by omega
      clear hQ hD hD4 hdd
      by_cases hmd : m + 1 = d
      · have hbm : ((m : Int) != (3 : Int)) = false := by simp; omega
        have hbm2 : (m : Int) = (3 : Int) := by omega
        rw [decide_eq_true hat, decide_eq_true hmd, Bool.true_and, Bool.true_and] at hR
        have HR := Lib.hid hR
        have HI0 := Lib.hid (HS.out.below ((Below.refl _ w).alloc (Nat.le_refl _) (.cells #[.int .i64 a, .slice ao m cap] 40 (0, 0))))
        have HB0 := Lib.hid ((Below.refl _ w).alloc (Nat.le_refl _) (.cells #[.int .i64 a, .slice ao m cap] 40 (0, 0)))
        clear hR hd hr hmd hbm2 hat
        go_enter Try.func31, Try.ntmps31
        go_wp2_with fail
        generalize (w.alloc (.cells #[.int .i64 a, .slice ao m cap] 40 (0, 0))) = W0 at HI0 HB0 ⊢
        clear hbm v1 v2 z1 hdE hb hD1 e1 e2 e3
        go_loopg [30] m (fun j i wr => ∃ q : Nat, j + q = m ∧ i = .int .i64 (q : Int) ∧ R = (x.sides.drop q).all (fun s => decide (s.size = 32)) ∧ wr = W0)
        case atStart => exact ⟨0, by omega, rfl, HR.out, rfl⟩
        case round =>
          clear HR
          obtain ⟨q, hk, rfl, hq, rfl⟩ := hrel
          by_cases hlt : q < m
          · obtain ⟨j, rfl⟩ : ∃ j, gk = j + 1 := ⟨gk - 1, by omega⟩
            have hlen : q < x.sides.length := by rw [← HM.out]; exact hlt
            obtain ⟨gl, oo, rfl, hg, x0⟩ := HI0.out.get (i := q) hlen
            rw [List.drop_eq_getElem_cons hlen, List.all_cons] at hq
            obtain ⟨f, hf⟩ : ∃ f, f = x.sides[q] := ⟨_, rfl⟩
            rw [← hf] at x0 hq
            have u2 : (0 : Int) ≤ (q : Int) := by omega
            have u3 : (q : Int) < (m : Int) := by omega
            have hkj : j + (q + 1) = m := by omega
            have HKJ := Lib.hid hkj
            by_cases h32 : f.size = 32
            · have hb : ((f.size : Int) != 32) = false := by simp; omega
              rw [decide_eq_true h32, Bool.true_and] at hq
              have HQ := Lib.hid hq
              clear hq hk hlt hkj hf h32 hlen
              go_wp2_with fail
              go_roundg j
              case measure => omega
              case rel => exact ⟨q + 1, HKJ.out, by go_num, HQ.out, rfl⟩
            · have hb : ((f.size : Int) != 32) = true := by simp; omega
              rw [decide_eq_false h32, Bool.false_and] at hq
              have HQ := Lib.hid hq
              clear hq hk hlt hkj hf h32 hlen
              go_wp2_with fail
              go_ret
              exact ⟨by rw [HQ.out]; rfl, HB0.out⟩
          · obtain rfl : gk = 0 := by omega
            obtain rfl : q = m := by omega
            rw [List.drop_of_length_le (by rw [← HM.out]; exact Nat.le_refl _)] at hq
            have HQ := Lib.hid hq
            clear hq hk hlt
            go_wp2_with fail
            go_ret
            exact ⟨by rw [HQ.out]; rfl, HB0.out⟩
      · have hbm : ((m : Int) != (3 : Int)) = true := by simp; omega
        rw [decide_eq_true hat, decide_eq_false hmd, Bool.true_and, Bool.false_and] at hR
        have HR := Lib.hid hR
        clear hR hd hr hmd hat
        go_enter Try.func31, Try.ntmps31
        go_wp2_with fail
        go_ret
        exact ⟨by rw [HR.out]; rfl, (Below.refl _ w).alloc (Nat.le_refl _) _⟩
  · have hb : (a != (r : Int)) = true := by simpa using hat
    rw [decide_eq_false hat, Bool.false_and] at hR
    have HR := Lib.hid hR
    clear hd hr hR hQ hD hdd
    go_enter Try.func31, Try.ntmps31
    go_wp2_with fail
    go_ret
    exact ⟨by rw [HR.out]; rfl, (Below.refl _ w).alloc (Nat.le_refl _) _⟩
end Go.Proofs.Ytjoilobbopdcpaa.B
