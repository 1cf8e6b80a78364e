/-
  TreeChecks.
-/
import Derived.Test.YtjoilobbopdcpaaRTreeE
namespace Go.Proofs.Ytjoilobbopdcpaa.B
open Go.RowKit
set_option linter.unusedVariables false
set_option linter.unusedSimpArgs false

theorem CheckR.anyks {f : ByteArray → ByteArray} {ks : List ByteArray} (ks' : List ByteArray) {top : ByteArray} {n i : Int} {s : ByteArray} {path : List Stp} {b : Bool} (h : CheckR (some f) ks top n i s path b) : CheckR (some f) ks' top n i s path b := by
  have hc : ∀ {p : List Stp} {n i : Nat} {h : ByteArray} {all : Int}, ChkR (some f) ks top all p n i h b → ChkR (some f) ks' top all p n i h b := by
    intro p
    induction p with
    | nil => intro n i h all hh; exact hh
    | cons x p ih =>
      intro n i h all hh
      unfold ChkR at hh ⊢
      split at hh
      · rename_i h1; rw [if_pos h1]; exact hh
      · rename_i h1
        rw [if_neg h1]
        obtain ⟨r, h2, h3⟩ := hh
        exact ⟨r, h2, ih h3⟩
  unfold CheckR at h ⊢
  split at h
  · rename_i h1; rw [if_pos h1]; exact h
  · rename_i h1
    rw [if_neg h1]
    obtain ⟨r, h2, h3⟩ := h
    exact ⟨r, h2, hc h3⟩
set_option maxRecDepth 100000 in
set_option maxHeartbeats 3200000 in
theorem treeChecks_walk (top : ByteArray) (n i : Int) (hn : in64 n) (hi : in64 i) (s : ByteArray) (hs : s.size ≤ maxLen) (v : Value) (path : List Stp) (w : World) (hp : StepsAt w v path) :
    Calls Try.prog 9 #[.string top, .int .i64 n, .int .i64 i, .string s, v] w fun e w' => e = .returned (.bool true) ∧ Below w.heap.size w w' := by
  obtain ⟨ao, cap, rfl, hcap, hmax⟩ := hp.form
  have hu := Try.underlying40
  obtain ⟨m, hm⟩ : ∃ m, m = path.length := ⟨_, rfl⟩
  rw [← hm] at hcap hp hmax ⊢
  have hm63 : (m : Int) ≤ 9223372036854775807 := by unfold maxLen at hmax; omega
  have hs63 : (s.size : Int) ≤ 9223372036854775807 := by unfold maxLen at hs; omega
  have HP := Lib.hid hp
  have HM := Lib.hid hm
  have HN := Lib.hid (And.intro hn hi)
  clear hp hm hn hi hmax hs
  by_cases h12 : 12 < m
  · have z1 : (12 : Int) < (m : Int) := by omega
    clear h12
    go_enter Try.func9, Try.ntmps9
    go_wp2_with fail
    refine (awake_any _).mono ?_
    rintro e W9 ⟨rfl, hb⟩
    have HF2 := Lib.hid hb
    clear hb
    go_wp2_with fail
    go_ret
    exact ⟨rfl, HF2.out⟩
  have z1 : ¬ (12 : Int) < (m : Int) := by omega
  by_cases h64 : 64 < s.size
  · have z2 : (64 : Int) < (s.size : Int) := by omega
    clear h12
    go_enter Try.func9, Try.ntmps9
    go_wp2_with fail
    refine (awake_any _).mono ?_
    rintro e W9 ⟨rfl, hb⟩
    have HF2 := Lib.hid hb
    clear hb
    go_wp2_with fail
    go_ret
    exact ⟨rfl, HF2.out⟩
  have z2 : ¬ (64 : Int) < (s.size : Int) := by omega
  have HSZ := Lib.hid (show s.size ≤ 64 by omega)
  clear h64
  go_enter Try.func9, Try.ntmps9
  go_wp2_with fail
  go_loopg [11] m (fun j k wr => ∃ q : Nat, j + q = m ∧ k = .int .i64 (q : Int) ∧ wr = w)
  case atStart => exact ⟨0, by omega, rfl, rfl⟩
  case round =>
    obtain ⟨q, hk, rfl, rfl⟩ := hrel
    by_cases hlt : q < m
    · obtain ⟨j, rfl⟩ : ∃ j, gk = j + 1 := ⟨gk - 1, by omega⟩
      have hlen : q < path.length := by rw [← HM.out]; exact hlt
      obtain ⟨g1, o1, sv, rfl, hg1, hxw, c1, c2, hst⟩ := HP.out.get (i := q) hlen
      obtain ⟨aos, caps, rfl, hcs, hms⟩ := hst.form
      obtain ⟨L, hL⟩ : ∃ L, L = (path[q]).sides.length := ⟨_, rfl⟩
      rw [← hL] at c2 hcs hms
      have hL63 : (L : Int) ≤ 9223372036854775807 := by unfold maxLen at hms; omega
      have u2 : (0 : Int) ≤ (q : Int) := by omega
      have u3 : (q : Int) < (m : Int) := by omega
      have hkj : j + (q + 1) = m := by omega
      have HKJ := Lib.hid hkj
      clear hst hL hms hkj hlt hk c1 hxw
      clear hlen
      by_cases h8 : 8 < L
      · have z3 : (8 : Int) < (L : Int) := by omega
        clear h8
        go_wp2_with fail
        refine (awake_any _).mono ?_
        rintro e W9 ⟨rfl, hb⟩
        have HF2 := Lib.hid hb
        clear hb
        go_wp2_with fail
        go_ret
        exact ⟨rfl, HF2.out⟩
      · have z3 : ¬ (8 : Int) < (L : Int) := by omega
        clear h8
        go_wp2_with fail
        go_roundg j
        case measure => omega
        case rel => exact ⟨q + 1, HKJ.out, by go_num, rfl⟩
    · obtain rfl : gk = 0 := by omega
      obtain rfl : q = m := by omega
      clear hlt hk
      go_wp2_with fail
      refine (real_any wr).mono ?_
      rintro e W2 ⟨g, gw, rfl, hv, hw, hb⟩
      have HB2 := Lib.hid hb
      have hpl : path.length ≤ 12 := by rw [← HM.out]; omega
      have HC := Lib.hid (Check_any vk_real _ g gw [] top n i HN.out.1 HN.out.2 s (by have := HSZ.out; omega) _ path (by omega) W2 hv (HP.out.below hb) (by decide))
      have HR := Lib.hid (fun W (hb2 : Below W2.heap.size W2 W) => refCheck_any gw top n i HN.out.1 HN.out.2 s (by have := HSZ.out; omega) _ path (by omega) W (hw.below hb2) ((HP.out.below hb).below hb2))
      clear hv hw hb hpl
      go_wp2_with fail
      refine HC.out.mono ?_
      rintro e W3 ⟨ks1, b1, rfl, hc, hr⟩
      have HC1 := Lib.hid (hc.anyks [])
      have HB3 := Lib.hid hr.real
      clear hc hr HC
      go_wp2_with fail
      refine (HR.out W3 HB3.out).mono ?_
      rintro e W4 ⟨b2, rfl, hc, hb⟩
      obtain rfl := HC1.out.fn hc
      have HB4 := Lib.hid (HB2.out.trans ((HB3.out.trans (hb.mono HB3.out.size)).mono HB2.out.size))
      have hbe : (b1 == b1) = true := by simp
      clear hc hb HR HB3 HB2 HC1
      go_wp2_with fail
      refine (awake_any _).mono ?_
      rintro e W9 ⟨rfl, hb⟩
      have HF2 := Lib.hid (HB4.out.trans (hb.mono HB4.out.size))
      clear hb
      go_wp2_with fail
      go_ret
      exact ⟨rfl, HF2.out⟩
end Go.Proofs.Ytjoilobbopdcpaa.B
