/-
  The document's group, four and Topped, walked.
-/
import Derived.Test.YtjoilobbopdcpaaVaultR
namespace Go.Proofs.Ytjoilobbopdcpaa.B
open Go.RowKit
set_option linter.unusedVariables false
set_option linter.unusedSimpArgs false

set_option maxRecDepth 100000 in
theorem rgroup_any (v : Value) (l : List ByteArray) (a : Nat) (w : World) (hv : Strs w v l) (hi : a < l.length) (hl : l.length ≤ 1000000000) :
    Calls Try.prog 38 #[v, .int .i64 a] w fun e w' => ∃ v', e = .returned v' ∧ Strs w v' (groupL l (a / 4)) ∧ w' = w := by
  obtain ⟨ao, cap, rfl, hcap, hmax⟩ := hv.form
  obtain ⟨i, hia⟩ : ∃ i, i = a / 4 := ⟨_, rfl⟩
  obtain ⟨r, hr⟩ : ∃ r, r = a % 4 := ⟨_, rfl⟩
  rw [← hia]
  have HP := Lib.hid (hv.part (a := 4 * i) (b := min (4 * i + 4) l.length) (by omega) (by omega))
  obtain ⟨n, hn⟩ : ∃ n, n = l.length := ⟨_, rfl⟩
  rw [← hn] at hi hcap hl HP
  rw [← hn]
  have HN := Lib.hid hn
  have e1 : (a : Int) % 4 = (r : Int) := by omega
  have e2 : (a : Int) - (r : Int) = 4 * (i : Int) := by omega
  have e3 : wrap64 ((a : Int) - (r : Int)) = 4 * (i : Int) := by rw [IntWalk.wrap64_in _ ⟨by omega, by omega⟩]; omega
  have e4 : IntKind.i64.wrap ((a : Int) - (r : Int)) = 4 * (i : Int) := by rw [IntWalk.i64_in _ (by omega)]; omega
  have hlt : 4 * i < n := by omega
  clear hn hv hmax
  have u2 : IntKind.i64.wrap (4 * (i : Int) + 4) = 4 * (i : Int) + 4 := IntWalk.i64_in _ (by omega)
  have v2 : wrap64 (4 * (i : Int) + 4) = 4 * (i : Int) + 4 := IntWalk.wrap64_in _ ⟨by omega, by omega⟩
  have z1 : (0 : Int) ≤ 4 * (i : Int) := by omega
  have z8 : ¬ cap = 4 * i := by omega
  have z9 : ¬ 4 * i = cap := by omega
  clear hia hr
  by_cases h4 : 4 * i + 4 ≤ n
  · have z2 : ¬ (n : Int) < 4 * (i : Int) + 4 := by omega
    have z3 : 4 * (i : Int) + 4 ≤ (cap : Int) := by omega
    go_enter Try.func38, Try.ntmps38
    go_wp2_with fail
    go_ret
    refine ⟨_, rfl, ?_, rfl⟩
    have := HP.out
    rw [show min (4 * i + 4) n - 4 * i = 4 by omega] at this
    exact this
  · have z2 : (n : Int) < 4 * (i : Int) + 4 := by omega
    have z3 : 4 * (i : Int) ≤ (n : Int) := by omega
    have z4 : (n : Int) ≤ (cap : Int) := by omega
    go_enter Try.func38, Try.ntmps38
    go_wp2_with fail
    go_ret
    refine ⟨_, rfl, ?_, rfl⟩
    have := HP.out
    rw [show min (4 * i + 4) n - 4 * i = n - 4 * i by omega] at this
    have e : groupL l i = (l.drop (4 * i)).take (n - 4 * i) := by
      have hN := HN.out
      rw [groupL, List.take_of_length_le (by rw [List.length_drop]; omega), List.take_of_length_le (by rw [List.length_drop]; omega)]
    rw [e]
    exact this
set_option maxRecDepth 100000 in
set_option maxHeartbeats 1600000 in
theorem rfour_any (g : Nat) (v : Value) (l : List ByteArray) (w : World) (h : RefV w g) (hv : Strs w v l) (hl : l.length ≤ 100) (hs : ∀ s ∈ l, s.size ≤ 500) :
    Calls Try.prog 37 #[.pointer (some ⟨g, 0, none⟩), v] w fun e w' => e = .returned (.string (shaF (nodeT l))) ∧ Below w.heap.size w w' := by
  obtain ⟨ao, cap, rfl, hcap, hmax⟩ := hv.form
  have HS := Lib.hid hs
  have HV := Lib.hid h
  have HR := Lib.hid hv
  obtain ⟨n, hnl⟩ : ∃ n, n = l.length := ⟨_, rfl⟩
  rw [← hnl] at hcap hl HR
  rw [← hnl]
  have HN := Lib.hid hnl
  clear hnl hv hmax h hs
  go_enter Try.func37, Try.ntmps37
  go_wp2_with fail
  go_loopg [5, 6] n (fun j b i wr => ∃ (q : Nat) (bs : ByteArray), j + q = n ∧ i = .int .i64 (q : Int) ∧ b = .string bs ∧ bs = ⟨#[1]⟩ ++ cat (l.take q) ∧ wr = w)
  case atStart => exact ⟨0, _, by omega, rfl, rfl, by apply ByteArray.ext; simp [cat], rfl⟩
  case round =>
    obtain ⟨q, bs, hk, rfl, rfl, hI, rfl⟩ := hrel
    by_cases hlt : q < n
    · obtain ⟨j, rfl⟩ : ∃ j, gk = j + 1 := ⟨gk - 1, by omega⟩
      have hlen : q < l.length := by rw [← HN.out]; exact hlt
      obtain ⟨gl, oo, rfl, hg, x0⟩ := HR.out.get (i := q) hlen
      obtain ⟨f, hf⟩ : ∃ f, f = l[q] := ⟨_, rfl⟩
      have hfs : f.size ≤ 500 := by rw [hf]; exact HS.out _ (List.getElem_mem hlen)
      have hbs : bs.size ≤ 1 + 500 * n := by
        rw [hI, ByteArray.size_append]
        have := cat_size (l.take q) 500 (fun s hs => HS.out s (List.mem_of_mem_take hs))
        rw [List.length_take] at this
        have h1 : 500 * min q l.length ≤ 500 * n := Nat.mul_le_mul_left _ (by omega)
        show 1 + _ ≤ _
        omega
      have hnext : bs ++ f = ⟨#[1]⟩ ++ cat (l.take (q + 1)) := by
        rw [hI, List.take_add_one, List.getElem?_eq_getElem hlen, ← hf, ByteArray.append_assoc, cat_app]
        congr 2
        apply ByteArray.ext; simp [cat]
      rw [← hf] at x0
      have u2 : (0 : Int) ≤ (q : Int) := by omega
      have u3 : (q : Int) < (n : Int) := by omega
      have hov : ¬ 9223372036854775807 < bs.size + f.size := by omega
      have hkj : j + (q + 1) = n := by omega
      have HKJ := Lib.hid hkj
      have HNX := Lib.hid hnext
      clear hI hk hlt hkj hf hnext hlen hbs hfs
      go_wp2_with fail
      go_roundg j
      case measure => omega
      case rel => exact ⟨q + 1, _, HKJ.out, by go_num, rfl, HNX.out, rfl⟩
    · obtain rfl : gk = 0 := by omega
      obtain rfl : q = n := by omega
      have hbs : bs = nodeT l := by
        rw [hI, List.take_of_length_le (by rw [← HN.out]; exact Nat.le_refl _)]
        rfl
      have hsz : (nodeT l).size ≤ 100000 := by
        rw [nodeT, ByteArray.size_append]
        have := cat_size l 500 HS.out
        rw [← HN.out] at this
        show 1 + _ ≤ _
        omega
      have HH := Lib.hid (refHash_any g (nodeT l) wr HV.out hsz)
      subst hbs
      clear hI hsz hk hlt
      go_wp2_with fail
      refine HH.out.mono ?_
      rintro e W1 ⟨rfl, hb⟩
      have HB := Lib.hid hb
      clear hb HH
      go_wp2_with fail
      go_ret
      exact ⟨rfl, HB.out⟩
set_option maxRecDepth 100000 in
theorem Topped_any (g : Nat) (n : Int) (hn2 : n ≤ 9223372036854775807) (top : ByteArray) (w : World) (h : RefV w g) (hs : top.size ≤ 10000) :
    Calls Try.prog 35 #[.pointer (some ⟨g, 0, none⟩), .int .i64 n, .string top] w fun e w' => e = .returned (.string (shaF (rootT n top))) ∧ Below w.heap.size w w' := by
  have HP := Lib.hid (refPut_any n 6 hn2 w)
  have hps := putSpec_small n
  have HH := Lib.hid (fun W (hv : RefV W g) => refHash_any g (rootT n top) W hv (by rw [rootT, ByteArray.size_append, ByteArray.size_append]; show 1 + _ + _ ≤ _; omega))
  have HV := Lib.hid h
  unfold rootT at HH ⊢
  obtain ⟨⟨s, e0⟩, hq⟩ : ∃ q, q = putSpec n 6 := ⟨_, rfl⟩
  rw [← hq] at HP HH hps ⊢
  simp only at HH hps ⊢
  clear hq h
  have hsz : (⟨#[2]⟩ : ByteArray).size = 1 := rfl
  have hov : ¬ 9223372036854775807 < (⟨#[2]⟩ : ByteArray).size + s.size := by show ¬ _ < 1 + s.size; omega
  have hov2 : ¬ 9223372036854775807 < ((⟨#[2]⟩ : ByteArray) ++ s).size + top.size := by rw [ByteArray.size_append]; show ¬ _ < 1 + s.size + top.size; omega
  go_enter Try.func35, Try.ntmps35
  go_wp2_with fail
  refine HP.out.mono ?_
  rintro e W1 ⟨rfl, hb1⟩
  have HV1 := Lib.hid (HV.out.below hb1)
  have HB1 := Lib.hid hb1
  clear hb1 HP
  go_wp2_with fail
  refine (HH.out W1 HV1.out).mono ?_
  rintro e W2 ⟨rfl, hb⟩
  have HB := Lib.hid (HB1.out.trans (hb.mono HB1.out.size))
  clear hb HH
  go_wp2_with fail
  go_ret
  exact ⟨rfl, HB.out⟩
end Go.Proofs.Ytjoilobbopdcpaa.B
