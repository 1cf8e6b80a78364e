/-
  tree.group, root, walked.
-/
import Derived.Test.YtjoilobbopdcpaaTreeA
namespace Go.Proofs.Ytjoilobbopdcpaa.B
open Go.RowKit
set_option linter.unusedVariables false
set_option linter.unusedSimpArgs false

def groupL (l : List ByteArray) (i : Nat) : List ByteArray := (l.drop (4 * i)).take 4
theorem groupL_len (l : List ByteArray) (i : Nat) : (groupL l i).length = min 4 (l.length - 4 * i) := by simp [groupL]
theorem groupL_mem {l : List ByteArray} {i : Nat} {s : ByteArray} (h : s ∈ groupL l i) : s ∈ l := List.mem_of_mem_drop (List.mem_of_mem_take h)
set_option maxRecDepth 100000 in
theorem group_any (v : Value) (l : List ByteArray) (i : Nat) (w : World) (hv : Strs w v l) (hi : 4 * i < l.length) (hl : l.length ≤ 1000000000) :
    Calls Try.prog 28 #[v, .int .i64 i] w fun e w' => ∃ v', e = .returned v' ∧ Strs w v' (groupL l i) ∧ w' = w := by
  obtain ⟨ao, cap, rfl, hcap, hmax⟩ := hv.form
  have HP := Lib.hid (hv.part (a := 4 * i) (b := min (4 * i + 4) l.length) (by omega) (by omega))
  obtain ⟨n, hn⟩ : ∃ n, n = l.length := ⟨_, rfl⟩
  rw [← hn] at hi hcap hl HP
  rw [← hn]
  have HN := Lib.hid hn
  clear hn hv hmax
  have u1 : IntKind.i64.wrap (4 * (i : Int)) = 4 * (i : Int) := IntWalk.i64_in _ (by omega)
  have u2 : IntKind.i64.wrap (4 * (i : Int) + 4) = 4 * (i : Int) + 4 := IntWalk.i64_in _ (by omega)
  have v1 : wrap64 (4 * (i : Int)) = 4 * (i : Int) := IntWalk.wrap64_in _ ⟨by omega, by omega⟩
  have v2 : wrap64 (4 * (i : Int) + 4) = 4 * (i : Int) + 4 := IntWalk.wrap64_in _ ⟨by omega, by omega⟩
  have z1 : (0 : Int) ≤ 4 * (i : Int) := by omega
  have z8 : ¬ cap = 4 * i := by omega
  have z9 : ¬ 4 * i = cap := by omega
  by_cases h4 : 4 * i + 4 ≤ n
  · have z2 : ¬ (n : Int) < 4 * (i : Int) + 4 := by omega
    have z3 : 4 * (i : Int) + 4 ≤ (cap : Int) := by omega
    go_enter Try.func28, Try.ntmps28
    go_wp2_with fail
    go_ret
    refine ⟨_, rfl, ?_, rfl⟩
    have := HP.out
    rw [show min (4 * i + 4) n - 4 * i = 4 by omega] at this
    exact this
  · have z2 : (n : Int) < 4 * (i : Int) + 4 := by omega
    have z3 : 4 * (i : Int) ≤ (n : Int) := by omega
    have z4 : (n : Int) ≤ (cap : Int) := by omega
    go_enter Try.func28, Try.ntmps28
    go_wp2_with fail
    go_ret
    refine ⟨_, rfl, ?_, rfl⟩
    have := HP.out
    rw [show min (4 * i + 4) n - 4 * i = n - 4 * i by omega] at this
    have e : groupL l i = (l.drop (4 * i)).take (n - 4 * i) := by
      have hN := HN.out
      rw [groupL, List.take_of_length_le (by rw [List.length_drop]; omega), List.take_of_length_le (by rw [List.length_drop]; omega)]
    rw [e]
    exact this
set_option maxRecDepth 100000 in
theorem root_any {k : Option (ByteArray → ByteArray)} (HO : HashOk k) (B g gh : Nat) (ks : List ByteArray) (n : Int) (hn1 : -9223372036854775808 ≤ n) (hn2 : n ≤ 9223372036854775807) (top : ByteArray) (w : World) (h : Vlt w B g gh k ks) (hs : top.size ≤ 10000) (hn : ks.length < 1000000000000) :
    Calls Try.prog 30 #[.pointer (some ⟨g, 0, none⟩), .int .i64 n, .string top] w fun e w' => ∃ ks' r, e = .returned (.string r) ∧ Hd k ks' (rootT n top) r ∧ Ran B g gh k 1 ks ks' w w' := by
  have HP := Lib.hid (Put_any n 6 hn1 hn2 w)
  have hps := putSpec_small n
  have HH := Lib.hid (fun W (hv : Vlt W B g gh k ks) => HO B g gh ks (rootT n top) W hv (by rw [rootT, ByteArray.size_append, ByteArray.size_append]; show 1 + _ + _ ≤ _; omega) hn)
  have HV := Lib.hid h
  unfold rootT at HH ⊢
  obtain ⟨⟨s, e0⟩, hq⟩ : ∃ q, q = putSpec n 6 := ⟨_, rfl⟩
  rw [← hq] at HP HH hps ⊢
  simp only at HH hps ⊢
  clear hq h HO hn
  have hsz : (⟨#[2]⟩ : ByteArray).size = 1 := rfl
  have hov : ¬ 9223372036854775807 < (⟨#[2]⟩ : ByteArray).size + s.size := by show ¬ _ < 1 + s.size; omega
  have hov2 : ¬ 9223372036854775807 < ((⟨#[2]⟩ : ByteArray) ++ s).size + top.size := by rw [ByteArray.size_append]; show ¬ _ < 1 + s.size + top.size; omega
  go_enter Try.func30, Try.ntmps30
  go_wp2_with fail
  refine HP.out.mono ?_
  rintro e W1 ⟨rfl, hb1⟩
  have HR0 := Lib.hid ((Ran.refl HV.out).below hb1)
  clear hb1 HP
  go_wp2_with fail
  refine (HH.out W1 HR0.out.vlt).mono ?_
  rintro e W2 ⟨ks', r, rfl, hd, hr⟩
  have HD := Lib.hid hd
  have HR := Lib.hid (HR0.out.trans hr)
  clear hd hr HH
  go_wp2_with fail
  go_ret
  exact ⟨ks', r, rfl, HD.out, HR.out.mono (by omega)⟩
end Go.Proofs.Ytjoilobbopdcpaa.B
