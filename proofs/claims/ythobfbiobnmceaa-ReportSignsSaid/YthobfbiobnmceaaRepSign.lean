/-
  report.Sign and report.Verify, walked, by what the vault's Mac and Made say.
-/
import Derived.Test.YthobfbiobnmceaaVaultN
import Derived.Test.YthobfbiobnmceaaRepAwake
import Derived.Test.YthobfbiobnmceaaRepBack
namespace Go.Proofs.Ythobfbiobnmceaa.B
open Go.RowKit
set_option linter.unusedVariables false
set_option linter.unusedSimpArgs false

/-- "report". -/
def lab : ByteArray := ⟨#[114, 101, 112, 111, 114, 116]⟩
def signS (S m : ByteArray) : ByteArray := if m.size = 0 then ⟨#[]⟩ else S ++ m
def signE (m : ByteArray) : Int := if m.size = 0 then 1 else 0
def SignPost (Mp : ByteArray → World → World → Prop) (w : World) (S : ByteArray) (st : Int) (e : Ending) (w' : World) : Prop :=
  (st ≠ 0 ∧ e = .returned (.tuple #[.string ⟨#[]⟩, .int .i64 st]) ∧ Below w.heap.size w w') ∨
  (st = 0 ∧ ∃ W m, Below w.heap.size w W ∧ Mp m W w' ∧ e = .returned (.tuple #[.string (signS S m), .int .i64 (signE m)]))
set_option maxRecDepth 100000 in
set_option maxHeartbeats 1600000 in
theorem Sign_any (pv : Option Addr) (a0 a1 a2 : Int) (v : Value) (l : List Four) (w : World) (h : FndRow w v l) (hl : l.length ≤ 1000) (h0 : -9223372036854775808 ≤ a0 ∧ a0 ≤ 9223372036854775807) (h1 : -9223372036854775808 ≤ a1 ∧ a1 ≤ 9223372036854775807) (h2 : -9223372036854775808 ≤ a2 ∧ a2 ≤ 9223372036854775807)
    (Mp : ByteArray → World → World → Prop) (HM : (repBytes a0 a1 a2 l).2 = 0 → ∀ W, Below w.heap.size w W → Calls Try.prog 19 #[.pointer pv, .string lab, .string (repBytes a0 a1 a2 l).1] W fun e w' => ∃ m, e = .returned (.string m) ∧ m.size ≤ 100 ∧ Mp m W w') :
    Calls Try.prog 21 #[.pointer pv, .agg #[.int .i64 a0, .int .i64 a1, .int .i64 a2, v]] w (SignPost Mp w (repBytes a0 a1 a2 l).1 (repBytes a0 a1 a2 l).2) := by
  obtain ⟨ao, cap, rfl, hcap, hmax⟩ := h.form
  have hu24 := Try.underlying24
  have hal := (Below.refl _ w).alloc (Nat.le_refl _) (.cells #[.int .i64 a0, .int .i64 a1, .int .i64 a2, .slice ao l.length cap] 24 (0, 0))
  have HB := Lib.hid (repBytes_any a0 a1 a2 _ l _ (h.below hal) (by omega) h0 h1 h2)
  have HAL := Lib.hid hal
  have hsz : (repBytes a0 a1 a2 l).2 = 0 → (repBytes a0 a1 a2 l).1.size ≤ 20 + 14 * 1000 := fun hok => by have := (rep_reads hok).2.1; omega
  unfold lab at HM
  obtain ⟨⟨S, st⟩, hS⟩ : ∃ q, q = repBytes a0 a1 a2 l := ⟨_, rfl⟩
  rw [← hS] at HB HM hsz ⊢
  simp only at HB HM hsz ⊢
  have HMM := Lib.hid HM
  have HSZ := Lib.hid hsz
  clear h hmax hcap hal HM hsz hS h0 h1 h2
  go_enter Try.func21, Try.ntmps21
  go_wp2_with fail
  refine HB.out.mono ?_
  rintro e W1 ⟨rfl, hb⟩
  have hb1 := HAL.out.trans (hb.mono HAL.out.size)
  have HB1 := Lib.hid hb1
  clear hb hb1 HB
  by_cases hst : st = 0
  · subst hst
    have HMC := Lib.hid (HMM.out rfl W1 HB1.out)
    have hS2 := HSZ.out rfl
    go_wp2_with fail
    refine HMC.out.mono ?_
    rintro e W2 ⟨m, rfl, hm, hmp⟩
    have HMP := Lib.hid hmp
    have he := str_empty2 m
    clear hmp HMC HMM
    by_cases hm0 : m.size = 0
    · have he2 : m.toList.isEmpty = true := by rw [he]; simp [hm0]
      have HS0 := Lib.hid (show signS S m = ⟨#[]⟩ ∧ signE m = 1 by unfold signS signE; rw [if_pos hm0, if_pos hm0]; exact ⟨rfl, rfl⟩)
      clear he hm0
      go_wp2_with fail
      go_ret2
      refine .inr ⟨rfl, W1, m, HB1.out, HMP.out, ?_⟩
      rw [HS0.out.1, HS0.out.2]
      rfl
    · have he2 : m.toList.isEmpty = false := by rw [he]; simp [hm0]
      have HS0 := Lib.hid (show signS S m = S ++ m ∧ signE m = 0 by unfold signS signE; rw [if_neg hm0, if_neg hm0]; exact ⟨rfl, rfl⟩)
      have hov : ¬ 9223372036854775807 < S.size + m.size := by omega
      clear he hm0
      go_wp2_with fail
      go_ret2
      refine .inr ⟨rfl, W1, m, HB1.out, HMP.out, ?_⟩
      rw [HS0.out.1, HS0.out.2]
      rfl
  · have hne : (st != 0) = true := by simpa using hst
    have HNE := Lib.hid hst
    have hst2 : ¬ st = 0 := hst
    clear HMM hst
    go_wp2_with fail
    go_ret2
    exact .inl ⟨HNE.out, rfl, HB1.out⟩
/-- Findings do not lie in a report's own cells. -/
theorem FndRow.far {w w1 : World} {v : Value} {l : List Four} (h : FndRow w v l) {gr : Nat} {x0 x1 x2 : Value} {ax : Option Addr} {nx cx : Nat} {t : TypeId} {fr : Nat × Nat} (hx : w.heap[gr]? = some (.cells #[x0, x1, x2, .slice ax nx cx] t fr)) (hk : Keeps (fun i => i = gr) w w1) : FndRow w1 v l := by
  obtain ⟨ao, cap, he, h1, h2, h3⟩ := h
  refine ⟨ao, cap, he, h1, h2, fun h0 => ?_⟩
  obtain ⟨g, o, e, hg, hc⟩ := h3 h0
  have hne : g ≠ gr := fun e => by
    subst e
    have c3 := (hc 0 l[0] (List.getElem?_eq_getElem h0)).2 3 (.int .i64 l[0].d) rfl
    rw [blk_cell hx] at c3
    rcases Nat.lt_or_ge o 1 with ho | ho
    · obtain rfl : o = 0 := by omega
      simp at c3
    · rw [Array.getElem?_eq_none (by simp; omega)] at c3
      cases c3
  exact ⟨g, o, e, Nat.lt_of_lt_of_le hg hk.size, fun i f hf => ⟨(hc i f hf).1, fun j u hu => by rw [← (hc i f hf).2 j u hu]; exact hk.cell hg hne⟩⟩
/-- What Verify says. -/
def verifyOf (s : ByteArray) (b : Bool) : RepOut :=
  if s.size < 16 then ⟨0, 0, 0, [], 3⟩ else if b = true then repOf (s.extract 0 (s.size - 16)) else ⟨0, 0, 0, [], 61⟩
set_option maxRecDepth 100000 in
set_option maxHeartbeats 1600000 in
theorem Verify_any (pv : Option Addr) (s : ByteArray) (hs : s.size ≤ 140737488351232) (b : Bool) (hsb : b = true → s.size ≤ 1000000) (w : World)
    (HM : 16 ≤ s.size → ∀ W, Below w.heap.size w W → Calls Try.prog 36 #[.pointer pv, .string lab, .string (s.extract 0 (s.size - 16)), .string (s.extract (s.size - 16) s.size)] W fun e w' => e = .returned (.bool b) ∧ Below W.heap.size W w') :
    Calls Try.prog 20 #[.pointer pv, .string s] w (RepPost w (verifyOf s b)) := by
  have hu24 := Try.underlying24
  obtain ⟨R, hR⟩ : ∃ R, R = verifyOf s b := ⟨_, rfl⟩
  rw [← hR]
  unfold verifyOf at hR
  unfold lab at HM
  by_cases h16 : s.size < 16
  · rw [if_pos h16] at hR
    have HR := Lib.hid hR
    have w1 : wrap64 ((s.size : Int) - 16) = (s.size : Int) - 16 := IntWalk.wrap64_in _ ⟨by omega, by omega⟩
    have z1 : (s.size : Int) - 16 < 0 := by omega
    clear hR HM
    go_enter Try.func20, Try.ntmps20
    go_wp2_with fail
    rw [HR.out]
    refine bodyPost_ret (v := .tuple #[.agg #[.int .i64 0, .int .i64 0, .int .i64 0, .slice none 0 0], .int .i64 3]) (by simp [results, Try.results20, go_sem]) rfl ⟨_, rfl, FndRow.nil _, ?_⟩
    exact (Below.refl _ w).alloc (Nat.le_refl _) _
  · obtain ⟨c, hc⟩ : ∃ c, c = s.size - 16 := ⟨_, rfl⟩
    rw [if_neg h16, ← hc] at hR
    have hal := (Below.refl _ w).alloc (Nat.le_refl _) (.cells #[.int .i64 0, .int .i64 0, .int .i64 0, .slice none 0 0] 24 (0, 0))
    have HMM := Lib.hid (HM (by omega))
    rw [← hc] at HMM
    have HAL := Lib.hid hal
    have HOF := Lib.hid (fun (hb : b = true) W => repOf_any (s.extract 0 c) (by have := hsb hb; rw [ByteArray.size_extract]; omega) W)
    have hcs : (s.size : Int) - 16 = (c : Int) := by omega
    have e2 : IntKind.i64.wrap (c : Int) = (c : Int) := IntWalk.i64_in _ (by omega)
    have e4 : IntKind.i64.wrap ((s.size : Int) - 16) = (c : Int) := by rw [hcs]; exact e2
    have z1 : ¬ (c : Int) < 0 := by omega
    have u1 : (0 : Int) ≤ (c : Int) := by omega
    have u2 : (c : Int) ≤ (s.size : Int) := by omega
    have e3 : wrap64 (c : Int) = (c : Int) := IntWalk.wrap64_in _ ⟨by omega, by omega⟩
    obtain ⟨gr, hgr⟩ : ∃ g, g = w.heap.size := ⟨_, rfl⟩
    have HGR := Lib.hid hgr
    have HR := Lib.hid hR
    clear hR HM hal hc h16 hgr hsb
    go_enter Try.func20, Try.ntmps20
    go_wp2_with fail
    go_region_held3 (fun w' => True) (first | trivial) (first | (go_at_call 36; refine (HMM.out _ (by first | exact HAL.out | exact HAL.out.drew)).mono ?_; rintro e W2 ⟨rfl, hb2⟩; have HB2 := Lib.hid hb2; clear hb2))
    rw [← HGR.out]
    have hx2 : W2.heap[gr]? = some (.cells #[.int .i64 0, .int .i64 0, .int .i64 0, .slice none 0 0] 24 (0, 0)) := (HB2.out.block gr (by rw [HGR.out]; simp)).trans (get_top HGR.out)
    have HBB := Lib.hid (show Below w.heap.size w W2 from HAL.out.trans ((((Below.refl _ _).drew).trans HB2.out).mono (by simp)))
    have r0 := (blk_cell hx2 0).trans rfl
    have r1 := (blk_cell hx2 1).trans rfl
    have r2 := (blk_cell hx2 2).trans rfl
    have r3 := (blk_cell hx2 3).trans rfl
    have fr0 := blk_frozen hx2 0
    have fr1 := blk_frozen hx2 1
    have fr2 := blk_frozen hx2 2
    have fr3 := blk_frozen hx2 3
    have HX2 := Lib.hid hx2
    have hR := HR.out
    clear hx2 HMM HR
    cases b with
    | false =>
      rw [if_neg (by simp)] at hR
      have HR := Lib.hid hR
      clear hR
      go_wp2_with fail
      rw [HR.out]
      refine bodyPost_ret (v := .tuple #[.agg #[.int .i64 0, .int .i64 0, .int .i64 0, .slice none 0 0], .int .i64 61]) (by simp [results, Try.results20, go_sem, r0, r1, r2, r3]) rfl ⟨_, rfl, FndRow.nil _, ?_⟩
      exact (((HBB.out.setCell (p := ⟨gr, 0, none⟩) (by rw [HGR.out]; exact Nat.le_refl _) _).setCell (p := ⟨gr, 1, none⟩) (by rw [HGR.out]; exact Nat.le_refl _) _).setCell (p := ⟨gr, 2, none⟩) (by rw [HGR.out]; exact Nat.le_refl _) _).setCell (p := ⟨gr, 3, none⟩) (by rw [HGR.out]; exact Nat.le_refl _) _
    | true =>
      rw [if_pos rfl] at hR
      have HR := Lib.hid hR
      clear hR
      go_wp2_with fail
      refine (HOF.out (by simp) W2).mono ?_
      rintro e W3 ⟨vr, rfl, hf, hb3⟩
      have hx3 := (hb3.block gr (blk_lt HX2.out)).trans HX2.out
      have HRQ := Lib.hid HR.out
      have HF := Lib.hid hf
      have HB3 := Lib.hid (HBB.out.trans (hb3.mono HBB.out.size))
      obtain ⟨aor, capr, rfl, hcr⟩ := hf.form
      have hne : ∀ b, (Value.slice aor (repOf (s.extract 0 c)).l.length capr).ownBlock = some b → True := fun _ _ => trivial
      clear r0 r1 r2 r3 fr0 fr1 fr2 fr3 hne hf hb3
      have r0 := (blk_cell hx3 0).trans rfl
      have r1 := (blk_cell hx3 1).trans rfl
      have r2 := (blk_cell hx3 2).trans rfl
      have r3 := (blk_cell hx3 3).trans rfl
      have fr0 := blk_frozen hx3 0
      have fr1 := blk_frozen hx3 1
      have fr2 := blk_frozen hx3 2
      have fr3 := blk_frozen hx3 3
      have HX3 := Lib.hid hx3
      clear hx3
      generalize repOf (s.extract 0 c) = Q at HF HRQ ⊢
      clear HR HOF
      go_wp2_with fail
      rw [HRQ.out]
      refine bodyPost_ret (v := .tuple #[.agg #[.int .i64 Q.a0, .int .i64 Q.a1, .int .i64 Q.a2, .slice aor Q.l.length capr], .int .i64 Q.e]) (by simp [results, Try.results20, go_sem, r0, r1, r2, r3]) rfl ⟨_, rfl, ?_, ?_⟩
      · refine HF.out.far HX3.out ?_
        exact Keeps.setCell (S := fun i => i = gr) (Keeps.setCell (S := fun i => i = gr) (Keeps.setCell (S := fun i => i = gr) (Keeps.setCell (S := fun i => i = gr) (Keeps.refl _ _) (fun _ => rfl) _) (fun _ => rfl) _) (fun _ => rfl) _) (fun _ => rfl) _
      · exact (((HB3.out.setCell (p := ⟨gr, 0, none⟩) (by rw [HGR.out]; exact Nat.le_refl _) _).setCell (p := ⟨gr, 1, none⟩) (by rw [HGR.out]; exact Nat.le_refl _) _).setCell (p := ⟨gr, 2, none⟩) (by rw [HGR.out]; exact Nat.le_refl _) _).setCell (p := ⟨gr, 3, none⟩) (by rw [HGR.out]; exact Nat.le_refl _) _
end Go.Proofs.Ythobfbiobnmceaa.B
