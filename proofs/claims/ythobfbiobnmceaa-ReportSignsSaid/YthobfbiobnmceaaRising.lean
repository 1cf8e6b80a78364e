/-
  A []Finding; report.rising, walked.
-/
import Derived.Test.YthobfbiobnmceaaAhead
namespace Go.Proofs.Ythobfbiobnmceaa.B
open Go.RowKit
set_option linter.unusedVariables false
set_option linter.unusedSimpArgs false

structure Four where
  a : Int
  b : Int
  c : Int
  d : Int
deriving DecidableEq
def Four.zero : Four := ⟨0, 0, 0, 0⟩
def Four.cells (f : Four) : List Value := [.int .i64 f.a, .int .i64 f.b, .int .i64 f.c, .int .i64 f.d]
def Four.fnd (f : Four) : Fnd := fnd4 f.a f.b f.c f.d
def Four.wf (f : Four) : Prop := (Lit.int .i64 f.a).wf = true ∧ (Lit.int .i64 f.b).wf = true ∧ (Lit.int .i64 f.c).wf = true ∧ (Lit.int .i64 f.d).wf = true
def ahead (f g : Four) : Bool := aheadF f.fnd g.fnd 4 0
/-- v reads as the findings l. -/
def FndRow (w : World) (v : Value) (l : List Four) : Prop :=
  ∃ ao cap, v = .slice ao l.length cap ∧ l.length ≤ cap ∧ l.length ≤ maxLen ∧
    (0 < l.length → ∃ g o, ao = some ⟨g, o, none⟩ ∧ g < w.heap.size ∧ ∀ i f, l[i]? = some f → f.wf ∧ ∀ j u, f.cells[j]? = some u → w.cell? ⟨g, o + (i * 4 + j), none⟩ = some u)
theorem FndRow.below {w w1 : World} {v : Value} {l : List Four} (h : FndRow w v l) (hb : Below w.heap.size w w1) : FndRow w1 v l := by
  obtain ⟨ao, cap, he, h1, h2, h3⟩ := h
  refine ⟨ao, cap, he, h1, h2, fun h0 => ?_⟩
  obtain ⟨g, o, e, hg, hc⟩ := h3 h0
  refine ⟨g, o, e, Nat.lt_of_lt_of_le hg hb.size, fun i f hf => ⟨(hc i f hf).1, fun j u hu => ?_⟩⟩
  have := (hc i f hf).2 j u hu
  rw [← this]
  exact World.cell?_of_block (hb.block g hg)
theorem FndRow.form {w : World} {v : Value} {l : List Four} (h : FndRow w v l) : ∃ ao cap, v = .slice ao l.length cap ∧ l.length ≤ cap ∧ l.length ≤ maxLen := by
  obtain ⟨ao, cap, he, h1, h2, h3⟩ := h
  exact ⟨ao, cap, he, h1, h2⟩
theorem FndRow.get {w : World} {ao : Option Addr} {n cap : Nat} {l : List Four} (h : FndRow w (.slice ao n cap) l) {i : Nat} (hi : i < l.length) : ∃ g o, ao = some ⟨g, o, none⟩ ∧ g < w.heap.size ∧ (l.getD i .zero).wf ∧ (∀ k, k < l.length → ∀ j u, (l.getD k .zero).cells[j]? = some u → w.cell? ⟨g, o + (k * 4 + j), none⟩ = some u) := by
  obtain ⟨ao', cap', he, _, _, hc⟩ := h
  simp at he
  obtain ⟨rfl, rfl, rfl⟩ := he
  obtain ⟨g, o, e, hg, hc⟩ := hc (by omega)
  have hget : ∀ k, k < l.length → l[k]? = some (l.getD k .zero) := fun k hk => by simp [List.getD, hk]
  exact ⟨g, o, e, hg, (hc i _ (hget i hi)).1, fun k hk j u hu => (hc k _ (hget k hk)).2 j u hu⟩

/-- From place k on (j places). -/
def risingL (l : List Four) : Nat → Nat → Bool
  | 0, _ => true
  | j + 1, k => if ahead (l.getD (k - 1) .zero) (l.getD k .zero) then risingL l j (k + 1) else false

theorem finding_ahead (f h : Four) (w : World) : Calls Try.prog 26 #[.agg #[.int .i64 f.a, .int .i64 f.b, .int .i64 f.c, .int .i64 f.d], .agg #[.int .i64 h.a, .int .i64 h.b, .int .i64 h.c, .int .i64 h.d]] w fun e w' => e = .returned (.bool (ahead f h)) ∧ Below w.heap.size w w' := ahead_any _ _ _ _ _ _ _ _ w

structure RisI (w : World) (v : Value) (l : List Four) (W : World) : Prop where
  bel : Below w.heap.size w W
  row : FndRow W v l
set_option maxRecDepth 100000 in
set_option maxHeartbeats 3200000 in
theorem rising_any (v : Value) (l : List Four) (w : World) (h : FndRow w v l) (hsz : l.length ≤ 100000000000) :
    Calls Try.prog 25 #[v, .func (.func 26) #[] #[]] w fun e w' => e = .returned (.bool (risingL l (l.length - 1) 1)) ∧ Below w.heap.size w w' := by
  obtain ⟨ao, cap, rfl, hcap, hmax⟩ := h.form
  obtain ⟨R, hR⟩ : ∃ R, R = risingL l (l.length - 1) 1 := ⟨_, rfl⟩
  rw [← hR]
  have HR := Lib.hid hR
  have hu54 := Try.underlying54
  obtain ⟨n, hn⟩ : ∃ n, n = l.length := ⟨_, rfl⟩
  rw [← hn] at hcap hsz h
  rw [← hn]
  have HN := Lib.hid hn
  have H := Lib.hid h
  clear hR hn h hmax
  go_enter Try.func25, Try.ntmps25
  go_wp2_with fail
  go_loopg [5] (n - 1) (fun j i wr => ∃ k : Nat, 1 ≤ k ∧ j + k = (n - 1) + 1 ∧ i = .int .i64 (k : Int) ∧ R = risingL l j k ∧ RisI w (.slice ao n cap) l wr)
  case atStart => exact ⟨1, by omega, by omega, rfl, by rw [HN.out]; exact HR.out, Below.refl _ _, H.out⟩
  case round =>
    clear H HR
    obtain ⟨k, hk1, hk, rfl, hq, hI⟩ := hrel
    by_cases hlt : k < n
    · obtain ⟨j, rfl⟩ : ∃ j, gk = j + 1 := ⟨gk - 1, by omega⟩
      obtain ⟨q, hkq⟩ : ∃ q, k = q + 1 := ⟨k - 1, by omega⟩
      rw [risingL, show k - 1 = q by omega] at hq
      obtain ⟨g, o, rfl, hg, _, hc⟩ := hI.row.get (i := q) (by rw [← HN.out]; omega)
      have e1 := hc q (by rw [← HN.out]; omega)
      have e2 := hc k (by rw [← HN.out]; omega)
      obtain ⟨f1, hf1⟩ : ∃ f, f = l.getD q .zero := ⟨_, rfl⟩
      obtain ⟨f2, hf2⟩ : ∃ f, f = l.getD k .zero := ⟨_, rfl⟩
      rw [← hf1] at e1 hq
      rw [← hf2] at e2 hq
      have a0 : wr.cell? ⟨g, o + q * 4, none⟩ = some (.int .i64 f1.a) := e1 0 _ rfl
      have a1 : wr.cell? ⟨g, o + q * 4 + 1, none⟩ = some (.int .i64 f1.b) := e1 1 _ rfl
      have a2 : wr.cell? ⟨g, o + q * 4 + 2, none⟩ = some (.int .i64 f1.c) := e1 2 _ rfl
      have a3 : wr.cell? ⟨g, o + q * 4 + 3, none⟩ = some (.int .i64 f1.d) := e1 3 _ rfl
      have b0 : wr.cell? ⟨g, o + k * 4, none⟩ = some (.int .i64 f2.a) := e2 0 _ rfl
      have b1 : wr.cell? ⟨g, o + k * 4 + 1, none⟩ = some (.int .i64 f2.b) := e2 1 _ rfl
      have b2 : wr.cell? ⟨g, o + k * 4 + 2, none⟩ = some (.int .i64 f2.c) := e2 2 _ rfl
      have b3 : wr.cell? ⟨g, o + k * 4 + 3, none⟩ = some (.int .i64 f2.d) := e2 3 _ rfl
      obtain ⟨bb, hbb⟩ : ∃ b, b = ahead f1 f2 := ⟨_, rfl⟩
      rw [← hbb] at hq
      have HF := Lib.hid (finding_ahead f1 f2)
      rw [← hbb] at HF
      have HQ := Lib.hid hq
      have HI := Lib.hid hI
      clear hf1 hf2 hq hI e1 e2 hc hbb
      have hw1 : IntKind.i64.wrap ((k : Int) - 1) = (q : Int) := by
        rw [show ((k : Int) - 1) = (q : Int) by omega]
        exact IntWalk.i64_in _ (by omega)
      have u0 : (0 : Int) ≤ (q : Int) := by omega
      have u1 : (q : Int) < (n : Int) := by omega
      have u2 : (0 : Int) ≤ (k : Int) := by omega
      have u3 : (k : Int) < (n : Int) := by omega
      have HKQ := Lib.hid hkq
      have hkj : j + (k + 1) = n - 1 + 1 := by omega
      have HKJ := Lib.hid hkj
      clear hkq hk hk1 hlt hkj
      go_wp2_with fail
      go_region_held3 (fun w' => w'.cell? ⟨g, o + q * 4, none⟩ = some (.int .i64 f1.a) ∧ w'.cell? ⟨g, o + q * 4 + 1, none⟩ = some (.int .i64 f1.b) ∧ w'.cell? ⟨g, o + q * 4 + 2, none⟩ = some (.int .i64 f1.c) ∧ w'.cell? ⟨g, o + q * 4 + 3, none⟩ = some (.int .i64 f1.d) ∧ w'.cell? ⟨g, o + k * 4, none⟩ = some (.int .i64 f2.a) ∧ w'.cell? ⟨g, o + k * 4 + 1, none⟩ = some (.int .i64 f2.b) ∧ w'.cell? ⟨g, o + k * 4 + 2, none⟩ = some (.int .i64 f2.c) ∧ w'.cell? ⟨g, o + k * 4 + 3, none⟩ = some (.int .i64 f2.d)) (first | exact ⟨a0, a1, a2, a3, b0, b1, b2, b3⟩ | exact ⟨(World.cell?_of_block (hb1.block g hg)).trans a0, (World.cell?_of_block (hb1.block g hg)).trans a1, (World.cell?_of_block (hb1.block g hg)).trans a2, (World.cell?_of_block (hb1.block g hg)).trans a3, (World.cell?_of_block (hb1.block g hg)).trans b0, (World.cell?_of_block (hb1.block g hg)).trans b1, (World.cell?_of_block (hb1.block g hg)).trans b2, (World.cell?_of_block (hb1.block g hg)).trans b3⟩) (first | (go_at_call 26; refine (HF.out _).mono ?_; rintro e W1 ⟨rfl, hb1⟩))
      have HI1 := Lib.hid (show RisI w (.slice (some ⟨g, o, none⟩) n cap) l W1 from ⟨HI.out.bel.trans ((((Below.refl wr.heap.size wr).drew).trans hb1).mono HI.out.bel.size), HI.out.row.below (((Below.refl wr.heap.size wr).drew).trans hb1)⟩)
      have hq := HQ.out
      clear HI HQ HF
      cases bb with
      | true =>
        go_wp2_with fail
        go_roundg j
        case measure => omega
        case rel => exact ⟨k + 1, by omega, HKJ.out, by go_num, hq, HI1.out⟩
      | false =>
        go_wp2_with fail
        go_ret
        exact ⟨by rw [hq]; rfl, HI1.out.bel⟩
    · have HQ := Lib.hid hq
      have HI := Lib.hid hI
      obtain rfl : gk = 0 := by omega
      clear hq hI
      go_wp2_with fail
      go_ret
      exact ⟨by rw [HQ.out]; rfl, HI.out.bel⟩
end Go.Proofs.Ythobfbiobnmceaa.B
