/-
  report.ahead, report.rising, walked.
-/
import Derived.Test.YthobfbiobnmceaaBuilder
import Derived.RegionTactic
import Derived.Deep.RegionHeld3
import Derived.Deep.QuietTactic
import Derived.BigQuiet
namespace Go.Proofs.Ythobfbiobnmceaa.B
open Go.RowKit
set_option linter.unusedVariables false
set_option linter.unusedSimpArgs false

/-- What a finding holds, in order. -/
abbrev Fnd := Nat → Int
def fnd4 (a0 a1 a2 a3 : Int) : Fnd := fun i => match i with | 0 => a0 | 1 => a1 | 2 => a2 | _ => a3
def aheadF (a b : Fnd) : Nat → Nat → Bool
  | 0, _ => false
  | n + 1, i => if a i = b i then aheadF a b n (i + 1) else decide (a i < b i)

structure AheadI (w : World) (ga gb : Nat) (a0 a1 a2 a3 b0 b1 b2 b3 : Int) (W : World) : Prop where
  bel : Below w.heap.size w W
  ra : W.heap[ga]? = some (.cells #[.int .i64 a0, .int .i64 a1, .int .i64 a2, .int .i64 a3] 66 (0, 0))
  rb : W.heap[gb]? = some (.cells #[.int .i64 b0, .int .i64 b1, .int .i64 b2, .int .i64 b3] 66 (0, 0))
theorem AheadI.drewN {w W : World} {ga gb : Nat} {a0 a1 a2 a3 b0 b1 b2 b3 : Int} (h : AheadI w ga gb a0 a1 a2 a3 b0 b1 b2 b3 W) (n : Nat) : AheadI w ga gb a0 a1 a2 a3 b0 b1 b2 b3 (W.drewN n) := ⟨bdrewN h.bel n, h.ra, h.rb⟩
theorem AheadI.a {w W : World} {ga gb k : Nat} {a0 a1 a2 a3 b0 b1 b2 b3 : Int} (h : AheadI w ga gb a0 a1 a2 a3 b0 b1 b2 b3 W) (hk : k < 4) : W.cell? ⟨ga, k, none⟩ = some (.int .i64 (fnd4 a0 a1 a2 a3 k)) := by
  rw [blk_cell h.ra]
  match k, hk with
  | 0, _ => rfl
  | 1, _ => rfl
  | 2, _ => rfl
  | 3, _ => rfl
theorem AheadI.b {w W : World} {ga gb k : Nat} {a0 a1 a2 a3 b0 b1 b2 b3 : Int} (h : AheadI w ga gb a0 a1 a2 a3 b0 b1 b2 b3 W) (hk : k < 4) : W.cell? ⟨gb, k, none⟩ = some (.int .i64 (fnd4 b0 b1 b2 b3 k)) := by
  rw [blk_cell h.rb]
  match k, hk with
  | 0, _ => rfl
  | 1, _ => rfl
  | 2, _ => rfl
  | 3, _ => rfl

set_option maxRecDepth 100000 in
set_option maxHeartbeats 3200000 in
theorem ahead_any (a0 a1 a2 a3 b0 b1 b2 b3 : Int) (w : World) :
    Calls Try.prog 26 #[.agg #[.int .i64 a0, .int .i64 a1, .int .i64 a2, .int .i64 a3], .agg #[.int .i64 b0, .int .i64 b1, .int .i64 b2, .int .i64 b3]] w fun e w' => e = .returned (.bool (aheadF (fnd4 a0 a1 a2 a3) (fnd4 b0 b1 b2 b3) 4 0)) ∧ Below w.heap.size w w' := by
  have hu54 := Try.underlying54
  obtain ⟨R, hR⟩ : ∃ R, R = aheadF (fnd4 a0 a1 a2 a3) (fnd4 b0 b1 b2 b3) 4 0 := ⟨_, rfl⟩
  rw [← hR]
  have HR := Lib.hid hR
  clear hR
  go_enter Try.func26, Try.ntmps26
  go_wp2_with fail
  obtain ⟨W, hW⟩ : ∃ W, W = (w.alloc (.cells #[.int .i64 a0, .int .i64 a1, .int .i64 a2, .int .i64 a3] 54 (0, 0))).alloc (.cells #[.int .i64 b0, .int .i64 b1, .int .i64 b2, .int .i64 b3] 54 (0, 0)) := ⟨_, rfl⟩
  have hb1 : W.heap[w.heap.size]? = some (.cells #[.int .i64 a0, .int .i64 a1, .int .i64 a2, .int .i64 a3] 54 (0, 0)) := by rw [hW]; exact (Lib.alloc_old _ _ _ (by simp)).trans (get_top rfl)
  have hb2 : W.heap[w.heap.size + 1]? = some (.cells #[.int .i64 b0, .int .i64 b1, .int .i64 b2, .int .i64 b3] 54 (0, 0)) := by rw [hW]; exact get_top (by simp)
  have hsz : W.heap.size = w.heap.size + 2 := by rw [hW]; simp
  have HBW : Below w.heap.size w W := by rw [hW]; exact ((Below.refl _ _).alloc (Nat.le_refl _) _).alloc (by simp) _
  rw [← hW]
  obtain ⟨ga, hga⟩ : ∃ g, g = w.heap.size := ⟨_, rfl⟩
  obtain ⟨gb, hgb⟩ : ∃ g, g = w.heap.size + 1 := ⟨_, rfl⟩
  rw [← hgb]
  rw [← hga] at hb1 ⊢
  rw [← hgb] at hb2
  have ca0 : W.cell? ⟨ga, 0, none⟩ = some (.int .i64 a0) := blk_cell hb1 0
  have ca1 : W.cell? ⟨ga, 1, none⟩ = some (.int .i64 a1) := blk_cell hb1 1
  have ca2 : W.cell? ⟨ga, 2, none⟩ = some (.int .i64 a2) := blk_cell hb1 2
  have ca3 : W.cell? ⟨ga, 3, none⟩ = some (.int .i64 a3) := blk_cell hb1 3
  have cb0 : W.cell? ⟨gb, 0, none⟩ = some (.int .i64 b0) := blk_cell hb2 0
  have cb1 : W.cell? ⟨gb, 1, none⟩ = some (.int .i64 b1) := blk_cell hb2 1
  have cb2 : W.cell? ⟨gb, 2, none⟩ = some (.int .i64 b2) := blk_cell hb2 2
  have cb3 : W.cell? ⟨gb, 3, none⟩ = some (.int .i64 b3) := blk_cell hb2 3
  have hlt1 : ga < W.heap.size := by omega
  have hlt2 : gb < W.heap.size := by omega
  have HHS := Lib.hid hsz
  have HGA := Lib.hid hga
  clear hW hsz hga hgb hb1 hb2
  go_region_held3 (fun w' => w'.cell? ⟨ga, 0, none⟩ = some (.int .i64 a0) ∧ w'.cell? ⟨ga, 1, none⟩ = some (.int .i64 a1) ∧ w'.cell? ⟨ga, 2, none⟩ = some (.int .i64 a2) ∧ w'.cell? ⟨ga, 3, none⟩ = some (.int .i64 a3) ∧ w'.cell? ⟨gb, 0, none⟩ = some (.int .i64 b0) ∧ w'.cell? ⟨gb, 1, none⟩ = some (.int .i64 b1) ∧ w'.cell? ⟨gb, 2, none⟩ = some (.int .i64 b2) ∧ w'.cell? ⟨gb, 3, none⟩ = some (.int .i64 b3)) (go_keep) (first | fail | fail)
  all_goals go_wp2_with fail
  · have hI : AheadI w W.heap.size (W.heap.size + 1) a0 a1 a2 a3 b0 b1 b2 b3 ((W.alloc (.cells #[.int .i64 a0, .int .i64 a1, .int .i64 a2, .int .i64 a3] 66 (0, 0))).alloc (.cells #[.int .i64 b0, .int .i64 b1, .int .i64 b2, .int .i64 b3] 66 (0, 0))).drew :=
      ⟨((HBW.alloc HBW.size _).alloc (by have := HBW.size; simp; omega) _).drew, (Lib.alloc_old _ _ _ (by simp)).trans (get_top rfl), get_top (by simp)⟩
    generalize ((W.alloc (.cells #[.int .i64 a0, .int .i64 a1, .int .i64 a2, .int .i64 a3] 66 (0, 0))).alloc (.cells #[.int .i64 b0, .int .i64 b1, .int .i64 b2, .int .i64 b3] 66 (0, 0))).drew = W1 at hI ⊢
    obtain ⟨g5, hg5⟩ : ∃ g, g = W.heap.size := ⟨_, rfl⟩
    obtain ⟨g6, hg6⟩ : ∃ g, g = W.heap.size + 1 := ⟨_, rfl⟩
    rw [← hg6] at hI ⊢
    rw [← hg5] at hI ⊢
    clear hg5 hg6 ca0 ca1 ca2 ca3 cb0 cb1 cb2 cb3 hlt1 hlt2 HHS HGA HBW
    go_loopg [26] 4 (fun j i wr => ∃ k : Nat, j + k = 4 ∧ i = .int .i64 (k : Int) ∧ R = aheadF (fnd4 a0 a1 a2 a3) (fnd4 b0 b1 b2 b3) j k ∧ AheadI w g5 g6 a0 a1 a2 a3 b0 b1 b2 b3 wr)
    case atStart => exact ⟨0, rfl, rfl, HR.out, hI⟩
    case round =>
      clear hI HR
      obtain ⟨k, hk, rfl, hq, hI⟩ := hrel
      by_cases hlt : k < 4
      · have ck := hI.a hlt
        have dk := hI.b hlt
        obtain ⟨j, rfl⟩ : ∃ j, gk = j + 1 := ⟨gk - 1, by omega⟩
        rw [aheadF] at hq
        obtain ⟨x, hx⟩ : ∃ x, x = fnd4 a0 a1 a2 a3 k := ⟨_, rfl⟩
        obtain ⟨y, hy⟩ : ∃ y, y = fnd4 b0 b1 b2 b3 k := ⟨_, rfl⟩
        rw [← hx, ← hy] at hq
        rw [← hx] at ck
        rw [← hy] at dk
        have HQ := Lib.hid hq
        have HI := Lib.hid hI
        have hk4 : (k : Int) < 4 := by omega
        clear hx hy hq hI
        by_cases he : x = y
        · go_wp2_with fail
          go_quiet (fail)
          go_wp2_with fail
          go_roundg j
          case measure => omega
          case rel => exact ⟨k + 1, by omega, by go_num, by rw [HQ.out, if_pos he], HI.out.drewN _⟩
        · go_wp2_with fail
          go_quiet (fail)
          go_wp2_with fail
          go_quiet (fail)
          go_wp2_with fail
          go_ret
          exact ⟨by rw [HQ.out, if_neg he]; rfl, ((HI.out.drewN _).drewN _).bel⟩
      · obtain rfl : k = 4 := by omega
        obtain rfl : gk = 0 := by omega
        have HQ := Lib.hid hq
        have HI := Lib.hid hI
        clear hq hI
        go_wp2_with fail
        go_ret
        exact ⟨by rw [HQ.out]; rfl, HI.out.bel⟩
  · have hI : AheadI w (W.heap.size + 1) W.heap.size a0 a1 a2 a3 b0 b1 b2 b3 ((W.alloc (.cells #[.int .i64 b0, .int .i64 b1, .int .i64 b2, .int .i64 b3] 66 (0, 0))).alloc (.cells #[.int .i64 a0, .int .i64 a1, .int .i64 a2, .int .i64 a3] 66 (0, 0))).drew :=
      ⟨((HBW.alloc HBW.size _).alloc (by have := HBW.size; simp; omega) _).drew, get_top (by simp), (Lib.alloc_old _ _ _ (by simp)).trans (get_top rfl)⟩
    generalize ((W.alloc (.cells #[.int .i64 b0, .int .i64 b1, .int .i64 b2, .int .i64 b3] 66 (0, 0))).alloc (.cells #[.int .i64 a0, .int .i64 a1, .int .i64 a2, .int .i64 a3] 66 (0, 0))).drew = W1 at hI ⊢
    obtain ⟨g6, hg6⟩ : ∃ g, g = W.heap.size := ⟨_, rfl⟩
    obtain ⟨g5, hg5⟩ : ∃ g, g = W.heap.size + 1 := ⟨_, rfl⟩
    rw [← hg5] at hI ⊢
    rw [← hg6] at hI ⊢
    clear hg5 hg6 ca0 ca1 ca2 ca3 cb0 cb1 cb2 cb3 hlt1 hlt2 HHS HGA HBW
    go_loopg [26] 4 (fun j i wr => ∃ k : Nat, j + k = 4 ∧ i = .int .i64 (k : Int) ∧ R = aheadF (fnd4 a0 a1 a2 a3) (fnd4 b0 b1 b2 b3) j k ∧ AheadI w g5 g6 a0 a1 a2 a3 b0 b1 b2 b3 wr)
    case atStart => exact ⟨0, rfl, rfl, HR.out, hI⟩
    case round =>
      clear hI HR
      obtain ⟨k, hk, rfl, hq, hI⟩ := hrel
      by_cases hlt : k < 4
      · have ck := hI.a hlt
        have dk := hI.b hlt
        obtain ⟨j, rfl⟩ : ∃ j, gk = j + 1 := ⟨gk - 1, by omega⟩
        rw [aheadF] at hq
        obtain ⟨x, hx⟩ : ∃ x, x = fnd4 a0 a1 a2 a3 k := ⟨_, rfl⟩
        obtain ⟨y, hy⟩ : ∃ y, y = fnd4 b0 b1 b2 b3 k := ⟨_, rfl⟩
        rw [← hx, ← hy] at hq
        rw [← hx] at ck
        rw [← hy] at dk
        have HQ := Lib.hid hq
        have HI := Lib.hid hI
        have hk4 : (k : Int) < 4 := by omega
        clear hx hy hq hI
        by_cases he : x = y
        · go_wp2_with fail
          go_quiet (fail)
          go_wp2_with fail
          go_roundg j
          case measure => omega
          case rel => exact ⟨k + 1, by omega, by go_num, by rw [HQ.out, if_pos he], HI.out.drewN _⟩
        · go_wp2_with fail
          go_quiet (fail)
          go_wp2_with fail
          go_quiet (fail)
          go_wp2_with fail
          go_ret
          exact ⟨by rw [HQ.out, if_neg he]; rfl, ((HI.out.drewN _).drewN _).bel⟩
      · obtain rfl : k = 4 := by omega
        obtain rfl : gk = 0 := by omega
        have HQ := Lib.hid hq
        have HI := Lib.hid hI
        clear hq hI
        go_wp2_with fail
        go_ret
        exact ⟨by rw [HQ.out]; rfl, HI.out.bel⟩
end Go.Proofs.Ythobfbiobnmceaa.B
