/-
  shelf.seek, Find, Spare, and the document's, walked.
-/
import Derived.Test.YtdamlbkibhmepaaEntRow
namespace Go.Proofs.Ytdamlbkibhmepaa.B
open Go.RowKit
set_option linter.unusedVariables false
set_option linter.unusedSimpArgs false

/-- The first place from k on. -/
def idx (p : Ent → Bool) : List Ent → Int → Int
  | [], _ => -1
  | x :: r, k => if p x = true then k else idx p r (k + 1)
def isN (name : ByteArray) (x : Ent) : Bool := decide (x.nm = name)
def free (x : Ent) : Bool := decide (x.nm.size = 0)

set_option maxRecDepth 100000 in
theorem find1_any (x : Ent) (name : ByteArray) (g : Nat) (w : World) (h : w.cell? ⟨g, 0, none⟩ = some (.string name)) :
    Calls Try.prog 32 #[.agg #[.string x.nm, .int .i64 x.a, .int .i64 x.b], .pointer (some ⟨g, 0, none⟩)] w fun e w' => e = .returned (.bool (isN name x)) ∧ Below w.heap.size w w' := by
  have hu := Try.underlying37
  have hlt := World.block_lt_of_cell? w _ h
  have h2 : (w.alloc (.cells #[.string x.nm, .int .i64 x.a, .int .i64 x.b] 37)).cell? ⟨g, 0, none⟩ = some (.string name) := (World.cell?_of_block (Below.heap_alloc w _ g hlt)).trans h
  clear h
  go_enter Try.func32, Try.ntmps32
  go_wp2_with fail
  go_ret
  exact ⟨congrArg (fun b => Ending.returned (.bool b)) (str_beq x.nm name), (Below.refl _ w).alloc (Nat.le_refl _) _⟩
set_option maxRecDepth 100000 in
theorem spare1_any (x : Ent) (w : World) :
    Calls Try.prog 33 #[.agg #[.string x.nm, .int .i64 x.a, .int .i64 x.b]] w fun e w' => e = .returned (.bool (free x)) ∧ Below w.heap.size w w' := by
  have hu := Try.underlying37
  go_enter Try.func33, Try.ntmps33
  go_wp2_with fail
  go_ret
  exact ⟨congrArg (fun b => Ending.returned (.bool b)) (str_empty x.nm), (Below.refl _ w).alloc (Nat.le_refl _) _⟩
/-- What stands in a round of seek. -/
structure SeekI (w : World) (v : Value) (l : List Ent) (W : World) : Prop where
  bel : Below w.heap.size w W
  row : EntRow W v l
set_option maxRecDepth 100000 in
set_option maxHeartbeats 1600000 in
theorem seekFind_any (v : Value) (l : List Ent) (name : ByteArray) (gn : Nat) (w : World) (h : EntRow w v l) (hn : w.cell? ⟨gn, 0, none⟩ = some (.string name)) (hsz : l.length ≤ 100000000000) :
    Calls Try.prog 31 #[v, .func (.func 32) #[] #[.pointer (some ⟨gn, 0, none⟩)]] w fun e w' => e = .returned (.int .i64 (idx (isN name) l 0)) ∧ Below w.heap.size w w' := by
  obtain ⟨ao, cap, rfl, hcap, hmax⟩ := h.form
  have hu := Try.underlying37
  obtain ⟨R, hR⟩ : ∃ R, R = idx (isN name) l 0 := ⟨_, rfl⟩
  rw [← hR]
  have HR := Lib.hid hR
  obtain ⟨n, hnl⟩ : ∃ n, n = l.length := ⟨_, rfl⟩
  rw [← hnl] at hcap hsz h
  rw [← hnl]
  have HN := Lib.hid hnl
  have HI0 := Lib.hid (show SeekI w (.slice ao n cap) l w from ⟨Below.refl _ _, h⟩)
  have HF := Lib.hid (fun (x : Ent) (W : World) (hb : Below w.heap.size w W) => find1_any x name gn W ((hb.cell (p := ⟨gn, 0, none⟩) (World.block_lt_of_cell? w _ hn)).trans hn))
  clear hR hnl hn h hmax
  go_enter Try.func31, Try.ntmps31
  go_wp2_with fail
  go_loopg [9] n (fun j i wr => ∃ k : Nat, j + k = n ∧ i = .int .i64 (k : Int) ∧ R = idx (isN name) (l.drop k) k ∧ SeekI w (.slice ao n cap) l wr)
  case atStart => exact ⟨0, by omega, rfl, HR.out, HI0.out⟩
  case round =>
    clear HI0 HR
    obtain ⟨k, hk, rfl, hq, hI⟩ := hrel
    by_cases hlt : k < n
    · obtain ⟨j, rfl⟩ : ∃ j, gk = j + 1 := ⟨gk - 1, by omega⟩
      have hlen : k < l.length := by rw [← HN.out]; exact hlt
      obtain ⟨g, o, rfl, hg, _, hc⟩ := hI.row.get (i := k) hlen
      have e1 := hc k hlen
      rw [List.drop_eq_getElem_cons hlen, idx] at hq
      have hgd : l.getD k .zero = l[k] := by simp [List.getD, hlen]
      rw [hgd] at e1
      obtain ⟨f, hf⟩ : ∃ f, f = l[k] := ⟨_, rfl⟩
      rw [← hf] at e1 hq
      have x0 : wr.cell? ⟨g, o + k * 3, none⟩ = some (.string f.nm) := e1 0 _ rfl
      have x1 : wr.cell? ⟨g, o + k * 3 + 1, none⟩ = some (.int .i64 f.a) := e1 1 _ rfl
      have x2 : wr.cell? ⟨g, o + k * 3 + 2, none⟩ = some (.int .i64 f.b) := e1 2 _ rfl
      have HI := Lib.hid hI
      have ha : Below wr.heap.size wr (wr.alloc (.cells #[.string f.nm, .int .i64 f.a, .int .i64 f.b] 37 (0, 0))) := (Below.refl _ wr).alloc (Nat.le_refl _) _
      have HA := Lib.hid ha
      have HC := Lib.hid (HF.out f _ (hI.bel.trans (ha.mono hI.bel.size)))
      clear ha
      obtain ⟨bb, hbb⟩ : ∃ b, b = (isN name) f := ⟨_, rfl⟩
      rw [← hbb] at hq HC
      have HQ := Lib.hid hq
      have u2 : (0 : Int) ≤ (k : Int) := by omega
      have u3 : (k : Int) < (n : Int) := by omega
      have hkj : j + (k + 1) = n := by omega
      have HKJ := Lib.hid hkj
      clear hI e1 hc hf hk hkj hlt hq hbb hgd hlen
      go_wp2_with fail
      refine HC.out.mono ?_
      rintro e W1 ⟨rfl, hb1⟩
      have HI1 := Lib.hid (show SeekI w (.slice (some ⟨g, o, none⟩) n cap) l W1 from ⟨HI.out.bel.trans ((HA.out.trans (hb1.mono HA.out.size)).mono HI.out.bel.size), HI.out.row.below (HA.out.trans (hb1.mono HA.out.size))⟩)
      have hq := HQ.out
      clear HI HC hb1 HQ
      cases bb with
      | true =>
        rw [if_pos rfl] at hq
        have HQ := Lib.hid hq
        clear hq
        go_wp2_with fail
        go_ret
        exact ⟨by rw [HQ.out]; rfl, HI1.out.bel⟩
      | false =>
        rw [if_neg (by simp)] at hq
        have HQ := Lib.hid hq
        clear hq
        go_wp2_with fail
        go_roundg j
        case measure => omega
        case rel => exact ⟨k + 1, HKJ.out, by go_num, HQ.out, HI1.out⟩
    · have HI := Lib.hid hI
      obtain rfl : gk = 0 := by omega
      obtain rfl : k = n := by omega
      rw [List.drop_of_length_le (by rw [← HN.out]; exact Nat.le_refl _)] at hq
      have HQ := Lib.hid hq
      clear hI hq
      go_wp2_with fail
      go_ret
      exact ⟨by rw [HQ.out]; rfl, HI.out.bel⟩
set_option maxRecDepth 100000 in
set_option maxHeartbeats 1600000 in
theorem seekSpare_any (v : Value) (l : List Ent) (w : World) (h : EntRow w v l) (hsz : l.length ≤ 100000000000) :
    Calls Try.prog 31 #[v, .func (.func 33) #[] #[]] w fun e w' => e = .returned (.int .i64 (idx (free) l 0)) ∧ Below w.heap.size w w' := by
  obtain ⟨ao, cap, rfl, hcap, hmax⟩ := h.form
  have hu := Try.underlying37
  obtain ⟨R, hR⟩ : ∃ R, R = idx (free) l 0 := ⟨_, rfl⟩
  rw [← hR]
  have HR := Lib.hid hR
  obtain ⟨n, hn⟩ : ∃ n, n = l.length := ⟨_, rfl⟩
  rw [← hn] at hcap hsz h
  rw [← hn]
  have HN := Lib.hid hn
  have HI0 := Lib.hid (show SeekI w (.slice ao n cap) l w from ⟨Below.refl _ _, h⟩)
  have HF := Lib.hid (fun (x : Ent) (W : World) (hb : Below w.heap.size w W) => spare1_any x W)
  clear hR hn h hmax
  go_enter Try.func31, Try.ntmps31
  go_wp2_with fail
  go_loopg [9] n (fun j i wr => ∃ k : Nat, j + k = n ∧ i = .int .i64 (k : Int) ∧ R = idx (free) (l.drop k) k ∧ SeekI w (.slice ao n cap) l wr)
  case atStart => exact ⟨0, by omega, rfl, HR.out, HI0.out⟩
  case round =>
    clear HI0 HR
    obtain ⟨k, hk, rfl, hq, hI⟩ := hrel
    by_cases hlt : k < n
    · obtain ⟨j, rfl⟩ : ∃ j, gk = j + 1 := ⟨gk - 1, by omega⟩
      have hlen : k < l.length := by rw [← HN.out]; exact hlt
      obtain ⟨g, o, rfl, hg, _, hc⟩ := hI.row.get (i := k) hlen
      have e1 := hc k hlen
      rw [List.drop_eq_getElem_cons hlen, idx] at hq
      have hgd : l.getD k .zero = l[k] := by simp [List.getD, hlen]
      rw [hgd] at e1
      obtain ⟨f, hf⟩ : ∃ f, f = l[k] := ⟨_, rfl⟩
      rw [← hf] at e1 hq
      have x0 : wr.cell? ⟨g, o + k * 3, none⟩ = some (.string f.nm) := e1 0 _ rfl
      have x1 : wr.cell? ⟨g, o + k * 3 + 1, none⟩ = some (.int .i64 f.a) := e1 1 _ rfl
      have x2 : wr.cell? ⟨g, o + k * 3 + 2, none⟩ = some (.int .i64 f.b) := e1 2 _ rfl
      have HI := Lib.hid hI
      have ha : Below wr.heap.size wr (wr.alloc (.cells #[.string f.nm, .int .i64 f.a, .int .i64 f.b] 37 (0, 0))) := (Below.refl _ wr).alloc (Nat.le_refl _) _
      have HA := Lib.hid ha
      have HC := Lib.hid (HF.out f _ (hI.bel.trans (ha.mono hI.bel.size)))
      clear ha
      obtain ⟨bb, hbb⟩ : ∃ b, b = (free) f := ⟨_, rfl⟩
      rw [← hbb] at hq HC
      have HQ := Lib.hid hq
      have u2 : (0 : Int) ≤ (k : Int) := by omega
      have u3 : (k : Int) < (n : Int) := by omega
      have hkj : j + (k + 1) = n := by omega
      have HKJ := Lib.hid hkj
      clear hI e1 hc hf hk hkj hlt hq hbb hgd hlen
      go_wp2_with fail
      refine HC.out.mono ?_
      rintro e W1 ⟨rfl, hb1⟩
      have HI1 := Lib.hid (show SeekI w (.slice (some ⟨g, o, none⟩) n cap) l W1 from ⟨HI.out.bel.trans ((HA.out.trans (hb1.mono HA.out.size)).mono HI.out.bel.size), HI.out.row.below (HA.out.trans (hb1.mono HA.out.size))⟩)
      have hq := HQ.out
      clear HI HC hb1 HQ
      cases bb with
      | true =>
        rw [if_pos rfl] at hq
        have HQ := Lib.hid hq
        clear hq
        go_wp2_with fail
        go_ret
        exact ⟨by rw [HQ.out]; rfl, HI1.out.bel⟩
      | false =>
        rw [if_neg (by simp)] at hq
        have HQ := Lib.hid hq
        clear hq
        go_wp2_with fail
        go_roundg j
        case measure => omega
        case rel => exact ⟨k + 1, HKJ.out, by go_num, HQ.out, HI1.out⟩
    · have HI := Lib.hid hI
      obtain rfl : gk = 0 := by omega
      obtain rfl : k = n := by omega
      rw [List.drop_of_length_le (by rw [← HN.out]; exact Nat.le_refl _)] at hq
      have HQ := Lib.hid hq
      clear hI hq
      go_wp2_with fail
      go_ret
      exact ⟨by rw [HQ.out]; rfl, HI.out.bel⟩
end Go.Proofs.Ytdamlbkibhmepaa.B
