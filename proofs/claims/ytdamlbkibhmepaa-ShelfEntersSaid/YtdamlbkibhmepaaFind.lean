/-
  shelf.Find, Spare, and the document's, walked.
-/
import Derived.Test.YtdamlbkibhmepaaSeek
namespace Go.Proofs.Ytdamlbkibhmepaa.B
open Go.RowKit
set_option linter.unusedVariables false
set_option linter.unusedSimpArgs false

def findL (name : ByteArray) (l : List Ent) : Int := if name.size = 0 then -1 else idx (isN name) l 0
def orN (n : Nat) (i : Int) : Int := if 0 ≤ i then i else n
def spareL (l : List Ent) : Int := orN l.length (idx free l 0)
theorem idx_range (p : Ent → Bool) : ∀ (l : List Ent) (k : Int), idx p l k = -1 ∨ (k ≤ idx p l k ∧ idx p l k < k + l.length)
  | [], k => .inl rfl
  | x :: r, k => by
    unfold idx
    split
    · exact .inr ⟨Int.le_refl _, by simp; omega⟩
    · rcases idx_range p r (k + 1) with h | h
      · exact .inl h
      · exact .inr ⟨by omega, by simp; omega⟩

set_option maxRecDepth 100000 in
theorem Find_any (v : Value) (l : List Ent) (name : ByteArray) (w : World) (h : EntRow w v l) (hsz : l.length ≤ 1000000000) :
    Calls Try.prog 17 #[v, .string name] w fun e w' => e = .returned (.int .i64 (findL name l)) ∧ Below w.heap.size w w' := by
  have hmf : ∀ (fn : Fn) (first cap : Array Value) (w : World), (Instr.makeFunc fn first cap).run Try.prog w = .ok (.func fn first cap) w := fun _ _ _ _ => rfl
  have HE := str_empty name
  obtain ⟨R, hR⟩ : ∃ R, R = findL name l := ⟨_, rfl⟩
  rw [← hR]
  unfold findL at hR
  have hal := (Below.refl _ w).alloc (Nat.le_refl _) (.cells #[.string name] 9 (0, 0))
  have HK := Lib.hid (seekFind_any v l name w.heap.size _ (h.below hal) (by simp [go_sem]) (by omega))
  have HAL := Lib.hid hal
  clear hal h
  by_cases h0 : name.size = 0
  · rw [if_pos h0] at hR
    have he : name.toList.isEmpty = true := by rw [HE]; simp [h0]
    have HR := Lib.hid hR
    clear HE hR HK
    go_enter Try.func17, Try.ntmps17
    go_wp2_with fail
    go_ret
    exact ⟨by rw [HR.out]; rfl, HAL.out⟩
  · rw [if_neg h0] at hR
    have he : name.toList.isEmpty = false := by rw [HE]; simp [h0]
    rw [← hR] at HK
    clear HE hR
    go_enter Try.func17, Try.ntmps17
    go_wp2_with fail
    refine HK.out.mono ?_
    rintro e W1 ⟨rfl, hb1⟩
    have HB1 := Lib.hid (HAL.out.trans (hb1.mono (by simp)))
    clear HK HAL hb1
    go_wp2_with fail
    go_ret
    exact ⟨rfl, HB1.out⟩
set_option maxRecDepth 100000 in
theorem Spare_any (v : Value) (l : List Ent) (w : World) (h : EntRow w v l) (hsz : l.length ≤ 1000000000) :
    Calls Try.prog 19 #[v] w fun e w' => e = .returned (.int .i64 (spareL l)) ∧ Below w.heap.size w w' := by
  have hmf : ∀ (fn : Fn) (first cap : Array Value) (w : World), (Instr.makeFunc fn first cap).run Try.prog w = .ok (.func fn first cap) w := fun _ _ _ _ => rfl
  obtain ⟨ao, cap, rfl, hcap, hmax⟩ := h.form
  obtain ⟨R, hR⟩ : ∃ R, R = spareL l := ⟨_, rfl⟩
  rw [← hR]
  unfold spareL orN at hR
  have HK := Lib.hid (seekSpare_any _ l w h (by omega))
  obtain ⟨i, hi⟩ : ∃ i, i = idx free l 0 := ⟨_, rfl⟩
  rw [← hi] at hR HK
  have HR := Lib.hid hR
  clear hR hi h
  obtain ⟨n, hn⟩ : ∃ n, n = l.length := ⟨_, rfl⟩
  rw [← hn] at HR HK ⊢
  clear hn hmax
  go_enter Try.func19, Try.ntmps19
  go_wp2_with fail
  refine HK.out.mono ?_
  rintro e W1 ⟨rfl, hb1⟩
  have HB1 := Lib.hid hb1
  clear HK hb1
  by_cases hp : 0 ≤ i
  · have hR := HR.out
    rw [if_pos hp] at hR
    have HR2 := Lib.hid hR
    clear hR HR
    go_wp2_with fail
    go_ret
    exact ⟨by rw [HR2.out]; rfl, HB1.out⟩
  · have hR := HR.out
    rw [if_neg hp] at hR
    have hp' : i < 0 := by omega
    have HR2 := Lib.hid hR
    clear hR HR
    go_wp2_with fail
    go_ret
    exact ⟨by rw [HR2.out]; rfl, HB1.out⟩
set_option maxRecDepth 100000 in
set_option maxHeartbeats 1600000 in
theorem refSpare_any (v : Value) (l : List Ent) (w : World) (h : EntRow w v l) (hsz : l.length ≤ 1000000000) :
    Calls Try.prog 20 #[v] w fun e w' => e = .returned (.int .i64 (spareL l)) ∧ Below w.heap.size w w' := by
  obtain ⟨ao, cap, rfl, hcap, hmax⟩ := h.form
  have hu := Try.underlying37
  obtain ⟨R, hR⟩ : ∃ R, R = spareL l := ⟨_, rfl⟩
  rw [← hR]
  unfold spareL at hR
  have HR := Lib.hid hR
  obtain ⟨n, hnl⟩ : ∃ n, n = l.length := ⟨_, rfl⟩
  try rw [← hnl] at HR
  rw [← hnl] at hcap hsz h
  rw [← hnl]
  have HN := Lib.hid hnl
  have HI0 := Lib.hid (show SeekI w (.slice ao n cap) l w from ⟨Below.refl _ _, h⟩)
  clear hR hnl h hmax
  go_enter Try.func20, Try.ntmps20
  go_wp2_with fail
  go_loopg [3] n (fun j i wr => ∃ k : Nat, j + k = n ∧ i = .int .i64 (k : Int) ∧ R = orN n (idx free (l.drop k) k) ∧ SeekI w (.slice ao n cap) l wr)
  case atStart => exact ⟨0, by omega, rfl, HR.out, HI0.out⟩
  case round =>
    clear HI0 HR
    obtain ⟨k, hk, rfl, hq, hI⟩ := hrel
    by_cases hlt : k < n
    · obtain ⟨j, rfl⟩ : ∃ j, gk = j + 1 := ⟨gk - 1, by omega⟩
      have hlen : k < l.length := by rw [← HN.out]; exact hlt
      obtain ⟨g, o, rfl, hg, _, hc⟩ := hI.row.get (i := k) hlen
      have e1 := hc k hlen
      rw [List.drop_eq_getElem_cons hlen, idx] at hq
      have hgd : l.getD k .zero = l[k] := by simp [List.getD, hlen]
      rw [hgd] at e1
      obtain ⟨f, hf⟩ : ∃ f, f = l[k] := ⟨_, rfl⟩
      rw [← hf] at e1 hq
      have x0 : wr.cell? ⟨g, o + k * 3, none⟩ = some (.string f.nm) := e1 0 _ rfl
      have x1 : wr.cell? ⟨g, o + k * 3 + 1, none⟩ = some (.int .i64 f.a) := e1 1 _ rfl
      have x2 : wr.cell? ⟨g, o + k * 3 + 2, none⟩ = some (.int .i64 f.b) := e1 2 _ rfl
      have HI := Lib.hid hI
      have u2 : (0 : Int) ≤ (k : Int) := by omega
      have u3 : (k : Int) < (n : Int) := by omega
      have hkj : j + (k + 1) = n := by omega
      have HKJ := Lib.hid hkj
      have hbe := str_empty f.nm
      obtain ⟨bb, hbb⟩ : ∃ b, b = free f := ⟨_, rfl⟩
      rw [← hbb] at hq
      unfold free at hbb
      rw [← hbb] at hbe
      clear hbb
      clear hI e1 hc hf hk hkj hlt hgd hlen
      cases bb with
      | true =>
        rw [if_pos (by rfl)] at hq
        have HQ := Lib.hid hq
        clear hq
        go_wp2_with fail
        go_ret
        exact ⟨by rw [HQ.out]; unfold orN; rw [if_pos u2]; rfl, HI.out.bel⟩
      | false =>
        rw [if_neg (by simp)] at hq
        have HQ := Lib.hid hq
        clear hq
        go_wp2_with fail
        go_roundg j
        case measure => omega
        case rel => exact ⟨k + 1, HKJ.out, by go_num, HQ.out, HI.out⟩
    · have HI := Lib.hid hI
      obtain rfl : gk = 0 := by omega
      obtain rfl : k = n := by omega
      rw [List.drop_of_length_le (by rw [← HN.out]; exact Nat.le_refl _)] at hq
      have HQ := Lib.hid hq
      clear hI hq
      go_wp2_with fail
      go_ret
      exact ⟨by rw [HQ.out]; rfl, HI.out.bel⟩
set_option maxRecDepth 100000 in
set_option maxHeartbeats 1600000 in
theorem refFind_any (v : Value) (l : List Ent) (name : ByteArray) (w : World) (h : EntRow w v l) (hsz : l.length ≤ 1000000000) :
    Calls Try.prog 18 #[v, .string name] w fun e w' => e = .returned (.int .i64 (findL name l)) ∧ Below w.heap.size w w' := by
  obtain ⟨ao, cap, rfl, hcap, hmax⟩ := h.form
  have hu := Try.underlying37
  obtain ⟨R, hR⟩ : ∃ R, R = findL name l := ⟨_, rfl⟩
  rw [← hR]
  have hR0 : findL name l = idx (fun x => !decide (name.size = 0) && isN name x) l 0 := by
    unfold findL
    split
    · rename_i h0
      have : ∀ (m : List Ent) (k : Int), idx (fun x => !decide (name.size = 0) && isN name x) m k = -1 := by
        intro m
        induction m with
        | nil => intro k; rfl
        | cons x r ih => intro k; rw [idx, if_neg (by simp [h0]), ih]
      rw [this]
    · rename_i h0
      congr 1
      funext x
      simp [h0]
  rw [hR0] at hR
  have he := str_empty name
  obtain ⟨bz, hz⟩ : ∃ b, b = decide (name.size = 0) := ⟨_, rfl⟩
  rw [← hz] at he hR
  clear hR0 hz
  have HR := Lib.hid hR
  obtain ⟨n, hnl⟩ : ∃ n, n = l.length := ⟨_, rfl⟩
  try rw [← hnl] at HR
  rw [← hnl] at hcap hsz h
  rw [← hnl]
  have HN := Lib.hid hnl
  have HI0 := Lib.hid (show SeekI w (.slice ao n cap) l w from ⟨Below.refl _ _, h⟩)
  clear hR hnl h hmax
  go_enter Try.func18, Try.ntmps18
  go_wp2_with fail
  go_loopg [5] n (fun j i wr => ∃ k : Nat, j + k = n ∧ i = .int .i64 (k : Int) ∧ R = idx (fun x => !bz && isN name x) (l.drop k) k ∧ SeekI w (.slice ao n cap) l wr)
  case atStart => exact ⟨0, by omega, rfl, HR.out, HI0.out⟩
  case round =>
    clear HI0 HR
    obtain ⟨k, hk, rfl, hq, hI⟩ := hrel
    by_cases hlt : k < n
    · obtain ⟨j, rfl⟩ : ∃ j, gk = j + 1 := ⟨gk - 1, by omega⟩
      have hlen : k < l.length := by rw [← HN.out]; exact hlt
      obtain ⟨g, o, rfl, hg, _, hc⟩ := hI.row.get (i := k) hlen
      have e1 := hc k hlen
      rw [List.drop_eq_getElem_cons hlen, idx] at hq
      have hgd : l.getD k .zero = l[k] := by simp [List.getD, hlen]
      rw [hgd] at e1
      obtain ⟨f, hf⟩ : ∃ f, f = l[k] := ⟨_, rfl⟩
      rw [← hf] at e1 hq
      have x0 : wr.cell? ⟨g, o + k * 3, none⟩ = some (.string f.nm) := e1 0 _ rfl
      have x1 : wr.cell? ⟨g, o + k * 3 + 1, none⟩ = some (.int .i64 f.a) := e1 1 _ rfl
      have x2 : wr.cell? ⟨g, o + k * 3 + 2, none⟩ = some (.int .i64 f.b) := e1 2 _ rfl
      have HI := Lib.hid hI
      have u2 : (0 : Int) ≤ (k : Int) := by omega
      have u3 : (k : Int) < (n : Int) := by omega
      have hkj : j + (k + 1) = n := by omega
      have HKJ := Lib.hid hkj
      have hbe := str_beq f.nm name
      obtain ⟨bn, hbn⟩ : ∃ b, b = isN name f := ⟨_, rfl⟩
      rw [← hbn] at hq
      unfold isN at hbn
      rw [← hbn] at hbe
      clear hbn
      clear hI e1 hc hf hk hkj hlt hgd hlen
      obtain ⟨rfl, rfl⟩ | ⟨rfl, rfl⟩ | ⟨rfl, rfl⟩ | ⟨rfl, rfl⟩ : (bz = true ∧ bn = true) ∨ (bz = true ∧ bn = false) ∨ (bz = false ∧ bn = true) ∨ (bz = false ∧ bn = false) := by cases bz <;> cases bn <;> simp
      ·
        rw [if_neg (by simp)] at hq
        have HQ := Lib.hid hq
        clear hq
        go_wp2_with fail
        go_roundg j
        case measure => omega
        case rel => exact ⟨k + 1, HKJ.out, by go_num, HQ.out, HI.out⟩
      ·
        rw [if_neg (by simp)] at hq
        have HQ := Lib.hid hq
        clear hq
        go_wp2_with fail
        go_roundg j
        case measure => omega
        case rel => exact ⟨k + 1, HKJ.out, by go_num, HQ.out, HI.out⟩
      ·
        rw [if_pos (by rfl)] at hq
        have HQ := Lib.hid hq
        clear hq
        go_wp2_with fail
        go_ret
        exact ⟨by rw [HQ.out]; rfl, HI.out.bel⟩
      ·
        rw [if_neg (by simp)] at hq
        have HQ := Lib.hid hq
        clear hq
        go_wp2_with fail
        go_roundg j
        case measure => omega
        case rel => exact ⟨k + 1, HKJ.out, by go_num, HQ.out, HI.out⟩
    · have HI := Lib.hid hI
      obtain rfl : gk = 0 := by omega
      obtain rfl : k = n := by omega
      rw [List.drop_of_length_le (by rw [← HN.out]; exact Nat.le_refl _)] at hq
      have HQ := Lib.hid hq
      clear hI hq
      go_wp2_with fail
      go_ret
      exact ⟨by rw [HQ.out]; rfl, HI.out.bel⟩
end Go.Proofs.Ytdamlbkibhmepaa.B
