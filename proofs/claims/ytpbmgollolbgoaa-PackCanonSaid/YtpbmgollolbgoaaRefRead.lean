/-
  The document's read and sized, walked.
-/
import Derived.Test.YtpbmgollolbgoaaRefHead
namespace Go.Proofs.Ytpbmgollolbgoaa.B
open Go.RowKit
set_option linter.unusedVariables false

/-- The numbers of such widths, one behind the other, from a place on. -/
def numsAt (s : ByteArray) : Nat → List Int → List Int
  | _, [] => []
  | p, x :: r => num s p x.toNat :: numsAt s (p + x.toNat) r
def lens (ws : List Int) : Nat := (ws.map Int.toNat).sum
theorem lens_cons (x : Int) (r : List Int) : lens (x :: r) = x.toNat + lens r := by simp [lens]
theorem lens_append (a b : List Int) : lens (a ++ b) = lens a + lens b := by simp [lens]
theorem numsAt_append (s : ByteArray) : ∀ (a b : List Int) (p : Nat), numsAt s p (a ++ b) = numsAt s p a ++ numsAt s (p + lens a) b
  | [], b, p => by simp [numsAt, lens]
  | x :: a, b, p => by rw [List.cons_append, numsAt, numsAt_append s a b, numsAt, List.cons_append, lens_cons, Nat.add_assoc]
theorem numsAt_length (s : ByteArray) : ∀ (a : List Int) (p : Nat), (numsAt s p a).length = a.length
  | [], _ => rfl
  | x :: a, p => by rw [numsAt, List.length_cons, numsAt_length s a, List.length_cons]
theorem take_more (ws : List Int) (k : Nat) (h : k < ws.length) : ws.take (k + 1) = ws.take k ++ [ws.getD k 0] := by
  rw [List.take_add_one, List.getElem?_eq_getElem h]
  simp [List.getD, List.getElem?_eq_getElem h]
theorem lens_take_le (ws : List Int) (k : Nat) : lens (ws.take k) ≤ lens ws := by
  have h := lens_append (ws.take k) (ws.drop k)
  rw [List.take_append_drop] at h
  omega

theorem sized_any (s : ByteArray) (n : Nat) (hn : n ≤ 9223372036854775807) (w : World) :
    Calls Try.prog 50 #[.string s, .int .i64 n] w fun e w' => e = .returned (.int .i64 (if n < s.size then 4 else if s.size < n then 3 else 0)) ∧ w = w' := by
  by_cases h1 : n < s.size
  · rw [if_pos h1]
    go_enter Try.func50, Try.ntmps50
    go_wp2
    go_ret
    exact ⟨rfl, rfl⟩
  · by_cases h2 : s.size < n
    · rw [if_neg h1, if_pos h2]
      go_enter Try.func50, Try.ntmps50
      go_wp2
      go_ret
      exact ⟨rfl, rfl⟩
    · rw [if_neg h1, if_neg h2]
      go_enter Try.func50, Try.ntmps50
      go_wp2
      go_ret
      exact ⟨rfl, rfl⟩

theorem infoInt : (Try.prog.info? 3).map (fun i => (i.zero, i.size, i.bytes)) = some (some (.int .i64 0), 1, 8) := by kernel_rfl
set_option maxHeartbeats 1600000 in
theorem read_any (s : ByteArray) (p : Nat) (v2 : Value) (ws : List Int) (hs : s.size ≤ 9223372036854775807) (w : World) (h2 : Row w 3 1 v2 ws.length (ints ws)) (hlen : ws.length ≤ 1000) (hw : ∀ x ∈ ws, 1 ≤ x ∧ x ≤ 6) (hp : p + lens ws ≤ s.size) :
    Calls Try.prog 51 #[.string s, .int .i64 p, v2] w fun e w' => ∃ v, e = .returned v ∧ Loc w w' 3 1 v ws.length (ints (numsAt s p ws)) := by
  obtain ⟨i0, hi, hz0, hz1, hz2⟩ := info_parts infoInt
  have HI := Lib.hid hi
  have HZ0 := Lib.hid hz0
  have HZ1 := Lib.hid hz1
  have HZ2 := Lib.hid hz2
  clear hi hz0 hz1 hz2
  obtain ⟨a2, c2, rfl, hc2⟩ := h2.form
  have R2 := Lib.hid h2
  have HW := Lib.hid hw
  have HP := Lib.hid hp
  have HS := Lib.hid hs
  clear h2 hw hp hs
  go_enter Try.func51, Try.ntmps51
  go_wp2
  go_loopg [1, 7, 8] ws.length (fun j q b i wr => ∃ (k : Nat) (v : Value), j + k = ws.length ∧ q = .int .i64 ((p + lens (ws.take k) : Nat) : Int) ∧ i = .int .i64 k ∧ b = v ∧ Aside (Loc w wr 3 1 v k (ints (numsAt s p (ws.take k)))))
  case atStart => exact ⟨0, .slice none 0 0, rfl, by simp [lens], rfl, rfl, Loc.nil (Below.refl _ _) _ _⟩
  case round =>
    obtain ⟨k, v, hk, rfl, rfl, rfl, hA⟩ := hrel
    by_cases hlt : k < ws.length
    · obtain ⟨g2, q2, e2, _, hg2⟩ := R2.out.form_pos (by omega)
      simp only [Value.slice.injEq, true_and] at e2
      obtain ⟨rfl, rfl⟩ := e2
      have hcell2 : wr.cell? ⟨g2, k, none⟩ = some (.int .i64 (ws.getD k 0)) := by
        rw [hA.out.below.cell (p := ⟨g2, k, none⟩) hg2]
        exact R2.out.cells k _ (by simp [ints, List.getD, List.getElem?_eq_getElem hlt])
      have hy := HW.out (ws.getD k 0) (by simp [List.getD, List.getElem?_eq_getElem hlt])
      have htk := take_more ws k hlt
      have hle := lens_take_le ws (k + 1)
      have HC2 := Lib.hid (show ∀ w1, Below w.heap.size w w1 → w1.cell? ⟨g2, k, none⟩ = some (.int .i64 (ws.getD k 0)) from fun w1 hb => by
        rw [hb.cell (p := ⟨g2, k, none⟩) hg2]
        exact R2.out.cells k _ (by simp [ints, List.getD, List.getElem?_eq_getElem hlt]))
      obtain ⟨y, hye⟩ : ∃ y, y = ws.getD k 0 := ⟨_, rfl⟩
      rw [← hye] at HC2
      rw [← hye] at hcell2 hy htk
      have hln : lens (ws.take (k + 1)) = lens (ws.take k) + y.toNat := by rw [htk, lens_append]; simp [lens]
      have hnx : ints (numsAt s p (ws.take (k + 1))) = ints (numsAt s p (ws.take k)) ++ [.int .i64 (num s (p + lens (ws.take k)) y.toNat)] := by rw [htk, numsAt_append]; simp [ints, numsAt]
      obtain ⟨at', hat⟩ : ∃ a, a = p + lens (ws.take k) := ⟨_, rfl⟩
      rw [← hat] at hnx
      have hln' : p + lens (ws.take (k + 1)) = at' + y.toNat := by omega
      have hfit : at' + y.toNat ≤ s.size := by have := HP.out; omega
      have hget : getSpec s (at' : Int) y = (num s at' y.toNat, 0) := by
        rw [getSpec, if_neg (by omega), if_neg (by omega)]
        rfl
      rw [← hat]
      have HGET := Lib.hid hget
      have HNX := Lib.hid hnx
      have HLN := Lib.hid hln'
      have HFIT := Lib.hid hfit
      have hwy : ((at' + y.toNat : Nat) : Int) = (at' : Int) + y := by omega
      have hwy2 : IntKind.i64.wrap ((at' : Int) + y) = (at' : Int) + y := IntWalk.i64_in _ (by have := HS.out; omega)
      have b1 : (0 : Int) ≤ (k : Int) := by omega
      have b3 : (k : Int) < (ws.length : Int) := by omega
      have l2 := Nat.lt_of_lt_of_le hg2 hA.out.below.size
      clear htk hye hget hnx hln' hfit hln hle hat
      go_wp2_with fail
      refine (refGet_any s at' y HS.out _).mono ?_
      rw [HGET.out]
      rintro e w1 ⟨rfl, rfl⟩
      go_wp2_with (at_builtin; go_must (refine wpList_append_row _ (by rfl) _ _ _ _ (by rfl) 3 i0 (.int .i64 0) 1 8 Try.underlying71 HI.out HZ0.out HZ1.out HZ2.out rfl (by omega) _ _ _ (by rfl) (hA.out.row.alloc _) _ (by rfl) 1 [.int .i64 (num s at' y.toNat)] (Feeds.slice Try.underlying71 ⟨wr.heap.size, 0, none⟩ 1 1 _ rfl (by simp [Value.oneCell']) (World.news_of_block (cs := #[.int .i64 (num s at' y.toNat)]) (t := 3) (fr := (0, 0)) (heap_alloc_new wr _))) (by unfold maxLen; omega) (by omega) (wr.heap.size + 1) (by simp) ?_); intro ao2 cap2 w1 hown1 hgrow hat; have hloc := Lib.hid (hA.out.app ((Below.refl _ wr).alloc (Nat.le_refl _) _) hown1 hgrow hat (by omega)); have hcell3 : w1.cell? ⟨g2, k, none⟩ = some (.int .i64 y) := HC2.out w1 hloc.out.below; have l3 := Nat.lt_of_lt_of_le hg2 hloc.out.below.size)
      go_roundg (gk - 1)
      case measure => omega
      case rel => exact ⟨k + 1, _, by omega, by rw [HLN.out, ← hwy], by go_num, rfl, by rw [HNX.out]; exact hloc.out⟩
    · obtain rfl : gk = 0 := by omega
      obtain rfl : k = ws.length := by omega
      have hL := hA.out
      rw [List.take_length] at hL
      have HL := Lib.hid hL
      clear hL
      go_wp2
      go_ret
      exact ⟨_, rfl, HL.out⟩
end Go.Proofs.Ytpbmgollolbgoaa.B
