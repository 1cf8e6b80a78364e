/-
  shelf.Page and the document's, walked.
-/
import Derived.Test.YtdamlbkibhmepaaNames
namespace Go.Proofs.Ytdamlbkibhmepaa.B
open Go.RowKit
set_option linter.unusedVariables false
set_option linter.unusedSimpArgs false

def cutAt (s : ByteArray) (k : Nat) : ByteArray := s.extract (28 * k) (28 * k + 28)
def entAt (s : ByteArray) (k : Nat) : Ent := ⟨(entryOfSpec (cutAt s k)).1, (entryOfSpec (cutAt s k)).2.1, (entryOfSpec (cutAt s k)).2.2.1⟩
def errAt (s : ByteArray) (k : Nat) : Int := (entryOfSpec (cutAt s k)).2.2.2
def entsAt (s : ByteArray) (k : Nat) : List Ent := (List.range k).map (entAt s)
def pageFrom (s : ByteArray) : Nat → Nat → List Ent × Int
  | 0, k => (entsAt s k, 0)
  | j + 1, k => if errAt s k = 0 then pageFrom s j (k + 1) else ([], errAt s k)
/-- A directory's block, read: the slots, the state. -/
def pageSpec (s : ByteArray) : List Ent × Int := if s.size = 448 then pageFrom s 16 0 else ([], 1)
theorem entsAt_succ (s : ByteArray) (k : Nat) : entsAt s (k + 1) = entsAt s k ++ [entAt s k] := by simp [entsAt, List.range_succ]
theorem entsAt_length (s : ByteArray) (k : Nat) : (entsAt s k).length = k := by simp [entsAt]
theorem entryOf_wf (t : ByteArray) : (entryOfSpec t).1.size ≤ t.size ∧ in64 (entryOfSpec t).2.1 ∧ in64 (entryOfSpec t).2.2.1 := by
  have h0 := num_range t 20 4
  have h1 := num_range t 24 4
  have h0' : num t 20 4 < 4294967296 := h0.2
  have h1' : num t 24 4 < 4294967296 := h1.2
  unfold entryOfSpec in64
  split
  · exact ⟨Nat.zero_le _, by simp, by simp⟩
  · split
    · exact ⟨Nat.zero_le _, by simp, by simp⟩
    · split
      · exact ⟨Nat.zero_le _, by simp, by simp⟩
      · split
        · exact ⟨Nat.zero_le _, by simp, by simp⟩
        · refine ⟨by simp only [ByteArray.size_extract]; omega, ?_, ?_⟩ <;> simp only <;> omega
theorem entAt_wf (s : ByteArray) (k : Nat) : (entAt s k).wf := by
  have h := entryOf_wf (cutAt s k)
  refine ⟨Nat.le_trans h.1 ?_, h.2.1, h.2.2⟩
  unfold cutAt maxLen
  rw [ByteArray.size_extract]
  omega
theorem entsAt_wf (s : ByteArray) (k : Nat) : ∀ f ∈ entsAt s k, f.wf := by
  intro f hf
  simp only [entsAt, List.mem_map] at hf
  obtain ⟨i, _, rfl⟩ := hf
  exact entAt_wf s i
theorem Loc.ents {w W : World} {v : Value} {l : List Ent} (h : Loc w W 37 3 v l.length (ecells l)) (hf : ∀ f ∈ l, f.wf) : EntRow W v l := entRow_row h.row hf
def PagePost (w : World) (r : List Ent × Int) (e : Ending) (w' : World) : Prop :=
  ∃ v', e = .returned (.tuple #[v', .int .i64 r.2]) ∧ EntRow w' v' r.1 ∧ Below w.heap.size w w' ∧ ∀ g, v'.ownBlock = some g → w.heap.size ≤ g
set_option maxRecDepth 100000 in
set_option maxHeartbeats 3200000 in
theorem Page_any (s : ByteArray) (hs : s.size ≤ 9223372036854775807) (w : World) :
    Calls Try.prog 11 #[.string s] w (PagePost w (pageSpec s)) := by
  have hu := Try.underlying37
  obtain ⟨R, hR⟩ : ∃ R, R = pageSpec s := ⟨_, rfl⟩
  rw [← hR]
  unfold pageSpec at hR
  by_cases h448 : s.size = 448
  case neg =>
    rw [if_neg h448] at hR
    have i1 : ((s.size : Int) != 448) = true := by simp; omega
    have HR := Lib.hid hR
    clear hR
    go_enter Try.func11, Try.ntmps11
    go_wp2_with fail
    go_ret2
    rw [HR.out]
    exact ⟨_, rfl, EntRow.nil _, Below.refl _ _, by simp [Value.ownBlock]⟩
  rw [if_pos h448] at hR
  have i1 : ((s.size : Int) != 448) = false := by simp; omega
  have HR := Lib.hid hR
  have HS := Lib.hid h448
  have i2 : ∀ k : Nat, k < 16 → 28 * k + 28 ≤ s.size := by intro k hk; omega
  have HS2 := Lib.hid i2
  clear hR h448 hs i2
  go_enter Try.func11, Try.ntmps11
  go_wp2_with fail
  go_loopg [4, 11] 16 (fun j o i wr => ∃ (k : Nat) (v : Value), j + k = 16 ∧ i = .int .i64 (k : Int) ∧ o = v ∧ R = pageFrom s j k ∧ Loc w wr 37 3 v k (ecells (entsAt s k)))
  case atStart => exact ⟨0, _, rfl, rfl, rfl, HR.out, Loc.nil (Below.refl _ _) _ _⟩
  case round =>
    clear HR
    obtain ⟨k, v, hk, rfl, rfl, hq, hI⟩ := hrel
    by_cases hlt : k < 16
    · obtain ⟨j, rfl⟩ : ∃ j, gk = j + 1 := ⟨gk - 1, by omega⟩
      have hz := HS2.out k hlt
      have hcut : s.extract (28 * k) (28 * k + 28) = cutAt s k := rfl
      have u3 : (k : Int) < 16 := by omega
      have u1 : IntKind.i64.wrap ((k : Int) * 28) = ((28 * k : Nat) : Int) := by
        rw [show (k : Int) * 28 = ((28 * k : Nat) : Int) by omega]
        exact IntWalk.i64_in _ (by omega)
      have u1' : IntKind.i64.wrap (28 * (k : Int)) = ((28 * k : Nat) : Int) := by
        rw [show 28 * (k : Int) = ((28 * k : Nat) : Int) by omega]
        exact IntWalk.i64_in _ (by omega)
      have u4 : IntKind.i64.wrap ((k : Int) + 1) = ((k + 1 : Nat) : Int) := by
        rw [show (k : Int) + 1 = ((k + 1 : Nat) : Int) by omega]
        exact IntWalk.i64_in _ (by omega)
      have u2 : IntKind.i64.wrap (((k + 1 : Nat) : Int) * 28) = ((28 * k + 28 : Nat) : Int) := by
        rw [show ((k + 1 : Nat) : Int) * 28 = ((28 * k + 28 : Nat) : Int) by omega]
        exact IntWalk.i64_in _ (by omega)
      have u2' : IntKind.i64.wrap (((28 * k : Nat) : Int) + 28) = ((28 * k + 28 : Nat) : Int) := by
        rw [show ((28 * k : Nat) : Int) + 28 = ((28 * k + 28 : Nat) : Int) by omega]
        exact IntWalk.i64_in _ (by omega)
      have hk16 : k ≤ 16 := by omega
      have hkj : j + (k + 1) = 16 := by omega
      have HKJ := Lib.hid hkj
      have HC := Lib.hid (fun W => EntryOf_any (cutAt s k) (by unfold cutAt; rw [ByteArray.size_extract]; omega) W)
      rw [pageFrom] at hq
      obtain ⟨f, hf⟩ : ∃ f, f = entAt s k := ⟨_, rfl⟩
      obtain ⟨er, her⟩ : ∃ e, e = errAt s k := ⟨_, rfl⟩
      have hcc : ∀ W, Calls Try.prog 25 #[.string (cutAt s k)] W fun e w' => e = .returned (.tuple #[.agg #[.string f.nm, .int .i64 f.a, .int .i64 f.b], .int .i64 er]) ∧ Below W.heap.size W w' := by
        rw [hf, her]
        exact HC.out
      have HC2 := Lib.hid hcc
      rw [← her] at hq
      have HF := Lib.hid hf
      have HQ := Lib.hid hq
      have hor := hI.row
      obtain ⟨ao2, cap2, rfl, hc2⟩ := hor.form
      have HFC := Lib.hid hI
      clear hI hf her hq HC hor hk hkj hlt hcc
      go_wp2_with fail
      rw [show (k + 1) * 28 = 28 * k + 28 by omega, hcut]
      refine (HC2.out _).mono ?_
      rintro e W1 ⟨rfl, hb1⟩
      have HB1 := Lib.hid hb1
      clear hb1 HC2
      have hq := HQ.out
      clear HQ
      by_cases her : er = 0
      · subst her
        rw [if_pos rfl] at hq
        have HQ := Lib.hid hq
        obtain ⟨i0, hi, hz0, hz1, hz2⟩ := info_parts infoEntry
        have HII := Lib.hid hi
        have HZ0 := Lib.hid hz0
        have HZ1 := Lib.hid hz1
        have HZ2 := Lib.hid hz2
        have hL1 := HFC.out.step HB1.out
        have HROW := Lib.hid hL1.row
        clear hi hz0 hz1 hz2 hL1 hq
        go_wp2_with (refine wpList_append_row _ (by rfl) _ _ _ _ (by rfl) 37 i0 (.agg #[.string ⟨#[]⟩, .int .i64 0, .int .i64 0]) 3 32 Try.underlying22 HII.out HZ0.out HZ1.out HZ2.out rfl (by omega) _ k _ (by rfl) ((HROW.out.alloc _).alloc _) _ (by rfl) 1 [.string f.nm, .int .i64 f.a, .int .i64 f.b] (Feeds.slice Try.underlying22 ⟨W1.heap.size + 1, 0, none⟩ 1 1 _ (by rfl) (by simp [Value.oneCell']) (World.news_of_block (cs := #[.string f.nm, .int .i64 f.a, .int .i64 f.b]) (t := 37) (fr := (0, 0)) (get_top (by simp)))) (by unfold maxLen; omega) (by omega) (W1.heap.size + 2) (by simp) ?_; intro ao5 cap5 w5 hown5 hgrow5 hat5; have HO5 := Lib.hid hown5; have HG5 := Lib.hid hgrow5; have HA5 := Lib.hid hat5; clear hown5 hgrow5 hat5)
        go_roundg j
        case measure => omega
        case rel => exact ⟨k + 1, _, HKJ.out, by go_num, rfl, HQ.out, by
          have hap := Loc.app (HFC.out.step HB1.out) (((Below.refl _ W1).alloc (Nat.le_refl _) _).alloc (by simp) _) HO5.out HG5.out HA5.out (by omega)
          rw [entsAt_succ, ecells_append, ← HF.out]
          exact hap⟩
      · rw [if_neg her] at hq
        have HQ := Lib.hid hq
        clear hq
        go_wp2_with fail
        go_ret2
        rw [HQ.out]
        exact ⟨_, rfl, EntRow.nil _, (HFC.out.below.trans (HB1.out.mono HFC.out.below.size)).alloc (by have := HFC.out.below.size; have := HB1.out.size; omega) _, by simp [Value.ownBlock]⟩
    · obtain rfl : gk = 0 := by omega
      obtain rfl : k = 16 := by omega
      have HQ := Lib.hid hq
      have HL := Lib.hid hI
      clear hI hq
      go_wp2_with fail
      go_ret2
      rw [show R = (entsAt s 16, 0) from HQ.out]
      exact ⟨_, rfl, Loc.ents (by rw [entsAt_length]; exact HL.out) (entsAt_wf s 16), HL.out.below, HL.out.base⟩
set_option maxRecDepth 100000 in
set_option maxHeartbeats 3200000 in
theorem refPage_any (s : ByteArray) (hs : s.size ≤ 9223372036854775807) (w : World) :
    Calls Try.prog 12 #[.string s] w (PagePost w (pageSpec s)) := by
  have hu := Try.underlying37
  obtain ⟨R, hR⟩ : ∃ R, R = pageSpec s := ⟨_, rfl⟩
  rw [← hR]
  unfold pageSpec at hR
  by_cases h448 : s.size = 448
  case neg =>
    rw [if_neg h448] at hR
    have i1 : ((s.size : Int) != 448) = true := by simp; omega
    have HR := Lib.hid hR
    clear hR
    go_enter Try.func12, Try.ntmps12
    go_wp2_with fail
    go_ret2
    rw [HR.out]
    exact ⟨_, rfl, EntRow.nil _, Below.refl _ _, by simp [Value.ownBlock]⟩
  rw [if_pos h448] at hR
  have i1 : ((s.size : Int) != 448) = false := by simp; omega
  have HR := Lib.hid hR
  have HS := Lib.hid h448
  have i2 : ∀ k : Nat, k < 16 → 28 * k + 28 ≤ s.size := by intro k hk; omega
  have HS2 := Lib.hid i2
  clear hR h448 hs i2
  go_enter Try.func12, Try.ntmps12
  go_wp2_with fail
  go_loopg [4, 5] 16 (fun j o i wr => ∃ (k : Nat) (v : Value), j + k = 16 ∧ i = .int .i64 (k : Int) ∧ o = v ∧ R = pageFrom s j k ∧ Loc w wr 37 3 v k (ecells (entsAt s k)))
  case atStart => exact ⟨0, _, rfl, rfl, rfl, HR.out, Loc.nil (Below.refl _ _) _ _⟩
  case round =>
    clear HR
    obtain ⟨k, v, hk, rfl, rfl, hq, hI⟩ := hrel
    by_cases hlt : k < 16
    · obtain ⟨j, rfl⟩ : ∃ j, gk = j + 1 := ⟨gk - 1, by omega⟩
      have hz := HS2.out k hlt
      have hcut : s.extract (28 * k) (28 * k + 28) = cutAt s k := rfl
      have u3 : (k : Int) < 16 := by omega
      have u1 : IntKind.i64.wrap ((k : Int) * 28) = ((28 * k : Nat) : Int) := by
        rw [show (k : Int) * 28 = ((28 * k : Nat) : Int) by omega]
        exact IntWalk.i64_in _ (by omega)
      have u1' : IntKind.i64.wrap (28 * (k : Int)) = ((28 * k : Nat) : Int) := by
        rw [show 28 * (k : Int) = ((28 * k : Nat) : Int) by omega]
        exact IntWalk.i64_in _ (by omega)
      have u4 : IntKind.i64.wrap ((k : Int) + 1) = ((k + 1 : Nat) : Int) := by
        rw [show (k : Int) + 1 = ((k + 1 : Nat) : Int) by omega]
        exact IntWalk.i64_in _ (by omega)
      have u2 : IntKind.i64.wrap (((k + 1 : Nat) : Int) * 28) = ((28 * k + 28 : Nat) : Int) := by
        rw [show ((k + 1 : Nat) : Int) * 28 = ((28 * k + 28 : Nat) : Int) by omega]
        exact IntWalk.i64_in _ (by omega)
      have u2' : IntKind.i64.wrap (((28 * k : Nat) : Int) + 28) = ((28 * k + 28 : Nat) : Int) := by
        rw [show ((28 * k : Nat) : Int) + 28 = ((28 * k + 28 : Nat) : Int) by omega]
        exact IntWalk.i64_in _ (by omega)
      have hk16 : k ≤ 16 := by omega
      have hkj : j + (k + 1) = 16 := by omega
      have HKJ := Lib.hid hkj
      have HC := Lib.hid (fun W => refEntryOf_any (cutAt s k) (by unfold cutAt; rw [ByteArray.size_extract]; omega) W)
      rw [pageFrom] at hq
      obtain ⟨f, hf⟩ : ∃ f, f = entAt s k := ⟨_, rfl⟩
      obtain ⟨er, her⟩ : ∃ e, e = errAt s k := ⟨_, rfl⟩
      have hcc : ∀ W, Calls Try.prog 26 #[.string (cutAt s k)] W fun e w' => e = .returned (.tuple #[.agg #[.string f.nm, .int .i64 f.a, .int .i64 f.b], .int .i64 er]) ∧ Below W.heap.size W w' := by
        rw [hf, her]
        exact HC.out
      have HC2 := Lib.hid hcc
      rw [← her] at hq
      have HF := Lib.hid hf
      have HQ := Lib.hid hq
      have hor := hI.row
      obtain ⟨ao2, cap2, rfl, hc2⟩ := hor.form
      have HFC := Lib.hid hI
      clear hI hf her hq HC hor hk hkj hlt hcc
      go_wp2_with fail
      refine (HC2.out _).mono ?_
      rintro e W1 ⟨rfl, hb1⟩
      have HB1 := Lib.hid hb1
      clear hb1 HC2
      have hq := HQ.out
      clear HQ
      by_cases her : er = 0
      · subst her
        rw [if_pos rfl] at hq
        have HQ := Lib.hid hq
        obtain ⟨i0, hi, hz0, hz1, hz2⟩ := info_parts infoEntry
        have HII := Lib.hid hi
        have HZ0 := Lib.hid hz0
        have HZ1 := Lib.hid hz1
        have HZ2 := Lib.hid hz2
        have hL1 := HFC.out.step HB1.out
        have HROW := Lib.hid hL1.row
        clear hi hz0 hz1 hz2 hL1 hq
        go_wp2_with (refine wpList_append_row _ (by rfl) _ _ _ _ (by rfl) 37 i0 (.agg #[.string ⟨#[]⟩, .int .i64 0, .int .i64 0]) 3 32 Try.underlying22 HII.out HZ0.out HZ1.out HZ2.out rfl (by omega) _ k _ (by rfl) ((HROW.out.alloc _).alloc _) _ (by rfl) 1 [.string f.nm, .int .i64 f.a, .int .i64 f.b] (Feeds.slice Try.underlying22 ⟨W1.heap.size + 1, 0, none⟩ 1 1 _ (by rfl) (by simp [Value.oneCell']) (World.news_of_block (cs := #[.string f.nm, .int .i64 f.a, .int .i64 f.b]) (t := 37) (fr := (0, 0)) (get_top (by simp)))) (by unfold maxLen; omega) (by omega) (W1.heap.size + 2) (by simp) ?_; intro ao5 cap5 w5 hown5 hgrow5 hat5; have HO5 := Lib.hid hown5; have HG5 := Lib.hid hgrow5; have HA5 := Lib.hid hat5; clear hown5 hgrow5 hat5)
        go_roundg j
        case measure => omega
        case rel => exact ⟨k + 1, _, HKJ.out, by go_num, rfl, HQ.out, by
          have hap := Loc.app (HFC.out.step HB1.out) (((Below.refl _ W1).alloc (Nat.le_refl _) _).alloc (by simp) _) HO5.out HG5.out HA5.out (by omega)
          rw [entsAt_succ, ecells_append, ← HF.out]
          exact hap⟩
      · rw [if_neg her] at hq
        have HQ := Lib.hid hq
        clear hq
        go_wp2_with fail
        go_ret2
        rw [HQ.out]
        exact ⟨_, rfl, EntRow.nil _, (HFC.out.below.trans (HB1.out.mono HFC.out.below.size)).alloc (by have := HFC.out.below.size; have := HB1.out.size; omega) _, by simp [Value.ownBlock]⟩
    · obtain rfl : gk = 0 := by omega
      obtain rfl : k = 16 := by omega
      have HQ := Lib.hid hq
      have HL := Lib.hid hI
      clear hI hq
      go_wp2_with fail
      go_ret2
      rw [show R = (entsAt s 16, 0) from HQ.out]
      exact ⟨_, rfl, Loc.ents (by rw [entsAt_length]; exact HL.out) (entsAt_wf s 16), HL.out.below, HL.out.base⟩
end Go.Proofs.Ytdamlbkibhmepaa.B
