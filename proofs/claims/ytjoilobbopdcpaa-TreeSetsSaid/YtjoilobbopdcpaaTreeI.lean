/-
  The laws' some, walked.
-/
import Derived.Test.YtjoilobbopdcpaaTreeH
namespace Go.Proofs.Ytjoilobbopdcpaa.B
open Go.RowKit
set_option linter.unusedVariables false
set_option linter.unusedSimpArgs false

def cut64 (s : ByteArray) : ByteArray := if 64 < s.size then s.extract 0 64 else s
def someL (l : List ByteArray) (n : Nat) : List ByteArray := (l.take n).map cut64
theorem cut64_size (s : ByteArray) : (cut64 s).size ≤ 64 := by
  unfold cut64
  split
  · rw [ByteArray.size_extract]; omega
  · omega
theorem someL_len (l : List ByteArray) (n : Nat) : (someL l n).length = min n l.length := by simp [someL]
theorem someL_size {l : List ByteArray} {n : Nat} : ∀ s ∈ someL l n, s.size ≤ 64 := by
  intro s hs
  simp only [someL, List.mem_map] at hs
  obtain ⟨x, _, rfl⟩ := hs
  exact cut64_size x
theorem someL_take {l : List ByteArray} {n q : Nat} (hq : q < (someL l n).length) {hl : q < l.length} : (someL l n).take (q + 1) = (someL l n).take q ++ [cut64 l[q]] := by
  rw [List.take_add_one, List.getElem?_eq_getElem hq]
  simp [someL]
theorem Strs.of_strRow {w : World} {v : Value} {l : List ByteArray} (h : F.StrRow w v l) : Strs w v l := by
  obtain ⟨ao, cap, rfl, h1, h2, _, h3⟩ := h
  refine ⟨ao, cap, rfl, h1, h2, fun h0 => ?_⟩
  obtain ⟨_, g, o, rfl, hg, _⟩ := h3 0 _ (List.getElem?_eq_getElem h0)
  refine ⟨g, o, rfl, hg, fun i s hs => ?_⟩
  obtain ⟨_, g', o', e, _, hc⟩ := h3 i s hs
  cases e
  exact hc
set_option maxRecDepth 100000 in
set_option maxHeartbeats 1600000 in
theorem some_any (n : Nat) (hn : n ≤ 1000) (v : Value) (l : List ByteArray) (w : World) (hv : Strs w v l) :
    Calls Try.prog 12 #[v, .int .i64 n] w fun e w' => ∃ v', e = .returned v' ∧ Loc w w' 9 1 v' (someL l n).length (strs (someL l n)) := by
  obtain ⟨ao, cap, rfl, hcap, hmax⟩ := hv.form
  obtain ⟨m, hm⟩ : ∃ m, m = l.length := ⟨_, rfl⟩
  obtain ⟨M, hM⟩ : ∃ M, M = (someL l n).length := ⟨_, rfl⟩
  have hMm : M = min n m := by rw [hM, hm, someL_len]
  have hMn : M ≤ n := by omega
  have hMl : M ≤ m := by omega
  have hMe : M = n ∨ M = m := by omega
  rw [← hM, ← hm]
  rw [← hm] at hcap hmax hv
  have HI0 := Lib.hid (show Loc w w 9 1 (.slice none 0 0) 0 (strs ((someL l n).take 0)) from Loc.nil (Below.refl _ _) _ _)
  have HV := Lib.hid hv
  have HM := Lib.hid hM
  have HL := Lib.hid hm
  have HE := Lib.hid hMe
  have hm63 : m ≤ 9223372036854775807 := by unfold maxLen at hmax; omega
  clear hv hM hm hMm hMe hmax
  go_enter Try.func12, Try.ntmps12
  go_wp2_with fail
  go_loopg [5, 6] M (fun j b i wr => ∃ (q : Nat) (v : Value), j + q = M ∧ i = .int .i64 (q : Int) ∧ b = v ∧ Loc w wr 9 1 v q (strs ((someL l n).take q)))
  case atStart => exact ⟨0, _, by omega, rfl, rfl, HI0.out⟩
  case round =>
    clear HI0
    obtain ⟨q, v, hk, rfl, hbv, hI⟩ := hrel
    have hbv := hbv.symm
    subst hbv
    by_cases hlt : q < M
    · obtain ⟨j, rfl⟩ : ∃ j, gk = j + 1 := ⟨gk - 1, by omega⟩
      have hlen : q < l.length := by rw [← HL.out]; omega
      obtain ⟨gl, oo, rfl, hg, x0⟩ := (HV.out.below hI.below).get (i := q) hlen
      obtain ⟨f, hf⟩ : ∃ f, f = l[q] := ⟨_, rfl⟩
      rw [← hf] at x0
      have hcut := someL_take (n := n) (by rw [← HM.out]; exact hlt) (hl := hlen)
      rw [← hf] at hcut
      have HC := Lib.hid hcut
      have u2 : (0 : Int) ≤ (q : Int) := by omega
      have u3 : (q : Int) < (m : Int) := by omega
      have u4 : (q : Int) < (n : Int) := by omega
      have hkj : j + (q + 1) = M := by omega
      have HKJ := Lib.hid hkj
      obtain ⟨ao2, cap2, rfl, hc2⟩ := hI.row.form
      have HFC := Lib.hid hI
      obtain ⟨i0, hi, hz0, hz1, hz2⟩ := info_parts infoStr
      have HII := Lib.hid hi
      have HZ0 := Lib.hid hz0
      have HZ1 := Lib.hid hz1
      have HZ2 := Lib.hid hz2
      have hq1000 : q ≤ 1000 := by omega
      clear hI hk hlt hkj hf hi hz0 hz1 hz2 hcut hlen
      by_cases hbig : 64 < f.size
      · have z1 : (64 : Int) < (f.size : Int) := by omega
        obtain ⟨r, hr⟩ : ∃ r, r = f.extract 0 64 := ⟨_, rfl⟩
        have hr2 : cut64 f = r := by rw [cut64, if_pos hbig, hr]
        have HR := Lib.hid hr2
        go_wp2_with (refine wpList_append_row _ (by rfl) _ _ _ _ (by rfl) 9 i0 (.string ⟨#[]⟩) 1 16 Try.underlying22 HII.out HZ0.out HZ1.out HZ2.out rfl (by omega) _ q _ (by rfl) (HFC.out.row.alloc _) _ (by rfl) 1 [.string (f.extract 0 64)] (Feeds.slice Try.underlying22 ⟨wr.heap.size, 0, none⟩ 1 1 _ (by rfl) (by simp [Value.oneCell']) (World.news_of_block (cs := #[.string (f.extract 0 64)]) (t := 9) (fr := (0, 0)) (get_top rfl))) (by unfold maxLen; omega) (by omega) (wr.heap.size + 1) (by simp) ?_; intro ao5 cap5 w5 hown5 hgrow5 hat5; have HL5 := Lib.hid (Loc.app HFC.out ((Below.refl _ wr).alloc (Nat.le_refl _) _) hown5 hgrow5 hat5 (by omega)); clear hown5 hgrow5 hat5)
        go_roundg j
        case measure => omega
        case rel => exact ⟨q + 1, _, HKJ.out, by go_num, rfl, by rw [HC.out, strs_app, HR.out, hr]; exact HL5.out⟩
      · have z1 : ¬ (64 : Int) < (f.size : Int) := by omega
        have HR := Lib.hid (show cut64 f = f by rw [cut64, if_neg hbig])
        go_wp2_with (refine wpList_append_row _ (by rfl) _ _ _ _ (by rfl) 9 i0 (.string ⟨#[]⟩) 1 16 Try.underlying22 HII.out HZ0.out HZ1.out HZ2.out rfl (by omega) _ q _ (by rfl) (HFC.out.row.alloc _) _ (by rfl) 1 [.string (f)] (Feeds.slice Try.underlying22 ⟨wr.heap.size, 0, none⟩ 1 1 _ (by rfl) (by simp [Value.oneCell']) (World.news_of_block (cs := #[.string (f)]) (t := 9) (fr := (0, 0)) (get_top rfl))) (by unfold maxLen; omega) (by omega) (wr.heap.size + 1) (by simp) ?_; intro ao5 cap5 w5 hown5 hgrow5 hat5; have HL5 := Lib.hid (Loc.app HFC.out ((Below.refl _ wr).alloc (Nat.le_refl _) _) hown5 hgrow5 hat5 (by omega)); clear hown5 hgrow5 hat5)
        go_roundg j
        case measure => omega
        case rel => exact ⟨q + 1, _, HKJ.out, by go_num, rfl, by rw [HC.out, strs_app, HR.out]; exact HL5.out⟩
    · obtain rfl : gk = 0 := by omega
      obtain rfl : q = M := by omega
      have hte : (someL l n).take q = someL l n := List.take_of_length_le (by rw [← HM.out]; exact Nat.le_refl _)
      rw [hte] at hI
      have HI := Lib.hid hI
      have he := HE.out
      clear hI hte hk hlt
      by_cases hqm : q < m
      · have u3 : (q : Int) < (m : Int) := by omega
        have u4 : ¬ (q : Int) < (n : Int) := by omega
        clear he
        go_wp2_with fail
        go_ret
        exact ⟨_, rfl, HI.out⟩
      · have u3 : ¬ (q : Int) < (m : Int) := by omega
        clear he
        go_wp2_with fail
        go_ret
        exact ⟨_, rfl, HI.out⟩
end Go.Proofs.Ytjoilobbopdcpaa.B
