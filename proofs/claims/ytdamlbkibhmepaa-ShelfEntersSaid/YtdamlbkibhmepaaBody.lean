/-
  shelf.Body and the document's, walked.
-/
import Derived.Test.YtdamlbkibhmepaaPage
namespace Go.Proofs.Ytdamlbkibhmepaa.B
open Go.RowKit
set_option linter.unusedVariables false
set_option linter.unusedSimpArgs false

theorem bytesOf_app (a b : ByteArray) : bytesOf (a ++ b) = bytesOf a ++ bytesOf b := by simp [bytesOf]
def entryB (x : Ent) : ByteArray × Int := entrySpec x.nm x.a x.b
def bodyFrom : List Ent → ByteArray → ByteArray × Int
  | [], s => (s, 0)
  | x :: r, s => if (entryB x).2 = 0 then bodyFrom r (s ++ (entryB x).1) else (⟨#[]⟩, (entryB x).2)
/-- Slots as a directory's block: the bytes, the state. -/
def bodySpec (l : List Ent) : ByteArray × Int := if l.length = 16 then bodyFrom l ⟨#[]⟩ else (⟨#[]⟩, 1)
theorem entryB_size {x : Ent} (h : (entryB x).2 = 0) : (entryB x).1.size = 28 := by
  unfold entryB entrySpec at h ⊢
  split at h
  · cases h
  · rename_i h1
    rw [if_neg h1]
    split at h
    · cases h
    · rename_i h2
      rw [if_neg h2]
      split at h
      · rename_i h3
        rw [if_pos h3]
        simp only [strOfNums_size, entryXs, List.length_append, List.length_cons, List.length_nil, bytesOf_length, List.length_replicate, lay_length, entryFs, List.map_cons, List.map_nil, List.sum_cons, List.sum_nil]
        omega
      · cases h
structure BodI (w : World) (v : Value) (l : List Ent) (g : Nat) (s : ByteArray) (W : World) : Prop where
  bel : Below w.heap.size w W
  row : EntRow w v l
  ge : w.heap.size ≤ g
  bld : Bld W g (bytesOf s)
structure BodJ (w : World) (v : Value) (l : List Ent) (W : World) : Prop where
  bel : Below w.heap.size w W
  row : EntRow W v l

set_option maxRecDepth 100000 in
set_option maxHeartbeats 3200000 in
theorem Body_any (v : Value) (l : List Ent) (w : World) (h : EntRow w v l) :
    Calls Try.prog 15 #[v] w fun e w' => e = .returned (.tuple #[.string (bodySpec l).1, .int .i64 (bodySpec l).2]) ∧ Below w.heap.size w w' := by
  obtain ⟨ao, cap, rfl, hcap, hmax⟩ := h.form
  have hu := Try.underlying37
  obtain ⟨R, hR⟩ : ∃ R, R = bodySpec l := ⟨_, rfl⟩
  rw [← hR]
  unfold bodySpec at hR
  have HW := Lib.hid h.all
  obtain ⟨n, hnl⟩ : ∃ n, n = l.length := ⟨_, rfl⟩
  rw [← hnl] at hcap hR h
  rw [← hnl]
  have hn9 : (n : Int) ≤ 9223372036854775807 := by unfold maxLen at hmax; omega
  have HN := Lib.hid hnl
  by_cases h16 : n = 16
  case neg =>
    rw [if_neg h16] at hR
    have i1 : ((n : Int) != 16) = true := by simp; omega
    have HR := Lib.hid hR
    clear hR hnl h hmax
    go_enter Try.func15, Try.ntmps15
    go_wp2_with fail
    go_ret2
    rw [HR.out]
    exact ⟨rfl, Below.refl _ _⟩
  rw [if_pos h16] at hR
  have i1 : ((n : Int) != 16) = false := by simp; omega
  have HR := Lib.hid hR
  have H16 := Lib.hid h16
  have H := Lib.hid h
  clear hR hnl h hmax h16
  go_enter Try.func15, Try.ntmps15
  go_wp2_with fail
  have HI := Lib.hid (show BodI w (.slice ao n cap) l w.heap.size ⟨#[]⟩ (w.alloc (.cells #[.pointer none, .slice none 0 0] 46 (0, 0))) from ⟨(Below.refl _ w).alloc (Nat.le_refl _) _, H.out, Nat.le_refl _, Bld.new w⟩)
  generalize (w.alloc (.cells #[.pointer none, .slice none 0 0] 46 (0, 0))) = W0 at HI ⊢
  obtain ⟨gb, hgb⟩ : ∃ g, g = w.heap.size := ⟨_, rfl⟩
  have hI0 := HI.out
  rw [← hgb] at hI0 ⊢
  have HI0 := Lib.hid hI0
  clear hI0 hgb HI H
  go_loopg [14] n (fun j i wr => ∃ (k : Nat) (s2 : ByteArray), j + k = n ∧ i = .int .i64 (k : Int) ∧ R = bodyFrom (l.drop k) s2 ∧ s2.size = 28 * k ∧ BodI w (.slice ao n cap) l gb s2 wr)
  case atStart => exact ⟨0, ⟨#[]⟩, rfl, rfl, HR.out, rfl, HI0.out⟩
  case round =>
    clear HI0 HR
    obtain ⟨k, s2, hk, rfl, hq, hs2, hI⟩ := hrel
    by_cases hlt : k < n
    · obtain ⟨j, rfl⟩ : ∃ j, gk = j + 1 := ⟨gk - 1, by omega⟩
      have hlen : k < l.length := by rw [← HN.out]; exact hlt
      obtain ⟨g, oo, rfl, hg, hwf, hc⟩ := (hI.row.below hI.bel).get (i := k) hlen
      have e1 := hc k hlen
      have hgd : l.getD k .zero = l[k] := by simp [List.getD, hlen]
      rw [hgd] at e1 hwf
      rw [List.drop_eq_getElem_cons hlen, bodyFrom] at hq
      obtain ⟨f, hf⟩ : ∃ f, f = l[k] := ⟨_, rfl⟩
      rw [← hf] at e1 hwf hq
      have x0 : wr.cell? ⟨g, oo + k * 3, none⟩ = some (.string f.nm) := e1 0 _ rfl
      have x1 : wr.cell? ⟨g, oo + k * 3 + 1, none⟩ = some (.int .i64 f.a) := e1 1 _ rfl
      have x2 : wr.cell? ⟨g, oo + k * 3 + 2, none⟩ = some (.int .i64 f.b) := e1 2 _ rfl
      have u2 : (0 : Int) ≤ (k : Int) := by omega
      have u3 : (k : Int) < (n : Int) := by omega
      have hkj : j + (k + 1) = n := by omega
      have HKJ := Lib.hid hkj
      have hC : ∀ W, Calls Try.prog 27 #[.agg #[.string f.nm, .int .i64 f.a, .int .i64 f.b]] W fun e w' => e = .returned (.tuple #[.string (entryB f).1, .int .i64 (entryB f).2]) ∧ Below W.heap.size W w' := fun W => Entry_any f.nm f.a f.b hwf.2.1.1 hwf.2.1.2 hwf.2.2.1 hwf.2.2.2 W
      have hsz := fun h => entryB_size (x := f) h
      obtain ⟨⟨sx, st⟩, hE⟩ : ∃ q, q = entryB f := ⟨_, rfl⟩
      rw [← hE] at hC hsz hq
      simp only at hC hsz hq
      have HC := Lib.hid hC
      have HSZ := Lib.hid hsz
      have HQ := Lib.hid hq
      have HI := Lib.hid hI
      have HS2 := Lib.hid hs2
      have hk16 : k ≤ 16 := by have := H16.out; omega
      clear hI e1 hc hf hk hkj hlt hgd hq hC hsz hE hwf hs2
      go_wp2_with fail
      refine (HC.out _).mono ?_
      rintro e W1 ⟨rfl, hb1⟩
      have hb01 : Below wr.heap.size wr W1 := ((Below.refl _ wr).alloc (Nat.le_refl _) _).trans (hb1.mono (by simp))
      have hI1 : BodI w (.slice (some ⟨g, oo, none⟩) n cap) l gb s2 W1 := ⟨HI.out.bel.trans (hb01.mono HI.out.bel.size), HI.out.row, HI.out.ge, HI.out.bld.below hb01⟩
      have HI1 := Lib.hid hI1
      have hq := HQ.out
      clear hb1 hb01 hI1 HI HC HQ
      by_cases hst : st = 0
      · subst hst
        rw [if_pos rfl] at hq
        have HQ := Lib.hid hq
        have hs28 := HSZ.out rfl
        have HS28 := Lib.hid hs28
        clear hq hs28 HSZ
        go_wp2_with fail
        refine (writeString_any gb sx (bytesOf s2) _ HI1.out.bld (by rw [bytesOf_length, HS28.out, HS2.out]; omega)).mono ?_
        rintro e W2 ⟨rfl, hb2, hf2⟩
        rw [← bytesOf_app] at hb2
        have HI2 := Lib.hid (show BodI w (.slice (some ⟨g, oo, none⟩) n cap) l gb (s2 ++ sx) W2 from ⟨HI1.out.bel.trans (hf2.bel.mono HI1.out.ge), HI1.out.row, HI1.out.ge, hb2⟩)
        have HS3 := Lib.hid (show (s2 ++ sx).size = 28 * (k + 1) by rw [ByteArray.size_append, HS28.out, HS2.out]; omega)
        clear hb2 hf2 HI1 HS28 HS2
        go_wp2_with fail
        go_roundg j
        case measure => omega
        case rel => exact ⟨k + 1, _, HKJ.out, by go_num, HQ.out, HS3.out, HI2.out⟩
      · rw [if_neg hst] at hq
        have HQ := Lib.hid hq
        clear hq HSZ
        go_wp2_with fail
        go_ret2
        rw [HQ.out]
        exact ⟨rfl, HI1.out.bel⟩
    · obtain rfl : gk = 0 := by omega
      obtain rfl : k = n := by omega
      rw [List.drop_of_length_le (by rw [← HN.out]; exact Nat.le_refl _)] at hq
      have HQ := Lib.hid hq
      have HI := Lib.hid hI
      have HP := Lib.hid (show 0 < s2.size by have := H16.out; omega)
      clear hI hq hs2
      go_wp2_with fail
      refine (builder_string gb s2 wr HI.out.bld HP.out).mono ?_
      rintro e W1 ⟨rfl, hb1⟩
      have HB1 := Lib.hid (HI.out.bel.trans (hb1.mono HI.out.ge))
      clear hb1 HI
      go_wp2_with fail
      go_ret2
      rw [HQ.out]
      exact ⟨rfl, HB1.out⟩
set_option maxRecDepth 100000 in
set_option maxHeartbeats 3200000 in
theorem refBody_any (v : Value) (l : List Ent) (w : World) (h : EntRow w v l) :
    Calls Try.prog 16 #[v] w fun e w' => e = .returned (.tuple #[.string (bodySpec l).1, .int .i64 (bodySpec l).2]) ∧ Below w.heap.size w w' := by
  obtain ⟨ao, cap, rfl, hcap, hmax⟩ := h.form
  have hu := Try.underlying37
  obtain ⟨R, hR⟩ : ∃ R, R = bodySpec l := ⟨_, rfl⟩
  rw [← hR]
  unfold bodySpec at hR
  obtain ⟨n, hnl⟩ : ∃ n, n = l.length := ⟨_, rfl⟩
  rw [← hnl] at hcap hR h
  rw [← hnl]
  have hn9 : (n : Int) ≤ 9223372036854775807 := by unfold maxLen at hmax; omega
  have HN := Lib.hid hnl
  by_cases h16 : n = 16
  case neg =>
    rw [if_neg h16] at hR
    have i1 : ((n : Int) != 16) = true := by simp; omega
    have HR := Lib.hid hR
    clear hR hnl h hmax
    go_enter Try.func16, Try.ntmps16
    go_wp2_with fail
    go_ret2
    rw [HR.out]
    exact ⟨rfl, Below.refl _ _⟩
  rw [if_pos h16] at hR
  have i1 : ((n : Int) != 16) = false := by simp; omega
  have HR := Lib.hid hR
  have H16 := Lib.hid h16
  have HI0 := Lib.hid (show BodJ w (.slice ao n cap) l w from ⟨Below.refl _ _, h⟩)
  clear hR hnl h hmax h16
  go_enter Try.func16, Try.ntmps16
  go_wp2_with fail
  go_loopg [4, 5] 16 (fun j o i wr => ∃ (k : Nat) (s2 : ByteArray), j + k = 16 ∧ i = .int .i64 (k : Int) ∧ o = .string s2 ∧ R = bodyFrom (l.drop k) s2 ∧ s2.size = 28 * k ∧ BodJ w (.slice ao n cap) l wr)
  case atStart => exact ⟨0, ⟨#[]⟩, rfl, rfl, rfl, HR.out, rfl, HI0.out⟩
  case round =>
    clear HI0 HR
    obtain ⟨k, s2, hk, rfl, rfl, hq, hs2, hI⟩ := hrel
    by_cases hlt : k < 16
    · obtain ⟨j, rfl⟩ : ∃ j, gk = j + 1 := ⟨gk - 1, by omega⟩
      have hkn : k < n := by rw [H16.out]; exact hlt
      have hlen : k < l.length := by rw [← HN.out]; exact hkn
      obtain ⟨g, oo, rfl, hg, hwf, hc⟩ := hI.row.get (i := k) hlen
      have e1 := hc k hlen
      have hgd : l.getD k .zero = l[k] := by simp [List.getD, hlen]
      rw [hgd] at e1 hwf
      rw [List.drop_eq_getElem_cons hlen, bodyFrom] at hq
      obtain ⟨f, hf⟩ : ∃ f, f = l[k] := ⟨_, rfl⟩
      rw [← hf] at e1 hwf hq
      have x0 : wr.cell? ⟨g, oo + k * 3, none⟩ = some (.string f.nm) := e1 0 _ rfl
      have x1 : wr.cell? ⟨g, oo + k * 3 + 1, none⟩ = some (.int .i64 f.a) := e1 1 _ rfl
      have x2 : wr.cell? ⟨g, oo + k * 3 + 2, none⟩ = some (.int .i64 f.b) := e1 2 _ rfl
      have u2 : (0 : Int) ≤ (k : Int) := by omega
      have u3 : (k : Int) < (n : Int) := by omega
      have u5 : (k : Int) < 16 := by omega
      have hkj : j + (k + 1) = 16 := by omega
      have HKJ := Lib.hid hkj
      have hC : ∀ W, Calls Try.prog 30 #[.agg #[.string f.nm, .int .i64 f.a, .int .i64 f.b]] W fun e w' => e = .returned (.tuple #[.string (entryB f).1, .int .i64 (entryB f).2]) ∧ Below W.heap.size W w' := fun W => refEntry_any f.nm f.a f.b (by
        intro x hx
        simp at hx
        rcases hx with rfl | rfl
        · exact hwf.2.1
        · exact hwf.2.2) W
      have hsz := fun h => entryB_size (x := f) h
      obtain ⟨⟨sx, st⟩, hE⟩ : ∃ q, q = entryB f := ⟨_, rfl⟩
      rw [← hE] at hC hsz hq
      simp only at hC hsz hq
      have HC := Lib.hid hC
      have HSZ := Lib.hid hsz
      have HQ := Lib.hid hq
      have HI := Lib.hid hI
      have HS2 := Lib.hid hs2
      have hk16 : k ≤ 16 := by omega
      clear hI e1 hc hf hk hkj hlt hgd hq hC hsz hE hwf hs2 hkn
      go_wp2_with fail
      refine (HC.out _).mono ?_
      rintro e W1 ⟨rfl, hb1⟩
      have HI1 := Lib.hid (show BodJ w (.slice (some ⟨g, oo, none⟩) n cap) l W1 from ⟨HI.out.bel.trans (hb1.mono HI.out.bel.size), HI.out.row.below hb1⟩)
      have hq := HQ.out
      clear hb1 HI HC HQ
      by_cases hst : st = 0
      · subst hst
        rw [if_pos rfl] at hq
        have HQ := Lib.hid hq
        have hs28 := HSZ.out rfl
        have hov : ¬ 9223372036854775807 < s2.size + sx.size := by rw [hs28, HS2.out]; omega
        have HS3 := Lib.hid (show (s2 ++ sx).size = 28 * (k + 1) by rw [ByteArray.size_append, hs28, HS2.out]; omega)
        clear hq hs28 HSZ HS2
        go_wp2_with fail
        go_roundg j
        case measure => omega
        case rel => exact ⟨k + 1, _, HKJ.out, by go_num, rfl, HQ.out, HS3.out, HI1.out⟩
      · rw [if_neg hst] at hq
        have HQ := Lib.hid hq
        clear hq HSZ
        go_wp2_with fail
        go_ret2
        rw [HQ.out]
        exact ⟨rfl, HI1.out.bel⟩
    · obtain rfl : gk = 0 := by omega
      obtain rfl : k = 16 := by omega
      rw [List.drop_of_length_le (by rw [← HN.out, H16.out]; exact Nat.le_refl _)] at hq
      have HQ := Lib.hid hq
      have HI := Lib.hid hI
      clear hI hq hs2
      go_wp2_with fail
      go_ret2
      rw [HQ.out]
      exact ⟨rfl, HI.out.bel⟩
end Go.Proofs.Ytdamlbkibhmepaa.B
