/-
  ShelfRights.
-/
import Derived.Test.YtdamlbkibhmepaaShelfAwake
import Derived.Test.YtdamlbkibhmepaaRefRight
namespace Go.Proofs.Ytdamlbkibhmepaa.B
open Go.RowKit
set_option linter.unusedVariables false
set_option linter.unusedSimpArgs false

structure BoolI (w : World) (v1 v2 : Value) (n : Nat) (xs : List Value) (W : World) : Prop where
  bel : Below w.heap.size w W
  r1 : Row W 4 1 v1 n xs
  r2 : Row W 4 1 v2 n xs
set_option maxRecDepth 100000 in
theorem shelfRights_walk (v : Value) (l : List Ent) (w : World) (h : EntRow w v l) :
    Calls Try.prog 9 #[v] w fun e w' => e = .returned (.bool true) ∧ Below w.heap.size w w' := by
  obtain ⟨ao, cap, rfl, hcap, hmax⟩ := h.form
  obtain ⟨m, hm⟩ : ∃ m, m = if 300 < l.length then l.take 300 else l := ⟨_, rfl⟩
  have hml : m.length ≤ 300 := by
    rw [hm]; split
    · simp; omega
    · omega
  have hlm : (l.length : Int) ≤ 9223372036854775807 := by unfold maxLen at hmax; omega

  by_cases hbig : 300 < l.length
  · have i1 : (300 : Int) < (l.length : Int) := by omega
    have i3 : (300 : Int) ≤ (cap : Int) := by omega
    rw [if_pos hbig] at hm
    have hmn : m.length = 300 := by rw [hm]; simp; omega
    have H := Lib.hid (show EntRow w (.slice ao 300 cap) m by
      have := h.take (n := 300) (by omega)
      rwa [← hm] at this)
    clear h hm hmax hcap hbig
    go_enter Try.func9, Try.ntmps9
    go_wp2_with fail
    refine (Right_any _ m w H.out (by omega)).mono ?_
    rintro e W1 ⟨v1, rfl, hL1⟩
    obtain ⟨ao1, cap1, rfl, hc1⟩ := hL1.row.form
    have HL1 := Lib.hid hL1
    clear hL1
    go_wp2_with fail
    refine (refRight_any _ m W1 (H.out.below HL1.out.below) (by omega)).mono ?_
    rintro e W2 ⟨v2, rfl, hL2⟩
    obtain ⟨ao2, cap2, rfl, hc2⟩ := hL2.row.form
    have HI0 := Lib.hid (show BoolI w (.slice ao1 m.length cap1) (.slice ao2 m.length cap2) m.length (bools (rights m m.length)) W2 from ⟨HL1.out.below.trans (hL2.below.mono HL1.out.below.size), HL1.out.row.kept (S := fun _ => False) (Keeps.of_below hL2.below) (fun _ _ h => h), hL2.row⟩)
    clear hL2 HL1
    obtain ⟨q, hq⟩ : ∃ q, q = m.length := ⟨_, rfl⟩
    obtain ⟨bs, hbs⟩ : ∃ b, b = rights m m.length := ⟨_, rfl⟩
    have hbl : bs.length = q := by rw [hbs, rights_length, hq]
    rw [← hbs, ← hq] at HI0
    rw [← hq] at hc1 hc2 hml
    have HBL := Lib.hid hbl
    clear hbl hbs
    try rw [← hq]
    try rw [← hq] at hmn
    clear hq
    go_wp2_with fail
    go_loopg [5] q (fun j i wr => ∃ k : Nat, j + k = q ∧ i = .int .i64 (k : Int) ∧ BoolI w (.slice ao1 q cap1) (.slice ao2 q cap2) q (bools bs) wr)
    case atStart => exact ⟨0, by omega, rfl, HI0.out⟩
    case round =>
      clear HI0
      obtain ⟨k, hk, rfl, hI⟩ := hrel
      by_cases hlt : k < q
      · obtain ⟨j, rfl⟩ : ∃ j, gk = j + 1 := ⟨gk - 1, by omega⟩
        have hkb : k < bs.length := by rw [HBL.out]; exact hlt
        have hu : (bools bs)[k]? = some (.bool bs[k]) := by simp [bools, hkb]
        obtain ⟨g1, cp1, he1, _, _⟩ := hI.r1.form_pos (by omega)
        obtain ⟨g2, cp2, he2, _, _⟩ := hI.r2.form_pos (by omega)
        simp at he1 he2
        obtain ⟨rfl, rfl⟩ := he1
        obtain ⟨rfl, rfl⟩ := he2
        have x0 := hI.r1.cells k _ hu
        have y0 := hI.r2.cells k _ hu
        obtain ⟨bb, hbb⟩ : ∃ b, b = bs[k] := ⟨_, rfl⟩
        rw [← hbb] at x0 y0
        have u2 : (0 : Int) ≤ (k : Int) := by omega
        have u3 : (k : Int) < (q : Int) := by omega
        have hkj : j + (k + 1) = q := by omega
        have HKJ := Lib.hid hkj
        have HI := Lib.hid hI
        clear hI hk hlt hkj hbb hu hkb
        go_wp2_with fail
        go_quiet (fail)
        go_wp2_with fail
        go_roundg j
        case measure => omega
        case rel => exact ⟨k + 1, HKJ.out, by go_num, ⟨bdrewN HI.out.bel _, HI.out.r1, HI.out.r2⟩⟩
      · have HB := Lib.hid hI.bel
        obtain rfl : gk = 0 := by omega
        obtain rfl : k = q := by omega
        clear hI
        go_wp2_with fail
        refine (shelfAwake_any _).mono ?_
        rintro e W9 ⟨rfl, hb9⟩
        have HB9 := Lib.hid (HB.out.trans (hb9.mono HB.out.size))
        clear hb9 HB
        go_wp2_with fail
        go_ret
        exact ⟨rfl, HB9.out⟩
  · have i1 : ¬ (300 : Int) < (l.length : Int) := by omega
    rw [if_neg hbig] at hm
    subst hm
    have H := Lib.hid h
    clear h hmax hcap hbig
    go_enter Try.func9, Try.ntmps9
    go_wp2_with fail
    refine (Right_any _ m w H.out (by omega)).mono ?_
    rintro e W1 ⟨v1, rfl, hL1⟩
    obtain ⟨ao1, cap1, rfl, hc1⟩ := hL1.row.form
    have HL1 := Lib.hid hL1
    clear hL1
    go_wp2_with fail
    refine (refRight_any _ m W1 (H.out.below HL1.out.below) (by omega)).mono ?_
    rintro e W2 ⟨v2, rfl, hL2⟩
    obtain ⟨ao2, cap2, rfl, hc2⟩ := hL2.row.form
    have HI0 := Lib.hid (show BoolI w (.slice ao1 m.length cap1) (.slice ao2 m.length cap2) m.length (bools (rights m m.length)) W2 from ⟨HL1.out.below.trans (hL2.below.mono HL1.out.below.size), HL1.out.row.kept (S := fun _ => False) (Keeps.of_below hL2.below) (fun _ _ h => h), hL2.row⟩)
    clear hL2 HL1
    obtain ⟨q, hq⟩ : ∃ q, q = m.length := ⟨_, rfl⟩
    obtain ⟨bs, hbs⟩ : ∃ b, b = rights m m.length := ⟨_, rfl⟩
    have hbl : bs.length = q := by rw [hbs, rights_length, hq]
    rw [← hbs, ← hq] at HI0
    rw [← hq] at hc1 hc2 hml
    have HBL := Lib.hid hbl
    clear hbl hbs
    try rw [← hq]
    try rw [← hq] at hmn
    clear hq
    go_wp2_with fail
    go_loopg [5] q (fun j i wr => ∃ k : Nat, j + k = q ∧ i = .int .i64 (k : Int) ∧ BoolI w (.slice ao1 q cap1) (.slice ao2 q cap2) q (bools bs) wr)
    case atStart => exact ⟨0, by omega, rfl, HI0.out⟩
    case round =>
      clear HI0
      obtain ⟨k, hk, rfl, hI⟩ := hrel
      by_cases hlt : k < q
      · obtain ⟨j, rfl⟩ : ∃ j, gk = j + 1 := ⟨gk - 1, by omega⟩
        have hkb : k < bs.length := by rw [HBL.out]; exact hlt
        have hu : (bools bs)[k]? = some (.bool bs[k]) := by simp [bools, hkb]
        obtain ⟨g1, cp1, he1, _, _⟩ := hI.r1.form_pos (by omega)
        obtain ⟨g2, cp2, he2, _, _⟩ := hI.r2.form_pos (by omega)
        simp at he1 he2
        obtain ⟨rfl, rfl⟩ := he1
        obtain ⟨rfl, rfl⟩ := he2
        have x0 := hI.r1.cells k _ hu
        have y0 := hI.r2.cells k _ hu
        obtain ⟨bb, hbb⟩ : ∃ b, b = bs[k] := ⟨_, rfl⟩
        rw [← hbb] at x0 y0
        have u2 : (0 : Int) ≤ (k : Int) := by omega
        have u3 : (k : Int) < (q : Int) := by omega
        have hkj : j + (k + 1) = q := by omega
        have HKJ := Lib.hid hkj
        have HI := Lib.hid hI
        clear hI hk hlt hkj hbb hu hkb
        go_wp2_with fail
        go_quiet (fail)
        go_wp2_with fail
        go_roundg j
        case measure => omega
        case rel => exact ⟨k + 1, HKJ.out, by go_num, ⟨bdrewN HI.out.bel _, HI.out.r1, HI.out.r2⟩⟩
      · have HB := Lib.hid hI.bel
        obtain rfl : gk = 0 := by omega
        obtain rfl : k = q := by omega
        clear hI
        go_wp2_with fail
        refine (shelfAwake_any _).mono ?_
        rintro e W9 ⟨rfl, hb9⟩
        have HB9 := Lib.hid (HB.out.trans (hb9.mono HB.out.size))
        clear hb9 HB
        go_wp2_with fail
        go_ret
        exact ⟨rfl, HB9.out⟩
end Go.Proofs.Ytdamlbkibhmepaa.B
namespace Go.Proofs.Ytdamlbkibhmepaa.R
open Go.RowKit
theorem ShelfRights (v : Value) (w : World) (h : F.ShOk w 8 (.rows [.str, .int .i64, .int .i64]) v) :
    Calls Try.prog 9 #[v] w fun e w' => e = .returned (.bool true) ∧ Below w.heap.size w w' := by
  obtain ⟨l, hr⟩ := B.entRow_of h
  exact B.shelfRights_walk v l w hr
end Go.Proofs.Ytdamlbkibhmepaa.R
