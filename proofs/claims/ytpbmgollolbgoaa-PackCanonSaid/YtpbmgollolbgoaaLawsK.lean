/-
  PackCanon: the law's walk.
-/
import Derived.Test.YtpbmgollolbgoaaCanon
import Derived.Test.YtpbmgollolbgoaaEntryAny
import Derived.Test.YtpbmgollolbgoaaLawsB
namespace Go.Proofs.Ytpbmgollolbgoaa.B
open Go.RowKit
set_option linter.unusedVariables false

theorem num_64 (s : ByteArray) (p k : Nat) (hk : k ≤ 6) : -9223372036854775808 ≤ num s p k ∧ num s p k ≤ 9223372036854775807 := by
  have h := num_range s p k
  have := two_le (show 8 * k ≤ 48 by omega)
  have e : (2 : Int) ^ 48 = 281474976710656 := by decide
  omega
/-- The head that bytes are, laid again. -/
structure HeadC (s : ByteArray) (h0 h1 h2 h3 h4 h5 h6 h7 e : Int) (t : ByteArray) (f : Int) : Prop where
  of : ∀ w, Calls Try.prog 30 #[.string s] w fun x w' => x = .returned (.tuple #[.agg #[.int .i64 h0, .int .i64 h1, .int .i64 h2, .int .i64 h3, .int .i64 h4, .int .i64 h5, .int .i64 h6, .int .i64 h7], .int .i64 e]) ∧ Below w.heap.size w w'
  to : ∀ w, Calls Try.prog 26 #[.agg #[.int .i64 h0, .int .i64 h1, .int .i64 h2, .int .i64 h3, .int .i64 h4, .int .i64 h5, .int .i64 h6, .int .i64 h7]] w fun x w' => x = .returned (.tuple #[.string t, .int .i64 f]) ∧ Below w.heap.size w w'
  law : (e != 0) = true ∨ (e = 0 ∧ f = 0 ∧ t = s)
theorem headC (s : ByteArray) (hS : s.size ≤ 9223372036854775807) : ∃ h0 h1 h2 h3 h4 h5 h6 h7 e t f, HeadC s h0 h1 h2 h3 h4 h5 h6 h7 e t f := by
  have hall : ∀ x ∈ (headOfSpec s).1, -9223372036854775808 ≤ x ∧ x ≤ 9223372036854775807 := by
    unfold headOfSpec
    intro x hx
    repeat' split at hx
    all_goals simp only [List.mem_cons, List.not_mem_nil, or_false] at hx
    all_goals rcases hx with rfl | rfl | rfl | rfl | rfl | rfl | rfl | rfl <;> first | exact num_64 s _ _ (by omega) | omega
  have hf : ∃ h0 h1 h2 h3 h4 h5 h6 h7 e, headOfSpec s = ([h0, h1, h2, h3, h4, h5, h6, h7], e) := by
    unfold headOfSpec
    repeat' split
    all_goals exact ⟨_, _, _, _, _, _, _, _, _, rfl⟩
  have hc := head_canon s
  have hof := HeadOf_any s hS
  obtain ⟨h0, h1, h2, h3, h4, h5, h6, h7, e, hq⟩ := hf
  rw [hq] at hall hc hof
  have b := fun i => hall i
  refine ⟨h0, h1, h2, h3, h4, h5, h6, h7, e, _, _, hof, fun w => Head_any h0 h1 h2 h3 h4 h5 h6 h7 (hall h0 (by simp)).1 (hall h0 (by simp)).2 (hall h1 (by simp)).1 (hall h1 (by simp)).2 (hall h2 (by simp)).1 (hall h2 (by simp)).2 (hall h3 (by simp)).1 (hall h3 (by simp)).2 (hall h4 (by simp)).1 (hall h4 (by simp)).2 (hall h5 (by simp)).1 (hall h5 (by simp)).2 (hall h6 (by simp)).1 (hall h6 (by simp)).2 (hall h7 (by simp)).1 (hall h7 (by simp)).2 w, ?_⟩
  by_cases he : e = 0
  · refine .inr ⟨he, ?_⟩
    have := hc he
    rw [show sides [h0, h1, h2, h3, h4, h5, h6, h7] [6, 4, 2, 4, 4, 4, 6, 6] = headFs h0 h1 h2 h3 h4 h5 h6 h7 from rfl] at this
    rw [this]
    exact ⟨rfl, rfl⟩
  · exact .inl (by simp [he])

structure EntryC (s : ByteArray) (n : ByteArray) (a b e : Int) (t : ByteArray) (f : Int) : Prop where
  of : ∀ w, Calls Try.prog 38 #[.string s] w fun x w' => x = .returned (.tuple #[.agg #[.string n, .int .i64 a, .int .i64 b], .int .i64 e]) ∧ Below w.heap.size w w'
  to : ∀ w, Calls Try.prog 24 #[.agg #[.string n, .int .i64 a, .int .i64 b]] w fun x w' => x = .returned (.tuple #[.string t, .int .i64 f]) ∧ Below w.heap.size w w'
  law : (e != 0) = true ∨ (e = 0 ∧ f = 0 ∧ t = s)
theorem entryC (s : ByteArray) (hS : s.size ≤ 9223372036854775807) : ∃ n a b e t f, EntryC s n a b e t f := by
  have hall : (-9223372036854775808 ≤ (entryOfSpec s).2.1 ∧ (entryOfSpec s).2.1 ≤ 9223372036854775807) ∧ (-9223372036854775808 ≤ (entryOfSpec s).2.2.1 ∧ (entryOfSpec s).2.2.1 ≤ 9223372036854775807) := by
    unfold entryOfSpec
    repeat' split
    all_goals first | exact ⟨num_64 s _ _ (by omega), num_64 s _ _ (by omega)⟩ | (constructor <;> constructor <;> decide)
  have hc := entry_canon s
  have hof := EntryOf_any s hS
  obtain ⟨⟨n, a, b, e⟩, hq⟩ : ∃ q, q = entryOfSpec s := ⟨_, rfl⟩
  rw [← hq] at hall hc hof
  refine ⟨n, a, b, e, _, _, hof, fun w => Entry_any n a b hall.1.1 hall.1.2 hall.2.1 hall.2.2 w, ?_⟩
  by_cases he : e = 0
  · refine .inr ⟨he, ?_⟩
    rw [hc he]
    exact ⟨rfl, rfl⟩
  · exact .inl (by simp [he])

structure SuperC (s : ByteArray) (n0 n1 n2 n3 : Int) (r : ByteArray) (e : Int) (t : ByteArray) (f : Int) : Prop where
  of : ∀ w, Calls Try.prog 36 #[.string s] w fun x w' => x = .returned (.tuple #[.agg #[.int .i64 n0, .int .i64 n1, .int .i64 n2, .int .i64 n3, .string r], .int .i64 e]) ∧ Below w.heap.size w w'
  to : ∀ w, Calls Try.prog 28 #[.agg #[.int .i64 n0, .int .i64 n1, .int .i64 n2, .int .i64 n3, .string r]] w fun x w' => x = .returned (.tuple #[.string t, .int .i64 f]) ∧ Below w.heap.size w w'
  law : (e != 0) = true ∨ (e = 0 ∧ f = 0 ∧ t = s)
theorem superC (s : ByteArray) (hS : s.size ≤ 9223372036854775807) : ∃ n0 n1 n2 n3 r e t f, SuperC s n0 n1 n2 n3 r e t f := by
  have hall : ∀ x ∈ (superOfSpec s).1, -9223372036854775808 ≤ x ∧ x ≤ 9223372036854775807 := by
    unfold superOfSpec
    intro x hx
    repeat' split at hx
    all_goals simp only [List.mem_cons, List.not_mem_nil, or_false] at hx
    all_goals rcases hx with rfl | rfl | rfl | rfl <;> first | exact num_64 s _ _ (by omega) | omega
  have hf : ∃ n0 n1 n2 n3 r e, superOfSpec s = ([n0, n1, n2, n3], r, e) ∧ r.size ≤ 9223372036854775807 := by
    unfold superOfSpec
    repeat' split
    all_goals refine ⟨_, _, _, _, _, _, rfl, ?_⟩
    all_goals first | decide | (rw [ByteArray.size_extract]; omega)
  have hc := super_canon s
  have hof := SuperOf_any s
  obtain ⟨n0, n1, n2, n3, r, e, hq, hr⟩ := hf
  rw [hq] at hall hc hof
  have b0 := hall n0 (by simp)
  have b1 := hall n1 (by simp)
  have b2 := hall n2 (by simp)
  have b3 := hall n3 (by simp)
  refine ⟨n0, n1, n2, n3, r, e, _, _, hof, fun w => Super_any n0 n1 n2 n3 r hr b0.1 b0.2 b1.1 b1.2 b2.1 b2.2 b3.1 b3.2 w, ?_⟩
  by_cases he : e = 0
  · refine .inr ⟨he, ?_⟩
    have := hc he
    rw [show sides [n0, n1, n2, n3] [6, 6, 6, 4] = superFs n0 n1 n2 n3 from rfl] at this
    rw [this]
    exact ⟨rfl, rfl⟩
  · exact .inl (by simp [he])

structure InodeC (s : ByteArray) (A : Array Value) (e : Int) (t : ByteArray) (f : Int) : Prop where
  of : ∀ w, Calls Try.prog 34 #[.string s] w fun x w' => x = .returned (.tuple #[.agg A, .int .i64 e]) ∧ Below w.heap.size w w'
  to : ∀ w, Calls Try.prog 32 #[.agg A] w fun x w' => x = .returned (.tuple #[.string t, .int .i64 f]) ∧ Below w.heap.size w w'
  law : (e != 0) = true ∨ (e = 0 ∧ f = 0 ∧ t = s)
  size : A.size = 18
  one : ∀ v ∈ A.toList, v.oneCell' = true
theorem inodeC (s : ByteArray) : ∃ A e t f, InodeC s A e t f := by
  have hlen : (inodeOfSpec s).1.length = 18 := by
    unfold inodeOfSpec
    repeat' split
    all_goals simp [inodeNums_length]
  have hall : ∀ x ∈ (inodeOfSpec s).1, -9223372036854775808 ≤ x ∧ x ≤ 9223372036854775807 := by
    have hz : ∀ x ∈ List.replicate 18 (0 : Int), -9223372036854775808 ≤ x ∧ x ≤ 9223372036854775807 := by
      intro x hx
      rw [List.mem_replicate] at hx
      omega
    have hn : ∀ (ws : List Int) (p : Nat), (∀ w ∈ ws, w ≤ 6) → ∀ x ∈ numsAt s p ws, -9223372036854775808 ≤ x ∧ x ≤ 9223372036854775807 := by
      intro ws
      induction ws with
      | nil => intro p _ x hx; simp [numsAt] at hx
      | cons y r ih =>
        intro p hw x hx
        rw [numsAt, List.mem_cons] at hx
        rcases hx with rfl | hx
        · exact num_64 s _ _ (by have := hw y (by simp); omega)
        · exact ih _ (fun w h => hw w (by simp [h])) x hx
    unfold inodeOfSpec
    repeat' split
    all_goals first | exact hz | exact hn inodeWs 0 (by decide)
  have hc := inode_canon s
  have hof := InodeOf_any s
  obtain ⟨⟨fl, e⟩, hq⟩ : ∃ q, q = inodeOfSpec s := ⟨_, rfl⟩
  rw [← hq] at hall hc hof hlen
  have hto : ∀ w, Calls Try.prog 32 #[.agg (ints fl).toArray] w fun x w' => x = .returned (.tuple #[.string (inodeSpec (fl.getD 0 0) (sides fl inodeWs)).1, .int .i64 (inodeSpec (fl.getD 0 0) (sides fl inodeWs)).2]) ∧ Below w.heap.size w w' := by
    obtain ⟨x0, x1, x2, x3, x4, x5, x6, x7, x8, x9, x10, x11, x12, x13, x14, x15, x16, x17, rfl⟩ := eighteen fl hlen
    exact Inode_any x0 x1 x2 x3 x4 x5 x6 x7 x8 x9 x10 x11 x12 x13 x14 x15 x16 x17 hall
  refine ⟨(ints fl).toArray, e, _, _, hof, hto, ?_, by simp [ints_length, hlen], ints_oneCell fl⟩
  by_cases he : e = 0
  · refine .inr ⟨he, ?_⟩
    rw [hc he]
    exact ⟨rfl, rfl⟩
  · exact .inl (by simp [he])

set_option maxRecDepth 100000 in
set_option maxHeartbeats 6400000 in
theorem PackCanon_walk (s : ByteArray) (hS : s.size ≤ 9223372036854775807) (w : World) :
    Calls Try.prog 16 #[.string s] w fun e w' => e = .returned (.bool true) ∧ Below w.heap.size w w' := by
  have hu1 := Try.underlying38
  have hu2 := Try.underlying34
  have hu3 := Try.underlying42
  have hu := Try.underlying50
  obtain ⟨h0, h1, h2, h3, h4, h5, h6, h7, e1, t1, f1, H1⟩ := headC s hS
  obtain ⟨A, e2, t2, f2, H2⟩ := inodeC s
  obtain ⟨n, a, b, e3, t3, f3, H3⟩ := entryC s hS
  obtain ⟨n0, n1, n2, n3, r, e4, t4, f4, H4⟩ := superC s hS
  have h18 : (Try.prog.info? 50).map (·.size) = some A.size := by rw [H2.size]; exact infoInode
  have C1 := Lib.hid H1
  have C2 := Lib.hid H2
  have C3 := Lib.hid H3
  have C4 := Lib.hid H4
  have HI := Lib.hid h18
  clear H1 H2 H3 H4 h18
  go_enter Try.func16, Try.ntmps16
  go_wp2_with fail
  refine (C1.out.of _).mono ?_
  rintro e w1 ⟨rfl, hb⟩
  have B1 := Lib.hid hb
  clear hb
  go_wp2_with fail
  refine (C1.out.to _).mono ?_
  rintro e w2 ⟨rfl, hb⟩
  have B2 := Lib.hid (B1.out.alloc B1.out.size (.cells #[.int .i64 h0, .int .i64 h1, .int .i64 h2, .int .i64 h3, .int .i64 h4, .int .i64 h5, .int .i64 h6, .int .i64 h7] 38) |>.trans (hb.mono (by have := B1.out.size; simp; omega)))
  clear hb
  go_wp2_with fail
  refine (C2.out.of _).mono ?_
  rintro e w3 ⟨rfl, hb⟩
  have B3 := Lib.hid (B2.out.trans (hb.mono B2.out.size))
  clear hb
  go_wp2_with (first | (refine wpList_store_row (by rfl) 50 _ _ (by rfl) w3.heap.size A #[.int .i64 0, .int .i64 0, .int .i64 0, .int .i64 0, .int .i64 0, .int .i64 0, .int .i64 0, .int .i64 0, .int .i64 0, .int .i64 0, .int .i64 0, .int .i64 0, .int .i64 0, .int .i64 0, .int .i64 0, .int .i64 0, .int .i64 0, .int .i64 0] 50 (by rfl) (by rfl) (get_top rfl) C2.out.size HI.out C2.out.one ?_; intro W1 hW1 hK1; have HW1 := Lib.hid hW1; have B4 := Lib.hid (B3.out.alloc B3.out.size (.cells #[.int .i64 0, .int .i64 0, .int .i64 0, .int .i64 0, .int .i64 0, .int .i64 0, .int .i64 0, .int .i64 0, .int .i64 0, .int .i64 0, .int .i64 0, .int .i64 0, .int .i64 0, .int .i64 0, .int .i64 0, .int .i64 0, .int .i64 0, .int .i64 0] 50) |>.trans (hK1.below (by have := B3.out.size; simp; omega) (by intro i hi; have := B3.out.size; omega))); clear hW1 hK1) | (refine wpList_load_row (by rfl) 50 _ (by rfl) w3.heap.size (by rfl) 50 _ (0, 0) _ HW1.out Try.underlying50 rfl HI.out ?_) | fail)
  refine (C2.out.to _).mono ?_
  rintro e w4 ⟨rfl, hb⟩
  have B5 := Lib.hid (B4.out.trans (hb.mono B4.out.size))
  clear hb
  go_wp2_with fail
  refine (C3.out.of _).mono ?_
  rintro e w5 ⟨rfl, hb⟩
  have B6 := Lib.hid (B5.out.trans (hb.mono B5.out.size))
  clear hb
  go_wp2_with fail
  refine (C3.out.to _).mono ?_
  rintro e w6 ⟨rfl, hb⟩
  have B7 := Lib.hid (B6.out.alloc B6.out.size (.cells #[.string n, .int .i64 a, .int .i64 b] 34) |>.trans (hb.mono (by have := B6.out.size; simp; omega)))
  clear hb
  go_wp2_with fail
  refine (C4.out.of _).mono ?_
  rintro e w7 ⟨rfl, hb⟩
  have B8 := Lib.hid (B7.out.trans (hb.mono B7.out.size))
  clear hb
  go_wp2_with fail
  refine (C4.out.to _).mono ?_
  rintro e w8 ⟨rfl, hb⟩
  have B9 := Lib.hid (B8.out.alloc B8.out.size (.cells #[.int .i64 n0, .int .i64 n1, .int .i64 n2, .int .i64 n3, .string r] 42) |>.trans (hb.mono (by have := B8.out.size; simp; omega)))
  have L1 := C1.out.law
  have L2 := C2.out.law
  have L3 := C3.out.law
  have L4 := C4.out.law
  clear hb B1 B2 B3 B4 B5 B6 B7 B8 HI HW1 C1 C2 C3 C4 hu1 hu2 hu3 hu
  rcases L1 with q1 | ⟨rfl, rfl, rfl⟩ <;> rcases L2 with q2 | ⟨rfl, rfl, q2⟩ <;> rcases L3 with q3 | ⟨rfl, rfl, q3⟩ <;> rcases L4 with q4 | ⟨rfl, rfl, q4⟩
  all_goals
    try subst q2
    try subst q3
    try subst q4
    go_wp2_with fail
    refine (awake_any _).mono ?_
    rintro e w9 ⟨rfl, hb⟩
    have B10 := Lib.hid (B9.out.trans (hb.mono B9.out.size))
    clear hb
    go_wp2
    go_ret
    exact ⟨rfl, B10.out⟩
end Go.Proofs.Ytpbmgollolbgoaa.B
namespace Go.Proofs.Ytpbmgollolbgoaa.R
open Go.RowKit
theorem PackCanon (s : ByteArray) (w : World) (h : s.size ≤ 140737488351232) :
    Calls Try.prog 16 #[.string s] w fun e w' => e = .returned (.bool true) ∧ Below w.heap.size w w' := B.PackCanon_walk s (by omega) w
end Go.Proofs.Ytpbmgollolbgoaa.R
