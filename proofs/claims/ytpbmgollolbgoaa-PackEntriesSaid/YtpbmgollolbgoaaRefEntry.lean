/-
  The document's Entry (grapnelref01), walked: it answers what pack's does.
-/
import Derived.Test.YtpbmgollolbgoaaEntryAny
import Derived.Deep.RegionHeld2
import Derived.Deep.RegionHeldLaw
import Derived.Test.YtpbmgollolbgoaaRegion
namespace Go.Proofs.Ytpbmgollolbgoaa.B
open Go.RowKit
set_option linter.unusedVariables false

theorem conv_one {W : World} {g : Nat} {n : Int} (h : W.cell? ⟨g, 0, none⟩ = some (.int .u8 n)) : (convert 60 9 (.slice (some ⟨g, 0, none⟩) 1 1)).run Try.prog W = .ok (.string (strOfNums [n])) W :=
  run_convert_bytes_arg W 60 5 Try.underlying60 Try.underlying5 g 0 1 1 [n] rfl (fun i hi => by
    obtain rfl : i = 0 := Nat.lt_one_iff.mp hi
    exact h) 9 Try.underlying9

theorem below_al3 (w : World) (o1 o2 o3 : Obj) {w1 : World} (h : Below (((w.alloc o1).alloc o2).alloc o3).heap.size (((w.alloc o1).alloc o2).alloc o3) w1) : Below w.heap.size w w1 :=
  ((((Below.refl _ w).alloc (Nat.le_refl _) o1).alloc (by simp) o2).alloc (by simp; omega) o3).trans (h.mono (by simp; omega))
theorem conv_later {W w2 : World} {n : Int} (hb : Below (W.alloc (.cells #[.int .u8 n] 5)).drew.heap.size (W.alloc (.cells #[.int .u8 n] 5)).drew w2) : (convert 60 9 (.slice (some ⟨W.heap.size, 0, none⟩) 1 1)).run Try.prog w2 = .ok (.string (strOfNums [n])) w2 :=
  conv_one ((hb.cell (p := ⟨W.heap.size, 0, none⟩) (by simp)).trans (by simp [go_sem]))
set_option maxRecDepth 100000 in
set_option maxHeartbeats 1600000 in
theorem refEntry_some (s : ByteArray) (a1 a2 : Int) (h19 : ¬ 19 < s.size) (h0 : ¬ s.size = 0) (hi : ∀ x ∈ [a1, a2], -9223372036854775808 ≤ x ∧ x ≤ 9223372036854775807) (w : World) :
    Calls Try.prog 25 #[.agg #[.string s, .int .i64 a1, .int .i64 a2]] w fun e w' => e = .returned (.tuple #[.string (entrySpec s a1 a2).1, .int .i64 (entrySpec s a1 a2).2]) ∧ Below w.heap.size w w' := by
  have hu := Try.underlying34
  have HR := Lib.hid hi
  clear hi
  have he : ¬ s.toList = [] := by
    intro h
    rw [ByteArray.toList_eq] at h
    exact h0 (by rw [← bytesOf_length, bytesOf, h]; rfl)
  by_cases hgood : good (entryFs a1 a2) = true
  · have hld : laidSpec (sides [a1, a2] [4, 4]) = (strOfNums (lay (entryFs a1 a2)), true) := by
      rw [laidSpec, show sides [a1, a2] [4, 4] = entryFs a1 a2 from rfl, if_pos hgood]
    have hs : entrySpec s a1 a2 = (strOfNums [(s.size : Int)] ++ s ++ strOfNums (List.replicate (19 - s.size) 0) ++ strOfNums (lay (entryFs a1 a2)), 0) := by
      rw [entrySpec, if_neg (by omega), if_neg (fun h => h0 h.1), if_pos hgood, entryXs, strOfNums_append, strOfNums_append, strOfNums_append, strOfNums_bytesOf]
    obtain ⟨x, hx⟩ : ∃ x, x = strOfNums (lay (entryFs a1 a2)) := ⟨_, rfl⟩
    have hxs : x.size ≤ 8 := by rw [hx, strOfNums_size, lay_length]; simp [entryFs]
    obtain ⟨z, hz⟩ : ∃ z, z = strOfNums (List.replicate (19 - s.size) (0 : Int)) := ⟨_, rfl⟩
    have hzs : z.size ≤ 19 := by rw [hz, strOfNums_size, List.length_replicate]; omega
    obtain ⟨o, ho⟩ : ∃ o, o = strOfNums [(s.size : Int)] := ⟨_, rfl⟩
    have hos : o.size ≤ 1 := by rw [ho, strOfNums_size]; simp
    have hconv : ∀ W g, World.cell? W ⟨g, 0, none⟩ = some (.int .u8 (s.size : Int)) → (convert 60 9 (.slice (some ⟨g, 0, none⟩) 1 1)).run Try.prog W = .ok (.string o) W := fun W g h => by rw [ho]; exact conv_one h
    have hconv1 : ∀ (W : World) n, (convert 60 9 (.slice (some ⟨W.heap.size, 0, none⟩) 1 1)).run Try.prog ((W.alloc (.cells #[.int .u8 (s.size : Int)] 5)).drewN n) = .ok (.string o) ((W.alloc (.cells #[.int .u8 (s.size : Int)] 5)).drewN n) := fun W n => hconv _ _ (by simp [go_sem])
    have hconv2 : ∀ W : World, (convert 60 9 (.slice (some ⟨W.heap.size, 0, none⟩) 1 1)).run Try.prog (W.alloc (.cells #[.int .u8 (s.size : Int)] 5)) = .ok (.string o) (W.alloc (.cells #[.int .u8 (s.size : Int)] 5)) := fun W => hconv _ _ (by simp [go_sem])
    have hconv3 : ∀ W : World, (convert 60 9 (.slice (some ⟨W.heap.size, 0, none⟩) 1 1)).run Try.prog (W.alloc (.cells #[.int .u8 (s.size : Int)] 5)).drew = .ok (.string o) (W.alloc (.cells #[.int .u8 (s.size : Int)] 5)).drew := fun W => hconv _ _ (by simp [go_sem])
    rw [← hx] at hld hs
    rw [← hz, ← ho] at hs
    have HZ := Lib.hid hz
    have HLD := Lib.hid hld
    have HS := Lib.hid hs
    have q1 : (9223372036854775807 < o.size + s.size) = False := by simp; omega
    have q2 : (9223372036854775807 < o.size + s.size + z.size) = False := by simp; omega
    have q3 : (9223372036854775807 < o.size + s.size + z.size + x.size) = False := by simp; omega
    have hu8 : IntKind.u8.wrap (s.size : Int) = (s.size : Int) := by rw [IntKind.wrap_u8]; omega
    have hsub : IntKind.i64.wrap (19 - (s.size : Int)) = 19 - (s.size : Int) := IntWalk.i64_in _ (by omega)
    clear hld hs hx hgood hz
    have HO := Lib.hid ho
    clear ho
    go_enter Try.func25, Try.ntmps25
    go_wp2_with fail
    refine (laid_any _ _ [a1, a2] [4, 4] _ (by repeat (first | refine Row.drew ?_ | exact Row.lit (get_top (by simp)) 2 rfl (by decide) | exact Row.lit (get_below (get_top (by simp))) 2 rfl (by decide))) (by repeat (first | refine Row.drew ?_ | exact Row.lit (get_top (by simp)) 2 rfl (by decide) | exact Row.lit (get_below (get_top (by simp))) 2 rfl (by decide))) rfl (by simp) HR.out (by decide)).mono ?_
    rw [HLD.out]
    rintro e w1 ⟨rfl, hb⟩
    have HB := Lib.hid hb
    have hblk : w1.heap[w.heap.size]? = some (.cells #[.string s, .int .i64 a1, .int .i64 a2] 34 (0, 0)) := (hb.block _ (by simp; omega)).trans (get_below (get_below (get_top rfl)))
    have cp := blk_cell hblk 0
    have hpl := blk_lt hblk
    have HB1 := Lib.hid (below_al3 w _ _ _ hb)
    clear hb hblk
    go_wp2_with fail
    refine wp_region_held_drew (S := (fun w' => w'.cell? ⟨w.heap.size, 0, none⟩ = some (.string s))) (by kernel_rfl) ?_ (fun hHeld => ?_)
    · (try dsimp only); first | go_keep | (rw [hb2.cell (by simp <;> omega)]; assumption)
    refine takeH (i := 0) (N := some 35) (v := ?_) rfl rfl (by kernel_rfl) (by kernel_rfl) (by kernel_rfl) (fun _ _ _ h => h) (Or.inl ⟨by rfl, ?_⟩) (by assumption) ?_
    rotate_left
    · intro w' hSw; (try dsimp only at hSw); go_simp; with_reducible rfl
    try simp only [Act.put, List.setIfInBounds_toArray, List.set_cons_zero, List.set_cons_succ]
    refine takeH (i := 1) (N := some 36) (v := ?_) rfl rfl (by kernel_rfl) (by kernel_rfl) (by kernel_rfl) (fun _ _ _ h => h) (Or.inl ⟨by rfl, ?_⟩) (by assumption) ?_
    rotate_left
    · intro w' hSw; (try dsimp only at hSw); go_simp; with_reducible rfl
    try simp only [Act.put, List.setIfInBounds_toArray, List.set_cons_zero, List.set_cons_succ]
    refine takeH (i := 2) (N := some 37) (v := ?_) rfl rfl (by kernel_rfl) (by kernel_rfl) (by kernel_rfl) (fun _ _ _ h => h) (Or.inl ⟨by rfl, ?_⟩) (by assumption) ?_
    rotate_left
    · intro w' hSw; (try dsimp only at hSw); go_simp; with_reducible rfl
    try simp only [Act.put, List.setIfInBounds_toArray, List.set_cons_zero, List.set_cons_succ]
    refine takeH (i := 3) (N := some 38) (v := ?_) rfl rfl (by kernel_rfl) (by kernel_rfl) (by kernel_rfl) (fun _ _ _ h => h) (Or.inl ⟨by rfl, ?_⟩) (by assumption) ?_
    rotate_left
    · intro w' hSw; (try dsimp only at hSw); go_simp; with_reducible rfl
    try simp only [Act.put, List.setIfInBounds_toArray, List.set_cons_zero, List.set_cons_succ]
    refine takeH (i := 6) (N := some 41) (v := ?_) rfl rfl (by kernel_rfl) (by kernel_rfl) (by kernel_rfl) (fun _ _ _ h => h) (Or.inl ⟨by rfl, ?_⟩) (by assumption) ?_
    rotate_left
    · intro w' hSw; (try dsimp only at hSw); go_simp; with_reducible rfl
    try simp only [Act.put, List.setIfInBounds_toArray, List.set_cons_zero, List.set_cons_succ]
    refine takeH (i := 7) (N := some 42) (v := ?_) rfl rfl (by kernel_rfl) (by kernel_rfl) (by kernel_rfl) (fun _ _ _ h => h) (Or.inl ⟨by rfl, ?_⟩) (by assumption) ?_
    rotate_left
    · intro w' hSw; (try dsimp only at hSw); go_simp; with_reducible rfl
    try simp only [Act.put, List.setIfInBounds_toArray, List.set_cons_zero, List.set_cons_succ]
    refine takeH (i := 9) (N := some 44) (v := ?_) rfl rfl (by kernel_rfl) (by kernel_rfl) (by kernel_rfl) (fun _ _ _ h => h) (Or.inl ⟨by rfl, ?_⟩) (by assumption) ?_
    rotate_left
    · intro w' hSw; (try dsimp only at hSw); go_simp; with_reducible rfl
    try simp only [Act.put, List.setIfInBounds_toArray, List.set_cons_zero, List.set_cons_succ]
    refine takeH (i := 10) (N := some 45) (v := ?_) rfl rfl (by kernel_rfl) (by kernel_rfl) (by kernel_rfl) (fun _ _ _ h => h) (Or.inl ⟨by rfl, ?_⟩) (by assumption) ?_
    rotate_left
    · intro w' hSw; (try dsimp only at hSw); go_simp; with_reducible rfl
    try simp only [Act.put, List.setIfInBounds_toArray, List.set_cons_zero, List.set_cons_succ]
    refine takeH (i := 11) (N := some 46) (v := ?_) rfl rfl (by kernel_rfl) (by kernel_rfl) (by kernel_rfl) (fun _ _ _ h => h) (Or.inl ⟨by rfl, ?_⟩) (by assumption) ?_
    rotate_left
    · intro w' hSw; (try dsimp only at hSw); go_simp; with_reducible rfl
    try simp only [Act.put, List.setIfInBounds_toArray, List.set_cons_zero, List.set_cons_succ]
    refine takeH (i := 12) (N := some 47) (v := ?_) rfl rfl (by kernel_rfl) (by kernel_rfl) (by kernel_rfl) (fun _ _ _ h => h) (Or.inl ⟨by rfl, ?_⟩) (by assumption) ?_
    rotate_left
    · intro w' hSw; (try dsimp only at hSw); go_simp; with_reducible rfl
    try simp only [Act.put, List.setIfInBounds_toArray, List.set_cons_zero, List.set_cons_succ]
    refine takeH (i := 15) (N := some 50) (v := ?_) rfl rfl (by kernel_rfl) (by kernel_rfl) (by kernel_rfl) (fun _ _ _ h => h) (Or.inl ⟨by rfl, ?_⟩) (by assumption) ?_
    rotate_left
    · intro w' hSw; (try dsimp only at hSw); go_simp; with_reducible rfl
    try simp only [Act.put, List.setIfInBounds_toArray, List.set_cons_zero, List.set_cons_succ]
    refine wpAnyH_ready (rs := [4, 13]) (by kernel_rfl) (by simp) ?_
    refine AllReadyH.cons rfl (fun K hK => ?_) ?_
    · go_simp
      refine hK.out _ _ ?_ (fun hHeld => ?_)
      · (try dsimp only); first | go_keep | (rw [hb2.cell (by simp <;> omega)]; assumption)
      clear hK K
      try simp only [Act.put, List.setIfInBounds_toArray, List.set_cons_zero, List.set_cons_succ]
      refine wpAnyH_ready (rs := [5, 13]) (by kernel_rfl) (by simp) ?_
      refine AllReadyH.cons rfl (fun K hK => ?_) ?_
      · go_simp
        refine hK.out _ _ ?_ (fun hHeld => ?_)
        · (try dsimp only); first | go_keep | (rw [hb2.cell (by simp <;> omega)]; assumption)
        clear hK K
        try simp only [Act.put, List.setIfInBounds_toArray, List.set_cons_zero, List.set_cons_succ]
        refine takeH (i := 8) (N := some 43) (v := ?_) rfl rfl (by kernel_rfl) (by kernel_rfl) (by kernel_rfl) (fun _ _ _ h => h) (Or.inl ⟨by rfl, ?_⟩) (by assumption) ?_
        rotate_left
        · intro w' hSw; (try dsimp only at hSw); go_simp; with_reducible rfl
        try simp only [Act.put, List.setIfInBounds_toArray, List.set_cons_zero, List.set_cons_succ]
        refine wpAnyH_ready (rs := [13]) (by kernel_rfl) (by simp) ?_
        refine AllReadyH.cons rfl (fun K hK => ?_) ?_
        · go_simp; go_at_call 45; refine (Noughts_any (19 - (s.size : Int)) (by omega) (by omega) _).mono ?_; rw [show strOfNums (List.replicate (19 - (s.size : Int)).toNat 0) = z from by rw [HZ.out]; congr 2; omega]; rintro e w2 ⟨rfl, hb2⟩; have hq := hb2.cell (p := ⟨w.heap.size, 0, none⟩) (by simp <;> omega); try (with_reducible have hq3 := conv_later hb2); try (rw [← HO.out] at hq3)
          refine hK.out _ _ ?_ (fun hHeld => ?_)
          · (try dsimp only); first | go_keep | (rw [hb2.cell (by simp <;> omega)]; assumption)
          clear hK K
          try simp only [Act.put, List.setIfInBounds_toArray, List.set_cons_zero, List.set_cons_succ]
          refine takeH (i := 14) (N := some 49) (v := ?_) rfl rfl (by kernel_rfl) (by kernel_rfl) (by kernel_rfl) (fun _ _ _ h => h) (Or.inl ⟨by rfl, ?_⟩) (by assumption) ?_
          rotate_left
          · intro w' hSw; (try dsimp only at hSw); go_simp; with_reducible rfl
          try simp only [Act.put, List.setIfInBounds_toArray, List.set_cons_zero, List.set_cons_succ]
          refine takeH (i := 16) (N := some 51) (v := ?_) rfl rfl (by kernel_rfl) (by kernel_rfl) (by kernel_rfl) (fun _ _ _ h => h) (Or.inl ⟨by rfl, ?_⟩) (by assumption) ?_
          rotate_left
          · intro w' hSw; (try dsimp only at hSw); go_simp; with_reducible rfl
          try simp only [Act.put, List.setIfInBounds_toArray, List.set_cons_zero, List.set_cons_succ]
          refine takeH (i := 17) (N := some 2) (v := ?_) rfl rfl (by kernel_rfl) (by kernel_rfl) (by kernel_rfl) (fun _ _ _ h => h) (Or.inl ⟨by rfl, ?_⟩) (by assumption) ?_
          rotate_left
          · intro w' hSw; (try dsimp only at hSw); go_simp; with_reducible rfl
          try simp only [Act.put, List.setIfInBounds_toArray, List.set_cons_zero, List.set_cons_succ]
          refine takeH (i := 18) (N := some 3) (v := ?_) rfl rfl (by kernel_rfl) (by kernel_rfl) (by kernel_rfl) (fun _ _ _ h => h) (Or.inl ⟨by rfl, ?_⟩) (by assumption) ?_
          rotate_left
          · intro w' hSw; (try dsimp only at hSw); go_simp; with_reducible rfl
          try simp only [Act.put, List.setIfInBounds_toArray, List.set_cons_zero, List.set_cons_succ]
          refine wpAnyH_done (by kernel_rfl) ?_ _
          go_wp2_with fail
          go_ret2
          rw [HS.out]
          exact ⟨rfl, by first | exact ((HB1.out.alloc HB1.out.size _).drew.trans (hb2.mono (by have := HB1.out.size; simp; omega))) | exact (HB1.out.drew.trans (hb2.mono HB1.out.size)).alloc (Nat.le_trans HB1.out.size hb2.size) _⟩
        exact AllReadyH.nil
      refine AllReadyH.cons rfl (fun K hK => ?_) ?_
      · go_simp; go_at_call 45; refine (Noughts_any (19 - (s.size : Int)) (by omega) (by omega) _).mono ?_; rw [show strOfNums (List.replicate (19 - (s.size : Int)).toNat 0) = z from by rw [HZ.out]; congr 2; omega]; rintro e w2 ⟨rfl, hb2⟩; have hq := hb2.cell (p := ⟨w.heap.size, 0, none⟩) (by simp <;> omega); try (with_reducible have hq3 := conv_later hb2); try (rw [← HO.out] at hq3)
        refine hK.out _ _ ?_ (fun hHeld => ?_)
        · (try dsimp only); first | go_keep | (rw [hb2.cell (by simp <;> omega)]; assumption)
        clear hK K
        try simp only [Act.put, List.setIfInBounds_toArray, List.set_cons_zero, List.set_cons_succ]
        refine wpAnyH_ready (rs := [5]) (by kernel_rfl) (by simp) ?_
        refine AllReadyH.cons rfl (fun K hK => ?_) ?_
        · go_simp
          refine hK.out _ _ ?_ (fun hHeld => ?_)
          · (try dsimp only); first | go_keep | (rw [hb2.cell (by simp <;> omega)]; assumption)
          clear hK K
          try simp only [Act.put, List.setIfInBounds_toArray, List.set_cons_zero, List.set_cons_succ]
          refine takeH (i := 8) (N := some 43) (v := ?_) rfl rfl (by kernel_rfl) (by kernel_rfl) (by kernel_rfl) (fun _ _ _ h => h) (Or.inl ⟨by rfl, ?_⟩) (by assumption) ?_
          rotate_left
          · intro w' hSw; (try dsimp only at hSw); go_simp; with_reducible rfl
          try simp only [Act.put, List.setIfInBounds_toArray, List.set_cons_zero, List.set_cons_succ]
          refine takeH (i := 14) (N := some 49) (v := ?_) rfl rfl (by kernel_rfl) (by kernel_rfl) (by kernel_rfl) (fun _ _ _ h => h) (Or.inl ⟨by rfl, ?_⟩) (by assumption) ?_
          rotate_left
          · intro w' hSw; (try dsimp only at hSw); go_simp; with_reducible rfl
          try simp only [Act.put, List.setIfInBounds_toArray, List.set_cons_zero, List.set_cons_succ]
          refine takeH (i := 16) (N := some 51) (v := ?_) rfl rfl (by kernel_rfl) (by kernel_rfl) (by kernel_rfl) (fun _ _ _ h => h) (Or.inl ⟨by rfl, ?_⟩) (by assumption) ?_
          rotate_left
          · intro w' hSw; (try dsimp only at hSw); go_simp; with_reducible rfl
          try simp only [Act.put, List.setIfInBounds_toArray, List.set_cons_zero, List.set_cons_succ]
          refine takeH (i := 17) (N := some 2) (v := ?_) rfl rfl (by kernel_rfl) (by kernel_rfl) (by kernel_rfl) (fun _ _ _ h => h) (Or.inl ⟨by rfl, ?_⟩) (by assumption) ?_
          rotate_left
          · intro w' hSw; (try dsimp only at hSw); go_simp; with_reducible rfl
          try simp only [Act.put, List.setIfInBounds_toArray, List.set_cons_zero, List.set_cons_succ]
          refine takeH (i := 18) (N := some 3) (v := ?_) rfl rfl (by kernel_rfl) (by kernel_rfl) (by kernel_rfl) (fun _ _ _ h => h) (Or.inl ⟨by rfl, ?_⟩) (by assumption) ?_
          rotate_left
          · intro w' hSw; (try dsimp only at hSw); go_simp; with_reducible rfl
          try simp only [Act.put, List.setIfInBounds_toArray, List.set_cons_zero, List.set_cons_succ]
          refine wpAnyH_done (by kernel_rfl) ?_ _
          go_wp2_with fail
          go_ret2
          rw [HS.out]
          exact ⟨rfl, by first | exact ((HB1.out.alloc HB1.out.size _).drew.trans (hb2.mono (by have := HB1.out.size; simp; omega))) | exact (HB1.out.drew.trans (hb2.mono HB1.out.size)).alloc (Nat.le_trans HB1.out.size hb2.size) _⟩
        exact AllReadyH.nil
      exact AllReadyH.nil
    refine AllReadyH.cons rfl (fun K hK => ?_) ?_
    · go_simp; go_at_call 45; refine (Noughts_any (19 - (s.size : Int)) (by omega) (by omega) _).mono ?_; rw [show strOfNums (List.replicate (19 - (s.size : Int)).toNat 0) = z from by rw [HZ.out]; congr 2; omega]; rintro e w2 ⟨rfl, hb2⟩; have hq := hb2.cell (p := ⟨w.heap.size, 0, none⟩) (by simp <;> omega); try (with_reducible have hq3 := conv_later hb2); try (rw [← HO.out] at hq3)
      refine hK.out _ _ ?_ (fun hHeld => ?_)
      · (try dsimp only); first | go_keep | (rw [hb2.cell (by simp <;> omega)]; assumption)
      clear hK K
      try simp only [Act.put, List.setIfInBounds_toArray, List.set_cons_zero, List.set_cons_succ]
      refine wpAnyH_ready (rs := [4]) (by kernel_rfl) (by simp) ?_
      refine AllReadyH.cons rfl (fun K hK => ?_) ?_
      · go_simp
        refine hK.out _ _ ?_ (fun hHeld => ?_)
        · (try dsimp only); first | go_keep | (rw [hb2.cell (by simp <;> omega)]; assumption)
        clear hK K
        try simp only [Act.put, List.setIfInBounds_toArray, List.set_cons_zero, List.set_cons_succ]
        refine wpAnyH_ready (rs := [5]) (by kernel_rfl) (by simp) ?_
        refine AllReadyH.cons rfl (fun K hK => ?_) ?_
        · go_simp
          refine hK.out _ _ ?_ (fun hHeld => ?_)
          · (try dsimp only); first | go_keep | (rw [hb2.cell (by simp <;> omega)]; assumption)
          clear hK K
          try simp only [Act.put, List.setIfInBounds_toArray, List.set_cons_zero, List.set_cons_succ]
          refine takeH (i := 8) (N := some 43) (v := ?_) rfl rfl (by kernel_rfl) (by kernel_rfl) (by kernel_rfl) (fun _ _ _ h => h) (Or.inl ⟨by rfl, ?_⟩) (by assumption) ?_
          rotate_left
          · intro w' hSw; (try dsimp only at hSw); go_simp; with_reducible rfl
          try simp only [Act.put, List.setIfInBounds_toArray, List.set_cons_zero, List.set_cons_succ]
          refine takeH (i := 14) (N := some 49) (v := ?_) rfl rfl (by kernel_rfl) (by kernel_rfl) (by kernel_rfl) (fun _ _ _ h => h) (Or.inl ⟨by rfl, ?_⟩) (by assumption) ?_
          rotate_left
          · intro w' hSw; (try dsimp only at hSw); go_simp; with_reducible rfl
          try simp only [Act.put, List.setIfInBounds_toArray, List.set_cons_zero, List.set_cons_succ]
          refine takeH (i := 16) (N := some 51) (v := ?_) rfl rfl (by kernel_rfl) (by kernel_rfl) (by kernel_rfl) (fun _ _ _ h => h) (Or.inl ⟨by rfl, ?_⟩) (by assumption) ?_
          rotate_left
          · intro w' hSw; (try dsimp only at hSw); go_simp; with_reducible rfl
          try simp only [Act.put, List.setIfInBounds_toArray, List.set_cons_zero, List.set_cons_succ]
          refine takeH (i := 17) (N := some 2) (v := ?_) rfl rfl (by kernel_rfl) (by kernel_rfl) (by kernel_rfl) (fun _ _ _ h => h) (Or.inl ⟨by rfl, ?_⟩) (by assumption) ?_
          rotate_left
          · intro w' hSw; (try dsimp only at hSw); go_simp; with_reducible rfl
          try simp only [Act.put, List.setIfInBounds_toArray, List.set_cons_zero, List.set_cons_succ]
          refine takeH (i := 18) (N := some 3) (v := ?_) rfl rfl (by kernel_rfl) (by kernel_rfl) (by kernel_rfl) (fun _ _ _ h => h) (Or.inl ⟨by rfl, ?_⟩) (by assumption) ?_
          rotate_left
          · intro w' hSw; (try dsimp only at hSw); go_simp; with_reducible rfl
          try simp only [Act.put, List.setIfInBounds_toArray, List.set_cons_zero, List.set_cons_succ]
          refine wpAnyH_done (by kernel_rfl) ?_ _
          go_wp2_with fail
          go_ret2
          rw [HS.out]
          exact ⟨rfl, by first | exact ((HB1.out.alloc HB1.out.size _).drew.trans (hb2.mono (by have := HB1.out.size; simp; omega))) | exact (HB1.out.drew.trans (hb2.mono HB1.out.size)).alloc (Nat.le_trans HB1.out.size hb2.size) _⟩
        exact AllReadyH.nil
      exact AllReadyH.nil
    exact AllReadyH.nil
  · have hgf : good (entryFs a1 a2) = false := by simpa using hgood
    have hld : laidSpec (sides [a1, a2] [4, 4]) = (⟨#[]⟩, false) := by
      rw [laidSpec, show sides [a1, a2] [4, 4] = entryFs a1 a2 from rfl, hgf]
      rfl
    have hs : entrySpec s a1 a2 = (⟨#[]⟩, 2) := by
      rw [entrySpec, if_neg (by omega), if_neg (fun h => h0 h.1), if_neg hgood]
    have HLD := Lib.hid hld
    have HS := Lib.hid hs
    clear hld hs hgood hgf
    go_enter Try.func25, Try.ntmps25
    go_wp2_with fail
    refine (laid_any _ _ [a1, a2] [4, 4] _ (by repeat (first | refine Row.drew ?_ | exact Row.lit (get_top (by simp)) 2 rfl (by decide) | exact Row.lit (get_below (get_top (by simp))) 2 rfl (by decide))) (by repeat (first | refine Row.drew ?_ | exact Row.lit (get_top (by simp)) 2 rfl (by decide) | exact Row.lit (get_below (get_top (by simp))) 2 rfl (by decide))) rfl (by simp) HR.out (by decide)).mono ?_
    rw [HLD.out]
    rintro e w1 ⟨rfl, hb⟩
    have HB1 := Lib.hid (below_al3 w _ _ _ hb)
    clear hb
    go_wp2
    go_ret2
    rw [HS.out]
    exact ⟨rfl, HB1.out⟩

set_option maxRecDepth 100000 in
set_option maxHeartbeats 1600000 in
theorem refEntry_none (s : ByteArray) (h0 : s.size = 0) (hi : ∀ x ∈ [(0 : Int), 0], -9223372036854775808 ≤ x ∧ x ≤ 9223372036854775807) (w : World) :
    Calls Try.prog 25 #[.agg #[.string s, .int .i64 0, .int .i64 0]] w fun e w' => e = .returned (.tuple #[.string (entrySpec s 0 0).1, .int .i64 (entrySpec s 0 0).2]) ∧ Below w.heap.size w w' := by
  have hu := Try.underlying34
  have HR := Lib.hid hi
  clear hi
  have he : s.toList = [] := by rw [empty_of_size h0, ByteArray.toList_eq]
  have h19 : ¬ 19 < s.size := by omega
  have hs0 : s.size ≤ 0 := by omega
  have H0 := Lib.hid h0
  clear h0
  by_cases hgood : good (entryFs 0 0) = true
  · have hld : laidSpec (sides [0, 0] [4, 4]) = (strOfNums (lay (entryFs 0 0)), true) := by
      rw [laidSpec, show sides [0, 0] [4, 4] = entryFs 0 0 from rfl, if_pos hgood]
    have hs : entrySpec s 0 0 = (strOfNums [(s.size : Int)] ++ s ++ strOfNums (List.replicate (19 - s.size) 0) ++ strOfNums (lay (entryFs 0 0)), 0) := by
      rw [entrySpec, if_neg (by omega), if_neg (by simp), if_pos hgood, entryXs, strOfNums_append, strOfNums_append, strOfNums_append, strOfNums_bytesOf]
    obtain ⟨x, hx⟩ : ∃ x, x = strOfNums (lay (entryFs 0 0)) := ⟨_, rfl⟩
    have hxs : x.size ≤ 8 := by rw [hx, strOfNums_size, lay_length]; simp [entryFs]
    obtain ⟨z, hz⟩ : ∃ z, z = strOfNums (List.replicate (19 - s.size) (0 : Int)) := ⟨_, rfl⟩
    have hzs : z.size ≤ 19 := by rw [hz, strOfNums_size, List.length_replicate]; omega
    obtain ⟨o, ho⟩ : ∃ o, o = strOfNums [(s.size : Int)] := ⟨_, rfl⟩
    have hos : o.size ≤ 1 := by rw [ho, strOfNums_size]; simp
    have hconv : ∀ W g, World.cell? W ⟨g, 0, none⟩ = some (.int .u8 (s.size : Int)) → (convert 60 9 (.slice (some ⟨g, 0, none⟩) 1 1)).run Try.prog W = .ok (.string o) W := fun W g h => by rw [ho]; exact conv_one h
    have hconv1 : ∀ (W : World) n, (convert 60 9 (.slice (some ⟨W.heap.size, 0, none⟩) 1 1)).run Try.prog ((W.alloc (.cells #[.int .u8 (s.size : Int)] 5)).drewN n) = .ok (.string o) ((W.alloc (.cells #[.int .u8 (s.size : Int)] 5)).drewN n) := fun W n => hconv _ _ (by simp [go_sem])
    have hconv2 : ∀ W : World, (convert 60 9 (.slice (some ⟨W.heap.size, 0, none⟩) 1 1)).run Try.prog (W.alloc (.cells #[.int .u8 (s.size : Int)] 5)) = .ok (.string o) (W.alloc (.cells #[.int .u8 (s.size : Int)] 5)) := fun W => hconv _ _ (by simp [go_sem])
    have hconv3 : ∀ W : World, (convert 60 9 (.slice (some ⟨W.heap.size, 0, none⟩) 1 1)).run Try.prog (W.alloc (.cells #[.int .u8 (s.size : Int)] 5)).drew = .ok (.string o) (W.alloc (.cells #[.int .u8 (s.size : Int)] 5)).drew := fun W => hconv _ _ (by simp [go_sem])
    rw [← hx] at hld hs
    rw [← hz, ← ho] at hs
    have HZ := Lib.hid hz
    have HLD := Lib.hid hld
    have HS := Lib.hid hs
    have q1 : (9223372036854775807 < o.size + s.size) = False := by simp; omega
    have q2 : (9223372036854775807 < o.size + s.size + z.size) = False := by simp; omega
    have q3 : (9223372036854775807 < o.size + s.size + z.size + x.size) = False := by simp; omega
    have hu8 : IntKind.u8.wrap (s.size : Int) = (s.size : Int) := by rw [IntKind.wrap_u8]; omega
    have hsub : IntKind.i64.wrap (19 - (s.size : Int)) = 19 - (s.size : Int) := IntWalk.i64_in _ (by omega)
    clear hld hs hx hgood hz
    have HO := Lib.hid ho
    clear ho
    go_enter Try.func25, Try.ntmps25
    go_wp2_with fail
    refine (laid_any _ _ [0, 0] [4, 4] _ (by repeat (first | refine Row.drew ?_ | exact Row.lit (get_top (by simp)) 2 rfl (by decide) | exact Row.lit (get_below (get_top (by simp))) 2 rfl (by decide))) (by repeat (first | refine Row.drew ?_ | exact Row.lit (get_top (by simp)) 2 rfl (by decide) | exact Row.lit (get_below (get_top (by simp))) 2 rfl (by decide))) rfl (by simp) HR.out (by decide)).mono ?_
    rw [HLD.out]
    rintro e w1 ⟨rfl, hb⟩
    have HB := Lib.hid hb
    have hblk : w1.heap[w.heap.size]? = some (.cells #[.string s, .int .i64 0, .int .i64 0] 34 (0, 0)) := (hb.block _ (by simp; omega)).trans (get_below (get_below (get_top rfl)))
    have cp := blk_cell hblk 0
    have hpl := blk_lt hblk
    have HB1 := Lib.hid (below_al3 w _ _ _ hb)
    clear hb hblk
    go_wp2_with fail
    refine wp_region_held_drew (S := (fun w' => w'.cell? ⟨w.heap.size, 0, none⟩ = some (.string s))) (by kernel_rfl) ?_ (fun hHeld => ?_)
    · (try dsimp only); first | go_keep | (rw [hb2.cell (by simp <;> omega)]; assumption)
    refine takeH (i := 0) (N := some 35) (v := ?_) rfl rfl (by kernel_rfl) (by kernel_rfl) (by kernel_rfl) (fun _ _ _ h => h) (Or.inl ⟨by rfl, ?_⟩) (by assumption) ?_
    rotate_left
    · intro w' hSw; (try dsimp only at hSw); go_simp; with_reducible rfl
    try simp only [Act.put, List.setIfInBounds_toArray, List.set_cons_zero, List.set_cons_succ]
    refine takeH (i := 1) (N := some 36) (v := ?_) rfl rfl (by kernel_rfl) (by kernel_rfl) (by kernel_rfl) (fun _ _ _ h => h) (Or.inl ⟨by rfl, ?_⟩) (by assumption) ?_
    rotate_left
    · intro w' hSw; (try dsimp only at hSw); go_simp; with_reducible rfl
    try simp only [Act.put, List.setIfInBounds_toArray, List.set_cons_zero, List.set_cons_succ]
    refine takeH (i := 2) (N := some 37) (v := ?_) rfl rfl (by kernel_rfl) (by kernel_rfl) (by kernel_rfl) (fun _ _ _ h => h) (Or.inl ⟨by rfl, ?_⟩) (by assumption) ?_
    rotate_left
    · intro w' hSw; (try dsimp only at hSw); go_simp; with_reducible rfl
    try simp only [Act.put, List.setIfInBounds_toArray, List.set_cons_zero, List.set_cons_succ]
    refine takeH (i := 3) (N := some 38) (v := ?_) rfl rfl (by kernel_rfl) (by kernel_rfl) (by kernel_rfl) (fun _ _ _ h => h) (Or.inl ⟨by rfl, ?_⟩) (by assumption) ?_
    rotate_left
    · intro w' hSw; (try dsimp only at hSw); go_simp; with_reducible rfl
    try simp only [Act.put, List.setIfInBounds_toArray, List.set_cons_zero, List.set_cons_succ]
    refine takeH (i := 6) (N := some 41) (v := ?_) rfl rfl (by kernel_rfl) (by kernel_rfl) (by kernel_rfl) (fun _ _ _ h => h) (Or.inl ⟨by rfl, ?_⟩) (by assumption) ?_
    rotate_left
    · intro w' hSw; (try dsimp only at hSw); go_simp; with_reducible rfl
    try simp only [Act.put, List.setIfInBounds_toArray, List.set_cons_zero, List.set_cons_succ]
    refine takeH (i := 7) (N := some 42) (v := ?_) rfl rfl (by kernel_rfl) (by kernel_rfl) (by kernel_rfl) (fun _ _ _ h => h) (Or.inl ⟨by rfl, ?_⟩) (by assumption) ?_
    rotate_left
    · intro w' hSw; (try dsimp only at hSw); go_simp; with_reducible rfl
    try simp only [Act.put, List.setIfInBounds_toArray, List.set_cons_zero, List.set_cons_succ]
    refine takeH (i := 9) (N := some 44) (v := ?_) rfl rfl (by kernel_rfl) (by kernel_rfl) (by kernel_rfl) (fun _ _ _ h => h) (Or.inl ⟨by rfl, ?_⟩) (by assumption) ?_
    rotate_left
    · intro w' hSw; (try dsimp only at hSw); go_simp; with_reducible rfl
    try simp only [Act.put, List.setIfInBounds_toArray, List.set_cons_zero, List.set_cons_succ]
    refine takeH (i := 10) (N := some 45) (v := ?_) rfl rfl (by kernel_rfl) (by kernel_rfl) (by kernel_rfl) (fun _ _ _ h => h) (Or.inl ⟨by rfl, ?_⟩) (by assumption) ?_
    rotate_left
    · intro w' hSw; (try dsimp only at hSw); go_simp; with_reducible rfl
    try simp only [Act.put, List.setIfInBounds_toArray, List.set_cons_zero, List.set_cons_succ]
    refine takeH (i := 11) (N := some 46) (v := ?_) rfl rfl (by kernel_rfl) (by kernel_rfl) (by kernel_rfl) (fun _ _ _ h => h) (Or.inl ⟨by rfl, ?_⟩) (by assumption) ?_
    rotate_left
    · intro w' hSw; (try dsimp only at hSw); go_simp; with_reducible rfl
    try simp only [Act.put, List.setIfInBounds_toArray, List.set_cons_zero, List.set_cons_succ]
    refine takeH (i := 12) (N := some 47) (v := ?_) rfl rfl (by kernel_rfl) (by kernel_rfl) (by kernel_rfl) (fun _ _ _ h => h) (Or.inl ⟨by rfl, ?_⟩) (by assumption) ?_
    rotate_left
    · intro w' hSw; (try dsimp only at hSw); go_simp; with_reducible rfl
    try simp only [Act.put, List.setIfInBounds_toArray, List.set_cons_zero, List.set_cons_succ]
    refine takeH (i := 15) (N := some 50) (v := ?_) rfl rfl (by kernel_rfl) (by kernel_rfl) (by kernel_rfl) (fun _ _ _ h => h) (Or.inl ⟨by rfl, ?_⟩) (by assumption) ?_
    rotate_left
    · intro w' hSw; (try dsimp only at hSw); go_simp; with_reducible rfl
    try simp only [Act.put, List.setIfInBounds_toArray, List.set_cons_zero, List.set_cons_succ]
    refine wpAnyH_ready (rs := [4, 13]) (by kernel_rfl) (by simp) ?_
    refine AllReadyH.cons rfl (fun K hK => ?_) ?_
    · go_simp
      refine hK.out _ _ ?_ (fun hHeld => ?_)
      · (try dsimp only); first | go_keep | (rw [hb2.cell (by simp <;> omega)]; assumption)
      clear hK K
      try simp only [Act.put, List.setIfInBounds_toArray, List.set_cons_zero, List.set_cons_succ]
      refine wpAnyH_ready (rs := [5, 13]) (by kernel_rfl) (by simp) ?_
      refine AllReadyH.cons rfl (fun K hK => ?_) ?_
      · go_simp
        refine hK.out _ _ ?_ (fun hHeld => ?_)
        · (try dsimp only); first | go_keep | (rw [hb2.cell (by simp <;> omega)]; assumption)
        clear hK K
        try simp only [Act.put, List.setIfInBounds_toArray, List.set_cons_zero, List.set_cons_succ]
        refine takeH (i := 8) (N := some 43) (v := ?_) rfl rfl (by kernel_rfl) (by kernel_rfl) (by kernel_rfl) (fun _ _ _ h => h) (Or.inl ⟨by rfl, ?_⟩) (by assumption) ?_
        rotate_left
        · intro w' hSw; (try dsimp only at hSw); go_simp; with_reducible rfl
        try simp only [Act.put, List.setIfInBounds_toArray, List.set_cons_zero, List.set_cons_succ]
        refine wpAnyH_ready (rs := [13]) (by kernel_rfl) (by simp) ?_
        refine AllReadyH.cons rfl (fun K hK => ?_) ?_
        · go_simp; go_at_call 45; refine (Noughts_any (19 - (s.size : Int)) (by omega) (by omega) _).mono ?_; rw [show strOfNums (List.replicate (19 - (s.size : Int)).toNat 0) = z from by rw [HZ.out]; congr 2; omega]; rintro e w2 ⟨rfl, hb2⟩; have hq := hb2.cell (p := ⟨w.heap.size, 0, none⟩) (by simp <;> omega); try (with_reducible have hq3 := conv_later hb2); try (rw [← HO.out] at hq3)
          refine hK.out _ _ ?_ (fun hHeld => ?_)
          · (try dsimp only); first | go_keep | (rw [hb2.cell (by simp <;> omega)]; assumption)
          clear hK K
          try simp only [Act.put, List.setIfInBounds_toArray, List.set_cons_zero, List.set_cons_succ]
          refine takeH (i := 14) (N := some 49) (v := ?_) rfl rfl (by kernel_rfl) (by kernel_rfl) (by kernel_rfl) (fun _ _ _ h => h) (Or.inl ⟨by rfl, ?_⟩) (by assumption) ?_
          rotate_left
          · intro w' hSw; (try dsimp only at hSw); go_simp; with_reducible rfl
          try simp only [Act.put, List.setIfInBounds_toArray, List.set_cons_zero, List.set_cons_succ]
          refine takeH (i := 16) (N := some 51) (v := ?_) rfl rfl (by kernel_rfl) (by kernel_rfl) (by kernel_rfl) (fun _ _ _ h => h) (Or.inl ⟨by rfl, ?_⟩) (by assumption) ?_
          rotate_left
          · intro w' hSw; (try dsimp only at hSw); go_simp; with_reducible rfl
          try simp only [Act.put, List.setIfInBounds_toArray, List.set_cons_zero, List.set_cons_succ]
          refine takeH (i := 17) (N := some 2) (v := ?_) rfl rfl (by kernel_rfl) (by kernel_rfl) (by kernel_rfl) (fun _ _ _ h => h) (Or.inl ⟨by rfl, ?_⟩) (by assumption) ?_
          rotate_left
          · intro w' hSw; (try dsimp only at hSw); go_simp; with_reducible rfl
          try simp only [Act.put, List.setIfInBounds_toArray, List.set_cons_zero, List.set_cons_succ]
          refine takeH (i := 18) (N := some 3) (v := ?_) rfl rfl (by kernel_rfl) (by kernel_rfl) (by kernel_rfl) (fun _ _ _ h => h) (Or.inl ⟨by rfl, ?_⟩) (by assumption) ?_
          rotate_left
          · intro w' hSw; (try dsimp only at hSw); go_simp; with_reducible rfl
          try simp only [Act.put, List.setIfInBounds_toArray, List.set_cons_zero, List.set_cons_succ]
          refine wpAnyH_done (by kernel_rfl) ?_ _
          go_wp2_with fail
          go_ret2
          rw [HS.out]
          exact ⟨rfl, by first | exact ((HB1.out.alloc HB1.out.size _).drew.trans (hb2.mono (by have := HB1.out.size; simp; omega))) | exact (HB1.out.drew.trans (hb2.mono HB1.out.size)).alloc (Nat.le_trans HB1.out.size hb2.size) _⟩
        exact AllReadyH.nil
      refine AllReadyH.cons rfl (fun K hK => ?_) ?_
      · go_simp; go_at_call 45; refine (Noughts_any (19 - (s.size : Int)) (by omega) (by omega) _).mono ?_; rw [show strOfNums (List.replicate (19 - (s.size : Int)).toNat 0) = z from by rw [HZ.out]; congr 2; omega]; rintro e w2 ⟨rfl, hb2⟩; have hq := hb2.cell (p := ⟨w.heap.size, 0, none⟩) (by simp <;> omega); try (with_reducible have hq3 := conv_later hb2); try (rw [← HO.out] at hq3)
        refine hK.out _ _ ?_ (fun hHeld => ?_)
        · (try dsimp only); first | go_keep | (rw [hb2.cell (by simp <;> omega)]; assumption)
        clear hK K
        try simp only [Act.put, List.setIfInBounds_toArray, List.set_cons_zero, List.set_cons_succ]
        refine wpAnyH_ready (rs := [5]) (by kernel_rfl) (by simp) ?_
        refine AllReadyH.cons rfl (fun K hK => ?_) ?_
        · go_simp
          refine hK.out _ _ ?_ (fun hHeld => ?_)
          · (try dsimp only); first | go_keep | (rw [hb2.cell (by simp <;> omega)]; assumption)
          clear hK K
          try simp only [Act.put, List.setIfInBounds_toArray, List.set_cons_zero, List.set_cons_succ]
          refine takeH (i := 8) (N := some 43) (v := ?_) rfl rfl (by kernel_rfl) (by kernel_rfl) (by kernel_rfl) (fun _ _ _ h => h) (Or.inl ⟨by rfl, ?_⟩) (by assumption) ?_
          rotate_left
          · intro w' hSw; (try dsimp only at hSw); go_simp; with_reducible rfl
          try simp only [Act.put, List.setIfInBounds_toArray, List.set_cons_zero, List.set_cons_succ]
          refine takeH (i := 14) (N := some 49) (v := ?_) rfl rfl (by kernel_rfl) (by kernel_rfl) (by kernel_rfl) (fun _ _ _ h => h) (Or.inl ⟨by rfl, ?_⟩) (by assumption) ?_
          rotate_left
          · intro w' hSw; (try dsimp only at hSw); go_simp; with_reducible rfl
          try simp only [Act.put, List.setIfInBounds_toArray, List.set_cons_zero, List.set_cons_succ]
          refine takeH (i := 16) (N := some 51) (v := ?_) rfl rfl (by kernel_rfl) (by kernel_rfl) (by kernel_rfl) (fun _ _ _ h => h) (Or.inl ⟨by rfl, ?_⟩) (by assumption) ?_
          rotate_left
          · intro w' hSw; (try dsimp only at hSw); go_simp; with_reducible rfl
          try simp only [Act.put, List.setIfInBounds_toArray, List.set_cons_zero, List.set_cons_succ]
          refine takeH (i := 17) (N := some 2) (v := ?_) rfl rfl (by kernel_rfl) (by kernel_rfl) (by kernel_rfl) (fun _ _ _ h => h) (Or.inl ⟨by rfl, ?_⟩) (by assumption) ?_
          rotate_left
          · intro w' hSw; (try dsimp only at hSw); go_simp; with_reducible rfl
          try simp only [Act.put, List.setIfInBounds_toArray, List.set_cons_zero, List.set_cons_succ]
          refine takeH (i := 18) (N := some 3) (v := ?_) rfl rfl (by kernel_rfl) (by kernel_rfl) (by kernel_rfl) (fun _ _ _ h => h) (Or.inl ⟨by rfl, ?_⟩) (by assumption) ?_
          rotate_left
          · intro w' hSw; (try dsimp only at hSw); go_simp; with_reducible rfl
          try simp only [Act.put, List.setIfInBounds_toArray, List.set_cons_zero, List.set_cons_succ]
          refine wpAnyH_done (by kernel_rfl) ?_ _
          go_wp2_with fail
          go_ret2
          rw [HS.out]
          exact ⟨rfl, by first | exact ((HB1.out.alloc HB1.out.size _).drew.trans (hb2.mono (by have := HB1.out.size; simp; omega))) | exact (HB1.out.drew.trans (hb2.mono HB1.out.size)).alloc (Nat.le_trans HB1.out.size hb2.size) _⟩
        exact AllReadyH.nil
      exact AllReadyH.nil
    refine AllReadyH.cons rfl (fun K hK => ?_) ?_
    · go_simp; go_at_call 45; refine (Noughts_any (19 - (s.size : Int)) (by omega) (by omega) _).mono ?_; rw [show strOfNums (List.replicate (19 - (s.size : Int)).toNat 0) = z from by rw [HZ.out]; congr 2; omega]; rintro e w2 ⟨rfl, hb2⟩; have hq := hb2.cell (p := ⟨w.heap.size, 0, none⟩) (by simp <;> omega); try (with_reducible have hq3 := conv_later hb2); try (rw [← HO.out] at hq3)
      refine hK.out _ _ ?_ (fun hHeld => ?_)
      · (try dsimp only); first | go_keep | (rw [hb2.cell (by simp <;> omega)]; assumption)
      clear hK K
      try simp only [Act.put, List.setIfInBounds_toArray, List.set_cons_zero, List.set_cons_succ]
      refine wpAnyH_ready (rs := [4]) (by kernel_rfl) (by simp) ?_
      refine AllReadyH.cons rfl (fun K hK => ?_) ?_
      · go_simp
        refine hK.out _ _ ?_ (fun hHeld => ?_)
        · (try dsimp only); first | go_keep | (rw [hb2.cell (by simp <;> omega)]; assumption)
        clear hK K
        try simp only [Act.put, List.setIfInBounds_toArray, List.set_cons_zero, List.set_cons_succ]
        refine wpAnyH_ready (rs := [5]) (by kernel_rfl) (by simp) ?_
        refine AllReadyH.cons rfl (fun K hK => ?_) ?_
        · go_simp
          refine hK.out _ _ ?_ (fun hHeld => ?_)
          · (try dsimp only); first | go_keep | (rw [hb2.cell (by simp <;> omega)]; assumption)
          clear hK K
          try simp only [Act.put, List.setIfInBounds_toArray, List.set_cons_zero, List.set_cons_succ]
          refine takeH (i := 8) (N := some 43) (v := ?_) rfl rfl (by kernel_rfl) (by kernel_rfl) (by kernel_rfl) (fun _ _ _ h => h) (Or.inl ⟨by rfl, ?_⟩) (by assumption) ?_
          rotate_left
          · intro w' hSw; (try dsimp only at hSw); go_simp; with_reducible rfl
          try simp only [Act.put, List.setIfInBounds_toArray, List.set_cons_zero, List.set_cons_succ]
          refine takeH (i := 14) (N := some 49) (v := ?_) rfl rfl (by kernel_rfl) (by kernel_rfl) (by kernel_rfl) (fun _ _ _ h => h) (Or.inl ⟨by rfl, ?_⟩) (by assumption) ?_
          rotate_left
          · intro w' hSw; (try dsimp only at hSw); go_simp; with_reducible rfl
          try simp only [Act.put, List.setIfInBounds_toArray, List.set_cons_zero, List.set_cons_succ]
          refine takeH (i := 16) (N := some 51) (v := ?_) rfl rfl (by kernel_rfl) (by kernel_rfl) (by kernel_rfl) (fun _ _ _ h => h) (Or.inl ⟨by rfl, ?_⟩) (by assumption) ?_
          rotate_left
          · intro w' hSw; (try dsimp only at hSw); go_simp; with_reducible rfl
          try simp only [Act.put, List.setIfInBounds_toArray, List.set_cons_zero, List.set_cons_succ]
          refine takeH (i := 17) (N := some 2) (v := ?_) rfl rfl (by kernel_rfl) (by kernel_rfl) (by kernel_rfl) (fun _ _ _ h => h) (Or.inl ⟨by rfl, ?_⟩) (by assumption) ?_
          rotate_left
          · intro w' hSw; (try dsimp only at hSw); go_simp; with_reducible rfl
          try simp only [Act.put, List.setIfInBounds_toArray, List.set_cons_zero, List.set_cons_succ]
          refine takeH (i := 18) (N := some 3) (v := ?_) rfl rfl (by kernel_rfl) (by kernel_rfl) (by kernel_rfl) (fun _ _ _ h => h) (Or.inl ⟨by rfl, ?_⟩) (by assumption) ?_
          rotate_left
          · intro w' hSw; (try dsimp only at hSw); go_simp; with_reducible rfl
          try simp only [Act.put, List.setIfInBounds_toArray, List.set_cons_zero, List.set_cons_succ]
          refine wpAnyH_done (by kernel_rfl) ?_ _
          go_wp2_with fail
          go_ret2
          rw [HS.out]
          exact ⟨rfl, by first | exact ((HB1.out.alloc HB1.out.size _).drew.trans (hb2.mono (by have := HB1.out.size; simp; omega))) | exact (HB1.out.drew.trans (hb2.mono HB1.out.size)).alloc (Nat.le_trans HB1.out.size hb2.size) _⟩
        exact AllReadyH.nil
      exact AllReadyH.nil
    exact AllReadyH.nil
  · have hgf : good (entryFs 0 0) = false := by simpa using hgood
    have hld : laidSpec (sides [0, 0] [4, 4]) = (⟨#[]⟩, false) := by
      rw [laidSpec, show sides [0, 0] [4, 4] = entryFs 0 0 from rfl, hgf]
      rfl
    have hs : entrySpec s 0 0 = (⟨#[]⟩, 2) := by
      rw [entrySpec, if_neg (by omega), if_neg (by simp), if_neg hgood]
    have HLD := Lib.hid hld
    have HS := Lib.hid hs
    clear hld hs hgood hgf
    go_enter Try.func25, Try.ntmps25
    go_wp2_with fail
    refine (laid_any _ _ [0, 0] [4, 4] _ (by repeat (first | refine Row.drew ?_ | exact Row.lit (get_top (by simp)) 2 rfl (by decide) | exact Row.lit (get_below (get_top (by simp))) 2 rfl (by decide))) (by repeat (first | refine Row.drew ?_ | exact Row.lit (get_top (by simp)) 2 rfl (by decide) | exact Row.lit (get_below (get_top (by simp))) 2 rfl (by decide))) rfl (by simp) HR.out (by decide)).mono ?_
    rw [HLD.out]
    rintro e w1 ⟨rfl, hb⟩
    have HB1 := Lib.hid (below_al3 w _ _ _ hb)
    clear hb
    go_wp2
    go_ret2
    rw [HS.out]
    exact ⟨rfl, HB1.out⟩

theorem refEntry_refused (s : ByteArray) (a1 a2 : Int) (h : 19 < s.size ∨ (s.size = 0 ∧ (a1 ≠ 0 ∨ a2 ≠ 0))) (w : World) :
    Calls Try.prog 25 #[.agg #[.string s, .int .i64 a1, .int .i64 a2]] w fun e w' => e = .returned (.tuple #[.string (entrySpec s a1 a2).1, .int .i64 (entrySpec s a1 a2).2]) ∧ Below w.heap.size w w' := by
  have hu := Try.underlying34
  by_cases h19 : 19 < s.size
  · have hs : entrySpec s a1 a2 = (⟨#[]⟩, 4) := by rw [entrySpec, if_pos h19]
    have HS := Lib.hid hs
    clear hs h
    go_enter Try.func25, Try.ntmps25
    go_wp2
    go_ret2
    rw [HS.out]
    exact ⟨rfl, (Below.refl _ w).alloc (Nat.le_refl _) _⟩
  obtain ⟨h0, hn⟩ : s.size = 0 ∧ (a1 ≠ 0 ∨ a2 ≠ 0) := by
    rcases h with h | h
    · exact absurd h h19
    · exact h
  obtain rfl := empty_of_size h0
  have hs : entrySpec ⟨#[]⟩ a1 a2 = (⟨#[]⟩, 5) := by rw [entrySpec, if_neg h19, if_pos ⟨h0, hn⟩]
  have HS := Lib.hid hs
  clear hs h h19 h0
  by_cases h1 : a1 = 0
  · have h2 : (a2 != 0) = true := by
      rcases hn with h | h
      · exact absurd h1 h
      · simp [h]
    subst h1
    clear hn
    go_enter Try.func25, Try.ntmps25
    go_wp2
    go_ret2
    rw [HS.out]
    exact ⟨rfl, (Below.refl _ w).alloc (Nat.le_refl _) _⟩
  · have h2 : (a1 != 0) = true := by simp [h1]
    clear hn
    go_enter Try.func25, Try.ntmps25
    go_wp2
    go_ret2
    rw [HS.out]
    exact ⟨rfl, (Below.refl _ w).alloc (Nat.le_refl _) _⟩
theorem refEntry_any (s : ByteArray) (a1 a2 : Int) (hi : ∀ x ∈ [a1, a2], -9223372036854775808 ≤ x ∧ x ≤ 9223372036854775807) (w : World) :
    Calls Try.prog 25 #[.agg #[.string s, .int .i64 a1, .int .i64 a2]] w fun e w' => e = .returned (.tuple #[.string (entrySpec s a1 a2).1, .int .i64 (entrySpec s a1 a2).2]) ∧ Below w.heap.size w w' := by
  by_cases h : 19 < s.size ∨ (s.size = 0 ∧ (a1 ≠ 0 ∨ a2 ≠ 0))
  · exact refEntry_refused s a1 a2 h w
  have h19 : ¬ 19 < s.size := fun h' => h (.inl h')
  by_cases h0 : s.size = 0
  · obtain rfl : a1 = 0 := Classical.byContradiction fun h1 => h (.inr ⟨h0, .inl h1⟩)
    obtain rfl : a2 = 0 := Classical.byContradiction fun h1 => h (.inr ⟨h0, .inr h1⟩)
    exact refEntry_none s h0 hi w
  · exact refEntry_some s a1 a2 h19 h0 hi w
end Go.Proofs.Ytpbmgollolbgoaa.B
