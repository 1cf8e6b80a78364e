/-
  The document's Of, walked by hand.
-/
import Derived.Test.YthobfbiobnmceaaRefBytes
namespace Go.Proofs.Ythobfbiobnmceaa.B
open Go.RowKit
set_option linter.unusedVariables false
set_option linter.unusedSimpArgs false

theorem refGet_at (s : ByteArray) (o d : Int) (o' d' : Nat) (ho : o = o') (hd : d = d') (hs : s.size ≤ 100000) (h1 : 1 ≤ d') (h6 : d' ≤ 6) (h : o' + d' ≤ s.size) (w : World) :
    Calls Try.prog 32 #[.string s, .int .i64 o, .int .i64 d] w fun e w' => e = .returned (.tuple #[.int .i64 (num s o' d'), .int .i64 0]) ∧ w = w' := by
  subst ho hd
  have hg : getSpec s o' d' = (num s o' d', 0) := by rw [getSpec, if_neg (by omega), if_neg (by omega)]; rfl
  have := refGet_any s o' d' (by omega) w
  rw [hg] at this
  exact this
set_option maxRecDepth 100000 in
set_option maxHeartbeats 3200000 in
theorem refOf_any (s : ByteArray) (hs : s.size ≤ 14000) (w : World) :
    Calls Try.prog 16 #[.string s] w (RepPost w (repOf s)) := by
  have hu24 := Try.underlying24
  have hu54 := Try.underlying54
  obtain ⟨R, hR⟩ : ∃ R, R = repOf s := ⟨_, rfl⟩
  rw [← hR]
  unfold repOf at hR
  by_cases h20 : s.size < 20
  · have i1 : (s.size : Int) < 20 := by omega
    rw [if_pos h20] at hR
    have HR := Lib.hid hR
    clear hR
    go_enter Try.func16, Try.ntmps16
    go_wp2_with fail
    rw [HR.out]
    refine bodyPost_ret (v := .tuple #[.agg #[.int .i64 0, .int .i64 0, .int .i64 0, .slice none 0 0], .int .i64 3]) (by simp [results, Try.results16, go_sem]) rfl ⟨_, rfl, FndRow.nil _, ?_⟩
    exact (Below.refl _ w).alloc (Nat.le_refl _) _
  · have i1 : ¬ (s.size : Int) < 20 := by omega
    rw [if_neg h20] at hR
    have G0 := Lib.hid (refGet_at s 0 6 0 6 rfl rfl (by omega) (by omega) (by omega) (by omega))
    have G1 := Lib.hid (refGet_at s 6 6 6 6 rfl rfl (by omega) (by omega) (by omega) (by omega))
    have G2 := Lib.hid (refGet_at s 12 4 12 4 rfl rfl (by omega) (by omega) (by omega) (by omega))
    have G3 := Lib.hid (refGet_at s 16 4 16 4 rfl rfl (by omega) (by omega) (by omega) (by omega))
    have hn := num_range s 16 4
    obtain ⟨n3, hn3⟩ : ∃ n, n = num s 16 4 := ⟨_, rfl⟩
    rw [← hn3] at hn hR G3
    have hn0 := hn.1
    have hn1 : n3 < 4294967296 := hn.2
    have HR := Lib.hid hR
    clear hR hn hn3
    go_enter Try.func16, Try.ntmps16
    go_wp2_with fail
    refine (G0.out _).mono ?_
    rintro e W1 ⟨rfl, rfl⟩
    obtain ⟨gr, hgr⟩ : ∃ g, g = w.heap.size := ⟨_, rfl⟩
    obtain ⟨W0, hW0⟩ : ∃ W, W = w.alloc (.cells #[.int .i64 0, .int .i64 0, .int .i64 0, .slice none 0 0] 24 (0, 0)) := ⟨_, rfl⟩
    have hz : W0.heap[gr]? = some (.cells #[.int .i64 0, .int .i64 0, .int .i64 0, .slice none 0 0] 24 (0, 0)) := by rw [hW0, hgr]; exact get_top rfl
    have hbel0 : Below w.heap.size w W0 := by rw [hW0]; exact (Below.refl _ w).alloc (Nat.le_refl _) _
    have r0 := (blk_cell hz 0).trans rfl
    have r1 := (blk_cell hz 1).trans rfl
    have r2 := (blk_cell hz 2).trans rfl
    have r3 := (blk_cell hz 3).trans rfl
    have fr0 := blk_frozen hz 0
    have fr1 := blk_frozen hz 1
    have fr2 := blk_frozen hz 2
    have fr3 := blk_frozen hz 3
    have hlt0 := blk_lt hz
    have HZ := Lib.hid hz
    have HB0 := Lib.hid hbel0
    have HGR := Lib.hid hgr
    have HW0 := Lib.hid hW0
    clear hz hbel0 hgr hW0
    rw [← HW0.out, ← HGR.out]
    clear HW0
    go_wp2_with fail
    refine (G1.out _).mono ?_
    rintro e W1 ⟨rfl, rfl⟩
    go_wp2_with fail
    refine (G2.out _).mono ?_
    rintro e W1 ⟨rfl, rfl⟩
    go_wp2_with fail
    refine (G3.out _).mono ?_
    rintro e W1 ⟨rfl, rfl⟩
    clear G0 G1 G2 G3
    have hR := HR.out
    by_cases hA : n3 > ((s.size - 20) / 14 : Nat)
    · rw [if_pos hA] at hR
      subst hR
      have hA' : (s.size : Int) - 20 < 14 * n3 := by omega
      clear HR hA
      go_wp2_with fail
      refine bodyPost_ret (v := .tuple #[.agg #[.int .i64 0, .int .i64 0, .int .i64 0, .slice none 0 0], .int .i64 3]) (by simp [results, Try.results16, go_sem, r0, r1, r2, r3]) rfl ⟨_, rfl, FndRow.nil _, ?_⟩
      exact (((HB0.out.setCell (p := ⟨gr, 0, none⟩) (by rw [HGR.out]; exact Nat.le_refl _) _).setCell (p := ⟨gr, 1, none⟩) (by rw [HGR.out]; exact Nat.le_refl _) _).setCell (p := ⟨gr, 2, none⟩) (by rw [HGR.out]; exact Nat.le_refl _) _).setCell (p := ⟨gr, 3, none⟩) (by rw [HGR.out]; exact Nat.le_refl _) _
    · rw [if_neg hA] at hR
      by_cases hB : ((s.size - 20 : Nat) : Int) > n3 * 14
      · rw [if_pos hB] at hR
        subst hR
        have hA' : ¬ (s.size : Int) - 20 < 14 * n3 := by omega
        have hB' : 14 * n3 < (s.size : Int) - 20 := by omega
        clear HR hA hB
        go_wp2_with fail
        refine bodyPost_ret (v := .tuple #[.agg #[.int .i64 0, .int .i64 0, .int .i64 0, .slice none 0 0], .int .i64 4]) (by simp [results, Try.results16, go_sem, r0, r1, r2, r3]) rfl ⟨_, rfl, FndRow.nil _, ?_⟩
        exact (((HB0.out.setCell (p := ⟨gr, 0, none⟩) (by rw [HGR.out]; exact Nat.le_refl _) _).setCell (p := ⟨gr, 1, none⟩) (by rw [HGR.out]; exact Nat.le_refl _) _).setCell (p := ⟨gr, 2, none⟩) (by rw [HGR.out]; exact Nat.le_refl _) _).setCell (p := ⟨gr, 3, none⟩) (by rw [HGR.out]; exact Nat.le_refl _) _
      · rw [if_neg hB] at hR
        obtain ⟨m, hm⟩ : ∃ m, m = (s.size - 20) / 14 := ⟨_, rfl⟩
        have hn3m : n3 = (m : Int) := by omega
        have hsm : s.size = 20 + 14 * m := by omega
        rw [← hm] at hR
        have HNM := Lib.hid hn3m
        have hA' : 14 * n3 ≤ (s.size : Int) - 20 := by omega
        have hB' : (s.size : Int) - 20 ≤ 14 * n3 := by omega
        have HRm := Lib.hid hR
        have HM := Lib.hid hsm
        clear HR
        clear hR hA hB hm hsm hn3m r0 r1 r2 r3 fr0 fr1 fr2 fr3
        go_wp2_with fail
        obtain rfl := HNM.out
        have hF0 : FndI w W0.heap.size s 0 (.slice none 0 0) (W0.alloc (.cells #[.int .i64 (num s 0 6), .int .i64 (num s 6 6), .int .i64 (num s 12 4), .slice none 0 0] 24 (0, 0))) :=
          ⟨HB0.out.alloc HB0.out.size _, by rw [← HGR.out]; exact hlt0, (Lib.alloc_old _ _ _ (by rw [← HGR.out]; exact hlt0)).trans (by rw [← HGR.out]; exact HZ.out), get_top rfl, Row.nil _ _ _, by simp [Value.ownBlock]⟩
        generalize (W0.alloc (.cells #[.int .i64 (num s 0 6), .int .i64 (num s 6 6), .int .i64 (num s 12 4), .slice none 0 0] 24 (0, 0))) = W5 at hF0 ⊢
        obtain ⟨g8, hg8⟩ : ∃ g, g = W0.heap.size := ⟨_, rfl⟩
        rw [← hg8] at hF0 ⊢
        have HF0 := Lib.hid hF0
        clear hF0 hg8 HZ HB0 HNM hA' hB' hlt0 hn0 hn1
        go_loopg [13] m (fun j i wr => ∃ (k : Nat) (v : Value), j + k = m ∧ i = .int .i64 (k : Int) ∧ FndI w g8 s k v wr)
        case atStart => exact ⟨0, _, rfl, rfl, HF0.out⟩
        case round =>
          clear HF0
          obtain ⟨k, v, hk, rfl, hF⟩ := hrel
          by_cases hlt : k < m
          · obtain ⟨j, rfl⟩ : ∃ j, gk = j + 1 := ⟨gk - 1, by omega⟩
            have hsm := HM.out
            have hjk : j + (k + 1) = m := by omega
            obtain ⟨P, hP⟩ : ∃ P, P = 20 + 14 * k := ⟨_, rfl⟩
            have hPs : P + 14 ≤ s.size := by omega
            have eP : 20 + 14 * (k : Int) = (P : Int) := by omega
            have HEP := Lib.hid eP
            clear eP
            have G4 := Lib.hid (refGet_at s P 2 P 2 rfl rfl (by omega) (by omega) (by omega) (by omega))
            have G5 := Lib.hid (refGet_at s (P + 2) 4 (P + 2) 4 rfl rfl (by omega) (by omega) (by omega) (by omega))
            have G6 := Lib.hid (refGet_at s (P + 6) 4 (P + 6) 4 rfl rfl (by omega) (by omega) (by omega) (by omega))
            have G7 := Lib.hid (refGet_at s (P + 10) 4 (P + 10) 4 rfl rfl (by omega) (by omega) (by omega) (by omega))
            obtain ⟨ff, hff⟩ : ∃ f, f = fndAt s P := ⟨_, rfl⟩
            have G4 := Lib.hid (show ∀ w, Calls Try.prog 32 #[.string s, .int .i64 P, .int .i64 2] w fun e w' => e = .returned (.tuple #[.int .i64 ff.a, .int .i64 0]) ∧ w = w' by rw [hff]; exact G4.out)
            have G5 := Lib.hid (show ∀ w, Calls Try.prog 32 #[.string s, .int .i64 (P + 2), .int .i64 4] w fun e w' => e = .returned (.tuple #[.int .i64 ff.b, .int .i64 0]) ∧ w = w' by rw [hff]; exact G5.out)
            have G6 := Lib.hid (show ∀ w, Calls Try.prog 32 #[.string s, .int .i64 (P + 6), .int .i64 4] w fun e w' => e = .returned (.tuple #[.int .i64 ff.c, .int .i64 0]) ∧ w = w' by rw [hff]; exact G6.out)
            have G7 := Lib.hid (show ∀ w, Calls Try.prog 32 #[.string s, .int .i64 (P + 10), .int .i64 4] w fun e w' => e = .returned (.tuple #[.int .i64 ff.d, .int .i64 0]) ∧ w = w' by rw [hff]; exact G7.out)
            have HFF := Lib.hid hff
            have HPK := Lib.hid hP
            have u0 : (0 : Int) ≤ (k : Int) := by omega
            have u1 : (k : Int) < (m : Int) := by omega
            have u2 : (P : Int) ≤ 100000 := by omega
            have u3 : (k : Int) ≤ 100000 := by omega
            obtain ⟨ao, cap, rfl, hcap⟩ := hF.row.form
            have HF := Lib.hid hF
            clear hF hk hP hlt hsm hff hPs
            go_wp2_with fail
            rw [HEP.out]
            refine (G4.out _).mono ?_
            rintro e W1 ⟨rfl, rfl⟩
            go_wp2_with fail
            refine (G5.out _).mono ?_
            rintro e W1 ⟨rfl, rfl⟩
            go_wp2_with fail
            refine (G6.out _).mono ?_
            rintro e W1 ⟨rfl, rfl⟩
            go_wp2_with fail
            refine (G7.out _).mono ?_
            rintro e W1 ⟨rfl, rfl⟩
            have hr8 := HF.out.r
            have c83 := (blk_cell hr8 3).trans rfl
            have f83 := blk_frozen hr8 3
            have hlt8 := blk_lt hr8
            obtain ⟨i0, hi, hz0, hz1, hz2⟩ := info_parts infoFinding
            have HII := Lib.hid hi
            have HZ0 := Lib.hid hz0
            have HZ1 := Lib.hid hz1
            have HZ2 := Lib.hid hz2
            have HNE := Lib.hid (HF.out.row.ne_type HF.out.r (by decide))
            have hkm : k ≤ 1000000 := by omega
            clear hi hz0 hz1 hz2 hr8 G4 G5 G6 G7 HEP
            go_wp2_with (refine wpList_append_row _ (by rfl) _ _ _ _ (by rfl) 54 i0 (.agg #[.int .i64 0, .int .i64 0, .int .i64 0, .int .i64 0]) 4 32 Try.underlying22 HII.out HZ0.out HZ1.out HZ2.out rfl (by omega) _ _ _ (by rfl) (HF.out.row.alloc _) _ (by rfl) 1 [.int .i64 ff.a, .int .i64 ff.b, .int .i64 ff.c, .int .i64 ff.d] (Feeds.slice Try.underlying22 ⟨wr.heap.size, 0, none⟩ 1 1 _ (by rfl) (by simp [Value.oneCell']) (World.news_of_block (cs := #[.int .i64 ff.a, .int .i64 ff.b, .int .i64 ff.c, .int .i64 ff.d]) (t := 54) (fr := (0, 0)) (heap_alloc_new wr _))) (by unfold maxLen; omega) (by omega) (wr.heap.size + 1) (by simp) ?_; intro ao5 cap5 w5 hown5 hgrow5 hat5; have hr5 := (hgrow5.block g8 (by simp; omega) HNE.out).trans ((Lib.alloc_old wr _ g8 (blk_lt HF.out.r)).trans HF.out.r); have c85 := blk_cell hr5 3; have f85 := blk_frozen hr5 3; have HA5 := Lib.hid (FndI.app HF.out ((Below.refl _ wr).alloc (Nat.le_refl _) _) (by rw [HFF.out, HPK.out]) hown5 hgrow5 (by simpa using hat5)); clear hown5 hgrow5 hat5 hr5)
            go_roundg j
            case measure => omega
            case rel => exact ⟨k + 1, _, hjk, by go_num, HA5.out⟩
          · obtain rfl : gk = 0 := by omega
            obtain rfl : k = m := by omega
            have hsm := HM.out
            obtain ⟨ao, cap, rfl, hcap⟩ := hF.row.form
            have hl := fndsOf_length s k
            have hrow : FndRow wr (.slice ao k cap) (fndsOf s k) := fndRow_row (by rw [hl]; exact hF.row) (fndsOf_wf s k)
            have c83 := (blk_cell hF.r 3).trans rfl
            have HF := Lib.hid hF
            have HRI := Lib.hid (fun (W : World) (h : FndRow W (.slice ao k cap) (fndsOf s k)) => Rises_any _ _ (by rw [hl]; omega) W h)
            have HROW := Lib.hid hrow
            obtain ⟨bb, hbb⟩ : ∃ b, b = rises (fndsOf s k) := ⟨_, rfl⟩
            have hR := HRm.out
            rw [← hbb] at hR HRI
            have HR2 := Lib.hid hR
            clear hF hrow hbb hsm HRm hl hR
            go_wp2_with fail
            refine (HRI.out _ HROW.out).mono ?_
            rintro e W8 ⟨rfl, hb8⟩
            have hF8 := HF.out.below hb8
            have HROW8 := Lib.hid (HROW.out.below hb8)
            have hz := hF8.z
            rw [← HGR.out] at hz
            have hr8 := hF8.r
            have r0 := (blk_cell hz 0).trans rfl
            have r1 := (blk_cell hz 1).trans rfl
            have r2 := (blk_cell hz 2).trans rfl
            have r3 := (blk_cell hz 3).trans rfl
            have fr0 := blk_frozen hz 0
            have fr1 := blk_frozen hz 1
            have fr2 := blk_frozen hz 2
            have fr3 := blk_frozen hz 3
            have t0 := (blk_cell hr8 0).trans rfl
            have t1 := (blk_cell hr8 1).trans rfl
            have t2 := (blk_cell hr8 2).trans rfl
            have t3 := (blk_cell hr8 3).trans rfl
            have HF8 := Lib.hid hF8
            have hR := HR2.out
            clear hF8 hz hr8 hb8 HF HROW HRI c83 HR2
            cases bb with
            | false =>
              rw [if_neg (by simp)] at hR
              have HR := Lib.hid hR
              clear hR
              go_wp2_with fail
              rw [HR.out]
              refine bodyPost_ret (v := .tuple #[.agg #[.int .i64 0, .int .i64 0, .int .i64 0, .slice none 0 0], .int .i64 5]) (by simp [results, Try.results16, go_sem, r0, r1, r2, r3]) rfl ⟨_, rfl, FndRow.nil _, ?_⟩
              exact (((HF8.out.bel.setCell (p := ⟨gr, 0, none⟩) (by rw [HGR.out]; exact Nat.le_refl _) _).setCell (p := ⟨gr, 1, none⟩) (by rw [HGR.out]; exact Nat.le_refl _) _).setCell (p := ⟨gr, 2, none⟩) (by rw [HGR.out]; exact Nat.le_refl _) _).setCell (p := ⟨gr, 3, none⟩) (by rw [HGR.out]; exact Nat.le_refl _) _
            | true =>
              rw [if_pos rfl] at hR
              have HR := Lib.hid hR
              clear hR
              go_wp2_with fail
              rw [HR.out]
              refine bodyPost_ret (v := .tuple #[.agg #[.int .i64 (num s 0 6), .int .i64 (num s 6 6), .int .i64 (num s 12 4), .slice ao k cap], .int .i64 0]) (by simp [results, Try.results16, go_sem, r0, r1, r2, r3]) rfl ⟨_, rfl, ?_, ?_⟩
              · refine fndRow_row ?_ (fndsOf_wf s k)
                rw [fndsOf_length]
                refine HF8.out.row.kept (S := fun i => i = gr) (Keeps.setCell (S := fun i => i = gr) (Keeps.setCell (S := fun i => i = gr) (Keeps.setCell (S := fun i => i = gr) (Keeps.setCell (S := fun i => i = gr) (Keeps.refl _ _) (fun _ => rfl) _) (fun _ => rfl) _) (fun _ => rfl) _) (fun _ => rfl) _) (fun b hb he => ?_)
                have := HF8.out.own b hb
                have := HGR.out
                omega
              · exact (((HF8.out.bel.setCell (p := ⟨gr, 0, none⟩) (by rw [HGR.out]; exact Nat.le_refl _) _).setCell (p := ⟨gr, 1, none⟩) (by rw [HGR.out]; exact Nat.le_refl _) _).setCell (p := ⟨gr, 2, none⟩) (by rw [HGR.out]; exact Nat.le_refl _) _).setCell (p := ⟨gr, 3, none⟩) (by rw [HGR.out]; exact Nat.le_refl _) _
end Go.Proofs.Ythobfbiobnmceaa.B
