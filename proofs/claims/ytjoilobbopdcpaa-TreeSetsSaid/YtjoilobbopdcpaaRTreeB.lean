/-
  The document's Rows, walked: its rows are a tree's.
-/
import Derived.Test.YtjoilobbopdcpaaRTreeA
namespace Go.Proofs.Ytjoilobbopdcpaa.B
open Go.RowKit
set_option linter.unusedVariables false
set_option linter.unusedSimpArgs false

def leavesF (l : List ByteArray) : List ByteArray := l.map (fun s => shaF (leafT s))
def upF (row : List ByteArray) : List ByteArray := (List.range ((row.length + 3) / 4)).map (fun i => shaF (nodeT (groupL row i)))
theorem leavesF_len (l : List ByteArray) : (leavesF l).length = l.length := by simp [leavesF]
theorem upF_len (row : List ByteArray) : (upF row).length = (row.length + 3) / 4 := by simp [upF]
theorem leavesF_take {l : List ByteArray} {q : Nat} (h : q < l.length) : (leavesF l).take (q + 1) = (leavesF l).take q ++ [shaF (leafT l[q])] := by
  rw [List.take_add_one, List.getElem?_eq_getElem (by rw [leavesF_len]; exact h)]
  simp [leavesF]
theorem upF_take {row : List ByteArray} {q : Nat} (h : q < (row.length + 3) / 4) : (upF row).take (q + 1) = (upF row).take q ++ [shaF (nodeT (groupL row q))] := by
  rw [List.take_add_one, List.getElem?_eq_getElem (by rw [upF_len]; exact h)]
  simp [upF]
theorem leavesF_leaves (ks l : List ByteArray) : Leaves (some shaF) ks l (leavesF l) :=
  ⟨leavesF_len l, fun i s hs => ⟨_, by rw [leavesF, List.getElem?_map, hs]; rfl, rfl⟩⟩
theorem upF_nodes (ks row : List ByteArray) : Nodes (some shaF) ks row (upF row) :=
  ⟨upF_len row, fun i hi => ⟨_, by rw [List.getElem?_eq_getElem hi], by simp [upF, Hd]⟩⟩
theorem infoRow : (Try.prog.info? 81).map (fun i => (i.zero, i.size, i.bytes)) = some (some (.agg #[.slice none 0 0]), 1, 24) := by kernel_rfl
/-- Rows in memory of the call's own. -/
structure RowsM (b0 : Nat) (rows : List (List ByteArray)) (vr : Value) (vs : List Value) (W : World) : Prop where
  outer : Own b0 W 81 1 vr vs.length vs
  len : vs.length = rows.length
  inner : ∀ (i : Nat) v row, vs[i]? = some v → rows[i]? = some row → Own b0 W 9 1 v row.length (strs row)
theorem RowsM.below {b0 : Nat} {rows : List (List ByteArray)} {vr : Value} {vs : List Value} {W W' : World} (h : RowsM b0 rows vr vs W) (hb : Below W.heap.size W W') : RowsM b0 rows vr vs W' :=
  ⟨h.outer.step hb, h.len, fun i v row h1 h2 => (h.inner i v row h1 h2).step hb⟩
theorem RowsM.push {b0 m cap capr : Nat} {ao aor : Option Addr} {rows : List (List ByteArray)} {cur : List ByteArray} {vc : Value} {vs : List Value} {W w5 : World} (h : RowsM b0 rows (.slice aor m capr) vs W) (hm : m = vs.length) (hc : Own b0 W 9 1 vc cur.length (strs cur)) (o : Obj)
    (hown : Row w5 81 1 (.slice ao (m + 1) cap) (m + 1) (vs ++ [vc])) (hgrow : (W.alloc o).grownBy w5 (Value.slice aor m capr).ownBlock) (hat : (Value.slice ao (m + 1) cap).ownBlock = (Value.slice aor m capr).ownBlock ∨ (Value.slice ao (m + 1) cap).ownBlock = some (W.heap.size + 1)) (hb0 : b0 ≤ W.heap.size) :
    RowsM b0 (rows ++ [cur]) (.slice ao (m + 1) cap) (vs ++ [vc]) w5 ∧ Own b0 w5 9 1 vc cur.length (strs cur) ∧ Below b0 W w5 := by
  have hal : Below W.heap.size W (W.alloc o) := (Below.refl _ _).alloc (Nat.le_refl _) _
  have hk1 : Keeps (fun i => (Value.slice aor m capr).ownBlock = some i) W w5 := (Keeps.of_below hal).trans (Keeps.of_grown hgrow (fun k hk => hk)) (fun _ _ h => h)
  have hstr : ∀ v row, Own b0 W 9 1 v row.length (strs row) → Own b0 w5 9 1 v row.length (strs row) := fun v row hv =>
    ⟨hv.row.kept hk1 (fun b hb hs => h.outer.row.ne_row hv.row (by decide) hs hb), hv.base⟩
  refine ⟨⟨?_, by rw [List.length_append, List.length_append, h.len]; rfl, ?_⟩, hstr _ _ hc, hk1.below hb0 (fun i hi hs => by have := h.outer.base i hs; omega)⟩
  · rw [List.length_append, List.length_singleton, ← hm]
    refine ⟨hown, fun b hb => ?_⟩
    rcases hat with e | e
    · exact h.outer.base b (by rw [← e]; exact hb)
    · rw [hb] at e; cases e; omega
  · intro i v row h1 h2
    rcases snoc_get _ _ _ _ h1 with k1 | ⟨hi, k1⟩
    · rcases snoc_get _ _ _ _ h2 with k2 | ⟨hi, k2⟩
      · exact hstr _ _ (h.inner i v row k1 k2)
      · have := (List.getElem?_eq_some_iff.1 k1).1
        rw [h.len] at this; omega
    · rcases snoc_get _ _ _ _ h2 with k2 | ⟨hi2, k2⟩
      · have := (List.getElem?_eq_some_iff.1 k2).1
        rw [h.len] at hi; omega
      · rw [k1, k2]; exact hstr _ _ hc
/-- What stands at the loop over the rows. -/
structure RNew (w : World) (l : List ByteArray) (pre : List (List ByteArray)) (cur : List ByteArray) (vr vc : Value) (vpre : List Value) (W : World) : Prop where
  bel : Below w.heap.size w W
  rm : RowsM w.heap.size (pre ++ [cur]) vr (vpre ++ [vc]) W
  crow : Own w.heap.size W 9 1 vc cur.length (strs cur)
  first : ∃ row, (pre ++ [cur])[0]? = some row ∧ Leaves (some shaF) [] l row
  linked : Linked (some shaF) [] (pre ++ [cur])
  sz : ∀ s ∈ cur, s.size = 32
theorem RNew.first_ {w : World} {l : List ByteArray} {vc : Value} {n : Nat} {W : World} (hl : n = l.length) (h : Loc w W 9 1 vc n (strs (leavesF l))) :
    RNew w l [] (leavesF l) (.slice (some ⟨W.heap.size, 0, none⟩) 1 1) vc [] (W.alloc (.cells #[vc] 81 (0, 0))) := by
  have hal : Below W.heap.size W (W.alloc (.cells #[vc] 81 (0, 0))) := (Below.refl _ _).alloc (Nat.le_refl _) _
  have hc : Own w.heap.size (W.alloc (.cells #[vc] 81 (0, 0))) 9 1 vc (leavesF l).length (strs (leavesF l)) := by
    rw [leavesF_len, ← hl]
    exact Own.step ⟨h.row, h.base⟩ hal
  refine ⟨h.below.alloc h.below.size _, ⟨⟨Row.lit (get_top rfl) 1 rfl (by unfold maxLen; omega), fun b hb => ?_⟩, rfl, fun i v row h1 h2 => ?_⟩, hc, ⟨_, rfl, leavesF_leaves [] l⟩, ?_, ?_⟩
  · cases hb
    exact h.below.size
  · cases i with
    | zero => simp at h1 h2; subst h1; subst h2; exact hc
    | succ i => simp at h1
  · intro i a b ha hb
    simp at hb
  · exact (leavesF_leaves [] l).size vk_real
theorem RNew.next {w W6 W w5 : World} {l : List ByteArray} {pre : List (List ByteArray)} {cur : List ByteArray} {m cap capr q : Nat} {ao aor : Option Addr} {vc vu : Value} {vpre : List Value} (h : RNew w l pre cur (.slice aor m capr) vc vpre W6) (h2 : 2 ≤ cur.length) (hm : m = (vpre ++ [vc]).length)
    (hu : Loc W6 W 9 1 vu q (strs (upF cur))) (hq : q = (cur.length + 3) / 4) (o : Obj)
    (hown : Row w5 81 1 (.slice ao (m + 1) cap) (m + 1) (vpre ++ [vc] ++ [vu])) (hgrow : (W.alloc o).grownBy w5 (Value.slice aor m capr).ownBlock) (hat : (Value.slice ao (m + 1) cap).ownBlock = (Value.slice aor m capr).ownBlock ∨ (Value.slice ao (m + 1) cap).ownBlock = some (W.heap.size + 1)) :
    RNew w l (pre ++ [cur]) (upF cur) (.slice ao (m + 1) cap) vu (vpre ++ [vc]) w5 := by
  have h6 := h.bel.size
  have hr := h.rm.below hu.below
  have hc : Own w.heap.size W 9 1 vu (upF cur).length (strs (upF cur)) := by
    rw [upF_len, ← hq]
    exact ⟨hu.row, fun b hb => Nat.le_trans h6 (hu.base b hb)⟩
  have hp := hr.push hm hc o hown hgrow hat (Nat.le_trans h6 hu.below.size)
  obtain ⟨row, h3, h4⟩ := h.first
  exact ⟨(h.bel.trans (hu.below.mono h6)).trans hp.2.2, hp.1, hp.2.1, ⟨row, by rw [List.getElem?_append_left (by simp)]; exact h3, h4⟩, h.linked.snoc h2 (upF_nodes _ _), (upF_nodes [] cur).size vk_real⟩
set_option maxRecDepth 100000 in
set_option maxHeartbeats 3200000 in
theorem Rows_any (g : Nat) (v : Value) (l : List ByteArray) (w : World) (h : RefV w g) (hv : Strs w v l) (hl : l.length ≤ 1000) (hs : ∀ s ∈ l, s.size ≤ 500) :
    Calls Try.prog 34 #[.pointer (some ⟨g, 0, none⟩), v] w fun e w' => ∃ rows vr vs, e = .returned vr ∧ TreeR (some shaF) [] l rows ∧ RowsM w.heap.size rows vr vs w' ∧ Below w.heap.size w w' := by
  obtain ⟨ao, cap, rfl, hcap, hmax⟩ := hv.form
  obtain ⟨n, hnl⟩ : ∃ n, n = l.length := ⟨_, rfl⟩
  rw [← hnl] at hcap hl hv
  rw [← hnl]
  have HI0 := Lib.hid (show Loc w w 9 1 (.slice none 0 0) 0 (strs ((leavesF l).take 0)) from Loc.nil (Below.refl _ _) _ _)
  have HN := Lib.hid hnl
  have HV := Lib.hid h
  have HL := Lib.hid hv
  have HS := Lib.hid hs
  clear hnl hv hmax h hs
  go_enter Try.func34, Try.ntmps34
  go_wp2_with fail
  go_loopg [5, 6] n (fun j b i wr => ∃ (q : Nat) (v : Value), j + q = n ∧ i = .int .i64 (q : Int) ∧ b = v ∧ Loc w wr 9 1 v q (strs ((leavesF l).take q)))
  case atStart => exact ⟨0, _, by omega, rfl, rfl, HI0.out⟩
  case round =>
    clear HI0
    obtain ⟨q, v, hk, rfl, hbv, hI⟩ := hrel
    have hbv := hbv.symm
    subst hbv
    by_cases hlt : q < n
    · obtain ⟨j, rfl⟩ : ∃ j, gk = j + 1 := ⟨gk - 1, by omega⟩
      have hlen : q < l.length := by rw [← HN.out]; exact hlt
      obtain ⟨gl, oo, rfl, hg, x0⟩ := (HL.out.below hI.below).get (i := q) hlen
      obtain ⟨f, hf⟩ : ∃ f, f = l[q] := ⟨_, rfl⟩
      have hfs : f.size ≤ 500 := by rw [hf]; exact HS.out _ (List.getElem_mem hlen)
      have hnext := leavesF_take hlen
      rw [← hf] at x0 hnext
      have u2 : (0 : Int) ≤ (q : Int) := by omega
      have u3 : (q : Int) < (n : Int) := by omega
      have hov : ¬ 9223372036854775807 < (⟨#[0]⟩ : ByteArray).size + f.size := by show ¬ _ < 1 + f.size; omega
      have hsz : (⟨#[0]⟩ : ByteArray).size = 1 := rfl
      have hkj : j + (q + 1) = n := by omega
      have HKJ := Lib.hid hkj
      obtain ⟨ao2, cap2, rfl, hc2⟩ := hI.row.form
      have HLF := Lib.hid (refHash_any g (leafT f) wr (HV.out.below hI.below) (by rw [leafT, ByteArray.size_append]; show 1 + _ ≤ _; omega))
      have HFC := Lib.hid hI
      have HNX := Lib.hid hnext
      obtain ⟨i0, hi, hz0, hz1, hz2⟩ := info_parts infoStr
      have HII := Lib.hid hi
      have HZ0 := Lib.hid hz0
      have HZ1 := Lib.hid hz1
      have HZ2 := Lib.hid hz2
      have hq1000 : q ≤ 1000 := by omega
      unfold leafT at HLF
      clear hI hk hlt hkj hf hi hz0 hz1 hz2 hnext hlen
      go_wp2_with fail
      refine HLF.out.mono ?_
      rintro e W1 ⟨rfl, hb⟩
      have HROW := Lib.hid (HFC.out.step hb)
      clear hb HLF
      generalize hrr : shaF (⟨#[0]⟩ ++ f) = r
      have HRR := Lib.hid (show shaF (leafT f) = r from hrr)
      clear hrr
      go_wp2_with (refine wpList_append_row _ (by rfl) _ _ _ _ (by rfl) 9 i0 (.string ⟨#[]⟩) 1 16 Try.underlying22 HII.out HZ0.out HZ1.out HZ2.out rfl (by omega) _ q _ (by rfl) (HROW.out.row.alloc _) _ (by rfl) 1 [.string r] (Feeds.slice Try.underlying22 ⟨W1.heap.size, 0, none⟩ 1 1 _ (by rfl) (by simp [Value.oneCell']) (World.news_of_block (cs := #[.string r]) (t := 9) (fr := (0, 0)) (get_top rfl))) (by unfold maxLen; omega) (by omega) (W1.heap.size + 1) (by simp) ?_; intro ao5 cap5 w5 hown5 hgrow5 hat5; have HL5 := Lib.hid (Loc.app HROW.out ((Below.refl _ W1).alloc (Nat.le_refl _) _) hown5 hgrow5 hat5 (by omega)); clear hown5 hgrow5 hat5)
      go_roundg j
      case measure => omega
      case rel => exact ⟨q + 1, _, HKJ.out, by go_num, rfl, by rw [HNX.out, strs_app, HRR.out]; exact HL5.out⟩
    · obtain rfl : gk = 0 := by omega
      obtain rfl : q = n := by omega
      obtain ⟨aov, capv, rfl, hcv⟩ := hI.row.form
      have hfin := hI
      rw [List.take_of_length_le (by rw [leavesF_len, ← HN.out]; exact Nat.le_refl _)] at hfin
      have hN0 := RNew.first_ HN.out hfin
      have HN0 := Lib.hid hN0
      have hl0 : (leavesF l).length ≤ q := by rw [leavesF_len, ← HN.out]; exact Nat.le_refl _
      have HL0 := Lib.hid hl0
      clear hI hN0 hl0 hk hlt hfin
      go_wp2_with fail
      generalize (wr.alloc (.cells #[.slice aov q capv] 81 (0, 0))) = W0 at HN0 ⊢
      go_loopg [5, 7] q (fun j c o wr => ∃ (pre : List (List ByteArray)) (cur : List ByteArray) (vr vc : Value) (vpre : List Value), cur.length ≤ j ∧ pre.length + j ≤ q ∧ c = vc ∧ o = vr ∧ RNew w l pre cur vr vc vpre wr)
      case atStart => exact ⟨_, _, _, _, _, HL0.out, by simp, rfl, rfl, HN0.out⟩
      case round =>
        clear HN0 HL0
        obtain ⟨pre, cur, vr, vc, vpre, hcl, hrl, hcv, hov, hI⟩ := hrel
        have hcv := hcv.symm
        have hov := hov.symm
        subst hcv
        subst hov
        obtain ⟨m, hm⟩ : ∃ m, m = (vpre ++ [vc]).length := ⟨_, rfl⟩
        have hmr : m ≤ 1001 := by rw [hm, hI.rm.len]; simp; omega
        have hor := hI.rm.outer.row
        rw [← hm] at hor
        obtain ⟨aor, capr, rfl, hcr⟩ := hor.form
        obtain ⟨p, hp⟩ : ∃ p, p = cur.length := ⟨_, rfl⟩
        have hcr2 := hI.crow.row
        rw [← hp] at hcr2
        obtain ⟨aoc, capc, rfl, hcc⟩ := hcr2.form
        have HFC := Lib.hid hI
        have HM := Lib.hid hm
        have HP := Lib.hid hp
        rw [← hp] at hcl
        obtain ⟨i0, hi, hz0, hz1, hz2⟩ := info_parts infoRow
        have HII := Lib.hid hi
        have HZ0 := Lib.hid hz0
        have HZ1 := Lib.hid hz1
        have HZ2 := Lib.hid hz2
        have hp1000 : p ≤ 1000 := by omega
        clear hI hm hp hor hi hz0 hz1 hz2 hcr2
        by_cases h2 : p < 2
        · have i2 : ¬ (1 : Int) < (p : Int) := by omega
          go_wp2_with fail
          go_ret
          exact ⟨pre ++ [cur], _, rfl, ⟨HFC.out.first, HFC.out.linked, ⟨cur, by simp, by rw [← HP.out]; exact h2⟩⟩, ⟨_, HFC.out.rm⟩, HFC.out.bel⟩
        · have i2 : (1 : Int) < (p : Int) := by omega
          obtain ⟨j, rfl⟩ : ∃ j, gk = j + 1 := ⟨gk - 1, by omega⟩
          obtain ⟨M, hM⟩ : ∃ M : Nat, M = (p + 3) / 4 := ⟨_, rfl⟩
          have HM3 := Lib.hid hM
          have hMj : M ≤ j := by omega
          have HMP := Lib.hid (show ∀ q2, q2 < M ↔ 4 * q2 < p by intro q2; omega)
          have HMJ := Lib.hid hMj
          have HH2 := Lib.hid h2
          have HRL := Lib.hid hrl
          have HSZ := Lib.hid HFC.out.sz
          have HI6 := Lib.hid (show Loc wr wr 9 1 (.slice none 0 0) 0 (strs ((upF cur).take 0)) from Loc.nil (Below.refl _ _) _ _)
          have hM300 : M ≤ 1000 := by omega
          clear hM hMj h2 hrl hcl
          go_wp2_with fail
          clear i2
          obtain ⟨W6, rfl⟩ : ∃ W6, W6 = wr := ⟨_, rfl⟩
          go_loopg [8, 9] M (fun j b i wr => ∃ (q2 : Nat) (v2 : Value), j + q2 = M ∧ i = .int .i64 ((4 * q2 : Nat) : Int) ∧ b = v2 ∧ Loc W6 wr 9 1 v2 q2 (strs ((upF cur).take q2)))
          case atStart => exact ⟨0, _, by omega, rfl, rfl, HI6.out⟩
          case round =>
            obtain ⟨q2, v2, hk2, rfl, hbv, hU⟩ := hrel
            have hbv := hbv.symm
            subst hbv
            by_cases hlt2 : q2 < M
            · obtain ⟨j2, rfl⟩ : ∃ j, gk = j + 1 := ⟨gk - 1, by omega⟩
              have hst : Strs wr (.slice aoc p capc) cur := by
                have hc := HFC.out.crow.row
                exact (Strs.of_row hc).below hU.below
              have h4p := (HMP.out q2).1 hlt2
              have HGR := Lib.hid (rgroup_any _ cur (4 * q2) wr hst (by rw [← HP.out]; exact h4p) (by rw [← HP.out]; omega))
              rw [show 4 * q2 / 4 = q2 by omega] at HGR
              have HND := Lib.hid (fun (v' : Value) (h : Strs wr v' (groupL cur q2)) => rfour_any g v' (groupL cur q2) wr (HV.out.below (HFC.out.bel.trans (hU.below.mono HFC.out.bel.size))) h (by rw [groupL_len]; omega) (fun s hs => by have := HSZ.out s (groupL_mem hs); omega))
              have hnext := upF_take (row := cur) (q := q2) (by rw [← HP.out, ← HM3.out]; exact hlt2)
              have HNX := Lib.hid hnext
              obtain ⟨Q, hQ⟩ : ∃ Q, Q = 4 * q2 := ⟨_, rfl⟩
              rw [← hQ] at h4p HGR ⊢
              have u3 : (Q : Int) < (p : Int) := by omega
              have hkj : j2 + (q2 + 1) = M := by omega
              have HKJ := Lib.hid hkj
              have w1 : wrap64 ((Q : Int) + 4) = (Q : Int) + 4 := IntWalk.wrap64_in _ ⟨by omega, by omega⟩
              have HQ4 := Lib.hid (show (Q : Int) + 4 = ((4 * (q2 + 1) : Nat) : Int) by omega)
              obtain ⟨ao2, cap2, rfl, hc2⟩ := hU.row.form
              have HU := Lib.hid hU
              obtain ⟨i1, hi, hz0, hz1, hz2⟩ := info_parts infoStr
              have HJI := Lib.hid hi
              have HJ0 := Lib.hid hz0
              have HJ1 := Lib.hid hz1
              have HJ2 := Lib.hid hz2
              have hq1000 : q2 ≤ 1000 := by omega
              clear hU hst hk2 hlt2 hkj hi hz0 hz1 hz2 hnext hQ
              go_wp2_with fail
              refine HGR.out.mono ?_
              rintro e W7 ⟨v7, rfl, hs7, hw7⟩
              subst hw7
              obtain ⟨ao7, cap7, rfl, _, _⟩ := hs7.form
              have HND2 := Lib.hid (HND.out _ hs7)
              clear hs7 HGR HND
              go_wp2_with fail
              refine HND2.out.mono ?_
              rintro e W8 ⟨rfl, hb⟩
              have HROU := Lib.hid (HU.out.step hb)
              clear hb HND2
              generalize hrr : shaF (nodeT (groupL cur q2)) = r at HNX ⊢
              clear hrr
              go_wp2_with (refine wpList_append_row _ (by rfl) _ _ _ _ (by rfl) 9 i1 (.string ⟨#[]⟩) 1 16 Try.underlying22 HJI.out HJ0.out HJ1.out HJ2.out rfl (by omega) _ q2 _ (by rfl) (HROU.out.row.alloc _) _ (by rfl) 1 [.string r] (Feeds.slice Try.underlying22 ⟨W8.heap.size, 0, none⟩ 1 1 _ (by rfl) (by simp [Value.oneCell']) (World.news_of_block (cs := #[.string r]) (t := 9) (fr := (0, 0)) (get_top rfl))) (by unfold maxLen; omega) (by omega) (W8.heap.size + 1) (by simp) ?_; intro ao8 cap8 w8 hown8 hgrow8 hat8; have HL8 := Lib.hid (Loc.app HROU.out ((Below.refl _ W8).alloc (Nat.le_refl _) _) hown8 hgrow8 hat8 (by omega)); clear hown8 hgrow8 hat8)
              go_roundg j2
              case measure => omega
              case rel => exact ⟨q2 + 1, _, HKJ.out, congrArg (Value.int .i64) HQ4.out, rfl, by rw [HNX.out, strs_app]; exact HL8.out⟩
            · obtain rfl : gk = 0 := by omega
              obtain rfl : q2 = M := by omega
              have h4p : ¬ 4 * q2 < p := fun h => hlt2 ((HMP.out q2).2 h)
              obtain ⟨Q, hQ⟩ : ∃ Q, Q = 4 * q2 := ⟨_, rfl⟩
              rw [← hQ] at h4p ⊢
              have u3 : ¬ (Q : Int) < (p : Int) := by omega
              have hfin := hU
              rw [List.take_of_length_le (by rw [upF_len, ← HP.out, ← HM3.out]; exact Nat.le_refl _)] at hfin
              obtain ⟨ao2, cap2, rfl, hc2⟩ := hU.row.form
              have HU := Lib.hid hfin
              have hrow : Row wr 81 1 (.slice aor m capr) m (vpre ++ [.slice aoc p capc]) := by
                have := (HFC.out.rm.below hfin.below).outer.row
                rw [← HM.out] at this
                exact this
              have HROW := Lib.hid hrow
              have hup : (upF cur).length ≤ j := by rw [upF_len, ← HP.out, ← HM3.out]; exact HMJ.out
              have HUP := Lib.hid hup
              clear hU hfin hup hk2 hlt2 hQ hrow
              go_wp2_with (refine wpList_append_row _ (by rfl) _ _ _ _ (by rfl) 81 i0 (.agg #[.slice none 0 0]) 1 24 Try.underlying78 HII.out HZ0.out HZ1.out HZ2.out rfl (by omega) _ m _ (by rfl) (HROW.out.alloc _) _ (by rfl) 1 [.slice ao2 q2 cap2] (Feeds.slice Try.underlying78 ⟨wr.heap.size, 0, none⟩ 1 1 _ (by rfl) (by simp [Value.oneCell']) (World.news_of_block (cs := #[.slice ao2 q2 cap2]) (t := 81) (fr := (0, 0)) (get_top rfl))) (by unfold maxLen; omega) (by omega) (wr.heap.size + 1) (by simp) ?_; intro ao9 cap9 w9 hown9 hgrow9 hat9; have HN9 := Lib.hid (RNew.next HFC.out (by rw [← HP.out]; have := HH2.out; omega) HM.out HU.out (by rw [← HP.out]; exact HM3.out) _ hown9 hgrow9 hat9); clear hown9 hgrow9 hat9)
              go_roundg j
              case measure => omega
              case rel => exact ⟨_, _, _, _, _, HUP.out, by have := HRL.out; simp; omega, rfl, rfl, HN9.out⟩
end Go.Proofs.Ytjoilobbopdcpaa.B
