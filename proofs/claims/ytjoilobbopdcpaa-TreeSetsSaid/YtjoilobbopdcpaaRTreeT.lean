/-
  TreeSets.
-/
import Derived.Test.YtjoilobbopdcpaaRTreeC
import Derived.Test.YtjoilobbopdcpaaRTreeS
namespace Go.Proofs.Ytjoilobbopdcpaa.B
open Go.RowKit
set_option linter.unusedVariables false
set_option linter.unusedSimpArgs false

structure Chg where
  at' : Int
  s : ByteArray
/-- v reads as the changes cs. -/
def ChgsAt (w : World) (v : Value) (cs : List Chg) : Prop :=
  ∃ ao cap, v = .slice ao cs.length cap ∧ cs.length ≤ cap ∧ cs.length ≤ maxLen ∧
    (0 < cs.length → ∃ g o, ao = some ⟨g, o, none⟩ ∧ g < w.heap.size ∧ ∀ (i : Nat) x, cs[i]? = some x → in64 x.at' ∧ x.s.size ≤ maxLen ∧ w.cell? ⟨g, o + i * 2, none⟩ = some (.int .i64 x.at') ∧ w.cell? ⟨g, o + i * 2 + 1, none⟩ = some (.string x.s))
theorem ChgsAt.nil (w : World) : ChgsAt w (.slice none 0 0) [] := ⟨none, 0, rfl, Nat.le_refl _, by simp, fun h => by simp at h⟩
theorem ChgsAt.below {w w' : World} {v : Value} {cs : List Chg} (h : ChgsAt w v cs) (hb : Below w.heap.size w w') : ChgsAt w' v cs := by
  obtain ⟨ao, cap, he, h1, h2, h3⟩ := h
  refine ⟨ao, cap, he, h1, h2, fun h0 => ?_⟩
  obtain ⟨g, o, e, hg, hc⟩ := h3 h0
  refine ⟨g, o, e, Nat.lt_of_lt_of_le hg hb.size, fun i x hx => ?_⟩
  obtain ⟨k1, k2, c1, c2⟩ := hc i x hx
  exact ⟨k1, k2, (hb.cell (p := ⟨g, _, none⟩) hg).trans c1, (hb.cell (p := ⟨g, _, none⟩) hg).trans c2⟩
theorem ChgsAt.form {w : World} {v : Value} {cs : List Chg} (h : ChgsAt w v cs) : ∃ ao cap, v = .slice ao cs.length cap ∧ cs.length ≤ cap ∧ cs.length ≤ maxLen := by
  obtain ⟨ao, cap, he, h1, h2, h3⟩ := h
  exact ⟨ao, cap, he, h1, h2⟩
theorem ChgsAt.get {w : World} {ao : Option Addr} {n cap : Nat} {cs : List Chg} (h : ChgsAt w (.slice ao n cap) cs) {i : Nat} (hi : i < cs.length) : ∃ g o x, cs[i]? = some x ∧ ao = some ⟨g, o, none⟩ ∧ g < w.heap.size ∧ in64 x.at' ∧ x.s.size ≤ maxLen ∧ w.cell? ⟨g, o + i * 2, none⟩ = some (.int .i64 x.at') ∧ w.cell? ⟨g, o + i * 2 + 1, none⟩ = some (.string x.s) := by
  obtain ⟨ao', cap', he, _, _, hc⟩ := h
  simp at he
  obtain ⟨rfl, rfl, rfl⟩ := he
  obtain ⟨g, o, e, hg, hc⟩ := hc (by omega)
  obtain ⟨h1, h2, c1, c2⟩ := hc i _ (List.getElem?_eq_getElem hi)
  exact ⟨g, o, _, List.getElem?_eq_getElem hi, e, hg, h1, h2, c1, c2⟩
theorem TreeM.low2 {b0 gt g : Nat} {rows : List (List ByteArray)} {vr : Value} {vs : List Value} {W W' : World} {S : Nat → Prop} (h : TreeM b0 gt g rows vr vs W) (hk : Keeps S W W') (hS : ∀ i, S i → i < b0) : TreeM b0 gt g rows vr vs W' :=
  have hn : ∀ i, b0 ≤ i → ¬ S i := fun i hi hs => by have := hS i hs; omega
  ⟨hk.at_ h.blk (hn _ h.base), h.base, ⟨h.outer.row.kept hk (fun b hb => hn b (h.outer.base b hb)), h.outer.base⟩, h.len,
   fun i v row h1 h2 => ⟨(h.inner i v row h1 h2).row.kept hk (fun b hb => hn b ((h.inner i v row h1 h2).base b hb)), (h.inner i v row h1 h2).base⟩, h.dist⟩
theorem Vlt.lowR {B g gh b : Nat} {f : ByteArray → ByteArray} {ks : List ByteArray} {W W' : World} (h : Vlt W B g gh (some f) ks) (hk : Keeps (fun i => i = b) W W') {cs : Array Value} {fr : Nat × Nat} (hb : W.heap[b]? = some (.cells cs 9 fr)) : Vlt W' B g gh (some f) ks := by
  obtain ⟨h1, h2, h3, gr, key, a1, a2, a3, a4, a5⟩ := h
  have e1 : g ≠ b := fun e => by subst e; rw [a4] at hb; simp at hb
  have e2 : gr ≠ b := fun e => by subst e; rw [a5] at hb; simp at hb
  exact ⟨Nat.le_trans h1 hk.size, h2, h3, gr, key, a1, a2, a3, hk.at_ a4 e1, hk.at_ a5 e2⟩
theorem RefV.lowR {g b : Nat} {W W' : World} (h : RefV W g) (hk : Keeps (fun i => i = b) W W') {cs : Array Value} {fr : Nat × Nat} (hb : W.heap[b]? = some (.cells cs 9 fr)) : RefV W' g := by
  obtain ⟨key, h⟩ := h
  exact ⟨key, hk.at_ h (fun e => by subst e; rw [h] at hb; simp at hb)⟩
theorem keeps_set2 (w : World) (b o : Nat) (u : Value) : Keeps (fun i => i = b) w (w.setCell ⟨b, o, none⟩ u) := Keeps.setCell (S := fun i => i = b) (Keeps.refl _ _) (fun _ => rfl) u
/-- What stands in a round of TreeSets. -/
structure SetsI (w : World) (B g gw gt n : Nat) (vl vr : Value) (vs : List Value) (cur : List ByteArray) (rows : List (List ByteArray)) (W : World) : Prop where
  bel : Below w.heap.size w W
  row : Row W 9 1 vl n (strs cur)
  base : ∀ b, vl.ownBlock = some b → w.heap.size ≤ b ∧ b < B
  len : n = cur.length
  tr : TreeR (some shaF) [] cur rows
  mem : TreeM B gt g rows vr vs W
  vlt : Vlt W B g gw (some shaF) []
  ref : RefV W gw
  sz : ∀ s ∈ cur, s.size ≤ 64
  n40 : n ≤ 40
  bw : w.heap.size ≤ B
theorem SetsI.below {w W W' : World} {B g gw gt n : Nat} {vl vr : Value} {vs : List Value} {cur : List ByteArray} {rows : List (List ByteArray)} (h : SetsI w B g gw gt n vl vr vs cur rows W) (hb : Below W.heap.size W W') : SetsI w B g gw gt n vl vr vs cur rows W' :=
  ⟨h.bel.trans (hb.mono h.bel.size), h.row.kept (S := fun _ => False) (Keeps.of_below hb) (fun _ _ h => h), h.base, h.len, h.tr, h.mem.below hb, h.vlt.same hb.size (fun i hi => hb.block i (Nat.lt_of_lt_of_le hi h.vlt.1)), h.ref.below hb, h.sz, h.n40, h.bw⟩
theorem SetsI.strs_ {w W : World} {B g gw gt n : Nat} {vl vr : Value} {vs : List Value} {cur : List ByteArray} {rows : List (List ByteArray)} (h : SetsI w B g gw gt n vl vr vs cur rows W) : Strs W vl cur := by
  have hr := h.row
  rw [h.len] at hr
  exact Strs.of_row hr
theorem SetsI.set {w W W4 : World} {B g gw gt n bl cap a : Nat} {vr : Value} {vs : List Value} {cur : List ByteArray} {rows rows2 : List (List ByteArray)} {t : ByteArray} (h : SetsI w B g gw gt n (.slice (some ⟨bl, 0, none⟩) n cap) vr vs cur rows W) (ha : a < n) (ht : t.size ≤ 64)
    (hT : TreeR (some shaF) [] (cur.set a t) rows2) (hM : TreeM B gt g rows2 vr vs W4) (hV : Vlt W4 B g gw (some shaF) []) (hk : Keeps (TS vs) W W4) :
    SetsI w B g gw gt n (.slice (some ⟨bl, 0, none⟩) n cap) vr vs (cur.set a t) rows2 (W4.setCell ⟨bl, a, none⟩ (.string t)) ∧ (∃ old, W4.cell? ⟨bl, a, none⟩ = some (.string old)) ∧ W4.frozen? ⟨bl, a, none⟩ = false := by
  have hbl := h.base bl rfl
  have hts : ∀ i, i < B → ¬ TS vs i := fun i hi hs => by have := (h.mem.ts hs).1; omega
  have hr4 := h.row.kept hk (fun b hb => hts b (h.base b hb).2)
  have hks := keeps_set2 W4 bl a (.string t)
  have hac : a < cur.length := by rw [← h.len]; exact ha
  obtain ⟨cs, fr, hcs⟩ : ∃ cs fr, W4.heap[bl]? = some (.cells cs 9 fr) := by
    rcases hr4.2 with ⟨hz, _⟩ | ⟨g', cap', cur', lo, hi, he, hg, _⟩
    · cases hz
    · simp at he
      obtain ⟨rfl, rfl⟩ := he
      exact ⟨_, _, hg⟩
  have hb4 : Below w.heap.size w W4 := h.bel.trans (hk.below h.bel.size (fun i hi => hts i (by have := h.bw; omega)))
  obtain ⟨key, hrf⟩ := h.ref
  have hgw : gw < B := h.vlt.2.2.1
  have hrf4 : RefV W4 gw := ⟨key, hk.at_ hrf (hts gw hgw)⟩
  refine ⟨⟨hb4.setCell hbl.1 _, by rw [strs_set]; exact hr4.set a _, h.base, by rw [List.length_set]; exact h.len, hT, hM.low2 hks (fun i e => by subst e; exact hbl.2), hV.lowR hks hcs, hrf4.lowR hks hcs, fun s hs => ?_, h.n40, h.bw⟩, ⟨cur[a], hr4.cells a _ (by simp [strs, hac])⟩, hr4.frozen ha⟩
  rcases List.mem_or_eq_of_mem_set hs with h1 | h1
  · exact h.sz s h1
  · rw [h1]; exact ht
set_option maxRecDepth 100000 in
set_option maxHeartbeats 6400000 in
theorem treeSets_walk (v1 v2 : Value) (l1 : List ByteArray) (cs : List Chg) (w : World) (h1 : Strs w v1 l1) (h2 : ChgsAt w v2 cs) :
    Calls Try.prog 10 #[v1, v2] w fun e w' => e = .returned (.bool true) ∧ Below w.heap.size w w' := by
  obtain ⟨ao1, cap1, rfl, hc1, hm1⟩ := h1.form
  obtain ⟨ao2, cap2, rfl, hc2, hm2⟩ := h2.form
  have hu := Try.underlying54
  have HS1 := Lib.hid (some_any 40 (by decide) _ l1 w h1)
  obtain ⟨m1, hl1⟩ : ∃ m, m = l1.length := ⟨_, rfl⟩
  obtain ⟨L, hL⟩ : ∃ m, m = cs.length := ⟨_, rfl⟩
  have H2 := Lib.hid h2
  rw [← hl1] at HS1 ⊢
  rw [← hL] at H2 hc2 hm2 ⊢
  have HL := Lib.hid hL
  have hL63 : (L : Int) ≤ 9223372036854775807 := by unfold maxLen at hm2; omega
  clear h1 h2 hc1 hm1 hl1 hm2 hL
  go_enter Try.func10, Try.ntmps10
  go_wp2_with fail
  refine HS1.out.mono ?_
  rintro e W1 ⟨v1', rfl, hA⟩
  obtain ⟨ao1', cap1', rfl, hc1⟩ := hA.row.form
  have HA := Lib.hid hA
  clear hA HS1
  go_wp2_with fail
  refine (real_any W1).mono ?_
  rintro e W2 ⟨g, gw, rfl, hv, hw, hb⟩
  obtain ⟨l, hl⟩ : ∃ a, a = someL l1 40 := ⟨_, rfl⟩
  have hl40 : l.length ≤ 40 := by rw [hl, someL_len]; omega
  have HAS := Lib.hid (show ∀ s ∈ l, s.size ≤ 64 by rw [hl]; exact someL_size)
  have hA0 := HA.out
  rw [← hl] at hA0 hc1 ⊢
  have hA1 := (Strs.of_row hA0.row).below hb
  have HNW := Lib.hid (New_any vk_real _ g gw [] _ l W2 hv hA1 (by omega) (fun s hs => by have := HAS.out s hs; omega) (by decide))
  have HB := Lib.hid (hA0.below.trans (hb.mono hA0.below.size))
  obtain ⟨n, hn⟩ : ∃ n, n = l.length := ⟨_, rfl⟩
  rw [← hn] at hl40 hc1 hA0 ⊢
  have HN := Lib.hid hn
  have HV := Lib.hid hv
  have HW := Lib.hid hw
  have HBS := Lib.hid (show ∀ b, (Value.slice ao1' n cap1').ownBlock = some b → w.heap.size ≤ b ∧ b < W2.heap.size from fun b hb' => ⟨hA0.base b hb', Nat.lt_of_lt_of_le (hA0.row.lt b hb') hb.size⟩)
  have HR2 := Lib.hid (hA0.step hb)
  clear hv hw hb hA0 hA1 hl hn HA
  go_wp2_with fail
  rw [HN.out]
  refine HNW.out.mono ?_
  rintro e W3 ⟨gt, ks1, rows, vr, vs, rfl, hT, hM, hR⟩
  rw [← HN.out]
  have hb3 := hR.real
  have HI0 := Lib.hid (show SetsI w W2.heap.size g gw gt n (.slice ao1' n cap1') vr vs l rows W3 from
    ⟨HB.out.trans (hb3.mono HB.out.size), (HR2.out.step hb3).row, HBS.out, HN.out, ⟨hT.first, hT.linked, hT.last⟩, hM, hR.vlt.anyks [], HW.out.below hb3, HAS.out, hl40, HB.out.size⟩)
  generalize W2.heap.size = B at HI0 HBS
  clear hT hM hR hb3 HNW HB HR2 HV HW HAS
  go_wp2_with fail
  go_loopg [8] (min L 20) (fun j i wr => ∃ (q : Nat) (cur : List ByteArray) (rows : List (List ByteArray)), j + q = min L 20 ∧ i = .int .i64 (q : Int) ∧ SetsI w B g gw gt n (.slice ao1' n cap1') vr vs cur rows wr)
  case atStart => exact ⟨0, l, rows, by omega, rfl, HI0.out⟩
  case round =>
    clear HI0
    obtain ⟨q, cur, rows, hk, rfl, hI⟩ := hrel
    by_cases hlt : q < min L 20
    · obtain ⟨j, rfl⟩ : ∃ j, gk = j + 1 := ⟨gk - 1, by omega⟩
      have hlen : q < cs.length := by rw [← HL.out]; omega
      obtain ⟨g1, o1, x, _, rfl, hg1, hxw, hxs, c1, c2⟩ := (H2.out.below hI.bel).get (i := q) hlen
      obtain ⟨A, hA⟩ : ∃ A, A = x.at' := ⟨_, rfl⟩
      obtain ⟨s, hs⟩ : ∃ s, s = x.s := ⟨_, rfl⟩
      rw [← hA] at hxw c1
      rw [← hs] at hxs c2
      have hs63 : (s.size : Int) ≤ 9223372036854775807 := by unfold maxLen at hxs; omega
      have u2 : (0 : Int) ≤ (q : Int) := by omega
      have u3 : (q : Int) < (L : Int) := by omega
      have u4 : (q : Int) < 20 := by omega
      have hkj : j + (q + 1) = min L 20 := by omega
      have HKJ := Lib.hid hkj
      have HI := Lib.hid hI
      have HXW := Lib.hid hxw
      obtain ⟨gx, hgx⟩ : ∃ g, g = wr.heap.size := ⟨_, rfl⟩
      have hbx := (Below.refl _ wr).alloc (Nat.le_refl _) (.cells #[.int .i64 A, .string s] 54 (0, 0))
      have hgx0 : (wr.alloc (.cells #[.int .i64 A, .string s] 54 (0, 0))).heap[gx]? = some (.cells #[.int .i64 A, .string s] 54 (0, 0)) := get_top hgx
      have HX := Lib.hid (And.intro hbx hgx0)
      have HGX := Lib.hid hgx
      have hq20 : q ≤ 20 := by omega
      clear hI hbx hgx0 hkj hlt hk hA hs hxs hxw hlen hgx
      by_cases hbig : 64 < s.size
      · have z1 : (64 : Int) < (s.size : Int) := by omega
        obtain ⟨t, ht⟩ : ∃ t, t = s.extract 0 64 := ⟨_, rfl⟩
        have HTS := Lib.hid (show t.size ≤ 64 by rw [ht, ByteArray.size_extract]; omega)
        have HX3 := Lib.hid ((Below.refl _ wr).alloc (Nat.le_refl _) (.cells #[.int .i64 A, .string t] 54 (0, 0)))
        have HX4 := Lib.hid (show (wr.alloc (.cells #[.int .i64 A, .string t] 54 (0, 0))).heap[gx]? = some (.cells #[.int .i64 A, .string t] 54 (0, 0)) from get_top HGX.out)
        go_wp2_with fail
        rw [← HGX.out, ← ht]
        clear ht
        have k0 := (blk_cell HX4.out 0).trans rfl
        have k1 := (blk_cell HX4.out 1).trans rfl
        have hgl := blk_lt HX4.out
        have HI3 := Lib.hid (HI.out.below HX3.out)
        clear c1 c2 u2 u3 u4 z1 hs63 HX HI
        have hn2 := HI3.out.len
        have hn3 := HI3.out.n40
        by_cases hout : A < 0 ∨ (n : Int) ≤ A
        · have HSO := Lib.hid (Set_out gt g _ rows vr vs _ HI3.out.mem HI3.out.tr.pos (by have := HI3.out.tr.count; omega) A (by rw [HI3.out.tr.len0, ← HI3.out.len]; exact hout) t)
          by_cases hneg : A < 0
          · clear hout hn2
            refine HSO.out.mono ?_
            rintro e W4 ⟨rfl, rfl⟩
            clear HSO
            go_wp2_with fail
            go_roundg j
            case measure => omega
            case rel => exact ⟨q + 1, cur, rows, HKJ.out, by go_num, HI3.out⟩
          · have hge : (n : Int) ≤ A := by omega
            clear hout hn2
            refine HSO.out.mono ?_
            rintro e W4 ⟨rfl, rfl⟩
            clear HSO
            go_wp2_with fail
            go_roundg j
            case measure => omega
            case rel => exact ⟨q + 1, cur, rows, HKJ.out, by go_num, HI3.out⟩
        · obtain ⟨a, rfl⟩ : ∃ a : Nat, A = (a : Int) := ⟨A.toNat, by omega⟩
          have han : a < n := by omega
          obtain ⟨bl, capl, he, hcl, hltl⟩ := HI3.out.row.form_pos (by omega)
          simp at he
          obtain ⟨rfl, rfl⟩ := he
          have HSI := Lib.hid (Set_in B B gt g gw cur rows vr vs _ HI3.out.vlt HI3.out.tr HI3.out.mem (Nat.le_refl _) HI3.out.vlt.1 (by omega) a (by omega) t (by have := HTS.out; omega))
          have y1 : ¬ (a : Int) < 0 := by omega
          have y2 : ¬ (n : Int) ≤ (a : Int) := by omega
          have y3 : ¬ n ≤ a := by omega
          have y4 : (a : Int) < (n : Int) := by omega
          have y5 : (0 : Int) ≤ (a : Int) := by omega
          refine HSI.out.mono ?_
          rintro e W4 ⟨rfl, rows2, hT4, hM4, hV4, hk4⟩
          obtain ⟨hI5, ⟨old, y6⟩, y7⟩ := HI3.out.set han HTS.out hT4 hM4 hV4 hk4
          have hx4 := hk4.at_ HX4.out (fun hs => by obtain ⟨_, _, cs', fr', hh⟩ := HI3.out.mem.ts hs; rw [HX4.out] at hh; simp at hh)
          have j0 := (blk_cell hx4 0).trans rfl
          have j1 := (blk_cell hx4 1).trans rfl
          have hgl4 := blk_lt hx4
          have HI5 := Lib.hid hI5
          have hcn := hI5.tr.count
          have HRT := Lib.hid (Root_of vk_real _ _ gt g gw [] (cur.set a t) rows2 vr vs _ (by rw [List.length_set]; omega) hI5.vlt hI5.tr hI5.mem (by decide))
          have HRR := Lib.hid (fun W (hb : Below (W4.setCell ⟨bl, a, none⟩ (.string t)).heap.size (W4.setCell ⟨bl, a, none⟩ (.string t)) W) => refRoot_any gw _ (cur.set a t) W (hI5.ref.below hb) (hI5.strs_.below hb) (by rw [List.length_set]; omega) (fun s hs => by have := hI5.sz s hs; omega))
          clear hI5 hcn hT4 hM4 hV4 hk4 hx4 HSI hn2 hout han hcl hltl k0 k1 hgl
          go_wp2_with fail
          generalize (W4.setCell ⟨bl, a, none⟩ (.string t)) = W5 at HI5 HRT HRR ⊢
          clear j0 j1 y6 y7 hgl4 HX4 HX3 HI3
          refine HRT.out.mono ?_
          rintro e W6 ⟨ks6, r, rfl, hr, hR⟩
          have HB6 := Lib.hid hR.real
          have HR6 := Lib.hid hr
          clear hr hR HRT
          go_wp2_with fail
          refine (HRR.out W6 HB6.out).mono ?_
          rintro e W7 ⟨r', rfl, hr', hb⟩
          obtain rfl := (hr'.pre (List.nil_prefix (l := ks6))).fn HR6.out
          have HI7 := Lib.hid (HI5.out.below (HB6.out.trans (hb.mono HB6.out.size)))
          clear hr' hb HR6 HB6 HRR HI5
          go_wp2_with fail
          go_roundg j
          case measure => omega
          case rel => exact ⟨q + 1, cur.set a t, rows2, HKJ.out, by go_num, HI7.out⟩
      · have z1 : ¬ (64 : Int) < (s.size : Int) := by omega
        obtain ⟨t, ht⟩ : ∃ t, t = s := ⟨_, rfl⟩
        have HTS := Lib.hid (show t.size ≤ 64 by rw [ht]; omega)
        rw [← ht] at HX z1 hs63 c2
        have HX3 := Lib.hid HX.out.1
        have HX4 := Lib.hid HX.out.2
        subst ht
        go_wp2_with fail
        rw [← HGX.out]
        have k0 := (blk_cell HX4.out 0).trans rfl
        have k1 := (blk_cell HX4.out 1).trans rfl
        have hgl := blk_lt HX4.out
        have HI3 := Lib.hid (HI.out.below HX3.out)
        clear c1 c2 u2 u3 u4 z1 hs63 HX HI
        have hn2 := HI3.out.len
        have hn3 := HI3.out.n40
        by_cases hout : A < 0 ∨ (n : Int) ≤ A
        · have HSO := Lib.hid (Set_out gt g _ rows vr vs _ HI3.out.mem HI3.out.tr.pos (by have := HI3.out.tr.count; omega) A (by rw [HI3.out.tr.len0, ← HI3.out.len]; exact hout) t)
          by_cases hneg : A < 0
          · clear hout hn2
            refine HSO.out.mono ?_
            rintro e W4 ⟨rfl, rfl⟩
            clear HSO
            go_wp2_with fail
            go_roundg j
            case measure => omega
            case rel => exact ⟨q + 1, cur, rows, HKJ.out, by go_num, HI3.out⟩
          · have hge : (n : Int) ≤ A := by omega
            clear hout hn2
            refine HSO.out.mono ?_
            rintro e W4 ⟨rfl, rfl⟩
            clear HSO
            go_wp2_with fail
            go_roundg j
            case measure => omega
            case rel => exact ⟨q + 1, cur, rows, HKJ.out, by go_num, HI3.out⟩
        · obtain ⟨a, rfl⟩ : ∃ a : Nat, A = (a : Int) := ⟨A.toNat, by omega⟩
          have han : a < n := by omega
          obtain ⟨bl, capl, he, hcl, hltl⟩ := HI3.out.row.form_pos (by omega)
          simp at he
          obtain ⟨rfl, rfl⟩ := he
          have HSI := Lib.hid (Set_in B B gt g gw cur rows vr vs _ HI3.out.vlt HI3.out.tr HI3.out.mem (Nat.le_refl _) HI3.out.vlt.1 (by omega) a (by omega) t (by have := HTS.out; omega))
          have y1 : ¬ (a : Int) < 0 := by omega
          have y2 : ¬ (n : Int) ≤ (a : Int) := by omega
          have y3 : ¬ n ≤ a := by omega
          have y4 : (a : Int) < (n : Int) := by omega
          have y5 : (0 : Int) ≤ (a : Int) := by omega
          refine HSI.out.mono ?_
          rintro e W4 ⟨rfl, rows2, hT4, hM4, hV4, hk4⟩
          obtain ⟨hI5, ⟨old, y6⟩, y7⟩ := HI3.out.set han HTS.out hT4 hM4 hV4 hk4
          have hx4 := hk4.at_ HX4.out (fun hs => by obtain ⟨_, _, cs', fr', hh⟩ := HI3.out.mem.ts hs; rw [HX4.out] at hh; simp at hh)
          have j0 := (blk_cell hx4 0).trans rfl
          have j1 := (blk_cell hx4 1).trans rfl
          have hgl4 := blk_lt hx4
          have HI5 := Lib.hid hI5
          have hcn := hI5.tr.count
          have HRT := Lib.hid (Root_of vk_real _ _ gt g gw [] (cur.set a t) rows2 vr vs _ (by rw [List.length_set]; omega) hI5.vlt hI5.tr hI5.mem (by decide))
          have HRR := Lib.hid (fun W (hb : Below (W4.setCell ⟨bl, a, none⟩ (.string t)).heap.size (W4.setCell ⟨bl, a, none⟩ (.string t)) W) => refRoot_any gw _ (cur.set a t) W (hI5.ref.below hb) (hI5.strs_.below hb) (by rw [List.length_set]; omega) (fun s hs => by have := hI5.sz s hs; omega))
          clear hI5 hcn hT4 hM4 hV4 hk4 hx4 HSI hn2 hout han hcl hltl k0 k1 hgl
          go_wp2_with fail
          generalize (W4.setCell ⟨bl, a, none⟩ (.string t)) = W5 at HI5 HRT HRR ⊢
          clear j0 j1 y6 y7 hgl4 HX4 HX3 HI3
          refine HRT.out.mono ?_
          rintro e W6 ⟨ks6, r, rfl, hr, hR⟩
          have HB6 := Lib.hid hR.real
          have HR6 := Lib.hid hr
          clear hr hR HRT
          go_wp2_with fail
          refine (HRR.out W6 HB6.out).mono ?_
          rintro e W7 ⟨r', rfl, hr', hb⟩
          obtain rfl := (hr'.pre (List.nil_prefix (l := ks6))).fn HR6.out
          have HI7 := Lib.hid (HI5.out.below (HB6.out.trans (hb.mono HB6.out.size)))
          clear hr' hb HR6 HB6 HRR HI5
          go_wp2_with fail
          go_roundg j
          case measure => omega
          case rel => exact ⟨q + 1, cur.set a t, rows2, HKJ.out, by go_num, HI7.out⟩
    · obtain rfl : gk = 0 := by omega
      obtain rfl : q = min L 20 := by omega
      obtain ⟨q, hq⟩ : ∃ q, q = min L 20 := ⟨_, rfl⟩
      have hcn := hI.tr.count
      have hn2 := hI.len
      have hn3 := hI.n40
      have HRT := Lib.hid (Root_of vk_real _ _ gt g gw [] cur rows vr vs wr (by omega) hI.vlt hI.tr hI.mem (by decide))
      have HRR := Lib.hid (fun W (hb : Below wr.heap.size wr W) => refRoot_any gw _ cur W (hI.ref.below hb) (hI.strs_.below hb) (by omega) (fun s hs => by have := hI.sz s hs; omega))
      have HBB := Lib.hid hI.bel
      rw [← hq]
      have hqe : (q = L ∧ q ≤ 20) ∨ (q = 20 ∧ q < L) := by omega
      clear hI hk hlt hq hcn hn2 hn3
      rcases hqe with ⟨e1, e2⟩ | ⟨e1, e2⟩
      · have z1 : ¬ (q : Int) < (L : Int) := by omega
        clear e1
        go_wp2_with fail
        refine HRT.out.mono ?_
        rintro e W6 ⟨ks6, r, rfl, hr, hR⟩
        have HB6 := Lib.hid hR.real
        have HR6 := Lib.hid hr
        clear hr hR HRT
        go_wp2_with fail
        refine (HRR.out W6 HB6.out).mono ?_
        rintro e W7 ⟨r', rfl, hr', hb⟩
        obtain rfl := (hr'.pre (List.nil_prefix (l := ks6))).fn HR6.out
        have HB7 := Lib.hid (HBB.out.trans ((HB6.out.trans (hb.mono HB6.out.size)).mono HBB.out.size))
        clear hr' hb HR6 HB6 HRR
        go_wp2_with fail
        refine (awake_any _).mono ?_
        rintro e W9 ⟨rfl, hb⟩
        have HF2 := Lib.hid (HB7.out.trans (hb.mono HB7.out.size))
        clear hb
        go_wp2_with fail
        go_ret
        exact ⟨rfl, HF2.out⟩
      · subst e1
        have z2 : (20 : Int) < (L : Int) := by omega
        go_wp2_with fail
        refine HRT.out.mono ?_
        rintro e W6 ⟨ks6, r, rfl, hr, hR⟩
        have HB6 := Lib.hid hR.real
        have HR6 := Lib.hid hr
        clear hr hR HRT
        go_wp2_with fail
        refine (HRR.out W6 HB6.out).mono ?_
        rintro e W7 ⟨r', rfl, hr', hb⟩
        obtain rfl := (hr'.pre (List.nil_prefix (l := ks6))).fn HR6.out
        have HB7 := Lib.hid (HBB.out.trans ((HB6.out.trans (hb.mono HB6.out.size)).mono HBB.out.size))
        clear hr' hb HR6 HB6 HRR
        go_wp2_with fail
        refine (awake_any _).mono ?_
        rintro e W9 ⟨rfl, hb⟩
        have HF2 := Lib.hid (HB7.out.trans (hb.mono HB7.out.size))
        clear hb
        go_wp2_with fail
        go_ret
        exact ⟨rfl, HF2.out⟩
end Go.Proofs.Ytjoilobbopdcpaa.B
