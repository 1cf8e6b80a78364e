/-
  The document's Bytes, walked by hand.
-/
import Derived.Test.YthobfbiobnmceaaRefLaid
namespace Go.Proofs.Ythobfbiobnmceaa.B
open Go.RowKit
set_option linter.unusedVariables false
set_option linter.unusedSimpArgs false

theorem twoRows4 {w : World} {g1 g2 : Nat} {t1 t2 : TypeId} {f1 f2 : Nat × Nat} {p0 p1 p2 p3 q0 q1 q2 q3 : Int} (h1 : w.heap[g1]? = some (.cells #[.int .i64 p0, .int .i64 p1, .int .i64 p2, .int .i64 p3] t1 f1)) (h2 : w.heap[g2]? = some (.cells #[.int .i64 q0, .int .i64 q1, .int .i64 q2, .int .i64 q3] t2 f2)) : TwoRows w g1 g2 [(p0, q0), (p1, q1), (p2, q2), (p3, q3)] :=
  ⟨blk_lt h1, blk_lt h2, fun i p hp => by
    match i, hp with
    | 0, hp => cases hp; exact ⟨(blk_cell h1 0).trans rfl, (blk_cell h2 0).trans rfl⟩
    | 1, hp => cases hp; exact ⟨(blk_cell h1 1).trans rfl, (blk_cell h2 1).trans rfl⟩
    | 2, hp => cases hp; exact ⟨(blk_cell h1 2).trans rfl, (blk_cell h2 2).trans rfl⟩
    | 3, hp => cases hp; exact ⟨(blk_cell h1 3).trans rfl, (blk_cell h2 3).trans rfl⟩
    | k + 4, hp => simp at hp⟩
theorem laid4_any (p0 p1 p2 p3 q0 q1 q2 q3 : Int) (b0 : p0 ≤ 9223372036854775807) (b1 : p1 ≤ 9223372036854775807) (b2 : p2 ≤ 9223372036854775807) (b3 : p3 ≤ 9223372036854775807) (g1 g2 : Nat) (w : World) (h : TwoRows w g1 g2 [(p0, q0), (p1, q1), (p2, q2), (p3, q3)]) :
    Calls Try.prog 30 #[.slice (some ⟨g1, 0, none⟩) 4 4, .slice (some ⟨g2, 0, none⟩) 4 4] w fun e w' => e = .returned (.tuple #[.string (laidB [(p0, q0), (p1, q1), (p2, q2), (p3, q3)] ⟨#[]⟩).1, .bool (laidB [(p0, q0), (p1, q1), (p2, q2), (p3, q3)] ⟨#[]⟩).2]) ∧ Below w.heap.size w w' :=
  laid_any g1 g2 _ w h (by simp) (by intro p hp; simp at hp; rcases hp with rfl | rfl | rfl | rfl <;> assumption)
structure BytI (w : World) (a0 a1 a2 : Int) (v : Value) (l : List Four) (n k : Nat) (s : ByteArray) (ok : Bool) (R : ByteArray × Int) (W : World) : Prop where
  bel : Below w.heap.size w W
  box : W.heap[w.heap.size]? = some (.cells #[.int .i64 a0, .int .i64 a1, .int .i64 a2, v] 24 (0, 0))
  row : FndRow W v l
  good : ok = true → R = bodyB (l.drop k) s ∧ s.size ≤ 24 + 24 * k
  bad : ok = false → R = (⟨#[]⟩, 2) ∧ s.size ≤ 24 + 24 * k
set_option maxRecDepth 100000 in
set_option maxHeartbeats 3200000 in
theorem refBytes_any (a0 a1 a2 : Int) (v : Value) (l : List Four) (w : World) (h : FndRow w v l) (hl : l.length ≤ 1000) (h0 : a0 ≤ 9223372036854775807) (h1 : a1 ≤ 9223372036854775807) (h2 : a2 ≤ 9223372036854775807) :
    Calls Try.prog 13 #[.agg #[.int .i64 a0, .int .i64 a1, .int .i64 a2, v]] w fun e w' => e = .returned (.tuple #[.string (repBytes a0 a1 a2 l).1, .int .i64 (repBytes a0 a1 a2 l).2]) ∧ Below w.heap.size w w' := by
  obtain ⟨ao, cap, rfl, hcap, hmax⟩ := h.form
  obtain ⟨R, hR⟩ : ∃ R, R = repBytes a0 a1 a2 l := ⟨_, rfl⟩
  rw [← hR]
  have hu24 := Try.underlying24
  have hu54 := Try.underlying54
  have HRi := Lib.hid (Rises_any (.slice ao l.length cap) l hl)
  obtain ⟨bb, hbb⟩ : ∃ b, b = rises l := ⟨_, rfl⟩
  rw [← hbb] at HRi
  have hlw : ∀ f ∈ l, f.wf := h.in64
  unfold repBytes at hR
  rw [← hbb] at hR
  obtain ⟨n, hn⟩ : ∃ n, n = l.length := ⟨_, rfl⟩
  rw [← hn] at hcap h hl hR HRi
  rw [← hn]
  have HN := Lib.hid hn
  have H := Lib.hid h
  have HLW := Lib.hid hlw
  have HBX0 := Lib.hid (show Below w.heap.size w (w.alloc (.cells #[.int .i64 a0, .int .i64 a1, .int .i64 a2, .slice ao n cap] 24 (0, 0))) from (Below.refl _ w).alloc (Nat.le_refl _) _)
  cases bb with
  | false =>
    have hR' : R = (⟨#[]⟩, 5) := hR
    subst hR'
    clear hn h hmax hlw hbb hR
    go_enter Try.func13, Try.ntmps13
    go_wp2_with (first | (go_at_call 29; refine (HRi.out _ (H.out.below HBX0.out)).mono ?_; rintro e W1 ⟨rfl, hb1⟩) | fail)
    go_ret2
    exact ⟨rfl, HBX0.out.trans (hb1.mono HBX0.out.size)⟩
  | true =>
    rw [if_pos rfl] at hR
    have HR := Lib.hid hR
    clear hn h hmax hlw hbb hR
    go_enter Try.func13, Try.ntmps13
    go_wp2_with fail
    refine (HRi.out _ (H.out.below HBX0.out)).mono ?_
    rintro e W1 ⟨rfl, hb1⟩
    have hbx : W1.heap[w.heap.size]? = some (.cells #[.int .i64 a0, .int .i64 a1, .int .i64 a2, .slice ao n cap] 24 (0, 0)) := (hb1.block _ (by simp)).trans (get_top rfl)
    have HB1 := Lib.hid (HBX0.out.trans (hb1.mono HBX0.out.size))
    obtain ⟨gx, hgx⟩ : ∃ g, g = w.heap.size := ⟨_, rfl⟩
    rw [← hgx] at hbx ⊢
    have HGX := Lib.hid hgx
    have HBX := Lib.hid hbx
    have hlt := blk_lt hbx
    have c0 := (blk_cell hbx 0).trans rfl
    have c1 := (blk_cell hbx 1).trans rfl
    have c2 := (blk_cell hbx 2).trans rfl
    have c3 := (blk_cell hbx 3).trans rfl
    have hrow := H.out.below HB1.out
    have HRow := Lib.hid hrow
    have hn64 : (n : Int) ≤ 9223372036854775807 := by omega
    have hps : ∀ p ∈ headPs a0 a1 a2 n, 1 ≤ p.2 ∧ p.2 ≤ 6 := by intro p hp; simp [headPs] at hp; rcases hp with rfl | rfl | rfl | rfl <;> simp
    obtain ⟨u, ok, hu, hgood, hbad⟩ : ∃ (u : ByteArray) (ok : Bool), laidB [(a0, 6), (a1, 6), (a2, 4), ((n : Int), 4)] ⟨#[]⟩ = (u, ok) ∧ (ok = true → R = bodyB l u ∧ u.size ≤ 24) ∧ (ok = false → R = (⟨#[]⟩, 2) ∧ u.size ≤ 24) := by
      have hq := HR.out
      have hsz := (fieldsSpec_size (headPs a0 a1 a2 n) ⟨#[]⟩).2
      rcases four_ways (headPs a0 a1 a2 n) ⟨#[]⟩ hps with ⟨u, e1, e2⟩ | ⟨e1, e2⟩
      · refine ⟨u, true, e1, fun _ => ?_, fun h => by cases h⟩
        rw [nil_app] at e2
        rw [e2] at hq hsz
        exact ⟨by rw [hq, if_pos rfl], hsz⟩
      · refine ⟨⟨#[]⟩, false, e1, (fun h => by cases h), fun _ => ?_⟩
        rw [e2, if_neg (by decide)] at hq
        exact ⟨hq, Nat.zero_le _⟩
    have HL := Lib.hid (laid4_any a0 a1 a2 n 6 6 4 4 h0 h1 h2 hn64)
    rw [hu] at HL
    have HBI := Lib.hid (fun W (hb : Below W1.heap.size W1 W) => show BytI w a0 a1 a2 (.slice ao n cap) l n 0 u ok R W from
      ⟨HB1.out.trans (hb.mono HB1.out.size), by rw [← HGX.out]; exact (hb.block _ hlt).trans HBX.out, HRow.out.below hb, (fun h => by rw [List.drop_zero]; exact hgood h), hbad⟩)
    clear hb1 hbx HBX0 hgx HRi hrow hgood hbad hps hu HR H HRow
    go_wp2_with fail
    refine (HL.out W1.heap.size (W1.heap.size + 1) _ (twoRows4 ((Lib.alloc_old _ _ _ (by simp)).trans (get_top rfl)) (get_top (by simp)))).mono ?_
    rintro e W2 ⟨rfl, hb2⟩
    have HB := Lib.hid (HBI.out _ ((((Below.refl _ W1).alloc (Nat.le_refl _) _).alloc (by simp) _).trans (hb2.mono (by simp; omega))))
    clear hb2 HBI HL c0 c1 c2 c3 hlt HBX
    go_wp2_with fail
    go_loopg [4, 5, 6] n (fun j o b i wr => ∃ (k : Nat) (s2 : ByteArray) (ok2 : Bool), j + k = n ∧ i = .int .i64 (k : Int) ∧ o = .string s2 ∧ b = .bool ok2 ∧ BytI w a0 a1 a2 (.slice ao n cap) l n k s2 ok2 R wr)
    case atStart => exact ⟨0, u, ok, rfl, rfl, rfl, rfl, HB.out⟩
    case round =>
      clear HB
      obtain ⟨k, s2, ok2, hk, rfl, rfl, rfl, hI⟩ := hrel
      have hbx := hI.box
      rw [← HGX.out] at hbx
      have c3 := (blk_cell hbx 3).trans rfl
      have HI := Lib.hid hI
      clear hI hbx
      by_cases hlt : k < n
      · have u0 : (0 : Int) ≤ (k : Int) := by omega
        have u1 : (k : Int) < (n : Int) := by omega
        cases ok2 with
        | true =>
          obtain ⟨j, rfl⟩ : ∃ j, gk = j + 1 := ⟨gk - 1, by omega⟩
          have hlen : k < l.length := by rw [← HN.out]; exact hlt
          obtain ⟨hq, hsz⟩ := HI.out.good rfl
          obtain ⟨b, o, rfl, hb, hwf, hc⟩ := HI.out.row.get (i := k) hlen
          have e1 := hc k hlen
          have hgd : l.getD k .zero = l[k] := by simp [List.getD, hlen]
          rw [hgd] at e1 hwf
          obtain ⟨f, hf⟩ : ∃ f, f = l[k] := ⟨_, rfl⟩
          have hdr : l.drop k = f :: l.drop (k + 1) := by rw [List.drop_eq_getElem_cons hlen, hf]
          rw [← hf] at e1 hwf
          rw [hdr, bodyB] at hq
          have d0 : wr.cell? ⟨b, o + k * 4, none⟩ = some (.int .i64 f.a) := e1 0 _ rfl
          have d1 : wr.cell? ⟨b, o + k * 4 + 1, none⟩ = some (.int .i64 f.b) := e1 1 _ rfl
          have d2 : wr.cell? ⟨b, o + k * 4 + 2, none⟩ = some (.int .i64 f.c) := e1 2 _ rfl
          have d3 : wr.cell? ⟨b, o + k * 4 + 3, none⟩ = some (.int .i64 f.d) := e1 3 _ rfl
          have hps : ∀ p ∈ fndPs f, 1 ≤ p.2 ∧ p.2 ≤ 6 := by intro p hp; simp [fndPs] at hp; rcases hp with rfl | rfl | rfl | rfl <;> simp
          obtain ⟨u, ok, hu, husz, hgood, hbad⟩ : ∃ (u : ByteArray) (ok : Bool), laidB [(f.a, 2), (f.b, 4), (f.c, 4), (f.d, 4)] ⟨#[]⟩ = (u, ok) ∧ (s2 ++ u).size ≤ 24 + 24 * (k + 1) ∧ (ok = true → R = bodyB (l.drop (k + 1)) (s2 ++ u)) ∧ (ok = false → R = (⟨#[]⟩, 2)) := by
            have hz := (fieldsSpec_size (fndPs f) s2).2
            have hl4 : (fndPs f).length = 4 := rfl
            rw [hl4] at hz
            rcases four_ways (fndPs f) s2 hps with ⟨u, e1, e2⟩ | ⟨e1, e2⟩
            · refine ⟨u, true, e1, ?_, fun _ => ?_, fun h => by cases h⟩
              · rw [e2] at hz
                simp only at hz
                omega
              · rw [hq, e2, if_pos rfl]
            · refine ⟨⟨#[]⟩, false, e1, ?_, (fun h => by cases h), fun _ => ?_⟩
              · rw [app_nil]; omega
              · rw [hq, e2, if_neg (by decide)]
          have HL := Lib.hid (laid4_any f.a f.b f.c f.d 2 4 4 4 (wfI hwf.1).2 (wfI hwf.2.1).2 (wfI hwf.2.2.1).2 (wfI hwf.2.2.2).2)
          rw [hu] at HL
          have hkj : j + (k + 1) = n := by omega
          have HKJ := Lib.hid hkj
          have HNXT := Lib.hid (fun W (hb : Below wr.heap.size wr W) => show BytI w a0 a1 a2 (.slice (some ⟨b, o, none⟩) n cap) l n (k + 1) (s2 ++ u) ok R W from
            ⟨HI.out.bel.trans (hb.mono HI.out.bel.size), (hb.block _ (blk_lt HI.out.box)).trans HI.out.box, HI.out.row.below hb, (fun h => ⟨hgood h, husz⟩), fun h => ⟨hbad h, husz⟩⟩)
          have hus : s2.size + u.size ≤ 24 + 24 * (k + 1) := by rw [← ByteArray.size_append]; exact husz
          clear hkj hk hu hgood hbad hps husz hq hdr hf hgd e1 hc hlen hwf
          go_wp2_with fail
          refine (HL.out (wr.heap.size + 1) (wr.heap.size + 1 + 1) _ (twoRows4 ((Lib.alloc_old _ _ _ (by simp)).trans (get_top (by simp))) (get_top (by simp)))).mono ?_
          rintro e W3 ⟨rfl, hb3⟩
          have HX := Lib.hid (HNXT.out _ (((((Below.refl _ wr).alloc (Nat.le_refl _) _).alloc (by simp) _).alloc (by simp; omega) _).trans (hb3.mono (by simp; omega))))
          clear hb3 HNXT HL c3 d0 d1 d2 d3
          go_wp2_with fail
          go_roundg j
          case measure => omega
          case rel => exact ⟨k + 1, s2 ++ u, ok, HKJ.out, by go_num, rfl, rfl, HX.out⟩
        | false =>
          obtain ⟨rfl, _⟩ := HI.out.bad rfl
          go_wp2_with fail
          go_ret2
          exact ⟨rfl, HI.out.bel⟩
      · obtain rfl : gk = 0 := by omega
        obtain rfl : k = n := by omega
        cases ok2 with
        | true =>
          obtain ⟨hq, _⟩ := HI.out.good rfl
          rw [List.drop_of_length_le (by rw [← HN.out]; exact Nat.le_refl _), bodyB] at hq
          subst hq
          go_wp2_with fail
          go_ret2
          exact ⟨rfl, HI.out.bel⟩
        | false =>
          obtain ⟨rfl, _⟩ := HI.out.bad rfl
          go_wp2_with fail
          go_ret2
          exact ⟨rfl, HI.out.bel⟩
end Go.Proofs.Ythobfbiobnmceaa.B
