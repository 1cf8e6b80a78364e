/-
  report.Bytes, walked.
-/
import Derived.Test.YthobfbiobnmceaaFields
namespace Go.Proofs.Ythobfbiobnmceaa.B
open Go.RowKit
set_option linter.unusedVariables false
set_option linter.unusedSimpArgs false

def headPs (a0 a1 a2 n : Int) : List (Int × Int) := [(a0, 6), (a1, 6), (a2, 4), (n, 4)]
def fndPs (f : Four) : List (Int × Int) := [(f.a, 2), (f.b, 4), (f.c, 4), (f.d, 4)]
def bodyB : List Four → ByteArray → ByteArray × Int
  | [], s => (s, 0)
  | f :: r, s => if (fieldsSpec (fndPs f) s).2 = 0 then bodyB r (fieldsSpec (fndPs f) s).1 else (⟨#[]⟩, (fieldsSpec (fndPs f) s).2)
def rises (l : List Four) : Bool := risingL l (l.length - 1) 1
def repBytes (a0 a1 a2 : Int) (l : List Four) : ByteArray × Int :=
  if rises l = true then
    if (fieldsSpec (headPs a0 a1 a2 l.length) ⟨#[]⟩).2 = 0 then bodyB l (fieldsSpec (headPs a0 a1 a2 l.length) ⟨#[]⟩).1 else (⟨#[]⟩, (fieldsSpec (headPs a0 a1 a2 l.length) ⟨#[]⟩).2)
  else (⟨#[]⟩, 5)
theorem fieldsSpec_size : ∀ (ps : List (Int × Int)) (s : ByteArray), s.size ≤ (fieldsSpec ps s).1.size ∧ (fieldsSpec ps s).1.size ≤ s.size + 6 * ps.length
  | [], s => ⟨Nat.le_refl _, Nat.le_refl _⟩
  | p :: r, s => by
    simp only [fieldsSpec]
    have hp := putSpec_size p.1 p.2
    split
    · have := fieldsSpec_size r (s ++ (putSpec p.1 p.2).1)
      rw [ByteArray.size_append] at this
      simp only [List.length_cons]
      omega
    · simp only [List.length_cons]
      omega
theorem putSpec_ok {n w : Int} (h : (putSpec n w).2 = 0) : (putSpec n w).1.size = w.toNat := by
  unfold putSpec at h ⊢
  split
  · rename_i hc
    rw [if_pos hc] at h
    cases h
  · rename_i hc
    rw [if_neg hc] at h
    split
    · rw [strOfNums_size, le_length]
    · rename_i hf
      rw [if_neg hf] at h
      cases h
theorem head_pos (a0 a1 a2 n : Int) (h : (fieldsSpec (headPs a0 a1 a2 n) ⟨#[]⟩).2 = 0) : 0 < (fieldsSpec (headPs a0 a1 a2 n) ⟨#[]⟩).1.size := by
  unfold headPs fieldsSpec at h ⊢
  split
  · rename_i h1
    have := putSpec_ok h1
    have h2 := fieldsSpec_size [(a1, 6), (a2, 4), (n, 4)] (⟨#[]⟩ ++ (putSpec (a0, (6 : Int)).1 (a0, (6 : Int)).2).1)
    rw [ByteArray.size_append] at h2
    have h3 : (putSpec (a0, (6 : Int)).1 (a0, (6 : Int)).2).1.size = 6 := this
    exact Nat.lt_of_lt_of_le (by omega) h2.1
  · rename_i h1
    rw [if_neg h1] at h
    exact absurd h h1

theorem finding_rising (v : Value) (l : List Four) (w : World) (h : FndRow w v l) (hsz : l.length ≤ 1000000) :
    Calls Try.prog 25 #[v, .func (.func 26) #[] #[]] w fun e w' => e = .returned (.bool (rises l)) ∧ Below w.heap.size w w' := rising_any v l w h (by omega)
theorem fields_four (g b : Nat) (p0 p1 p2 p3 q0 q1 q2 q3 : Int) (s : ByteArray) (w : World) (hgb : b ≠ g) (h : Bld w g (bytesOf s)) (hp : w.heap[b]? = some (.cells #[.int .i64 p0, .int .i64 q0, .int .i64 p1, .int .i64 q1, .int .i64 p2, .int .i64 q2, .int .i64 p3, .int .i64 q3] 60 (0, 0))) (hsz : s.size ≤ 90000000)
    (h0 : -9223372036854775808 ≤ p0 ∧ p0 ≤ 9223372036854775807) (h1 : -9223372036854775808 ≤ p1 ∧ p1 ≤ 9223372036854775807) (h2 : -9223372036854775808 ≤ p2 ∧ p2 ≤ 9223372036854775807) (h3 : -9223372036854775808 ≤ p3 ∧ p3 ≤ 9223372036854775807) :
    Calls Try.prog 27 #[.pointer (some ⟨g, 0, none⟩), .slice (some ⟨b, 0, none⟩) 4 4] w fun e w' => e = .returned (.int .i64 (fieldsSpec [(p0, q0), (p1, q1), (p2, q2), (p3, q3)] s).2) ∧ Bld w' g (bytesOf (fieldsSpec [(p0, q0), (p1, q1), (p2, q2), (p3, q3)] s).1) ∧ BFrame g w w' :=
  fields_any g b [(p0, q0), (p1, q1), (p2, q2), (p3, q3)] s w hgb h hp (by simp only [List.length_cons, List.length_nil]; omega) (by intro p hp; simp at hp; rcases hp with rfl | rfl | rfl | rfl <;> assumption)

structure RepI (w : World) (v : Value) (l : List Four) (g : Nat) (s : ByteArray) (W : World) : Prop where
  bel : Below w.heap.size w W
  row : FndRow w v l
  ge : w.heap.size ≤ g
  bld : Bld W g (bytesOf s)
theorem wfI {n : Int} (h : (Lit.int .i64 n).wf = true) : -9223372036854775808 ≤ n ∧ n ≤ 9223372036854775807 := by
  simp [Lit.wf, IntKind.min, IntKind.max, IntKind.signed, IntKind.bits] at h
  omega
set_option maxRecDepth 100000 in
set_option maxHeartbeats 3200000 in
theorem repBytes_any (a0 a1 a2 : Int) (v : Value) (l : List Four) (w : World) (h : FndRow w v l) (hsz : l.length ≤ 1000000) (h0 : -9223372036854775808 ≤ a0 ∧ a0 ≤ 9223372036854775807) (h1 : -9223372036854775808 ≤ a1 ∧ a1 ≤ 9223372036854775807) (h2 : -9223372036854775808 ≤ a2 ∧ a2 ≤ 9223372036854775807) :
    Calls Try.prog 12 #[.agg #[.int .i64 a0, .int .i64 a1, .int .i64 a2, v]] w fun e w' => e = .returned (.tuple #[.string (repBytes a0 a1 a2 l).1, .int .i64 (repBytes a0 a1 a2 l).2]) ∧ Below w.heap.size w w' := by
  obtain ⟨ao, cap, rfl, hcap, hmax⟩ := h.form
  obtain ⟨R, hR⟩ : ∃ R, R = repBytes a0 a1 a2 l := ⟨_, rfl⟩
  rw [← hR]
  have HR := Lib.hid hR
  have hu24 := Try.underlying24
  have hu54 := Try.underlying54
  obtain ⟨n, hn⟩ : ∃ n, n = l.length := ⟨_, rfl⟩
  rw [← hn] at hcap h hsz
  rw [← hn]
  have HN := Lib.hid hn
  have H := Lib.hid h
  have H0 := Lib.hid h0
  have H1 := Lib.hid h1
  have H2 := Lib.hid h2
  clear hR hn h hmax h0 h1 h2
  go_enter Try.func12, Try.ntmps12
  go_wp2_with fail
  refine (finding_rising _ l _ (H.out.below ((Below.refl _ w).alloc (Nat.le_refl _) _)) (by rw [← HN.out]; exact hsz)).mono ?_
  rintro e W1 ⟨rfl, hb1⟩
  have hbx : W1.heap[w.heap.size]? = some (.cells #[.int .i64 a0, .int .i64 a1, .int .i64 a2, .slice ao n cap] 24 (0, 0)) := (hb1.block _ (by simp)).trans (get_top rfl)
  have hbel : Below w.heap.size w W1 := ((Below.refl _ w).alloc (Nat.le_refl _) _).trans (hb1.mono (by simp))
  have hlt := blk_lt hbx
  have HBX := Lib.hid hbx
  have c0 := (blk_cell hbx 0).trans rfl
  have c1 := (blk_cell hbx 1).trans rfl
  have c2 := (blk_cell hbx 2).trans rfl
  have c3 := (blk_cell hbx 3).trans rfl
  have HB := Lib.hid hbel
  have hq := HR.out
  unfold repBytes at hq
  obtain ⟨bb, hbb⟩ : ∃ b, b = rises l := ⟨_, rfl⟩
  rw [← hbb] at hq ⊢
  obtain ⟨gx, hgx⟩ : ∃ g, g = w.heap.size := ⟨_, rfl⟩
  rw [← hgx] at c0 c1 c2 c3 hlt ⊢
  have HGX := Lib.hid hgx
  clear hbel hb1 hbx hbb HR hgx
  cases bb with
  | false =>
    have hq' : R = (⟨#[]⟩, 5) := hq
    have HQ := Lib.hid hq'
    clear hq hq'
    go_wp2_with fail
    go_ret2
    rw [HQ.out, HGX.out]
    exact ⟨rfl, HB.out⟩
  | true =>
    rw [if_pos rfl] at hq
    have HQ := Lib.hid hq
    clear hq
    go_wp2_with fail
    have hnr : -9223372036854775808 ≤ (n : Int) ∧ (n : Int) ≤ 9223372036854775807 := by omega
    have HNR := Lib.hid hnr
    refine (fields_four _ _ _ _ _ _ _ _ _ _ ⟨#[]⟩ _ (by omega) ((Bld.new W1).below ((Below.refl _ _).alloc (Nat.le_refl _) _)) (get_top (by simp)) (by show 0 ≤ 90000000; omega) H0.out H1.out H2.out HNR.out).mono ?_
    rintro e W2 ⟨rfl, hb2, hf2⟩
    have hge : w.heap.size ≤ W1.heap.size := HB.out.size
    have hbel2 : Below w.heap.size w W2 := HB.out.trans (((((Below.refl _ W1).alloc (Nat.le_refl _) _).alloc (by simp) _).trans hf2.bel).mono hge)
    have hbx2 : W2.heap[gx]? = some (.cells #[.int .i64 a0, .int .i64 a1, .int .i64 a2, .slice ao n cap] 24 (0, 0)) := by
      refine (hf2.bel.block gx hlt).trans ?_
      refine ((((Below.refl _ W1).alloc (Nat.le_refl _) _).alloc (by simp) _).block gx hlt).trans ?_
      rw [HGX.out]
      exact HBX.out
    have d3 := (blk_cell hbx2 3).trans rfl
    have hq := HQ.out
    rw [← HN.out] at hq
    have hpos := head_pos a0 a1 a2 n
    have hsize := (fieldsSpec_size (headPs a0 a1 a2 n) ⟨#[]⟩).2
    have hs4 : (headPs a0 a1 a2 n).length = 4 := rfl
    have hs0 : (⟨#[]⟩ : ByteArray).size = 0 := rfl
    rw [hs4, hs0] at hsize
    change Bld W2 W1.heap.size (bytesOf (fieldsSpec (headPs a0 a1 a2 n) ⟨#[]⟩).1) at hb2
    obtain ⟨g, hg⟩ : ∃ g, g = W1.heap.size := ⟨_, rfl⟩
    rw [← hg] at hb2 hge ⊢
    unfold headPs at hq hb2 hpos hsize
    obtain ⟨⟨s1, st⟩, hF⟩ : ∃ q, q = fieldsSpec [(a0, 6), (a1, 6), (a2, 4), ((n : Int), 4)] ⟨#[]⟩ := ⟨_, rfl⟩
    rw [← hF] at hq hb2 hpos hsize ⊢
    simp only at hq hb2 hpos hsize ⊢
    have HI := Lib.hid (show RepI w (.slice ao n cap) l g s1 W2 from ⟨hbel2, H.out, hge, hb2⟩)
    clear hF hbel2 hbx2 hge hb2 hf2 hs4 hs0 c0 c1 c2 c3 hlt hg HBX HQ H0 H1 H2 HNR hnr H
    by_cases hz : st = 0
    · subst hz
      rw [if_pos rfl] at hq
      have HP1 := Lib.hid (hpos rfl)
      clear hpos
      have HQ := Lib.hid hq
      clear hq
      go_wp2_with fail
      go_loopg [34] n (fun j i wr => ∃ (k : Nat) (s2 : ByteArray), j + k = n ∧ i = .int .i64 (k : Int) ∧ R = bodyB (l.drop k) s2 ∧ s2.size + 24 * j ≤ 80000000 ∧ 0 < s2.size ∧ RepI w (.slice ao n cap) l g s2 wr)
      case atStart => exact ⟨0, s1, rfl, rfl, HQ.out, by omega, HP1.out, HI.out⟩
      case round =>
        clear HI HQ d3 hsize HP1
        obtain ⟨k, s2, hk, rfl, hq, hs2, hp2, hI⟩ := hrel
        by_cases hlt : k < n
        · obtain ⟨j, rfl⟩ : ∃ j, gk = j + 1 := ⟨gk - 1, by omega⟩
          have hlen : k < l.length := by rw [← HN.out]; exact hlt
          rw [List.drop_eq_getElem_cons hlen] at hq
          obtain ⟨b, o, rfl, hb, hwf, hc⟩ := (hI.row.below hI.bel).get (i := k) hlen
          have e1 := hc k hlen
          have hgd : l.getD k .zero = l[k] := by simp [List.getD, hlen]
          rw [hgd] at e1 hwf
          obtain ⟨f, hf⟩ : ∃ f, f = l[k] := ⟨_, rfl⟩
          rw [← hf] at e1 hwf hq
          have c0 : wr.cell? ⟨b, o + k * 4, none⟩ = some (.int .i64 f.a) := e1 0 _ rfl
          have c1 : wr.cell? ⟨b, o + k * 4 + 1, none⟩ = some (.int .i64 f.b) := e1 1 _ rfl
          have c2 : wr.cell? ⟨b, o + k * 4 + 2, none⟩ = some (.int .i64 f.c) := e1 2 _ rfl
          have c3 : wr.cell? ⟨b, o + k * 4 + 3, none⟩ = some (.int .i64 f.d) := e1 3 _ rfl
          have hs3 := (fieldsSpec_size (fndPs f) s2)
          have hl4 : (fndPs f).length = 4 := rfl
          rw [hl4] at hs3
          rw [bodyB] at hq
          unfold fndPs at hq hs3
          have HQ := Lib.hid hq
          have HI := Lib.hid hI
          have HS3 := Lib.hid hs3
          have HWF := Lib.hid hwf
          have u0 : (0 : Int) ≤ (k : Int) := by omega
          have u1 : (k : Int) < (n : Int) := by omega
          clear hq hI hf hgd e1 hc hwf hlen hs3 hl4
          go_wp2_with fail
          have hgw := HI.out.bld.lt
          refine (fields_four g (wr.heap.size + 1) _ _ _ _ _ _ _ _ s2 _ (by omega) (HI.out.bld.below (((Below.refl _ _).alloc (Nat.le_refl _) _).alloc (by simp) _)) (get_top (by simp)) (by omega) (wfI HWF.out.1) (wfI HWF.out.2.1) (wfI HWF.out.2.2.1) (wfI HWF.out.2.2.2)).mono ?_
          rintro e W3 ⟨rfl, hb3, hf3⟩
          have hq := HQ.out
          have hs3 := HS3.out
          obtain ⟨⟨s3, st⟩, hF⟩ : ∃ q, q = fieldsSpec [(f.a, 2), (f.b, 4), (f.c, 4), (f.d, 4)] s2 := ⟨_, rfl⟩
          rw [← hF] at hq hb3 hs3 ⊢
          simp only at hq hb3 hs3 ⊢
          have hbel3 : Below g wr W3 := (((Below.refl g wr).alloc (Nat.le_of_lt hgw) _).alloc (by simp; omega) _).trans hf3.bel
          have HI3 := Lib.hid (show RepI w (.slice (some ⟨b, o, none⟩) n cap) l g s3 W3 from ⟨HI.out.bel.trans (hbel3.mono HI.out.ge), HI.out.row, HI.out.ge, hb3⟩)
          clear HI HQ HS3 HWF hF hb3 hf3 hbel3 hgw c0 c1 c2 c3
          by_cases hz : st = 0
          · subst hz
            rw [if_pos rfl] at hq
            have HQ := Lib.hid hq
            clear hq
            go_wp2_with fail
            go_roundg j
            case measure => omega
            case rel => exact ⟨k + 1, s3, by omega, by go_num, HQ.out, by omega, by omega, HI3.out⟩
          · rw [if_neg hz] at hq
            have HQ := Lib.hid hq
            clear hq
            go_wp2_with fail
            go_ret2
            rw [HQ.out]
            exact ⟨rfl, HI3.out.bel⟩
        · obtain rfl : gk = 0 := by omega
          obtain rfl : k = n := by omega
          rw [List.drop_of_length_le (by rw [← HN.out]; exact Nat.le_refl _)] at hq
          have HQ := Lib.hid hq
          have HI := Lib.hid hI
          clear hq hI
          go_wp2_with fail
          refine (builder_string g s2 wr HI.out.bld hp2).mono ?_
          rintro e W3 ⟨rfl, hb3⟩
          have HB3 := Lib.hid (HI.out.bel.trans (hb3.mono HI.out.ge))
          clear hb3 HI
          go_wp2_with fail
          go_ret2
          rw [HQ.out]
          exact ⟨rfl, HB3.out⟩
    · rw [if_neg hz] at hq
      have HQ := Lib.hid hq
      clear hq
      go_wp2_with fail
      go_ret2
      rw [HQ.out]
      exact ⟨rfl, HI.out.bel⟩
end Go.Proofs.Ythobfbiobnmceaa.B
