/-
  ReportTrue.
-/
import Derived.Test.YthobfbiobnmceaaRepLawsE
import Derived.Test.YthobfbiobnmceaaRepForth
import Derived.Test.YthobfbiobnmceaaRepSame
namespace Go.Proofs.Ythobfbiobnmceaa.B
open Go.RowKit
set_option linter.unusedVariables false
set_option linter.unusedSimpArgs false

structure Rpt where
  a0 : Int
  a1 : Int
  a2 : Int
  fs : List Four
def i64 (n : Int) : Prop := -9223372036854775808 ≤ n ∧ n ≤ 9223372036854775807
/-- v reads as the reports L. -/
def RepsAt (w : World) (v : Value) (L : List Rpt) : Prop :=
  ∃ ao cap, v = .slice ao L.length cap ∧ L.length ≤ cap ∧ L.length ≤ maxLen ∧
    (0 < L.length → ∃ g o, ao = some ⟨g, o, none⟩ ∧ g < w.heap.size ∧ ∀ (i : Nat) x, L[i]? = some x → i64 x.a0 ∧ i64 x.a1 ∧ i64 x.a2 ∧ ∃ vf, w.cell? ⟨g, o + i * 4, none⟩ = some (.int .i64 x.a0) ∧ w.cell? ⟨g, o + i * 4 + 1, none⟩ = some (.int .i64 x.a1) ∧ w.cell? ⟨g, o + i * 4 + 2, none⟩ = some (.int .i64 x.a2) ∧ w.cell? ⟨g, o + i * 4 + 3, none⟩ = some vf ∧ FndRow w vf x.fs)
theorem RepsAt.nil (w : World) : RepsAt w (.slice none 0 0) [] := ⟨none, 0, rfl, Nat.le_refl _, by simp, fun h => by simp at h⟩
theorem RepsAt.form {w : World} {v : Value} {L : List Rpt} (h : RepsAt w v L) : ∃ ao cap, v = .slice ao L.length cap ∧ L.length ≤ cap ∧ L.length ≤ maxLen := by
  obtain ⟨ao, cap, he, h1, h2, h3⟩ := h
  exact ⟨ao, cap, he, h1, h2⟩
theorem RepsAt.below {w w' : World} {v : Value} {L : List Rpt} (h : RepsAt w v L) (hb : Below w.heap.size w w') : RepsAt w' v L := by
  obtain ⟨ao, cap, he, h1, h2, h3⟩ := h
  refine ⟨ao, cap, he, h1, h2, fun h0 => ?_⟩
  obtain ⟨g, o, e, hg, hc⟩ := h3 h0
  refine ⟨g, o, e, Nat.lt_of_lt_of_le hg hb.size, fun i x hx => ?_⟩
  obtain ⟨k0, k1, k2, vf, c0, c1, c2, c3, hf⟩ := hc i x hx
  exact ⟨k0, k1, k2, vf, (hb.cell (p := ⟨g, _, none⟩) hg).trans c0, (hb.cell (p := ⟨g, _, none⟩) hg).trans c1, (hb.cell (p := ⟨g, _, none⟩) hg).trans c2, (hb.cell (p := ⟨g, _, none⟩) hg).trans c3, hf.below hb⟩
theorem RepsAt.get {w : World} {ao : Option Addr} {n cap : Nat} {L : List Rpt} (h : RepsAt w (.slice ao n cap) L) {i : Nat} (hi : i < L.length) : ∃ g o, ∃ x : Rpt, ∃ vf, ao = some ⟨g, o, none⟩ ∧ g < w.heap.size ∧ i64 x.a0 ∧ i64 x.a1 ∧ i64 x.a2 ∧ w.cell? ⟨g, o + i * 4, none⟩ = some (.int .i64 x.a0) ∧ w.cell? ⟨g, o + i * 4 + 1, none⟩ = some (.int .i64 x.a1) ∧ w.cell? ⟨g, o + i * 4 + 2, none⟩ = some (.int .i64 x.a2) ∧ w.cell? ⟨g, o + i * 4 + 3, none⟩ = some vf ∧ FndRow w vf x.fs := by
  obtain ⟨ao', cap', he, _, _, hc⟩ := h
  simp at he
  obtain ⟨rfl, rfl, rfl⟩ := he
  obtain ⟨g, o, e, hg, hc⟩ := hc (by omega)
  obtain ⟨k0, k1, k2, vf, c⟩ := hc i _ (List.getElem?_eq_getElem hi)
  exact ⟨g, o, _, vf, e, hg, k0, k1, k2, c⟩
def strs (l : List ByteArray) : List Value := l.map .string
theorem strs_app (l m : List ByteArray) : strs (l ++ m) = strs l ++ strs m := by simp [strs]
theorem infoStr : (Try.prog.info? 9).map (fun i => (i.zero, i.size, i.bytes)) = some (some (.string ⟨#[]⟩), 1, 16) := by kernel_rfl
theorem Row.keptM {w w' : World} {e : TypeId} {size : Nat} {v : Value} {n : Nat} {xs : List Value} {gm : Nat} {ks : List Pr} (h : Row w e size v n xs) (hm : MarkMap w gm ks) (hk : Keeps (fun i => i = gm) w w') : Row w' e size v n xs := by
  refine h.kept hk (fun b hb he => ?_)
  subst he
  obtain ⟨_, D, ⟨es, clock, hb2, _⟩, _⟩ := hm
  rcases h.2 with ⟨rfl, _⟩ | ⟨g, cap, cur, lo, hi, rfl, hg, _⟩
  · simp [Value.ownBlock] at hb
  · simp [Value.ownBlock] at hb
    subst hb
    rw [hb2] at hg
    cases hg
/-! ### The plain law -/
theorem markOf_pre {ks ks' : List Pr} {p : Pr} (h : p ∈ ks) (hp : ks <+: ks') : markOf ks' p = markOf ks p := by
  obtain ⟨ts, rfl⟩ := hp
  rw [markOf, markOf, posOf_app h]
/-- What was signed so far, and what the vault has marked. -/
structure TrueP (ks : List Pr) (all : List ByteArray) : Prop where
  signed : ∀ t ∈ all, ∃ S, t = S ++ markOf ks (lab, S) ∧ (lab, S) ∈ ks
  marked : ∀ p ∈ ks, p.1 = lab ∧ p.2 ++ markOf ks p ∈ all ∧ (repOf p.2).e = 0 ∧ p.2.size ≤ 720
theorem TrueP.nil : TrueP [] [] := ⟨fun t h => by simp at h, fun p h => by simp at h⟩
theorem TrueP.add {ks : List Pr} {all : List ByteArray} (h : TrueP ks all) {S : ByteArray} (hr : (repOf S).e = 0) (hs : S.size ≤ 720) : TrueP (addTo ks (lab, S)) (all ++ [S ++ markOf ks (lab, S)]) := by
  have hp := addTo_pre ks (lab, S)
  have hmk : markOf (addTo ks (lab, S)) (lab, S) = markOf ks (lab, S) := by rw [markOf, markOf, posOf_addTo]
  refine ⟨fun t ht => ?_, fun p hp2 => ?_⟩
  · rcases List.mem_append.1 ht with ht | ht
    · obtain ⟨T, h1, h2⟩ := h.signed t ht
      exact ⟨T, by rw [markOf_pre h2 hp]; exact h1, hp.subset h2⟩
    · rw [List.mem_singleton.1 ht]
      exact ⟨S, by rw [hmk], mem_addTo ks _⟩
  · by_cases hin : p ∈ ks
    · obtain ⟨h1, h2, h3, h4⟩ := h.marked p hin
      exact ⟨h1, by rw [markOf_pre hin hp]; exact List.mem_append_left _ h2, h3, h4⟩
    · have hpe : p = (lab, S) := by
        unfold addTo at hp2
        split at hp2
        · exact absurd hp2 hin
        · rcases List.mem_append.1 hp2 with h5 | h5
          · exact absurd h5 hin
          · exact List.mem_singleton.1 h5
      subst hpe
      exact ⟨rfl, by rw [hmk]; exact List.mem_append_right _ (List.mem_singleton.2 rfl), hr, hs⟩
theorem bytesOf_app2 (a b : ByteArray) : bytesOf (a ++ b) = bytesOf a ++ bytesOf b := by simp [bytesOf]
theorem split_at {s : ByteArray} {c : Nat} (hc : c ≤ s.size) : s.extract 0 c ++ s.extract c s.size = s := by
  have h2 : (List.drop c (bytesOf s)).take (s.size - c) = List.drop c (bytesOf s) := List.take_of_length_le (by rw [List.length_drop, bytesOf_length]; exact Nat.le_refl _)
  rw [← strOfNums_bytesOf (s.extract 0 c ++ s.extract c s.size), bytesOf_app2, bytesOf_extract, bytesOf_extract, Nat.sub_zero, List.drop_zero, h2, List.take_append_drop, strOfNums_bytesOf]
/-- What is asked was signed just if it is marked so. -/
theorem TrueP.law {ks : List Pr} {all : List ByteArray} (h : TrueP ks all) (ask : ByteArray) :
    (ask ∈ all → 16 ≤ ask.size ∧ madeB ks (lab, ask.extract 0 (ask.size - 16)) (ask.extract (ask.size - 16) ask.size) = true ∧ (repOf (ask.extract 0 (ask.size - 16))).e = 0) ∧
    (ask ∉ all → 16 ≤ ask.size → madeB ks (lab, ask.extract 0 (ask.size - 16)) (ask.extract (ask.size - 16) ask.size) = false) := by
  refine ⟨fun hin => ?_, fun hno h16 => ?_⟩
  · obtain ⟨S, rfl, hk⟩ := h.signed ask hin
    have hm := markOf_size ks (lab, S)
    have hsz : (S ++ markOf ks (lab, S)).size = S.size + 16 := by rw [ByteArray.size_append, hm]
    have h1 : (S ++ markOf ks (lab, S)).extract 0 ((S ++ markOf ks (lab, S)).size - 16) = S := by rw [hsz, Nat.add_sub_cancel, app_front]
    have h2 : (S ++ markOf ks (lab, S)).extract ((S ++ markOf ks (lab, S)).size - 16) (S ++ markOf ks (lab, S)).size = markOf ks (lab, S) := by
      rw [show (S ++ markOf ks (lab, S)).size - 16 = S.size by rw [hsz, Nat.add_sub_cancel]]
      exact app_back S _
    refine ⟨by rw [hsz]; omega, ?_, ?_⟩
    · rw [h1, h2, madeB, (isIn_eq ks _).2 hk]
      simp
    · rw [h1]
      exact (h.marked _ hk).2.2.1
  · cases hb : madeB ks (lab, ask.extract 0 (ask.size - 16)) (ask.extract (ask.size - 16) ask.size) with
    | false => rfl
    | true =>
      rw [madeB, Bool.and_eq_true, decide_eq_true_eq] at hb
      have hk := (isIn_eq ks _).1 hb.1
      have h2 := (h.marked _ hk).2.1
      rw [← hb.2, split_at (by omega)] at h2
      exact absurd h2 hno
theorem repOf_small2 (s : ByteArray) (hs : s.size ≤ 3000) : (repOf s).l.length ≤ 100000 := by
  unfold repOf
  split
  · simp
  · split
    · simp
    · split
      · simp
      · split
        · simp only [fndsOf_length]; omega
        · simp
theorem repOf_in64 (s : ByteArray) : (-9223372036854775808 ≤ (repOf s).a0 ∧ (repOf s).a0 ≤ 9223372036854775807) ∧ (-9223372036854775808 ≤ (repOf s).a1 ∧ (repOf s).a1 ≤ 9223372036854775807) ∧ (-9223372036854775808 ≤ (repOf s).a2 ∧ (repOf s).a2 ≤ 9223372036854775807) := by
  have h0 := num_range s 0 6
  have h1 := num_range s 6 6
  have h2 := num_range s 12 4
  have h0' : num s 0 6 < 281474976710656 := h0.2
  have h1' : num s 6 6 < 281474976710656 := h1.2
  have h2' : num s 12 4 < 4294967296 := h2.2
  unfold repOf
  split
  · simp
  · split
    · simp
    · split
      · simp
      · split
        · simp only; omega
        · simp
/-- Was it signed, among the first p? -/
def isQ (ask : ByteArray) (all : List ByteArray) (p : Nat) : Bool := isIn (all.take p) ask
theorem isQ_succ {ask : ByteArray} {all : List ByteArray} {p : Nat} (h : p < all.length) : isQ ask all (p + 1) = (isQ ask all p || decide (all[p] = ask)) := by
  unfold isQ
  rw [List.take_add_one, List.getElem?_eq_getElem h, Bool.eq_iff_iff, isIn_eq, Bool.or_eq_true, isIn_eq, decide_eq_true_eq]
  simp only [List.mem_append, Option.toList_some, List.mem_singleton]
  constructor
  · rintro (h | h)
    · exact .inl h
    · exact .inr h.symm
  · rintro (h | h)
    · exact .inl h
    · exact .inr h.symm
theorem isQ_end (ask : ByteArray) {all : List ByteArray} {p : Nat} (h : p = all.length) : isQ ask all p = isIn all ask := by
  unfold isQ
  rw [List.take_of_length_le (by omega)]
/-- What stands in a round of ReportTrue. -/
structure TrueI (w : World) (B g gm q : Nat) (v : Value) (n : Nat) (all : List ByteArray) (ks : List Pr) (W : World) : Prop where
  out : Loc w W 9 1 v n (strs all)
  len : n = all.length
  nq : n ≤ q
  vlm : Vlm W B g gm ks
  kl : ks.length ≤ q
  law : TrueP ks all
theorem Vlm.keepR {W W' : World} {B g gm n : Nat} {v : Value} {xs : List Value} {ks : List Pr} (h : Vlm W B g gm ks) (hr : Row W 9 1 v n xs) (hk : Keeps (fun i => v.ownBlock = some i) W W') : Vlm W' B g gm ks := by
  obtain ⟨h1, h2, h3, gi, gh, gs, a1, a2, a3, a4, a5, a6⟩ := h
  refine ⟨Nat.le_trans h1 hk.size, h2, h3, gi, gh, gs, a1, a2, a3, hk.at_ a4 (fun e => hr.ne_type a4 (by decide) e.symm), hk.at_ a5 (fun e => hr.ne_type a5 (by decide) e.symm), a6.same (hk.block gm (by omega) (fun e => ?_))⟩
  obtain ⟨_, D, ⟨es, clock, hb2, _⟩, _⟩ := a6
  rcases hr.2 with ⟨rfl, _⟩ | ⟨g', cap, cur, lo, hi, rfl, hg, _⟩
  · simp [Value.ownBlock] at e
  · simp [Value.ownBlock] at e
    subst e
    rw [hb2] at hg
    cases hg
theorem Vlm.map {W : World} {B g gm : Nat} {ks : List Pr} (h : Vlm W B g gm ks) : MarkMap W gm ks := by
  obtain ⟨h1, h2, h3, gi, gh, gs, a1, a2, a3, a4, a5, a6⟩ := h
  exact a6
theorem TrueI.below {w W W' : World} {B g gm q n : Nat} {v : Value} {all : List ByteArray} {ks : List Pr} (h : TrueI w B g gm q v n all ks W) (hb : Below W.heap.size W W') : TrueI w B g gm q v n all ks W' :=
  ⟨h.out.step hb, h.len, h.nq, h.vlm.below hb, h.kl, h.law⟩
theorem keeps_bel {w W W' : World} {gm : Nat} (hb : Below w.heap.size w W) (hk : Keeps (fun i => i = gm) W W') (hg : w.heap.size ≤ gm) : Below w.heap.size w W' :=
  hb.trans (hk.below hb.size (fun i hi e => by omega))
/-- After a signing: all but the append. -/
theorem TrueI.mark {w W W' : World} {B g gm q n : Nat} {v : Value} {all : List ByteArray} {ks ks' : List Pr} (h : TrueI w B g gm q v n all ks W) (hg : w.heap.size ≤ gm) (hv : Vlm W' B g gm ks') (hk : Keeps (fun i => i = gm) W W') : Loc w W' 9 1 v n (strs all) :=
  ⟨h.out.row.keptM h.vlm.map hk, keeps_bel h.out.below hk hg, h.out.base⟩
theorem Loc.size_bound {all : List ByteArray} {ks : List Pr} (h : TrueP ks all) : ∀ t ∈ all, t.size ≤ 800 := by
  intro t ht
  obtain ⟨S, rfl, hk⟩ := h.signed t ht
  have h1 := (h.marked _ hk).2.2.2
  rw [ByteArray.size_append, markOf_size]
  have h2 : S.size ≤ 720 := h1
  omega
def SignMp (B g gm : Nat) (ks : List Pr) (S : ByteArray) (m : ByteArray) (W w' : World) : Prop :=
  m = markOf ks (lab, S) ∧ Vlm w' B g gm (addTo ks (lab, S)) ∧ Keeps (fun i => i = gm) W w'
set_option maxRecDepth 100000 in
set_option maxHeartbeats 6400000 in
theorem reportTrue_walk (v0 : Value) (L : List Rpt) (ask : ByteArray) (hask : ask.size ≤ 140737488351232) (which : Int) (w : World) (h : RepsAt w v0 L) :
    Calls Try.prog 9 #[v0, .string ask, .int .i64 which] w fun e w' => e = .returned (.bool true) ∧ Below w.heap.size w w' := by
  obtain ⟨ao0, cap0, rfl, hcap, hmax⟩ := h.form
  have hu24 := Try.underlying24
  obtain ⟨N, hN⟩ : ∃ N, N = L.length := ⟨_, rfl⟩
  rw [← hN] at h hcap hmax ⊢
  have hN63 : (N : Int) ≤ 9223372036854775807 := by unfold maxLen at hmax; omega
  have H := Lib.hid h
  have HN := Lib.hid hN
  clear h hcap hmax hN
  go_enter Try.func9, Try.ntmps9
  go_wp2_with fail
  refine (Ideal_any w).mono ?_
  rintro e W3 ⟨g, gm, rfl, hv, hb3, hgm⟩
  have HI0 := Lib.hid (show TrueI w W3.heap.size g gm 0 (.slice none 0 0) 0 [] [] W3 from ⟨Loc.nil hb3 _ _, rfl, Nat.le_refl _, hv, Nat.le_refl _, TrueP.nil⟩)
  have HGM := Lib.hid hgm
  generalize W3.heap.size = B at HI0
  clear hv hb3 hgm
  by_cases hbig : 800 < ask.size
  · have z1 : (800 : Int) < (ask.size : Int) := by omega
    obtain ⟨ask1, ha1⟩ : ∃ t, t = ask.extract 0 800 := ⟨_, rfl⟩
    have hs1 : ask1.size ≤ 800 := by rw [ha1, ByteArray.size_extract]; omega
    go_wp2_with fail
    rw [← ha1]
    clear ha1
    clear z1 hbig hask
    go_loopg [8, 9] (min N 8) (fun j o i wr => ∃ (q n : Nat) (v : Value) (all : List ByteArray) (ks : List Pr), j + q = min N 8 ∧ i = .int .i64 (q : Int) ∧ o = v ∧ TrueI w B g gm q v n all ks wr)
    case atStart => exact ⟨0, 0, _, [], [], by omega, rfl, rfl, HI0.out⟩
    case round =>
      clear HI0
      obtain ⟨q, n, v, all, ks, hk, rfl, hov, hI⟩ := hrel
      have hov := hov.symm
      subst hov
      by_cases hlt : q < min N 8
      · obtain ⟨j, rfl⟩ : ∃ j, gk = j + 1 := ⟨gk - 1, by omega⟩
        have hlen : q < L.length := by rw [← HN.out]; omega
        obtain ⟨g1, o1, x, vf, rfl, hg1, b0, b1, b2, c0, c1, c2, c3, hf⟩ := (H.out.below hI.out.below).get (i := q) hlen
        obtain ⟨x0, hx0⟩ : ∃ y, y = x.a0 := ⟨_, rfl⟩
        obtain ⟨x1, hx1⟩ : ∃ y, y = x.a1 := ⟨_, rfl⟩
        obtain ⟨x2, hx2⟩ : ∃ y, y = x.a2 := ⟨_, rfl⟩
        rw [← hx0] at b0 c0
        rw [← hx1] at b1 c1
        rw [← hx2] at b2 c2
        obtain ⟨aof, capf, rfl, _⟩ := hf.form
        have u2 : (0 : Int) ≤ (q : Int) := by omega
        have u3 : (q : Int) < (N : Int) := by omega
        have u4 : (q : Int) < 8 := by omega
        have hq8 : q ≤ 8 := by omega
        have hkj : j + (q + 1) = min N 8 := by omega
        have HKJ := Lib.hid hkj
        have HI := Lib.hid hI
        have HFW := Lib.hid (few_any x0 x1 x2 _ x.fs 50 (by omega) wr hf)
        have HF := Lib.hid hf
        have HB012 := Lib.hid (And.intro b0 (And.intro b1 b2))
        obtain ⟨ao2, cap2, rfl, hc2⟩ := hI.out.row.form
        clear hI hk hlt hkj hf b0 b1 b2 hx0 hx1 hx2 hlen
        go_wp2_with fail
        refine HFW.out.mono ?_
        rintro e W4 ⟨vf', rfl, hf4, hb4⟩
        have hr4 := (hf4 wr HF.out).below hb4
        obtain ⟨fs, hfs⟩ : ∃ m, m = x.fs.take 50 := ⟨_, rfl⟩
        have hl50 : fs.length ≤ 50 := by rw [hfs]; exact List.length_take_le _ _
        rw [← hfs] at hr4
        obtain ⟨aof2, capf2, rfl, _⟩ := hr4.form
        have HI4 := Lib.hid (HI.out.below hb4)
        have hkl := HI.out.kl
        have HI4K := Lib.hid hkl
        have hnq := HI.out.nq
        have HSG := Lib.hid (Sign_any (some ⟨g, 0, none⟩) x0 x1 x2 _ fs W4 hr4 (by omega) HB012.out.1 HB012.out.2.1 HB012.out.2.2 (SignMp B g gm ks (repBytes x0 x1 x2 fs).1) (fun hok W hb => by
          have hsz := (rep_reads hok).2.1
          exact (Mac_ideal B g gm ks lab _ (small_mk (by decide) (by omega)) W (HI4.out.vlm.below hb) (by omega)).mono (fun e w' ⟨he, hv, hk⟩ => ⟨_, he, by rw [markOf_size]; decide, rfl, hv, hk⟩)))
        obtain ⟨⟨S, st⟩, hS⟩ : ∃ q, q = repBytes x0 x1 x2 fs := ⟨_, rfl⟩
        have HOK := Lib.hid (show st = 0 → (repOf S).e = 0 ∧ S.size ≤ 720 from fun h0 => by
          have hok : (repBytes x0 x1 x2 fs).2 = 0 := by rw [← hS]; exact h0
          have h1 := repOf_back hok
          have h2 := (rep_reads hok).2.1
          rw [← hS] at h1 h2
          simp only at h1 h2
          exact ⟨by rw [h1], by omega⟩)
        rw [← hS] at HSG
        simp only at HSG
        clear hf4 hb4 hr4 hfs HI HFW HF hS c0 c1 c2 c3 hg1
        go_wp2_with fail
        refine HSG.out.mono ?_
        rintro e W5 hpost
        by_cases hst : st = 0
        · subst hst
          obtain ⟨hrs, hS720⟩ := HOK.out rfl
          rcases hpost with ⟨h1, _⟩ | ⟨_, W, mk, hbW, ⟨hmk, hv5, hk5⟩, he⟩
          · exact absurd rfl h1
          have hms : mk.size = 16 := by rw [hmk, markOf_size]
          have hse : signS S mk = S ++ mk ∧ signE mk = 0 := by unfold signS signE; rw [if_neg (by omega), if_neg (by omega)]; exact ⟨rfl, rfl⟩
          rw [hse.1, hse.2] at he
          subst he
          have hIW := HI4.out.below hbW
          have HL5 := Lib.hid (hIW.mark HGM.out hv5 hk5)
          have HV5 := Lib.hid hv5
          have HLAW := Lib.hid (hIW.law.add hrs hS720)
          have HLEN := Lib.hid hIW.len
          have HAL := Lib.hid (addTo_len ks (lab, S))
          have HMK := Lib.hid hmk
          obtain ⟨t, ht⟩ : ∃ t, t = S ++ mk := ⟨_, rfl⟩
          have HTT := Lib.hid ht
          rw [← ht]
          obtain ⟨i1, hi, hz0, hz1, hz2⟩ := info_parts infoStr
          have HII := Lib.hid hi
          have HZ0 := Lib.hid hz0
          have HZ1 := Lib.hid hz1
          have HZ2 := Lib.hid hz2
          clear hrs hS720 hbW hmk hv5 hk5 hms hse hIW ht hi hz0 hz1 hz2 HOK HI4 HSG hkl
          go_wp2_with (refine wpList_append_row _ (by rfl) _ _ _ _ (by rfl) 9 i1 (.string ⟨#[]⟩) 1 16 Try.underlying43 HII.out HZ0.out HZ1.out HZ2.out rfl (by omega) _ n _ (by rfl) (HL5.out.row.alloc _) _ (by rfl) 1 [.string t] (Feeds.slice Try.underlying43 ⟨W5.heap.size, 0, none⟩ 1 1 _ (by rfl) (by simp [Value.oneCell']) (World.news_of_block (cs := #[.string t]) (t := 9) (fr := (0, 0)) (get_top rfl))) (by unfold maxLen; omega) (by omega) (W5.heap.size + 1) (by simp) ?_; intro ao6 cap6 w6 hown6 hgrow6 hat6; have HL6 := Lib.hid (Loc.app HL5.out ((Below.refl _ W5).alloc (Nat.le_refl _) _) hown6 hgrow6 hat6 (by omega)); have HV6 := Lib.hid (HV5.out.keepR HL5.out.row ((Keeps.of_below ((Below.refl _ W5).alloc (Nat.le_refl _) _)).trans (Keeps.of_grown (S := fun i => (Value.slice ao2 n cap2).ownBlock = some i) hgrow6 (fun k hk => hk)) (fun _ _ h => h))); clear hown6 hgrow6 hat6)
          go_roundg j
          case measure => omega
          case rel => exact ⟨q + 1, n + 1, _, all ++ [t], addTo ks (lab, S), HKJ.out, by go_num, rfl, ⟨by rw [strs_app]; exact HL6.out, by rw [List.length_append, ← HLEN.out]; rfl, by omega, HV6.out, by have := HAL.out; have := HI4K.out; omega, by rw [HTT.out, HMK.out]; exact HLAW.out⟩⟩
        · have hne : (st == 0) = false := by simpa using hst
          have hst2 : ¬ st = 0 := hst
          rcases hpost with ⟨_, rfl, hb5⟩ | ⟨h1, _⟩
          · have hI5 := HI4.out.below hb5
            have HI5 := Lib.hid (show TrueI w B g gm (q + 1) (.slice ao2 n cap2) n all ks W5 from ⟨hI5.out, hI5.len, by omega, hI5.vlm, by omega, hI5.law⟩)
            clear hb5 hI5 HI4 HSG HOK hst hkl hnq
            go_wp2_with fail
            go_roundg j
            case measure => omega
            case rel => exact ⟨q + 1, n, _, all, ks, HKJ.out, by go_num, rfl, HI5.out⟩
          · exact absurd h1 hst
      · obtain rfl : gk = 0 := by omega
        obtain rfl : q = min N 8 := by omega
        obtain ⟨q, hq⟩ : ∃ q, q = min N 8 := ⟨_, rfl⟩
        rw [← hq] at hI ⊢
        have hqe : (q = N ∧ q ≤ 8) ∨ (q = 8 ∧ q < N) := by omega
        obtain ⟨ao2, cap2, rfl, hc2⟩ := hI.out.row.form
        have hn8 : n ≤ 8 := by have := hI.nq; omega
        have hkl8 : ks.length ≤ 8 := by have := hI.kl; omega
        have HI := Lib.hid hI
        clear hI hk hlt hq
        by_cases hwh : 0 ≤ which ∧ which < (n : Int)
        · obtain ⟨p, rfl⟩ : ∃ p : Nat, which = (p : Int) := ⟨which.toNat, by omega⟩
          have hpn : p < n := by omega
          obtain ⟨gl, capl, he, hcl, hgl⟩ := HI.out.out.row.form_pos (by omega)
          simp at he
          obtain ⟨rfl, rfl⟩ := he
          have hpl : p < all.length := by rw [← HI.out.len]; exact hpn
          have x0 : wr.cell? ⟨gl, p, none⟩ = some (.string all[p]) := HI.out.out.row.cells p _ (by simp [strs, hpl])
          have hs2 : (all[p]).size ≤ 800 := Loc.size_bound HI.out.law _ (List.getElem_mem hpl)
          generalize all[p] = ask2 at x0 hs2
          have z1 : ¬ (p : Int) < 0 := by omega
          have z2 : (p : Int) < (n : Int) := by omega
          have z3 : (0 : Int) ≤ (p : Int) := by omega
          clear hwh hpl hs1
          rcases hqe with ⟨e1, e2⟩ | ⟨e1, e2⟩
          · have y1 : ¬ (q : Int) < (N : Int) := by omega
            clear e1
            go_wp2_with fail
            clear e2
            obtain ⟨W6, rfl⟩ : ∃ W6, W6 = wr := ⟨_, rfl⟩
            go_loopg [12, 13] n (fun j b i wr => ∃ p : Nat, j + p = n ∧ i = .int .i64 (p : Int) ∧ b = .bool (isQ ask2 all p) ∧ wr = W6)
            case atStart => exact ⟨0, by omega, rfl, congrArg Value.bool (by simp [isQ, isIn]), rfl⟩
            case round =>
              obtain ⟨p, hkp, rfl, hbv, rfl⟩ := hrel
              subst hbv
              by_cases hlp : p < n
              · obtain ⟨j2, rfl⟩ : ∃ j, gk = j + 1 := ⟨gk - 1, by omega⟩
                obtain ⟨gl2, capl2, he2, hcl2, hgl2⟩ := HI.out.out.row.form_pos (by omega)
                simp at he2
                obtain ⟨rfl, rfl⟩ := he2
                have hpl : p < all.length := by rw [← HI.out.len]; exact hlp
                have y0 := HI.out.out.row.cells p (.string all[p]) (by simp [strs, hpl])
                have hsu := isQ_succ (ask := ask2) hpl
                generalize all[p] = t at y0 hsu
                have HSU := Lib.hid hsu
                have hbe := str_beq2 t ask2
                obtain ⟨c, hcc⟩ : ∃ c, c = decide (t = ask2) := ⟨_, rfl⟩
                rw [← hcc] at hbe
                have HCC := Lib.hid hcc
                obtain ⟨ib, hib⟩ : ∃ c, c = isQ ask2 all p := ⟨_, rfl⟩
                rw [← hib]
                have HIB := Lib.hid hib
                have v2 : (0 : Int) ≤ (p : Int) := by omega
                have v3 : (p : Int) < (n : Int) := by omega
                have hp8 : p ≤ 8 := by omega
                have hkj : j2 + (p + 1) = n := by omega
                have HKJ2 := Lib.hid hkj
                clear hkj hlp hkp hsu hcc hib hcl2
                clear hpl
                cases ib with
                | true =>
                  go_wp2_with fail
                  go_roundg j2
                  case measure => omega
                  case rel => exact ⟨p + 1, HKJ2.out, by go_num, congrArg Value.bool (by rw [HSU.out, ← HIB.out]; rfl), rfl⟩
                | false =>
                  go_wp2_with fail
                  go_roundg j2
                  case measure => omega
                  case rel => exact ⟨p + 1, HKJ2.out, by go_num, congrArg Value.bool (by rw [HSU.out, ← HIB.out, ← HCC.out]; rfl), rfl⟩
              · obtain rfl : gk = 0 := by omega
                obtain rfl : p = n := by omega
                have hie := isQ_end ask2 HI.out.len
                rw [hie]
                obtain ⟨hlaw1, hlaw2⟩ := HI.out.law.law ask2
                have hVF := fun b (hb : 16 ≤ (ask2).size → madeB ks (lab, (ask2).extract 0 ((ask2).size - 16)) ((ask2).extract ((ask2).size - 16) (ask2).size) = b) => Verify_any (some ⟨g, 0, none⟩) ask2 (by omega) b (fun _ => by omega) wr (fun h16 W hbW => by
                  have hh := Made_ideal B g gm ks lab ((ask2).extract 0 ((ask2).size - 16)) ((ask2).extract ((ask2).size - 16) (ask2).size) (small_mk (by decide) (by rw [ByteArray.size_extract]; omega)) W (HI.out.vlm.below hbW) (by omega)
                  rw [hb h16] at hh
                  exact hh)
                have HBW := Lib.hid HI.out.out.below
                by_cases hin : ask2 ∈ all
                · obtain ⟨h16, hb, hre⟩ := hlaw1 hin
                  have hv := hVF true (fun _ => hb)
                  rw [(isIn_eq all ask2).2 hin]
                  obtain ⟨c, hc⟩ : ∃ c, c = (ask2).size - 16 := ⟨_, rfl⟩
                  rw [verifyOf, if_neg (by omega), if_pos rfl] at hv
                  rw [← hc] at hv hre
                  have hforth := repOf_forth ((ask2).extract 0 c) hre
                  have hsm := repOf_small2 ((ask2).extract 0 c) (by rw [ByteArray.size_extract]; omega)
                  have hin2 := repOf_in64 ((ask2).extract 0 c)
                  have hcs : ((ask2).size : Int) - 16 = (c : Int) := by omega
                  have hc800 : c ≤ 800 := by omega
                  have y1 : (16 : Int) ≤ ((ask2).size : Int) := by omega
                  have y2 : (0 : Int) ≤ (c : Int) := by omega
                  have y3 : (c : Int) ≤ ((ask2).size : Int) := by omega
                  have y4 : ¬ ((ask2).size : Int) < 16 := by omega
                  obtain ⟨T, hT⟩ : ∃ T, T = (ask2).extract 0 c := ⟨_, rfl⟩
                  rw [← hT] at hv hre hforth hsm hin2
                  obtain ⟨Q, hQ⟩ : ∃ Q, Q = repOf T := ⟨_, rfl⟩
                  rw [← hQ] at hv hre hforth hsm hin2
                  have HV := Lib.hid hv
                  have HRE := Lib.hid hre
                  have HFO := Lib.hid hforth
                  have HSM := Lib.hid hsm
                  have HIN := Lib.hid hin2
                  have HT := Lib.hid hT
                  clear hlaw1 hlaw2 hVF hin h16 hb hre hv hc hforth hsm hin2 hQ hie hlp hkp hT
                  go_wp2_with fail
                  refine HV.out.mono ?_
                  rintro e W7 ⟨v7, rfl, hf7, hb7⟩
                  obtain ⟨ao7, cap7, rfl, _⟩ := hf7.form
                  have hal := (Below.refl W7.heap.size W7).alloc (Nat.le_refl _) (.cells #[.int .i64 Q.a0, .int .i64 Q.a1, .int .i64 Q.a2, .slice ao7 Q.l.length cap7] 24 (0, 0))
                  have HRB := Lib.hid (repBytes_any Q.a0 Q.a1 Q.a2 _ Q.l _ (hf7.below hal) (by have := HSM.out; omega) HIN.out.1 HIN.out.2.1 HIN.out.2.2)
                  rw [HFO.out] at HRB
                  have HB8 := Lib.hid ((HBW.out.trans (hb7.mono HBW.out.size)).trans (hal.mono (Nat.le_trans HBW.out.size hb7.size)))
                  have hqe := HRE.out
                  have HQE := Lib.hid hqe
                  rw [hqe]
                  clear hf7 hb7 hal HV hqe
                  go_wp2_with fail
                  refine HRB.out.mono ?_
                  rintro e W8 ⟨rfl, hb8⟩
                  have HB9 := Lib.hid (HB8.out.trans (hb8.mono HB8.out.size))
                  rw [HT.out]
                  have hbe : (((ask2).extract 0 c).toList == ((ask2).extract 0 c).toList) = true := by simp
                  clear hb8 HRB
                  go_wp2_with fail
                  refine (repAwake_any _).mono ?_
                  rintro e W9 ⟨rfl, hb9⟩
                  have HB10 := Lib.hid (HB9.out.trans (hb9.mono HB9.out.size))
                  clear hb9
                  go_wp2_with fail
                  go_ret
                  exact ⟨rfl, HB10.out⟩
                · have hv := hVF false (fun h16 => hlaw2 hin h16)
                  rw [isIn_no hin]
                  clear hlaw1 hlaw2 hVF hin hie hlp hkp
                  by_cases h16 : (ask2).size < 16
                  · have y1 : ((ask2).size : Int) < 16 := by omega
                    rw [verifyOf, if_pos h16] at hv
                    have HV := Lib.hid hv
                    clear hv h16
                    go_wp2_with fail
                    refine HV.out.mono ?_
                    rintro e W7 ⟨v7, rfl, hf7, hb7⟩
                    obtain ⟨ao7, cap7, rfl, _⟩ := hf7.form
                    simp only [List.length_nil] at hf7 ⊢
                    have hal := (Below.refl W7.heap.size W7).alloc (Nat.le_refl _) (.cells #[.int .i64 0, .int .i64 0, .int .i64 0, .slice ao7 0 cap7] 24 (0, 0))
                    have HSA := Lib.hid (same_any 0 0 0 _ _ [] _ (hf7.below hal) (FndRow.nil _) (by simp))
                    have HB8 := Lib.hid ((HBW.out.trans (hb7.mono HBW.out.size)).trans (hal.mono (Nat.le_trans HBW.out.size hb7.size)))
                    clear hf7 hb7 hal HV
                    go_wp2_with fail
                    refine HSA.out.mono ?_
                    rintro e W8 ⟨rfl, hb8⟩
                    have HB9 := Lib.hid (HB8.out.trans (hb8.mono HB8.out.size))
                    clear hb8 HSA
                    go_wp2_with fail
                    refine (repAwake_any _).mono ?_
                    rintro e W9 ⟨rfl, hb9⟩
                    have HB10 := Lib.hid (HB9.out.trans (hb9.mono HB9.out.size))
                    clear hb9
                    go_wp2_with fail
                    go_ret
                    exact ⟨rfl, HB10.out⟩
                  · have y1 : ¬ ((ask2).size : Int) < 16 := by omega
                    rw [verifyOf, if_neg h16, if_neg (by simp)] at hv
                    have HV := Lib.hid hv
                    clear hv h16
                    go_wp2_with fail
                    refine HV.out.mono ?_
                    rintro e W7 ⟨v7, rfl, hf7, hb7⟩
                    obtain ⟨ao7, cap7, rfl, _⟩ := hf7.form
                    simp only [List.length_nil] at hf7 ⊢
                    have hal := (Below.refl W7.heap.size W7).alloc (Nat.le_refl _) (.cells #[.int .i64 0, .int .i64 0, .int .i64 0, .slice ao7 0 cap7] 24 (0, 0))
                    have HSA := Lib.hid (same_any 0 0 0 _ _ [] _ (hf7.below hal) (FndRow.nil _) (by simp))
                    have HB8 := Lib.hid ((HBW.out.trans (hb7.mono HBW.out.size)).trans (hal.mono (Nat.le_trans HBW.out.size hb7.size)))
                    clear hf7 hb7 hal HV
                    go_wp2_with fail
                    refine HSA.out.mono ?_
                    rintro e W8 ⟨rfl, hb8⟩
                    have HB9 := Lib.hid (HB8.out.trans (hb8.mono HB8.out.size))
                    clear hb8 HSA
                    go_wp2_with fail
                    refine (repAwake_any _).mono ?_
                    rintro e W9 ⟨rfl, hb9⟩
                    have HB10 := Lib.hid (HB9.out.trans (hb9.mono HB9.out.size))
                    clear hb9
                    go_wp2_with fail
                    go_ret
                    exact ⟨rfl, HB10.out⟩
          · subst e1
            have y2 : (8 : Int) < (N : Int) := by omega
            go_wp2_with fail
            clear e2
            obtain ⟨W6, rfl⟩ : ∃ W6, W6 = wr := ⟨_, rfl⟩
            go_loopg [12, 13] n (fun j b i wr => ∃ p : Nat, j + p = n ∧ i = .int .i64 (p : Int) ∧ b = .bool (isQ ask2 all p) ∧ wr = W6)
            case atStart => exact ⟨0, by omega, rfl, congrArg Value.bool (by simp [isQ, isIn]), rfl⟩
            case round =>
              obtain ⟨p, hkp, rfl, hbv, rfl⟩ := hrel
              subst hbv
              by_cases hlp : p < n
              · obtain ⟨j2, rfl⟩ : ∃ j, gk = j + 1 := ⟨gk - 1, by omega⟩
                obtain ⟨gl2, capl2, he2, hcl2, hgl2⟩ := HI.out.out.row.form_pos (by omega)
                simp at he2
                obtain ⟨rfl, rfl⟩ := he2
                have hpl : p < all.length := by rw [← HI.out.len]; exact hlp
                have y0 := HI.out.out.row.cells p (.string all[p]) (by simp [strs, hpl])
                have hsu := isQ_succ (ask := ask2) hpl
                generalize all[p] = t at y0 hsu
                have HSU := Lib.hid hsu
                have hbe := str_beq2 t ask2
                obtain ⟨c, hcc⟩ : ∃ c, c = decide (t = ask2) := ⟨_, rfl⟩
                rw [← hcc] at hbe
                have HCC := Lib.hid hcc
                obtain ⟨ib, hib⟩ : ∃ c, c = isQ ask2 all p := ⟨_, rfl⟩
                rw [← hib]
                have HIB := Lib.hid hib
                have v2 : (0 : Int) ≤ (p : Int) := by omega
                have v3 : (p : Int) < (n : Int) := by omega
                have hp8 : p ≤ 8 := by omega
                have hkj : j2 + (p + 1) = n := by omega
                have HKJ2 := Lib.hid hkj
                clear hkj hlp hkp hsu hcc hib hcl2
                clear hpl
                cases ib with
                | true =>
                  go_wp2_with fail
                  go_roundg j2
                  case measure => omega
                  case rel => exact ⟨p + 1, HKJ2.out, by go_num, congrArg Value.bool (by rw [HSU.out, ← HIB.out]; rfl), rfl⟩
                | false =>
                  go_wp2_with fail
                  go_roundg j2
                  case measure => omega
                  case rel => exact ⟨p + 1, HKJ2.out, by go_num, congrArg Value.bool (by rw [HSU.out, ← HIB.out, ← HCC.out]; rfl), rfl⟩
              · obtain rfl : gk = 0 := by omega
                obtain rfl : p = n := by omega
                have hie := isQ_end ask2 HI.out.len
                rw [hie]
                obtain ⟨hlaw1, hlaw2⟩ := HI.out.law.law ask2
                have hVF := fun b (hb : 16 ≤ (ask2).size → madeB ks (lab, (ask2).extract 0 ((ask2).size - 16)) ((ask2).extract ((ask2).size - 16) (ask2).size) = b) => Verify_any (some ⟨g, 0, none⟩) ask2 (by omega) b (fun _ => by omega) wr (fun h16 W hbW => by
                  have hh := Made_ideal B g gm ks lab ((ask2).extract 0 ((ask2).size - 16)) ((ask2).extract ((ask2).size - 16) (ask2).size) (small_mk (by decide) (by rw [ByteArray.size_extract]; omega)) W (HI.out.vlm.below hbW) (by omega)
                  rw [hb h16] at hh
                  exact hh)
                have HBW := Lib.hid HI.out.out.below
                by_cases hin : ask2 ∈ all
                · obtain ⟨h16, hb, hre⟩ := hlaw1 hin
                  have hv := hVF true (fun _ => hb)
                  rw [(isIn_eq all ask2).2 hin]
                  obtain ⟨c, hc⟩ : ∃ c, c = (ask2).size - 16 := ⟨_, rfl⟩
                  rw [verifyOf, if_neg (by omega), if_pos rfl] at hv
                  rw [← hc] at hv hre
                  have hforth := repOf_forth ((ask2).extract 0 c) hre
                  have hsm := repOf_small2 ((ask2).extract 0 c) (by rw [ByteArray.size_extract]; omega)
                  have hin2 := repOf_in64 ((ask2).extract 0 c)
                  have hcs : ((ask2).size : Int) - 16 = (c : Int) := by omega
                  have hc800 : c ≤ 800 := by omega
                  have y1 : (16 : Int) ≤ ((ask2).size : Int) := by omega
                  have y2 : (0 : Int) ≤ (c : Int) := by omega
                  have y3 : (c : Int) ≤ ((ask2).size : Int) := by omega
                  have y4 : ¬ ((ask2).size : Int) < 16 := by omega
                  obtain ⟨T, hT⟩ : ∃ T, T = (ask2).extract 0 c := ⟨_, rfl⟩
                  rw [← hT] at hv hre hforth hsm hin2
                  obtain ⟨Q, hQ⟩ : ∃ Q, Q = repOf T := ⟨_, rfl⟩
                  rw [← hQ] at hv hre hforth hsm hin2
                  have HV := Lib.hid hv
                  have HRE := Lib.hid hre
                  have HFO := Lib.hid hforth
                  have HSM := Lib.hid hsm
                  have HIN := Lib.hid hin2
                  have HT := Lib.hid hT
                  clear hlaw1 hlaw2 hVF hin h16 hb hre hv hc hforth hsm hin2 hQ hie hlp hkp hT
                  go_wp2_with fail
                  refine HV.out.mono ?_
                  rintro e W7 ⟨v7, rfl, hf7, hb7⟩
                  obtain ⟨ao7, cap7, rfl, _⟩ := hf7.form
                  have hal := (Below.refl W7.heap.size W7).alloc (Nat.le_refl _) (.cells #[.int .i64 Q.a0, .int .i64 Q.a1, .int .i64 Q.a2, .slice ao7 Q.l.length cap7] 24 (0, 0))
                  have HRB := Lib.hid (repBytes_any Q.a0 Q.a1 Q.a2 _ Q.l _ (hf7.below hal) (by have := HSM.out; omega) HIN.out.1 HIN.out.2.1 HIN.out.2.2)
                  rw [HFO.out] at HRB
                  have HB8 := Lib.hid ((HBW.out.trans (hb7.mono HBW.out.size)).trans (hal.mono (Nat.le_trans HBW.out.size hb7.size)))
                  have hqe := HRE.out
                  have HQE := Lib.hid hqe
                  rw [hqe]
                  clear hf7 hb7 hal HV hqe
                  go_wp2_with fail
                  refine HRB.out.mono ?_
                  rintro e W8 ⟨rfl, hb8⟩
                  have HB9 := Lib.hid (HB8.out.trans (hb8.mono HB8.out.size))
                  rw [HT.out]
                  have hbe : (((ask2).extract 0 c).toList == ((ask2).extract 0 c).toList) = true := by simp
                  clear hb8 HRB
                  go_wp2_with fail
                  refine (repAwake_any _).mono ?_
                  rintro e W9 ⟨rfl, hb9⟩
                  have HB10 := Lib.hid (HB9.out.trans (hb9.mono HB9.out.size))
                  clear hb9
                  go_wp2_with fail
                  go_ret
                  exact ⟨rfl, HB10.out⟩
                · have hv := hVF false (fun h16 => hlaw2 hin h16)
                  rw [isIn_no hin]
                  clear hlaw1 hlaw2 hVF hin hie hlp hkp
                  by_cases h16 : (ask2).size < 16
                  · have y1 : ((ask2).size : Int) < 16 := by omega
                    rw [verifyOf, if_pos h16] at hv
                    have HV := Lib.hid hv
                    clear hv h16
                    go_wp2_with fail
                    refine HV.out.mono ?_
                    rintro e W7 ⟨v7, rfl, hf7, hb7⟩
                    obtain ⟨ao7, cap7, rfl, _⟩ := hf7.form
                    simp only [List.length_nil] at hf7 ⊢
                    have hal := (Below.refl W7.heap.size W7).alloc (Nat.le_refl _) (.cells #[.int .i64 0, .int .i64 0, .int .i64 0, .slice ao7 0 cap7] 24 (0, 0))
                    have HSA := Lib.hid (same_any 0 0 0 _ _ [] _ (hf7.below hal) (FndRow.nil _) (by simp))
                    have HB8 := Lib.hid ((HBW.out.trans (hb7.mono HBW.out.size)).trans (hal.mono (Nat.le_trans HBW.out.size hb7.size)))
                    clear hf7 hb7 hal HV
                    go_wp2_with fail
                    refine HSA.out.mono ?_
                    rintro e W8 ⟨rfl, hb8⟩
                    have HB9 := Lib.hid (HB8.out.trans (hb8.mono HB8.out.size))
                    clear hb8 HSA
                    go_wp2_with fail
                    refine (repAwake_any _).mono ?_
                    rintro e W9 ⟨rfl, hb9⟩
                    have HB10 := Lib.hid (HB9.out.trans (hb9.mono HB9.out.size))
                    clear hb9
                    go_wp2_with fail
                    go_ret
                    exact ⟨rfl, HB10.out⟩
                  · have y1 : ¬ ((ask2).size : Int) < 16 := by omega
                    rw [verifyOf, if_neg h16, if_neg (by simp)] at hv
                    have HV := Lib.hid hv
                    clear hv h16
                    go_wp2_with fail
                    refine HV.out.mono ?_
                    rintro e W7 ⟨v7, rfl, hf7, hb7⟩
                    obtain ⟨ao7, cap7, rfl, _⟩ := hf7.form
                    simp only [List.length_nil] at hf7 ⊢
                    have hal := (Below.refl W7.heap.size W7).alloc (Nat.le_refl _) (.cells #[.int .i64 0, .int .i64 0, .int .i64 0, .slice ao7 0 cap7] 24 (0, 0))
                    have HSA := Lib.hid (same_any 0 0 0 _ _ [] _ (hf7.below hal) (FndRow.nil _) (by simp))
                    have HB8 := Lib.hid ((HBW.out.trans (hb7.mono HBW.out.size)).trans (hal.mono (Nat.le_trans HBW.out.size hb7.size)))
                    clear hf7 hb7 hal HV
                    go_wp2_with fail
                    refine HSA.out.mono ?_
                    rintro e W8 ⟨rfl, hb8⟩
                    have HB9 := Lib.hid (HB8.out.trans (hb8.mono HB8.out.size))
                    clear hb8 HSA
                    go_wp2_with fail
                    refine (repAwake_any _).mono ?_
                    rintro e W9 ⟨rfl, hb9⟩
                    have HB10 := Lib.hid (HB9.out.trans (hb9.mono HB9.out.size))
                    clear hb9
                    go_wp2_with fail
                    go_ret
                    exact ⟨rfl, HB10.out⟩
        · have hs2 := hs1
          rcases hqe with ⟨e1, e2⟩ | ⟨e1, e2⟩
          · have y1 : ¬ (q : Int) < (N : Int) := by omega
            clear e1
            by_cases hneg : which < 0
            · clear hwh
              go_wp2_with fail
              clear e2
              obtain ⟨W6, rfl⟩ : ∃ W6, W6 = wr := ⟨_, rfl⟩
              go_loopg [12, 13] n (fun j b i wr => ∃ p : Nat, j + p = n ∧ i = .int .i64 (p : Int) ∧ b = .bool (isQ ask1 all p) ∧ wr = W6)
              case atStart => exact ⟨0, by omega, rfl, congrArg Value.bool (by simp [isQ, isIn]), rfl⟩
              case round =>
                obtain ⟨p, hkp, rfl, hbv, rfl⟩ := hrel
                subst hbv
                by_cases hlp : p < n
                · obtain ⟨j2, rfl⟩ : ∃ j, gk = j + 1 := ⟨gk - 1, by omega⟩
                  obtain ⟨gl2, capl2, he2, hcl2, hgl2⟩ := HI.out.out.row.form_pos (by omega)
                  simp at he2
                  obtain ⟨rfl, rfl⟩ := he2
                  have hpl : p < all.length := by rw [← HI.out.len]; exact hlp
                  have y0 := HI.out.out.row.cells p (.string all[p]) (by simp [strs, hpl])
                  have hsu := isQ_succ (ask := ask1) hpl
                  generalize all[p] = t at y0 hsu
                  have HSU := Lib.hid hsu
                  have hbe := str_beq2 t ask1
                  obtain ⟨c, hcc⟩ : ∃ c, c = decide (t = ask1) := ⟨_, rfl⟩
                  rw [← hcc] at hbe
                  have HCC := Lib.hid hcc
                  obtain ⟨ib, hib⟩ : ∃ c, c = isQ ask1 all p := ⟨_, rfl⟩
                  rw [← hib]
                  have HIB := Lib.hid hib
                  have v2 : (0 : Int) ≤ (p : Int) := by omega
                  have v3 : (p : Int) < (n : Int) := by omega
                  have hp8 : p ≤ 8 := by omega
                  have hkj : j2 + (p + 1) = n := by omega
                  have HKJ2 := Lib.hid hkj
                  clear hkj hlp hkp hsu hcc hib hcl2
                  clear hpl
                  cases ib with
                  | true =>
                    go_wp2_with fail
                    go_roundg j2
                    case measure => omega
                    case rel => exact ⟨p + 1, HKJ2.out, by go_num, congrArg Value.bool (by rw [HSU.out, ← HIB.out]; rfl), rfl⟩
                  | false =>
                    go_wp2_with fail
                    go_roundg j2
                    case measure => omega
                    case rel => exact ⟨p + 1, HKJ2.out, by go_num, congrArg Value.bool (by rw [HSU.out, ← HIB.out, ← HCC.out]; rfl), rfl⟩
                · obtain rfl : gk = 0 := by omega
                  obtain rfl : p = n := by omega
                  have hie := isQ_end ask1 HI.out.len
                  rw [hie]
                  obtain ⟨hlaw1, hlaw2⟩ := HI.out.law.law ask1
                  have hVF := fun b (hb : 16 ≤ (ask1).size → madeB ks (lab, (ask1).extract 0 ((ask1).size - 16)) ((ask1).extract ((ask1).size - 16) (ask1).size) = b) => Verify_any (some ⟨g, 0, none⟩) ask1 (by omega) b (fun _ => by omega) wr (fun h16 W hbW => by
                    have hh := Made_ideal B g gm ks lab ((ask1).extract 0 ((ask1).size - 16)) ((ask1).extract ((ask1).size - 16) (ask1).size) (small_mk (by decide) (by rw [ByteArray.size_extract]; omega)) W (HI.out.vlm.below hbW) (by omega)
                    rw [hb h16] at hh
                    exact hh)
                  have HBW := Lib.hid HI.out.out.below
                  by_cases hin : ask1 ∈ all
                  · obtain ⟨h16, hb, hre⟩ := hlaw1 hin
                    have hv := hVF true (fun _ => hb)
                    rw [(isIn_eq all ask1).2 hin]
                    obtain ⟨c, hc⟩ : ∃ c, c = (ask1).size - 16 := ⟨_, rfl⟩
                    rw [verifyOf, if_neg (by omega), if_pos rfl] at hv
                    rw [← hc] at hv hre
                    have hforth := repOf_forth ((ask1).extract 0 c) hre
                    have hsm := repOf_small2 ((ask1).extract 0 c) (by rw [ByteArray.size_extract]; omega)
                    have hin2 := repOf_in64 ((ask1).extract 0 c)
                    have hcs : ((ask1).size : Int) - 16 = (c : Int) := by omega
                    have hc800 : c ≤ 800 := by omega
                    have y1 : (16 : Int) ≤ ((ask1).size : Int) := by omega
                    have y2 : (0 : Int) ≤ (c : Int) := by omega
                    have y3 : (c : Int) ≤ ((ask1).size : Int) := by omega
                    have y4 : ¬ ((ask1).size : Int) < 16 := by omega
                    obtain ⟨T, hT⟩ : ∃ T, T = (ask1).extract 0 c := ⟨_, rfl⟩
                    rw [← hT] at hv hre hforth hsm hin2
                    obtain ⟨Q, hQ⟩ : ∃ Q, Q = repOf T := ⟨_, rfl⟩
                    rw [← hQ] at hv hre hforth hsm hin2
                    have HV := Lib.hid hv
                    have HRE := Lib.hid hre
                    have HFO := Lib.hid hforth
                    have HSM := Lib.hid hsm
                    have HIN := Lib.hid hin2
                    have HT := Lib.hid hT
                    clear hlaw1 hlaw2 hVF hin h16 hb hre hv hc hforth hsm hin2 hQ hie hlp hkp hT
                    go_wp2_with fail
                    refine HV.out.mono ?_
                    rintro e W7 ⟨v7, rfl, hf7, hb7⟩
                    obtain ⟨ao7, cap7, rfl, _⟩ := hf7.form
                    have hal := (Below.refl W7.heap.size W7).alloc (Nat.le_refl _) (.cells #[.int .i64 Q.a0, .int .i64 Q.a1, .int .i64 Q.a2, .slice ao7 Q.l.length cap7] 24 (0, 0))
                    have HRB := Lib.hid (repBytes_any Q.a0 Q.a1 Q.a2 _ Q.l _ (hf7.below hal) (by have := HSM.out; omega) HIN.out.1 HIN.out.2.1 HIN.out.2.2)
                    rw [HFO.out] at HRB
                    have HB8 := Lib.hid ((HBW.out.trans (hb7.mono HBW.out.size)).trans (hal.mono (Nat.le_trans HBW.out.size hb7.size)))
                    have hqe := HRE.out
                    have HQE := Lib.hid hqe
                    rw [hqe]
                    clear hf7 hb7 hal HV hqe
                    go_wp2_with fail
                    refine HRB.out.mono ?_
                    rintro e W8 ⟨rfl, hb8⟩
                    have HB9 := Lib.hid (HB8.out.trans (hb8.mono HB8.out.size))
                    rw [HT.out]
                    have hbe : (((ask1).extract 0 c).toList == ((ask1).extract 0 c).toList) = true := by simp
                    clear hb8 HRB
                    go_wp2_with fail
                    refine (repAwake_any _).mono ?_
                    rintro e W9 ⟨rfl, hb9⟩
                    have HB10 := Lib.hid (HB9.out.trans (hb9.mono HB9.out.size))
                    clear hb9
                    go_wp2_with fail
                    go_ret
                    exact ⟨rfl, HB10.out⟩
                  · have hv := hVF false (fun h16 => hlaw2 hin h16)
                    rw [isIn_no hin]
                    clear hlaw1 hlaw2 hVF hin hie hlp hkp
                    by_cases h16 : (ask1).size < 16
                    · have y1 : ((ask1).size : Int) < 16 := by omega
                      rw [verifyOf, if_pos h16] at hv
                      have HV := Lib.hid hv
                      clear hv h16
                      go_wp2_with fail
                      refine HV.out.mono ?_
                      rintro e W7 ⟨v7, rfl, hf7, hb7⟩
                      obtain ⟨ao7, cap7, rfl, _⟩ := hf7.form
                      simp only [List.length_nil] at hf7 ⊢
                      have hal := (Below.refl W7.heap.size W7).alloc (Nat.le_refl _) (.cells #[.int .i64 0, .int .i64 0, .int .i64 0, .slice ao7 0 cap7] 24 (0, 0))
                      have HSA := Lib.hid (same_any 0 0 0 _ _ [] _ (hf7.below hal) (FndRow.nil _) (by simp))
                      have HB8 := Lib.hid ((HBW.out.trans (hb7.mono HBW.out.size)).trans (hal.mono (Nat.le_trans HBW.out.size hb7.size)))
                      clear hf7 hb7 hal HV
                      go_wp2_with fail
                      refine HSA.out.mono ?_
                      rintro e W8 ⟨rfl, hb8⟩
                      have HB9 := Lib.hid (HB8.out.trans (hb8.mono HB8.out.size))
                      clear hb8 HSA
                      go_wp2_with fail
                      refine (repAwake_any _).mono ?_
                      rintro e W9 ⟨rfl, hb9⟩
                      have HB10 := Lib.hid (HB9.out.trans (hb9.mono HB9.out.size))
                      clear hb9
                      go_wp2_with fail
                      go_ret
                      exact ⟨rfl, HB10.out⟩
                    · have y1 : ¬ ((ask1).size : Int) < 16 := by omega
                      rw [verifyOf, if_neg h16, if_neg (by simp)] at hv
                      have HV := Lib.hid hv
                      clear hv h16
                      go_wp2_with fail
                      refine HV.out.mono ?_
                      rintro e W7 ⟨v7, rfl, hf7, hb7⟩
                      obtain ⟨ao7, cap7, rfl, _⟩ := hf7.form
                      simp only [List.length_nil] at hf7 ⊢
                      have hal := (Below.refl W7.heap.size W7).alloc (Nat.le_refl _) (.cells #[.int .i64 0, .int .i64 0, .int .i64 0, .slice ao7 0 cap7] 24 (0, 0))
                      have HSA := Lib.hid (same_any 0 0 0 _ _ [] _ (hf7.below hal) (FndRow.nil _) (by simp))
                      have HB8 := Lib.hid ((HBW.out.trans (hb7.mono HBW.out.size)).trans (hal.mono (Nat.le_trans HBW.out.size hb7.size)))
                      clear hf7 hb7 hal HV
                      go_wp2_with fail
                      refine HSA.out.mono ?_
                      rintro e W8 ⟨rfl, hb8⟩
                      have HB9 := Lib.hid (HB8.out.trans (hb8.mono HB8.out.size))
                      clear hb8 HSA
                      go_wp2_with fail
                      refine (repAwake_any _).mono ?_
                      rintro e W9 ⟨rfl, hb9⟩
                      have HB10 := Lib.hid (HB9.out.trans (hb9.mono HB9.out.size))
                      clear hb9
                      go_wp2_with fail
                      go_ret
                      exact ⟨rfl, HB10.out⟩
            · have z2 : (n : Int) ≤ which := by omega
              clear hwh
              go_wp2_with fail
              clear e2
              obtain ⟨W6, rfl⟩ : ∃ W6, W6 = wr := ⟨_, rfl⟩
              go_loopg [12, 13] n (fun j b i wr => ∃ p : Nat, j + p = n ∧ i = .int .i64 (p : Int) ∧ b = .bool (isQ ask1 all p) ∧ wr = W6)
              case atStart => exact ⟨0, by omega, rfl, congrArg Value.bool (by simp [isQ, isIn]), rfl⟩
              case round =>
                obtain ⟨p, hkp, rfl, hbv, rfl⟩ := hrel
                subst hbv
                by_cases hlp : p < n
                · obtain ⟨j2, rfl⟩ : ∃ j, gk = j + 1 := ⟨gk - 1, by omega⟩
                  obtain ⟨gl2, capl2, he2, hcl2, hgl2⟩ := HI.out.out.row.form_pos (by omega)
                  simp at he2
                  obtain ⟨rfl, rfl⟩ := he2
                  have hpl : p < all.length := by rw [← HI.out.len]; exact hlp
                  have y0 := HI.out.out.row.cells p (.string all[p]) (by simp [strs, hpl])
                  have hsu := isQ_succ (ask := ask1) hpl
                  generalize all[p] = t at y0 hsu
                  have HSU := Lib.hid hsu
                  have hbe := str_beq2 t ask1
                  obtain ⟨c, hcc⟩ : ∃ c, c = decide (t = ask1) := ⟨_, rfl⟩
                  rw [← hcc] at hbe
                  have HCC := Lib.hid hcc
                  obtain ⟨ib, hib⟩ : ∃ c, c = isQ ask1 all p := ⟨_, rfl⟩
                  rw [← hib]
                  have HIB := Lib.hid hib
                  have v2 : (0 : Int) ≤ (p : Int) := by omega
                  have v3 : (p : Int) < (n : Int) := by omega
                  have hp8 : p ≤ 8 := by omega
                  have hkj : j2 + (p + 1) = n := by omega
                  have HKJ2 := Lib.hid hkj
                  clear hkj hlp hkp hsu hcc hib hcl2
                  clear hpl
                  cases ib with
                  | true =>
                    go_wp2_with fail
                    go_roundg j2
                    case measure => omega
                    case rel => exact ⟨p + 1, HKJ2.out, by go_num, congrArg Value.bool (by rw [HSU.out, ← HIB.out]; rfl), rfl⟩
                  | false =>
                    go_wp2_with fail
                    go_roundg j2
                    case measure => omega
                    case rel => exact ⟨p + 1, HKJ2.out, by go_num, congrArg Value.bool (by rw [HSU.out, ← HIB.out, ← HCC.out]; rfl), rfl⟩
                · obtain rfl : gk = 0 := by omega
                  obtain rfl : p = n := by omega
                  have hie := isQ_end ask1 HI.out.len
                  rw [hie]
                  obtain ⟨hlaw1, hlaw2⟩ := HI.out.law.law ask1
                  have hVF := fun b (hb : 16 ≤ (ask1).size → madeB ks (lab, (ask1).extract 0 ((ask1).size - 16)) ((ask1).extract ((ask1).size - 16) (ask1).size) = b) => Verify_any (some ⟨g, 0, none⟩) ask1 (by omega) b (fun _ => by omega) wr (fun h16 W hbW => by
                    have hh := Made_ideal B g gm ks lab ((ask1).extract 0 ((ask1).size - 16)) ((ask1).extract ((ask1).size - 16) (ask1).size) (small_mk (by decide) (by rw [ByteArray.size_extract]; omega)) W (HI.out.vlm.below hbW) (by omega)
                    rw [hb h16] at hh
                    exact hh)
                  have HBW := Lib.hid HI.out.out.below
                  by_cases hin : ask1 ∈ all
                  · obtain ⟨h16, hb, hre⟩ := hlaw1 hin
                    have hv := hVF true (fun _ => hb)
                    rw [(isIn_eq all ask1).2 hin]
                    obtain ⟨c, hc⟩ : ∃ c, c = (ask1).size - 16 := ⟨_, rfl⟩
                    rw [verifyOf, if_neg (by omega), if_pos rfl] at hv
                    rw [← hc] at hv hre
                    have hforth := repOf_forth ((ask1).extract 0 c) hre
                    have hsm := repOf_small2 ((ask1).extract 0 c) (by rw [ByteArray.size_extract]; omega)
                    have hin2 := repOf_in64 ((ask1).extract 0 c)
                    have hcs : ((ask1).size : Int) - 16 = (c : Int) := by omega
                    have hc800 : c ≤ 800 := by omega
                    have y1 : (16 : Int) ≤ ((ask1).size : Int) := by omega
                    have y2 : (0 : Int) ≤ (c : Int) := by omega
                    have y3 : (c : Int) ≤ ((ask1).size : Int) := by omega
                    have y4 : ¬ ((ask1).size : Int) < 16 := by omega
                    obtain ⟨T, hT⟩ : ∃ T, T = (ask1).extract 0 c := ⟨_, rfl⟩
                    rw [← hT] at hv hre hforth hsm hin2
                    obtain ⟨Q, hQ⟩ : ∃ Q, Q = repOf T := ⟨_, rfl⟩
                    rw [← hQ] at hv hre hforth hsm hin2
                    have HV := Lib.hid hv
                    have HRE := Lib.hid hre
                    have HFO := Lib.hid hforth
                    have HSM := Lib.hid hsm
                    have HIN := Lib.hid hin2
                    have HT := Lib.hid hT
                    clear hlaw1 hlaw2 hVF hin h16 hb hre hv hc hforth hsm hin2 hQ hie hlp hkp hT
                    go_wp2_with fail
                    refine HV.out.mono ?_
                    rintro e W7 ⟨v7, rfl, hf7, hb7⟩
                    obtain ⟨ao7, cap7, rfl, _⟩ := hf7.form
                    have hal := (Below.refl W7.heap.size W7).alloc (Nat.le_refl _) (.cells #[.int .i64 Q.a0, .int .i64 Q.a1, .int .i64 Q.a2, .slice ao7 Q.l.length cap7] 24 (0, 0))
                    have HRB := Lib.hid (repBytes_any Q.a0 Q.a1 Q.a2 _ Q.l _ (hf7.below hal) (by have := HSM.out; omega) HIN.out.1 HIN.out.2.1 HIN.out.2.2)
                    rw [HFO.out] at HRB
                    have HB8 := Lib.hid ((HBW.out.trans (hb7.mono HBW.out.size)).trans (hal.mono (Nat.le_trans HBW.out.size hb7.size)))
                    have hqe := HRE.out
                    have HQE := Lib.hid hqe
                    rw [hqe]
                    clear hf7 hb7 hal HV hqe
                    go_wp2_with fail
                    refine HRB.out.mono ?_
                    rintro e W8 ⟨rfl, hb8⟩
                    have HB9 := Lib.hid (HB8.out.trans (hb8.mono HB8.out.size))
                    rw [HT.out]
                    have hbe : (((ask1).extract 0 c).toList == ((ask1).extract 0 c).toList) = true := by simp
                    clear hb8 HRB
                    go_wp2_with fail
                    refine (repAwake_any _).mono ?_
                    rintro e W9 ⟨rfl, hb9⟩
                    have HB10 := Lib.hid (HB9.out.trans (hb9.mono HB9.out.size))
                    clear hb9
                    go_wp2_with fail
                    go_ret
                    exact ⟨rfl, HB10.out⟩
                  · have hv := hVF false (fun h16 => hlaw2 hin h16)
                    rw [isIn_no hin]
                    clear hlaw1 hlaw2 hVF hin hie hlp hkp
                    by_cases h16 : (ask1).size < 16
                    · have y1 : ((ask1).size : Int) < 16 := by omega
                      rw [verifyOf, if_pos h16] at hv
                      have HV := Lib.hid hv
                      clear hv h16
                      go_wp2_with fail
                      refine HV.out.mono ?_
                      rintro e W7 ⟨v7, rfl, hf7, hb7⟩
                      obtain ⟨ao7, cap7, rfl, _⟩ := hf7.form
                      simp only [List.length_nil] at hf7 ⊢
                      have hal := (Below.refl W7.heap.size W7).alloc (Nat.le_refl _) (.cells #[.int .i64 0, .int .i64 0, .int .i64 0, .slice ao7 0 cap7] 24 (0, 0))
                      have HSA := Lib.hid (same_any 0 0 0 _ _ [] _ (hf7.below hal) (FndRow.nil _) (by simp))
                      have HB8 := Lib.hid ((HBW.out.trans (hb7.mono HBW.out.size)).trans (hal.mono (Nat.le_trans HBW.out.size hb7.size)))
                      clear hf7 hb7 hal HV
                      go_wp2_with fail
                      refine HSA.out.mono ?_
                      rintro e W8 ⟨rfl, hb8⟩
                      have HB9 := Lib.hid (HB8.out.trans (hb8.mono HB8.out.size))
                      clear hb8 HSA
                      go_wp2_with fail
                      refine (repAwake_any _).mono ?_
                      rintro e W9 ⟨rfl, hb9⟩
                      have HB10 := Lib.hid (HB9.out.trans (hb9.mono HB9.out.size))
                      clear hb9
                      go_wp2_with fail
                      go_ret
                      exact ⟨rfl, HB10.out⟩
                    · have y1 : ¬ ((ask1).size : Int) < 16 := by omega
                      rw [verifyOf, if_neg h16, if_neg (by simp)] at hv
                      have HV := Lib.hid hv
                      clear hv h16
                      go_wp2_with fail
                      refine HV.out.mono ?_
                      rintro e W7 ⟨v7, rfl, hf7, hb7⟩
                      obtain ⟨ao7, cap7, rfl, _⟩ := hf7.form
                      simp only [List.length_nil] at hf7 ⊢
                      have hal := (Below.refl W7.heap.size W7).alloc (Nat.le_refl _) (.cells #[.int .i64 0, .int .i64 0, .int .i64 0, .slice ao7 0 cap7] 24 (0, 0))
                      have HSA := Lib.hid (same_any 0 0 0 _ _ [] _ (hf7.below hal) (FndRow.nil _) (by simp))
                      have HB8 := Lib.hid ((HBW.out.trans (hb7.mono HBW.out.size)).trans (hal.mono (Nat.le_trans HBW.out.size hb7.size)))
                      clear hf7 hb7 hal HV
                      go_wp2_with fail
                      refine HSA.out.mono ?_
                      rintro e W8 ⟨rfl, hb8⟩
                      have HB9 := Lib.hid (HB8.out.trans (hb8.mono HB8.out.size))
                      clear hb8 HSA
                      go_wp2_with fail
                      refine (repAwake_any _).mono ?_
                      rintro e W9 ⟨rfl, hb9⟩
                      have HB10 := Lib.hid (HB9.out.trans (hb9.mono HB9.out.size))
                      clear hb9
                      go_wp2_with fail
                      go_ret
                      exact ⟨rfl, HB10.out⟩
          · subst e1
            have y2 : (8 : Int) < (N : Int) := by omega
            by_cases hneg : which < 0
            · clear hwh
              go_wp2_with fail
              clear e2
              obtain ⟨W6, rfl⟩ : ∃ W6, W6 = wr := ⟨_, rfl⟩
              go_loopg [12, 13] n (fun j b i wr => ∃ p : Nat, j + p = n ∧ i = .int .i64 (p : Int) ∧ b = .bool (isQ ask1 all p) ∧ wr = W6)
              case atStart => exact ⟨0, by omega, rfl, congrArg Value.bool (by simp [isQ, isIn]), rfl⟩
              case round =>
                obtain ⟨p, hkp, rfl, hbv, rfl⟩ := hrel
                subst hbv
                by_cases hlp : p < n
                · obtain ⟨j2, rfl⟩ : ∃ j, gk = j + 1 := ⟨gk - 1, by omega⟩
                  obtain ⟨gl2, capl2, he2, hcl2, hgl2⟩ := HI.out.out.row.form_pos (by omega)
                  simp at he2
                  obtain ⟨rfl, rfl⟩ := he2
                  have hpl : p < all.length := by rw [← HI.out.len]; exact hlp
                  have y0 := HI.out.out.row.cells p (.string all[p]) (by simp [strs, hpl])
                  have hsu := isQ_succ (ask := ask1) hpl
                  generalize all[p] = t at y0 hsu
                  have HSU := Lib.hid hsu
                  have hbe := str_beq2 t ask1
                  obtain ⟨c, hcc⟩ : ∃ c, c = decide (t = ask1) := ⟨_, rfl⟩
                  rw [← hcc] at hbe
                  have HCC := Lib.hid hcc
                  obtain ⟨ib, hib⟩ : ∃ c, c = isQ ask1 all p := ⟨_, rfl⟩
                  rw [← hib]
                  have HIB := Lib.hid hib
                  have v2 : (0 : Int) ≤ (p : Int) := by omega
                  have v3 : (p : Int) < (n : Int) := by omega
                  have hp8 : p ≤ 8 := by omega
                  have hkj : j2 + (p + 1) = n := by omega
                  have HKJ2 := Lib.hid hkj
                  clear hkj hlp hkp hsu hcc hib hcl2
                  clear hpl
                  cases ib with
                  | true =>
                    go_wp2_with fail
                    go_roundg j2
                    case measure => omega
                    case rel => exact ⟨p + 1, HKJ2.out, by go_num, congrArg Value.bool (by rw [HSU.out, ← HIB.out]; rfl), rfl⟩
                  | false =>
                    go_wp2_with fail
                    go_roundg j2
                    case measure => omega
                    case rel => exact ⟨p + 1, HKJ2.out, by go_num, congrArg Value.bool (by rw [HSU.out, ← HIB.out, ← HCC.out]; rfl), rfl⟩
                · obtain rfl : gk = 0 := by omega
                  obtain rfl : p = n := by omega
                  have hie := isQ_end ask1 HI.out.len
                  rw [hie]
                  obtain ⟨hlaw1, hlaw2⟩ := HI.out.law.law ask1
                  have hVF := fun b (hb : 16 ≤ (ask1).size → madeB ks (lab, (ask1).extract 0 ((ask1).size - 16)) ((ask1).extract ((ask1).size - 16) (ask1).size) = b) => Verify_any (some ⟨g, 0, none⟩) ask1 (by omega) b (fun _ => by omega) wr (fun h16 W hbW => by
                    have hh := Made_ideal B g gm ks lab ((ask1).extract 0 ((ask1).size - 16)) ((ask1).extract ((ask1).size - 16) (ask1).size) (small_mk (by decide) (by rw [ByteArray.size_extract]; omega)) W (HI.out.vlm.below hbW) (by omega)
                    rw [hb h16] at hh
                    exact hh)
                  have HBW := Lib.hid HI.out.out.below
                  by_cases hin : ask1 ∈ all
                  · obtain ⟨h16, hb, hre⟩ := hlaw1 hin
                    have hv := hVF true (fun _ => hb)
                    rw [(isIn_eq all ask1).2 hin]
                    obtain ⟨c, hc⟩ : ∃ c, c = (ask1).size - 16 := ⟨_, rfl⟩
                    rw [verifyOf, if_neg (by omega), if_pos rfl] at hv
                    rw [← hc] at hv hre
                    have hforth := repOf_forth ((ask1).extract 0 c) hre
                    have hsm := repOf_small2 ((ask1).extract 0 c) (by rw [ByteArray.size_extract]; omega)
                    have hin2 := repOf_in64 ((ask1).extract 0 c)
                    have hcs : ((ask1).size : Int) - 16 = (c : Int) := by omega
                    have hc800 : c ≤ 800 := by omega
                    have y1 : (16 : Int) ≤ ((ask1).size : Int) := by omega
                    have y2 : (0 : Int) ≤ (c : Int) := by omega
                    have y3 : (c : Int) ≤ ((ask1).size : Int) := by omega
                    have y4 : ¬ ((ask1).size : Int) < 16 := by omega
                    obtain ⟨T, hT⟩ : ∃ T, T = (ask1).extract 0 c := ⟨_, rfl⟩
                    rw [← hT] at hv hre hforth hsm hin2
                    obtain ⟨Q, hQ⟩ : ∃ Q, Q = repOf T := ⟨_, rfl⟩
                    rw [← hQ] at hv hre hforth hsm hin2
                    have HV := Lib.hid hv
                    have HRE := Lib.hid hre
                    have HFO := Lib.hid hforth
                    have HSM := Lib.hid hsm
                    have HIN := Lib.hid hin2
                    have HT := Lib.hid hT
                    clear hlaw1 hlaw2 hVF hin h16 hb hre hv hc hforth hsm hin2 hQ hie hlp hkp hT
                    go_wp2_with fail
                    refine HV.out.mono ?_
                    rintro e W7 ⟨v7, rfl, hf7, hb7⟩
                    obtain ⟨ao7, cap7, rfl, _⟩ := hf7.form
                    have hal := (Below.refl W7.heap.size W7).alloc (Nat.le_refl _) (.cells #[.int .i64 Q.a0, .int .i64 Q.a1, .int .i64 Q.a2, .slice ao7 Q.l.length cap7] 24 (0, 0))
                    have HRB := Lib.hid (repBytes_any Q.a0 Q.a1 Q.a2 _ Q.l _ (hf7.below hal) (by have := HSM.out; omega) HIN.out.1 HIN.out.2.1 HIN.out.2.2)
                    rw [HFO.out] at HRB
                    have HB8 := Lib.hid ((HBW.out.trans (hb7.mono HBW.out.size)).trans (hal.mono (Nat.le_trans HBW.out.size hb7.size)))
                    have hqe := HRE.out
                    have HQE := Lib.hid hqe
                    rw [hqe]
                    clear hf7 hb7 hal HV hqe
                    go_wp2_with fail
                    refine HRB.out.mono ?_
                    rintro e W8 ⟨rfl, hb8⟩
                    have HB9 := Lib.hid (HB8.out.trans (hb8.mono HB8.out.size))
                    rw [HT.out]
                    have hbe : (((ask1).extract 0 c).toList == ((ask1).extract 0 c).toList) = true := by simp
                    clear hb8 HRB
                    go_wp2_with fail
                    refine (repAwake_any _).mono ?_
                    rintro e W9 ⟨rfl, hb9⟩
                    have HB10 := Lib.hid (HB9.out.trans (hb9.mono HB9.out.size))
                    clear hb9
                    go_wp2_with fail
                    go_ret
                    exact ⟨rfl, HB10.out⟩
                  · have hv := hVF false (fun h16 => hlaw2 hin h16)
                    rw [isIn_no hin]
                    clear hlaw1 hlaw2 hVF hin hie hlp hkp
                    by_cases h16 : (ask1).size < 16
                    · have y1 : ((ask1).size : Int) < 16 := by omega
                      rw [verifyOf, if_pos h16] at hv
                      have HV := Lib.hid hv
                      clear hv h16
                      go_wp2_with fail
                      refine HV.out.mono ?_
                      rintro e W7 ⟨v7, rfl, hf7, hb7⟩
                      obtain ⟨ao7, cap7, rfl, _⟩ := hf7.form
                      simp only [List.length_nil] at hf7 ⊢
                      have hal := (Below.refl W7.heap.size W7).alloc (Nat.le_refl _) (.cells #[.int .i64 0, .int .i64 0, .int .i64 0, .slice ao7 0 cap7] 24 (0, 0))
                      have HSA := Lib.hid (same_any 0 0 0 _ _ [] _ (hf7.below hal) (FndRow.nil _) (by simp))
                      have HB8 := Lib.hid ((HBW.out.trans (hb7.mono HBW.out.size)).trans (hal.mono (Nat.le_trans HBW.out.size hb7.size)))
                      clear hf7 hb7 hal HV
                      go_wp2_with fail
                      refine HSA.out.mono ?_
                      rintro e W8 ⟨rfl, hb8⟩
                      have HB9 := Lib.hid (HB8.out.trans (hb8.mono HB8.out.size))
                      clear hb8 HSA
                      go_wp2_with fail
                      refine (repAwake_any _).mono ?_
                      rintro e W9 ⟨rfl, hb9⟩
                      have HB10 := Lib.hid (HB9.out.trans (hb9.mono HB9.out.size))
                      clear hb9
                      go_wp2_with fail
                      go_ret
                      exact ⟨rfl, HB10.out⟩
                    · have y1 : ¬ ((ask1).size : Int) < 16 := by omega
                      rw [verifyOf, if_neg h16, if_neg (by simp)] at hv
                      have HV := Lib.hid hv
                      clear hv h16
                      go_wp2_with fail
                      refine HV.out.mono ?_
                      rintro e W7 ⟨v7, rfl, hf7, hb7⟩
                      obtain ⟨ao7, cap7, rfl, _⟩ := hf7.form
                      simp only [List.length_nil] at hf7 ⊢
                      have hal := (Below.refl W7.heap.size W7).alloc (Nat.le_refl _) (.cells #[.int .i64 0, .int .i64 0, .int .i64 0, .slice ao7 0 cap7] 24 (0, 0))
                      have HSA := Lib.hid (same_any 0 0 0 _ _ [] _ (hf7.below hal) (FndRow.nil _) (by simp))
                      have HB8 := Lib.hid ((HBW.out.trans (hb7.mono HBW.out.size)).trans (hal.mono (Nat.le_trans HBW.out.size hb7.size)))
                      clear hf7 hb7 hal HV
                      go_wp2_with fail
                      refine HSA.out.mono ?_
                      rintro e W8 ⟨rfl, hb8⟩
                      have HB9 := Lib.hid (HB8.out.trans (hb8.mono HB8.out.size))
                      clear hb8 HSA
                      go_wp2_with fail
                      refine (repAwake_any _).mono ?_
                      rintro e W9 ⟨rfl, hb9⟩
                      have HB10 := Lib.hid (HB9.out.trans (hb9.mono HB9.out.size))
                      clear hb9
                      go_wp2_with fail
                      go_ret
                      exact ⟨rfl, HB10.out⟩
            · have z2 : (n : Int) ≤ which := by omega
              clear hwh
              go_wp2_with fail
              clear e2
              obtain ⟨W6, rfl⟩ : ∃ W6, W6 = wr := ⟨_, rfl⟩
              go_loopg [12, 13] n (fun j b i wr => ∃ p : Nat, j + p = n ∧ i = .int .i64 (p : Int) ∧ b = .bool (isQ ask1 all p) ∧ wr = W6)
              case atStart => exact ⟨0, by omega, rfl, congrArg Value.bool (by simp [isQ, isIn]), rfl⟩
              case round =>
                obtain ⟨p, hkp, rfl, hbv, rfl⟩ := hrel
                subst hbv
                by_cases hlp : p < n
                · obtain ⟨j2, rfl⟩ : ∃ j, gk = j + 1 := ⟨gk - 1, by omega⟩
                  obtain ⟨gl2, capl2, he2, hcl2, hgl2⟩ := HI.out.out.row.form_pos (by omega)
                  simp at he2
                  obtain ⟨rfl, rfl⟩ := he2
                  have hpl : p < all.length := by rw [← HI.out.len]; exact hlp
                  have y0 := HI.out.out.row.cells p (.string all[p]) (by simp [strs, hpl])
                  have hsu := isQ_succ (ask := ask1) hpl
                  generalize all[p] = t at y0 hsu
                  have HSU := Lib.hid hsu
                  have hbe := str_beq2 t ask1
                  obtain ⟨c, hcc⟩ : ∃ c, c = decide (t = ask1) := ⟨_, rfl⟩
                  rw [← hcc] at hbe
                  have HCC := Lib.hid hcc
                  obtain ⟨ib, hib⟩ : ∃ c, c = isQ ask1 all p := ⟨_, rfl⟩
                  rw [← hib]
                  have HIB := Lib.hid hib
                  have v2 : (0 : Int) ≤ (p : Int) := by omega
                  have v3 : (p : Int) < (n : Int) := by omega
                  have hp8 : p ≤ 8 := by omega
                  have hkj : j2 + (p + 1) = n := by omega
                  have HKJ2 := Lib.hid hkj
                  clear hkj hlp hkp hsu hcc hib hcl2
                  clear hpl
                  cases ib with
                  | true =>
                    go_wp2_with fail
                    go_roundg j2
                    case measure => omega
                    case rel => exact ⟨p + 1, HKJ2.out, by go_num, congrArg Value.bool (by rw [HSU.out, ← HIB.out]; rfl), rfl⟩
                  | false =>
                    go_wp2_with fail
                    go_roundg j2
                    case measure => omega
                    case rel => exact ⟨p + 1, HKJ2.out, by go_num, congrArg Value.bool (by rw [HSU.out, ← HIB.out, ← HCC.out]; rfl), rfl⟩
                · obtain rfl : gk = 0 := by omega
                  obtain rfl : p = n := by omega
                  have hie := isQ_end ask1 HI.out.len
                  rw [hie]
                  obtain ⟨hlaw1, hlaw2⟩ := HI.out.law.law ask1
                  have hVF := fun b (hb : 16 ≤ (ask1).size → madeB ks (lab, (ask1).extract 0 ((ask1).size - 16)) ((ask1).extract ((ask1).size - 16) (ask1).size) = b) => Verify_any (some ⟨g, 0, none⟩) ask1 (by omega) b (fun _ => by omega) wr (fun h16 W hbW => by
                    have hh := Made_ideal B g gm ks lab ((ask1).extract 0 ((ask1).size - 16)) ((ask1).extract ((ask1).size - 16) (ask1).size) (small_mk (by decide) (by rw [ByteArray.size_extract]; omega)) W (HI.out.vlm.below hbW) (by omega)
                    rw [hb h16] at hh
                    exact hh)
                  have HBW := Lib.hid HI.out.out.below
                  by_cases hin : ask1 ∈ all
                  · obtain ⟨h16, hb, hre⟩ := hlaw1 hin
                    have hv := hVF true (fun _ => hb)
                    rw [(isIn_eq all ask1).2 hin]
                    obtain ⟨c, hc⟩ : ∃ c, c = (ask1).size - 16 := ⟨_, rfl⟩
                    rw [verifyOf, if_neg (by omega), if_pos rfl] at hv
                    rw [← hc] at hv hre
                    have hforth := repOf_forth ((ask1).extract 0 c) hre
                    have hsm := repOf_small2 ((ask1).extract 0 c) (by rw [ByteArray.size_extract]; omega)
                    have hin2 := repOf_in64 ((ask1).extract 0 c)
                    have hcs : ((ask1).size : Int) - 16 = (c : Int) := by omega
                    have hc800 : c ≤ 800 := by omega
                    have y1 : (16 : Int) ≤ ((ask1).size : Int) := by omega
                    have y2 : (0 : Int) ≤ (c : Int) := by omega
                    have y3 : (c : Int) ≤ ((ask1).size : Int) := by omega
                    have y4 : ¬ ((ask1).size : Int) < 16 := by omega
                    obtain ⟨T, hT⟩ : ∃ T, T = (ask1).extract 0 c := ⟨_, rfl⟩
                    rw [← hT] at hv hre hforth hsm hin2
                    obtain ⟨Q, hQ⟩ : ∃ Q, Q = repOf T := ⟨_, rfl⟩
                    rw [← hQ] at hv hre hforth hsm hin2
                    have HV := Lib.hid hv
                    have HRE := Lib.hid hre
                    have HFO := Lib.hid hforth
                    have HSM := Lib.hid hsm
                    have HIN := Lib.hid hin2
                    have HT := Lib.hid hT
                    clear hlaw1 hlaw2 hVF hin h16 hb hre hv hc hforth hsm hin2 hQ hie hlp hkp hT
                    go_wp2_with fail
                    refine HV.out.mono ?_
                    rintro e W7 ⟨v7, rfl, hf7, hb7⟩
                    obtain ⟨ao7, cap7, rfl, _⟩ := hf7.form
                    have hal := (Below.refl W7.heap.size W7).alloc (Nat.le_refl _) (.cells #[.int .i64 Q.a0, .int .i64 Q.a1, .int .i64 Q.a2, .slice ao7 Q.l.length cap7] 24 (0, 0))
                    have HRB := Lib.hid (repBytes_any Q.a0 Q.a1 Q.a2 _ Q.l _ (hf7.below hal) (by have := HSM.out; omega) HIN.out.1 HIN.out.2.1 HIN.out.2.2)
                    rw [HFO.out] at HRB
                    have HB8 := Lib.hid ((HBW.out.trans (hb7.mono HBW.out.size)).trans (hal.mono (Nat.le_trans HBW.out.size hb7.size)))
                    have hqe := HRE.out
                    have HQE := Lib.hid hqe
                    rw [hqe]
                    clear hf7 hb7 hal HV hqe
                    go_wp2_with fail
                    refine HRB.out.mono ?_
                    rintro e W8 ⟨rfl, hb8⟩
                    have HB9 := Lib.hid (HB8.out.trans (hb8.mono HB8.out.size))
                    rw [HT.out]
                    have hbe : (((ask1).extract 0 c).toList == ((ask1).extract 0 c).toList) = true := by simp
                    clear hb8 HRB
                    go_wp2_with fail
                    refine (repAwake_any _).mono ?_
                    rintro e W9 ⟨rfl, hb9⟩
                    have HB10 := Lib.hid (HB9.out.trans (hb9.mono HB9.out.size))
                    clear hb9
                    go_wp2_with fail
                    go_ret
                    exact ⟨rfl, HB10.out⟩
                  · have hv := hVF false (fun h16 => hlaw2 hin h16)
                    rw [isIn_no hin]
                    clear hlaw1 hlaw2 hVF hin hie hlp hkp
                    by_cases h16 : (ask1).size < 16
                    · have y1 : ((ask1).size : Int) < 16 := by omega
                      rw [verifyOf, if_pos h16] at hv
                      have HV := Lib.hid hv
                      clear hv h16
                      go_wp2_with fail
                      refine HV.out.mono ?_
                      rintro e W7 ⟨v7, rfl, hf7, hb7⟩
                      obtain ⟨ao7, cap7, rfl, _⟩ := hf7.form
                      simp only [List.length_nil] at hf7 ⊢
                      have hal := (Below.refl W7.heap.size W7).alloc (Nat.le_refl _) (.cells #[.int .i64 0, .int .i64 0, .int .i64 0, .slice ao7 0 cap7] 24 (0, 0))
                      have HSA := Lib.hid (same_any 0 0 0 _ _ [] _ (hf7.below hal) (FndRow.nil _) (by simp))
                      have HB8 := Lib.hid ((HBW.out.trans (hb7.mono HBW.out.size)).trans (hal.mono (Nat.le_trans HBW.out.size hb7.size)))
                      clear hf7 hb7 hal HV
                      go_wp2_with fail
                      refine HSA.out.mono ?_
                      rintro e W8 ⟨rfl, hb8⟩
                      have HB9 := Lib.hid (HB8.out.trans (hb8.mono HB8.out.size))
                      clear hb8 HSA
                      go_wp2_with fail
                      refine (repAwake_any _).mono ?_
                      rintro e W9 ⟨rfl, hb9⟩
                      have HB10 := Lib.hid (HB9.out.trans (hb9.mono HB9.out.size))
                      clear hb9
                      go_wp2_with fail
                      go_ret
                      exact ⟨rfl, HB10.out⟩
                    · have y1 : ¬ ((ask1).size : Int) < 16 := by omega
                      rw [verifyOf, if_neg h16, if_neg (by simp)] at hv
                      have HV := Lib.hid hv
                      clear hv h16
                      go_wp2_with fail
                      refine HV.out.mono ?_
                      rintro e W7 ⟨v7, rfl, hf7, hb7⟩
                      obtain ⟨ao7, cap7, rfl, _⟩ := hf7.form
                      simp only [List.length_nil] at hf7 ⊢
                      have hal := (Below.refl W7.heap.size W7).alloc (Nat.le_refl _) (.cells #[.int .i64 0, .int .i64 0, .int .i64 0, .slice ao7 0 cap7] 24 (0, 0))
                      have HSA := Lib.hid (same_any 0 0 0 _ _ [] _ (hf7.below hal) (FndRow.nil _) (by simp))
                      have HB8 := Lib.hid ((HBW.out.trans (hb7.mono HBW.out.size)).trans (hal.mono (Nat.le_trans HBW.out.size hb7.size)))
                      clear hf7 hb7 hal HV
                      go_wp2_with fail
                      refine HSA.out.mono ?_
                      rintro e W8 ⟨rfl, hb8⟩
                      have HB9 := Lib.hid (HB8.out.trans (hb8.mono HB8.out.size))
                      clear hb8 HSA
                      go_wp2_with fail
                      refine (repAwake_any _).mono ?_
                      rintro e W9 ⟨rfl, hb9⟩
                      have HB10 := Lib.hid (HB9.out.trans (hb9.mono HB9.out.size))
                      clear hb9
                      go_wp2_with fail
                      go_ret
                      exact ⟨rfl, HB10.out⟩
  · have z1 : ¬ (800 : Int) < (ask.size : Int) := by omega
    obtain ⟨ask1, ha1⟩ : ∃ t, t = ask := ⟨_, rfl⟩
    subst ha1
    have hs1 : ask1.size ≤ 800 := by omega
    go_wp2_with fail
    clear z1 hbig hask
    go_loopg [8, 9] (min N 8) (fun j o i wr => ∃ (q n : Nat) (v : Value) (all : List ByteArray) (ks : List Pr), j + q = min N 8 ∧ i = .int .i64 (q : Int) ∧ o = v ∧ TrueI w B g gm q v n all ks wr)
    case atStart => exact ⟨0, 0, _, [], [], by omega, rfl, rfl, HI0.out⟩
    case round =>
      clear HI0
      obtain ⟨q, n, v, all, ks, hk, rfl, hov, hI⟩ := hrel
      have hov := hov.symm
      subst hov
      by_cases hlt : q < min N 8
      · obtain ⟨j, rfl⟩ : ∃ j, gk = j + 1 := ⟨gk - 1, by omega⟩
        have hlen : q < L.length := by rw [← HN.out]; omega
        obtain ⟨g1, o1, x, vf, rfl, hg1, b0, b1, b2, c0, c1, c2, c3, hf⟩ := (H.out.below hI.out.below).get (i := q) hlen
        obtain ⟨x0, hx0⟩ : ∃ y, y = x.a0 := ⟨_, rfl⟩
        obtain ⟨x1, hx1⟩ : ∃ y, y = x.a1 := ⟨_, rfl⟩
        obtain ⟨x2, hx2⟩ : ∃ y, y = x.a2 := ⟨_, rfl⟩
        rw [← hx0] at b0 c0
        rw [← hx1] at b1 c1
        rw [← hx2] at b2 c2
        obtain ⟨aof, capf, rfl, _⟩ := hf.form
        have u2 : (0 : Int) ≤ (q : Int) := by omega
        have u3 : (q : Int) < (N : Int) := by omega
        have u4 : (q : Int) < 8 := by omega
        have hq8 : q ≤ 8 := by omega
        have hkj : j + (q + 1) = min N 8 := by omega
        have HKJ := Lib.hid hkj
        have HI := Lib.hid hI
        have HFW := Lib.hid (few_any x0 x1 x2 _ x.fs 50 (by omega) wr hf)
        have HF := Lib.hid hf
        have HB012 := Lib.hid (And.intro b0 (And.intro b1 b2))
        obtain ⟨ao2, cap2, rfl, hc2⟩ := hI.out.row.form
        clear hI hk hlt hkj hf b0 b1 b2 hx0 hx1 hx2 hlen
        go_wp2_with fail
        refine HFW.out.mono ?_
        rintro e W4 ⟨vf', rfl, hf4, hb4⟩
        have hr4 := (hf4 wr HF.out).below hb4
        obtain ⟨fs, hfs⟩ : ∃ m, m = x.fs.take 50 := ⟨_, rfl⟩
        have hl50 : fs.length ≤ 50 := by rw [hfs]; exact List.length_take_le _ _
        rw [← hfs] at hr4
        obtain ⟨aof2, capf2, rfl, _⟩ := hr4.form
        have HI4 := Lib.hid (HI.out.below hb4)
        have hkl := HI.out.kl
        have HI4K := Lib.hid hkl
        have hnq := HI.out.nq
        have HSG := Lib.hid (Sign_any (some ⟨g, 0, none⟩) x0 x1 x2 _ fs W4 hr4 (by omega) HB012.out.1 HB012.out.2.1 HB012.out.2.2 (SignMp B g gm ks (repBytes x0 x1 x2 fs).1) (fun hok W hb => by
          have hsz := (rep_reads hok).2.1
          exact (Mac_ideal B g gm ks lab _ (small_mk (by decide) (by omega)) W (HI4.out.vlm.below hb) (by omega)).mono (fun e w' ⟨he, hv, hk⟩ => ⟨_, he, by rw [markOf_size]; decide, rfl, hv, hk⟩)))
        obtain ⟨⟨S, st⟩, hS⟩ : ∃ q, q = repBytes x0 x1 x2 fs := ⟨_, rfl⟩
        have HOK := Lib.hid (show st = 0 → (repOf S).e = 0 ∧ S.size ≤ 720 from fun h0 => by
          have hok : (repBytes x0 x1 x2 fs).2 = 0 := by rw [← hS]; exact h0
          have h1 := repOf_back hok
          have h2 := (rep_reads hok).2.1
          rw [← hS] at h1 h2
          simp only at h1 h2
          exact ⟨by rw [h1], by omega⟩)
        rw [← hS] at HSG
        simp only at HSG
        clear hf4 hb4 hr4 hfs HI HFW HF hS c0 c1 c2 c3 hg1
        go_wp2_with fail
        refine HSG.out.mono ?_
        rintro e W5 hpost
        by_cases hst : st = 0
        · subst hst
          obtain ⟨hrs, hS720⟩ := HOK.out rfl
          rcases hpost with ⟨h1, _⟩ | ⟨_, W, mk, hbW, ⟨hmk, hv5, hk5⟩, he⟩
          · exact absurd rfl h1
          have hms : mk.size = 16 := by rw [hmk, markOf_size]
          have hse : signS S mk = S ++ mk ∧ signE mk = 0 := by unfold signS signE; rw [if_neg (by omega), if_neg (by omega)]; exact ⟨rfl, rfl⟩
          rw [hse.1, hse.2] at he
          subst he
          have hIW := HI4.out.below hbW
          have HL5 := Lib.hid (hIW.mark HGM.out hv5 hk5)
          have HV5 := Lib.hid hv5
          have HLAW := Lib.hid (hIW.law.add hrs hS720)
          have HLEN := Lib.hid hIW.len
          have HAL := Lib.hid (addTo_len ks (lab, S))
          have HMK := Lib.hid hmk
          obtain ⟨t, ht⟩ : ∃ t, t = S ++ mk := ⟨_, rfl⟩
          have HTT := Lib.hid ht
          rw [← ht]
          obtain ⟨i1, hi, hz0, hz1, hz2⟩ := info_parts infoStr
          have HII := Lib.hid hi
          have HZ0 := Lib.hid hz0
          have HZ1 := Lib.hid hz1
          have HZ2 := Lib.hid hz2
          clear hrs hS720 hbW hmk hv5 hk5 hms hse hIW ht hi hz0 hz1 hz2 HOK HI4 HSG hkl
          go_wp2_with (refine wpList_append_row _ (by rfl) _ _ _ _ (by rfl) 9 i1 (.string ⟨#[]⟩) 1 16 Try.underlying43 HII.out HZ0.out HZ1.out HZ2.out rfl (by omega) _ n _ (by rfl) (HL5.out.row.alloc _) _ (by rfl) 1 [.string t] (Feeds.slice Try.underlying43 ⟨W5.heap.size, 0, none⟩ 1 1 _ (by rfl) (by simp [Value.oneCell']) (World.news_of_block (cs := #[.string t]) (t := 9) (fr := (0, 0)) (get_top rfl))) (by unfold maxLen; omega) (by omega) (W5.heap.size + 1) (by simp) ?_; intro ao6 cap6 w6 hown6 hgrow6 hat6; have HL6 := Lib.hid (Loc.app HL5.out ((Below.refl _ W5).alloc (Nat.le_refl _) _) hown6 hgrow6 hat6 (by omega)); have HV6 := Lib.hid (HV5.out.keepR HL5.out.row ((Keeps.of_below ((Below.refl _ W5).alloc (Nat.le_refl _) _)).trans (Keeps.of_grown (S := fun i => (Value.slice ao2 n cap2).ownBlock = some i) hgrow6 (fun k hk => hk)) (fun _ _ h => h))); clear hown6 hgrow6 hat6)
          go_roundg j
          case measure => omega
          case rel => exact ⟨q + 1, n + 1, _, all ++ [t], addTo ks (lab, S), HKJ.out, by go_num, rfl, ⟨by rw [strs_app]; exact HL6.out, by rw [List.length_append, ← HLEN.out]; rfl, by omega, HV6.out, by have := HAL.out; have := HI4K.out; omega, by rw [HTT.out, HMK.out]; exact HLAW.out⟩⟩
        · have hne : (st == 0) = false := by simpa using hst
          have hst2 : ¬ st = 0 := hst
          rcases hpost with ⟨_, rfl, hb5⟩ | ⟨h1, _⟩
          · have hI5 := HI4.out.below hb5
            have HI5 := Lib.hid (show TrueI w B g gm (q + 1) (.slice ao2 n cap2) n all ks W5 from ⟨hI5.out, hI5.len, by omega, hI5.vlm, by omega, hI5.law⟩)
            clear hb5 hI5 HI4 HSG HOK hst hkl hnq
            go_wp2_with fail
            go_roundg j
            case measure => omega
            case rel => exact ⟨q + 1, n, _, all, ks, HKJ.out, by go_num, rfl, HI5.out⟩
          · exact absurd h1 hst
      · obtain rfl : gk = 0 := by omega
        obtain rfl : q = min N 8 := by omega
        obtain ⟨q, hq⟩ : ∃ q, q = min N 8 := ⟨_, rfl⟩
        rw [← hq] at hI ⊢
        have hqe : (q = N ∧ q ≤ 8) ∨ (q = 8 ∧ q < N) := by omega
        obtain ⟨ao2, cap2, rfl, hc2⟩ := hI.out.row.form
        have hn8 : n ≤ 8 := by have := hI.nq; omega
        have hkl8 : ks.length ≤ 8 := by have := hI.kl; omega
        have HI := Lib.hid hI
        clear hI hk hlt hq
        by_cases hwh : 0 ≤ which ∧ which < (n : Int)
        · obtain ⟨p, rfl⟩ : ∃ p : Nat, which = (p : Int) := ⟨which.toNat, by omega⟩
          have hpn : p < n := by omega
          obtain ⟨gl, capl, he, hcl, hgl⟩ := HI.out.out.row.form_pos (by omega)
          simp at he
          obtain ⟨rfl, rfl⟩ := he
          have hpl : p < all.length := by rw [← HI.out.len]; exact hpn
          have x0 : wr.cell? ⟨gl, p, none⟩ = some (.string all[p]) := HI.out.out.row.cells p _ (by simp [strs, hpl])
          have hs2 : (all[p]).size ≤ 800 := Loc.size_bound HI.out.law _ (List.getElem_mem hpl)
          generalize all[p] = ask2 at x0 hs2
          have z1 : ¬ (p : Int) < 0 := by omega
          have z2 : (p : Int) < (n : Int) := by omega
          have z3 : (0 : Int) ≤ (p : Int) := by omega
          clear hwh hpl hs1
          rcases hqe with ⟨e1, e2⟩ | ⟨e1, e2⟩
          · have y1 : ¬ (q : Int) < (N : Int) := by omega
            clear e1
            go_wp2_with fail
            clear e2
            obtain ⟨W6, rfl⟩ : ∃ W6, W6 = wr := ⟨_, rfl⟩
            go_loopg [12, 13] n (fun j b i wr => ∃ p : Nat, j + p = n ∧ i = .int .i64 (p : Int) ∧ b = .bool (isQ ask2 all p) ∧ wr = W6)
            case atStart => exact ⟨0, by omega, rfl, congrArg Value.bool (by simp [isQ, isIn]), rfl⟩
            case round =>
              obtain ⟨p, hkp, rfl, hbv, rfl⟩ := hrel
              subst hbv
              by_cases hlp : p < n
              · obtain ⟨j2, rfl⟩ : ∃ j, gk = j + 1 := ⟨gk - 1, by omega⟩
                obtain ⟨gl2, capl2, he2, hcl2, hgl2⟩ := HI.out.out.row.form_pos (by omega)
                simp at he2
                obtain ⟨rfl, rfl⟩ := he2
                have hpl : p < all.length := by rw [← HI.out.len]; exact hlp
                have y0 := HI.out.out.row.cells p (.string all[p]) (by simp [strs, hpl])
                have hsu := isQ_succ (ask := ask2) hpl
                generalize all[p] = t at y0 hsu
                have HSU := Lib.hid hsu
                have hbe := str_beq2 t ask2
                obtain ⟨c, hcc⟩ : ∃ c, c = decide (t = ask2) := ⟨_, rfl⟩
                rw [← hcc] at hbe
                have HCC := Lib.hid hcc
                obtain ⟨ib, hib⟩ : ∃ c, c = isQ ask2 all p := ⟨_, rfl⟩
                rw [← hib]
                have HIB := Lib.hid hib
                have v2 : (0 : Int) ≤ (p : Int) := by omega
                have v3 : (p : Int) < (n : Int) := by omega
                have hp8 : p ≤ 8 := by omega
                have hkj : j2 + (p + 1) = n := by omega
                have HKJ2 := Lib.hid hkj
                clear hkj hlp hkp hsu hcc hib hcl2
                clear hpl
                cases ib with
                | true =>
                  go_wp2_with fail
                  go_roundg j2
                  case measure => omega
                  case rel => exact ⟨p + 1, HKJ2.out, by go_num, congrArg Value.bool (by rw [HSU.out, ← HIB.out]; rfl), rfl⟩
                | false =>
                  go_wp2_with fail
                  go_roundg j2
                  case measure => omega
                  case rel => exact ⟨p + 1, HKJ2.out, by go_num, congrArg Value.bool (by rw [HSU.out, ← HIB.out, ← HCC.out]; rfl), rfl⟩
              · obtain rfl : gk = 0 := by omega
                obtain rfl : p = n := by omega
                have hie := isQ_end ask2 HI.out.len
                rw [hie]
                obtain ⟨hlaw1, hlaw2⟩ := HI.out.law.law ask2
                have hVF := fun b (hb : 16 ≤ (ask2).size → madeB ks (lab, (ask2).extract 0 ((ask2).size - 16)) ((ask2).extract ((ask2).size - 16) (ask2).size) = b) => Verify_any (some ⟨g, 0, none⟩) ask2 (by omega) b (fun _ => by omega) wr (fun h16 W hbW => by
                  have hh := Made_ideal B g gm ks lab ((ask2).extract 0 ((ask2).size - 16)) ((ask2).extract ((ask2).size - 16) (ask2).size) (small_mk (by decide) (by rw [ByteArray.size_extract]; omega)) W (HI.out.vlm.below hbW) (by omega)
                  rw [hb h16] at hh
                  exact hh)
                have HBW := Lib.hid HI.out.out.below
                by_cases hin : ask2 ∈ all
                · obtain ⟨h16, hb, hre⟩ := hlaw1 hin
                  have hv := hVF true (fun _ => hb)
                  rw [(isIn_eq all ask2).2 hin]
                  obtain ⟨c, hc⟩ : ∃ c, c = (ask2).size - 16 := ⟨_, rfl⟩
                  rw [verifyOf, if_neg (by omega), if_pos rfl] at hv
                  rw [← hc] at hv hre
                  have hforth := repOf_forth ((ask2).extract 0 c) hre
                  have hsm := repOf_small2 ((ask2).extract 0 c) (by rw [ByteArray.size_extract]; omega)
                  have hin2 := repOf_in64 ((ask2).extract 0 c)
                  have hcs : ((ask2).size : Int) - 16 = (c : Int) := by omega
                  have hc800 : c ≤ 800 := by omega
                  have y1 : (16 : Int) ≤ ((ask2).size : Int) := by omega
                  have y2 : (0 : Int) ≤ (c : Int) := by omega
                  have y3 : (c : Int) ≤ ((ask2).size : Int) := by omega
                  have y4 : ¬ ((ask2).size : Int) < 16 := by omega
                  obtain ⟨T, hT⟩ : ∃ T, T = (ask2).extract 0 c := ⟨_, rfl⟩
                  rw [← hT] at hv hre hforth hsm hin2
                  obtain ⟨Q, hQ⟩ : ∃ Q, Q = repOf T := ⟨_, rfl⟩
                  rw [← hQ] at hv hre hforth hsm hin2
                  have HV := Lib.hid hv
                  have HRE := Lib.hid hre
                  have HFO := Lib.hid hforth
                  have HSM := Lib.hid hsm
                  have HIN := Lib.hid hin2
                  have HT := Lib.hid hT
                  clear hlaw1 hlaw2 hVF hin h16 hb hre hv hc hforth hsm hin2 hQ hie hlp hkp hT
                  go_wp2_with fail
                  refine HV.out.mono ?_
                  rintro e W7 ⟨v7, rfl, hf7, hb7⟩
                  obtain ⟨ao7, cap7, rfl, _⟩ := hf7.form
                  have hal := (Below.refl W7.heap.size W7).alloc (Nat.le_refl _) (.cells #[.int .i64 Q.a0, .int .i64 Q.a1, .int .i64 Q.a2, .slice ao7 Q.l.length cap7] 24 (0, 0))
                  have HRB := Lib.hid (repBytes_any Q.a0 Q.a1 Q.a2 _ Q.l _ (hf7.below hal) (by have := HSM.out; omega) HIN.out.1 HIN.out.2.1 HIN.out.2.2)
                  rw [HFO.out] at HRB
                  have HB8 := Lib.hid ((HBW.out.trans (hb7.mono HBW.out.size)).trans (hal.mono (Nat.le_trans HBW.out.size hb7.size)))
                  have hqe := HRE.out
                  have HQE := Lib.hid hqe
                  rw [hqe]
                  clear hf7 hb7 hal HV hqe
                  go_wp2_with fail
                  refine HRB.out.mono ?_
                  rintro e W8 ⟨rfl, hb8⟩
                  have HB9 := Lib.hid (HB8.out.trans (hb8.mono HB8.out.size))
                  rw [HT.out]
                  have hbe : (((ask2).extract 0 c).toList == ((ask2).extract 0 c).toList) = true := by simp
                  clear hb8 HRB
                  go_wp2_with fail
                  refine (repAwake_any _).mono ?_
                  rintro e W9 ⟨rfl, hb9⟩
                  have HB10 := Lib.hid (HB9.out.trans (hb9.mono HB9.out.size))
                  clear hb9
                  go_wp2_with fail
                  go_ret
                  exact ⟨rfl, HB10.out⟩
                · have hv := hVF false (fun h16 => hlaw2 hin h16)
                  rw [isIn_no hin]
                  clear hlaw1 hlaw2 hVF hin hie hlp hkp
                  by_cases h16 : (ask2).size < 16
                  · have y1 : ((ask2).size : Int) < 16 := by omega
                    rw [verifyOf, if_pos h16] at hv
                    have HV := Lib.hid hv
                    clear hv h16
                    go_wp2_with fail
                    refine HV.out.mono ?_
                    rintro e W7 ⟨v7, rfl, hf7, hb7⟩
                    obtain ⟨ao7, cap7, rfl, _⟩ := hf7.form
                    simp only [List.length_nil] at hf7 ⊢
                    have hal := (Below.refl W7.heap.size W7).alloc (Nat.le_refl _) (.cells #[.int .i64 0, .int .i64 0, .int .i64 0, .slice ao7 0 cap7] 24 (0, 0))
                    have HSA := Lib.hid (same_any 0 0 0 _ _ [] _ (hf7.below hal) (FndRow.nil _) (by simp))
                    have HB8 := Lib.hid ((HBW.out.trans (hb7.mono HBW.out.size)).trans (hal.mono (Nat.le_trans HBW.out.size hb7.size)))
                    clear hf7 hb7 hal HV
                    go_wp2_with fail
                    refine HSA.out.mono ?_
                    rintro e W8 ⟨rfl, hb8⟩
                    have HB9 := Lib.hid (HB8.out.trans (hb8.mono HB8.out.size))
                    clear hb8 HSA
                    go_wp2_with fail
                    refine (repAwake_any _).mono ?_
                    rintro e W9 ⟨rfl, hb9⟩
                    have HB10 := Lib.hid (HB9.out.trans (hb9.mono HB9.out.size))
                    clear hb9
                    go_wp2_with fail
                    go_ret
                    exact ⟨rfl, HB10.out⟩
                  · have y1 : ¬ ((ask2).size : Int) < 16 := by omega
                    rw [verifyOf, if_neg h16, if_neg (by simp)] at hv
                    have HV := Lib.hid hv
                    clear hv h16
                    go_wp2_with fail
                    refine HV.out.mono ?_
                    rintro e W7 ⟨v7, rfl, hf7, hb7⟩
                    obtain ⟨ao7, cap7, rfl, _⟩ := hf7.form
                    simp only [List.length_nil] at hf7 ⊢
                    have hal := (Below.refl W7.heap.size W7).alloc (Nat.le_refl _) (.cells #[.int .i64 0, .int .i64 0, .int .i64 0, .slice ao7 0 cap7] 24 (0, 0))
                    have HSA := Lib.hid (same_any 0 0 0 _ _ [] _ (hf7.below hal) (FndRow.nil _) (by simp))
                    have HB8 := Lib.hid ((HBW.out.trans (hb7.mono HBW.out.size)).trans (hal.mono (Nat.le_trans HBW.out.size hb7.size)))
                    clear hf7 hb7 hal HV
                    go_wp2_with fail
                    refine HSA.out.mono ?_
                    rintro e W8 ⟨rfl, hb8⟩
                    have HB9 := Lib.hid (HB8.out.trans (hb8.mono HB8.out.size))
                    clear hb8 HSA
                    go_wp2_with fail
                    refine (repAwake_any _).mono ?_
                    rintro e W9 ⟨rfl, hb9⟩
                    have HB10 := Lib.hid (HB9.out.trans (hb9.mono HB9.out.size))
                    clear hb9
                    go_wp2_with fail
                    go_ret
                    exact ⟨rfl, HB10.out⟩
          · subst e1
            have y2 : (8 : Int) < (N : Int) := by omega
            go_wp2_with fail
            clear e2
            obtain ⟨W6, rfl⟩ : ∃ W6, W6 = wr := ⟨_, rfl⟩
            go_loopg [12, 13] n (fun j b i wr => ∃ p : Nat, j + p = n ∧ i = .int .i64 (p : Int) ∧ b = .bool (isQ ask2 all p) ∧ wr = W6)
            case atStart => exact ⟨0, by omega, rfl, congrArg Value.bool (by simp [isQ, isIn]), rfl⟩
            case round =>
              obtain ⟨p, hkp, rfl, hbv, rfl⟩ := hrel
              subst hbv
              by_cases hlp : p < n
              · obtain ⟨j2, rfl⟩ : ∃ j, gk = j + 1 := ⟨gk - 1, by omega⟩
                obtain ⟨gl2, capl2, he2, hcl2, hgl2⟩ := HI.out.out.row.form_pos (by omega)
                simp at he2
                obtain ⟨rfl, rfl⟩ := he2
                have hpl : p < all.length := by rw [← HI.out.len]; exact hlp
                have y0 := HI.out.out.row.cells p (.string all[p]) (by simp [strs, hpl])
                have hsu := isQ_succ (ask := ask2) hpl
                generalize all[p] = t at y0 hsu
                have HSU := Lib.hid hsu
                have hbe := str_beq2 t ask2
                obtain ⟨c, hcc⟩ : ∃ c, c = decide (t = ask2) := ⟨_, rfl⟩
                rw [← hcc] at hbe
                have HCC := Lib.hid hcc
                obtain ⟨ib, hib⟩ : ∃ c, c = isQ ask2 all p := ⟨_, rfl⟩
                rw [← hib]
                have HIB := Lib.hid hib
                have v2 : (0 : Int) ≤ (p : Int) := by omega
                have v3 : (p : Int) < (n : Int) := by omega
                have hp8 : p ≤ 8 := by omega
                have hkj : j2 + (p + 1) = n := by omega
                have HKJ2 := Lib.hid hkj
                clear hkj hlp hkp hsu hcc hib hcl2
                clear hpl
                cases ib with
                | true =>
                  go_wp2_with fail
                  go_roundg j2
                  case measure => omega
                  case rel => exact ⟨p + 1, HKJ2.out, by go_num, congrArg Value.bool (by rw [HSU.out, ← HIB.out]; rfl), rfl⟩
                | false =>
                  go_wp2_with fail
                  go_roundg j2
                  case measure => omega
                  case rel => exact ⟨p + 1, HKJ2.out, by go_num, congrArg Value.bool (by rw [HSU.out, ← HIB.out, ← HCC.out]; rfl), rfl⟩
              · obtain rfl : gk = 0 := by omega
                obtain rfl : p = n := by omega
                have hie := isQ_end ask2 HI.out.len
                rw [hie]
                obtain ⟨hlaw1, hlaw2⟩ := HI.out.law.law ask2
                have hVF := fun b (hb : 16 ≤ (ask2).size → madeB ks (lab, (ask2).extract 0 ((ask2).size - 16)) ((ask2).extract ((ask2).size - 16) (ask2).size) = b) => Verify_any (some ⟨g, 0, none⟩) ask2 (by omega) b (fun _ => by omega) wr (fun h16 W hbW => by
                  have hh := Made_ideal B g gm ks lab ((ask2).extract 0 ((ask2).size - 16)) ((ask2).extract ((ask2).size - 16) (ask2).size) (small_mk (by decide) (by rw [ByteArray.size_extract]; omega)) W (HI.out.vlm.below hbW) (by omega)
                  rw [hb h16] at hh
                  exact hh)
                have HBW := Lib.hid HI.out.out.below
                by_cases hin : ask2 ∈ all
                · obtain ⟨h16, hb, hre⟩ := hlaw1 hin
                  have hv := hVF true (fun _ => hb)
                  rw [(isIn_eq all ask2).2 hin]
                  obtain ⟨c, hc⟩ : ∃ c, c = (ask2).size - 16 := ⟨_, rfl⟩
                  rw [verifyOf, if_neg (by omega), if_pos rfl] at hv
                  rw [← hc] at hv hre
                  have hforth := repOf_forth ((ask2).extract 0 c) hre
                  have hsm := repOf_small2 ((ask2).extract 0 c) (by rw [ByteArray.size_extract]; omega)
                  have hin2 := repOf_in64 ((ask2).extract 0 c)
                  have hcs : ((ask2).size : Int) - 16 = (c : Int) := by omega
                  have hc800 : c ≤ 800 := by omega
                  have y1 : (16 : Int) ≤ ((ask2).size : Int) := by omega
                  have y2 : (0 : Int) ≤ (c : Int) := by omega
                  have y3 : (c : Int) ≤ ((ask2).size : Int) := by omega
                  have y4 : ¬ ((ask2).size : Int) < 16 := by omega
                  obtain ⟨T, hT⟩ : ∃ T, T = (ask2).extract 0 c := ⟨_, rfl⟩
                  rw [← hT] at hv hre hforth hsm hin2
                  obtain ⟨Q, hQ⟩ : ∃ Q, Q = repOf T := ⟨_, rfl⟩
                  rw [← hQ] at hv hre hforth hsm hin2
                  have HV := Lib.hid hv
                  have HRE := Lib.hid hre
                  have HFO := Lib.hid hforth
                  have HSM := Lib.hid hsm
                  have HIN := Lib.hid hin2
                  have HT := Lib.hid hT
                  clear hlaw1 hlaw2 hVF hin h16 hb hre hv hc hforth hsm hin2 hQ hie hlp hkp hT
                  go_wp2_with fail
                  refine HV.out.mono ?_
                  rintro e W7 ⟨v7, rfl, hf7, hb7⟩
                  obtain ⟨ao7, cap7, rfl, _⟩ := hf7.form
                  have hal := (Below.refl W7.heap.size W7).alloc (Nat.le_refl _) (.cells #[.int .i64 Q.a0, .int .i64 Q.a1, .int .i64 Q.a2, .slice ao7 Q.l.length cap7] 24 (0, 0))
                  have HRB := Lib.hid (repBytes_any Q.a0 Q.a1 Q.a2 _ Q.l _ (hf7.below hal) (by have := HSM.out; omega) HIN.out.1 HIN.out.2.1 HIN.out.2.2)
                  rw [HFO.out] at HRB
                  have HB8 := Lib.hid ((HBW.out.trans (hb7.mono HBW.out.size)).trans (hal.mono (Nat.le_trans HBW.out.size hb7.size)))
                  have hqe := HRE.out
                  have HQE := Lib.hid hqe
                  rw [hqe]
                  clear hf7 hb7 hal HV hqe
                  go_wp2_with fail
                  refine HRB.out.mono ?_
                  rintro e W8 ⟨rfl, hb8⟩
                  have HB9 := Lib.hid (HB8.out.trans (hb8.mono HB8.out.size))
                  rw [HT.out]
                  have hbe : (((ask2).extract 0 c).toList == ((ask2).extract 0 c).toList) = true := by simp
                  clear hb8 HRB
                  go_wp2_with fail
                  refine (repAwake_any _).mono ?_
                  rintro e W9 ⟨rfl, hb9⟩
                  have HB10 := Lib.hid (HB9.out.trans (hb9.mono HB9.out.size))
                  clear hb9
                  go_wp2_with fail
                  go_ret
                  exact ⟨rfl, HB10.out⟩
                · have hv := hVF false (fun h16 => hlaw2 hin h16)
                  rw [isIn_no hin]
                  clear hlaw1 hlaw2 hVF hin hie hlp hkp
                  by_cases h16 : (ask2).size < 16
                  · have y1 : ((ask2).size : Int) < 16 := by omega
                    rw [verifyOf, if_pos h16] at hv
                    have HV := Lib.hid hv
                    clear hv h16
                    go_wp2_with fail
                    refine HV.out.mono ?_
                    rintro e W7 ⟨v7, rfl, hf7, hb7⟩
                    obtain ⟨ao7, cap7, rfl, _⟩ := hf7.form
                    simp only [List.length_nil] at hf7 ⊢
                    have hal := (Below.refl W7.heap.size W7).alloc (Nat.le_refl _) (.cells #[.int .i64 0, .int .i64 0, .int .i64 0, .slice ao7 0 cap7] 24 (0, 0))
                    have HSA := Lib.hid (same_any 0 0 0 _ _ [] _ (hf7.below hal) (FndRow.nil _) (by simp))
                    have HB8 := Lib.hid ((HBW.out.trans (hb7.mono HBW.out.size)).trans (hal.mono (Nat.le_trans HBW.out.size hb7.size)))
                    clear hf7 hb7 hal HV
                    go_wp2_with fail
                    refine HSA.out.mono ?_
                    rintro e W8 ⟨rfl, hb8⟩
                    have HB9 := Lib.hid (HB8.out.trans (hb8.mono HB8.out.size))
                    clear hb8 HSA
                    go_wp2_with fail
                    refine (repAwake_any _).mono ?_
                    rintro e W9 ⟨rfl, hb9⟩
                    have HB10 := Lib.hid (HB9.out.trans (hb9.mono HB9.out.size))
                    clear hb9
                    go_wp2_with fail
                    go_ret
                    exact ⟨rfl, HB10.out⟩
                  · have y1 : ¬ ((ask2).size : Int) < 16 := by omega
                    rw [verifyOf, if_neg h16, if_neg (by simp)] at hv
                    have HV := Lib.hid hv
                    clear hv h16
                    go_wp2_with fail
                    refine HV.out.mono ?_
                    rintro e W7 ⟨v7, rfl, hf7, hb7⟩
                    obtain ⟨ao7, cap7, rfl, _⟩ := hf7.form
                    simp only [List.length_nil] at hf7 ⊢
                    have hal := (Below.refl W7.heap.size W7).alloc (Nat.le_refl _) (.cells #[.int .i64 0, .int .i64 0, .int .i64 0, .slice ao7 0 cap7] 24 (0, 0))
                    have HSA := Lib.hid (same_any 0 0 0 _ _ [] _ (hf7.below hal) (FndRow.nil _) (by simp))
                    have HB8 := Lib.hid ((HBW.out.trans (hb7.mono HBW.out.size)).trans (hal.mono (Nat.le_trans HBW.out.size hb7.size)))
                    clear hf7 hb7 hal HV
                    go_wp2_with fail
                    refine HSA.out.mono ?_
                    rintro e W8 ⟨rfl, hb8⟩
                    have HB9 := Lib.hid (HB8.out.trans (hb8.mono HB8.out.size))
                    clear hb8 HSA
                    go_wp2_with fail
                    refine (repAwake_any _).mono ?_
                    rintro e W9 ⟨rfl, hb9⟩
                    have HB10 := Lib.hid (HB9.out.trans (hb9.mono HB9.out.size))
                    clear hb9
                    go_wp2_with fail
                    go_ret
                    exact ⟨rfl, HB10.out⟩
        · have hs2 := hs1
          rcases hqe with ⟨e1, e2⟩ | ⟨e1, e2⟩
          · have y1 : ¬ (q : Int) < (N : Int) := by omega
            clear e1
            by_cases hneg : which < 0
            · clear hwh
              go_wp2_with fail
              clear e2
              obtain ⟨W6, rfl⟩ : ∃ W6, W6 = wr := ⟨_, rfl⟩
              go_loopg [12, 13] n (fun j b i wr => ∃ p : Nat, j + p = n ∧ i = .int .i64 (p : Int) ∧ b = .bool (isQ ask1 all p) ∧ wr = W6)
              case atStart => exact ⟨0, by omega, rfl, congrArg Value.bool (by simp [isQ, isIn]), rfl⟩
              case round =>
                obtain ⟨p, hkp, rfl, hbv, rfl⟩ := hrel
                subst hbv
                by_cases hlp : p < n
                · obtain ⟨j2, rfl⟩ : ∃ j, gk = j + 1 := ⟨gk - 1, by omega⟩
                  obtain ⟨gl2, capl2, he2, hcl2, hgl2⟩ := HI.out.out.row.form_pos (by omega)
                  simp at he2
                  obtain ⟨rfl, rfl⟩ := he2
                  have hpl : p < all.length := by rw [← HI.out.len]; exact hlp
                  have y0 := HI.out.out.row.cells p (.string all[p]) (by simp [strs, hpl])
                  have hsu := isQ_succ (ask := ask1) hpl
                  generalize all[p] = t at y0 hsu
                  have HSU := Lib.hid hsu
                  have hbe := str_beq2 t ask1
                  obtain ⟨c, hcc⟩ : ∃ c, c = decide (t = ask1) := ⟨_, rfl⟩
                  rw [← hcc] at hbe
                  have HCC := Lib.hid hcc
                  obtain ⟨ib, hib⟩ : ∃ c, c = isQ ask1 all p := ⟨_, rfl⟩
                  rw [← hib]
                  have HIB := Lib.hid hib
                  have v2 : (0 : Int) ≤ (p : Int) := by omega
                  have v3 : (p : Int) < (n : Int) := by omega
                  have hp8 : p ≤ 8 := by omega
                  have hkj : j2 + (p + 1) = n := by omega
                  have HKJ2 := Lib.hid hkj
                  clear hkj hlp hkp hsu hcc hib hcl2
                  clear hpl
                  cases ib with
                  | true =>
                    go_wp2_with fail
                    go_roundg j2
                    case measure => omega
                    case rel => exact ⟨p + 1, HKJ2.out, by go_num, congrArg Value.bool (by rw [HSU.out, ← HIB.out]; rfl), rfl⟩
                  | false =>
                    go_wp2_with fail
                    go_roundg j2
                    case measure => omega
                    case rel => exact ⟨p + 1, HKJ2.out, by go_num, congrArg Value.bool (by rw [HSU.out, ← HIB.out, ← HCC.out]; rfl), rfl⟩
                · obtain rfl : gk = 0 := by omega
                  obtain rfl : p = n := by omega
                  have hie := isQ_end ask1 HI.out.len
                  rw [hie]
                  obtain ⟨hlaw1, hlaw2⟩ := HI.out.law.law ask1
                  have hVF := fun b (hb : 16 ≤ (ask1).size → madeB ks (lab, (ask1).extract 0 ((ask1).size - 16)) ((ask1).extract ((ask1).size - 16) (ask1).size) = b) => Verify_any (some ⟨g, 0, none⟩) ask1 (by omega) b (fun _ => by omega) wr (fun h16 W hbW => by
                    have hh := Made_ideal B g gm ks lab ((ask1).extract 0 ((ask1).size - 16)) ((ask1).extract ((ask1).size - 16) (ask1).size) (small_mk (by decide) (by rw [ByteArray.size_extract]; omega)) W (HI.out.vlm.below hbW) (by omega)
                    rw [hb h16] at hh
                    exact hh)
                  have HBW := Lib.hid HI.out.out.below
                  by_cases hin : ask1 ∈ all
                  · obtain ⟨h16, hb, hre⟩ := hlaw1 hin
                    have hv := hVF true (fun _ => hb)
                    rw [(isIn_eq all ask1).2 hin]
                    obtain ⟨c, hc⟩ : ∃ c, c = (ask1).size - 16 := ⟨_, rfl⟩
                    rw [verifyOf, if_neg (by omega), if_pos rfl] at hv
                    rw [← hc] at hv hre
                    have hforth := repOf_forth ((ask1).extract 0 c) hre
                    have hsm := repOf_small2 ((ask1).extract 0 c) (by rw [ByteArray.size_extract]; omega)
                    have hin2 := repOf_in64 ((ask1).extract 0 c)
                    have hcs : ((ask1).size : Int) - 16 = (c : Int) := by omega
                    have hc800 : c ≤ 800 := by omega
                    have y1 : (16 : Int) ≤ ((ask1).size : Int) := by omega
                    have y2 : (0 : Int) ≤ (c : Int) := by omega
                    have y3 : (c : Int) ≤ ((ask1).size : Int) := by omega
                    have y4 : ¬ ((ask1).size : Int) < 16 := by omega
                    obtain ⟨T, hT⟩ : ∃ T, T = (ask1).extract 0 c := ⟨_, rfl⟩
                    rw [← hT] at hv hre hforth hsm hin2
                    obtain ⟨Q, hQ⟩ : ∃ Q, Q = repOf T := ⟨_, rfl⟩
                    rw [← hQ] at hv hre hforth hsm hin2
                    have HV := Lib.hid hv
                    have HRE := Lib.hid hre
                    have HFO := Lib.hid hforth
                    have HSM := Lib.hid hsm
                    have HIN := Lib.hid hin2
                    have HT := Lib.hid hT
                    clear hlaw1 hlaw2 hVF hin h16 hb hre hv hc hforth hsm hin2 hQ hie hlp hkp hT
                    go_wp2_with fail
                    refine HV.out.mono ?_
                    rintro e W7 ⟨v7, rfl, hf7, hb7⟩
                    obtain ⟨ao7, cap7, rfl, _⟩ := hf7.form
                    have hal := (Below.refl W7.heap.size W7).alloc (Nat.le_refl _) (.cells #[.int .i64 Q.a0, .int .i64 Q.a1, .int .i64 Q.a2, .slice ao7 Q.l.length cap7] 24 (0, 0))
                    have HRB := Lib.hid (repBytes_any Q.a0 Q.a1 Q.a2 _ Q.l _ (hf7.below hal) (by have := HSM.out; omega) HIN.out.1 HIN.out.2.1 HIN.out.2.2)
                    rw [HFO.out] at HRB
                    have HB8 := Lib.hid ((HBW.out.trans (hb7.mono HBW.out.size)).trans (hal.mono (Nat.le_trans HBW.out.size hb7.size)))
                    have hqe := HRE.out
                    have HQE := Lib.hid hqe
                    rw [hqe]
                    clear hf7 hb7 hal HV hqe
                    go_wp2_with fail
                    refine HRB.out.mono ?_
                    rintro e W8 ⟨rfl, hb8⟩
                    have HB9 := Lib.hid (HB8.out.trans (hb8.mono HB8.out.size))
                    rw [HT.out]
                    have hbe : (((ask1).extract 0 c).toList == ((ask1).extract 0 c).toList) = true := by simp
                    clear hb8 HRB
                    go_wp2_with fail
                    refine (repAwake_any _).mono ?_
                    rintro e W9 ⟨rfl, hb9⟩
                    have HB10 := Lib.hid (HB9.out.trans (hb9.mono HB9.out.size))
                    clear hb9
                    go_wp2_with fail
                    go_ret
                    exact ⟨rfl, HB10.out⟩
                  · have hv := hVF false (fun h16 => hlaw2 hin h16)
                    rw [isIn_no hin]
                    clear hlaw1 hlaw2 hVF hin hie hlp hkp
                    by_cases h16 : (ask1).size < 16
                    · have y1 : ((ask1).size : Int) < 16 := by omega
                      rw [verifyOf, if_pos h16] at hv
                      have HV := Lib.hid hv
                      clear hv h16
                      go_wp2_with fail
                      refine HV.out.mono ?_
                      rintro e W7 ⟨v7, rfl, hf7, hb7⟩
                      obtain ⟨ao7, cap7, rfl, _⟩ := hf7.form
                      simp only [List.length_nil] at hf7 ⊢
                      have hal := (Below.refl W7.heap.size W7).alloc (Nat.le_refl _) (.cells #[.int .i64 0, .int .i64 0, .int .i64 0, .slice ao7 0 cap7] 24 (0, 0))
                      have HSA := Lib.hid (same_any 0 0 0 _ _ [] _ (hf7.below hal) (FndRow.nil _) (by simp))
                      have HB8 := Lib.hid ((HBW.out.trans (hb7.mono HBW.out.size)).trans (hal.mono (Nat.le_trans HBW.out.size hb7.size)))
                      clear hf7 hb7 hal HV
                      go_wp2_with fail
                      refine HSA.out.mono ?_
                      rintro e W8 ⟨rfl, hb8⟩
                      have HB9 := Lib.hid (HB8.out.trans (hb8.mono HB8.out.size))
                      clear hb8 HSA
                      go_wp2_with fail
                      refine (repAwake_any _).mono ?_
                      rintro e W9 ⟨rfl, hb9⟩
                      have HB10 := Lib.hid (HB9.out.trans (hb9.mono HB9.out.size))
                      clear hb9
                      go_wp2_with fail
                      go_ret
                      exact ⟨rfl, HB10.out⟩
                    · have y1 : ¬ ((ask1).size : Int) < 16 := by omega
                      rw [verifyOf, if_neg h16, if_neg (by simp)] at hv
                      have HV := Lib.hid hv
                      clear hv h16
                      go_wp2_with fail
                      refine HV.out.mono ?_
                      rintro e W7 ⟨v7, rfl, hf7, hb7⟩
                      obtain ⟨ao7, cap7, rfl, _⟩ := hf7.form
                      simp only [List.length_nil] at hf7 ⊢
                      have hal := (Below.refl W7.heap.size W7).alloc (Nat.le_refl _) (.cells #[.int .i64 0, .int .i64 0, .int .i64 0, .slice ao7 0 cap7] 24 (0, 0))
                      have HSA := Lib.hid (same_any 0 0 0 _ _ [] _ (hf7.below hal) (FndRow.nil _) (by simp))
                      have HB8 := Lib.hid ((HBW.out.trans (hb7.mono HBW.out.size)).trans (hal.mono (Nat.le_trans HBW.out.size hb7.size)))
                      clear hf7 hb7 hal HV
                      go_wp2_with fail
                      refine HSA.out.mono ?_
                      rintro e W8 ⟨rfl, hb8⟩
                      have HB9 := Lib.hid (HB8.out.trans (hb8.mono HB8.out.size))
                      clear hb8 HSA
                      go_wp2_with fail
                      refine (repAwake_any _).mono ?_
                      rintro e W9 ⟨rfl, hb9⟩
                      have HB10 := Lib.hid (HB9.out.trans (hb9.mono HB9.out.size))
                      clear hb9
                      go_wp2_with fail
                      go_ret
                      exact ⟨rfl, HB10.out⟩
            · have z2 : (n : Int) ≤ which := by omega
              clear hwh
              go_wp2_with fail
              clear e2
              obtain ⟨W6, rfl⟩ : ∃ W6, W6 = wr := ⟨_, rfl⟩
              go_loopg [12, 13] n (fun j b i wr => ∃ p : Nat, j + p = n ∧ i = .int .i64 (p : Int) ∧ b = .bool (isQ ask1 all p) ∧ wr = W6)
              case atStart => exact ⟨0, by omega, rfl, congrArg Value.bool (by simp [isQ, isIn]), rfl⟩
              case round =>
                obtain ⟨p, hkp, rfl, hbv, rfl⟩ := hrel
                subst hbv
                by_cases hlp : p < n
                · obtain ⟨j2, rfl⟩ : ∃ j, gk = j + 1 := ⟨gk - 1, by omega⟩
                  obtain ⟨gl2, capl2, he2, hcl2, hgl2⟩ := HI.out.out.row.form_pos (by omega)
                  simp at he2
                  obtain ⟨rfl, rfl⟩ := he2
                  have hpl : p < all.length := by rw [← HI.out.len]; exact hlp
                  have y0 := HI.out.out.row.cells p (.string all[p]) (by simp [strs, hpl])
                  have hsu := isQ_succ (ask := ask1) hpl
                  generalize all[p] = t at y0 hsu
                  have HSU := Lib.hid hsu
                  have hbe := str_beq2 t ask1
                  obtain ⟨c, hcc⟩ : ∃ c, c = decide (t = ask1) := ⟨_, rfl⟩
                  rw [← hcc] at hbe
                  have HCC := Lib.hid hcc
                  obtain ⟨ib, hib⟩ : ∃ c, c = isQ ask1 all p := ⟨_, rfl⟩
                  rw [← hib]
                  have HIB := Lib.hid hib
                  have v2 : (0 : Int) ≤ (p : Int) := by omega
                  have v3 : (p : Int) < (n : Int) := by omega
                  have hp8 : p ≤ 8 := by omega
                  have hkj : j2 + (p + 1) = n := by omega
                  have HKJ2 := Lib.hid hkj
                  clear hkj hlp hkp hsu hcc hib hcl2
                  clear hpl
                  cases ib with
                  | true =>
                    go_wp2_with fail
                    go_roundg j2
                    case measure => omega
                    case rel => exact ⟨p + 1, HKJ2.out, by go_num, congrArg Value.bool (by rw [HSU.out, ← HIB.out]; rfl), rfl⟩
                  | false =>
                    go_wp2_with fail
                    go_roundg j2
                    case measure => omega
                    case rel => exact ⟨p + 1, HKJ2.out, by go_num, congrArg Value.bool (by rw [HSU.out, ← HIB.out, ← HCC.out]; rfl), rfl⟩
                · obtain rfl : gk = 0 := by omega
                  obtain rfl : p = n := by omega
                  have hie := isQ_end ask1 HI.out.len
                  rw [hie]
                  obtain ⟨hlaw1, hlaw2⟩ := HI.out.law.law ask1
                  have hVF := fun b (hb : 16 ≤ (ask1).size → madeB ks (lab, (ask1).extract 0 ((ask1).size - 16)) ((ask1).extract ((ask1).size - 16) (ask1).size) = b) => Verify_any (some ⟨g, 0, none⟩) ask1 (by omega) b (fun _ => by omega) wr (fun h16 W hbW => by
                    have hh := Made_ideal B g gm ks lab ((ask1).extract 0 ((ask1).size - 16)) ((ask1).extract ((ask1).size - 16) (ask1).size) (small_mk (by decide) (by rw [ByteArray.size_extract]; omega)) W (HI.out.vlm.below hbW) (by omega)
                    rw [hb h16] at hh
                    exact hh)
                  have HBW := Lib.hid HI.out.out.below
                  by_cases hin : ask1 ∈ all
                  · obtain ⟨h16, hb, hre⟩ := hlaw1 hin
                    have hv := hVF true (fun _ => hb)
                    rw [(isIn_eq all ask1).2 hin]
                    obtain ⟨c, hc⟩ : ∃ c, c = (ask1).size - 16 := ⟨_, rfl⟩
                    rw [verifyOf, if_neg (by omega), if_pos rfl] at hv
                    rw [← hc] at hv hre
                    have hforth := repOf_forth ((ask1).extract 0 c) hre
                    have hsm := repOf_small2 ((ask1).extract 0 c) (by rw [ByteArray.size_extract]; omega)
                    have hin2 := repOf_in64 ((ask1).extract 0 c)
                    have hcs : ((ask1).size : Int) - 16 = (c : Int) := by omega
                    have hc800 : c ≤ 800 := by omega
                    have y1 : (16 : Int) ≤ ((ask1).size : Int) := by omega
                    have y2 : (0 : Int) ≤ (c : Int) := by omega
                    have y3 : (c : Int) ≤ ((ask1).size : Int) := by omega
                    have y4 : ¬ ((ask1).size : Int) < 16 := by omega
                    obtain ⟨T, hT⟩ : ∃ T, T = (ask1).extract 0 c := ⟨_, rfl⟩
                    rw [← hT] at hv hre hforth hsm hin2
                    obtain ⟨Q, hQ⟩ : ∃ Q, Q = repOf T := ⟨_, rfl⟩
                    rw [← hQ] at hv hre hforth hsm hin2
                    have HV := Lib.hid hv
                    have HRE := Lib.hid hre
                    have HFO := Lib.hid hforth
                    have HSM := Lib.hid hsm
                    have HIN := Lib.hid hin2
                    have HT := Lib.hid hT
                    clear hlaw1 hlaw2 hVF hin h16 hb hre hv hc hforth hsm hin2 hQ hie hlp hkp hT
                    go_wp2_with fail
                    refine HV.out.mono ?_
                    rintro e W7 ⟨v7, rfl, hf7, hb7⟩
                    obtain ⟨ao7, cap7, rfl, _⟩ := hf7.form
                    have hal := (Below.refl W7.heap.size W7).alloc (Nat.le_refl _) (.cells #[.int .i64 Q.a0, .int .i64 Q.a1, .int .i64 Q.a2, .slice ao7 Q.l.length cap7] 24 (0, 0))
                    have HRB := Lib.hid (repBytes_any Q.a0 Q.a1 Q.a2 _ Q.l _ (hf7.below hal) (by have := HSM.out; omega) HIN.out.1 HIN.out.2.1 HIN.out.2.2)
                    rw [HFO.out] at HRB
                    have HB8 := Lib.hid ((HBW.out.trans (hb7.mono HBW.out.size)).trans (hal.mono (Nat.le_trans HBW.out.size hb7.size)))
                    have hqe := HRE.out
                    have HQE := Lib.hid hqe
                    rw [hqe]
                    clear hf7 hb7 hal HV hqe
                    go_wp2_with fail
                    refine HRB.out.mono ?_
                    rintro e W8 ⟨rfl, hb8⟩
                    have HB9 := Lib.hid (HB8.out.trans (hb8.mono HB8.out.size))
                    rw [HT.out]
                    have hbe : (((ask1).extract 0 c).toList == ((ask1).extract 0 c).toList) = true := by simp
                    clear hb8 HRB
                    go_wp2_with fail
                    refine (repAwake_any _).mono ?_
                    rintro e W9 ⟨rfl, hb9⟩
                    have HB10 := Lib.hid (HB9.out.trans (hb9.mono HB9.out.size))
                    clear hb9
                    go_wp2_with fail
                    go_ret
                    exact ⟨rfl, HB10.out⟩
                  · have hv := hVF false (fun h16 => hlaw2 hin h16)
                    rw [isIn_no hin]
                    clear hlaw1 hlaw2 hVF hin hie hlp hkp
                    by_cases h16 : (ask1).size < 16
                    · have y1 : ((ask1).size : Int) < 16 := by omega
                      rw [verifyOf, if_pos h16] at hv
                      have HV := Lib.hid hv
                      clear hv h16
                      go_wp2_with fail
                      refine HV.out.mono ?_
                      rintro e W7 ⟨v7, rfl, hf7, hb7⟩
                      obtain ⟨ao7, cap7, rfl, _⟩ := hf7.form
                      simp only [List.length_nil] at hf7 ⊢
                      have hal := (Below.refl W7.heap.size W7).alloc (Nat.le_refl _) (.cells #[.int .i64 0, .int .i64 0, .int .i64 0, .slice ao7 0 cap7] 24 (0, 0))
                      have HSA := Lib.hid (same_any 0 0 0 _ _ [] _ (hf7.below hal) (FndRow.nil _) (by simp))
                      have HB8 := Lib.hid ((HBW.out.trans (hb7.mono HBW.out.size)).trans (hal.mono (Nat.le_trans HBW.out.size hb7.size)))
                      clear hf7 hb7 hal HV
                      go_wp2_with fail
                      refine HSA.out.mono ?_
                      rintro e W8 ⟨rfl, hb8⟩
                      have HB9 := Lib.hid (HB8.out.trans (hb8.mono HB8.out.size))
                      clear hb8 HSA
                      go_wp2_with fail
                      refine (repAwake_any _).mono ?_
                      rintro e W9 ⟨rfl, hb9⟩
                      have HB10 := Lib.hid (HB9.out.trans (hb9.mono HB9.out.size))
                      clear hb9
                      go_wp2_with fail
                      go_ret
                      exact ⟨rfl, HB10.out⟩
                    · have y1 : ¬ ((ask1).size : Int) < 16 := by omega
                      rw [verifyOf, if_neg h16, if_neg (by simp)] at hv
                      have HV := Lib.hid hv
                      clear hv h16
                      go_wp2_with fail
                      refine HV.out.mono ?_
                      rintro e W7 ⟨v7, rfl, hf7, hb7⟩
                      obtain ⟨ao7, cap7, rfl, _⟩ := hf7.form
                      simp only [List.length_nil] at hf7 ⊢
                      have hal := (Below.refl W7.heap.size W7).alloc (Nat.le_refl _) (.cells #[.int .i64 0, .int .i64 0, .int .i64 0, .slice ao7 0 cap7] 24 (0, 0))
                      have HSA := Lib.hid (same_any 0 0 0 _ _ [] _ (hf7.below hal) (FndRow.nil _) (by simp))
                      have HB8 := Lib.hid ((HBW.out.trans (hb7.mono HBW.out.size)).trans (hal.mono (Nat.le_trans HBW.out.size hb7.size)))
                      clear hf7 hb7 hal HV
                      go_wp2_with fail
                      refine HSA.out.mono ?_
                      rintro e W8 ⟨rfl, hb8⟩
                      have HB9 := Lib.hid (HB8.out.trans (hb8.mono HB8.out.size))
                      clear hb8 HSA
                      go_wp2_with fail
                      refine (repAwake_any _).mono ?_
                      rintro e W9 ⟨rfl, hb9⟩
                      have HB10 := Lib.hid (HB9.out.trans (hb9.mono HB9.out.size))
                      clear hb9
                      go_wp2_with fail
                      go_ret
                      exact ⟨rfl, HB10.out⟩
          · subst e1
            have y2 : (8 : Int) < (N : Int) := by omega
            by_cases hneg : which < 0
            · clear hwh
              go_wp2_with fail
              clear e2
              obtain ⟨W6, rfl⟩ : ∃ W6, W6 = wr := ⟨_, rfl⟩
              go_loopg [12, 13] n (fun j b i wr => ∃ p : Nat, j + p = n ∧ i = .int .i64 (p : Int) ∧ b = .bool (isQ ask1 all p) ∧ wr = W6)
              case atStart => exact ⟨0, by omega, rfl, congrArg Value.bool (by simp [isQ, isIn]), rfl⟩
              case round =>
                obtain ⟨p, hkp, rfl, hbv, rfl⟩ := hrel
                subst hbv
                by_cases hlp : p < n
                · obtain ⟨j2, rfl⟩ : ∃ j, gk = j + 1 := ⟨gk - 1, by omega⟩
                  obtain ⟨gl2, capl2, he2, hcl2, hgl2⟩ := HI.out.out.row.form_pos (by omega)
                  simp at he2
                  obtain ⟨rfl, rfl⟩ := he2
                  have hpl : p < all.length := by rw [← HI.out.len]; exact hlp
                  have y0 := HI.out.out.row.cells p (.string all[p]) (by simp [strs, hpl])
                  have hsu := isQ_succ (ask := ask1) hpl
                  generalize all[p] = t at y0 hsu
                  have HSU := Lib.hid hsu
                  have hbe := str_beq2 t ask1
                  obtain ⟨c, hcc⟩ : ∃ c, c = decide (t = ask1) := ⟨_, rfl⟩
                  rw [← hcc] at hbe
                  have HCC := Lib.hid hcc
                  obtain ⟨ib, hib⟩ : ∃ c, c = isQ ask1 all p := ⟨_, rfl⟩
                  rw [← hib]
                  have HIB := Lib.hid hib
                  have v2 : (0 : Int) ≤ (p : Int) := by omega
                  have v3 : (p : Int) < (n : Int) := by omega
                  have hp8 : p ≤ 8 := by omega
                  have hkj : j2 + (p + 1) = n := by omega
                  have HKJ2 := Lib.hid hkj
                  clear hkj hlp hkp hsu hcc hib hcl2
                  clear hpl
                  cases ib with
                  | true =>
                    go_wp2_with fail
                    go_roundg j2
                    case measure => omega
                    case rel => exact ⟨p + 1, HKJ2.out, by go_num, congrArg Value.bool (by rw [HSU.out, ← HIB.out]; rfl), rfl⟩
                  | false =>
                    go_wp2_with fail
                    go_roundg j2
                    case measure => omega
                    case rel => exact ⟨p + 1, HKJ2.out, by go_num, congrArg Value.bool (by rw [HSU.out, ← HIB.out, ← HCC.out]; rfl), rfl⟩
                · obtain rfl : gk = 0 := by omega
                  obtain rfl : p = n := by omega
                  have hie := isQ_end ask1 HI.out.len
                  rw [hie]
                  obtain ⟨hlaw1, hlaw2⟩ := HI.out.law.law ask1
                  have hVF := fun b (hb : 16 ≤ (ask1).size → madeB ks (lab, (ask1).extract 0 ((ask1).size - 16)) ((ask1).extract ((ask1).size - 16) (ask1).size) = b) => Verify_any (some ⟨g, 0, none⟩) ask1 (by omega) b (fun _ => by omega) wr (fun h16 W hbW => by
                    have hh := Made_ideal B g gm ks lab ((ask1).extract 0 ((ask1).size - 16)) ((ask1).extract ((ask1).size - 16) (ask1).size) (small_mk (by decide) (by rw [ByteArray.size_extract]; omega)) W (HI.out.vlm.below hbW) (by omega)
                    rw [hb h16] at hh
                    exact hh)
                  have HBW := Lib.hid HI.out.out.below
                  by_cases hin : ask1 ∈ all
                  · obtain ⟨h16, hb, hre⟩ := hlaw1 hin
                    have hv := hVF true (fun _ => hb)
                    rw [(isIn_eq all ask1).2 hin]
                    obtain ⟨c, hc⟩ : ∃ c, c = (ask1).size - 16 := ⟨_, rfl⟩
                    rw [verifyOf, if_neg (by omega), if_pos rfl] at hv
                    rw [← hc] at hv hre
                    have hforth := repOf_forth ((ask1).extract 0 c) hre
                    have hsm := repOf_small2 ((ask1).extract 0 c) (by rw [ByteArray.size_extract]; omega)
                    have hin2 := repOf_in64 ((ask1).extract 0 c)
                    have hcs : ((ask1).size : Int) - 16 = (c : Int) := by omega
                    have hc800 : c ≤ 800 := by omega
                    have y1 : (16 : Int) ≤ ((ask1).size : Int) := by omega
                    have y2 : (0 : Int) ≤ (c : Int) := by omega
                    have y3 : (c : Int) ≤ ((ask1).size : Int) := by omega
                    have y4 : ¬ ((ask1).size : Int) < 16 := by omega
                    obtain ⟨T, hT⟩ : ∃ T, T = (ask1).extract 0 c := ⟨_, rfl⟩
                    rw [← hT] at hv hre hforth hsm hin2
                    obtain ⟨Q, hQ⟩ : ∃ Q, Q = repOf T := ⟨_, rfl⟩
                    rw [← hQ] at hv hre hforth hsm hin2
                    have HV := Lib.hid hv
                    have HRE := Lib.hid hre
                    have HFO := Lib.hid hforth
                    have HSM := Lib.hid hsm
                    have HIN := Lib.hid hin2
                    have HT := Lib.hid hT
                    clear hlaw1 hlaw2 hVF hin h16 hb hre hv hc hforth hsm hin2 hQ hie hlp hkp hT
                    go_wp2_with fail
                    refine HV.out.mono ?_
                    rintro e W7 ⟨v7, rfl, hf7, hb7⟩
                    obtain ⟨ao7, cap7, rfl, _⟩ := hf7.form
                    have hal := (Below.refl W7.heap.size W7).alloc (Nat.le_refl _) (.cells #[.int .i64 Q.a0, .int .i64 Q.a1, .int .i64 Q.a2, .slice ao7 Q.l.length cap7] 24 (0, 0))
                    have HRB := Lib.hid (repBytes_any Q.a0 Q.a1 Q.a2 _ Q.l _ (hf7.below hal) (by have := HSM.out; omega) HIN.out.1 HIN.out.2.1 HIN.out.2.2)
                    rw [HFO.out] at HRB
                    have HB8 := Lib.hid ((HBW.out.trans (hb7.mono HBW.out.size)).trans (hal.mono (Nat.le_trans HBW.out.size hb7.size)))
                    have hqe := HRE.out
                    have HQE := Lib.hid hqe
                    rw [hqe]
                    clear hf7 hb7 hal HV hqe
                    go_wp2_with fail
                    refine HRB.out.mono ?_
                    rintro e W8 ⟨rfl, hb8⟩
                    have HB9 := Lib.hid (HB8.out.trans (hb8.mono HB8.out.size))
                    rw [HT.out]
                    have hbe : (((ask1).extract 0 c).toList == ((ask1).extract 0 c).toList) = true := by simp
                    clear hb8 HRB
                    go_wp2_with fail
                    refine (repAwake_any _).mono ?_
                    rintro e W9 ⟨rfl, hb9⟩
                    have HB10 := Lib.hid (HB9.out.trans (hb9.mono HB9.out.size))
                    clear hb9
                    go_wp2_with fail
                    go_ret
                    exact ⟨rfl, HB10.out⟩
                  · have hv := hVF false (fun h16 => hlaw2 hin h16)
                    rw [isIn_no hin]
                    clear hlaw1 hlaw2 hVF hin hie hlp hkp
                    by_cases h16 : (ask1).size < 16
                    · have y1 : ((ask1).size : Int) < 16 := by omega
                      rw [verifyOf, if_pos h16] at hv
                      have HV := Lib.hid hv
                      clear hv h16
                      go_wp2_with fail
                      refine HV.out.mono ?_
                      rintro e W7 ⟨v7, rfl, hf7, hb7⟩
                      obtain ⟨ao7, cap7, rfl, _⟩ := hf7.form
                      simp only [List.length_nil] at hf7 ⊢
                      have hal := (Below.refl W7.heap.size W7).alloc (Nat.le_refl _) (.cells #[.int .i64 0, .int .i64 0, .int .i64 0, .slice ao7 0 cap7] 24 (0, 0))
                      have HSA := Lib.hid (same_any 0 0 0 _ _ [] _ (hf7.below hal) (FndRow.nil _) (by simp))
                      have HB8 := Lib.hid ((HBW.out.trans (hb7.mono HBW.out.size)).trans (hal.mono (Nat.le_trans HBW.out.size hb7.size)))
                      clear hf7 hb7 hal HV
                      go_wp2_with fail
                      refine HSA.out.mono ?_
                      rintro e W8 ⟨rfl, hb8⟩
                      have HB9 := Lib.hid (HB8.out.trans (hb8.mono HB8.out.size))
                      clear hb8 HSA
                      go_wp2_with fail
                      refine (repAwake_any _).mono ?_
                      rintro e W9 ⟨rfl, hb9⟩
                      have HB10 := Lib.hid (HB9.out.trans (hb9.mono HB9.out.size))
                      clear hb9
                      go_wp2_with fail
                      go_ret
                      exact ⟨rfl, HB10.out⟩
                    · have y1 : ¬ ((ask1).size : Int) < 16 := by omega
                      rw [verifyOf, if_neg h16, if_neg (by simp)] at hv
                      have HV := Lib.hid hv
                      clear hv h16
                      go_wp2_with fail
                      refine HV.out.mono ?_
                      rintro e W7 ⟨v7, rfl, hf7, hb7⟩
                      obtain ⟨ao7, cap7, rfl, _⟩ := hf7.form
                      simp only [List.length_nil] at hf7 ⊢
                      have hal := (Below.refl W7.heap.size W7).alloc (Nat.le_refl _) (.cells #[.int .i64 0, .int .i64 0, .int .i64 0, .slice ao7 0 cap7] 24 (0, 0))
                      have HSA := Lib.hid (same_any 0 0 0 _ _ [] _ (hf7.below hal) (FndRow.nil _) (by simp))
                      have HB8 := Lib.hid ((HBW.out.trans (hb7.mono HBW.out.size)).trans (hal.mono (Nat.le_trans HBW.out.size hb7.size)))
                      clear hf7 hb7 hal HV
                      go_wp2_with fail
                      refine HSA.out.mono ?_
                      rintro e W8 ⟨rfl, hb8⟩
                      have HB9 := Lib.hid (HB8.out.trans (hb8.mono HB8.out.size))
                      clear hb8 HSA
                      go_wp2_with fail
                      refine (repAwake_any _).mono ?_
                      rintro e W9 ⟨rfl, hb9⟩
                      have HB10 := Lib.hid (HB9.out.trans (hb9.mono HB9.out.size))
                      clear hb9
                      go_wp2_with fail
                      go_ret
                      exact ⟨rfl, HB10.out⟩
            · have z2 : (n : Int) ≤ which := by omega
              clear hwh
              go_wp2_with fail
              clear e2
              obtain ⟨W6, rfl⟩ : ∃ W6, W6 = wr := ⟨_, rfl⟩
              go_loopg [12, 13] n (fun j b i wr => ∃ p : Nat, j + p = n ∧ i = .int .i64 (p : Int) ∧ b = .bool (isQ ask1 all p) ∧ wr = W6)
              case atStart => exact ⟨0, by omega, rfl, congrArg Value.bool (by simp [isQ, isIn]), rfl⟩
              case round =>
                obtain ⟨p, hkp, rfl, hbv, rfl⟩ := hrel
                subst hbv
                by_cases hlp : p < n
                · obtain ⟨j2, rfl⟩ : ∃ j, gk = j + 1 := ⟨gk - 1, by omega⟩
                  obtain ⟨gl2, capl2, he2, hcl2, hgl2⟩ := HI.out.out.row.form_pos (by omega)
                  simp at he2
                  obtain ⟨rfl, rfl⟩ := he2
                  have hpl : p < all.length := by rw [← HI.out.len]; exact hlp
                  have y0 := HI.out.out.row.cells p (.string all[p]) (by simp [strs, hpl])
                  have hsu := isQ_succ (ask := ask1) hpl
                  generalize all[p] = t at y0 hsu
                  have HSU := Lib.hid hsu
                  have hbe := str_beq2 t ask1
                  obtain ⟨c, hcc⟩ : ∃ c, c = decide (t = ask1) := ⟨_, rfl⟩
                  rw [← hcc] at hbe
                  have HCC := Lib.hid hcc
                  obtain ⟨ib, hib⟩ : ∃ c, c = isQ ask1 all p := ⟨_, rfl⟩
                  rw [← hib]
                  have HIB := Lib.hid hib
                  have v2 : (0 : Int) ≤ (p : Int) := by omega
                  have v3 : (p : Int) < (n : Int) := by omega
                  have hp8 : p ≤ 8 := by omega
                  have hkj : j2 + (p + 1) = n := by omega
                  have HKJ2 := Lib.hid hkj
                  clear hkj hlp hkp hsu hcc hib hcl2
                  clear hpl
                  cases ib with
                  | true =>
                    go_wp2_with fail
                    go_roundg j2
                    case measure => omega
                    case rel => exact ⟨p + 1, HKJ2.out, by go_num, congrArg Value.bool (by rw [HSU.out, ← HIB.out]; rfl), rfl⟩
                  | false =>
                    go_wp2_with fail
                    go_roundg j2
                    case measure => omega
                    case rel => exact ⟨p + 1, HKJ2.out, by go_num, congrArg Value.bool (by rw [HSU.out, ← HIB.out, ← HCC.out]; rfl), rfl⟩
                · obtain rfl : gk = 0 := by omega
                  obtain rfl : p = n := by omega
                  have hie := isQ_end ask1 HI.out.len
                  rw [hie]
                  obtain ⟨hlaw1, hlaw2⟩ := HI.out.law.law ask1
                  have hVF := fun b (hb : 16 ≤ (ask1).size → madeB ks (lab, (ask1).extract 0 ((ask1).size - 16)) ((ask1).extract ((ask1).size - 16) (ask1).size) = b) => Verify_any (some ⟨g, 0, none⟩) ask1 (by omega) b (fun _ => by omega) wr (fun h16 W hbW => by
                    have hh := Made_ideal B g gm ks lab ((ask1).extract 0 ((ask1).size - 16)) ((ask1).extract ((ask1).size - 16) (ask1).size) (small_mk (by decide) (by rw [ByteArray.size_extract]; omega)) W (HI.out.vlm.below hbW) (by omega)
                    rw [hb h16] at hh
                    exact hh)
                  have HBW := Lib.hid HI.out.out.below
                  by_cases hin : ask1 ∈ all
                  · obtain ⟨h16, hb, hre⟩ := hlaw1 hin
                    have hv := hVF true (fun _ => hb)
                    rw [(isIn_eq all ask1).2 hin]
                    obtain ⟨c, hc⟩ : ∃ c, c = (ask1).size - 16 := ⟨_, rfl⟩
                    rw [verifyOf, if_neg (by omega), if_pos rfl] at hv
                    rw [← hc] at hv hre
                    have hforth := repOf_forth ((ask1).extract 0 c) hre
                    have hsm := repOf_small2 ((ask1).extract 0 c) (by rw [ByteArray.size_extract]; omega)
                    have hin2 := repOf_in64 ((ask1).extract 0 c)
                    have hcs : ((ask1).size : Int) - 16 = (c : Int) := by omega
                    have hc800 : c ≤ 800 := by omega
                    have y1 : (16 : Int) ≤ ((ask1).size : Int) := by omega
                    have y2 : (0 : Int) ≤ (c : Int) := by omega
                    have y3 : (c : Int) ≤ ((ask1).size : Int) := by omega
                    have y4 : ¬ ((ask1).size : Int) < 16 := by omega
                    obtain ⟨T, hT⟩ : ∃ T, T = (ask1).extract 0 c := ⟨_, rfl⟩
                    rw [← hT] at hv hre hforth hsm hin2
                    obtain ⟨Q, hQ⟩ : ∃ Q, Q = repOf T := ⟨_, rfl⟩
                    rw [← hQ] at hv hre hforth hsm hin2
                    have HV := Lib.hid hv
                    have HRE := Lib.hid hre
                    have HFO := Lib.hid hforth
                    have HSM := Lib.hid hsm
                    have HIN := Lib.hid hin2
                    have HT := Lib.hid hT
                    clear hlaw1 hlaw2 hVF hin h16 hb hre hv hc hforth hsm hin2 hQ hie hlp hkp hT
                    go_wp2_with fail
                    refine HV.out.mono ?_
                    rintro e W7 ⟨v7, rfl, hf7, hb7⟩
                    obtain ⟨ao7, cap7, rfl, _⟩ := hf7.form
                    have hal := (Below.refl W7.heap.size W7).alloc (Nat.le_refl _) (.cells #[.int .i64 Q.a0, .int .i64 Q.a1, .int .i64 Q.a2, .slice ao7 Q.l.length cap7] 24 (0, 0))
                    have HRB := Lib.hid (repBytes_any Q.a0 Q.a1 Q.a2 _ Q.l _ (hf7.below hal) (by have := HSM.out; omega) HIN.out.1 HIN.out.2.1 HIN.out.2.2)
                    rw [HFO.out] at HRB
                    have HB8 := Lib.hid ((HBW.out.trans (hb7.mono HBW.out.size)).trans (hal.mono (Nat.le_trans HBW.out.size hb7.size)))
                    have hqe := HRE.out
                    have HQE := Lib.hid hqe
                    rw [hqe]
                    clear hf7 hb7 hal HV hqe
                    go_wp2_with fail
                    refine HRB.out.mono ?_
                    rintro e W8 ⟨rfl, hb8⟩
                    have HB9 := Lib.hid (HB8.out.trans (hb8.mono HB8.out.size))
                    rw [HT.out]
                    have hbe : (((ask1).extract 0 c).toList == ((ask1).extract 0 c).toList) = true := by simp
                    clear hb8 HRB
                    go_wp2_with fail
                    refine (repAwake_any _).mono ?_
                    rintro e W9 ⟨rfl, hb9⟩
                    have HB10 := Lib.hid (HB9.out.trans (hb9.mono HB9.out.size))
                    clear hb9
                    go_wp2_with fail
                    go_ret
                    exact ⟨rfl, HB10.out⟩
                  · have hv := hVF false (fun h16 => hlaw2 hin h16)
                    rw [isIn_no hin]
                    clear hlaw1 hlaw2 hVF hin hie hlp hkp
                    by_cases h16 : (ask1).size < 16
                    · have y1 : ((ask1).size : Int) < 16 := by omega
                      rw [verifyOf, if_pos h16] at hv
                      have HV := Lib.hid hv
                      clear hv h16
                      go_wp2_with fail
                      refine HV.out.mono ?_
                      rintro e W7 ⟨v7, rfl, hf7, hb7⟩
                      obtain ⟨ao7, cap7, rfl, _⟩ := hf7.form
                      simp only [List.length_nil] at hf7 ⊢
                      have hal := (Below.refl W7.heap.size W7).alloc (Nat.le_refl _) (.cells #[.int .i64 0, .int .i64 0, .int .i64 0, .slice ao7 0 cap7] 24 (0, 0))
                      have HSA := Lib.hid (same_any 0 0 0 _ _ [] _ (hf7.below hal) (FndRow.nil _) (by simp))
                      have HB8 := Lib.hid ((HBW.out.trans (hb7.mono HBW.out.size)).trans (hal.mono (Nat.le_trans HBW.out.size hb7.size)))
                      clear hf7 hb7 hal HV
                      go_wp2_with fail
                      refine HSA.out.mono ?_
                      rintro e W8 ⟨rfl, hb8⟩
                      have HB9 := Lib.hid (HB8.out.trans (hb8.mono HB8.out.size))
                      clear hb8 HSA
                      go_wp2_with fail
                      refine (repAwake_any _).mono ?_
                      rintro e W9 ⟨rfl, hb9⟩
                      have HB10 := Lib.hid (HB9.out.trans (hb9.mono HB9.out.size))
                      clear hb9
                      go_wp2_with fail
                      go_ret
                      exact ⟨rfl, HB10.out⟩
                    · have y1 : ¬ ((ask1).size : Int) < 16 := by omega
                      rw [verifyOf, if_neg h16, if_neg (by simp)] at hv
                      have HV := Lib.hid hv
                      clear hv h16
                      go_wp2_with fail
                      refine HV.out.mono ?_
                      rintro e W7 ⟨v7, rfl, hf7, hb7⟩
                      obtain ⟨ao7, cap7, rfl, _⟩ := hf7.form
                      simp only [List.length_nil] at hf7 ⊢
                      have hal := (Below.refl W7.heap.size W7).alloc (Nat.le_refl _) (.cells #[.int .i64 0, .int .i64 0, .int .i64 0, .slice ao7 0 cap7] 24 (0, 0))
                      have HSA := Lib.hid (same_any 0 0 0 _ _ [] _ (hf7.below hal) (FndRow.nil _) (by simp))
                      have HB8 := Lib.hid ((HBW.out.trans (hb7.mono HBW.out.size)).trans (hal.mono (Nat.le_trans HBW.out.size hb7.size)))
                      clear hf7 hb7 hal HV
                      go_wp2_with fail
                      refine HSA.out.mono ?_
                      rintro e W8 ⟨rfl, hb8⟩
                      have HB9 := Lib.hid (HB8.out.trans (hb8.mono HB8.out.size))
                      clear hb8 HSA
                      go_wp2_with fail
                      refine (repAwake_any _).mono ?_
                      rintro e W9 ⟨rfl, hb9⟩
                      have HB10 := Lib.hid (HB9.out.trans (hb9.mono HB9.out.size))
                      clear hb9
                      go_wp2_with fail
                      go_ret
                      exact ⟨rfl, HB10.out⟩
end Go.Proofs.Ythobfbiobnmceaa.B
