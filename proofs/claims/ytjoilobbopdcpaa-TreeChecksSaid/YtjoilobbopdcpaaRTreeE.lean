/-
  The document's Check, walked.
-/
import Derived.Test.YtjoilobbopdcpaaRTreeA
namespace Go.Proofs.Ytjoilobbopdcpaa.B
open Go.RowKit
set_option linter.unusedVariables false
set_option linter.unusedSimpArgs false

/-- What the document's Check tells from a step on, by real hashes. -/
def chkF (top : ByteArray) (all : Int) : List Stp → Nat → Nat → ByteArray → Bool
  | [], n, _, h => decide (n = 1) && decide (shaF (rootT all h) = top)
  | x :: p, n, i, h => if n < 2 ∨ fitsB x i n = false then false else chkF top all p ((n + 3) / 4) (i / 4) (shaF (nodeT (x.sides.take (i % 4) ++ [h] ++ x.sides.drop (i % 4))))
theorem chkF_is {top : ByteArray} (ht : top.size ≠ 0) {all : Int} {ks : List ByteArray} : ∀ {p : List Stp} {n i : Nat} {h : ByteArray}, ChkR (some shaF) ks top all p n i h (chkF top all p n i h)
  | [], n, i, h => by
    unfold ChkR chkF
    by_cases h1 : n = 1
    · rw [if_pos ⟨h1, ht⟩, decide_eq_true h1, Bool.true_and]
      exact ⟨_, rfl, rfl⟩
    · rw [if_neg (fun hh => h1 hh.1), decide_eq_false h1, Bool.false_and]
  | x :: p, n, i, h => by
    unfold ChkR chkF
    split
    · rfl
    · exact ⟨_, rfl, chkF_is ht⟩
theorem chk_empty {top : ByteArray} (ht : top.size = 0) {all : Int} {ks : List ByteArray} : ∀ {p : List Stp} {n i : Nat} {h : ByteArray}, ChkR (some shaF) ks top all p n i h false
  | [], n, i, h => by
    unfold ChkR
    rw [if_neg (fun hh => hh.2 ht)]
  | x :: p, n, i, h => by
    unfold ChkR
    split
    · rfl
    · exact ⟨_, rfl, chk_empty ht⟩
theorem checkF_is {ks : List ByteArray} (top : ByteArray) (n i : Nat) (s : ByteArray) (path : List Stp) (h1 : i < n) (h2 : n ≤ 32768) {b : Bool} (hb : b = (decide (top.size ≠ 0) && chkF top (n : Int) path n i (shaF (leafT s)))) : CheckR (some shaF) ks top (n : Int) (i : Int) s path b := by
  rw [CheckR, if_neg (by omega), Int.toNat_natCast, Int.toNat_natCast]
  refine ⟨_, rfl, ?_⟩
  by_cases ht : top.size = 0
  · rw [decide_eq_false (by omega), Bool.false_and] at hb
    rw [hb]
    exact chk_empty ht
  · rw [decide_eq_true ht, Bool.true_and] at hb
    rw [hb]
    exact chkF_is ht
/-- What stands in a round of the document's Check. -/
structure RChkI (w : World) (R : Bool) (top : ByteArray) (all : Int) (path : List Stp) (q n i : Nat) (h : ByteArray) (W : World) : Prop where
  bel : Below w.heap.size w W
  lt : i < n
  n32 : n ≤ 32768
  hs : h.size = 32
  ext : R = chkF top all (path.drop q) n i h
theorem rchk_step {g : Nat} {w wr w7 : World} {R : Bool} {top h : ByteArray} {all : Int} {path : List Stp} {q n i a L : Nat} (hI : RChkI w R top all path q n i h wr) (hV : RefV w g)
    (hlt : q < path.length) {x : Stp} (hx : x = path[q]) (hf : fitsB x i n = true) (hn2 : ¬ n < 2) (ha : a = i % 4) (hL : L = x.sides.length) {v7 : Value} {r7 : Nat} {xs7 : List Value}
    (hr7 : r7 = a + 1 + (L - a)) (hxs7 : xs7 = strs (x.sides.take a) ++ [.string h] ++ strs (x.sides.drop a)) (hrow : Row w7 9 1 v7 r7 xs7) (hb : Below wr.heap.size wr w7) :
    Calls Try.prog 37 #[.pointer (some ⟨g, 0, none⟩), v7] w7 fun e W8 => ∃ r, e = .returned (.string r) ∧ RChkI w R top all path (q + 1) ((n + 3) / 4) (i / 4) r W8 := by
  have hf2 := hf
  unfold fitsB at hf2
  simp only [Bool.and_eq_true, decide_eq_true_eq, List.all_eq_true] at hf2
  obtain ⟨hat, hL3, hall⟩ := hf2
  have hlt4 := hI.lt
  have htk : (x.sides.take a).length = a := by rw [List.length_take]; omega
  have hlen : (x.sides.take a ++ [h] ++ x.sides.drop a).length = a + 1 + (L - a) := by
    rw [List.length_append, List.length_append, htk, List.length_drop, hL]; rfl
  have hst := strs_row (l := x.sides.take a ++ [h] ++ x.sides.drop a) (hr7.trans hlen.symm) (hxs7.trans (by simp [strs])) hrow
  have h7 : Below w.heap.size w w7 := hI.bel.trans (hb.mono hI.bel.size)
  have hall7 : ∀ t ∈ x.sides.take a ++ [h] ++ x.sides.drop a, t.size ≤ 500 := by
    intro t ht
    have h32 := hI.hs
    rcases List.mem_append.1 ht with ht | ht
    · rcases List.mem_append.1 ht with ht | ht
      · have := hall t (List.mem_of_mem_take ht); omega
      · rw [List.mem_singleton.1 ht]; omega
    · have := hall t (List.mem_of_mem_drop ht); omega
  refine (rfour_any g v7 _ w7 (hV.below h7) hst (by omega) hall7).mono ?_
  rintro e W8 ⟨rfl, hb8⟩
  have hn32 := hI.n32
  refine ⟨_, rfl, ⟨h7.trans (hb8.mono h7.size), by omega, by omega, shaF_size _, ?_⟩⟩
  have he := hI.ext
  rw [List.drop_eq_getElem_cons hlt, ← hx, chkF, if_neg (fun hh => hh.elim hn2 (fun hh => by rw [hf] at hh; cases hh)), ← ha] at he
  exact he
def RCheckPost (w : World) (top : ByteArray) (n i : Int) (s : ByteArray) (path : List Stp) (e : Ending) (w' : World) : Prop :=
  ∃ b, e = .returned (.bool b) ∧ CheckR (some shaF) [] top n i s path b ∧ Below w.heap.size w w'
set_option maxRecDepth 100000 in
set_option maxHeartbeats 6400000 in
theorem refCheck_any (g : Nat) (top : ByteArray) (n i : Int) (hn : in64 n) (hi : in64 i) (s : ByteArray) (hs : s.size ≤ 10000) (v : Value) (path : List Stp) (hpl : path.length ≤ 1000) (w : World) (hv : RefV w g) (hp : StepsAt w v path) :
    Calls Try.prog 23 #[.pointer (some ⟨g, 0, none⟩), .string top, .int .i64 n, .int .i64 i, .string s, v] w (RCheckPost w top n i s path) := by
  obtain ⟨ao, cap, rfl, hcap, hmax⟩ := hp.form
  have hu := Try.underlying40
  obtain ⟨m, hm⟩ : ∃ m, m = path.length := ⟨_, rfl⟩
  rw [← hm] at hcap hp hpl
  rw [← hm]
  by_cases hout : i < 0 ∨ n ≤ i ∨ 32768 < n
  · have HR := Lib.hid (show CheckR (some shaF) [] top n i s path false by rw [CheckR, if_pos hout])
    clear hm hv hp hmax
    by_cases h1 : i < 0
    · clear hout
      go_enter Try.func23, Try.ntmps23
      go_wp2_with fail
      go_ret
      exact ⟨_, rfl, HR.out, Below.refl _ _⟩
    · have h1' : 0 ≤ i := by omega
      by_cases h2 : n ≤ i
      · clear hout
        go_enter Try.func23, Try.ntmps23
        go_wp2_with fail
        go_ret
        exact ⟨_, rfl, HR.out, Below.refl _ _⟩
      · have h2' : i < n := by omega
        have h3 : 32768 < n := by omega
        clear hout
        go_enter Try.func23, Try.ntmps23
        go_wp2_with fail
        go_ret
        exact ⟨_, rfl, HR.out, Below.refl _ _⟩
  obtain ⟨i0, rfl⟩ : ∃ i0 : Nat, i = (i0 : Int) := ⟨i.toNat, by omega⟩
  obtain ⟨n0, rfl⟩ : ∃ n0 : Nat, n = (n0 : Int) := ⟨n.toNat, by omega⟩
  have h1 : ¬ (i0 : Int) < 0 := by omega
  have h2 : (i0 : Int) < (n0 : Int) := by omega
  have h3 : (n0 : Int) ≤ 32768 := by omega
  have h4 : i0 < n0 := by omega
  have h5 : n0 ≤ 32768 := by omega
  have he := str_empty2 top
  have HRes := Lib.hid (fun b (hb : b = (decide (top.size ≠ 0) && chkF top (n0 : Int) path n0 i0 (shaF (leafT s)))) => checkF_is (ks := []) top n0 i0 s path h4 h5 hb)
  by_cases htop : top.size = 0
  · have he2 : top.toList.isEmpty = true := by rw [he]; simp [htop]
    have HR := Lib.hid (HRes.out false (by rw [decide_eq_false (by omega)]; rfl))
    clear HRes hout hv hp hm hmax h4 h5 hn hi he htop
    go_enter Try.func23, Try.ntmps23
    go_wp2_with fail
    go_ret
    exact ⟨_, rfl, HR.out, Below.refl _ _⟩
  have he2 : top.toList.isEmpty = false := by rw [he]; simp [htop]
  rw [decide_eq_true htop, Bool.true_and] at HRes
  have HLF := Lib.hid (refHash_any g (leafT s) w hv (by rw [leafT, ByteArray.size_append]; show 1 + _ ≤ _; omega))
  have HV := Lib.hid hv
  have HP := Lib.hid hp
  have HM := Lib.hid hm
  have H45 := Lib.hid (And.intro h4 h5)
  have hov : ¬ 9223372036854775807 < (⟨#[0]⟩ : ByteArray).size + s.size := by show ¬ _ < 1 + s.size; omega
  have hsz : (⟨#[0]⟩ : ByteArray).size = 1 := rfl
  unfold leafT at HLF HRes
  clear hout hv hp hm hmax h4 h5 hn hi he
  go_enter Try.func23, Try.ntmps23
  go_wp2_with fail
  refine HLF.out.mono ?_
  rintro e W1 ⟨rfl, hb⟩
  obtain ⟨R, hR⟩ : ∃ R, R = chkF top (n0 : Int) path n0 i0 (shaF (⟨#[0]⟩ ++ s)) := ⟨_, rfl⟩
  have HI0 := Lib.hid (show RChkI w R top (n0 : Int) path 0 n0 i0 (shaF (⟨#[0]⟩ ++ s)) W1 from ⟨hb, H45.out.1, H45.out.2, shaF_size _, hR⟩)
  have HEND := Lib.hid (HRes.out R hR)
  generalize shaF (⟨#[0]⟩ ++ s) = h0 at HI0 ⊢
  clear hb HLF h1 h2 h3 HRes hR hov hsz he2 htop
  go_wp2_with fail
  go_loopg [13, 14, 15, 16] m (fun j th ti tn tq wr => ∃ (q n i : Nat) (h : ByteArray), j + q = m ∧ tq = .int .i64 (q : Int) ∧ tn = .int .i64 (n : Int) ∧ ti = .int .i64 (i : Int) ∧ th = .string h ∧ RChkI w R top (n0 : Int) path q n i h wr)
  case atStart => exact ⟨0, n0, i0, h0, by omega, rfl, rfl, rfl, rfl, HI0.out⟩
  case round =>
    clear HI0
    obtain ⟨q, n, i, h, hkq, rfl, rfl, rfl, rfl, hI⟩ := hrel
    by_cases hlt : q < m
    · obtain ⟨j, rfl⟩ : ∃ j, gk = j + 1 := ⟨gk - 1, by omega⟩
      have hlen : q < path.length := by rw [← HM.out]; exact hlt
      obtain ⟨g1, o1, sv, rfl, hg1, hxw, c1, c2, hst⟩ := (HP.out.below hI.bel).get (i := q) hlen
      have hext := hI.ext
      rw [List.drop_eq_getElem_cons hlen] at hext
      obtain ⟨x, hx⟩ : ∃ x, x = path[q] := ⟨_, rfl⟩
      rw [← hx] at hxw c1 hst hext
      obtain ⟨aos, caps, rfl, hcs, hms⟩ := hst.form
      have u2 : (0 : Int) ≤ (q : Int) := by omega
      have u3 : (q : Int) < (m : Int) := by omega
      have hkj : j + (q + 1) = m := by omega
      have HKJ := Lib.hid hkj
      have HX := Lib.hid hx
      have HI := Lib.hid hI
      have hn32 := hI.n32
      have hin := hI.lt
      obtain ⟨A, hA⟩ : ∃ A, A = x.at' := ⟨_, rfl⟩
      obtain ⟨L, hLL⟩ : ∃ L, L = x.sides.length := ⟨_, rfl⟩
      rw [← hA] at hxw c1
      rw [← hLL] at c2 hcs hms hst
      obtain ⟨a, ha⟩ : ∃ a, a = i % 4 := ⟨_, rfl⟩
      obtain ⟨Q, hQ⟩ : ∃ Q, Q = 4 * (i / 4) := ⟨_, rfl⟩
      obtain ⟨D, hD⟩ : ∃ D, D = n - Q := ⟨_, rfl⟩
      have m4 : (i : Int) % 4 = (a : Int) := by omega
      have e2 : (i : Int) - (a : Int) = (Q : Int) := by omega
      have e3 : wrap64 ((i : Int) - (a : Int)) = (Q : Int) := by rw [IntWalk.wrap64_in _ ⟨by omega, by omega⟩]; omega
      have e5 : (n : Int) - (Q : Int) = (D : Int) := by omega
      have e6 : wrap64 ((n : Int) - (Q : Int)) = (D : Int) := by rw [IntWalk.wrap64_in _ ⟨by omega, by omega⟩]; omega
      have hD1 : 1 ≤ D := by omega
      have hD2 : D ≤ 32768 := by omega
      have hDn : D ≤ n := by omega
      have hfit : fitsB x i n = (decide (A = ((a : Nat) : Int)) && (decide (L + 1 = min 4 D) && x.sides.all (fun s => decide (s.size = 32)))) := by
        rw [fitsB, ← hA, ← ha, ← hLL, show n - i / 4 * 4 = D by omega]
      have HFIT := Lib.hid hfit
      have HIN := Lib.hid hin
      have HA := Lib.hid ha
      have HLL := Lib.hid hLL
      have HST := Lib.hid hst
      have hal4 : a < 4 := by omega
      have hLm : (L : Int) ≤ 9223372036854775807 := by unfold maxLen at hms; omega
      have HBX := Lib.hid ((Below.refl _ wr).alloc (Nat.le_refl _) (.cells #[.int .i64 A, .slice aos L caps] 40 (0, 0)))
      have HEX := Lib.hid hext
      have HALD := Lib.hid (show a < 4 → L + 1 = min 4 D → a ≤ L ∧ L ≤ 3 by intro h1 h2; have := HIN.out; omega)
      clear hI hext hlt hkq hx hst hQ hD hfit hLL ha hA hkj hms hin
      by_cases hn2 : n < 2
      · have z1 : (n : Int) < 2 := by omega
        have HC := Lib.hid (show R = false by rw [HEX.out, chkF, if_pos (.inl hn2)])
        have y1 : ¬ (4 : Int) < (D : Int) := by omega
        clear hn2
        go_wp2_with fail
        go_ret
        exact ⟨_, rfl, by rw [← HC.out]; exact HEND.out, HI.out.bel.trans (HBX.out.mono HI.out.bel.size)⟩
      have z1 : ¬ (n : Int) < 2 := by omega
      have HN2 := Lib.hid hn2
      have HNO := Lib.hid (fun hf : fitsB x i n = false => show R = false by rw [HEX.out, chkF, if_pos (.inr hf)])
      by_cases hD4 : 4 < D
      · have y1 : (4 : Int) < (D : Int) := by omega
        have hd4 : min 4 D = 4 := by omega
        have HD4 := Lib.hid hd4
        clear hn2 hD4 hd4
        by_cases hAa : A = (a : Int)
        · have hbA : (A != (a : Int)) = false := by simpa using hAa
          by_cases hLD : L + 1 = min 4 D
          · have hL3 : L = 3 := by have := HD4.out; omega
            have hbL : ((L : Int) != (3 : Int)) = false := by simp; omega
            have hfit2 : fitsB x i n = x.sides.all (fun s => decide (s.size = 32)) := by
              rw [HFIT.out, decide_eq_true hAa, decide_eq_true hLD, Bool.true_and, Bool.true_and]
            have HF2 := Lib.hid hfit2
            have hal := (HALD.out hal4 hLD).1
            have hL33 := (HALD.out hal4 hLD).2
            subst hAa
            clear hL3
            have HST0 := Lib.hid (HST.out.below HBX.out)
            have HSTW := Lib.hid (fun W (hb : Below wr.heap.size wr W) => HST.out.below hb)
            have hbl0 := get_top (w := wr) (o := .cells #[.int .i64 (a : Int), .slice aos L caps] 40 (0, 0)) rfl
            have HBL0 := Lib.hid hbl0
            have hsz0 : (wr.alloc (.cells #[.int .i64 (a : Int), .slice aos L caps] 40 (0, 0))).heap.size = wr.heap.size + 1 := by simp
            have HSZ0 := Lib.hid hsz0
            clear hfit2 hLD hbl0 hsz0
            go_wp2_with fail
            obtain ⟨gx, hgx⟩ : ∃ g, g = wr.heap.size := ⟨_, rfl⟩
            rw [← hgx] at HBL0 HSZ0 ⊢
            have HGX := Lib.hid hgx
            generalize (wr.alloc (.cells #[.int .i64 (a : Int), .slice aos L caps] 40 (0, 0))) = W0 at HBX HST0 HBL0 HSZ0 ⊢
            obtain ⟨W6, rfl⟩ : ∃ W6, W6 = wr := ⟨_, rfl⟩
            have k0 := (blk_cell HBL0.out 0).trans rfl
            have k1 := (blk_cell HBL0.out 1).trans rfl
            have hgl := blk_lt HBL0.out
            clear hbA hbL y1 hgx
            go_loopg [19] L (fun j jj wr => ∃ p : Nat, j + p = L ∧ jj = .int .i64 (p : Int) ∧ fitsB x i n = (x.sides.drop p).all (fun s => decide (s.size = 32)) ∧ wr = W0)
            case atStart => exact ⟨0, by omega, rfl, HF2.out, rfl⟩
            case round =>
              obtain ⟨p, hkp, rfl, hfp, rfl⟩ := hrel
              by_cases hlp : p < L
              · obtain ⟨j2, rfl⟩ : ∃ j, gk = j + 1 := ⟨gk - 1, by omega⟩
                have hlen2 : p < x.sides.length := by rw [← HLL.out]; exact hlp
                obtain ⟨gl, oo, he, hg, x0⟩ := HST0.out.get (i := p) hlen2
                subst he
                rw [List.drop_eq_getElem_cons hlen2, List.all_cons] at hfp
                obtain ⟨f, hff⟩ : ∃ f, f = x.sides[p] := ⟨_, rfl⟩
                rw [← hff] at x0 hfp
                have v2 : (0 : Int) ≤ (p : Int) := by omega
                have v3 : (p : Int) < (L : Int) := by omega
                have hkj : j2 + (p + 1) = L := by omega
                have HKJ2 := Lib.hid hkj
                by_cases h32 : f.size = 32
                · have hb : ((f.size : Int) != 32) = false := by simp; omega
                  rw [decide_eq_true h32, Bool.true_and] at hfp
                  have HFP := Lib.hid hfp
                  clear hfp hkp hlp hkj hff h32
                  clear hlen2
                  go_wp2_with fail
                  go_roundg j2
                  case measure => omega
                  case rel => exact ⟨p + 1, HKJ2.out, by go_num, HFP.out, rfl⟩
                · have hb : ((f.size : Int) != 32) = true := by simp; omega
                  rw [decide_eq_false h32, Bool.false_and] at hfp
                  have HC := Lib.hid (HNO.out hfp)
                  clear hfp hkp hlp hkj hff h32
                  clear hlen2
                  go_wp2_with fail
                  go_ret
                  exact ⟨_, rfl, by rw [← HC.out]; exact HEND.out, HI.out.bel.trans (HBX.out.mono HI.out.bel.size)⟩
              · obtain rfl : gk = 0 := by omega
                obtain rfl : p = L := by omega
                rw [List.drop_of_length_le (by rw [← HLL.out]; exact Nat.le_refl _)] at hfp
                have HF := Lib.hid (show fitsB x i n = true from hfp)
                have hst0 := HST0.out
                have HST6 := Lib.hid (fun W (hb : Below W6.heap.size W6 W) => HSTW.out W hb)
                have HFA := Lib.hid ((hst0.front (b := a) (by rw [← HLL.out]; exact hal)).feeds)
                have htk : (x.sides.take a).length = a := by rw [List.length_take, ← HLL.out]; omega
                have hfa := HFA.out
                rw [htk] at hfa
                have HFA2 := Lib.hid hfa
                have HL0 := Lib.hid (show Loc W6 wr 9 1 (.slice none 0 0) 0 (strs []) from Loc.nil HBX.out _ _)
                have z5 : (0 : Int) ≤ (a : Int) := by omega
                have z6 : (a : Int) ≤ (p : Int) := by omega
                have z7 : (a : Int) ≤ (caps : Int) := by omega
                have HQ := Lib.hid (show q < path.length by have := HKJ.out; have := HM.out; omega)
                obtain ⟨i0', hi0, hz0, hz1, hz2⟩ := info_parts infoStr
                have HII := Lib.hid hi0
                have HZ0 := Lib.hid hz0
                have HZ1 := Lib.hid hz1
                have HZ2 := Lib.hid hz2
                clear hfp hkp hlp hst0 HFA htk hfa hi0 hz0 hz1 hz2 HST
                by_cases hac : a = caps
                · have hLa : a = p := by omega
                  subst hac
                  subst hLa
                  cases aos with
                  | none =>
                    go_wp2_with (first | (refine wpList_append_row _ (by rfl) _ _ _ _ (by rfl) 9 i0' (.string ⟨#[]⟩) 1 16 Try.underlying22 HII.out HZ0.out HZ1.out HZ2.out rfl (by omega) _ 0 _ (by rfl) HL0.out.row _ (by rfl) a _ HFA2.out (by unfold maxLen; omega) (by omega) wr.heap.size rfl ?_; intro ao5 cap5 w5 hown5 hgrow5 hat5; have hx5 := (hgrow5.block gx (by omega) (by simp [Value.ownBlock])).trans HBL0.out; have j0 := (blk_cell hx5 0).trans rfl; have j1 := (blk_cell hx5 1).trans rfl; have hgl5 := blk_lt hx5; have HX5 := Lib.hid hx5; have HL5 := Lib.hid (loc_zero (Loc.app HL0.out (Below.refl _ _) hown5 hgrow5 hat5 (by omega))); have hne5 := HL5.out.row.ne_type hx5 (by decide); have HNE5 := Lib.hid hne5; clear hown5 hgrow5 hat5 hx5 hne5) | (refine wpList_append_row _ (by rfl) _ _ _ _ (by rfl) 9 i0' (.string ⟨#[]⟩) 1 16 Try.underlying22 HII.out HZ0.out HZ1.out HZ2.out rfl (by omega) _ a _ (by rfl) (HL5.out.row.alloc _) _ (by rfl) 1 [.string h] (Feeds.slice Try.underlying22 ⟨w5.heap.size, 0, none⟩ 1 1 _ (by rfl) (by simp [Value.oneCell']) (World.news_of_block (cs := #[.string h]) (t := 9) (fr := (0, 0)) (get_top rfl))) (by unfold maxLen; omega) (by omega) (w5.heap.size + 1) (by simp) ?_; intro ao6 cap6 w6 hown6 hgrow6 hat6; have hx6 := (hgrow6.block gx (by have := blk_lt HX5.out; simp; omega) HNE5.out).trans (get_below HX5.out); have l0 := (blk_cell hx6 0).trans rfl; have l1 := (blk_cell hx6 1).trans rfl; have hgl6 := blk_lt hx6; have hl6 := Loc.app HL5.out ((Below.refl _ w5).alloc (Nat.le_refl _) _) hown6 hgrow6 hat6 (by omega); have HL6 := Lib.hid hl6; have hfc := ((HST6.out w6 hl6.below).back (a := a) (by rw [← HLL.out]; exact hal)).feeds; have hdl : (x.sides.drop a).length = a - a := (by rw [List.length_drop, ← HLL.out]); rw [hdl] at hfc; have HFC := Lib.hid hfc; have HX6 := Lib.hid hx6; clear hown6 hgrow6 hat6 hx6 hl6 hfc hdl) | (refine wpList_append_row _ (by rfl) _ _ _ _ (by rfl) 9 i0' (.string ⟨#[]⟩) 1 16 Try.underlying22 HII.out HZ0.out HZ1.out HZ2.out rfl (by omega) _ (a + 1) _ (by rfl) HL6.out.row _ (by rfl) 0 (strs []) (nil_feeds _ _ _ _ (by omega) (by omega)) (by unfold maxLen; omega) (by omega) w6.heap.size rfl ?_; intro ao7 cap7 w7 hown7 hgrow7 hat7; have HL7 := Lib.hid (loc_plus (Loc.app HL6.out (Below.refl _ _) hown7 hgrow7 hat7 (Nat.le_refl _))); clear hown7 hgrow7 hat7))
                    refine (rchk_step HI.out HV.out HQ.out HX.out HF.out HN2.out HA.out HLL.out (by omega) (by rw [List.drop_of_length_le (by rw [← HLL.out]; exact Nat.le_refl _)]) HL7.out.row HL7.out.below).mono ?_
                    clear HFC HFA2 HL0 HL5 HL6 HL7
                    rintro e W8 ⟨r, rfl, hI3⟩
                    have HN32 := Lib.hid hI3.n32
                    have HI3 := Lib.hid hI3
                    clear hI3
                    go_wp2_with fail
                    go_roundg j
                    case measure => omega
                    case rel => exact ⟨q + 1, (n + 3) / 4, i / 4, r, HKJ.out, by go_num, congrArg (Value.int .i64) (by omega), congrArg (Value.int .i64) (by have := HIN.out; have := HI.out.n32; first | omega | exact wrap_div (by omega)), rfl, HI3.out⟩
                  | some ad =>
                    go_wp2_with (first | (refine wpList_append_row _ (by rfl) _ _ _ _ (by rfl) 9 i0' (.string ⟨#[]⟩) 1 16 Try.underlying22 HII.out HZ0.out HZ1.out HZ2.out rfl (by omega) _ 0 _ (by rfl) HL0.out.row _ (by rfl) a _ HFA2.out (by unfold maxLen; omega) (by omega) wr.heap.size rfl ?_; intro ao5 cap5 w5 hown5 hgrow5 hat5; have hx5 := (hgrow5.block gx (by omega) (by simp [Value.ownBlock])).trans HBL0.out; have j0 := (blk_cell hx5 0).trans rfl; have j1 := (blk_cell hx5 1).trans rfl; have hgl5 := blk_lt hx5; have HX5 := Lib.hid hx5; have HL5 := Lib.hid (loc_zero (Loc.app HL0.out (Below.refl _ _) hown5 hgrow5 hat5 (by omega))); have hne5 := HL5.out.row.ne_type hx5 (by decide); have HNE5 := Lib.hid hne5; clear hown5 hgrow5 hat5 hx5 hne5) | (refine wpList_append_row _ (by rfl) _ _ _ _ (by rfl) 9 i0' (.string ⟨#[]⟩) 1 16 Try.underlying22 HII.out HZ0.out HZ1.out HZ2.out rfl (by omega) _ a _ (by rfl) (HL5.out.row.alloc _) _ (by rfl) 1 [.string h] (Feeds.slice Try.underlying22 ⟨w5.heap.size, 0, none⟩ 1 1 _ (by rfl) (by simp [Value.oneCell']) (World.news_of_block (cs := #[.string h]) (t := 9) (fr := (0, 0)) (get_top rfl))) (by unfold maxLen; omega) (by omega) (w5.heap.size + 1) (by simp) ?_; intro ao6 cap6 w6 hown6 hgrow6 hat6; have hx6 := (hgrow6.block gx (by have := blk_lt HX5.out; simp; omega) HNE5.out).trans (get_below HX5.out); have l0 := (blk_cell hx6 0).trans rfl; have l1 := (blk_cell hx6 1).trans rfl; have hgl6 := blk_lt hx6; have hl6 := Loc.app HL5.out ((Below.refl _ w5).alloc (Nat.le_refl _) _) hown6 hgrow6 hat6 (by omega); have HL6 := Lib.hid hl6; have hfc := ((HST6.out w6 hl6.below).back (a := a) (by rw [← HLL.out]; exact hal)).feeds; have hdl : (x.sides.drop a).length = a - a := (by rw [List.length_drop, ← HLL.out]); rw [hdl] at hfc; have HFC := Lib.hid hfc; have HX6 := Lib.hid hx6; clear hown6 hgrow6 hat6 hx6 hl6 hfc hdl) | (refine wpList_append_row _ (by rfl) _ _ _ _ (by rfl) 9 i0' (.string ⟨#[]⟩) 1 16 Try.underlying22 HII.out HZ0.out HZ1.out HZ2.out rfl (by omega) _ (a + 1) _ (by rfl) HL6.out.row _ (by rfl) 0 (strs []) (nil_feeds _ _ _ _ (by omega) (by omega)) (by unfold maxLen; omega) (by omega) w6.heap.size rfl ?_; intro ao7 cap7 w7 hown7 hgrow7 hat7; have HL7 := Lib.hid (loc_plus (Loc.app HL6.out (Below.refl _ _) hown7 hgrow7 hat7 (Nat.le_refl _))); clear hown7 hgrow7 hat7))
                    refine (rchk_step HI.out HV.out HQ.out HX.out HF.out HN2.out HA.out HLL.out (by omega) (by rw [List.drop_of_length_le (by rw [← HLL.out]; exact Nat.le_refl _)]) HL7.out.row HL7.out.below).mono ?_
                    clear HFC HFA2 HL0 HL5 HL6 HL7
                    rintro e W8 ⟨r, rfl, hI3⟩
                    have HN32 := Lib.hid hI3.n32
                    have HI3 := Lib.hid hI3
                    clear hI3
                    go_wp2_with fail
                    go_roundg j
                    case measure => omega
                    case rel => exact ⟨q + 1, (n + 3) / 4, i / 4, r, HKJ.out, by go_num, congrArg (Value.int .i64) (by omega), congrArg (Value.int .i64) (by have := HIN.out; have := HI.out.n32; first | omega | exact wrap_div (by omega)), rfl, HI3.out⟩
                · have hac2 : ¬ caps = a := fun h => hac h.symm
                  go_wp2_with (first | (refine wpList_append_row _ (by rfl) _ _ _ _ (by rfl) 9 i0' (.string ⟨#[]⟩) 1 16 Try.underlying22 HII.out HZ0.out HZ1.out HZ2.out rfl (by omega) _ 0 _ (by rfl) HL0.out.row _ (by rfl) a _ HFA2.out (by unfold maxLen; omega) (by omega) wr.heap.size rfl ?_; intro ao5 cap5 w5 hown5 hgrow5 hat5; have hx5 := (hgrow5.block gx (by omega) (by simp [Value.ownBlock])).trans HBL0.out; have j0 := (blk_cell hx5 0).trans rfl; have j1 := (blk_cell hx5 1).trans rfl; have hgl5 := blk_lt hx5; have HX5 := Lib.hid hx5; have HL5 := Lib.hid (loc_zero (Loc.app HL0.out (Below.refl _ _) hown5 hgrow5 hat5 (by omega))); have hne5 := HL5.out.row.ne_type hx5 (by decide); have HNE5 := Lib.hid hne5; clear hown5 hgrow5 hat5 hx5 hne5) | (refine wpList_append_row _ (by rfl) _ _ _ _ (by rfl) 9 i0' (.string ⟨#[]⟩) 1 16 Try.underlying22 HII.out HZ0.out HZ1.out HZ2.out rfl (by omega) _ a _ (by rfl) (HL5.out.row.alloc _) _ (by rfl) 1 [.string h] (Feeds.slice Try.underlying22 ⟨w5.heap.size, 0, none⟩ 1 1 _ (by rfl) (by simp [Value.oneCell']) (World.news_of_block (cs := #[.string h]) (t := 9) (fr := (0, 0)) (get_top rfl))) (by unfold maxLen; omega) (by omega) (w5.heap.size + 1) (by simp) ?_; intro ao6 cap6 w6 hown6 hgrow6 hat6; have hx6 := (hgrow6.block gx (by have := blk_lt HX5.out; simp; omega) HNE5.out).trans (get_below HX5.out); have l0 := (blk_cell hx6 0).trans rfl; have l1 := (blk_cell hx6 1).trans rfl; have hgl6 := blk_lt hx6; have hl6 := Loc.app HL5.out ((Below.refl _ w5).alloc (Nat.le_refl _) _) hown6 hgrow6 hat6 (by omega); have HL6 := Lib.hid hl6; have hfc := ((HST6.out w6 hl6.below).back (a := a) (by rw [← HLL.out]; exact hal)).feeds; have hdl : (x.sides.drop a).length = p - a := (by rw [List.length_drop, ← HLL.out]); rw [hdl] at hfc; have HFC := Lib.hid hfc; have HX6 := Lib.hid hx6; clear hown6 hgrow6 hat6 hx6 hl6 hfc hdl) | (refine wpList_append_row _ (by rfl) _ _ _ _ (by rfl) 9 i0' (.string ⟨#[]⟩) 1 16 Try.underlying22 HII.out HZ0.out HZ1.out HZ2.out rfl (by omega) _ (a + 1) _ (by rfl) HL6.out.row _ (by rfl) (p - a) _ HFC.out (by unfold maxLen; omega) (by omega) w6.heap.size rfl ?_; intro ao7 cap7 w7 hown7 hgrow7 hat7; have HL7 := Lib.hid (Loc.app HL6.out (Below.refl _ _) hown7 hgrow7 hat7 (Nat.le_refl _)); clear hown7 hgrow7 hat7))
                  refine (rchk_step HI.out HV.out HQ.out HX.out HF.out HN2.out HA.out HLL.out rfl rfl HL7.out.row HL7.out.below).mono ?_
                  clear HFC HFA2 HL0 HL5 HL6 HL7
                  rintro e W8 ⟨r, rfl, hI3⟩
                  have HN32 := Lib.hid hI3.n32
                  have HI3 := Lib.hid hI3
                  clear hI3
                  go_wp2_with fail
                  go_roundg j
                  case measure => omega
                  case rel => exact ⟨q + 1, (n + 3) / 4, i / 4, r, HKJ.out, by go_num, congrArg (Value.int .i64) (by omega), congrArg (Value.int .i64) (by have := HIN.out; have := HI.out.n32; first | omega | exact wrap_div (by omega)), rfl, HI3.out⟩
          · have hbm5 : ¬ L = 3 := by have := HD4.out; omega
            have hbL : ((L : Int) != (3 : Int)) = true := by simp; omega
            have hbL2 : (L != 3) = true := by simp; omega
            have HC := Lib.hid (HNO.out (by rw [HFIT.out, decide_eq_false hLD, Bool.false_and, Bool.and_false]))
            subst hAa
            clear hLD
            go_wp2_with fail
            go_ret
            exact ⟨_, rfl, by rw [← HC.out]; exact HEND.out, HI.out.bel.trans (HBX.out.mono HI.out.bel.size)⟩
        · have hbA : (A != (a : Int)) = true := by simpa using hAa
          have HC := Lib.hid (HNO.out (by rw [HFIT.out, decide_eq_false hAa, Bool.false_and]))
          clear hAa
          go_wp2_with fail
          go_ret
          exact ⟨_, rfl, by rw [← HC.out]; exact HEND.out, HI.out.bel.trans (HBX.out.mono HI.out.bel.size)⟩
      · have y1 : ¬ (4 : Int) < (D : Int) := by omega
        have hd4 : min 4 D = D := by omega
        have HD4 := Lib.hid hd4
        obtain ⟨E, hE⟩ : ∃ E, E = D - 1 := ⟨_, rfl⟩
        have z2 : wrap64 ((D : Int) - 1) = (E : Int) := by
          rw [IntWalk.wrap64_in _ ⟨by omega, by omega⟩]; omega
        have e7 : (D : Int) - 1 = (E : Int) := by omega
        have hDE : D = E + 1 := by omega
        clear hn2 hD4 hd4 hE
        by_cases hAa : A = (a : Int)
        · have hbA : (A != (a : Int)) = false := by simpa using hAa
          by_cases hLD : L + 1 = min 4 D
          · have hL3 : L = E := by have := HD4.out; omega
            have hbL : ((L : Int) != (E : Int)) = false := by simp; omega
            have hfit2 : fitsB x i n = x.sides.all (fun s => decide (s.size = 32)) := by
              rw [HFIT.out, decide_eq_true hAa, decide_eq_true hLD, Bool.true_and, Bool.true_and]
            have HF2 := Lib.hid hfit2
            have hal := (HALD.out hal4 hLD).1
            have hL33 := (HALD.out hal4 hLD).2
            subst hAa
            subst hL3
            have HST0 := Lib.hid (HST.out.below HBX.out)
            have HSTW := Lib.hid (fun W (hb : Below wr.heap.size wr W) => HST.out.below hb)
            have hbl0 := get_top (w := wr) (o := .cells #[.int .i64 (a : Int), .slice aos L caps] 40 (0, 0)) rfl
            have HBL0 := Lib.hid hbl0
            have hsz0 : (wr.alloc (.cells #[.int .i64 (a : Int), .slice aos L caps] 40 (0, 0))).heap.size = wr.heap.size + 1 := by simp
            have HSZ0 := Lib.hid hsz0
            clear hfit2 hLD hbl0 hsz0
            go_wp2_with fail
            obtain ⟨gx, hgx⟩ : ∃ g, g = wr.heap.size := ⟨_, rfl⟩
            rw [← hgx] at HBL0 HSZ0 ⊢
            have HGX := Lib.hid hgx
            generalize (wr.alloc (.cells #[.int .i64 (a : Int), .slice aos L caps] 40 (0, 0))) = W0 at HBX HST0 HBL0 HSZ0 ⊢
            obtain ⟨W6, rfl⟩ : ∃ W6, W6 = wr := ⟨_, rfl⟩
            have k0 := (blk_cell HBL0.out 0).trans rfl
            have k1 := (blk_cell HBL0.out 1).trans rfl
            have hgl := blk_lt HBL0.out
            clear hbA hbL y1 z2 e7 hgx
            go_loopg [19] L (fun j jj wr => ∃ p : Nat, j + p = L ∧ jj = .int .i64 (p : Int) ∧ fitsB x i n = (x.sides.drop p).all (fun s => decide (s.size = 32)) ∧ wr = W0)
            case atStart => exact ⟨0, by omega, rfl, HF2.out, rfl⟩
            case round =>
              obtain ⟨p, hkp, rfl, hfp, rfl⟩ := hrel
              by_cases hlp : p < L
              · obtain ⟨j2, rfl⟩ : ∃ j, gk = j + 1 := ⟨gk - 1, by omega⟩
                have hlen2 : p < x.sides.length := by rw [← HLL.out]; exact hlp
                obtain ⟨gl, oo, he, hg, x0⟩ := HST0.out.get (i := p) hlen2
                subst he
                rw [List.drop_eq_getElem_cons hlen2, List.all_cons] at hfp
                obtain ⟨f, hff⟩ : ∃ f, f = x.sides[p] := ⟨_, rfl⟩
                rw [← hff] at x0 hfp
                have v2 : (0 : Int) ≤ (p : Int) := by omega
                have v3 : (p : Int) < (L : Int) := by omega
                have hkj : j2 + (p + 1) = L := by omega
                have HKJ2 := Lib.hid hkj
                by_cases h32 : f.size = 32
                · have hb : ((f.size : Int) != 32) = false := by simp; omega
                  rw [decide_eq_true h32, Bool.true_and] at hfp
                  have HFP := Lib.hid hfp
                  clear hfp hkp hlp hkj hff h32
                  clear hlen2
                  go_wp2_with fail
                  go_roundg j2
                  case measure => omega
                  case rel => exact ⟨p + 1, HKJ2.out, by go_num, HFP.out, rfl⟩
                · have hb : ((f.size : Int) != 32) = true := by simp; omega
                  rw [decide_eq_false h32, Bool.false_and] at hfp
                  have HC := Lib.hid (HNO.out hfp)
                  clear hfp hkp hlp hkj hff h32
                  clear hlen2
                  go_wp2_with fail
                  go_ret
                  exact ⟨_, rfl, by rw [← HC.out]; exact HEND.out, HI.out.bel.trans (HBX.out.mono HI.out.bel.size)⟩
              · obtain rfl : gk = 0 := by omega
                obtain rfl : p = L := by omega
                rw [List.drop_of_length_le (by rw [← HLL.out]; exact Nat.le_refl _)] at hfp
                have HF := Lib.hid (show fitsB x i n = true from hfp)
                have hst0 := HST0.out
                have HST6 := Lib.hid (fun W (hb : Below W6.heap.size W6 W) => HSTW.out W hb)
                have HFA := Lib.hid ((hst0.front (b := a) (by rw [← HLL.out]; exact hal)).feeds)
                have htk : (x.sides.take a).length = a := by rw [List.length_take, ← HLL.out]; omega
                have hfa := HFA.out
                rw [htk] at hfa
                have HFA2 := Lib.hid hfa
                have HL0 := Lib.hid (show Loc W6 wr 9 1 (.slice none 0 0) 0 (strs []) from Loc.nil HBX.out _ _)
                have z5 : (0 : Int) ≤ (a : Int) := by omega
                have z6 : (a : Int) ≤ (p : Int) := by omega
                have z7 : (a : Int) ≤ (caps : Int) := by omega
                have HQ := Lib.hid (show q < path.length by have := HKJ.out; have := HM.out; omega)
                obtain ⟨i0', hi0, hz0, hz1, hz2⟩ := info_parts infoStr
                have HII := Lib.hid hi0
                have HZ0 := Lib.hid hz0
                have HZ1 := Lib.hid hz1
                have HZ2 := Lib.hid hz2
                clear hfp hkp hlp hst0 HFA htk hfa hi0 hz0 hz1 hz2 HST
                by_cases hac : a = caps
                · have hLa : a = p := by omega
                  subst hac
                  subst hLa
                  cases aos with
                  | none =>
                    go_wp2_with (first | (refine wpList_append_row _ (by rfl) _ _ _ _ (by rfl) 9 i0' (.string ⟨#[]⟩) 1 16 Try.underlying22 HII.out HZ0.out HZ1.out HZ2.out rfl (by omega) _ 0 _ (by rfl) HL0.out.row _ (by rfl) a _ HFA2.out (by unfold maxLen; omega) (by omega) wr.heap.size rfl ?_; intro ao5 cap5 w5 hown5 hgrow5 hat5; have hx5 := (hgrow5.block gx (by omega) (by simp [Value.ownBlock])).trans HBL0.out; have j0 := (blk_cell hx5 0).trans rfl; have j1 := (blk_cell hx5 1).trans rfl; have hgl5 := blk_lt hx5; have HX5 := Lib.hid hx5; have HL5 := Lib.hid (loc_zero (Loc.app HL0.out (Below.refl _ _) hown5 hgrow5 hat5 (by omega))); have hne5 := HL5.out.row.ne_type hx5 (by decide); have HNE5 := Lib.hid hne5; clear hown5 hgrow5 hat5 hx5 hne5) | (refine wpList_append_row _ (by rfl) _ _ _ _ (by rfl) 9 i0' (.string ⟨#[]⟩) 1 16 Try.underlying22 HII.out HZ0.out HZ1.out HZ2.out rfl (by omega) _ a _ (by rfl) (HL5.out.row.alloc _) _ (by rfl) 1 [.string h] (Feeds.slice Try.underlying22 ⟨w5.heap.size, 0, none⟩ 1 1 _ (by rfl) (by simp [Value.oneCell']) (World.news_of_block (cs := #[.string h]) (t := 9) (fr := (0, 0)) (get_top rfl))) (by unfold maxLen; omega) (by omega) (w5.heap.size + 1) (by simp) ?_; intro ao6 cap6 w6 hown6 hgrow6 hat6; have hx6 := (hgrow6.block gx (by have := blk_lt HX5.out; simp; omega) HNE5.out).trans (get_below HX5.out); have l0 := (blk_cell hx6 0).trans rfl; have l1 := (blk_cell hx6 1).trans rfl; have hgl6 := blk_lt hx6; have hl6 := Loc.app HL5.out ((Below.refl _ w5).alloc (Nat.le_refl _) _) hown6 hgrow6 hat6 (by omega); have HL6 := Lib.hid hl6; have hfc := ((HST6.out w6 hl6.below).back (a := a) (by rw [← HLL.out]; exact hal)).feeds; have hdl : (x.sides.drop a).length = a - a := (by rw [List.length_drop, ← HLL.out]); rw [hdl] at hfc; have HFC := Lib.hid hfc; have HX6 := Lib.hid hx6; clear hown6 hgrow6 hat6 hx6 hl6 hfc hdl) | (refine wpList_append_row _ (by rfl) _ _ _ _ (by rfl) 9 i0' (.string ⟨#[]⟩) 1 16 Try.underlying22 HII.out HZ0.out HZ1.out HZ2.out rfl (by omega) _ (a + 1) _ (by rfl) HL6.out.row _ (by rfl) 0 (strs []) (nil_feeds _ _ _ _ (by omega) (by omega)) (by unfold maxLen; omega) (by omega) w6.heap.size rfl ?_; intro ao7 cap7 w7 hown7 hgrow7 hat7; have HL7 := Lib.hid (loc_plus (Loc.app HL6.out (Below.refl _ _) hown7 hgrow7 hat7 (Nat.le_refl _))); clear hown7 hgrow7 hat7))
                    refine (rchk_step HI.out HV.out HQ.out HX.out HF.out HN2.out HA.out HLL.out (by omega) (by rw [List.drop_of_length_le (by rw [← HLL.out]; exact Nat.le_refl _)]) HL7.out.row HL7.out.below).mono ?_
                    clear HFC HFA2 HL0 HL5 HL6 HL7
                    rintro e W8 ⟨r, rfl, hI3⟩
                    have HN32 := Lib.hid hI3.n32
                    have HI3 := Lib.hid hI3
                    clear hI3
                    go_wp2_with fail
                    go_roundg j
                    case measure => omega
                    case rel => exact ⟨q + 1, (n + 3) / 4, i / 4, r, HKJ.out, by go_num, congrArg (Value.int .i64) (by omega), congrArg (Value.int .i64) (by have := HIN.out; have := HI.out.n32; first | omega | exact wrap_div (by omega)), rfl, HI3.out⟩
                  | some ad =>
                    go_wp2_with (first | (refine wpList_append_row _ (by rfl) _ _ _ _ (by rfl) 9 i0' (.string ⟨#[]⟩) 1 16 Try.underlying22 HII.out HZ0.out HZ1.out HZ2.out rfl (by omega) _ 0 _ (by rfl) HL0.out.row _ (by rfl) a _ HFA2.out (by unfold maxLen; omega) (by omega) wr.heap.size rfl ?_; intro ao5 cap5 w5 hown5 hgrow5 hat5; have hx5 := (hgrow5.block gx (by omega) (by simp [Value.ownBlock])).trans HBL0.out; have j0 := (blk_cell hx5 0).trans rfl; have j1 := (blk_cell hx5 1).trans rfl; have hgl5 := blk_lt hx5; have HX5 := Lib.hid hx5; have HL5 := Lib.hid (loc_zero (Loc.app HL0.out (Below.refl _ _) hown5 hgrow5 hat5 (by omega))); have hne5 := HL5.out.row.ne_type hx5 (by decide); have HNE5 := Lib.hid hne5; clear hown5 hgrow5 hat5 hx5 hne5) | (refine wpList_append_row _ (by rfl) _ _ _ _ (by rfl) 9 i0' (.string ⟨#[]⟩) 1 16 Try.underlying22 HII.out HZ0.out HZ1.out HZ2.out rfl (by omega) _ a _ (by rfl) (HL5.out.row.alloc _) _ (by rfl) 1 [.string h] (Feeds.slice Try.underlying22 ⟨w5.heap.size, 0, none⟩ 1 1 _ (by rfl) (by simp [Value.oneCell']) (World.news_of_block (cs := #[.string h]) (t := 9) (fr := (0, 0)) (get_top rfl))) (by unfold maxLen; omega) (by omega) (w5.heap.size + 1) (by simp) ?_; intro ao6 cap6 w6 hown6 hgrow6 hat6; have hx6 := (hgrow6.block gx (by have := blk_lt HX5.out; simp; omega) HNE5.out).trans (get_below HX5.out); have l0 := (blk_cell hx6 0).trans rfl; have l1 := (blk_cell hx6 1).trans rfl; have hgl6 := blk_lt hx6; have hl6 := Loc.app HL5.out ((Below.refl _ w5).alloc (Nat.le_refl _) _) hown6 hgrow6 hat6 (by omega); have HL6 := Lib.hid hl6; have hfc := ((HST6.out w6 hl6.below).back (a := a) (by rw [← HLL.out]; exact hal)).feeds; have hdl : (x.sides.drop a).length = a - a := (by rw [List.length_drop, ← HLL.out]); rw [hdl] at hfc; have HFC := Lib.hid hfc; have HX6 := Lib.hid hx6; clear hown6 hgrow6 hat6 hx6 hl6 hfc hdl) | (refine wpList_append_row _ (by rfl) _ _ _ _ (by rfl) 9 i0' (.string ⟨#[]⟩) 1 16 Try.underlying22 HII.out HZ0.out HZ1.out HZ2.out rfl (by omega) _ (a + 1) _ (by rfl) HL6.out.row _ (by rfl) 0 (strs []) (nil_feeds _ _ _ _ (by omega) (by omega)) (by unfold maxLen; omega) (by omega) w6.heap.size rfl ?_; intro ao7 cap7 w7 hown7 hgrow7 hat7; have HL7 := Lib.hid (loc_plus (Loc.app HL6.out (Below.refl _ _) hown7 hgrow7 hat7 (Nat.le_refl _))); clear hown7 hgrow7 hat7))
                    refine (rchk_step HI.out HV.out HQ.out HX.out HF.out HN2.out HA.out HLL.out (by omega) (by rw [List.drop_of_length_le (by rw [← HLL.out]; exact Nat.le_refl _)]) HL7.out.row HL7.out.below).mono ?_
                    clear HFC HFA2 HL0 HL5 HL6 HL7
                    rintro e W8 ⟨r, rfl, hI3⟩
                    have HN32 := Lib.hid hI3.n32
                    have HI3 := Lib.hid hI3
                    clear hI3
                    go_wp2_with fail
                    go_roundg j
                    case measure => omega
                    case rel => exact ⟨q + 1, (n + 3) / 4, i / 4, r, HKJ.out, by go_num, congrArg (Value.int .i64) (by omega), congrArg (Value.int .i64) (by have := HIN.out; have := HI.out.n32; first | omega | exact wrap_div (by omega)), rfl, HI3.out⟩
                · have hac2 : ¬ caps = a := fun h => hac h.symm
                  go_wp2_with (first | (refine wpList_append_row _ (by rfl) _ _ _ _ (by rfl) 9 i0' (.string ⟨#[]⟩) 1 16 Try.underlying22 HII.out HZ0.out HZ1.out HZ2.out rfl (by omega) _ 0 _ (by rfl) HL0.out.row _ (by rfl) a _ HFA2.out (by unfold maxLen; omega) (by omega) wr.heap.size rfl ?_; intro ao5 cap5 w5 hown5 hgrow5 hat5; have hx5 := (hgrow5.block gx (by omega) (by simp [Value.ownBlock])).trans HBL0.out; have j0 := (blk_cell hx5 0).trans rfl; have j1 := (blk_cell hx5 1).trans rfl; have hgl5 := blk_lt hx5; have HX5 := Lib.hid hx5; have HL5 := Lib.hid (loc_zero (Loc.app HL0.out (Below.refl _ _) hown5 hgrow5 hat5 (by omega))); have hne5 := HL5.out.row.ne_type hx5 (by decide); have HNE5 := Lib.hid hne5; clear hown5 hgrow5 hat5 hx5 hne5) | (refine wpList_append_row _ (by rfl) _ _ _ _ (by rfl) 9 i0' (.string ⟨#[]⟩) 1 16 Try.underlying22 HII.out HZ0.out HZ1.out HZ2.out rfl (by omega) _ a _ (by rfl) (HL5.out.row.alloc _) _ (by rfl) 1 [.string h] (Feeds.slice Try.underlying22 ⟨w5.heap.size, 0, none⟩ 1 1 _ (by rfl) (by simp [Value.oneCell']) (World.news_of_block (cs := #[.string h]) (t := 9) (fr := (0, 0)) (get_top rfl))) (by unfold maxLen; omega) (by omega) (w5.heap.size + 1) (by simp) ?_; intro ao6 cap6 w6 hown6 hgrow6 hat6; have hx6 := (hgrow6.block gx (by have := blk_lt HX5.out; simp; omega) HNE5.out).trans (get_below HX5.out); have l0 := (blk_cell hx6 0).trans rfl; have l1 := (blk_cell hx6 1).trans rfl; have hgl6 := blk_lt hx6; have hl6 := Loc.app HL5.out ((Below.refl _ w5).alloc (Nat.le_refl _) _) hown6 hgrow6 hat6 (by omega); have HL6 := Lib.hid hl6; have hfc := ((HST6.out w6 hl6.below).back (a := a) (by rw [← HLL.out]; exact hal)).feeds; have hdl : (x.sides.drop a).length = p - a := (by rw [List.length_drop, ← HLL.out]); rw [hdl] at hfc; have HFC := Lib.hid hfc; have HX6 := Lib.hid hx6; clear hown6 hgrow6 hat6 hx6 hl6 hfc hdl) | (refine wpList_append_row _ (by rfl) _ _ _ _ (by rfl) 9 i0' (.string ⟨#[]⟩) 1 16 Try.underlying22 HII.out HZ0.out HZ1.out HZ2.out rfl (by omega) _ (a + 1) _ (by rfl) HL6.out.row _ (by rfl) (p - a) _ HFC.out (by unfold maxLen; omega) (by omega) w6.heap.size rfl ?_; intro ao7 cap7 w7 hown7 hgrow7 hat7; have HL7 := Lib.hid (Loc.app HL6.out (Below.refl _ _) hown7 hgrow7 hat7 (Nat.le_refl _)); clear hown7 hgrow7 hat7))
                  refine (rchk_step HI.out HV.out HQ.out HX.out HF.out HN2.out HA.out HLL.out rfl rfl HL7.out.row HL7.out.below).mono ?_
                  clear HFC HFA2 HL0 HL5 HL6 HL7
                  rintro e W8 ⟨r, rfl, hI3⟩
                  have HN32 := Lib.hid hI3.n32
                  have HI3 := Lib.hid hI3
                  clear hI3
                  go_wp2_with fail
                  go_roundg j
                  case measure => omega
                  case rel => exact ⟨q + 1, (n + 3) / 4, i / 4, r, HKJ.out, by go_num, congrArg (Value.int .i64) (by omega), congrArg (Value.int .i64) (by have := HIN.out; have := HI.out.n32; first | omega | exact wrap_div (by omega)), rfl, HI3.out⟩
          · have hbm5 : ¬ L = E := by have := HD4.out; omega
            have hbL : ((L : Int) != (E : Int)) = true := by simp; omega
            have hbL2 : (L != E) = true := by simp; omega
            have HC := Lib.hid (HNO.out (by rw [HFIT.out, decide_eq_false hLD, Bool.false_and, Bool.and_false]))
            subst hAa
            clear hLD
            go_wp2_with fail
            go_ret
            exact ⟨_, rfl, by rw [← HC.out]; exact HEND.out, HI.out.bel.trans (HBX.out.mono HI.out.bel.size)⟩
        · have hbA : (A != (a : Int)) = true := by simpa using hAa
          have HC := Lib.hid (HNO.out (by rw [HFIT.out, decide_eq_false hAa, Bool.false_and]))
          clear hAa
          go_wp2_with fail
          go_ret
          exact ⟨_, rfl, by rw [← HC.out]; exact HEND.out, HI.out.bel.trans (HBX.out.mono HI.out.bel.size)⟩
    · obtain rfl : gk = 0 := by omega
      obtain rfl : q = m := by omega
      have hc := hI.ext
      rw [List.drop_of_length_le (by rw [← HM.out]; exact Nat.le_refl _), chkF] at hc
      have HC := Lib.hid hc
      have HI := Lib.hid hI
      by_cases hn1 : n = 1
      · have HRT := Lib.hid (Topped_any g (n0 : Int) (by have := H45.out; omega) h wr (HV.out.below hI.bel) (by rw [hI.hs]; omega))
        clear hI hc hlt hkq
        subst hn1
        go_wp2_with fail
        refine HRT.out.mono ?_
        rintro e W2 ⟨rfl, hb⟩
        have HB := Lib.hid (HI.out.bel.trans (hb.mono HI.out.bel.size))
        have hbe := str_beq2 (shaF (rootT (n0 : Int) h)) top
        have hR : R = decide (shaF (rootT (n0 : Int) h) = top) := by rw [HC.out]; simp
        have hbR := HEND.out
        rw [hR] at hbR
        generalize shaF (rootT (n0 : Int) h) = r at hbe hbR ⊢
        obtain ⟨bb, hbb⟩ : ∃ b, b = decide (r = top) := ⟨_, rfl⟩
        rw [← hbb] at hbe hbR
        have HBR := Lib.hid hbR
        clear hb HRT hbb hbR hR
        go_wp2_with fail
        go_ret
        exact ⟨_, rfl, HBR.out, HB.out⟩
      · have hn2 : ((n : Int) == 1) = false := by simp; omega
        have hn3 : ¬ n = 1 := hn1
        have HC2 := Lib.hid (show R = false by rw [HC.out, decide_eq_false hn1]; rfl)
        clear hI hc hlt hkq hn1
        go_wp2_with fail
        go_ret
        exact ⟨_, rfl, by rw [← HC2.out]; exact HEND.out, HI.out.bel⟩
end Go.Proofs.Ytjoilobbopdcpaa.B
