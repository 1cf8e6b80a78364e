/-
  shelf.Names and the document's, walked.
-/
import Derived.Test.YtdamlbkibhmepaaFind
namespace Go.Proofs.Ytdamlbkibhmepaa.B
open Go.RowKit
set_option linter.unusedVariables false
set_option linter.unusedSimpArgs false

def namesL (l : List Ent) : List Ent := l.filter (fun x => !free x)
theorem namesL_snoc (l : List Ent) (k : Nat) (h : k < l.length) : namesL (l.take (k + 1)) = namesL (l.take k) ++ (if free l[k] = true then [] else [l[k]]) := by
  rw [List.take_add_one, List.getElem?_eq_getElem h]
  simp only [namesL, Option.toList_some, List.filter_append]
  congr 1
  by_cases hf : free l[k] = true <;> simp [hf]
theorem namesL_length (l : List Ent) (k : Nat) : (namesL (l.take k)).length ≤ k := by
  have := List.length_filter_le (fun x => !free x) (l.take k)
  rw [List.length_take] at this
  unfold namesL
  omega
/-- A round: the entries that came in; what was gathered. -/
structure OutI (w : World) (v : Value) (l : List Ent) (k : Nat) (out : Value) (W : World) : Prop where
  row : EntRow W v l
  out : Loc w W 37 3 out (namesL (l.take k)).length (ecells (namesL (l.take k)))
theorem OutI.skip {w W W1 : World} {v out : Value} {l : List Ent} {k : Nat} (h : OutI w v l k out W) (hb : Below W.heap.size W W1) (hk : k < l.length) (hf : free l[k] = true) : OutI w v l (k + 1) out W1 := by
  refine ⟨h.row.below hb, ?_⟩
  rw [namesL_snoc l k hk, if_pos hf, List.append_nil]
  exact h.out.step hb
theorem OutI.app {w W W1 W2 : World} {l : List Ent} {k cap : Nat} {ao ao0 : Option Addr} {out : Value} (h : OutI w (.slice ao0 l.length cap) l k out W) (hl : ∀ b o, ao0 = some ⟨b, o, none⟩ → b < w.heap.size) (hb : Below W.heap.size W W1) (hk : k < l.length) {f : Ent} (hf : f = l[k]) (hn : free f = false) {cap2 Hh : Nat}
    (hown : Row W2 37 3 (.slice ao ((namesL (l.take k)).length + 1) cap2) ((namesL (l.take k)).length + 1) (ecells (namesL (l.take k)) ++ f.cells)) (hgrow : W1.grownBy W2 out.ownBlock)
    (hat : (Value.slice ao ((namesL (l.take k)).length + 1) cap2).ownBlock = out.ownBlock ∨ (Value.slice ao ((namesL (l.take k)).length + 1) cap2).ownBlock = some Hh) (hH : W.heap.size ≤ Hh) :
    OutI w (.slice ao0 l.length cap) l (k + 1) (.slice ao ((namesL (l.take k)).length + 1) cap2) W2 := by
  have hap := Loc.app h.out hb hown hgrow hat hH
  subst hf
  refine ⟨?_, ?_⟩
  · obtain ⟨ao', cap', he, h1, h2, h3⟩ := h.row
    refine ⟨ao', cap', he, h1, h2, fun h0 => ?_⟩
    obtain ⟨g, o, e, hg, hc⟩ := h3 h0
    simp at he
    obtain ⟨rfl, rfl⟩ := he
    have hgw := hl g o e
    refine ⟨g, o, e, Nat.lt_of_lt_of_le hgw hap.below.size, fun i x hx => ⟨(hc i x hx).1, fun j u hu => ?_⟩⟩
    rw [← (hc i x hx).2 j u hu]
    refine (World.cell?_of_block (w := W) ?_)
    rw [hap.below.block g hgw, h.out.below.block g hgw]
  · have hc : ecells (namesL (l.take k)) ++ (l[k]).cells = ecells (namesL (l.take (k + 1))) := by
      rw [namesL_snoc l k hk, if_neg (by simp [hn]), ecells_append]
      simp [ecells]
    have hlen : (namesL (l.take (k + 1))).length = (namesL (l.take k)).length + 1 := by
      rw [namesL_snoc l k hk, if_neg (by simp [hn])]; simp
    rw [hlen, ← hc]
    exact hap
theorem EntRow.at_ {w : World} {ao : Option Addr} {n cap : Nat} {l : List Ent} (h : EntRow w (.slice ao n cap) l) (h0 : 0 < l.length) : ∀ b o, ao = some ⟨b, o, none⟩ → b < w.heap.size := by
  intro b o he
  obtain ⟨g, o', e, hg, _⟩ := h.get (i := 0) h0
  rw [e] at he
  cases he
  exact hg
set_option maxRecDepth 100000 in
set_option maxHeartbeats 1600000 in
theorem Names_any (v : Value) (l : List Ent) (w : World) (h : EntRow w v l) (hsz : l.length ≤ 1000000) :
    Calls Try.prog 21 #[v] w fun e w' => ∃ v', e = .returned v' ∧ Loc w w' 37 3 v' (namesL l).length (ecells (namesL l)) := by
  obtain ⟨ao, cap, rfl, hcap, hmax⟩ := h.form
  have hu := Try.underlying37
  obtain ⟨n, hnl⟩ : ∃ n, n = l.length := ⟨_, rfl⟩
  have HAT := Lib.hid (fun h0 => h.at_ h0)
  have HI0 := Lib.hid (show OutI w (.slice ao l.length cap) l 0 (.slice none 0 0) w from ⟨h, by simp only [List.take_zero]; exact Loc.nil (Below.refl _ _) _ _⟩)
  rw [← hnl] at hcap hsz HI0
  rw [← hnl]
  have HN := Lib.hid hnl
  clear hnl h hmax
  go_enter Try.func21, Try.ntmps21
  go_wp2_with fail
  go_loopg [3, 8] n (fun j o i wr => ∃ (k : Nat) (v : Value), j + k = n ∧ i = .int .i64 (k : Int) ∧ o = v ∧ OutI w (.slice ao n cap) l k v wr)
  case atStart => exact ⟨0, _, by omega, rfl, rfl, HI0.out⟩
  case round =>
    clear HI0
    obtain ⟨k, v, hk, rfl, rfl, hI⟩ := hrel
    by_cases hlt : k < n
    · obtain ⟨j, rfl⟩ : ∃ j, gk = j + 1 := ⟨gk - 1, by omega⟩
      have hlen : k < l.length := by rw [← HN.out]; exact hlt
      obtain ⟨g, oo, rfl, hg, hwf, hc⟩ := hI.row.get (i := k) hlen
      have e1 := hc k hlen
      have hgd : l.getD k .zero = l[k] := by simp [List.getD, hlen]
      rw [hgd] at e1 hwf
      obtain ⟨f, hf⟩ : ∃ f, f = l[k] := ⟨_, rfl⟩
      rw [← hf] at e1 hwf
      have x0 : wr.cell? ⟨g, oo + k * 3, none⟩ = some (.string f.nm) := e1 0 _ rfl
      have x1 : wr.cell? ⟨g, oo + k * 3 + 1, none⟩ = some (.int .i64 f.a) := e1 1 _ rfl
      have x2 : wr.cell? ⟨g, oo + k * 3 + 2, none⟩ = some (.int .i64 f.b) := e1 2 _ rfl
      have HF := Lib.hid hf
      have u2 : (0 : Int) ≤ (k : Int) := by omega
      have u3 : (k : Int) < (n : Int) := by omega
      have hkj : j + (k + 1) = n := by omega
      have HKJ := Lib.hid hkj
      have hbe := str_empty f.nm
      obtain ⟨bb, hbb⟩ : ∃ b, b = free f := ⟨_, rfl⟩
      have HBB := Lib.hid hbb
      unfold free at hbb
      rw [← hbb] at hbe
      have hle := namesL_length l k
      obtain ⟨q, hq⟩ : ∃ q, q = (namesL (l.take k)).length := ⟨_, rfl⟩
      rw [← hq] at hle
      have hor := hI.out.row
      rw [← hq] at hor
      obtain ⟨ao2, cap2, rfl, hc2⟩ := hor.form
      have HQ := Lib.hid hq
      have HFC := Lib.hid hI
      have HLEN := Lib.hid hlen
      have HHAT := Lib.hid (HAT.out (by rw [← HN.out]; omega))
      have hqn : q ≤ 1000000 := by omega
      clear hI e1 hc hf hk hkj hlt hgd hbb hle hq hwf hor
      cases bb with
      | true =>
        go_wp2_with fail
        go_roundg j
        case measure => omega
        case rel => exact ⟨k + 1, _, HKJ.out, by go_num, rfl, by
          have := HN.out
          subst this
          exact HFC.out.skip ((Below.refl _ wr).alloc (Nat.le_refl _) _) HLEN.out (by rw [← HF.out]; exact HBB.out.symm)⟩
      | false =>
        obtain ⟨i0, hi, hz0, hz1, hz2⟩ := info_parts infoEntry
        have HII := Lib.hid hi
        have HZ0 := Lib.hid hz0
        have HZ1 := Lib.hid hz1
        have HZ2 := Lib.hid hz2
        have hrow := HFC.out.out.row
        rw [← HQ.out] at hrow
        have HROW := Lib.hid hrow
        clear hi hz0 hz1 hz2 hrow
        go_wp2_with (refine wpList_append_row _ (by rfl) _ _ _ _ (by rfl) 37 i0 (.agg #[.string ⟨#[]⟩, .int .i64 0, .int .i64 0]) 3 32 Try.underlying22 HII.out HZ0.out HZ1.out HZ2.out rfl (by omega) _ q _ (by rfl) ((HROW.out.alloc _).alloc _) _ (by rfl) 1 [.string f.nm, .int .i64 f.a, .int .i64 f.b] (Feeds.slice Try.underlying22 ⟨wr.heap.size + 1, 0, none⟩ 1 1 _ (by rfl) (by simp [Value.oneCell']) (World.news_of_block (cs := #[.string f.nm, .int .i64 f.a, .int .i64 f.b]) (t := 37) (fr := (0, 0)) (get_top (by simp)))) (by unfold maxLen; omega) (by omega) (wr.heap.size + 2) (by simp) ?_; intro ao5 cap5 w5 hown5 hgrow5 hat5; have HO5 := Lib.hid hown5; have HG5 := Lib.hid hgrow5; have HA5 := Lib.hid hat5; clear hown5 hgrow5 hat5)
        go_roundg j
        case measure => omega
        case rel => exact ⟨k + 1, _, HKJ.out, by go_num, rfl, by
          have := HN.out
          subst this
          have := HQ.out
          subst this
          exact OutI.app HFC.out HHAT.out (((Below.refl _ wr).alloc (Nat.le_refl _) _).alloc (by simp) _) HLEN.out HF.out HBB.out.symm HO5.out HG5.out HA5.out (by omega)⟩
    · obtain rfl : gk = 0 := by omega
      obtain rfl : k = n := by omega
      have hL := hI.out
      rw [List.take_of_length_le (by rw [← HN.out]; exact Nat.le_refl _)] at hL
      have HL := Lib.hid hL
      clear hI hL
      go_wp2_with fail
      go_ret
      exact ⟨_, rfl, HL.out⟩
set_option maxRecDepth 100000 in
set_option maxHeartbeats 1600000 in
theorem refNames_any (v : Value) (l : List Ent) (w : World) (h : EntRow w v l) (hsz : l.length ≤ 1000000) :
    Calls Try.prog 22 #[v] w fun e w' => ∃ v', e = .returned v' ∧ Loc w w' 37 3 v' (namesL l).length (ecells (namesL l)) := by
  obtain ⟨ao, cap, rfl, hcap, hmax⟩ := h.form
  have hu := Try.underlying37
  obtain ⟨n, hnl⟩ : ∃ n, n = l.length := ⟨_, rfl⟩
  have HAT := Lib.hid (fun h0 => h.at_ h0)
  have HI0 := Lib.hid (show OutI w (.slice ao l.length cap) l 0 (.slice none 0 0) w from ⟨h, by simp only [List.take_zero]; exact Loc.nil (Below.refl _ _) _ _⟩)
  rw [← hnl] at hcap hsz HI0
  rw [← hnl]
  have HN := Lib.hid hnl
  clear hnl h hmax
  go_enter Try.func22, Try.ntmps22
  go_wp2_with fail
  go_loopg [3, 4] n (fun j o i wr => ∃ (k : Nat) (v : Value), j + k = n ∧ i = .int .i64 (k : Int) ∧ o = v ∧ OutI w (.slice ao n cap) l k v wr)
  case atStart => exact ⟨0, _, by omega, rfl, rfl, HI0.out⟩
  case round =>
    clear HI0
    obtain ⟨k, v, hk, rfl, rfl, hI⟩ := hrel
    by_cases hlt : k < n
    · obtain ⟨j, rfl⟩ : ∃ j, gk = j + 1 := ⟨gk - 1, by omega⟩
      have hlen : k < l.length := by rw [← HN.out]; exact hlt
      obtain ⟨g, oo, rfl, hg, hwf, hc⟩ := hI.row.get (i := k) hlen
      have e1 := hc k hlen
      have hgd : l.getD k .zero = l[k] := by simp [List.getD, hlen]
      rw [hgd] at e1 hwf
      obtain ⟨f, hf⟩ : ∃ f, f = l[k] := ⟨_, rfl⟩
      rw [← hf] at e1 hwf
      have x0 : wr.cell? ⟨g, oo + k * 3, none⟩ = some (.string f.nm) := e1 0 _ rfl
      have x1 : wr.cell? ⟨g, oo + k * 3 + 1, none⟩ = some (.int .i64 f.a) := e1 1 _ rfl
      have x2 : wr.cell? ⟨g, oo + k * 3 + 2, none⟩ = some (.int .i64 f.b) := e1 2 _ rfl
      have HF := Lib.hid hf
      have u2 : (0 : Int) ≤ (k : Int) := by omega
      have u3 : (k : Int) < (n : Int) := by omega
      have hkj : j + (k + 1) = n := by omega
      have HKJ := Lib.hid hkj
      have hbe := str_empty f.nm
      obtain ⟨bb, hbb⟩ : ∃ b, b = free f := ⟨_, rfl⟩
      have HBB := Lib.hid hbb
      unfold free at hbb
      rw [← hbb] at hbe
      have hle := namesL_length l k
      obtain ⟨q, hq⟩ : ∃ q, q = (namesL (l.take k)).length := ⟨_, rfl⟩
      rw [← hq] at hle
      have hor := hI.out.row
      rw [← hq] at hor
      obtain ⟨ao2, cap2, rfl, hc2⟩ := hor.form
      have HQ := Lib.hid hq
      have HFC := Lib.hid hI
      have HLEN := Lib.hid hlen
      have HHAT := Lib.hid (HAT.out (by rw [← HN.out]; omega))
      have hqn : q ≤ 1000000 := by omega
      clear hI e1 hc hf hk hkj hlt hgd hbb hle hq hwf hor
      cases bb with
      | true =>
        go_wp2_with fail
        go_roundg j
        case measure => omega
        case rel => exact ⟨k + 1, _, HKJ.out, by go_num, rfl, by
          have := HN.out
          subst this
          exact HFC.out.skip (Below.refl _ wr) HLEN.out (by rw [← HF.out]; exact HBB.out.symm)⟩
      | false =>
        obtain ⟨i0, hi, hz0, hz1, hz2⟩ := info_parts infoEntry
        have HII := Lib.hid hi
        have HZ0 := Lib.hid hz0
        have HZ1 := Lib.hid hz1
        have HZ2 := Lib.hid hz2
        have hrow := HFC.out.out.row
        rw [← HQ.out] at hrow
        have HROW := Lib.hid hrow
        clear hi hz0 hz1 hz2 hrow
        go_wp2_with (refine wpList_append_row _ (by rfl) _ _ _ _ (by rfl) 37 i0 (.agg #[.string ⟨#[]⟩, .int .i64 0, .int .i64 0]) 3 32 Try.underlying22 HII.out HZ0.out HZ1.out HZ2.out rfl (by omega) _ q _ (by rfl) ((HROW.out.alloc _)) _ (by rfl) 1 [.string f.nm, .int .i64 f.a, .int .i64 f.b] (Feeds.slice Try.underlying22 ⟨wr.heap.size, 0, none⟩ 1 1 _ (by rfl) (by simp [Value.oneCell']) (World.news_of_block (cs := #[.string f.nm, .int .i64 f.a, .int .i64 f.b]) (t := 37) (fr := (0, 0)) (get_top (by simp)))) (by unfold maxLen; omega) (by omega) (wr.heap.size + 1) (by simp) ?_; intro ao5 cap5 w5 hown5 hgrow5 hat5; have HO5 := Lib.hid hown5; have HG5 := Lib.hid hgrow5; have HA5 := Lib.hid hat5; clear hown5 hgrow5 hat5)
        go_roundg j
        case measure => omega
        case rel => exact ⟨k + 1, _, HKJ.out, by go_num, rfl, by
          have := HN.out
          subst this
          have := HQ.out
          subst this
          exact OutI.app HFC.out HHAT.out (((Below.refl _ wr).alloc (Nat.le_refl _) _)) HLEN.out HF.out HBB.out.symm HO5.out HG5.out HA5.out (by omega)⟩
    · obtain rfl : gk = 0 := by omega
      obtain rfl : k = n := by omega
      have hL := hI.out
      rw [List.take_of_length_le (by rw [← HN.out]; exact Nat.le_refl _)] at hL
      have HL := Lib.hid hL
      clear hI hL
      go_wp2_with fail
      go_ret
      exact ⟨_, rfl, HL.out⟩
end Go.Proofs.Ytdamlbkibhmepaa.B
