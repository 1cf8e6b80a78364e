/-
  A vault in memory, its hash by a contract; the ideal one, walked.
-/
import Derived.Test.YtjoilobbopdcpaaVault
import Derived.RegionTactic
import Derived.ChangeAlike
namespace Go.Proofs.Ytjoilobbopdcpaa.B
open Go.RowKit
set_option linter.unusedVariables false
set_option linter.unusedSimpArgs false

/-- The vault whose block is g; k: the real one by its hash, or none: the ideal one, that has numbered ks (its map's block: gh). All lies below B. -/
def Vlt (W : World) (B g gh : Nat) (k : Option (ByteArray → ByteArray)) (ks : List ByteArray) : Prop :=
  B ≤ W.heap.size ∧ g < B ∧ gh < B ∧
  match k with
  | none => ∃ gi gm gs, gi < B ∧ g ≠ gh ∧ gi ≠ gh ∧ W.heap[g]? = some (.cells #[.pointer none, .pointer (some ⟨gi, 0, none⟩)] 66 (0, 0)) ∧ W.heap[gi]? = some (.cells #[.map (some gh), .map (some gm), .map (some gs)] 63 (0, 0)) ∧ NumMap W gh ks
  | some _ => ∃ gr key, gr < B ∧ g ≠ gh ∧ gr ≠ gh ∧ W.heap[g]? = some (.cells #[.pointer (some ⟨gr, 0, none⟩), .pointer none] 66 (0, 0)) ∧ W.heap[gr]? = some (.cells #[.string key] 89 (0, 0))
/-- t has been hashed, and its hash is r. -/
def Hd (k : Option (ByteArray → ByteArray)) (ks : List ByteArray) (t r : ByteArray) : Prop :=
  match k with
  | none => t ∈ ks ∧ r = numberedS ((posOf ks t : Int) + 1) 32
  | some f => r = f t
theorem Hd.pre {k : Option (ByteArray → ByteArray)} {ks ks' : List ByteArray} {t r : ByteArray} (h : Hd k ks t r) (hp : ks <+: ks') : Hd k ks' t r := by
  cases k with
  | some f => exact h
  | none =>
    obtain ⟨ts, rfl⟩ := hp
    refine ⟨List.mem_append_left _ h.1, ?_⟩
    rw [posOf_app h.1]
    exact h.2
theorem Hd.fn {k : Option (ByteArray → ByteArray)} {ks : List ByteArray} {t r r' : ByteArray} (h : Hd k ks t r) (h' : Hd k ks t r') : r = r' := by
  cases k with
  | some f => exact h.trans h'.symm
  | none => exact h.2.trans h'.2.symm
theorem Vlt.same {W W' : World} {B g gh : Nat} {k : Option (ByteArray → ByteArray)} {ks : List ByteArray} (h : Vlt W B g gh k ks) (hs : W.heap.size ≤ W'.heap.size) (he : ∀ i, i < B → W'.heap[i]? = W.heap[i]?) : Vlt W' B g gh k ks := by
  obtain ⟨h1, h2, h3, h4⟩ := h
  refine ⟨Nat.le_trans h1 hs, h2, h3, ?_⟩
  cases k with
  | none =>
    obtain ⟨gi, gm, gs, a1, a2, a3, a4, a5, a6⟩ := h4
    exact ⟨gi, gm, gs, a1, a2, a3, (he _ h2).trans a4, (he _ a1).trans a5, a6.same (he _ h3)⟩
  | some f =>
    obtain ⟨gr, key, a1, a2, a3, a4, a5⟩ := h4
    exact ⟨gr, key, a1, a2, a3, (he _ h2).trans a4, (he _ a1).trans a5⟩
/-- What hashing may write: the ideal one's map. -/
def HS (k : Option (ByteArray → ByteArray)) (gh i : Nat) : Prop := k = none ∧ i = gh
/-- A run from w to w' that has hashed at most c texts more and written nothing else that was there. -/
structure Ran (B g gh : Nat) (k : Option (ByteArray → ByteArray)) (c : Nat) (ks ks' : List ByteArray) (w w' : World) : Prop where
  pre : ks <+: ks'
  len : ks'.length ≤ ks.length + c
  vlt : Vlt w' B g gh k ks'
  kp : Keeps (HS k gh) w w'
section
variable {B g gh : Nat} {k : Option (ByteArray → ByteArray)} {c d : Nat} {ks ks' ks2 : List ByteArray} {w w' w2 : World}
theorem Ran.refl (h : Vlt w B g gh k ks) : Ran B g gh k 0 ks ks w w := ⟨List.prefix_refl _, Nat.le_refl _, h, Keeps.refl _ _⟩
theorem Ran.trans (h : Ran B g gh k c ks ks' w w') (h' : Ran B g gh k d ks' ks2 w' w2) : Ran B g gh k (c + d) ks ks2 w w2 :=
  ⟨h.pre.trans h'.pre, by have := h.len; have := h'.len; omega, h'.vlt, h.kp.trans h'.kp (fun _ _ h => h)⟩
theorem Ran.mono (h : Ran B g gh k c ks ks' w w') (hc : c ≤ d) : Ran B g gh k d ks ks' w w' := ⟨h.pre, by have := h.len; omega, h.vlt, h.kp⟩
theorem Ran.below (h : Ran B g gh k c ks ks' w w') (hb : Below w'.heap.size w' w2) : Ran B g gh k c ks ks' w w2 :=
  ⟨h.pre, h.len, h.vlt.same hb.size (fun i hi => hb.block i (Nat.lt_of_lt_of_le hi h.vlt.1)), h.kp.trans (Keeps.of_below (S := HS k gh) hb) (fun _ _ h => h)⟩
theorem Ran.own (h : Ran B g gh k c ks ks' w w') {row : Option Nat} (hg : w'.grownBy w2 row) (hr : ∀ i, row = some i → w.heap.size ≤ i) (hB : B ≤ w.heap.size) : Ran B g gh k c ks ks' w w2 :=
  ⟨h.pre, h.len, h.vlt.same hg.size (fun i hi => hg.block i (Nat.lt_of_lt_of_le hi h.vlt.1) (fun e => by have := hr i e.symm; omega)),
   ⟨hg.os.trans h.kp.os, hg.tape.trans h.kp.tape, hg.output.trans h.kp.output, Nat.le_trans h.kp.size hg.size, fun i hi hn => (hg.block i (Nat.lt_of_lt_of_le hi h.kp.size) (fun e => by have := hr i e.symm; omega)).trans (h.kp.block i hi hn)⟩⟩
theorem Ran.set (h : Ran B g gh k c ks ks' w w') {p : Addr} (hp : w.heap.size ≤ p.block) (hB : B ≤ w.heap.size) (u : Value) : Ran B g gh k c ks ks' w (w'.setCell p u) :=
  ⟨h.pre, h.len, h.vlt.same (by simp [World.setCell]) (fun i hi => Below.heap_setCell _ _ _ _ (by omega)), h.kp.setCell (fun hlt => by omega) u⟩
theorem Ran.at_ (h : Ran B g gh k c ks ks' w w') {i : Nat} {o : Obj} (hi : w.heap[i]? = some o) (hn : i ≠ gh) : w'.heap[i]? = some o := h.kp.at_ hi (fun e => hn e.2)
end
/-- A row of the call's own (its block is b0 or behind it). -/
structure Own (b0 : Nat) (w : World) (e : TypeId) (size : Nat) (v : Value) (n : Nat) (xs : List Value) : Prop where
  row : Row w e size v n xs
  base : ∀ g, v.ownBlock = some g → b0 ≤ g
theorem Own.nil (b0 : Nat) (w : World) (e : TypeId) (size : Nat) : Own b0 w e size (.slice none 0 0) 0 [] := ⟨Row.nil _ _ _, by simp [Value.ownBlock]⟩
theorem Own.kept {b0 : Nat} {w w' : World} {e : TypeId} {size : Nat} {v : Value} {n : Nat} {xs : List Value} {S : Nat → Prop} (h : Own b0 w e size v n xs) (hk : Keeps S w w') (hS : ∀ i, b0 ≤ i → ¬ S i) : Own b0 w' e size v n xs :=
  ⟨h.row.kept hk (fun i hi => hS i (h.base i hi)), h.base⟩
theorem Own.step {b0 : Nat} {w w' : World} {e : TypeId} {size : Nat} {v : Value} {n : Nat} {xs : List Value} (h : Own b0 w e size v n xs) (hb : Below w.heap.size w w') : Own b0 w' e size v n xs :=
  h.kept (Keeps.of_below (S := fun _ => False) hb) (fun _ _ h => h)
theorem Own.app {b0 : Nat} {w1 : World} {e : TypeId} {size : Nat} {v : Value} {n m cap H : Nat} {xs news : List Value} {ao : Option Addr} (h : ∀ g, v.ownBlock = some g → b0 ≤ g)
    (hown : Row w1 e size (.slice ao (n + m) cap) (n + m) (xs ++ news)) (hat : (Value.slice ao (n + m) cap).ownBlock = v.ownBlock ∨ (Value.slice ao (n + m) cap).ownBlock = some H) (hH : b0 ≤ H) : Own b0 w1 e size (.slice ao (n + m) cap) (n + m) (xs ++ news) := by
  refine ⟨hown, fun g hg => ?_⟩
  rcases hat with e | e
  · exact h g (by rw [← e]; exact hg)
  · rw [hg] at e; cases e; exact hH

/-- Hash, by what it says. -/
def HashOk (k : Option (ByteArray → ByteArray)) : Prop := ∀ (B g gh : Nat) (ks : List ByteArray) (s : ByteArray) (w : World), Vlt w B g gh k ks → s.size ≤ 100000 → ks.length < 1000000000000 →
  Calls Try.prog 39 #[.pointer (some ⟨g, 0, none⟩), .string s] w fun e w' => ∃ ks' r, e = .returned (.string r) ∧ Hd k ks' s r ∧ Ran B g gh k 1 ks ks' w w'

set_option maxRecDepth 100000 in
theorem none_ideal (g gi : Nat) (w : World) (h : w.heap[g]? = some (.cells #[.pointer none, .pointer (some ⟨gi, 0, none⟩)] 66 (0, 0))) :
    Calls Try.prog 46 #[.pointer (some ⟨g, 0, none⟩)] w fun e w' => e = .returned (.bool false) ∧ w' = w := by
  have c0 := (blk_cell h 0).trans rfl
  have c1 := (blk_cell h 1).trans rfl
  clear h
  go_enter Try.func46, Try.ntmps46
  go_wp2
  go_ret
  exact ⟨rfl, rfl⟩
set_option maxRecDepth 100000 in
theorem ideal_hash (gi gh : Nat) (m2 m3 : Value) (ks : List ByteArray) (s : ByteArray) (hs : s.size ≤ maxLen) (w : World) (h : w.heap[gi]? = some (.cells #[.map (some gh), m2, m3] 63 (0, 0))) (hm : NumMap w gh ks) (hn : ks.length < 1000000000000) :
    Calls Try.prog 47 #[.pointer (some ⟨gi, 0, none⟩), .string s] w fun e w' => e = .returned (.string (numberedS ((posOf ks s : Int) + 1) 32)) ∧ NumMap w' gh (addTo ks s) ∧ Keeps (fun i => i = gh) w w' := by
  have c0 := (blk_cell h 0).trans rfl
  have HC := Lib.hid (count_any gh ks s hs w hm hn)
  have hp : posOf ks s ≤ ks.length := by
    by_cases hh : s ∈ ks
    · exact Nat.le_of_lt (posOf_lt hh)
    · rw [posOf_not hh]; exact Nat.le_refl _
  have HN := Lib.hid (fun W => numbered_any ((posOf ks s : Int) + 1) 32 (by omega) (by omega) W)
  clear h hm hp
  go_enter Try.func47, Try.ntmps47
  go_wp2_with fail
  refine HC.out.mono ?_
  rintro e W1 ⟨rfl, hm1, hk1⟩
  have HM1 := Lib.hid hm1
  have HK1 := Lib.hid hk1
  clear hm1 hk1 HC
  go_wp2_with fail
  refine (HN.out W1).mono ?_
  rintro e W2 ⟨rfl, hb2⟩
  have HM2 := Lib.hid (HM1.out.same (hb2.block gh HM1.out.lt))
  have HK2 := Lib.hid (HK1.out.trans (Keeps.of_below (S := fun i => i = gh) hb2) (fun _ _ h => h))
  clear hb2 HN
  go_wp2_with fail
  go_ret
  exact ⟨rfl, HM2.out, HK2.out⟩
set_option maxRecDepth 100000 in
theorem hash_ideal : HashOk none := by
  intro B g gh ks s w h hs hn
  obtain ⟨h1, h2, h3, gi, gm, gs, a1, a2, a3, a4, a5, a6⟩ := h
  have c0 := (blk_cell a4 0).trans rfl
  have c1 := (blk_cell a4 1).trans rfl
  have HNO := Lib.hid (none_ideal g gi w a4)
  have HH := Lib.hid (ideal_hash gi gh _ _ ks s (by unfold maxLen; omega) w a5 a6 hn)
  have HA := Lib.hid (And.intro h1 (And.intro h2 (And.intro h3 (And.intro a1 (And.intro a2 (And.intro a3 (And.intro a4 a5)))))))
  clear h1 h2 h3 a1 a2 a3 a4 a5 a6
  go_enter Try.func39, Try.ntmps39
  go_wp2_with fail
  refine HNO.out.mono ?_
  rintro e W1 ⟨rfl, hw1⟩
  subst hw1
  go_wp2_with fail
  refine HH.out.mono ?_
  rintro e W2 ⟨rfl, hm2, hk2⟩
  have HM2 := Lib.hid hm2
  have HK2 := Lib.hid hk2
  clear hm2 hk2 HH HNO
  go_wp2_with fail
  go_ret
  obtain ⟨h1, h2, h3, a1, a2, a3, a4, a5⟩ := HA.out
  refine ⟨addTo ks s, _, rfl, ⟨mem_addTo ks s, by rw [posOf_addTo]⟩, addTo_pre ks s, addTo_len ks s, ⟨Nat.le_trans h1 HK2.out.size, h2, h3, gi, gm, gs, a1, a2, a3, HK2.out.at_ a4 a2, HK2.out.at_ a5 a3, HM2.out⟩, HK2.out.mono (fun _ _ h => ⟨rfl, h⟩)⟩
theorem NumMap.alloc {w : World} {b : Nat} {ks : List ByteArray} (h : NumMap w b ks) (o : Obj) : NumMap (w.alloc o) b ks := h.same (Below.heap_alloc _ _ _ h.lt)
set_option maxRecDepth 100000 in
theorem Ideal_any (w : World) :
    Calls Try.prog 13 #[] w fun e w' => ∃ g gh, e = .returned (.pointer (some ⟨g, 0, none⟩)) ∧ Vlt w' w'.heap.size g gh none [] ∧ Below w.heap.size w w' ∧ w.heap.size ≤ gh := by
  have hmm := @run_makeMap Try.prog
  go_enter Try.func13, Try.ntmps13
  go_wp2_with fail
  go_ret
  refine ⟨w.heap.size + 4, w.heap.size, rfl, ⟨Nat.le_refl _, by simp <;> omega, by simp <;> omega, w.heap.size + 3, w.heap.size + 1, w.heap.size + 2, by simp <;> omega, by omega, by omega, get_top (by simp), get_below (get_top (by simp)), ?_⟩, ?_, Nat.le_refl _⟩
  · exact ((((NumMap.made w).alloc _).alloc _).alloc _).alloc _
  · exact (((((Below.refl _ w).alloc (Nat.le_refl _) _).alloc (by simp) _).alloc (by simp; omega) _).alloc (by simp; omega) _).alloc (by simp; omega) _
end Go.Proofs.Ytjoilobbopdcpaa.B
