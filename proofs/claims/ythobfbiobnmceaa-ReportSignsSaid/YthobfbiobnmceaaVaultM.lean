/-
  The ideal vault's marks: a map that numbers pairs of texts; count, numbered, mac, made, walked.
-/
import Derived.Test.YthobfbiobnmceaaPadE
import Derived.Maps.Own
import Derived.Maps.OwnOps
import Derived.Maps.OwnSet
import Derived.Maps.Views
import Derived.DeepKeys4
namespace Go.Proofs.Ythobfbiobnmceaa.B
open Go.RowKit
set_option linter.unusedVariables false
set_option linter.unusedSimpArgs false

section
variable {α : Type} [DecidableEq α]
/-- A thing's place; behind the last one, if it is not there. -/
def posOf : List α → α → Nat
  | [], _ => 0
  | x :: r, s => if x = s then 0 else posOf r s + 1
def isIn (ks : List α) (s : α) : Bool := decide (s ∈ ks)
theorem isIn_eq (ks : List α) (s : α) : isIn ks s = true ↔ s ∈ ks := by simp [isIn]
theorem isIn_no {ks : List α} {s : α} (h : s ∉ ks) : isIn ks s = false := by simp [isIn, h]
theorem isIn_app (ks : List α) (s t : α) : isIn (ks ++ [s]) t = (isIn ks t || decide (t = s)) := by simp [isIn]
def addTo (ks : List α) (s : α) : List α := if s ∈ ks then ks else ks ++ [s]
theorem posOf_lt {ks : List α} {s : α} (h : s ∈ ks) : posOf ks s < ks.length := by
  induction ks with
  | nil => simp at h
  | cons x r ih =>
    rw [posOf]
    split
    · simp
    · rename_i hx
      rcases List.mem_cons.1 h with rfl | h
      · exact absurd rfl hx
      · have := ih h; simp; omega
theorem posOf_not {ks : List α} {s : α} (h : s ∉ ks) : posOf ks s = ks.length := by
  induction ks with
  | nil => rfl
  | cons x r ih =>
    rw [posOf, if_neg (fun e => h (by simp [e])), ih (fun hm => h (by simp [hm]))]
    rfl
theorem posOf_app {ks : List α} {s : α} (h : s ∈ ks) (ts : List α) : posOf (ks ++ ts) s = posOf ks s := by
  induction ks with
  | nil => simp at h
  | cons x r ih =>
    rw [List.cons_append, posOf, posOf]
    split
    · rfl
    · rename_i hx
      rcases List.mem_cons.1 h with rfl | h
      · exact absurd rfl hx
      · rw [ih h]
theorem posOf_get {ks : List α} {s : α} (h : s ∈ ks) : ks[posOf ks s]? = some s := by
  induction ks with
  | nil => simp at h
  | cons x r ih =>
    rw [posOf]
    split
    · rename_i hx; simp [hx]
    · rename_i hx
      rcases List.mem_cons.1 h with rfl | h
      · exact absurd rfl hx
      · simpa using ih h
theorem posOf_inj {ks : List α} {s t : α} (hs : s ∈ ks) (ht : t ∈ ks) (h : posOf ks s = posOf ks t) : s = t := by
  have := posOf_get hs
  rw [h, posOf_get ht] at this
  exact (Option.some.inj this).symm
theorem addTo_in {ks : List α} {s : α} (h : s ∈ ks) : addTo ks s = ks := by rw [addTo, if_pos h]
theorem addTo_not {ks : List α} {s : α} (h : s ∉ ks) : addTo ks s = ks ++ [s] := by rw [addTo, if_neg h]
theorem mem_addTo (ks : List α) (s : α) : s ∈ addTo ks s := by unfold addTo; split <;> simp_all
theorem addTo_pre (ks : List α) (s : α) : ks <+: addTo ks s := by unfold addTo; split <;> simp
theorem addTo_len (ks : List α) (s : α) : (addTo ks s).length ≤ ks.length + 1 := by unfold addTo; split <;> simp
theorem posOf_addTo (ks : List α) (s : α) : posOf (addTo ks s) s = posOf ks s := by
  unfold addTo
  split
  · rfl
  · rename_i h
    rw [posOf_not h]
    have : ∀ ks : List α, s ∉ ks → posOf (ks ++ [s]) s = ks.length := by
      intro ks
      induction ks with
      | nil => intro _; simp [posOf]
      | cons x r ih =>
        intro h
        rw [List.cons_append, posOf, if_neg (fun e => h (by simp [e])), ih (fun hm => h (by simp [hm]))]
        rfl
    exact this ks h

end
/-! ### The map -/
abbrev Pr := ByteArray × ByteArray
/-- The key of a pair. -/
def kv (p : Pr) : Value := .agg #[.string p.1, .string p.2]
def kl (p : Pr) : Lit := .string (keyBytes [.string p.1.data.toList, .string p.2.data.toList])
def small (p : Pr) : Prop := p.1.size ≤ maxLen ∧ p.2.size ≤ maxLen
theorem laidOutM : laidOutB Try.prog = true := by kernel_rfl
theorem keyed : Go.Maps.Keyed Try.prog 106 :=
  Go.Maps.Keyed.of_law (deep_law_laid laidOutM (m := 2) (by omega) (of_decide_eq_true (by kernel_rfl)) (by kernel_rfl) (by kernel_rfl))
theorem keyTypeM : Try.prog.keyType 106 = true := by kernel_rfl
theorem cellsM : Try.prog.cellsOf 106 = 2 := by kernel_rfl
theorem cellsS : Try.prog.cellsOf 9 = 1 := by kernel_rfl
theorem lits_str (d : Nat) (s : ByteArray) (hs : s.size ≤ maxLen) : Try.prog.keyLits (d + 1) 9 [.string s] = some [.string s.data.toList] := by
  unfold Program.keyLits
  simp [Try.underlying9, hs]
theorem keyM {p : Pr} (hp : small p) : keyOf Try.prog 106 (kv p) = some (kl p) := by
  have hu := Try.underlying106
  obtain ⟨d, hd⟩ : ∃ d, Try.prog.types.size + 1 = d + 1 + 1 := ⟨Try.prog.types.size - 1, by have : 0 < Try.prog.types.size := of_decide_eq_true (by kernel_rfl); omega⟩
  have h1 := lits_str d p.1 hp.1
  have h2 := lits_str d p.2 hp.2
  have hl : Try.prog.keyLits (Try.prog.types.size + 1) 106 [.string p.1, .string p.2] = some [.string p.1.data.toList, .string p.2.data.toList] := by
    rw [hd]
    unfold Program.keyLits
    simp only [hu]
    simp [cellsM, cellsS, h1, h2]
  unfold keyOf
  simp only [hu]
  have hf : (kv p).formed Try.prog 106 = true := by simp [kv, Value.formed, hu, cellsM]
  rw [keyTypeM, hf]
  have hc : (kv p).cells.toList = [.string p.1, .string p.2] := rfl
  simp only [Bool.and_self, if_true, hc, hl, Option.map_some]
  rfl
theorem kl_inj {p q : Pr} (hp : small p) (hq : small q) (h : kl p = kl q) : p = q := by
  have h1 := keyM hp
  have h2 := keyM hq
  rw [h] at h1
  have := keyed.inj h1 h2
  simp only [kv, Value.agg.injEq] at this
  simp at this
  exact Prod.ext this.1 this.2
theorem zeroInt (w : World) : (zeroValue 3).run Try.prog w = .ok (.int .i64 0) w := by kernel_rfl
/-- Block b is a map that numbers the pairs ks. -/
def MarkMap (w : World) (b : Nat) (ks : List Pr) : Prop :=
  (∀ p ∈ ks, small p) ∧
  ∃ D : DataW Unit, w.ownsMap Try.prog 106 (plainElem Try.prog 3) b ks.length D ∧ Go.Maps.Tidy D ∧ Go.Maps.size D = ks.length ∧ (∀ s, small s → Go.Maps.has D (kl s) = isIn ks s) ∧ ∀ s, s ∈ ks → D.atKey (kl s) (.lit (.int .i64 0)) = .lit (.int .i64 (posOf ks s + 1))
theorem MarkMap.made (w : World) : MarkMap (w.alloc (.map #[] 0)) w.heap.size [] :=
  ⟨fun _ h => by simp at h, _, World.ownsMap_made _ _ _ _, Go.Maps.tidy_empty, rfl, fun _ _ => by simp [Go.Maps.has, isIn], fun _ h => by simp at h⟩
theorem MarkMap.lt {w : World} {b : Nat} {ks : List Pr} (h : MarkMap w b ks) : b < w.heap.size := by
  obtain ⟨_, D, h1, _⟩ := h
  exact h1.lt
theorem MarkMap.same {w w' : World} {b : Nat} {ks : List Pr} (h : MarkMap w b ks) (he : w'.heap[b]? = w.heap[b]?) : MarkMap w' b ks := by
  obtain ⟨hs0, D, ⟨es, clock, hb, F, hs, hD⟩, h2⟩ := h
  exact ⟨hs0, D, ⟨es, clock, he.trans hb, F, hs, hD⟩, h2⟩
theorem MarkMap.look {w : World} {b : Nat} {ks : List Pr} (h : MarkMap w b ks) {s : Pr} (hs : small s) : ∃ c : Int, (s ∈ ks → c = posOf ks s + 1) ∧ (Instr.lookup 72 (.map (some b)) (kv s) true).run Try.prog w = .ok (.tuple #[.int .i64 c, .bool (isIn ks s)]) w := by
  obtain ⟨_, D, h1, h2, h3, h4, h5⟩ := h
  obtain ⟨v, ps, hrun, hv⟩ := h1.look_ok keyed Try.underlying72 (zeroInt w) (plainElem_int Try.underlying3 (by decide)) (keyM hs)
  obtain ⟨c, rfl, hc, _⟩ := plainElem_int_inv Try.underlying3 hv
  have h4' := h4 s hs
  refine ⟨c, fun hm => ?_, by rw [hrun, h4']⟩
  have := h5 s hm
  have hc' := congrArg Prod.fst hc
  simp only at hc'
  rw [this] at hc'
  simpa using hc'.symm
theorem MarkMap.len {w : World} {b : Nat} {ks : List Pr} (h : MarkMap w b ks) (ty : TypeId) : (Builtin.len_ #[72] ty #[.map (some b)]).run Try.prog w = .ok (.int .i64 ks.length) w := by
  obtain ⟨_, D, h1, h2, h3, h4, h5⟩ := h
  rw [h1.len Try.underlying72 ty, h3]
theorem MarkMap.put {w : World} {b : Nat} {ks : List Pr} (h : MarkMap w b ks) {s : Pr} (hs : small s) (hn : ks.length < 1000000000000) (hm : s ∉ ks) :
    ∃ w', (Instr.mapUpdate 72 (.map (some b)) (kv s) (.int .i64 ((ks.length : Int) + 1))).run Try.prog w = .ok () w' ∧ MarkMap w' b (ks ++ [s]) ∧ w.grownBy w' (some b) := by
  obtain ⟨h0, D, h1, h2, h3, h4, h5⟩ := h
  have hwf : (Lit.int .i64 ((ks.length : Int) + 1)).wf = true := WalkArith.wf_i64 (by omega)
  obtain ⟨w', hrun, r1, r2⟩ := h1.update keyed Try.underlying72 (by unfold maxLen; omega) (keyM hs) (plainElem_int Try.underlying3 hwf)
  have hk : WideAt.IsKeyLit (kl s) := by simp [kl, WideAt.IsKeyLit]
  have hno : Go.Maps.has D (kl s) = false := by rw [h4 s hs]; exact isIn_no hm
  refine ⟨w', hrun, ⟨fun p hp => ?_, _, by rw [List.length_append]; exact r1, h2.put hk _, ?_, fun t ht0 => ?_, fun t ht => ?_⟩, r2⟩
  · rcases List.mem_append.1 hp with hp | hp
    · exact h0 p hp
    · rw [List.mem_singleton.1 hp]; exact hs
  · have := Go.Maps.size_put (k := kl s) h2 (.lit (.int .i64 ((ks.length : Int) + 1)))
    rw [hno, h3] at this
    rw [List.length_append]
    simpa using this
  · by_cases hts : t = s
    · subst hts
      have := Go.Maps.has_put_same (k := kl t) h2.isMap hk (.lit (.int .i64 ((ks.length : Int) + 1)))
      rw [isIn_app]
      simpa using this
    · have := Go.Maps.has_put_other (D := D) (k := kl s) (k' := kl t) (fun he => hts (kl_inj ht0 hs he)) (.lit (.int .i64 ((ks.length : Int) + 1)))
      rw [h4 t ht0] at this
      rw [this, isIn_app]
      simp [hts]
  · by_cases hts : t = s
    · subst hts
      have := Go.Maps.atKey_put_same (k := kl t) h2.isMap hk (.lit (.int .i64 ((ks.length : Int) + 1))) (.lit (.int .i64 0))
      have hp := posOf_addTo ks t
      rw [addTo_not hm, posOf_not hm] at hp
      rw [hp]
      exact this
    · have hin : t ∈ ks := by simpa [hts] using ht
      have := Go.Maps.atKey_put_other (D := D) (k := kl s) (k' := kl t) (fun he => hts (kl_inj (h0 t hin) hs he)) (.lit (.int .i64 ((ks.length : Int) + 1))) (.lit (.int .i64 0))
      rw [h5 t hin] at this
      rw [posOf_app hin]
      exact this

theorem wpList_mapUpdate_run2 {P : Program} {w w1 : World} {ops : Array Oper} {rest : List Oper} {o : Oper} {a : Act} {Q : Exit → Act → World → Prop} (hg : o.guard = none) (m x v : Operand) (t : TypeId) (hop : o.op = Op.mapUpdate t m x v)
    (mv xv vv : Value) (hm : a.eval m = mv) (hx : a.eval x = xv) (hv : a.eval v = vv) (hrun : (Instr.mapUpdate t mv xv vv).run P w = .ok () w1) (h : wpList P ops Q rest (a.put o.dst undef) w1) : wpList P ops Q (o :: rest) a w := by
  refine wpList_plain hg fun K' hK' => ?_
  unfold Oper.wp
  simp [execOp, hop, hm, hx, hv, hrun, Result.andThen]
  exact hK' _ _ h
set_option maxRecDepth 100000 in
theorem count_any (b : Nat) (ks : List Pr) (s : Pr) (hs : small s) (w : World) (h : MarkMap w b ks) (hn : ks.length < 1000000000000) :
    Calls Try.prog 51 #[.map (some b), .agg #[.string s.1, .string s.2]] w fun e w' => e = .returned (.int .i64 ((posOf ks s : Int) + 1)) ∧ MarkMap w' b (addTo ks s) ∧ Keeps (fun i => i = b) w w' := by
  obtain ⟨a, c0⟩ := s
  have hal := (Below.refl _ w).alloc (Nat.le_refl _) (.cells #[.string a, .string c0] 106 (0, 0))
  have h0 := h.same (hal.block b h.lt)
  have hlk := Keeps.of_below (S := fun i => i = b) hal
  obtain ⟨c, hc, hlook⟩ := h0.look hs
  unfold kv at hlook
  have hlen := h0.len
  have hu := Try.underlying106
  by_cases hm : (a, c0) ∈ ks
  · obtain rfl := hc hm
    have HP := Lib.hid (addTo_in hm)
    have H := Lib.hid h0
    have HK := Lib.hid hlk
    rw [(isIn_eq ks _).2 hm] at hlook
    clear hc hm h h0 hal hlk
    go_enter Try.func51, Try.ntmps51
    go_wp2_with fail
    go_ret
    rw [HP.out]
    exact ⟨rfl, H.out, HK.out⟩
  · have HP := Lib.hid (addTo_not hm)
    have HQ := Lib.hid (posOf_not hm)
    obtain ⟨w1, hput, hm1, hg1⟩ := h0.put hs hn hm
    unfold kv at hput
    have HM1 := Lib.hid hm1
    have HG1 := Lib.hid hg1
    have HPUT := Lib.hid hput
    have HK := Lib.hid hlk
    have hw1 : wrap64 ((ks.length : Int) + 1) = (ks.length : Int) + 1 := IntWalk.wrap64_in _ ⟨by omega, by omega⟩
    rw [isIn_no hm] at hlook
    clear hc hm h h0 hm1 hg1 hput hal hlk
    go_enter Try.func51, Try.ntmps51
    go_wp2_with (at_mapUpdate; refine wpList_mapUpdate_run2 (by rfl) _ _ _ _ (by rfl) _ _ _ (by rfl) (by rfl) (by rfl) HPUT.out ?_)
    go_ret
    rw [HP.out, HQ.out]
    exact ⟨rfl, HM1.out, HK.out.trans (Keeps.of_grown (S := fun i => i = b) HG1.out (fun k hk => (Option.some.inj hk).symm)) (fun _ _ h => h)⟩
/-- A number as so many bytes. -/
def numberedS (n : Int) (size : Int) : ByteArray := (padSpec (putSpec n 6).1 size).1
theorem putSpec_small (n : Int) : (putSpec n 6).1.size ≤ 6 := by
  unfold putSpec
  split
  · exact Nat.zero_le _
  · split
    · rw [strOfNums_size, le_length]; exact Nat.le_refl _
    · exact Nat.zero_le _
set_option maxRecDepth 100000 in
theorem numbered_any (n size : Int) (hn : -9223372036854775808 ≤ n) (hn2 : n ≤ 9223372036854775807) (w : World) :
    Calls Try.prog 50 #[.int .i64 n, .int .i64 size] w fun e w' => e = .returned (.string (numberedS n size)) ∧ Below w.heap.size w w' := by
  have HP := Lib.hid (Put_any n 6 hn hn2 w)
  have HQ := Lib.hid (fun W => Pad_any (putSpec n 6).1 size (by have := putSpec_small n; omega) W)
  unfold numberedS
  obtain ⟨⟨t, e1⟩, ht⟩ : ∃ q, q = putSpec n 6 := ⟨_, rfl⟩
  rw [← ht] at HP HQ ⊢
  simp only at HQ ⊢
  obtain ⟨⟨u, e2⟩, hu⟩ : ∃ q, q = padSpec t size := ⟨_, rfl⟩
  rw [← hu] at HQ ⊢
  clear ht hu
  go_enter Try.func50, Try.ntmps50
  go_wp2_with fail
  refine HP.out.mono ?_
  rintro e W1 ⟨rfl, hb1⟩
  have HB1 := Lib.hid hb1
  clear hb1 HP
  go_wp2_with fail
  refine (HQ.out W1).mono ?_
  rintro e W2 ⟨rfl, hb2⟩
  have HB2 := Lib.hid (HB1.out.trans (hb2.mono HB1.out.size))
  clear hb2 HQ
  go_wp2_with fail
  go_ret
  exact ⟨rfl, HB2.out⟩
end Go.Proofs.Ythobfbiobnmceaa.B
