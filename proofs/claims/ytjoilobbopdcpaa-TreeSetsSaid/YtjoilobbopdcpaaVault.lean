/-
  The ideal vault's hashes: a map that numbers texts; count, numbered, hash, walked.
-/
import Derived.Test.YtjoilobbopdcpaaPutPad
import Derived.Maps.Own
import Derived.Maps.OwnOps
import Derived.Maps.OwnSet
import Derived.Maps.Views
namespace Go.Proofs.Ytjoilobbopdcpaa.B
open Go.RowKit
set_option linter.unusedVariables false
set_option linter.unusedSimpArgs false

section
variable {α : Type} [DecidableEq α]
/-- A thing's place; behind the last one, if it is not there. -/
def posOf : List α → α → Nat
  | [], _ => 0
  | x :: r, s => if x = s then 0 else posOf r s + 1
def isIn (ks : List α) (s : α) : Bool := decide (s ∈ ks)
theorem isIn_eq (ks : List α) (s : α) : isIn ks s = true ↔ s ∈ ks := by simp [isIn]
theorem isIn_no {ks : List α} {s : α} (h : s ∉ ks) : isIn ks s = false := by simp [isIn, h]
theorem isIn_app (ks : List α) (s t : α) : isIn (ks ++ [s]) t = (isIn ks t || decide (t = s)) := by simp [isIn]
def addTo (ks : List α) (s : α) : List α := if s ∈ ks then ks else ks ++ [s]
theorem posOf_lt {ks : List α} {s : α} (h : s ∈ ks) : posOf ks s < ks.length := by
  induction ks with
  | nil => simp at h
  | cons x r ih =>
    rw [posOf]
    split
    · simp
    · rename_i hx
      rcases List.mem_cons.1 h with rfl | h
      · exact absurd rfl hx
      · have := ih h; simp; omega
theorem posOf_not {ks : List α} {s : α} (h : s ∉ ks) : posOf ks s = ks.length := by
  induction ks with
  | nil => rfl
  | cons x r ih =>
    rw [posOf, if_neg (fun e => h (by simp [e])), ih (fun hm => h (by simp [hm]))]
    rfl
theorem posOf_app {ks : List α} {s : α} (h : s ∈ ks) (ts : List α) : posOf (ks ++ ts) s = posOf ks s := by
  induction ks with
  | nil => simp at h
  | cons x r ih =>
    rw [List.cons_append, posOf, posOf]
    split
    · rfl
    · rename_i hx
      rcases List.mem_cons.1 h with rfl | h
      · exact absurd rfl hx
      · rw [ih h]
theorem posOf_get {ks : List α} {s : α} (h : s ∈ ks) : ks[posOf ks s]? = some s := by
  induction ks with
  | nil => simp at h
  | cons x r ih =>
    rw [posOf]
    split
    · rename_i hx; simp [hx]
    · rename_i hx
      rcases List.mem_cons.1 h with rfl | h
      · exact absurd rfl hx
      · simpa using ih h
theorem posOf_inj {ks : List α} {s t : α} (hs : s ∈ ks) (ht : t ∈ ks) (h : posOf ks s = posOf ks t) : s = t := by
  have := posOf_get hs
  rw [h, posOf_get ht] at this
  exact (Option.some.inj this).symm
theorem addTo_in {ks : List α} {s : α} (h : s ∈ ks) : addTo ks s = ks := by rw [addTo, if_pos h]
theorem addTo_not {ks : List α} {s : α} (h : s ∉ ks) : addTo ks s = ks ++ [s] := by rw [addTo, if_neg h]
theorem mem_addTo (ks : List α) (s : α) : s ∈ addTo ks s := by unfold addTo; split <;> simp_all
theorem addTo_pre (ks : List α) (s : α) : ks <+: addTo ks s := by unfold addTo; split <;> simp
theorem addTo_len (ks : List α) (s : α) : (addTo ks s).length ≤ ks.length + 1 := by unfold addTo; split <;> simp
theorem posOf_addTo (ks : List α) (s : α) : posOf (addTo ks s) s = posOf ks s := by
  unfold addTo
  split
  · rfl
  · rename_i h
    rw [posOf_not h]
    have : ∀ ks : List α, s ∉ ks → posOf (ks ++ [s]) s = ks.length := by
      intro ks
      induction ks with
      | nil => intro _; simp [posOf]
      | cons x r ih =>
        intro h
        rw [List.cons_append, posOf, if_neg (fun e => h (by simp [e])), ih (fun hm => h (by simp [hm]))]
        rfl
    exact this ks h

end
/-! ### The map -/
theorem keyed : Go.Maps.Keyed Try.prog 9 := Go.Maps.string_keyed Try.underlying9
theorem zeroInt (w : World) : (zeroValue 3).run Try.prog w = .ok (.int .i64 0) w := by kernel_rfl
def kl (s : ByteArray) : Lit := .string s.data.toList
theorem kl_inj {s t : ByteArray} (h : kl s = kl t) : s = t := by
  simp only [kl, Lit.string.injEq] at h
  exact ByteArray.ext (Array.toList_inj.mp h)
/-- Block b is a map that numbers the texts ks. -/
def NumMap (w : World) (b : Nat) (ks : List ByteArray) : Prop :=
  ∃ D : DataW Unit, w.ownsMap Try.prog 9 (plainElem Try.prog 3) b ks.length D ∧ Go.Maps.Tidy D ∧ Go.Maps.size D = ks.length ∧ (∀ s, Go.Maps.has D (kl s) = isIn ks s) ∧ ∀ s, s ∈ ks → D.atKey (kl s) (.lit (.int .i64 0)) = .lit (.int .i64 (posOf ks s + 1))
theorem NumMap.made (w : World) : NumMap (w.alloc (.map #[] 0)) w.heap.size [] :=
  ⟨_, World.ownsMap_made _ _ _ _, Go.Maps.tidy_empty, rfl, fun _ => by simp [Go.Maps.has, isIn], fun _ h => by simp at h⟩
theorem NumMap.lt {w : World} {b : Nat} {ks : List ByteArray} (h : NumMap w b ks) : b < w.heap.size := by
  obtain ⟨D, h1, _⟩ := h
  exact h1.lt
theorem NumMap.same {w w' : World} {b : Nat} {ks : List ByteArray} (h : NumMap w b ks) (he : w'.heap[b]? = w.heap[b]?) : NumMap w' b ks := by
  obtain ⟨D, ⟨es, clock, hb, F, hs, hD⟩, h2⟩ := h
  exact ⟨D, ⟨es, clock, he.trans hb, F, hs, hD⟩, h2⟩
theorem NumMap.look {w : World} {b : Nat} {ks : List ByteArray} (h : NumMap w b ks) {s : ByteArray} (hs : s.size ≤ maxLen) : ∃ c : Int, (s ∈ ks → c = posOf ks s + 1) ∧ (Instr.lookup 59 (.map (some b)) (.string s) true).run Try.prog w = .ok (.tuple #[.int .i64 c, .bool (isIn ks s)]) w := by
  obtain ⟨D, h1, h2, h3, h4, h5⟩ := h
  obtain ⟨v, ps, hrun, hv⟩ := h1.look_ok keyed Try.underlying59 (zeroInt w) (plainElem_int Try.underlying3 (by decide)) (Go.WideMaps.keyOf_string_mk Try.underlying9 hs)
  obtain ⟨c, rfl, hc, _⟩ := plainElem_int_inv Try.underlying3 hv
  have h4' := h4 s
  unfold kl at h4'
  refine ⟨c, fun hm => ?_, by rw [hrun, h4']⟩
  have := h5 s hm
  unfold kl at this
  have hc' := congrArg Prod.fst hc
  simp only at hc'
  rw [this] at hc'
  simpa using hc'.symm
theorem NumMap.len {w : World} {b : Nat} {ks : List ByteArray} (h : NumMap w b ks) (ty : TypeId) : (Builtin.len_ #[59] ty #[.map (some b)]).run Try.prog w = .ok (.int .i64 ks.length) w := by
  obtain ⟨D, h1, h2, h3, h4, h5⟩ := h
  rw [h1.len Try.underlying59 ty, h3]
theorem NumMap.put {w : World} {b : Nat} {ks : List ByteArray} (h : NumMap w b ks) {s : ByteArray} (hs : s.size ≤ maxLen) (hn : ks.length < 1000000000000) (hm : s ∉ ks) :
    ∃ w', (Instr.mapUpdate 59 (.map (some b)) (.string s) (.int .i64 ((ks.length : Int) + 1))).run Try.prog w = .ok () w' ∧ NumMap w' b (ks ++ [s]) ∧ w.grownBy w' (some b) := by
  obtain ⟨D, h1, h2, h3, h4, h5⟩ := h
  have hwf : (Lit.int .i64 ((ks.length : Int) + 1)).wf = true := WalkArith.wf_i64 (by omega)
  obtain ⟨w', hrun, r1, r2⟩ := h1.update keyed Try.underlying59 (by unfold maxLen; omega) (Go.WideMaps.keyOf_string_mk Try.underlying9 hs) (plainElem_int Try.underlying3 hwf)
  have hk : WideAt.IsKeyLit (kl s) := by simp [kl, WideAt.IsKeyLit]
  have hno : Go.Maps.has D (kl s) = false := by rw [h4 s]; exact isIn_no hm
  refine ⟨w', hrun, ⟨_, by rw [List.length_append]; exact r1, h2.put hk _, ?_, fun t => ?_, fun t ht => ?_⟩, r2⟩
  · have := Go.Maps.size_put (k := kl s) h2 (.lit (.int .i64 ((ks.length : Int) + 1)))
    rw [hno, h3] at this
    rw [List.length_append]
    simpa using this
  · by_cases hts : t = s
    · subst hts
      have := Go.Maps.has_put_same (k := kl t) h2.isMap hk (.lit (.int .i64 ((ks.length : Int) + 1)))
      rw [isIn_app]
      simpa [kl] using this
    · have := Go.Maps.has_put_other (D := D) (k := kl s) (k' := kl t) (fun he => hts (kl_inj he)) (.lit (.int .i64 ((ks.length : Int) + 1)))
      rw [h4 t] at this
      simp only [kl] at this ⊢
      rw [this, isIn_app]
      simp [hts]
  · by_cases hts : t = s
    · subst hts
      have := Go.Maps.atKey_put_same (k := kl t) h2.isMap hk (.lit (.int .i64 ((ks.length : Int) + 1))) (.lit (.int .i64 0))
      have hp := posOf_addTo ks t
      rw [addTo_not hm, posOf_not hm] at hp
      rw [hp]
      exact this
    · have hin : t ∈ ks := by simpa [hts] using ht
      have := Go.Maps.atKey_put_other (D := D) (k := kl s) (k' := kl t) (fun he => hts (kl_inj he)) (.lit (.int .i64 ((ks.length : Int) + 1))) (.lit (.int .i64 0))
      rw [h5 t hin] at this
      rw [posOf_app hin]
      exact this

theorem wpList_mapUpdate_run2 {P : Program} {w w1 : World} {ops : Array Oper} {rest : List Oper} {o : Oper} {a : Act} {Q : Exit → Act → World → Prop} (hg : o.guard = none) (m x v : Operand) (t : TypeId) (hop : o.op = Op.mapUpdate t m x v)
    (mv xv vv : Value) (hm : a.eval m = mv) (hx : a.eval x = xv) (hv : a.eval v = vv) (hrun : (Instr.mapUpdate t mv xv vv).run P w = .ok () w1) (h : wpList P ops Q rest (a.put o.dst undef) w1) : wpList P ops Q (o :: rest) a w := by
  refine wpList_plain hg fun K' hK' => ?_
  unfold Oper.wp
  simp [execOp, hop, hm, hx, hv, hrun, Result.andThen]
  exact hK' _ _ h
set_option maxRecDepth 100000 in
theorem count_any (b : Nat) (ks : List ByteArray) (s : ByteArray) (hs : s.size ≤ maxLen) (w : World) (h : NumMap w b ks) (hn : ks.length < 1000000000000) :
    Calls Try.prog 60 #[.map (some b), .string s] w fun e w' => e = .returned (.int .i64 ((posOf ks s : Int) + 1)) ∧ NumMap w' b (addTo ks s) ∧ Keeps (fun i => i = b) w w' := by
  obtain ⟨c, hc, hlook⟩ := h.look hs
  have hlen := h.len
  by_cases hm : s ∈ ks
  · obtain rfl := hc hm
    have HP := Lib.hid (addTo_in hm)
    have H := Lib.hid h
    rw [(isIn_eq ks s).2 hm] at hlook
    clear hc hm h
    go_enter Try.func60, Try.ntmps60
    go_wp2_with fail
    go_ret
    rw [HP.out]
    exact ⟨rfl, H.out, Keeps.refl _ _⟩
  · have HP := Lib.hid (addTo_not hm)
    have HQ := Lib.hid (posOf_not hm)
    obtain ⟨w1, hput, hm1, hg1⟩ := h.put hs hn hm
    have HM1 := Lib.hid hm1
    have HG1 := Lib.hid hg1
    have HPUT := Lib.hid hput
    have hw1 : wrap64 ((ks.length : Int) + 1) = (ks.length : Int) + 1 := IntWalk.wrap64_in _ ⟨by omega, by omega⟩
    rw [isIn_no hm] at hlook
    clear hc hm h hm1 hg1 hput
    go_enter Try.func60, Try.ntmps60
    go_wp2_with (at_mapUpdate; refine wpList_mapUpdate_run2 (by rfl) _ _ _ _ (by rfl) _ _ _ (by rfl) (by rfl) (by rfl) HPUT.out ?_)
    go_ret
    rw [HP.out, HQ.out]
    exact ⟨rfl, HM1.out, Keeps.of_grown HG1.out (fun k hk => (Option.some.inj hk).symm)⟩
/-- A number as so many bytes. -/
def numberedS (n : Int) (size : Int) : ByteArray := (padSpec (putSpec n 6).1 size).1
theorem putSpec_small (n : Int) : (putSpec n 6).1.size ≤ 6 := by
  unfold putSpec
  split
  · exact Nat.zero_le _
  · split
    · rw [strOfNums_size, le_length]; exact Nat.le_refl _
    · exact Nat.zero_le _
set_option maxRecDepth 100000 in
theorem numbered_any (n size : Int) (hn : -9223372036854775808 ≤ n) (hn2 : n ≤ 9223372036854775807) (w : World) :
    Calls Try.prog 59 #[.int .i64 n, .int .i64 size] w fun e w' => e = .returned (.string (numberedS n size)) ∧ Below w.heap.size w w' := by
  have HP := Lib.hid (Put_any n 6 hn hn2 w)
  have HQ := Lib.hid (fun W => Pad_any (putSpec n 6).1 size (by have := putSpec_small n; omega) W)
  unfold numberedS
  obtain ⟨⟨t, e1⟩, ht⟩ : ∃ q, q = putSpec n 6 := ⟨_, rfl⟩
  rw [← ht] at HP HQ ⊢
  simp only at HQ ⊢
  obtain ⟨⟨u, e2⟩, hu⟩ : ∃ q, q = padSpec t size := ⟨_, rfl⟩
  rw [← hu] at HQ ⊢
  clear ht hu
  go_enter Try.func59, Try.ntmps59
  go_wp2_with fail
  refine HP.out.mono ?_
  rintro e W1 ⟨rfl, hb1⟩
  have HB1 := Lib.hid hb1
  clear hb1 HP
  go_wp2_with fail
  refine (HQ.out W1).mono ?_
  rintro e W2 ⟨rfl, hb2⟩
  have HB2 := Lib.hid (HB1.out.trans (hb2.mono HB1.out.size))
  clear hb2 HQ
  go_wp2_with fail
  go_ret
  exact ⟨rfl, HB2.out⟩
end Go.Proofs.Ytjoilobbopdcpaa.B
