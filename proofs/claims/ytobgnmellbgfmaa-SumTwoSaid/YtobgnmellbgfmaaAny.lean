/-
  A region that draws its order, taken by hand: whichever operation comes up next, its text written out by unification; whole ranges loaded and stored.
-/
import Derived.Test.YtobgnmellbgfmaaMix
import Derived.RegionTactic
namespace Go.Proofs.Ytobgnmellbgfmaa.B
open Go.RowKit
set_option linter.unusedVariables false
section
variable {P : Program} {md : Region.Mode} {ops : Array Oper} {Q : Exit → Act → World → Prop} {fuel : Nat} {listed : Array Bool} {a : Act} {w : World} {i : Nat} {rs : List Nat} {d : Option Tmp} {T : TypeId} {p : String} {af : Array Edge}

/-- An operation that yields in whatever world is taken first. -/
theorem takeU {op : Op} {v : Value} (i : Nat) (ho : ops[i]? = some { dst := d, op := op, type := T, pos := p, after := af, guard := none })
    (hs : Region.noSelect ops = true) (hf : Region.free md ops listed i = true) (hr : (Region.ready md ops listed).contains i = true) (hQ : ∀ c a w, Q (.panic c) (a.put d v) w → Q (.panic c) a w)
    (hy : ∀ w, (execOp a.eval { dst := d, op := op, type := T, pos := p, after := af, guard := none }).run P w = .ok (.value v) w)
    (h : wpAny P md ops Q fuel (listed.setIfInBounds i true) (a.put d v) w) : wpAny P md ops Q (fuel + 1) listed a w :=
  wpAny_take ho hs hf hr hQ (Or.inl ⟨by simp [Region.wanted], hy⟩) h
/-- An operation that nothing guards comes up. -/
theorem consU {op : Op} (ho : ops[i]? = some { dst := d, op := op, type := T, pos := p, after := af, guard := none })
    (h : ∀ K' : Act → World → Prop, (∀ a w, wpAny P md ops Q fuel (listed.setIfInBounds i true) a w → K' a w) → Oper.wp P { dst := d, op := op, type := T, pos := p, after := af, guard := none } a w K' Q)
    (hs : AllReady P md ops Q fuel listed a w rs) : AllReady P md ops Q fuel listed a w (i :: rs) :=
  AllReady.cons ho (fun K' hK => by rw [if_pos (by simp [Region.wanted])]; exact h K' hK) hs
/-- A range is loaded. -/
theorem consLoad {ty : TypeId} {x : Operand} (ho : ops[i]? = some { dst := d, op := .load ty x, type := T, pos := p, after := af, guard := none })
    (b off : Nat) (hx : a.eval x = .pointer (some ⟨b, off, none⟩)) (cs : List Value) (ds : TypeDesc) (hc : w.rangeAt b off cs) (hu : P.underlying ty = some ds) (hd : ds.isRow = true) (hi : (P.info? ty).map (·.size) = some cs.length)
    (h : wpAny P md ops Q fuel (listed.setIfInBounds i true) (a.put d (.agg cs.toArray)) w) (hs : AllReady P md ops Q fuel listed a w rs) : AllReady P md ops Q fuel listed a w (i :: rs) :=
  consU ho (fun K' hK => wp_load_mid ty x rfl b off hx cs ds hc hu hd hi (hK _ _ h)) hs
/-- A conversion that is known. -/
theorem consConv {S D : TypeId} {x : Operand} (ho : ops[i]? = some { dst := d, op := .convert S D x, type := T, pos := p, after := af, guard := none }) (v u : Value) (hx : a.eval x = v) (hc : (convert S D v).run P w = .ok u w)
    (h : wpAny P md ops Q fuel (listed.setIfInBounds i true) (a.put d u) w) (hs : AllReady P md ops Q fuel listed a w rs) : AllReady P md ops Q fuel listed a w (i :: rs) :=
  consU ho (fun K' hK => by
    have hK' := hK _ _ h
    unfold Oper.wp execOp
    simp only [hx, Sem.run_bind, hc, Result.andThen_ok, Sem.run_pure]
    exact hK') hs
/-- A range is stored. -/
theorem consStore {ty : TypeId} {x y : Operand} (ho : ops[i]? = some { dst := d, op := .store ty x y, type := T, pos := p, after := af, guard := none })
    (g o : Nat) (cs L : List Value) (t : TypeId) (hx : a.eval x = .pointer (some ⟨g, o, none⟩)) (hy : a.eval y = .agg cs.toArray)
    (hg : w.heap[g]? = some (.cells L.toArray t (0, 0))) (hsz : o + cs.length ≤ L.length) (hi : (P.info? ty).map (·.size) = some cs.length) (h1 : ∀ v ∈ cs, v.oneCell' = true)
    (h : ∀ W : World, W.heap[g]? = some (.cells (splc L o cs).toArray t (0, 0)) → Keeps (fun i => i = g) w W → wpAny P md ops Q fuel (listed.setIfInBounds i true) (a.put d undef) W) (hs : AllReady P md ops Q fuel listed a w rs) : AllReady P md ops Q fuel listed a w (i :: rs) :=
  consU ho (fun K' hK => wp_store_mid ty x y rfl g o cs.toArray hx hy (midThere hg (by simpa using hsz)) (by simpa using hi) (all_oneCell_toArray h1) (hK _ _ (h _ (by simpa using setMid hg o cs hsz) (by simpa using setCells_keeps_at w g o cs)))) hs
end
end Go.Proofs.Ytobgnmellbgfmaa.B
