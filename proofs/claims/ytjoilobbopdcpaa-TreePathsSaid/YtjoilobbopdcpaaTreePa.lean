/-
  Path for every place.
-/
import Derived.Test.YtjoilobbopdcpaaTreeP
namespace Go.Proofs.Ytjoilobbopdcpaa.B
open Go.RowKit
set_option linter.unusedVariables false
set_option linter.unusedSimpArgs false

theorem pathR_len : ∀ (rows : List (List ByteArray)) (i : Nat), (pathR rows i).length ≤ rows.length
  | [], i => by simp [pathR]
  | [_], i => by simp [pathR]
  | row :: b :: rest, i => by
    have := pathR_len (b :: rest) (i / 4)
    simp only [pathR, List.length_cons] at this ⊢
    omega
def pErr (n : Nat) (i : Int) : Int := if i < 0 ∨ (n : Int) ≤ i then 2 else 0
def pAll (rows : List (List ByteArray)) (n : Nat) (i : Int) : List Stp := if i < 0 ∨ (n : Int) ≤ i then [] else pathR rows i.toNat
theorem pAll_len {k : Option (ByteArray → ByteArray)} {ks l : List ByteArray} {rows : List (List ByteArray)} (ht : TreeR k ks l rows) (n : Nat) (i : Int) : (pAll rows n i).length ≤ l.length + 1 := by
  unfold pAll
  split
  · simp
  · exact Nat.le_trans (pathR_len rows _) ht.count
theorem Path_all {k : Option (ByteArray → ByteArray)} (b0 gt g : Nat) (ks l : List ByteArray) (rows : List (List ByteArray)) (vr : Value) (vs : List Value) (w : World) (ht : TreeR k ks l rows) (h : TreeM b0 gt g rows vr vs w) (hl : l.length ≤ 1000) (i : Int) :
    Calls Try.prog 17 #[.pointer (some ⟨gt, 0, none⟩), .int .i64 i] w fun e w' => ∃ v svs, e = .returned (.tuple #[v, .int .i64 (pErr l.length i)]) ∧ PathM w.heap.size v svs (pAll rows l.length i) w' ∧ Below w.heap.size w w' := by
  by_cases ho : i < 0 ∨ (l.length : Int) ≤ i
  · have hc := ht.count
    refine (Path_out b0 gt g rows vr vs w h ht.pos (by omega) i (by rw [ht.len0]; exact ho)).mono ?_
    rintro e W ⟨rfl, rfl⟩
    refine ⟨.slice none 0 0, [], ?_, ?_, Below.refl _ _⟩
    · rw [pErr, if_pos ho]
    · rw [pAll, if_pos ho]; exact PathM.nil _ _
  · obtain ⟨m, rfl⟩ : ∃ m : Nat, i = (m : Int) := ⟨i.toNat, by omega⟩
    refine (Path_any b0 gt g ks l rows vr vs w ht h hl m (by omega)).mono ?_
    rintro e W ⟨v, svs, rfl, hp, hb⟩
    refine ⟨v, svs, ?_, ?_, hb⟩
    · rw [pErr, if_neg ho]
    · rw [pAll, if_neg ho]; exact hp
end Go.Proofs.Ytjoilobbopdcpaa.B
