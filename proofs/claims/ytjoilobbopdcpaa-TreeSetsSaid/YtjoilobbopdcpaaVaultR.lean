/-
  The real vault: its hash, vault.Real and the document's vault, walked.
-/
import Derived.Test.YtjoilobbopdcpaaTreeK
import Derived.Test.YtjoilobbopdcpaaSumC
namespace Go.Proofs.Ytjoilobbopdcpaa.B
open Go.RowKit
set_option linter.unusedVariables false
set_option linter.unusedSimpArgs false

/-- The real vault's hash. -/
def shaF (t : ByteArray) : ByteArray := strOfNums (sha (bytesOf t))
theorem shaF_size (t : ByteArray) : (shaF t).size = 32 := by rw [shaF, strOfNums_size, sha_length]
set_option maxRecDepth 100000 in
theorem none_real (g gr : Nat) (w : World) (h : w.heap[g]? = some (.cells #[.pointer (some ⟨gr, 0, none⟩), .pointer none] 66 (0, 0))) :
    Calls Try.prog 46 #[.pointer (some ⟨g, 0, none⟩)] w fun e w' => e = .returned (.bool false) ∧ w' = w := by
  have c0 := (blk_cell h 0).trans rfl
  have c1 := (blk_cell h 1).trans rfl
  clear h
  go_enter Try.func46, Try.ntmps46
  go_wp2
  go_ret
  exact ⟨rfl, rfl⟩
set_option maxRecDepth 100000 in
theorem hash_real : HashOk (some shaF) := by
  intro B g gh ks s w h hs hn
  obtain ⟨h1, h2, h3, gr, key, a1, a2, a3, a4, a5⟩ := id h
  have c0 := (blk_cell a4 0).trans rfl
  have c1 := (blk_cell a4 1).trans rfl
  have HNO := Lib.hid (none_real g gr w a4)
  have HS := Lib.hid (sum_any s (by omega) w)
  have HV := Lib.hid h
  clear h h1 h2 h3 a1 a2 a3 a4 a5
  go_enter Try.func39, Try.ntmps39
  go_wp2_with fail
  refine HNO.out.mono ?_
  rintro e W1 ⟨rfl, hw1⟩
  subst hw1
  go_wp2_with fail
  refine HS.out.mono ?_
  rintro e W2 ⟨rfl, hb⟩
  have HB := Lib.hid hb
  clear hb HS HNO
  go_wp2_with fail
  go_ret
  exact ⟨ks, _, rfl, rfl, ((Ran.refl HV.out).below HB.out).mono (by omega)⟩
theorem vk_real : VK (some shaF) := ⟨hash_real, fun f h t => by cases h; exact shaF_size t⟩
/-- What a real vault runs writes nothing that was there. -/
theorem Ran.real {B g gh c : Nat} {f : ByteArray → ByteArray} {ks ks' : List ByteArray} {w w' : World} (h : Ran B g gh (some f) c ks ks' w w') : Below w.heap.size w w' :=
  h.kp.below (Nat.le_refl _) (fun _ _ hs => by cases hs.1)
/-- The document's real vault at block g. -/
def RefV (W : World) (g : Nat) : Prop := ∃ key, W.heap[g]? = some (.cells #[.bool false, .string key, .slice none 0 0, .slice none 0 0, .slice none 0 0] 93 (0, 0))
theorem RefV.lt {W : World} {g : Nat} (h : RefV W g) : g < W.heap.size := by
  obtain ⟨key, h⟩ := h
  exact blk_lt h
theorem RefV.below {W W' : World} {g : Nat} (h : RefV W g) (hb : Below W.heap.size W W') : RefV W' g := by
  obtain ⟨key, h⟩ := h
  exact ⟨key, (hb.block g (blk_lt h)).trans h⟩
set_option maxRecDepth 100000 in
theorem refHash_any (g : Nat) (s : ByteArray) (w : World) (h : RefV w g) (hs : s.size ≤ 100000) :
    Calls Try.prog 36 #[.pointer (some ⟨g, 0, none⟩), .string s] w fun e w' => e = .returned (.string (shaF s)) ∧ Below w.heap.size w w' := by
  obtain ⟨key, h⟩ := h
  have c0 := (blk_cell h 0).trans rfl
  have HS := Lib.hid (refSum_any s (by omega) w)
  unfold shaF
  clear h
  go_enter Try.func36, Try.ntmps36
  go_wp2_with fail
  refine HS.out.mono ?_
  rintro e W2 ⟨rfl, hb⟩
  have HB := Lib.hid hb
  clear hb HS
  go_wp2_with fail
  go_ret
  exact ⟨rfl, HB.out⟩
/-- The key of the law's vaults. -/
def keyB : ByteArray := (stretchSpec ⟨#[112]⟩ ⟨#[115]⟩ 1 32).1
theorem stretch_ps : stretchSpec ⟨#[112]⟩ ⟨#[115]⟩ 1 32 = (keyB, 0) := by
  have h : (stretchSpec ⟨#[112]⟩ ⟨#[115]⟩ 1 32).2 = 0 := by rw [stretchSpec, if_neg (by decide)]
  rw [← h]
  rfl
set_option maxRecDepth 100000 in
theorem Real_any (w : World) :
    Calls Try.prog 32 #[.string ⟨#[112]⟩, .string ⟨#[115]⟩, .int .i64 1] w fun e w' => ∃ g gr, e = .returned (.tuple #[.pointer (some ⟨g, 0, none⟩), .int .i64 0]) ∧ g < w'.heap.size ∧ gr < w'.heap.size ∧ g ≠ gr ∧ w'.heap[g]? = some (.cells #[.pointer (some ⟨gr, 0, none⟩), .pointer none] 66 (0, 0)) ∧ w'.heap[gr]? = some (.cells #[.string keyB] 89 (0, 0)) ∧ Below w.heap.size w w' := by
  have HS := Lib.hid (stretch_any ⟨#[112]⟩ ⟨#[115]⟩ 1 32 (by decide) (by decide) w)
  rw [stretch_ps] at HS
  generalize keyB = key at HS ⊢
  go_enter Try.func32, Try.ntmps32
  go_wp2_with fail
  refine HS.out.mono ?_
  rintro e W1 ⟨rfl, hb⟩
  have HB := Lib.hid hb
  clear hb HS
  go_wp2_with fail
  go_ret2
  exact ⟨W1.heap.size + 1, W1.heap.size, rfl, by simp, by simp; omega, by omega, get_top (by simp), get_below (get_top rfl), (HB.out.alloc HB.out.size _).alloc (by have := HB.out.size; simp; omega) _⟩
set_option maxRecDepth 100000 in
theorem refReal_any (w : World) :
    Calls Try.prog 33 #[.string ⟨#[112]⟩, .string ⟨#[115]⟩, .int .i64 1] w fun e w' => ∃ g, e = .returned (.tuple #[.pointer (some ⟨g, 0, none⟩), .int .i64 0]) ∧ w.heap.size ≤ g ∧ w'.heap[g]? = some (.cells #[.bool false, .string keyB, .slice none 0 0, .slice none 0 0, .slice none 0 0] 93 (0, 0)) ∧ Below w.heap.size w w' := by
  have HS := Lib.hid (refStretch_any ⟨#[112]⟩ ⟨#[115]⟩ 1 32 (by decide) (by decide) w)
  rw [stretch_ps] at HS
  generalize keyB = key at HS ⊢
  go_enter Try.func33, Try.ntmps33
  go_wp2_with fail
  refine HS.out.mono ?_
  rintro e W1 ⟨rfl, hb⟩
  have HB := Lib.hid hb
  clear hb HS
  go_wp2_with fail
  go_ret2
  exact ⟨W1.heap.size, rfl, HB.out.size, get_top rfl, HB.out.alloc HB.out.size _⟩
set_option maxRecDepth 100000 in
theorem real_any (w : World) :
    Calls Try.prog 21 #[] w fun e w' => ∃ g gw, e = .returned (.tuple #[.pointer (some ⟨g, 0, none⟩), .pointer (some ⟨gw, 0, none⟩)]) ∧ Vlt w' w'.heap.size g gw (some shaF) [] ∧ RefV w' gw ∧ Below w.heap.size w w' := by
  go_enter Try.func21, Try.ntmps21
  go_wp2_with fail
  refine (Real_any w).mono ?_
  rintro e W1 ⟨g, gr, rfl, h1, h2, h3, h4, h5, hb⟩
  have H := Lib.hid (And.intro h1 (And.intro h2 (And.intro h3 (And.intro h4 (And.intro h5 hb)))))
  clear h1 h2 h3 h4 h5 hb
  go_wp2_with fail
  refine (refReal_any W1).mono ?_
  rintro e W2 ⟨gw, rfl, h1, h2, hb⟩
  have H2 := Lib.hid (And.intro h1 (And.intro h2 hb))
  clear h1 h2 hb
  go_wp2_with fail
  go_ret2
  obtain ⟨h1, h2, h3, h4, h5, hb⟩ := H.out
  obtain ⟨k1, k2, kb⟩ := H2.out
  have k3 := blk_lt k2
  exact ⟨g, gw, rfl, ⟨Nat.le_refl _, by have := kb.size; omega, k3, gr, _, by have := kb.size; omega, by omega, by omega, (kb.block g h1).trans h4, (kb.block gr h2).trans h5⟩, ⟨_, k2⟩, hb.trans (kb.mono hb.size)⟩
end Go.Proofs.Ytjoilobbopdcpaa.B
