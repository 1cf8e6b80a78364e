/-
  The laws' awake, walked.
-/
import Derived.Test.YtjoilobbopdcpaaTreeF
namespace Go.Proofs.Ytjoilobbopdcpaa.B
open Go.RowKit
set_option linter.unusedVariables false
set_option linter.unusedSimpArgs false

theorem bytesOf_inj {a b : ByteArray} (h : bytesOf a = bytesOf b) : a = b := by rw [← strOfNums_bytesOf a, h, strOfNums_bytesOf]
theorem app_inj {a b c d : ByteArray} (h : a ++ b = c ++ d) (hs : a.size = c.size) : a = c ∧ b = d := by
  have h1 := congrArg bytesOf h
  rw [bytesOf_app, bytesOf_app] at h1
  have h2 := List.append_inj h1 (by rw [bytesOf_length, bytesOf_length, hs])
  exact ⟨bytesOf_inj h2.1, bytesOf_inj h2.2⟩
theorem leafT_inj {s t : ByteArray} (h : leafT s = leafT t) : s = t := (app_inj h rfl).2
theorem rootT_inj {n m : Int} {t u : ByteArray} (hn : 0 ≤ n ∧ n < 281474976710656) (hm : 0 ≤ m ∧ m < 281474976710656) (h : rootT n t = rootT m u) : n = m ∧ t = u := by
  have h1 := app_inj (a := ⟨#[2]⟩ ++ (putSpec n 6).1) (c := ⟨#[2]⟩ ++ (putSpec m 6).1) h (by rw [ByteArray.size_append, ByteArray.size_append, put_size hn, put_size hm])
  exact ⟨(putSpec_inj hn hm (app_inj h1.1 rfl).2).1, h1.2⟩
theorem vk_none : VK none := ⟨hash_ideal, fun f h => by cases h⟩
theorem one_tree {k : Option (ByteArray → ByteArray)} {ks : List ByteArray} {s : ByteArray} {rows : List (List ByteArray)} (h : TreeR k ks [s] rows) : ∃ r, rows = [[r]] ∧ Hd k ks (leafT s) r := by
  obtain ⟨⟨row, h0, hl, hr⟩, hk, hlast⟩ := h
  obtain ⟨r, h1, h2⟩ := hr 0 s rfl
  have e1 : row = [r] := by
    cases row with
    | nil => cases h1
    | cons a b =>
      simp at hl h1
      subst hl
      subst h1
      rfl
  subst e1
  refine ⟨r, ?_, h2⟩
  cases rows with
  | nil => cases h0
  | cons a b =>
    simp at h0
    subst h0
    cases b with
    | nil => rfl
    | cons c d =>
      have := (hk 0 [r] c rfl rfl).1
      simp at this
theorem awake_yes {ks : List ByteArray} {r top x : ByteArray} (hr : Hd none ks (leafT x) r) (ht : Hd none ks (rootT 1 r) top) {b : Bool} (hc : CheckR none ks top 1 0 x [] b) : b = true := by
  unfold CheckR at hc
  rw [if_neg (by decide)] at hc
  obtain ⟨h, h1, h2⟩ := hc
  obtain rfl := h1.fn hr
  have h3 : Int.toNat 1 = 1 := rfl
  have h4 := ht.size vk_none
  unfold ChkR at h2
  rw [h3, if_pos ⟨rfl, by omega⟩] at h2
  obtain ⟨r', h5, h6⟩ := h2
  rw [h6, h5.fn ht]
  simp
theorem awake_no {ks : List ByteArray} (hk : ks.length < 100000000000000) {r top x y : ByteArray} (hxy : y ≠ x) (hr : Hd none ks (leafT x) r) (ht : Hd none ks (rootT 1 r) top) {b : Bool} (hc : CheckR none ks top 1 0 y [] b) : b = false := by
  unfold CheckR at hc
  rw [if_neg (by decide)] at hc
  obtain ⟨h, h1, h2⟩ := hc
  have h3 : Int.toNat 1 = 1 := rfl
  have h4 := ht.size vk_none
  unfold ChkR at h2
  rw [h3, if_pos ⟨rfl, by omega⟩] at h2
  obtain ⟨r', h5, h6⟩ := h2
  rw [h6]
  refine decide_eq_false (fun he => hxy ?_)
  subst he
  obtain rfl := (rootT_inj (by decide) (by decide) (h5.inj hk ht)).2
  exact leafT_inj (h1.inj hk hr)
theorem Ran.below0 {B g gh c : Nat} {k : Option (ByteArray → ByteArray)} {ks ks' : List ByteArray} {w0 w w' : World} (hb : Below w0.heap.size w0 w) (hg : w0.heap.size ≤ gh) (h : Ran B g gh k c ks ks' w w') : Below w0.heap.size w0 w' :=
  ⟨h.kp.os.trans hb.os, h.kp.tape.trans hb.tape, h.kp.output.trans hb.output, Nat.le_trans hb.size h.kp.size,
   fun i hi => (h.kp.block i (Nat.lt_of_lt_of_le hi hb.size) (fun hs => by have := hs.2; omega)).trans (hb.block i hi)⟩
def tx : ByteArray := ⟨#[120]⟩
def ty : ByteArray := ⟨#[121]⟩
set_option maxRecDepth 100000 in
set_option maxHeartbeats 1600000 in
theorem awake_any (w : World) : Calls Try.prog 16 #[] w fun e w' => e = .returned (.bool true) ∧ Below w.heap.size w w' := by
  go_enter Try.func16, Try.ntmps16
  go_wp2_with fail
  refine (Ideal_any w).mono ?_
  rintro e W1 ⟨g, gh, rfl, hv, hb, hgh⟩
  have HV := Lib.hid hv
  have HB := Lib.hid hb
  have HG := Lib.hid hgh
  clear hv hb hgh
  go_wp2_with fail
  have hr0 := (Ran.refl HV.out).below ((Below.refl _ W1).alloc (Nat.le_refl _) (.cells #[.string tx] 9 (0, 0)))
  have hst : Strs (W1.alloc (.cells #[.string tx] 9 (0, 0))) (.slice (some ⟨W1.heap.size, 0, none⟩) 1 1) [tx] := by
    refine ⟨_, _, rfl, Nat.le_refl _, by unfold maxLen; decide, fun _ => ⟨_, _, rfl, by simp, fun i s hs => ?_⟩⟩
    cases i with
    | zero =>
      simp at hs
      subst hs
      exact (blk_cell (get_top rfl) 0).trans rfl
    | succ i => simp at hs
  refine (New_any vk_none _ g gh [] _ [tx] _ hr0.vlt hst (by decide) (by intro s hs; simp at hs; subst hs; decide) (by decide)).mono ?_
  rintro e W2 ⟨gt, ks1, rows, vr, vs, rfl, hT, hM, hR⟩
  obtain ⟨r, rfl, hd⟩ := one_tree hT
  have hk1 := hR.len
  have HD := Lib.hid hd
  have HM := Lib.hid hM
  have HR := Lib.hid (hr0.trans hR)
  have HK := Lib.hid hk1
  clear hT hM hR hd hr0 hst hk1
  go_wp2_with fail
  refine (Count_any _ gt g _ vr vs W2 HM.out (by simp) (by simp)).mono ?_
  rintro e W3 ⟨rfl, rfl⟩
  have htop : topOf [[r]] = r := rfl
  have hrz := HD.out.size vk_none
  have HRT := Lib.hid (fun (ks : List ByteArray) (W : World) (hv : Vlt W W1.heap.size g gh none ks) (hm : TreeM (W1.alloc (.cells #[.string tx] 9 (0, 0))).heap.size gt g [[r]] vr vs W) (hk : ks.length < 1000000000000) =>
    Root_any vk_none _ _ gt g gh ks _ vr vs W hv hm (by simp) (by simp) (by simp) (by rw [htop]; omega) hk)
  clear htop hrz
  go_wp2_with fail
  have hk1 := HK.out
  simp only [List.length_nil, List.length_singleton] at hk1
  refine (HRT.out ks1 _ HR.out.vlt HM.out (by omega)).mono ?_
  rintro e W4 ⟨ks2, t, rfl, hd2, hR2⟩
  have hk2 := hR2.len
  have hsz : t.size = 32 := hd2.size vk_none
  have HD2 := Lib.hid (show Hd none ks2 (rootT 1 r) t from hd2)
  have HM2 := Lib.hid (HM.out.ran HR.out.vlt hR2)
  have HR2 := Lib.hid (HR.out.trans hR2)
  have HP2 := Lib.hid hR2.pre
  clear hd2 hR2 HM HK
  go_wp2_with fail
  refine (HRT.out ks2 _ HR2.out.vlt HM2.out (by omega)).mono ?_
  rintro e W5 ⟨ks3, t3, rfl, hd3, hR3⟩
  have hk3 := hR3.len
  obtain rfl := hd3.fn (HD2.out.pre hR3.pre)
  have HM3 := Lib.hid (HM2.out.ran HR2.out.vlt hR3)
  have HR3 := Lib.hid (HR2.out.trans hR3)
  have HD3 := Lib.hid (show Hd none ks3 (rootT 1 r) t3 from hd3)
  have HP3 := Lib.hid (HP2.out.trans hR3.pre)
  clear hd3 hR3 HM2 HR2 HD2 HP2 HR
  go_wp2_with fail
  refine (Check_any vk_none _ g gh ks3 t3 1 0 ⟨by decide, by decide⟩ ⟨by decide, by decide⟩ tx (by decide) (.slice none 0 0) [] (by decide) W5 HR3.out.vlt (StepsAt.nil _) (by omega)).mono ?_
  rintro e W6 ⟨ks4, b, rfl, hc, hR4⟩
  have hk4 := hR4.len
  simp only [List.length_nil] at hk4
  obtain rfl := awake_yes (HD.out.pre (HP3.out.trans hR4.pre)) (HD3.out.pre hR4.pre) hc
  have HM4 := Lib.hid (HM3.out.ran HR3.out.vlt hR4)
  have HR4 := Lib.hid (HR3.out.trans hR4)
  have HD4 := Lib.hid (HD3.out.pre hR4.pre)
  have HP4 := Lib.hid (HP3.out.trans hR4.pre)
  clear hR4 HM3 HR3 HD3 HP3 hc
  go_wp2_with fail
  refine (HRT.out ks4 _ HR4.out.vlt HM4.out (by omega)).mono ?_
  rintro e W7 ⟨ks5, t5, rfl, hd5, hR5⟩
  have hk5 := hR5.len
  obtain rfl := hd5.fn (HD4.out.pre hR5.pre)
  have HM5 := Lib.hid (HM4.out.ran HR4.out.vlt hR5)
  have HR5 := Lib.hid (HR4.out.trans hR5)
  have HD5 := Lib.hid (show Hd none ks5 (rootT 1 r) t5 from hd5)
  have HP5 := Lib.hid (HP4.out.trans hR5.pre)
  clear hd5 hR5 HM4 HR4 HD4 HP4
  go_wp2_with fail
  refine (Check_any vk_none _ g gh ks5 t5 1 0 ⟨by decide, by decide⟩ ⟨by decide, by decide⟩ ty (by decide) (.slice none 0 0) [] (by decide) W7 HR5.out.vlt (StepsAt.nil _) (by omega)).mono ?_
  rintro e W8 ⟨ks6, b, rfl, hc, hR6⟩
  have hk6 := hR6.len
  simp only [List.length_nil] at hk6
  obtain rfl := awake_no (by omega) (show ty ≠ tx by decide) (HD.out.pre (HP5.out.trans hR6.pre)) (HD5.out.pre hR6.pre) hc
  have HF := Lib.hid ((HR5.out.trans hR6).below0 HB.out HG.out)
  clear hR6 HM5 HR5 HD5 HP5 hc
  go_wp2_with fail
  go_ret
  exact ⟨rfl, HF.out⟩
end Go.Proofs.Ytjoilobbopdcpaa.B
