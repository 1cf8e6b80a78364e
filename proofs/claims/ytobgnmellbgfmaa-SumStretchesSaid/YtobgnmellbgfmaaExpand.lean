/-
  sum.Expand, walked.
-/
import Derived.Test.YtobgnmellbgfmaaMac
import Derived.Test.YtobgnmellbgfmaaExpP
namespace Go.Proofs.Ytobgnmellbgfmaa.B
open Go.RowKit
set_option linter.unusedVariables false
set_option linter.unusedSimpArgs false

/-- The loop of Expand: b holds the bytes xs, n of them. -/
structure ExpI (w : World) (g : Nat) (Zi Zo : List Value) (n : Nat) (xs : List Int) (v : Value) (W : World) : Prop where
  l : Laid2 w g Zi Zo W
  b : Loc w W 5 1 v n (nums xs)
theorem ExpI.grow {w W Wm W1 : World} {g n m cap H : Nat} {Zi Zo : List Value} {xs ys : List Int} {v : Value} {ao : Option Addr} {news : List Value} (h : ExpI w g Zi Zo n xs v W) (hm : Below W.heap.size W Wm)
    (hown : Row W1 5 1 (.slice ao (n + m) cap) (n + m) (nums xs ++ news)) (hn : news = nums ys) (hgrow : Wm.grownBy W1 v.ownBlock)
    (hat : (Value.slice ao (n + m) cap).ownBlock = v.ownBlock ∨ (Value.slice ao (n + m) cap).ownBlock = some H) (hH : W.heap.size ≤ H) : ExpI w g Zi Zo (n + m) (xs ++ ys) (.slice ao (n + m) cap) W1 := by
  subst hn
  have hb := h.b.app hm hown hgrow hat hH
  have n1 := h.b.row.ne_type h.l.h1 (by decide)
  have n2 := h.b.row.ne_type h.l.h2 (by decide)
  have k1 := (hm.block _ (blk_lt h.l.h1)).trans h.l.h1
  have k2 := (hm.block _ (blk_lt h.l.h2)).trans h.l.h2
  rw [← nums_append] at hb
  exact ⟨⟨hb.below, (hgrow.block _ (blk_lt k1) n1).trans k1, (hgrow.block _ (blk_lt k2) n2).trans k2, h.l.ge⟩, hb⟩
theorem ExpI.below {w W W1 : World} {g n : Nat} {Zi Zo : List Value} {xs : List Int} {v : Value} (h : ExpI w g Zi Zo n xs v W) (hb : Below W.heap.size W W1) : ExpI w g Zi Zo n xs v W1 := ⟨h.l.below hb, h.b.step hb⟩
theorem conv1 (W : World) (c : Int) : (convert 40 9 (.slice (some ⟨W.heap.size, 0, none⟩) 1 1)).run Try.prog (W.alloc (.cells #[.int .u8 c] 5 (0, 0))) = .ok (.string (strOfNums [c])) (W.alloc (.cells #[.int .u8 c] 5 (0, 0))) :=
  run_convert_bytes_arg _ _ _ Try.underlying40 Try.underlying5 W.heap.size 0 1 1 [c] rfl (fun j hj => by
    obtain rfl : j = 0 := by omega
    rw [blk_cell (get_top rfl)]
    rfl) _ Try.underlying9

set_option maxRecDepth 100000 in
set_option maxHeartbeats 3200000 in
theorem expand_any (key info : ByteArray) (n : Int) (hk : key.size ≤ 100000) (hi : info.size ≤ 100000) (w : World) :
    Calls Try.prog 22 #[.string key, .string info, .int .i64 n] w fun e w' => e = .returned (.tuple #[.string (expandSpec key info n).1, .int .i64 (expandSpec key info n).2]) ∧ Below w.heap.size w w' := by
  by_cases h0 : n < 0
  · have HS := Lib.hid (show expandSpec key info n = (⟨#[]⟩, 1) by rw [expandSpec, if_pos (.inl h0)])
    go_enter Try.func22, Try.ntmps22
    go_wp2
    go_ret2
    rw [HS.out]
    exact ⟨rfl, Below.refl _ _⟩
  by_cases h1 : 8160 < n
  · have HS := Lib.hid (show expandSpec key info n = (⟨#[]⟩, 1) by rw [expandSpec, if_pos (.inr h1)])
    go_enter Try.func22, Try.ntmps22
    go_wp2
    go_ret2
    rw [HS.out]
    exact ⟨rfl, Below.refl _ _⟩
  obtain ⟨m, rfl⟩ := Int.eq_ofNat_of_zero_le (show 0 ≤ n by omega)
  have HS := Lib.hid (show expandSpec key info (m : Int) = (strOfNums ((expB (bytesOf key) (bytesOf info) ((m + 31) / 32)).take m), 0) by rw [expandSpec, if_neg (by omega), Int.toNat_natCast])
  have hm : m ≤ 8160 := by omega
  have hum := Try.underlying38
  have HUM := Lib.hid hum
  clear hum
  go_enter Try.func22, Try.ntmps22
  go_wp2_with fail
  refine (pads_any key (by omega) w).mono ?_
  rintro e W1 ⟨Zi, Zo, rfl, hzi, hzo, hb1⟩
  obtain ⟨KB, hKB⟩ : ∃ K, K = bytesOf key := ⟨_, rfl⟩
  rw [← hKB] at hzi hzo HS
  have HKB := Lib.hid hKB
  have HZI := Lib.hid hzi
  have HZO := Lib.hid hzo
  have HB1 := Lib.hid hb1
  have HIM := Lib.hid (show (Try.prog.info? 38).map (·.size) = some Zi.length by rw [infoMix, hzi.length])
  have HOM := Lib.hid (show (Try.prog.info? 38).map (·.size) = some Zo.length by rw [infoMix, hzo.length])
  have HBO := Lib.hid (fun (s : ByteArray) (hs : s.size ≤ 800000) W => both_any Zi Zo (ipad KB) (opad KB) s hzi hzo (by rw [ipad_length]; omega) (by rw [opad_length]; omega) (by omega) W)
  clear hzi hzo hb1 hKB
  go_wp2_with (first | (refine wpList_alloc_known (by rfl) 38 (by rfl) mix0.toArray (mix0_zero _) ?_) | (refine wpList_store_part (by rfl) 38 (.tmp 8) (.tmp 22) (by rfl) W1.heap.size 0 Zi mix0 38 (by rfl) (by rfl) (get_below (get_top rfl)) (by rw [HZI.out.length]; exact Nat.le_refl _) HIM.out HZI.out.one ?_; intro W2 hW2 hK2; have HL1 := Lib.hid (laid1 HZI.out HB1.out hW2 hK2); clear hW2 hK2) | (refine wpList_store_part (by rfl) 38 (.tmp 9) (.tmp 23) (by rfl) (W1.heap.size + 1) 0 Zo mix0 38 (by first | rfl | simp [go_sem]) (by rfl) HL1.out.h2 (by rw [HZO.out.length]; exact Nat.le_refl _) HOM.out HZO.out.one ?_; intro W3 hW3 hK3; have HL2 := Lib.hid (laid2 HZO.out HL1.out hW3 hK3); clear hW3 hK3))
  obtain ⟨g, hg⟩ : ∃ g, g = W1.heap.size := ⟨_, rfl⟩
  rw [← hg] at HL2
  rw [← hg]
  clear hg HL1 HB1
  obtain ⟨IB, hIB⟩ : ∃ I, I = bytesOf info := ⟨_, rfl⟩
  rw [← hIB] at HS
  have HIB := Lib.hid hIB
  clear hIB
  obtain ⟨M, hM⟩ : ∃ M, M = (m + 31) / 32 := ⟨_, rfl⟩
  rw [← hM] at HS
  have HE0 := Lib.hid (show ExpI w g Zi Zo 0 [] (.slice none 0 0) W3 from ⟨HL2.out, Loc.nil HL2.out.bel _ _⟩)
  clear HL2
  go_loopg [10, 11, 12] M (fun j b t i wr => ∃ (k : Nat) (v : Value), j + k = M ∧ v = b ∧ t = .string (strOfNums (expT KB IB k)) ∧ i = .int .i64 ((k : Int) + 1) ∧ ExpI w g Zi Zo (32 * k) (expB KB IB k) v wr)
  case atStart => exact ⟨0, _, rfl, rfl, rfl, rfl, HE0.out⟩
  case round =>
    clear HE0
    obtain ⟨k, v, hk, rfl, rfl, rfl, hI⟩ := hrel
    obtain ⟨L, hL⟩ : ∃ L, L = 32 * k := ⟨_, rfl⟩
    rw [← hL] at hI
    obtain ⟨ao, cap, rfl, hcap⟩ := hI.b.row.form
    have hkM : k ≤ M := by omega
    have hM256 : M ≤ 255 := by omega
    by_cases hlt : k < M
    · have hLm : L < m := by omega
      have hlt1 : ((L : Int) < (m : Int)) := by omega
      have hts := expT_small KB IB k
      have hT1 : (strOfNums (expT KB IB k)).size ≤ 32 := by rw [strOfNums_size]; exact hts
      have hT2 : bytesOf (strOfNums (expT KB IB k)) = expT KB IB k := bytesOf_strOfNums _ (expT_b KB IB k)
      obtain ⟨T, hT⟩ : ∃ T, T = strOfNums (expT KB IB k) := ⟨_, rfl⟩
      rw [← hT] at hT1 hT2
      rw [← hT]
      have hc : ((k : Int) + 1) % 256 = (k : Int) + 1 := Int.emod_eq_of_lt (by omega) (by omega)
      have hcw := conv1 wr ((k : Int) + 1)
      have hcs : (strOfNums [(k : Int) + 1]).size = 1 := by rw [strOfNums_size]; rfl
      have hcb : bytesOf (strOfNums [(k : Int) + 1]) = [(k : Int) + 1] := bytesOf_strOfNums _ (fun x hx => by
        obtain rfl := List.mem_singleton.1 hx
        omega)
      obtain ⟨C, hC⟩ : ∃ C, C = strOfNums [(k : Int) + 1] := ⟨_, rfl⟩
      rw [← hC] at hcw hcs hcb
      have z1 : ¬ 9223372036854775807 < T.size + info.size := by omega
      have z2 : ¬ 9223372036854775807 < T.size + info.size + C.size := by omega
      have hsz : (T ++ info ++ C).size ≤ 800000 := by rw [ByteArray.size_append, ByteArray.size_append]; omega
      have hnx : strOfNums (sha (opad KB ++ sha (ipad KB ++ bytesOf (T ++ info ++ C)))) = strOfNums (expT KB IB (k + 1)) := by
        rw [bytesOf_append, bytesOf_append, hT2, hcb, ← HIB.out, expT, hc, hmac]
      have HNX := Lib.hid hnx
      have HSZ := Lib.hid hsz
      have HI := Lib.hid hI
      have HL := Lib.hid hL
      clear hT hT1 hT2 hts hc hcs hcb hC hnx hsz hI hL hLm
      go_wp2_with (first | (refine wpList_load_row (by rfl) 38 (.tmp 8) (by rfl) g (by rfl) 38 Zi.toArray (0, 0) _ HI.out.l.h1 HUM.out rfl (by simpa using HIM.out) ?_) | (refine wpList_load_row (by rfl) 38 (.tmp 9) (by rfl) (g + 1) (by rfl) 38 Zo.toArray (0, 0) _ HI.out.l.h2 HUM.out rfl (by simpa using HOM.out) ?_))
      refine (HBO.out _ HSZ.out _).mono ?_
      rw [HNX.out]
      rintro e W4 ⟨rfl, hb4⟩
      have HI4 := Lib.hid (HI.out.below (((Below.refl _ wr).alloc (Nat.le_refl _) _).trans (hb4.mono (by simp))))
      have hTs : (strOfNums (expT KB IB (k + 1))).size = 32 := by rw [strOfNums_size, expT_length]
      have hTb : Lib.strCells (strOfNums (expT KB IB (k + 1))) = nums (expT KB IB (k + 1)) := by
        rw [Lib.strCells, ← nums_bytesOf, bytesOf_strOfNums _ (expT_b KB IB (k + 1))]
      have hcat : expB KB IB k ++ expT KB IB (k + 1) = expB KB IB (k + 1) := rfl
      obtain ⟨T1, hT1⟩ : ∃ T, T = strOfNums (expT KB IB (k + 1)) := ⟨_, rfl⟩
      rw [← hT1] at hTs hTb
      have HT1 := Lib.hid hT1
      have HTS := Lib.hid hTs
      have HTB := Lib.hid hTb
      have HCAT := Lib.hid hcat
      rw [← hT1]
      obtain ⟨i0, hi, hz0, hz1, hz2⟩ := info_parts infoByte
      have HII := Lib.hid hi
      have HZ0 := Lib.hid hz0
      have HZ1 := Lib.hid hz1
      have HZ2 := Lib.hid hz2
      have hL8 : L ≤ 8160 := by omega
      clear hb4 hT1 hTs hTb hcat hcw HI hi hz0 hz1 hz2
      go_wp2_with (refine wpList_append_row _ (by rfl) _ _ _ _ (by rfl) 5 i0 (.int .u8 0) 1 1 Try.underlying40 HII.out HZ0.out HZ1.out HZ2.out rfl (by omega) _ _ _ (by rfl) HI4.out.b.row _ (by rfl) T1.size _ (Feeds.str Try.underlying9 T1) (by have := HTS.out; unfold maxLen; omega) (by have := HTS.out; omega) W4.heap.size rfl ?_; intro ao5 cap5 w5 hown5 hgrow5 hat5; have HI5 := Lib.hid (HI4.out.grow (Below.refl _ _) hown5 HTB.out hgrow5 hat5 (Nat.le_refl _)); rw [HCAT.out] at HI5; clear hown5 hgrow5 hat5)
      have e9 : L + T1.size = 32 * (k + 1) := by rw [HTS.out, HL.out]; omega
      have HI6 := Lib.hid (show ExpI w g Zi Zo (32 * (k + 1)) (expB KB IB (k + 1)) (.slice ao5 (L + T1.size) cap5) w5 by rw [← e9]; exact HI5.out)
      clear e9 HI5 HI4
      go_roundg (gk - 1)
      case measure => omega
      case rel => exact ⟨k + 1, _, by omega, rfl, by rw [HT1.out], by go_num, HI6.out⟩
    · obtain rfl : k = M := by omega
      have hmL : m ≤ L := by omega
      have hlt1 : ¬ ((L : Int) < (m : Int)) := by omega
      have hxl := expB_length KB IB k
      have hHS := HS.out
      obtain ⟨xs, hxs⟩ : ∃ xs, xs = expB KB IB k := ⟨_, rfl⟩
      rw [← hxs] at hI hxl hHS
      have HS := Lib.hid hHS
      have HBEL := Lib.hid hI.l.bel
      rcases hI.b.row.2 with ⟨he, hL0⟩ | ⟨gb, cap', cur, lo, hi, he, _⟩
      · simp at he
        obtain ⟨rfl, rfl, rfl⟩ := he
        obtain rfl : m = 0 := by omega
        have hcv := run_convert_bytes_nil (P := Try.prog) wr 40 5 Try.underlying40 Try.underlying5 0 0 9 Try.underlying9
        clear hI hL hM hHS hxl hxs hk hlt hkM hM256
        go_wp2
        go_ret2
        have hs := HS.out
        rw [show ((0 : Nat) : Int) = 0 from rfl] at hs
        rw [hs]
        exact ⟨rfl, HBEL.out⟩
      · simp at he
        obtain ⟨rfl, rfl⟩ := he
        have hmc : (m : Int) ≤ (cap : Int) := by omega
        have hm0 : (0 : Int) ≤ (m : Int) := by omega
        have hcv : (convert 40 9 (.slice (some ⟨gb, 0, none⟩) m cap)).run Try.prog wr = .ok (.string (strOfNums (xs.take m))) wr :=
          run_convert_bytes_arg wr _ _ Try.underlying40 Try.underlying5 gb 0 m cap (xs.take m) (by rw [List.length_take]; omega) (fun j hj => by
            rw [Nat.zero_add]
            refine hI.b.row.cells j _ ?_
            simp [nums, List.getD, List.getElem?_take, show j < m by omega, List.getElem?_eq_getElem (show j < xs.length by omega)]) _ Try.underlying9
        clear hI hL hM hHS hxl hxs hk hlt hkM hM256
        go_wp2
        go_ret2
        rw [HS.out]
        exact ⟨rfl, HBEL.out⟩
end Go.Proofs.Ytobgnmellbgfmaa.B
