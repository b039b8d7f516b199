/- What impl.OpText returns, for all arguments. Conditions: the table that strconv reads holds the powers of ten. -/
import Derived.Test.YtbhgkikolebpaaaDoorTxt3
import Derived.Deep.RegionHeld3
import Derived.Deep.DrawnRows
namespace Go.Proofs.YtbhgkikolebpaaaDoor
open Go.RowKit
set_option linter.unusedVariables false
set_option linter.unusedSimpArgs false

attribute [local go_sem ↓] Go.wp_at_zero Go.wp_at_succ
def spS : ByteArray := ⟨#[32]⟩
def opWord (k : Int) : ByteArray := opW.getD k.toNat ⟨#[]⟩
def opText (k x v : Int) : ByteArray :=
  if opOk k x v = true then
    (let a := if keyA k = true then opWord k ++ (spS ++ decS x.toNat) else opWord k
     if valA k = true then a ++ (spS ++ decS v.toNat) else a)
  else ⟨#[]⟩
theorem opWord_size (k : Int) : (opWord k).size ≤ 6 := by
  unfold opWord
  by_cases h : k.toNat < 13
  · have : k.toNat = 0 ∨ k.toNat = 1 ∨ k.toNat = 2 ∨ k.toNat = 3 ∨ k.toNat = 4 ∨ k.toNat = 5 ∨ k.toNat = 6 ∨ k.toNat = 7 ∨ k.toNat = 8 ∨ k.toNat = 9 ∨ k.toNat = 10 ∨ k.toNat = 11 ∨ k.toNat = 12 := by omega
    rcases this with e | e | e | e | e | e | e | e | e | e | e | e | e <;> rw [e] <;> decide
  · rw [List.getD_eq_getElem?_getD, List.getElem?_eq_none (by simp [opW]; omega)]; decide
theorem opOk_parts {k x v : Int} (h : opOk k x v = true) : 1 ≤ k ∧ k ≤ 12 ∧ 0 ≤ x ∧ x ≤ 99 ∧ 0 ≤ v ∧ v ≤ 999 := by
  simp [opOk, knownA, keyB, valB] at h; omega
set_option maxHeartbeats 4000000 in
theorem OpText_calls (k x v : Int) (w : World) (ht : Lib.TabIs Tryd.prog w "internal/strconv.uint64pow10" .u64 Lib.pow10Tab) : Calls Tryd.prog 13 #[.agg #[.int .i64 k, .int .i64 x, .int .i64 v]] w fun e w' =>
    e = .returned (.string (opText k x v)) ∧ Below w.heap.size w w' := by
  have hW := (Below.refl w.heap.size w).alloc (Nat.le_refl _) (.cells #[.int .i64 k, .int .i64 x, .int .i64 v] 35)
  have ht1 := tab_below hW ht
  by_cases ho : opOk k x v = true
  · obtain ⟨k1, k2, x1, x2, v1, v2⟩ := opOk_parts ho
    obtain ⟨xn, rfl⟩ := Int.eq_ofNat_of_zero_le x1
    obtain ⟨vn, rfl⟩ := Int.eq_ofNat_of_zero_le v1
    have E : Hid (opText k xn vn = (let a := if keyA k = true then opWord k ++ (spS ++ decS xn) else opWord k
     if valA k = true then a ++ (spS ++ decS vn) else a)) := by simp only [Hid, opText]; rw [if_pos ho]; rfl
    have hk : k = 1 ∨ k = 2 ∨ k = 3 ∨ k = 4 ∨ k = 5 ∨ k = 6 ∨ k = 7 ∨ k = 8 ∨ k = 9 ∨ k = 10 ∨ k = 11 ∨ k = 12 := by omega
    have hxs := decS_size (show xn < 1000 by omega)
    have hvs := decS_size (show vn < 1000 by omega)
    clear k1 k2
    rcases hk with rfl | rfl | rfl | rfl | rfl | rfl | rfl | rfl | rfl | rfl | rfl | rfl
    · go_enter Tryd.func13, Tryd.ntmps13
      go_wp2_with fail
      refine (OpOk_calls _ _ _ _).mono ?_
      rintro e w1 ⟨rfl, hb⟩
      have ht2 := tab_below hb ht1
      obtain ⟨hc, hf⟩ := bcell hb
      have hz : w.heap.size < w1.heap.size := by have := hb.size; simp at this; omega
      rw [ho]
      go_wp2_with fail
      go_region_with (first | (go_at_call 23; refine (OpWords_calls _).mono ?_; rintro e w' ⟨rfl, rfl⟩))
      all_goals
        have hb' := hW.trans (hb.mono (show w.heap.size ≤ _ by simp))
        go_wp2_with fail
        refine (Asks_calls _ _ _ _).mono ?_
        rintro e w2 ⟨rfl, hb2⟩
        have hb2' := hb2.mono (show w1.heap.size ≤ _ by simp)
        have hA := ((Below.refl w1.heap.size w1).drew.alloc (Nat.le_refl _) (.cells _ 9)).trans hb2'
        have ht3 := tab_below hA ht2
        obtain ⟨hc2, hf2⟩ := bcell hA
        have hz2 : w.heap.size < w2.heap.size := by have := hA.size; omega
        have hB := hb'.trans (hA.mono (show w.heap.size ≤ _ by omega))
        clear hb2 hb2' hb' hb
        rw [show keyA 1 = true from rfl, show valA 1 = false from rfl]
        rw [show keyA 1 = true from rfl, show valA 1 = false from rfl] at E
        go_wp2_with fail
        refine (Itoa_calls xn (by omega) _ ht3).mono ?_
        rintro e w3 ⟨rfl, hb3⟩
        have ht4 := tab_below hb3 ht3
        obtain ⟨hc3, hf3⟩ := bcell hb3
        have hz3 : w.heap.size < w3.heap.size := by have := hb3.size; omega
        have hB := hB.trans (hb3.mono (show w.heap.size ≤ _ by omega))
        clear hb3
        generalize hd3 : decS xn = d3 at *
        clear hd3
        go_wp2
        go_ret
        exact ⟨ret_str (by rw [E.out]; rfl), hB⟩
    · go_enter Tryd.func13, Tryd.ntmps13
      go_wp2_with fail
      refine (OpOk_calls _ _ _ _).mono ?_
      rintro e w1 ⟨rfl, hb⟩
      have ht2 := tab_below hb ht1
      obtain ⟨hc, hf⟩ := bcell hb
      have hz : w.heap.size < w1.heap.size := by have := hb.size; simp at this; omega
      rw [ho]
      go_wp2_with fail
      go_region_with (first | (go_at_call 23; refine (OpWords_calls _).mono ?_; rintro e w' ⟨rfl, rfl⟩))
      all_goals
        have hb' := hW.trans (hb.mono (show w.heap.size ≤ _ by simp))
        go_wp2_with fail
        refine (Asks_calls _ _ _ _).mono ?_
        rintro e w2 ⟨rfl, hb2⟩
        have hb2' := hb2.mono (show w1.heap.size ≤ _ by simp)
        have hA := ((Below.refl w1.heap.size w1).drew.alloc (Nat.le_refl _) (.cells _ 9)).trans hb2'
        have ht3 := tab_below hA ht2
        obtain ⟨hc2, hf2⟩ := bcell hA
        have hz2 : w.heap.size < w2.heap.size := by have := hA.size; omega
        have hB := hb'.trans (hA.mono (show w.heap.size ≤ _ by omega))
        clear hb2 hb2' hb' hb
        rw [show keyA 2 = true from rfl, show valA 2 = true from rfl]
        rw [show keyA 2 = true from rfl, show valA 2 = true from rfl] at E
        go_wp2_with fail
        refine (Itoa_calls xn (by omega) _ ht3).mono ?_
        rintro e w3 ⟨rfl, hb3⟩
        have ht4 := tab_below hb3 ht3
        obtain ⟨hc3, hf3⟩ := bcell hb3
        have hz3 : w.heap.size < w3.heap.size := by have := hb3.size; omega
        have hB := hB.trans (hb3.mono (show w.heap.size ≤ _ by omega))
        clear hb3
        generalize hd3 : decS xn = d3 at *
        clear hd3
        go_wp2_with fail
        refine (Itoa_calls vn (by omega) _ ht4).mono ?_
        rintro e w4 ⟨rfl, hb4⟩
        have ht5 := tab_below hb4 ht4
        obtain ⟨hc4, hf4⟩ := bcell hb4
        have hz4 : w.heap.size < w4.heap.size := by have := hb4.size; omega
        have hB := hB.trans (hb4.mono (show w.heap.size ≤ _ by omega))
        clear hb4
        generalize hd4 : decS vn = d4 at *
        clear hd4
        go_wp2
        go_ret
        exact ⟨ret_str (by rw [E.out]; rfl), hB⟩
    · go_enter Tryd.func13, Tryd.ntmps13
      go_wp2_with fail
      refine (OpOk_calls _ _ _ _).mono ?_
      rintro e w1 ⟨rfl, hb⟩
      have ht2 := tab_below hb ht1
      obtain ⟨hc, hf⟩ := bcell hb
      have hz : w.heap.size < w1.heap.size := by have := hb.size; simp at this; omega
      rw [ho]
      go_wp2_with fail
      go_region_with (first | (go_at_call 23; refine (OpWords_calls _).mono ?_; rintro e w' ⟨rfl, rfl⟩))
      all_goals
        have hb' := hW.trans (hb.mono (show w.heap.size ≤ _ by simp))
        go_wp2_with fail
        refine (Asks_calls _ _ _ _).mono ?_
        rintro e w2 ⟨rfl, hb2⟩
        have hb2' := hb2.mono (show w1.heap.size ≤ _ by simp)
        have hA := ((Below.refl w1.heap.size w1).drew.alloc (Nat.le_refl _) (.cells _ 9)).trans hb2'
        have ht3 := tab_below hA ht2
        obtain ⟨hc2, hf2⟩ := bcell hA
        have hz2 : w.heap.size < w2.heap.size := by have := hA.size; omega
        have hB := hb'.trans (hA.mono (show w.heap.size ≤ _ by omega))
        clear hb2 hb2' hb' hb
        rw [show keyA 3 = true from rfl, show valA 3 = false from rfl]
        rw [show keyA 3 = true from rfl, show valA 3 = false from rfl] at E
        go_wp2_with fail
        refine (Itoa_calls xn (by omega) _ ht3).mono ?_
        rintro e w3 ⟨rfl, hb3⟩
        have ht4 := tab_below hb3 ht3
        obtain ⟨hc3, hf3⟩ := bcell hb3
        have hz3 : w.heap.size < w3.heap.size := by have := hb3.size; omega
        have hB := hB.trans (hb3.mono (show w.heap.size ≤ _ by omega))
        clear hb3
        generalize hd3 : decS xn = d3 at *
        clear hd3
        go_wp2
        go_ret
        exact ⟨ret_str (by rw [E.out]; rfl), hB⟩
    · go_enter Tryd.func13, Tryd.ntmps13
      go_wp2_with fail
      refine (OpOk_calls _ _ _ _).mono ?_
      rintro e w1 ⟨rfl, hb⟩
      have ht2 := tab_below hb ht1
      obtain ⟨hc, hf⟩ := bcell hb
      have hz : w.heap.size < w1.heap.size := by have := hb.size; simp at this; omega
      rw [ho]
      go_wp2_with fail
      go_region_with (first | (go_at_call 23; refine (OpWords_calls _).mono ?_; rintro e w' ⟨rfl, rfl⟩))
      all_goals
        have hb' := hW.trans (hb.mono (show w.heap.size ≤ _ by simp))
        go_wp2_with fail
        refine (Asks_calls _ _ _ _).mono ?_
        rintro e w2 ⟨rfl, hb2⟩
        have hb2' := hb2.mono (show w1.heap.size ≤ _ by simp)
        have hA := ((Below.refl w1.heap.size w1).drew.alloc (Nat.le_refl _) (.cells _ 9)).trans hb2'
        have ht3 := tab_below hA ht2
        obtain ⟨hc2, hf2⟩ := bcell hA
        have hz2 : w.heap.size < w2.heap.size := by have := hA.size; omega
        have hB := hb'.trans (hA.mono (show w.heap.size ≤ _ by omega))
        clear hb2 hb2' hb' hb
        rw [show keyA 4 = false from rfl, show valA 4 = false from rfl]
        rw [show keyA 4 = false from rfl, show valA 4 = false from rfl] at E
        go_wp2
        go_ret
        exact ⟨ret_str (by rw [E.out]; rfl), hB⟩
    · go_enter Tryd.func13, Tryd.ntmps13
      go_wp2_with fail
      refine (OpOk_calls _ _ _ _).mono ?_
      rintro e w1 ⟨rfl, hb⟩
      have ht2 := tab_below hb ht1
      obtain ⟨hc, hf⟩ := bcell hb
      have hz : w.heap.size < w1.heap.size := by have := hb.size; simp at this; omega
      rw [ho]
      go_wp2_with fail
      go_region_with (first | (go_at_call 23; refine (OpWords_calls _).mono ?_; rintro e w' ⟨rfl, rfl⟩))
      all_goals
        have hb' := hW.trans (hb.mono (show w.heap.size ≤ _ by simp))
        go_wp2_with fail
        refine (Asks_calls _ _ _ _).mono ?_
        rintro e w2 ⟨rfl, hb2⟩
        have hb2' := hb2.mono (show w1.heap.size ≤ _ by simp)
        have hA := ((Below.refl w1.heap.size w1).drew.alloc (Nat.le_refl _) (.cells _ 9)).trans hb2'
        have ht3 := tab_below hA ht2
        obtain ⟨hc2, hf2⟩ := bcell hA
        have hz2 : w.heap.size < w2.heap.size := by have := hA.size; omega
        have hB := hb'.trans (hA.mono (show w.heap.size ≤ _ by omega))
        clear hb2 hb2' hb' hb
        rw [show keyA 5 = false from rfl, show valA 5 = true from rfl]
        rw [show keyA 5 = false from rfl, show valA 5 = true from rfl] at E
        go_wp2_with fail
        refine (Itoa_calls vn (by omega) _ ht3).mono ?_
        rintro e w4 ⟨rfl, hb4⟩
        have ht5 := tab_below hb4 ht3
        obtain ⟨hc4, hf4⟩ := bcell hb4
        have hz4 : w.heap.size < w4.heap.size := by have := hb4.size; omega
        have hB := hB.trans (hb4.mono (show w.heap.size ≤ _ by omega))
        clear hb4
        generalize hd4 : decS vn = d4 at *
        clear hd4
        go_wp2
        go_ret
        exact ⟨ret_str (by rw [E.out]; rfl), hB⟩
    · go_enter Tryd.func13, Tryd.ntmps13
      go_wp2_with fail
      refine (OpOk_calls _ _ _ _).mono ?_
      rintro e w1 ⟨rfl, hb⟩
      have ht2 := tab_below hb ht1
      obtain ⟨hc, hf⟩ := bcell hb
      have hz : w.heap.size < w1.heap.size := by have := hb.size; simp at this; omega
      rw [ho]
      go_wp2_with fail
      go_region_with (first | (go_at_call 23; refine (OpWords_calls _).mono ?_; rintro e w' ⟨rfl, rfl⟩))
      all_goals
        have hb' := hW.trans (hb.mono (show w.heap.size ≤ _ by simp))
        go_wp2_with fail
        refine (Asks_calls _ _ _ _).mono ?_
        rintro e w2 ⟨rfl, hb2⟩
        have hb2' := hb2.mono (show w1.heap.size ≤ _ by simp)
        have hA := ((Below.refl w1.heap.size w1).drew.alloc (Nat.le_refl _) (.cells _ 9)).trans hb2'
        have ht3 := tab_below hA ht2
        obtain ⟨hc2, hf2⟩ := bcell hA
        have hz2 : w.heap.size < w2.heap.size := by have := hA.size; omega
        have hB := hb'.trans (hA.mono (show w.heap.size ≤ _ by omega))
        clear hb2 hb2' hb' hb
        rw [show keyA 6 = false from rfl, show valA 6 = false from rfl]
        rw [show keyA 6 = false from rfl, show valA 6 = false from rfl] at E
        go_wp2
        go_ret
        exact ⟨ret_str (by rw [E.out]; rfl), hB⟩
    · go_enter Tryd.func13, Tryd.ntmps13
      go_wp2_with fail
      refine (OpOk_calls _ _ _ _).mono ?_
      rintro e w1 ⟨rfl, hb⟩
      have ht2 := tab_below hb ht1
      obtain ⟨hc, hf⟩ := bcell hb
      have hz : w.heap.size < w1.heap.size := by have := hb.size; simp at this; omega
      rw [ho]
      go_wp2_with fail
      go_region_with (first | (go_at_call 23; refine (OpWords_calls _).mono ?_; rintro e w' ⟨rfl, rfl⟩))
      all_goals
        have hb' := hW.trans (hb.mono (show w.heap.size ≤ _ by simp))
        go_wp2_with fail
        refine (Asks_calls _ _ _ _).mono ?_
        rintro e w2 ⟨rfl, hb2⟩
        have hb2' := hb2.mono (show w1.heap.size ≤ _ by simp)
        have hA := ((Below.refl w1.heap.size w1).drew.alloc (Nat.le_refl _) (.cells _ 9)).trans hb2'
        have ht3 := tab_below hA ht2
        obtain ⟨hc2, hf2⟩ := bcell hA
        have hz2 : w.heap.size < w2.heap.size := by have := hA.size; omega
        have hB := hb'.trans (hA.mono (show w.heap.size ≤ _ by omega))
        clear hb2 hb2' hb' hb
        rw [show keyA 7 = false from rfl, show valA 7 = true from rfl]
        rw [show keyA 7 = false from rfl, show valA 7 = true from rfl] at E
        go_wp2_with fail
        refine (Itoa_calls vn (by omega) _ ht3).mono ?_
        rintro e w4 ⟨rfl, hb4⟩
        have ht5 := tab_below hb4 ht3
        obtain ⟨hc4, hf4⟩ := bcell hb4
        have hz4 : w.heap.size < w4.heap.size := by have := hb4.size; omega
        have hB := hB.trans (hb4.mono (show w.heap.size ≤ _ by omega))
        clear hb4
        generalize hd4 : decS vn = d4 at *
        clear hd4
        go_wp2
        go_ret
        exact ⟨ret_str (by rw [E.out]; rfl), hB⟩
    · go_enter Tryd.func13, Tryd.ntmps13
      go_wp2_with fail
      refine (OpOk_calls _ _ _ _).mono ?_
      rintro e w1 ⟨rfl, hb⟩
      have ht2 := tab_below hb ht1
      obtain ⟨hc, hf⟩ := bcell hb
      have hz : w.heap.size < w1.heap.size := by have := hb.size; simp at this; omega
      rw [ho]
      go_wp2_with fail
      go_region_with (first | (go_at_call 23; refine (OpWords_calls _).mono ?_; rintro e w' ⟨rfl, rfl⟩))
      all_goals
        have hb' := hW.trans (hb.mono (show w.heap.size ≤ _ by simp))
        go_wp2_with fail
        refine (Asks_calls _ _ _ _).mono ?_
        rintro e w2 ⟨rfl, hb2⟩
        have hb2' := hb2.mono (show w1.heap.size ≤ _ by simp)
        have hA := ((Below.refl w1.heap.size w1).drew.alloc (Nat.le_refl _) (.cells _ 9)).trans hb2'
        have ht3 := tab_below hA ht2
        obtain ⟨hc2, hf2⟩ := bcell hA
        have hz2 : w.heap.size < w2.heap.size := by have := hA.size; omega
        have hB := hb'.trans (hA.mono (show w.heap.size ≤ _ by omega))
        clear hb2 hb2' hb' hb
        rw [show keyA 8 = false from rfl, show valA 8 = false from rfl]
        rw [show keyA 8 = false from rfl, show valA 8 = false from rfl] at E
        go_wp2
        go_ret
        exact ⟨ret_str (by rw [E.out]; rfl), hB⟩
    · go_enter Tryd.func13, Tryd.ntmps13
      go_wp2_with fail
      refine (OpOk_calls _ _ _ _).mono ?_
      rintro e w1 ⟨rfl, hb⟩
      have ht2 := tab_below hb ht1
      obtain ⟨hc, hf⟩ := bcell hb
      have hz : w.heap.size < w1.heap.size := by have := hb.size; simp at this; omega
      rw [ho]
      go_wp2_with fail
      go_region_with (first | (go_at_call 23; refine (OpWords_calls _).mono ?_; rintro e w' ⟨rfl, rfl⟩))
      all_goals
        have hb' := hW.trans (hb.mono (show w.heap.size ≤ _ by simp))
        go_wp2_with fail
        refine (Asks_calls _ _ _ _).mono ?_
        rintro e w2 ⟨rfl, hb2⟩
        have hb2' := hb2.mono (show w1.heap.size ≤ _ by simp)
        have hA := ((Below.refl w1.heap.size w1).drew.alloc (Nat.le_refl _) (.cells _ 9)).trans hb2'
        have ht3 := tab_below hA ht2
        obtain ⟨hc2, hf2⟩ := bcell hA
        have hz2 : w.heap.size < w2.heap.size := by have := hA.size; omega
        have hB := hb'.trans (hA.mono (show w.heap.size ≤ _ by omega))
        clear hb2 hb2' hb' hb
        rw [show keyA 9 = true from rfl, show valA 9 = false from rfl]
        rw [show keyA 9 = true from rfl, show valA 9 = false from rfl] at E
        go_wp2_with fail
        refine (Itoa_calls xn (by omega) _ ht3).mono ?_
        rintro e w3 ⟨rfl, hb3⟩
        have ht4 := tab_below hb3 ht3
        obtain ⟨hc3, hf3⟩ := bcell hb3
        have hz3 : w.heap.size < w3.heap.size := by have := hb3.size; omega
        have hB := hB.trans (hb3.mono (show w.heap.size ≤ _ by omega))
        clear hb3
        generalize hd3 : decS xn = d3 at *
        clear hd3
        go_wp2
        go_ret
        exact ⟨ret_str (by rw [E.out]; rfl), hB⟩
    · go_enter Tryd.func13, Tryd.ntmps13
      go_wp2_with fail
      refine (OpOk_calls _ _ _ _).mono ?_
      rintro e w1 ⟨rfl, hb⟩
      have ht2 := tab_below hb ht1
      obtain ⟨hc, hf⟩ := bcell hb
      have hz : w.heap.size < w1.heap.size := by have := hb.size; simp at this; omega
      rw [ho]
      go_wp2_with fail
      go_region_with (first | (go_at_call 23; refine (OpWords_calls _).mono ?_; rintro e w' ⟨rfl, rfl⟩))
      all_goals
        have hb' := hW.trans (hb.mono (show w.heap.size ≤ _ by simp))
        go_wp2_with fail
        refine (Asks_calls _ _ _ _).mono ?_
        rintro e w2 ⟨rfl, hb2⟩
        have hb2' := hb2.mono (show w1.heap.size ≤ _ by simp)
        have hA := ((Below.refl w1.heap.size w1).drew.alloc (Nat.le_refl _) (.cells _ 9)).trans hb2'
        have ht3 := tab_below hA ht2
        obtain ⟨hc2, hf2⟩ := bcell hA
        have hz2 : w.heap.size < w2.heap.size := by have := hA.size; omega
        have hB := hb'.trans (hA.mono (show w.heap.size ≤ _ by omega))
        clear hb2 hb2' hb' hb
        rw [show keyA 10 = true from rfl, show valA 10 = false from rfl]
        rw [show keyA 10 = true from rfl, show valA 10 = false from rfl] at E
        go_wp2_with fail
        refine (Itoa_calls xn (by omega) _ ht3).mono ?_
        rintro e w3 ⟨rfl, hb3⟩
        have ht4 := tab_below hb3 ht3
        obtain ⟨hc3, hf3⟩ := bcell hb3
        have hz3 : w.heap.size < w3.heap.size := by have := hb3.size; omega
        have hB := hB.trans (hb3.mono (show w.heap.size ≤ _ by omega))
        clear hb3
        generalize hd3 : decS xn = d3 at *
        clear hd3
        go_wp2
        go_ret
        exact ⟨ret_str (by rw [E.out]; rfl), hB⟩
    · go_enter Tryd.func13, Tryd.ntmps13
      go_wp2_with fail
      refine (OpOk_calls _ _ _ _).mono ?_
      rintro e w1 ⟨rfl, hb⟩
      have ht2 := tab_below hb ht1
      obtain ⟨hc, hf⟩ := bcell hb
      have hz : w.heap.size < w1.heap.size := by have := hb.size; simp at this; omega
      rw [ho]
      go_wp2_with fail
      go_region_with (first | (go_at_call 23; refine (OpWords_calls _).mono ?_; rintro e w' ⟨rfl, rfl⟩))
      all_goals
        have hb' := hW.trans (hb.mono (show w.heap.size ≤ _ by simp))
        go_wp2_with fail
        refine (Asks_calls _ _ _ _).mono ?_
        rintro e w2 ⟨rfl, hb2⟩
        have hb2' := hb2.mono (show w1.heap.size ≤ _ by simp)
        have hA := ((Below.refl w1.heap.size w1).drew.alloc (Nat.le_refl _) (.cells _ 9)).trans hb2'
        have ht3 := tab_below hA ht2
        obtain ⟨hc2, hf2⟩ := bcell hA
        have hz2 : w.heap.size < w2.heap.size := by have := hA.size; omega
        have hB := hb'.trans (hA.mono (show w.heap.size ≤ _ by omega))
        clear hb2 hb2' hb' hb
        rw [show keyA 11 = false from rfl, show valA 11 = false from rfl]
        rw [show keyA 11 = false from rfl, show valA 11 = false from rfl] at E
        go_wp2
        go_ret
        exact ⟨ret_str (by rw [E.out]; rfl), hB⟩
    · go_enter Tryd.func13, Tryd.ntmps13
      go_wp2_with fail
      refine (OpOk_calls _ _ _ _).mono ?_
      rintro e w1 ⟨rfl, hb⟩
      have ht2 := tab_below hb ht1
      obtain ⟨hc, hf⟩ := bcell hb
      have hz : w.heap.size < w1.heap.size := by have := hb.size; simp at this; omega
      rw [ho]
      go_wp2_with fail
      go_region_with (first | (go_at_call 23; refine (OpWords_calls _).mono ?_; rintro e w' ⟨rfl, rfl⟩))
      all_goals
        have hb' := hW.trans (hb.mono (show w.heap.size ≤ _ by simp))
        go_wp2_with fail
        refine (Asks_calls _ _ _ _).mono ?_
        rintro e w2 ⟨rfl, hb2⟩
        have hb2' := hb2.mono (show w1.heap.size ≤ _ by simp)
        have hA := ((Below.refl w1.heap.size w1).drew.alloc (Nat.le_refl _) (.cells _ 9)).trans hb2'
        have ht3 := tab_below hA ht2
        obtain ⟨hc2, hf2⟩ := bcell hA
        have hz2 : w.heap.size < w2.heap.size := by have := hA.size; omega
        have hB := hb'.trans (hA.mono (show w.heap.size ≤ _ by omega))
        clear hb2 hb2' hb' hb
        rw [show keyA 12 = false from rfl, show valA 12 = false from rfl]
        rw [show keyA 12 = false from rfl, show valA 12 = false from rfl] at E
        go_wp2
        go_ret
        exact ⟨ret_str (by rw [E.out]; rfl), hB⟩
  · have ho' : opOk k x v = false := by simpa using ho
    go_enter Tryd.func13, Tryd.ntmps13
    go_wp2_with fail
    refine (OpOk_calls _ _ _ _).mono ?_
    rintro e w1 ⟨rfl, hb⟩
    rw [ho']
    go_wp2
    go_ret
    exact ⟨ret_str (by simp [opText, ho']), hW.trans (hb.mono (by simp))⟩
end Go.Proofs.YtbhgkikolebpaaaDoor
