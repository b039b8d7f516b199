/- What spec.OpText returns, for all arguments. No conditions. -/
import Derived.Test.YtbhgkikolebpaaaDoorTxt6
namespace Go.Proofs.YtbhgkikolebpaaaDoor
open Go.RowKit
set_option linter.unusedVariables false
set_option linter.unusedSimpArgs false
attribute [local go_sem ↓] Go.wp_at_zero Go.wp_at_succ

theorem ba_assoc (a b c : ByteArray) : a ++ (b ++ c) = a ++ b ++ c := by
  apply ByteArray.ext; simp
set_option maxHeartbeats 4000000 in
theorem sOpText_calls (k x v : Int) (w : World) : Calls Tryd.prog 11 #[.agg #[.int .i64 k, .int .i64 x, .int .i64 v]] w fun e w' =>
    e = .returned (.string (opText k x v)) ∧ Below w.heap.size w w' := by
  have hW := (Below.refl w.heap.size w).alloc (Nat.le_refl _) (.cells #[.int .i64 k, .int .i64 x, .int .i64 v] 35)
  by_cases ho : opOk k x v = true
  · obtain ⟨k1, k2, x1, x2, v1, v2⟩ := opOk_parts ho
    obtain ⟨xn, rfl⟩ := Int.eq_ofNat_of_zero_le x1
    obtain ⟨vn, rfl⟩ := Int.eq_ofNat_of_zero_le v1
    have E : Hid (opText k xn vn = (let a := if keyA k = true then opWord k ++ (spS ++ decS xn) else opWord k
     if valA k = true then a ++ (spS ++ decS vn) else a)) := by simp only [Hid, opText]; rw [if_pos ho]; rfl
    have hxs := decS_size (show xn < 1000 by omega)
    have hvs := decS_size (show vn < 1000 by omega)
    have hk : k = 1 ∨ k = 2 ∨ k = 3 ∨ k = 4 ∨ k = 5 ∨ k = 6 ∨ k = 7 ∨ k = 8 ∨ k = 9 ∨ k = 10 ∨ k = 11 ∨ k = 12 := by omega
    have Ho := Lib.hid ho
    clear k1 k2 ho
    rcases hk with rfl | rfl | rfl | rfl | rfl | rfl | rfl | rfl | rfl | rfl | rfl | rfl
    · go_enter Tryd.func11, Tryd.ntmps11
      go_wp2_with fail
      refine (sOpOk_calls _ _ _ _).mono ?_
      rintro e w1 ⟨rfl, hb⟩
      obtain ⟨hc, hf⟩ := bcell hb
      have hz : w.heap.size < w1.heap.size := by have := hb.size; simp at this; omega
      have hB := hW.trans (hb.mono (show w.heap.size ≤ _ by simp))
      rw [Ho.out]
      go_wp2_with fail
      refine (l9Plain_calls xn (by omega) _).mono ?_
      rintro e w3 ⟨rfl, hb3⟩
      have hB := hB.trans (hb3.mono (show w.heap.size ≤ _ by omega))
      generalize hd3 : decS xn = d3 at *
      clear hd3
      go_wp2
      go_ret
      exact ⟨ret_str (by rw [E.out]; show _ = opWord 1 ++ (spS ++ d3); rw [ba_assoc]; rfl), hB⟩
    · go_enter Tryd.func11, Tryd.ntmps11
      go_wp2_with fail
      refine (sOpOk_calls _ _ _ _).mono ?_
      rintro e w1 ⟨rfl, hb⟩
      obtain ⟨hc, hf⟩ := bcell hb
      have hz : w.heap.size < w1.heap.size := by have := hb.size; simp at this; omega
      have hB := hW.trans (hb.mono (show w.heap.size ≤ _ by simp))
      rw [Ho.out]
      go_wp2_with fail
      obtain ⟨hS1, hS2, hS3, hS4⟩ : Hid (Below w.heap.size w w1) ∧ w.heap.size < w1.heap.size ∧ w1.cell? ⟨w.heap.size, 1, none⟩ = some (.int .i64 xn) ∧ w1.cell? ⟨w.heap.size, 2, none⟩ = some (.int .i64 vn) :=
        ⟨hB, hz, by rw [hc _ _ (by simp)]; exact (blk_cell (heap_alloc_new w _) 1).trans rfl, by rw [hc _ _ (by simp)]; exact (blk_cell (heap_alloc_new w _) 2).trans rfl⟩
      clear hW hb hc hf hB
      have cx := l9Plain_calls xn (by omega)
      have cv := l9Plain_calls vn (by omega)
      generalize decS xn = dx at *
      generalize decS vn = dv at *
      have q1 : (9223372036854775807 < 4 + dx.size) = False := by simp; omega
      have q2 : (9223372036854775807 < 4 + dx.size + 1) = False := by simp; omega
      have q3 : (9223372036854775807 < 4 + dx.size + 1 + dv.size) = False := by simp; omega
      have Cx := Lib.hid cx
      have Cv := Lib.hid cv
      clear cx cv
      go_region_held3 (fun w' => Hid (Below w.heap.size w w') ∧ w.heap.size < w'.heap.size ∧ w'.cell? ⟨w.heap.size, 1, none⟩ = some (.int .i64 xn) ∧ w'.cell? ⟨w.heap.size, 2, none⟩ = some (.int .i64 vn))
        (first | assumption | (go_split_ands; refine ⟨?_, ?_, ?_, ?_⟩ <;> first | assumption | omega | (apply Below.drew; assumption) | (refine Below.trans ?_ (Below.mono hbb ?_) <;> first | assumption | omega | (apply Below.drew; assumption) | (simp; omega)) | (rw [(bcell hbb).1 _ _ (by assumption)]; assumption)))
        (first | (go_at_call 15; (with_reducible refine (Cx.out _).mono ?_); rintro e w' ⟨rfl, hbb⟩; have hsz := hbb.size) | (go_at_call 15; (with_reducible refine (Cv.out _).mono ?_); rintro e w' ⟨rfl, hbb⟩; have hsz := hbb.size))
      go_split_ands
      go_wp2
      go_ret
      exact ⟨ret_str (by rw [E.out]; show _ = opWord 2 ++ (spS ++ dx) ++ (spS ++ dv); simp only [ba_assoc]; rfl), Hid.out (by assumption)⟩
    · go_enter Tryd.func11, Tryd.ntmps11
      go_wp2_with fail
      refine (sOpOk_calls _ _ _ _).mono ?_
      rintro e w1 ⟨rfl, hb⟩
      obtain ⟨hc, hf⟩ := bcell hb
      have hz : w.heap.size < w1.heap.size := by have := hb.size; simp at this; omega
      have hB := hW.trans (hb.mono (show w.heap.size ≤ _ by simp))
      rw [Ho.out]
      go_wp2_with fail
      refine (l9Plain_calls xn (by omega) _).mono ?_
      rintro e w3 ⟨rfl, hb3⟩
      have hB := hB.trans (hb3.mono (show w.heap.size ≤ _ by omega))
      generalize hd3 : decS xn = d3 at *
      clear hd3
      go_wp2
      go_ret
      exact ⟨ret_str (by rw [E.out]; show _ = opWord 3 ++ (spS ++ d3); rw [ba_assoc]; rfl), hB⟩
    · go_enter Tryd.func11, Tryd.ntmps11
      go_wp2_with fail
      refine (sOpOk_calls _ _ _ _).mono ?_
      rintro e w1 ⟨rfl, hb⟩
      obtain ⟨hc, hf⟩ := bcell hb
      have hz : w.heap.size < w1.heap.size := by have := hb.size; simp at this; omega
      have hB := hW.trans (hb.mono (show w.heap.size ≤ _ by simp))
      rw [Ho.out]
      go_wp2
      go_ret
      exact ⟨ret_str (by rw [E.out]; rfl), hB.alloc (by omega) _⟩
    · go_enter Tryd.func11, Tryd.ntmps11
      go_wp2_with fail
      refine (sOpOk_calls _ _ _ _).mono ?_
      rintro e w1 ⟨rfl, hb⟩
      obtain ⟨hc, hf⟩ := bcell hb
      have hz : w.heap.size < w1.heap.size := by have := hb.size; simp at this; omega
      have hB := hW.trans (hb.mono (show w.heap.size ≤ _ by simp))
      rw [Ho.out]
      go_wp2_with fail
      refine (l9Plain_calls vn (by omega) _).mono ?_
      rintro e w3 ⟨rfl, hb3⟩
      have hB := hB.trans (hb3.mono (show w.heap.size ≤ _ by omega))
      generalize hd3 : decS vn = d3 at *
      clear hd3
      go_wp2
      go_ret
      exact ⟨ret_str (by rw [E.out]; show _ = opWord 5 ++ (spS ++ d3); rw [ba_assoc]; rfl), hB⟩
    · go_enter Tryd.func11, Tryd.ntmps11
      go_wp2_with fail
      refine (sOpOk_calls _ _ _ _).mono ?_
      rintro e w1 ⟨rfl, hb⟩
      obtain ⟨hc, hf⟩ := bcell hb
      have hz : w.heap.size < w1.heap.size := by have := hb.size; simp at this; omega
      have hB := hW.trans (hb.mono (show w.heap.size ≤ _ by simp))
      rw [Ho.out]
      go_wp2
      go_ret
      exact ⟨ret_str (by rw [E.out]; rfl), hB.alloc (by omega) _⟩
    · go_enter Tryd.func11, Tryd.ntmps11
      go_wp2_with fail
      refine (sOpOk_calls _ _ _ _).mono ?_
      rintro e w1 ⟨rfl, hb⟩
      obtain ⟨hc, hf⟩ := bcell hb
      have hz : w.heap.size < w1.heap.size := by have := hb.size; simp at this; omega
      have hB := hW.trans (hb.mono (show w.heap.size ≤ _ by simp))
      rw [Ho.out]
      go_wp2_with fail
      refine (l9Plain_calls vn (by omega) _).mono ?_
      rintro e w3 ⟨rfl, hb3⟩
      have hB := hB.trans (hb3.mono (show w.heap.size ≤ _ by omega))
      generalize hd3 : decS vn = d3 at *
      clear hd3
      go_wp2
      go_ret
      exact ⟨ret_str (by rw [E.out]; show _ = opWord 7 ++ (spS ++ d3); rw [ba_assoc]; rfl), hB⟩
    · go_enter Tryd.func11, Tryd.ntmps11
      go_wp2_with fail
      refine (sOpOk_calls _ _ _ _).mono ?_
      rintro e w1 ⟨rfl, hb⟩
      obtain ⟨hc, hf⟩ := bcell hb
      have hz : w.heap.size < w1.heap.size := by have := hb.size; simp at this; omega
      have hB := hW.trans (hb.mono (show w.heap.size ≤ _ by simp))
      rw [Ho.out]
      go_wp2
      go_ret
      exact ⟨ret_str (by rw [E.out]; rfl), hB.alloc (by omega) _⟩
    · go_enter Tryd.func11, Tryd.ntmps11
      go_wp2_with fail
      refine (sOpOk_calls _ _ _ _).mono ?_
      rintro e w1 ⟨rfl, hb⟩
      obtain ⟨hc, hf⟩ := bcell hb
      have hz : w.heap.size < w1.heap.size := by have := hb.size; simp at this; omega
      have hB := hW.trans (hb.mono (show w.heap.size ≤ _ by simp))
      rw [Ho.out]
      go_wp2_with fail
      refine (l9Plain_calls xn (by omega) _).mono ?_
      rintro e w3 ⟨rfl, hb3⟩
      have hB := hB.trans (hb3.mono (show w.heap.size ≤ _ by omega))
      generalize hd3 : decS xn = d3 at *
      clear hd3
      go_wp2
      go_ret
      exact ⟨ret_str (by rw [E.out]; show _ = opWord 9 ++ (spS ++ d3); rw [ba_assoc]; rfl), hB⟩
    · go_enter Tryd.func11, Tryd.ntmps11
      go_wp2_with fail
      refine (sOpOk_calls _ _ _ _).mono ?_
      rintro e w1 ⟨rfl, hb⟩
      obtain ⟨hc, hf⟩ := bcell hb
      have hz : w.heap.size < w1.heap.size := by have := hb.size; simp at this; omega
      have hB := hW.trans (hb.mono (show w.heap.size ≤ _ by simp))
      rw [Ho.out]
      go_wp2_with fail
      refine (l9Plain_calls xn (by omega) _).mono ?_
      rintro e w3 ⟨rfl, hb3⟩
      have hB := hB.trans (hb3.mono (show w.heap.size ≤ _ by omega))
      generalize hd3 : decS xn = d3 at *
      clear hd3
      go_wp2
      go_ret
      exact ⟨ret_str (by rw [E.out]; show _ = opWord 10 ++ (spS ++ d3); rw [ba_assoc]; rfl), hB⟩
    · go_enter Tryd.func11, Tryd.ntmps11
      go_wp2_with fail
      refine (sOpOk_calls _ _ _ _).mono ?_
      rintro e w1 ⟨rfl, hb⟩
      obtain ⟨hc, hf⟩ := bcell hb
      have hz : w.heap.size < w1.heap.size := by have := hb.size; simp at this; omega
      have hB := hW.trans (hb.mono (show w.heap.size ≤ _ by simp))
      rw [Ho.out]
      go_wp2
      go_ret
      exact ⟨ret_str (by rw [E.out]; rfl), hB.alloc (by omega) _⟩
    · go_enter Tryd.func11, Tryd.ntmps11
      go_wp2_with fail
      refine (sOpOk_calls _ _ _ _).mono ?_
      rintro e w1 ⟨rfl, hb⟩
      obtain ⟨hc, hf⟩ := bcell hb
      have hz : w.heap.size < w1.heap.size := by have := hb.size; simp at this; omega
      have hB := hW.trans (hb.mono (show w.heap.size ≤ _ by simp))
      rw [Ho.out]
      go_wp2
      go_ret
      exact ⟨ret_str (by rw [E.out]; rfl), hB.alloc (by omega) _⟩
  · have ho' : opOk k x v = false := by simpa using ho
    have Ho := Lib.hid ho'
    have E : Hid (opText k x v = ⟨#[]⟩) := by simp [Hid, opText, ho']
    clear ho ho'
    go_enter Tryd.func11, Tryd.ntmps11
    go_wp2_with fail
    refine (sOpOk_calls _ _ _ _).mono ?_
    rintro e w1 ⟨rfl, hb⟩
    rw [Ho.out]
    go_wp2
    go_ret
    exact ⟨ret_str (by rw [E.out]), hW.trans (hb.mono (by simp))⟩
end Go.Proofs.YtbhgkikolebpaaaDoor
