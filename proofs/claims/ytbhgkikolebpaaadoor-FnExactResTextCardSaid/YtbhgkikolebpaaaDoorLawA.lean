/- The calls of laws.FnExactResText and laws.FnExactOpText return true, for all arguments. Conditions: the table that strconv reads holds the powers of ten. -/
import Derived.Test.YtbhgkikolebpaaaDoorTxt7
import Derived.Handy
namespace Go.Proofs.YtbhgkikolebpaaaDoor
open Go.RowKit
set_option linter.unusedVariables false
set_option linter.unusedSimpArgs false
attribute [local go_sem ↓] Go.wp_at_zero Go.wp_at_succ

theorem toResRes_calls (c v : Int) (w : World) : Calls Tryd.prog 7 #[.agg #[.int .i64 c, .int .i64 v]] w fun e w' => e = .returned (.agg #[.int .i64 c, .int .i64 v]) ∧ Below w.heap.size w w' := by
  go_enter Tryd.func7, Tryd.ntmps7
  go_wp2
  go_returns
  exact ⟨rfl, by repeat (first | exact Below.refl _ _ | (refine Below.setCell ?_ (by simp) _) | (refine Below.alloc ?_ (by first | (simp; done) | (simp; omega)) _))⟩
theorem toOpOp_calls (k x v : Int) (w : World) : Calls Tryd.prog 12 #[.agg #[.int .i64 k, .int .i64 x, .int .i64 v]] w fun e w' => e = .returned (.agg #[.int .i64 k, .int .i64 x, .int .i64 v]) ∧ Below w.heap.size w w' := by
  go_enter Tryd.func12, Tryd.ntmps12
  go_wp2
  go_returns
  exact ⟨rfl, by repeat (first | exact Below.refl _ _ | (refine Below.setCell ?_ (by simp) _) | (refine Below.alloc ?_ (by first | (simp; done) | (simp; omega)) _))⟩

theorem FnExactResText_calls (c v : Int) (w : World) (ht : Lib.TabIs Tryd.prog w "internal/strconv.uint64pow10" .u64 Lib.pow10Tab) :
    Calls Tryd.prog 3 #[.agg #[.int .i64 c, .int .i64 v]] w fun e w' => e = .returned (.bool true) ∧ Below w.heap.size w w' := by
  have hW := (Below.refl w.heap.size w).alloc (Nat.le_refl _) (.cells #[.int .i64 c, .int .i64 v] 23)
  have ht1 := tab_below hW ht
  go_enter Tryd.func3, Tryd.ntmps3
  go_wp2_with fail
  refine (toResRes_calls _ _ _).mono ?_
  rintro e w1 ⟨rfl, hb1⟩
  have ht2 := tab_below hb1 ht1
  obtain ⟨hc1, hf1⟩ := bcell hb1
  have hz1 : w.heap.size < w1.heap.size := by have := hb1.size; simp at this; omega
  have hB := hW.trans (hb1.mono (show w.heap.size ≤ _ by simp))
  go_wp2_with fail
  refine (sResText_calls _ _ _).mono ?_
  rintro e w2 ⟨rfl, hb2⟩
  have ht3 := tab_below hb2 ht2
  obtain ⟨hc2, hf2⟩ := bcell hb2
  have hz2 : w.heap.size < w2.heap.size := by have := hb2.size; omega
  have hB := hB.trans (hb2.mono (show w.heap.size ≤ _ by omega))
  go_wp2_with fail
  refine (toResRes_calls _ _ _).mono ?_
  rintro e w3 ⟨rfl, hb3⟩
  have ht4 := tab_below hb3 ht3
  have hz3 : w.heap.size < w3.heap.size := by have := hb3.size; omega
  have hB := hB.trans (hb3.mono (show w.heap.size ≤ _ by omega))
  go_wp2_with fail
  refine (ResText_calls _ _ _ ht4).mono ?_
  rintro e w4 ⟨rfl, hb4⟩
  have hB := hB.trans (hb4.mono (show w.heap.size ≤ _ by omega))
  clear hb1 hb2 hb3 hb4 ht1 ht2 ht3 ht4
  generalize resText c v = s
  go_wp2
  go_ret
  exact ⟨rfl, hB⟩
theorem FnExactOpText_calls (k x v : Int) (w : World) (ht : Lib.TabIs Tryd.prog w "internal/strconv.uint64pow10" .u64 Lib.pow10Tab) :
    Calls Tryd.prog 5 #[.agg #[.int .i64 k, .int .i64 x, .int .i64 v]] w fun e w' => e = .returned (.bool true) ∧ Below w.heap.size w w' := by
  have hW := (Below.refl w.heap.size w).alloc (Nat.le_refl _) (.cells #[.int .i64 k, .int .i64 x, .int .i64 v] 33)
  have ht1 := tab_below hW ht
  go_enter Tryd.func5, Tryd.ntmps5
  go_wp2_with fail
  refine (toOpOp_calls _ _ _ _).mono ?_
  rintro e w1 ⟨rfl, hb1⟩
  have ht2 := tab_below hb1 ht1
  obtain ⟨hc1, hf1⟩ := bcell hb1
  have hz1 : w.heap.size < w1.heap.size := by have := hb1.size; simp at this; omega
  have hB := hW.trans (hb1.mono (show w.heap.size ≤ _ by simp))
  go_wp2_with fail
  refine (sOpText_calls _ _ _ _).mono ?_
  rintro e w2 ⟨rfl, hb2⟩
  have ht3 := tab_below hb2 ht2
  obtain ⟨hc2, hf2⟩ := bcell hb2
  have hz2 : w.heap.size < w2.heap.size := by have := hb2.size; omega
  have hB := hB.trans (hb2.mono (show w.heap.size ≤ _ by omega))
  go_wp2_with fail
  refine (toOpOp_calls _ _ _ _).mono ?_
  rintro e w3 ⟨rfl, hb3⟩
  have ht4 := tab_below hb3 ht3
  have hz3 : w.heap.size < w3.heap.size := by have := hb3.size; omega
  have hB := hB.trans (hb3.mono (show w.heap.size ≤ _ by omega))
  go_wp2_with fail
  refine (OpText_calls _ _ _ _ ht4).mono ?_
  rintro e w4 ⟨rfl, hb4⟩
  have hB := hB.trans (hb4.mono (show w.heap.size ≤ _ by omega))
  clear hb1 hb2 hb3 hb4 ht1 ht2 ht3 ht4
  generalize opText k x v = s
  go_wp2
  go_ret
  exact ⟨rfl, hB⟩
end Go.Proofs.YtbhgkikolebpaaaDoor
