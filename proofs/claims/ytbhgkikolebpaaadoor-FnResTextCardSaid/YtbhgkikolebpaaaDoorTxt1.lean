/- What isKey, isVal and the method ok of an answer return, for all numbers. No conditions. -/
import Derived.Test.YtbhgkikolebpaaaDoorTxt0
namespace Go.Proofs.YtbhgkikolebpaaaDoor
open Go.RowKit
set_option linter.unusedVariables false
set_option linter.unusedSimpArgs false

def keyB (n : Int) : Bool := decide (0 ≤ n) && decide (n ≤ 99)
def valB (n : Int) : Bool := decide (0 ≤ n) && decide (n ≤ 999)
theorem isVal_b (n : Int) (w : World) : Calls Tryd.prog 26 #[.int .i64 n] w fun e w' => e = .returned (.bool (valB n)) ∧ w = w' :=
  (isVal_calls n w).mono fun e w' ⟨h, hw⟩ => ⟨by rw [h]; simp [valB], hw⟩
theorem isKey_b (n : Int) (w : World) : Calls Tryd.prog 28 #[.int .i64 n] w fun e w' => e = .returned (.bool (keyB n)) ∧ w = w' := by
  by_cases h1 : 0 ≤ n
  · have b1 : decide (0 ≤ n) = true := decide_eq_true h1
    go_enter Tryd.func28, Tryd.ntmps28
    go_wp2
    go_ret
    exact ⟨by simp [keyB, h1], rfl⟩
  · have b1 : decide (0 ≤ n) = false := decide_eq_false h1
    go_enter Tryd.func28, Tryd.ntmps28
    go_wp2
    go_ret
    exact ⟨by simp [keyB]; omega, rfl⟩

def resOk (c v : Int) : Bool := if c = 1 ∨ c = 3 then v == 0 else if c = 2 then valB v else false

theorem ResOk_calls (c v : Int) (w : World) : Calls Tryd.prog 16 #[.agg #[.int .i64 c, .int .i64 v]] w fun e w' => e = .returned (.bool (resOk c v)) ∧ Below w.heap.size w w' := by
  by_cases h1 : c = 1
  · subst h1
    go_enter Tryd.func16, Tryd.ntmps16
    go_wp2
    go_ret
    exact ⟨by simp [resOk], (Below.refl _ _).alloc (Nat.le_refl _) _⟩
  · by_cases h3 : c = 3
    · subst h3
      go_enter Tryd.func16, Tryd.ntmps16
      go_wp2
      go_ret
      exact ⟨by simp [resOk], (Below.refl _ _).alloc (Nat.le_refl _) _⟩
    · by_cases h2 : c = 2
      · subst h2
        go_enter Tryd.func16, Tryd.ntmps16
        go_wp2_with (go_at_call 26; refine (isVal_b _ _).mono ?_; rintro e w' ⟨rfl, rfl⟩)
        go_ret
        exact ⟨by simp [resOk], (Below.refl _ _).alloc (Nat.le_refl _) _⟩
      · have b1 : (c == 1) = false := by simp [h1]
        have b3 : (c == 3) = false := by simp [h3]
        have b2 : (c == 2) = false := by simp [h2]
        go_enter Tryd.func16, Tryd.ntmps16
        go_wp2
        go_ret
        exact ⟨by simp [resOk, h1, h2, h3], (Below.refl _ _).alloc (Nat.le_refl _) _⟩
end Go.Proofs.YtbhgkikolebpaaaDoor
