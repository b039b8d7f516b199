/- What spec.OpOk returns, for all arguments. No conditions. -/
import Derived.Test.YtbhgkikolebpaaaDoorTxt5
namespace Go.Proofs.YtbhgkikolebpaaaDoor
open Go.RowKit
set_option linter.unusedVariables false
set_option linter.unusedSimpArgs false
attribute [local go_sem ↓] Go.wp_at_zero Go.wp_at_succ

set_option maxHeartbeats 4000000 in
theorem sOpOk_calls (k x v : Int) (w : World) : Calls Tryd.prog 21 #[.agg #[.int .i64 k, .int .i64 x, .int .i64 v]] w fun e w' =>
    e = .returned (.bool (opOk k x v)) ∧ Below w.heap.size w w' := by
  have E : Hid (opOk k x v = (knownA k && keyB x && valB v && (keyA k || x == 0) && (valA k || v == 0))) := rfl
  generalize hs : opOk k x v = r at *
  clear hs
  have x0 : keyB 0 = true := by decide
  have v0 : valB 0 = true := by decide
  have X0 := Lib.hid x0
  have V0 := Lib.hid v0
  clear x0 v0
  rcases kinds k with rfl | rfl | rfl | rfl | rfl | rfl | rfl | rfl | rfl | rfl | rfl | rfl | h
  rotate_left 12
  · have b1 : (k == 1) = false := by simp; omega
    have b2 : (k == 2) = false := by simp; omega
    have b3 : (k == 3) = false := by simp; omega
    have b4 : (k == 4) = false := by simp; omega
    have b5 : (k == 5) = false := by simp; omega
    have b6 : (k == 6) = false := by simp; omega
    have b7 : (k == 7) = false := by simp; omega
    have b8 : (k == 8) = false := by simp; omega
    have b9 : (k == 9) = false := by simp; omega
    have b10 : (k == 10) = false := by simp; omega
    have b11 : (k == 11) = false := by simp; omega
    have b12 : (k == 12) = false := by simp; omega
    have e3 : knownA k = false := by simp [knownA]; omega
    have E3 := Lib.hid e3
    clear e3 h
    go_enter Tryd.func21, Tryd.ntmps21
    go_wp2
    go_ret
    exact ⟨ret_bool (by rw [E.out, E3.out]; rfl), (Below.refl _ _).alloc (Nat.le_refl _) _⟩
  all_goals
    go_enter Tryd.func21, Tryd.ntmps21
    go_wp2_with fail
    any_goals
      first
      | (go_at_call 25
         (with_reducible refine (l1In_val _ _).mono ?_)
         rintro e w' ⟨rfl, rfl⟩
         generalize valB v = vb at *
         cases vb
         all_goals
           go_wp2
           go_ret
           exact ⟨ret_bool (by rw [E.out]; first | (simp [knownA, keyA, valA, X0.out, V0.out, *]; done) | (simp [knownA, keyA, valA, X0.out, V0.out, *]; intro h; simp [h, X0.out, V0.out]; done)), (Below.refl _ _).alloc (Nat.le_refl _) _⟩)
      | (go_at_call 25
         (with_reducible refine (l1In_key _ _).mono ?_)
         rintro e w' ⟨rfl, rfl⟩
         generalize keyB x = kb at *
         cases kb
         all_goals
           go_wp2_with fail
           any_goals
             first
             | (go_at_call 25
                (with_reducible refine (l1In_val _ _).mono ?_)
                rintro e w' ⟨rfl, rfl⟩
                generalize valB v = vb at *
                cases vb
                all_goals
                  go_wp2
                  go_ret
                  exact ⟨ret_bool (by rw [E.out]; first | (simp [knownA, keyA, valA, X0.out, V0.out, *]; done) | (simp [knownA, keyA, valA, X0.out, V0.out, *]; intro h; simp [h, X0.out, V0.out]; done)), (Below.refl _ _).alloc (Nat.le_refl _) _⟩)
             | (go_ret; exact ⟨ret_bool (by rw [E.out]; first | (simp [knownA, keyA, valA, X0.out, V0.out, *]; done) | (simp [knownA, keyA, valA, X0.out, V0.out, *]; intro h; simp [h, X0.out, V0.out]; done) | (simp [knownA, keyA, valA]; grind)), (Below.refl _ _).alloc (Nat.le_refl _) _⟩))
      | (go_ret; exact ⟨ret_bool (by rw [E.out]; first | (simp [knownA, keyA, valA, X0.out, V0.out, *]; done) | (simp [knownA, keyA, valA, X0.out, V0.out, *]; intro h; simp [h, X0.out, V0.out]; done) | (simp [knownA, keyA, valA]; grind)), (Below.refl _ _).alloc (Nat.le_refl _) _⟩)
end Go.Proofs.YtbhgkikolebpaaaDoor
