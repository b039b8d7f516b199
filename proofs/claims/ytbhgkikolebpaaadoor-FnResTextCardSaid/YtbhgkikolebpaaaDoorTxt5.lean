/- What l1In, l5Res and spec.ResText return, for all arguments. No conditions. -/
import Derived.Test.YtbhgkikolebpaaaDoorTxt4
namespace Go.Proofs.YtbhgkikolebpaaaDoor
open Go.RowKit
set_option linter.unusedVariables false
set_option linter.unusedSimpArgs false
attribute [local go_sem ↓] Go.wp_at_zero Go.wp_at_succ

theorem l1In_calls (a b c : Int) (w : World) : Calls Tryd.prog 25 #[.int .i64 a, .int .i64 b, .int .i64 c] w fun e w' => e = .returned (.bool (decide (b ≤ a) && decide (a ≤ c))) ∧ w = w' := by
  by_cases h1 : b ≤ a
  · have b1 : decide (b ≤ a) = true := decide_eq_true h1
    go_enter Tryd.func25, Tryd.ntmps25
    go_wp2
    go_ret
    exact ⟨by simp [h1], rfl⟩
  · have b1 : decide (b ≤ a) = false := decide_eq_false h1
    go_enter Tryd.func25, Tryd.ntmps25
    go_wp2
    go_ret
    exact ⟨by simp [h1], rfl⟩
theorem l1In_key (a : Int) (w : World) : Calls Tryd.prog 25 #[.int .i64 a, .int .i64 0, .int .i64 99] w fun e w' => e = .returned (.bool (keyB a)) ∧ w = w' := l1In_calls a 0 99 w
theorem l1In_val (a : Int) (w : World) : Calls Tryd.prog 25 #[.int .i64 a, .int .i64 0, .int .i64 999] w fun e w' => e = .returned (.bool (valB a)) ∧ w = w' := l1In_calls a 0 999 w

/-- spec's l5Res: an answer, or nothing. -/
def resIn (c v : Int) : Bool := decide (0 ≤ c) && decide (c ≤ 3) && valB v && (c == 2 || v == 0)
theorem l5Res_calls (c v : Int) (w : World) : Calls Tryd.prog 14 #[.agg #[.int .i64 c, .int .i64 v]] w fun e w' => e = .returned (.bool (resIn c v)) ∧ Below w.heap.size w w' := by
  have hW := (Below.refl w.heap.size w).alloc (Nat.le_refl _) (.cells #[.int .i64 c, .int .i64 v] 25)
  have E : Hid (resIn c v = (decide (0 ≤ c) && decide (c ≤ 3) && valB v && (c == 2 || v == 0))) := rfl
  generalize hs : resIn c v = r at *
  clear hs
  generalize hi : (decide (0 ≤ c) && decide (c ≤ 3)) = ib at *
  generalize hj : valB v = vb at *
  have hi' := Lib.hid hi
  have hj' := Lib.hid hj
  clear hi hj
  go_enter Tryd.func14, Tryd.ntmps14
  go_wp2_with fail
  refine (l1In_calls _ _ _ _).mono ?_
  rintro e w' ⟨rfl, rfl⟩
  rw [hi'.out]
  cases ib
  · go_wp2
    go_ret
    exact ⟨ret_bool (by rw [E.out]; simp), hW⟩
  · go_wp2_with fail
    refine (l1In_val _ _).mono ?_
    rintro e w' ⟨rfl, rfl⟩
    rw [hj'.out]
    cases vb
    all_goals
      go_wp2
      all_goals
        go_ret
        exact ⟨ret_bool (by rw [E.out]; simp [*]), (Below.refl _ _).alloc (Nat.le_refl _) _⟩

theorem resIn_ok (c v : Int) : (resIn c v && !(c == 0)) = resOk c v := by
  have h : c < 0 ∨ c = 0 ∨ c = 1 ∨ c = 2 ∨ c = 3 ∨ 3 < c := by omega
  rcases h with h | rfl | rfl | rfl | rfl | h
  · have : ¬ 0 ≤ c := by omega
    simp [resIn, resOk, this, show c ≠ 1 by omega, show c ≠ 2 by omega, show c ≠ 3 by omega]
  · simp [resIn, resOk]
  · by_cases hv : v = 0
    · subst hv; decide
    · simp [resIn, resOk, hv]
  · simp [resIn, resOk]
  · by_cases hv : v = 0
    · subst hv; decide
    · simp [resIn, resOk, hv]
  · have : ¬ c ≤ 3 := by omega
    simp [resIn, resOk, this, show c ≠ 1 by omega, show c ≠ 2 by omega, show c ≠ 3 by omega]

set_option maxHeartbeats 800000 in
theorem sResText_calls (c v : Int) (w : World) :
    Calls Tryd.prog 6 #[.agg #[.int .i64 c, .int .i64 v]] w fun e w' => e = .returned (.string (resText c v)) ∧ Below w.heap.size w w' := by
  have hW := (Below.refl w.heap.size w).alloc (Nat.le_refl _) (.cells #[.int .i64 c, .int .i64 v] 25)
  have hR := resIn_ok c v
  by_cases hi : resIn c v = true
  · by_cases h0 : c = 0
    · subst h0
      have E : Hid (resText 0 v = ⟨#[]⟩) := by simp [Hid, resText, resOk]
      have Hi := Lib.hid hi
      clear hR hi
      go_enter Tryd.func6, Tryd.ntmps6
      go_wp2_with fail
      refine (l5Res_calls _ _ _).mono ?_
      rintro e w1 ⟨rfl, hb⟩
      obtain ⟨hc, hf⟩ := bcell hb
      rw [Hi.out]
      go_wp2
      go_ret
      exact ⟨ret_str (by rw [E.out]), hW.trans (hb.mono (by simp))⟩
    · have hr : resOk c v = true := by rw [← hR, hi]; simp [h0]
      have b0 : (c == 0) = false := by simp [h0]
      clear hR
      by_cases h1 : c = 1
      · subst h1
        have E : Hid (resText 1 v = noS) := by simp [Hid, resText, hr]
        have Hi := Lib.hid hi
        clear hi hr b0 h0
        go_enter Tryd.func6, Tryd.ntmps6
        go_wp2_with fail
        refine (l5Res_calls _ _ _).mono ?_
        rintro e w1 ⟨rfl, hb⟩
        obtain ⟨hc, hf⟩ := bcell hb
        rw [Hi.out]
        go_wp2
        go_ret
        exact ⟨ret_str (by rw [E.out]; rfl), hW.trans (hb.mono (by simp))⟩
      · by_cases h3 : c = 3
        · subst h3
          have E : Hid (resText 3 v = fullS) := by simp [Hid, resText, hr]
          have Hi := Lib.hid hi
          clear hi hr b0 h0
          go_enter Tryd.func6, Tryd.ntmps6
          go_wp2_with fail
          refine (l5Res_calls _ _ _).mono ?_
          rintro e w1 ⟨rfl, hb⟩
          obtain ⟨hc, hf⟩ := bcell hb
          rw [Hi.out]
          go_wp2
          go_ret
          exact ⟨ret_str (by rw [E.out]; rfl), hW.trans (hb.mono (by simp))⟩
        · have b1 : (c == 1) = false := by simp [h1]
          have b3 : (c == 3) = false := by simp [h3]
          have hv : 0 ≤ v ∧ v ≤ 999 := by
            simp [resIn, valB] at hi; omega
          obtain ⟨n, rfl⟩ := Int.eq_ofNat_of_zero_le hv.1
          have hs := decS_size (show n < 1000 by omega)
          have hn : n < 1000 := by omega
          have E : Hid (resText c n = yesS ++ decS n) := by simp [Hid, resText, hr, h1, h3]
          have Hi := Lib.hid hi
          clear hi hr h0 hv
          go_enter Tryd.func6, Tryd.ntmps6
          go_wp2_with fail
          refine (l5Res_calls _ _ _).mono ?_
          rintro e w1 ⟨rfl, hb⟩
          obtain ⟨hc, hf⟩ := bcell hb
          rw [Hi.out]
          go_wp2_with fail
          refine (l9Plain_calls n (by omega) _).mono ?_
          rintro e w2 ⟨rfl, hb2⟩
          generalize hd : decS n = d at *
          go_wp2
          go_ret
          exact ⟨ret_str (by rw [E.out]; rfl), (hW.trans (hb.mono (by simp))).trans (hb2.mono (by have := hb.size; simp at this; omega))⟩
  · have hi' : resIn c v = false := by simpa using hi
    have E : Hid (resText c v = ⟨#[]⟩) := by simp [Hid, resText, ← hR, hi']
    have Hi := Lib.hid hi'
    clear hR hi hi'
    go_enter Tryd.func6, Tryd.ntmps6
    go_wp2_with fail
    refine (l5Res_calls _ _ _).mono ?_
    rintro e w1 ⟨rfl, hb⟩
    rw [Hi.out]
    go_wp2
    go_ret
    exact ⟨ret_str (by rw [E.out]), hW.trans (hb.mono (by simp))⟩
end Go.Proofs.YtbhgkikolebpaaaDoor
