/- What asks, OpOk and opWords of the program return, for all arguments. No conditions. -/
import Derived.Test.YtbhgkikolebpaaaDoorTxt2
namespace Go.Proofs.YtbhgkikolebpaaaDoor
open Go.RowKit
set_option linter.unusedVariables false
set_option linter.unusedSimpArgs false

def keyA (k : Int) : Bool := k == 1 || k == 2 || k == 3 || k == 9 || k == 10
def valA (k : Int) : Bool := k == 2 || k == 5 || k == 7
def knownA (k : Int) : Bool := decide (1 ≤ k) && decide (k ≤ 12)
theorem kinds (k : Int) : k = 1 ∨ k = 2 ∨ k = 3 ∨ k = 4 ∨ k = 5 ∨ k = 6 ∨ k = 7 ∨ k = 8 ∨ k = 9 ∨ k = 10 ∨ k = 11 ∨ k = 12 ∨ (k < 1 ∨ 12 < k) := by omega
theorem Asks_calls (k x v : Int) (w : World) : Calls Tryd.prog 24 #[.agg #[.int .i64 k, .int .i64 x, .int .i64 v]] w fun e w' =>
    e = .returned (.tuple #[.bool (keyA k), .bool (valA k), .bool (knownA k)]) ∧ Below w.heap.size w w' := by
  rcases kinds k with rfl | rfl | rfl | rfl | rfl | rfl | rfl | rfl | rfl | rfl | rfl | rfl | h
  rotate_left 12
  have b1 : (k == 1) = false := by simp; omega
  have b2 : (k == 2) = false := by simp; omega
  have b3 : (k == 3) = false := by simp; omega
  have b4 : (k == 4) = false := by simp; omega
  have b5 : (k == 5) = false := by simp; omega
  have b6 : (k == 6) = false := by simp; omega
  have b7 : (k == 7) = false := by simp; omega
  have b8 : (k == 8) = false := by simp; omega
  have b9 : (k == 9) = false := by simp; omega
  have b10 : (k == 10) = false := by simp; omega
  have b11 : (k == 11) = false := by simp; omega
  have b12 : (k == 12) = false := by simp; omega
  have e1 : keyA k = false := by simp [keyA, *]
  have e2 : valA k = false := by simp [valA, *]
  have e3 : knownA k = false := by simp [knownA]; omega
  rw [e1, e2, e3]
  clear e1 e2 e3 h
  all_goals
    go_enter Tryd.func24, Tryd.ntmps24
    go_wp2
    go_ret3
    exact ⟨rfl, (Below.refl _ _).alloc (Nat.le_refl _) _⟩

theorem ret_bool {a b : Bool} (h : a = b) : Ending.returned (.bool a) = .returned (.bool b) := by rw [h]
def opOk (k x v : Int) : Bool := knownA k && keyB x && valB v && (keyA k || x == 0) && (valA k || v == 0)
theorem OpOk_calls (k x v : Int) (w : World) : Calls Tryd.prog 22 #[.agg #[.int .i64 k, .int .i64 x, .int .i64 v]] w fun e w' =>
    e = .returned (.bool (opOk k x v)) ∧ Below w.heap.size w w' := by
  have hW := (Below.refl w.heap.size w).alloc (Nat.le_refl _) (.cells #[.int .i64 k, .int .i64 x, .int .i64 v] 35)
  have E : Hid (opOk k x v = (knownA k && keyB x && valB v && (keyA k || x == 0) && (valA k || v == 0))) := rfl
  generalize hs : opOk k x v = r at *
  clear hs
  go_enter Tryd.func22, Tryd.ntmps22
  go_wp2_with fail
  refine (Asks_calls _ _ _ _).mono ?_
  rintro e w1 ⟨rfl, hb⟩
  obtain ⟨hc, hf⟩ := bcell hb
  have hz := hb.size
  generalize hka : keyA k = ka at *
  generalize hva : valA k = va at *
  generalize hkn : knownA k = kn at *
  clear hka hva hkn
  cases kn
  · go_wp2
    go_ret
    exact ⟨ret_bool (by rw [E.out]; simp), hW.trans (hb.mono (by simp))⟩
  · go_wp2_with fail
    refine (isKey_b _ _).mono ?_
    rintro e w' ⟨rfl, rfl⟩
    generalize hkb : keyB x = kb at *
    clear hkb
    cases kb
    · go_wp2
      go_ret
      exact ⟨ret_bool (by rw [E.out]; simp), hW.trans (hb.mono (by simp))⟩
    · go_wp2_with fail
      refine (isVal_b _ _).mono ?_
      rintro e w' ⟨rfl, rfl⟩
      generalize hvb : valB v = vb at *
      clear hvb
      cases ka <;> cases va <;> cases vb
      all_goals
        go_wp2
        all_goals
          go_ret
          exact ⟨ret_bool (by rw [E.out]; simp [*]), hW.trans (hb.mono (by simp))⟩

def opW : List ByteArray := [⟨#[]⟩, ⟨#[103, 101, 116]⟩, ⟨#[112, 117, 116]⟩, ⟨#[100, 101, 108, 101, 116, 101]⟩, ⟨#[99, 108, 101, 97, 114]⟩, ⟨#[112, 117, 115, 104]⟩, ⟨#[112, 111, 112]⟩, ⟨#[101, 110, 116, 101, 114]⟩, ⟨#[108, 101, 97, 118, 101]⟩, ⟨#[110, 101, 120, 116]⟩, ⟨#[99, 111, 117, 110, 116]⟩, ⟨#[116, 111, 112]⟩, ⟨#[102, 114, 111, 110, 116]⟩]
theorem OpWords_calls (w : World) : Calls Tryd.prog 23 #[] w fun e w' => e = .returned (.slice (some ⟨w.heap.size, 0, none⟩) 13 13) ∧ w' = w.alloc (.cells #[.string ⟨#[]⟩, .string ⟨#[103, 101, 116]⟩, .string ⟨#[112, 117, 116]⟩, .string ⟨#[100, 101, 108, 101, 116, 101]⟩, .string ⟨#[99, 108, 101, 97, 114]⟩, .string ⟨#[112, 117, 115, 104]⟩, .string ⟨#[112, 111, 112]⟩, .string ⟨#[101, 110, 116, 101, 114]⟩, .string ⟨#[108, 101, 97, 118, 101]⟩, .string ⟨#[110, 101, 120, 116]⟩, .string ⟨#[99, 111, 117, 110, 116]⟩, .string ⟨#[116, 111, 112]⟩, .string ⟨#[102, 114, 111, 110, 116]⟩] 9) := by
  go_enter Tryd.func23, Tryd.ntmps23
  go_wp2
  go_ret
  exact ⟨rfl, rfl⟩
end Go.Proofs.YtbhgkikolebpaaaDoor
