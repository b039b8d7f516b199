/- The reader of the drawing: what spec.l20Open and pick return. No conditions. -/
import Derived.Test.YtbhgkikolebpaaaDoorTxt2
import Derived.BigQuiet
import Derived.Deep.QuietTactic
import Derived.IntWalk
namespace Go.Proofs.YtbhgkikolebpaaaDoor
open Go.RowKit
set_option linter.unusedVariables false
set_option linter.unusedSimpArgs false

/-- Block g is a reader that stands at p; its bytes lie below block B. -/
def Rd (B : Nat) (w : World) (g p : Nat) : Prop := ∃ (a : Option Addr) (n cap : Nat),
  w.heap[g]? = some (.cells #[.slice a n cap, .int .i64 p] 56 (0, 0)) ∧ n ≤ 3000 ∧ B ≤ g ∧
  (n ≠ 0 → ∃ cb co, a = some ⟨cb, co, none⟩ ∧ cb < B ∧ ∀ i, i < n → ∃ z : Int, 0 ≤ z ∧ z ≤ 255 ∧ w.cell? ⟨cb, co + i, none⟩ = some (.int .u8 z))

theorem blk_set {w : World} {g : Nat} {cs : Array Value} {t : TypeId} {z : Nat × Nat} (h : w.heap[g]? = some (.cells cs t z)) (i : Nat) (v : Value) : (w.setCell ⟨g, i, none⟩ v).heap[g]? = some (.cells (cs.setIfInBounds i v) t z) := by
  simp [World.setCell, Array.getElem?_modify, h]

theorem xor_i64 (a b : Nat) (ha : a < 4294967296) (hb : b < 4294967296) : ∃ n : Nat, bits .xor .i64 (a : Int) (b : Int) = (n : Int) := by
  have hx : a ^^^ b < 2 ^ 32 := Nat.xor_lt_two_pow (by omega) (by omega)
  have h1 : (BitVec.ofInt 64 (a : Int)).toNat = a := by
    rw [BitVec.ofInt_natCast, BitVec.toNat_ofNat]; exact Nat.mod_eq_of_lt (by omega)
  have h2 : (BitVec.ofInt 64 (b : Int)).toNat = b := by
    rw [BitVec.ofInt_natCast, BitVec.toNat_ofNat]; exact Nat.mod_eq_of_lt (by omega)
  refine ⟨a ^^^ b, ?_⟩
  show IntKind.i64.wrap ((BitVec.ofInt 64 (a : Int) ^^^ BitVec.ofInt 64 (b : Int)).toNat : Int) = _
  rw [BitVec.toNat_xor, h1, h2]
  exact IntWalk.i64_in _ (by omega)
theorem ret_int {k : IntKind} {a b : Int} (h : a = b) : Ending.returned (.int k a) = .returned (.int k b) := by rw [h]
set_option maxHeartbeats 1600000 in
theorem pick_in (B g p n cap cb co : Nat) (hn : 0 < n) (hn3 : n ≤ 3000) (hp : p < 1000000) (m : Nat) (hm : 1 ≤ m) (hm2 : m ≤ 1000000) (w : World)
    (hb : w.heap[g]? = some (.cells #[.slice (some ⟨cb, co, none⟩) n cap, .int .i64 p] 56 (0, 0))) (hB : B ≤ g) (hcb : cb < B)
    (hc : ∀ i, i < n → ∃ z : Int, 0 ≤ z ∧ z ≤ 255 ∧ w.cell? ⟨cb, co + i, none⟩ = some (.int .u8 z)) :
    Calls Tryd.prog 19 #[.pointer (some ⟨g, 0, none⟩), .int .i64 m] w fun e w' => ∃ (r : Nat), r < m ∧ e = .returned (.int .i64 r) ∧ Hid (∃ k, w' = (w.setCell ⟨g, 1, none⟩ (.int .i64 ((p : Int) + 1))).drewN k) := by
  have c0 := blk_cell hb 0
  have c1 := blk_cell hb 1
  have f1 := blk_frozen hb 1
  simp at c0 c1
  have s0 := (blk_cell (blk_set hb 1 (.int .i64 ((p : Int) + 1))) 0)
  have s1 := (blk_cell (blk_set hb 1 (.int .i64 ((p : Int) + 1))) 1)
  simp at s0 s1
  have hne : g ≠ cb := by omega
  have hs : ∀ i v, (w.setCell ⟨g, 1, none⟩ v).cell? ⟨cb, i, none⟩ = w.cell? ⟨cb, i, none⟩ := fun i v => by simp [World.cell?, World.setCell, Array.getElem?_modify, hne]
  have bm : decide ((m : Int) < 1) = false := by simp; omega
  have bn : ((n : Int) == 0) = false := by simp; omega
  by_cases hk : p < n
  · obtain ⟨z, z0, z1, hz⟩ := hc p hk
    have hz2 := (hs (co + p) (.int .i64 ((p : Int) + 1))).trans hz
    clear hc hs
    go_enter Tryd.func19, Tryd.ntmps19
    go_wp2
    go_ret
    have r0 : 0 ≤ z % (m : Int) := Int.emod_nonneg _ (by omega)
    have r1 : z % (m : Int) < m := Int.emod_lt_of_pos _ (by omega)
    exact ⟨(z % (m : Int)).toNat, by omega, ret_int (by omega), 0, rfl⟩
  · obtain ⟨z, z0, z1, hz⟩ := hc (p % n) (Nat.mod_lt _ hn)
    obtain ⟨y, y0, y1, hy⟩ := hc ((p * 7 + 3) % n) (Nat.mod_lt _ hn)
    have hz2 := (hs (co + p % n) (.int .i64 ((p : Int) + 1))).trans hz
    have hy2 := (hs (co + (p * 7 + 3) % n) (.int .i64 ((p : Int) + 1))).trans hy
    clear hc hs
    go_enter Tryd.func19, Tryd.ntmps19
    go_wp2
    have hn0 : (n = 0) = False := by simp; omega
    have hr : Int.tmod (p : Int) (n : Int) = (p : Int) % (n : Int) := Int.tmod_eq_emod_of_nonneg (by omega)
    have i1 : (0 : Int) ≤ (p : Int) % (n : Int) := Int.emod_nonneg _ (by omega)
    have i2 : (p : Int) % (n : Int) < (n : Int) := Int.emod_lt_of_pos _ (by omega)
    have i3 : ((p : Int) % (n : Int)).toNat = p % n := by omega
    have j0 : IntKind.i64.wrap ((p : Int) * 7) = (p : Int) * 7 := IntWalk.i64_in _ (by omega)
    have j4 : IntKind.i64.wrap ((p : Int) * 7 + 3) = (p : Int) * 7 + 3 := IntWalk.i64_in _ (by omega)
    have jr : Int.tmod ((p : Int) * 7 + 3) (n : Int) = ((p : Int) * 7 + 3) % (n : Int) := Int.tmod_eq_emod_of_nonneg (by omega)
    have j1 : (0 : Int) ≤ ((p : Int) * 7 + 3) % (n : Int) := Int.emod_nonneg _ (by omega)
    have j2 : ((p : Int) * 7 + 3) % (n : Int) < (n : Int) := Int.emod_lt_of_pos _ (by omega)
    have j3 : (((p : Int) * 7 + 3) % (n : Int)).toNat = (p * 7 + 3) % n := by
      rw [show ((p : Int) * 7 + 3) % (n : Int) = (((p * 7 + 3) % n : Nat) : Int) by push_cast; rfl]; rfl
    have q0 : (p : Int).tdiv (n : Int) = (p : Int) / (n : Int) := Int.tdiv_eq_ediv_of_nonneg (by omega)
    have q1 : (0 : Int) ≤ (p : Int) / (n : Int) := Int.ediv_nonneg (by omega) (by omega)
    have q2 : (p : Int) / (n : Int) ≤ (p : Int) := Int.ediv_le_self _ (by omega)
    generalize hq : (p : Int) / (n : Int) = q at *
    clear hq
    have w1 : IntKind.i64.wrap (z * 131) = z * 131 := IntWalk.i64_in _ (by omega)
    have w2 : IntKind.i64.wrap (y * 1117) = y * 1117 := IntWalk.i64_in _ (by omega)
    have w3 : IntKind.i64.wrap (z * 131 + y * 1117) = z * 131 + y * 1117 := IntWalk.i64_in _ (by omega)
    have w4 : IntKind.i64.wrap ((p : Int) * 29) = (p : Int) * 29 := IntWalk.i64_in _ (by omega)
    have w5 : IntKind.i64.wrap (z * 131 + y * 1117 + (p : Int) * 29) = z * 131 + y * 1117 + (p : Int) * 29 := IntWalk.i64_in _ (by omega)
    have w6 : IntKind.i64.wrap q = q := IntWalk.i64_in _ (by omega)
    have w7 : IntKind.i64.wrap (q * 53) = q * 53 := IntWalk.i64_in _ (by omega)
    have w8 : IntKind.i64.wrap (z * 131 + y * 1117 + (p : Int) * 29 + q * 53) = z * 131 + y * 1117 + (p : Int) * 29 + q * 53 := IntWalk.i64_in _ (by omega)
    go_quiet (fail)
    clear w1 w2 w3 w4 w5 w6 w7 w8 j0 j4 jr j1 j2 j3 q0 hr i1 i2 i3
    generalize hX : z * 131 + y * 1117 + (p : Int) * 29 + q * 53 = X at *
    have X0 : 0 ≤ X := by omega
    have X1 : X < 1000000000 := by omega
    clear hX
    obtain ⟨x, rfl⟩ := Int.eq_ofNat_of_zero_le X0
    obtain ⟨n2, hn2⟩ := xor_i64 x (x / 64) (by omega) (by omega)
    have hn3 : bits BinOp.xor IntKind.i64 (x : Int) ((x : Int) / 64) = (n2 : Int) := hn2
    clear hn2
    go_wp2
    go_ret
    have r0 : 0 ≤ (n2 : Int) % (m : Int) := Int.emod_nonneg _ (by omega)
    have r1 : (n2 : Int) % (m : Int) < m := Int.emod_lt_of_pos _ (by omega)
    exact ⟨((n2 : Int) % (m : Int)).toNat, by omega, ret_int (by first | omega | (rw [Int.tmod_eq_emod_of_nonneg (by omega)]; omega)), _, rfl⟩
end Go.Proofs.YtbhgkikolebpaaaDoor
