/- The reader of the drawing, and what spec.DrawResText returns; tgOk. No conditions. -/
import Derived.Test.YtbhgkikolebpaaaDoorRd0
import Derived.Handy
namespace Go.Proofs.YtbhgkikolebpaaaDoor
open Go.RowKit
set_option linter.unusedVariables false
set_option linter.unusedSimpArgs false

/-- A reader went on: block g alone has turned. -/
def Adv (B : Nat) (w w' : World) (g p : Nat) : Prop := (∀ k, k ≠ g → w'.heap[k]? = w.heap[k]?) ∧ w'.heap.size = w.heap.size ∧ w'.os = w.os ∧ w'.tape = w.tape ∧ w'.output = w.output ∧ Rd B w' g p

theorem adv_of {B g p : Nat} {w w' : World} {a : Option Addr} {n cap : Nat} (hb : w.heap[g]? = some (.cells #[.slice a n cap, .int .i64 p] 56 (0, 0))) (hn : n ≤ 3000) (hB : B ≤ g)
    (hc : n ≠ 0 → ∃ cb co, a = some ⟨cb, co, none⟩ ∧ cb < B ∧ ∀ i, i < n → ∃ z : Int, 0 ≤ z ∧ z ≤ 255 ∧ w.cell? ⟨cb, co + i, none⟩ = some (.int .u8 z))
    (h : ∃ k, w' = (w.setCell ⟨g, 1, none⟩ (.int .i64 ((p : Int) + 1))).drewN k) : Adv B w w' g (p + 1) := by
  obtain ⟨k, rfl⟩ := h
  have hh : ∀ j : Nat, ((w.setCell ⟨g, 1, none⟩ (.int .i64 ((p : Int) + 1))).drewN k).heap[j]? = (w.setCell ⟨g, 1, none⟩ (.int .i64 ((p : Int) + 1))).heap[j]? := fun _ => rfl
  refine ⟨fun j hj => by rw [hh, Below.heap_setCell _ _ _ _ hj], by show (World.setCell w _ _).heap.size = _; simp [World.setCell], rfl, rfl, rfl, a, n, cap, ?_, hn, hB, fun h0 => ?_⟩
  · rw [hh, blk_set hb]; simp
  · obtain ⟨cb, co, rfl, hcb, hz⟩ := hc h0
    refine ⟨cb, co, rfl, hcb, fun i hi => ?_⟩
    obtain ⟨z, z0, z1, hz⟩ := hz i hi
    refine ⟨z, z0, z1, ?_⟩
    rw [← hz]
    simp only [World.cell?, hh]
    rw [Below.heap_setCell _ _ _ _ (show cb ≠ g by omega)]

theorem pick_calls (B g p m : Nat) (hp : p < 1000000) (hm : 1 ≤ m) (hm2 : m ≤ 1000000) (w : World) (hR : Rd B w g p) :
    Calls Tryd.prog 19 #[.pointer (some ⟨g, 0, none⟩), .int .i64 m] w fun e w' => ∃ r : Nat, r < m ∧ e = .returned (.int .i64 r) ∧ Adv B w w' g (p + 1) := by
  obtain ⟨a, n, cap, hb, hn, hB, hc⟩ := hR
  by_cases h0 : n = 0
  · subst h0
    have hbs := blk_set hb 1 (.int .i64 ((p : Int) + 1))
    have c1 := blk_cell hb 1
    have f1 := blk_frozen hb 1
    have s0 := blk_cell hbs 0
    simp at c1 s0
    have bm : decide ((m : Int) < 1) = false := by simp; omega
    have H := Lib.hid hb
    clear hb hbs
    go_enter Tryd.func19, Tryd.ntmps19
    go_wp2
    go_ret
    exact ⟨0, by omega, rfl, adv_of H.out hn hB hc ⟨0, rfl⟩⟩
  · obtain ⟨cb, co, rfl, hcb, hz⟩ := hc h0
    refine (pick_in B g p n cap cb co (by omega) hn hp m hm hm2 w hb hB hcb hz).mono ?_
    rintro e w' ⟨r, hr, rfl, hw⟩
    exact ⟨r, hr, rfl, adv_of hb hn hB hc hw.out⟩

theorem pick_i (B g p : Nat) (m : Int) (hp : p < 1000000) (hm : 1 ≤ m) (hm2 : m ≤ 1000000) (w : World) (hR : Rd B w g p) :
    Calls Tryd.prog 19 #[.pointer (some ⟨g, 0, none⟩), .int .i64 m] w fun e w' => ∃ r : Int, 0 ≤ r ∧ r < m ∧ e = .returned (.int .i64 r) ∧ Adv B w w' g (p + 1) := by
  obtain ⟨n, rfl⟩ := Int.eq_ofNat_of_zero_le (show 0 ≤ m by omega)
  exact (pick_calls B g p n hp (by omega) (by omega) w hR).mono fun e w' ⟨r, hr, he, ha⟩ => ⟨r, by omega, by omega, he, ha⟩
/-- The bytes of an argument: what is read of a code. -/
def Bytes (B : Nat) (w : World) (a : Option Addr) (n : Nat) : Prop := n ≠ 0 → ∃ cb co, a = some ⟨cb, co, none⟩ ∧ cb < B ∧ ∀ i, i < n → ∃ z : Int, 0 ≤ z ∧ z ≤ 255 ∧ w.cell? ⟨cb, co + i, none⟩ = some (.int .u8 z)
theorem Bytes.below {B : Nat} {w w' : World} {a : Option Addr} {n : Nat} (h : Bytes B w a n) (hb : Below B w w') : Bytes B w' a n := fun h0 => by
  obtain ⟨cb, co, e, hcb, hz⟩ := h h0
  refine ⟨cb, co, e, hcb, fun i hi => ?_⟩
  obtain ⟨z, z0, z1, h⟩ := hz i hi
  exact ⟨z, z0, z1, by rw [hb.cell (p := ⟨cb, co + i, none⟩) hcb]; exact h⟩
theorem Rd.below {B g p : Nat} {w w' : World} (h : Rd B w g p) (hb : Below w.heap.size w w') (hB : B ≤ w.heap.size) : Rd B w' g p := by
  obtain ⟨a, n, cap, h1, h2, h3, h4⟩ := h
  have hg : g < w.heap.size := by
    by_cases hg : g < w.heap.size
    · exact hg
    · rw [Array.getElem?_eq_none (by omega)] at h1; cases h1
  exact ⟨a, n, cap, by rw [hb.block g hg]; exact h1, h2, h3, Bytes.below (B := B) h4 (hb.mono hB)⟩
theorem Adv.below {B g p : Nat} {w w' : World} (h : Adv B w w' g p) {C : Nat} (hC : C ≤ g) : Below C w w' :=
  ⟨h.2.2.1, h.2.2.2.1, h.2.2.2.2.1, by rw [h.2.1]; exact Nat.le_refl _, fun k hk => h.1 k (by omega)⟩
theorem Adv.rd {B g p : Nat} {w w' : World} (h : Adv B w w' g p) : Rd B w' g p := h.2.2.2.2.2

theorem l20Open_calls (B : Nat) (a : Option Addr) (n cap : Nat) (hnc : n ≤ cap) (w : World) (hR : Bytes B w a n) (hB : B ≤ w.heap.size) :
    Calls Tryd.prog 18 #[.slice a n cap] w fun e w' => e = .returned (.pointer (some ⟨w.heap.size, 0, none⟩)) ∧ Below w.heap.size w w' ∧ Rd B w' w.heap.size 0 ∧ w'.heap.size = w.heap.size + 1 := by
  have fin : ∀ m, m ≤ n → m ≤ 3000 → ∀ cp, Rd B (w.alloc (.cells #[.slice a m cp, .int .i64 0] 56)) w.heap.size 0 := fun m hm hm3 cp =>
    ⟨a, m, cp, heap_alloc_new w _, hm3, hB, fun h0 => by
      obtain ⟨cb, co, e, hcb, hz⟩ := hR (by omega)
      exact ⟨cb, co, e, hcb, fun i hi => by
        obtain ⟨z, z0, z1, h⟩ := hz i (by omega)
        exact ⟨z, z0, z1, by rw [World.cell?_alloc_past _ _ _ (by show cb < _; omega)]; exact h⟩⟩⟩
  have F := Lib.hid fin
  clear fin
  by_cases h : 3000 < n
  · obtain ⟨cb, co, rfl, hcb, hz⟩ := hR (by omega)
    have h1 : (3000 : Int) < (n : Int) := by omega
    have h2 : (3000 : Int) ≤ (cap : Int) := by omega
    clear hz hR
    go_enter Tryd.func18, Tryd.ntmps18
    go_wp2
    go_ret
    exact ⟨rfl, (Below.refl _ _).alloc (Nat.le_refl _) _, F.out 3000 (by omega) (by omega) _, by simp⟩
  · have h1 : ¬ (3000 : Int) < (n : Int) := by omega
    clear hR
    go_enter Tryd.func18, Tryd.ntmps18
    go_wp2
    go_ret
    exact ⟨rfl, (Below.refl _ _).alloc (Nat.le_refl _) _, F.out n (Nat.le_refl _) (by omega) _, by simp⟩

theorem MapOk_nil (w : World) : Calls Tryd.prog 20 #[.agg #[.slice none 0 0]] w fun e w' => e = .returned (.bool true) ∧ Below w.heap.size w w' := by
  go_enter Tryd.func20, Tryd.ntmps20
  go_wp2
  refine wp_loop_rounds 1 ?_
  rw [rounds_succ]
  go_wp2
  go_ret
  exact ⟨rfl, (Below.refl _ _).alloc (Nat.le_refl _) _⟩
theorem tgOk_calls (w : World) : Calls Tryd.prog 10 #[] w fun e w' => e = .returned (.bool true) ∧ Below w.heap.size w w' := by
  go_enter Tryd.func10, Tryd.ntmps10
  go_wp2_with fail
  refine (MapOk_nil _).mono ?_
  rintro e w1 ⟨rfl, hb⟩
  go_wp2
  go_ret
  exact ⟨rfl, hb⟩
theorem set_same {w : World} {a : Addr} {u : Value} (h : w.cell? a = some u) (hs : a.spot = none) (v : Value) : (w.setCell a v).cell? a = some v := by
  obtain ⟨b, i, s⟩ := a
  simp only at hs
  subst hs
  simp only [World.cell?] at h
  split at h
  · rename_i c t z e
    have hlt : i < c.size := by
      by_cases hlt : i < c.size
      · exact hlt
      · simp [Array.getElem?_eq_none (show c.size ≤ i by omega)] at h
    rw [blk_cell (blk_set e i v) i]
    simp [hlt]
  · cases h
theorem DrawResText_calls (B : Nat) (a : Option Addr) (n cap : Nat) (hnc : n ≤ cap) (w : World) (hR : Bytes B w a n) (hB : B ≤ w.heap.size) :
    Calls Tryd.prog 9 #[.slice a n cap] w fun e w' => ∃ c v : Int, e = .returned (.agg #[.int .i64 c, .int .i64 v]) ∧ Below w.heap.size w w' := by
  have hW := (Below.refl w.heap.size w).alloc (Nat.le_refl _) (.cells #[.int .i64 0, .int .i64 0] 25)
  have hR1 := hR.below (hW.mono hB)
  go_enter Tryd.func9, Tryd.ntmps9
  go_wp2_with fail
  refine (l20Open_calls B a n cap hnc _ hR1 (by simp; omega)).mono ?_
  rintro e w1 ⟨rfl, hb1, hr1, hz1⟩
  obtain ⟨hc1, hf1⟩ := bcell hb1
  have hzz : w.heap.size + 1 < w1.heap.size := by rw [hz1]; simp
  have hz : w.heap.size < w1.heap.size := by omega
  have hB1 := hW.trans (hb1.mono (show w.heap.size ≤ _ by simp))
  have hr1' : Rd B w1 (w.heap.size + 1) 0 := by simpa using hr1
  have hk1 : w1.heap[w.heap.size]? = (w.alloc (.cells #[.int .i64 0, .int .i64 0] 25)).heap[w.heap.size]? := hb1.block _ (by simp)
  clear hz1 hr1 hb1
  go_wp2_with fail
  refine (pick_i B _ 0 6 (by omega) (by omega) (by omega) _ hr1').mono ?_
  rintro e w2 ⟨c, c0, c1, rfl, ha2⟩
  have hzz2 : w.heap.size + 1 < w2.heap.size := by rw [ha2.2.1]; exact hzz
  have hz2 : w.heap.size < w2.heap.size := by omega
  have hb2 := ha2.below (C := w.heap.size) (by simp)
  have hr2 := ha2.rd
  have hk2 : w2.heap[w.heap.size]? = w1.heap[w.heap.size]? := ha2.1 _ (by omega)
  clear ha2 hr1'
  have k0 : w1.heap[w.heap.size]? = some (.cells #[.int .i64 0, .int .i64 0] 25 (0, 0)) := by rw [hk1]; exact heap_alloc_new w _
  have k2 : w2.heap[w.heap.size]? = some (.cells #[.int .i64 0, .int .i64 0] 25 (0, 0)) := by rw [hk2]; exact k0
  clear k0 hk1 hk2
  have K2 := Lib.hid k2
  clear k2 hc1 hf1
  go_wp2_with fail
  have hA := (Below.refl w2.heap.size w2).alloc (Nat.le_refl _) (.cells #[.int .i64 0, .int .i64 0, .int .i64 7, .int .i64 999, .int .i64 1000, .int .i64 (-1)] 3)
  refine (pick_i B _ _ 6 (by omega) (by omega) (by omega) _ (hr2.below hA (by omega))).mono ?_
  rintro e w3 ⟨v, v0, v1, rfl, ha3⟩
  have hg3 : w2.heap.size < w3.heap.size := by rw [ha3.2.1]; simp
  have k3 : w3.heap[w.heap.size]? = some (.cells #[.int .i64 0, .int .i64 0] 25 (0, 0)) := by rw [ha3.1 _ (by omega), hA.block _ hz2]; exact K2.out
  have k4 : w3.heap[w2.heap.size]? = some (.cells #[.int .i64 0, .int .i64 0, .int .i64 7, .int .i64 999, .int .i64 1000, .int .i64 (-1)] 3 (0, 0)) := by rw [ha3.1 _ (by omega)]; exact heap_alloc_new w2 _
  have c30 := blk_cell k3 0
  have c31 := blk_cell k3 1
  simp at c30 c31
  have s30 := set_same c30 rfl
  have s31 := fun v => set_same (w := w3.setCell ⟨w.heap.size, 0, none⟩ v) (a := ⟨w.heap.size, 1, none⟩) (u := .int .i64 0) (by rw [World.cell?_setCell_other _ _ _ _ (by simp)]; exact c31) rfl
  have f30 := blk_frozen k3 0
  have f31 := blk_frozen k3 1
  have c40 := blk_cell k4
  have hB3 := ((hB1.trans hb2).trans (hA.mono (show w.heap.size ≤ _ by omega))).trans (ha3.below (C := w.heap.size) (by omega))
  clear hA hB1 hb2 ha3 hr2 K2 k3 k4 hR hR1 hW
  have hv : v = 0 ∨ v = 1 ∨ v = 2 ∨ v = 3 ∨ v = 4 ∨ v = 5 := by omega
  rcases hv with rfl | rfl | rfl | rfl | rfl | rfl
  · go_wp2
    refine bodyPost_ret (v := .agg #[.int .i64 (c - 1), .int .i64 0]) (by simp [results, Tryd.results9, go_sem, c30, c31, s30, s31]) rfl ⟨_, _, rfl, (hB3.setCell (p := ⟨_, _, _⟩) (Nat.le_refl _) _).setCell (p := ⟨_, _, _⟩) (Nat.le_refl _) _⟩
  · go_wp2
    refine bodyPost_ret (v := .agg #[.int .i64 (c - 1), .int .i64 0]) (by simp [results, Tryd.results9, go_sem, c30, c31, s30, s31]) rfl ⟨_, _, rfl, (hB3.setCell (p := ⟨_, _, _⟩) (Nat.le_refl _) _).setCell (p := ⟨_, _, _⟩) (Nat.le_refl _) _⟩
  · go_wp2
    refine bodyPost_ret (v := .agg #[.int .i64 (c - 1), .int .i64 7]) (by simp [results, Tryd.results9, go_sem, c30, c31, s30, s31]) rfl ⟨_, _, rfl, (hB3.setCell (p := ⟨_, _, _⟩) (Nat.le_refl _) _).setCell (p := ⟨_, _, _⟩) (Nat.le_refl _) _⟩
  · go_wp2
    refine bodyPost_ret (v := .agg #[.int .i64 (c - 1), .int .i64 999]) (by simp [results, Tryd.results9, go_sem, c30, c31, s30, s31]) rfl ⟨_, _, rfl, (hB3.setCell (p := ⟨_, _, _⟩) (Nat.le_refl _) _).setCell (p := ⟨_, _, _⟩) (Nat.le_refl _) _⟩
  · go_wp2
    refine bodyPost_ret (v := .agg #[.int .i64 (c - 1), .int .i64 1000]) (by simp [results, Tryd.results9, go_sem, c30, c31, s30, s31]) rfl ⟨_, _, rfl, (hB3.setCell (p := ⟨_, _, _⟩) (Nat.le_refl _) _).setCell (p := ⟨_, _, _⟩) (Nat.le_refl _) _⟩
  · go_wp2
    refine bodyPost_ret (v := .agg #[.int .i64 (c - 1), .int .i64 (-1)]) (by simp [results, Tryd.results9, go_sem, c30, c31, s30, s31]) rfl ⟨_, _, rfl, (hB3.setCell (p := ⟨_, _, _⟩) (Nat.le_refl _) _).setCell (p := ⟨_, _, _⟩) (Nat.le_refl _) _⟩
end Go.Proofs.YtbhgkikolebpaaaDoor
