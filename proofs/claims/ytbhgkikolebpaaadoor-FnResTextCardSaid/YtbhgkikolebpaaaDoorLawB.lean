/- The call of laws.FnResText returns true, for all codes. Conditions: the bytes of both arguments can be read; the table that strconv reads holds the powers of ten. -/
import Derived.Test.YtbhgkikolebpaaaDoorRd1
import Derived.Test.YtbhgkikolebpaaaDoorTxt5
namespace Go.Proofs.YtbhgkikolebpaaaDoor
open Go.RowKit
set_option linter.unusedVariables false
set_option linter.unusedSimpArgs false

theorem decDigits_ge {n : Nat} (h : ¬ n < 10) : Lib.decDigits n = Lib.decDigits (n / 10) ++ [UInt8.ofNat (48 + n % 10)] := by
  rw [Lib.decDigits, dif_neg h]
theorem decDigits_pos (n : Nat) : 1 ≤ (Lib.decDigits n).length := by rw [Lib.decDigits]; split <;> simp
theorem digit_inj : ∀ a, a < 10 → ∀ b, b < 10 → UInt8.ofNat (48 + a) = UInt8.ofNat (48 + b) → a = b := by decide
theorem decDigits_inj (n m : Nat) (h : Lib.decDigits n = Lib.decDigits m) : n = m := by
  induction n using Nat.strongRecOn generalizing m with
  | ind n ih =>
    by_cases hn : n < 10
    · rw [Lib.decDigits_one hn] at h
      by_cases hm : m < 10
      · rw [Lib.decDigits_one hm] at h
        exact digit_inj _ hn _ hm (by simpa using h)
      · rw [decDigits_ge hm] at h
        have h1 := congrArg List.length h
        have h2 := decDigits_pos (m / 10)
        rw [List.length_append] at h1
        simp only [List.length_cons, List.length_nil] at h1
        omega
    · by_cases hm : m < 10
      · rw [Lib.decDigits_one hm, decDigits_ge hn] at h
        have h1 := congrArg List.length h
        have h2 := decDigits_pos (n / 10)
        rw [List.length_append] at h1
        simp only [List.length_cons, List.length_nil] at h1
        omega
      · rw [decDigits_ge hn, decDigits_ge hm] at h
        obtain ⟨h1, h2⟩ := List.append_inj' h rfl
        have e1 := ih (n / 10) (by omega) (m / 10) h1
        have e2 := digit_inj (n % 10) (by omega) (m % 10) (by omega) (by simpa using h2)
        omega
theorem decS_inj {n m : Nat} (h : decS n = decS m) : n = m := by
  apply decDigits_inj
  have := congrArg ByteArray.data h
  simpa [decS] using this
theorem resText_empty {c v : Int} (h : resText c v = ⟨#[]⟩) : resOk c v = false := by
  by_cases hr : resOk c v = true
  · exfalso
    have := congrArg ByteArray.size h
    unfold resText at this
    rw [if_pos hr] at this
    split at this
    · exact absurd this (by decide)
    · split at this
      · exact absurd this (by decide)
      · rw [ByteArray.size_append] at this
        have h4 : yesS.size = 4 := rfl
        have h0 : (⟨#[]⟩ : ByteArray).size = 0 := rfl
        omega
  · simpa using hr
theorem resOk_cases {c v : Int} (h : resOk c v = true) : (c = 1 ∧ v = 0) ∨ (c = 3 ∧ v = 0) ∨ (c = 2 ∧ 0 ≤ v ∧ v ≤ 999) := by
  unfold resOk at h
  split at h
  · rename_i h1
    have : v = 0 := by simpa using h
    omega
  · split at h
    · exact .inr (.inr ⟨‹_›, valB_iff.1 h⟩)
    · cases h
theorem resText_yes {v : Int} (h : resOk 2 v = true) : (resText 2 v).data.toList = 121 :: 101 :: 115 :: 32 :: Lib.decDigits v.toNat := by
  unfold resText; rw [if_pos h, if_neg (by decide), if_neg (by decide)]; simp [yesS, decS]
theorem resText_inj {c v c' v' : Int} (h1 : resOk c v = true) (h2 : resOk c' v' = true) (h : resText c v = resText c' v') : c = c' ∧ v = v' := by
  have hh := congrArg (fun b : ByteArray => b.data.toList) h
  have n1 : (resText 1 0).data.toList = [110, 111] := by decide
  have n3 : (resText 3 0).data.toList = [102, 117, 108, 108] := by decide
  rcases resOk_cases h1 with ⟨rfl, rfl⟩ | ⟨rfl, rfl⟩ | ⟨rfl, a1, a2⟩ <;> rcases resOk_cases h2 with ⟨rfl, rfl⟩ | ⟨rfl, rfl⟩ | ⟨rfl, b1, b2⟩
  · exact ⟨rfl, rfl⟩
  · rw [n1, n3] at hh; exact absurd hh (by decide)
  · rw [n1, resText_yes h2] at hh; simp at hh
  · rw [n1, n3] at hh; exact absurd hh (by decide)
  · exact ⟨rfl, rfl⟩
  · rw [n3, resText_yes h2] at hh; simp at hh
  · rw [n1, resText_yes h1] at hh; simp at hh
  · rw [n3, resText_yes h1] at hh; simp at hh
  · rw [resText_yes h1, resText_yes h2] at hh
    simp only [List.cons.injEq, true_and] at hh
    have := decDigits_inj _ _ hh
    omega

theorem ba_empty {s : ByteArray} (h : s.toList = []) : s = ⟨#[]⟩ := by
  rw [ByteArray.toList_eq] at h
  apply ByteArray.ext
  exact Array.toList_inj.1 (by simpa using h)
theorem ba_ne {s t : ByteArray} (h : ¬ s = t) : (s.toList == t.toList) = false := by
  rw [beq_eq_false_iff_ne]
  intro e
  rw [ByteArray.toList_eq, ByteArray.toList_eq] at e
  exact h (ByteArray.ext (Array.toList_inj.1 e))
theorem resOk_zero {c : Int} (h1 : 1 ≤ c) (h2 : c ≤ 3) : resOk c 0 = true := by
  have : c = 1 ∨ c = 2 ∨ c = 3 := by omega
  rcases this with rfl | rfl | rfl <;> decide
theorem resOk_bad {c v : Int} (h : resOk c v = false) : c < 1 ∨ 3 < c ∨ ¬ v = 0 := by
  by_cases h0 : v = 0
  · subst h0
    by_cases h1 : 1 ≤ c ∧ c ≤ 3
    · rw [resOk_zero h1.1 h1.2] at h; cases h
    · omega
  · exact .inr (.inr h0)
theorem carry {w w' : World} {k : Nat} {o : Obj} (hb : Below w.heap.size w w') (h : w.heap[k]? = some o) : w'.heap[k]? = some o := by
  have hg : k < w.heap.size := by
    by_cases hg : k < w.heap.size
    · exact hg
    · rw [Array.getElem?_eq_none (by omega)] at h; cases h
  rw [hb.block k hg]; exact h
set_option maxHeartbeats 1600000 in
theorem FnResText_calls (B : Nat) (a b : Option Addr) (n cap n2 cap2 : Nat) (hnc : n ≤ cap) (hnc2 : n2 ≤ cap2) (hn : n ≤ 1048576) (hn2 : n2 ≤ 1048576) (w : World) (hA : Bytes B w a n) (hA2 : Bytes B w b n2) (hB : B ≤ w.heap.size)
    (ht : Lib.TabIs Tryd.prog w "internal/strconv.uint64pow10" .u64 Lib.pow10Tab) :
    Calls Tryd.prog 4 #[.slice a n cap, .slice b n2 cap2] w fun e w' => e = .returned (.bool true) ∧ Below w.heap.size w w' := by
  have g1 : decide ((1048576 : Int) < (n : Int)) = false := by simp; omega
  have g2 : decide ((1048576 : Int) < (n2 : Int)) = false := by simp; omega
  go_enter Tryd.func4, Tryd.ntmps4
  go_wp2_with fail
  refine (DrawResText_calls B a n cap hnc _ hA hB).mono ?_
  rintro e w1 ⟨c, v, rfl, hb1⟩
  have hz1 := hb1.size
  go_wp2_with fail
  have hW1 := hb1.alloc hz1 (.cells #[.int .i64 c, .int .i64 v] 25)
  refine (DrawResText_calls B b n2 cap2 hnc2 _ (hA2.below (hW1.mono hB)) (by simp; omega)).mono ?_
  rintro e w2 ⟨c', v', rfl, hb2⟩
  have k2 : w2.heap[w1.heap.size]? = some (.cells #[.int .i64 c, .int .i64 v] 25 (0, 0)) := by rw [hb2.block _ (by simp)]; exact heap_alloc_new w1 _
  have hz2 : w1.heap.size < w2.heap.size := by have := hb2.size; simp at this; omega
  have hW2 := hW1.trans (hb2.mono (show w.heap.size ≤ _ by simp; omega))
  have K2 := Lib.hid k2
  have ht2 := tab_below hW2 ht
  clear k2 hb2 hW1 hb1 g1 g2
  have q20 := blk_cell K2.out 0
  have q21 := blk_cell K2.out 1
  simp at q20 q21
  go_wp2_with fail
  have hb3 := (Below.refl w2.heap.size w2).alloc (Nat.le_refl _) (.cells #[.int .i64 c', .int .i64 v'] 25)
  have K3 := Lib.hid (carry hb3 K2.out)
  have J3 := Lib.hid (heap_alloc_new w2 (.cells #[.int .i64 c', .int .i64 v'] 25))
  have hW3 := hW2.trans (hb3.mono (show w.heap.size ≤ _ by omega))
  have ht3 := tab_below hb3 ht2
  have hz3 : w2.heap.size < (w2.alloc (.cells #[.int .i64 c', .int .i64 v'] 25)).heap.size := by simp
  clear hb3 ht2 hW2
  refine (ResText_calls _ _ _ ht3).mono ?_
  rintro e w4 ⟨rfl, hb4⟩
  have k4 := blk_cell (carry hb4 K3.out)
  have j4 := blk_cell (carry hb4 J3.out)
  have a0 := k4 0
  have a1 := k4 1
  have b0 := j4 0
  have b1 := j4 1
  simp at a0 a1 b0 b1
  have K4 := Lib.hid (carry hb4 K3.out)
  have J4 := Lib.hid (carry hb4 J3.out)
  have hz4 : w2.heap.size < w4.heap.size := by have := hb4.size; omega
  have hW4 := hW3.trans (hb4.mono (show w.heap.size ≤ _ by omega))
  have ht4 := tab_below hb4 ht3
  clear k4 j4 K3 J3 hb4 hW3 ht3 hz3 q20 q21 K2
  go_wp2_with fail
  refine (ResText_calls _ _ _ ht4).mono ?_
  rintro e w5 ⟨rfl, hb5⟩
  have k5 := blk_cell (carry hb5 K4.out)
  have j5 := blk_cell (carry hb5 J4.out)
  have a50 := k5 0
  have a51 := k5 1
  have b50 := j5 0
  have b51 := j5 1
  simp at a50 a51 b50 b51
  have K5 := Lib.hid (carry hb5 K4.out)
  have J5 := Lib.hid (carry hb5 J4.out)
  have hz5 : w2.heap.size < w5.heap.size := by have := hb5.size; omega
  have hW5 := hW4.trans (hb5.mono (show w.heap.size ≤ _ by omega))
  clear k5 j5 K4 J4 hb5 hW4 ht4 a0 a1 b0 b1
  go_wp2_with fail
  refine (sResText_calls _ _ _).mono ?_
  rintro e w6 ⟨rfl, hb6⟩
  have k6 := blk_cell (carry hb6 K5.out)
  have j6 := blk_cell (carry hb6 J5.out)
  have a60 := k6 0
  have a61 := k6 1
  have b60 := j6 0
  have b61 := j6 1
  simp at a60 a61 b60 b61
  have K6 := Lib.hid (carry hb6 K5.out)
  have J6 := Lib.hid (carry hb6 J5.out)
  have hz6 : w2.heap.size < w6.heap.size := by have := hb6.size; omega
  have hW6 := hW5.trans (hb6.mono (show w.heap.size ≤ _ by omega))
  clear k6 j6 K5 J5 hb6 hW5 a50 a51 b50 b51
  have Hs := Lib.hid (@resText_empty c v)
  have Ht := Lib.hid (@resText_empty c' v')
  have Hi := Lib.hid (@resText_inj c v c' v')
  have Hn : Hid (resOk c v = false → resText c v = ⟨#[]⟩) := fun h => by simp [resText, h]
  have Hm : Hid (resOk c' v' = false → resText c' v' = ⟨#[]⟩) := fun h => by simp [resText, h]
  have Hcv : Hid (c = c' → v = v' → resText c v = resText c' v') := by rintro rfl rfl; rfl
  generalize resText c v = s at *
  generalize hT : resText c' v' = t at *
  have HT := Lib.hid hT
  clear hT
  go_wp2_with fail
  refine (sResText_calls _ _ _).mono ?_
  rintro e w7 ⟨rfl, hb7⟩
  rw [HT.out]
  have k7 := blk_cell (carry hb7 K6.out)
  have j7 := blk_cell (carry hb7 J6.out)
  have a70 := k7 0
  have a71 := k7 1
  have b70 := j7 0
  have b71 := j7 1
  simp at a70 a71 b70 b71
  have hz7 : w2.heap.size < w7.heap.size := by have := hb7.size; omega
  have hW7 := hW6.trans (hb7.mono (show w.heap.size ≤ _ by omega))
  clear k7 j7 K6 J6 hb7 hW6 a60 a61 b60 b61
  by_cases hs : resOk c v = true
  · by_cases hr : resOk c' v' = true
    · have s1 : (s.toList = []) = False := by
        simp only [eq_iff_iff, iff_false]; intro h; rw [Hs.out (ba_empty h)] at hs; cases hs
      have t1 : (t.toList = []) = False := by
        simp only [eq_iff_iff, iff_false]; intro h; rw [Ht.out (ba_empty h)] at hr; cases hr
      have s2 : s.toList.isEmpty = false := by simp [s1]
      have t2 : t.toList.isEmpty = false := by simp [t1]
      by_cases hcc : c = c' ∧ v = v'
      · obtain ⟨rfl, rfl⟩ := hcc
        obtain rfl := Hcv.out rfl rfl
        clear hs hr
        go_wp2_with fail
        go_ret
        exact ⟨ret_bool (by simp), hW7⟩
      · have hne : ¬ s = t := fun h => hcc (Hi.out hs hr h)
        have hq := ba_ne hne
        have Hcc := Lib.hid hcc
        clear hs hr hne hcc
        go_wp2_with fail
        all_goals first
          | exact absurd ⟨by assumption, by assumption⟩ Hcc.out
          | (go_ret; exact ⟨ret_bool (by simp [hq]), hW7⟩)
    · have hr' : resOk c' v' = false := by simpa using hr
      have s1 : (s.toList = []) = False := by
        simp only [eq_iff_iff, iff_false]; intro h; rw [Hs.out (ba_empty h)] at hs; cases hs
      have s2 : s.toList.isEmpty = false := by simp [s1]
      obtain rfl := Hm.out hr'
      have Hr := Lib.hid hr'
      clear hs hr hr'
      go_wp2_with fail
      all_goals first
        | (go_at_call 10; refine (tgOk_calls _).mono ?_; rintro e w8 ⟨rfl, hb8⟩; go_wp2_with fail; go_ret; have h9 := resOk_bad Hr.out; exact ⟨ret_bool (by first | (simp; done) | (simp; omega)), hW7.trans (hb8.mono (by omega))⟩)
        | (exfalso; have h9 := Hr.out; rw [show v' = 0 by omega, resOk_zero (by omega) (by omega)] at h9; cases h9)
  · have hs' : resOk c v = false := by simpa using hs
    obtain rfl := Hn.out hs'
    have Hr := Lib.hid hs'
    clear hs hs'
    go_wp2_with fail
    all_goals first
      | (go_at_call 10; refine (tgOk_calls _).mono ?_; rintro e w8 ⟨rfl, hb8⟩; go_wp2_with fail; go_ret; have h9 := resOk_bad Hr.out; exact ⟨ret_bool (by first | (simp; done) | (simp; omega)), hW7.trans (hb8.mono (by omega))⟩)
      | (exfalso; have h9 := Hr.out; rw [show v = 0 by omega, resOk_zero (by omega) (by omega)] at h9; cases h9)
theorem FnResText_big (B : Nat) (a b : Option Addr) (n cap n2 cap2 : Nat) (h : ¬ (n ≤ 1048576 ∧ n2 ≤ 1048576)) (w : World) :
    Calls Tryd.prog 4 #[.slice a n cap, .slice b n2 cap2] w fun e w' => e = .returned (.bool true) ∧ Below w.heap.size w w' := by
  by_cases h1 : n ≤ 1048576
  · have g1 : decide ((1048576 : Int) < (n : Int)) = false := by simp; omega
    have g2 : decide ((1048576 : Int) < (n2 : Int)) = true := by simp; omega
    go_enter Tryd.func4, Tryd.ntmps4
    go_wp2_with fail
    go_ret
    exact ⟨rfl, Below.refl _ _⟩
  · have g1 : decide ((1048576 : Int) < (n : Int)) = true := by simp; omega
    go_enter Tryd.func4, Tryd.ntmps4
    go_wp2_with fail
    go_ret
    exact ⟨rfl, Below.refl _ _⟩
end Go.Proofs.YtbhgkikolebpaaaDoor
