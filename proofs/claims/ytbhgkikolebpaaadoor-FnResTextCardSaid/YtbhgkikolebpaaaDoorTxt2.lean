/- What the decimal texts (l9Plain, strconv.Itoa) and impl.ResText return: ResText for all answers. Conditions: the table that strconv reads holds the powers of ten. -/
import Derived.Test.YtbhgkikolebpaaaDoorTxt1
import Derived.Test.YtbhgkikolebpaaaDoorShelf
import Derived.Lib.SmallJoins
import Derived.Lib.Hide
import Derived.BigQuiet
import Derived.Deep.QuietTactic
namespace Go.Proofs.YtbhgkikolebpaaaDoor
open Go.RowKit
set_option linter.unusedVariables false
set_option linter.unusedSimpArgs false

theorem run_bytes1 {P : Program} (src dst e : TypeId) (hs : P.underlying src = some (.slice e)) (he : P.underlying e = some (.int .u8)) (hd : P.underlying dst = some .string) (w : World) (x : Int) :
    (convert src dst (.slice (some ⟨w.heap.size, 0, none⟩) 1 1)).run P (w.alloc (.cells #[.int .u8 x] e)) = .ok (.string ⟨#[UInt8.ofNat x.toNat]⟩) (w.alloc (.cells #[.int .u8 x] e)) := by
  rw [run_convert_bytes_string _ _ _ e _ _ _ hs he hd]
  refine (run_bytesToString _ _ 1 1 [x] ?_).trans rfl
  simp [go_sem]
theorem ba_app (a b : List UInt8) : (⟨a.toArray⟩ : ByteArray) ++ ⟨b.toArray⟩ = ⟨(a ++ b).toArray⟩ := by
  apply ByteArray.ext; simp
theorem ba_cons (x : UInt8) (b : List UInt8) : (⟨#[x]⟩ : ByteArray) ++ ⟨b.toArray⟩ = ⟨(x :: b).toArray⟩ := ba_app [x] b
theorem ret_str {a b : ByteArray} (h : a = b) : Ending.returned (.string a) = .returned (.string b) := by rw [h]
def decS (n : Nat) : ByteArray := ⟨(Lib.decDigits n).toArray⟩
theorem decDigits_big {m : Nat} (h : 9 < m) : Lib.decDigits m = Lib.decDigits (m / 10) ++ [48 + UInt8.ofNat (m % 10)] := by
  rw [Lib.decDigits, dif_neg (by omega)]
  congr 2
  rw [UInt8.ofNat_add]; rfl
set_option maxHeartbeats 800000 in
theorem l9Plain_calls (n : Nat) (hn : n < 1000000000) (w : World) : Calls Tryd.prog 15 #[.int .i64 n] w fun e w' => e = .returned (.string (decS n)) ∧ Below w.heap.size w w' := by
  have hcv := @run_bytes1 Tryd.prog 28 9 5 Tryd.underlying28 Tryd.underlying5 Tryd.underlying9
  go_enter Tryd.func15, Tryd.ntmps15
  go_wp2
  go_loopw [0, 3] (fun a o wr => ∃ (m : Nat) (l : List UInt8), m < 1000000000 ∧ l.length + m < 1000000000 ∧ a = .int .i64 m ∧ o = .string ⟨l.toArray⟩ ∧ Hid (Lib.decDigits n = Lib.decDigits m ++ l) ∧ Below w.heap.size w wr) (fun a _ _ => (intOf a).toNat)
  case atStart => exact ⟨n, [], hn, by simpa using hn, rfl, rfl, by simp [Hid], Below.refl _ _⟩
  case round =>
    obtain ⟨m, l, hm, hl, rfl, rfl, hd, hb⟩ := hrel
    by_cases h : 9 < m
    · go_wp2
      refine ⟨⟨m / 10, (48 + UInt8.ofNat (m % 10)) :: l, by omega, by simp; omega, by simp, by rw [ba_cons], ?_, hb.alloc hb.size _⟩, by simp [intOf]; omega⟩
      have h1 := hd.out
      rw [decDigits_big h] at h1
      simpa [Hid] using h1
    · go_wp2
      go_ret
      have h1 := hd.out
      rw [Lib.decDigits_one (show m < 10 by omega), UInt8.ofNat_add] at h1
      exact ⟨ret_str (by rw [decS, h1, ba_cons]; rfl), hb.alloc hb.size _⟩

/-- An int that strconv writes: 0 .. 999. -/
theorem Itoa_calls (n : Nat) (hn : n < 1000000000) (w : World) (ht : Lib.TabIs Tryd.prog w "internal/strconv.uint64pow10" .u64 Lib.pow10Tab) :
    Calls Tryd.prog 17 #[.int .i64 n] w fun e w' => e = .returned (.string (decS n)) ∧ Below w.heap.size w w' := by
  refine (Tryd.strconv_Itoa n (by omega) (by omega) w ht).mono ?_
  rintro e w' ⟨rfl, k, os, rfl⟩
  refine ⟨ret_str (by rw [Lib.itoa_nonneg]; rfl), ⟨rfl, rfl, rfl, by simp [Go.Sort.grow], fun i hi => ?_⟩⟩
  show ((w.drewN k).heap ++ os)[i]? = _
  rw [Array.getElem?_append_left (show i < (w.drewN k).heap.size from hi)]; rfl
theorem tab_below {w w' : World} (hb : Below w.heap.size w w') (ht : Lib.TabIs Tryd.prog w "internal/strconv.uint64pow10" .u64 Lib.pow10Tab) : Lib.TabIs Tryd.prog w' "internal/strconv.uint64pow10" .u64 Lib.pow10Tab :=
  Go.Joins.tab_stays (g := 0) (by kernel_rfl) ht hb (Nat.le_refl _)

def noS : ByteArray := ⟨#[110, 111]⟩
def fullS : ByteArray := ⟨#[102, 117, 108, 108]⟩
def yesS : ByteArray := ⟨#[121, 101, 115, 32]⟩
def resText (c v : Int) : ByteArray := if resOk c v = true then (if c = 1 then noS else if c = 3 then fullS else yesS ++ decS v.toNat) else ⟨#[]⟩
theorem valB_iff {n : Int} : valB n = true ↔ 0 ≤ n ∧ n ≤ 999 := by simp [valB]
theorem keyB_iff {n : Int} : keyB n = true ↔ 0 ≤ n ∧ n ≤ 99 := by simp [keyB]
theorem decDigits_len {n : Nat} (h : n < 1000) : (Lib.decDigits n).length ≤ 3 := by
  by_cases h1 : n < 10
  · rw [Lib.decDigits_one h1]; simp
  · by_cases h2 : n < 100
    · rw [Lib.decDigits_two h1 h2]; simp
    · rw [Lib.decDigits, dif_neg h1, List.length_append]
      by_cases h3 : n / 10 < 10
      · rw [Lib.decDigits_one h3]; simp
      · rw [Lib.decDigits_two h3 (by omega)]; simp
theorem decS_size {n : Nat} (h : n < 1000) : (decS n).size ≤ 3 := by
  have := decDigits_len h
  simpa [decS, ByteArray.size] using this

theorem bcell {W w1 : World} (hb : Below W.heap.size W w1) : (∀ b o, b < W.heap.size → w1.cell? ⟨b, o, none⟩ = W.cell? ⟨b, o, none⟩) ∧ (∀ b o, b < W.heap.size → w1.frozen? ⟨b, o, none⟩ = W.frozen? ⟨b, o, none⟩) :=
  ⟨fun b o h => hb.cell (p := ⟨b, o, none⟩) h, fun b o h => hb.frozen (p := ⟨b, o, none⟩) h⟩
theorem ResText_calls (c v : Int) (w : World) (ht : Lib.TabIs Tryd.prog w "internal/strconv.uint64pow10" .u64 Lib.pow10Tab) :
    Calls Tryd.prog 8 #[.agg #[.int .i64 c, .int .i64 v]] w fun e w' => e = .returned (.string (resText c v)) ∧ Below w.heap.size w w' := by
  have hW := (Below.refl w.heap.size w).alloc (Nat.le_refl _) (.cells #[.int .i64 c, .int .i64 v] 25)
  have ht1 := tab_below hW ht
  by_cases hr : resOk c v = true
  · by_cases h1 : c = 1
    · subst h1
      go_enter Tryd.func8, Tryd.ntmps8
      go_wp2_with fail
      refine (ResOk_calls _ _ _).mono ?_
      rintro e w1 ⟨rfl, hb⟩
      obtain ⟨hc, hf⟩ := bcell hb
      rw [hr]
      go_wp2
      go_ret
      exact ⟨ret_str (by simp [resText, hr, noS, fullS]), hW.trans (hb.mono (by simp))⟩
    · by_cases h3 : c = 3
      · subst h3
        go_enter Tryd.func8, Tryd.ntmps8
        go_wp2_with fail
        refine (ResOk_calls _ _ _).mono ?_
        rintro e w1 ⟨rfl, hb⟩
        obtain ⟨hc, hf⟩ := bcell hb
        rw [hr]
        go_wp2
        go_ret
        exact ⟨ret_str (by simp [resText, hr, noS, fullS]), hW.trans (hb.mono (by simp))⟩
      · have b1 : (c == 1) = false := by simp [h1]
        have b3 : (c == 3) = false := by simp [h3]
        have h2 : c = 2 ∧ valB v = true := by
          unfold resOk at hr; rw [if_neg (by omega)] at hr
          split at hr
          · exact ⟨‹_›, hr⟩
          · exact absurd hr (by simp)
        obtain ⟨hv0, hv1⟩ := valB_iff.1 h2.2
        obtain ⟨n, rfl⟩ := Int.eq_ofNat_of_zero_le hv0
        have hn : n < 1000 := by omega
        have hs := decS_size hn
        have H : Hid (resText c n = yesS ++ decS n) := by simp [Hid, resText, hr, h1, h3]
        clear h2
        go_enter Tryd.func8, Tryd.ntmps8
        go_wp2_with fail
        refine (ResOk_calls _ _ _).mono ?_
        rintro e w1 ⟨rfl, hb⟩
        have ht2 := tab_below hb ht1
        obtain ⟨hc, hf⟩ := bcell hb
        rw [hr]
        go_wp2_with fail
        refine (Itoa_calls n (by omega) _ ht2).mono ?_
        rintro e w2 ⟨rfl, hb2⟩
        generalize hd : decS n = d at *
        go_wp2
        go_ret
        exact ⟨ret_str (by rw [H.out]; rfl), (hW.trans (hb.mono (by simp))).trans (hb2.mono (by have := hb.size; simp at this; omega))⟩
  · have hr' : resOk c v = false := by simpa using hr
    go_enter Tryd.func8, Tryd.ntmps8
    go_wp2_with fail
    refine (ResOk_calls _ _ _).mono ?_
    rintro e w1 ⟨rfl, hb⟩
    rw [hr']
    go_wp2
    go_ret
    exact ⟨ret_str (by simp [resText, hr']), hW.trans (hb.mono (by simp))⟩
end Go.Proofs.YtbhgkikolebpaaaDoor
