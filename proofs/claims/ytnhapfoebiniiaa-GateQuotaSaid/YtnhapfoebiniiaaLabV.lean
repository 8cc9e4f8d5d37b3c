/- Contracts of the labels: Valid. -/
import Derived.Test.YtnhapfoebiniiaaBits
import Derived.Test.YtnhapfoebiniiaaRows
namespace Go.Proofs.Ytnhapfoebiniiaa
open Go.RowKit
set_option maxHeartbeats 400000
set_option maxRecDepth 100000

def isB (l : Int) : Bool := decide (0 ≤ l) && decide (l ≤ 255)
theorem isB_iff (l : Int) : isB l = true ↔ 0 ≤ l ∧ l ≤ 255 := by simp [isB]
theorem isB_iff' (l : Int) : isB l = false ↔ ¬ (0 ≤ l ∧ l ≤ 255) := by rw [← isB_iff]; simp
theorem is_any (l : Int) (w : World) :
    Calls Try.prog 36 #[.int .i64 l] w fun e w' => e = .returned (.bool (isB l)) ∧ w = w' := by
  by_cases h : 0 ≤ l
  · have h1 : decide (0 ≤ l) = true := by simpa using h
    go_enter Try.func36, Try.ntmps36
    go_wp2
    go_ret
    simp [isB, h]
  · have h1 : decide (0 ≤ l) = false := by simpa using h
    go_enter Try.func36, Try.ntmps36
    go_wp2
    go_ret
    simp [isB]; omega

def validB (l cats : Int) : Bool := decide (0 ≤ cats) && decide (cats ≤ 8) && decide (0 ≤ l) && decide (l < 2 ^ cats.toNat)

theorem valid_any (l cats : Int) (w : World) :
    Calls Try.prog 35 #[.int .i64 l, .int .i64 cats] w fun e w' => e = .returned (.bool (validB l cats)) ∧ w = w' := by
  by_cases h1 : cats < 0
  · go_enter Try.func35, Try.ntmps35
    go_wp2_with (go_at_call 36; refine (is_any _ _).mono ?_; rintro e w' ⟨rfl, rfl⟩)
    go_ret
    exact ⟨ret_bool (by simp [validB]; omega), rfl⟩
  · by_cases h2 : 8 < cats
    · go_enter Try.func35, Try.ntmps35
      go_wp2_with (go_at_call 36; refine (is_any _ _).mono ?_; rintro e w' ⟨rfl, rfl⟩)
      go_ret
      exact ⟨ret_bool (by simp [validB]; omega), rfl⟩
    · obtain ⟨c, rfl⟩ := Int.eq_ofNat_of_zero_le (show 0 ≤ cats by omega)
      have hp : (2 : Nat) ^ c ≤ 2 ^ 8 := Nat.pow_le_pow_right (by decide) (by omega)
      have hp2 : 0 < (2 : Nat) ^ c := Nat.pow_pos (by decide)
      by_cases hl : isB l = true
      · obtain ⟨l1, l2⟩ := (isB_iff l).1 hl
        obtain ⟨m, rfl⟩ := Int.eq_ofNat_of_zero_le l1
        have e : ((m : Int) < 2 ^ c) ↔ m < 2 ^ c := by rw [show (2 : Int) ^ c = ((2 ^ c : Nat) : Int) from by simp]; omega
        have e2 : ((m : Int) / 2 ^ c == 0) = decide (m < 2 ^ c) := by
          rw [show (m : Int) / 2 ^ c = ((m / 2 ^ c : Nat) : Int) from by simp, Bool.eq_iff_iff]
          simp only [beq_iff_eq, decide_eq_true_eq]
          rw [← Nat.div_eq_zero_iff_lt hp2]
          omega
        have E := Lib.hid e; have E2 := Lib.hid e2
        clear e e2 hp hp2
        go_enter Try.func35, Try.ntmps35
        go_wp2_with (go_at_call 36; refine (is_any _ _).mono ?_; rintro e w' ⟨rfl, rfl⟩)
        go_ret
        refine ⟨ret_bool (E2.out.trans ?_), rfl⟩
        rw [Bool.eq_iff_iff]
        simp only [validB, Int.toNat_natCast, Bool.and_eq_true, decide_eq_true_eq, E.out]
        omega
      · simp only [Bool.not_eq_true] at hl
        have hl2 := (isB_iff' l).1 hl
        have H2 := Lib.hid hl2
        have HP := Lib.hid hp
        clear hl2 hp hp2
        go_enter Try.func35, Try.ntmps35
        go_wp2_with (go_at_call 36; refine (is_any _ _).mono ?_; rintro e w' ⟨rfl, rfl⟩)
        go_ret
        refine ⟨ret_bool ?_, rfl⟩
        have h3 := H2.out
        have h4 := HP.out
        by_cases h5 : 0 ≤ l
        · have h6 : ¬ l < ((2 ^ c : Nat) : Int) := by simp only [Nat.reducePow] at h4; omega
          simp only [Int.natCast_pow, Int.cast_ofNat_Int] at h6
          simp [validB, h6]
        · simp [validB, h5]

def validR (l cats : Int) : Bool := decide (0 ≤ cats) && decide (cats ≤ 8) && decide (0 ≤ l) && decide (l < 2 ^ cats.toNat)
theorem Valid_ref (l cats : Int) (w : World) :
    Calls Try.prog 31 #[.int .i64 l, .int .i64 cats] w fun e w' => e = .returned (.bool (validB l cats)) ∧ w = w' := by
  by_cases h1 : cats < 0
  · go_enter Try.func31, Try.ntmps31
    go_wp2
    go_ret
    exact ⟨ret_bool (by simp [validB]; omega), rfl⟩
  · by_cases h2 : 8 < cats
    · have h3 : decide (cats ≤ 8) = false := by simp; omega
      go_enter Try.func31, Try.ntmps31
      go_wp2
      go_ret
      exact ⟨ret_bool (by simp [validB]; omega), rfl⟩
    · obtain ⟨c, rfl⟩ := Int.eq_ofNat_of_zero_le (show 0 ≤ cats by omega)
      have hp : (2 : Nat) ^ c ≤ 2 ^ 8 := Nat.pow_le_pow_right (by decide) (by omega)
      have e : wrap64 (2 ^ c) = 2 ^ c := by
        have e2 : (2 : Int) ^ c = ((2 ^ c : Nat) : Int) := by simp
        simp only [Nat.reducePow] at hp
        rw [e2, IntWalk.wrap64_in]
        generalize 2 ^ c = z at hp ⊢
        omega
      clear hp
      by_cases hl : 0 ≤ l
      · have hl2 : decide (0 ≤ l) = true := by simpa using hl
        go_enter Try.func31, Try.ntmps31
        go_wp2
        go_ret
        exact ⟨ret_bool (by simp [validB, hl]; omega), rfl⟩
      · have hl2 : decide (0 ≤ l) = false := by simpa using hl
        go_enter Try.func31, Try.ntmps31
        go_wp2
        go_ret
        exact ⟨ret_bool (by simp [validB]; omega), rfl⟩
end Go.Proofs.Ytnhapfoebiniiaa
