/- Labels for chapter 4. -/
import Derived.Test.YtoalpdjpljapbaaDoorOpen
import Derived.Test.YtoalpdjpljapbaaDoorBits
import Derived.Test.YtoalpdjpljapbaaDoorRows
namespace Go.Proofs.YtoalpdjpljapbaaDoor
set_option linter.unusedVariables false
set_option linter.unusedSimpArgs false
set_option linter.unnecessarySimpa false
open Go.RowKit
set_option maxHeartbeats 400000
set_option maxRecDepth 100000

def isB (l : Int) : Bool := decide (0 ≤ l) && decide (l ≤ 255)
theorem isB_iff (l : Int) : isB l = true ↔ 0 ≤ l ∧ l ≤ 255 := by simp [isB]
theorem isB_iff' (l : Int) : isB l = false ↔ ¬ (0 ≤ l ∧ l ≤ 255) := by rw [← isB_iff]; simp
def flB (a b : Int) : Bool := isB a && isB b && (andN a.toNat b.toNat == 0)

theorem is_any (l : Int) (w : World) :
    Calls Tryd.prog 82 #[.int .i64 l] w fun e w' => e = .returned (.bool (isB l)) ∧ w = w' := by
  by_cases h : 0 ≤ l
  · have h1 : decide (0 ≤ l) = true := by simpa using h
    go_enter Tryd.func82, Tryd.ntmps82
    go_wp2
    go_ret
    simp [isB, h]
  · have h1 : decide (0 ≤ l) = false := by simpa using h
    go_enter Tryd.func82, Tryd.ntmps82
    go_wp2
    go_ret
    simp [isB]; omega

theorem flows_any (a b : Int) (w : World) :
    Calls Tryd.prog 66 #[.int .i64 a, .int .i64 b] w fun e w' => e = .returned (.bool (flB a b)) ∧ w = w' := by
  by_cases ha : isB a = true
  · by_cases hb : isB b = true
    · go_enter Tryd.func66, Tryd.ntmps66
      go_wp2_with (go_at_call 82; refine (is_any _ _).mono ?_; rintro e w' ⟨rfl, rfl⟩)
      go_ret
      obtain ⟨ha1, ha2⟩ := (isB_iff a).1 ha
      obtain ⟨hb1, hb2⟩ := (isB_iff b).1 hb
      obtain ⟨m, rfl⟩ := Int.eq_ofNat_of_zero_le ha1
      obtain ⟨n, rfl⟩ := Int.eq_ofNat_of_zero_le hb1
      rw [i64_andNot m n (by omega) (by omega)]
      refine ⟨ret_bool ?_, rfl⟩
      rw [Bool.eq_iff_iff]
      simp only [flB, ha, hb, Int.toNat_natCast, Bool.true_and, beq_iff_eq]
      omega
    · simp only [Bool.not_eq_true] at hb
      go_enter Tryd.func66, Tryd.ntmps66
      go_wp2_with (go_at_call 82; refine (is_any _ _).mono ?_; rintro e w' ⟨rfl, rfl⟩)
      go_ret
      simp [flB, ha, hb]
  · simp only [Bool.not_eq_true] at ha
    go_enter Tryd.func66, Tryd.ntmps66
    go_wp2_with (go_at_call 82; refine (is_any _ _).mono ?_; rintro e w' ⟨rfl, rfl⟩)
    go_ret
    simp [flB, ha]

def validB (l cats : Int) : Bool := decide (0 ≤ cats) && decide (cats ≤ 8) && decide (0 ≤ l) && decide (l < 2 ^ cats.toNat)

theorem valid_any (l cats : Int) (w : World) :
    Calls Tryd.prog 58 #[.int .i64 l, .int .i64 cats] w fun e w' => e = .returned (.bool (validB l cats)) ∧ w = w' := by
  by_cases h1 : cats < 0
  · go_enter Tryd.func58, Tryd.ntmps58
    go_wp2_with (go_at_call 82; refine (is_any _ _).mono ?_; rintro e w' ⟨rfl, rfl⟩)
    go_ret
    exact ⟨ret_bool (by simp [validB]; omega), rfl⟩
  · by_cases h2 : 8 < cats
    · go_enter Tryd.func58, Tryd.ntmps58
      go_wp2_with (go_at_call 82; refine (is_any _ _).mono ?_; rintro e w' ⟨rfl, rfl⟩)
      go_ret
      exact ⟨ret_bool (by simp [validB]; omega), rfl⟩
    · obtain ⟨c, rfl⟩ := Int.eq_ofNat_of_zero_le (show 0 ≤ cats by omega)
      have hp : (2 : Nat) ^ c ≤ 2 ^ 8 := Nat.pow_le_pow_right (by decide) (by omega)
      have hp2 : 0 < (2 : Nat) ^ c := Nat.pow_pos (by decide)
      by_cases hl : isB l = true
      · obtain ⟨l1, l2⟩ := (isB_iff l).1 hl
        obtain ⟨m, rfl⟩ := Int.eq_ofNat_of_zero_le l1
        have e : ((m : Int) < 2 ^ c) ↔ m < 2 ^ c := by rw [show (2 : Int) ^ c = ((2 ^ c : Nat) : Int) from by simp]; omega
        have e2 : ((m : Int) / 2 ^ c == 0) = decide (m < 2 ^ c) := by
          rw [show (m : Int) / 2 ^ c = ((m / 2 ^ c : Nat) : Int) from by simp, Bool.eq_iff_iff]
          simp only [beq_iff_eq, decide_eq_true_eq]
          rw [← Nat.div_eq_zero_iff_lt hp2]
          omega
        have E := Lib.hid e; have E2 := Lib.hid e2
        clear e e2 hp hp2
        go_enter Tryd.func58, Tryd.ntmps58
        go_wp2_with (go_at_call 82; refine (is_any _ _).mono ?_; rintro e w' ⟨rfl, rfl⟩)
        go_ret
        refine ⟨ret_bool (E2.out.trans ?_), rfl⟩
        rw [Bool.eq_iff_iff]
        simp only [validB, Int.toNat_natCast, Bool.and_eq_true, decide_eq_true_eq, E.out]
        omega
      · simp only [Bool.not_eq_true] at hl
        have hl2 := (isB_iff' l).1 hl
        have H2 := Lib.hid hl2
        have HP := Lib.hid hp
        clear hl2 hp hp2
        go_enter Tryd.func58, Tryd.ntmps58
        go_wp2_with (go_at_call 82; refine (is_any _ _).mono ?_; rintro e w' ⟨rfl, rfl⟩)
        go_ret
        refine ⟨ret_bool ?_, rfl⟩
        have h3 := H2.out
        have h4 := HP.out
        by_cases h5 : 0 ≤ l
        · have h6 : ¬ l < ((2 ^ c : Nat) : Int) := by simp only [Nat.reducePow] at h4; omega
          simp only [Int.natCast_pow, Int.cast_ofNat_Int] at h6
          simp [validB, h6]
        · simp [validB, h5]

theorem Is_any (l : Int) (w : World) :
    Calls Tryd.prog 94 #[.int .i64 l] w fun e w' => e = .returned (.bool (isB l)) ∧ w = w' := by
  by_cases h : 0 ≤ l
  · have h1 : decide (0 ≤ l) = true := by simpa using h
    go_enter Tryd.func94, Tryd.ntmps94
    go_wp2
    go_ret
    refine ⟨ret_bool ?_, rfl⟩
    rw [Bool.eq_iff_iff]; simp [isB, h]; omega
  · have h1 : decide (0 ≤ l) = false := by simpa using h
    go_enter Tryd.func94, Tryd.ntmps94
    go_wp2
    go_ret
    simp [isB]; omega

theorem has_any (l c : Nat) (hl : l < 9223372036854775808) (hc : c < 64) (w : World) :
    Calls Tryd.prog 95 #[.int .i64 l, .int .i64 c] w fun e w' => e = .returned (.bool (l.testBit c)) ∧ w = w' := by
  go_enter Tryd.func95, Tryd.ntmps95
  go_wp2
  go_ret
  exact ⟨ret_bool (bit_eq l c hl), rfl⟩

def flR (a b : Nat) (k : Nat) : Bool := decide (∀ c, c < k → a.testBit c = true → b.testBit c = true)
def flowsR (a b : Int) : Bool := isB a && isB b && flR a.toNat b.toNat 8
theorem flR_succ (a b k : Nat) : flR a b (k + 1) = (flR a b k && !(a.testBit k && !b.testBit k)) := by
  rw [Bool.eq_iff_iff]
  simp only [flR, decide_eq_true_eq, Bool.and_eq_true, Bool.not_eq_true', Bool.and_eq_false_iff, Bool.not_eq_false']
  constructor
  · intro h
    refine ⟨fun c hc => h c (by omega), ?_⟩
    cases e : a.testBit k
    · exact .inl rfl
    · exact .inr (h k (by omega) e)
  · rintro ⟨h1, h2⟩ c hc ha
    by_cases e : c = k
    · subst e; rcases h2 with h2 | h2
      · rw [h2] at ha; cases ha
      · exact h2
    · exact h1 c (by omega) ha

theorem flR_lt (a b n k : Nat) (h : k ≤ n) (hf : flR a b k = false) : flR a b n = false := by
  simp only [flR, decide_eq_false_iff_not] at hf ⊢
  exact fun hn => hf fun c hc => hn c (by omega)

theorem Flows_ref (a b : Int) (w : World) :
    Calls Tryd.prog 79 #[.int .i64 a, .int .i64 b] w fun e w' => e = .returned (.bool (flowsR a b)) ∧ w = w' := by
  by_cases ha : isB a = true
  · by_cases hb : isB b = true
    · obtain ⟨a1, a2⟩ := (isB_iff a).1 ha
      obtain ⟨b1, b2⟩ := (isB_iff b).1 hb
      obtain ⟨m, rfl⟩ := Int.eq_ofNat_of_zero_le a1
      obtain ⟨n, rfl⟩ := Int.eq_ofNat_of_zero_le b1
      have hE : flowsR (m : Int) (n : Int) = flR m n 8 := by simp [flowsR, ha, hb]
      have HE := Lib.hid hE; clear hE
      go_enter Tryd.func79, Tryd.ntmps79
      go_wp2_with (go_at_call 94; refine (Is_any _ _).mono ?_; rintro e w' ⟨rfl, rfl⟩)
      go_loop [5] (fun i => ∃ k : Nat, k ≤ 8 ∧ i = .int .i64 k ∧ flR m n k = true) (fun i => 8 - (intOf i).toNat)
      case atStart => exact ⟨0, by omega, rfl, by simp [flR]⟩
      case round =>
        obtain ⟨k, hk, rfl, hf⟩ := hrel
        have HF := Lib.hid hf; clear hf
        by_cases hlt : k < 8
        · have HS := Lib.hid (flR_succ m n k)
          cases hx : m.testBit k <;> cases hy : n.testBit k
          all_goals
            go_wp2_with (go_at_call 95; refine (has_any _ k (by omega) (by omega) _).mono ?_; rintro e w' ⟨rfl, rfl⟩)
            first
              | (go_round
                 case rel => exact ⟨k + 1, by omega, by go_num, by rw [HS.out, HF.out, hx, hy]; rfl⟩
                 case measure => simp [intOf]; omega)
              | (go_ret
                 exact ⟨ret_bool (by rw [HE.out]; have := flR_lt m n 8 (k + 1) (by omega) (by rw [HS.out, hx, hy]; simp); simp [this]), rfl⟩)
        · obtain rfl : k = 8 := by omega
          go_wp2_with fail
          go_ret
          exact ⟨ret_bool (by rw [HE.out, HF.out]), rfl⟩
    · simp only [Bool.not_eq_true] at hb
      go_enter Tryd.func79, Tryd.ntmps79
      go_wp2_with (go_at_call 94; refine (Is_any _ _).mono ?_; rintro e w' ⟨rfl, rfl⟩)
      go_ret
      simp [flowsR, ha, hb]
  · simp only [Bool.not_eq_true] at ha
    go_enter Tryd.func79, Tryd.ntmps79
    go_wp2_with (go_at_call 94; refine (Is_any _ _).mono ?_; rintro e w' ⟨rfl, rfl⟩)
    go_ret
    simp [flowsR, ha]

theorem flowsR_eq (a b : Int) : flowsR a b = flB a b := by
  cases ha : isB a
  · simp [flowsR, flB, ha]
  · cases hb : isB b
    · simp [flowsR, flB, ha, hb]
    · have h1 := (isB_iff a).1 ha
      have h2 := (isB_iff b).1 hb
      simp only [flowsR, flB, ha, hb, Bool.true_and]
      have ha2 : a.toNat < 256 := by omega
      have hb2 : b.toNat < 256 := by omega
      generalize a.toNat = m at *
      generalize b.toNat = n at *
      rw [Bool.eq_iff_iff]
      simp only [flR, decide_eq_true_eq, beq_iff_eq]
      have hd : andN m n < 256 := Nat.xor_lt_two_pow (n := 8) (by omega) (Nat.lt_of_le_of_lt Nat.and_le_left (by omega))
      constructor
      · intro h
        refine eq_of_bits8 _ _ hd (by decide) fun c hc => ?_
        rw [andN_testBit, Nat.zero_testBit]
        cases hx : m.testBit c
        · rfl
        · rw [h c hc hx]; rfl
      · intro h c hc hx
        have := andN_testBit m n c
        rw [h, Nat.zero_testBit, hx] at this
        simpa using this.symm
def validR (l cats : Int) : Bool := decide (0 ≤ cats) && decide (cats ≤ 8) && decide (0 ≤ l) && decide (l < 2 ^ cats.toNat)
theorem Valid_ref (l cats : Int) (w : World) :
    Calls Tryd.prog 76 #[.int .i64 l, .int .i64 cats] w fun e w' => e = .returned (.bool (validB l cats)) ∧ w = w' := by
  by_cases h1 : cats < 0
  · go_enter Tryd.func76, Tryd.ntmps76
    go_wp2
    go_ret
    exact ⟨ret_bool (by simp [validB]; omega), rfl⟩
  · by_cases h2 : 8 < cats
    · have h3 : decide (cats ≤ 8) = false := by simp; omega
      go_enter Tryd.func76, Tryd.ntmps76
      go_wp2
      go_ret
      exact ⟨ret_bool (by simp [validB]; omega), rfl⟩
    · obtain ⟨c, rfl⟩ := Int.eq_ofNat_of_zero_le (show 0 ≤ cats by omega)
      have hp : (2 : Nat) ^ c ≤ 2 ^ 8 := Nat.pow_le_pow_right (by decide) (by omega)
      have e : wrap64 (2 ^ c) = 2 ^ c := by
        have e2 : (2 : Int) ^ c = ((2 ^ c : Nat) : Int) := by simp
        simp only [Nat.reducePow] at hp
        rw [e2, IntWalk.wrap64_in]
        generalize 2 ^ c = z at hp ⊢
        omega
      clear hp
      by_cases hl : 0 ≤ l
      · have hl2 : decide (0 ≤ l) = true := by simpa using hl
        go_enter Tryd.func76, Tryd.ntmps76
        go_wp2
        go_ret
        exact ⟨ret_bool (by simp [validB, hl]; omega), rfl⟩
      · have hl2 : decide (0 ≤ l) = false := by simpa using hl
        go_enter Tryd.func76, Tryd.ntmps76
        go_wp2
        go_ret
        exact ⟨ret_bool (by simp [validB]; omega), rfl⟩
end Go.Proofs.YtoalpdjpljapbaaDoor
