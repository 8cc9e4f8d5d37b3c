/- Contracts of the labels: Flows and Count, and the reference of Flows. -/
import Derived.Test.YtlafijnmoaenaaaBits
import Derived.Test.YtlafijnmoaenaaaRows
namespace Go.Proofs.Ytlafijnmoaenaaa
set_option linter.unusedVariables false
set_option linter.unusedSimpArgs false
set_option linter.unnecessarySimpa false
open Go.RowKit
set_option maxHeartbeats 400000
set_option maxRecDepth 100000

def isB (l : Int) : Bool := decide (0 ≤ l) && decide (l ≤ 255)
theorem isB_iff (l : Int) : isB l = true ↔ 0 ≤ l ∧ l ≤ 255 := by simp [isB]
theorem isB_iff' (l : Int) : isB l = false ↔ ¬ (0 ≤ l ∧ l ≤ 255) := by rw [← isB_iff]; simp
def flB (a b : Int) : Bool := isB a && isB b && (andN a.toNat b.toNat == 0)

theorem is_any (l : Int) (w : World) :
    Calls Try.prog 30 #[.int .i64 l] w fun e w' => e = .returned (.bool (isB l)) ∧ w = w' := by
  by_cases h : 0 ≤ l
  · have h1 : decide (0 ≤ l) = true := by simpa using h
    go_enter Try.func30, Try.ntmps30
    go_wp2
    go_ret
    simp [isB, h]
  · have h1 : decide (0 ≤ l) = false := by simpa using h
    go_enter Try.func30, Try.ntmps30
    go_wp2
    go_ret
    simp [isB]; omega

theorem flows_any (a b : Int) (w : World) :
    Calls Try.prog 14 #[.int .i64 a, .int .i64 b] w fun e w' => e = .returned (.bool (flB a b)) ∧ w = w' := by
  by_cases ha : isB a = true
  · by_cases hb : isB b = true
    · go_enter Try.func14, Try.ntmps14
      go_wp2_with (go_at_call 30; refine (is_any _ _).mono ?_; rintro e w' ⟨rfl, rfl⟩)
      go_ret
      obtain ⟨ha1, ha2⟩ := (isB_iff a).1 ha
      obtain ⟨hb1, hb2⟩ := (isB_iff b).1 hb
      obtain ⟨m, rfl⟩ := Int.eq_ofNat_of_zero_le ha1
      obtain ⟨n, rfl⟩ := Int.eq_ofNat_of_zero_le hb1
      rw [i64_andNot m n (by omega) (by omega)]
      refine ⟨ret_bool ?_, rfl⟩
      rw [Bool.eq_iff_iff]
      simp only [flB, ha, hb, Int.toNat_natCast, Bool.true_and, beq_iff_eq]
      omega
    · simp only [Bool.not_eq_true] at hb
      go_enter Try.func14, Try.ntmps14
      go_wp2_with (go_at_call 30; refine (is_any _ _).mono ?_; rintro e w' ⟨rfl, rfl⟩)
      go_ret
      simp [flB, ha, hb]
  · simp only [Bool.not_eq_true] at ha
    go_enter Try.func14, Try.ntmps14
    go_wp2_with (go_at_call 30; refine (is_any _ _).mono ?_; rintro e w' ⟨rfl, rfl⟩)
    go_ret
    simp [flB, ha]

def countN : Nat → Nat → Nat
  | 0, _ => 0
  | f + 1, l => if l = 0 then 0 else 1 + countN f (l &&& (l - 1))
def countI (l : Int) : Int := if isB l then countN l.toNat l.toNat else -1

theorem and_pred_lt (l : Nat) (h : l ≠ 0) : l &&& (l - 1) < l := Nat.lt_of_le_of_lt Nat.and_le_right (by omega)
theorem countN_le : ∀ (f l : Nat), countN f l ≤ f
  | 0, _ => Nat.le_refl _
  | f + 1, l => by
    simp only [countN]
    split
    · omega
    · have := countN_le f (l &&& (l - 1)); omega
theorem countN_fuel : ∀ (f g l : Nat), l ≤ f → l ≤ g → countN f l = countN g l
  | 0, 0, _, _, _ => rfl
  | 0, g + 1, l, h, _ => by obtain rfl : l = 0 := by omega
                            simp [countN]
  | f + 1, 0, l, _, h => by obtain rfl : l = 0 := by omega
                            simp [countN]
  | f + 1, g + 1, l, h1, h2 => by
    simp only [countN]
    split
    · rfl
    · rename_i h
      have := and_pred_lt l h
      rw [countN_fuel f g _ (by omega) (by omega)]

theorem count_any (l : Int) (w : World) :
    Calls Try.prog 28 #[.int .i64 l] w fun e w' => e = .returned (.int .i64 (countI l)) ∧ w = w' := by
  by_cases hl : isB l = true
  · obtain ⟨h1, h2⟩ := (isB_iff l).1 hl
    obtain ⟨m, rfl⟩ := Int.eq_ofNat_of_zero_le h1
    go_enter Try.func28, Try.ntmps28
    go_wp2_with (go_at_call 30; refine (is_any _ _).mono ?_; rintro e w' ⟨rfl, rfl⟩)
    go_loop [0, 3] (fun x n => ∃ (k l : Nat), x = .int .i64 l ∧ l ≤ m ∧ n = .int .i64 k ∧ k ≤ m - l ∧ countN m m = k + countN l l) (fun x _ => (intOf x).toNat)
    case atStart => exact ⟨0, m, rfl, Nat.le_refl _, rfl, by omega, by omega⟩
    case round =>
      obtain ⟨k, x, rfl, hx, rfl, hk, he⟩ := hrel
      have HE := Lib.hid he; clear he
      by_cases h0 : x = 0
      · subst h0
        go_wp2
        go_ret
        exact ⟨ret_int (by simp only [countI, hl]; simp [HE.out, countN]), rfl⟩
      · have hne : ((x : Int) != 0) = true := by simp; omega
        have hlt := and_pred_lt x h0
        have hb : bits BinOp.and IntKind.i64 (x : Int) ((x : Int) - 1) = ((x &&& (x - 1) : Nat) : Int) := by rw [show ((x : Int) - 1) = ((x - 1 : Nat) : Int) from by omega]; exact i64_and x (x - 1) (by omega) (by omega)
        have H1 : Hid (countN x x = 1 + countN (x &&& (x - 1)) (x &&& (x - 1))) := by
          cases x with
          | zero => omega
          | succ y => simp only [Hid, countN, if_neg h0]; rw [countN_fuel y ((y + 1) &&& (y + 1 - 1)) _ (by omega) (Nat.le_refl _)]
        go_wp2
        go_round
        case rel => exact ⟨k + 1, x &&& (x - 1), rfl, by omega, by go_num, by omega, by rw [HE.out, H1.out]; omega⟩
        case measure => simp [intOf]; omega
  · simp only [Bool.not_eq_true] at hl
    go_enter Try.func28, Try.ntmps28
    go_wp2_with (go_at_call 30; refine (is_any _ _).mono ?_; rintro e w' ⟨rfl, rfl⟩)
    go_ret
    simp [countI, hl]

theorem Is_any (l : Int) (w : World) :
    Calls Try.prog 32 #[.int .i64 l] w fun e w' => e = .returned (.bool (isB l)) ∧ w = w' := by
  by_cases h : 0 ≤ l
  · have h1 : decide (0 ≤ l) = true := by simpa using h
    go_enter Try.func32, Try.ntmps32
    go_wp2
    go_ret
    refine ⟨ret_bool ?_, rfl⟩
    rw [Bool.eq_iff_iff]; simp [isB, h]; omega
  · have h1 : decide (0 ≤ l) = false := by simpa using h
    go_enter Try.func32, Try.ntmps32
    go_wp2
    go_ret
    simp [isB]; omega

theorem has_any (l c : Nat) (hl : l < 9223372036854775808) (hc : c < 64) (w : World) :
    Calls Try.prog 43 #[.int .i64 l, .int .i64 c] w fun e w' => e = .returned (.bool (l.testBit c)) ∧ w = w' := by
  go_enter Try.func43, Try.ntmps43
  go_wp2
  go_ret
  exact ⟨ret_bool (bit_eq l c hl), rfl⟩

def flR (a b : Nat) (k : Nat) : Bool := decide (∀ c, c < k → a.testBit c = true → b.testBit c = true)
def flowsR (a b : Int) : Bool := isB a && isB b && flR a.toNat b.toNat 8
theorem flR_succ (a b k : Nat) : flR a b (k + 1) = (flR a b k && !(a.testBit k && !b.testBit k)) := by
  rw [Bool.eq_iff_iff]
  simp only [flR, decide_eq_true_eq, Bool.and_eq_true, Bool.not_eq_true', Bool.and_eq_false_iff, Bool.not_eq_false']
  constructor
  · intro h
    refine ⟨fun c hc => h c (by omega), ?_⟩
    cases e : a.testBit k
    · exact .inl rfl
    · exact .inr (h k (by omega) e)
  · rintro ⟨h1, h2⟩ c hc ha
    by_cases e : c = k
    · subst e; rcases h2 with h2 | h2
      · rw [h2] at ha; cases ha
      · exact h2
    · exact h1 c (by omega) ha

theorem flR_lt (a b n k : Nat) (h : k ≤ n) (hf : flR a b k = false) : flR a b n = false := by
  simp only [flR, decide_eq_false_iff_not] at hf ⊢
  exact fun hn => hf fun c hc => hn c (by omega)

theorem Flows_ref (a b : Int) (w : World) :
    Calls Try.prog 36 #[.int .i64 a, .int .i64 b] w fun e w' => e = .returned (.bool (flowsR a b)) ∧ w = w' := by
  by_cases ha : isB a = true
  · by_cases hb : isB b = true
    · obtain ⟨a1, a2⟩ := (isB_iff a).1 ha
      obtain ⟨b1, b2⟩ := (isB_iff b).1 hb
      obtain ⟨m, rfl⟩ := Int.eq_ofNat_of_zero_le a1
      obtain ⟨n, rfl⟩ := Int.eq_ofNat_of_zero_le b1
      have hE : flowsR (m : Int) (n : Int) = flR m n 8 := by simp [flowsR, ha, hb]
      have HE := Lib.hid hE; clear hE
      go_enter Try.func36, Try.ntmps36
      go_wp2_with (go_at_call 32; refine (Is_any _ _).mono ?_; rintro e w' ⟨rfl, rfl⟩)
      go_loop [5] (fun i => ∃ k : Nat, k ≤ 8 ∧ i = .int .i64 k ∧ flR m n k = true) (fun i => 8 - (intOf i).toNat)
      case atStart => exact ⟨0, by omega, rfl, by simp [flR]⟩
      case round =>
        obtain ⟨k, hk, rfl, hf⟩ := hrel
        have HF := Lib.hid hf; clear hf
        by_cases hlt : k < 8
        · have HS := Lib.hid (flR_succ m n k)
          cases hx : m.testBit k <;> cases hy : n.testBit k
          all_goals
            go_wp2_with (go_at_call 43; refine (has_any _ k (by omega) (by omega) _).mono ?_; rintro e w' ⟨rfl, rfl⟩)
            first
              | (go_round
                 case rel => exact ⟨k + 1, by omega, by go_num, by rw [HS.out, HF.out, hx, hy]; rfl⟩
                 case measure => simp [intOf]; omega)
              | (go_ret
                 exact ⟨ret_bool (by rw [HE.out]; have := flR_lt m n 8 (k + 1) (by omega) (by rw [HS.out, hx, hy]; simp); simp [this]), rfl⟩)
        · obtain rfl : k = 8 := by omega
          go_wp2_with fail
          go_ret
          exact ⟨ret_bool (by rw [HE.out, HF.out]), rfl⟩
    · simp only [Bool.not_eq_true] at hb
      go_enter Try.func36, Try.ntmps36
      go_wp2_with (go_at_call 32; refine (Is_any _ _).mono ?_; rintro e w' ⟨rfl, rfl⟩)
      go_ret
      simp [flowsR, ha, hb]
  · simp only [Bool.not_eq_true] at ha
    go_enter Try.func36, Try.ntmps36
    go_wp2_with (go_at_call 32; refine (Is_any _ _).mono ?_; rintro e w' ⟨rfl, rfl⟩)
    go_ret
    simp [flowsR, ha]

theorem flowsR_eq (a b : Int) : flowsR a b = flB a b := by
  cases ha : isB a
  · simp [flowsR, flB, ha]
  · cases hb : isB b
    · simp [flowsR, flB, ha, hb]
    · have h1 := (isB_iff a).1 ha
      have h2 := (isB_iff b).1 hb
      simp only [flowsR, flB, ha, hb, Bool.true_and]
      have ha2 : a.toNat < 256 := by omega
      have hb2 : b.toNat < 256 := by omega
      generalize a.toNat = m at *
      generalize b.toNat = n at *
      rw [Bool.eq_iff_iff]
      simp only [flR, decide_eq_true_eq, beq_iff_eq]
      have hd : andN m n < 256 := Nat.xor_lt_two_pow (n := 8) (by omega) (Nat.lt_of_le_of_lt Nat.and_le_left (by omega))
      constructor
      · intro h
        refine eq_of_bits8 _ _ hd (by decide) fun c hc => ?_
        rw [andN_testBit, Nat.zero_testBit]
        cases hx : m.testBit c
        · rfl
        · rw [h c hc hx]; rfl
      · intro h c hc hx
        have := andN_testBit m n c
        rw [h, Nat.zero_testBit, hx] at this
        simpa using this.symm
end Go.Proofs.Ytlafijnmoaenaaa
