/- The walks of package alu and of its reference. -/
import Derived.Test.YtjphehncpgekfaaOpen
import Derived.Test.YtjphehncpgekfaaRows
namespace Go.Proofs.Ytjphehncpgekfaa
open Go.RowKit
set_option maxHeartbeats 400000
set_option maxRecDepth 100000
def W32 (a : Int) : Prop := 0 ≤ a ∧ a ≤ 4294967295
/-- What operation n answers. -/
def opV (n : Nat) (a b : Int) : Int :=
  match n with
  | 1 => (a + b) % 4294967296
  | 2 => (a - b) % 4294967296
  | 3 => bits .and .u32 a b
  | 4 => bits .or .u32 a b
  | 5 => bits .xor .u32 a b
  | 6 => a * 2 ^ (b % 32).toNat % 4294967296
  | 7 => a / 2 ^ (b % 32).toNat
  | 8 => wrap32 a / 2 ^ (b % 32).toNat % 4294967296
  | 9 => cond (decide (wrap32 a < wrap32 b)) 1 0
  | 10 => cond (decide (a < b)) 1 0
  | 11 => a * b % 4294967296
  | 12 => if b = 0 then 4294967295 else a / b
  | 13 => if b = 0 then a else a % b
  | _ => 0
theorem flag_any (x : Bool) (w : World) : Calls Try.prog 71 #[.bool x] w fun e w' => e = .returned (.int .u32 (cond x 1 0)) ∧ w = w' := by
  cases x
  · go_enter Try.func71, Try.ntmps71
    go_wp2
    go_ret
    exact ⟨rfl, rfl⟩
  · go_enter Try.func71, Try.ntmps71
    go_wp2
    go_ret
    exact ⟨rfl, rfl⟩
theorem below1 (w : World) (o : Obj) : Below w.heap.size w (w.alloc o) := (Below.refl _ _).alloc (Nat.le_refl _) _

theorem m_sum (a b : Int) (ha : 0 ≤ a ∧ a ≤ 4294967295) (hb : 0 ≤ b ∧ b ≤ 4294967295) (w : World) : Calls Try.prog 78 #[.agg #[.int .u32 a, .int .u32 b]] w fun e w' => e = .returned (.int .u32 (opV 1 a b)) ∧ Below w.heap.size w w' := by
  go_enter Try.func78, Try.ntmps78
  go_wp2_with (go_at_call 71; refine (flag_any _ _).mono ?_; rintro e w' ⟨rfl, rfl⟩)
  go_ret
  exact ⟨rfl, below1 w _⟩
theorem m_less (a b : Int) (ha : 0 ≤ a ∧ a ≤ 4294967295) (hb : 0 ≤ b ∧ b ≤ 4294967295) (w : World) : Calls Try.prog 79 #[.agg #[.int .u32 a, .int .u32 b]] w fun e w' => e = .returned (.int .u32 (opV 2 a b)) ∧ Below w.heap.size w w' := by
  go_enter Try.func79, Try.ntmps79
  go_wp2_with (go_at_call 71; refine (flag_any _ _).mono ?_; rintro e w' ⟨rfl, rfl⟩)
  go_ret
  exact ⟨rfl, below1 w _⟩
theorem m_and (a b : Int) (ha : 0 ≤ a ∧ a ≤ 4294967295) (hb : 0 ≤ b ∧ b ≤ 4294967295) (w : World) : Calls Try.prog 72 #[.agg #[.int .u32 a, .int .u32 b]] w fun e w' => e = .returned (.int .u32 (opV 3 a b)) ∧ Below w.heap.size w w' := by
  go_enter Try.func72, Try.ntmps72
  go_wp2_with (go_at_call 71; refine (flag_any _ _).mono ?_; rintro e w' ⟨rfl, rfl⟩)
  go_ret
  exact ⟨rfl, below1 w _⟩
theorem m_or (a b : Int) (ha : 0 ≤ a ∧ a ≤ 4294967295) (hb : 0 ≤ b ∧ b ≤ 4294967295) (w : World) : Calls Try.prog 73 #[.agg #[.int .u32 a, .int .u32 b]] w fun e w' => e = .returned (.int .u32 (opV 4 a b)) ∧ Below w.heap.size w w' := by
  go_enter Try.func73, Try.ntmps73
  go_wp2_with (go_at_call 71; refine (flag_any _ _).mono ?_; rintro e w' ⟨rfl, rfl⟩)
  go_ret
  exact ⟨rfl, below1 w _⟩
theorem m_xor (a b : Int) (ha : 0 ≤ a ∧ a ≤ 4294967295) (hb : 0 ≤ b ∧ b ≤ 4294967295) (w : World) : Calls Try.prog 74 #[.agg #[.int .u32 a, .int .u32 b]] w fun e w' => e = .returned (.int .u32 (opV 5 a b)) ∧ Below w.heap.size w w' := by
  go_enter Try.func74, Try.ntmps74
  go_wp2_with (go_at_call 71; refine (flag_any _ _).mono ?_; rintro e w' ⟨rfl, rfl⟩)
  go_ret
  exact ⟨rfl, below1 w _⟩
theorem m_up (a b : Int) (ha : 0 ≤ a ∧ a ≤ 4294967295) (hb : 0 ≤ b ∧ b ≤ 4294967295) (w : World) : Calls Try.prog 75 #[.agg #[.int .u32 a, .int .u32 b]] w fun e w' => e = .returned (.int .u32 (opV 6 a b)) ∧ Below w.heap.size w w' := by
  go_enter Try.func75, Try.ntmps75
  go_wp2_with (go_at_call 71; refine (flag_any _ _).mono ?_; rintro e w' ⟨rfl, rfl⟩)
  go_ret
  exact ⟨rfl, below1 w _⟩
theorem m_down (a b : Int) (ha : 0 ≤ a ∧ a ≤ 4294967295) (hb : 0 ≤ b ∧ b ≤ 4294967295) (w : World) : Calls Try.prog 76 #[.agg #[.int .u32 a, .int .u32 b]] w fun e w' => e = .returned (.int .u32 (opV 7 a b)) ∧ Below w.heap.size w w' := by
  go_enter Try.func76, Try.ntmps76
  go_wp2_with (go_at_call 71; refine (flag_any _ _).mono ?_; rintro e w' ⟨rfl, rfl⟩)
  go_ret
  exact ⟨rfl, below1 w _⟩
theorem m_sign (a b : Int) (ha : 0 ≤ a ∧ a ≤ 4294967295) (hb : 0 ≤ b ∧ b ≤ 4294967295) (w : World) : Calls Try.prog 77 #[.agg #[.int .u32 a, .int .u32 b]] w fun e w' => e = .returned (.int .u32 (opV 8 a b)) ∧ Below w.heap.size w w' := by
  go_enter Try.func77, Try.ntmps77
  go_wp2_with (go_at_call 71; refine (flag_any _ _).mono ?_; rintro e w' ⟨rfl, rfl⟩)
  go_ret
  exact ⟨rfl, below1 w _⟩
theorem m_below (a b : Int) (ha : 0 ≤ a ∧ a ≤ 4294967295) (hb : 0 ≤ b ∧ b ≤ 4294967295) (w : World) : Calls Try.prog 67 #[.agg #[.int .u32 a, .int .u32 b]] w fun e w' => e = .returned (.int .u32 (opV 9 a b)) ∧ Below w.heap.size w w' := by
  go_enter Try.func67, Try.ntmps67
  go_wp2_with (go_at_call 71; refine (flag_any _ _).mono ?_; rintro e w' ⟨rfl, rfl⟩)
  go_ret
  exact ⟨rfl, below1 w _⟩
theorem m_under (a b : Int) (ha : 0 ≤ a ∧ a ≤ 4294967295) (hb : 0 ≤ b ∧ b ≤ 4294967295) (w : World) : Calls Try.prog 68 #[.agg #[.int .u32 a, .int .u32 b]] w fun e w' => e = .returned (.int .u32 (opV 10 a b)) ∧ Below w.heap.size w w' := by
  go_enter Try.func68, Try.ntmps68
  go_wp2_with (go_at_call 71; refine (flag_any _ _).mono ?_; rintro e w' ⟨rfl, rfl⟩)
  go_ret
  exact ⟨rfl, below1 w _⟩
theorem m_product (a b : Int) (ha : 0 ≤ a ∧ a ≤ 4294967295) (hb : 0 ≤ b ∧ b ≤ 4294967295) (w : World) : Calls Try.prog 80 #[.agg #[.int .u32 a, .int .u32 b]] w fun e w' => e = .returned (.int .u32 (opV 11 a b)) ∧ Below w.heap.size w w' := by
  go_enter Try.func80, Try.ntmps80
  go_wp2_with (go_at_call 71; refine (flag_any _ _).mono ?_; rintro e w' ⟨rfl, rfl⟩)
  go_ret
  exact ⟨rfl, below1 w _⟩
theorem m_quotient (a b : Int) (ha : 0 ≤ a ∧ a ≤ 4294967295) (hb : 0 ≤ b ∧ b ≤ 4294967295) (w : World) : Calls Try.prog 81 #[.agg #[.int .u32 a, .int .u32 b]] w fun e w' => e = .returned (.int .u32 (opV 12 a b)) ∧ Below w.heap.size w w' := by
  by_cases h0 : b = 0
  · subst h0
    go_enter Try.func81, Try.ntmps81
    go_wp2
    go_ret
    exact ⟨ret_int (by simp [opV]), below1 w _⟩
  · have hb0 : (b == 0) = false := by simpa using h0
    have HV : Hid (opV 12 a b = a / b) := by simp [Hid, opV, h0]
    go_enter Try.func81, Try.ntmps81
    go_wp2
    go_ret
    exact ⟨ret_int (by rw [HV.out]), below1 w _⟩
theorem m_rest (a b : Int) (ha : 0 ≤ a ∧ a ≤ 4294967295) (hb : 0 ≤ b ∧ b ≤ 4294967295) (w : World) : Calls Try.prog 82 #[.agg #[.int .u32 a, .int .u32 b]] w fun e w' => e = .returned (.int .u32 (opV 13 a b)) ∧ Below w.heap.size w w' := by
  by_cases h0 : b = 0
  · subst h0
    go_enter Try.func82, Try.ntmps82
    go_wp2
    go_ret
    exact ⟨ret_int (by simp [opV]), below1 w _⟩
  · have hb0 : (b == 0) = false := by simpa using h0
    have HV : Hid (opV 13 a b = a % b) := by simp [Hid, opV, h0]
    go_enter Try.func82, Try.ntmps82
    go_wp2
    go_ret
    exact ⟨ret_int (by rw [HV.out]), below1 w _⟩
theorem pick_1 (w : World) : Calls Try.prog 70 #[.int .i64 1] w fun e w' => e = .returned (.func (Fn.func 78) #[] #[]) ∧ w = w' := by
  go_enter Try.func70, Try.ntmps70
  go_wp2
  go_ret
  exact ⟨rfl, rfl⟩
theorem do_1 (a b : Int) (ha : 0 ≤ a ∧ a ≤ 4294967295) (hb : 0 ≤ b ∧ b ≤ 4294967295) (w : World) : Calls Try.prog 66 #[.int .i64 1, .int .u32 a, .int .u32 b] w fun e w' => e = .returned (.tuple #[.int .u32 (opV 1 a b), .int .i64 0]) ∧ Below w.heap.size w w' := by
  go_enter Try.func66, Try.ntmps66
  go_wp2_with (go_at_call 70; refine (pick_1 _).mono ?_; rintro e w' ⟨rfl, rfl⟩)
  refine (m_sum a b ha hb w).mono ?_; rintro e w1 ⟨rfl, hb1⟩
  go_wp2_with fail
  go_ret2
  exact ⟨rfl, hb1⟩
theorem pick_2 (w : World) : Calls Try.prog 70 #[.int .i64 2] w fun e w' => e = .returned (.func (Fn.func 79) #[] #[]) ∧ w = w' := by
  go_enter Try.func70, Try.ntmps70
  go_wp2
  go_ret
  exact ⟨rfl, rfl⟩
theorem do_2 (a b : Int) (ha : 0 ≤ a ∧ a ≤ 4294967295) (hb : 0 ≤ b ∧ b ≤ 4294967295) (w : World) : Calls Try.prog 66 #[.int .i64 2, .int .u32 a, .int .u32 b] w fun e w' => e = .returned (.tuple #[.int .u32 (opV 2 a b), .int .i64 0]) ∧ Below w.heap.size w w' := by
  go_enter Try.func66, Try.ntmps66
  go_wp2_with (go_at_call 70; refine (pick_2 _).mono ?_; rintro e w' ⟨rfl, rfl⟩)
  refine (m_less a b ha hb w).mono ?_; rintro e w1 ⟨rfl, hb1⟩
  go_wp2_with fail
  go_ret2
  exact ⟨rfl, hb1⟩
theorem pick_3 (w : World) : Calls Try.prog 69 #[.int .i64 3] w fun e w' => e = .returned (.func (Fn.func 72) #[] #[]) ∧ w = w' := by
  go_enter Try.func69, Try.ntmps69
  go_wp2
  go_ret
  exact ⟨rfl, rfl⟩
theorem do_3 (a b : Int) (ha : 0 ≤ a ∧ a ≤ 4294967295) (hb : 0 ≤ b ∧ b ≤ 4294967295) (w : World) : Calls Try.prog 66 #[.int .i64 3, .int .u32 a, .int .u32 b] w fun e w' => e = .returned (.tuple #[.int .u32 (opV 3 a b), .int .i64 0]) ∧ Below w.heap.size w w' := by
  go_enter Try.func66, Try.ntmps66
  go_wp2_with (go_at_call 69; refine (pick_3 _).mono ?_; rintro e w' ⟨rfl, rfl⟩)
  refine (m_and a b ha hb w).mono ?_; rintro e w1 ⟨rfl, hb1⟩
  go_wp2_with fail
  go_ret2
  exact ⟨rfl, hb1⟩
theorem pick_4 (w : World) : Calls Try.prog 69 #[.int .i64 4] w fun e w' => e = .returned (.func (Fn.func 73) #[] #[]) ∧ w = w' := by
  go_enter Try.func69, Try.ntmps69
  go_wp2
  go_ret
  exact ⟨rfl, rfl⟩
theorem do_4 (a b : Int) (ha : 0 ≤ a ∧ a ≤ 4294967295) (hb : 0 ≤ b ∧ b ≤ 4294967295) (w : World) : Calls Try.prog 66 #[.int .i64 4, .int .u32 a, .int .u32 b] w fun e w' => e = .returned (.tuple #[.int .u32 (opV 4 a b), .int .i64 0]) ∧ Below w.heap.size w w' := by
  go_enter Try.func66, Try.ntmps66
  go_wp2_with (go_at_call 69; refine (pick_4 _).mono ?_; rintro e w' ⟨rfl, rfl⟩)
  refine (m_or a b ha hb w).mono ?_; rintro e w1 ⟨rfl, hb1⟩
  go_wp2_with fail
  go_ret2
  exact ⟨rfl, hb1⟩
theorem pick_5 (w : World) : Calls Try.prog 69 #[.int .i64 5] w fun e w' => e = .returned (.func (Fn.func 74) #[] #[]) ∧ w = w' := by
  go_enter Try.func69, Try.ntmps69
  go_wp2
  go_ret
  exact ⟨rfl, rfl⟩
theorem do_5 (a b : Int) (ha : 0 ≤ a ∧ a ≤ 4294967295) (hb : 0 ≤ b ∧ b ≤ 4294967295) (w : World) : Calls Try.prog 66 #[.int .i64 5, .int .u32 a, .int .u32 b] w fun e w' => e = .returned (.tuple #[.int .u32 (opV 5 a b), .int .i64 0]) ∧ Below w.heap.size w w' := by
  go_enter Try.func66, Try.ntmps66
  go_wp2_with (go_at_call 69; refine (pick_5 _).mono ?_; rintro e w' ⟨rfl, rfl⟩)
  refine (m_xor a b ha hb w).mono ?_; rintro e w1 ⟨rfl, hb1⟩
  go_wp2_with fail
  go_ret2
  exact ⟨rfl, hb1⟩
theorem pick_6 (w : World) : Calls Try.prog 69 #[.int .i64 6] w fun e w' => e = .returned (.func (Fn.func 75) #[] #[]) ∧ w = w' := by
  go_enter Try.func69, Try.ntmps69
  go_wp2
  go_ret
  exact ⟨rfl, rfl⟩
theorem do_6 (a b : Int) (ha : 0 ≤ a ∧ a ≤ 4294967295) (hb : 0 ≤ b ∧ b ≤ 4294967295) (w : World) : Calls Try.prog 66 #[.int .i64 6, .int .u32 a, .int .u32 b] w fun e w' => e = .returned (.tuple #[.int .u32 (opV 6 a b), .int .i64 0]) ∧ Below w.heap.size w w' := by
  go_enter Try.func66, Try.ntmps66
  go_wp2_with (go_at_call 69; refine (pick_6 _).mono ?_; rintro e w' ⟨rfl, rfl⟩)
  refine (m_up a b ha hb w).mono ?_; rintro e w1 ⟨rfl, hb1⟩
  go_wp2_with fail
  go_ret2
  exact ⟨rfl, hb1⟩
theorem pick_7 (w : World) : Calls Try.prog 69 #[.int .i64 7] w fun e w' => e = .returned (.func (Fn.func 76) #[] #[]) ∧ w = w' := by
  go_enter Try.func69, Try.ntmps69
  go_wp2
  go_ret
  exact ⟨rfl, rfl⟩
theorem do_7 (a b : Int) (ha : 0 ≤ a ∧ a ≤ 4294967295) (hb : 0 ≤ b ∧ b ≤ 4294967295) (w : World) : Calls Try.prog 66 #[.int .i64 7, .int .u32 a, .int .u32 b] w fun e w' => e = .returned (.tuple #[.int .u32 (opV 7 a b), .int .i64 0]) ∧ Below w.heap.size w w' := by
  go_enter Try.func66, Try.ntmps66
  go_wp2_with (go_at_call 69; refine (pick_7 _).mono ?_; rintro e w' ⟨rfl, rfl⟩)
  refine (m_down a b ha hb w).mono ?_; rintro e w1 ⟨rfl, hb1⟩
  go_wp2_with fail
  go_ret2
  exact ⟨rfl, hb1⟩
theorem pick_8 (w : World) : Calls Try.prog 69 #[.int .i64 8] w fun e w' => e = .returned (.func (Fn.func 77) #[] #[]) ∧ w = w' := by
  go_enter Try.func69, Try.ntmps69
  go_wp2
  go_ret
  exact ⟨rfl, rfl⟩
theorem do_8 (a b : Int) (ha : 0 ≤ a ∧ a ≤ 4294967295) (hb : 0 ≤ b ∧ b ≤ 4294967295) (w : World) : Calls Try.prog 66 #[.int .i64 8, .int .u32 a, .int .u32 b] w fun e w' => e = .returned (.tuple #[.int .u32 (opV 8 a b), .int .i64 0]) ∧ Below w.heap.size w w' := by
  go_enter Try.func66, Try.ntmps66
  go_wp2_with (go_at_call 69; refine (pick_8 _).mono ?_; rintro e w' ⟨rfl, rfl⟩)
  refine (m_sign a b ha hb w).mono ?_; rintro e w1 ⟨rfl, hb1⟩
  go_wp2_with fail
  go_ret2
  exact ⟨rfl, hb1⟩
theorem pick_9 (w : World) : Calls Try.prog 70 #[.int .i64 9] w fun e w' => e = .returned (.func (Fn.func 67) #[] #[]) ∧ w = w' := by
  go_enter Try.func70, Try.ntmps70
  go_wp2
  go_ret
  exact ⟨rfl, rfl⟩
theorem do_9 (a b : Int) (ha : 0 ≤ a ∧ a ≤ 4294967295) (hb : 0 ≤ b ∧ b ≤ 4294967295) (w : World) : Calls Try.prog 66 #[.int .i64 9, .int .u32 a, .int .u32 b] w fun e w' => e = .returned (.tuple #[.int .u32 (opV 9 a b), .int .i64 0]) ∧ Below w.heap.size w w' := by
  go_enter Try.func66, Try.ntmps66
  go_wp2_with (go_at_call 70; refine (pick_9 _).mono ?_; rintro e w' ⟨rfl, rfl⟩)
  refine (m_below a b ha hb w).mono ?_; rintro e w1 ⟨rfl, hb1⟩
  go_wp2_with fail
  go_ret2
  exact ⟨rfl, hb1⟩
theorem pick_10 (w : World) : Calls Try.prog 70 #[.int .i64 10] w fun e w' => e = .returned (.func (Fn.func 68) #[] #[]) ∧ w = w' := by
  go_enter Try.func70, Try.ntmps70
  go_wp2
  go_ret
  exact ⟨rfl, rfl⟩
theorem do_10 (a b : Int) (ha : 0 ≤ a ∧ a ≤ 4294967295) (hb : 0 ≤ b ∧ b ≤ 4294967295) (w : World) : Calls Try.prog 66 #[.int .i64 10, .int .u32 a, .int .u32 b] w fun e w' => e = .returned (.tuple #[.int .u32 (opV 10 a b), .int .i64 0]) ∧ Below w.heap.size w w' := by
  go_enter Try.func66, Try.ntmps66
  go_wp2_with (go_at_call 70; refine (pick_10 _).mono ?_; rintro e w' ⟨rfl, rfl⟩)
  refine (m_under a b ha hb w).mono ?_; rintro e w1 ⟨rfl, hb1⟩
  go_wp2_with fail
  go_ret2
  exact ⟨rfl, hb1⟩
theorem pick_11 (w : World) : Calls Try.prog 70 #[.int .i64 11] w fun e w' => e = .returned (.func (Fn.func 80) #[] #[]) ∧ w = w' := by
  go_enter Try.func70, Try.ntmps70
  go_wp2
  go_ret
  exact ⟨rfl, rfl⟩
theorem do_11 (a b : Int) (ha : 0 ≤ a ∧ a ≤ 4294967295) (hb : 0 ≤ b ∧ b ≤ 4294967295) (w : World) : Calls Try.prog 66 #[.int .i64 11, .int .u32 a, .int .u32 b] w fun e w' => e = .returned (.tuple #[.int .u32 (opV 11 a b), .int .i64 0]) ∧ Below w.heap.size w w' := by
  go_enter Try.func66, Try.ntmps66
  go_wp2_with (go_at_call 70; refine (pick_11 _).mono ?_; rintro e w' ⟨rfl, rfl⟩)
  refine (m_product a b ha hb w).mono ?_; rintro e w1 ⟨rfl, hb1⟩
  go_wp2_with fail
  go_ret2
  exact ⟨rfl, hb1⟩
theorem pick_12 (w : World) : Calls Try.prog 70 #[.int .i64 12] w fun e w' => e = .returned (.func (Fn.func 81) #[] #[]) ∧ w = w' := by
  go_enter Try.func70, Try.ntmps70
  go_wp2
  go_ret
  exact ⟨rfl, rfl⟩
theorem do_12 (a b : Int) (ha : 0 ≤ a ∧ a ≤ 4294967295) (hb : 0 ≤ b ∧ b ≤ 4294967295) (w : World) : Calls Try.prog 66 #[.int .i64 12, .int .u32 a, .int .u32 b] w fun e w' => e = .returned (.tuple #[.int .u32 (opV 12 a b), .int .i64 0]) ∧ Below w.heap.size w w' := by
  go_enter Try.func66, Try.ntmps66
  go_wp2_with (go_at_call 70; refine (pick_12 _).mono ?_; rintro e w' ⟨rfl, rfl⟩)
  refine (m_quotient a b ha hb w).mono ?_; rintro e w1 ⟨rfl, hb1⟩
  go_wp2_with fail
  go_ret2
  exact ⟨rfl, hb1⟩
theorem pick_13 (w : World) : Calls Try.prog 70 #[.int .i64 13] w fun e w' => e = .returned (.func (Fn.func 82) #[] #[]) ∧ w = w' := by
  go_enter Try.func70, Try.ntmps70
  go_wp2
  go_ret
  exact ⟨rfl, rfl⟩
theorem do_13 (a b : Int) (ha : 0 ≤ a ∧ a ≤ 4294967295) (hb : 0 ≤ b ∧ b ≤ 4294967295) (w : World) : Calls Try.prog 66 #[.int .i64 13, .int .u32 a, .int .u32 b] w fun e w' => e = .returned (.tuple #[.int .u32 (opV 13 a b), .int .i64 0]) ∧ Below w.heap.size w w' := by
  go_enter Try.func66, Try.ntmps66
  go_wp2_with (go_at_call 70; refine (pick_13 _).mono ?_; rintro e w' ⟨rfl, rfl⟩)
  refine (m_rest a b ha hb w).mono ?_; rintro e w1 ⟨rfl, hb1⟩
  go_wp2_with fail
  go_ret2
  exact ⟨rfl, hb1⟩
theorem do_out (op a b : Int) (h : op < 1 ∨ 13 < op) (w : World) : Calls Try.prog 66 #[.int .i64 op, .int .u32 a, .int .u32 b] w fun e w' => e = .returned (.tuple #[.int .u32 0, .int .i64 1]) ∧ w = w' := by
  rcases h with h | h
  · go_enter Try.func66, Try.ntmps66
    go_wp2
    go_ret2
    exact ⟨rfl, rfl⟩
  · go_enter Try.func66, Try.ntmps66
    go_wp2
    go_ret2
    exact ⟨rfl, rfl⟩
/-- What Do answers at any number. -/
def doV (op a b : Int) : Int := if 1 ≤ op ∧ op ≤ 13 then opV op.toNat a b else 0
def doE (op : Int) : Int := if 1 ≤ op ∧ op ≤ 13 then 0 else 1
def DoPost (op a b : Int) (w : World) (e : Ending) (w' : World) : Prop := e = .returned (.tuple #[.int .u32 (doV op a b), .int .i64 (doE op)]) ∧ Below w.heap.size w w'
theorem do_any (op a b : Int) (ha : 0 ≤ a ∧ a ≤ 4294967295) (hb : 0 ≤ b ∧ b ≤ 4294967295) (w : World) : Calls Try.prog 66 #[.int .i64 op, .int .u32 a, .int .u32 b] w (DoPost op a b w) := by
  by_cases h : 1 ≤ op ∧ op ≤ 13
  · obtain ⟨n, rfl⟩ := Int.eq_ofNat_of_zero_le (by omega : 0 ≤ op)
    have hn : n = 1 ∨ n = 2 ∨ n = 3 ∨ n = 4 ∨ n = 5 ∨ n = 6 ∨ n = 7 ∨ n = 8 ∨ n = 9 ∨ n = 10 ∨ n = 11 ∨ n = 12 ∨ n = 13 := by omega
    have he : doE (n : Int) = 0 := by rw [doE, if_pos h]
    have hv : doV (n : Int) a b = opV n a b := by rw [doV, if_pos h]; rfl
    unfold DoPost
    rw [he, hv]
    rcases hn with rfl | rfl | rfl | rfl | rfl | rfl | rfl | rfl | rfl | rfl | rfl | rfl | rfl
    · exact do_1 a b ha hb w
    · exact do_2 a b ha hb w
    · exact do_3 a b ha hb w
    · exact do_4 a b ha hb w
    · exact do_5 a b ha hb w
    · exact do_6 a b ha hb w
    · exact do_7 a b ha hb w
    · exact do_8 a b ha hb w
    · exact do_9 a b ha hb w
    · exact do_10 a b ha hb w
    · exact do_11 a b ha hb w
    · exact do_12 a b ha hb w
    · exact do_13 a b ha hb w
  · have he : doE op = 1 := by rw [doE, if_neg h]
    have hv : doV op a b = 0 := by rw [doV, if_neg h]
    unfold DoPost
    rw [he, hv]
    exact (do_out op a b (by omega) w).mono (by rintro e w' ⟨rfl, rfl⟩; exact ⟨rfl, Below.refl _ _⟩)
end Go.Proofs.Ytjphehncpgekfaa
