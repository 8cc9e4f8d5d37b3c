/- Contracts (Alu): Alu, Alu2, AluBack, AluShifts, AluLess, AluRef, AluPlays. -/
import Derived.Test.YtiohfdhmkikckaaGreatDoorOpen
import Derived.Test.YtiohfdhmkikckaaGreatDoorRows
namespace Go.Proofs.YtiohfdhmkikckaaGreatDoor
set_option linter.unusedVariables false
set_option linter.unusedSimpArgs false
set_option linter.unnecessarySimpa false
namespace Alu
set_option maxHeartbeats 4000000
set_option maxRecDepth 100000
section
open Go.RowKit
def W32 (a : Int) : Prop := 0 ≤ a ∧ a ≤ 4294967295
/-- What operation n answers. -/
def opV (n : Nat) (a b : Int) : Int :=
  match n with
  | 1 => (a + b) % 4294967296
  | 2 => (a - b) % 4294967296
  | 3 => bits .and .u32 a b
  | 4 => bits .or .u32 a b
  | 5 => bits .xor .u32 a b
  | 6 => a * 2 ^ (b % 32).toNat % 4294967296
  | 7 => a / 2 ^ (b % 32).toNat
  | 8 => wrap32 a / 2 ^ (b % 32).toNat % 4294967296
  | 9 => cond (decide (wrap32 a < wrap32 b)) 1 0
  | 10 => cond (decide (a < b)) 1 0
  | 11 => a * b % 4294967296
  | 12 => if b = 0 then 4294967295 else a / b
  | 13 => if b = 0 then a else a % b
  | _ => 0
theorem flag_any (x : Bool) (w : World) : Calls Tryz.prog 102 #[.bool x] w fun e w' => e = .returned (.int .u32 (cond x 1 0)) ∧ w = w' := by
  cases x
  · go_enter Tryz.func102, Tryz.ntmps102
    go_wp2
    go_ret
    exact ⟨rfl, rfl⟩
  · go_enter Tryz.func102, Tryz.ntmps102
    go_wp2
    go_ret
    exact ⟨rfl, rfl⟩
theorem below1 (w : World) (o : Obj) : Below w.heap.size w (w.alloc o) := (Below.refl _ _).alloc (Nat.le_refl _) _
theorem m_sum (a b : Int) (ha : 0 ≤ a ∧ a ≤ 4294967295) (hb : 0 ≤ b ∧ b ≤ 4294967295) (w : World) : Calls Tryz.prog 97 #[.agg #[.int .u32 a, .int .u32 b]] w fun e w' => e = .returned (.int .u32 (opV 1 a b)) ∧ Below w.heap.size w w' := by
  go_enter Tryz.func97, Tryz.ntmps97
  go_wp2_with (go_at_call 102; refine (flag_any _ _).mono ?_; rintro e w' ⟨rfl, rfl⟩)
  go_ret
  exact ⟨rfl, below1 w _⟩
theorem m_less (a b : Int) (ha : 0 ≤ a ∧ a ≤ 4294967295) (hb : 0 ≤ b ∧ b ≤ 4294967295) (w : World) : Calls Tryz.prog 98 #[.agg #[.int .u32 a, .int .u32 b]] w fun e w' => e = .returned (.int .u32 (opV 2 a b)) ∧ Below w.heap.size w w' := by
  go_enter Tryz.func98, Tryz.ntmps98
  go_wp2_with (go_at_call 102; refine (flag_any _ _).mono ?_; rintro e w' ⟨rfl, rfl⟩)
  go_ret
  exact ⟨rfl, below1 w _⟩
theorem m_and (a b : Int) (ha : 0 ≤ a ∧ a ≤ 4294967295) (hb : 0 ≤ b ∧ b ≤ 4294967295) (w : World) : Calls Tryz.prog 91 #[.agg #[.int .u32 a, .int .u32 b]] w fun e w' => e = .returned (.int .u32 (opV 3 a b)) ∧ Below w.heap.size w w' := by
  go_enter Tryz.func91, Tryz.ntmps91
  go_wp2_with (go_at_call 102; refine (flag_any _ _).mono ?_; rintro e w' ⟨rfl, rfl⟩)
  go_ret
  exact ⟨rfl, below1 w _⟩
theorem m_or (a b : Int) (ha : 0 ≤ a ∧ a ≤ 4294967295) (hb : 0 ≤ b ∧ b ≤ 4294967295) (w : World) : Calls Tryz.prog 92 #[.agg #[.int .u32 a, .int .u32 b]] w fun e w' => e = .returned (.int .u32 (opV 4 a b)) ∧ Below w.heap.size w w' := by
  go_enter Tryz.func92, Tryz.ntmps92
  go_wp2_with (go_at_call 102; refine (flag_any _ _).mono ?_; rintro e w' ⟨rfl, rfl⟩)
  go_ret
  exact ⟨rfl, below1 w _⟩
theorem m_xor (a b : Int) (ha : 0 ≤ a ∧ a ≤ 4294967295) (hb : 0 ≤ b ∧ b ≤ 4294967295) (w : World) : Calls Tryz.prog 93 #[.agg #[.int .u32 a, .int .u32 b]] w fun e w' => e = .returned (.int .u32 (opV 5 a b)) ∧ Below w.heap.size w w' := by
  go_enter Tryz.func93, Tryz.ntmps93
  go_wp2_with (go_at_call 102; refine (flag_any _ _).mono ?_; rintro e w' ⟨rfl, rfl⟩)
  go_ret
  exact ⟨rfl, below1 w _⟩
theorem m_up (a b : Int) (ha : 0 ≤ a ∧ a ≤ 4294967295) (hb : 0 ≤ b ∧ b ≤ 4294967295) (w : World) : Calls Tryz.prog 94 #[.agg #[.int .u32 a, .int .u32 b]] w fun e w' => e = .returned (.int .u32 (opV 6 a b)) ∧ Below w.heap.size w w' := by
  go_enter Tryz.func94, Tryz.ntmps94
  go_wp2_with (go_at_call 102; refine (flag_any _ _).mono ?_; rintro e w' ⟨rfl, rfl⟩)
  go_ret
  exact ⟨rfl, below1 w _⟩
theorem m_down (a b : Int) (ha : 0 ≤ a ∧ a ≤ 4294967295) (hb : 0 ≤ b ∧ b ≤ 4294967295) (w : World) : Calls Tryz.prog 95 #[.agg #[.int .u32 a, .int .u32 b]] w fun e w' => e = .returned (.int .u32 (opV 7 a b)) ∧ Below w.heap.size w w' := by
  go_enter Tryz.func95, Tryz.ntmps95
  go_wp2_with (go_at_call 102; refine (flag_any _ _).mono ?_; rintro e w' ⟨rfl, rfl⟩)
  go_ret
  exact ⟨rfl, below1 w _⟩
theorem m_sign (a b : Int) (ha : 0 ≤ a ∧ a ≤ 4294967295) (hb : 0 ≤ b ∧ b ≤ 4294967295) (w : World) : Calls Tryz.prog 96 #[.agg #[.int .u32 a, .int .u32 b]] w fun e w' => e = .returned (.int .u32 (opV 8 a b)) ∧ Below w.heap.size w w' := by
  go_enter Tryz.func96, Tryz.ntmps96
  go_wp2_with (go_at_call 102; refine (flag_any _ _).mono ?_; rintro e w' ⟨rfl, rfl⟩)
  go_ret
  exact ⟨rfl, below1 w _⟩
theorem m_below (a b : Int) (ha : 0 ≤ a ∧ a ≤ 4294967295) (hb : 0 ≤ b ∧ b ≤ 4294967295) (w : World) : Calls Tryz.prog 88 #[.agg #[.int .u32 a, .int .u32 b]] w fun e w' => e = .returned (.int .u32 (opV 9 a b)) ∧ Below w.heap.size w w' := by
  go_enter Tryz.func88, Tryz.ntmps88
  go_wp2_with (go_at_call 102; refine (flag_any _ _).mono ?_; rintro e w' ⟨rfl, rfl⟩)
  go_ret
  exact ⟨rfl, below1 w _⟩
theorem m_under (a b : Int) (ha : 0 ≤ a ∧ a ≤ 4294967295) (hb : 0 ≤ b ∧ b ≤ 4294967295) (w : World) : Calls Tryz.prog 89 #[.agg #[.int .u32 a, .int .u32 b]] w fun e w' => e = .returned (.int .u32 (opV 10 a b)) ∧ Below w.heap.size w w' := by
  go_enter Tryz.func89, Tryz.ntmps89
  go_wp2_with (go_at_call 102; refine (flag_any _ _).mono ?_; rintro e w' ⟨rfl, rfl⟩)
  go_ret
  exact ⟨rfl, below1 w _⟩
theorem m_product (a b : Int) (ha : 0 ≤ a ∧ a ≤ 4294967295) (hb : 0 ≤ b ∧ b ≤ 4294967295) (w : World) : Calls Tryz.prog 99 #[.agg #[.int .u32 a, .int .u32 b]] w fun e w' => e = .returned (.int .u32 (opV 11 a b)) ∧ Below w.heap.size w w' := by
  go_enter Tryz.func99, Tryz.ntmps99
  go_wp2_with (go_at_call 102; refine (flag_any _ _).mono ?_; rintro e w' ⟨rfl, rfl⟩)
  go_ret
  exact ⟨rfl, below1 w _⟩
theorem m_quotient (a b : Int) (ha : 0 ≤ a ∧ a ≤ 4294967295) (hb : 0 ≤ b ∧ b ≤ 4294967295) (w : World) : Calls Tryz.prog 100 #[.agg #[.int .u32 a, .int .u32 b]] w fun e w' => e = .returned (.int .u32 (opV 12 a b)) ∧ Below w.heap.size w w' := by
  by_cases h0 : b = 0
  · subst h0
    go_enter Tryz.func100, Tryz.ntmps100
    go_wp2
    go_ret
    exact ⟨ret_int (by simp [opV]), below1 w _⟩
  · have hb0 : (b == 0) = false := by simpa using h0
    have HV : Hid (opV 12 a b = a / b) := by simp [Hid, opV, h0]
    go_enter Tryz.func100, Tryz.ntmps100
    go_wp2
    go_ret
    exact ⟨ret_int (by rw [HV.out]), below1 w _⟩
theorem m_rest (a b : Int) (ha : 0 ≤ a ∧ a ≤ 4294967295) (hb : 0 ≤ b ∧ b ≤ 4294967295) (w : World) : Calls Tryz.prog 101 #[.agg #[.int .u32 a, .int .u32 b]] w fun e w' => e = .returned (.int .u32 (opV 13 a b)) ∧ Below w.heap.size w w' := by
  by_cases h0 : b = 0
  · subst h0
    go_enter Tryz.func101, Tryz.ntmps101
    go_wp2
    go_ret
    exact ⟨ret_int (by simp [opV]), below1 w _⟩
  · have hb0 : (b == 0) = false := by simpa using h0
    have HV : Hid (opV 13 a b = a % b) := by simp [Hid, opV, h0]
    go_enter Tryz.func101, Tryz.ntmps101
    go_wp2
    go_ret
    exact ⟨ret_int (by rw [HV.out]), below1 w _⟩
theorem pick_1 (w : World) : Calls Tryz.prog 87 #[.int .i64 1] w fun e w' => e = .returned (.func (Fn.func 97) #[] #[]) ∧ w = w' := by
  go_enter Tryz.func87, Tryz.ntmps87
  go_wp2
  go_ret
  exact ⟨rfl, rfl⟩
theorem do_1 (a b : Int) (ha : 0 ≤ a ∧ a ≤ 4294967295) (hb : 0 ≤ b ∧ b ≤ 4294967295) (w : World) : Calls Tryz.prog 67 #[.int .i64 1, .int .u32 a, .int .u32 b] w fun e w' => e = .returned (.tuple #[.int .u32 (opV 1 a b), .int .i64 0]) ∧ Below w.heap.size w w' := by
  go_enter Tryz.func67, Tryz.ntmps67
  go_wp2_with (go_at_call 87; refine (pick_1 _).mono ?_; rintro e w' ⟨rfl, rfl⟩)
  refine (m_sum a b ha hb w).mono ?_; rintro e w1 ⟨rfl, hb1⟩
  go_wp2_with fail
  go_ret2
  exact ⟨rfl, hb1⟩
theorem pick_2 (w : World) : Calls Tryz.prog 87 #[.int .i64 2] w fun e w' => e = .returned (.func (Fn.func 98) #[] #[]) ∧ w = w' := by
  go_enter Tryz.func87, Tryz.ntmps87
  go_wp2
  go_ret
  exact ⟨rfl, rfl⟩
theorem do_2 (a b : Int) (ha : 0 ≤ a ∧ a ≤ 4294967295) (hb : 0 ≤ b ∧ b ≤ 4294967295) (w : World) : Calls Tryz.prog 67 #[.int .i64 2, .int .u32 a, .int .u32 b] w fun e w' => e = .returned (.tuple #[.int .u32 (opV 2 a b), .int .i64 0]) ∧ Below w.heap.size w w' := by
  go_enter Tryz.func67, Tryz.ntmps67
  go_wp2_with (go_at_call 87; refine (pick_2 _).mono ?_; rintro e w' ⟨rfl, rfl⟩)
  refine (m_less a b ha hb w).mono ?_; rintro e w1 ⟨rfl, hb1⟩
  go_wp2_with fail
  go_ret2
  exact ⟨rfl, hb1⟩
theorem pick_3 (w : World) : Calls Tryz.prog 86 #[.int .i64 3] w fun e w' => e = .returned (.func (Fn.func 91) #[] #[]) ∧ w = w' := by
  go_enter Tryz.func86, Tryz.ntmps86
  go_wp2
  go_ret
  exact ⟨rfl, rfl⟩
theorem do_3 (a b : Int) (ha : 0 ≤ a ∧ a ≤ 4294967295) (hb : 0 ≤ b ∧ b ≤ 4294967295) (w : World) : Calls Tryz.prog 67 #[.int .i64 3, .int .u32 a, .int .u32 b] w fun e w' => e = .returned (.tuple #[.int .u32 (opV 3 a b), .int .i64 0]) ∧ Below w.heap.size w w' := by
  go_enter Tryz.func67, Tryz.ntmps67
  go_wp2_with (go_at_call 86; refine (pick_3 _).mono ?_; rintro e w' ⟨rfl, rfl⟩)
  refine (m_and a b ha hb w).mono ?_; rintro e w1 ⟨rfl, hb1⟩
  go_wp2_with fail
  go_ret2
  exact ⟨rfl, hb1⟩
theorem pick_4 (w : World) : Calls Tryz.prog 86 #[.int .i64 4] w fun e w' => e = .returned (.func (Fn.func 92) #[] #[]) ∧ w = w' := by
  go_enter Tryz.func86, Tryz.ntmps86
  go_wp2
  go_ret
  exact ⟨rfl, rfl⟩
theorem do_4 (a b : Int) (ha : 0 ≤ a ∧ a ≤ 4294967295) (hb : 0 ≤ b ∧ b ≤ 4294967295) (w : World) : Calls Tryz.prog 67 #[.int .i64 4, .int .u32 a, .int .u32 b] w fun e w' => e = .returned (.tuple #[.int .u32 (opV 4 a b), .int .i64 0]) ∧ Below w.heap.size w w' := by
  go_enter Tryz.func67, Tryz.ntmps67
  go_wp2_with (go_at_call 86; refine (pick_4 _).mono ?_; rintro e w' ⟨rfl, rfl⟩)
  refine (m_or a b ha hb w).mono ?_; rintro e w1 ⟨rfl, hb1⟩
  go_wp2_with fail
  go_ret2
  exact ⟨rfl, hb1⟩
theorem pick_5 (w : World) : Calls Tryz.prog 86 #[.int .i64 5] w fun e w' => e = .returned (.func (Fn.func 93) #[] #[]) ∧ w = w' := by
  go_enter Tryz.func86, Tryz.ntmps86
  go_wp2
  go_ret
  exact ⟨rfl, rfl⟩
theorem do_5 (a b : Int) (ha : 0 ≤ a ∧ a ≤ 4294967295) (hb : 0 ≤ b ∧ b ≤ 4294967295) (w : World) : Calls Tryz.prog 67 #[.int .i64 5, .int .u32 a, .int .u32 b] w fun e w' => e = .returned (.tuple #[.int .u32 (opV 5 a b), .int .i64 0]) ∧ Below w.heap.size w w' := by
  go_enter Tryz.func67, Tryz.ntmps67
  go_wp2_with (go_at_call 86; refine (pick_5 _).mono ?_; rintro e w' ⟨rfl, rfl⟩)
  refine (m_xor a b ha hb w).mono ?_; rintro e w1 ⟨rfl, hb1⟩
  go_wp2_with fail
  go_ret2
  exact ⟨rfl, hb1⟩
theorem pick_6 (w : World) : Calls Tryz.prog 86 #[.int .i64 6] w fun e w' => e = .returned (.func (Fn.func 94) #[] #[]) ∧ w = w' := by
  go_enter Tryz.func86, Tryz.ntmps86
  go_wp2
  go_ret
  exact ⟨rfl, rfl⟩
theorem do_6 (a b : Int) (ha : 0 ≤ a ∧ a ≤ 4294967295) (hb : 0 ≤ b ∧ b ≤ 4294967295) (w : World) : Calls Tryz.prog 67 #[.int .i64 6, .int .u32 a, .int .u32 b] w fun e w' => e = .returned (.tuple #[.int .u32 (opV 6 a b), .int .i64 0]) ∧ Below w.heap.size w w' := by
  go_enter Tryz.func67, Tryz.ntmps67
  go_wp2_with (go_at_call 86; refine (pick_6 _).mono ?_; rintro e w' ⟨rfl, rfl⟩)
  refine (m_up a b ha hb w).mono ?_; rintro e w1 ⟨rfl, hb1⟩
  go_wp2_with fail
  go_ret2
  exact ⟨rfl, hb1⟩
theorem pick_7 (w : World) : Calls Tryz.prog 86 #[.int .i64 7] w fun e w' => e = .returned (.func (Fn.func 95) #[] #[]) ∧ w = w' := by
  go_enter Tryz.func86, Tryz.ntmps86
  go_wp2
  go_ret
  exact ⟨rfl, rfl⟩
theorem do_7 (a b : Int) (ha : 0 ≤ a ∧ a ≤ 4294967295) (hb : 0 ≤ b ∧ b ≤ 4294967295) (w : World) : Calls Tryz.prog 67 #[.int .i64 7, .int .u32 a, .int .u32 b] w fun e w' => e = .returned (.tuple #[.int .u32 (opV 7 a b), .int .i64 0]) ∧ Below w.heap.size w w' := by
  go_enter Tryz.func67, Tryz.ntmps67
  go_wp2_with (go_at_call 86; refine (pick_7 _).mono ?_; rintro e w' ⟨rfl, rfl⟩)
  refine (m_down a b ha hb w).mono ?_; rintro e w1 ⟨rfl, hb1⟩
  go_wp2_with fail
  go_ret2
  exact ⟨rfl, hb1⟩
theorem pick_8 (w : World) : Calls Tryz.prog 86 #[.int .i64 8] w fun e w' => e = .returned (.func (Fn.func 96) #[] #[]) ∧ w = w' := by
  go_enter Tryz.func86, Tryz.ntmps86
  go_wp2
  go_ret
  exact ⟨rfl, rfl⟩
theorem do_8 (a b : Int) (ha : 0 ≤ a ∧ a ≤ 4294967295) (hb : 0 ≤ b ∧ b ≤ 4294967295) (w : World) : Calls Tryz.prog 67 #[.int .i64 8, .int .u32 a, .int .u32 b] w fun e w' => e = .returned (.tuple #[.int .u32 (opV 8 a b), .int .i64 0]) ∧ Below w.heap.size w w' := by
  go_enter Tryz.func67, Tryz.ntmps67
  go_wp2_with (go_at_call 86; refine (pick_8 _).mono ?_; rintro e w' ⟨rfl, rfl⟩)
  refine (m_sign a b ha hb w).mono ?_; rintro e w1 ⟨rfl, hb1⟩
  go_wp2_with fail
  go_ret2
  exact ⟨rfl, hb1⟩
theorem pick_9 (w : World) : Calls Tryz.prog 87 #[.int .i64 9] w fun e w' => e = .returned (.func (Fn.func 88) #[] #[]) ∧ w = w' := by
  go_enter Tryz.func87, Tryz.ntmps87
  go_wp2
  go_ret
  exact ⟨rfl, rfl⟩
theorem do_9 (a b : Int) (ha : 0 ≤ a ∧ a ≤ 4294967295) (hb : 0 ≤ b ∧ b ≤ 4294967295) (w : World) : Calls Tryz.prog 67 #[.int .i64 9, .int .u32 a, .int .u32 b] w fun e w' => e = .returned (.tuple #[.int .u32 (opV 9 a b), .int .i64 0]) ∧ Below w.heap.size w w' := by
  go_enter Tryz.func67, Tryz.ntmps67
  go_wp2_with (go_at_call 87; refine (pick_9 _).mono ?_; rintro e w' ⟨rfl, rfl⟩)
  refine (m_below a b ha hb w).mono ?_; rintro e w1 ⟨rfl, hb1⟩
  go_wp2_with fail
  go_ret2
  exact ⟨rfl, hb1⟩
theorem pick_10 (w : World) : Calls Tryz.prog 87 #[.int .i64 10] w fun e w' => e = .returned (.func (Fn.func 89) #[] #[]) ∧ w = w' := by
  go_enter Tryz.func87, Tryz.ntmps87
  go_wp2
  go_ret
  exact ⟨rfl, rfl⟩
theorem do_10 (a b : Int) (ha : 0 ≤ a ∧ a ≤ 4294967295) (hb : 0 ≤ b ∧ b ≤ 4294967295) (w : World) : Calls Tryz.prog 67 #[.int .i64 10, .int .u32 a, .int .u32 b] w fun e w' => e = .returned (.tuple #[.int .u32 (opV 10 a b), .int .i64 0]) ∧ Below w.heap.size w w' := by
  go_enter Tryz.func67, Tryz.ntmps67
  go_wp2_with (go_at_call 87; refine (pick_10 _).mono ?_; rintro e w' ⟨rfl, rfl⟩)
  refine (m_under a b ha hb w).mono ?_; rintro e w1 ⟨rfl, hb1⟩
  go_wp2_with fail
  go_ret2
  exact ⟨rfl, hb1⟩
theorem pick_11 (w : World) : Calls Tryz.prog 87 #[.int .i64 11] w fun e w' => e = .returned (.func (Fn.func 99) #[] #[]) ∧ w = w' := by
  go_enter Tryz.func87, Tryz.ntmps87
  go_wp2
  go_ret
  exact ⟨rfl, rfl⟩
theorem do_11 (a b : Int) (ha : 0 ≤ a ∧ a ≤ 4294967295) (hb : 0 ≤ b ∧ b ≤ 4294967295) (w : World) : Calls Tryz.prog 67 #[.int .i64 11, .int .u32 a, .int .u32 b] w fun e w' => e = .returned (.tuple #[.int .u32 (opV 11 a b), .int .i64 0]) ∧ Below w.heap.size w w' := by
  go_enter Tryz.func67, Tryz.ntmps67
  go_wp2_with (go_at_call 87; refine (pick_11 _).mono ?_; rintro e w' ⟨rfl, rfl⟩)
  refine (m_product a b ha hb w).mono ?_; rintro e w1 ⟨rfl, hb1⟩
  go_wp2_with fail
  go_ret2
  exact ⟨rfl, hb1⟩
theorem pick_12 (w : World) : Calls Tryz.prog 87 #[.int .i64 12] w fun e w' => e = .returned (.func (Fn.func 100) #[] #[]) ∧ w = w' := by
  go_enter Tryz.func87, Tryz.ntmps87
  go_wp2
  go_ret
  exact ⟨rfl, rfl⟩
theorem do_12 (a b : Int) (ha : 0 ≤ a ∧ a ≤ 4294967295) (hb : 0 ≤ b ∧ b ≤ 4294967295) (w : World) : Calls Tryz.prog 67 #[.int .i64 12, .int .u32 a, .int .u32 b] w fun e w' => e = .returned (.tuple #[.int .u32 (opV 12 a b), .int .i64 0]) ∧ Below w.heap.size w w' := by
  go_enter Tryz.func67, Tryz.ntmps67
  go_wp2_with (go_at_call 87; refine (pick_12 _).mono ?_; rintro e w' ⟨rfl, rfl⟩)
  refine (m_quotient a b ha hb w).mono ?_; rintro e w1 ⟨rfl, hb1⟩
  go_wp2_with fail
  go_ret2
  exact ⟨rfl, hb1⟩
theorem pick_13 (w : World) : Calls Tryz.prog 87 #[.int .i64 13] w fun e w' => e = .returned (.func (Fn.func 101) #[] #[]) ∧ w = w' := by
  go_enter Tryz.func87, Tryz.ntmps87
  go_wp2
  go_ret
  exact ⟨rfl, rfl⟩
theorem do_13 (a b : Int) (ha : 0 ≤ a ∧ a ≤ 4294967295) (hb : 0 ≤ b ∧ b ≤ 4294967295) (w : World) : Calls Tryz.prog 67 #[.int .i64 13, .int .u32 a, .int .u32 b] w fun e w' => e = .returned (.tuple #[.int .u32 (opV 13 a b), .int .i64 0]) ∧ Below w.heap.size w w' := by
  go_enter Tryz.func67, Tryz.ntmps67
  go_wp2_with (go_at_call 87; refine (pick_13 _).mono ?_; rintro e w' ⟨rfl, rfl⟩)
  refine (m_rest a b ha hb w).mono ?_; rintro e w1 ⟨rfl, hb1⟩
  go_wp2_with fail
  go_ret2
  exact ⟨rfl, hb1⟩
theorem do_out (op a b : Int) (h : op < 1 ∨ 13 < op) (w : World) : Calls Tryz.prog 67 #[.int .i64 op, .int .u32 a, .int .u32 b] w fun e w' => e = .returned (.tuple #[.int .u32 0, .int .i64 1]) ∧ w = w' := by
  rcases h with h | h
  · go_enter Tryz.func67, Tryz.ntmps67
    go_wp2
    go_ret2
    exact ⟨rfl, rfl⟩
  · go_enter Tryz.func67, Tryz.ntmps67
    go_wp2
    go_ret2
    exact ⟨rfl, rfl⟩
/-- What Do answers at any number. -/
def doV (op a b : Int) : Int := if 1 ≤ op ∧ op ≤ 13 then opV op.toNat a b else 0
def doE (op : Int) : Int := if 1 ≤ op ∧ op ≤ 13 then 0 else 1
def DoPost (op a b : Int) (w : World) (e : Ending) (w' : World) : Prop := e = .returned (.tuple #[.int .u32 (doV op a b), .int .i64 (doE op)]) ∧ Below w.heap.size w w'
theorem do_any (op a b : Int) (ha : 0 ≤ a ∧ a ≤ 4294967295) (hb : 0 ≤ b ∧ b ≤ 4294967295) (w : World) : Calls Tryz.prog 67 #[.int .i64 op, .int .u32 a, .int .u32 b] w (DoPost op a b w) := by
  by_cases h : 1 ≤ op ∧ op ≤ 13
  · obtain ⟨n, rfl⟩ := Int.eq_ofNat_of_zero_le (by omega : 0 ≤ op)
    have hn : n = 1 ∨ n = 2 ∨ n = 3 ∨ n = 4 ∨ n = 5 ∨ n = 6 ∨ n = 7 ∨ n = 8 ∨ n = 9 ∨ n = 10 ∨ n = 11 ∨ n = 12 ∨ n = 13 := by omega
    have he : doE (n : Int) = 0 := by rw [doE, if_pos h]
    have hv : doV (n : Int) a b = opV n a b := by rw [doV, if_pos h]; rfl
    unfold DoPost
    rw [he, hv]
    rcases hn with rfl | rfl | rfl | rfl | rfl | rfl | rfl | rfl | rfl | rfl | rfl | rfl | rfl
    · exact do_1 a b ha hb w
    · exact do_2 a b ha hb w
    · exact do_3 a b ha hb w
    · exact do_4 a b ha hb w
    · exact do_5 a b ha hb w
    · exact do_6 a b ha hb w
    · exact do_7 a b ha hb w
    · exact do_8 a b ha hb w
    · exact do_9 a b ha hb w
    · exact do_10 a b ha hb w
    · exact do_11 a b ha hb w
    · exact do_12 a b ha hb w
    · exact do_13 a b ha hb w
  · have he : doE op = 1 := by rw [doE, if_neg h]
    have hv : doV op a b = 0 := by rw [doV, if_neg h]
    unfold DoPost
    rw [he, hv]
    exact (do_out op a b (by omega) w).mono (by rintro e w' ⟨rfl, rfl⟩; exact ⟨rfl, Below.refl _ _⟩)
end
section
open Go.RowKit
theorem ofInt32 (a : Nat) (ha : a < 4294967296) : (BitVec.ofInt 32 (a : Int)).toNat = a := by
  simp only [BitVec.toNat_ofInt]
  omega
theorem wrap32u_nat (a : Nat) (ha : a < 4294967296) : IntKind.u32.wrap (a : Int) = a := by
  show (a : Int) % 4294967296 = a
  omega
theorem u32_and (a b : Nat) (ha : a < 4294967296) (hb : b < 4294967296) : bits .and .u32 (a : Int) (b : Int) = ((a &&& b : Nat) : Int) := by
  have h : (BitVec.ofInt 32 (a : Int) &&& BitVec.ofInt 32 (b : Int)).toNat = a &&& b := by rw [BitVec.toNat_and, ofInt32 a ha, ofInt32 b hb]
  have hl : a &&& b < 4294967296 := Nat.lt_of_le_of_lt Nat.and_le_left ha
  simp only [bits]
  show IntKind.u32.wrap ((BitVec.ofInt 32 (a : Int) &&& BitVec.ofInt 32 (b : Int)).toNat : Int) = _
  rw [h, wrap32u_nat _ hl]
theorem u32_or (a b : Nat) (ha : a < 4294967296) (hb : b < 4294967296) : bits .or .u32 (a : Int) (b : Int) = ((a ||| b : Nat) : Int) := by
  have h : (BitVec.ofInt 32 (a : Int) ||| BitVec.ofInt 32 (b : Int)).toNat = a ||| b := by rw [BitVec.toNat_or, ofInt32 a ha, ofInt32 b hb]
  have hl : a ||| b < 2 ^ 32 := Nat.or_lt_two_pow (by omega) (by omega)
  simp only [bits]
  show IntKind.u32.wrap ((BitVec.ofInt 32 (a : Int) ||| BitVec.ofInt 32 (b : Int)).toNat : Int) = _
  rw [h, wrap32u_nat _ (by omega)]
theorem u32_xor (a b : Nat) (ha : a < 4294967296) (hb : b < 4294967296) : bits .xor .u32 (a : Int) (b : Int) = ((a ^^^ b : Nat) : Int) := by
  have h : (BitVec.ofInt 32 (a : Int) ^^^ BitVec.ofInt 32 (b : Int)).toNat = a ^^^ b := by rw [BitVec.toNat_xor, ofInt32 a ha, ofInt32 b hb]
  have hl : a ^^^ b < 2 ^ 32 := Nat.xor_lt_two_pow (by omega) (by omega)
  simp only [bits]
  show IntKind.u32.wrap ((BitVec.ofInt 32 (a : Int) ^^^ BitVec.ofInt 32 (b : Int)).toNat : Int) = _
  rw [h, wrap32u_nat _ (by omega)]
theorem flag_w32 (x : Bool) : W32 (cond x 1 0) := by cases x <;> simp [W32]
theorem mod_w32 (x : Int) : W32 (x % 4294967296) := by unfold W32; omega
theorem div_w32 (x k : Nat) (hx : x < 4294967296) : W32 ((x : Int) / (k : Nat)) := by
  have e : ((x : Int) / (k : Nat)) = ((x / k : Nat) : Int) := by simp
  have := Nat.div_le_self x k
  rw [e]
  generalize x / k = q at this ⊢
  unfold W32; omega
theorem rem_w32 (x k : Nat) (hx : x < 4294967296) : W32 ((x : Int) % (k : Nat)) := by
  have e : ((x : Int) % (k : Nat)) = ((x % k : Nat) : Int) := by simp
  have := Nat.mod_le x k
  rw [e]
  generalize x % k = q at this ⊢
  unfold W32; omega
theorem doV_w32 (op a b : Int) (ha : W32 a) (hb : W32 b) : W32 (doV op a b) := by
  unfold doV
  by_cases h : 1 ≤ op ∧ op ≤ 13
  · rw [if_pos h]
    obtain ⟨n, rfl⟩ := Int.eq_ofNat_of_zero_le (by omega : 0 ≤ op)
    obtain ⟨x, rfl⟩ := Int.eq_ofNat_of_zero_le ha.1
    obtain ⟨y, rfl⟩ := Int.eq_ofNat_of_zero_le hb.1
    have hx : x < 4294967296 := by have := ha.2; omega
    have hy : y < 4294967296 := by have := hb.2; omega
    have hn : n = 1 ∨ n = 2 ∨ n = 3 ∨ n = 4 ∨ n = 5 ∨ n = 6 ∨ n = 7 ∨ n = 8 ∨ n = 9 ∨ n = 10 ∨ n = 11 ∨ n = 12 ∨ n = 13 := by omega
    rcases hn with rfl | rfl | rfl | rfl | rfl | rfl | rfl | rfl | rfl | rfl | rfl | rfl | rfl
    all_goals simp only [Int.toNat_natCast, opV]
    · exact mod_w32 _
    · exact mod_w32 _
    · rw [u32_and x y hx hy]
      have := Nat.lt_of_le_of_lt (@Nat.and_le_left x y) hx
      unfold W32; omega
    · rw [u32_or x y hx hy]
      have : x ||| y < 2 ^ 32 := Nat.or_lt_two_pow (by omega) (by omega)
      unfold W32; omega
    · rw [u32_xor x y hx hy]
      have : x ^^^ y < 2 ^ 32 := Nat.xor_lt_two_pow (by omega) (by omega)
      unfold W32; omega
    · exact mod_w32 _
    · generalize ((y : Int) % 32).toNat = k
      have e := div_w32 x (2 ^ k) hx
      simpa using e
    · exact mod_w32 _
    · exact flag_w32 _
    · exact flag_w32 _
    · exact mod_w32 _
    · by_cases hy0 : (y : Int) = 0
      · rw [if_pos hy0]; simp [W32]
      · rw [if_neg hy0]; exact div_w32 x y hx
    · by_cases hy0 : (y : Int) = 0
      · rw [if_pos hy0]; exact ha
      · rw [if_neg hy0]; exact rem_w32 x y hx
  · rw [if_neg h]; simp [W32]
def LdoPost (op a b : Int) (w0 : World) (e : Ending) (w' : World) : Prop := e = .returned (.int .u32 (doV op a b)) ∧ Below w0.heap.size w0 w'
def DoPost0 (op a b : Int) (w0 : World) (e : Ending) (w' : World) : Prop := e = .returned (.tuple #[.int .u32 (doV op a b), .int .i64 (doE op)]) ∧ Below w0.heap.size w0 w'
theorem do_any0 (w0 : World) (op a b : Int) (ha : W32 a) (hb : W32 b) (w : World) (hB : Below w0.heap.size w0 w) : Calls Tryz.prog 67 #[.int .i64 op, .int .u32 a, .int .u32 b] w (DoPost0 op a b w0) :=
  (do_any op a b ha hb w).mono (by rintro e w' ⟨rfl, h⟩; exact ⟨rfl, hB.trans (h.mono hB.size)⟩)
end
section
open Go.RowKit
theorem dv1 (a b : Int) : doV 1 a b = (a + b) % 4294967296 := by simp [doV, opV]
theorem dv2 (a b : Int) : doV 2 a b = (a - b) % 4294967296 := by simp [doV, opV]
theorem dv3 (a b : Int) : doV 3 a b = bits .and .u32 a b := by simp [doV, opV]
theorem dv4 (a b : Int) : doV 4 a b = bits .or .u32 a b := by simp [doV, opV]
theorem dv5 (a b : Int) : doV 5 a b = bits .xor .u32 a b := by simp [doV, opV]
theorem dv6 (a b : Int) : doV 6 a b = a * 2 ^ (b % 32).toNat % 4294967296 := by simp [doV, opV]
theorem dv7 (a b : Int) : doV 7 a b = a / 2 ^ (b % 32).toNat := by simp [doV, opV]
theorem dv8 (a b : Int) : doV 8 a b = wrap32 a / 2 ^ (b % 32).toNat % 4294967296 := by simp [doV, opV]
theorem dv9 (a b : Int) : doV 9 a b = cond (decide (wrap32 a < wrap32 b)) 1 0 := by simp [doV, opV]
theorem dv10 (a b : Int) : doV 10 a b = cond (decide (a < b)) 1 0 := by simp [doV, opV]
theorem dv11 (a b : Int) : doV 11 a b = a * b % 4294967296 := by simp [doV, opV]
theorem dv12 (a b : Int) : doV 12 a b = if b = 0 then 4294967295 else a / b := by simp [doV, opV]
theorem dv13 (a b : Int) : doV 13 a b = if b = 0 then a else a % b := by simp [doV, opV]
theorem nat_w32 {a : Int} (h : W32 a) : ∃ n : Nat, a = n ∧ n < 4294967296 := by
  obtain ⟨n, rfl⟩ := Int.eq_ofNat_of_zero_le h.1
  exact ⟨n, rfl, by have := h.2; omega⟩
theorem back1 {a b : Int} (ha : W32 a) (hb : W32 b) : doV 2 (doV 1 a b) b = a := by
  rw [dv1, dv2]; unfold W32 at *; omega
theorem back2 {a b : Int} (ha : W32 a) (hb : W32 b) : doV 5 (doV 5 a b) b = a := by
  obtain ⟨x, rfl, hx⟩ := nat_w32 ha
  obtain ⟨y, rfl, hy⟩ := nat_w32 hb
  have h : x ^^^ y < 2 ^ 32 := Nat.xor_lt_two_pow (by omega) (by omega)
  rw [dv5, dv5, u32_xor x y hx hy, u32_xor _ y (by omega) hy, Nat.xor_assoc, Nat.xor_self, Nat.xor_zero]
theorem back3 {a b : Int} (ha : W32 a) (hb : W32 b) (h0 : b ≠ 0) : doV 1 (doV 11 (doV 12 a b) b) (doV 13 a b) = a := by
  obtain ⟨x, rfl, hx⟩ := nat_w32 ha
  obtain ⟨y, rfl, hy⟩ := nat_w32 hb
  rw [dv13, dv12, dv11, dv1, if_neg h0, if_neg h0]
  have e : (x : Int) / y * y + x % y = x := Int.ediv_mul_add_emod _ _
  have p : (0 : Int) ≤ x / y * y := Int.mul_nonneg (Int.ediv_nonneg (by omega) (by omega)) (by omega)
  have q : (0 : Int) ≤ x % y := Int.emod_nonneg _ h0
  generalize (x : Int) / y * y = s at *
  generalize (x : Int) % y = r at *
  omega
theorem back4 {a b : Int} (ha : W32 a) (hb : W32 b) (h0 : b ≠ 0) : doV 10 (doV 13 a b) b = 1 := by
  rw [dv13, dv10, if_neg h0]
  have : a % b < b := Int.emod_lt_of_pos _ (by unfold W32 at hb; omega)
  simp [this]
theorem back5 {a b : Int} (ha : W32 a) (hb : W32 b) : doV 4 (doV 3 a b) (doV 5 a b) = doV 4 a b := by
  obtain ⟨x, rfl, hx⟩ := nat_w32 ha
  obtain ⟨y, rfl, hy⟩ := nat_w32 hb
  have h : x ^^^ y < 2 ^ 32 := Nat.xor_lt_two_pow (by omega) (by omega)
  have h2 := Nat.lt_of_le_of_lt (@Nat.and_le_left x y) hx
  rw [dv5, dv3, dv4, dv4, u32_xor x y hx hy, u32_and x y hx hy, u32_or _ _ h2 (by omega), u32_or x y hx hy]
  congr 1
  apply Nat.eq_of_testBit_eq
  intro i
  simp only [Nat.testBit_or, Nat.testBit_and, Nat.testBit_xor]
  cases x.testBit i <;> cases y.testBit i <;> rfl
end
section
open Go.RowKit
theorem exp1 (K : Int) (h : 0 ≤ K ∧ K ≤ 30) : ((K + 1) % 32).toNat = K.toNat + 1 := by omega
theorem exp0 (K : Int) (h : 0 ≤ K ∧ K ≤ 30) : (K % 32).toNat = K.toNat := by omega
theorem exp32 (K : Int) : (K + 32) % 32 = K % 32 := by omega
theorem sh1 (a K : Int) (h : 0 ≤ K ∧ K ≤ 30) : doV 6 a (K + 1) = doV 1 (doV 6 a K) (doV 6 a K) := by
  rw [dv6, dv6, dv1, exp1 K h, exp0 K h, Int.pow_succ, ← Int.mul_assoc]
  generalize a * 2 ^ K.toNat = s
  omega
theorem sh2 (a K : Int) (ha : W32 a) (h : 0 ≤ K ∧ K ≤ 30) : doV 7 a (K + 1) = doV 12 (doV 7 a K) 2 := by
  obtain ⟨x, rfl, hx⟩ := nat_w32 ha
  rw [dv7, dv7, dv12, exp1 K h, exp0 K h, if_neg (by omega)]
  generalize K.toNat = k
  have e1 : ((x : Int) / 2 ^ (k + 1)) = ((x / 2 ^ (k + 1) : Nat) : Int) := by simp
  have e2 : ((x : Int) / 2 ^ k / 2) = ((x / 2 ^ k / 2 : Nat) : Int) := by simp
  rw [e1, e2, Nat.div_div_eq_div_mul, Nat.pow_succ]
theorem sh3 (a K : Int) (m : Nat) (hm : m < 3) : doV (6 + m) a K = doV (6 + m) a (K + 32) := by
  have : m = 0 ∨ m = 1 ∨ m = 2 := by omega
  rcases this with rfl | rfl | rfl
  · show doV 6 a K = doV 6 a (K + 32); rw [dv6, dv6, exp32]
  · show doV 7 a K = doV 7 a (K + 32); rw [dv7, dv7, exp32]
  · show doV 8 a K = doV 8 a (K + 32); rw [dv8, dv8, exp32]
theorem sh4 (a : Int) (ha : W32 a) (m : Nat) (hm : m < 3) : doV (6 + m) a 0 = a := by
  have : m = 0 ∨ m = 1 ∨ m = 2 := by omega
  have z : ((0 : Int) % 32).toNat = 0 := rfl
  unfold W32 at ha
  rcases this with rfl | rfl | rfl
  · show doV 6 a 0 = a; rw [dv6, z, Int.pow_zero]; omega
  · show doV 7 a 0 = a; rw [dv7, z, Int.pow_zero]; omega
  · show doV 8 a 0 = a; rw [dv8, z, Int.pow_zero]; unfold wrap32; omega
theorem sh5 (a K : Int) (ha : W32 a) : doV 8 (doV 3 a 2147483647) K = doV 7 (doV 3 a 2147483647) K := by
  obtain ⟨x, rfl, hx⟩ := nat_w32 ha
  rw [dv3, show (2147483647 : Int) = ((2147483647 : Nat) : Int) from rfl, u32_and x 2147483647 hx (by decide), dv8, dv7]
  have h := Nat.lt_of_le_of_lt (@Nat.and_le_right x 2147483647) (by decide : 2147483647 < 2147483648)
  generalize x &&& 2147483647 = y at *
  generalize (K % 32).toNat = k
  have hw : wrap32 (y : Int) = y := by unfold wrap32; omega
  rw [hw]
  have e : ((y : Int) / 2 ^ k) = ((y / 2 ^ k : Nat) : Int) := by simp
  have := Nat.div_le_self y (2 ^ k)
  rw [e]
  generalize y / 2 ^ k = q at *
  omega
end
section
open Go.RowKit
/-- Does a branch go? -/
def takV (op a b : Int) : Bool := if op = 28 then a == b else if op = 29 then a != b else if op = 30 then doV 9 a b == 1 else if op = 31 then doV 10 a b == 1 else false
def takE (op : Int) : Int := if op = 28 ∨ op = 29 ∨ op = 30 ∨ op = 31 then 0 else 1
def TakPost (op a b : Int) (w0 : World) (e : Ending) (w' : World) : Prop := e = .returned (.tuple #[.bool (takV op a b), .int .i64 (takE op)]) ∧ Below w0.heap.size w0 w'
theorem ov9 (a b : Int) : opV 9 a b = doV 9 a b := by simp [doV]
theorem ov10 (a b : Int) : opV 10 a b = doV 10 a b := by simp [doV]
theorem tak_any (w0 : World) (op a b : Int) (ha : W32 a) (hb : W32 b) (w : World) (hB : Below w0.heap.size w0 w) : Calls Tryz.prog 74 #[.int .i64 op, .int .u32 a, .int .u32 b] w (TakPost op a b w0) := by
  have HB := Lib.hid hB; clear hB
  have ha' : 0 ≤ a ∧ a ≤ 4294967295 := ha
  have hb' : 0 ≤ b ∧ b ≤ 4294967295 := hb
  have c0 : Hid (Below w0.heap.size w0 (w.alloc (.cells #[.int .u32 a, .int .u32 b] 120))) := HB.out.alloc HB.out.size _
  by_cases h28 : op = 28
  · subst h28
    go_enter Tryz.func74, Tryz.ntmps74
    go_wp2
    go_ret2
    exact ⟨rfl, c0.out⟩
  · by_cases h29 : op = 29
    · subst h29
      go_enter Tryz.func74, Tryz.ntmps74
      go_wp2
      go_ret2
      exact ⟨rfl, c0.out⟩
    · by_cases h30 : op = 30
      · subst h30
        go_enter Tryz.func74, Tryz.ntmps74
        go_wp2_with fail
        refine (m_below a b ha hb _).mono ?_; rintro e w1 ⟨rfl, hb1⟩
        rw [ov9]
        go_wp2_with fail
        go_ret2
        exact ⟨rfl, c0.out.trans (hb1.mono c0.out.size)⟩
      · by_cases h31 : op = 31
        · subst h31
          go_enter Tryz.func74, Tryz.ntmps74
          go_wp2_with fail
          refine (m_under a b ha hb _).mono ?_; rintro e w1 ⟨rfl, hb1⟩
          rw [ov10]
          go_wp2_with fail
          go_ret2
          exact ⟨rfl, c0.out.trans (hb1.mono c0.out.size)⟩
        · have HV : Hid (takV op a b = false) := by simp [Hid, takV, h28, h29, h30, h31]
          have HE : Hid (takE op = 1) := by simp [Hid, takE, h28, h29, h30, h31]
          have e28 : (op == 28) = false := by simpa using h28
          have e29 : (op == 29) = false := by simpa using h29
          have e30 : (op == 30) = false := by simpa using h30
          have e31 : (op == 31) = false := by simpa using h31
          clear h28 h29 h30 h31
          go_enter Tryz.func74, Tryz.ntmps74
          go_wp2
          go_ret2
          unfold TakPost
          rw [HV.out, HE.out]
          exact ⟨rfl, c0.out⟩
theorem less_cases (a b : Int) (ha : W32 a) (hb : W32 b) (m : Nat) (hm : m < 2) :
    (a = b ∧ doV (9 + m) a b = 0 ∧ doV (9 + m) b a = 0) ∨ ((a == b) = false ∧ doV (9 + m) a b = 1 ∧ doV (9 + m) b a = 0) ∨ ((a == b) = false ∧ doV (9 + m) a b = 0 ∧ doV (9 + m) b a = 1) := by
  unfold W32 at *
  have : m = 0 ∨ m = 1 := by omega
  rcases this with rfl | rfl
  · show (a = b ∧ doV 9 a b = 0 ∧ doV 9 b a = 0) ∨ ((a == b) = false ∧ doV 9 a b = 1 ∧ doV 9 b a = 0) ∨ ((a == b) = false ∧ doV 9 a b = 0 ∧ doV 9 b a = 1)
    rw [dv9, dv9]
    unfold wrap32
    by_cases h : a = b
    · subst h; left; simp
    · by_cases h1 : (a + 2147483648) % 4294967296 - 2147483648 < (b + 2147483648) % 4294967296 - 2147483648
      · right; left
        have h2 : ¬ ((b + 2147483648) % 4294967296 - 2147483648 < (a + 2147483648) % 4294967296 - 2147483648) := by omega
        simp [h, h1, h2]
      · right; right
        have h2 : (b + 2147483648) % 4294967296 - 2147483648 < (a + 2147483648) % 4294967296 - 2147483648 := by omega
        simp [h, h1, h2]
  · show (a = b ∧ doV 10 a b = 0 ∧ doV 10 b a = 0) ∨ ((a == b) = false ∧ doV 10 a b = 1 ∧ doV 10 b a = 0) ∨ ((a == b) = false ∧ doV 10 a b = 0 ∧ doV 10 b a = 1)
    rw [dv10, dv10]
    by_cases h : a = b
    · subst h; left; simp
    · by_cases h1 : a < b
      · right; left
        have h2 : ¬ b < a := by omega
        simp [h, h1, h2]
      · right; right
        have h2 : b < a := by omega
        simp [h, h1, h2]
theorem tk (a b : Int) (m : Nat) (hm : m < 2) : takV (30 + m) a b = (doV (9 + m) a b == 1) ∧ takE (30 + m) = 0 := by
  have : m = 0 ∨ m = 1 := by omega
  rcases this with rfl | rfl <;> exact ⟨rfl, rfl⟩
end
section
open Go.RowKit
theorem signed_law (a b : Int) (ha : W32 a) (hb : W32 b) : decide ((a + 2147483648) % 4294967296 < (b + 2147483648) % 4294967296) = decide (wrap32 a < wrap32 b) := by
  unfold W32 wrap32 at *
  rw [decide_eq_decide]
  omega
theorem sar_law1 (a : Int) (k : Nat) (ha : W32 a) (hk : k < 32) (h : a < 2147483648 ∨ k = 0) : wrap32 a / 2 ^ k % 4294967296 = a / 2 ^ k := by
  obtain ⟨x, rfl, hx⟩ := nat_w32 ha
  by_cases h1 : (x : Int) < 2147483648
  · have hw : wrap32 (x : Int) = x := by unfold wrap32; omega
    rw [hw]
    have e : ((x : Int) / 2 ^ k) = ((x / 2 ^ k : Nat) : Int) := by simp
    have := Nat.div_le_self x (2 ^ k)
    rw [e]
    generalize x / 2 ^ k = q at *
    omega
  · obtain rfl : k = 0 := by omega
    simp only [Int.pow_zero, Int.ediv_one]
    unfold wrap32
    omega
theorem sar_law2 (a : Int) (k : Nat) (ha : W32 a) (hk : k < 32) (h : 2147483648 ≤ a) (h0 : 0 < k) : bits .or .u32 (a / 2 ^ k) (4294967295 * 2 ^ (32 - k) % 4294967296) = wrap32 a / 2 ^ k % 4294967296 := by
  obtain ⟨x, rfl, hx⟩ := nat_w32 ha
  have hw : wrap32 (x : Int) = x - 4294967296 := by unfold wrap32; omega
  have hxx : 2147483648 ≤ x := by omega
  rw [hw]
  have hk' : k = 1 ∨ k = 2 ∨ k = 3 ∨ k = 4 ∨ k = 5 ∨ k = 6 ∨ k = 7 ∨ k = 8 ∨ k = 9 ∨ k = 10 ∨ k = 11 ∨ k = 12 ∨ k = 13 ∨ k = 14 ∨ k = 15 ∨ k = 16 ∨ k = 17 ∨ k = 18 ∨ k = 19 ∨ k = 20 ∨ k = 21 ∨ k = 22 ∨ k = 23 ∨ k = 24 ∨ k = 25 ∨ k = 26 ∨ k = 27 ∨ k = 28 ∨ k = 29 ∨ k = 30 ∨ k = 31 := by omega
  have e : ((x : Int) / 2 ^ k) = ((x / 2 ^ k : Nat) : Int) := by simp
  have hq : x / 2 ^ k < 2 ^ (32 - k) := by
    rw [Nat.div_lt_iff_lt_mul (Nat.two_pow_pos k), ← Nat.pow_add, show 32 - k + k = 32 from by omega]
    exact hx
  have hd : ((x : Int) - 4294967296) / 2 ^ k = ((x / 2 ^ k : Nat) : Int) - 2 ^ (32 - k) := by
    have hp : (4294967296 : Int) = 2 ^ (32 - k) * 2 ^ k := by rw [← Int.pow_add, show 32 - k + k = 32 from by omega]; rfl
    rw [hp, Int.sub_mul_ediv_right _ _ (by have : (0:Int) < 2 ^ k := Int.pow_pos (by decide); omega), e]
  have hm : (4294967295 * 2 ^ (32 - k) % 4294967296 : Int) = (((2 ^ k - 1) * 2 ^ (32 - k) : Nat) : Int) := by
    rcases hk' with rfl | rfl | rfl | rfl | rfl | rfl | rfl | rfl | rfl | rfl | rfl | rfl | rfl | rfl | rfl | rfl | rfl | rfl | rfl | rfl | rfl | rfl | rfl | rfl | rfl | rfl | rfl | rfl | rfl | rfl | rfl <;> rfl
  have hs : (2 ^ k - 1) * 2 ^ (32 - k) = 4294967296 - 2 ^ (32 - k) := by
    rw [Nat.sub_mul, ← Nat.pow_add, show k + (32 - k) = 32 from by omega]; omega
  have hp0 : 0 < 2 ^ (32 - k) := Nat.two_pow_pos _
  have hor : x / 2 ^ k ||| (2 ^ k - 1) * 2 ^ (32 - k) = (2 ^ k - 1) * 2 ^ (32 - k) + x / 2 ^ k := by
    rw [Nat.or_comm, ← Nat.shiftLeft_eq, ← Nat.shiftLeft_add_eq_or_of_lt hq]
  rw [e, hd, hm, u32_or _ _ (by have := Nat.div_le_self x (2 ^ k); omega) (by rw [hs]; omega), hor, hs]
  have hc : ((2 ^ (32 - k) : Nat) : Int) = (2 : Int) ^ (32 - k) := by simp
  rw [← hc]
  have hp1 : 2 ^ (32 - k) ≤ 4294967296 := (Nat.pow_le_pow_right (by decide) (by omega : 32 - k ≤ 32) : 2 ^ (32 - k) ≤ 2 ^ 32)
  generalize x / 2 ^ k = q at *
  generalize 2 ^ (32 - k) = p at *
  omega
end
section
open Go.RowKit
theorem flag1 (p : Bool) : (cond p 1 0 == (1 : Int)) = p := by cases p <;> rfl
/-- What an operation with a number does. -/
def plV (op : Int) : Int := if op = 14 then 1 else if op = 15 then 3 else if op = 16 then 4 else if op = 17 then 5 else if op = 18 then 6 else if op = 19 then 7 else if op = 20 then 8 else if op = 21 then 9 else 0
def plB (op : Int) : Bool := decide (14 ≤ op) && decide (op ≤ 21)
theorem pl_any (op : Int) (w : World) : Calls Tryz.prog 71 #[.int .i64 op] w fun e w' => e = .returned (.tuple #[.int .i64 (plV op), .bool (plB op)]) ∧ w = w' := by
  by_cases h : 14 ≤ op ∧ op ≤ 21
  · have h' : op = 14 ∨ op = 15 ∨ op = 16 ∨ op = 17 ∨ op = 18 ∨ op = 19 ∨ op = 20 ∨ op = 21 := by omega
    clear h
    rcases h' with rfl | rfl | rfl | rfl | rfl | rfl | rfl | rfl
    · go_enter Tryz.func71, Tryz.ntmps71
      go_wp2
      go_ret2
      exact ⟨rfl, rfl⟩
    · go_enter Tryz.func71, Tryz.ntmps71
      go_wp2
      go_ret2
      exact ⟨rfl, rfl⟩
    · go_enter Tryz.func71, Tryz.ntmps71
      go_wp2
      go_ret2
      exact ⟨rfl, rfl⟩
    · go_enter Tryz.func71, Tryz.ntmps71
      go_wp2
      go_ret2
      exact ⟨rfl, rfl⟩
    · go_enter Tryz.func71, Tryz.ntmps71
      go_wp2
      go_ret2
      exact ⟨rfl, rfl⟩
    · go_enter Tryz.func71, Tryz.ntmps71
      go_wp2
      go_ret2
      exact ⟨rfl, rfl⟩
    · go_enter Tryz.func71, Tryz.ntmps71
      go_wp2
      go_ret2
      exact ⟨rfl, rfl⟩
    · go_enter Tryz.func71, Tryz.ntmps71
      go_wp2
      go_ret2
      exact ⟨rfl, rfl⟩
  · have hv : plV op = 0 := by
      unfold plV
      repeat (rw [if_neg (by omega)])
    have hb : plB op = false := by
      unfold plB
      rw [Bool.and_eq_false_iff]
      simp only [decide_eq_false_iff_not]
      omega
    rw [hv, hb]
    have e14 : (op == 14) = false := by simp; omega
    have e15 : (op == 15) = false := by simp; omega
    have e16 : (op == 16) = false := by simp; omega
    have e17 : (op == 17) = false := by simp; omega
    have e18 : (op == 18) = false := by simp; omega
    have e19 : (op == 19) = false := by simp; omega
    have e20 : (op == 20) = false := by simp; omega
    have e21 : (op == 21) = false := by simp; omega
    clear h hv hb
    go_enter Tryz.func71, Tryz.ntmps71
    go_wp2
    go_ret2
    exact ⟨rfl, rfl⟩
def upV (imm : Int) : Int := imm % 4294967296 * 262144 % 4294967296
theorem up_any (imm : Int) (w : World) : Calls Tryz.prog 72 #[.int .i64 imm] w fun e w' => e = .returned (.int .u32 (upV imm)) ∧ w = w' := by
  go_enter Tryz.func72, Tryz.ntmps72
  go_wp2
  go_ret
  exact ⟨ret_int (by unfold upV; omega), rfl⟩
end
end Alu
end Go.Proofs.YtiohfdhmkikckaaGreatDoor
