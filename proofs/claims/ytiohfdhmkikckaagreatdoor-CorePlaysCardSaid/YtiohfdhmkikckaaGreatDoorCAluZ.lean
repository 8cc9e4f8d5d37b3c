/- Contracts (Alu): AluRef, AluPlays. -/
import Derived.Test.YtiohfdhmkikckaaGreatDoorCAlu
namespace Go.Proofs.YtiohfdhmkikckaaGreatDoor
set_option linter.unusedVariables false
set_option linter.unusedSimpArgs false
set_option linter.unnecessarySimpa false
namespace Alu
set_option maxHeartbeats 4000000
set_option maxRecDepth 100000
section
open Go.RowKit
theorem bit_any (x : Bool) (w : World) : Calls Tryz.prog 83 #[.bool x] w fun e w' => e = .returned (.int .u32 (cond x 1 0)) ∧ w = w' := by
  cases x
  · go_enter Tryz.func83, Tryz.ntmps83
    go_wp2
    go_ret
    exact ⟨rfl, rfl⟩
  · go_enter Tryz.func83, Tryz.ntmps83
    go_wp2
    go_ret
    exact ⟨rfl, rfl⟩
theorem signed_any (a b : Int) (ha : W32 a) (hb : W32 b) (w : World) : Calls Tryz.prog 84 #[.int .u32 a, .int .u32 b] w fun e w' => e = .returned (.bool (decide (wrap32 a < wrap32 b))) ∧ w = w' := by
  have HS := Lib.hid (signed_law a b ha hb)
  go_enter Tryz.func84, Tryz.ntmps84
  go_wp2
  go_ret
  exact ⟨ret_bool HS.out, rfl⟩
theorem sar_any (a : Int) (k : Nat) (ha : W32 a) (hk : k < 32) (w : World) : Calls Tryz.prog 82 #[.int .u32 a, .int .u32 k] w fun e w' => e = .returned (.int .u32 (wrap32 a / 2 ^ k % 4294967296)) ∧ w = w' := by
  have ha' : 0 ≤ a ∧ a ≤ 4294967295 := ha
  by_cases h : a < 2147483648
  · have HS := Lib.hid (sar_law1 a k ha hk (.inl h))
    go_enter Tryz.func82, Tryz.ntmps82
    go_wp2
    go_ret
    exact ⟨ret_int HS.out.symm, rfl⟩
  · by_cases h0 : k = 0
    · subst h0
      have he : wrap32 a % 4294967296 = a := by have := sar_law1 a 0 ha hk (.inr rfl); simpa using this
      have HS := Lib.hid he
      clear he
      go_enter Tryz.func82, Tryz.ntmps82
      go_wp2
      go_ret
      exact ⟨ret_int HS.out.symm, rfl⟩
    · have HS := Lib.hid (sar_law2 a k ha hk (by omega) (by omega))
      have hk1 : (0 : Int) < k := by omega
      have hk2 : (k : Int) < 32 := by omega
      have ha2 : 2147483648 ≤ a := by omega
      have ek : ((32 : Int) - k).toNat = 32 - k := by omega
      go_enter Tryz.func82, Tryz.ntmps82
      go_wp2
      go_ret
      exact ⟨ret_int HS.out, rfl⟩
end
section
open Go.RowKit
theorem rdo_1 (a b : Int) (ha : W32 a) (hb : W32 b) (w : World) : Calls Tryz.prog 63 #[.int .i64 1, .int .u32 a, .int .u32 b] w fun e w' => e = .returned (.tuple #[.int .u32 (opV 1 a b), .int .i64 0]) ∧ w = w' := by
  have ha' : 0 ≤ a ∧ a ≤ 4294967295 := ha
  have hb' : 0 ≤ b ∧ b ≤ 4294967295 := hb
  go_enter Tryz.func63, Tryz.ntmps63
  go_wp2_with (first | (go_at_call 83; refine (bit_any _ _).mono ?_; rintro e w' ⟨rfl, rfl⟩) | (go_at_call 84; refine (signed_any _ _ ha hb _).mono ?_; rintro e w' ⟨rfl, rfl⟩))
  go_ret2
  exact ⟨rfl, rfl⟩
theorem rdo_2 (a b : Int) (ha : W32 a) (hb : W32 b) (w : World) : Calls Tryz.prog 63 #[.int .i64 2, .int .u32 a, .int .u32 b] w fun e w' => e = .returned (.tuple #[.int .u32 (opV 2 a b), .int .i64 0]) ∧ w = w' := by
  have ha' : 0 ≤ a ∧ a ≤ 4294967295 := ha
  have hb' : 0 ≤ b ∧ b ≤ 4294967295 := hb
  go_enter Tryz.func63, Tryz.ntmps63
  go_wp2_with (first | (go_at_call 83; refine (bit_any _ _).mono ?_; rintro e w' ⟨rfl, rfl⟩) | (go_at_call 84; refine (signed_any _ _ ha hb _).mono ?_; rintro e w' ⟨rfl, rfl⟩))
  go_ret2
  exact ⟨rfl, rfl⟩
theorem rdo_3 (a b : Int) (ha : W32 a) (hb : W32 b) (w : World) : Calls Tryz.prog 63 #[.int .i64 3, .int .u32 a, .int .u32 b] w fun e w' => e = .returned (.tuple #[.int .u32 (opV 3 a b), .int .i64 0]) ∧ w = w' := by
  have ha' : 0 ≤ a ∧ a ≤ 4294967295 := ha
  have hb' : 0 ≤ b ∧ b ≤ 4294967295 := hb
  go_enter Tryz.func63, Tryz.ntmps63
  go_wp2_with (first | (go_at_call 83; refine (bit_any _ _).mono ?_; rintro e w' ⟨rfl, rfl⟩) | (go_at_call 84; refine (signed_any _ _ ha hb _).mono ?_; rintro e w' ⟨rfl, rfl⟩))
  go_ret2
  exact ⟨rfl, rfl⟩
theorem rdo_4 (a b : Int) (ha : W32 a) (hb : W32 b) (w : World) : Calls Tryz.prog 63 #[.int .i64 4, .int .u32 a, .int .u32 b] w fun e w' => e = .returned (.tuple #[.int .u32 (opV 4 a b), .int .i64 0]) ∧ w = w' := by
  have ha' : 0 ≤ a ∧ a ≤ 4294967295 := ha
  have hb' : 0 ≤ b ∧ b ≤ 4294967295 := hb
  go_enter Tryz.func63, Tryz.ntmps63
  go_wp2_with (first | (go_at_call 83; refine (bit_any _ _).mono ?_; rintro e w' ⟨rfl, rfl⟩) | (go_at_call 84; refine (signed_any _ _ ha hb _).mono ?_; rintro e w' ⟨rfl, rfl⟩))
  go_ret2
  exact ⟨rfl, rfl⟩
theorem rdo_5 (a b : Int) (ha : W32 a) (hb : W32 b) (w : World) : Calls Tryz.prog 63 #[.int .i64 5, .int .u32 a, .int .u32 b] w fun e w' => e = .returned (.tuple #[.int .u32 (opV 5 a b), .int .i64 0]) ∧ w = w' := by
  have ha' : 0 ≤ a ∧ a ≤ 4294967295 := ha
  have hb' : 0 ≤ b ∧ b ≤ 4294967295 := hb
  go_enter Tryz.func63, Tryz.ntmps63
  go_wp2_with (first | (go_at_call 83; refine (bit_any _ _).mono ?_; rintro e w' ⟨rfl, rfl⟩) | (go_at_call 84; refine (signed_any _ _ ha hb _).mono ?_; rintro e w' ⟨rfl, rfl⟩))
  go_ret2
  exact ⟨rfl, rfl⟩
theorem rdo_6 (a b : Int) (ha : W32 a) (hb : W32 b) (w : World) : Calls Tryz.prog 63 #[.int .i64 6, .int .u32 a, .int .u32 b] w fun e w' => e = .returned (.tuple #[.int .u32 (opV 6 a b), .int .i64 0]) ∧ w = w' := by
  have ha' : 0 ≤ a ∧ a ≤ 4294967295 := ha
  have hb' : 0 ≤ b ∧ b ≤ 4294967295 := hb
  go_enter Tryz.func63, Tryz.ntmps63
  go_wp2_with (first | (go_at_call 83; refine (bit_any _ _).mono ?_; rintro e w' ⟨rfl, rfl⟩) | (go_at_call 84; refine (signed_any _ _ ha hb _).mono ?_; rintro e w' ⟨rfl, rfl⟩))
  go_ret2
  exact ⟨rfl, rfl⟩
theorem rdo_7 (a b : Int) (ha : W32 a) (hb : W32 b) (w : World) : Calls Tryz.prog 63 #[.int .i64 7, .int .u32 a, .int .u32 b] w fun e w' => e = .returned (.tuple #[.int .u32 (opV 7 a b), .int .i64 0]) ∧ w = w' := by
  have ha' : 0 ≤ a ∧ a ≤ 4294967295 := ha
  have hb' : 0 ≤ b ∧ b ≤ 4294967295 := hb
  go_enter Tryz.func63, Tryz.ntmps63
  go_wp2_with (first | (go_at_call 83; refine (bit_any _ _).mono ?_; rintro e w' ⟨rfl, rfl⟩) | (go_at_call 84; refine (signed_any _ _ ha hb _).mono ?_; rintro e w' ⟨rfl, rfl⟩))
  go_ret2
  exact ⟨rfl, rfl⟩
theorem rdo_8 (a b : Int) (ha : W32 a) (hb : W32 b) (w : World) : Calls Tryz.prog 63 #[.int .i64 8, .int .u32 a, .int .u32 b] w fun e w' => e = .returned (.tuple #[.int .u32 (opV 8 a b), .int .i64 0]) ∧ w = w' := by
  have ha' : 0 ≤ a ∧ a ≤ 4294967295 := ha
  have hb' : 0 ≤ b ∧ b ≤ 4294967295 := hb
  obtain ⟨k, hk⟩ : ∃ k : Nat, b % 32 = k := Int.eq_ofNat_of_zero_le (by omega)
  have HV : Hid (opV 8 a b = wrap32 a / 2 ^ k % 4294967296) := by simp [Hid, opV, hk]
  have hk32 : k < 32 := by omega
  go_enter Tryz.func63, Tryz.ntmps63
  go_wp2_with (go_at_call 82; refine (sar_any _ _ ha hk32 _).mono ?_; rintro e w' ⟨rfl, rfl⟩)
  go_ret2
  exact ⟨ret_two (by rw [HV.out]) rfl, rfl⟩
theorem rdo_9 (a b : Int) (ha : W32 a) (hb : W32 b) (w : World) : Calls Tryz.prog 63 #[.int .i64 9, .int .u32 a, .int .u32 b] w fun e w' => e = .returned (.tuple #[.int .u32 (opV 9 a b), .int .i64 0]) ∧ w = w' := by
  have ha' : 0 ≤ a ∧ a ≤ 4294967295 := ha
  have hb' : 0 ≤ b ∧ b ≤ 4294967295 := hb
  go_enter Tryz.func63, Tryz.ntmps63
  go_wp2_with (first | (go_at_call 83; refine (bit_any _ _).mono ?_; rintro e w' ⟨rfl, rfl⟩) | (go_at_call 84; refine (signed_any _ _ ha hb _).mono ?_; rintro e w' ⟨rfl, rfl⟩))
  go_ret2
  exact ⟨rfl, rfl⟩
theorem rdo_10 (a b : Int) (ha : W32 a) (hb : W32 b) (w : World) : Calls Tryz.prog 63 #[.int .i64 10, .int .u32 a, .int .u32 b] w fun e w' => e = .returned (.tuple #[.int .u32 (opV 10 a b), .int .i64 0]) ∧ w = w' := by
  have ha' : 0 ≤ a ∧ a ≤ 4294967295 := ha
  have hb' : 0 ≤ b ∧ b ≤ 4294967295 := hb
  go_enter Tryz.func63, Tryz.ntmps63
  go_wp2_with (first | (go_at_call 83; refine (bit_any _ _).mono ?_; rintro e w' ⟨rfl, rfl⟩) | (go_at_call 84; refine (signed_any _ _ ha hb _).mono ?_; rintro e w' ⟨rfl, rfl⟩))
  go_ret2
  exact ⟨rfl, rfl⟩
theorem rdo_11 (a b : Int) (ha : W32 a) (hb : W32 b) (w : World) : Calls Tryz.prog 63 #[.int .i64 11, .int .u32 a, .int .u32 b] w fun e w' => e = .returned (.tuple #[.int .u32 (opV 11 a b), .int .i64 0]) ∧ w = w' := by
  have ha' : 0 ≤ a ∧ a ≤ 4294967295 := ha
  have hb' : 0 ≤ b ∧ b ≤ 4294967295 := hb
  go_enter Tryz.func63, Tryz.ntmps63
  go_wp2_with (first | (go_at_call 83; refine (bit_any _ _).mono ?_; rintro e w' ⟨rfl, rfl⟩) | (go_at_call 84; refine (signed_any _ _ ha hb _).mono ?_; rintro e w' ⟨rfl, rfl⟩))
  go_ret2
  exact ⟨rfl, rfl⟩
theorem rdo_12 (a b : Int) (ha : W32 a) (hb : W32 b) (w : World) : Calls Tryz.prog 63 #[.int .i64 12, .int .u32 a, .int .u32 b] w fun e w' => e = .returned (.tuple #[.int .u32 (opV 12 a b), .int .i64 0]) ∧ w = w' := by
  have ha' : 0 ≤ a ∧ a ≤ 4294967295 := ha
  have hb' : 0 ≤ b ∧ b ≤ 4294967295 := hb
  by_cases h0 : b = 0
  · subst h0
    go_enter Tryz.func63, Tryz.ntmps63
    go_wp2
    go_ret2
    exact ⟨ret_two (by simp [opV]) rfl, rfl⟩
  · have hb0 : (b == 0) = false := by simpa using h0
    have HV : Hid (opV 12 a b = a / b) := by simp [Hid, opV, h0]
    go_enter Tryz.func63, Tryz.ntmps63
    go_wp2
    go_ret2
    exact ⟨ret_two (by rw [HV.out]) rfl, rfl⟩
theorem rdo_13 (a b : Int) (ha : W32 a) (hb : W32 b) (w : World) : Calls Tryz.prog 63 #[.int .i64 13, .int .u32 a, .int .u32 b] w fun e w' => e = .returned (.tuple #[.int .u32 (opV 13 a b), .int .i64 0]) ∧ w = w' := by
  have ha' : 0 ≤ a ∧ a ≤ 4294967295 := ha
  have hb' : 0 ≤ b ∧ b ≤ 4294967295 := hb
  by_cases h0 : b = 0
  · subst h0
    go_enter Tryz.func63, Tryz.ntmps63
    go_wp2
    go_ret2
    exact ⟨ret_two (by simp [opV]) rfl, rfl⟩
  · have hb0 : (b == 0) = false := by simpa using h0
    have HV : Hid (opV 13 a b = a % b) := by simp [Hid, opV, h0]
    go_enter Tryz.func63, Tryz.ntmps63
    go_wp2
    go_ret2
    exact ⟨ret_two (by rw [HV.out]) rfl, rfl⟩
theorem rdo_any (op a b : Int) (ha : W32 a) (hb : W32 b) (w : World) : Calls Tryz.prog 63 #[.int .i64 op, .int .u32 a, .int .u32 b] w fun e w' => e = .returned (.tuple #[.int .u32 (doV op a b), .int .i64 (doE op)]) ∧ w = w' := by
  by_cases h : 1 ≤ op ∧ op ≤ 13
  · obtain ⟨n, rfl⟩ := Int.eq_ofNat_of_zero_le (by omega : 0 ≤ op)
    have hn : n = 1 ∨ n = 2 ∨ n = 3 ∨ n = 4 ∨ n = 5 ∨ n = 6 ∨ n = 7 ∨ n = 8 ∨ n = 9 ∨ n = 10 ∨ n = 11 ∨ n = 12 ∨ n = 13 := by omega
    have he : doE (n : Int) = 0 := by rw [doE, if_pos h]
    have hv : doV (n : Int) a b = opV n a b := by rw [doV, if_pos h]; rfl
    rw [he, hv]
    rcases hn with rfl | rfl | rfl | rfl | rfl | rfl | rfl | rfl | rfl | rfl | rfl | rfl | rfl
    · exact rdo_1 a b ha hb w
    · exact rdo_2 a b ha hb w
    · exact rdo_3 a b ha hb w
    · exact rdo_4 a b ha hb w
    · exact rdo_5 a b ha hb w
    · exact rdo_6 a b ha hb w
    · exact rdo_7 a b ha hb w
    · exact rdo_8 a b ha hb w
    · exact rdo_9 a b ha hb w
    · exact rdo_10 a b ha hb w
    · exact rdo_11 a b ha hb w
    · exact rdo_12 a b ha hb w
    · exact rdo_13 a b ha hb w
  · have he : doE op = 1 := by rw [doE, if_neg h]
    have hv : doV op a b = 0 := by rw [doV, if_neg h]
    rw [he, hv]
    have e1 : (op == 1) = false := by simp; omega
    have e2 : (op == 2) = false := by simp; omega
    have e3 : (op == 3) = false := by simp; omega
    have e4 : (op == 4) = false := by simp; omega
    have e5 : (op == 5) = false := by simp; omega
    have e6 : (op == 6) = false := by simp; omega
    have e7 : (op == 7) = false := by simp; omega
    have e8 : (op == 8) = false := by simp; omega
    have e9 : (op == 9) = false := by simp; omega
    have e10 : (op == 10) = false := by simp; omega
    have e11 : (op == 11) = false := by simp; omega
    have e12 : (op == 12) = false := by simp; omega
    have e13 : (op == 13) = false := by simp; omega
    clear h he hv
    go_enter Tryz.func63, Tryz.ntmps63
    go_wp2
    go_ret2
    exact ⟨rfl, rfl⟩
theorem rtak_any (op a b : Int) (ha : W32 a) (hb : W32 b) (w : World) : Calls Tryz.prog 64 #[.int .i64 op, .int .u32 a, .int .u32 b] w fun e w' => e = .returned (.tuple #[.bool (takV op a b), .int .i64 (takE op)]) ∧ w = w' := by
  by_cases h28 : op = 28
  · subst h28
    go_enter Tryz.func64, Tryz.ntmps64
    go_wp2
    go_ret2
    exact ⟨rfl, rfl⟩
  · by_cases h29 : op = 29
    · subst h29
      go_enter Tryz.func64, Tryz.ntmps64
      go_wp2
      go_ret2
      exact ⟨rfl, rfl⟩
    · by_cases h30 : op = 30
      · subst h30
        have HV : Hid (takV 30 a b = decide (wrap32 a < wrap32 b)) := by
          have e : takV 30 a b = (doV 9 a b == 1) := rfl
          rw [Hid, e, dv9, flag1]
        go_enter Tryz.func64, Tryz.ntmps64
        go_wp2_with (first | (go_at_call 83; refine (bit_any _ _).mono ?_; rintro e w' ⟨rfl, rfl⟩) | (go_at_call 84; refine (signed_any _ _ ha hb _).mono ?_; rintro e w' ⟨rfl, rfl⟩))
        go_ret2
        rw [HV.out]
        exact ⟨rfl, rfl⟩
      · by_cases h31 : op = 31
        · subst h31
          have HV : Hid (takV 31 a b = decide (a < b)) := by
            have e : takV 31 a b = (doV 10 a b == 1) := rfl
            rw [Hid, e, dv10, flag1]
          go_enter Tryz.func64, Tryz.ntmps64
          go_wp2
          go_ret2
          rw [HV.out]
          exact ⟨rfl, rfl⟩
        · have HV : takV op a b = false := by simp [takV, h28, h29, h30, h31]
          have HE : takE op = 1 := by simp [takE, h28, h29, h30, h31]
          have e28 : (op == 28) = false := by simpa using h28
          have e29 : (op == 29) = false := by simpa using h29
          have e30 : (op == 30) = false := by simpa using h30
          have e31 : (op == 31) = false := by simpa using h31
          rw [HV, HE]
          clear h28 h29 h30 h31 HV HE
          go_enter Tryz.func64, Tryz.ntmps64
          go_wp2
          go_ret2
          exact ⟨rfl, rfl⟩
theorem rpl_any (op : Int) (w : World) : Calls Tryz.prog 62 #[.int .i64 op] w fun e w' => e = .returned (.tuple #[.int .i64 (plV op), .bool (plB op)]) ∧ w = w' := by
  by_cases h : 14 ≤ op ∧ op ≤ 21
  · have h' : op = 14 ∨ op = 15 ∨ op = 16 ∨ op = 17 ∨ op = 18 ∨ op = 19 ∨ op = 20 ∨ op = 21 := by omega
    clear h
    rcases h' with rfl | rfl | rfl | rfl | rfl | rfl | rfl | rfl
    · go_enter Tryz.func62, Tryz.ntmps62
      go_wp2
      go_ret2
      exact ⟨rfl, rfl⟩
    · go_enter Tryz.func62, Tryz.ntmps62
      go_wp2
      go_ret2
      exact ⟨rfl, rfl⟩
    · go_enter Tryz.func62, Tryz.ntmps62
      go_wp2
      go_ret2
      exact ⟨rfl, rfl⟩
    · go_enter Tryz.func62, Tryz.ntmps62
      go_wp2
      go_ret2
      exact ⟨rfl, rfl⟩
    · go_enter Tryz.func62, Tryz.ntmps62
      go_wp2
      go_ret2
      exact ⟨rfl, rfl⟩
    · go_enter Tryz.func62, Tryz.ntmps62
      go_wp2
      go_ret2
      exact ⟨rfl, rfl⟩
    · go_enter Tryz.func62, Tryz.ntmps62
      go_wp2
      go_ret2
      exact ⟨rfl, rfl⟩
    · go_enter Tryz.func62, Tryz.ntmps62
      go_wp2
      go_ret2
      exact ⟨rfl, rfl⟩
  · have hv : plV op = 0 := by
      unfold plV
      repeat (rw [if_neg (by omega)])
    have hb : plB op = false := by
      unfold plB
      rw [Bool.and_eq_false_iff]
      simp only [decide_eq_false_iff_not]
      omega
    rw [hv, hb]
    have e14 : (op == 14) = false := by simp; omega
    have e15 : (op == 15) = false := by simp; omega
    have e16 : (op == 16) = false := by simp; omega
    have e17 : (op == 17) = false := by simp; omega
    have e18 : (op == 18) = false := by simp; omega
    have e19 : (op == 19) = false := by simp; omega
    have e20 : (op == 20) = false := by simp; omega
    have e21 : (op == 21) = false := by simp; omega
    clear h hv hb
    go_enter Tryz.func62, Tryz.ntmps62
    go_wp2
    go_ret2
    exact ⟨rfl, rfl⟩
theorem rup_any (imm : Int) (w : World) : Calls Tryz.prog 61 #[.int .i64 imm] w fun e w' => e = .returned (.int .u32 (upV imm)) ∧ w = w' := by
  go_enter Tryz.func61, Tryz.ntmps61
  go_wp2
  go_ret
  exact ⟨ret_int (by unfold upV; omega), rfl⟩
end
end Alu
end Go.Proofs.YtiohfdhmkikckaaGreatDoor
