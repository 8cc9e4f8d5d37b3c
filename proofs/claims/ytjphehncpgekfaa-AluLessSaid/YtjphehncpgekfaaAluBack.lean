/- The law AluBack. -/
import Derived.Test.YtjphehncpgekfaaAlu2
namespace Go.Proofs.Ytjphehncpgekfaa
open Go.RowKit
set_option maxHeartbeats 400000
set_option maxRecDepth 100000
theorem dv1 (a b : Int) : doV 1 a b = (a + b) % 4294967296 := by simp [doV, opV]
theorem dv2 (a b : Int) : doV 2 a b = (a - b) % 4294967296 := by simp [doV, opV]
theorem dv3 (a b : Int) : doV 3 a b = bits .and .u32 a b := by simp [doV, opV]
theorem dv4 (a b : Int) : doV 4 a b = bits .or .u32 a b := by simp [doV, opV]
theorem dv5 (a b : Int) : doV 5 a b = bits .xor .u32 a b := by simp [doV, opV]
theorem dv6 (a b : Int) : doV 6 a b = a * 2 ^ (b % 32).toNat % 4294967296 := by simp [doV, opV]
theorem dv7 (a b : Int) : doV 7 a b = a / 2 ^ (b % 32).toNat := by simp [doV, opV]
theorem dv8 (a b : Int) : doV 8 a b = wrap32 a / 2 ^ (b % 32).toNat % 4294967296 := by simp [doV, opV]
theorem dv9 (a b : Int) : doV 9 a b = cond (decide (wrap32 a < wrap32 b)) 1 0 := by simp [doV, opV]
theorem dv10 (a b : Int) : doV 10 a b = cond (decide (a < b)) 1 0 := by simp [doV, opV]
theorem dv11 (a b : Int) : doV 11 a b = a * b % 4294967296 := by simp [doV, opV]
theorem dv12 (a b : Int) : doV 12 a b = if b = 0 then 4294967295 else a / b := by simp [doV, opV]
theorem dv13 (a b : Int) : doV 13 a b = if b = 0 then a else a % b := by simp [doV, opV]
theorem nat_w32 {a : Int} (h : W32 a) : ∃ n : Nat, a = n ∧ n < 4294967296 := by
  obtain ⟨n, rfl⟩ := Int.eq_ofNat_of_zero_le h.1
  exact ⟨n, rfl, by have := h.2; omega⟩
theorem back1 {a b : Int} (ha : W32 a) (hb : W32 b) : doV 2 (doV 1 a b) b = a := by
  rw [dv1, dv2]; unfold W32 at *; omega
theorem back2 {a b : Int} (ha : W32 a) (hb : W32 b) : doV 5 (doV 5 a b) b = a := by
  obtain ⟨x, rfl, hx⟩ := nat_w32 ha
  obtain ⟨y, rfl, hy⟩ := nat_w32 hb
  have h : x ^^^ y < 2 ^ 32 := Nat.xor_lt_two_pow (by omega) (by omega)
  rw [dv5, dv5, u32_xor x y hx hy, u32_xor _ y (by omega) hy, Nat.xor_assoc, Nat.xor_self, Nat.xor_zero]
theorem back3 {a b : Int} (ha : W32 a) (hb : W32 b) (h0 : b ≠ 0) : doV 1 (doV 11 (doV 12 a b) b) (doV 13 a b) = a := by
  obtain ⟨x, rfl, hx⟩ := nat_w32 ha
  obtain ⟨y, rfl, hy⟩ := nat_w32 hb
  rw [dv13, dv12, dv11, dv1, if_neg h0, if_neg h0]
  have e : (x : Int) / y * y + x % y = x := Int.ediv_mul_add_emod _ _
  have p : (0 : Int) ≤ x / y * y := Int.mul_nonneg (Int.ediv_nonneg (by omega) (by omega)) (by omega)
  have q : (0 : Int) ≤ x % y := Int.emod_nonneg _ h0
  generalize (x : Int) / y * y = s at *
  generalize (x : Int) % y = r at *
  omega
theorem back4 {a b : Int} (ha : W32 a) (hb : W32 b) (h0 : b ≠ 0) : doV 10 (doV 13 a b) b = 1 := by
  rw [dv13, dv10, if_neg h0]
  have : a % b < b := Int.emod_lt_of_pos _ (by unfold W32 at hb; omega)
  simp [this]
theorem back5 {a b : Int} (ha : W32 a) (hb : W32 b) : doV 4 (doV 3 a b) (doV 5 a b) = doV 4 a b := by
  obtain ⟨x, rfl, hx⟩ := nat_w32 ha
  obtain ⟨y, rfl, hy⟩ := nat_w32 hb
  have h : x ^^^ y < 2 ^ 32 := Nat.xor_lt_two_pow (by omega) (by omega)
  have h2 := Nat.lt_of_le_of_lt (@Nat.and_le_left x y) hx
  rw [dv5, dv3, dv4, dv4, u32_xor x y hx hy, u32_and x y hx hy, u32_or _ _ h2 (by omega), u32_or x y hx hy]
  congr 1
  apply Nat.eq_of_testBit_eq
  intro i
  simp only [Nat.testBit_or, Nat.testBit_and, Nat.testBit_xor]
  cases x.testBit i <;> cases y.testBit i <;> rfl
theorem back_walk (a b : Int) (ha : W32 a) (hb : W32 b) (w : World) : Calls Try.prog 13 #[.int .u32 a, .int .u32 b] w fun e w' => e = .returned (.bool true) ∧ Below w.heap.size w w' := by
  have k1 : (doV 2 (doV 1 a b) b != a) = false := by rw [back1 ha hb]; simp
  have k2 : (doV 5 (doV 5 a b) b != a) = false := by rw [back2 ha hb]; simp
  have k5 : (doV 4 (doV 3 a b) (doV 5 a b) == doV 4 a b) = true := by rw [back5 ha hb]; simp
  have hB := Below.refl w.heap.size w
  by_cases h0 : b = 0
  · have hb0 : (b != 0) = false := by simpa using h0
    clear h0
    go_enter Try.func13, Try.ntmps13
    go_wp2_with (first | (go_at_call 51; refine (ldo_any w _ _ _ (by repeat (first | assumption | apply doV_w32)) (by repeat (first | assumption | apply doV_w32)) _ hB).mono ?_; clear hB; rintro e w' ⟨rfl, hB⟩) | (go_at_call 52; refine (awake_any0 w _ hB).mono ?_; clear hB; rintro e w' ⟨rfl, hB⟩))
    go_ret
    exact ⟨rfl, hB⟩
  · have hb0 : (b != 0) = true := by simpa using h0
    have k3 : (doV 1 (doV 11 (doV 12 a b) b) (doV 13 a b) != a) = false := by rw [back3 ha hb h0]; simp
    have k4 : (doV 10 (doV 13 a b) b != 1) = false := by rw [back4 ha hb h0]; simp
    clear h0
    go_enter Try.func13, Try.ntmps13
    go_wp2_with (first | (go_at_call 51; refine (ldo_any w _ _ _ (by repeat (first | assumption | apply doV_w32)) (by repeat (first | assumption | apply doV_w32)) _ hB).mono ?_; clear hB; rintro e w' ⟨rfl, hB⟩) | (go_at_call 52; refine (awake_any0 w _ hB).mono ?_; clear hB; rintro e w' ⟨rfl, hB⟩))
    go_ret
    exact ⟨rfl, hB⟩
end Go.Proofs.Ytjphehncpgekfaa
