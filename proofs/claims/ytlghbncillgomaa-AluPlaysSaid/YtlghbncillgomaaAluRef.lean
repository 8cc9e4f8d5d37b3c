/- The reference of chapter 8. -/
import Derived.Test.YtlghbncillgomaaAluLess
namespace Go.Proofs.Ytlghbncillgomaa
open Go.RowKit
set_option maxHeartbeats 400000
set_option maxRecDepth 100000
theorem bit_any (x : Bool) (w : World) : Calls Try.prog 22 #[.bool x] w fun e w' => e = .returned (.int .u32 (cond x 1 0)) ∧ w = w' := by
  cases x
  · go_enter Try.func22, Try.ntmps22
    go_wp2
    go_ret
    exact ⟨rfl, rfl⟩
  · go_enter Try.func22, Try.ntmps22
    go_wp2
    go_ret
    exact ⟨rfl, rfl⟩
theorem signed_law (a b : Int) (ha : W32 a) (hb : W32 b) : decide ((a + 2147483648) % 4294967296 < (b + 2147483648) % 4294967296) = decide (wrap32 a < wrap32 b) := by
  unfold W32 wrap32 at *
  rw [decide_eq_decide]
  omega
theorem signed_any (a b : Int) (ha : W32 a) (hb : W32 b) (w : World) : Calls Try.prog 23 #[.int .u32 a, .int .u32 b] w fun e w' => e = .returned (.bool (decide (wrap32 a < wrap32 b))) ∧ w = w' := by
  have HS := Lib.hid (signed_law a b ha hb)
  go_enter Try.func23, Try.ntmps23
  go_wp2
  go_ret
  exact ⟨ret_bool HS.out, rfl⟩
theorem sar_law1 (a : Int) (k : Nat) (ha : W32 a) (hk : k < 32) (h : a < 2147483648 ∨ k = 0) : wrap32 a / 2 ^ k % 4294967296 = a / 2 ^ k := by
  obtain ⟨x, rfl, hx⟩ := nat_w32 ha
  by_cases h1 : (x : Int) < 2147483648
  · have hw : wrap32 (x : Int) = x := by unfold wrap32; omega
    rw [hw]
    have e : ((x : Int) / 2 ^ k) = ((x / 2 ^ k : Nat) : Int) := by simp
    have := Nat.div_le_self x (2 ^ k)
    rw [e]
    generalize x / 2 ^ k = q at *
    omega
  · obtain rfl : k = 0 := by omega
    simp only [Int.pow_zero, Int.ediv_one]
    unfold wrap32
    omega
theorem sar_law2 (a : Int) (k : Nat) (ha : W32 a) (hk : k < 32) (h : 2147483648 ≤ a) (h0 : 0 < k) : bits .or .u32 (a / 2 ^ k) (4294967295 * 2 ^ (32 - k) % 4294967296) = wrap32 a / 2 ^ k % 4294967296 := by
  obtain ⟨x, rfl, hx⟩ := nat_w32 ha
  have hw : wrap32 (x : Int) = x - 4294967296 := by unfold wrap32; omega
  have hxx : 2147483648 ≤ x := by omega
  rw [hw]
  have hk' : k = 1 ∨ k = 2 ∨ k = 3 ∨ k = 4 ∨ k = 5 ∨ k = 6 ∨ k = 7 ∨ k = 8 ∨ k = 9 ∨ k = 10 ∨ k = 11 ∨ k = 12 ∨ k = 13 ∨ k = 14 ∨ k = 15 ∨ k = 16 ∨ k = 17 ∨ k = 18 ∨ k = 19 ∨ k = 20 ∨ k = 21 ∨ k = 22 ∨ k = 23 ∨ k = 24 ∨ k = 25 ∨ k = 26 ∨ k = 27 ∨ k = 28 ∨ k = 29 ∨ k = 30 ∨ k = 31 := by omega
  have e : ((x : Int) / 2 ^ k) = ((x / 2 ^ k : Nat) : Int) := by simp
  have hq : x / 2 ^ k < 2 ^ (32 - k) := by
    rw [Nat.div_lt_iff_lt_mul (Nat.two_pow_pos k), ← Nat.pow_add, show 32 - k + k = 32 from by omega]
    exact hx
  have hd : ((x : Int) - 4294967296) / 2 ^ k = ((x / 2 ^ k : Nat) : Int) - 2 ^ (32 - k) := by
    have hp : (4294967296 : Int) = 2 ^ (32 - k) * 2 ^ k := by rw [← Int.pow_add, show 32 - k + k = 32 from by omega]; rfl
    rw [hp, Int.sub_mul_ediv_right _ _ (by have : (0:Int) < 2 ^ k := Int.pow_pos (by decide); omega), e]
  have hm : (4294967295 * 2 ^ (32 - k) % 4294967296 : Int) = (((2 ^ k - 1) * 2 ^ (32 - k) : Nat) : Int) := by
    rcases hk' with rfl | rfl | rfl | rfl | rfl | rfl | rfl | rfl | rfl | rfl | rfl | rfl | rfl | rfl | rfl | rfl | rfl | rfl | rfl | rfl | rfl | rfl | rfl | rfl | rfl | rfl | rfl | rfl | rfl | rfl | rfl <;> rfl
  have hs : (2 ^ k - 1) * 2 ^ (32 - k) = 4294967296 - 2 ^ (32 - k) := by
    rw [Nat.sub_mul, ← Nat.pow_add, show k + (32 - k) = 32 from by omega]; omega
  have hp0 : 0 < 2 ^ (32 - k) := Nat.two_pow_pos _
  have hor : x / 2 ^ k ||| (2 ^ k - 1) * 2 ^ (32 - k) = (2 ^ k - 1) * 2 ^ (32 - k) + x / 2 ^ k := by
    rw [Nat.or_comm, ← Nat.shiftLeft_eq, ← Nat.shiftLeft_add_eq_or_of_lt hq]
  rw [e, hd, hm, u32_or _ _ (by have := Nat.div_le_self x (2 ^ k); omega) (by rw [hs]; omega), hor, hs]
  have hc : ((2 ^ (32 - k) : Nat) : Int) = (2 : Int) ^ (32 - k) := by simp
  rw [← hc]
  have hp1 : 2 ^ (32 - k) ≤ 4294967296 := (Nat.pow_le_pow_right (by decide) (by omega : 32 - k ≤ 32) : 2 ^ (32 - k) ≤ 2 ^ 32)
  generalize x / 2 ^ k = q at *
  generalize 2 ^ (32 - k) = p at *
  omega
theorem sar_any (a : Int) (k : Nat) (ha : W32 a) (hk : k < 32) (w : World) : Calls Try.prog 21 #[.int .u32 a, .int .u32 k] w fun e w' => e = .returned (.int .u32 (wrap32 a / 2 ^ k % 4294967296)) ∧ w = w' := by
  have ha' : 0 ≤ a ∧ a ≤ 4294967295 := ha
  by_cases h : a < 2147483648
  · have HS := Lib.hid (sar_law1 a k ha hk (.inl h))
    go_enter Try.func21, Try.ntmps21
    go_wp2
    go_ret
    exact ⟨ret_int HS.out.symm, rfl⟩
  · by_cases h0 : k = 0
    · subst h0
      have he : wrap32 a % 4294967296 = a := by have := sar_law1 a 0 ha hk (.inr rfl); simpa using this
      have HS := Lib.hid he
      clear he
      go_enter Try.func21, Try.ntmps21
      go_wp2
      go_ret
      exact ⟨ret_int HS.out.symm, rfl⟩
    · have HS := Lib.hid (sar_law2 a k ha hk (by omega) (by omega))
      have hk1 : (0 : Int) < k := by omega
      have hk2 : (k : Int) < 32 := by omega
      have ha2 : 2147483648 ≤ a := by omega
      have ek : ((32 : Int) - k).toNat = 32 - k := by omega
      go_enter Try.func21, Try.ntmps21
      go_wp2
      go_ret
      exact ⟨ret_int HS.out, rfl⟩
end Go.Proofs.Ytlghbncillgomaa
