/- The laws AluBack, AluShifts, AluLess: what the operations answer. -/
import Derived.Test.YtjphehncpgekfaaAlu
namespace Go.Proofs.Ytjphehncpgekfaa
open Go.RowKit
set_option maxHeartbeats 400000
set_option maxRecDepth 100000
theorem ofInt32 (a : Nat) (ha : a < 4294967296) : (BitVec.ofInt 32 (a : Int)).toNat = a := by
  simp only [BitVec.toNat_ofInt]
  omega
theorem wrap32u_nat (a : Nat) (ha : a < 4294967296) : IntKind.u32.wrap (a : Int) = a := by
  show (a : Int) % 4294967296 = a
  omega
theorem u32_and (a b : Nat) (ha : a < 4294967296) (hb : b < 4294967296) : bits .and .u32 (a : Int) (b : Int) = ((a &&& b : Nat) : Int) := by
  have h : (BitVec.ofInt 32 (a : Int) &&& BitVec.ofInt 32 (b : Int)).toNat = a &&& b := by rw [BitVec.toNat_and, ofInt32 a ha, ofInt32 b hb]
  have hl : a &&& b < 4294967296 := Nat.lt_of_le_of_lt Nat.and_le_left ha
  simp only [bits]
  show IntKind.u32.wrap ((BitVec.ofInt 32 (a : Int) &&& BitVec.ofInt 32 (b : Int)).toNat : Int) = _
  rw [h, wrap32u_nat _ hl]
theorem u32_or (a b : Nat) (ha : a < 4294967296) (hb : b < 4294967296) : bits .or .u32 (a : Int) (b : Int) = ((a ||| b : Nat) : Int) := by
  have h : (BitVec.ofInt 32 (a : Int) ||| BitVec.ofInt 32 (b : Int)).toNat = a ||| b := by rw [BitVec.toNat_or, ofInt32 a ha, ofInt32 b hb]
  have hl : a ||| b < 2 ^ 32 := Nat.or_lt_two_pow (by omega) (by omega)
  simp only [bits]
  show IntKind.u32.wrap ((BitVec.ofInt 32 (a : Int) ||| BitVec.ofInt 32 (b : Int)).toNat : Int) = _
  rw [h, wrap32u_nat _ (by omega)]
theorem u32_xor (a b : Nat) (ha : a < 4294967296) (hb : b < 4294967296) : bits .xor .u32 (a : Int) (b : Int) = ((a ^^^ b : Nat) : Int) := by
  have h : (BitVec.ofInt 32 (a : Int) ^^^ BitVec.ofInt 32 (b : Int)).toNat = a ^^^ b := by rw [BitVec.toNat_xor, ofInt32 a ha, ofInt32 b hb]
  have hl : a ^^^ b < 2 ^ 32 := Nat.xor_lt_two_pow (by omega) (by omega)
  simp only [bits]
  show IntKind.u32.wrap ((BitVec.ofInt 32 (a : Int) ^^^ BitVec.ofInt 32 (b : Int)).toNat : Int) = _
  rw [h, wrap32u_nat _ (by omega)]
theorem flag_w32 (x : Bool) : W32 (cond x 1 0) := by cases x <;> simp [W32]
theorem mod_w32 (x : Int) : W32 (x % 4294967296) := by unfold W32; omega
theorem div_w32 (x k : Nat) (hx : x < 4294967296) : W32 ((x : Int) / (k : Nat)) := by
  have e : ((x : Int) / (k : Nat)) = ((x / k : Nat) : Int) := by simp
  have := Nat.div_le_self x k
  rw [e]
  generalize x / k = q at this ⊢
  unfold W32; omega
theorem rem_w32 (x k : Nat) (hx : x < 4294967296) : W32 ((x : Int) % (k : Nat)) := by
  have e : ((x : Int) % (k : Nat)) = ((x % k : Nat) : Int) := by simp
  have := Nat.mod_le x k
  rw [e]
  generalize x % k = q at this ⊢
  unfold W32; omega
theorem doV_w32 (op a b : Int) (ha : W32 a) (hb : W32 b) : W32 (doV op a b) := by
  unfold doV
  by_cases h : 1 ≤ op ∧ op ≤ 13
  · rw [if_pos h]
    obtain ⟨n, rfl⟩ := Int.eq_ofNat_of_zero_le (by omega : 0 ≤ op)
    obtain ⟨x, rfl⟩ := Int.eq_ofNat_of_zero_le ha.1
    obtain ⟨y, rfl⟩ := Int.eq_ofNat_of_zero_le hb.1
    have hx : x < 4294967296 := by have := ha.2; omega
    have hy : y < 4294967296 := by have := hb.2; omega
    have hn : n = 1 ∨ n = 2 ∨ n = 3 ∨ n = 4 ∨ n = 5 ∨ n = 6 ∨ n = 7 ∨ n = 8 ∨ n = 9 ∨ n = 10 ∨ n = 11 ∨ n = 12 ∨ n = 13 := by omega
    rcases hn with rfl | rfl | rfl | rfl | rfl | rfl | rfl | rfl | rfl | rfl | rfl | rfl | rfl
    all_goals simp only [Int.toNat_natCast, opV]
    · exact mod_w32 _
    · exact mod_w32 _
    · rw [u32_and x y hx hy]
      have := Nat.lt_of_le_of_lt (@Nat.and_le_left x y) hx
      unfold W32; omega
    · rw [u32_or x y hx hy]
      have : x ||| y < 2 ^ 32 := Nat.or_lt_two_pow (by omega) (by omega)
      unfold W32; omega
    · rw [u32_xor x y hx hy]
      have : x ^^^ y < 2 ^ 32 := Nat.xor_lt_two_pow (by omega) (by omega)
      unfold W32; omega
    · exact mod_w32 _
    · generalize ((y : Int) % 32).toNat = k
      have e := div_w32 x (2 ^ k) hx
      simpa using e
    · exact mod_w32 _
    · exact flag_w32 _
    · exact flag_w32 _
    · exact mod_w32 _
    · by_cases hy0 : (y : Int) = 0
      · rw [if_pos hy0]; simp [W32]
      · rw [if_neg hy0]; exact div_w32 x y hx
    · by_cases hy0 : (y : Int) = 0
      · rw [if_pos hy0]; exact ha
      · rw [if_neg hy0]; exact rem_w32 x y hx
  · rw [if_neg h]; simp [W32]
def LdoPost (op a b : Int) (w0 : World) (e : Ending) (w' : World) : Prop := e = .returned (.int .u32 (doV op a b)) ∧ Below w0.heap.size w0 w'
theorem ldo_any (w0 : World) (op a b : Int) (ha : W32 a) (hb : W32 b) (w : World) (hB : Below w0.heap.size w0 w) : Calls Try.prog 51 #[.int .i64 op, .int .u32 a, .int .u32 b] w (LdoPost op a b w0) := by
  have HB := Lib.hid hB; clear hB
  go_enter Try.func51, Try.ntmps51
  go_wp2_with fail
  refine (do_any op a b ha hb w).mono ?_; rintro e w1 ⟨rfl, hb1⟩
  go_wp2_with fail
  go_ret
  exact ⟨rfl, HB.out.trans (hb1.mono HB.out.size)⟩
def DoPost0 (op a b : Int) (w0 : World) (e : Ending) (w' : World) : Prop := e = .returned (.tuple #[.int .u32 (doV op a b), .int .i64 (doE op)]) ∧ Below w0.heap.size w0 w'
theorem do_any0 (w0 : World) (op a b : Int) (ha : W32 a) (hb : W32 b) (w : World) (hB : Below w0.heap.size w0 w) : Calls Try.prog 66 #[.int .i64 op, .int .u32 a, .int .u32 b] w (DoPost0 op a b w0) :=
  (do_any op a b ha hb w).mono (by rintro e w' ⟨rfl, h⟩; exact ⟨rfl, hB.trans (h.mono hB.size)⟩)
theorem awake_any (w : World) : Calls Try.prog 52 #[] w fun e w' => e = .returned (.bool true) ∧ Below w.heap.size w w' := by
  have k1 : (doV 12 7 0 == 4294967295) = true := by kernel_rfl
  have k2 : (doE 12 == 0) = true := by decide
  have k3 : (doV 8 2147483648 33 == 3221225472) = true := by kernel_rfl
  have k4 : (doE 8 == 0) = true := by decide
  have hB := Below.refl w.heap.size w
  go_enter Try.func52, Try.ntmps52
  go_wp2_with (go_at_call 66; refine (do_any0 w _ _ _ (by simp [W32]) (by simp [W32]) _ hB).mono ?_; clear hB; rintro e w' ⟨rfl, hB⟩)
  go_ret
  exact ⟨rfl, hB⟩
theorem awake_any0 (w0 : World) (w : World) (hB : Below w0.heap.size w0 w) : Calls Try.prog 52 #[] w fun e w' => e = .returned (.bool true) ∧ Below w0.heap.size w0 w' :=
  (awake_any w).mono (by rintro e w' ⟨rfl, h⟩; exact ⟨rfl, hB.trans (h.mono hB.size)⟩)
end Go.Proofs.Ytjphehncpgekfaa
