/- The law AluShifts. -/
import Derived.Test.YtjphehncpgekfaaAluBack
namespace Go.Proofs.Ytjphehncpgekfaa
open Go.RowKit
set_option maxHeartbeats 400000
set_option maxRecDepth 100000
theorem exp1 (K : Int) (h : 0 ≤ K ∧ K ≤ 30) : ((K + 1) % 32).toNat = K.toNat + 1 := by omega
theorem exp0 (K : Int) (h : 0 ≤ K ∧ K ≤ 30) : (K % 32).toNat = K.toNat := by omega
theorem exp32 (K : Int) : (K + 32) % 32 = K % 32 := by omega
theorem sh1 (a K : Int) (h : 0 ≤ K ∧ K ≤ 30) : doV 6 a (K + 1) = doV 1 (doV 6 a K) (doV 6 a K) := by
  rw [dv6, dv6, dv1, exp1 K h, exp0 K h, Int.pow_succ, ← Int.mul_assoc]
  generalize a * 2 ^ K.toNat = s
  omega
theorem sh2 (a K : Int) (ha : W32 a) (h : 0 ≤ K ∧ K ≤ 30) : doV 7 a (K + 1) = doV 12 (doV 7 a K) 2 := by
  obtain ⟨x, rfl, hx⟩ := nat_w32 ha
  rw [dv7, dv7, dv12, exp1 K h, exp0 K h, if_neg (by omega)]
  generalize K.toNat = k
  have e1 : ((x : Int) / 2 ^ (k + 1)) = ((x / 2 ^ (k + 1) : Nat) : Int) := by simp
  have e2 : ((x : Int) / 2 ^ k / 2) = ((x / 2 ^ k / 2 : Nat) : Int) := by simp
  rw [e1, e2, Nat.div_div_eq_div_mul, Nat.pow_succ]
theorem sh3 (a K : Int) (m : Nat) (hm : m < 3) : doV (6 + m) a K = doV (6 + m) a (K + 32) := by
  have : m = 0 ∨ m = 1 ∨ m = 2 := by omega
  rcases this with rfl | rfl | rfl
  · show doV 6 a K = doV 6 a (K + 32); rw [dv6, dv6, exp32]
  · show doV 7 a K = doV 7 a (K + 32); rw [dv7, dv7, exp32]
  · show doV 8 a K = doV 8 a (K + 32); rw [dv8, dv8, exp32]
theorem sh4 (a : Int) (ha : W32 a) (m : Nat) (hm : m < 3) : doV (6 + m) a 0 = a := by
  have : m = 0 ∨ m = 1 ∨ m = 2 := by omega
  have z : ((0 : Int) % 32).toNat = 0 := rfl
  unfold W32 at ha
  rcases this with rfl | rfl | rfl
  · show doV 6 a 0 = a; rw [dv6, z, Int.pow_zero]; omega
  · show doV 7 a 0 = a; rw [dv7, z, Int.pow_zero]; omega
  · show doV 8 a 0 = a; rw [dv8, z, Int.pow_zero]; unfold wrap32; omega
theorem sh5 (a K : Int) (ha : W32 a) : doV 8 (doV 3 a 2147483647) K = doV 7 (doV 3 a 2147483647) K := by
  obtain ⟨x, rfl, hx⟩ := nat_w32 ha
  rw [dv3, show (2147483647 : Int) = ((2147483647 : Nat) : Int) from rfl, u32_and x 2147483647 hx (by decide), dv8, dv7]
  have h := Nat.lt_of_le_of_lt (@Nat.and_le_right x 2147483647) (by decide : 2147483647 < 2147483648)
  generalize x &&& 2147483647 = y at *
  generalize (K % 32).toNat = k
  have hw : wrap32 (y : Int) = y := by unfold wrap32; omega
  rw [hw]
  have e : ((y : Int) / 2 ^ k) = ((y / 2 ^ k : Nat) : Int) := by simp
  have := Nat.div_le_self y (2 ^ k)
  rw [e]
  generalize y / 2 ^ k = q at *
  omega
theorem shifts_walk (a n : Int) (ha : W32 a) (hb : W32 n) (w : World) : Calls Try.prog 14 #[.int .u32 a, .int .u32 n] w fun e w' => e = .returned (.bool true) ∧ Below w.heap.size w w' := by
  have hB := Below.refl w.heap.size w
  have hn : 0 ≤ n ∧ n ≤ 4294967295 := hb
  obtain ⟨K, hK⟩ : ∃ K, n % 31 = K := ⟨_, rfl⟩
  have hk0 : 0 ≤ K ∧ K ≤ 30 := by omega
  have f1 : (doV 6 a (K + 1) != doV 1 (doV 6 a K) (doV 6 a K)) = false := by rw [sh1 a K hk0]; simp
  have f2 : (doV 7 a (K + 1) != doV 12 (doV 7 a K) 2) = false := by rw [sh2 a K ha hk0]; simp
  have f4 : (doV 8 (doV 3 a 2147483647) K == doV 7 (doV 3 a 2147483647) K) = true := by rw [sh5 a K ha]; simp
  go_enter Try.func14, Try.ntmps14
  go_wp2_with (go_at_call 51; refine (ldo_any w _ _ _ (by repeat (first | assumption | apply doV_w32 | exact mod_w32 _ | (unfold W32 at *; omega))) (by repeat (first | assumption | apply doV_w32 | exact mod_w32 _ | (unfold W32 at *; omega))) _ hB).mono ?_; clear hB; rintro e w' ⟨rfl, hB⟩)
  go_loopw [6] (fun k wr => ∃ m : Nat, m ≤ 3 ∧ k = .int .i64 m ∧ Below w.heap.size w wr) (fun k _ => 3 - (intOf k).toNat)
  case atStart => exact ⟨0, by omega, rfl, hB⟩
  case round =>
    clear hB
    obtain ⟨m, hm, rfl, hB⟩ := hrel
    by_cases hlm : m < 3
    · have f3 : (doV (6 + (m : Int)) a K != doV (6 + (m : Int)) a (K + 32)) = false := by rw [← sh3 a K m hlm]; simp
      have f5 : (doV (6 + (m : Int)) a 0 != a) = false := by rw [sh4 a ha m hlm]; simp
      go_wp2_with (go_at_call 51; refine (ldo_any w _ _ _ (by repeat (first | assumption | apply doV_w32 | exact mod_w32 _ | (unfold W32 at *; omega))) (by repeat (first | assumption | apply doV_w32 | exact mod_w32 _ | (unfold W32 at *; omega))) _ hB).mono ?_; clear hB; rintro e w' ⟨rfl, hB⟩)
      go_roundw
      case rel => exact ⟨m + 1, by omega, by go_num, hB⟩
      case measure => simp [intOf]; omega
    · obtain rfl : m = 3 := by omega
      go_wp2_with (first | (go_at_call 51; refine (ldo_any w _ _ _ (by repeat (first | assumption | apply doV_w32 | exact mod_w32 _ | (unfold W32 at *; omega))) (by repeat (first | assumption | apply doV_w32 | exact mod_w32 _ | (unfold W32 at *; omega))) _ hB).mono ?_; clear hB; rintro e w' ⟨rfl, hB⟩) | (go_at_call 52; refine (awake_any0 w _ hB).mono ?_; clear hB; rintro e w' ⟨rfl, hB⟩))
      go_ret
      exact ⟨rfl, hB⟩
end Go.Proofs.Ytjphehncpgekfaa
