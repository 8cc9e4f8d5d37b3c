/- The walk of LabelLeast. -/
import Derived.Test.YtjphehncpgekfaaLabelLaws
namespace Go.Proofs.Ytjphehncpgekfaa
open Go.RowKit
set_option maxHeartbeats 400000
set_option maxRecDepth 100000

set_option maxHeartbeats 8000000 in
theorem least_walk (x y z : Nat) (hx : x < 256) (hy : y < 256) (hz : z < 256) (w : World) :
    Calls Try.prog 8 #[.int .u8 x, .int .u8 y, .int .u8 z] w fun e w' => e = .returned (.bool true) ∧ Below w.heap.size w w' := by
  have HJ := Lib.hid (foldN_two_or x y hx hy)
  have HM := Lib.hid (foldN_two_and x y hx hy)
  have hj : x ||| y < 256 := Nat.or_lt_two_pow (n := 8) hx hy
  have hm : x &&& y < 256 := Nat.lt_of_le_of_lt Nat.and_le_left hx
  have hd : andN x y < 256 := Nat.xor_lt_two_pow (n := 8) (by omega) (Nat.lt_of_le_of_lt Nat.and_le_left (by omega))
  have HJ2 := Lib.hid (foldN_two_or (andN x y) (x &&& y) hd hm)
  have HX := Lib.hid (join_minus x y)
  have HC := Lib.hid (count_sum x y hx hy)
  have f1 : flB x ((x ||| y : Nat) : Int) = true := (flB_iff _ _ hx hj).2 fun c _ h => by rw [Nat.testBit_or, h]; rfl
  have f2 : flB y ((x ||| y : Nat) : Int) = true := (flB_iff _ _ hy hj).2 fun c _ h => by rw [Nat.testBit_or, h]; simp
  have f3 : flB ((x &&& y : Nat) : Int) x = true := (flB_iff _ _ hm hx).2 fun c _ h => by rw [Nat.testBit_and] at h; simp at h; exact h.1
  have f4 : flB ((x &&& y : Nat) : Int) y = true := (flB_iff _ _ hm hy).2 fun c _ h => by rw [Nat.testBit_and] at h; simp at h; exact h.2
  have f5 := flB_join x y z hx hy hz
  have f6 := flB_meet x y z hx hy hz
  have HN : Hid (minusI x y = ((andN x y : Nat) : Int)) := by
    have h1 : isB (x : Int) = true := (isB_iff _).2 (by omega)
    have h2 : isB (y : Int) = true := (isB_iff _).2 (by omega)
    simp [Hid, minusI, h1, h2]
  have c1 := countI_le ((x ||| y : Nat) : Int) ((isB_iff _).2 (by omega))
  have c2 := countI_le ((x &&& y : Nat) : Int) ((isB_iff _).2 (by omega))
  have c3 := countI_le x ((isB_iff _).2 (by omega))
  have c4 := countI_le y ((isB_iff _).2 (by omega))
  generalize (x ||| y) = j at *
  generalize (x &&& y) = m at *
  generalize andN x y = d at *
  have hcc : (countI j + countI m == countI x + countI y) = true := by rw [HC.out]; simp
  have hxx : ((x : Int) == x) = true := by simp
  cases g1 : flB x z <;> cases g2 : flB y z <;> cases g3 : flB z x <;> cases g4 : flB z y
  all_goals
    rw [g1, g2] at f5
    rw [g3, g4] at f6
    simp only [Bool.and_true, Bool.and_false] at f5 f6
    go_enter Try.func8, Try.ntmps8
    go_wp2_with fail
    refine (join_any _ _ _ (rowI_two _ x y _ _ (by simp))).mono ?_; rw [HJ.out]; rintro e w1 ⟨rfl, rfl⟩
    go_wp2_with fail
    refine (meet_any _ _ _ (rowI_two _ x y _ _ (by simp))).mono ?_; rw [HM.out]; rintro e w1 ⟨rfl, rfl⟩
    go_wp2_with (first | (go_at_call 16; refine (flows_any _ _ _).mono ?_; rintro e w' ⟨rfl, rfl⟩) | (go_at_call 33; refine (count_any _ _).mono ?_; rintro e w' ⟨rfl, rfl⟩) | (go_at_call 34; refine (minus_any _ _ _).mono ?_; rw [HN.out]; rintro e w1 ⟨rfl, rfl⟩))
    refine (join_any _ _ _ (rowI_two _ d m _ _ (by simp))).mono ?_; rw [HJ2.out, HX.out]; rintro e w1 ⟨rfl, rfl⟩
    go_wp2_with fail
    refine (awake_any _).mono ?_; rintro e w4 ⟨rfl, hb4⟩
    go_wp2_with fail
    go_ret
    exact ⟨rfl, ((((Below.refl _ _).alloc (Nat.le_refl _) _).alloc (by simp) _).alloc (by simp; omega) _).trans (hb4.mono (by simp; omega))⟩
end Go.Proofs.Ytjphehncpgekfaa
