/- The walk of LabelPlays. -/
import Derived.Test.YtjphehncpgekfaaLabelLaws
namespace Go.Proofs.Ytjphehncpgekfaa
open Go.RowKit
set_option maxHeartbeats 400000
set_option maxRecDepth 100000

theorem plays_walk (a b cats : Int) (v : Value) (xs : List Int) (w : World) (hr : RowI w .i64 v xs) (hreach : xs.length * 8 ≤ 140737488351232) :
    Calls Try.prog 12 #[.int .i64 a, .int .i64 b, .int .i64 cats, v] w fun e w' => e = .returned (.bool true) ∧ Below w.heap.size w w' := by
  have h1 : (validB a cats != validB a cats) = false := by simp
  have h2 : (flB a b != flB a b) = false := by simp
  have h3 : (minusI a b != minusI a b) = false := by simp
  have h4 : (countI a != countI a) = false := by simp
  have h5 : (foldN (· ||| ·) 0 xs == foldN (· ||| ·) 0 xs) = true := by simp
  have h6 : (foldN (· &&& ·) 255 xs == foldN (· &&& ·) 255 xs) = true := by simp
  obtain ⟨a1, c1, rfl, hh⟩ : ∃ a1 c1, v = .slice a1 xs.length c1 ∧ True := by obtain ⟨a1, c1, e, _⟩ := hr; exact ⟨a1, c1, e, trivial⟩
  go_enter Try.func12, Try.ntmps12
  go_wp2_with (first | (go_at_call 41; refine (valid_any _ _ _).mono ?_; rintro e w' ⟨rfl, rfl⟩) | (go_at_call 42; refine (Valid_ref _ _ _).mono ?_; rintro e w' ⟨rfl, rfl⟩) | (go_at_call 16; refine (flows_any _ _ _).mono ?_; rintro e w' ⟨rfl, rfl⟩) | (go_at_call 43; refine (Flows_ref _ _ _).mono ?_; rw [flowsR_eq]; rintro e w' ⟨rfl, rfl⟩) | (go_at_call 34; refine (minus_any _ _ _).mono ?_; rintro e w' ⟨rfl, rfl⟩) | (go_at_call 44; refine (Minus_ref _ _ _).mono ?_; rintro e w' ⟨rfl, rfl⟩) | (go_at_call 33; refine (count_any _ _).mono ?_; rintro e w' ⟨rfl, rfl⟩) | (go_at_call 45; refine (Count_ref _ _).mono ?_; rintro e w' ⟨rfl, rfl⟩) | (go_at_call 31; refine (join_any _ _ _ hr).mono ?_; rintro e w' ⟨rfl, rfl⟩) | (go_at_call 46; refine (Join_ref _ _ _ hr).mono ?_; rintro e w' ⟨rfl, rfl⟩) | (go_at_call 32; refine (meet_any _ _ _ hr).mono ?_; rintro e w' ⟨rfl, rfl⟩) | (go_at_call 47; refine (Meet_ref _ _ _ hr).mono ?_; rintro e w' ⟨rfl, rfl⟩))
  refine (Under_any _ _ _ _ hr hreach).mono ?_; rintro e w1 ⟨v1, rfl, hv1, hb1⟩
  obtain ⟨a2, c2, rfl⟩ := hv1.form
  have hr1 := hr.below hb1
  go_wp2_with fail
  refine (Under_ref _ _ _ _ hr1 hreach).mono ?_; rintro e w2 ⟨v2, rfl, hv2, hb2⟩
  have hv1' := hv1.below hb2
  obtain ⟨a3, c3, rfl⟩ := hv2.form
  go_wp2_with fail
  refine (ints_same _ _ _ _ hv1' hv2).mono ?_; rintro e w3 ⟨rfl, hb3⟩
  go_wp2_with fail
  refine (awake_any _).mono ?_; rintro e w4 ⟨rfl, hb4⟩
  go_wp2_with fail
  go_ret
  have s1 := hb1.size; have s2 := hb2.size; have s3 := hb3.size
  exact ⟨rfl, hb1.trans ((hb2.mono s1).trans ((hb3.mono (by omega)).trans (hb4.mono (by omega))))⟩
end Go.Proofs.Ytjphehncpgekfaa
