/- The law AluLess. -/
import Derived.Test.YtjphehncpgekfaaAluBack
namespace Go.Proofs.Ytjphehncpgekfaa
open Go.RowKit
set_option maxHeartbeats 400000
set_option maxRecDepth 100000
/-- Does a branch go? -/
def takV (op a b : Int) : Bool := if op = 28 then a == b else if op = 29 then a != b else if op = 30 then doV 9 a b == 1 else if op = 31 then doV 10 a b == 1 else false
def takE (op : Int) : Int := if op = 28 ∨ op = 29 ∨ op = 30 ∨ op = 31 then 0 else 1
def TakPost (op a b : Int) (w0 : World) (e : Ending) (w' : World) : Prop := e = .returned (.tuple #[.bool (takV op a b), .int .i64 (takE op)]) ∧ Below w0.heap.size w0 w'
theorem ov9 (a b : Int) : opV 9 a b = doV 9 a b := by simp [doV]
theorem ov10 (a b : Int) : opV 10 a b = doV 10 a b := by simp [doV]
theorem tak_any (w0 : World) (op a b : Int) (ha : W32 a) (hb : W32 b) (w : World) (hB : Below w0.heap.size w0 w) : Calls Try.prog 53 #[.int .i64 op, .int .u32 a, .int .u32 b] w (TakPost op a b w0) := by
  have HB := Lib.hid hB; clear hB
  have ha' : 0 ≤ a ∧ a ≤ 4294967295 := ha
  have hb' : 0 ≤ b ∧ b ≤ 4294967295 := hb
  have c0 : Hid (Below w0.heap.size w0 (w.alloc (.cells #[.int .u32 a, .int .u32 b] 97))) := HB.out.alloc HB.out.size _
  by_cases h28 : op = 28
  · subst h28
    go_enter Try.func53, Try.ntmps53
    go_wp2
    go_ret2
    exact ⟨rfl, c0.out⟩
  · by_cases h29 : op = 29
    · subst h29
      go_enter Try.func53, Try.ntmps53
      go_wp2
      go_ret2
      exact ⟨rfl, c0.out⟩
    · by_cases h30 : op = 30
      · subst h30
        go_enter Try.func53, Try.ntmps53
        go_wp2_with fail
        refine (m_below a b ha hb _).mono ?_; rintro e w1 ⟨rfl, hb1⟩
        rw [ov9]
        go_wp2_with fail
        go_ret2
        exact ⟨rfl, c0.out.trans (hb1.mono c0.out.size)⟩
      · by_cases h31 : op = 31
        · subst h31
          go_enter Try.func53, Try.ntmps53
          go_wp2_with fail
          refine (m_under a b ha hb _).mono ?_; rintro e w1 ⟨rfl, hb1⟩
          rw [ov10]
          go_wp2_with fail
          go_ret2
          exact ⟨rfl, c0.out.trans (hb1.mono c0.out.size)⟩
        · have HV : Hid (takV op a b = false) := by simp [Hid, takV, h28, h29, h30, h31]
          have HE : Hid (takE op = 1) := by simp [Hid, takE, h28, h29, h30, h31]
          have e28 : (op == 28) = false := by simpa using h28
          have e29 : (op == 29) = false := by simpa using h29
          have e30 : (op == 30) = false := by simpa using h30
          have e31 : (op == 31) = false := by simpa using h31
          clear h28 h29 h30 h31
          go_enter Try.func53, Try.ntmps53
          go_wp2
          go_ret2
          unfold TakPost
          rw [HV.out, HE.out]
          exact ⟨rfl, c0.out⟩
theorem less_cases (a b : Int) (ha : W32 a) (hb : W32 b) (m : Nat) (hm : m < 2) :
    (a = b ∧ doV (9 + m) a b = 0 ∧ doV (9 + m) b a = 0) ∨ ((a == b) = false ∧ doV (9 + m) a b = 1 ∧ doV (9 + m) b a = 0) ∨ ((a == b) = false ∧ doV (9 + m) a b = 0 ∧ doV (9 + m) b a = 1) := by
  unfold W32 at *
  have : m = 0 ∨ m = 1 := by omega
  rcases this with rfl | rfl
  · show (a = b ∧ doV 9 a b = 0 ∧ doV 9 b a = 0) ∨ ((a == b) = false ∧ doV 9 a b = 1 ∧ doV 9 b a = 0) ∨ ((a == b) = false ∧ doV 9 a b = 0 ∧ doV 9 b a = 1)
    rw [dv9, dv9]
    unfold wrap32
    by_cases h : a = b
    · subst h; left; simp
    · by_cases h1 : (a + 2147483648) % 4294967296 - 2147483648 < (b + 2147483648) % 4294967296 - 2147483648
      · right; left
        have h2 : ¬ ((b + 2147483648) % 4294967296 - 2147483648 < (a + 2147483648) % 4294967296 - 2147483648) := by omega
        simp [h, h1, h2]
      · right; right
        have h2 : (b + 2147483648) % 4294967296 - 2147483648 < (a + 2147483648) % 4294967296 - 2147483648 := by omega
        simp [h, h1, h2]
  · show (a = b ∧ doV 10 a b = 0 ∧ doV 10 b a = 0) ∨ ((a == b) = false ∧ doV 10 a b = 1 ∧ doV 10 b a = 0) ∨ ((a == b) = false ∧ doV 10 a b = 0 ∧ doV 10 b a = 1)
    rw [dv10, dv10]
    by_cases h : a = b
    · subst h; left; simp
    · by_cases h1 : a < b
      · right; left
        have h2 : ¬ b < a := by omega
        simp [h, h1, h2]
      · right; right
        have h2 : b < a := by omega
        simp [h, h1, h2]
theorem tk (a b : Int) (m : Nat) (hm : m < 2) : takV (30 + m) a b = (doV (9 + m) a b == 1) ∧ takE (30 + m) = 0 := by
  have : m = 0 ∨ m = 1 := by omega
  rcases this with rfl | rfl <;> exact ⟨rfl, rfl⟩
theorem less_walk (a b : Int) (ha : W32 a) (hb : W32 b) (w : World) : Calls Try.prog 15 #[.int .u32 a, .int .u32 b] w fun e w' => e = .returned (.bool true) ∧ Below w.heap.size w w' := by
  have hB := Below.refl w.heap.size w
  go_enter Try.func15, Try.ntmps15
  go_wp2_with fail
  go_loopw [5] (fun k wr => ∃ m : Nat, m ≤ 2 ∧ k = .int .i64 m ∧ Below w.heap.size w wr) (fun k _ => 2 - (intOf k).toNat)
  case atStart => exact ⟨0, by omega, rfl, hB⟩
  case round =>
    clear hB
    obtain ⟨m, hm, rfl, hB⟩ := hrel
    by_cases hlm : m < 2
    · have t1 := (tk a b m hlm).1
      have t2 := (tk a b m hlm).2
      rcases less_cases a b ha hb m hlm with ⟨hab, hL, hM⟩ | ⟨hab, hL, hM⟩ | ⟨hab, hL, hM⟩
      · subst hab
        rw [hL] at t1
        go_wp2_with (first | (go_at_call 51; refine (ldo_any w _ _ _ (by repeat (first | assumption | apply doV_w32 | exact mod_w32 _ | (unfold W32 at *; omega))) (by repeat (first | assumption | apply doV_w32 | exact mod_w32 _ | (unfold W32 at *; omega))) _ hB).mono ?_; clear hB; rintro e w' ⟨rfl, hB⟩) | (go_at_call 53; refine (tak_any w _ _ _ (by assumption) (by assumption) _ hB).mono ?_; clear hB; rintro e w' ⟨rfl, hB⟩))
        go_roundw
        case rel => exact ⟨m + 1, by omega, by go_num, hB⟩
        case measure => simp [intOf]; omega
      · rw [hL] at t1
        go_wp2_with (first | (go_at_call 51; refine (ldo_any w _ _ _ (by repeat (first | assumption | apply doV_w32 | exact mod_w32 _ | (unfold W32 at *; omega))) (by repeat (first | assumption | apply doV_w32 | exact mod_w32 _ | (unfold W32 at *; omega))) _ hB).mono ?_; clear hB; rintro e w' ⟨rfl, hB⟩) | (go_at_call 53; refine (tak_any w _ _ _ (by assumption) (by assumption) _ hB).mono ?_; clear hB; rintro e w' ⟨rfl, hB⟩))
        go_roundw
        case rel => exact ⟨m + 1, by omega, by go_num, hB⟩
        case measure => simp [intOf]; omega
      · rw [hL] at t1
        go_wp2_with (first | (go_at_call 51; refine (ldo_any w _ _ _ (by repeat (first | assumption | apply doV_w32 | exact mod_w32 _ | (unfold W32 at *; omega))) (by repeat (first | assumption | apply doV_w32 | exact mod_w32 _ | (unfold W32 at *; omega))) _ hB).mono ?_; clear hB; rintro e w' ⟨rfl, hB⟩) | (go_at_call 53; refine (tak_any w _ _ _ (by assumption) (by assumption) _ hB).mono ?_; clear hB; rintro e w' ⟨rfl, hB⟩))
        go_roundw
        case rel => exact ⟨m + 1, by omega, by go_num, hB⟩
        case measure => simp [intOf]; omega
    · obtain rfl : m = 2 := by omega
      have s1 : takV 28 a b = (a == b) := rfl
      have s2 : takV 29 a b = (a != b) := rfl
      have s3 : takE 28 = 0 := rfl
      have s4 : takE 29 = 0 := rfl
      by_cases hab : a = b
      · subst hab
        have u1 : takV 28 a a = true := by rw [s1]; simp
        have u2 : takV 29 a a = false := by rw [s2]; simp
        clear s1 s2
        go_wp2_with (first | (go_at_call 53; refine (tak_any w _ _ _ (by assumption) (by assumption) _ hB).mono ?_; clear hB; rintro e w' ⟨rfl, hB⟩) | (go_at_call 52; refine (awake_any0 w _ hB).mono ?_; clear hB; rintro e w' ⟨rfl, hB⟩))
        go_ret
        exact ⟨rfl, hB⟩
      · have hab' : (a == b) = false := by simpa using hab
        have u1 : takV 28 a b = false := by rw [s1]; exact hab'
        have u2 : takV 29 a b = true := by rw [s2]; simpa using hab
        clear s1 s2 hab
        go_wp2_with (first | (go_at_call 53; refine (tak_any w _ _ _ (by assumption) (by assumption) _ hB).mono ?_; clear hB; rintro e w' ⟨rfl, hB⟩) | (go_at_call 52; refine (awake_any0 w _ hB).mono ?_; clear hB; rintro e w' ⟨rfl, hB⟩))
        go_ret
        exact ⟨rfl, hB⟩
end Go.Proofs.Ytjphehncpgekfaa
