/- The walks of the reference's functions of chapter 01, second part. -/
import Derived.Test.YtjphehncpgekfaaLabel2
namespace Go.Proofs.Ytjphehncpgekfaa
open Go.RowKit
set_option maxHeartbeats 400000
set_option maxRecDepth 100000

def cntR (l k : Nat) : Nat := ((List.range k).filter (fun c => l.testBit c)).length
theorem cntR_succ (l k : Nat) : cntR l (k + 1) = cntR l k + if l.testBit k then 1 else 0 := by
  simp only [cntR, List.range_succ, List.filter_append, List.length_append]
  congr 1
  cases h : l.testBit k <;> simp [List.filter, h]
theorem cntR_le (l k : Nat) : cntR l k ≤ k := Nat.le_trans (List.length_filter_le _ _) (by simp)
theorem cntR_countN : ∀ l : Fin 256, countN l.val l.val = cntR l.val 8 := by decide +kernel

theorem Count_ref (a : Int) (w : World) :
    Calls Try.prog 45 #[.int .i64 a] w fun e w' => e = .returned (.int .i64 (countI a)) ∧ w = w' := by
  by_cases ha : isB a = true
  · obtain ⟨a1, a2⟩ := (isB_iff a).1 ha
    obtain ⟨m, rfl⟩ := Int.eq_ofNat_of_zero_le a1
    have HE : Hid (countI (m : Int) = (cntR m 8 : Nat)) := by
      have := cntR_countN ⟨m, by omega⟩
      simp only [Hid, countI, ha, if_true, Int.toNat_natCast]
      rw [this]
    go_enter Try.func45, Try.ntmps45
    go_wp2_with (go_at_call 58; refine (Is_any _ _).mono ?_; rintro e w' ⟨rfl, rfl⟩)
    go_loop [3, 4] (fun o i => ∃ k : Nat, k ≤ 8 ∧ i = .int .i64 k ∧ o = .int .i64 (cntR m k)) (fun _ i => 8 - (intOf i).toNat)
    case atStart => exact ⟨0, by omega, rfl, by simp [cntR]⟩
    case round =>
      obtain ⟨k, hk, rfl, rfl⟩ := hrel
      by_cases hlt : k < 8
      · have HS := Lib.hid (cntR_succ m k)
        have hle := cntR_le m k
        cases hx : m.testBit k
        all_goals
          go_wp2_with (go_at_call 59; refine (has_any _ k (by omega) (by omega) _).mono ?_; rintro e w' ⟨rfl, rfl⟩)
          go_round
          case rel => exact ⟨k + 1, by omega, by go_num, by rw [HS.out, hx]; first | rfl | (simp; done)⟩
          case measure => simp [intOf]; omega
      · obtain rfl : k = 8 := by omega
        go_wp2_with fail
        go_ret
        exact ⟨ret_int (by rw [HE.out]), rfl⟩
  · simp only [Bool.not_eq_true] at ha
    go_enter Try.func45, Try.ntmps45
    go_wp2_with (go_at_call 58; refine (Is_any _ _).mono ?_; rintro e w' ⟨rfl, rfl⟩)
    go_ret
    simp [countI, ha]

theorem low_testBit (x k i : Nat) : (low x k).testBit i = (decide (i < k) && x.testBit i) := Nat.testBit_mod_two_pow ..
theorem or_pow8 : ∀ k : Fin 8, ∀ y : Fin 256, y.val.testBit k.val = false → y.val ||| 2 ^ k.val = y.val + 2 ^ k.val := by decide +kernel
theorem orlow_succ (acc x k : Nat) (hk : k < 8) (ha : acc < 256) : acc ||| low x (k + 1) = if x.testBit k && !(acc ||| low x k).testBit k then (acc ||| low x k) + 2 ^ k else acc ||| low x k := by
  have hy : acc ||| low x k < 256 := Nat.or_lt_two_pow (n := 8) ha (low_lt x k (by omega))
  have e : acc ||| low x (k + 1) = (acc ||| low x k) ||| (if x.testBit k then 2 ^ k else 0) := by
    apply Nat.eq_of_testBit_eq
    intro i
    cases hx : x.testBit k
    · simp only [Nat.testBit_or, low_testBit]
      by_cases hi : i = k
      · subst hi; simp [hx]
      · have : (i < k + 1) ↔ i < k := by omega
        simp [this]
    · simp only [Nat.testBit_or, low_testBit, if_true, Nat.testBit_two_pow]
      by_cases hi : i = k
      · subst hi; simp [hx]
      · have : (i < k + 1) ↔ i < k := by omega
        simp [this, Ne.symm hi]
  rw [e]
  cases hx : x.testBit k
  · simp
  · cases hb : (acc ||| low x k).testBit k
    · have := or_pow8 ⟨k, hk⟩ ⟨_, hy⟩ hb
      simpa using this
    · simp only [if_true, Bool.not_true, Bool.and_false, Bool.false_eq_true, if_false]
      apply Nat.eq_of_testBit_eq
      intro i
      rw [Nat.testBit_or, Nat.testBit_two_pow]
      by_cases hi : k = i
      · subst hi; simp [hb]
      · simp [hi]

theorem Join_ref (v : Value) (xs : List Int) (w : World) (hr : RowI w .i64 v xs) :
    Calls Try.prog 46 #[v] w fun e w' => e = .returned (.int .i64 (foldN (· ||| ·) 0 xs)) ∧ w = w' := by
  obtain ⟨a, cap, rfl, hc1, hc2, hcell⟩ := hr
  unfold maxLen at hc2
  go_enter Try.func46, Try.ntmps46
  go_wp2
  go_loop [3, 4] (fun o i => ∃ (k acc : Nat), k ≤ xs.length ∧ i = .int .i64 k ∧ acc < 256 ∧ o = .int .i64 acc ∧ foldN (· ||| ·) 0 xs = foldN (· ||| ·) acc (xs.drop k)) (fun _ i => xs.length - (intOf i).toNat)
  case atStart => exact ⟨0, 0, Nat.zero_le _, rfl, by decide, rfl, by simp⟩
  case round =>
    obtain ⟨k, acc, hk, rfl, hacc, rfl, heq⟩ := hrel
    have HE := Lib.hid heq; clear heq
    by_cases hlt : k < xs.length
    · obtain ⟨b, off, rfl, hc⟩ := hcell (by intro h; simp [h] at hlt)
      have hck := hc k hlt
      have HD := Lib.hid (foldN_drop (· ||| ·) acc xs k hlt)
      clear hc
      by_cases hb : isB xs[k] = true
      · obtain ⟨x, hx⟩ : ∃ x : Nat, xs[k] = x := ⟨xs[k].toNat, by have := (isB_iff _).1 hb; omega⟩
        have hx2 : x ≤ 255 := by have := (isB_iff _).1 hb; omega
        have HN : Hid (foldN (· ||| ·) 0 xs = foldN (· ||| ·) (acc ||| x) (xs.drop (k + 1))) := by rw [Hid, HE.out, HD.out, if_pos hb, hx]; rfl
        rw [hx] at hck hb
        clear hx HD HE
        go_wp2_with (go_at_call 58; refine (Is_any _ _).mono ?_; rintro e w' ⟨rfl, rfl⟩)
        go_loop [3, 5] (fun o c => ∃ j : Nat, j ≤ 8 ∧ c = .int .i64 j ∧ o = .int .i64 ((acc ||| low x j : Nat) : Int)) (fun _ c => 8 - (intOf c).toNat)
        case atStart => exact ⟨0, by omega, rfl, by simp [low, Nat.mod_one]⟩
        case round =>
          obtain ⟨j, hj, rfl, rfl⟩ := hrel
          by_cases hlj : j < 8
          · have HS := Lib.hid (orlow_succ acc x j hlj hacc)
            have hy : acc ||| low x j < 256 := Nat.or_lt_two_pow (n := 8) hacc (low_lt x j (by omega))
            obtain ⟨y, hye⟩ : ∃ y, y = acc ||| low x j := ⟨_, rfl⟩
            rw [← hye] at hy HS ⊢
            clear hye
            obtain ⟨hp0, hp1⟩ := pow_int8 j hlj
            cases hx : x.testBit j <;> cases hyb : y.testBit j
            all_goals
              go_wp2_with (go_at_call 59; refine (has_any _ j (by omega) (by omega) _).mono ?_; rintro e w' ⟨rfl, rfl⟩)
              go_round
              case rel => exact ⟨j + 1, by omega, by go_num, by rw [HS.out, hx, hyb]; first | rfl | (simp; done)⟩
              case measure => simp [intOf]; omega
          · obtain rfl : j = 8 := by omega
            have HL := Lib.hid (low8 x (by omega))
            have hor : acc ||| x < 256 := Nat.or_lt_two_pow (n := 8) hacc (by omega)
            go_wp2
            go_round
            case rel => exact ⟨k + 1, acc ||| x, by omega, by go_num, hor, by rw [HL.out], HN.out⟩
            case measure => simp [intOf]; omega
      · have HN : Hid (foldN (· ||| ·) 0 xs = -1) := by rw [Hid, HE.out, HD.out, if_neg hb]
        simp only [Bool.not_eq_true] at hb
        generalize xs[k] = x at hck hb
        clear HD HE
        go_wp2_with (go_at_call 58; refine (Is_any _ _).mono ?_; rintro e w' ⟨rfl, rfl⟩)
        go_ret
        exact ⟨ret_int (by rw [HN.out]), rfl⟩
    · have HN : Hid (foldN (· ||| ·) 0 xs = acc) := by rw [Hid, HE.out, List.drop_eq_nil_of_le (by omega)]; rfl
      go_wp2
      go_ret
      exact ⟨ret_int (by rw [HN.out]), rfl⟩
end Go.Proofs.Ytjphehncpgekfaa
