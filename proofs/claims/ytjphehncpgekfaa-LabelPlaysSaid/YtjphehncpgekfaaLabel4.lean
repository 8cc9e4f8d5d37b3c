/- The walks of the reference's functions of chapter 01, third part; ints; awake. -/
import Derived.Test.YtjphehncpgekfaaLabel3
namespace Go.Proofs.Ytjphehncpgekfaa
open Go.RowKit
set_option maxHeartbeats 400000
set_option maxRecDepth 100000

def meetL (xs : List Int) : Nat := xs.foldl (fun a x => a &&& x.toNat) 255
theorem foldN_all (g : Nat → Nat → Nat) : ∀ (xs : List Int) (a : Nat), foldN g a xs = if xs.all isB then ((xs.foldl (fun a x => g a x.toNat) a : Nat) : Int) else -1
  | [], a => by simp [foldN]
  | x :: xs, a => by
    rw [foldN, foldN_all g xs]
    cases h : isB x <;> simp [h]
theorem foldl_and_bit (c : Nat) : ∀ (xs : List Int) (a : Nat), (xs.foldl (fun a x => a &&& x.toNat) a).testBit c = (a.testBit c && xs.all (fun x => x.toNat.testBit c))
  | [], a => by simp
  | x :: xs, a => by
    rw [List.foldl_cons, foldl_and_bit c xs]
    simp [Nat.testBit_and, Bool.and_assoc]
theorem meetL_bit (xs : List Int) (c : Nat) (hc : c < 8) : (meetL xs).testBit c = xs.all (fun x => x.toNat.testBit c) := by
  rw [meetL, foldl_and_bit]
  have : (255 : Nat).testBit c = true := by
    rw [show 255 = 2 ^ 8 - 1 from rfl, Nat.testBit_two_pow_sub_one]; simpa using hc
  simp [this]
theorem foldl_and_le : ∀ (xs : List Int) (a : Nat), xs.foldl (fun a x => a &&& x.toNat) a ≤ a
  | [], a => Nat.le_refl _
  | x :: xs, a => Nat.le_trans (foldl_and_le xs _) Nat.and_le_left
theorem meetL_le (xs : List Int) : meetL xs ≤ 255 := foldl_and_le xs 255

theorem all_take_succ (p : Int → Bool) (xs : List Int) (k : Nat) (h : k < xs.length) : (xs.take (k + 1)).all p = ((xs.take k).all p && p xs[k]) := by
  rw [List.take_succ_eq_append_getElem h, List.all_append]; simp
theorem all_of_take (p : Int → Bool) (xs : List Int) (k : Nat) (h : (xs.take k).all p = false) : xs.all p = false := by
  rw [← List.take_append_drop k xs, List.all_append, h]; rfl

theorem Meet_ref (v : Value) (xs : List Int) (w : World) (hr : RowI w .i64 v xs) :
    Calls Try.prog 47 #[v] w fun e w' => e = .returned (.int .i64 (foldN (· &&& ·) 255 xs)) ∧ w = w' := by
  obtain ⟨a, cap, rfl, hc1, hc2, hcell⟩ := hr
  unfold maxLen at hc2
  have HE := Lib.hid (foldN_all (· &&& ·) xs 255)
  go_enter Try.func47, Try.ntmps47
  go_wp2
  go_loop [3] (fun i => ∃ (k : Nat), k ≤ xs.length ∧ i = .int .i64 k ∧ (xs.take k).all isB = true) (fun i => xs.length - (intOf i).toNat)
  case atStart => exact ⟨0, Nat.zero_le _, rfl, by simp⟩
  case round =>
    obtain ⟨k, hk, rfl, hal⟩ := hrel
    have HA := Lib.hid hal; clear hal
    by_cases hlt : k < xs.length
    · obtain ⟨b, off, rfl, hc⟩ := hcell (by intro h; simp [h] at hlt)
      have hck := hc k hlt
      have HS := Lib.hid (all_take_succ isB xs k hlt)
      clear hc
      by_cases hb : isB xs[k] = true
      · have HN : Hid ((xs.take (k + 1)).all isB = true) := by rw [Hid, HS.out, HA.out, hb]; rfl
        generalize xs[k] = x at hck hb
        go_wp2_with (go_at_call 58; refine (Is_any _ _).mono ?_; rintro e w' ⟨rfl, rfl⟩)
        go_round
        case rel => exact ⟨k + 1, by omega, by go_num, HN.out⟩
        case measure => simp [intOf]; omega
      · simp only [Bool.not_eq_true] at hb
        have HN : Hid (xs.all isB = false) := all_of_take _ _ (k + 1) (by rw [HS.out, hb]; simp)
        generalize xs[k] = x at hck hb
        clear HS
        go_wp2_with (go_at_call 58; refine (Is_any _ _).mono ?_; rintro e w' ⟨rfl, rfl⟩)
        go_ret
        exact ⟨ret_int (by rw [HE.out, HN.out]; rfl), rfl⟩
    · have HB : Hid (xs.all isB = true) := by
        have := HA.out
        rwa [List.take_of_length_le (by omega)] at this
      have HF : Hid (foldN (· &&& ·) 255 xs = (meetL xs : Nat)) := by rw [Hid, HE.out, HB.out]; rfl
      clear HE HA
      go_wp2
      go_loop [4, 5, 6] (fun o c _ => ∃ j : Nat, j ≤ 8 ∧ c = .int .i64 j ∧ o = .int .i64 (low (meetL xs) j)) (fun _ c _ => 8 - (intOf c).toNat)
      case atStart => exact ⟨0, by omega, rfl, by simp [low, Nat.mod_one]⟩
      case round =>
        obtain ⟨j, hj, rfl, rfl⟩ := hrel
        by_cases hlj : j < 8
        · have HS := Lib.hid (low_succ (meetL xs) j)
          have HM := Lib.hid (meetL_bit xs j hlj)
          have hlo := low_lt (meetL xs) j (by omega)
          obtain ⟨hp0, hp1⟩ := pow_int8 j hlj
          go_wp2
          go_loop [6, 7] (fun t i => ∃ k : Nat, k ≤ xs.length ∧ i = .int .i64 k ∧ t = .bool ((xs.take k).all (fun x => x.toNat.testBit j))) (fun _ i => xs.length - (intOf i).toNat)
          case atStart => exact ⟨0, by omega, rfl, by simp⟩
          case round =>
            obtain ⟨k, hk, rfl, rfl⟩ := hrel
            by_cases hlt : k < xs.length
            · obtain ⟨b, off, rfl, hc⟩ := hcell (by intro h; simp [h] at hlt)
              have hck := hc k hlt
              have HT := Lib.hid (all_take_succ (fun x => x.toNat.testBit j) xs k hlt)
              clear hc
              have hb := List.all_eq_true.1 HB.out xs[k] (List.getElem_mem hlt)
              obtain ⟨x, hx⟩ : ∃ x : Nat, xs[k] = x := ⟨xs[k].toNat, by have := (isB_iff _).1 hb; omega⟩
              have hx2 : x ≤ 255 := by have := (isB_iff _).1 hb; omega
              have HX : Hid (xs[k].toNat = x) := by rw [Hid, hx]; rfl
              rw [hx] at hck
              clear hx hb
              cases hb1 : (xs.take k).all (fun x => x.toNat.testBit j)
              · go_wp2
                go_round
                case rel => exact ⟨k + 1, by omega, by go_num, by rw [HT.out, hb1]; rfl⟩
                case measure => simp [intOf]; omega
              · go_wp2_with (go_at_call 59; refine (has_any x j (by omega) (by omega) _).mono ?_; rintro e w' ⟨rfl, rfl⟩)
                go_round
                case rel => exact ⟨k + 1, by omega, by go_num, by rw [HT.out, hb1, HX.out]; rfl⟩
                case measure => simp [intOf]; omega
            · have HK : Hid ((xs.take k).all (fun x => x.toNat.testBit j) = (meetL xs).testBit j) := by rw [Hid, HM.out, List.take_of_length_le (by omega)]
              cases hb1 : (xs.take k).all (fun x => x.toNat.testBit j)
              all_goals
                have H2 : Hid ((meetL xs).testBit j = _) := HK.out.symm.trans hb1
                clear HK
                go_wp2
                go_round
                case rel => exact ⟨j + 1, by omega, by go_num, by rw [HS.out, H2.out]; first | rfl | (simp; done)⟩
                case measure => simp [intOf]; omega
        · obtain rfl : j = 8 := by omega
          have HL := Lib.hid (low8 (meetL xs) (by have := meetL_le xs; omega))
          go_wp2
          go_ret
          exact ⟨ret_int (by rw [HF.out, HL.out]), rfl⟩

def validR (l cats : Int) : Bool := decide (0 ≤ cats) && decide (cats ≤ 8) && decide (0 ≤ l) && decide (l < 2 ^ cats.toNat)
theorem Valid_ref (l cats : Int) (w : World) :
    Calls Try.prog 42 #[.int .i64 l, .int .i64 cats] w fun e w' => e = .returned (.bool (validB l cats)) ∧ w = w' := by
  by_cases h1 : cats < 0
  · go_enter Try.func42, Try.ntmps42
    go_wp2
    go_ret
    exact ⟨ret_bool (by simp [validB]; omega), rfl⟩
  · by_cases h2 : 8 < cats
    · have h3 : decide (cats ≤ 8) = false := by simp; omega
      go_enter Try.func42, Try.ntmps42
      go_wp2
      go_ret
      exact ⟨ret_bool (by simp [validB]; omega), rfl⟩
    · obtain ⟨c, rfl⟩ := Int.eq_ofNat_of_zero_le (show 0 ≤ cats by omega)
      have hp : (2 : Nat) ^ c ≤ 2 ^ 8 := Nat.pow_le_pow_right (by decide) (by omega)
      have e : wrap64 (2 ^ c) = 2 ^ c := by
        have e2 : (2 : Int) ^ c = ((2 ^ c : Nat) : Int) := by simp
        simp only [Nat.reducePow] at hp
        rw [e2, IntWalk.wrap64_in]
        generalize 2 ^ c = z at hp ⊢
        omega
      clear hp
      by_cases hl : 0 ≤ l
      · have hl2 : decide (0 ≤ l) = true := by simpa using hl
        go_enter Try.func42, Try.ntmps42
        go_wp2
        go_ret
        exact ⟨ret_bool (by simp [validB, hl]; omega), rfl⟩
      · have hl2 : decide (0 ≤ l) = false := by simpa using hl
        go_enter Try.func42, Try.ntmps42
        go_wp2
        go_ret
        exact ⟨ret_bool (by simp [validB]; omega), rfl⟩
end Go.Proofs.Ytjphehncpgekfaa
