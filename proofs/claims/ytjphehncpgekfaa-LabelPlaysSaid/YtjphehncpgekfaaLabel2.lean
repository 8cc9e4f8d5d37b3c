/- The walks of label.Parse and of the reference's functions of chapter 01. -/
import Derived.Test.YtjphehncpgekfaaLabel
namespace Go.Proofs.Ytjphehncpgekfaa
open Go.RowKit
set_option maxHeartbeats 400000
set_option maxRecDepth 100000

def parseGo : Nat → List UInt8 → Option Nat
  | l, [] => if l = 0 then none else some l
  | l, b :: bs => if b.toNat < 97 ∨ 105 ≤ b.toNat ∨ l / 2 ^ (b.toNat - 97) ≠ 0 then none else parseGo (l + 2 ^ (b.toNat - 97)) bs
def parseF (s : List UInt8) : Option Nat := if s = [45] then some 0 else parseGo 0 s
def parseV (s : List UInt8) : Int := ((parseF s).getD 0 : Nat)
def parseE (s : List UInt8) : Int := if (parseF s).isSome then 0 else 6

theorem or_pow (l c : Nat) (h : l / 2 ^ c = 0) : l ||| 2 ^ c = l + 2 ^ c := by
  have hl : l < 2 ^ c := by
    rcases Nat.div_eq_zero_iff.1 h with h1 | h1
    · have := Nat.pow_pos (a := 2) (n := c) (by decide); omega
    · exact h1
  have h2 := Nat.two_pow_add_eq_or_of_lt hl 1
  rw [Nat.mul_one] at h2
  rw [Nat.or_comm, Nat.add_comm]
  exact h2.symm

theorem parseGo_cons (x : Nat) (b : UInt8) (bs : List UInt8) : parseGo x (b :: bs) = if b.toNat < 97 ∨ 105 ≤ b.toNat ∨ x / 2 ^ (b.toNat - 97) ≠ 0 then none else parseGo (x + 2 ^ (b.toNat - 97)) bs := rfl

theorem ret_two {k1 k2 : IntKind} {a b c d : Int} (h : a = b) (h' : c = d) : Ending.returned (.tuple #[.int k1 a, .int k2 c]) = .returned (.tuple #[.int k1 b, .int k2 d]) := by rw [h, h']

theorem parse_any (s : ByteArray) (hs : s.size ≤ maxLen) (w : World) :
    Calls Try.prog 24 #[.string s] w fun e w' => e = .returned (.tuple #[.int .i64 (parseV s.data.toList), .int .i64 (parseE s.data.toList)]) ∧ w = w' := by
  unfold maxLen at hs
  by_cases h0 : (s.toList == [45]) = true
  · have e0 : s.data.toList = [45] := by rw [ByteArray.toList_eq] at h0; simpa using h0
    have E0 := Lib.hid e0; clear e0
    go_enter Try.func24, Try.ntmps24
    go_wp2
    go_ret2
    exact ⟨ret_two (by rw [parseV, E0.out]; rfl) (by rw [parseE, E0.out]; rfl), rfl⟩
  · simp only [Bool.not_eq_true] at h0
    have e0 : ¬ s.data.toList = [45] := by rw [ByteArray.toList_eq] at h0; simpa using h0
    have E0 := Lib.hid e0; clear e0
    go_enter Try.func24, Try.ntmps24
    go_wp2
    go_loop [4, 11] (fun l i => ∃ k x : Nat, k ≤ s.size ∧ i = .int .i64 k ∧ l = .int .i64 x ∧ x < 256 ∧ parseF s.data.toList = parseGo x (s.data.toList.drop k)) (fun _ i => s.size - (intOf i).toNat)
    case atStart => exact ⟨0, 0, by omega, rfl, rfl, by omega, by rw [parseF, if_neg E0.out]; rfl⟩
    case round =>
      obtain ⟨k, x, hk, rfl, rfl, hx, he⟩ := hrel
      have HE := Lib.hid he; clear he
      by_cases hlt : k < s.size
      · have hb : s[k].toNat < 256 := s[k].toNat_lt
        have HD : Hid (parseF s.data.toList = if s[k].toNat < 97 ∨ 105 ≤ s[k].toNat ∨ x / 2 ^ (s[k].toNat - 97) ≠ 0 then none else parseGo (x + 2 ^ (s[k].toNat - 97)) (s.data.toList.drop (k + 1))) := by
          have : s.data.toList.drop k = s[k] :: s.data.toList.drop (k + 1) := List.drop_eq_getElem_cons (by simpa using hlt)
          rw [Hid, HE.out, this, parseGo_cons]
        by_cases h1 : s[k].toNat < 97
        · have HN : Hid (parseF s.data.toList = none) := by rw [Hid, HD.out, if_pos (.inl h1)]
          go_wp2
          go_ret2
          exact ⟨ret_two (by rw [parseV, HN.out]; rfl) (by rw [parseE, HN.out]; rfl), rfl⟩
        · by_cases h2 : 105 ≤ s[k].toNat
          · have HN : Hid (parseF s.data.toList = none) := by rw [Hid, HD.out, if_pos (.inr (.inl h2))]
            go_wp2
            go_ret2
            exact ⟨ret_two (by rw [parseV, HN.out]; rfl) (by rw [parseE, HN.out]; rfl), rfl⟩
          · by_cases h3 : x / 2 ^ (s[k].toNat - 97) = 0
            · have HN : Hid (parseF s.data.toList = parseGo (x + 2 ^ (s[k].toNat - 97)) (s.data.toList.drop (k + 1))) := by rw [Hid, HD.out, if_neg (by omega)]
              have hp : 2 ^ (s[k].toNat - 97) ≤ 2 ^ 7 := Nat.pow_le_pow_right (by decide) (by omega)
              have ho := or_pow x _ h3
              have hl : x ||| 2 ^ (s[k].toNat - 97) < 2 ^ 8 := Nat.or_lt_two_pow hx (Nat.pow_lt_pow_right (by decide) (by omega))
              have H1 : Hid (bits BinOp.or IntKind.i64 (x : Int) (wrap64 (2 ^ (s[k].toNat - 97))) = ((x + 2 ^ (s[k].toNat - 97) : Nat) : Int)) := by
                have e : wrap64 (2 ^ (s[k].toNat - 97)) = ((2 ^ (s[k].toNat - 97) : Nat) : Int) := by
                  rw [IntWalk.wrap64_in]
                  · simp
                  · have e2 : (2 : Int) ^ (s[k].toNat - 97) = ((2 ^ (s[k].toNat - 97) : Nat) : Int) := by simp
                    rw [e2]; omega
                rw [Hid, e, i64_or _ _ (by omega) (by omega), ho]
              have hv : x + 2 ^ (s[k].toNat - 97) < 256 := by omega
              have HV := Lib.hid hv
              have hz : ((x : Int) / 2 ^ (s[k].toNat - 97) != 0) = false := by
                rw [show (x : Int) / 2 ^ (s[k].toNat - 97) = ((x / 2 ^ (s[k].toNat - 97) : Nat) : Int) from by simp, h3]; rfl
              clear h3 hp ho hl hv HD
              go_wp2
              go_round
              case rel => exact ⟨k + 1, _, by omega, by go_num, by rw [H1.out], HV.out, HN.out⟩
              case measure => simp [intOf]; omega
            · have HN : Hid (parseF s.data.toList = none) := by rw [Hid, HD.out, if_pos (.inr (.inr h3))]
              have hz : ((x : Int) / 2 ^ (s[k].toNat - 97) != 0) = true := by
                rw [show (x : Int) / 2 ^ (s[k].toNat - 97) = ((x / 2 ^ (s[k].toNat - 97) : Nat) : Int) from by simp]
                simp only [bne_iff_ne, ne_eq]; omega
              clear h3 HD
              go_wp2
              go_ret2
              exact ⟨ret_two (by rw [parseV, HN.out]; rfl) (by rw [parseE, HN.out]; rfl), rfl⟩
      · have HN : Hid (parseF s.data.toList = if x = 0 then none else some x) := by
          rw [Hid, HE.out, List.drop_eq_nil_of_le (by simp; omega)]; rfl
        by_cases hx0 : x = 0
        · have hz : ((x : Int) == 0) = true := by simp; omega
          have HN2 : Hid (parseF s.data.toList = none) := by rw [Hid, HN.out, if_pos hx0]
          clear hx0 HN
          go_wp2
          go_ret2
          exact ⟨ret_two (by rw [parseV, HN2.out]; rfl) (by rw [parseE, HN2.out]; rfl), rfl⟩
        · have hz : ((x : Int) == 0) = false := by simp; omega
          have HN2 : Hid (parseF s.data.toList = some x) := by rw [Hid, HN.out, if_neg hx0]
          clear hx0 HN
          go_wp2
          go_ret2
          exact ⟨ret_two (by rw [parseV, HN2.out]; rfl) (by rw [parseE, HN2.out]; rfl), rfl⟩

theorem Is_any (l : Int) (w : World) :
    Calls Try.prog 58 #[.int .i64 l] w fun e w' => e = .returned (.bool (isB l)) ∧ w = w' := by
  by_cases h : 0 ≤ l
  · have h1 : decide (0 ≤ l) = true := by simpa using h
    go_enter Try.func58, Try.ntmps58
    go_wp2
    go_ret
    refine ⟨ret_bool ?_, rfl⟩
    rw [Bool.eq_iff_iff]; simp [isB, h]; omega
  · have h1 : decide (0 ≤ l) = false := by simpa using h
    go_enter Try.func58, Try.ntmps58
    go_wp2
    go_ret
    simp [isB]; omega

theorem has_any (l c : Nat) (hl : l < 9223372036854775808) (hc : c < 64) (w : World) :
    Calls Try.prog 59 #[.int .i64 l, .int .i64 c] w fun e w' => e = .returned (.bool (l.testBit c)) ∧ w = w' := by
  go_enter Try.func59, Try.ntmps59
  go_wp2
  go_ret
  exact ⟨ret_bool (bit_eq l c hl), rfl⟩

def flR (a b : Nat) (k : Nat) : Bool := decide (∀ c, c < k → a.testBit c = true → b.testBit c = true)
def flowsR (a b : Int) : Bool := isB a && isB b && flR a.toNat b.toNat 8
theorem flR_succ (a b k : Nat) : flR a b (k + 1) = (flR a b k && !(a.testBit k && !b.testBit k)) := by
  rw [Bool.eq_iff_iff]
  simp only [flR, decide_eq_true_eq, Bool.and_eq_true, Bool.not_eq_true', Bool.and_eq_false_iff, Bool.not_eq_false']
  constructor
  · intro h
    refine ⟨fun c hc => h c (by omega), ?_⟩
    cases e : a.testBit k
    · exact .inl rfl
    · exact .inr (h k (by omega) e)
  · rintro ⟨h1, h2⟩ c hc ha
    by_cases e : c = k
    · subst e; rcases h2 with h2 | h2
      · rw [h2] at ha; cases ha
      · exact h2
    · exact h1 c (by omega) ha

theorem flR_lt (a b n k : Nat) (h : k ≤ n) (hf : flR a b k = false) : flR a b n = false := by
  simp only [flR, decide_eq_false_iff_not] at hf ⊢
  exact fun hn => hf fun c hc => hn c (by omega)

theorem Flows_ref (a b : Int) (w : World) :
    Calls Try.prog 43 #[.int .i64 a, .int .i64 b] w fun e w' => e = .returned (.bool (flowsR a b)) ∧ w = w' := by
  by_cases ha : isB a = true
  · by_cases hb : isB b = true
    · obtain ⟨a1, a2⟩ := (isB_iff a).1 ha
      obtain ⟨b1, b2⟩ := (isB_iff b).1 hb
      obtain ⟨m, rfl⟩ := Int.eq_ofNat_of_zero_le a1
      obtain ⟨n, rfl⟩ := Int.eq_ofNat_of_zero_le b1
      have hE : flowsR (m : Int) (n : Int) = flR m n 8 := by simp [flowsR, ha, hb]
      have HE := Lib.hid hE; clear hE
      go_enter Try.func43, Try.ntmps43
      go_wp2_with (go_at_call 58; refine (Is_any _ _).mono ?_; rintro e w' ⟨rfl, rfl⟩)
      go_loop [5] (fun i => ∃ k : Nat, k ≤ 8 ∧ i = .int .i64 k ∧ flR m n k = true) (fun i => 8 - (intOf i).toNat)
      case atStart => exact ⟨0, by omega, rfl, by simp [flR]⟩
      case round =>
        obtain ⟨k, hk, rfl, hf⟩ := hrel
        have HF := Lib.hid hf; clear hf
        by_cases hlt : k < 8
        · have HS := Lib.hid (flR_succ m n k)
          cases hx : m.testBit k <;> cases hy : n.testBit k
          all_goals
            go_wp2_with (go_at_call 59; refine (has_any _ k (by omega) (by omega) _).mono ?_; rintro e w' ⟨rfl, rfl⟩)
            first
              | (go_round
                 case rel => exact ⟨k + 1, by omega, by go_num, by rw [HS.out, HF.out, hx, hy]; rfl⟩
                 case measure => simp [intOf]; omega)
              | (go_ret
                 exact ⟨ret_bool (by rw [HE.out]; have := flR_lt m n 8 (k + 1) (by omega) (by rw [HS.out, hx, hy]; simp); simp [this]), rfl⟩)
        · obtain rfl : k = 8 := by omega
          go_wp2_with fail
          go_ret
          exact ⟨ret_bool (by rw [HE.out, HF.out]), rfl⟩
    · simp only [Bool.not_eq_true] at hb
      go_enter Try.func43, Try.ntmps43
      go_wp2_with (go_at_call 58; refine (Is_any _ _).mono ?_; rintro e w' ⟨rfl, rfl⟩)
      go_ret
      simp [flowsR, ha, hb]
  · simp only [Bool.not_eq_true] at ha
    go_enter Try.func43, Try.ntmps43
    go_wp2_with (go_at_call 58; refine (Is_any _ _).mono ?_; rintro e w' ⟨rfl, rfl⟩)
    go_ret
    simp [flowsR, ha]

/-- Those of the first k bits that are in a alone. -/
def low (a k : Nat) : Nat := a % 2 ^ k
theorem low_succ (a k : Nat) : low a (k + 1) = low a k + if a.testBit k then 2 ^ k else 0 := by
  simp only [low, Nat.mod_pow_succ]
  have := testBit_div a k
  cases h : a.testBit k
  · rw [h] at this; simp at this; rw [this]; simp
  · rw [h] at this; simp at this; rw [this]; simp
theorem pow_lt8 (k : Nat) (h : k < 8) : 2 ^ k ≤ 128 := by
  have : 2 ^ k ≤ 2 ^ 7 := Nat.pow_le_pow_right (by decide) (by omega)
  simpa using this
theorem pow_int8 (k : Nat) (h : k < 8) : 0 ≤ (2 : Int) ^ k ∧ (2 : Int) ^ k ≤ 128 := by
  have := pow_lt8 k h
  have e2 : (2 : Int) ^ k = ((2 ^ k : Nat) : Int) := by simp
  rw [e2]
  generalize 2 ^ k = z at this ⊢
  omega
theorem low_lt (a k : Nat) (h : k ≤ 8) : low a k < 256 := by
  have h1 : low a k < 2 ^ k := Nat.mod_lt _ (Nat.pow_pos (by decide))
  have h2 : 2 ^ k ≤ 2 ^ 8 := Nat.pow_le_pow_right (by decide) h
  simp only [Nat.reducePow] at h2
  omega
theorem shl_one (k : Nat) (h : k < 8) : IntKind.i64.wrap (1 * 2 ^ k) = ((2 ^ k : Nat) : Int) := by
  have := pow_lt8 k h
  have e2 : (2 : Int) ^ k = ((2 ^ k : Nat) : Int) := by simp
  rw [Int.one_mul, e2]
  exact wrap64_nat _ (by omega)
theorem shl_one' (k : Nat) (h : k < 8) : wrap64 (2 ^ k) = ((2 ^ k : Nat) : Int) := by
  have := pow_lt8 k h
  have e2 : (2 : Int) ^ k = ((2 ^ k : Nat) : Int) := by simp
  rw [e2, IntWalk.wrap64_in]
  generalize 2 ^ k = z at this ⊢
  omega
theorem low8 (a : Nat) (h : a < 256) : low a 8 = a := Nat.mod_eq_of_lt h

theorem Minus_ref (a b : Int) (w : World) :
    Calls Try.prog 44 #[.int .i64 a, .int .i64 b] w fun e w' => e = .returned (.int .i64 (minusI a b)) ∧ w = w' := by
  by_cases ha : isB a = true
  · by_cases hb : isB b = true
    · obtain ⟨a1, a2⟩ := (isB_iff a).1 ha
      obtain ⟨b1, b2⟩ := (isB_iff b).1 hb
      obtain ⟨m, rfl⟩ := Int.eq_ofNat_of_zero_le a1
      obtain ⟨n, rfl⟩ := Int.eq_ofNat_of_zero_le b1
      have hx : andN m n < 256 := Nat.xor_lt_two_pow (n := 8) (by omega) (Nat.lt_of_le_of_lt Nat.and_le_left (by omega))
      have HE : Hid (minusI (m : Int) (n : Int) = (andN m n : Nat)) := by simp [Hid, minusI, ha, hb]
      obtain ⟨d, hd⟩ : ∃ d, d = andN m n := ⟨_, rfl⟩
      have HD := Lib.hid hd
      rw [← hd] at hx
      clear hd
      go_enter Try.func44, Try.ntmps44
      go_wp2_with (go_at_call 58; refine (Is_any _ _).mono ?_; rintro e w' ⟨rfl, rfl⟩)
      go_loop [5, 6] (fun o i => ∃ k : Nat, k ≤ 8 ∧ i = .int .i64 k ∧ o = .int .i64 (low d k)) (fun _ i => 8 - (intOf i).toNat)
      case atStart => exact ⟨0, by omega, rfl, by simp [low, Nat.mod_one]⟩
      case round =>
        obtain ⟨k, hk, rfl, rfl⟩ := hrel
        by_cases hlt : k < 8
        · have HS := Lib.hid (low_succ d k)
          have hlo := low_lt d k (by omega)
          have hlo2 := low_lt d (k + 1) (by omega)
          have hb1 : d.testBit k = (m.testBit k && !n.testBit k) := by rw [HD.out, andN_testBit]
          obtain ⟨hp0, hp1⟩ := pow_int8 k hlt
          cases hx : m.testBit k <;> cases hy : n.testBit k
          all_goals
            have HB : Hid (low d (k + 1) = low d k + if (m.testBit k && !n.testBit k) then 2 ^ k else 0) := by rw [Hid, HS.out, hb1]
            clear hb1
            go_wp2_with (go_at_call 59; refine (has_any _ k (by omega) (by omega) _).mono ?_; rintro e w' ⟨rfl, rfl⟩)
            go_round
            case rel => exact ⟨k + 1, by omega, by go_num, by rw [HB.out, hx, hy]; first | rfl | (simp; done)⟩
            case measure => simp [intOf]; omega
        · obtain rfl : k = 8 := by omega
          go_wp2_with fail
          go_ret
          exact ⟨ret_int (by rw [HE.out, low8 d hx, HD.out]), rfl⟩
    · simp only [Bool.not_eq_true] at hb
      go_enter Try.func44, Try.ntmps44
      go_wp2_with (go_at_call 58; refine (Is_any _ _).mono ?_; rintro e w' ⟨rfl, rfl⟩)
      go_ret
      simp [minusI, ha, hb]
  · simp only [Bool.not_eq_true] at ha
    go_enter Try.func44, Try.ntmps44
    go_wp2_with (go_at_call 58; refine (Is_any _ _).mono ?_; rintro e w' ⟨rfl, rfl⟩)
    go_ret
    simp [minusI, ha]
end Go.Proofs.Ytjphehncpgekfaa
