/- Contracts (Isa): Isa, Isa2, Isa3, Isa4, IsaLaws. -/
import Derived.Test.YtbemhbooihaadaaDoorFlat
import Derived.Test.YtbemhbooihaadaaDoorRows
import Derived.Laws.BitsAllLaws
namespace Go.Proofs.YtbemhbooihaadaaDoor
set_option linter.unusedVariables false
set_option linter.unusedSimpArgs false
set_option linter.unnecessarySimpa false
namespace Isa
set_option maxHeartbeats 4000000
set_option maxRecDepth 100000
section
open Go.RowKit
def hasL : List Int := [0, 7, 7, 7, 7, 7, 7, 7, 7, 7, 7, 7, 7, 7, 11, 11, 11, 11, 11, 11, 11, 11, 9, 11, 11, 11, 14, 14, 14, 14, 14, 14, 9, 11, 0, 0, 0, 9, 10, 0, 0, 0]
def hasI (op : Nat) : Int := hasL.getD op 0
/-- The table lies in memory. -/
def Tab (w : World) : Prop := ∀ i, i < 42 → w.cell? ⟨0, i, none⟩ = some (.int .i64 (hasI i))
theorem Tab.below {w w' : World} (h : Tab w) (hb : Below w.heap.size w w') : Tab w' := fun i hi => by
  rw [hb.cell (p := ⟨0, i, none⟩) (World.block_lt_of_cell? w _ (h i hi))]
  exact h i hi
def realB (op : Int) : Bool := decide (1 ≤ op) && decide (op ≤ 41)
theorem real_any (op : Int) (w : World) : Calls Tryd.prog 33 #[.int .i64 op] w fun e w' => e = .returned (.bool (realB op)) ∧ w = w' := by
  by_cases h : 1 ≤ op
  · have h1 : decide (1 ≤ op) = true := by simpa using h
    go_enter Tryd.func33, Tryd.ntmps33
    go_wp2
    go_ret
    exact ⟨ret_bool (by simp [realB, h]), rfl⟩
  · have h1 : decide (1 ≤ op) = false := by simpa using h
    go_enter Tryd.func33, Tryd.ntmps33
    go_wp2
    go_ret
    exact ⟨ret_bool (by simp [realB]; omega), rfl⟩
def regB (may : Bool) (n : Int) : Bool := if may then decide (0 ≤ n) && decide (n < 16) else n == 0
theorem register_any (may : Bool) (n : Int) (w : World) : Calls Tryd.prog 34 #[.bool may, .int .i64 n] w fun e w' => e = .returned (.bool (regB may n)) ∧ w = w' := by
  cases may
  · go_enter Tryd.func34, Tryd.ntmps34
    go_wp2
    go_ret
    exact ⟨ret_bool (by simp [regB]), rfl⟩
  · by_cases h : 0 ≤ n
    · have h1 : decide (0 ≤ n) = true := by simpa using h
      go_enter Tryd.func34, Tryd.ntmps34
      go_wp2
      go_ret
      exact ⟨ret_bool (by simp [regB, h]), rfl⟩
    · have h1 : decide (0 ≤ n) = false := by simpa using h
      go_enter Tryd.func34, Tryd.ntmps34
      go_wp2
      go_ret
      exact ⟨ret_bool (by simp [regB]; omega), rfl⟩
def immB (op : Nat) (n : Int) : Bool :=
  if op = 18 ∨ op = 19 ∨ op = 20 then decide (0 ≤ n) && decide (n ≤ 31)
  else if op = 37 ∨ op = 38 then decide (0 ≤ n) && decide (n < 9)
  else if bits BinOp.and IntKind.i64 (hasI op) 8 == 0 then n == 0 else decide (-8192 ≤ n) && decide (n ≤ 8191)
theorem imm_any (op : Nat) (n : Int) (hop : op < 42) (w : World) (ht : Tab w) : Calls Tryd.prog 35 #[.int .i64 op, .int .i64 n] w fun e w' => e = .returned (.bool (immB op n)) ∧ w = w' := by
  have hc := ht op hop
  clear ht
  by_cases h1 : op = 18 ∨ op = 19 ∨ op = 20
  · have e1 : immB op n = (decide (0 ≤ n) && decide (n ≤ 31)) := by rw [immB, if_pos h1]
    have E := Lib.hid e1; clear e1
    by_cases hn : 0 ≤ n
    · have h2 : decide (0 ≤ n) = true := by simpa using hn
      rcases h1 with rfl | rfl | rfl
      all_goals
        go_enter Tryd.func35, Tryd.ntmps35
        go_wp2
        go_ret
        exact ⟨ret_bool (by rw [E.out]; simp [hn]), rfl⟩
    · have h2 : decide (0 ≤ n) = false := by simpa using hn
      rcases h1 with rfl | rfl | rfl
      all_goals
        go_enter Tryd.func35, Tryd.ntmps35
        go_wp2
        go_ret
        exact ⟨ret_bool (by rw [E.out]; simp; omega), rfl⟩
  · by_cases h2 : op = 37 ∨ op = 38
    · have e1 : immB op n = (decide (0 ≤ n) && decide (n < 9)) := by rw [immB, if_neg h1, if_pos h2]
      have E := Lib.hid e1; clear e1
      by_cases hn : 0 ≤ n
      · have h3 : decide (0 ≤ n) = true := by simpa using hn
        rcases h2 with rfl | rfl
        all_goals
          go_enter Tryd.func35, Tryd.ntmps35
          go_wp2
          go_ret
          exact ⟨ret_bool (by rw [E.out]; simp [hn]), rfl⟩
      · have h3 : decide (0 ≤ n) = false := by simpa using hn
        rcases h2 with rfl | rfl
        all_goals
          go_enter Tryd.func35, Tryd.ntmps35
          go_wp2
          go_ret
          exact ⟨ret_bool (by rw [E.out]; simp; omega), rfl⟩
    · have g1 : ((op : Int) == 18) = false := by simp; omega
      have g2 : ((op : Int) == 19) = false := by simp; omega
      have g3 : ((op : Int) == 20) = false := by simp; omega
      have g4 : ((op : Int) == 37) = false := by simp; omega
      have g5 : ((op : Int) == 38) = false := by simp; omega
      cases hb : bits BinOp.and IntKind.i64 (hasI op) 8 == 0
      · have e1 : immB op n = (decide (-8192 ≤ n) && decide (n ≤ 8191)) := by rw [immB, if_neg h1, if_neg h2, hb]; rfl
        have E := Lib.hid e1; clear e1 h1 h2
        by_cases hn : -8192 ≤ n
        · have h3 : decide (-8192 ≤ n) = true := by simpa using hn
          go_enter Tryd.func35, Tryd.ntmps35
          go_wp2
          go_ret
          exact ⟨ret_bool (by rw [E.out]; simp [hn]), rfl⟩
        · have h3 : decide (-8192 ≤ n) = false := by simpa using hn
          go_enter Tryd.func35, Tryd.ntmps35
          go_wp2
          go_ret
          exact ⟨ret_bool (by rw [E.out]; simp; omega), rfl⟩
      · have e1 : immB op n = (n == 0) := by rw [immB, if_neg h1, if_neg h2, hb]; rfl
        have E := Lib.hid e1; clear e1 h1 h2
        go_enter Tryd.func35, Tryd.ntmps35
        go_wp2
        go_ret
        exact ⟨ret_bool (by rw [E.out]), rfl⟩
end
section
open Go.RowKit
def validB (op d a b n : Int) : Bool :=
  realB op && (regB (bits BinOp.and IntKind.i64 (hasI op.toNat) 1 != 0) d && (regB (bits BinOp.and IntKind.i64 (hasI op.toNat) 2 != 0) a && (regB (bits BinOp.and IntKind.i64 (hasI op.toNat) 4 != 0) b && immB op.toNat n)))
theorem alloc_tab {w : World} (h : Tab w) (o : Obj) : Tab (w.alloc o) := h.below ((Below.refl _ _).alloc (Nat.le_refl _) o)
theorem valid_any (op d a b n : Int) (w : World) (ht : Tab w) : Calls Tryd.prog 12 #[(.agg #[.int .i64 (op), .int .i64 (d), .int .i64 (a), .int .i64 (b), .int .i64 (n)])] w fun e w' => e = .returned (.bool (validB op d a b n)) ∧ Below w.heap.size w w' := by
  cases hr : realB op
  · have hE : validB op d a b n = false := by simp [validB, hr]
    have HE := Lib.hid hE; clear hE
    go_enter Tryd.func12, Tryd.ntmps12
    go_wp2_with (go_at_call 33; refine (real_any _ _).mono ?_; rintro e w' ⟨rfl, rfl⟩)
    go_ret
    exact ⟨ret_bool (by rw [HE.out]), (Below.refl _ _).alloc (Nat.le_refl _) _⟩
  · obtain ⟨o, rfl⟩ : ∃ o : Nat, op = o := ⟨op.toNat, by simp [realB] at hr; omega⟩
    have ho : o < 42 := by simp [realB] at hr; omega
    have hc := ht o ho
    have h0 : 0 < w.heap.size := World.block_lt_of_cell? w ⟨0, o, none⟩ hc
    have HT := Lib.hid (alloc_tab ht (.cells #[.int .i64 o, .int .i64 d, .int .i64 a, .int .i64 b, .int .i64 n] 23))
    clear ht
    cases h1 : regB (bits BinOp.and IntKind.i64 (hasI o) 1 != 0) d
    · have HE : Hid (validB o d a b n = false) := by simp [Hid, validB, h1]
      go_enter Tryd.func12, Tryd.ntmps12
      go_wp2_with (first | (go_at_call 33; refine (real_any _ _).mono ?_; rintro e w' ⟨rfl, rfl⟩) | (go_at_call 34; refine (register_any _ _ _).mono ?_; rintro e w' ⟨rfl, rfl⟩))
      go_ret
      exact ⟨ret_bool (by rw [HE.out]), (Below.refl _ _).alloc (Nat.le_refl _) _⟩
    · cases h2 : regB (bits BinOp.and IntKind.i64 (hasI o) 2 != 0) a
      · have HE : Hid (validB o d a b n = false) := by simp [Hid, validB, h2]
        go_enter Tryd.func12, Tryd.ntmps12
        go_wp2_with (first | (go_at_call 33; refine (real_any _ _).mono ?_; rintro e w' ⟨rfl, rfl⟩) | (go_at_call 34; refine (register_any _ _ _).mono ?_; rintro e w' ⟨rfl, rfl⟩))
        go_ret
        exact ⟨ret_bool (by rw [HE.out]), (Below.refl _ _).alloc (Nat.le_refl _) _⟩
      · cases h3 : regB (bits BinOp.and IntKind.i64 (hasI o) 4 != 0) b
        · have HE : Hid (validB o d a b n = false) := by simp [Hid, validB, h3]
          go_enter Tryd.func12, Tryd.ntmps12
          go_wp2_with (first | (go_at_call 33; refine (real_any _ _).mono ?_; rintro e w' ⟨rfl, rfl⟩) | (go_at_call 34; refine (register_any _ _ _).mono ?_; rintro e w' ⟨rfl, rfl⟩))
          go_ret
          exact ⟨ret_bool (by rw [HE.out]), (Below.refl _ _).alloc (Nat.le_refl _) _⟩
        · have HE : Hid (validB o d a b n = immB o n) := by simp [Hid, validB, hr, h1, h2, h3]
          go_enter Tryd.func12, Tryd.ntmps12
          go_wp2_with (first | (go_at_call 33; refine (real_any _ _).mono ?_; rintro e w' ⟨rfl, rfl⟩) | (go_at_call 34; refine (register_any _ _ _).mono ?_; rintro e w' ⟨rfl, rfl⟩) | (go_at_call 35; refine (imm_any _ _ ho _ HT.out).mono ?_; rintro e w' ⟨rfl, rfl⟩))
          go_ret
          exact ⟨ret_bool (by rw [HE.out]), (Below.refl _ _).alloc (Nat.le_refl _) _⟩
def kernB (op : Int) : Bool := op == 35 || op == 36 || op == 37 || op == 38 || op == 39 || op == 40
/-- The word of a right instruction. -/
def wordI (op d a b n : Int) : Int := op + d * 64 + a * 1024 + b * 16384 + n % 16384 * 262144
def encW (op d a b n : Int) : Int := if validB op d a b n then wordI op d a b n else 0
def encE (op d a b n : Int) : Int := if validB op d a b n then 0 else 6
theorem regB_bound (may : Bool) (n : Int) (h : regB may n = true) : 0 ≤ n ∧ n ≤ 15 := by
  cases may <;> simp [regB] at h <;> omega
theorem immB_bound (op : Nat) (n : Int) (h : immB op n = true) : -8192 ≤ n ∧ n ≤ 8191 := by
  unfold immB at h
  split at h
  · simp at h; omega
  · split at h
    · simp at h; omega
    · split at h
      · simp at h; omega
      · simp at h; omega
theorem validB_bounds {op d a b n : Int} (h : validB op d a b n = true) : (1 ≤ op ∧ op ≤ 41) ∧ (0 ≤ d ∧ d ≤ 15) ∧ (0 ≤ a ∧ a ≤ 15) ∧ (0 ≤ b ∧ b ≤ 15) ∧ (-8192 ≤ n ∧ n ≤ 8191) := by
  simp only [validB, Bool.and_eq_true] at h
  obtain ⟨h1, h2, h3, h4, h5⟩ := h
  simp [realB] at h1
  exact ⟨h1, regB_bound _ _ h2, regB_bound _ _ h3, regB_bound _ _ h4, immB_bound _ _ h5⟩
theorem nat_word (o d a b m : Nat) (ho : o < 64) (hd : d < 16) (ha : a < 16) (hb : b < 16) : (((o ||| d * 64) ||| a * 1024) ||| b * 16384) ||| m * 262144 = o + d * 64 + a * 1024 + b * 16384 + m * 262144 := by
  have j : ∀ (i x y : Nat), x < 2 ^ i → y % 2 ^ i = 0 → x ||| y = x + y := fun i x y hx hy => by rw [Nat.or_comm, nat_join i y x hy hx, Nat.add_comm]
  rw [j 6 o (d * 64) (by omega) (by omega), j 10 (o + d * 64) (a * 1024) (by omega) (by omega), j 14 _ (b * 16384) (by omega) (by omega), j 18 _ (m * 262144) (by omega) (by omega)]
theorem word_eq (o d a b : Nat) (n : Int) (ho : o < 64) (hd : d < 16) (ha : a < 16) (hb : b < 16) :
    bits BinOp.or IntKind.u32 (bits BinOp.or IntKind.u32 (bits BinOp.or IntKind.u32 (bits BinOp.or IntKind.u32 o ((d : Int) * 64)) ((a : Int) * 1024)) ((b : Int) * 16384)) (n % 4294967296 * 262144 % 4294967296) = wordI o d a b n := by
  obtain ⟨m, hm⟩ : ∃ m : Nat, n % 16384 = m := ⟨(n % 16384).toNat, by omega⟩
  have hm2 : m < 16384 := by omega
  rw [show n % 4294967296 * 262144 % 4294967296 = ((m * 262144 : Nat) : Int) from by omega, show (d : Int) * 64 = ((d * 64 : Nat) : Int) from by simp, show (a : Int) * 1024 = ((a * 1024 : Nat) : Int) from by simp, show (b : Int) * 16384 = ((b * 16384 : Nat) : Int) from by simp]
  have l1 : o ||| d * 64 < 2 ^ 32 := Nat.or_lt_two_pow (by omega) (by omega)
  have l2 : (o ||| d * 64) ||| a * 1024 < 2 ^ 32 := Nat.or_lt_two_pow l1 (by omega)
  have l3 : ((o ||| d * 64) ||| a * 1024) ||| b * 16384 < 2 ^ 32 := Nat.or_lt_two_pow l2 (by omega)
  rw [u32_or_nat _ _ (by omega) (by omega), u32_or_nat _ _ (by omega) (by omega), u32_or_nat _ _ (by omega) (by omega), u32_or_nat _ _ (by omega) (by omega), nat_word o d a b m ho hd ha hb, wordI, hm]
  omega
theorem encode_any (op d a b n : Int) (w : World) (ht : Tab w) : Calls Tryd.prog 54 #[(.agg #[.int .i64 (op), .int .i64 (d), .int .i64 (a), .int .i64 (b), .int .i64 (n)])] w fun e w' => e = .returned (.tuple #[.int .u32 (encW op d a b n), .int .i64 (encE op d a b n)]) ∧ Below w.heap.size w w' := by
  have HT := Lib.hid (alloc_tab ht (.cells #[.int .i64 op, .int .i64 d, .int .i64 a, .int .i64 b, .int .i64 n] 23))
  clear ht
  cases hv : validB op d a b n
  · have HE : Hid (encW op d a b n = 0 ∧ encE op d a b n = 6) := by simp [Hid, encW, encE, hv]
    go_enter Tryd.func54, Tryd.ntmps54
    go_wp2_with (go_at_call 12; refine (valid_any _ _ _ _ _ _ HT.out).mono ?_; rintro e w1 ⟨rfl, hb1⟩)
    go_ret2
    exact ⟨ret_two (by rw [HE.out.1]) (by rw [HE.out.2]), ((Below.refl _ _).alloc (Nat.le_refl _) _).trans (hb1.mono (by simp))⟩
  · have HE : Hid (encW op d a b n = wordI op d a b n ∧ encE op d a b n = 0) := by simp [Hid, encW, encE, hv]
    have hB := validB_bounds hv
    go_enter Tryd.func54, Tryd.ntmps54
    go_wp2_with fail
    refine (valid_any _ _ _ _ _ _ HT.out).mono ?_; rintro e w1 ⟨rfl, hb1⟩
    have k0 : w1.cell? ⟨w.heap.size, 0, none⟩ = some (.int .i64 op) := by rw [hb1.cell (by simp)]; go_simp
    have k1 : w1.cell? ⟨w.heap.size, 1, none⟩ = some (.int .i64 d) := by rw [hb1.cell (by simp)]; go_simp
    have k2 : w1.cell? ⟨w.heap.size, 2, none⟩ = some (.int .i64 a) := by rw [hb1.cell (by simp)]; go_simp
    have k3 : w1.cell? ⟨w.heap.size, 3, none⟩ = some (.int .i64 b) := by rw [hb1.cell (by simp)]; go_simp
    have k4 : w1.cell? ⟨w.heap.size, 4, none⟩ = some (.int .i64 n) := by rw [hb1.cell (by simp)]; go_simp
    go_wp2_with fail
    go_ret2
    refine ⟨ret_two ?_ (by rw [HE.out.2]), ((Below.refl _ _).alloc (Nat.le_refl _) _).trans (hb1.mono (by simp))⟩
    rw [HE.out.1]
    obtain ⟨⟨o1, o2⟩, ⟨d1, d2⟩, ⟨a1, a2⟩, ⟨b1, b2⟩, ⟨n1, n2⟩⟩ := hB
    obtain ⟨o, rfl⟩ := Int.eq_ofNat_of_zero_le (show 0 ≤ op by omega)
    obtain ⟨d', rfl⟩ := Int.eq_ofNat_of_zero_le d1
    obtain ⟨a', rfl⟩ := Int.eq_ofNat_of_zero_le a1
    obtain ⟨b', rfl⟩ := Int.eq_ofNat_of_zero_le b1
    exact word_eq o d' a' b' n (by omega) (by omega) (by omega) (by omega)
theorem cut_any (x at_ n : Nat) (hx : x < 4294967296) (ha : at_ < 32) (hn : n < 20) (w : World) : Calls Tryd.prog 67 #[.int .u32 x, .int .i64 at_, .int .i64 n] w fun e w' => e = .returned (.int .i64 ((x / 2 ^ at_ % 2 ^ n : Nat) : Int)) ∧ Below w.heap.size w w' := by
  have hp : (2 : Nat) ^ n ≤ 2 ^ 19 := Nat.pow_le_pow_right (by decide) (by omega)
  have hp0 : 0 < (2 : Nat) ^ n := Nat.pow_pos (by decide)
  have e2 : (2 : Int) ^ n = ((2 ^ n : Nat) : Int) := by simp
  have q1 : 1 ≤ (2 : Int) ^ n := by rw [e2]; omega
  have q2 : (2 : Int) ^ n ≤ 524288 := by rw [e2]; simp only [Nat.reducePow] at hp; omega
  have HP := Lib.hid hp; have HP0 := Lib.hid hp0; have E2 := Lib.hid e2
  clear hp hp0 e2
  go_enter Tryd.func67, Tryd.ntmps67
  go_wp2_with fail
  go_quiet (fail)
  go_wp2
  go_ret
  refine ⟨ret_int ?_, below_drewN (Below.refl _ _) _⟩
  have e : (x : Int) / 2 ^ at_ = ((x / 2 ^ at_ : Nat) : Int) := by simp
  have e3 : (2 : Int) ^ n - 1 = ((2 ^ n - 1 : Nat) : Int) := by rw [E2.out]; have := HP0.out; omega
  have h1 : x / 2 ^ at_ < 4294967296 := Nat.lt_of_le_of_lt (Nat.div_le_self _ _) hx
  have hp := HP.out
  simp only [Nat.reducePow] at hp
  rw [e, e3, u32_and_nat _ _ h1 (by omega), Nat.and_two_pow_sub_one_eq_mod, IntWalk.wrap64_in]
  have := Nat.mod_lt (x / 2 ^ at_) HP0.out
  omega
def decN (x : Nat) : Int := if x / 262144 < 8192 then ((x / 262144 : Nat) : Int) else ((x / 262144 : Nat) : Int) - 16384
theorem decN_eq (x : Nat) (hx : x < 4294967296) : wrap64 (wrap32 (x : Int) / 262144) = decN x := by
  unfold wrap64 wrap32 decN
  split <;> omega
def decB (x : Nat) : Bool := validB ((x : Int) % 64) ((x : Int) / 64 % 16) ((x : Int) / 1024 % 16) ((x : Int) / 16384 % 16) (decN x)
/-- What Decode hands back: the instruction, or nothing. -/
def DecPost (x : Nat) (w : World) (e : Ending) (w' : World) : Prop :=
  e = .returned (.tuple #[(if decB x then (.agg #[.int .i64 ((x : Int) % 64), .int .i64 ((x : Int) / 64 % 16), .int .i64 ((x : Int) / 1024 % 16), .int .i64 ((x : Int) / 16384 % 16), .int .i64 (decN x)]) else (.agg #[.int .i64 (0), .int .i64 (0), .int .i64 (0), .int .i64 (0), .int .i64 (0)])), .bool (decB x)]) ∧ Below w.heap.size w w'
theorem decode_any (x : Nat) (hx : x < 4294967296) (w : World) (ht : Tab w) : Calls Tryd.prog 58 #[.int .u32 x] w (DecPost x w) := by
  have HN := Lib.hid (decN_eq x hx)
  obtain ⟨n, hn⟩ : ∃ n, n = decN x := ⟨_, rfl⟩
  have HD := Lib.hid hn
  have HB : Hid (decB x = validB ((x : Int) % 64) ((x : Int) / 64 % 16) ((x : Int) / 1024 % 16) ((x : Int) / 16384 % 16) n) := by rw [Hid, decB, hn]
  clear hn
  go_enter Tryd.func58, Tryd.ntmps58
  go_wp2_with fail
  refine (cut_any x 0 6 hx (by omega) (by omega) _).mono ?_; rintro e w1 ⟨rfl, hb1⟩
  go_wp2_with fail
  refine (cut_any x 6 4 hx (by omega) (by omega) _).mono ?_; rintro e w2 ⟨rfl, hb2⟩
  go_wp2_with fail
  refine (cut_any x 10 4 hx (by omega) (by omega) _).mono ?_; rintro e w3 ⟨rfl, hb3⟩
  go_wp2_with fail
  refine (cut_any x 14 4 hx (by omega) (by omega) _).mono ?_; rintro e w4 ⟨rfl, hb4⟩
  have hb : Below (w.heap.size + 1) (w.alloc (.cells #[.int .i64 0, .int .i64 0, .int .i64 0, .int .i64 0, .int .i64 0] 23)) w4 := by
    have s1 := hb1.size; have s2 := hb2.size; have s3 := hb3.size
    simp only [World.size_alloc] at hb1 s1
    exact hb1.trans ((hb2.mono s1).trans ((hb3.mono (Nat.le_trans s1 s2)).trans (hb4.mono (Nat.le_trans s1 (Nat.le_trans s2 s3)))))
  have ht4 : Tab w4 := (alloc_tab ht _).below (by simpa using hb)
  have hs4 := hb.size
  simp only [World.size_alloc] at hs4
  have hk4 : w4.heap[w.heap.size]? = _ := keepB hb (by omega) (new_block w _ _ rfl)
  have hbw : Below w.heap.size w w4 := ((Below.refl _ _).alloc (Nat.le_refl _) _).trans (hb.mono (by omega))
  clear hb1 hb2 hb3 hb4 hb ht
  go_wp2_with fail
  rw [HN.out, ← HD.out]
  have HT := Lib.hid (alloc_tab ht4 (.cells #[.int .i64 ((x : Int) % 64), .int .i64 ((x : Int) / 64 % 16), .int .i64 ((x : Int) / 1024 % 16), .int .i64 ((x : Int) / 16384 % 16), .int .i64 (n)] 23))
  clear ht4
  refine (valid_any _ _ _ _ _ _ HT.out).mono ?_; rw [← HB.out]; rintro e w5 ⟨rfl, hb5⟩
  have s5 := hb5.size
  simp only [World.size_alloc] at hb5 s5
  have hkA : w5.heap[w.heap.size]? = _ := keepB hb5 (by omega) ((Below.heap_alloc _ _ _ (by omega)).trans hk4)
  have hkB : w5.heap[w4.heap.size]? = _ := keepB hb5 (by omega) (new_block w4 _ _ rfl)
  have a0 := cell_at hkA 0 (.int .i64 0) rfl; have a1 := cell_at hkA 1 (.int .i64 0) rfl; have a2 := cell_at hkA 2 (.int .i64 0) rfl; have a3 := cell_at hkA 3 (.int .i64 0) rfl; have a4 := cell_at hkA 4 (.int .i64 0) rfl; have af0 := free_at hkA 0; have af1 := free_at hkA 1; have af2 := free_at hkA 2; have af3 := free_at hkA 3; have af4 := free_at hkA 4
  have HB5 : Hid (Below w.heap.size w w5) := hbw.trans (((Below.refl _ _).alloc (Nat.le_refl _) _).mono hbw.size |>.trans (hb5.mono (by have := hbw.size; omega)))
  have b0 := cell_at hkB 0 _ rfl; have b1 := cell_at hkB 1 _ rfl; have b2 := cell_at hkB 2 _ rfl; have b3 := cell_at hkB 3 _ rfl; have b4 := cell_at hkB 4 _ rfl
  have s6 : w.heap.size < w5.heap.size := by omega
  clear hkA hkB hb5 hk4 hbw HN HT
  cases hd : decB x
  · go_wp2_with fail
    refine bodyPost_ret (v := .tuple #[(.agg #[.int .i64 (0), .int .i64 (0), .int .i64 (0), .int .i64 (0), .int .i64 (0)]), .bool false]) ?_ rfl ⟨by simp [hd], ?_⟩
    · simp [results, Tryd.results58, go_sem, a0, a1, a2, a3, a4, s6]
    · exact (((((HB5.out.setCell (Nat.le_refl _) _).setCell (Nat.le_refl _) _).setCell (Nat.le_refl _) _).setCell (Nat.le_refl _) _).setCell (Nat.le_refl _) _)
  · go_wp2_with fail
    refine bodyPost_ret (v := .tuple #[(.agg #[.int .i64 ((x : Int) % 64), .int .i64 ((x : Int) / 64 % 16), .int .i64 ((x : Int) / 1024 % 16), .int .i64 ((x : Int) / 16384 % 16), .int .i64 (n)]), .bool true]) ?_ rfl ⟨by rw [HD.out]; simp [hd], ?_⟩
    · simp [results, Tryd.results58, go_sem, a0, a1, a2, a3, a4, s6]
    · exact (((((HB5.out.setCell (Nat.le_refl _) _).setCell (Nat.le_refl _) _).setCell (Nat.le_refl _) _).setCell (Nat.le_refl _) _).setCell (Nat.le_refl _) _)
def wrV (op d a b n : Int) : Int := if validB op d a b n && (bits BinOp.and IntKind.i64 (hasI op.toNat) 1 != 0) then d else 0
def wrB (op d a b n : Int) : Bool := validB op d a b n && (bits BinOp.and IntKind.i64 (hasI op.toNat) 1 != 0)
theorem ret_ib {k : IntKind} {a b : Int} {c d : Bool} (h : a = b) (h' : c = d) : Ending.returned (.tuple #[.int k a, .bool c]) = .returned (.tuple #[.int k b, .bool d]) := by rw [h, h']
end
section
open Go.RowKit
def fl (o : Nat) (m : Int) : Bool := bits BinOp.and IntKind.i64 (hasI o) m != 0
theorem fl_1 : ∀ o : Fin 42, fl o 1 = ((decide (1 ≤ o.val) && decide (o.val ≤ 25)) || o.val == 32 || o.val == 33 || o.val == 37) := by decide +kernel
theorem fl_2 : ∀ o : Fin 42, fl o 2 = ((decide (1 ≤ o.val) && decide (o.val ≤ 21)) || (decide (23 ≤ o.val) && decide (o.val ≤ 31)) || o.val == 33 || o.val == 38) := by decide +kernel
theorem fl_4 : ∀ o : Fin 42, fl o 4 = ((decide (1 ≤ o.val) && decide (o.val ≤ 13)) || (decide (26 ≤ o.val) && decide (o.val ≤ 31))) := by decide +kernel
theorem fl_8 : ∀ o : Fin 42, fl o 8 = ((decide (14 ≤ o.val) && decide (o.val ≤ 33)) || o.val == 37 || o.val == 38) := by decide +kernel
theorem ret_4 {a b c d a' b' c' d' : Bool} (h1 : a = a') (h2 : b = b') (h3 : c = c') (h4 : d = d') : Ending.returned (.tuple #[.bool a, .bool b, .bool c, .bool d]) = .returned (.tuple #[.bool a', .bool b', .bool c', .bool d']) := by rw [h1, h2, h3, h4]
theorem has_1 (w : World) : Calls Tryd.prog 23 #[.int .i64 1] w fun e w' => e = .returned (.tuple #[.bool true, .bool true, .bool true, .bool false]) ∧ w = w' := by
  go_enter Tryd.func23, Tryd.ntmps23
  go_wp2
  exact bodyPost_ret (v := .tuple #[.bool true, .bool true, .bool true, .bool false]) (by simp [results, Tryd.results23, go_sem]) rfl ⟨rfl, rfl⟩
theorem has_2 (w : World) : Calls Tryd.prog 23 #[.int .i64 2] w fun e w' => e = .returned (.tuple #[.bool true, .bool true, .bool true, .bool false]) ∧ w = w' := by
  go_enter Tryd.func23, Tryd.ntmps23
  go_wp2
  exact bodyPost_ret (v := .tuple #[.bool true, .bool true, .bool true, .bool false]) (by simp [results, Tryd.results23, go_sem]) rfl ⟨rfl, rfl⟩
theorem has_3 (w : World) : Calls Tryd.prog 23 #[.int .i64 3] w fun e w' => e = .returned (.tuple #[.bool true, .bool true, .bool true, .bool false]) ∧ w = w' := by
  go_enter Tryd.func23, Tryd.ntmps23
  go_wp2
  exact bodyPost_ret (v := .tuple #[.bool true, .bool true, .bool true, .bool false]) (by simp [results, Tryd.results23, go_sem]) rfl ⟨rfl, rfl⟩
theorem has_4 (w : World) : Calls Tryd.prog 23 #[.int .i64 4] w fun e w' => e = .returned (.tuple #[.bool true, .bool true, .bool true, .bool false]) ∧ w = w' := by
  go_enter Tryd.func23, Tryd.ntmps23
  go_wp2
  exact bodyPost_ret (v := .tuple #[.bool true, .bool true, .bool true, .bool false]) (by simp [results, Tryd.results23, go_sem]) rfl ⟨rfl, rfl⟩
theorem has_5 (w : World) : Calls Tryd.prog 23 #[.int .i64 5] w fun e w' => e = .returned (.tuple #[.bool true, .bool true, .bool true, .bool false]) ∧ w = w' := by
  go_enter Tryd.func23, Tryd.ntmps23
  go_wp2
  exact bodyPost_ret (v := .tuple #[.bool true, .bool true, .bool true, .bool false]) (by simp [results, Tryd.results23, go_sem]) rfl ⟨rfl, rfl⟩
theorem has_6 (w : World) : Calls Tryd.prog 23 #[.int .i64 6] w fun e w' => e = .returned (.tuple #[.bool true, .bool true, .bool true, .bool false]) ∧ w = w' := by
  go_enter Tryd.func23, Tryd.ntmps23
  go_wp2
  exact bodyPost_ret (v := .tuple #[.bool true, .bool true, .bool true, .bool false]) (by simp [results, Tryd.results23, go_sem]) rfl ⟨rfl, rfl⟩
theorem has_7 (w : World) : Calls Tryd.prog 23 #[.int .i64 7] w fun e w' => e = .returned (.tuple #[.bool true, .bool true, .bool true, .bool false]) ∧ w = w' := by
  go_enter Tryd.func23, Tryd.ntmps23
  go_wp2
  exact bodyPost_ret (v := .tuple #[.bool true, .bool true, .bool true, .bool false]) (by simp [results, Tryd.results23, go_sem]) rfl ⟨rfl, rfl⟩
theorem has_8 (w : World) : Calls Tryd.prog 23 #[.int .i64 8] w fun e w' => e = .returned (.tuple #[.bool true, .bool true, .bool true, .bool false]) ∧ w = w' := by
  go_enter Tryd.func23, Tryd.ntmps23
  go_wp2
  exact bodyPost_ret (v := .tuple #[.bool true, .bool true, .bool true, .bool false]) (by simp [results, Tryd.results23, go_sem]) rfl ⟨rfl, rfl⟩
theorem has_9 (w : World) : Calls Tryd.prog 23 #[.int .i64 9] w fun e w' => e = .returned (.tuple #[.bool true, .bool true, .bool true, .bool false]) ∧ w = w' := by
  go_enter Tryd.func23, Tryd.ntmps23
  go_wp2
  exact bodyPost_ret (v := .tuple #[.bool true, .bool true, .bool true, .bool false]) (by simp [results, Tryd.results23, go_sem]) rfl ⟨rfl, rfl⟩
theorem has_10 (w : World) : Calls Tryd.prog 23 #[.int .i64 10] w fun e w' => e = .returned (.tuple #[.bool true, .bool true, .bool true, .bool false]) ∧ w = w' := by
  go_enter Tryd.func23, Tryd.ntmps23
  go_wp2
  exact bodyPost_ret (v := .tuple #[.bool true, .bool true, .bool true, .bool false]) (by simp [results, Tryd.results23, go_sem]) rfl ⟨rfl, rfl⟩
theorem has_11 (w : World) : Calls Tryd.prog 23 #[.int .i64 11] w fun e w' => e = .returned (.tuple #[.bool true, .bool true, .bool true, .bool false]) ∧ w = w' := by
  go_enter Tryd.func23, Tryd.ntmps23
  go_wp2
  exact bodyPost_ret (v := .tuple #[.bool true, .bool true, .bool true, .bool false]) (by simp [results, Tryd.results23, go_sem]) rfl ⟨rfl, rfl⟩
theorem has_12 (w : World) : Calls Tryd.prog 23 #[.int .i64 12] w fun e w' => e = .returned (.tuple #[.bool true, .bool true, .bool true, .bool false]) ∧ w = w' := by
  go_enter Tryd.func23, Tryd.ntmps23
  go_wp2
  exact bodyPost_ret (v := .tuple #[.bool true, .bool true, .bool true, .bool false]) (by simp [results, Tryd.results23, go_sem]) rfl ⟨rfl, rfl⟩
theorem has_13 (w : World) : Calls Tryd.prog 23 #[.int .i64 13] w fun e w' => e = .returned (.tuple #[.bool true, .bool true, .bool true, .bool false]) ∧ w = w' := by
  go_enter Tryd.func23, Tryd.ntmps23
  go_wp2
  exact bodyPost_ret (v := .tuple #[.bool true, .bool true, .bool true, .bool false]) (by simp [results, Tryd.results23, go_sem]) rfl ⟨rfl, rfl⟩
theorem has_14 (w : World) : Calls Tryd.prog 23 #[.int .i64 14] w fun e w' => e = .returned (.tuple #[.bool true, .bool true, .bool false, .bool true]) ∧ w = w' := by
  go_enter Tryd.func23, Tryd.ntmps23
  go_wp2
  exact bodyPost_ret (v := .tuple #[.bool true, .bool true, .bool false, .bool true]) (by simp [results, Tryd.results23, go_sem]) rfl ⟨rfl, rfl⟩
theorem has_15 (w : World) : Calls Tryd.prog 23 #[.int .i64 15] w fun e w' => e = .returned (.tuple #[.bool true, .bool true, .bool false, .bool true]) ∧ w = w' := by
  go_enter Tryd.func23, Tryd.ntmps23
  go_wp2
  exact bodyPost_ret (v := .tuple #[.bool true, .bool true, .bool false, .bool true]) (by simp [results, Tryd.results23, go_sem]) rfl ⟨rfl, rfl⟩
theorem has_16 (w : World) : Calls Tryd.prog 23 #[.int .i64 16] w fun e w' => e = .returned (.tuple #[.bool true, .bool true, .bool false, .bool true]) ∧ w = w' := by
  go_enter Tryd.func23, Tryd.ntmps23
  go_wp2
  exact bodyPost_ret (v := .tuple #[.bool true, .bool true, .bool false, .bool true]) (by simp [results, Tryd.results23, go_sem]) rfl ⟨rfl, rfl⟩
theorem has_17 (w : World) : Calls Tryd.prog 23 #[.int .i64 17] w fun e w' => e = .returned (.tuple #[.bool true, .bool true, .bool false, .bool true]) ∧ w = w' := by
  go_enter Tryd.func23, Tryd.ntmps23
  go_wp2
  exact bodyPost_ret (v := .tuple #[.bool true, .bool true, .bool false, .bool true]) (by simp [results, Tryd.results23, go_sem]) rfl ⟨rfl, rfl⟩
theorem has_18 (w : World) : Calls Tryd.prog 23 #[.int .i64 18] w fun e w' => e = .returned (.tuple #[.bool true, .bool true, .bool false, .bool true]) ∧ w = w' := by
  go_enter Tryd.func23, Tryd.ntmps23
  go_wp2
  exact bodyPost_ret (v := .tuple #[.bool true, .bool true, .bool false, .bool true]) (by simp [results, Tryd.results23, go_sem]) rfl ⟨rfl, rfl⟩
theorem has_19 (w : World) : Calls Tryd.prog 23 #[.int .i64 19] w fun e w' => e = .returned (.tuple #[.bool true, .bool true, .bool false, .bool true]) ∧ w = w' := by
  go_enter Tryd.func23, Tryd.ntmps23
  go_wp2
  exact bodyPost_ret (v := .tuple #[.bool true, .bool true, .bool false, .bool true]) (by simp [results, Tryd.results23, go_sem]) rfl ⟨rfl, rfl⟩
theorem has_20 (w : World) : Calls Tryd.prog 23 #[.int .i64 20] w fun e w' => e = .returned (.tuple #[.bool true, .bool true, .bool false, .bool true]) ∧ w = w' := by
  go_enter Tryd.func23, Tryd.ntmps23
  go_wp2
  exact bodyPost_ret (v := .tuple #[.bool true, .bool true, .bool false, .bool true]) (by simp [results, Tryd.results23, go_sem]) rfl ⟨rfl, rfl⟩
theorem has_21 (w : World) : Calls Tryd.prog 23 #[.int .i64 21] w fun e w' => e = .returned (.tuple #[.bool true, .bool true, .bool false, .bool true]) ∧ w = w' := by
  go_enter Tryd.func23, Tryd.ntmps23
  go_wp2
  exact bodyPost_ret (v := .tuple #[.bool true, .bool true, .bool false, .bool true]) (by simp [results, Tryd.results23, go_sem]) rfl ⟨rfl, rfl⟩
theorem has_22 (w : World) : Calls Tryd.prog 23 #[.int .i64 22] w fun e w' => e = .returned (.tuple #[.bool true, .bool false, .bool false, .bool true]) ∧ w = w' := by
  go_enter Tryd.func23, Tryd.ntmps23
  go_wp2
  exact bodyPost_ret (v := .tuple #[.bool true, .bool false, .bool false, .bool true]) (by simp [results, Tryd.results23, go_sem]) rfl ⟨rfl, rfl⟩
theorem has_23 (w : World) : Calls Tryd.prog 23 #[.int .i64 23] w fun e w' => e = .returned (.tuple #[.bool true, .bool true, .bool false, .bool true]) ∧ w = w' := by
  go_enter Tryd.func23, Tryd.ntmps23
  go_wp2
  exact bodyPost_ret (v := .tuple #[.bool true, .bool true, .bool false, .bool true]) (by simp [results, Tryd.results23, go_sem]) rfl ⟨rfl, rfl⟩
theorem has_24 (w : World) : Calls Tryd.prog 23 #[.int .i64 24] w fun e w' => e = .returned (.tuple #[.bool true, .bool true, .bool false, .bool true]) ∧ w = w' := by
  go_enter Tryd.func23, Tryd.ntmps23
  go_wp2
  exact bodyPost_ret (v := .tuple #[.bool true, .bool true, .bool false, .bool true]) (by simp [results, Tryd.results23, go_sem]) rfl ⟨rfl, rfl⟩
theorem has_25 (w : World) : Calls Tryd.prog 23 #[.int .i64 25] w fun e w' => e = .returned (.tuple #[.bool true, .bool true, .bool false, .bool true]) ∧ w = w' := by
  go_enter Tryd.func23, Tryd.ntmps23
  go_wp2
  exact bodyPost_ret (v := .tuple #[.bool true, .bool true, .bool false, .bool true]) (by simp [results, Tryd.results23, go_sem]) rfl ⟨rfl, rfl⟩
theorem has_26 (w : World) : Calls Tryd.prog 23 #[.int .i64 26] w fun e w' => e = .returned (.tuple #[.bool false, .bool true, .bool true, .bool true]) ∧ w = w' := by
  go_enter Tryd.func23, Tryd.ntmps23
  go_wp2
  exact bodyPost_ret (v := .tuple #[.bool false, .bool true, .bool true, .bool true]) (by simp [results, Tryd.results23, go_sem]) rfl ⟨rfl, rfl⟩
theorem has_27 (w : World) : Calls Tryd.prog 23 #[.int .i64 27] w fun e w' => e = .returned (.tuple #[.bool false, .bool true, .bool true, .bool true]) ∧ w = w' := by
  go_enter Tryd.func23, Tryd.ntmps23
  go_wp2
  exact bodyPost_ret (v := .tuple #[.bool false, .bool true, .bool true, .bool true]) (by simp [results, Tryd.results23, go_sem]) rfl ⟨rfl, rfl⟩
theorem has_28 (w : World) : Calls Tryd.prog 23 #[.int .i64 28] w fun e w' => e = .returned (.tuple #[.bool false, .bool true, .bool true, .bool true]) ∧ w = w' := by
  go_enter Tryd.func23, Tryd.ntmps23
  go_wp2
  exact bodyPost_ret (v := .tuple #[.bool false, .bool true, .bool true, .bool true]) (by simp [results, Tryd.results23, go_sem]) rfl ⟨rfl, rfl⟩
theorem has_29 (w : World) : Calls Tryd.prog 23 #[.int .i64 29] w fun e w' => e = .returned (.tuple #[.bool false, .bool true, .bool true, .bool true]) ∧ w = w' := by
  go_enter Tryd.func23, Tryd.ntmps23
  go_wp2
  exact bodyPost_ret (v := .tuple #[.bool false, .bool true, .bool true, .bool true]) (by simp [results, Tryd.results23, go_sem]) rfl ⟨rfl, rfl⟩
theorem has_30 (w : World) : Calls Tryd.prog 23 #[.int .i64 30] w fun e w' => e = .returned (.tuple #[.bool false, .bool true, .bool true, .bool true]) ∧ w = w' := by
  go_enter Tryd.func23, Tryd.ntmps23
  go_wp2
  exact bodyPost_ret (v := .tuple #[.bool false, .bool true, .bool true, .bool true]) (by simp [results, Tryd.results23, go_sem]) rfl ⟨rfl, rfl⟩
theorem has_31 (w : World) : Calls Tryd.prog 23 #[.int .i64 31] w fun e w' => e = .returned (.tuple #[.bool false, .bool true, .bool true, .bool true]) ∧ w = w' := by
  go_enter Tryd.func23, Tryd.ntmps23
  go_wp2
  exact bodyPost_ret (v := .tuple #[.bool false, .bool true, .bool true, .bool true]) (by simp [results, Tryd.results23, go_sem]) rfl ⟨rfl, rfl⟩
theorem has_32 (w : World) : Calls Tryd.prog 23 #[.int .i64 32] w fun e w' => e = .returned (.tuple #[.bool true, .bool false, .bool false, .bool true]) ∧ w = w' := by
  go_enter Tryd.func23, Tryd.ntmps23
  go_wp2
  exact bodyPost_ret (v := .tuple #[.bool true, .bool false, .bool false, .bool true]) (by simp [results, Tryd.results23, go_sem]) rfl ⟨rfl, rfl⟩
theorem has_33 (w : World) : Calls Tryd.prog 23 #[.int .i64 33] w fun e w' => e = .returned (.tuple #[.bool true, .bool true, .bool false, .bool true]) ∧ w = w' := by
  go_enter Tryd.func23, Tryd.ntmps23
  go_wp2
  exact bodyPost_ret (v := .tuple #[.bool true, .bool true, .bool false, .bool true]) (by simp [results, Tryd.results23, go_sem]) rfl ⟨rfl, rfl⟩
theorem has_34 (w : World) : Calls Tryd.prog 23 #[.int .i64 34] w fun e w' => e = .returned (.tuple #[.bool false, .bool false, .bool false, .bool false]) ∧ w = w' := by
  go_enter Tryd.func23, Tryd.ntmps23
  go_wp2
  exact bodyPost_ret (v := .tuple #[.bool false, .bool false, .bool false, .bool false]) (by simp [results, Tryd.results23, go_sem]) rfl ⟨rfl, rfl⟩
theorem has_35 (w : World) : Calls Tryd.prog 23 #[.int .i64 35] w fun e w' => e = .returned (.tuple #[.bool false, .bool false, .bool false, .bool false]) ∧ w = w' := by
  go_enter Tryd.func23, Tryd.ntmps23
  go_wp2
  exact bodyPost_ret (v := .tuple #[.bool false, .bool false, .bool false, .bool false]) (by simp [results, Tryd.results23, go_sem]) rfl ⟨rfl, rfl⟩
theorem has_36 (w : World) : Calls Tryd.prog 23 #[.int .i64 36] w fun e w' => e = .returned (.tuple #[.bool false, .bool false, .bool false, .bool false]) ∧ w = w' := by
  go_enter Tryd.func23, Tryd.ntmps23
  go_wp2
  exact bodyPost_ret (v := .tuple #[.bool false, .bool false, .bool false, .bool false]) (by simp [results, Tryd.results23, go_sem]) rfl ⟨rfl, rfl⟩
theorem has_37 (w : World) : Calls Tryd.prog 23 #[.int .i64 37] w fun e w' => e = .returned (.tuple #[.bool true, .bool false, .bool false, .bool true]) ∧ w = w' := by
  go_enter Tryd.func23, Tryd.ntmps23
  go_wp2
  exact bodyPost_ret (v := .tuple #[.bool true, .bool false, .bool false, .bool true]) (by simp [results, Tryd.results23, go_sem]) rfl ⟨rfl, rfl⟩
theorem has_38 (w : World) : Calls Tryd.prog 23 #[.int .i64 38] w fun e w' => e = .returned (.tuple #[.bool false, .bool true, .bool false, .bool true]) ∧ w = w' := by
  go_enter Tryd.func23, Tryd.ntmps23
  go_wp2
  exact bodyPost_ret (v := .tuple #[.bool false, .bool true, .bool false, .bool true]) (by simp [results, Tryd.results23, go_sem]) rfl ⟨rfl, rfl⟩
theorem has_39 (w : World) : Calls Tryd.prog 23 #[.int .i64 39] w fun e w' => e = .returned (.tuple #[.bool false, .bool false, .bool false, .bool false]) ∧ w = w' := by
  go_enter Tryd.func23, Tryd.ntmps23
  go_wp2
  exact bodyPost_ret (v := .tuple #[.bool false, .bool false, .bool false, .bool false]) (by simp [results, Tryd.results23, go_sem]) rfl ⟨rfl, rfl⟩
theorem has_40 (w : World) : Calls Tryd.prog 23 #[.int .i64 40] w fun e w' => e = .returned (.tuple #[.bool false, .bool false, .bool false, .bool false]) ∧ w = w' := by
  go_enter Tryd.func23, Tryd.ntmps23
  go_wp2
  exact bodyPost_ret (v := .tuple #[.bool false, .bool false, .bool false, .bool false]) (by simp [results, Tryd.results23, go_sem]) rfl ⟨rfl, rfl⟩
theorem has_41 (w : World) : Calls Tryd.prog 23 #[.int .i64 41] w fun e w' => e = .returned (.tuple #[.bool false, .bool false, .bool false, .bool false]) ∧ w = w' := by
  go_enter Tryd.func23, Tryd.ntmps23
  go_wp2
  exact bodyPost_ret (v := .tuple #[.bool false, .bool false, .bool false, .bool false]) (by simp [results, Tryd.results23, go_sem]) rfl ⟨rfl, rfl⟩
theorem has_any (o : Nat) (h1 : 1 ≤ o) (h2 : o < 42) (w : World) : Calls Tryd.prog 23 #[.int .i64 o] w fun e w' => e = .returned (.tuple #[.bool (fl o 1), .bool (fl o 2), .bool (fl o 4), .bool (fl o 8)]) ∧ w = w' := by
  rcases (by omega : o = 1 ∨ o = 2 ∨ o = 3 ∨ o = 4 ∨ o = 5 ∨ o = 6 ∨ o = 7 ∨ o = 8 ∨ o = 9 ∨ o = 10 ∨ o = 11 ∨ o = 12 ∨ o = 13 ∨ o = 14 ∨ o = 15 ∨ o = 16 ∨ o = 17 ∨ o = 18 ∨ o = 19 ∨ o = 20 ∨ o = 21 ∨ o = 22 ∨ o = 23 ∨ o = 24 ∨ o = 25 ∨ o = 26 ∨ o = 27 ∨ o = 28 ∨ o = 29 ∨ o = 30 ∨ o = 31 ∨ o = 32 ∨ o = 33 ∨ o = 34 ∨ o = 35 ∨ o = 36 ∨ o = 37 ∨ o = 38 ∨ o = 39 ∨ o = 40 ∨ o = 41) with rfl | rfl | rfl | rfl | rfl | rfl | rfl | rfl | rfl | rfl | rfl | rfl | rfl | rfl | rfl | rfl | rfl | rfl | rfl | rfl | rfl | rfl | rfl | rfl | rfl | rfl | rfl | rfl | rfl | rfl | rfl | rfl | rfl | rfl | rfl | rfl | rfl | rfl | rfl | rfl | rfl
  · exact (has_1 w).mono fun e w' h => ⟨h.1.trans (ret_4 (by decide +kernel) (by decide +kernel) (by decide +kernel) (by decide +kernel)), h.2⟩
  · exact (has_2 w).mono fun e w' h => ⟨h.1.trans (ret_4 (by decide +kernel) (by decide +kernel) (by decide +kernel) (by decide +kernel)), h.2⟩
  · exact (has_3 w).mono fun e w' h => ⟨h.1.trans (ret_4 (by decide +kernel) (by decide +kernel) (by decide +kernel) (by decide +kernel)), h.2⟩
  · exact (has_4 w).mono fun e w' h => ⟨h.1.trans (ret_4 (by decide +kernel) (by decide +kernel) (by decide +kernel) (by decide +kernel)), h.2⟩
  · exact (has_5 w).mono fun e w' h => ⟨h.1.trans (ret_4 (by decide +kernel) (by decide +kernel) (by decide +kernel) (by decide +kernel)), h.2⟩
  · exact (has_6 w).mono fun e w' h => ⟨h.1.trans (ret_4 (by decide +kernel) (by decide +kernel) (by decide +kernel) (by decide +kernel)), h.2⟩
  · exact (has_7 w).mono fun e w' h => ⟨h.1.trans (ret_4 (by decide +kernel) (by decide +kernel) (by decide +kernel) (by decide +kernel)), h.2⟩
  · exact (has_8 w).mono fun e w' h => ⟨h.1.trans (ret_4 (by decide +kernel) (by decide +kernel) (by decide +kernel) (by decide +kernel)), h.2⟩
  · exact (has_9 w).mono fun e w' h => ⟨h.1.trans (ret_4 (by decide +kernel) (by decide +kernel) (by decide +kernel) (by decide +kernel)), h.2⟩
  · exact (has_10 w).mono fun e w' h => ⟨h.1.trans (ret_4 (by decide +kernel) (by decide +kernel) (by decide +kernel) (by decide +kernel)), h.2⟩
  · exact (has_11 w).mono fun e w' h => ⟨h.1.trans (ret_4 (by decide +kernel) (by decide +kernel) (by decide +kernel) (by decide +kernel)), h.2⟩
  · exact (has_12 w).mono fun e w' h => ⟨h.1.trans (ret_4 (by decide +kernel) (by decide +kernel) (by decide +kernel) (by decide +kernel)), h.2⟩
  · exact (has_13 w).mono fun e w' h => ⟨h.1.trans (ret_4 (by decide +kernel) (by decide +kernel) (by decide +kernel) (by decide +kernel)), h.2⟩
  · exact (has_14 w).mono fun e w' h => ⟨h.1.trans (ret_4 (by decide +kernel) (by decide +kernel) (by decide +kernel) (by decide +kernel)), h.2⟩
  · exact (has_15 w).mono fun e w' h => ⟨h.1.trans (ret_4 (by decide +kernel) (by decide +kernel) (by decide +kernel) (by decide +kernel)), h.2⟩
  · exact (has_16 w).mono fun e w' h => ⟨h.1.trans (ret_4 (by decide +kernel) (by decide +kernel) (by decide +kernel) (by decide +kernel)), h.2⟩
  · exact (has_17 w).mono fun e w' h => ⟨h.1.trans (ret_4 (by decide +kernel) (by decide +kernel) (by decide +kernel) (by decide +kernel)), h.2⟩
  · exact (has_18 w).mono fun e w' h => ⟨h.1.trans (ret_4 (by decide +kernel) (by decide +kernel) (by decide +kernel) (by decide +kernel)), h.2⟩
  · exact (has_19 w).mono fun e w' h => ⟨h.1.trans (ret_4 (by decide +kernel) (by decide +kernel) (by decide +kernel) (by decide +kernel)), h.2⟩
  · exact (has_20 w).mono fun e w' h => ⟨h.1.trans (ret_4 (by decide +kernel) (by decide +kernel) (by decide +kernel) (by decide +kernel)), h.2⟩
  · exact (has_21 w).mono fun e w' h => ⟨h.1.trans (ret_4 (by decide +kernel) (by decide +kernel) (by decide +kernel) (by decide +kernel)), h.2⟩
  · exact (has_22 w).mono fun e w' h => ⟨h.1.trans (ret_4 (by decide +kernel) (by decide +kernel) (by decide +kernel) (by decide +kernel)), h.2⟩
  · exact (has_23 w).mono fun e w' h => ⟨h.1.trans (ret_4 (by decide +kernel) (by decide +kernel) (by decide +kernel) (by decide +kernel)), h.2⟩
  · exact (has_24 w).mono fun e w' h => ⟨h.1.trans (ret_4 (by decide +kernel) (by decide +kernel) (by decide +kernel) (by decide +kernel)), h.2⟩
  · exact (has_25 w).mono fun e w' h => ⟨h.1.trans (ret_4 (by decide +kernel) (by decide +kernel) (by decide +kernel) (by decide +kernel)), h.2⟩
  · exact (has_26 w).mono fun e w' h => ⟨h.1.trans (ret_4 (by decide +kernel) (by decide +kernel) (by decide +kernel) (by decide +kernel)), h.2⟩
  · exact (has_27 w).mono fun e w' h => ⟨h.1.trans (ret_4 (by decide +kernel) (by decide +kernel) (by decide +kernel) (by decide +kernel)), h.2⟩
  · exact (has_28 w).mono fun e w' h => ⟨h.1.trans (ret_4 (by decide +kernel) (by decide +kernel) (by decide +kernel) (by decide +kernel)), h.2⟩
  · exact (has_29 w).mono fun e w' h => ⟨h.1.trans (ret_4 (by decide +kernel) (by decide +kernel) (by decide +kernel) (by decide +kernel)), h.2⟩
  · exact (has_30 w).mono fun e w' h => ⟨h.1.trans (ret_4 (by decide +kernel) (by decide +kernel) (by decide +kernel) (by decide +kernel)), h.2⟩
  · exact (has_31 w).mono fun e w' h => ⟨h.1.trans (ret_4 (by decide +kernel) (by decide +kernel) (by decide +kernel) (by decide +kernel)), h.2⟩
  · exact (has_32 w).mono fun e w' h => ⟨h.1.trans (ret_4 (by decide +kernel) (by decide +kernel) (by decide +kernel) (by decide +kernel)), h.2⟩
  · exact (has_33 w).mono fun e w' h => ⟨h.1.trans (ret_4 (by decide +kernel) (by decide +kernel) (by decide +kernel) (by decide +kernel)), h.2⟩
  · exact (has_34 w).mono fun e w' h => ⟨h.1.trans (ret_4 (by decide +kernel) (by decide +kernel) (by decide +kernel) (by decide +kernel)), h.2⟩
  · exact (has_35 w).mono fun e w' h => ⟨h.1.trans (ret_4 (by decide +kernel) (by decide +kernel) (by decide +kernel) (by decide +kernel)), h.2⟩
  · exact (has_36 w).mono fun e w' h => ⟨h.1.trans (ret_4 (by decide +kernel) (by decide +kernel) (by decide +kernel) (by decide +kernel)), h.2⟩
  · exact (has_37 w).mono fun e w' h => ⟨h.1.trans (ret_4 (by decide +kernel) (by decide +kernel) (by decide +kernel) (by decide +kernel)), h.2⟩
  · exact (has_38 w).mono fun e w' h => ⟨h.1.trans (ret_4 (by decide +kernel) (by decide +kernel) (by decide +kernel) (by decide +kernel)), h.2⟩
  · exact (has_39 w).mono fun e w' h => ⟨h.1.trans (ret_4 (by decide +kernel) (by decide +kernel) (by decide +kernel) (by decide +kernel)), h.2⟩
  · exact (has_40 w).mono fun e w' h => ⟨h.1.trans (ret_4 (by decide +kernel) (by decide +kernel) (by decide +kernel) (by decide +kernel)), h.2⟩
  · exact (has_41 w).mono fun e w' h => ⟨h.1.trans (ret_4 (by decide +kernel) (by decide +kernel) (by decide +kernel) (by decide +kernel)), h.2⟩
theorem reg_any (may : Bool) (n : Int) (w : World) : Calls Tryd.prog 45 #[.bool may, .int .i64 n] w fun e w' => e = .returned (.bool (regB may n)) ∧ w = w' := by
  by_cases h0 : n = 0
  · subst h0
    go_enter Tryd.func45, Tryd.ntmps45
    go_wp2
    go_ret
    exact ⟨ret_bool (by cases may <;> simp [regB]), rfl⟩
  · have g0 : (n == 0) = false := by simpa using h0
    cases may
    · go_enter Tryd.func45, Tryd.ntmps45
      go_wp2
      go_ret
      exact ⟨ret_bool (by simp [regB, h0]), rfl⟩
    · by_cases h1 : 0 < n
      · have g1 : decide (0 < n) = true := by simpa using h1
        go_enter Tryd.func45, Tryd.ntmps45
        go_wp2
        go_ret
        exact ⟨ret_bool (by rw [Bool.eq_iff_iff]; simp [regB]; omega), rfl⟩
      · have g1 : decide (0 < n) = false := by simpa using h1
        go_enter Tryd.func45, Tryd.ntmps45
        go_wp2
        go_ret
        exact ⟨ret_bool (by rw [Bool.eq_iff_iff]; simp [regB]; omega), rfl⟩
set_option maxHeartbeats 4000000 in
theorem Valid_ref (op d a b n : Int) (w : World) : Calls Tryd.prog 22 #[(.agg #[.int .i64 (op), .int .i64 (d), .int .i64 (a), .int .i64 (b), .int .i64 (n)])] w fun e w' => e = .returned (.bool (validB op d a b n)) ∧ Below w.heap.size w w' := by
  cases hr : realB op
  · have hE : validB op d a b n = false := by simp [validB, hr]
    have HE := Lib.hid hE; clear hE
    by_cases h1 : op < 1
    · go_enter Tryd.func22, Tryd.ntmps22
      go_wp2
      go_ret
      exact ⟨ret_bool (by rw [HE.out]), (Below.refl _ _).alloc (Nat.le_refl _) _⟩
    · have h2 : 41 < op := by simp [realB] at hr; omega
      go_enter Tryd.func22, Tryd.ntmps22
      go_wp2
      go_ret
      exact ⟨ret_bool (by rw [HE.out]), (Below.refl _ _).alloc (Nat.le_refl _) _⟩
  · obtain ⟨o, rfl⟩ : ∃ o : Nat, op = o := ⟨op.toNat, by simp [realB] at hr; omega⟩
    have ho : 1 ≤ o ∧ o < 42 := by simp [realB] at hr; omega
    obtain ⟨o1, o2⟩ := ho
    have HE : Hid (validB o d a b n = (regB (fl o 1) d && (regB (fl o 2) a && (regB (fl o 4) b && immB o n)))) := by simp [Hid, validB, hr, fl]
    have HI : Hid (immB o n = if o = 18 ∨ o = 19 ∨ o = 20 then decide (0 ≤ n) && decide (n ≤ 31) else if o = 37 ∨ o = 38 then decide (0 ≤ n) && decide (n < 9) else if fl o 8 then decide (-8192 ≤ n) && decide (n ≤ 8191) else n == 0) := by
      rw [Hid, immB]
      have : (bits BinOp.and IntKind.i64 (hasI o) 8 == 0) = !fl o 8 := by simp [fl, bne]
      rw [this]
      cases fl o 8 <;> rfl
    have H8 := Lib.hid (fl_8 ⟨o, o2⟩)
    clear hr
    cases h1 : regB (fl o 1) d
    · go_enter Tryd.func22, Tryd.ntmps22
      go_wp2_with (first | (go_at_call 23; refine (has_any o (by omega) (by omega) _).mono ?_; rintro e w' ⟨rfl, rfl⟩) | (go_at_call 45; refine (reg_any _ _ _).mono ?_; rintro e w' ⟨rfl, rfl⟩))
      go_ret
      exact ⟨ret_bool (by rw [HE.out, h1]; rfl), (Below.refl _ _).alloc (Nat.le_refl _) _⟩
    · cases h2 : regB (fl o 2) a
      · go_enter Tryd.func22, Tryd.ntmps22
        go_wp2_with (first | (go_at_call 23; refine (has_any o (by omega) (by omega) _).mono ?_; rintro e w' ⟨rfl, rfl⟩) | (go_at_call 45; refine (reg_any _ _ _).mono ?_; rintro e w' ⟨rfl, rfl⟩))
        go_ret
        exact ⟨ret_bool (by rw [HE.out, h1, h2]; rfl), (Below.refl _ _).alloc (Nat.le_refl _) _⟩
      · cases h3 : regB (fl o 4) b
        · go_enter Tryd.func22, Tryd.ntmps22
          go_wp2_with (first | (go_at_call 23; refine (has_any o (by omega) (by omega) _).mono ?_; rintro e w' ⟨rfl, rfl⟩) | (go_at_call 45; refine (reg_any _ _ _).mono ?_; rintro e w' ⟨rfl, rfl⟩))
          go_ret
          exact ⟨ret_bool (by rw [HE.out, h1, h2, h3]; rfl), (Below.refl _ _).alloc (Nat.le_refl _) _⟩
        · have HV : Hid (validB o d a b n = immB o n) := by rw [Hid, HE.out, h1, h2, h3]; rfl
          clear HE
          cases h8 : fl o 8
          · have hs : ¬ (o = 18 ∨ o = 19 ∨ o = 20) ∧ ¬ (o = 37 ∨ o = 38) := by
              have := H8.out
              simp only at this
              rw [h8] at this
              simp at this
              omega
            have g1 : ((o : Int) == 18) = false := by simp; omega
            have g2 : ((o : Int) == 19) = false := by simp; omega
            have g3 : ((o : Int) == 20) = false := by simp; omega
            have g4 : ((o : Int) == 37) = false := by simp; omega
            have g5 : ((o : Int) == 38) = false := by simp; omega
            have HN : Hid (immB o n = (n == 0)) := by rw [Hid, HI.out, if_neg hs.1, if_neg hs.2, h8]; rfl
            clear hs
            by_cases hn : n = 0
            · subst hn
              go_enter Tryd.func22, Tryd.ntmps22
              go_wp2_with (first | (go_at_call 23; refine (has_any o (by omega) (by omega) _).mono ?_; rintro e w' ⟨rfl, rfl⟩) | (go_at_call 45; refine (reg_any _ _ _).mono ?_; rintro e w' ⟨rfl, rfl⟩))
              go_ret
              exact ⟨ret_bool (by rw [HV.out, HN.out]; rfl), (Below.refl _ _).alloc (Nat.le_refl _) _⟩
            · have hn2 : (n != 0) = true := by simpa using hn
              go_enter Tryd.func22, Tryd.ntmps22
              go_wp2_with (first | (go_at_call 23; refine (has_any o (by omega) (by omega) _).mono ?_; rintro e w' ⟨rfl, rfl⟩) | (go_at_call 45; refine (reg_any _ _ _).mono ?_; rintro e w' ⟨rfl, rfl⟩))
              go_ret
              exact ⟨ret_bool (by rw [HV.out, HN.out]; simpa using hn), (Below.refl _ _).alloc (Nat.le_refl _) _⟩
          · by_cases hs : o = 18 ∨ o = 19 ∨ o = 20
            · have HN : Hid (immB o n = (decide (0 ≤ n) && decide (n ≤ 31))) := by rw [Hid, HI.out, if_pos hs]
              by_cases hn : 0 ≤ n
              all_goals
                have hn2 : decide (0 ≤ n) = _ := (by first | exact decide_eq_true hn | exact decide_eq_false hn)
                rcases hs with rfl | rfl | rfl
                all_goals
                  go_enter Tryd.func22, Tryd.ntmps22
                  go_wp2_with (first | (go_at_call 23; refine (has_any _ (by omega) (by omega) _).mono ?_; rintro e w' ⟨rfl, rfl⟩) | (go_at_call 45; refine (reg_any _ _ _).mono ?_; rintro e w' ⟨rfl, rfl⟩))
                  go_ret
                  exact ⟨ret_bool (by rw [HV.out, HN.out, hn2]; rfl), (Below.refl _ _).alloc (Nat.le_refl _) _⟩
            · by_cases ht : o = 37 ∨ o = 38
              · have HN : Hid (immB o n = (decide (0 ≤ n) && decide (n < 9))) := by rw [Hid, HI.out, if_neg hs, if_pos ht]
                by_cases hn : 0 ≤ n
                all_goals
                  have hn2 : decide (0 ≤ n) = _ := (by first | exact decide_eq_true hn | exact decide_eq_false hn)
                  rcases ht with rfl | rfl
                  all_goals
                    go_enter Tryd.func22, Tryd.ntmps22
                    go_wp2_with (first | (go_at_call 23; refine (has_any _ (by omega) (by omega) _).mono ?_; rintro e w' ⟨rfl, rfl⟩) | (go_at_call 45; refine (reg_any _ _ _).mono ?_; rintro e w' ⟨rfl, rfl⟩))
                    go_ret
                    exact ⟨ret_bool (by rw [HV.out, HN.out, hn2]; rfl), (Below.refl _ _).alloc (Nat.le_refl _) _⟩
              · have HN : Hid (immB o n = (decide (-8192 ≤ n) && decide (n ≤ 8191))) := by rw [Hid, HI.out, if_neg hs, if_neg ht, h8]; rfl
                have g1 : ((o : Int) == 18) = false := by simp; omega
                have g2 : ((o : Int) == 19) = false := by simp; omega
                have g3 : ((o : Int) == 20) = false := by simp; omega
                have g4 : ((o : Int) == 37) = false := by simp; omega
                have g5 : ((o : Int) == 38) = false := by simp; omega
                clear hs ht
                by_cases hn : -8192 ≤ n
                all_goals
                  have hn2 : decide (-8192 ≤ n) = _ := (by first | exact decide_eq_true hn | exact decide_eq_false hn)
                  go_enter Tryd.func22, Tryd.ntmps22
                  go_wp2_with (first | (go_at_call 23; refine (has_any o (by omega) (by omega) _).mono ?_; rintro e w' ⟨rfl, rfl⟩) | (go_at_call 45; refine (reg_any _ _ _).mono ?_; rintro e w' ⟨rfl, rfl⟩))
                  go_ret
                  exact ⟨ret_bool (by rw [HV.out, HN.out, hn2]; rfl), (Below.refl _ _).alloc (Nat.le_refl _) _⟩
end
section
open Go.RowKit
theorem Encode_ref (op d a b n : Int) (w : World) : Calls Tryd.prog 56 #[(.agg #[.int .i64 (op), .int .i64 (d), .int .i64 (a), .int .i64 (b), .int .i64 (n)])] w fun e w' => e = .returned (.tuple #[.int .u32 (encW op d a b n), .int .i64 (encE op d a b n)]) ∧ Below w.heap.size w w' := by
  cases hv : validB op d a b n
  · have HE : Hid (encW op d a b n = 0 ∧ encE op d a b n = 6) := by simp [Hid, encW, encE, hv]
    go_enter Tryd.func56, Tryd.ntmps56
    go_wp2_with (go_at_call 22; refine (Valid_ref _ _ _ _ _ _).mono ?_; rintro e w1 ⟨rfl, hb1⟩)
    go_ret2
    exact ⟨ret_two (by rw [HE.out.1]) (by rw [HE.out.2]), ((Below.refl _ _).alloc (Nat.le_refl _) _).trans (hb1.mono (by simp))⟩
  · have HE : Hid (encW op d a b n = wordI op d a b n ∧ encE op d a b n = 0) := by simp [Hid, encW, encE, hv]
    have hB := validB_bounds hv
    go_enter Tryd.func56, Tryd.ntmps56
    go_wp2_with fail
    refine (Valid_ref _ _ _ _ _ _).mono ?_; rintro e w1 ⟨rfl, hb1⟩
    have hk := keepB hb1 (by simp) (new_block w _ _ rfl)
    have k0 := cell_at hk 0 _ rfl; have k1 := cell_at hk 1 _ rfl; have k2 := cell_at hk 2 _ rfl; have k3 := cell_at hk 3 _ rfl; have k4 := cell_at hk 4 _ rfl
    clear hk
    go_wp2_with fail
    go_ret2
    refine ⟨ret_two ?_ (by rw [HE.out.2]), ((Below.refl _ _).alloc (Nat.le_refl _) _).trans (hb1.mono (by simp))⟩
    rw [HE.out.1, wordI]
    omega
theorem Decode_ref (x : Nat) (hx : x < 4294967296) (w : World) : Calls Tryd.prog 43 #[.int .u32 x] w (DecPost x w) := by
  obtain ⟨n, hn⟩ : ∃ n, n = decN x := ⟨_, rfl⟩
  have HD := Lib.hid hn
  have HB : Hid (decB x = validB ((x : Int) % 64) ((x : Int) / 64 % 16) ((x : Int) / 1024 % 16) ((x : Int) / 16384 % 16) n) := by rw [Hid, decB, hn]
  have HN : Hid (n = if (x : Int) / 262144 < 8192 then (x : Int) / 262144 else (x : Int) / 262144 - 16384) := by
    rw [Hid, hn, decN]
    split <;> split <;> omega
  clear hn
  by_cases hlt : (x : Int) / 262144 < 8192
  · have HN2 : Hid ((x : Int) / 262144 = n) := by rw [Hid, HN.out, if_pos hlt]
    go_enter Tryd.func43, Tryd.ntmps43
    go_wp2_with fail
    rw [HN2.out]
    refine (Valid_ref _ _ _ _ _ _).mono ?_; rw [← HB.out]; rintro e w5 ⟨rfl, hb5⟩
    have hkA := keepB hb5 (b := w.heap.size) (by simp; omega) ((Below.heap_alloc _ _ _ (by simp)).trans (new_block w _ _ rfl))
    have hkB := keepB hb5 (b := w.heap.size + 1) (by simp) (new_block (w.alloc _) _ _ (by simp))
    have a0 := cell_at hkA 0 (.int .i64 0) rfl; have a1 := cell_at hkA 1 (.int .i64 0) rfl; have a2 := cell_at hkA 2 (.int .i64 0) rfl; have a3 := cell_at hkA 3 (.int .i64 0) rfl; have a4 := cell_at hkA 4 (.int .i64 0) rfl; have af0 := free_at hkA 0; have af1 := free_at hkA 1; have af2 := free_at hkA 2; have af3 := free_at hkA 3; have af4 := free_at hkA 4
    have b0 := cell_at hkB 0 _ rfl; have b1 := cell_at hkB 1 _ rfl; have b2 := cell_at hkB 2 _ rfl; have b3 := cell_at hkB 3 _ rfl; have b4 := cell_at hkB 4 _ rfl
    have HB5 : Hid (Below w.heap.size w w5) := (((Below.refl _ _).alloc (Nat.le_refl _) _).alloc (by simp) _).trans (hb5.mono (by simp; omega))
    have s6 : w.heap.size < w5.heap.size := by have := hb5.size; simp at this; omega
    clear hkA hkB hb5 HN
    cases hd : decB x
    · go_wp2_with fail
      refine bodyPost_ret (v := .tuple #[(.agg #[.int .i64 (0), .int .i64 (0), .int .i64 (0), .int .i64 (0), .int .i64 (0)]), .bool false]) ?_ rfl ⟨by simp [hd], ?_⟩
      · simp [results, Tryd.results43, go_sem, a0, a1, a2, a3, a4, s6]
      · exact (((((HB5.out.setCell (Nat.le_refl _) _).setCell (Nat.le_refl _) _).setCell (Nat.le_refl _) _).setCell (Nat.le_refl _) _).setCell (Nat.le_refl _) _)
    · go_wp2_with fail
      refine bodyPost_ret (v := .tuple #[(.agg #[.int .i64 ((x : Int) % 64), .int .i64 ((x : Int) / 64 % 16), .int .i64 ((x : Int) / 1024 % 16), .int .i64 ((x : Int) / 16384 % 16), .int .i64 (n)]), .bool true]) ?_ rfl ⟨by rw [HD.out]; simp [hd], ?_⟩
      · simp [results, Tryd.results43, go_sem, a0, a1, a2, a3, a4, s6]
      · exact (((((HB5.out.setCell (Nat.le_refl _) _).setCell (Nat.le_refl _) _).setCell (Nat.le_refl _) _).setCell (Nat.le_refl _) _).setCell (Nat.le_refl _) _)
  · have HN2 : Hid ((x : Int) / 262144 - 16384 = n) := by rw [Hid, HN.out, if_neg hlt]
    go_enter Tryd.func43, Tryd.ntmps43
    go_wp2_with fail
    rw [HN2.out]
    refine (Valid_ref _ _ _ _ _ _).mono ?_; rw [← HB.out]; rintro e w5 ⟨rfl, hb5⟩
    have hkA := keepB hb5 (b := w.heap.size) (by simp; omega) ((Below.heap_alloc _ _ _ (by simp)).trans (new_block w _ _ rfl))
    have hkB := keepB hb5 (b := w.heap.size + 1) (by simp) (new_block (w.alloc _) _ _ (by simp))
    have a0 := cell_at hkA 0 (.int .i64 0) rfl; have a1 := cell_at hkA 1 (.int .i64 0) rfl; have a2 := cell_at hkA 2 (.int .i64 0) rfl; have a3 := cell_at hkA 3 (.int .i64 0) rfl; have a4 := cell_at hkA 4 (.int .i64 0) rfl; have af0 := free_at hkA 0; have af1 := free_at hkA 1; have af2 := free_at hkA 2; have af3 := free_at hkA 3; have af4 := free_at hkA 4
    have b0 := cell_at hkB 0 _ rfl; have b1 := cell_at hkB 1 _ rfl; have b2 := cell_at hkB 2 _ rfl; have b3 := cell_at hkB 3 _ rfl; have b4 := cell_at hkB 4 _ rfl
    have HB5 : Hid (Below w.heap.size w w5) := (((Below.refl _ _).alloc (Nat.le_refl _) _).alloc (by simp) _).trans (hb5.mono (by simp; omega))
    have s6 : w.heap.size < w5.heap.size := by have := hb5.size; simp at this; omega
    clear hkA hkB hb5 HN
    cases hd : decB x
    · go_wp2_with fail
      refine bodyPost_ret (v := .tuple #[(.agg #[.int .i64 (0), .int .i64 (0), .int .i64 (0), .int .i64 (0), .int .i64 (0)]), .bool false]) ?_ rfl ⟨by simp [hd], ?_⟩
      · simp [results, Tryd.results43, go_sem, a0, a1, a2, a3, a4, s6]
      · exact (((((HB5.out.setCell (Nat.le_refl _) _).setCell (Nat.le_refl _) _).setCell (Nat.le_refl _) _).setCell (Nat.le_refl _) _).setCell (Nat.le_refl _) _)
    · go_wp2_with fail
      refine bodyPost_ret (v := .tuple #[(.agg #[.int .i64 ((x : Int) % 64), .int .i64 ((x : Int) / 64 % 16), .int .i64 ((x : Int) / 1024 % 16), .int .i64 ((x : Int) / 16384 % 16), .int .i64 (n)]), .bool true]) ?_ rfl ⟨by rw [HD.out]; simp [hd], ?_⟩
      · simp [results, Tryd.results43, go_sem, a0, a1, a2, a3, a4, s6]
      · exact (((((HB5.out.setCell (Nat.le_refl _) _).setCell (Nat.le_refl _) _).setCell (Nat.le_refl _) _).setCell (Nat.le_refl _) _).setCell (Nat.le_refl _) _)
end
section
open Go.RowKit
theorem validB_op0 (op : Int) : validB op 0 0 0 0 = realB op := by
  cases h : realB op
  · simp [validB, h]
  · have h2 : 1 ≤ op ∧ op ≤ 41 := by simpa [realB] using h
    obtain ⟨o, rfl⟩ := Int.eq_ofNat_of_zero_le (show 0 ≤ op by omega)
    have := (by decide +kernel : ∀ o : Fin 42, 1 ≤ o.val → validB o.val 0 0 0 0 = true) ⟨o, by omega⟩ (by simp only; omega)
    exact this
theorem word_back {op d a b n : Int} (h : validB op d a b n = true) : ∃ x : Nat, encW op d a b n = x ∧ x < 4294967296 ∧ (x : Int) % 64 = op ∧ (x : Int) / 64 % 16 = d ∧ (x : Int) / 1024 % 16 = a ∧ (x : Int) / 16384 % 16 = b ∧ decN x = n ∧ decB x = true := by
  obtain ⟨⟨o1, o2⟩, ⟨d1, d2⟩, ⟨a1, a2⟩, ⟨b1, b2⟩, ⟨n1, n2⟩⟩ := validB_bounds h
  have hw : encW op d a b n = wordI op d a b n := by simp [encW, h]
  have hx : 0 ≤ wordI op d a b n ∧ wordI op d a b n < 4294967296 := by unfold wordI; omega
  obtain ⟨x, hxe⟩ := Int.eq_ofNat_of_zero_le hx.1
  have e1 : (x : Int) % 64 = op := by rw [← hxe, wordI]; omega
  have e2 : (x : Int) / 64 % 16 = d := by rw [← hxe, wordI]; omega
  have e3 : (x : Int) / 1024 % 16 = a := by rw [← hxe, wordI]; omega
  have e4 : (x : Int) / 16384 % 16 = b := by rw [← hxe, wordI]; omega
  have e5 : decN x = n := by
    have : (x : Int) / 262144 = n % 16384 := by rw [← hxe, wordI]; omega
    unfold decN
    split <;> omega
  refine ⟨x, by rw [hw, hxe], by omega, e1, e2, e3, e4, e5, ?_⟩
  rw [decB, e1, e2, e3, e4, e5, h]
theorem dec_word (x : Nat) (hx : x < 4294967296) : wordI ((x : Int) % 64) ((x : Int) / 64 % 16) ((x : Int) / 1024 % 16) ((x : Int) / 16384 % 16) (decN x) = x := by
  unfold wordI decN
  split <;> omega
end
end Isa
end Go.Proofs.YtbemhbooihaadaaDoor
