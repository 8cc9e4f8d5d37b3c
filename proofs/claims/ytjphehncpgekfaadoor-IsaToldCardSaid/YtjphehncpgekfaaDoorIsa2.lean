/- The walks of package isa, second part. -/
import Derived.Test.YtjphehncpgekfaaDoorIsa
import Derived.Laws.BitsAllLaws
namespace Go.Proofs.YtjphehncpgekfaaDoor
open Go.RowKit
set_option maxHeartbeats 400000
set_option maxRecDepth 100000

def validB (op d a b n : Int) : Bool :=
  realB op && (regB (bits BinOp.and IntKind.i64 (hasI op.toNat) 1 != 0) d && (regB (bits BinOp.and IntKind.i64 (hasI op.toNat) 2 != 0) a && (regB (bits BinOp.and IntKind.i64 (hasI op.toNat) 4 != 0) b && immB op.toNat n)))

theorem alloc_tab {w : World} (h : Tab w) (o : Obj) : Tab (w.alloc o) := h.below ((Below.refl _ _).alloc (Nat.le_refl _) o)

theorem valid_any (op d a b n : Int) (w : World) (ht : Tab w) : Calls Tryd.prog 8 #[(.agg #[.int .i64 (op), .int .i64 (d), .int .i64 (a), .int .i64 (b), .int .i64 (n)])] w fun e w' => e = .returned (.bool (validB op d a b n)) ∧ Below w.heap.size w w' := by
  cases hr : realB op
  · have hE : validB op d a b n = false := by simp [validB, hr]
    have HE := Lib.hid hE; clear hE
    go_enter Tryd.func8, Tryd.ntmps8
    go_wp2_with (go_at_call 18; refine (real_any _ _).mono ?_; rintro e w' ⟨rfl, rfl⟩)
    go_ret
    exact ⟨ret_bool (by rw [HE.out]), (Below.refl _ _).alloc (Nat.le_refl _) _⟩
  · obtain ⟨o, rfl⟩ : ∃ o : Nat, op = o := ⟨op.toNat, by simp [realB] at hr; omega⟩
    have ho : o < 42 := by simp [realB] at hr; omega
    have hc := ht o ho
    have h0 : 0 < w.heap.size := World.block_lt_of_cell? w ⟨0, o, none⟩ hc
    have HT := Lib.hid (alloc_tab ht (.cells #[.int .i64 o, .int .i64 d, .int .i64 a, .int .i64 b, .int .i64 n] 23))
    clear ht
    cases h1 : regB (bits BinOp.and IntKind.i64 (hasI o) 1 != 0) d
    · have HE : Hid (validB o d a b n = false) := by simp [Hid, validB, h1]
      go_enter Tryd.func8, Tryd.ntmps8
      go_wp2_with (first | (go_at_call 18; refine (real_any _ _).mono ?_; rintro e w' ⟨rfl, rfl⟩) | (go_at_call 19; refine (register_any _ _ _).mono ?_; rintro e w' ⟨rfl, rfl⟩))
      go_ret
      exact ⟨ret_bool (by rw [HE.out]), (Below.refl _ _).alloc (Nat.le_refl _) _⟩
    · cases h2 : regB (bits BinOp.and IntKind.i64 (hasI o) 2 != 0) a
      · have HE : Hid (validB o d a b n = false) := by simp [Hid, validB, h2]
        go_enter Tryd.func8, Tryd.ntmps8
        go_wp2_with (first | (go_at_call 18; refine (real_any _ _).mono ?_; rintro e w' ⟨rfl, rfl⟩) | (go_at_call 19; refine (register_any _ _ _).mono ?_; rintro e w' ⟨rfl, rfl⟩))
        go_ret
        exact ⟨ret_bool (by rw [HE.out]), (Below.refl _ _).alloc (Nat.le_refl _) _⟩
      · cases h3 : regB (bits BinOp.and IntKind.i64 (hasI o) 4 != 0) b
        · have HE : Hid (validB o d a b n = false) := by simp [Hid, validB, h3]
          go_enter Tryd.func8, Tryd.ntmps8
          go_wp2_with (first | (go_at_call 18; refine (real_any _ _).mono ?_; rintro e w' ⟨rfl, rfl⟩) | (go_at_call 19; refine (register_any _ _ _).mono ?_; rintro e w' ⟨rfl, rfl⟩))
          go_ret
          exact ⟨ret_bool (by rw [HE.out]), (Below.refl _ _).alloc (Nat.le_refl _) _⟩
        · have HE : Hid (validB o d a b n = immB o n) := by simp [Hid, validB, hr, h1, h2, h3]
          go_enter Tryd.func8, Tryd.ntmps8
          go_wp2_with (first | (go_at_call 18; refine (real_any _ _).mono ?_; rintro e w' ⟨rfl, rfl⟩) | (go_at_call 19; refine (register_any _ _ _).mono ?_; rintro e w' ⟨rfl, rfl⟩) | (go_at_call 20; refine (imm_any _ _ ho _ HT.out).mono ?_; rintro e w' ⟨rfl, rfl⟩))
          go_ret
          exact ⟨ret_bool (by rw [HE.out]), (Below.refl _ _).alloc (Nat.le_refl _) _⟩

def kernB (op : Int) : Bool := op == 35 || op == 36 || op == 37 || op == 38 || op == 39 || op == 40
theorem kernel_any (op : Int) (w : World) : Calls Tryd.prog 16 #[.int .i64 op] w fun e w' => e = .returned (.bool (kernB op)) ∧ w = w' := by
  cases h1 : op == 35 <;> cases h2 : op == 36 <;> cases h3 : op == 37 <;> cases h4 : op == 38 <;> cases h5 : op == 39 <;> cases h6 : op == 40
  all_goals
    first
      | (exfalso; simp only [beq_iff_eq] at h1 h2 h3 h4 h5 h6; omega)
      | (go_enter Tryd.func16, Tryd.ntmps16
         go_wp2
         go_ret
         exact ⟨ret_bool (by simp [kernB, h1, h2, h3, h4, h5, h6]), rfl⟩)
theorem kernel_ref (op : Int) (w : World) : Calls Tryd.prog 17 #[.int .i64 op] w fun e w' => e = .returned (.bool (kernB op)) ∧ w = w' := by
  cases h1 : op == 35 <;> cases h2 : op == 36 <;> cases h3 : op == 37 <;> cases h4 : op == 38 <;> cases h5 : op == 39
  all_goals
    first
      | (exfalso; simp only [beq_iff_eq] at h1 h2 h3 h4 h5; omega)
      | (go_enter Tryd.func17, Tryd.ntmps17
         go_wp2
         go_ret
         exact ⟨ret_bool (by simp [kernB, h1, h2, h3, h4, h5]), rfl⟩)

/-- The word of a right instruction. -/
def wordI (op d a b n : Int) : Int := op + d * 64 + a * 1024 + b * 16384 + n % 16384 * 262144
def encW (op d a b n : Int) : Int := if validB op d a b n then wordI op d a b n else 0
def encE (op d a b n : Int) : Int := if validB op d a b n then 0 else 6

theorem regB_bound (may : Bool) (n : Int) (h : regB may n = true) : 0 ≤ n ∧ n ≤ 15 := by
  cases may <;> simp [regB] at h <;> omega
theorem immB_bound (op : Nat) (n : Int) (h : immB op n = true) : -8192 ≤ n ∧ n ≤ 8191 := by
  unfold immB at h
  split at h
  · simp at h; omega
  · split at h
    · simp at h; omega
    · split at h
      · simp at h; omega
      · simp at h; omega
theorem validB_bounds {op d a b n : Int} (h : validB op d a b n = true) : (1 ≤ op ∧ op ≤ 41) ∧ (0 ≤ d ∧ d ≤ 15) ∧ (0 ≤ a ∧ a ≤ 15) ∧ (0 ≤ b ∧ b ≤ 15) ∧ (-8192 ≤ n ∧ n ≤ 8191) := by
  simp only [validB, Bool.and_eq_true] at h
  obtain ⟨h1, h2, h3, h4, h5⟩ := h
  simp [realB] at h1
  exact ⟨h1, regB_bound _ _ h2, regB_bound _ _ h3, regB_bound _ _ h4, immB_bound _ _ h5⟩

theorem nat_word (o d a b m : Nat) (ho : o < 64) (hd : d < 16) (ha : a < 16) (hb : b < 16) : (((o ||| d * 64) ||| a * 1024) ||| b * 16384) ||| m * 262144 = o + d * 64 + a * 1024 + b * 16384 + m * 262144 := by
  have j : ∀ (i x y : Nat), x < 2 ^ i → y % 2 ^ i = 0 → x ||| y = x + y := fun i x y hx hy => by rw [Nat.or_comm, nat_join i y x hy hx, Nat.add_comm]
  rw [j 6 o (d * 64) (by omega) (by omega), j 10 (o + d * 64) (a * 1024) (by omega) (by omega), j 14 _ (b * 16384) (by omega) (by omega), j 18 _ (m * 262144) (by omega) (by omega)]
theorem word_eq (o d a b : Nat) (n : Int) (ho : o < 64) (hd : d < 16) (ha : a < 16) (hb : b < 16) :
    bits BinOp.or IntKind.u32 (bits BinOp.or IntKind.u32 (bits BinOp.or IntKind.u32 (bits BinOp.or IntKind.u32 o ((d : Int) * 64)) ((a : Int) * 1024)) ((b : Int) * 16384)) (n % 4294967296 * 262144 % 4294967296) = wordI o d a b n := by
  obtain ⟨m, hm⟩ : ∃ m : Nat, n % 16384 = m := ⟨(n % 16384).toNat, by omega⟩
  have hm2 : m < 16384 := by omega
  rw [show n % 4294967296 * 262144 % 4294967296 = ((m * 262144 : Nat) : Int) from by omega, show (d : Int) * 64 = ((d * 64 : Nat) : Int) from by simp, show (a : Int) * 1024 = ((a * 1024 : Nat) : Int) from by simp, show (b : Int) * 16384 = ((b * 16384 : Nat) : Int) from by simp]
  have l1 : o ||| d * 64 < 2 ^ 32 := Nat.or_lt_two_pow (by omega) (by omega)
  have l2 : (o ||| d * 64) ||| a * 1024 < 2 ^ 32 := Nat.or_lt_two_pow l1 (by omega)
  have l3 : ((o ||| d * 64) ||| a * 1024) ||| b * 16384 < 2 ^ 32 := Nat.or_lt_two_pow l2 (by omega)
  rw [u32_or_nat _ _ (by omega) (by omega), u32_or_nat _ _ (by omega) (by omega), u32_or_nat _ _ (by omega) (by omega), u32_or_nat _ _ (by omega) (by omega), nat_word o d a b m ho hd ha hb, wordI, hm]
  omega

theorem encode_any (op d a b n : Int) (w : World) (ht : Tab w) : Calls Tryd.prog 7 #[(.agg #[.int .i64 (op), .int .i64 (d), .int .i64 (a), .int .i64 (b), .int .i64 (n)])] w fun e w' => e = .returned (.tuple #[.int .u32 (encW op d a b n), .int .i64 (encE op d a b n)]) ∧ Below w.heap.size w w' := by
  have HT := Lib.hid (alloc_tab ht (.cells #[.int .i64 op, .int .i64 d, .int .i64 a, .int .i64 b, .int .i64 n] 23))
  clear ht
  cases hv : validB op d a b n
  · have HE : Hid (encW op d a b n = 0 ∧ encE op d a b n = 6) := by simp [Hid, encW, encE, hv]
    go_enter Tryd.func7, Tryd.ntmps7
    go_wp2_with (go_at_call 8; refine (valid_any _ _ _ _ _ _ HT.out).mono ?_; rintro e w1 ⟨rfl, hb1⟩)
    go_ret2
    exact ⟨ret_two (by rw [HE.out.1]) (by rw [HE.out.2]), ((Below.refl _ _).alloc (Nat.le_refl _) _).trans (hb1.mono (by simp))⟩
  · have HE : Hid (encW op d a b n = wordI op d a b n ∧ encE op d a b n = 0) := by simp [Hid, encW, encE, hv]
    have hB := validB_bounds hv
    go_enter Tryd.func7, Tryd.ntmps7
    go_wp2_with fail
    refine (valid_any _ _ _ _ _ _ HT.out).mono ?_; rintro e w1 ⟨rfl, hb1⟩
    have k0 : w1.cell? ⟨w.heap.size, 0, none⟩ = some (.int .i64 op) := by rw [hb1.cell (by simp)]; go_simp
    have k1 : w1.cell? ⟨w.heap.size, 1, none⟩ = some (.int .i64 d) := by rw [hb1.cell (by simp)]; go_simp
    have k2 : w1.cell? ⟨w.heap.size, 2, none⟩ = some (.int .i64 a) := by rw [hb1.cell (by simp)]; go_simp
    have k3 : w1.cell? ⟨w.heap.size, 3, none⟩ = some (.int .i64 b) := by rw [hb1.cell (by simp)]; go_simp
    have k4 : w1.cell? ⟨w.heap.size, 4, none⟩ = some (.int .i64 n) := by rw [hb1.cell (by simp)]; go_simp
    go_wp2_with fail
    go_ret2
    refine ⟨ret_two ?_ (by rw [HE.out.2]), ((Below.refl _ _).alloc (Nat.le_refl _) _).trans (hb1.mono (by simp))⟩
    rw [HE.out.1]
    obtain ⟨⟨o1, o2⟩, ⟨d1, d2⟩, ⟨a1, a2⟩, ⟨b1, b2⟩, ⟨n1, n2⟩⟩ := hB
    obtain ⟨o, rfl⟩ := Int.eq_ofNat_of_zero_le (show 0 ≤ op by omega)
    obtain ⟨d', rfl⟩ := Int.eq_ofNat_of_zero_le d1
    obtain ⟨a', rfl⟩ := Int.eq_ofNat_of_zero_le a1
    obtain ⟨b', rfl⟩ := Int.eq_ofNat_of_zero_le b1
    exact word_eq o d' a' b' n (by omega) (by omega) (by omega) (by omega)

theorem cut_any (x at_ n : Nat) (hx : x < 4294967296) (ha : at_ < 32) (hn : n < 20) (w : World) : Calls Tryd.prog 21 #[.int .u32 x, .int .i64 at_, .int .i64 n] w fun e w' => e = .returned (.int .i64 ((x / 2 ^ at_ % 2 ^ n : Nat) : Int)) ∧ Below w.heap.size w w' := by
  have hp : (2 : Nat) ^ n ≤ 2 ^ 19 := Nat.pow_le_pow_right (by decide) (by omega)
  have hp0 : 0 < (2 : Nat) ^ n := Nat.pow_pos (by decide)
  have e2 : (2 : Int) ^ n = ((2 ^ n : Nat) : Int) := by simp
  have q1 : 1 ≤ (2 : Int) ^ n := by rw [e2]; omega
  have q2 : (2 : Int) ^ n ≤ 524288 := by rw [e2]; simp only [Nat.reducePow] at hp; omega
  have HP := Lib.hid hp; have HP0 := Lib.hid hp0; have E2 := Lib.hid e2
  clear hp hp0 e2
  go_enter Tryd.func21, Tryd.ntmps21
  go_wp2_with fail
  go_quiet (fail)
  go_wp2
  go_ret
  refine ⟨ret_int ?_, below_drewN (Below.refl _ _) _⟩
  have e : (x : Int) / 2 ^ at_ = ((x / 2 ^ at_ : Nat) : Int) := by simp
  have e3 : (2 : Int) ^ n - 1 = ((2 ^ n - 1 : Nat) : Int) := by rw [E2.out]; have := HP0.out; omega
  have h1 : x / 2 ^ at_ < 4294967296 := Nat.lt_of_le_of_lt (Nat.div_le_self _ _) hx
  have hp := HP.out
  simp only [Nat.reducePow] at hp
  rw [e, e3, u32_and_nat _ _ h1 (by omega), Nat.and_two_pow_sub_one_eq_mod, IntWalk.wrap64_in]
  have := Nat.mod_lt (x / 2 ^ at_) HP0.out
  omega
def decN (x : Nat) : Int := if x / 262144 < 8192 then ((x / 262144 : Nat) : Int) else ((x / 262144 : Nat) : Int) - 16384
theorem decN_eq (x : Nat) (hx : x < 4294967296) : wrap64 (wrap32 (x : Int) / 262144) = decN x := by
  unfold wrap64 wrap32 decN
  split <;> omega
def decB (x : Nat) : Bool := validB ((x : Int) % 64) ((x : Int) / 64 % 16) ((x : Int) / 1024 % 16) ((x : Int) / 16384 % 16) (decN x)
/-- What Decode hands back: the instruction, or nothing. -/
def DecPost (x : Nat) (w : World) (e : Ending) (w' : World) : Prop :=
  e = .returned (.tuple #[(if decB x then (.agg #[.int .i64 ((x : Int) % 64), .int .i64 ((x : Int) / 64 % 16), .int .i64 ((x : Int) / 1024 % 16), .int .i64 ((x : Int) / 16384 % 16), .int .i64 (decN x)]) else (.agg #[.int .i64 (0), .int .i64 (0), .int .i64 (0), .int .i64 (0), .int .i64 (0)])), .bool (decB x)]) ∧ Below w.heap.size w w'
theorem decode_any (x : Nat) (hx : x < 4294967296) (w : World) (ht : Tab w) : Calls Tryd.prog 9 #[.int .u32 x] w (DecPost x w) := by
  have HN := Lib.hid (decN_eq x hx)
  obtain ⟨n, hn⟩ : ∃ n, n = decN x := ⟨_, rfl⟩
  have HD := Lib.hid hn
  have HB : Hid (decB x = validB ((x : Int) % 64) ((x : Int) / 64 % 16) ((x : Int) / 1024 % 16) ((x : Int) / 16384 % 16) n) := by rw [Hid, decB, hn]
  clear hn
  go_enter Tryd.func9, Tryd.ntmps9
  go_wp2_with fail
  refine (cut_any x 0 6 hx (by omega) (by omega) _).mono ?_; rintro e w1 ⟨rfl, hb1⟩
  go_wp2_with fail
  refine (cut_any x 6 4 hx (by omega) (by omega) _).mono ?_; rintro e w2 ⟨rfl, hb2⟩
  go_wp2_with fail
  refine (cut_any x 10 4 hx (by omega) (by omega) _).mono ?_; rintro e w3 ⟨rfl, hb3⟩
  go_wp2_with fail
  refine (cut_any x 14 4 hx (by omega) (by omega) _).mono ?_; rintro e w4 ⟨rfl, hb4⟩
  have hb : Below (w.heap.size + 1) (w.alloc (.cells #[.int .i64 0, .int .i64 0, .int .i64 0, .int .i64 0, .int .i64 0] 23)) w4 := by
    have s1 := hb1.size; have s2 := hb2.size; have s3 := hb3.size
    simp only [World.size_alloc] at hb1 s1
    exact hb1.trans ((hb2.mono s1).trans ((hb3.mono (Nat.le_trans s1 s2)).trans (hb4.mono (Nat.le_trans s1 (Nat.le_trans s2 s3)))))
  have ht4 : Tab w4 := (alloc_tab ht _).below (by simpa using hb)
  have hs4 := hb.size
  simp only [World.size_alloc] at hs4
  have hk4 : w4.heap[w.heap.size]? = _ := keepB hb (by omega) (new_block w _ _ rfl)
  have hbw : Below w.heap.size w w4 := ((Below.refl _ _).alloc (Nat.le_refl _) _).trans (hb.mono (by omega))
  clear hb1 hb2 hb3 hb4 hb ht
  go_wp2_with fail
  rw [HN.out, ← HD.out]
  have HT := Lib.hid (alloc_tab ht4 (.cells #[.int .i64 ((x : Int) % 64), .int .i64 ((x : Int) / 64 % 16), .int .i64 ((x : Int) / 1024 % 16), .int .i64 ((x : Int) / 16384 % 16), .int .i64 (n)] 23))
  clear ht4
  refine (valid_any _ _ _ _ _ _ HT.out).mono ?_; rw [← HB.out]; rintro e w5 ⟨rfl, hb5⟩
  have s5 := hb5.size
  simp only [World.size_alloc] at hb5 s5
  have hkA : w5.heap[w.heap.size]? = _ := keepB hb5 (by omega) ((Below.heap_alloc _ _ _ (by omega)).trans hk4)
  have hkB : w5.heap[w4.heap.size]? = _ := keepB hb5 (by omega) (new_block w4 _ _ rfl)
  have a0 := cell_at hkA 0 (.int .i64 0) rfl; have a1 := cell_at hkA 1 (.int .i64 0) rfl; have a2 := cell_at hkA 2 (.int .i64 0) rfl; have a3 := cell_at hkA 3 (.int .i64 0) rfl; have a4 := cell_at hkA 4 (.int .i64 0) rfl; have af0 := free_at hkA 0; have af1 := free_at hkA 1; have af2 := free_at hkA 2; have af3 := free_at hkA 3; have af4 := free_at hkA 4
  have HB5 : Hid (Below w.heap.size w w5) := hbw.trans (((Below.refl _ _).alloc (Nat.le_refl _) _).mono hbw.size |>.trans (hb5.mono (by have := hbw.size; omega)))
  have b0 := cell_at hkB 0 _ rfl; have b1 := cell_at hkB 1 _ rfl; have b2 := cell_at hkB 2 _ rfl; have b3 := cell_at hkB 3 _ rfl; have b4 := cell_at hkB 4 _ rfl
  have s6 : w.heap.size < w5.heap.size := by omega
  clear hkA hkB hb5 hk4 hbw HN HT
  cases hd : decB x
  · go_wp2_with fail
    refine bodyPost_ret (v := .tuple #[(.agg #[.int .i64 (0), .int .i64 (0), .int .i64 (0), .int .i64 (0), .int .i64 (0)]), .bool false]) ?_ rfl ⟨by simp [hd], ?_⟩
    · simp [results, Tryd.results9, go_sem, a0, a1, a2, a3, a4, s6]
    · exact (((((HB5.out.setCell (Nat.le_refl _) _).setCell (Nat.le_refl _) _).setCell (Nat.le_refl _) _).setCell (Nat.le_refl _) _).setCell (Nat.le_refl _) _)
  · go_wp2_with fail
    refine bodyPost_ret (v := .tuple #[(.agg #[.int .i64 ((x : Int) % 64), .int .i64 ((x : Int) / 64 % 16), .int .i64 ((x : Int) / 1024 % 16), .int .i64 ((x : Int) / 16384 % 16), .int .i64 (n)]), .bool true]) ?_ rfl ⟨by rw [HD.out]; simp [hd], ?_⟩
    · simp [results, Tryd.results9, go_sem, a0, a1, a2, a3, a4, s6]
    · exact (((((HB5.out.setCell (Nat.le_refl _) _).setCell (Nat.le_refl _) _).setCell (Nat.le_refl _) _).setCell (Nat.le_refl _) _).setCell (Nat.le_refl _) _)

def wrV (op d a b n : Int) : Int := if validB op d a b n && (bits BinOp.and IntKind.i64 (hasI op.toNat) 1 != 0) then d else 0
def wrB (op d a b n : Int) : Bool := validB op d a b n && (bits BinOp.and IntKind.i64 (hasI op.toNat) 1 != 0)
theorem ret_ib {k : IntKind} {a b : Int} {c d : Bool} (h : a = b) (h' : c = d) : Ending.returned (.tuple #[.int k a, .bool c]) = .returned (.tuple #[.int k b, .bool d]) := by rw [h, h']
theorem writes_any (op d a b n : Int) (w : World) (ht : Tab w) : Calls Tryd.prog 13 #[(.agg #[.int .i64 (op), .int .i64 (d), .int .i64 (a), .int .i64 (b), .int .i64 (n)])] w fun e w' => e = .returned (.tuple #[.int .i64 (wrV op d a b n), .bool (wrB op d a b n)]) ∧ Below w.heap.size w w' := by
  have HT := Lib.hid (alloc_tab ht (.cells #[.int .i64 (op), .int .i64 (d), .int .i64 (a), .int .i64 (b), .int .i64 (n)] 23))
  clear ht
  cases hv : validB op d a b n
  · have HE : Hid (wrV op d a b n = 0 ∧ wrB op d a b n = false) := by simp [Hid, wrV, wrB, hv]
    go_enter Tryd.func13, Tryd.ntmps13
    go_wp2_with (go_at_call 8; refine (valid_any _ _ _ _ _ _ HT.out).mono ?_; rintro e w1 ⟨rfl, hb1⟩)
    go_ret2
    exact ⟨ret_ib (by rw [HE.out.1]) (by rw [HE.out.2]), ((Below.refl _ _).alloc (Nat.le_refl _) _).trans (hb1.mono (by simp))⟩
  · have hB := (validB_bounds hv).1
    obtain ⟨o, rfl⟩ := Int.eq_ofNat_of_zero_le (show 0 ≤ op by omega)
    cases hf : bits BinOp.and IntKind.i64 (hasI o) 1 == 0
    all_goals
      have HE : Hid (wrV o d a b n = (if bits BinOp.and IntKind.i64 (hasI o) 1 == 0 then 0 else d) ∧ wrB o d a b n = !(bits BinOp.and IntKind.i64 (hasI o) 1 == 0)) := by
        simp only [Hid, wrV, wrB, hv, Int.toNat_natCast, bne, hf]; exact ⟨rfl, rfl⟩
      rw [hf] at HE
      go_enter Tryd.func13, Tryd.ntmps13
      go_wp2_with fail
      refine (valid_any _ _ _ _ _ _ HT.out).mono ?_; rintro e w1 ⟨rfl, hb1⟩
      have hk := keepB hb1 (by simp) (new_block w _ _ rfl)
      have k0 := cell_at hk 0 _ rfl; have k1 := cell_at hk 1 _ rfl
      have hc := (HT.out.below hb1) o (by omega)
      clear hk
      go_wp2_with fail
      go_ret2
      exact ⟨ret_ib (by rw [HE.out.1]; rfl) (by rw [HE.out.2]; rfl), ((Below.refl _ _).alloc (Nat.le_refl _) _).trans (hb1.mono (by simp))⟩
end Go.Proofs.YtjphehncpgekfaaDoor
