/- The laws CsrUser and CsrBits. -/
import Derived.Test.YtbalikmfbbmmjaaCsrLaws
namespace Go.Proofs.Ytbalikmfbbmmjaa
open Go.RowKit Go.Sort
set_option maxHeartbeats 400000
set_option maxRecDepth 100000

def arrC (a b c d e f g : Int) : Array Value := #[.int .u32 a, .int .u32 b, .int .u32 c, .int .u32 d, .int .u32 e, .int .u32 f, .int .u32 g]
theorem eqA (a b c d e f g : Int) (w : World) : Sem.run Try.prog (Op.equalIn 10000 37 (.agg #[.int .u32 a, .int .u32 b, .int .u32 c, .int .u32 d, .int .u32 e, .int .u32 f, .int .u32 g]) (.agg #[.int .u32 a, .int .u32 b, .int .u32 c, .int .u32 d, .int .u32 e, .int .u32 f, .int .u32 g])) w = .ok true w := by
  have h := run_equalIn_array_int w 9998 [a, b, c, d, e, f, g] [a, b, c, d, e, f, g] Try.underlying37 Try.underlying22 (by kernel_rfl : (Try.prog.info? 22).map (·.size) = some 1) rfl rfl
  simpa using h
theorem u32_and_bv (a b : BitVec 32) : bits .and .u32 (a.toNat : Int) (b.toNat : Int) = ((a &&& b).toNat : Int) := by
  rw [u32_and _ _ a.isLt b.isLt, BitVec.toNat_and]
theorem u32_andNot_bv (a b : BitVec 32) : bits .andNot .u32 (a.toNat : Int) (b.toNat : Int) = ((a &&& ~~~b).toNat : Int) := by
  simp only [bits]
  show IntKind.u32.wrap ((BitVec.ofInt 32 (a.toNat : Int) &&& ~~~BitVec.ofInt 32 (b.toNat : Int)).toNat : Int) = _
  rw [BitVec.ofInt_natCast, BitVec.ofNat_toNat, BitVec.ofInt_natCast, BitVec.ofNat_toNat]
  simp only [BitVec.setWidth_eq, IntKind.wrap_u32]
  have := (a &&& ~~~b).isLt
  omega
theorem bv_of (x : Int) (h0 : 0 ≤ x) (h1 : x < 4294967296) : ∃ a : BitVec 32, x = (a.toNat : Int) := by
  obtain ⟨n, rfl⟩ := Int.eq_ofNat_of_zero_le h0
  exact ⟨BitVec.ofNat 32 n, by rw [BitVec.toNat_ofNat]; omega⟩
theorem andNot4 (x : Int) (h0 : 0 ≤ x) (h1 : x < 4294967296) : hasB (bits .and .u32 (bits .andNot .u32 x 4) 15) 4 = false := by
  obtain ⟨a, rfl⟩ := bv_of x h0 h1
  have e1 := u32_andNot_bv a 4#32
  have e2 := u32_and_bv (a &&& ~~~4#32) 15#32
  have e3 := u32_and_bv ((a &&& ~~~4#32) &&& 15#32) 4#32
  have e4 : ((a &&& ~~~4#32) &&& 15#32) &&& 4#32 = 0#32 := by
    rw [BitVec.and_assoc, BitVec.and_assoc, show (~~~4#32 &&& (15#32 &&& 4#32)) = 0#32 from by decide, BitVec.and_zero]
  rw [e4] at e3
  unfold hasB
  rw [show (4 : Int) = ((4#32).toNat : Int) from rfl, show (15 : Int) = ((15#32).toNat : Int) from rfl, e1, e2, e3]
  rfl
theorem and_idem (x : Int) (h0 : 0 ≤ x) (h1 : x < 4294967296) : bits .and .u32 (bits .and .u32 x 7937) 7937 = bits .and .u32 x 7937 := by
  obtain ⟨a, rfl⟩ := bv_of x h0 h1
  have e1 := u32_and_bv a 7937#32
  have e2 := u32_and_bv (a &&& 7937#32) 7937#32
  rw [BitVec.and_assoc, BitVec.and_self] at e2
  rw [show (7937 : Int) = ((7937#32).toNat : Int) from rfl, e1, e2]
theorem user_walk (id : Nat) (hid : id < 256) (n v c : Int) (h0 : 0 ≤ v) (h1 : v < 4294967296) (w : World) :
    Calls Try.prog 4 #[.int .u8 id, .int .i64 n, .int .u32 v, .int .i64 c] w fun e w' => e = .returned (.bool true) ∧ Below w.heap.size w w' := by
  have hs := andNot4 v h0 h1
  clear h0 h1
  go_enter Try.func4, Try.ntmps4
  go_wp2_with fail
  refine (new_any ((id : Int) % 4) w (by omega) (by omega)).mono ?_; rintro e w1 ⟨b, rfl, hf1, hb1, hlb⟩
  go_wp2_with fail
  refine (write_any _ _ _ _ _ _ hf1).mono ?_; rintro e w2 ⟨he, hf2, hu2⟩
  have hb2 := bupd hb1 hu2 hlb
  obtain rfl : e = .returned (.int .i64 0) := he
  have hf2 : FileC w2 b [0, 0, 0, 0, 0, 4, 7] ((id : Int) % 4) := hf2
  clear hf1 hb1 hu2
  go_wp2_with fail
  refine (write_any _ _ _ _ _ _ hf2).mono ?_; rintro e w3 ⟨he, hf3, hu3⟩
  have hb3 := bupd hb2 hu3 hlb
  obtain rfl : e = .returned (.int .i64 0) := he
  rw [putC_5 (r := [0, 0, 0, 0, 0, 4, 7]) ker4] at hf3
  have hf3 : FileC w3 b [0, 0, 0, 0, 0, bits .and .u32 (bits .andNot .u32 v 4) 15, 7] ((id : Int) % 4) := hf3
  generalize bits .and .u32 (bits .andNot .u32 v 4) 15 = s at hf3 hs
  clear hf2 hb2 hu3
  have HS := Lib.hid hs
  clear hs
  go_wp2_with fail
  refine (all_any _ _ _ _ hf3).mono ?_; rintro e w4 ⟨he, hb4⟩
  obtain rfl : e = .returned (.agg #[.int .u32 0, .int .u32 0, .int .u32 0, .int .u32 0, .int .u32 0, .int .u32 s, .int .u32 7]) := he
  have hf4 := hf3.below hb4
  have hb4' := bmore hb3 hb4
  clear hf3 hb3 hb4
  obtain ⟨W5, hW5⟩ : ∃ W, W = w4.alloc (.cells #[.int .u32 0, .int .u32 0, .int .u32 0, .int .u32 0, .int .u32 0, .int .u32 s, .int .u32 7] 37) := ⟨_, rfl⟩
  have hal : Below w4.heap.size w4 W5 := by rw [hW5]; exact (Below.refl _ _).alloc (Nat.le_refl _) _
  have hm5 : ObjAt W5 w4.heap.size 37 [.int .u32 0, .int .u32 0, .int .u32 0, .int .u32 0, .int .u32 0, .int .u32 s, .int .u32 7] := by rw [hW5]; exact new_block _ _ _ rfl
  have hf5 := hf4.below hal
  have hb5 := bmore hb4' hal
  have HW5 := Lib.hid hW5
  have hlt := hf4.lt
  clear hf4 hb4' hal hW5
  go_wp2_with fail
  rw [← HW5.out]
  refine (read_any _ _ _ _ _ _ hf5).mono ?_; rintro e w' ⟨he, rfl⟩
  obtain rfl : e = .returned (.tuple #[.int .u32 0, .int .i64 4]) := he.trans (ret_two (by simp only [readV, List.getD_cons_succ, List.getD_cons_zero, HS.out]; rfl) (by simp only [readE, List.getD_cons_succ, List.getD_cons_zero, HS.out]; rfl))
  go_wp2_with fail
  refine (write_any _ _ _ _ _ _ hf5).mono ?_; rintro e w6 ⟨he, hf6, hu6⟩
  obtain rfl : e = .returned (.int .i64 4) := he.trans (ret_int (by simp only [putE, List.getD_cons_succ, List.getD_cons_zero, HS.out]; rfl))
  have e6 : putC [0, 0, 0, 0, 0, s, 7] n v = [0, 0, 0, 0, 0, s, 7] := by simp only [putC, List.getD_cons_succ, List.getD_cons_zero, HS.out]; rfl
  rw [e6] at hf6
  have hm6 := hm5.upd hu6 (by omega)
  have hb6 := bupd hb5 hu6 hlb
  clear e6 hf5 hu6 hm5 hb5 HW5 hlt
  have HMo : Hid (modeC [0, 0, 0, 0, 0, s, 7] = #[.bool (onV 0), .int .i64 (rootV 0), .bool true]) := by
    show #[Value.bool (onV 0), .int .i64 (rootV 0), .bool (!hasB s 4)] = _
    rw [HS.out]; rfl
  have HC1 := Lib.hid (fun d os => Calls.regrown_of ((all_any _ _ _ _ (hf6.below (below_regrown _ d os))).mono fun _ _ h => (⟨h.1, h.2⟩ : _ = Ending.returned (.agg #[.int .u32 0, .int .u32 0, .int .u32 0, .int .u32 0, .int .u32 0, .int .u32 s, .int .u32 7]) ∧ _)))
  have HC2 := Lib.hid (fun d os => Calls.regrown_of ((mode_any _ _ _ _ (hf6.below (below_regrown _ d os))).mono fun _ _ h => ⟨h.1.trans (congrArg (fun x => Ending.returned (.agg x)) HMo.out), h.2⟩))
  have k0 := cell_regrown (hm6.cell 0 _ rfl); have k1 := cell_regrown (hm6.cell 1 _ rfl); have k2 := cell_regrown (hm6.cell 2 _ rfl); have k3 := cell_regrown (hm6.cell 3 _ rfl); have k4 := cell_regrown (hm6.cell 4 _ rfl); have k5 := cell_regrown (hm6.cell 5 _ rfl); have k6 := cell_regrown (hm6.cell 6 _ rfl)
  have hqA := fun w => eqA 0 0 0 0 0 s 7 w
  have g2 := fldM2 (onV 0) (rootV 0) true
  go_wp2_with fail
  refine wp_region_quiet_below (by kernel_rfl) (by kernel_rfl) ?_; (repeat (go_big_quiet_step ((first | (go_at_call 16; exact HC1.out _ _) | (go_at_call 10; exact HC2.out _ _) | (go_at_call 15; exact Calls.regrown_of (awake_any _)))))); refine wpQuiet_nil ?_; intro _ hw'; obtain ⟨⟨dq, osq⟩, hw''⟩ := hw'; subst hw''; have hbq := below_regrown w6 dq osq; generalize grow (redrawn w6 dq) osq = w7 at *
  have hb7 := bmore hb6 hbq
  clear hbq HC1 HC2 k0 k1 k2 k3 k4 k5 k6 hqA g2
  go_wp2_with fail
  go_ret
  exact ⟨rfl, hb7⟩
theorem and_zero : bits .and .u32 0 7937 = 0 := by decide +kernel
set_option maxHeartbeats 4000000 in
theorem bits_walk (n v c : Int) (h0 : 0 ≤ v) (h1 : v < 4294967296) (w : World) :
    Calls Try.prog 5 #[.int .i64 n, .int .u32 v, .int .i64 c] w fun e w' => e = .returned (.bool true) ∧ Below w.heap.size w w' := by
  have H7 := Lib.hid (and_idem v h0 h1)
  obtain ⟨v0, v1⟩ := and15 v h0 h1
  have hz := and_zero
  clear h0 h1
  by_cases hn : 0 ≤ n ∧ n ≤ 6
  · have h7 : n = 0 ∨ n = 1 ∨ n = 2 ∨ n = 3 ∨ n = 4 ∨ n = 5 ∨ n = 6 := by omega
    clear hn
    rcases h7 with rfl | rfl | rfl | rfl | rfl | rfl | rfl
    · as_aux_lemma =>
      go_enter Try.func5, Try.ntmps5
      go_wp2_with fail
      refine (new_any 3 w (by omega) (by omega)).mono ?_; rintro e w1 ⟨b, rfl, hf1, hb1, hlb⟩
      go_wp2_with fail
      refine (write_any _ _ _ _ _ _ hf1).mono ?_; rintro e w2 ⟨he, hf2, hu2⟩
      have hb2 := bupd hb1 hu2 hlb
      obtain rfl : e = .returned (.int .i64 0) := he.trans (ret_int (putE_yes (r := r0) ker4 (by omega) (by omega)))
      rw [putC_0 (r := r0) ker4] at hf2
      have hf2 : FileC w2 b [bits .and .u32 v 7937, 0, 0, 0, 0, 4, 0] 3 := hf2
      have h7 := H7.out
      clear H7 v0 v1
      generalize bits .and .u32 v 7937 = y at hf2 h7
      clear hf1 hb1 hu2
      go_wp2_with fail
      (
      refine (all_any _ _ _ _ hf2).mono ?_; rintro e w4 ⟨he, hb4⟩
      obtain rfl : e = .returned (.agg #[.int .u32 y, .int .u32 0, .int .u32 0, .int .u32 0, .int .u32 0, .int .u32 4, .int .u32 0]) := he
      have hf4 := hf2.below hb4
      have hb4' := bmore hb2 hb4
      obtain ⟨W5, hW5⟩ : ∃ W, W = w4.alloc (.cells #[.int .u32 y, .int .u32 0, .int .u32 0, .int .u32 0, .int .u32 0, .int .u32 4, .int .u32 0] 37) := ⟨_, rfl⟩
      have hal : Below w4.heap.size w4 W5 := by rw [hW5]; exact (Below.refl _ _).alloc (Nat.le_refl _) _
      have hm5 : ObjAt W5 w4.heap.size 37 [.int .u32 y, .int .u32 0, .int .u32 0, .int .u32 0, .int .u32 0, .int .u32 4, .int .u32 0] := by rw [hW5]; exact new_block _ _ _ rfl
      have hf5 := hf4.below hal
      have hb5 := bmore hb4' hal
      have HW5 := Lib.hid hW5
      have hlt := hf4.lt
      have k0 := hm5.cell 0 _ rfl; have k1 := hm5.cell 1 _ rfl; have k2 := hm5.cell 2 _ rfl; have k3 := hm5.cell 3 _ rfl; have k4 := hm5.cell 4 _ rfl; have k5 := hm5.cell 5 _ rfl; have k6 := hm5.cell 6 _ rfl
      rw [HW5.out] at k0 k1 k2 k3 k4 k5 k6
      clear hb4 hf4 hb4' hal hW5
      go_wp2_with fail
      rw [← HW5.out]
      clear k0 k1 k2 k3 k4 k5 k6
      refine (reset_any _ _ _ _ hf5).mono ?_; rintro e w6 ⟨rfl, hf6, hu6⟩
      have hb6 := bupd hb5 hu6 hlb
      clear hf5 hb5 hu6 hm5 HW5
      go_wp2_with fail
      refine (read_any _ _ _ _ _ _ hf6).mono ?_; rintro e w' ⟨he, rfl⟩
      obtain rfl : e = .returned (.tuple #[.int .u32 (c % 4294967296), .int .i64 0]) := he.trans (ret_two (by simp only [readV, r0, List.getD_cons_succ, List.getD_cons_zero, ker4, if_true]; rfl) (by simp only [readE, r0, List.getD_cons_succ, List.getD_cons_zero, ker4, if_true]; rfl))
      go_wp2_with fail
      refine (read_any _ _ _ _ _ _ hf6).mono ?_; rintro e w' ⟨he, rfl⟩
      obtain rfl : e = .returned (.tuple #[.int .u32 3, .int .i64 0]) := he.trans (ret_two (by simp only [readV, r0, List.getD_cons_succ, List.getD_cons_zero, ker4, if_true]; rfl) (by simp only [readE, r0, List.getD_cons_succ, List.getD_cons_zero, ker4, if_true]; rfl))
      go_wp2_with fail
      refine (awake_any _).mono ?_; rintro e w7 ⟨rfl, hb7⟩
      have hb7 := bmore hb6 hb7
      go_wp2_with fail
      go_ret
      exact ⟨rfl, hb7⟩
      )
    · as_aux_lemma =>
      go_enter Try.func5, Try.ntmps5
      go_wp2_with fail
      refine (new_any 3 w (by omega) (by omega)).mono ?_; rintro e w1 ⟨b, rfl, hf1, hb1, hlb⟩
      go_wp2_with fail
      refine (write_any _ _ _ _ _ _ hf1).mono ?_; rintro e w2 ⟨he, hf2, hu2⟩
      have hb2 := bupd hb1 hu2 hlb
      obtain rfl : e = .returned (.int .i64 0) := he.trans (ret_int (putE_yes (r := r0) ker4 (by omega) (by omega)))
      rw [show (1 : Int) = ((1 : Nat) : Int) from rfl, putC_k (r := r0) ker4 (by omega) (by omega) (by omega)] at hf2
      have hf2 : FileC w2 b [0, v, 0, 0, 0, 4, 0] 3 := hf2
      clear v0 v1 H7
      clear hf1 hb1 hu2
      go_wp2_with fail
      (
      refine (all_any _ _ _ _ hf2).mono ?_; rintro e w4 ⟨he, hb4⟩
      obtain rfl : e = .returned (.agg #[.int .u32 0, .int .u32 v, .int .u32 0, .int .u32 0, .int .u32 0, .int .u32 4, .int .u32 0]) := he
      have hf4 := hf2.below hb4
      have hb4' := bmore hb2 hb4
      obtain ⟨W5, hW5⟩ : ∃ W, W = w4.alloc (.cells #[.int .u32 0, .int .u32 v, .int .u32 0, .int .u32 0, .int .u32 0, .int .u32 4, .int .u32 0] 37) := ⟨_, rfl⟩
      have hal : Below w4.heap.size w4 W5 := by rw [hW5]; exact (Below.refl _ _).alloc (Nat.le_refl _) _
      have hm5 : ObjAt W5 w4.heap.size 37 [.int .u32 0, .int .u32 v, .int .u32 0, .int .u32 0, .int .u32 0, .int .u32 4, .int .u32 0] := by rw [hW5]; exact new_block _ _ _ rfl
      have hf5 := hf4.below hal
      have hb5 := bmore hb4' hal
      have HW5 := Lib.hid hW5
      have hlt := hf4.lt
      have k0 := hm5.cell 0 _ rfl; have k1 := hm5.cell 1 _ rfl; have k2 := hm5.cell 2 _ rfl; have k3 := hm5.cell 3 _ rfl; have k4 := hm5.cell 4 _ rfl; have k5 := hm5.cell 5 _ rfl; have k6 := hm5.cell 6 _ rfl
      rw [HW5.out] at k0 k1 k2 k3 k4 k5 k6
      clear hb4 hf4 hb4' hal hW5
      go_wp2_with fail
      rw [← HW5.out]
      clear k0 k1 k2 k3 k4 k5 k6
      refine (reset_any _ _ _ _ hf5).mono ?_; rintro e w6 ⟨rfl, hf6, hu6⟩
      have hb6 := bupd hb5 hu6 hlb
      clear hf5 hb5 hu6 hm5 HW5
      go_wp2_with fail
      refine (read_any _ _ _ _ _ _ hf6).mono ?_; rintro e w' ⟨he, rfl⟩
      obtain rfl : e = .returned (.tuple #[.int .u32 (c % 4294967296), .int .i64 0]) := he.trans (ret_two (by simp only [readV, r0, List.getD_cons_succ, List.getD_cons_zero, ker4, if_true]; rfl) (by simp only [readE, r0, List.getD_cons_succ, List.getD_cons_zero, ker4, if_true]; rfl))
      go_wp2_with fail
      refine (read_any _ _ _ _ _ _ hf6).mono ?_; rintro e w' ⟨he, rfl⟩
      obtain rfl : e = .returned (.tuple #[.int .u32 3, .int .i64 0]) := he.trans (ret_two (by simp only [readV, r0, List.getD_cons_succ, List.getD_cons_zero, ker4, if_true]; rfl) (by simp only [readE, r0, List.getD_cons_succ, List.getD_cons_zero, ker4, if_true]; rfl))
      go_wp2_with fail
      refine (awake_any _).mono ?_; rintro e w7 ⟨rfl, hb7⟩
      have hb7 := bmore hb6 hb7
      go_wp2_with fail
      go_ret
      exact ⟨rfl, hb7⟩
      )
    · as_aux_lemma =>
      go_enter Try.func5, Try.ntmps5
      go_wp2_with fail
      refine (new_any 3 w (by omega) (by omega)).mono ?_; rintro e w1 ⟨b, rfl, hf1, hb1, hlb⟩
      go_wp2_with fail
      refine (write_any _ _ _ _ _ _ hf1).mono ?_; rintro e w2 ⟨he, hf2, hu2⟩
      have hb2 := bupd hb1 hu2 hlb
      obtain rfl : e = .returned (.int .i64 0) := he.trans (ret_int (putE_yes (r := r0) ker4 (by omega) (by omega)))
      rw [show (2 : Int) = ((2 : Nat) : Int) from rfl, putC_k (r := r0) ker4 (by omega) (by omega) (by omega)] at hf2
      have hf2 : FileC w2 b [0, 0, v, 0, 0, 4, 0] 3 := hf2
      clear v0 v1 H7
      clear hf1 hb1 hu2
      go_wp2_with fail
      (
      refine (all_any _ _ _ _ hf2).mono ?_; rintro e w4 ⟨he, hb4⟩
      obtain rfl : e = .returned (.agg #[.int .u32 0, .int .u32 0, .int .u32 v, .int .u32 0, .int .u32 0, .int .u32 4, .int .u32 0]) := he
      have hf4 := hf2.below hb4
      have hb4' := bmore hb2 hb4
      obtain ⟨W5, hW5⟩ : ∃ W, W = w4.alloc (.cells #[.int .u32 0, .int .u32 0, .int .u32 v, .int .u32 0, .int .u32 0, .int .u32 4, .int .u32 0] 37) := ⟨_, rfl⟩
      have hal : Below w4.heap.size w4 W5 := by rw [hW5]; exact (Below.refl _ _).alloc (Nat.le_refl _) _
      have hm5 : ObjAt W5 w4.heap.size 37 [.int .u32 0, .int .u32 0, .int .u32 v, .int .u32 0, .int .u32 0, .int .u32 4, .int .u32 0] := by rw [hW5]; exact new_block _ _ _ rfl
      have hf5 := hf4.below hal
      have hb5 := bmore hb4' hal
      have HW5 := Lib.hid hW5
      have hlt := hf4.lt
      have k0 := hm5.cell 0 _ rfl; have k1 := hm5.cell 1 _ rfl; have k2 := hm5.cell 2 _ rfl; have k3 := hm5.cell 3 _ rfl; have k4 := hm5.cell 4 _ rfl; have k5 := hm5.cell 5 _ rfl; have k6 := hm5.cell 6 _ rfl
      rw [HW5.out] at k0 k1 k2 k3 k4 k5 k6
      clear hb4 hf4 hb4' hal hW5
      go_wp2_with fail
      rw [← HW5.out]
      clear k0 k1 k2 k3 k4 k5 k6
      refine (reset_any _ _ _ _ hf5).mono ?_; rintro e w6 ⟨rfl, hf6, hu6⟩
      have hb6 := bupd hb5 hu6 hlb
      clear hf5 hb5 hu6 hm5 HW5
      go_wp2_with fail
      refine (read_any _ _ _ _ _ _ hf6).mono ?_; rintro e w' ⟨he, rfl⟩
      obtain rfl : e = .returned (.tuple #[.int .u32 (c % 4294967296), .int .i64 0]) := he.trans (ret_two (by simp only [readV, r0, List.getD_cons_succ, List.getD_cons_zero, ker4, if_true]; rfl) (by simp only [readE, r0, List.getD_cons_succ, List.getD_cons_zero, ker4, if_true]; rfl))
      go_wp2_with fail
      refine (read_any _ _ _ _ _ _ hf6).mono ?_; rintro e w' ⟨he, rfl⟩
      obtain rfl : e = .returned (.tuple #[.int .u32 3, .int .i64 0]) := he.trans (ret_two (by simp only [readV, r0, List.getD_cons_succ, List.getD_cons_zero, ker4, if_true]; rfl) (by simp only [readE, r0, List.getD_cons_succ, List.getD_cons_zero, ker4, if_true]; rfl))
      go_wp2_with fail
      refine (awake_any _).mono ?_; rintro e w7 ⟨rfl, hb7⟩
      have hb7 := bmore hb6 hb7
      go_wp2_with fail
      go_ret
      exact ⟨rfl, hb7⟩
      )
    · as_aux_lemma =>
      go_enter Try.func5, Try.ntmps5
      go_wp2_with fail
      refine (new_any 3 w (by omega) (by omega)).mono ?_; rintro e w1 ⟨b, rfl, hf1, hb1, hlb⟩
      go_wp2_with fail
      refine (write_any _ _ _ _ _ _ hf1).mono ?_; rintro e w2 ⟨he, hf2, hu2⟩
      have hb2 := bupd hb1 hu2 hlb
      obtain rfl : e = .returned (.int .i64 0) := he.trans (ret_int (putE_yes (r := r0) ker4 (by omega) (by omega)))
      rw [show (3 : Int) = ((3 : Nat) : Int) from rfl, putC_k (r := r0) ker4 (by omega) (by omega) (by omega)] at hf2
      have hf2 : FileC w2 b [0, 0, 0, v, 0, 4, 0] 3 := hf2
      clear v0 v1 H7
      clear hf1 hb1 hu2
      go_wp2_with fail
      (
      refine (all_any _ _ _ _ hf2).mono ?_; rintro e w4 ⟨he, hb4⟩
      obtain rfl : e = .returned (.agg #[.int .u32 0, .int .u32 0, .int .u32 0, .int .u32 v, .int .u32 0, .int .u32 4, .int .u32 0]) := he
      have hf4 := hf2.below hb4
      have hb4' := bmore hb2 hb4
      obtain ⟨W5, hW5⟩ : ∃ W, W = w4.alloc (.cells #[.int .u32 0, .int .u32 0, .int .u32 0, .int .u32 v, .int .u32 0, .int .u32 4, .int .u32 0] 37) := ⟨_, rfl⟩
      have hal : Below w4.heap.size w4 W5 := by rw [hW5]; exact (Below.refl _ _).alloc (Nat.le_refl _) _
      have hm5 : ObjAt W5 w4.heap.size 37 [.int .u32 0, .int .u32 0, .int .u32 0, .int .u32 v, .int .u32 0, .int .u32 4, .int .u32 0] := by rw [hW5]; exact new_block _ _ _ rfl
      have hf5 := hf4.below hal
      have hb5 := bmore hb4' hal
      have HW5 := Lib.hid hW5
      have hlt := hf4.lt
      have k0 := hm5.cell 0 _ rfl; have k1 := hm5.cell 1 _ rfl; have k2 := hm5.cell 2 _ rfl; have k3 := hm5.cell 3 _ rfl; have k4 := hm5.cell 4 _ rfl; have k5 := hm5.cell 5 _ rfl; have k6 := hm5.cell 6 _ rfl
      rw [HW5.out] at k0 k1 k2 k3 k4 k5 k6
      clear hb4 hf4 hb4' hal hW5
      go_wp2_with fail
      rw [← HW5.out]
      clear k0 k1 k2 k3 k4 k5 k6
      refine (reset_any _ _ _ _ hf5).mono ?_; rintro e w6 ⟨rfl, hf6, hu6⟩
      have hb6 := bupd hb5 hu6 hlb
      clear hf5 hb5 hu6 hm5 HW5
      go_wp2_with fail
      refine (read_any _ _ _ _ _ _ hf6).mono ?_; rintro e w' ⟨he, rfl⟩
      obtain rfl : e = .returned (.tuple #[.int .u32 (c % 4294967296), .int .i64 0]) := he.trans (ret_two (by simp only [readV, r0, List.getD_cons_succ, List.getD_cons_zero, ker4, if_true]; rfl) (by simp only [readE, r0, List.getD_cons_succ, List.getD_cons_zero, ker4, if_true]; rfl))
      go_wp2_with fail
      refine (read_any _ _ _ _ _ _ hf6).mono ?_; rintro e w' ⟨he, rfl⟩
      obtain rfl : e = .returned (.tuple #[.int .u32 3, .int .i64 0]) := he.trans (ret_two (by simp only [readV, r0, List.getD_cons_succ, List.getD_cons_zero, ker4, if_true]; rfl) (by simp only [readE, r0, List.getD_cons_succ, List.getD_cons_zero, ker4, if_true]; rfl))
      go_wp2_with fail
      refine (awake_any _).mono ?_; rintro e w7 ⟨rfl, hb7⟩
      have hb7 := bmore hb6 hb7
      go_wp2_with fail
      go_ret
      exact ⟨rfl, hb7⟩
      )
    · as_aux_lemma =>
      go_enter Try.func5, Try.ntmps5
      go_wp2_with fail
      refine (new_any 3 w (by omega) (by omega)).mono ?_; rintro e w1 ⟨b, rfl, hf1, hb1, hlb⟩
      go_wp2_with fail
      refine (write_any _ _ _ _ _ _ hf1).mono ?_; rintro e w2 ⟨he, hf2, hu2⟩
      have hb2 := bupd hb1 hu2 hlb
      obtain rfl : e = .returned (.int .i64 0) := he.trans (ret_int (putE_yes (r := r0) ker4 (by omega) (by omega)))
      rw [show (4 : Int) = ((4 : Nat) : Int) from rfl, putC_k (r := r0) ker4 (by omega) (by omega) (by omega)] at hf2
      have hf2 : FileC w2 b [0, 0, 0, 0, v, 4, 0] 3 := hf2
      clear v0 v1 H7
      clear hf1 hb1 hu2
      go_wp2_with fail
      (
      refine (all_any _ _ _ _ hf2).mono ?_; rintro e w4 ⟨he, hb4⟩
      obtain rfl : e = .returned (.agg #[.int .u32 0, .int .u32 0, .int .u32 0, .int .u32 0, .int .u32 v, .int .u32 4, .int .u32 0]) := he
      have hf4 := hf2.below hb4
      have hb4' := bmore hb2 hb4
      obtain ⟨W5, hW5⟩ : ∃ W, W = w4.alloc (.cells #[.int .u32 0, .int .u32 0, .int .u32 0, .int .u32 0, .int .u32 v, .int .u32 4, .int .u32 0] 37) := ⟨_, rfl⟩
      have hal : Below w4.heap.size w4 W5 := by rw [hW5]; exact (Below.refl _ _).alloc (Nat.le_refl _) _
      have hm5 : ObjAt W5 w4.heap.size 37 [.int .u32 0, .int .u32 0, .int .u32 0, .int .u32 0, .int .u32 v, .int .u32 4, .int .u32 0] := by rw [hW5]; exact new_block _ _ _ rfl
      have hf5 := hf4.below hal
      have hb5 := bmore hb4' hal
      have HW5 := Lib.hid hW5
      have hlt := hf4.lt
      have k0 := hm5.cell 0 _ rfl; have k1 := hm5.cell 1 _ rfl; have k2 := hm5.cell 2 _ rfl; have k3 := hm5.cell 3 _ rfl; have k4 := hm5.cell 4 _ rfl; have k5 := hm5.cell 5 _ rfl; have k6 := hm5.cell 6 _ rfl
      rw [HW5.out] at k0 k1 k2 k3 k4 k5 k6
      clear hb4 hf4 hb4' hal hW5
      go_wp2_with fail
      rw [← HW5.out]
      clear k0 k1 k2 k3 k4 k5 k6
      refine (reset_any _ _ _ _ hf5).mono ?_; rintro e w6 ⟨rfl, hf6, hu6⟩
      have hb6 := bupd hb5 hu6 hlb
      clear hf5 hb5 hu6 hm5 HW5
      go_wp2_with fail
      refine (read_any _ _ _ _ _ _ hf6).mono ?_; rintro e w' ⟨he, rfl⟩
      obtain rfl : e = .returned (.tuple #[.int .u32 (c % 4294967296), .int .i64 0]) := he.trans (ret_two (by simp only [readV, r0, List.getD_cons_succ, List.getD_cons_zero, ker4, if_true]; rfl) (by simp only [readE, r0, List.getD_cons_succ, List.getD_cons_zero, ker4, if_true]; rfl))
      go_wp2_with fail
      refine (read_any _ _ _ _ _ _ hf6).mono ?_; rintro e w' ⟨he, rfl⟩
      obtain rfl : e = .returned (.tuple #[.int .u32 3, .int .i64 0]) := he.trans (ret_two (by simp only [readV, r0, List.getD_cons_succ, List.getD_cons_zero, ker4, if_true]; rfl) (by simp only [readE, r0, List.getD_cons_succ, List.getD_cons_zero, ker4, if_true]; rfl))
      go_wp2_with fail
      refine (awake_any _).mono ?_; rintro e w7 ⟨rfl, hb7⟩
      have hb7 := bmore hb6 hb7
      go_wp2_with fail
      go_ret
      exact ⟨rfl, hb7⟩
      )
    · as_aux_lemma =>
      go_enter Try.func5, Try.ntmps5
      go_wp2_with fail
      refine (new_any 3 w (by omega) (by omega)).mono ?_; rintro e w1 ⟨b, rfl, hf1, hb1, hlb⟩
      go_wp2_with fail
      refine (write_any _ _ _ _ _ _ hf1).mono ?_; rintro e w2 ⟨he, hf2, hu2⟩
      have hb2 := bupd hb1 hu2 hlb
      obtain rfl : e = .returned (.int .i64 0) := he.trans (ret_int (putE_yes (r := r0) ker4 (by omega) (by omega)))
      rw [putC_5 (r := r0) ker4] at hf2
      have hf2 : FileC w2 b [0, 0, 0, 0, 0, bits .and .u32 v 15, 0] 3 := hf2
      clear H7
      generalize bits .and .u32 v 15 = y at hf2 v0 v1
      clear hf1 hb1 hu2
      go_wp2_with fail
      (
      refine (all_any _ _ _ _ hf2).mono ?_; rintro e w4 ⟨he, hb4⟩
      obtain rfl : e = .returned (.agg #[.int .u32 0, .int .u32 0, .int .u32 0, .int .u32 0, .int .u32 0, .int .u32 y, .int .u32 0]) := he
      have hf4 := hf2.below hb4
      have hb4' := bmore hb2 hb4
      obtain ⟨W5, hW5⟩ : ∃ W, W = w4.alloc (.cells #[.int .u32 0, .int .u32 0, .int .u32 0, .int .u32 0, .int .u32 0, .int .u32 y, .int .u32 0] 37) := ⟨_, rfl⟩
      have hal : Below w4.heap.size w4 W5 := by rw [hW5]; exact (Below.refl _ _).alloc (Nat.le_refl _) _
      have hm5 : ObjAt W5 w4.heap.size 37 [.int .u32 0, .int .u32 0, .int .u32 0, .int .u32 0, .int .u32 0, .int .u32 y, .int .u32 0] := by rw [hW5]; exact new_block _ _ _ rfl
      have hf5 := hf4.below hal
      have hb5 := bmore hb4' hal
      have HW5 := Lib.hid hW5
      have hlt := hf4.lt
      have k0 := hm5.cell 0 _ rfl; have k1 := hm5.cell 1 _ rfl; have k2 := hm5.cell 2 _ rfl; have k3 := hm5.cell 3 _ rfl; have k4 := hm5.cell 4 _ rfl; have k5 := hm5.cell 5 _ rfl; have k6 := hm5.cell 6 _ rfl
      rw [HW5.out] at k0 k1 k2 k3 k4 k5 k6
      clear hb4 hf4 hb4' hal hW5
      go_wp2_with fail
      rw [← HW5.out]
      clear k0 k1 k2 k3 k4 k5 k6
      refine (reset_any _ _ _ _ hf5).mono ?_; rintro e w6 ⟨rfl, hf6, hu6⟩
      have hb6 := bupd hb5 hu6 hlb
      clear hf5 hb5 hu6 hm5 HW5
      go_wp2_with fail
      refine (read_any _ _ _ _ _ _ hf6).mono ?_; rintro e w' ⟨he, rfl⟩
      obtain rfl : e = .returned (.tuple #[.int .u32 (c % 4294967296), .int .i64 0]) := he.trans (ret_two (by simp only [readV, r0, List.getD_cons_succ, List.getD_cons_zero, ker4, if_true]; rfl) (by simp only [readE, r0, List.getD_cons_succ, List.getD_cons_zero, ker4, if_true]; rfl))
      go_wp2_with fail
      refine (read_any _ _ _ _ _ _ hf6).mono ?_; rintro e w' ⟨he, rfl⟩
      obtain rfl : e = .returned (.tuple #[.int .u32 3, .int .i64 0]) := he.trans (ret_two (by simp only [readV, r0, List.getD_cons_succ, List.getD_cons_zero, ker4, if_true]; rfl) (by simp only [readE, r0, List.getD_cons_succ, List.getD_cons_zero, ker4, if_true]; rfl))
      go_wp2_with fail
      refine (awake_any _).mono ?_; rintro e w7 ⟨rfl, hb7⟩
      have hb7 := bmore hb6 hb7
      go_wp2_with fail
      go_ret
      exact ⟨rfl, hb7⟩
      )
    · as_aux_lemma =>
      go_enter Try.func5, Try.ntmps5
      go_wp2_with fail
      refine (new_any 3 w (by omega) (by omega)).mono ?_; rintro e w1 ⟨b, rfl, hf1, hb1, hlb⟩
      go_wp2_with fail
      refine (write_any _ _ _ _ _ _ hf1).mono ?_; rintro e w2 ⟨he, hf2, hu2⟩
      have hb2 := bupd hb1 hu2 hlb
      obtain rfl : e = .returned (.int .i64 0) := he.trans (ret_int (putE_yes (r := r0) ker4 (by omega) (by omega)))
      rw [show (6 : Int) = ((6 : Nat) : Int) from rfl, putC_k (r := r0) ker4 (by omega) (by omega) (by omega)] at hf2
      have hf2 : FileC w2 b [0, 0, 0, 0, 0, 4, v] 3 := hf2
      clear v0 v1 H7
      clear hf1 hb1 hu2
      go_wp2_with fail
      (
      refine (all_any _ _ _ _ hf2).mono ?_; rintro e w4 ⟨he, hb4⟩
      obtain rfl : e = .returned (.agg #[.int .u32 0, .int .u32 0, .int .u32 0, .int .u32 0, .int .u32 0, .int .u32 4, .int .u32 v]) := he
      have hf4 := hf2.below hb4
      have hb4' := bmore hb2 hb4
      obtain ⟨W5, hW5⟩ : ∃ W, W = w4.alloc (.cells #[.int .u32 0, .int .u32 0, .int .u32 0, .int .u32 0, .int .u32 0, .int .u32 4, .int .u32 v] 37) := ⟨_, rfl⟩
      have hal : Below w4.heap.size w4 W5 := by rw [hW5]; exact (Below.refl _ _).alloc (Nat.le_refl _) _
      have hm5 : ObjAt W5 w4.heap.size 37 [.int .u32 0, .int .u32 0, .int .u32 0, .int .u32 0, .int .u32 0, .int .u32 4, .int .u32 v] := by rw [hW5]; exact new_block _ _ _ rfl
      have hf5 := hf4.below hal
      have hb5 := bmore hb4' hal
      have HW5 := Lib.hid hW5
      have hlt := hf4.lt
      have k0 := hm5.cell 0 _ rfl; have k1 := hm5.cell 1 _ rfl; have k2 := hm5.cell 2 _ rfl; have k3 := hm5.cell 3 _ rfl; have k4 := hm5.cell 4 _ rfl; have k5 := hm5.cell 5 _ rfl; have k6 := hm5.cell 6 _ rfl
      rw [HW5.out] at k0 k1 k2 k3 k4 k5 k6
      clear hb4 hf4 hb4' hal hW5
      go_wp2_with fail
      rw [← HW5.out]
      clear k0 k1 k2 k3 k4 k5 k6
      refine (reset_any _ _ _ _ hf5).mono ?_; rintro e w6 ⟨rfl, hf6, hu6⟩
      have hb6 := bupd hb5 hu6 hlb
      clear hf5 hb5 hu6 hm5 HW5
      go_wp2_with fail
      refine (read_any _ _ _ _ _ _ hf6).mono ?_; rintro e w' ⟨he, rfl⟩
      obtain rfl : e = .returned (.tuple #[.int .u32 (c % 4294967296), .int .i64 0]) := he.trans (ret_two (by simp only [readV, r0, List.getD_cons_succ, List.getD_cons_zero, ker4, if_true]; rfl) (by simp only [readE, r0, List.getD_cons_succ, List.getD_cons_zero, ker4, if_true]; rfl))
      go_wp2_with fail
      refine (read_any _ _ _ _ _ _ hf6).mono ?_; rintro e w' ⟨he, rfl⟩
      obtain rfl : e = .returned (.tuple #[.int .u32 3, .int .i64 0]) := he.trans (ret_two (by simp only [readV, r0, List.getD_cons_succ, List.getD_cons_zero, ker4, if_true]; rfl) (by simp only [readE, r0, List.getD_cons_succ, List.getD_cons_zero, ker4, if_true]; rfl))
      go_wp2_with fail
      refine (awake_any _).mono ?_; rintro e w7 ⟨rfl, hb7⟩
      have hb7 := bmore hb6 hb7
      go_wp2_with fail
      go_ret
      exact ⟨rfl, hb7⟩
      )
  · have n0 : (decide (0 ≤ n) && decide (n ≤ 6)) = false := by simp; omega
    have hE : putE r0 n = 1 := by simp only [putE, r0, List.getD_cons_succ, List.getD_cons_zero, ker4, if_true]; rw [if_neg hn]
    have hC : putC r0 n v = r0 := by simp only [putC, show r0.getD 5 0 = 4 from rfl, ker4, if_true]; rw [if_neg (by omega), if_neg (by omega), if_neg (by omega)]
    have HE := Lib.hid hE; have HC := Lib.hid hC
    clear hE hC H7 v0 v1 n0
    have hqA := fun w => eqA 0 0 0 0 0 4 0 w
    by_cases g0 : n < 0
    · clear hn
      as_aux_lemma =>
      (
      go_enter Try.func5, Try.ntmps5
      go_wp2_with fail
      refine (new_any 3 w (by omega) (by omega)).mono ?_; rintro e w1 ⟨b, rfl, hf1, hb1, hlb⟩
      go_wp2_with fail
      refine (write_any _ _ _ _ _ _ hf1).mono ?_; rintro e w2 ⟨he, hf2, hu2⟩
      have hb2 := bupd hb1 hu2 hlb
      obtain rfl : e = .returned (.int .i64 1) := he.trans (ret_int HE.out)
      rw [HC.out] at hf2
      clear hf1 hb1 hu2
      go_wp2_with fail
      refine (all_any _ _ _ _ hf2).mono ?_; rintro e w4 ⟨he, hb4⟩
      obtain rfl : e = .returned (.agg #[.int .u32 0, .int .u32 0, .int .u32 0, .int .u32 0, .int .u32 0, .int .u32 4, .int .u32 0]) := he
      have hf3 := hf2.below hb4
      have hb3 := bmore hb2 hb4
      clear hf2 hb2 hb4
      go_wp2_with fail
      (
      refine (all_any _ _ _ _ hf3).mono ?_; rintro e w4 ⟨he, hb4⟩
      obtain rfl : e = .returned (.agg #[.int .u32 0, .int .u32 0, .int .u32 0, .int .u32 0, .int .u32 0, .int .u32 4, .int .u32 0]) := he
      have hf4 := hf3.below hb4
      have hb4' := bmore hb3 hb4
      obtain ⟨W5, hW5⟩ : ∃ W, W = w4.alloc (.cells #[.int .u32 0, .int .u32 0, .int .u32 0, .int .u32 0, .int .u32 0, .int .u32 4, .int .u32 0] 37) := ⟨_, rfl⟩
      have hal : Below w4.heap.size w4 W5 := by rw [hW5]; exact (Below.refl _ _).alloc (Nat.le_refl _) _
      have hm5 : ObjAt W5 w4.heap.size 37 [.int .u32 0, .int .u32 0, .int .u32 0, .int .u32 0, .int .u32 0, .int .u32 4, .int .u32 0] := by rw [hW5]; exact new_block _ _ _ rfl
      have hf5 := hf4.below hal
      have hb5 := bmore hb4' hal
      have HW5 := Lib.hid hW5
      have hlt := hf4.lt
      have k0 := hm5.cell 0 _ rfl; have k1 := hm5.cell 1 _ rfl; have k2 := hm5.cell 2 _ rfl; have k3 := hm5.cell 3 _ rfl; have k4 := hm5.cell 4 _ rfl; have k5 := hm5.cell 5 _ rfl; have k6 := hm5.cell 6 _ rfl
      rw [HW5.out] at k0 k1 k2 k3 k4 k5 k6
      clear hb4 hf4 hb4' hal hW5
      go_wp2_with fail
      rw [← HW5.out]
      clear k0 k1 k2 k3 k4 k5 k6
      refine (reset_any _ _ _ _ hf5).mono ?_; rintro e w6 ⟨rfl, hf6, hu6⟩
      have hb6 := bupd hb5 hu6 hlb
      clear hf5 hb5 hu6 hm5 HW5
      go_wp2_with fail
      refine (read_any _ _ _ _ _ _ hf6).mono ?_; rintro e w' ⟨he, rfl⟩
      obtain rfl : e = .returned (.tuple #[.int .u32 (c % 4294967296), .int .i64 0]) := he.trans (ret_two (by simp only [readV, r0, List.getD_cons_succ, List.getD_cons_zero, ker4, if_true]; rfl) (by simp only [readE, r0, List.getD_cons_succ, List.getD_cons_zero, ker4, if_true]; rfl))
      go_wp2_with fail
      refine (read_any _ _ _ _ _ _ hf6).mono ?_; rintro e w' ⟨he, rfl⟩
      obtain rfl : e = .returned (.tuple #[.int .u32 3, .int .i64 0]) := he.trans (ret_two (by simp only [readV, r0, List.getD_cons_succ, List.getD_cons_zero, ker4, if_true]; rfl) (by simp only [readE, r0, List.getD_cons_succ, List.getD_cons_zero, ker4, if_true]; rfl))
      go_wp2_with fail
      refine (awake_any _).mono ?_; rintro e w7 ⟨rfl, hb7⟩
      have hb7 := bmore hb6 hb7
      go_wp2_with fail
      go_ret
      exact ⟨rfl, hb7⟩
      )
      )
    · have g1 : 6 < n := by omega
      clear hn
      as_aux_lemma =>
      (
      go_enter Try.func5, Try.ntmps5
      go_wp2_with fail
      refine (new_any 3 w (by omega) (by omega)).mono ?_; rintro e w1 ⟨b, rfl, hf1, hb1, hlb⟩
      go_wp2_with fail
      refine (write_any _ _ _ _ _ _ hf1).mono ?_; rintro e w2 ⟨he, hf2, hu2⟩
      have hb2 := bupd hb1 hu2 hlb
      obtain rfl : e = .returned (.int .i64 1) := he.trans (ret_int HE.out)
      rw [HC.out] at hf2
      clear hf1 hb1 hu2
      go_wp2_with fail
      refine (all_any _ _ _ _ hf2).mono ?_; rintro e w4 ⟨he, hb4⟩
      obtain rfl : e = .returned (.agg #[.int .u32 0, .int .u32 0, .int .u32 0, .int .u32 0, .int .u32 0, .int .u32 4, .int .u32 0]) := he
      have hf3 := hf2.below hb4
      have hb3 := bmore hb2 hb4
      clear hf2 hb2 hb4
      go_wp2_with fail
      (
      refine (all_any _ _ _ _ hf3).mono ?_; rintro e w4 ⟨he, hb4⟩
      obtain rfl : e = .returned (.agg #[.int .u32 0, .int .u32 0, .int .u32 0, .int .u32 0, .int .u32 0, .int .u32 4, .int .u32 0]) := he
      have hf4 := hf3.below hb4
      have hb4' := bmore hb3 hb4
      obtain ⟨W5, hW5⟩ : ∃ W, W = w4.alloc (.cells #[.int .u32 0, .int .u32 0, .int .u32 0, .int .u32 0, .int .u32 0, .int .u32 4, .int .u32 0] 37) := ⟨_, rfl⟩
      have hal : Below w4.heap.size w4 W5 := by rw [hW5]; exact (Below.refl _ _).alloc (Nat.le_refl _) _
      have hm5 : ObjAt W5 w4.heap.size 37 [.int .u32 0, .int .u32 0, .int .u32 0, .int .u32 0, .int .u32 0, .int .u32 4, .int .u32 0] := by rw [hW5]; exact new_block _ _ _ rfl
      have hf5 := hf4.below hal
      have hb5 := bmore hb4' hal
      have HW5 := Lib.hid hW5
      have hlt := hf4.lt
      have k0 := hm5.cell 0 _ rfl; have k1 := hm5.cell 1 _ rfl; have k2 := hm5.cell 2 _ rfl; have k3 := hm5.cell 3 _ rfl; have k4 := hm5.cell 4 _ rfl; have k5 := hm5.cell 5 _ rfl; have k6 := hm5.cell 6 _ rfl
      rw [HW5.out] at k0 k1 k2 k3 k4 k5 k6
      clear hb4 hf4 hb4' hal hW5
      go_wp2_with fail
      rw [← HW5.out]
      clear k0 k1 k2 k3 k4 k5 k6
      refine (reset_any _ _ _ _ hf5).mono ?_; rintro e w6 ⟨rfl, hf6, hu6⟩
      have hb6 := bupd hb5 hu6 hlb
      clear hf5 hb5 hu6 hm5 HW5
      go_wp2_with fail
      refine (read_any _ _ _ _ _ _ hf6).mono ?_; rintro e w' ⟨he, rfl⟩
      obtain rfl : e = .returned (.tuple #[.int .u32 (c % 4294967296), .int .i64 0]) := he.trans (ret_two (by simp only [readV, r0, List.getD_cons_succ, List.getD_cons_zero, ker4, if_true]; rfl) (by simp only [readE, r0, List.getD_cons_succ, List.getD_cons_zero, ker4, if_true]; rfl))
      go_wp2_with fail
      refine (read_any _ _ _ _ _ _ hf6).mono ?_; rintro e w' ⟨he, rfl⟩
      obtain rfl : e = .returned (.tuple #[.int .u32 3, .int .i64 0]) := he.trans (ret_two (by simp only [readV, r0, List.getD_cons_succ, List.getD_cons_zero, ker4, if_true]; rfl) (by simp only [readE, r0, List.getD_cons_succ, List.getD_cons_zero, ker4, if_true]; rfl))
      go_wp2_with fail
      refine (awake_any _).mono ?_; rintro e w7 ⟨rfl, hb7⟩
      have hb7 := bmore hb6 hb7
      go_wp2_with fail
      go_ret
      exact ⟨rfl, hb7⟩
      )
      )
end Go.Proofs.Ytbalikmfbbmmjaa
