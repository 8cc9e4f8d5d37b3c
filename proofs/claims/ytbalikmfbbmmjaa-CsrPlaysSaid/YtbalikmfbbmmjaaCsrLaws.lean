/- The laws of chapter 12: awake, CsrBack. -/
import Derived.Test.YtbalikmfbbmmjaaCsrRef
namespace Go.Proofs.Ytbalikmfbbmmjaa
open Go.RowKit Go.Sort
set_option maxHeartbeats 400000
set_option maxRecDepth 100000

theorem fldM0 : ∀ (a : Bool) (b : Int) (c : Bool) (w : World), (Instr.field 29 (.agg #[.bool a, .int .i64 b, .bool c]) 0).run Try.prog w = .ok (.bool a) w := fun _ _ _ _ => by kernel_rfl
theorem fldM1 : ∀ (a : Bool) (b : Int) (c : Bool) (w : World), (Instr.field 29 (.agg #[.bool a, .int .i64 b, .bool c]) 1).run Try.prog w = .ok (.int .i64 b) w := fun _ _ _ _ => by kernel_rfl
theorem fldM2 : ∀ (a : Bool) (b : Int) (c : Bool) (w : World), (Instr.field 29 (.agg #[.bool a, .int .i64 b, .bool c]) 2).run Try.prog w = .ok (.bool c) w := fun _ _ _ _ => by kernel_rfl
theorem eqM (a : Bool) (b : Int) (c : Bool) (w : World) : Sem.run Try.prog (Op.equalIn 10000 29 (.agg #[.bool a, .int .i64 b, .bool c]) (.agg #[.bool a, .int .i64 b, .bool c])) w = .ok true w := by
  go_simp
theorem ker4 : hasB 4 4 = true := by decide +kernel
theorem putE_yes {r : List Int} {n : Int} (h : hasB (r.getD 5 0) 4 = true) (h0 : 0 ≤ n) (h1 : n ≤ 6) : putE r n = 0 := by simp only [putE, h, if_true]; rw [if_pos ⟨h0, h1⟩]
theorem putC_0 {r : List Int} {v : Int} (h : hasB (r.getD 5 0) 4 = true) : putC r 0 v = r.set 0 (bits .and .u32 v 7937) := by simp only [putC, h, if_true]
theorem putC_5 {r : List Int} {v : Int} (h : hasB (r.getD 5 0) 4 = true) : putC r 5 v = r.set 5 (bits .and .u32 v 15) := by simp only [putC, h, if_true]; rfl
theorem putC_k {r : List Int} {n : Nat} {v : Int} (h : hasB (r.getD 5 0) 4 = true) (h0 : 1 ≤ n) (h1 : n ≤ 6) (h5 : n ≠ 5) : putC r n v = r.set n v := by
  simp only [putC, h, if_true]
  rw [if_neg (by omega), if_neg (by omega), if_pos (by omega)]
  rfl
theorem awake_any (w : World) : Calls Try.prog 15 #[] w fun e w' => e = .returned (.bool true) ∧ Below w.heap.size w w' := by
  go_enter Try.func15, Try.ntmps15
  go_wp2_with fail
  refine (new_any 1 w (by omega) (by omega)).mono ?_; rintro e w1 ⟨b, rfl, hf1, hb1, hlb⟩
  go_wp2_with fail
  refine (write_any _ _ _ _ _ _ hf1).mono ?_; rintro e w2 ⟨he, hf2, hu2⟩
  have hb2 := bupd hb1 hu2 hlb
  obtain rfl : e = .returned (.int .i64 0) := he
  have hf2 : FileC w2 b [0, 64, 0, 0, 0, 4, 0] 1 := hf2
  clear hf1 hb1 hu2
  go_wp2_with fail
  refine (enter_any _ _ _ _ _ _ _ hf2).mono ?_; rintro e w3 ⟨he, hf3, hu3⟩
  have hb3 := bupd hb2 hu3 hlb
  obtain rfl : e = .returned (.tuple #[.int .u32 64, .int .i64 0]) := he
  clear hf2 hb2 hu3
  go_wp2_with fail
  refine (leave_any _ _ _ _ hf3).mono ?_; rintro e w4 ⟨he, hf4, hu4⟩
  have hb4 := bupd hb3 hu4 hlb
  obtain rfl : e = .returned (.tuple #[.int .u32 8, .int .i64 0]) := he
  clear hf3 hb3 hu4
  go_wp2_with fail
  go_ret
  exact ⟨rfl, hb4⟩
def enS (s : Int) : Int := mvN s 4 1 2 4 8 2
def lvS (s : Int) : Int := mvN s (bits .and .u32 s 10) 2 1 8 4 2
theorem back_bits (s : Int) (h0 : 0 ≤ s) (h1 : s < 16) : hasB (lvS (enS s)) 4 = hasB s 4 ∧ hasB (lvS (enS s)) 1 = hasB s 1 ∧ hasB (enS s) 4 = true ∧ hasB (enS s) 1 = false :=
  st_cases (P := fun s => hasB (lvS (enS s)) 4 = hasB s 4 ∧ hasB (lvS (enS s)) 1 = hasB s 1 ∧ hasB (enS s) 4 = true ∧ hasB (enS s) 1 = false) (by decide +kernel) s h0 h1
theorem and15 (x : Int) (h0 : 0 ≤ x) (h1 : x < 4294967296) : 0 ≤ bits .and .u32 x 15 ∧ bits .and .u32 x 15 < 16 := by
  obtain ⟨n, rfl⟩ := Int.eq_ofNat_of_zero_le h0
  have := u32_and n 15 (by omega) (by omega)
  have h2 : n &&& 15 = n % 16 := Nat.and_two_pow_sub_one_eq_mod n 4
  rw [h2] at this
  rw [show bits .and .u32 (n : Int) 15 = ((n % 16 : Nat) : Int) from this]
  omega
theorem back_walk (st sa tv pc ca tl : Int) (h0 : 0 ≤ st) (h1 : st < 4294967296) (w : World) :
    Calls Try.prog 3 #[.int .u32 st, .int .u32 sa, .int .u32 tv, .int .u32 pc, .int .u32 ca, .int .u32 tl] w fun e w' => e = .returned (.bool true) ∧ Below w.heap.size w w' := by
  have hs := and15 st h0 h1
  clear h0 h1
  go_enter Try.func3, Try.ntmps3
  go_wp2_with fail
  refine (new_any 0 w (by omega) (by omega)).mono ?_; rintro e w1 ⟨b, rfl, hf1, hb1, hlb⟩
  go_wp2_with fail
  refine (write_any _ _ _ _ _ _ hf1).mono ?_; rintro e w2 ⟨he, hf2, hu2⟩
  have hb2 := bupd hb1 hu2 hlb
  obtain rfl : e = .returned (.int .i64 0) := he.trans (ret_int (putE_yes (r := r0) ker4 (by omega) (by omega)))
  rw [putC_0 (r := r0) ker4] at hf2
  have hf2 : FileC w2 b [bits .and .u32 sa 7937, 0, 0, 0, 0, 4, 0] 0 := hf2
  clear hf1 hb1 hu2
  go_wp2_with fail
  refine (write_any _ _ _ _ _ _ hf2).mono ?_; rintro e w3 ⟨he, hf3, hu3⟩
  have hb3 := bupd hb2 hu3 hlb
  obtain rfl : e = .returned (.int .i64 0) := he.trans (ret_int (putE_yes (r := [bits .and .u32 sa 7937, 0, 0, 0, 0, 4, 0]) ker4 (by omega) (by omega)))
  rw [show (1 : Int) = ((1 : Nat) : Int) from rfl, putC_k (r := [bits .and .u32 sa 7937, 0, 0, 0, 0, 4, 0]) ker4 (by omega) (by omega) (by omega)] at hf3
  have hf3 : FileC w3 b [bits .and .u32 sa 7937, tv, 0, 0, 0, 4, 0] 0 := hf3
  clear hf2 hb2 hu3
  go_wp2_with fail
  refine (write_any _ _ _ _ _ _ hf3).mono ?_; rintro e w4 ⟨he, hf4, hu4⟩
  have hb4 := bupd hb3 hu4 hlb
  obtain rfl : e = .returned (.int .i64 0) := he.trans (ret_int (putE_yes (r := [bits .and .u32 sa 7937, tv, 0, 0, 0, 4, 0]) ker4 (by omega) (by omega)))
  rw [putC_5 (r := [bits .and .u32 sa 7937, tv, 0, 0, 0, 4, 0]) ker4] at hf4
  have hf4 : FileC w4 b [bits .and .u32 sa 7937, tv, 0, 0, 0, bits .and .u32 st 15, 0] 0 := hf4
  clear hf3 hb3 hu4
  generalize bits .and .u32 sa 7937 = m at hf4
  generalize bits .and .u32 st 15 = s at hf4 hs
  obtain ⟨hs0, hs1⟩ := hs
  obtain ⟨y1, y2, y3, y4⟩ := back_bits s hs0 hs1
  have HF4 := Lib.hid hf4
  clear hf4 hs0 hs1
  go_wp2_with fail
  refine (mode_any _ _ _ _ HF4.out).mono ?_; rintro e w5 ⟨he, hb5⟩
  obtain rfl : e = .returned (.agg #[.bool (onV m), .int .i64 (rootV m), .bool (!hasB s 4)]) := he
  have HF5 := Lib.hid (HF4.out.below hb5)
  have hb5' := bmore hb4 hb5
  obtain ⟨W6, hW6⟩ : ∃ W, W = w5.alloc (.cells #[.bool (onV m), .int .i64 (rootV m), .bool (!hasB s 4)] 29) := ⟨_, rfl⟩
  have HM6 : Hid (ObjAt W6 w5.heap.size 29 [.bool (onV m), .int .i64 (rootV m), .bool (!hasB s 4)]) := by rw [Hid, hW6]; exact new_block _ _ _ rfl
  have hal : Below w5.heap.size w5 W6 := by rw [hW6]; exact (Below.refl _ _).alloc (Nat.le_refl _) _
  have HF6 := Lib.hid (HF5.out.below hal)
  have hb6 := bmore hb5' hal
  have hlt : b < w5.heap.size := HF5.out.lt
  have HW6 := Lib.hid hW6
  clear hb4 hb5 hb5' hal hW6 HF4 HF5
  have HY1 := Lib.hid y1; have HY2 := Lib.hid y2; have HY3 := Lib.hid y3; have HY4 := Lib.hid y4
  clear y1 y2 y3 y4
  obtain ⟨u4, hu4⟩ : ∃ u, u = hasB s 4 := ⟨_, rfl⟩
  rw [← hu4] at HM6 HW6 HY1
  obtain ⟨o, ho⟩ : ∃ o, o = openV [m, tv, 0, 0, 0, s, 0] := ⟨_, rfl⟩
  have HO := Lib.hid ho
  have HV := Lib.hid hu4
  clear ho
  rw [← hu4]
  clear hu4
  go_wp2_with fail
  rw [← HW6.out]
  refine (open_any _ _ _ _ HF6.out).mono ?_; rw [← HO.out]; rintro e w' ⟨rfl, rfl⟩
  go_wp2_with fail
  refine (enter_any _ _ _ _ _ _ _ HF6.out).mono ?_; rintro e w7 ⟨he, hf7, hu7⟩
  obtain rfl : e = .returned (.tuple #[.int .u32 tv, .int .i64 0]) := he
  have hf7 : FileC w7 b [m, tv, pc, ca, tl, enS s, 0] 0 := hf7
  have HF7 := Lib.hid hf7
  have HM7 := Lib.hid (HM6.out.upd hu7 (by omega))
  have hb7 := bupd hb6 hu7 hlb
  clear hf7 hu7 hb6 HF6 HM6 HW6
  have HO7 : Hid (openV [m, tv, pc, ca, tl, enS s, 0] = false) := by
    show (tv != 0 && hasB (enS s) 1) = false
    rw [HY4.out, Bool.and_false]
  have HM8 : Hid (modeC [m, tv, pc, ca, tl, enS s, 0] = #[.bool (onV m), .int .i64 (rootV m), .bool false]) := by
    show #[Value.bool (onV m), .int .i64 (rootV m), .bool (!hasB (enS s) 4)] = _
    rw [HY3.out]; rfl
  have HC1 := Lib.hid (fun d os => regrown_same ((open_any _ _ _ _ (HF7.out.below (below_regrown _ d os))).mono fun _ _ h => ⟨h.1.trans (congrArg (fun x => Ending.returned (.bool x)) HO7.out), h.2⟩))
  have HC2 := Lib.hid (fun d os => Calls.regrown_of ((mode_any _ _ _ _ (HF7.out.below (below_regrown _ d os))).mono fun _ _ h => ⟨h.1.trans (congrArg (fun x => Ending.returned (.agg x)) HM8.out), h.2⟩))
  have g0 := fldM0; have g1 := fldM1; have g2 := fldM2
  have k0 := cell_regrown (HM7.out.cell 0 _ rfl); have k1 := cell_regrown (HM7.out.cell 1 _ rfl); have k2 := cell_regrown (HM7.out.cell 2 _ rfl)
  go_wp2_with fail
  refine wp_region_quiet_below (by kernel_rfl) (by kernel_rfl) ?_; (repeat (go_big_quiet_step ((first | (go_at_call 11; exact HC1.out _ _) | (go_at_call 10; exact HC2.out _ _))))); refine wpQuiet_nil ?_; intro _ hw'; obtain ⟨⟨dq, osq⟩, hw''⟩ := hw'; subst hw''; have hbq := below_regrown w7 dq osq; generalize grow (redrawn w7 dq) osq = w8 at *
  have HF8 := Lib.hid (HF7.out.below hbq)
  have HM9 := Lib.hid (HM7.out.below hbq)
  have hb8 := bmore hb7 hbq
  clear hbq hb7 HF7 HM7 HM8 HO7 HC1 HC2 k0 k1 k2
  go_wp2_with fail
  refine (read_any _ _ _ _ _ _ HF8.out).mono ?_; rintro e w' ⟨he, rfl⟩
  obtain rfl : e = .returned (.tuple #[.int .u32 ca, .int .i64 0]) := he.trans (ret_two (by simp only [readV, List.getD_cons_succ, List.getD_cons_zero, HY3.out, if_true]; rfl) (by simp only [readE, List.getD_cons_succ, List.getD_cons_zero, HY3.out, if_true]; rfl))
  go_wp2_with fail
  refine (read_any _ _ _ _ _ _ HF8.out).mono ?_; rintro e w' ⟨he, rfl⟩
  obtain rfl : e = .returned (.tuple #[.int .u32 tl, .int .i64 0]) := he.trans (ret_two (by simp only [readV, List.getD_cons_succ, List.getD_cons_zero, HY3.out, if_true]; rfl) (by simp only [readE, List.getD_cons_succ, List.getD_cons_zero, HY3.out, if_true]; rfl))
  go_wp2_with fail
  refine (leave_any _ _ _ _ HF8.out).mono ?_; rintro e w9 ⟨he, hf9, hu9⟩
  obtain rfl : e = .returned (.tuple #[.int .u32 pc, .int .i64 0]) := he
  have hf9 : FileC w9 b [m, tv, pc, ca, tl, lvS (enS s), 0] 0 := hf9
  have HF9 := Lib.hid hf9
  have HM9 := Lib.hid (HM9.out.upd hu9 (by omega))
  have hb9 := bupd hb8 hu9 hlb
  clear hf9 hu9 hb8 HF8
  have HO9 : Hid (openV [m, tv, pc, ca, tl, lvS (enS s), 0] = o) := by
    rw [Hid, HO.out]
    show (tv != 0 && hasB (lvS (enS s)) 1) = (tv != 0 && hasB s 1)
    rw [HY2.out]
  have HMo : Hid (modeC [m, tv, pc, ca, tl, lvS (enS s), 0] = #[.bool (onV m), .int .i64 (rootV m), .bool (!u4)]) := by
    show #[Value.bool (onV m), .int .i64 (rootV m), .bool (!hasB (lvS (enS s)) 4)] = _
    rw [HY1.out]
  have HC1 := Lib.hid (fun d os => regrown_same ((open_any _ _ _ _ (HF9.out.below (below_regrown _ d os))).mono fun _ _ h => ⟨h.1.trans (congrArg (fun x => Ending.returned (.bool x)) HO9.out), h.2⟩))
  have HC2 := Lib.hid (fun d os => Calls.regrown_of ((mode_any _ _ _ _ (HF9.out.below (below_regrown _ d os))).mono fun _ _ h => ⟨h.1.trans (congrArg (fun x => Ending.returned (.agg x)) HMo.out), h.2⟩))
  clear g0 g1 g2
  have hqM := fun w => eqM (onV m) (rootV m) (!u4) w
  have k0 := cell_regrown (HM9.out.cell 0 _ rfl); have k1 := cell_regrown (HM9.out.cell 1 _ rfl); have k2 := cell_regrown (HM9.out.cell 2 _ rfl)
  go_wp2_with fail
  refine wp_region_quiet_below (by kernel_rfl) (by kernel_rfl) ?_; (repeat (go_big_quiet_step ((first | (go_at_call 11; exact HC1.out _ _) | (go_at_call 10; exact HC2.out _ _) | (go_at_call 15; exact Calls.regrown_of (awake_any _)))))); refine wpQuiet_nil ?_; intro _ hw'; obtain ⟨⟨dq2, osq⟩, hw''⟩ := hw'; subst hw''; have hbq := below_regrown w9 dq2 osq; generalize grow (redrawn w9 dq2) osq = wa at *
  have hba := bmore hb9 hbq
  clear hbq HC1 HC2 k0 k1 k2
  go_wp2_with fail
  go_ret
  exact ⟨rfl, hba⟩
end Go.Proofs.Ytbalikmfbbmmjaa
