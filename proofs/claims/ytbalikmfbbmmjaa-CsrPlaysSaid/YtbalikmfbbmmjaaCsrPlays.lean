/- The law CsrPlays. -/
import Derived.Test.YtbalikmfbbmmjaaCsrUser
namespace Go.Proofs.Ytbalikmfbbmmjaa
open Go.RowKit Go.Sort
set_option maxHeartbeats 400000
set_option maxRecDepth 100000

theorem seven (r : List Int) (h : r.length = 7) : ∃ a b c d e f g, r = [a, b, c, d, e, f, g] := by
  match r, h with
  | [a, b, c, d, e, f, g], _ => exact ⟨a, b, c, d, e, f, g, rfl⟩
theorem and7937 (x : Int) (h0 : 0 ≤ x) (h1 : x < 4294967296) : 0 ≤ bits .and .u32 x 7937 ∧ bits .and .u32 x 7937 < 4294967296 := by
  obtain ⟨a, rfl⟩ := bv_of x h0 h1
  have e1 := u32_and_bv a 7937#32
  rw [show (7937 : Int) = ((7937#32).toNat : Int) from rfl, e1]
  have := (a &&& 7937#32).isLt
  omega
theorem ok_r0 : StOk r0 := ⟨by decide, by decide, by decide, by decide⟩
theorem ok_enter {r : List Int} (h : StOk r) (hl : r.length = 7) (pc c t : Int) : StOk (enterR r pc c t) := by
  obtain ⟨x0, x1, x2, x3, x4, x5, x6, rfl⟩ := seven r hl
  have := (mv_ok x5 h.1 h.2.1).1
  exact ⟨this.1, this.2, h.2.2.1, h.2.2.2⟩
theorem ok_leave {r : List Int} (h : StOk r) (hl : r.length = 7) : StOk (leaveR r) := by
  obtain ⟨x0, x1, x2, x3, x4, x5, x6, rfl⟩ := seven r hl
  have := (mv_ok x5 h.1 h.2.1).2
  exact ⟨this.1, this.2, h.2.2.1, h.2.2.2⟩
theorem ok_put {r : List Int} (h : StOk r) (hl : r.length = 7) (n v : Int) (h0 : 0 ≤ v) (h1 : v < 4294967296) : StOk (putC r n v) := by
  obtain ⟨x0, x1, x2, x3, x4, x5, x6, rfl⟩ := seven r hl
  have a := and7937 v h0 h1
  have c := and15 v h0 h1
  obtain ⟨h1, h2, h3, h4⟩ := h
  simp only [List.getD_cons_succ, List.getD_cons_zero] at h1 h2 h3 h4
  cases hk : hasB x5 4
  · have e : putC [x0, x1, x2, x3, x4, x5, x6] n v = [x0, x1, x2, x3, x4, x5, x6] := by simp only [putC, List.getD_cons_succ, List.getD_cons_zero, hk]; rfl
    rw [e]; exact ⟨h1, h2, h3, h4⟩
  · by_cases hn : 0 ≤ n ∧ n ≤ 6
    · have h7 : n = 0 ∨ n = 1 ∨ n = 2 ∨ n = 3 ∨ n = 4 ∨ n = 5 ∨ n = 6 := by omega
      rcases h7 with rfl | rfl | rfl | rfl | rfl | rfl | rfl <;> simp only [putC, List.getD_cons_succ, List.getD_cons_zero, hk, if_true]
      · exact ⟨h1, h2, a.1, a.2⟩
      · exact ⟨h1, h2, h3, h4⟩
      · exact ⟨h1, h2, h3, h4⟩
      · exact ⟨h1, h2, h3, h4⟩
      · exact ⟨h1, h2, h3, h4⟩
      · exact ⟨c.1, c.2, h3, h4⟩
      · exact ⟨h1, h2, h3, h4⟩
    · have e : putC [x0, x1, x2, x3, x4, x5, x6] n v = [x0, x1, x2, x3, x4, x5, x6] := by
        simp only [putC, List.getD_cons_succ, List.getD_cons_zero, hk, if_true]; rw [if_neg (by omega), if_neg (by omega), if_neg (by omega)]
      rw [e]; exact ⟨h1, h2, h3, h4⟩
/-- All that the round holds of the two objects. -/
def Both (w W : World) (b g : Nat) (r : List Int) (id : Int) : Prop := FileC W b r id ∧ RefC W g r id ∧ StOk r ∧ Below w.heap.size w W ∧ w.heap.size ≤ b ∧ w.heap.size ≤ g ∧ b ≠ g
theorem row_at {w : World} {k : IntKind} {a : Option Addr} {c : Nat} {xs : List Int} (h : RowI w k (.slice a xs.length c) xs) (n : Nat) (hn : n < xs.length) : ∃ b o x, a = some ⟨b, o, none⟩ ∧ x ∈ xs ∧ b < w.heap.size ∧ ∀ W, Below w.heap.size w W → W.cell? ⟨b, o + n, none⟩ = some (.int k x) := by
  obtain ⟨_, _, e, _, _, q⟩ := h
  injection e with e1 e2 e3
  subst e1
  obtain ⟨b, o, rfl, hc⟩ := q (by intro h; simp [h] at hn)
  have h1 := hc n hn
  have hb := World.block_lt_of_cell? w ⟨b, o + n, none⟩ h1
  exact ⟨b, o, xs[n], rfl, List.getElem_mem hn, hb, fun W hW => (hW.cell (p := ⟨b, o + n, none⟩) hb).trans h1⟩
set_option maxHeartbeats 8000000 in
theorem plays_walk (id : Int) (v1 v2 v3 v4 : Value) (ks ns vs us : List Int) (w : World) (h1 : RowI w .u8 v1 ks) (hk : ∀ x ∈ ks, 0 ≤ x ∧ x < 256) (h2 : RowI w .i64 v2 ns) (h3 : RowI w .u32 v3 vs) (hv : ∀ x ∈ vs, 0 ≤ x ∧ x < 4294967296) (h4 : RowI w .u32 v4 us) :
    Calls Try.prog 7 #[.int .i64 id, v1, v2, v3, v4] w fun e w' => e = .returned (.bool true) ∧ Below w.heap.size w w' := by
  obtain ⟨a1, c1, rfl⟩ := h1.form
  obtain ⟨a2, c2, rfl⟩ := h2.form
  obtain ⟨a3, c3, rfl⟩ := h3.form
  obtain ⟨a4, c4, rfl⟩ := h4.form
  have hl1 : ks.length ≤ 9223372036854775807 := by obtain ⟨_, _, e, q1, q2, _⟩ := h1; unfold maxLen at q2; omega
  have hl2 : ns.length ≤ 9223372036854775807 := by obtain ⟨_, _, e, q1, q2, _⟩ := h2; unfold maxLen at q2; omega
  have hl3 : vs.length ≤ 9223372036854775807 := by obtain ⟨_, _, e, q1, q2, _⟩ := h3; unfold maxLen at q2; omega
  have hl4 : us.length ≤ 9223372036854775807 := by obtain ⟨_, _, e, q1, q2, _⟩ := h4; unfold maxLen at q2; omega
  have H1 := Lib.hid h1; have H2 := Lib.hid h2; have H3 := Lib.hid h3; have H4 := Lib.hid h4; have HK := Lib.hid hk; have HVS := Lib.hid hv
  clear h1 h2 h3 h4 hk hv
  by_cases hid : id < 0 ∨ 4 ≤ id
  · as_aux_lemma =>
      go_enter Try.func7, Try.ntmps7
      go_wp2_with fail
      refine (new_no id w hid).mono ?_; rintro e w' ⟨rfl, rfl⟩
      go_wp2_with fail
      refine (rnew_no id w hid).mono ?_; rintro e w' ⟨rfl, rfl⟩
      go_wp2_with fail
      refine (awake_any _).mono ?_; rintro e wz ⟨rfl, hbz⟩
      go_wp2_with fail
      go_ret
      exact ⟨rfl, hbz⟩
  · go_enter Try.func7, Try.ntmps7
    go_wp2_with fail
    refine (new_any id w (by omega) (by omega)).mono ?_; rintro e w1 ⟨b, rfl, hf1, hb1, hlb⟩
    go_wp2_with fail
    refine (rnew_any id w1 (by omega) (by omega)).mono ?_; rintro e w2 ⟨g, rfl, hg2, hb2, hlg⟩
    have HT0 : Hid (Both w w2 b g r0 id) := ⟨hf1.below hb2, hg2, ok_r0, bmore hb1 hb2, hlb, Nat.le_trans hb1.size hlg, by have := hf1.lt; omega⟩
    clear hf1 hb1 hlb hg2 hb2 hlg hid
    go_wp2_with fail
    go_loopw [15] (fun k wr => ∃ (n : Nat) (r : List Int), n ≤ 100 ∧ k = .int .i64 n ∧ Both w wr b g r id) (fun k _ => 100 - (intOf k).toNat)
    case atStart => exact ⟨0, r0, by omega, rfl, HT0.out⟩
    case round =>
      clear HT0
      obtain ⟨n, r, hn, rfl, ht⟩ := hrel
      have HT := Lib.hid ht
      clear ht
      by_cases g1 : n < ks.length
      · have d1 : decide ((n : Int) < ks.length) = true := by simp; omega
        by_cases g2 : n < ns.length
        · have d2 : decide ((n : Int) < ns.length) = true := by simp; omega
          by_cases g3 : n < vs.length
          · have d3 : decide ((n : Int) < vs.length) = true := by simp; omega
            by_cases g4 : n < us.length
            · have d4 : decide ((n : Int) < us.length) = true := by simp; omega
              by_cases g5 : n < 100
              · obtain ⟨b1, o1, x, rfl, hx, L1, kx⟩ := row_at H1.out n g1
                obtain ⟨b2, o2, y, rfl, _, L2, ky⟩ := row_at H2.out n g2
                obtain ⟨b3, o3, u, rfl, hu, L3, ku⟩ := row_at H3.out n g3
                obtain ⟨b4, o4, z, rfl, _, L4, kz⟩ := row_at H4.out n g4
                have KX := Lib.hid kx; have KY := Lib.hid ky; have KU := Lib.hid ku; have KZ := Lib.hid kz
                obtain ⟨x0, x1⟩ := HK.out x hx
                have HU := Lib.hid (HVS.out u hu)
                clear kx ky ku kz hx hu
                have cx := KX.out wr HT.out.2.2.2.1
                by_cases e0 : x % 8 = 0
                · have t0 : (x % 8 == 0) = true := by simpa using e0
                  clear e0
                  have cu := KU.out wr HT.out.2.2.2.1
                  have cz := KZ.out wr HT.out.2.2.2.1
                  go_wp2_with fail
                  go_region_held3 (fun w' => w'.cell? ⟨b3, o3 + n, none⟩ = some (.int .u32 u) ∧ w'.cell? ⟨b4, o4 + n, none⟩ = some (.int .u32 z)) (first | (exact ⟨cu, cz⟩) | (exact ⟨KU.out _ HT1.out.2.2, KZ.out _ HT1.out.2.2⟩)) (first | (go_at_call 12; refine (enter_any _ _ _ _ _ _ _ (show FileC wr.drew b r id from HT.out.1)).mono ?_; rintro e W1 ⟨rfl, hf1, hu1⟩; have HT1 : Hid (FileC W1 b (enterR r u z u) id ∧ RefC W1 g r id ∧ Below w.heap.size w W1) := ⟨hf1, (show RefC wr.drew g r id from HT.out.2.1).upd hu1 (Ne.symm HT.out.2.2.2.2.2.2), bupd HT.out.2.2.2.1.drew hu1 HT.out.2.2.2.2.1⟩; clear hf1 hu1))
                  clear cu cz cx
                  have cu := KU.out _ HT1.out.2.2
                  have cz := KZ.out _ HT1.out.2.2
                  have qe : ((enterR r u z u).getD 1 0 != (enterR r u z u).getD 1 0) = false := by simp
                  have q1 : (r.getD 1 0 != r.getD 1 0) = false := by simp
                  go_wp2_with fail
                  go_region_held3 (fun w' => w'.cell? ⟨b3, o3 + n, none⟩ = some (.int .u32 u) ∧ w'.cell? ⟨b4, o4 + n, none⟩ = some (.int .u32 z)) (first | (exact ⟨cu, cz⟩) | (exact ⟨KU.out _ HT2.out.2.2.2.1, KZ.out _ HT2.out.2.2.2.1⟩)) (first | (go_at_call 20; refine (renter_any _ _ _ _ _ _ _ (show RefC W1.drew g r id from HT1.out.2.1) HT.out.2.2.1).mono ?_; rintro e W2 ⟨rfl, hf2, hu2⟩; have HT2 : Hid (Both w W2 b g (enterR r u z u) id) := ⟨(show FileC W1.drew b (enterR r u z u) id from HT1.out.1).upd hu2 HT.out.2.2.2.2.2.2, hf2, ok_enter HT.out.2.2.1 HT.out.1.1 _ _ _, bupd HT1.out.2.2.drew hu2 HT.out.2.2.2.2.2.1, HT.out.2.2.2.2⟩; clear hf2 hu2))
                  clear cu cz qe q1 HT1
                  (
              have cy := KY.out W2 HT2.out.2.2.2.1
              have hx0 : n < 9223372036854775807 := by omega
              go_wp2_with fail
              refine (read_any _ _ _ _ _ _ HT2.out.1).mono ?_; rintro e w' ⟨rfl, rfl⟩
              go_wp2_with fail
              refine (rread_any _ _ _ _ _ _ HT2.out.2.1 HT2.out.2.2.1).mono ?_; rintro e w' ⟨rfl, rfl⟩
              clear cy hx0
              obtain ⟨x0, x1, x2, x3, x4, x5, x6, hr2⟩ := seven _ HT2.out.1.1
              have HR2 := Lib.hid hr2
              rw [hr2] at HT2
              rw [hr2]
              clear hr2
              have n1 : (readV [x0, x1, x2, x3, x4, x5, x6] id y n != readV [x0, x1, x2, x3, x4, x5, x6] id y n) = false := by simp
              have n2 : (readE [x0, x1, x2, x3, x4, x5, x6] y != readE [x0, x1, x2, x3, x4, x5, x6] y) = false := by simp
              generalize readV [x0, x1, x2, x3, x4, x5, x6] id y n = rv at n1 ⊢
              generalize readE [x0, x1, x2, x3, x4, x5, x6] y = re at n2 ⊢
              have HC1 := Lib.hid (fun d os => regrown_same (open_any _ _ _ _ (HT2.out.1.below (below_regrown _ d os))))
              have HC2 := Lib.hid (fun d os => regrown_same (ropen_any _ _ _ _ (HT2.out.2.1.below (below_regrown _ d os)) HT2.out.2.2.1))
              have HC3 := Lib.hid (fun d os => regrown_same (handles_any _ _ _ _ (HT2.out.1.below (below_regrown _ d os))))
              have HC4 := Lib.hid (fun d os => regrown_same (rhandles_any _ _ _ _ (HT2.out.2.1.below (below_regrown _ d os))))
              have HC5 := Lib.hid (fun d os => Calls.regrown_of ((mode_any _ _ _ _ (HT2.out.1.below (below_regrown _ d os))).mono fun _ _ h => (⟨h.1, h.2⟩ : _ = Ending.returned (.agg #[.bool (onV x0), .int .i64 (rootV x0), .bool (!hasB x5 4)]) ∧ _)))
              have HC6 := Lib.hid (fun d os => Calls.regrown_of ((rmode_any _ _ _ _ (HT2.out.2.1.below (below_regrown _ d os)) HT2.out.2.2.1).mono fun _ _ h => (⟨h.1, h.2⟩ : _ = Ending.returned (.agg #[.bool (onV x0), .int .i64 (rootV x0), .bool (!hasB x5 4)]) ∧ _)))
              have HC7 := Lib.hid (fun d os => Calls.regrown_of ((all_any _ _ _ _ (HT2.out.1.below (below_regrown _ d os))).mono fun _ _ h => (⟨h.1, h.2⟩ : _ = Ending.returned (.agg #[.int .u32 x0, .int .u32 x1, .int .u32 x2, .int .u32 x3, .int .u32 x4, .int .u32 x5, .int .u32 x6]) ∧ _)))
              have k0 := cell_regrown (HT2.out.2.1.reg 0 (by omega)); have k1 := cell_regrown (HT2.out.2.1.reg 1 (by omega)); have k2 := cell_regrown (HT2.out.2.1.reg 2 (by omega)); have k3 := cell_regrown (HT2.out.2.1.reg 3 (by omega)); have k4 := cell_regrown (HT2.out.2.1.reg 4 (by omega)); have k5 := cell_regrown (HT2.out.2.1.reg 5 (by omega)); have k6 := cell_regrown (HT2.out.2.1.reg 6 (by omega))
              simp only [List.getD_cons_succ, List.getD_cons_zero] at k0 k1 k2 k3 k4 k5 k6
              have qA := fun w => eqA x0 x1 x2 x3 x4 x5 x6 w
              have qM := fun w => eqM (onV x0) (rootV x0) (!hasB x5 4) w
              have n3 : (openV [x0, x1, x2, x3, x4, x5, x6] != openV [x0, x1, x2, x3, x4, x5, x6]) = false := by simp
              have n4 : ((x1 != 0) != (x1 != 0)) = false := by simp
              go_wp2_with fail
              refine wp_region_quiet_below (by kernel_rfl) (by kernel_rfl) ?_; (repeat (go_big_quiet_step ((first | (go_at_call 11; exact HC1.out _ _) | (go_at_call 26; exact HC2.out _ _) | (go_at_call 18; exact HC3.out _ _) | (go_at_call 27; exact HC4.out _ _) | (go_at_call 10; exact HC5.out _ _) | (go_at_call 25; exact HC6.out _ _) | (go_at_call 16; exact HC7.out _ _))))); refine wpQuiet_nil ?_; intro _ hw'; obtain ⟨⟨dq, osq⟩, hw''⟩ := hw'; subst hw''; have hbq := below_regrown W2 dq osq; generalize grow (redrawn W2 dq) osq = wq at *
              have hx0 : n < 9223372036854775807 := by omega
              have hE : Both w wq b g [x0, x1, x2, x3, x4, x5, x6] id := ⟨HT2.out.1.below hbq, HT2.out.2.1.below hbq, HT2.out.2.2.1, bmore HT2.out.2.2.2.1 hbq, HT2.out.2.2.2.2⟩
              clear k0 k1 k2 k3 k4 k5 k6 qA qM n1 n2 n3 n4 hbq HC1 HC2 HC3 HC4 HC5 HC6 HC7 HT2 HR2
              go_wp2_with fail
              go_roundw
              case rel => exact ⟨n + 1, _, by omega, by go_num, hE⟩
              case measure => simp [intOf]; omega
                  )
                · have t0 : (x % 8 == 0) = false := by simpa using e0
                  by_cases e1 : x % 8 = 1
                  · have t1 : (x % 8 == 1) = true := by simpa using e1
                    clear e0 e1
                    have q1 : (r.getD 2 0 != r.getD 2 0) = false := by simp
                    go_wp2_with fail
                    refine (leave_any _ _ _ _ HT.out.1).mono ?_; rintro e W1 ⟨rfl, hf1, hu1⟩
                    have HT1 : Hid (FileC W1 b (leaveR r) id ∧ RefC W1 g r id ∧ Below w.heap.size w W1) := ⟨hf1, HT.out.2.1.upd hu1 (Ne.symm HT.out.2.2.2.2.2.2), bupd HT.out.2.2.2.1 hu1 HT.out.2.2.2.2.1⟩
                    clear hf1 hu1 cx
                    go_wp2_with fail
                    refine (rleave_any _ _ _ _ HT1.out.2.1 HT.out.2.2.1).mono ?_; rintro e W2 ⟨rfl, hf2, hu2⟩
                    have HT2 : Hid (Both w W2 b g (leaveR r) id) := ⟨HT1.out.1.upd hu2 HT.out.2.2.2.2.2.2, hf2, ok_leave HT.out.2.2.1 HT.out.1.1, bupd HT1.out.2.2 hu2 HT.out.2.2.2.2.2.1, HT.out.2.2.2.2⟩
                    clear hf2 hu2 HT1
                    (
              have cy := KY.out W2 HT2.out.2.2.2.1
              have hx0 : n < 9223372036854775807 := by omega
              go_wp2_with fail
              refine (read_any _ _ _ _ _ _ HT2.out.1).mono ?_; rintro e w' ⟨rfl, rfl⟩
              go_wp2_with fail
              refine (rread_any _ _ _ _ _ _ HT2.out.2.1 HT2.out.2.2.1).mono ?_; rintro e w' ⟨rfl, rfl⟩
              clear cy hx0
              obtain ⟨x0, x1, x2, x3, x4, x5, x6, hr2⟩ := seven _ HT2.out.1.1
              have HR2 := Lib.hid hr2
              rw [hr2] at HT2
              rw [hr2]
              clear hr2
              have n1 : (readV [x0, x1, x2, x3, x4, x5, x6] id y n != readV [x0, x1, x2, x3, x4, x5, x6] id y n) = false := by simp
              have n2 : (readE [x0, x1, x2, x3, x4, x5, x6] y != readE [x0, x1, x2, x3, x4, x5, x6] y) = false := by simp
              generalize readV [x0, x1, x2, x3, x4, x5, x6] id y n = rv at n1 ⊢
              generalize readE [x0, x1, x2, x3, x4, x5, x6] y = re at n2 ⊢
              have HC1 := Lib.hid (fun d os => regrown_same (open_any _ _ _ _ (HT2.out.1.below (below_regrown _ d os))))
              have HC2 := Lib.hid (fun d os => regrown_same (ropen_any _ _ _ _ (HT2.out.2.1.below (below_regrown _ d os)) HT2.out.2.2.1))
              have HC3 := Lib.hid (fun d os => regrown_same (handles_any _ _ _ _ (HT2.out.1.below (below_regrown _ d os))))
              have HC4 := Lib.hid (fun d os => regrown_same (rhandles_any _ _ _ _ (HT2.out.2.1.below (below_regrown _ d os))))
              have HC5 := Lib.hid (fun d os => Calls.regrown_of ((mode_any _ _ _ _ (HT2.out.1.below (below_regrown _ d os))).mono fun _ _ h => (⟨h.1, h.2⟩ : _ = Ending.returned (.agg #[.bool (onV x0), .int .i64 (rootV x0), .bool (!hasB x5 4)]) ∧ _)))
              have HC6 := Lib.hid (fun d os => Calls.regrown_of ((rmode_any _ _ _ _ (HT2.out.2.1.below (below_regrown _ d os)) HT2.out.2.2.1).mono fun _ _ h => (⟨h.1, h.2⟩ : _ = Ending.returned (.agg #[.bool (onV x0), .int .i64 (rootV x0), .bool (!hasB x5 4)]) ∧ _)))
              have HC7 := Lib.hid (fun d os => Calls.regrown_of ((all_any _ _ _ _ (HT2.out.1.below (below_regrown _ d os))).mono fun _ _ h => (⟨h.1, h.2⟩ : _ = Ending.returned (.agg #[.int .u32 x0, .int .u32 x1, .int .u32 x2, .int .u32 x3, .int .u32 x4, .int .u32 x5, .int .u32 x6]) ∧ _)))
              have k0 := cell_regrown (HT2.out.2.1.reg 0 (by omega)); have k1 := cell_regrown (HT2.out.2.1.reg 1 (by omega)); have k2 := cell_regrown (HT2.out.2.1.reg 2 (by omega)); have k3 := cell_regrown (HT2.out.2.1.reg 3 (by omega)); have k4 := cell_regrown (HT2.out.2.1.reg 4 (by omega)); have k5 := cell_regrown (HT2.out.2.1.reg 5 (by omega)); have k6 := cell_regrown (HT2.out.2.1.reg 6 (by omega))
              simp only [List.getD_cons_succ, List.getD_cons_zero] at k0 k1 k2 k3 k4 k5 k6
              have qA := fun w => eqA x0 x1 x2 x3 x4 x5 x6 w
              have qM := fun w => eqM (onV x0) (rootV x0) (!hasB x5 4) w
              have n3 : (openV [x0, x1, x2, x3, x4, x5, x6] != openV [x0, x1, x2, x3, x4, x5, x6]) = false := by simp
              have n4 : ((x1 != 0) != (x1 != 0)) = false := by simp
              go_wp2_with fail
              refine wp_region_quiet_below (by kernel_rfl) (by kernel_rfl) ?_; (repeat (go_big_quiet_step ((first | (go_at_call 11; exact HC1.out _ _) | (go_at_call 26; exact HC2.out _ _) | (go_at_call 18; exact HC3.out _ _) | (go_at_call 27; exact HC4.out _ _) | (go_at_call 10; exact HC5.out _ _) | (go_at_call 25; exact HC6.out _ _) | (go_at_call 16; exact HC7.out _ _))))); refine wpQuiet_nil ?_; intro _ hw'; obtain ⟨⟨dq, osq⟩, hw''⟩ := hw'; subst hw''; have hbq := below_regrown W2 dq osq; generalize grow (redrawn W2 dq) osq = wq at *
              have hx0 : n < 9223372036854775807 := by omega
              have hE : Both w wq b g [x0, x1, x2, x3, x4, x5, x6] id := ⟨HT2.out.1.below hbq, HT2.out.2.1.below hbq, HT2.out.2.2.1, bmore HT2.out.2.2.2.1 hbq, HT2.out.2.2.2.2⟩
              clear k0 k1 k2 k3 k4 k5 k6 qA qM n1 n2 n3 n4 hbq HC1 HC2 HC3 HC4 HC5 HC6 HC7 HT2 HR2
              go_wp2_with fail
              go_roundw
              case rel => exact ⟨n + 1, _, by omega, by go_num, hE⟩
              case measure => simp [intOf]; omega
                    )
                  · have t1 : (x % 8 == 1) = false := by simpa using e1
                    by_cases e2 : x % 8 = 2
                    · have t2 : (x % 8 == 2) = true := by simpa using e2
                      clear e0 e1 e2
                      go_wp2_with fail
                      refine (rreset_any _ _ _ _ HT.out.2.1).mono ?_; rintro e W1 ⟨rfl, hf1, hu1⟩
                      have HT1 : Hid (FileC W1 b r id ∧ RefC W1 g r0 id ∧ Below w.heap.size w W1) := ⟨HT.out.1.upd hu1 HT.out.2.2.2.2.2.2, hf1, bupd HT.out.2.2.2.1 hu1 HT.out.2.2.2.2.2.1⟩
                      clear hf1 hu1 cx
                      go_wp2_with fail
                      refine (reset_any _ _ _ _ HT1.out.1).mono ?_; rintro e W2 ⟨rfl, hf2, hu2⟩
                      have HT2 : Hid (Both w W2 b g r0 id) := ⟨hf2, HT1.out.2.1.upd hu2 (Ne.symm HT.out.2.2.2.2.2.2), ok_r0, bupd HT1.out.2.2 hu2 HT.out.2.2.2.2.1, HT.out.2.2.2.2⟩
                      clear hf2 hu2 HT1
                      (
              have cy := KY.out W2 HT2.out.2.2.2.1
              have hx0 : n < 9223372036854775807 := by omega
              go_wp2_with fail
              refine (read_any _ _ _ _ _ _ HT2.out.1).mono ?_; rintro e w' ⟨rfl, rfl⟩
              go_wp2_with fail
              refine (rread_any _ _ _ _ _ _ HT2.out.2.1 HT2.out.2.2.1).mono ?_; rintro e w' ⟨rfl, rfl⟩
              clear cy hx0
              obtain ⟨x0, x1, x2, x3, x4, x5, x6, hr2⟩ := seven _ HT2.out.1.1
              have HR2 := Lib.hid hr2
              rw [hr2] at HT2
              rw [hr2]
              clear hr2
              have n1 : (readV [x0, x1, x2, x3, x4, x5, x6] id y n != readV [x0, x1, x2, x3, x4, x5, x6] id y n) = false := by simp
              have n2 : (readE [x0, x1, x2, x3, x4, x5, x6] y != readE [x0, x1, x2, x3, x4, x5, x6] y) = false := by simp
              generalize readV [x0, x1, x2, x3, x4, x5, x6] id y n = rv at n1 ⊢
              generalize readE [x0, x1, x2, x3, x4, x5, x6] y = re at n2 ⊢
              have HC1 := Lib.hid (fun d os => regrown_same (open_any _ _ _ _ (HT2.out.1.below (below_regrown _ d os))))
              have HC2 := Lib.hid (fun d os => regrown_same (ropen_any _ _ _ _ (HT2.out.2.1.below (below_regrown _ d os)) HT2.out.2.2.1))
              have HC3 := Lib.hid (fun d os => regrown_same (handles_any _ _ _ _ (HT2.out.1.below (below_regrown _ d os))))
              have HC4 := Lib.hid (fun d os => regrown_same (rhandles_any _ _ _ _ (HT2.out.2.1.below (below_regrown _ d os))))
              have HC5 := Lib.hid (fun d os => Calls.regrown_of ((mode_any _ _ _ _ (HT2.out.1.below (below_regrown _ d os))).mono fun _ _ h => (⟨h.1, h.2⟩ : _ = Ending.returned (.agg #[.bool (onV x0), .int .i64 (rootV x0), .bool (!hasB x5 4)]) ∧ _)))
              have HC6 := Lib.hid (fun d os => Calls.regrown_of ((rmode_any _ _ _ _ (HT2.out.2.1.below (below_regrown _ d os)) HT2.out.2.2.1).mono fun _ _ h => (⟨h.1, h.2⟩ : _ = Ending.returned (.agg #[.bool (onV x0), .int .i64 (rootV x0), .bool (!hasB x5 4)]) ∧ _)))
              have HC7 := Lib.hid (fun d os => Calls.regrown_of ((all_any _ _ _ _ (HT2.out.1.below (below_regrown _ d os))).mono fun _ _ h => (⟨h.1, h.2⟩ : _ = Ending.returned (.agg #[.int .u32 x0, .int .u32 x1, .int .u32 x2, .int .u32 x3, .int .u32 x4, .int .u32 x5, .int .u32 x6]) ∧ _)))
              have k0 := cell_regrown (HT2.out.2.1.reg 0 (by omega)); have k1 := cell_regrown (HT2.out.2.1.reg 1 (by omega)); have k2 := cell_regrown (HT2.out.2.1.reg 2 (by omega)); have k3 := cell_regrown (HT2.out.2.1.reg 3 (by omega)); have k4 := cell_regrown (HT2.out.2.1.reg 4 (by omega)); have k5 := cell_regrown (HT2.out.2.1.reg 5 (by omega)); have k6 := cell_regrown (HT2.out.2.1.reg 6 (by omega))
              simp only [List.getD_cons_succ, List.getD_cons_zero] at k0 k1 k2 k3 k4 k5 k6
              have qA := fun w => eqA x0 x1 x2 x3 x4 x5 x6 w
              have qM := fun w => eqM (onV x0) (rootV x0) (!hasB x5 4) w
              have n3 : (openV [x0, x1, x2, x3, x4, x5, x6] != openV [x0, x1, x2, x3, x4, x5, x6]) = false := by simp
              have n4 : ((x1 != 0) != (x1 != 0)) = false := by simp
              go_wp2_with fail
              refine wp_region_quiet_below (by kernel_rfl) (by kernel_rfl) ?_; (repeat (go_big_quiet_step ((first | (go_at_call 11; exact HC1.out _ _) | (go_at_call 26; exact HC2.out _ _) | (go_at_call 18; exact HC3.out _ _) | (go_at_call 27; exact HC4.out _ _) | (go_at_call 10; exact HC5.out _ _) | (go_at_call 25; exact HC6.out _ _) | (go_at_call 16; exact HC7.out _ _))))); refine wpQuiet_nil ?_; intro _ hw'; obtain ⟨⟨dq, osq⟩, hw''⟩ := hw'; subst hw''; have hbq := below_regrown W2 dq osq; generalize grow (redrawn W2 dq) osq = wq at *
              have hx0 : n < 9223372036854775807 := by omega
              have hE : Both w wq b g [x0, x1, x2, x3, x4, x5, x6] id := ⟨HT2.out.1.below hbq, HT2.out.2.1.below hbq, HT2.out.2.2.1, bmore HT2.out.2.2.2.1 hbq, HT2.out.2.2.2.2⟩
              clear k0 k1 k2 k3 k4 k5 k6 qA qM n1 n2 n3 n4 hbq HC1 HC2 HC3 HC4 HC5 HC6 HC7 HT2 HR2
              go_wp2_with fail
              go_roundw
              case rel => exact ⟨n + 1, _, by omega, by go_num, hE⟩
              case measure => simp [intOf]; omega
                      )
                    · have t2 : (x % 8 == 2) = false := by simpa using e2
                      clear e0 e1 e2
                      have cu := KU.out wr HT.out.2.2.2.1
                      have cy := KY.out wr HT.out.2.2.2.1
                      have q1 : (putE r y != putE r y) = false := by simp
                      go_wp2_with fail
                      go_region_held3 (fun w' => w'.cell? ⟨b3, o3 + n, none⟩ = some (.int .u32 u) ∧ w'.cell? ⟨b2, o2 + n, none⟩ = some (.int .i64 y)) (first | (exact ⟨cu, cy⟩) | (exact ⟨KU.out _ HT2.out.2.2.2.1, KY.out _ HT2.out.2.2.2.1⟩) | (exact ⟨KU.out _ HT1.out.2.2, KY.out _ HT1.out.2.2⟩)) (first | (go_at_call 9; refine (write_any _ _ _ _ _ _ (show FileC wr.drew b r id from HT.out.1)).mono ?_; rintro e W1 ⟨rfl, hf1, hu1⟩; have HT1 : Hid (FileC W1 b (putC r y u) id ∧ RefC W1 g r id ∧ Below w.heap.size w W1) := ⟨hf1, (show RefC wr.drew g r id from HT.out.2.1).upd hu1 (Ne.symm HT.out.2.2.2.2.2.2), bupd HT.out.2.2.2.1.drew hu1 HT.out.2.2.2.2.1⟩; clear hf1 hu1) | (go_at_call 23; refine (rwrite_any _ _ _ _ _ _ HT1.out.2.1 HT.out.2.2.1).mono ?_; rintro e W2 ⟨rfl, hf2, hu2⟩; have HT2 : Hid (Both w W2 b g (putC r y u) id) := ⟨HT1.out.1.upd hu2 HT.out.2.2.2.2.2.2, hf2, ok_put HT.out.2.2.1 HT.out.1.1 y u HU.out.1 HU.out.2, bupd HT1.out.2.2 hu2 HT.out.2.2.2.2.2.1, HT.out.2.2.2.2⟩; clear hf2 hu2))
                      clear cu cy cx q1 HT1
                      (
              have cy := KY.out W2 HT2.out.2.2.2.1
              have hx0 : n < 9223372036854775807 := by omega
              go_wp2_with fail
              refine (read_any _ _ _ _ _ _ HT2.out.1).mono ?_; rintro e w' ⟨rfl, rfl⟩
              go_wp2_with fail
              refine (rread_any _ _ _ _ _ _ HT2.out.2.1 HT2.out.2.2.1).mono ?_; rintro e w' ⟨rfl, rfl⟩
              clear cy hx0
              obtain ⟨x0, x1, x2, x3, x4, x5, x6, hr2⟩ := seven _ HT2.out.1.1
              have HR2 := Lib.hid hr2
              rw [hr2] at HT2
              rw [hr2]
              clear hr2
              have n1 : (readV [x0, x1, x2, x3, x4, x5, x6] id y n != readV [x0, x1, x2, x3, x4, x5, x6] id y n) = false := by simp
              have n2 : (readE [x0, x1, x2, x3, x4, x5, x6] y != readE [x0, x1, x2, x3, x4, x5, x6] y) = false := by simp
              generalize readV [x0, x1, x2, x3, x4, x5, x6] id y n = rv at n1 ⊢
              generalize readE [x0, x1, x2, x3, x4, x5, x6] y = re at n2 ⊢
              have HC1 := Lib.hid (fun d os => regrown_same (open_any _ _ _ _ (HT2.out.1.below (below_regrown _ d os))))
              have HC2 := Lib.hid (fun d os => regrown_same (ropen_any _ _ _ _ (HT2.out.2.1.below (below_regrown _ d os)) HT2.out.2.2.1))
              have HC3 := Lib.hid (fun d os => regrown_same (handles_any _ _ _ _ (HT2.out.1.below (below_regrown _ d os))))
              have HC4 := Lib.hid (fun d os => regrown_same (rhandles_any _ _ _ _ (HT2.out.2.1.below (below_regrown _ d os))))
              have HC5 := Lib.hid (fun d os => Calls.regrown_of ((mode_any _ _ _ _ (HT2.out.1.below (below_regrown _ d os))).mono fun _ _ h => (⟨h.1, h.2⟩ : _ = Ending.returned (.agg #[.bool (onV x0), .int .i64 (rootV x0), .bool (!hasB x5 4)]) ∧ _)))
              have HC6 := Lib.hid (fun d os => Calls.regrown_of ((rmode_any _ _ _ _ (HT2.out.2.1.below (below_regrown _ d os)) HT2.out.2.2.1).mono fun _ _ h => (⟨h.1, h.2⟩ : _ = Ending.returned (.agg #[.bool (onV x0), .int .i64 (rootV x0), .bool (!hasB x5 4)]) ∧ _)))
              have HC7 := Lib.hid (fun d os => Calls.regrown_of ((all_any _ _ _ _ (HT2.out.1.below (below_regrown _ d os))).mono fun _ _ h => (⟨h.1, h.2⟩ : _ = Ending.returned (.agg #[.int .u32 x0, .int .u32 x1, .int .u32 x2, .int .u32 x3, .int .u32 x4, .int .u32 x5, .int .u32 x6]) ∧ _)))
              have k0 := cell_regrown (HT2.out.2.1.reg 0 (by omega)); have k1 := cell_regrown (HT2.out.2.1.reg 1 (by omega)); have k2 := cell_regrown (HT2.out.2.1.reg 2 (by omega)); have k3 := cell_regrown (HT2.out.2.1.reg 3 (by omega)); have k4 := cell_regrown (HT2.out.2.1.reg 4 (by omega)); have k5 := cell_regrown (HT2.out.2.1.reg 5 (by omega)); have k6 := cell_regrown (HT2.out.2.1.reg 6 (by omega))
              simp only [List.getD_cons_succ, List.getD_cons_zero] at k0 k1 k2 k3 k4 k5 k6
              have qA := fun w => eqA x0 x1 x2 x3 x4 x5 x6 w
              have qM := fun w => eqM (onV x0) (rootV x0) (!hasB x5 4) w
              have n3 : (openV [x0, x1, x2, x3, x4, x5, x6] != openV [x0, x1, x2, x3, x4, x5, x6]) = false := by simp
              have n4 : ((x1 != 0) != (x1 != 0)) = false := by simp
              go_wp2_with fail
              refine wp_region_quiet_below (by kernel_rfl) (by kernel_rfl) ?_; (repeat (go_big_quiet_step ((first | (go_at_call 11; exact HC1.out _ _) | (go_at_call 26; exact HC2.out _ _) | (go_at_call 18; exact HC3.out _ _) | (go_at_call 27; exact HC4.out _ _) | (go_at_call 10; exact HC5.out _ _) | (go_at_call 25; exact HC6.out _ _) | (go_at_call 16; exact HC7.out _ _))))); refine wpQuiet_nil ?_; intro _ hw'; obtain ⟨⟨dq, osq⟩, hw''⟩ := hw'; subst hw''; have hbq := below_regrown W2 dq osq; generalize grow (redrawn W2 dq) osq = wq at *
              have hx0 : n < 9223372036854775807 := by omega
              have hE : Both w wq b g [x0, x1, x2, x3, x4, x5, x6] id := ⟨HT2.out.1.below hbq, HT2.out.2.1.below hbq, HT2.out.2.2.1, bmore HT2.out.2.2.2.1 hbq, HT2.out.2.2.2.2⟩
              clear k0 k1 k2 k3 k4 k5 k6 qA qM n1 n2 n3 n4 hbq HC1 HC2 HC3 HC4 HC5 HC6 HC7 HT2 HR2
              go_wp2_with fail
              go_roundw
              case rel => exact ⟨n + 1, _, by omega, by go_num, hE⟩
              case measure => simp [intOf]; omega
                      )
              · have d5 : decide ((n : Int) < 100) = false := by simp; omega
                (go_wp2_with fail; refine (awake_any _).mono ?_; rintro e wz ⟨rfl, hbz⟩; go_wp2_with fail; go_ret; exact ⟨rfl, bmore HT.out.2.2.2.1 hbz⟩)
            · have d4 : decide ((n : Int) < us.length) = false := by simp; omega
              (go_wp2_with fail; refine (awake_any _).mono ?_; rintro e wz ⟨rfl, hbz⟩; go_wp2_with fail; go_ret; exact ⟨rfl, bmore HT.out.2.2.2.1 hbz⟩)
          · have d3 : decide ((n : Int) < vs.length) = false := by simp; omega
            (go_wp2_with fail; refine (awake_any _).mono ?_; rintro e wz ⟨rfl, hbz⟩; go_wp2_with fail; go_ret; exact ⟨rfl, bmore HT.out.2.2.2.1 hbz⟩)
        · have d2 : decide ((n : Int) < ns.length) = false := by simp; omega
          (go_wp2_with fail; refine (awake_any _).mono ?_; rintro e wz ⟨rfl, hbz⟩; go_wp2_with fail; go_ret; exact ⟨rfl, bmore HT.out.2.2.2.1 hbz⟩)
      · have d1 : decide ((n : Int) < ks.length) = false := by simp; omega
        (go_wp2_with fail; refine (awake_any _).mono ?_; rintro e wz ⟨rfl, hbz⟩; go_wp2_with fail; go_ret; exact ⟨rfl, bmore HT.out.2.2.2.1 hbz⟩)
end Go.Proofs.Ytbalikmfbbmmjaa
