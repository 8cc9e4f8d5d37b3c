/- Chapter 13: the methods of a step, one by one. -/
import Derived.Test.YtiohfdhmkikckaaGreatDoorCore
namespace Go.Proofs.YtiohfdhmkikckaaGreatDoor
set_option linter.unusedVariables false
set_option linter.unusedSimpArgs false
set_option linter.unnecessarySimpa false
open Go.RowKit
set_option maxHeartbeats 4000000
set_option maxRecDepth 100000
set_option linter.unusedVariables false
variable {W W' W0 : World} {i : In} {p b c g : Nat} {r r' : List Int} {pc pc' : Int} {cr cr' : List Int} {id : Int} {cs : List Value}
def ROk (r : List Int) : Prop := ∀ x ∈ r, 0 ≤ x ∧ x ≤ 4294967295
theorem ROk.get (h : ROk r) (n : Int) : 0 ≤ Regs.getV r n ∧ Regs.getV r n ≤ 4294967295 := by
  unfold Regs.getV
  split
  · rw [List.getD_eq_getElem?_getD]
    cases hx : r[n.toNat]? with
    | none => simp
    | some x => exact h x (List.mem_of_getElem? hx)
  · omega
theorem upper_any (W : World) (h : ST W i p b c r pc cr id) : Calls Tryz.prog 53 #[.pointer (some ⟨p, 0, none⟩)] W (Post i p b c (Regs.putR r i.d (Alu.upV i.n)) (nx pc) cr id (doneL (nx pc)) W) := by
  (have h0 := FR.new h; go_enter Tryz.func53, Tryz.ntmps53; go_upto_region 1 with fail; generalize W.alloc (.cells #[.int .i64 0, .int .u32 0, .int .u32 0, .int .i64 0, .bool false, .int .i64 0, .int .u32 0, .int .u32 0, .int .u32 0] 32) = W1 at h0 ⊢; generalize W.heap.size = g at h0 ⊢; have H0 := Lib.hid h0; clear h h0)
  have q4 := H0.out.1.step.cell 4 (.int .i64 i.n) rfl
  go_wp2_with (first | (go_at_call 72; refine (Alu.up_any _ _).mono ?_; rintro e Wr ⟨rfl, rfl⟩) | (go_at_call 70; refine (next_any _ H0.out.1).mono ?_; rintro e Wr ⟨rfl, rfl⟩) | (go_at_call 69; refine (told_any (Alu.upV i.n) _ _ H0.out.1).mono ?_; rintro e W3 ⟨rfl, hs, hm⟩; have H3 := Lib.hid (H0.out.to hs hm); clear hs hm) | (refine wpList_store_block rfl 32 (.tmp 2) (.tmp 12) rfl g 32 _ _ rfl rfl (H3.out).2.1 (by rw [info_eff]; rfl) rfl (eff_all _ _ _ _ _ _ _ _ _) ?_))
  (refine bodyPost_ret (v := .agg (doneL (nx pc)).toArray) ?_ rfl ⟨rfl, (H3.out).row _⟩; exact results_cell_row rfl _ _ g _ _ (0, 0) _ rfl (setRow_heap _ _ _ _ _ _ (H3.out).2.1) Tryz.underlying32 rfl (by rw [info_eff]; rfl))
theorem exit_any (k : Int) (hk : k = if i.op = 35 then 4 else if i.op = 40 then 5 else 6) (W : World) (h : ST W i p b c r pc cr id) : Calls Tryz.prog 81 #[.pointer (some ⟨p, 0, none⟩)] W (Post i p b c r pc cr id (effL k (nx pc) 0 0 false 0 0 0 0) W) := by
  by_cases h1 : i.op = 35
  · obtain rfl : k = 4 := by simpa [h1] using hk
    clear hk
    (have h0 := FR.new h; go_enter Tryz.func81, Tryz.ntmps81; go_upto_region 1 with fail; generalize W.alloc (.cells #[.int .i64 0, .int .u32 0, .int .u32 0, .int .i64 0, .bool false, .int .i64 0, .int .u32 0, .int .u32 0, .int .u32 0] 32) = W1 at h0 ⊢; generalize W.heap.size = g at h0 ⊢; have H0 := Lib.hid h0; clear h h0)
    have q0 := H0.out.1.step.cell 0 (.int .i64 i.op) rfl
    go_wp2_with (first | (go_at_call 70; refine (next_any _ H0.out.1).mono ?_; rintro e Wr ⟨rfl, rfl⟩) | (refine wpList_store_block rfl 32 (.tmp 2) (.tmp 16) rfl g 32 _ _ rfl rfl (H0.out).2.1 (by rw [info_eff]; rfl) rfl (eff_all _ _ _ _ _ _ _ _ _) ?_))
    (refine bodyPost_ret (v := .agg ((effL 4 (nx pc) 0 0 false 0 0 0 0)).toArray) ?_ rfl ⟨rfl, (H0.out).row _⟩; exact results_cell_row rfl _ _ g _ _ (0, 0) _ rfl (setRow_heap _ _ _ _ _ _ (H0.out).2.1) Tryz.underlying32 rfl (by rw [info_eff]; rfl))
  · have d1 : (i.op == 35) = false := by simp [h1]
    by_cases h2 : i.op = 40
    · obtain rfl : k = 5 := by simpa [h1, h2] using hk
      clear hk d1
      (have h0 := FR.new h; go_enter Tryz.func81, Tryz.ntmps81; go_upto_region 1 with fail; generalize W.alloc (.cells #[.int .i64 0, .int .u32 0, .int .u32 0, .int .i64 0, .bool false, .int .i64 0, .int .u32 0, .int .u32 0, .int .u32 0] 32) = W1 at h0 ⊢; generalize W.heap.size = g at h0 ⊢; have H0 := Lib.hid h0; clear h h0)
      have q0 := H0.out.1.step.cell 0 (.int .i64 i.op) rfl
      go_wp2_with (first | (go_at_call 70; refine (next_any _ H0.out.1).mono ?_; rintro e Wr ⟨rfl, rfl⟩) | (refine wpList_store_block rfl 32 (.tmp 2) (.tmp 16) rfl g 32 _ _ rfl rfl (H0.out).2.1 (by rw [info_eff]; rfl) rfl (eff_all _ _ _ _ _ _ _ _ _) ?_))
      (refine bodyPost_ret (v := .agg ((effL 5 (nx pc) 0 0 false 0 0 0 0)).toArray) ?_ rfl ⟨rfl, (H0.out).row _⟩; exact results_cell_row rfl _ _ g _ _ (0, 0) _ rfl (setRow_heap _ _ _ _ _ _ (H0.out).2.1) Tryz.underlying32 rfl (by rw [info_eff]; rfl))
    · have d2 : (i.op == 40) = false := by simp [h2]
      obtain rfl : k = 6 := by simpa [h1, h2] using hk
      clear hk
      (have h0 := FR.new h; go_enter Tryz.func81, Tryz.ntmps81; go_upto_region 1 with fail; generalize W.alloc (.cells #[.int .i64 0, .int .u32 0, .int .u32 0, .int .i64 0, .bool false, .int .i64 0, .int .u32 0, .int .u32 0, .int .u32 0] 32) = W1 at h0 ⊢; generalize W.heap.size = g at h0 ⊢; have H0 := Lib.hid h0; clear h h0)
      have q0 := H0.out.1.step.cell 0 (.int .i64 i.op) rfl
      go_wp2_with (first | (go_at_call 70; refine (next_any _ H0.out.1).mono ?_; rintro e Wr ⟨rfl, rfl⟩) | (refine wpList_store_block rfl 32 (.tmp 2) (.tmp 16) rfl g 32 _ _ rfl rfl (H0.out).2.1 (by rw [info_eff]; rfl) rfl (eff_all _ _ _ _ _ _ _ _ _) ?_))
      (refine bodyPost_ret (v := .agg ((effL 6 (nx pc) 0 0 false 0 0 0 0)).toArray) ?_ rfl ⟨rfl, (H0.out).row _⟩; exact results_cell_row rfl _ _ g _ _ (0, 0) _ rfl (setRow_heap _ _ _ _ _ _ (H0.out).2.1) Tryz.underlying32 rfl (by rw [info_eff]; rfl))
theorem call_any (ef : List Value) (hk : ef = if i.op = 41 then trapL 8 pc else trapL 6 0) (W : World) (h : ST W i p b c r pc cr id) : Calls Tryz.prog 77 #[.pointer (some ⟨p, 0, none⟩)] W (Post i p b c r pc cr id ef W) := by
  by_cases h1 : i.op = 41
  · rw [if_pos h1] at hk
    subst hk
    (have h0 := FR.new h; go_enter Tryz.func77, Tryz.ntmps77; go_upto_region 1 with fail; generalize W.alloc (.cells #[.int .i64 0, .int .u32 0, .int .u32 0, .int .i64 0, .bool false, .int .i64 0, .int .u32 0, .int .u32 0, .int .u32 0] 32) = W1 at h0 ⊢; generalize W.heap.size = g at h0 ⊢; have H0 := Lib.hid h0; clear h h0)
    have q0 := H0.out.1.step.cell 0 (.int .i64 i.op) rfl
    have q5 := H0.out.1.step.cell 5 (.pointer (some ⟨b, 0, none⟩)) rfl
    go_wp2_with (first | (go_at_call 8; refine (Regs.pc_any b r true pc _ H0.out.1.file).mono ?_; rintro e W2 ⟨rfl, rfl⟩) | (go_at_call 26; refine (trap_any 8 pc _).mono ?_; rintro e W3 ⟨rfl, hb⟩; have H3 := Lib.hid (H0.out.below hb); clear hb) | (refine wpList_store_block rfl 32 (.tmp 2) (.tmp 14) rfl g 32 _ _ rfl rfl (H3.out).2.1 (by rw [info_eff]; rfl) rfl (eff_all _ _ _ _ _ _ _ _ _) ?_))
    (refine bodyPost_ret (v := .agg ((trapL 8 pc)).toArray) ?_ rfl ⟨rfl, (H3.out).row _⟩; exact results_cell_row rfl _ _ g _ _ (0, 0) _ rfl (setRow_heap _ _ _ _ _ _ (H3.out).2.1) Tryz.underlying32 rfl (by rw [info_eff]; rfl))
  · have d1 : (i.op == 41) = false := by simp [h1]
    rw [if_neg h1] at hk
    subst hk
    (have h0 := FR.new h; go_enter Tryz.func77, Tryz.ntmps77; go_upto_region 1 with fail; generalize W.alloc (.cells #[.int .i64 0, .int .u32 0, .int .u32 0, .int .i64 0, .bool false, .int .i64 0, .int .u32 0, .int .u32 0, .int .u32 0] 32) = W1 at h0 ⊢; generalize W.heap.size = g at h0 ⊢; have H0 := Lib.hid h0; clear h h0)
    have q0 := H0.out.1.step.cell 0 (.int .i64 i.op) rfl
    go_wp2_with (first | (go_at_call 26; refine (trap_any 6 0 _).mono ?_; rintro e W3 ⟨rfl, hb⟩; have H3 := Lib.hid (H0.out.below hb); clear hb) | (refine wpList_store_block rfl 32 (.tmp 2) (.tmp 15) rfl g 32 _ _ rfl rfl (H3.out).2.1 (by rw [info_eff]; rfl) rfl (eff_all _ _ _ _ _ _ _ _ _) ?_))
    (refine bodyPost_ret (v := .agg ((trapL 6 0)).toArray) ?_ rfl ⟨rfl, (H3.out).row _⟩; exact results_cell_row rfl _ _ g _ _ (0, 0) _ rfl (setRow_heap _ _ _ _ _ _ (H3.out).2.1) Tryz.underlying32 rfl (by rw [info_eff]; rfl))
theorem back_any (W : World) (h : ST W i p b c r pc cr id) : Calls Tryz.prog 78 #[.pointer (some ⟨p, 0, none⟩)] W (Post i p b c r (cr.getD 2 0) (Csr.leaveR cr) id (doneL (cr.getD 2 0)) W) := by
  obtain ⟨t, ht⟩ : ∃ t, t = cr.getD 2 0 := ⟨_, rfl⟩
  rw [← ht]
  have HT := Lib.hid ht
  clear ht
  (have h0 := FR.new h; go_enter Tryz.func78, Tryz.ntmps78; go_upto_region 1 with fail; generalize W.alloc (.cells #[.int .i64 0, .int .u32 0, .int .u32 0, .int .i64 0, .bool false, .int .i64 0, .int .u32 0, .int .u32 0, .int .u32 0] 32) = W1 at h0 ⊢; generalize W.heap.size = g at h0 ⊢; have H0 := Lib.hid h0; clear h h0)
  have q6 := H0.out.1.step.cell 6 (.pointer (some ⟨c, 0, none⟩)) rfl
  go_wp2_with (first | (go_at_call 90; refine (Csr.leave_any c cr id W1 H0.out.1.csr).mono ?_; rintro e W2 ⟨rfl, hf, hu⟩; rw [← HT.out]; have H1 := Lib.hid (H0.out.to (H0.out.1.setC hf hu) (modC b hu)); clear hf hu) | (go_at_call 75; refine (done_any t _ H1.out.1).mono ?_; rintro e W3 ⟨rfl, hs, hm⟩; have H3 := Lib.hid (H1.out.to hs hm); clear hs hm) | (refine wpList_store_block rfl 32 (.tmp 2) (.tmp 15) rfl g 32 _ _ rfl rfl (H3.out).2.1 (by rw [info_eff]; rfl) rfl (eff_all _ _ _ _ _ _ _ _ _) ?_))
  (refine bodyPost_ret (v := .agg ((doneL t)).toArray) ?_ rfl ⟨rfl, (H3.out).row _⟩; exact results_cell_row rfl _ _ g _ _ (0, 0) _ rfl (setRow_heap _ _ _ _ _ _ (H3.out).2.1) Tryz.underlying32 rfl (by rw [info_eff]; rfl))
end Go.Proofs.YtiohfdhmkikckaaGreatDoor
