/- Chapter 13: the methods of a step that draw their order. -/
import Derived.Test.YtiohfdhmkikckaaGreatDoorCore2
namespace Go.Proofs.YtiohfdhmkikckaaGreatDoor
set_option linter.unusedVariables false
set_option linter.unusedSimpArgs false
set_option linter.unnecessarySimpa false
open Go.RowKit
set_option maxHeartbeats 4000000
set_option maxRecDepth 100000
set_option linter.unusedVariables false
variable {W W' W0 : World} {i : In} {p b c g : Nat} {r r' : List Int} {pc pc' : Int} {cr cr' : List Int} {id : Int} {cs : List Value}
theorem plain_any (hr : ROk r) (W : World) (h : ST W i p b c r pc cr id) : Calls Tryz.prog 51 #[.pointer (some ⟨p, 0, none⟩)] W (Post i p b c (Regs.putR r i.d (Alu.doV i.op (Regs.getV r i.a) (Regs.getV r i.b))) (nx pc) cr id (doneL (nx pc)) W) := by
  have ha := Lib.hid (hr.get i.a); have hbb := Lib.hid (hr.get i.b)
  clear hr
  obtain ⟨v, hv⟩ : ∃ v, v = Alu.doV i.op (Regs.getV r i.a) (Regs.getV r i.b) := ⟨_, rfl⟩
  rw [← hv]
  have HV := Lib.hid hv
  clear hv
  (have h0 := FR.new h; go_enter Tryz.func51, Tryz.ntmps51; go_upto_region 1 with fail; generalize W.alloc (.cells #[.int .i64 0, .int .u32 0, .int .u32 0, .int .i64 0, .bool false, .int .i64 0, .int .u32 0, .int .u32 0, .int .u32 0] 32) = W1 at h0 ⊢; generalize W.heap.size = g at h0 ⊢; have H0 := Lib.hid h0; clear h h0)
  have H1 := Lib.hid H0.out.drew
  go_region_held3 (fun W' => W'.cell? ⟨p, 0, none⟩ = some (.int .i64 i.op) ∧ W'.cell? ⟨p, 1, none⟩ = some (.int .i64 i.d) ∧ W'.cell? ⟨p, 2, none⟩ = some (.int .i64 i.a) ∧ W'.cell? ⟨p, 3, none⟩ = some (.int .i64 i.b) ∧ W'.cell? ⟨p, 4, none⟩ = some (.int .i64 i.n) ∧ W'.cell? ⟨p, 5, none⟩ = some (.pointer (some ⟨b, 0, none⟩)) ∧ W'.cell? ⟨p, 6, none⟩ = some (.pointer (some ⟨c, 0, none⟩)) ∧ W'.cell? ⟨p, 7, none⟩ = some (.int .i64 i.clk)) (first | exact H2.out.1.s8 | exact H1.out.1.s8) (first | (go_at_call 68; refine (reg_any _ _ H1.out.1).mono ?_; rintro e Wr ⟨rfl, rfl⟩) | (go_at_call 67; refine (Alu.do_any _ _ _ ha.out hbb.out _).mono ?_; rintro e W2 ⟨rfl, hb⟩; rw [← HV.out]; have H2 := Lib.hid (H1.out.below hb); clear hb))
  go_wp2_with (first | (go_at_call 70; refine (next_any _ H2.out.1).mono ?_; rintro e Wr ⟨rfl, rfl⟩) | (go_at_call 69; refine (told_any v _ _ H2.out.1).mono ?_; rintro e W3 ⟨rfl, hs, hm⟩; have H3 := Lib.hid (H2.out.to hs hm); clear hs hm) | (refine wpList_store_block rfl 32 (.tmp 2) (.tmp 32) rfl g 32 _ _ rfl rfl (H3.out).2.1 (by rw [info_eff]; rfl) rfl (eff_all _ _ _ _ _ _ _ _ _) ?_))
  (refine bodyPost_ret (v := .agg (doneL (nx pc)).toArray) ?_ rfl ⟨rfl, (H3.out).row _⟩; exact results_cell_row rfl _ _ g _ _ (0, 0) _ rfl (setRow_heap _ _ _ _ _ _ (H3.out).2.1) Tryz.underlying32 rfl (by rw [info_eff]; rfl))
theorem number_any (hr : ROk r) (W : World) (h : ST W i p b c r pc cr id) : Calls Tryz.prog 52 #[.pointer (some ⟨p, 0, none⟩)] W (Post i p b c (Regs.putR r i.d (Alu.doV (Alu.plV i.op) (Regs.getV r i.a) (i.n % 4294967296))) (nx pc) cr id (doneL (nx pc)) W) := by
  have ha := Lib.hid (hr.get i.a)
  have hn : Hid (0 ≤ i.n % 4294967296 ∧ i.n % 4294967296 ≤ 4294967295) := by rw [Hid]; omega
  clear hr
  obtain ⟨v, hv⟩ : ∃ v, v = Alu.doV (Alu.plV i.op) (Regs.getV r i.a) (i.n % 4294967296) := ⟨_, rfl⟩
  rw [← hv]
  have HV := Lib.hid hv
  clear hv
  (have h0 := FR.new h; go_enter Tryz.func52, Tryz.ntmps52; go_upto_region 1 with fail; generalize W.alloc (.cells #[.int .i64 0, .int .u32 0, .int .u32 0, .int .i64 0, .bool false, .int .i64 0, .int .u32 0, .int .u32 0, .int .u32 0] 32) = W1 at h0 ⊢; generalize W.heap.size = g at h0 ⊢; have H0 := Lib.hid h0; clear h h0)
  have q0 := H0.out.1.step.cell 0 (.int .i64 i.op) rfl
  go_upto_region 2 with (go_at_call 71; refine (Alu.pl_any _ _).mono ?_; rintro e Wr ⟨rfl, rfl⟩)
  clear q0
  have H1 := Lib.hid H0.out.drew
  go_region_held3 (fun W' => W'.cell? ⟨p, 0, none⟩ = some (.int .i64 i.op) ∧ W'.cell? ⟨p, 1, none⟩ = some (.int .i64 i.d) ∧ W'.cell? ⟨p, 2, none⟩ = some (.int .i64 i.a) ∧ W'.cell? ⟨p, 3, none⟩ = some (.int .i64 i.b) ∧ W'.cell? ⟨p, 4, none⟩ = some (.int .i64 i.n) ∧ W'.cell? ⟨p, 5, none⟩ = some (.pointer (some ⟨b, 0, none⟩)) ∧ W'.cell? ⟨p, 6, none⟩ = some (.pointer (some ⟨c, 0, none⟩)) ∧ W'.cell? ⟨p, 7, none⟩ = some (.int .i64 i.clk)) (first | exact H2.out.1.s8 | exact H1.out.1.s8) (first | (go_at_call 68; refine (reg_any _ _ H1.out.1).mono ?_; rintro e Wr ⟨rfl, rfl⟩) | (go_at_call 67; refine (Alu.do_any _ _ _ ha.out hn.out _).mono ?_; rintro e W2 ⟨rfl, hb⟩; rw [← HV.out]; have H2 := Lib.hid (H1.out.below hb); clear hb))
  go_wp2_with (first | (go_at_call 70; refine (next_any _ H2.out.1).mono ?_; rintro e Wr ⟨rfl, rfl⟩) | (go_at_call 69; refine (told_any v _ _ H2.out.1).mono ?_; rintro e W3 ⟨rfl, hs, hm⟩; have H3 := Lib.hid (H2.out.to hs hm); clear hs hm) | (refine wpList_store_block rfl 32 (.tmp 2) (.tmp 38) rfl g 32 _ _ rfl rfl (H3.out).2.1 (by rw [info_eff]; rfl) rfl (eff_all _ _ _ _ _ _ _ _ _) ?_))
  (refine bodyPost_ret (v := .agg (doneL (nx pc)).toArray) ?_ rfl ⟨rfl, (H3.out).row _⟩; exact results_cell_row rfl _ _ g _ _ (0, 0) _ rfl (setRow_heap _ _ _ _ _ _ (H3.out).2.1) Tryz.underlying32 rfl (by rw [info_eff]; rfl))
theorem read_any (W : World) (h : ST W i p b c r pc cr id) : Calls Tryz.prog 79 #[.pointer (some ⟨p, 0, none⟩)] W (Post i p b c (Regs.putR r i.d (Csr.readV cr id i.n i.clk)) (nx pc) cr id (doneL (nx pc)) W) := by
  obtain ⟨v, hv⟩ : ∃ v, v = Csr.readV cr id i.n i.clk := ⟨_, rfl⟩
  rw [← hv]
  have HV := Lib.hid hv
  clear hv
  (have h0 := FR.new h; go_enter Tryz.func79, Tryz.ntmps79; go_upto_region 1 with fail; generalize W.alloc (.cells #[.int .i64 0, .int .u32 0, .int .u32 0, .int .i64 0, .bool false, .int .i64 0, .int .u32 0, .int .u32 0, .int .u32 0] 32) = W1 at h0 ⊢; generalize W.heap.size = g at h0 ⊢; have H0 := Lib.hid h0; clear h h0)
  have H1 := Lib.hid H0.out.drew
  go_region_held3 (fun W' => W'.cell? ⟨p, 0, none⟩ = some (.int .i64 i.op) ∧ W'.cell? ⟨p, 1, none⟩ = some (.int .i64 i.d) ∧ W'.cell? ⟨p, 2, none⟩ = some (.int .i64 i.a) ∧ W'.cell? ⟨p, 3, none⟩ = some (.int .i64 i.b) ∧ W'.cell? ⟨p, 4, none⟩ = some (.int .i64 i.n) ∧ W'.cell? ⟨p, 5, none⟩ = some (.pointer (some ⟨b, 0, none⟩)) ∧ W'.cell? ⟨p, 6, none⟩ = some (.pointer (some ⟨c, 0, none⟩)) ∧ W'.cell? ⟨p, 7, none⟩ = some (.int .i64 i.clk)) (first | exact H1.out.1.s8) (first | (go_at_call 46; refine (Csr.read_any i.n i.clk c cr id _ H1.out.1.csr).mono ?_; rintro e W2 ⟨rfl, rfl⟩; rw [← HV.out]))
  go_wp2_with (first | (go_at_call 70; refine (next_any _ H1.out.1).mono ?_; rintro e Wr ⟨rfl, rfl⟩) | (go_at_call 69; refine (told_any v _ _ H1.out.1).mono ?_; rintro e W3 ⟨rfl, hs, hm⟩; have H3 := Lib.hid (H1.out.to hs hm); clear hs hm) | (refine wpList_store_block rfl 32 (.tmp 2) (.tmp 26) rfl g 32 _ _ rfl rfl (H3.out).2.1 (by rw [info_eff]; rfl) rfl (eff_all _ _ _ _ _ _ _ _ _) ?_))
  (refine bodyPost_ret (v := .agg (doneL (nx pc)).toArray) ?_ rfl ⟨rfl, (H3.out).row _⟩; exact results_cell_row rfl _ _ g _ _ (0, 0) _ rfl (setRow_heap _ _ _ _ _ _ (H3.out).2.1) Tryz.underlying32 rfl (by rw [info_eff]; rfl))
theorem branch_any (hr : ROk r) (t : Int) (W : World) (h : ST W i p b c r pc cr id) (ht : t = if Alu.takV i.op (Regs.getV r i.a) (Regs.getV r i.b) then farV pc i.n else nx pc) : Calls Tryz.prog 55 #[.pointer (some ⟨p, 0, none⟩)] W (Post i p b c r t cr id (doneL t) W) := by
  have ha := Lib.hid (hr.get i.a); have hbb := Lib.hid (hr.get i.b)
  clear hr
  obtain ⟨v, hv⟩ : ∃ v, v = Alu.takV i.op (Regs.getV r i.a) (Regs.getV r i.b) := ⟨_, rfl⟩
  rw [← hv] at ht
  have HV := Lib.hid hv
  clear hv
  (have h0 := FR.new h; go_enter Tryz.func55, Tryz.ntmps55; go_upto_region 1 with fail; generalize W.alloc (.cells #[.int .i64 0, .int .u32 0, .int .u32 0, .int .i64 0, .bool false, .int .i64 0, .int .u32 0, .int .u32 0, .int .u32 0] 32) = W1 at h0 ⊢; generalize W.heap.size = g at h0 ⊢; have H0 := Lib.hid h0; clear h h0)
  have H1 := Lib.hid H0.out.drew
  go_region_held3 (fun W' => W'.cell? ⟨p, 0, none⟩ = some (.int .i64 i.op) ∧ W'.cell? ⟨p, 1, none⟩ = some (.int .i64 i.d) ∧ W'.cell? ⟨p, 2, none⟩ = some (.int .i64 i.a) ∧ W'.cell? ⟨p, 3, none⟩ = some (.int .i64 i.b) ∧ W'.cell? ⟨p, 4, none⟩ = some (.int .i64 i.n) ∧ W'.cell? ⟨p, 5, none⟩ = some (.pointer (some ⟨b, 0, none⟩)) ∧ W'.cell? ⟨p, 6, none⟩ = some (.pointer (some ⟨c, 0, none⟩)) ∧ W'.cell? ⟨p, 7, none⟩ = some (.int .i64 i.clk)) (first | exact H2.out.1.s8 | exact H1.out.1.s8) (first | (go_at_call 68; refine (reg_any _ _ H1.out.1).mono ?_; rintro e Wr ⟨rfl, rfl⟩) | (go_at_call 74; refine (Alu.tak_any _ _ _ _ ha.out hbb.out _ (Below.refl _ _)).mono ?_; rintro e W2 ⟨rfl, hb⟩; rw [← HV.out]; have H2 := Lib.hid (H1.out.below hb); clear hb))
  cases v with
  | true =>
    obtain rfl : t = farV pc i.n := ht
    go_wp2_with (first | (go_at_call 76; refine (far_any _ H2.out.1).mono ?_; rintro e W4 ⟨rfl, hb⟩; have H4 := Lib.hid (H2.out.below hb); clear hb) | (go_at_call 75; refine (done_any (farV pc i.n) _ H4.out.1).mono ?_; rintro e W3 ⟨rfl, hs, hm⟩; have H3 := Lib.hid (H4.out.to hs hm); clear hs hm) | (refine wpList_store_block rfl 32 (.tmp 2) (.tmp 32) rfl g 32 _ _ rfl rfl (H3.out).2.1 (by rw [info_eff]; rfl) rfl (eff_all _ _ _ _ _ _ _ _ _) ?_))
    (refine bodyPost_ret (v := .agg (doneL (farV pc i.n)).toArray) ?_ rfl ⟨rfl, (H3.out).row _⟩; exact results_cell_row rfl _ _ g _ _ (0, 0) _ rfl (setRow_heap _ _ _ _ _ _ (H3.out).2.1) Tryz.underlying32 rfl (by rw [info_eff]; rfl))
  | false =>
    obtain rfl : t = nx pc := ht
    go_wp2_with (first | (go_at_call 70; refine (next_any _ H2.out.1).mono ?_; rintro e Wr ⟨rfl, rfl⟩) | (go_at_call 75; refine (done_any (nx pc) _ H2.out.1).mono ?_; rintro e W3 ⟨rfl, hs, hm⟩; have H3 := Lib.hid (H2.out.to hs hm); clear hs hm) | (refine wpList_store_block rfl 32 (.tmp 2) (.tmp 36) rfl g 32 _ _ rfl rfl (H3.out).2.1 (by rw [info_eff]; rfl) rfl (eff_all _ _ _ _ _ _ _ _ _) ?_))
    (refine bodyPost_ret (v := .agg (doneL (nx pc)).toArray) ?_ rfl ⟨rfl, (H3.out).row _⟩; exact results_cell_row rfl _ _ g _ _ (0, 0) _ rfl (setRow_heap _ _ _ _ _ _ (H3.out).2.1) Tryz.underlying32 rfl (by rw [info_eff]; rfl))
def wordB (op : Int) : Bool := op == 23 || op == 26
def widV (op : Int) : Int := if wordB op then 4 else 1
theorem width_any (W : World) (h : ST W i p b c r pc cr id) : Calls Tryz.prog 73 #[.pointer (some ⟨p, 0, none⟩)] W fun e W' => e = .returned (.int .i64 (widV i.op)) ∧ W = W' := by
  have q0 := h.step.cell 0 (.int .i64 i.op) rfl
  by_cases h1 : i.op = 23
  · have hv : Hid (widV i.op = 4) := by rw [Hid, h1]; rfl
    clear h
    go_enter Tryz.func73, Tryz.ntmps73
    go_wp2_with fail
    go_ret
    exact ⟨by rw [hv.out]; rfl, rfl⟩
  · have d1 : (i.op == 23) = false := by simp [h1]
    by_cases h2 : i.op = 26
    · have hv : Hid (widV i.op = 4) := by rw [Hid, h2]; rfl
      clear h d1
      go_enter Tryz.func73, Tryz.ntmps73
      go_wp2_with fail
      go_ret
      exact ⟨by rw [hv.out]; rfl, rfl⟩
    · have d2 : (i.op == 26) = false := by simp [h2]
      have hv : Hid (widV i.op = 1) := by rw [Hid, widV, wordB, d1, d2]; rfl
      clear h
      go_enter Tryz.func73, Tryz.ntmps73
      go_wp2_with fail
      go_ret
      exact ⟨by rw [hv.out]; rfl, rfl⟩
def toV (r : List Int) (i : In) : Int := (Regs.getV r i.a + i.n % 4294967296) % 4294967296
theorem jump_any (t : Int) (W : World) (h : ST W i p b c r pc cr id) (ht : t = if i.op = 33 then toV r i else farV pc i.n) : Calls Tryz.prog 56 #[.pointer (some ⟨p, 0, none⟩)] W (Post i p b c (Regs.putR r i.d (nx pc)) t cr id (doneL t) W) := by
  obtain ⟨fv, hfv⟩ : ∃ fv, fv = farV pc i.n := ⟨_, rfl⟩
  have FAR : Hid (∀ W, ST W i p b c r pc cr id → Calls Tryz.prog 76 #[.pointer (some ⟨p, 0, none⟩)] W fun e W' => e = .returned (.int .u32 fv) ∧ Below W.heap.size W W') := fun W h => by rw [hfv]; exact far_any W h
  by_cases h1 : i.op = 33
  · rw [if_pos h1] at ht
    have HT := Lib.hid ht
    clear ht hfv
    (have h0 := FR.new h; go_enter Tryz.func56, Tryz.ntmps56; go_upto_region 1 with fail; generalize W.alloc (.cells #[.int .i64 0, .int .u32 0, .int .u32 0, .int .i64 0, .bool false, .int .i64 0, .int .u32 0, .int .u32 0, .int .u32 0] 32) = W1 at h0 ⊢; generalize W.heap.size = g at h0 ⊢; have H0 := Lib.hid h0; clear h h0)
    have q0 := H0.out.1.step.cell 0 (.int .i64 i.op) rfl
    go_upto_region 2 with (first | (go_at_call 76; refine (FAR.out _ H0.out.1).mono ?_; rintro e W4 ⟨rfl, hb⟩; have H4 := Lib.hid (H0.out.below hb); clear hb))
    clear q0
    have q0 := H4.out.1.step.cell 0 (.int .i64 i.op) rfl
    go_upto_region 3 with fail
    clear q0
    have H1 := Lib.hid H4.out.drew
    go_region_held3 (fun W' => W'.cell? ⟨p, 0, none⟩ = some (.int .i64 i.op) ∧ W'.cell? ⟨p, 1, none⟩ = some (.int .i64 i.d) ∧ W'.cell? ⟨p, 2, none⟩ = some (.int .i64 i.a) ∧ W'.cell? ⟨p, 3, none⟩ = some (.int .i64 i.b) ∧ W'.cell? ⟨p, 4, none⟩ = some (.int .i64 i.n) ∧ W'.cell? ⟨p, 5, none⟩ = some (.pointer (some ⟨b, 0, none⟩)) ∧ W'.cell? ⟨p, 6, none⟩ = some (.pointer (some ⟨c, 0, none⟩)) ∧ W'.cell? ⟨p, 7, none⟩ = some (.int .i64 i.clk)) (first | exact H1.out.1.s8) (first | (go_at_call 68; refine (reg_any _ _ H1.out.1).mono ?_; rintro e Wr ⟨rfl, rfl⟩))
    rw [show IntKind.u32.wrap (Regs.getV r i.a + IntKind.u32.wrap i.n) = t by rw [IntKind.wrap_u32, IntKind.wrap_u32, HT.out]; rfl]
    go_wp2_with (first | (go_at_call 70; refine (next_any _ H1.out.1).mono ?_; rintro e Wr ⟨rfl, rfl⟩) | (go_at_call 69; refine (told_any (nx pc) _ _ H1.out.1).mono ?_; rintro e W3 ⟨rfl, hs, hm⟩; have H3 := Lib.hid (H1.out.to hs hm); clear hs hm) | (refine wpList_store_block rfl 32 (.tmp 2) (.tmp 30) rfl g 32 _ _ rfl rfl (H3.out).2.1 (by rw [info_eff]; rfl) rfl (eff_all _ _ _ _ _ _ _ _ _) ?_))
    (refine bodyPost_ret (v := .agg (doneL t).toArray) ?_ rfl ⟨rfl, (H3.out).row _⟩; exact results_cell_row rfl _ _ g _ _ (0, 0) _ rfl (setRow_heap _ _ _ _ _ _ (H3.out).2.1) Tryz.underlying32 rfl (by rw [info_eff]; rfl))
  · rw [if_neg h1, ← hfv] at ht
    subst ht
    clear hfv
    have d1 : (i.op == 33) = false := by simp [h1]
    (have h0 := FR.new h; go_enter Tryz.func56, Tryz.ntmps56; go_upto_region 1 with fail; generalize W.alloc (.cells #[.int .i64 0, .int .u32 0, .int .u32 0, .int .i64 0, .bool false, .int .i64 0, .int .u32 0, .int .u32 0, .int .u32 0] 32) = W1 at h0 ⊢; generalize W.heap.size = g at h0 ⊢; have H0 := Lib.hid h0; clear h h0)
    have q0 := H0.out.1.step.cell 0 (.int .i64 i.op) rfl
    go_upto_region 2 with (first | (go_at_call 76; refine (FAR.out _ H0.out.1).mono ?_; rintro e W4 ⟨rfl, hb⟩; have H4 := Lib.hid (H0.out.below hb); clear hb))
    clear q0
    have q0 := H4.out.1.step.cell 0 (.int .i64 i.op) rfl
    go_wp2_with (first | (go_at_call 70; refine (next_any _ H4.out.1).mono ?_; rintro e Wr ⟨rfl, rfl⟩) | (go_at_call 69; refine (told_any (nx pc) _ _ H4.out.1).mono ?_; rintro e W3 ⟨rfl, hs, hm⟩; have H3 := Lib.hid (H4.out.to hs hm); clear hs hm) | (refine wpList_store_block rfl 32 (.tmp 2) (.tmp 30) rfl g 32 _ _ rfl rfl (H3.out).2.1 (by rw [info_eff]; rfl) rfl (eff_all _ _ _ _ _ _ _ _ _) ?_))
    (refine bodyPost_ret (v := .agg (doneL t).toArray) ?_ rfl ⟨rfl, (H3.out).row _⟩; exact results_cell_row rfl _ _ g _ _ (0, 0) _ rfl (setRow_heap _ _ _ _ _ _ (H3.out).2.1) Tryz.underlying32 rfl (by rw [info_eff]; rfl))
theorem toV_eq (r : List Int) (i : In) : IntKind.u32.wrap (Regs.getV r i.a + IntKind.u32.wrap i.n) = toV r i := by rw [IntKind.wrap_u32, IntKind.wrap_u32]; rfl
end Go.Proofs.YtiohfdhmkikckaaGreatDoor
