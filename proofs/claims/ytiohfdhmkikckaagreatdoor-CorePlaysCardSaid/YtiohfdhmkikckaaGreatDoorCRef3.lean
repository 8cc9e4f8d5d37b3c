/- Chapter 13's reference: jumps, and all others. -/
import Derived.Test.YtiohfdhmkikckaaGreatDoorCRef2
namespace Go.Proofs.YtiohfdhmkikckaaGreatDoor
set_option linter.unusedVariables false
set_option linter.unusedSimpArgs false
set_option linter.unnecessarySimpa false
open Go.RowKit
set_option maxHeartbeats 4000000
set_option maxRecDepth 100000
set_option linter.unusedVariables false
variable {W W' W0 : World} {i : In} {g e q m : Nat} {r r' : List Int} {pc pc' : Int} {cr cr' : List Int} {id : Int} {cs : List Value}
def tgtV (r : List Int) (pc : Int) (i : In) : Int := if Alu.takV i.op (Regs.getV r i.a) (Regs.getV r i.b) then farV pc i.n else nx pc
theorem jump_br (hr : ROk r) (h0 : 28 ≤ i.op) (h9 : i.op ≤ 31) (W : World) (h1 : Regs.RefAt W g r pc) (h2 : Csr.RefC W e cr id) : Calls Tryz.prog 35 #[(.agg #[.int .i64 (i.op), .int .i64 (i.d), .int .i64 (i.a), .int .i64 (i.b), .int .i64 (i.n)]), .pointer (some ⟨g, 0, none⟩)] W (RPost g e id ⟨doneL (tgtV r pc i), 0, r, tgtV r pc i, cr⟩ W) := by
  have d32 : (i.op == 32) = false := by simp; omega
  have d33 : (i.op == 33) = false := by simp; omega
  obtain ⟨tv, htv⟩ : ∃ x, x = Alu.takV i.op (Regs.getV r i.a) (Regs.getV r i.b) := ⟨_, rfl⟩
  have HTV := Lib.hid htv
  obtain ⟨tg, htg⟩ : ∃ x, x = tgtV r pc i := ⟨_, rfl⟩
  rw [← htg]
  have HTG : Hid (tg = if tv then farV pc i.n else nx pc) := by rw [Hid, htg, tgtV, htv]
  clear htg
  clear htv h0 h9
  (have HAA := Lib.hid (hr.get i.a); have HBB := Lib.hid (hr.get i.b); clear hr; (have h0 := RX.new (i := i) h1 h2; go_enter Tryz.func35, Tryz.ntmps35; go_upto_region 1 with fail; generalize (W.alloc (.cells #[.int .i64 (i.op), .int .i64 (i.d), .int .i64 (i.a), .int .i64 (i.b), .int .i64 (i.n)] 37)).alloc (.cells #[.int .i64 0, .int .u32 0, .int .u32 0, .int .i64 0, .bool false, .int .i64 0, .int .u32 0, .int .u32 0, .int .u32 0] 32) = W1 at h0 ⊢; generalize W.heap.size + 1 = q at h0 ⊢; generalize W.heap.size = m at h0 ⊢; have H0 := Lib.hid h0; clear h0 h1 h2); (have c0 := H0.out.ei.cell 0 _ rfl; have c1 := H0.out.ei.cell 1 _ rfl; have c2 := H0.out.ei.cell 2 _ rfl; have c3 := H0.out.ei.cell 3 _ rfl; have c4 := H0.out.ei.cell 4 _ rfl; have cp := H0.out.f.pc); (go_upto_region 2 with (go_at_call 60; refine (Regs.rget_any i.a g r pc _ H0.out.f).mono ?_; rintro x Wr ⟨rfl, rfl⟩)); (go_upto_region 3 with (go_at_call 60; refine (Regs.rget_any i.b g r pc _ H0.out.f).mono ?_; rintro x Wr ⟨rfl, rfl⟩)); go_upto_region 4 with fail; go_quiet (fail); clear c0 c1 c2 c3 c4 cp; obtain ⟨W2, hW2⟩ : ∃ W2, W2 = W1.drewN nq := ⟨_, rfl⟩; have H2 : Hid (RX W W2 m q i g e r pc cr id) := (by rw [hW2]; exact Lib.hid (H0.out.below (below_drewN (Below.refl _ _) nq))); rw [← hW2]; clear hW2 H0; have hfar : (pc + 4 * (i.n % 4294967296) % 4294967296) % 4294967296 = farV pc i.n := (by unfold farV; rfl); have hnx : (pc + 4) % 4294967296 = nx pc := (by unfold nx; rfl); rw [hfar, hnx]; clear hfar hnx; (have c0 := H2.out.ei.cell 0 _ rfl; have c1 := H2.out.ei.cell 1 _ rfl; have c2 := H2.out.ei.cell 2 _ rfl; have c3 := H2.out.ei.cell 3 _ rfl; have c4 := H2.out.ei.cell 4 _ rfl; have cp := H2.out.f.pc))
  cases tv with
  | true =>
    have ht : tg = farV pc i.n := HTG.out
    subst ht
    go_wp2_with (first | (go_at_call 64; refine (Alu.rtak_any _ _ _ HAA.out HBB.out _).mono ?_; rintro x Wr ⟨rfl, rfl⟩; rw [← HTV.out]) | (go_at_call 33; refine (rdone_any (farV pc i.n) _ H2.out.f).mono ?_; rintro x W3 ⟨rfl, hf, hu⟩; have H3 := Lib.hid (H2.out.toF hf hu); clear hf hu) | (refine wpList_store_block rfl 32 (.tmp 4) (.tmp 76) rfl q 32 _ _ rfl rfl (H3.out).eg (by rw [info_eff]; rfl) rfl (eff_all 0 (farV pc i.n) 0 0 false 0 0 0 0) ?_))
    (refine bodyPost_ret (v := .agg (doneL (farV pc i.n)).toArray) ?_ rfl ⟨rfl, (H3.out).row _⟩; exact results_cell_row rfl _ _ q _ _ (0, 0) _ rfl (setRow_heap _ _ _ _ _ _ (H3.out).eg) Tryz.underlying32 rfl (by rw [info_eff]; rfl))
  | false =>
    have ht : tg = nx pc := HTG.out
    subst ht
    go_wp2_with (first | (go_at_call 64; refine (Alu.rtak_any _ _ _ HAA.out HBB.out _).mono ?_; rintro x Wr ⟨rfl, rfl⟩; rw [← HTV.out]) | (go_at_call 33; refine (rdone_any (nx pc) _ H2.out.f).mono ?_; rintro x W3 ⟨rfl, hf, hu⟩; have H3 := Lib.hid (H2.out.toF hf hu); clear hf hu) | (refine wpList_store_block rfl 32 (.tmp 4) (.tmp 79) rfl q 32 _ _ rfl rfl (H3.out).eg (by rw [info_eff]; rfl) rfl (eff_all 0 (nx pc) 0 0 false 0 0 0 0) ?_))
    (refine bodyPost_ret (v := .agg (doneL (nx pc)).toArray) ?_ rfl ⟨rfl, (H3.out).row _⟩; exact results_cell_row rfl _ _ q _ _ (0, 0) _ rfl (setRow_heap _ _ _ _ _ _ (H3.out).eg) Tryz.underlying32 rfl (by rw [info_eff]; rfl))
theorem jump_32 (hr : ROk r) (ho : i.op = 32) (W : World) (h1 : Regs.RefAt W g r pc) (h2 : Csr.RefC W e cr id) : Calls Tryz.prog 35 #[(.agg #[.int .i64 (i.op), .int .i64 (i.d), .int .i64 (i.a), .int .i64 (i.b), .int .i64 (i.n)]), .pointer (some ⟨g, 0, none⟩)] W (RPost g e id (toldO (nx pc) (farV pc i.n) r cr i) W) := by
  have HO := Lib.hid ho
  clear ho
  (have HAA := Lib.hid (hr.get i.a); have HBB := Lib.hid (hr.get i.b); clear hr; (have h0 := RX.new (i := i) h1 h2; go_enter Tryz.func35, Tryz.ntmps35; go_upto_region 1 with fail; generalize (W.alloc (.cells #[.int .i64 (i.op), .int .i64 (i.d), .int .i64 (i.a), .int .i64 (i.b), .int .i64 (i.n)] 37)).alloc (.cells #[.int .i64 0, .int .u32 0, .int .u32 0, .int .i64 0, .bool false, .int .i64 0, .int .u32 0, .int .u32 0, .int .u32 0] 32) = W1 at h0 ⊢; generalize W.heap.size + 1 = q at h0 ⊢; generalize W.heap.size = m at h0 ⊢; have H0 := Lib.hid h0; clear h0 h1 h2); (have c0 := H0.out.ei.cell 0 _ rfl; have c1 := H0.out.ei.cell 1 _ rfl; have c2 := H0.out.ei.cell 2 _ rfl; have c3 := H0.out.ei.cell 3 _ rfl; have c4 := H0.out.ei.cell 4 _ rfl; have cp := H0.out.f.pc); (go_upto_region 2 with (go_at_call 60; refine (Regs.rget_any i.a g r pc _ H0.out.f).mono ?_; rintro x Wr ⟨rfl, rfl⟩)); (go_upto_region 3 with (go_at_call 60; refine (Regs.rget_any i.b g r pc _ H0.out.f).mono ?_; rintro x Wr ⟨rfl, rfl⟩)); go_upto_region 4 with fail; go_quiet (fail); clear c0 c1 c2 c3 c4 cp; obtain ⟨W2, hW2⟩ : ∃ W2, W2 = W1.drewN nq := ⟨_, rfl⟩; have H2 : Hid (RX W W2 m q i g e r pc cr id) := (by rw [hW2]; exact Lib.hid (H0.out.below (below_drewN (Below.refl _ _) nq))); rw [← hW2]; clear hW2 H0; have hfar : (pc + 4 * (i.n % 4294967296) % 4294967296) % 4294967296 = farV pc i.n := (by unfold farV; rfl); have hnx : (pc + 4) % 4294967296 = nx pc := (by unfold nx; rfl); rw [hfar, hnx]; clear hfar hnx; (have c0 := H2.out.ei.cell 0 _ rfl; have c1 := H2.out.ei.cell 1 _ rfl; have c2 := H2.out.ei.cell 2 _ rfl; have c3 := H2.out.ei.cell 3 _ rfl; have c4 := H2.out.ei.cell 4 _ rfl; have cp := H2.out.f.pc))
  rw [HO.out] at c0
  go_upto_region 9 with (go_at_call 18; refine (Regs.rset_any i.d (nx pc) g r pc _ H2.out.f).mono ?_; rintro x W3 ⟨rfl, hf, hu⟩; have H4 := Lib.hid (H2.out.toF hf hu); clear hf hu)
  go_wp2_with (first | (go_at_call 33; refine (rdone_any (farV pc i.n) _ H4.out.f).mono ?_; rintro x W5 ⟨rfl, hf, hu⟩; have H5 := Lib.hid (H4.out.toF hf hu); clear hf hu) | (refine wpList_store_block rfl 32 (.tmp 4) (.tmp 64) rfl q 32 _ _ rfl rfl (H5.out).eg (by rw [info_eff]; rfl) rfl (eff_all 0 (farV pc i.n) 0 0 false 0 0 0 0) ?_))
  (refine bodyPost_ret (v := .agg (doneL (farV pc i.n)).toArray) ?_ rfl ⟨rfl, (H5.out).row _⟩; exact results_cell_row rfl _ _ q _ _ (0, 0) _ rfl (setRow_heap _ _ _ _ _ _ (H5.out).eg) Tryz.underlying32 rfl (by rw [info_eff]; rfl))
theorem jump_33 (hr : ROk r) (ho : i.op = 33) (W : World) (h1 : Regs.RefAt W g r pc) (h2 : Csr.RefC W e cr id) : Calls Tryz.prog 35 #[(.agg #[.int .i64 (i.op), .int .i64 (i.d), .int .i64 (i.a), .int .i64 (i.b), .int .i64 (i.n)]), .pointer (some ⟨g, 0, none⟩)] W (RPost g e id (toldO (nx pc) (toV r i) r cr i) W) := by
  have HO := Lib.hid ho
  clear ho
  (have HAA := Lib.hid (hr.get i.a); have HBB := Lib.hid (hr.get i.b); clear hr; (have h0 := RX.new (i := i) h1 h2; go_enter Tryz.func35, Tryz.ntmps35; go_upto_region 1 with fail; generalize (W.alloc (.cells #[.int .i64 (i.op), .int .i64 (i.d), .int .i64 (i.a), .int .i64 (i.b), .int .i64 (i.n)] 37)).alloc (.cells #[.int .i64 0, .int .u32 0, .int .u32 0, .int .i64 0, .bool false, .int .i64 0, .int .u32 0, .int .u32 0, .int .u32 0] 32) = W1 at h0 ⊢; generalize W.heap.size + 1 = q at h0 ⊢; generalize W.heap.size = m at h0 ⊢; have H0 := Lib.hid h0; clear h0 h1 h2); (have c0 := H0.out.ei.cell 0 _ rfl; have c1 := H0.out.ei.cell 1 _ rfl; have c2 := H0.out.ei.cell 2 _ rfl; have c3 := H0.out.ei.cell 3 _ rfl; have c4 := H0.out.ei.cell 4 _ rfl; have cp := H0.out.f.pc); (go_upto_region 2 with (go_at_call 60; refine (Regs.rget_any i.a g r pc _ H0.out.f).mono ?_; rintro x Wr ⟨rfl, rfl⟩)); (go_upto_region 3 with (go_at_call 60; refine (Regs.rget_any i.b g r pc _ H0.out.f).mono ?_; rintro x Wr ⟨rfl, rfl⟩)); go_upto_region 4 with fail; go_quiet (fail); clear c0 c1 c2 c3 c4 cp; obtain ⟨W2, hW2⟩ : ∃ W2, W2 = W1.drewN nq := ⟨_, rfl⟩; have H2 : Hid (RX W W2 m q i g e r pc cr id) := (by rw [hW2]; exact Lib.hid (H0.out.below (below_drewN (Below.refl _ _) nq))); rw [← hW2]; clear hW2 H0; have hfar : (pc + 4 * (i.n % 4294967296) % 4294967296) % 4294967296 = farV pc i.n := (by unfold farV; rfl); have hnx : (pc + 4) % 4294967296 = nx pc := (by unfold nx; rfl); rw [hfar, hnx]; clear hfar hnx; (have c0 := H2.out.ei.cell 0 _ rfl; have c1 := H2.out.ei.cell 1 _ rfl; have c2 := H2.out.ei.cell 2 _ rfl; have c3 := H2.out.ei.cell 3 _ rfl; have c4 := H2.out.ei.cell 4 _ rfl; have cp := H2.out.f.pc))
  rw [HO.out] at c0
  go_upto_region 8 with fail
  have htv : (Regs.getV r i.a + i.n % 4294967296) % 4294967296 = toV r i := by unfold toV; rfl
  rw [htv]; clear htv
  go_upto_region 9 with (go_at_call 18; refine (Regs.rset_any i.d (nx pc) g r pc _ H2.out.f).mono ?_; rintro x W3 ⟨rfl, hf, hu⟩; have H4 := Lib.hid (H2.out.toF hf hu); clear hf hu)
  go_wp2_with (first | (go_at_call 33; refine (rdone_any (toV r i) _ H4.out.f).mono ?_; rintro x W5 ⟨rfl, hf, hu⟩; have H5 := Lib.hid (H4.out.toF hf hu); clear hf hu) | (refine wpList_store_block rfl 32 (.tmp 4) (.tmp 64) rfl q 32 _ _ rfl rfl (H5.out).eg (by rw [info_eff]; rfl) rfl (eff_all 0 (toV r i) 0 0 false 0 0 0 0) ?_))
  (refine bodyPost_ret (v := .agg (doneL (toV r i)).toArray) ?_ rfl ⟨rfl, (H5.out).row _⟩; exact results_cell_row rfl _ _ q _ _ (0, 0) _ rfl (setRow_heap _ _ _ _ _ _ (H5.out).eg) Tryz.underlying32 rfl (by rw [info_eff]; rfl))
/-- The others. -/
def sysO (r : List Int) (pc : Int) (cr : List Int) (id : Int) (i : In) : Out :=
  if i.op = 34 then ⟨trapL 6 0, 0, r, pc, cr⟩
  else if i.op = 41 then ⟨trapL 8 pc, 0, r, pc, cr⟩
  else if i.op = 36 then ⟨doneL (cr.getD 2 0), 0, r, cr.getD 2 0, Csr.leaveR cr⟩
  else if i.op = 37 then toldO (Csr.readV cr id i.n i.clk) (nx pc) r cr i
  else if i.op = 38 then (if Csr.putE cr i.n = 0 then ⟨doneL (nx pc), 0, r, nx pc, Csr.putC cr i.n (Regs.getV r i.a)⟩ else ⟨trapL 1 (wordV i), 0, r, pc, Csr.putC cr i.n (Regs.getV r i.a)⟩)
  else ⟨effL (exitK i.op) (nx pc) 0 0 false 0 0 0 0, 0, r, pc, cr⟩
def SysC (i : In) (g e : Nat) (id : Int) (o : Out) (W : World) : Prop := Calls Tryz.prog 36 #[(.agg #[.int .i64 (i.op), .int .i64 (i.d), .int .i64 (i.a), .int .i64 (i.b), .int .i64 (i.n)]), .pointer (some ⟨g, 0, none⟩), .pointer (some ⟨e, 0, none⟩), .int .i64 i.clk] W (RPost g e id o W)
theorem sys_34 (ho : i.op = 34) (W : World) (h1 : Regs.RefAt W g r pc) (h2 : Csr.RefC W e cr id) : SysC i g e id ⟨trapL 6 0, 0, r, pc, cr⟩ W := by
  (unfold SysC; have HO := Lib.hid ho; clear ho; (have h0 := RX.new (i := i) h1 h2; go_enter Tryz.func36, Tryz.ntmps36; go_upto_region 1 with fail; generalize (W.alloc (.cells #[.int .i64 (i.op), .int .i64 (i.d), .int .i64 (i.a), .int .i64 (i.b), .int .i64 (i.n)] 37)).alloc (.cells #[.int .i64 0, .int .u32 0, .int .u32 0, .int .i64 0, .bool false, .int .i64 0, .int .u32 0, .int .u32 0, .int .u32 0] 32) = W1 at h0 ⊢; generalize W.heap.size + 1 = q at h0 ⊢; generalize W.heap.size = m at h0 ⊢; have H0 := Lib.hid h0; clear h0 h1 h2); (have c0 := H0.out.ei.cell 0 _ rfl; have c1 := H0.out.ei.cell 1 _ rfl; have c2 := H0.out.ei.cell 2 _ rfl; have c3 := H0.out.ei.cell 3 _ rfl; have c4 := H0.out.ei.cell 4 _ rfl; have cp := H0.out.f.pc); rw [HO.out] at c0; go_upto_region 2 with fail; have hnx : (pc + 4) % 4294967296 = nx pc := (by unfold nx; rfl); rw [hnx]; clear hnx)
  go_wp2_with (first | (go_at_call 31; refine (rtrap_any 6 0 _).mono ?_; rintro x W3 ⟨rfl, hb⟩; have H3 := Lib.hid (H0.out.below hb); clear hb) | (refine wpList_store_block rfl 32 (.tmp 8) (.tmp 23) rfl q 32 _ _ rfl rfl (H3.out).eg (by rw [info_eff]; rfl) rfl (eff_all 3 0 0 0 false 0 0 6 0) ?_))
  (refine bodyPost_ret (v := .agg (trapL 6 0).toArray) ?_ rfl ⟨rfl, (H3.out).row _⟩; exact results_cell_row rfl _ _ q _ _ (0, 0) _ rfl (setRow_heap _ _ _ _ _ _ (H3.out).eg) Tryz.underlying32 rfl (by rw [info_eff]; rfl))
theorem sys_41 (ho : i.op = 41) (W : World) (h1 : Regs.RefAt W g r pc) (h2 : Csr.RefC W e cr id) : SysC i g e id ⟨trapL 8 pc, 0, r, pc, cr⟩ W := by
  (unfold SysC; have HO := Lib.hid ho; clear ho; (have h0 := RX.new (i := i) h1 h2; go_enter Tryz.func36, Tryz.ntmps36; go_upto_region 1 with fail; generalize (W.alloc (.cells #[.int .i64 (i.op), .int .i64 (i.d), .int .i64 (i.a), .int .i64 (i.b), .int .i64 (i.n)] 37)).alloc (.cells #[.int .i64 0, .int .u32 0, .int .u32 0, .int .i64 0, .bool false, .int .i64 0, .int .u32 0, .int .u32 0, .int .u32 0] 32) = W1 at h0 ⊢; generalize W.heap.size + 1 = q at h0 ⊢; generalize W.heap.size = m at h0 ⊢; have H0 := Lib.hid h0; clear h0 h1 h2); (have c0 := H0.out.ei.cell 0 _ rfl; have c1 := H0.out.ei.cell 1 _ rfl; have c2 := H0.out.ei.cell 2 _ rfl; have c3 := H0.out.ei.cell 3 _ rfl; have c4 := H0.out.ei.cell 4 _ rfl; have cp := H0.out.f.pc); rw [HO.out] at c0; go_upto_region 2 with fail; have hnx : (pc + 4) % 4294967296 = nx pc := (by unfold nx; rfl); rw [hnx]; clear hnx)
  go_wp2_with (first | (go_at_call 31; refine (rtrap_any 8 pc _).mono ?_; rintro x W3 ⟨rfl, hb⟩; have H3 := Lib.hid (H0.out.below hb); clear hb) | (refine wpList_store_block rfl 32 (.tmp 8) (.tmp 30) rfl q 32 _ _ rfl rfl (H3.out).eg (by rw [info_eff]; rfl) rfl (eff_all 3 0 0 0 false 0 0 8 pc) ?_))
  (refine bodyPost_ret (v := .agg (trapL 8 pc).toArray) ?_ rfl ⟨rfl, (H3.out).row _⟩; exact results_cell_row rfl _ _ q _ _ (0, 0) _ rfl (setRow_heap _ _ _ _ _ _ (H3.out).eg) Tryz.underlying32 rfl (by rw [info_eff]; rfl))
theorem sys_35 (ho : i.op = 35) (W : World) (h1 : Regs.RefAt W g r pc) (h2 : Csr.RefC W e cr id) : SysC i g e id ⟨effL 4 (nx pc) 0 0 false 0 0 0 0, 0, r, pc, cr⟩ W := by
  (unfold SysC; have HO := Lib.hid ho; clear ho; (have h0 := RX.new (i := i) h1 h2; go_enter Tryz.func36, Tryz.ntmps36; go_upto_region 1 with fail; generalize (W.alloc (.cells #[.int .i64 (i.op), .int .i64 (i.d), .int .i64 (i.a), .int .i64 (i.b), .int .i64 (i.n)] 37)).alloc (.cells #[.int .i64 0, .int .u32 0, .int .u32 0, .int .i64 0, .bool false, .int .i64 0, .int .u32 0, .int .u32 0, .int .u32 0] 32) = W1 at h0 ⊢; generalize W.heap.size + 1 = q at h0 ⊢; generalize W.heap.size = m at h0 ⊢; have H0 := Lib.hid h0; clear h0 h1 h2); (have c0 := H0.out.ei.cell 0 _ rfl; have c1 := H0.out.ei.cell 1 _ rfl; have c2 := H0.out.ei.cell 2 _ rfl; have c3 := H0.out.ei.cell 3 _ rfl; have c4 := H0.out.ei.cell 4 _ rfl; have cp := H0.out.f.pc); rw [HO.out] at c0; go_upto_region 2 with fail; have hnx : (pc + 4) % 4294967296 = nx pc := (by unfold nx; rfl); rw [hnx]; clear hnx)
  go_wp2_with (refine wpList_store_block rfl 32 (.tmp 8) (.tmp 34) rfl q 32 _ _ rfl rfl (H0.out).eg (by rw [info_eff]; rfl) rfl (eff_all 4 (nx pc) 0 0 false 0 0 0 0) ?_)
  (refine bodyPost_ret (v := .agg (effL 4 (nx pc) 0 0 false 0 0 0 0).toArray) ?_ rfl ⟨rfl, (H0.out).row _⟩; exact results_cell_row rfl _ _ q _ _ (0, 0) _ rfl (setRow_heap _ _ _ _ _ _ (H0.out).eg) Tryz.underlying32 rfl (by rw [info_eff]; rfl))
theorem sys_40 (ho : i.op = 40) (W : World) (h1 : Regs.RefAt W g r pc) (h2 : Csr.RefC W e cr id) : SysC i g e id ⟨effL 5 (nx pc) 0 0 false 0 0 0 0, 0, r, pc, cr⟩ W := by
  (unfold SysC; have HO := Lib.hid ho; clear ho; (have h0 := RX.new (i := i) h1 h2; go_enter Tryz.func36, Tryz.ntmps36; go_upto_region 1 with fail; generalize (W.alloc (.cells #[.int .i64 (i.op), .int .i64 (i.d), .int .i64 (i.a), .int .i64 (i.b), .int .i64 (i.n)] 37)).alloc (.cells #[.int .i64 0, .int .u32 0, .int .u32 0, .int .i64 0, .bool false, .int .i64 0, .int .u32 0, .int .u32 0, .int .u32 0] 32) = W1 at h0 ⊢; generalize W.heap.size + 1 = q at h0 ⊢; generalize W.heap.size = m at h0 ⊢; have H0 := Lib.hid h0; clear h0 h1 h2); (have c0 := H0.out.ei.cell 0 _ rfl; have c1 := H0.out.ei.cell 1 _ rfl; have c2 := H0.out.ei.cell 2 _ rfl; have c3 := H0.out.ei.cell 3 _ rfl; have c4 := H0.out.ei.cell 4 _ rfl; have cp := H0.out.f.pc); rw [HO.out] at c0; go_upto_region 2 with fail; have hnx : (pc + 4) % 4294967296 = nx pc := (by unfold nx; rfl); rw [hnx]; clear hnx)
  go_wp2_with (refine wpList_store_block rfl 32 (.tmp 8) (.tmp 38) rfl q 32 _ _ rfl rfl (H0.out).eg (by rw [info_eff]; rfl) rfl (eff_all 5 (nx pc) 0 0 false 0 0 0 0) ?_)
  (refine bodyPost_ret (v := .agg (effL 5 (nx pc) 0 0 false 0 0 0 0).toArray) ?_ rfl ⟨rfl, (H0.out).row _⟩; exact results_cell_row rfl _ _ q _ _ (0, 0) _ rfl (setRow_heap _ _ _ _ _ _ (H0.out).eg) Tryz.underlying32 rfl (by rw [info_eff]; rfl))
theorem sys_39 (ho : i.op = 39) (W : World) (h1 : Regs.RefAt W g r pc) (h2 : Csr.RefC W e cr id) : SysC i g e id ⟨effL 6 (nx pc) 0 0 false 0 0 0 0, 0, r, pc, cr⟩ W := by
  (unfold SysC; have HO := Lib.hid ho; clear ho; (have h0 := RX.new (i := i) h1 h2; go_enter Tryz.func36, Tryz.ntmps36; go_upto_region 1 with fail; generalize (W.alloc (.cells #[.int .i64 (i.op), .int .i64 (i.d), .int .i64 (i.a), .int .i64 (i.b), .int .i64 (i.n)] 37)).alloc (.cells #[.int .i64 0, .int .u32 0, .int .u32 0, .int .i64 0, .bool false, .int .i64 0, .int .u32 0, .int .u32 0, .int .u32 0] 32) = W1 at h0 ⊢; generalize W.heap.size + 1 = q at h0 ⊢; generalize W.heap.size = m at h0 ⊢; have H0 := Lib.hid h0; clear h0 h1 h2); (have c0 := H0.out.ei.cell 0 _ rfl; have c1 := H0.out.ei.cell 1 _ rfl; have c2 := H0.out.ei.cell 2 _ rfl; have c3 := H0.out.ei.cell 3 _ rfl; have c4 := H0.out.ei.cell 4 _ rfl; have cp := H0.out.f.pc); rw [HO.out] at c0; go_upto_region 2 with fail; have hnx : (pc + 4) % 4294967296 = nx pc := (by unfold nx; rfl); rw [hnx]; clear hnx)
  go_wp2_with (refine wpList_store_block rfl 32 (.tmp 8) (.tmp 42) rfl q 32 _ _ rfl rfl (H0.out).eg (by rw [info_eff]; rfl) rfl (eff_all 6 (nx pc) 0 0 false 0 0 0 0) ?_)
  (refine bodyPost_ret (v := .agg (effL 6 (nx pc) 0 0 false 0 0 0 0).toArray) ?_ rfl ⟨rfl, (H0.out).row _⟩; exact results_cell_row rfl _ _ q _ _ (0, 0) _ rfl (setRow_heap _ _ _ _ _ _ (H0.out).eg) Tryz.underlying32 rfl (by rw [info_eff]; rfl))
theorem sys_36 (hs : Csr.StOk cr) (ho : i.op = 36) (W : World) (h1 : Regs.RefAt W g r pc) (h2 : Csr.RefC W e cr id) : SysC i g e id ⟨doneL (cr.getD 2 0), 0, r, cr.getD 2 0, Csr.leaveR cr⟩ W := by
  have HS := Lib.hid hs
  clear hs
  obtain ⟨t, ht⟩ : ∃ t, t = cr.getD 2 0 := ⟨_, rfl⟩
  rw [← ht]
  have HTT := Lib.hid ht
  clear ht
  (unfold SysC; have HO := Lib.hid ho; clear ho; (have h0 := RX.new (i := i) h1 h2; go_enter Tryz.func36, Tryz.ntmps36; go_upto_region 1 with fail; generalize (W.alloc (.cells #[.int .i64 (i.op), .int .i64 (i.d), .int .i64 (i.a), .int .i64 (i.b), .int .i64 (i.n)] 37)).alloc (.cells #[.int .i64 0, .int .u32 0, .int .u32 0, .int .i64 0, .bool false, .int .i64 0, .int .u32 0, .int .u32 0, .int .u32 0] 32) = W1 at h0 ⊢; generalize W.heap.size + 1 = q at h0 ⊢; generalize W.heap.size = m at h0 ⊢; have H0 := Lib.hid h0; clear h0 h1 h2); (have c0 := H0.out.ei.cell 0 _ rfl; have c1 := H0.out.ei.cell 1 _ rfl; have c2 := H0.out.ei.cell 2 _ rfl; have c3 := H0.out.ei.cell 3 _ rfl; have c4 := H0.out.ei.cell 4 _ rfl; have cp := H0.out.f.pc); rw [HO.out] at c0; go_upto_region 2 with fail; have hnx : (pc + 4) % 4294967296 = nx pc := (by unfold nx; rfl); rw [hnx]; clear hnx)
  go_wp2_with (first | (go_at_call 65; refine (Csr.rleave_any e cr id _ H0.out.k HS.out).mono ?_; rintro x W2 ⟨rfl, hf, hu⟩; have H2 := Lib.hid (H0.out.toK hf hu); clear hf hu; rw [← HTT.out]) | (go_at_call 33; refine (rdone_any (t) _ H2.out.f).mono ?_; rintro x W3 ⟨rfl, hf, hu⟩; have H3 := Lib.hid (H2.out.toF hf hu); clear hf hu) | (refine wpList_store_block rfl 32 (.tmp 8) (.tmp 48) rfl q 32 _ _ rfl rfl (H3.out).eg (by rw [info_eff]; rfl) rfl (eff_all 0 t 0 0 false 0 0 0 0) ?_))
  (refine bodyPost_ret (v := .agg (doneL t).toArray) ?_ rfl ⟨rfl, (H3.out).row _⟩; exact results_cell_row rfl _ _ q _ _ (0, 0) _ rfl (setRow_heap _ _ _ _ _ _ (H3.out).eg) Tryz.underlying32 rfl (by rw [info_eff]; rfl))
theorem sys_37 (hs : Csr.StOk cr) (ho : i.op = 37) (W : World) (h1 : Regs.RefAt W g r pc) (h2 : Csr.RefC W e cr id) : SysC i g e id (toldO (Csr.readV cr id i.n i.clk) (nx pc) r cr i) W := by
  have HS := Lib.hid hs
  clear hs
  obtain ⟨t, ht⟩ : ∃ t, t = Csr.readV cr id i.n i.clk := ⟨_, rfl⟩
  rw [← ht]
  have HTT := Lib.hid ht
  clear ht
  (unfold SysC; have HO := Lib.hid ho; clear ho; (have h0 := RX.new (i := i) h1 h2; go_enter Tryz.func36, Tryz.ntmps36; go_upto_region 1 with fail; generalize (W.alloc (.cells #[.int .i64 (i.op), .int .i64 (i.d), .int .i64 (i.a), .int .i64 (i.b), .int .i64 (i.n)] 37)).alloc (.cells #[.int .i64 0, .int .u32 0, .int .u32 0, .int .i64 0, .bool false, .int .i64 0, .int .u32 0, .int .u32 0, .int .u32 0] 32) = W1 at h0 ⊢; generalize W.heap.size + 1 = q at h0 ⊢; generalize W.heap.size = m at h0 ⊢; have H0 := Lib.hid h0; clear h0 h1 h2); (have c0 := H0.out.ei.cell 0 _ rfl; have c1 := H0.out.ei.cell 1 _ rfl; have c2 := H0.out.ei.cell 2 _ rfl; have c3 := H0.out.ei.cell 3 _ rfl; have c4 := H0.out.ei.cell 4 _ rfl; have cp := H0.out.f.pc); rw [HO.out] at c0; go_upto_region 2 with fail; have hnx : (pc + 4) % 4294967296 = nx pc := (by unfold nx; rfl); rw [hnx]; clear hnx)
  go_upto_region 17 with (first | (go_at_call 66; refine (Csr.rread_any i.n i.clk e cr id _ H0.out.k HS.out).mono ?_; rintro x W2 ⟨rfl, rfl⟩; rw [← HTT.out]))
  go_upto_region 18 with (go_at_call 18; refine (Regs.rset_any i.d (t) g r pc _ H0.out.f).mono ?_; rintro x W3 ⟨rfl, hf, hu⟩; have H4 := Lib.hid (H0.out.toF hf hu); clear hf hu)
  go_wp2_with (first | (go_at_call 33; refine (rdone_any (nx pc) _ H4.out.f).mono ?_; rintro x W5 ⟨rfl, hf, hu⟩; have H5 := Lib.hid (H4.out.toF hf hu); clear hf hu) | (refine wpList_store_block rfl 32 (.tmp 8) (.tmp 66) rfl q 32 _ _ rfl rfl (H5.out).eg (by rw [info_eff]; rfl) rfl (eff_all 0 (nx pc) 0 0 false 0 0 0 0) ?_))
  (refine bodyPost_ret (v := .agg (doneL (nx pc)).toArray) ?_ rfl ⟨rfl, (H5.out).row _⟩; exact results_cell_row rfl _ _ q _ _ (0, 0) _ rfl (setRow_heap _ _ _ _ _ _ (H5.out).eg) Tryz.underlying32 rfl (by rw [info_eff]; rfl))
theorem sys_38 (hs : Csr.StOk cr) (ho : i.op = 38) (W : World) (h1 : Regs.RefAt W g r pc) (h2 : Csr.RefC W e cr id) : SysC i g e id (if Csr.putE cr i.n = 0 then ⟨doneL (nx pc), 0, r, nx pc, Csr.putC cr i.n (Regs.getV r i.a)⟩ else ⟨trapL 1 (wordV i), 0, r, pc, Csr.putC cr i.n (Regs.getV r i.a)⟩) W := by
  have HS := Lib.hid hs
  clear hs
  obtain ⟨e1, he1⟩ : ∃ x, x = Csr.putE cr i.n := ⟨_, rfl⟩
  rw [← he1]
  have HE := Lib.hid he1
  obtain ⟨c1', hc1⟩ : ∃ x, x = Csr.putC cr i.n (Regs.getV r i.a) := ⟨_, rfl⟩
  rw [← hc1]
  have HC := Lib.hid hc1
  obtain ⟨wv, hwv⟩ : ∃ x, x = wordV i := ⟨_, rfl⟩
  rw [← hwv]
  have WORD : Hid (∀ W, Calls Tryz.prog 11 #[(.agg #[.int .i64 (i.op), .int .i64 (i.d), .int .i64 (i.a), .int .i64 (i.b), .int .i64 (i.n)])] W fun e W' => e = .returned (.int .u32 wv) ∧ Below W.heap.size W W') := fun W => by rw [hwv]; exact rword_any i W
  clear he1 hc1 hwv
  by_cases h0 : e1 = 0
  · rw [if_pos h0]
    have d0 : (e1 != 0) = false := by simp [h0]
    clear h0
    (unfold SysC; have HO := Lib.hid ho; clear ho; (have h0 := RX.new (i := i) h1 h2; go_enter Tryz.func36, Tryz.ntmps36; go_upto_region 1 with fail; generalize (W.alloc (.cells #[.int .i64 (i.op), .int .i64 (i.d), .int .i64 (i.a), .int .i64 (i.b), .int .i64 (i.n)] 37)).alloc (.cells #[.int .i64 0, .int .u32 0, .int .u32 0, .int .i64 0, .bool false, .int .i64 0, .int .u32 0, .int .u32 0, .int .u32 0] 32) = W1 at h0 ⊢; generalize W.heap.size + 1 = q at h0 ⊢; generalize W.heap.size = m at h0 ⊢; have H0 := Lib.hid h0; clear h0 h1 h2); (have c0 := H0.out.ei.cell 0 _ rfl; have c1 := H0.out.ei.cell 1 _ rfl; have c2 := H0.out.ei.cell 2 _ rfl; have c3 := H0.out.ei.cell 3 _ rfl; have c4 := H0.out.ei.cell 4 _ rfl; have cp := H0.out.f.pc); rw [HO.out] at c0; go_upto_region 2 with fail; have hnx : (pc + 4) % 4294967296 = nx pc := (by unfold nx; rfl); rw [hnx]; clear hnx)
    (go_upto_region 20 with (go_at_call 60; refine (Regs.rget_any i.a g r pc _ H0.out.f).mono ?_; rintro x Wr ⟨rfl, rfl⟩))
    go_wp2_with (first | (go_at_call 20; refine (Csr.rwrite_any i.n (Regs.getV r i.a) e cr id _ H0.out.k HS.out).mono ?_; rintro x W2 ⟨rfl, hf, hu⟩; rw [← HE.out]; rw [← HC.out] at hf; have H2 := Lib.hid (H0.out.toK hf hu); clear hf hu) | (go_at_call 33; refine (rdone_any (nx pc) _ H2.out.f).mono ?_; rintro x W3 ⟨rfl, hf, hu⟩; have H3 := Lib.hid (H2.out.toF hf hu); clear hf hu) | (refine wpList_store_block rfl 32 (.tmp 8) (.tmp 85) rfl q 32 _ _ rfl rfl (H3.out).eg (by rw [info_eff]; rfl) rfl (eff_all 0 (nx pc) 0 0 false 0 0 0 0) ?_))
    (refine bodyPost_ret (v := .agg (doneL (nx pc)).toArray) ?_ rfl ⟨rfl, (H3.out).row _⟩; exact results_cell_row rfl _ _ q _ _ (0, 0) _ rfl (setRow_heap _ _ _ _ _ _ (H3.out).eg) Tryz.underlying32 rfl (by rw [info_eff]; rfl))
  · rw [if_neg h0]
    have d0 : (e1 != 0) = true := by simp [h0]
    clear h0
    (unfold SysC; have HO := Lib.hid ho; clear ho; (have h0 := RX.new (i := i) h1 h2; go_enter Tryz.func36, Tryz.ntmps36; go_upto_region 1 with fail; generalize (W.alloc (.cells #[.int .i64 (i.op), .int .i64 (i.d), .int .i64 (i.a), .int .i64 (i.b), .int .i64 (i.n)] 37)).alloc (.cells #[.int .i64 0, .int .u32 0, .int .u32 0, .int .i64 0, .bool false, .int .i64 0, .int .u32 0, .int .u32 0, .int .u32 0] 32) = W1 at h0 ⊢; generalize W.heap.size + 1 = q at h0 ⊢; generalize W.heap.size = m at h0 ⊢; have H0 := Lib.hid h0; clear h0 h1 h2); (have c0 := H0.out.ei.cell 0 _ rfl; have c1 := H0.out.ei.cell 1 _ rfl; have c2 := H0.out.ei.cell 2 _ rfl; have c3 := H0.out.ei.cell 3 _ rfl; have c4 := H0.out.ei.cell 4 _ rfl; have cp := H0.out.f.pc); rw [HO.out] at c0; go_upto_region 2 with fail; have hnx : (pc + 4) % 4294967296 = nx pc := (by unfold nx; rfl); rw [hnx]; clear hnx)
    (go_upto_region 20 with (go_at_call 60; refine (Regs.rget_any i.a g r pc _ H0.out.f).mono ?_; rintro x Wr ⟨rfl, rfl⟩))
    go_upto_region 21 with (first | (go_at_call 20; refine (Csr.rwrite_any i.n (Regs.getV r i.a) e cr id _ H0.out.k HS.out).mono ?_; rintro x W2 ⟨rfl, hf, hu⟩; rw [← HE.out]; rw [← HC.out] at hf; have H2 := Lib.hid (H0.out.toK hf hu); clear hf hu))
    clear c0 c1 c2 c3 c4 cp
    (have c0 := H2.out.ei.cell 0 _ rfl; have c1 := H2.out.ei.cell 1 _ rfl; have c2 := H2.out.ei.cell 2 _ rfl; have c3 := H2.out.ei.cell 3 _ rfl; have c4 := H2.out.ei.cell 4 _ rfl; have cp := H2.out.f.pc)
    go_wp2_with (first | (go_at_call 11; refine (WORD.out _).mono ?_; rintro x W3 ⟨rfl, hb⟩; have H4 := Lib.hid (H2.out.below hb); clear hb) | (go_at_call 31; refine (rtrap_any 1 wv _).mono ?_; rintro x W5 ⟨rfl, hb⟩; have H5 := Lib.hid (H4.out.below hb); clear hb) | (refine wpList_store_block rfl 32 (.tmp 8) (.tmp 82) rfl q 32 _ _ rfl rfl (H5.out).eg (by rw [info_eff]; rfl) rfl (eff_all 3 0 0 0 false 0 0 1 wv) ?_))
    (refine bodyPost_ret (v := .agg (trapL 1 wv).toArray) ?_ rfl ⟨rfl, (H5.out).row _⟩; exact results_cell_row rfl _ _ q _ _ (0, 0) _ rfl (setRow_heap _ _ _ _ _ _ (H5.out).eg) Tryz.underlying32 rfl (by rw [info_eff]; rfl))
theorem system_ref (hs : Csr.StOk cr) (h33 : 33 < i.op) (h41 : i.op ≤ 41) (W : World) (h1 : Regs.RefAt W g r pc) (h2 : Csr.RefC W e cr id) : SysC i g e id (sysO r pc cr id i) W := by
  unfold sysO
  by_cases h7 : i.op = 34
  · rw [if_pos h7]; exact sys_34 h7 W h1 h2
  rw [if_neg h7]
  by_cases h8 : i.op = 41
  · rw [if_pos h8]; exact sys_41 h8 W h1 h2
  rw [if_neg h8]
  by_cases h9 : i.op = 36
  · rw [if_pos h9]; exact sys_36 hs h9 W h1 h2
  rw [if_neg h9]
  by_cases h10 : i.op = 37
  · rw [if_pos h10]; exact sys_37 hs h10 W h1 h2
  rw [if_neg h10]
  by_cases h11 : i.op = 38
  · rw [if_pos h11]; exact sys_38 hs h11 W h1 h2
  rw [if_neg h11]
  by_cases h35 : i.op = 35
  · rw [show exitK i.op = 4 from by rw [h35]; rfl]; exact sys_35 h35 W h1 h2
  by_cases h40 : i.op = 40
  · rw [show exitK i.op = 5 from by rw [h40]; rfl]; exact sys_40 h40 W h1 h2
  have h39 : i.op = 39 := by omega
  rw [show exitK i.op = 6 from by rw [h39]; rfl]; exact sys_39 h39 W h1 h2
end Go.Proofs.YtiohfdhmkikckaaGreatDoor
