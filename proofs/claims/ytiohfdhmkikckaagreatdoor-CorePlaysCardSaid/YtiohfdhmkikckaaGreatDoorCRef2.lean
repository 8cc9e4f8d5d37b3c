/- Chapter 13's reference: reckoning, loads and stores, jumps. -/
import Derived.Test.YtiohfdhmkikckaaGreatDoorCRef
namespace Go.Proofs.YtiohfdhmkikckaaGreatDoor
set_option linter.unusedVariables false
set_option linter.unusedSimpArgs false
set_option linter.unnecessarySimpa false
open Go.RowKit
set_option maxHeartbeats 4000000
set_option maxRecDepth 100000
set_option linter.unusedVariables false
variable {W W' W0 : World} {i : In} {g e q m : Nat} {r r' : List Int} {pc pc' : Int} {cr cr' : List Int} {id : Int} {cs : List Value}
def recV (r : List Int) (i : In) : Int := if i.op = 22 then Alu.upV i.n else if Alu.plB i.op then Alu.doV (Alu.plV i.op) (Regs.getV r i.a) (i.n % 4294967296) else Alu.doV i.op (Regs.getV r i.a) (Regs.getV r i.b)
def recB (i : In) : Bool := if i.op = 22 then true else if Alu.plB i.op then true else Alu.doE i.op == 0
theorem reckon_any (hr : ROk r) (W : World) (h : Regs.RefAt W g r pc) : Calls Tryz.prog 32 #[(.agg #[.int .i64 (i.op), .int .i64 (i.d), .int .i64 (i.a), .int .i64 (i.b), .int .i64 (i.n)]), .pointer (some ⟨g, 0, none⟩)] W fun x W' => x = .returned (.tuple #[.int .u32 (recV r i), .bool (recB i)]) ∧ Below W.heap.size W W' := by
  have hb : Hid (Below W.heap.size W (W.alloc (.cells #[.int .i64 (i.op), .int .i64 (i.d), .int .i64 (i.a), .int .i64 (i.b), .int .i64 (i.n)] 37))) := (Below.refl _ _).alloc (Nat.le_refl _) _
  have HN : Hid (ObjAt (W.alloc (.cells #[.int .i64 (i.op), .int .i64 (i.d), .int .i64 (i.a), .int .i64 (i.b), .int .i64 (i.n)] 37)) W.heap.size 37 (insL i)) := ObjAt.new W _ _
  have HG : Hid (Regs.RefAt (W.alloc (.cells #[.int .i64 (i.op), .int .i64 (i.d), .int .i64 (i.a), .int .i64 (i.b), .int .i64 (i.n)] 37)) g r pc) := h.below hb.out
  have ha := Lib.hid (hr.get i.a); have hbb := Lib.hid (hr.get i.b)
  have hnn : Hid (0 ≤ i.n % 4294967296 ∧ i.n % 4294967296 ≤ 4294967295) := by rw [Hid]; omega
  obtain ⟨va, hva⟩ : ∃ v, v = Regs.getV r i.a := ⟨_, rfl⟩
  obtain ⟨vb, hvb⟩ : ∃ v, v = Regs.getV r i.b := ⟨_, rfl⟩
  have HVA := Lib.hid hva; have HVB := Lib.hid hvb
  rw [← hva] at ha
  rw [← hvb] at hbb
  obtain ⟨v, hv⟩ : ∃ v, v = recV r i := ⟨_, rfl⟩
  obtain ⟨t, ht⟩ : ∃ v, v = recB i := ⟨_, rfl⟩
  rw [← hv, ← ht]
  rw [recV, ← hva, ← hvb] at hv
  rw [recB] at ht
  have hwr : IntKind.u32.wrap i.n = i.n % 4294967296 := IntKind.wrap_u32 _
  clear h hr hva hvb
  go_enter Tryz.func32, Tryz.ntmps32
  go_upto_region 1 with fail
  generalize W.alloc (.cells #[.int .i64 (i.op), .int .i64 (i.d), .int .i64 (i.a), .int .i64 (i.b), .int .i64 (i.n)] 37) = W1 at hb HN HG ⊢
  have c0 := HN.out.cell 0 _ rfl; have c1 := HN.out.cell 1 _ rfl; have c2 := HN.out.cell 2 _ rfl; have c3 := HN.out.cell 3 _ rfl; have c4 := HN.out.cell 4 _ rfl
  go_upto_region 2 with (go_at_call 60; refine (Regs.rget_any i.a g r pc _ HG.out).mono ?_; rintro x Wr ⟨rfl, rfl⟩; rw [← HVA.out])
  go_upto_region 3 with (go_at_call 60; refine (Regs.rget_any i.b g r pc _ HG.out).mono ?_; rintro x Wr ⟨rfl, rfl⟩; rw [← HVB.out])
  by_cases h22 : i.op = 22
  · rw [if_pos h22] at hv ht
    subst hv ht
    go_wp2_with (first | (go_at_call 61; refine (Alu.rup_any _ _).mono ?_; rintro x Wr ⟨rfl, rfl⟩))
    go_ret2
    exact ⟨rfl, hb.out⟩
  · rw [if_neg h22] at hv ht
    have d22 : (i.op == 22) = false := by simp [h22]
    obtain ⟨pb, hpb⟩ : ∃ z, z = Alu.plB i.op := ⟨_, rfl⟩
    have HPB := Lib.hid hpb
    rw [← hpb] at hv ht
    clear hpb h22
    cases pb with
    | true =>
      rw [if_pos rfl] at hv ht
      subst ht
      have HV := Lib.hid hv
      clear hv
      go_wp2_with (first | (go_at_call 62; refine (Alu.rpl_any _ _).mono ?_; rintro x Wr ⟨rfl, rfl⟩; rw [← HPB.out]) | (go_at_call 63; refine (Alu.rdo_any _ _ _ ha.out hnn.out _).mono ?_; rintro x Wr ⟨rfl, rfl⟩; rw [← HV.out]))
      go_ret2
      exact ⟨rfl, hb.out⟩
    | false =>
      rw [if_neg (by simp)] at hv ht
      have HV := Lib.hid hv
      obtain ⟨de, hde⟩ : ∃ z, z = Alu.doE i.op := ⟨_, rfl⟩
      have HDE := Lib.hid hde
      rw [← hde] at ht
      have HT := Lib.hid ht
      clear hv ht hde
      go_wp2_with (first | (go_at_call 62; refine (Alu.rpl_any _ _).mono ?_; rintro x Wr ⟨rfl, rfl⟩; rw [← HPB.out]) | (go_at_call 63; refine (Alu.rdo_any _ _ _ ha.out hbb.out _).mono ?_; rintro x Wr ⟨rfl, rfl⟩; rw [← HV.out, ← HDE.out]))
      go_ret2
      exact ⟨by rw [HT.out]; rfl, hb.out⟩
theorem acc_23 (qv : Int) (hq : qv = toV r i) (ho : i.op = 23) (h4 : qv % 4 = 0) (W : World) (h1 : Regs.RefAt W g r pc) (h2 : Csr.RefC W e cr id) : Calls Tryz.prog 34 #[(.agg #[.int .i64 (i.op), .int .i64 (i.d), .int .i64 (i.a), .int .i64 (i.b), .int .i64 (i.n)]), .pointer (some ⟨g, 0, none⟩)] W (RPost g e id ⟨effL 1 (nx pc) qv 4 false i.d 0 0 0, 0, r, pc, cr⟩ W) := by
  (have HQ := Lib.hid hq; have q0 : 0 ≤ qv := (by rw [hq]; unfold toV; omega); have t4 : qv.tmod 4 = qv % 4 := Int.tmod_eq_emod_of_nonneg q0; have HO := Lib.hid ho; have H4 := Lib.hid h4; clear hq h4 ho; (have h0 := RX.new (i := i) h1 h2; go_enter Tryz.func34, Tryz.ntmps34; go_upto_region 1 with fail; generalize (W.alloc (.cells #[.int .i64 (i.op), .int .i64 (i.d), .int .i64 (i.a), .int .i64 (i.b), .int .i64 (i.n)] 37)).alloc (.cells #[.int .i64 0, .int .u32 0, .int .u32 0, .int .i64 0, .bool false, .int .i64 0, .int .u32 0, .int .u32 0, .int .u32 0] 32) = W1 at h0 ⊢; generalize W.heap.size + 1 = q at h0 ⊢; generalize W.heap.size = m at h0 ⊢; have H0 := Lib.hid h0; clear h0 h1 h2); (have c0 := H0.out.ei.cell 0 _ rfl; have c1 := H0.out.ei.cell 1 _ rfl; have c2 := H0.out.ei.cell 2 _ rfl; have c3 := H0.out.ei.cell 3 _ rfl; have c4 := H0.out.ei.cell 4 _ rfl; have cp := H0.out.f.pc); rw [HO.out] at c0; (have d4 : (qv.tmod 4 != 0) = false := (by rw [t4, H4.out]; rfl)); (go_upto_region 2 with (go_at_call 60; refine (Regs.rget_any i.a g r pc _ H0.out.f).mono ?_; rintro x Wr ⟨rfl, rfl⟩); go_upto_region 3 with (go_at_call 60; refine (Regs.rget_any i.b g r pc _ H0.out.f).mono ?_; rintro x Wr ⟨rfl, rfl⟩)); go_upto_region 4 with fail; have hq' : (Regs.getV r i.a + i.n % 4294967296) % 4294967296 = qv := (by rw [HQ.out]; rfl); rw [hq']; clear hq' q0 t4)
  go_upto_region 12 with fail
  (refine wp_region_still_tail 13 (by kernel_rfl) (by kernel_rfl) ?_; simp only [List.take_succ_cons, List.take_zero, List.drop_succ_cons, List.drop_zero]; obtain ⟨W2, hW⟩ : ∃ x, x = World.drew W1 := ⟨_, rfl⟩; change wpStill _ _ (World.drew W1) (fun a' => wpList _ _ _ _ a' (World.drew W1)) _ _; rw [← hW]; (repeat still_step); refine wpStill_nil ?_; have H2 : Hid (RX W W2 m q i g e r pc cr id) := (by rw [hW]; exact Lib.hid (H0.out.below ((Below.refl _ _).drew))); go_wp2_with (refine wpList_store_block rfl 32 (.tmp 4) (.tmp 77) rfl q 32 _ _ rfl rfl (H2.out).eg (by rw [info_eff]; rfl) rfl (eff_all 1 (nx pc) qv _ _ i.d 0 0 0) ?_))
  (refine bodyPost_ret (v := .agg (effL 1 (nx pc) qv 4 false i.d 0 0 0).toArray) ?_ rfl ⟨rfl, (H2.out).row _⟩; exact results_cell_row rfl _ _ q _ _ (0, 0) _ rfl (setRow_heap _ _ _ _ _ _ (H2.out).eg) Tryz.underlying32 rfl (by rw [info_eff]; rfl))
theorem acc_24 (qv : Int) (hq : qv = toV r i) (ho : i.op = 24) (h4 : qv % 1 = 0) (W : World) (h1 : Regs.RefAt W g r pc) (h2 : Csr.RefC W e cr id) : Calls Tryz.prog 34 #[(.agg #[.int .i64 (i.op), .int .i64 (i.d), .int .i64 (i.a), .int .i64 (i.b), .int .i64 (i.n)]), .pointer (some ⟨g, 0, none⟩)] W (RPost g e id ⟨effL 1 (nx pc) qv 1 true i.d 0 0 0, 0, r, pc, cr⟩ W) := by
  (have HQ := Lib.hid hq; have q0 : 0 ≤ qv := (by rw [hq]; unfold toV; omega); have t4 : qv.tmod 4 = qv % 4 := Int.tmod_eq_emod_of_nonneg q0; have HO := Lib.hid ho; have H4 := Lib.hid h4; clear hq h4 ho; (have h0 := RX.new (i := i) h1 h2; go_enter Tryz.func34, Tryz.ntmps34; go_upto_region 1 with fail; generalize (W.alloc (.cells #[.int .i64 (i.op), .int .i64 (i.d), .int .i64 (i.a), .int .i64 (i.b), .int .i64 (i.n)] 37)).alloc (.cells #[.int .i64 0, .int .u32 0, .int .u32 0, .int .i64 0, .bool false, .int .i64 0, .int .u32 0, .int .u32 0, .int .u32 0] 32) = W1 at h0 ⊢; generalize W.heap.size + 1 = q at h0 ⊢; generalize W.heap.size = m at h0 ⊢; have H0 := Lib.hid h0; clear h0 h1 h2); (have c0 := H0.out.ei.cell 0 _ rfl; have c1 := H0.out.ei.cell 1 _ rfl; have c2 := H0.out.ei.cell 2 _ rfl; have c3 := H0.out.ei.cell 3 _ rfl; have c4 := H0.out.ei.cell 4 _ rfl; have cp := H0.out.f.pc); rw [HO.out] at c0; skip; (go_upto_region 2 with (go_at_call 60; refine (Regs.rget_any i.a g r pc _ H0.out.f).mono ?_; rintro x Wr ⟨rfl, rfl⟩); go_upto_region 3 with (go_at_call 60; refine (Regs.rget_any i.b g r pc _ H0.out.f).mono ?_; rintro x Wr ⟨rfl, rfl⟩)); go_upto_region 4 with fail; have hq' : (Regs.getV r i.a + i.n % 4294967296) % 4294967296 = qv := (by rw [HQ.out]; rfl); rw [hq']; clear hq' q0 t4)
  go_upto_region 12 with fail
  (refine wp_region_still_tail 13 (by kernel_rfl) (by kernel_rfl) ?_; simp only [List.take_succ_cons, List.take_zero, List.drop_succ_cons, List.drop_zero]; obtain ⟨W2, hW⟩ : ∃ x, x = World.drew W1 := ⟨_, rfl⟩; change wpStill _ _ (World.drew W1) (fun a' => wpList _ _ _ _ a' (World.drew W1)) _ _; rw [← hW]; (repeat still_step); refine wpStill_nil ?_; have H2 : Hid (RX W W2 m q i g e r pc cr id) := (by rw [hW]; exact Lib.hid (H0.out.below ((Below.refl _ _).drew))); go_wp2_with (refine wpList_store_block rfl 32 (.tmp 4) (.tmp 77) rfl q 32 _ _ rfl rfl (H2.out).eg (by rw [info_eff]; rfl) rfl (eff_all 1 (nx pc) qv _ _ i.d 0 0 0) ?_))
  (refine bodyPost_ret (v := .agg (effL 1 (nx pc) qv 1 true i.d 0 0 0).toArray) ?_ rfl ⟨rfl, (H2.out).row _⟩; exact results_cell_row rfl _ _ q _ _ (0, 0) _ rfl (setRow_heap _ _ _ _ _ _ (H2.out).eg) Tryz.underlying32 rfl (by rw [info_eff]; rfl))
theorem acc_25 (qv : Int) (hq : qv = toV r i) (ho : i.op = 25) (h4 : qv % 1 = 0) (W : World) (h1 : Regs.RefAt W g r pc) (h2 : Csr.RefC W e cr id) : Calls Tryz.prog 34 #[(.agg #[.int .i64 (i.op), .int .i64 (i.d), .int .i64 (i.a), .int .i64 (i.b), .int .i64 (i.n)]), .pointer (some ⟨g, 0, none⟩)] W (RPost g e id ⟨effL 1 (nx pc) qv 1 false i.d 0 0 0, 0, r, pc, cr⟩ W) := by
  (have HQ := Lib.hid hq; have q0 : 0 ≤ qv := (by rw [hq]; unfold toV; omega); have t4 : qv.tmod 4 = qv % 4 := Int.tmod_eq_emod_of_nonneg q0; have HO := Lib.hid ho; have H4 := Lib.hid h4; clear hq h4 ho; (have h0 := RX.new (i := i) h1 h2; go_enter Tryz.func34, Tryz.ntmps34; go_upto_region 1 with fail; generalize (W.alloc (.cells #[.int .i64 (i.op), .int .i64 (i.d), .int .i64 (i.a), .int .i64 (i.b), .int .i64 (i.n)] 37)).alloc (.cells #[.int .i64 0, .int .u32 0, .int .u32 0, .int .i64 0, .bool false, .int .i64 0, .int .u32 0, .int .u32 0, .int .u32 0] 32) = W1 at h0 ⊢; generalize W.heap.size + 1 = q at h0 ⊢; generalize W.heap.size = m at h0 ⊢; have H0 := Lib.hid h0; clear h0 h1 h2); (have c0 := H0.out.ei.cell 0 _ rfl; have c1 := H0.out.ei.cell 1 _ rfl; have c2 := H0.out.ei.cell 2 _ rfl; have c3 := H0.out.ei.cell 3 _ rfl; have c4 := H0.out.ei.cell 4 _ rfl; have cp := H0.out.f.pc); rw [HO.out] at c0; skip; (go_upto_region 2 with (go_at_call 60; refine (Regs.rget_any i.a g r pc _ H0.out.f).mono ?_; rintro x Wr ⟨rfl, rfl⟩); go_upto_region 3 with (go_at_call 60; refine (Regs.rget_any i.b g r pc _ H0.out.f).mono ?_; rintro x Wr ⟨rfl, rfl⟩)); go_upto_region 4 with fail; have hq' : (Regs.getV r i.a + i.n % 4294967296) % 4294967296 = qv := (by rw [HQ.out]; rfl); rw [hq']; clear hq' q0 t4)
  go_upto_region 12 with fail
  (refine wp_region_still_tail 13 (by kernel_rfl) (by kernel_rfl) ?_; simp only [List.take_succ_cons, List.take_zero, List.drop_succ_cons, List.drop_zero]; obtain ⟨W2, hW⟩ : ∃ x, x = World.drew W1 := ⟨_, rfl⟩; change wpStill _ _ (World.drew W1) (fun a' => wpList _ _ _ _ a' (World.drew W1)) _ _; rw [← hW]; (repeat still_step); refine wpStill_nil ?_; have H2 : Hid (RX W W2 m q i g e r pc cr id) := (by rw [hW]; exact Lib.hid (H0.out.below ((Below.refl _ _).drew))); go_wp2_with (refine wpList_store_block rfl 32 (.tmp 4) (.tmp 77) rfl q 32 _ _ rfl rfl (H2.out).eg (by rw [info_eff]; rfl) rfl (eff_all 1 (nx pc) qv _ _ i.d 0 0 0) ?_))
  (refine bodyPost_ret (v := .agg (effL 1 (nx pc) qv 1 false i.d 0 0 0).toArray) ?_ rfl ⟨rfl, (H2.out).row _⟩; exact results_cell_row rfl _ _ q _ _ (0, 0) _ rfl (setRow_heap _ _ _ _ _ _ (H2.out).eg) Tryz.underlying32 rfl (by rw [info_eff]; rfl))
theorem acc_26 (qv : Int) (hq : qv = toV r i) (ho : i.op = 26) (h4 : qv % 4 = 0) (W : World) (h1 : Regs.RefAt W g r pc) (h2 : Csr.RefC W e cr id) : Calls Tryz.prog 34 #[(.agg #[.int .i64 (i.op), .int .i64 (i.d), .int .i64 (i.a), .int .i64 (i.b), .int .i64 (i.n)]), .pointer (some ⟨g, 0, none⟩)] W (RPost g e id ⟨effL 2 (nx pc) qv 4 false 0 (Regs.getV r i.b) 0 0, 0, r, pc, cr⟩ W) := by
  (have HQ := Lib.hid hq; have q0 : 0 ≤ qv := (by rw [hq]; unfold toV; omega); have t4 : qv.tmod 4 = qv % 4 := Int.tmod_eq_emod_of_nonneg q0; have HO := Lib.hid ho; have H4 := Lib.hid h4; clear hq h4 ho; (have h0 := RX.new (i := i) h1 h2; go_enter Tryz.func34, Tryz.ntmps34; go_upto_region 1 with fail; generalize (W.alloc (.cells #[.int .i64 (i.op), .int .i64 (i.d), .int .i64 (i.a), .int .i64 (i.b), .int .i64 (i.n)] 37)).alloc (.cells #[.int .i64 0, .int .u32 0, .int .u32 0, .int .i64 0, .bool false, .int .i64 0, .int .u32 0, .int .u32 0, .int .u32 0] 32) = W1 at h0 ⊢; generalize W.heap.size + 1 = q at h0 ⊢; generalize W.heap.size = m at h0 ⊢; have H0 := Lib.hid h0; clear h0 h1 h2); (have c0 := H0.out.ei.cell 0 _ rfl; have c1 := H0.out.ei.cell 1 _ rfl; have c2 := H0.out.ei.cell 2 _ rfl; have c3 := H0.out.ei.cell 3 _ rfl; have c4 := H0.out.ei.cell 4 _ rfl; have cp := H0.out.f.pc); rw [HO.out] at c0; (have d4 : (qv.tmod 4 != 0) = false := (by rw [t4, H4.out]; rfl)); (go_upto_region 2 with (go_at_call 60; refine (Regs.rget_any i.a g r pc _ H0.out.f).mono ?_; rintro x Wr ⟨rfl, rfl⟩); go_upto_region 3 with (go_at_call 60; refine (Regs.rget_any i.b g r pc _ H0.out.f).mono ?_; rintro x Wr ⟨rfl, rfl⟩)); go_upto_region 4 with fail; have hq' : (Regs.getV r i.a + i.n % 4294967296) % 4294967296 = qv := (by rw [HQ.out]; rfl); rw [hq']; clear hq' q0 t4)
  go_wp2_with (refine wpList_store_block rfl 32 (.tmp 4) (.tmp 64) rfl q 32 _ _ rfl rfl (H0.out).eg (by rw [info_eff]; rfl) rfl (eff_all 2 (nx pc) qv 4 false 0 (Regs.getV r i.b) 0 0) ?_)
  (refine bodyPost_ret (v := .agg (effL 2 (nx pc) qv 4 false 0 (Regs.getV r i.b) 0 0).toArray) ?_ rfl ⟨rfl, (H0.out).row _⟩; exact results_cell_row rfl _ _ q _ _ (0, 0) _ rfl (setRow_heap _ _ _ _ _ _ (H0.out).eg) Tryz.underlying32 rfl (by rw [info_eff]; rfl))
theorem acc_27 (qv : Int) (hq : qv = toV r i) (ho : i.op = 27) (h4 : qv % 1 = 0) (W : World) (h1 : Regs.RefAt W g r pc) (h2 : Csr.RefC W e cr id) : Calls Tryz.prog 34 #[(.agg #[.int .i64 (i.op), .int .i64 (i.d), .int .i64 (i.a), .int .i64 (i.b), .int .i64 (i.n)]), .pointer (some ⟨g, 0, none⟩)] W (RPost g e id ⟨effL 2 (nx pc) qv 1 false 0 (Regs.getV r i.b) 0 0, 0, r, pc, cr⟩ W) := by
  (have HQ := Lib.hid hq; have q0 : 0 ≤ qv := (by rw [hq]; unfold toV; omega); have t4 : qv.tmod 4 = qv % 4 := Int.tmod_eq_emod_of_nonneg q0; have HO := Lib.hid ho; have H4 := Lib.hid h4; clear hq h4 ho; (have h0 := RX.new (i := i) h1 h2; go_enter Tryz.func34, Tryz.ntmps34; go_upto_region 1 with fail; generalize (W.alloc (.cells #[.int .i64 (i.op), .int .i64 (i.d), .int .i64 (i.a), .int .i64 (i.b), .int .i64 (i.n)] 37)).alloc (.cells #[.int .i64 0, .int .u32 0, .int .u32 0, .int .i64 0, .bool false, .int .i64 0, .int .u32 0, .int .u32 0, .int .u32 0] 32) = W1 at h0 ⊢; generalize W.heap.size + 1 = q at h0 ⊢; generalize W.heap.size = m at h0 ⊢; have H0 := Lib.hid h0; clear h0 h1 h2); (have c0 := H0.out.ei.cell 0 _ rfl; have c1 := H0.out.ei.cell 1 _ rfl; have c2 := H0.out.ei.cell 2 _ rfl; have c3 := H0.out.ei.cell 3 _ rfl; have c4 := H0.out.ei.cell 4 _ rfl; have cp := H0.out.f.pc); rw [HO.out] at c0; skip; (go_upto_region 2 with (go_at_call 60; refine (Regs.rget_any i.a g r pc _ H0.out.f).mono ?_; rintro x Wr ⟨rfl, rfl⟩); go_upto_region 3 with (go_at_call 60; refine (Regs.rget_any i.b g r pc _ H0.out.f).mono ?_; rintro x Wr ⟨rfl, rfl⟩)); go_upto_region 4 with fail; have hq' : (Regs.getV r i.a + i.n % 4294967296) % 4294967296 = qv := (by rw [HQ.out]; rfl); rw [hq']; clear hq' q0 t4)
  go_wp2_with (refine wpList_store_block rfl 32 (.tmp 4) (.tmp 64) rfl q 32 _ _ rfl rfl (H0.out).eg (by rw [info_eff]; rfl) rfl (eff_all 2 (nx pc) qv 1 false 0 (Regs.getV r i.b) 0 0) ?_)
  (refine bodyPost_ret (v := .agg (effL 2 (nx pc) qv 1 false 0 (Regs.getV r i.b) 0 0).toArray) ?_ rfl ⟨rfl, (H0.out).row _⟩; exact results_cell_row rfl _ _ q _ _ (0, 0) _ rfl (setRow_heap _ _ _ _ _ _ (H0.out).eg) Tryz.underlying32 rfl (by rw [info_eff]; rfl))
theorem acc_trap (qv : Int) (hq : qv = toV r i) (hw : wordB i.op = true) (h4 : qv % 4 ≠ 0) (W : World) (h1 : Regs.RefAt W g r pc) (h2 : Csr.RefC W e cr id) : Calls Tryz.prog 34 #[(.agg #[.int .i64 (i.op), .int .i64 (i.d), .int .i64 (i.a), .int .i64 (i.b), .int .i64 (i.n)]), .pointer (some ⟨g, 0, none⟩)] W (RPost g e id ⟨trapL 2 qv, 0, r, pc, cr⟩ W) := by
  by_cases ho : i.op = 23
  · (have HQ := Lib.hid hq; have q0 : 0 ≤ qv := (by rw [hq]; unfold toV; omega); have t4 : qv.tmod 4 = qv % 4 := Int.tmod_eq_emod_of_nonneg q0; have HO := Lib.hid ho; have H4 := Lib.hid h4; clear hq h4 ho; (have h0 := RX.new (i := i) h1 h2; go_enter Tryz.func34, Tryz.ntmps34; go_upto_region 1 with fail; generalize (W.alloc (.cells #[.int .i64 (i.op), .int .i64 (i.d), .int .i64 (i.a), .int .i64 (i.b), .int .i64 (i.n)] 37)).alloc (.cells #[.int .i64 0, .int .u32 0, .int .u32 0, .int .i64 0, .bool false, .int .i64 0, .int .u32 0, .int .u32 0, .int .u32 0] 32) = W1 at h0 ⊢; generalize W.heap.size + 1 = q at h0 ⊢; generalize W.heap.size = m at h0 ⊢; have H0 := Lib.hid h0; clear h0 h1 h2); (have c0 := H0.out.ei.cell 0 _ rfl; have c1 := H0.out.ei.cell 1 _ rfl; have c2 := H0.out.ei.cell 2 _ rfl; have c3 := H0.out.ei.cell 3 _ rfl; have c4 := H0.out.ei.cell 4 _ rfl; have cp := H0.out.f.pc); rw [HO.out] at c0; (have d4 : (qv.tmod 4 != 0) = true := (by rw [t4]; simp [H4.out])); (go_upto_region 2 with (go_at_call 60; refine (Regs.rget_any i.a g r pc _ H0.out.f).mono ?_; rintro x Wr ⟨rfl, rfl⟩); go_upto_region 3 with (go_at_call 60; refine (Regs.rget_any i.b g r pc _ H0.out.f).mono ?_; rintro x Wr ⟨rfl, rfl⟩)); go_upto_region 4 with fail; have hq' : (Regs.getV r i.a + i.n % 4294967296) % 4294967296 = qv := (by rw [HQ.out]; rfl); rw [hq']; clear hq' q0 t4)
    go_wp2_with (first | (go_at_call 31; refine (rtrap_any 2 qv _).mono ?_; rintro x W3 ⟨rfl, hb⟩; have H3 := Lib.hid (H0.out.below hb); clear hb) | (refine wpList_store_block rfl 32 (.tmp 4) (.tmp 46) rfl q 32 _ _ rfl rfl (H3.out).eg (by rw [info_eff]; rfl) rfl (eff_all 3 0 0 0 false 0 0 2 qv) ?_))
    (refine bodyPost_ret (v := .agg (trapL 2 qv).toArray) ?_ rfl ⟨rfl, (H3.out).row _⟩; exact results_cell_row rfl _ _ q _ _ (0, 0) _ rfl (setRow_heap _ _ _ _ _ _ (H3.out).eg) Tryz.underlying32 rfl (by rw [info_eff]; rfl))
  · replace ho : i.op = 26 := by simpa [wordB, ho] using hw
    (have HQ := Lib.hid hq; have q0 : 0 ≤ qv := (by rw [hq]; unfold toV; omega); have t4 : qv.tmod 4 = qv % 4 := Int.tmod_eq_emod_of_nonneg q0; have HO := Lib.hid ho; have H4 := Lib.hid h4; clear hq h4 ho; (have h0 := RX.new (i := i) h1 h2; go_enter Tryz.func34, Tryz.ntmps34; go_upto_region 1 with fail; generalize (W.alloc (.cells #[.int .i64 (i.op), .int .i64 (i.d), .int .i64 (i.a), .int .i64 (i.b), .int .i64 (i.n)] 37)).alloc (.cells #[.int .i64 0, .int .u32 0, .int .u32 0, .int .i64 0, .bool false, .int .i64 0, .int .u32 0, .int .u32 0, .int .u32 0] 32) = W1 at h0 ⊢; generalize W.heap.size + 1 = q at h0 ⊢; generalize W.heap.size = m at h0 ⊢; have H0 := Lib.hid h0; clear h0 h1 h2); (have c0 := H0.out.ei.cell 0 _ rfl; have c1 := H0.out.ei.cell 1 _ rfl; have c2 := H0.out.ei.cell 2 _ rfl; have c3 := H0.out.ei.cell 3 _ rfl; have c4 := H0.out.ei.cell 4 _ rfl; have cp := H0.out.f.pc); rw [HO.out] at c0; (have d4 : (qv.tmod 4 != 0) = true := (by rw [t4]; simp [H4.out])); (go_upto_region 2 with (go_at_call 60; refine (Regs.rget_any i.a g r pc _ H0.out.f).mono ?_; rintro x Wr ⟨rfl, rfl⟩); go_upto_region 3 with (go_at_call 60; refine (Regs.rget_any i.b g r pc _ H0.out.f).mono ?_; rintro x Wr ⟨rfl, rfl⟩)); go_upto_region 4 with fail; have hq' : (Regs.getV r i.a + i.n % 4294967296) % 4294967296 = qv := (by rw [HQ.out]; rfl); rw [hq']; clear hq' q0 t4)
    go_wp2_with (first | (go_at_call 31; refine (rtrap_any 2 qv _).mono ?_; rintro x W3 ⟨rfl, hb⟩; have H3 := Lib.hid (H0.out.below hb); clear hb) | (refine wpList_store_block rfl 32 (.tmp 4) (.tmp 46) rfl q 32 _ _ rfl rfl (H3.out).eg (by rw [info_eff]; rfl) rfl (eff_all 3 0 0 0 false 0 0 2 qv) ?_))
    (refine bodyPost_ret (v := .agg (trapL 2 qv).toArray) ?_ rfl ⟨rfl, (H3.out).row _⟩; exact results_cell_row rfl _ _ q _ _ (0, 0) _ rfl (setRow_heap _ _ _ _ _ _ (H3.out).eg) Tryz.underlying32 rfl (by rw [info_eff]; rfl))
theorem access_any (h0 : 23 ≤ i.op) (h9 : i.op ≤ 27) (W : World) (h1 : Regs.RefAt W g r pc) (h2 : Csr.RefC W e cr id) : Calls Tryz.prog 34 #[(.agg #[.int .i64 (i.op), .int .i64 (i.d), .int .i64 (i.a), .int .i64 (i.b), .int .i64 (i.n)]), .pointer (some ⟨g, 0, none⟩)] W (RPost g e id (memO r pc cr i) W) := by
  unfold memO
  by_cases hw : (wordB i.op && toV r i % 4 != 0) = true
  · rw [if_pos hw]
    simp only [Bool.and_eq_true, bne_iff_ne, ne_eq] at hw
    exact acc_trap _ rfl hw.1 hw.2 W h1 h2
  · rw [if_neg hw]
    have hal : wordB i.op = true → toV r i % 4 = 0 := fun hb => by
      simp only [Bool.and_eq_true, bne_iff_ne, ne_eq, not_and, Decidable.not_not] at hw
      exact hw hb
    have h1' : toV r i % 1 = 0 := by omega
    by_cases h23 : i.op = 23
    · rw [if_pos h23]; exact acc_23 _ rfl h23 (hal (by rw [h23]; rfl)) W h1 h2
    rw [if_neg h23]
    by_cases h24 : i.op = 24
    · rw [if_pos h24]; exact acc_24 _ rfl h24 h1' W h1 h2
    rw [if_neg h24]
    by_cases h25 : i.op = 25
    · rw [if_pos h25]; exact acc_25 _ rfl h25 h1' W h1 h2
    rw [if_neg h25]
    by_cases h26 : i.op = 26
    · rw [if_pos h26]; exact acc_26 _ rfl h26 (hal (by rw [h26]; rfl)) W h1 h2
    rw [if_neg h26]
    exact acc_27 _ rfl (by omega) h1' W h1 h2
end Go.Proofs.YtiohfdhmkikckaaGreatDoor
