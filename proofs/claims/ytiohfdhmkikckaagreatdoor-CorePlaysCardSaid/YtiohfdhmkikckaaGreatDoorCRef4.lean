/- Chapter 13's reference: Exec. -/
import Derived.Test.YtiohfdhmkikckaaGreatDoorCRef3
import Derived.Test.YtiohfdhmkikckaaGreatDoorCLaw
namespace Go.Proofs.YtiohfdhmkikckaaGreatDoor
set_option linter.unusedVariables false
set_option linter.unusedSimpArgs false
set_option linter.unnecessarySimpa false
open Go.RowKit
set_option maxHeartbeats 4000000
set_option maxRecDepth 100000
set_option linter.unusedVariables false
variable {W W' W0 : World} {i : In} {g e q m : Nat} {r r' : List Int} {pc pc' : Int} {cr cr' : List Int} {id : Int} {cs : List Value}
def RXPost (g e : Nat) (id : Int) (o : Out) (W : World) (x : Ending) (W' : World) : Prop :=
  x = .returned (.tuple #[.agg o.ef.toArray, .int .i64 o.er]) ∧ Regs.RefAt W' g o.r o.pc ∧ Csr.RefC W' e o.cr id ∧ Mod [g, e] W W'
def RXC (i : In) (g e : Nat) (id : Int) (o : Out) (W : World) : Prop := Calls Tryz.prog 6 #[(.agg #[.int .i64 (i.op), .int .i64 (i.d), .int .i64 (i.a), .int .i64 (i.b), .int .i64 (i.n)]), .pointer (some ⟨g, 0, none⟩), .pointer (some ⟨e, 0, none⟩), .int .i64 i.clk] W (RXPost g e id o W)
theorem run_rec (h1 : 1 ≤ i.op) (h2 : i.op ≤ 22) : recB i = true ∧ runO r pc cr id i = toldO (recV r i) (nx pc) r cr i := by
  unfold recB recV runO
  by_cases h3 : i.op ≤ 13
  · have hp : Alu.plB i.op = false := by simp only [Alu.plB, Bool.and_eq_false_iff, decide_eq_false_iff_not]; omega
    have n22 : ¬ i.op = 22 := by omega
    have hd : Alu.doE i.op = 0 := by rw [Alu.doE, if_pos ⟨h1, h3⟩]
    simp only [n22, h3, hp, hd, if_true, if_false, Bool.false_eq_true, beq_self_eq_true, and_self]
  · by_cases h4 : i.op ≤ 21
    · have hp : Alu.plB i.op = true := by simp only [Alu.plB, Bool.and_eq_true, decide_eq_true_eq]; omega
      have n22 : ¬ i.op = 22 := by omega
      simp only [n22, h3, h4, hp, if_true, if_false, and_self]
    · rw [if_neg h3, if_neg h4, if_pos (by omega), if_pos (by omega), if_pos (by omega)]
      exact ⟨rfl, rfl⟩
theorem rec_not (h : 22 < i.op) : recB i = false := by
  have hp : Alu.plB i.op = false := by simp only [Alu.plB, Bool.and_eq_false_iff, decide_eq_false_iff_not]; omega
  unfold recB
  rw [if_neg (by omega), hp, if_neg (by simp), Alu.doE, if_neg (by omega)]
  rfl
theorem run_sys (h : 33 < i.op) : runO r pc cr id i = sysO r pc cr id i := by
  unfold runO sysO
  rw [if_neg (by omega), if_neg (by omega), if_neg (by omega), if_neg (by omega), if_neg (by omega), if_neg (by omega)]
theorem kern_low (h : i.op ≤ 34) : Isa.kernB i.op = false := by
  simp only [Isa.kernB, Bool.or_eq_false_iff, beq_eq_false_iff_ne]; omega
theorem ex_bad (hv : Isa.validB i.op i.d i.a i.b i.n = false) (W : World) (h1 : Regs.RefAt W g r pc) (h2 : Csr.RefC W e cr id) : RXC i g e id ⟨eff0, 6, r, pc, cr⟩ W := by
  unfold RXC
  (have VAL : Hid (∀ W, Calls Tryz.prog 28 #[(.agg #[.int .i64 (i.op), .int .i64 (i.d), .int .i64 (i.a), .int .i64 (i.b), .int .i64 (i.n)])] W fun e w' => e = .returned (.bool false) ∧ Below W.heap.size W w') := (fun W => by have := Isa.Valid_ref i.op i.d i.a i.b i.n W; rw [hv] at this; exact this); clear hv)
  (have h0 := RX.new (i := i) h1 h2; go_enter Tryz.func6, Tryz.ntmps6; go_upto_region 1 with fail; generalize (W.alloc (.cells #[.int .i64 (i.op), .int .i64 (i.d), .int .i64 (i.a), .int .i64 (i.b), .int .i64 (i.n)] 37)).alloc (.cells #[.int .i64 0, .int .u32 0, .int .u32 0, .int .i64 0, .bool false, .int .i64 0, .int .u32 0, .int .u32 0, .int .u32 0] 32) = W1 at h0 ⊢; generalize W.heap.size + 1 = q at h0 ⊢; generalize W.heap.size = m at h0 ⊢; have H0 := Lib.hid h0; clear h0 h1 h2)
  (have c0 := H0.out.ei.cell 0 _ rfl; have c1 := H0.out.ei.cell 1 _ rfl; have c2 := H0.out.ei.cell 2 _ rfl; have c3 := H0.out.ei.cell 3 _ rfl; have c4 := H0.out.ei.cell 4 _ rfl; have cp := H0.out.f.pc)
  go_wp2_with (first | (go_at_call 28; refine (VAL.out _).mono ?_; rintro x W2 ⟨rfl, hb⟩; have H2 := Lib.hid (H0.out.below hb); clear hb) | (refine wpList_store_block rfl 32 (.tmp 8) (.tmp 15) rfl q 32 _ _ rfl rfl (H2.out).eg (by rw [info_eff]; rfl) rfl (eff_all 0 0 0 0 false 0 0 0 0) ?_))
  (refine bodyPost_ret (v := .tuple #[.agg (eff0).toArray, .int .i64 6]) ?_ rfl ⟨rfl, (H2.out).row _⟩; exact results_row_tmp rfl _ _ q _ _ (0, 0) _ rfl (setRow_heap _ _ _ _ _ _ (H2.out).eg) Tryz.underlying32 rfl (by rw [info_eff]; rfl) _ rfl)
theorem ex_priv (hs : Csr.StOk cr) (hv : Isa.validB i.op i.d i.a i.b i.n = true) (hk : Isa.kernB i.op = true) (hu : (!Csr.hasB (cr.getD 5 0) 4) = true) (W : World) (h1 : Regs.RefAt W g r pc) (h2 : Csr.RefC W e cr id) : RXC i g e id ⟨trapL 7 (wordV i), 0, r, pc, cr⟩ W := by
  unfold RXC
  obtain ⟨mx, my, hmode⟩ : ∃ x y, Csr.modeC cr = #[.bool x, .int .i64 y, .bool true] := ⟨_, _, by rw [Csr.modeC, hu]⟩
  have HM := Lib.hid hmode
  have HS := Lib.hid hs
  obtain ⟨wv, hwv⟩ : ∃ x, x = wordV i := ⟨_, rfl⟩
  rw [← hwv]
  have WORD : Hid (∀ W, Calls Tryz.prog 11 #[(.agg #[.int .i64 (i.op), .int .i64 (i.d), .int .i64 (i.a), .int .i64 (i.b), .int .i64 (i.n)])] W fun e W' => e = .returned (.int .u32 wv) ∧ Below W.heap.size W W') := fun W => by rw [hwv]; exact rword_any i W
  (have VAL : Hid (∀ W, Calls Tryz.prog 28 #[(.agg #[.int .i64 (i.op), .int .i64 (i.d), .int .i64 (i.a), .int .i64 (i.b), .int .i64 (i.n)])] W fun e w' => e = .returned (.bool true) ∧ Below W.heap.size W w') := (fun W => by have := Isa.Valid_ref i.op i.d i.a i.b i.n W; rw [hv] at this; exact this); clear hv)
  (have KER : Hid (∀ W, Calls Tryz.prog 29 #[.int .i64 i.op] W fun e w' => e = .returned (.bool true) ∧ W = w') := (fun W => by have := Isa.kernel_ref i.op W; rw [hk] at this; exact this); clear hk)
  clear hwv hmode hs hu
  (have h0 := RX.new (i := i) h1 h2; go_enter Tryz.func6, Tryz.ntmps6; go_upto_region 1 with fail; generalize (W.alloc (.cells #[.int .i64 (i.op), .int .i64 (i.d), .int .i64 (i.a), .int .i64 (i.b), .int .i64 (i.n)] 37)).alloc (.cells #[.int .i64 0, .int .u32 0, .int .u32 0, .int .i64 0, .bool false, .int .i64 0, .int .u32 0, .int .u32 0, .int .u32 0] 32) = W1 at h0 ⊢; generalize W.heap.size + 1 = q at h0 ⊢; generalize W.heap.size = m at h0 ⊢; have H0 := Lib.hid h0; clear h0 h1 h2)
  (have c0 := H0.out.ei.cell 0 _ rfl; have c1 := H0.out.ei.cell 1 _ rfl; have c2 := H0.out.ei.cell 2 _ rfl; have c3 := H0.out.ei.cell 3 _ rfl; have c4 := H0.out.ei.cell 4 _ rfl; have cp := H0.out.f.pc)
  go_upto_region 3 with (go_at_call 28; refine (VAL.out _).mono ?_; rintro x W2 ⟨rfl, hb⟩; have H2 := Lib.hid (H0.out.below hb); clear hb)
  clear c0 c1 c2 c3 c4 cp
  (have c0 := H2.out.ei.cell 0 _ rfl; have c1 := H2.out.ei.cell 1 _ rfl; have c2 := H2.out.ei.cell 2 _ rfl; have c3 := H2.out.ei.cell 3 _ rfl; have c4 := H2.out.ei.cell 4 _ rfl; have cp := H2.out.f.pc)
  have hfl := Csr.fldM2 mx my true
  go_upto_region 4 with (first | (go_at_call 29; refine (KER.out _).mono ?_; rintro x Wk ⟨rfl, rfl⟩) | (go_at_call 30; refine (Csr.rmode_any e cr id _ H2.out.k HS.out).mono ?_; rintro x W3 ⟨rfl, hb⟩; rw [HM.out]; have H3 := Lib.hid (H2.out.below hb); clear hb))
  clear c0 c1 c2 c3 c4 cp hfl
  (have c0 := H3.out.ei.cell 0 _ rfl; have c1 := H3.out.ei.cell 1 _ rfl; have c2 := H3.out.ei.cell 2 _ rfl; have c3 := H3.out.ei.cell 3 _ rfl; have c4 := H3.out.ei.cell 4 _ rfl; have cp := H3.out.f.pc)
  go_wp2_with (first | (go_at_call 11; refine (WORD.out _).mono ?_; rintro x W4 ⟨rfl, hb⟩; have H4 := Lib.hid (H3.out.below hb); clear hb) | (go_at_call 31; refine (rtrap_any 7 wv _).mono ?_; rintro x W5 ⟨rfl, hb⟩; have H5 := Lib.hid (H4.out.below hb); clear hb) | (refine wpList_store_block rfl 32 (.tmp 8) (.tmp 26) rfl q 32 _ _ rfl rfl (H5.out).eg (by rw [info_eff]; rfl) rfl (eff_all 3 0 0 0 false 0 0 7 wv) ?_))
  (refine bodyPost_ret (v := .tuple #[.agg (trapL 7 wv).toArray, .int .i64 0]) ?_ rfl ⟨rfl, (H5.out).row _⟩; exact results_row_tmp rfl _ _ q _ _ (0, 0) _ rfl (setRow_heap _ _ _ _ _ _ (H5.out).eg) Tryz.underlying32 rfl (by rw [info_eff]; rfl) _ rfl)
theorem ex_told (hr : ROk r) (hv : Isa.validB i.op i.d i.a i.b i.n = true) (h22 : i.op ≤ 22) (W : World) (h1 : Regs.RefAt W g r pc) (h2 : Csr.RefC W e cr id) : RXC i g e id (toldO (recV r i) (nx pc) r cr i) W := by
  unfold RXC
  have hk := kern_low (i := i) (by omega)
  have hb := (run_rec (r := r) (pc := pc) (cr := cr) (id := id) (Isa.validB_bounds hv).1.1 h22).1
  obtain ⟨v, hv'⟩ : ∃ v, v = recV r i := ⟨_, rfl⟩
  rw [← hv']
  have REC : Hid (∀ W, Regs.RefAt W g r pc → Calls Tryz.prog 32 #[(.agg #[.int .i64 (i.op), .int .i64 (i.d), .int .i64 (i.a), .int .i64 (i.b), .int .i64 (i.n)]), .pointer (some ⟨g, 0, none⟩)] W fun x W' => x = .returned (.tuple #[.int .u32 v, .bool true]) ∧ Below W.heap.size W W') := fun W h => by have := reckon_any (i := i) hr W h; rw [hb, ← hv'] at this; exact this
  (have VAL : Hid (∀ W, Calls Tryz.prog 28 #[(.agg #[.int .i64 (i.op), .int .i64 (i.d), .int .i64 (i.a), .int .i64 (i.b), .int .i64 (i.n)])] W fun e w' => e = .returned (.bool true) ∧ Below W.heap.size W w') := (fun W => by have := Isa.Valid_ref i.op i.d i.a i.b i.n W; rw [hv] at this; exact this); clear hv)
  (have KER : Hid (∀ W, Calls Tryz.prog 29 #[.int .i64 i.op] W fun e w' => e = .returned (.bool false) ∧ W = w') := (fun W => by have := Isa.kernel_ref i.op W; rw [hk] at this; exact this); clear hk)
  clear hb hv' hr h22
  ((have h0 := RX.new (i := i) h1 h2; go_enter Tryz.func6, Tryz.ntmps6; go_upto_region 1 with fail; generalize (W.alloc (.cells #[.int .i64 (i.op), .int .i64 (i.d), .int .i64 (i.a), .int .i64 (i.b), .int .i64 (i.n)] 37)).alloc (.cells #[.int .i64 0, .int .u32 0, .int .u32 0, .int .i64 0, .bool false, .int .i64 0, .int .u32 0, .int .u32 0, .int .u32 0] 32) = W1 at h0 ⊢; generalize W.heap.size + 1 = q at h0 ⊢; generalize W.heap.size = m at h0 ⊢; have H0 := Lib.hid h0; clear h0 h1 h2); (have c0 := H0.out.ei.cell 0 _ rfl; have c1 := H0.out.ei.cell 1 _ rfl; have c2 := H0.out.ei.cell 2 _ rfl; have c3 := H0.out.ei.cell 3 _ rfl; have c4 := H0.out.ei.cell 4 _ rfl; have cp := H0.out.f.pc); go_upto_region 3 with (go_at_call 28; refine (VAL.out _).mono ?_; rintro x W2 ⟨rfl, hb⟩; have H2 := Lib.hid (H0.out.below hb); clear hb); clear c0 c1 c2 c3 c4 cp; (have c0 := H2.out.ei.cell 0 _ rfl; have c1 := H2.out.ei.cell 1 _ rfl; have c2 := H2.out.ei.cell 2 _ rfl; have c3 := H2.out.ei.cell 3 _ rfl; have c4 := H2.out.ei.cell 4 _ rfl; have cp := H2.out.f.pc); go_upto_region 5 with (go_at_call 29; refine (KER.out _).mono ?_; rintro x Wk ⟨rfl, rfl⟩); go_upto_region 6 with (go_at_call 32; refine (REC.out _ H2.out.f).mono ?_; rintro x W3 ⟨rfl, hb⟩; have H3 := Lib.hid (H2.out.below hb); clear hb); clear c0 c1 c2 c3 c4 cp; (have c0 := H3.out.ei.cell 0 _ rfl; have c1 := H3.out.ei.cell 1 _ rfl; have c2 := H3.out.ei.cell 2 _ rfl; have c3 := H3.out.ei.cell 3 _ rfl; have c4 := H3.out.ei.cell 4 _ rfl; have cp := H3.out.f.pc))
  go_upto_region 8 with (go_at_call 18; refine (Regs.rset_any i.d v g r pc _ H3.out.f).mono ?_; rintro x W4 ⟨rfl, hf, hu⟩; have H4 := Lib.hid (H3.out.toF hf hu); clear hf hu)
  clear c0 c1 c2 c3 c4 cp
  (have c0 := H4.out.ei.cell 0 _ rfl; have c1 := H4.out.ei.cell 1 _ rfl; have c2 := H4.out.ei.cell 2 _ rfl; have c3 := H4.out.ei.cell 3 _ rfl; have c4 := H4.out.ei.cell 4 _ rfl; have cp := H4.out.f.pc)
  have hnx : (pc + 4) % 4294967296 = nx pc := by unfold nx; rfl
  go_wp2_with (first | (go_at_call 33; rw [hnx]; refine (rdone_any (nx pc) _ H4.out.f).mono ?_; rintro x W5 ⟨rfl, hf, hu⟩; have H5 := Lib.hid (H4.out.toF hf hu); clear hf hu) | (refine wpList_store_block rfl 32 (.tmp 8) (.tmp 45) rfl q 32 _ _ rfl rfl (H5.out).eg (by rw [info_eff]; rfl) rfl (eff_all 0 (nx pc) 0 0 false 0 0 0 0) ?_))
  (refine bodyPost_ret (v := .tuple #[.agg (doneL (nx pc)).toArray, .int .i64 0]) ?_ rfl ⟨rfl, (H5.out).row _⟩; exact results_row_tmp rfl _ _ q _ _ (0, 0) _ rfl (setRow_heap _ _ _ _ _ _ (H5.out).eg) Tryz.underlying32 rfl (by rw [info_eff]; rfl) _ rfl)
/-- What a part answers goes on as it is. -/
theorem ex_part (f : Nat) (hr : ROk r) (o : Out) (hef : IsEff o.ef) (hv : Isa.validB i.op i.d i.a i.b i.n = true) (hk : Isa.kernB i.op = false) (h22 : 22 < i.op) (h33 : i.op ≤ 33) (her : o.er = 0)
    (hC : i.op ≤ 27 → ∀ W, Regs.RefAt W g r pc → Csr.RefC W e cr id → Calls Tryz.prog 34 #[(.agg #[.int .i64 (i.op), .int .i64 (i.d), .int .i64 (i.a), .int .i64 (i.b), .int .i64 (i.n)]), .pointer (some ⟨g, 0, none⟩)] W (RPost g e id o W))
    (hD : 27 < i.op → ∀ W, Regs.RefAt W g r pc → Csr.RefC W e cr id → Calls Tryz.prog 35 #[(.agg #[.int .i64 (i.op), .int .i64 (i.d), .int .i64 (i.a), .int .i64 (i.b), .int .i64 (i.n)]), .pointer (some ⟨g, 0, none⟩)] W (RPost g e id o W)) (W : World) (h1 : Regs.RefAt W g r pc) (h2 : Csr.RefC W e cr id) : RXC i g e id o W := by
  unfold RXC RXPost
  rw [her]
  obtain ⟨k, p, a, wd, s, d, v', ca, tv, hef'⟩ := hef
  have HEF := Lib.hid hef'
  clear her hef'
  (have hb := rec_not (i := i) (by omega); obtain ⟨v, hv'⟩ : ∃ v, v = recV r i := ⟨_, rfl⟩; have REC : Hid (∀ W, Regs.RefAt W g r pc → Calls Tryz.prog 32 #[(.agg #[.int .i64 (i.op), .int .i64 (i.d), .int .i64 (i.a), .int .i64 (i.b), .int .i64 (i.n)]), .pointer (some ⟨g, 0, none⟩)] W fun x W' => x = .returned (.tuple #[.int .u32 v, .bool false]) ∧ Below W.heap.size W W') := (fun W h => by have := reckon_any (i := i) hr W h; rw [hb, ← hv'] at this; exact this); clear hb hv')
  (have VAL : Hid (∀ W, Calls Tryz.prog 28 #[(.agg #[.int .i64 (i.op), .int .i64 (i.d), .int .i64 (i.a), .int .i64 (i.b), .int .i64 (i.n)])] W fun e w' => e = .returned (.bool true) ∧ Below W.heap.size W w') := (fun W => by have := Isa.Valid_ref i.op i.d i.a i.b i.n W; rw [hv] at this; exact this); clear hv)
  (have KER : Hid (∀ W, Calls Tryz.prog 29 #[.int .i64 i.op] W fun e w' => e = .returned (.bool false) ∧ W = w') := (fun W => by have := Isa.kernel_ref i.op W; rw [hk] at this; exact this); clear hk)
  have d23 : decide (i.op ≥ 23) = true := by simp; omega
  by_cases h27 : i.op ≤ 27
  · have d27 : decide (i.op ≤ 27) = true := by simp [h27]
    have HC := Lib.hid (hC h27)
    clear hC hD h27 h22 h33 hr
    ((have h0 := RX.new (i := i) h1 h2; go_enter Tryz.func6, Tryz.ntmps6; go_upto_region 1 with fail; generalize (W.alloc (.cells #[.int .i64 (i.op), .int .i64 (i.d), .int .i64 (i.a), .int .i64 (i.b), .int .i64 (i.n)] 37)).alloc (.cells #[.int .i64 0, .int .u32 0, .int .u32 0, .int .i64 0, .bool false, .int .i64 0, .int .u32 0, .int .u32 0, .int .u32 0] 32) = W1 at h0 ⊢; generalize W.heap.size + 1 = q at h0 ⊢; generalize W.heap.size = m at h0 ⊢; have H0 := Lib.hid h0; clear h0 h1 h2); (have c0 := H0.out.ei.cell 0 _ rfl; have c1 := H0.out.ei.cell 1 _ rfl; have c2 := H0.out.ei.cell 2 _ rfl; have c3 := H0.out.ei.cell 3 _ rfl; have c4 := H0.out.ei.cell 4 _ rfl; have cp := H0.out.f.pc); go_upto_region 3 with (go_at_call 28; refine (VAL.out _).mono ?_; rintro x W2 ⟨rfl, hb⟩; have H2 := Lib.hid (H0.out.below hb); clear hb); clear c0 c1 c2 c3 c4 cp; (have c0 := H2.out.ei.cell 0 _ rfl; have c1 := H2.out.ei.cell 1 _ rfl; have c2 := H2.out.ei.cell 2 _ rfl; have c3 := H2.out.ei.cell 3 _ rfl; have c4 := H2.out.ei.cell 4 _ rfl; have cp := H2.out.f.pc); go_upto_region 5 with (go_at_call 29; refine (KER.out _).mono ?_; rintro x Wk ⟨rfl, rfl⟩); go_upto_region 6 with (go_at_call 32; refine (REC.out _ H2.out.f).mono ?_; rintro x W3 ⟨rfl, hb⟩; have H3 := Lib.hid (H2.out.below hb); clear hb); clear c0 c1 c2 c3 c4 cp; (have c0 := H3.out.ei.cell 0 _ rfl; have c1 := H3.out.ei.cell 1 _ rfl; have c2 := H3.out.ei.cell 2 _ rfl; have c3 := H3.out.ei.cell 3 _ rfl; have c4 := H3.out.ei.cell 4 _ rfl; have cp := H3.out.f.pc))
    go_wp2_with (first | (go_at_call 34; refine (HC.out _ H3.out.f H3.out.k).mono ?_; rintro x W4 ⟨rfl, hf, hk, hm⟩; have H4 := Lib.hid (H3.out.to hf hk hm); clear hf hk hm; rw [HEF.out]) | (refine wpList_store_block rfl 32 (.tmp 8) (.tmp 56) rfl q 32 _ _ rfl rfl (H4.out).eg (by rw [info_eff]; rfl) rfl (eff_all k p a wd s d v' ca tv) ?_))
    rw [HEF.out]
    (refine bodyPost_ret (v := .tuple #[.agg (effL k p a wd s d v' ca tv).toArray, .int .i64 0]) ?_ rfl ⟨rfl, (H4.out).row _⟩; exact results_row_tmp rfl _ _ q _ _ (0, 0) _ rfl (setRow_heap _ _ _ _ _ _ (H4.out).eg) Tryz.underlying32 rfl (by rw [info_eff]; rfl) _ rfl)
  · have d27 : decide (i.op ≤ 27) = false := by simp; omega
    have d28 : decide (i.op ≥ 28) = true := by simp; omega
    have d33 : decide (i.op ≤ 33) = true := by simp [h33]
    have HC := Lib.hid (hD (by omega))
    clear hC hD h27 h22 h33 hr
    ((have h0 := RX.new (i := i) h1 h2; go_enter Tryz.func6, Tryz.ntmps6; go_upto_region 1 with fail; generalize (W.alloc (.cells #[.int .i64 (i.op), .int .i64 (i.d), .int .i64 (i.a), .int .i64 (i.b), .int .i64 (i.n)] 37)).alloc (.cells #[.int .i64 0, .int .u32 0, .int .u32 0, .int .i64 0, .bool false, .int .i64 0, .int .u32 0, .int .u32 0, .int .u32 0] 32) = W1 at h0 ⊢; generalize W.heap.size + 1 = q at h0 ⊢; generalize W.heap.size = m at h0 ⊢; have H0 := Lib.hid h0; clear h0 h1 h2); (have c0 := H0.out.ei.cell 0 _ rfl; have c1 := H0.out.ei.cell 1 _ rfl; have c2 := H0.out.ei.cell 2 _ rfl; have c3 := H0.out.ei.cell 3 _ rfl; have c4 := H0.out.ei.cell 4 _ rfl; have cp := H0.out.f.pc); go_upto_region 3 with (go_at_call 28; refine (VAL.out _).mono ?_; rintro x W2 ⟨rfl, hb⟩; have H2 := Lib.hid (H0.out.below hb); clear hb); clear c0 c1 c2 c3 c4 cp; (have c0 := H2.out.ei.cell 0 _ rfl; have c1 := H2.out.ei.cell 1 _ rfl; have c2 := H2.out.ei.cell 2 _ rfl; have c3 := H2.out.ei.cell 3 _ rfl; have c4 := H2.out.ei.cell 4 _ rfl; have cp := H2.out.f.pc); go_upto_region 5 with (go_at_call 29; refine (KER.out _).mono ?_; rintro x Wk ⟨rfl, rfl⟩); go_upto_region 6 with (go_at_call 32; refine (REC.out _ H2.out.f).mono ?_; rintro x W3 ⟨rfl, hb⟩; have H3 := Lib.hid (H2.out.below hb); clear hb); clear c0 c1 c2 c3 c4 cp; (have c0 := H3.out.ei.cell 0 _ rfl; have c1 := H3.out.ei.cell 1 _ rfl; have c2 := H3.out.ei.cell 2 _ rfl; have c3 := H3.out.ei.cell 3 _ rfl; have c4 := H3.out.ei.cell 4 _ rfl; have cp := H3.out.f.pc))
    go_wp2_with (first | (go_at_call 35; refine (HC.out _ H3.out.f H3.out.k).mono ?_; rintro x W4 ⟨rfl, hf, hk, hm⟩; have H4 := Lib.hid (H3.out.to hf hk hm); clear hf hk hm; rw [HEF.out]) | (refine wpList_store_block rfl 32 (.tmp 8) (.tmp 67) rfl q 32 _ _ rfl rfl (H4.out).eg (by rw [info_eff]; rfl) rfl (eff_all k p a wd s d v' ca tv) ?_))
    rw [HEF.out]
    (refine bodyPost_ret (v := .tuple #[.agg (effL k p a wd s d v' ca tv).toArray, .int .i64 0]) ?_ rfl ⟨rfl, (H4.out).row _⟩; exact results_row_tmp rfl _ _ q _ _ (0, 0) _ rfl (setRow_heap _ _ _ _ _ _ (H4.out).eg) Tryz.underlying32 rfl (by rw [info_eff]; rfl) _ rfl)
theorem ex_sys (hs : Csr.StOk cr) (hr : ROk r) (o : Out) (hef : IsEff o.ef) (hv : Isa.validB i.op i.d i.a i.b i.n = true) (hk : (Isa.kernB i.op && !Csr.hasB (cr.getD 5 0) 4) = false) (h33 : 33 < i.op) (her : o.er = 0)
    (hC : ∀ W, Regs.RefAt W g r pc → Csr.RefC W e cr id → SysC i g e id o W) (W : World) (h1 : Regs.RefAt W g r pc) (h2 : Csr.RefC W e cr id) : RXC i g e id o W := by
  unfold RXC RXPost
  rw [her]
  obtain ⟨k, p, a, wd, s, d, v', ca, tv, hef'⟩ := hef
  have HEF := Lib.hid hef'
  clear her hef'
  (have hb := rec_not (i := i) (by omega); obtain ⟨v, hv'⟩ : ∃ v, v = recV r i := ⟨_, rfl⟩; have REC : Hid (∀ W, Regs.RefAt W g r pc → Calls Tryz.prog 32 #[(.agg #[.int .i64 (i.op), .int .i64 (i.d), .int .i64 (i.a), .int .i64 (i.b), .int .i64 (i.n)]), .pointer (some ⟨g, 0, none⟩)] W fun x W' => x = .returned (.tuple #[.int .u32 v, .bool false]) ∧ Below W.heap.size W W') := (fun W h => by have := reckon_any (i := i) hr W h; rw [hb, ← hv'] at this; exact this); clear hb hv')
  (have VAL : Hid (∀ W, Calls Tryz.prog 28 #[(.agg #[.int .i64 (i.op), .int .i64 (i.d), .int .i64 (i.a), .int .i64 (i.b), .int .i64 (i.n)])] W fun e w' => e = .returned (.bool true) ∧ Below W.heap.size W w') := (fun W => by have := Isa.Valid_ref i.op i.d i.a i.b i.n W; rw [hv] at this; exact this); clear hv)
  have d23 : decide (i.op ≥ 23) = true := by simp; omega
  have d27 : decide (i.op ≤ 27) = false := by simp; omega
  have d28 : decide (i.op ≥ 28) = true := by simp; omega
  have d33 : decide (i.op ≤ 33) = false := by simp; omega
  unfold SysC at hC
  have HC := Lib.hid hC
  obtain ⟨us, hus⟩ : ∃ u, u = !Csr.hasB (cr.getD 5 0) 4 := ⟨_, rfl⟩
  rw [← hus] at hk
  obtain ⟨mx, my, hmode⟩ : ∃ x y, Csr.modeC cr = #[.bool x, .int .i64 y, .bool us] := ⟨_, _, by rw [Csr.modeC, hus]⟩
  have HM := Lib.hid hmode
  have HS := Lib.hid hs
  clear hC hus hmode hs h33 hr
  obtain ⟨ke, hke⟩ : ∃ b, b = Isa.kernB i.op := ⟨_, rfl⟩
  rw [← hke] at hk
  have HK := Lib.hid hk
  replace hk := hke.symm
  (have KER : Hid (∀ W, Calls Tryz.prog 29 #[.int .i64 i.op] W fun e w' => e = .returned (.bool ke) ∧ W = w') := (fun W => by have := Isa.kernel_ref i.op W; rw [hk] at this; exact this); clear hk)
  clear hke
  cases ke with
  | false =>
    clear HK
    ((have h0 := RX.new (i := i) h1 h2; go_enter Tryz.func6, Tryz.ntmps6; go_upto_region 1 with fail; generalize (W.alloc (.cells #[.int .i64 (i.op), .int .i64 (i.d), .int .i64 (i.a), .int .i64 (i.b), .int .i64 (i.n)] 37)).alloc (.cells #[.int .i64 0, .int .u32 0, .int .u32 0, .int .i64 0, .bool false, .int .i64 0, .int .u32 0, .int .u32 0, .int .u32 0] 32) = W1 at h0 ⊢; generalize W.heap.size + 1 = q at h0 ⊢; generalize W.heap.size = m at h0 ⊢; have H0 := Lib.hid h0; clear h0 h1 h2); (have c0 := H0.out.ei.cell 0 _ rfl; have c1 := H0.out.ei.cell 1 _ rfl; have c2 := H0.out.ei.cell 2 _ rfl; have c3 := H0.out.ei.cell 3 _ rfl; have c4 := H0.out.ei.cell 4 _ rfl; have cp := H0.out.f.pc); go_upto_region 3 with (go_at_call 28; refine (VAL.out _).mono ?_; rintro x W2 ⟨rfl, hb⟩; have H2 := Lib.hid (H0.out.below hb); clear hb); clear c0 c1 c2 c3 c4 cp; (have c0 := H2.out.ei.cell 0 _ rfl; have c1 := H2.out.ei.cell 1 _ rfl; have c2 := H2.out.ei.cell 2 _ rfl; have c3 := H2.out.ei.cell 3 _ rfl; have c4 := H2.out.ei.cell 4 _ rfl; have cp := H2.out.f.pc); go_upto_region 5 with (go_at_call 29; refine (KER.out _).mono ?_; rintro x Wk ⟨rfl, rfl⟩); go_upto_region 6 with (go_at_call 32; refine (REC.out _ H2.out.f).mono ?_; rintro x W3 ⟨rfl, hb⟩; have H3 := Lib.hid (H2.out.below hb); clear hb); clear c0 c1 c2 c3 c4 cp; (have c0 := H3.out.ei.cell 0 _ rfl; have c1 := H3.out.ei.cell 1 _ rfl; have c2 := H3.out.ei.cell 2 _ rfl; have c3 := H3.out.ei.cell 3 _ rfl; have c4 := H3.out.ei.cell 4 _ rfl; have cp := H3.out.f.pc))
    go_wp2_with (first | (go_at_call 36; refine (HC.out _ H3.out.f H3.out.k).mono ?_; rintro x W4 ⟨rfl, hf, hk, hm⟩; have H4 := Lib.hid (H3.out.to hf hk hm); clear hf hk hm; rw [HEF.out]) | (refine wpList_store_block rfl 32 (.tmp 8) (.tmp 72) rfl q 32 _ _ rfl rfl (H4.out).eg (by rw [info_eff]; rfl) rfl (eff_all k p a wd s d v' ca tv) ?_))
    rw [HEF.out]
    (refine bodyPost_ret (v := .tuple #[.agg (effL k p a wd s d v' ca tv).toArray, .int .i64 0]) ?_ rfl ⟨rfl, (H4.out).row _⟩; exact results_row_tmp rfl _ _ q _ _ (0, 0) _ rfl (setRow_heap _ _ _ _ _ _ (H4.out).eg) Tryz.underlying32 rfl (by rw [info_eff]; rfl) _ rfl)
  | true =>
    have hu : us = false := by have := HK.out; simpa using this
    subst hu
    clear HK
    (have h0 := RX.new (i := i) h1 h2; go_enter Tryz.func6, Tryz.ntmps6; go_upto_region 1 with fail; generalize (W.alloc (.cells #[.int .i64 (i.op), .int .i64 (i.d), .int .i64 (i.a), .int .i64 (i.b), .int .i64 (i.n)] 37)).alloc (.cells #[.int .i64 0, .int .u32 0, .int .u32 0, .int .i64 0, .bool false, .int .i64 0, .int .u32 0, .int .u32 0, .int .u32 0] 32) = W1 at h0 ⊢; generalize W.heap.size + 1 = q at h0 ⊢; generalize W.heap.size = m at h0 ⊢; have H0 := Lib.hid h0; clear h0 h1 h2)
    (have c0 := H0.out.ei.cell 0 _ rfl; have c1 := H0.out.ei.cell 1 _ rfl; have c2 := H0.out.ei.cell 2 _ rfl; have c3 := H0.out.ei.cell 3 _ rfl; have c4 := H0.out.ei.cell 4 _ rfl; have cp := H0.out.f.pc)
    go_upto_region 3 with (go_at_call 28; refine (VAL.out _).mono ?_; rintro x W2 ⟨rfl, hb⟩; have H2 := Lib.hid (H0.out.below hb); clear hb)
    clear c0 c1 c2 c3 c4 cp
    (have c0 := H2.out.ei.cell 0 _ rfl; have c1 := H2.out.ei.cell 1 _ rfl; have c2 := H2.out.ei.cell 2 _ rfl; have c3 := H2.out.ei.cell 3 _ rfl; have c4 := H2.out.ei.cell 4 _ rfl; have cp := H2.out.f.pc)
    have hfl := Csr.fldM2 mx my false
    go_upto_region 5 with (first | (go_at_call 29; refine (KER.out _).mono ?_; rintro x Wk ⟨rfl, rfl⟩) | (go_at_call 30; refine (Csr.rmode_any e cr id _ H2.out.k HS.out).mono ?_; rintro x W5 ⟨rfl, hb⟩; rw [HM.out]; have H5 := Lib.hid (H2.out.below hb); clear hb))
    clear c0 c1 c2 c3 c4 cp hfl H2
    have H2 := H5
    (have c0 := H2.out.ei.cell 0 _ rfl; have c1 := H2.out.ei.cell 1 _ rfl; have c2 := H2.out.ei.cell 2 _ rfl; have c3 := H2.out.ei.cell 3 _ rfl; have c4 := H2.out.ei.cell 4 _ rfl; have cp := H2.out.f.pc)
    go_upto_region 6 with (go_at_call 32; refine (REC.out _ H2.out.f).mono ?_; rintro x W3 ⟨rfl, hb⟩; have H3 := Lib.hid (H2.out.below hb); clear hb)
    clear c0 c1 c2 c3 c4 cp
    (have c0 := H3.out.ei.cell 0 _ rfl; have c1 := H3.out.ei.cell 1 _ rfl; have c2 := H3.out.ei.cell 2 _ rfl; have c3 := H3.out.ei.cell 3 _ rfl; have c4 := H3.out.ei.cell 4 _ rfl; have cp := H3.out.f.pc)
    go_wp2_with (first | (go_at_call 36; refine (HC.out _ H3.out.f H3.out.k).mono ?_; rintro x W4 ⟨rfl, hf, hk, hm⟩; have H4 := Lib.hid (H3.out.to hf hk hm); clear hf hk hm; rw [HEF.out]) | (refine wpList_store_block rfl 32 (.tmp 8) (.tmp 72) rfl q 32 _ _ rfl rfl (H4.out).eg (by rw [info_eff]; rfl) rfl (eff_all k p a wd s d v' ca tv) ?_))
    rw [HEF.out]
    (refine bodyPost_ret (v := .tuple #[.agg (effL k p a wd s d v' ca tv).toArray, .int .i64 0]) ?_ rfl ⟨rfl, (H4.out).row _⟩; exact results_row_tmp rfl _ _ q _ _ (0, 0) _ rfl (setRow_heap _ _ _ _ _ _ (H4.out).eg) Tryz.underlying32 rfl (by rw [info_eff]; rfl) _ rfl)
theorem rexec_any (hs : Csr.StOk cr) (hr : ROk r) (W : World) (h1 : Regs.RefAt W g r pc) (h2 : Csr.RefC W e cr id) : RXC i g e id (excO r pc cr id i) W := by
  unfold excO
  by_cases hv : Isa.validB i.op i.d i.a i.b i.n = true
  · rw [if_pos hv]
    have hbd := (Isa.validB_bounds hv).1
    by_cases hk : (Isa.kernB i.op && !Csr.hasB (cr.getD 5 0) 4) = true
    · rw [if_pos hk]
      simp only [Bool.and_eq_true] at hk
      exact ex_priv hs hv hk.1 hk.2 W h1 h2
    · rw [if_neg hk]
      by_cases h22 : i.op ≤ 22
      · rw [(run_rec hbd.1 h22).2]; exact ex_told hr hv h22 W h1 h2
      · by_cases h33 : i.op ≤ 33
        · have he := runO_ef r pc cr id i
          refine ex_part 0 hr _ he hv (kern_low (by omega)) (by omega) h33 (runO_er _ _ _ _ _) (fun h27 W h1 h2 => ?_) (fun h27 W h1 h2 => ?_) W h1 h2
          · rw [runO, if_neg (by omega), if_neg (by omega), if_neg (by omega), if_pos h27]
            exact access_any (by omega) h27 W h1 h2
          · rw [runO, if_neg (by omega), if_neg (by omega), if_neg (by omega), if_neg (by omega)]
            by_cases h31 : i.op ≤ 31
            · rw [if_pos h31]; exact jump_br hr (by omega) h31 W h1 h2
            · rw [if_neg h31, if_pos h33]
              by_cases hj : i.op = 33
              · rw [if_pos hj]; exact jump_33 hr hj W h1 h2
              · rw [if_neg hj]; exact jump_32 hr (by omega) W h1 h2
        · have he := runO_ef r pc cr id i
          have he0 := runO_er r pc cr id i
          rw [run_sys (by omega)] at he he0 ⊢
          exact ex_sys hs hr _ he hv (by simpa using hk) (by omega) he0 (fun W h1 h2 => system_ref hs (by omega) hbd.2 W h1 h2) W h1 h2
  · rw [if_neg hv]; exact ex_bad (by simpa using hv) W h1 h2
#print axioms rexec_any
end Go.Proofs.YtiohfdhmkikckaaGreatDoor
