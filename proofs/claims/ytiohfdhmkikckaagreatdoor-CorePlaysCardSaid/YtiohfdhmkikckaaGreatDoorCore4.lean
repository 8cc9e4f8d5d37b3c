/- Chapter 13: loads and stores. -/
import Derived.Test.YtiohfdhmkikckaaGreatDoorCore3
namespace Go.Proofs.YtiohfdhmkikckaaGreatDoor
set_option linter.unusedVariables false
set_option linter.unusedSimpArgs false
set_option linter.unnecessarySimpa false
open Go.RowKit
set_option maxHeartbeats 4000000
set_option maxRecDepth 100000
set_option linter.unusedVariables false
variable {W W' W0 : World} {i : In} {p b c g : Nat} {r r' : List Int} {pc pc' : Int} {cr cr' : List Int} {id : Int} {cs : List Value}
theorem mem_trap (q : Int) (hq : q = toV r i) (hw : wordB i.op = true) (h4 : q % 4 ≠ 0) (W : World) (h : ST W i p b c r pc cr id) : Calls Tryz.prog 54 #[.pointer (some ⟨p, 0, none⟩)] W (Post i p b c r pc cr id (trapL 2 q) W) := by
    have hwd : widV i.op = 4 := by rw [widV, hw]; rfl
    have HQ := Lib.hid hq
    have q0 : 0 ≤ q := by rw [hq]; unfold toV; omega
    have t4 : q.tmod 4 = q % 4 := Int.tmod_eq_emod_of_nonneg q0
    have d4 : (q % 4 != 0) = true := by simp [h4]
    clear hq hw
    (have h0 := FR.new h; go_enter Tryz.func54, Tryz.ntmps54; go_upto_region 1 with fail; generalize W.alloc (.cells #[.int .i64 0, .int .u32 0, .int .u32 0, .int .i64 0, .bool false, .int .i64 0, .int .u32 0, .int .u32 0, .int .u32 0] 32) = W1 at h0 ⊢; generalize W.heap.size = g at h0 ⊢; have H0 := Lib.hid h0; clear h h0)
    have H1 := Lib.hid H0.out.drew
    go_region_held3 (fun W' => W'.cell? ⟨p, 0, none⟩ = some (.int .i64 i.op) ∧ W'.cell? ⟨p, 1, none⟩ = some (.int .i64 i.d) ∧ W'.cell? ⟨p, 2, none⟩ = some (.int .i64 i.a) ∧ W'.cell? ⟨p, 3, none⟩ = some (.int .i64 i.b) ∧ W'.cell? ⟨p, 4, none⟩ = some (.int .i64 i.n) ∧ W'.cell? ⟨p, 5, none⟩ = some (.pointer (some ⟨b, 0, none⟩)) ∧ W'.cell? ⟨p, 6, none⟩ = some (.pointer (some ⟨c, 0, none⟩)) ∧ W'.cell? ⟨p, 7, none⟩ = some (.int .i64 i.clk)) (first | exact H1.out.1.s8) (first | (go_at_call 68; refine (reg_any _ _ H1.out.1).mono ?_; rintro e Wr ⟨rfl, rfl⟩) | (go_at_call 73; refine (width_any _ H1.out.1).mono ?_; rintro e Wr ⟨rfl, rfl⟩))
    rw [toV_eq, ← HQ.out]
    try rw [hwd]
    go_wp2_with (first | (go_at_call 26; refine (trap_any 2 q _).mono ?_; rintro e W3 ⟨rfl, hb⟩; have H3 := Lib.hid (H1.out.below hb); clear hb) | (refine wpList_store_block rfl 32 (.tmp 2) (.tmp 28) rfl g 32 _ _ rfl rfl (H3.out).2.1 (by rw [info_eff]; rfl) rfl (eff_all _ _ _ _ _ _ _ _ _) ?_))
    (refine bodyPost_ret (v := .agg ((trapL 2 q)).toArray) ?_ rfl ⟨rfl, (H3.out).row _⟩; exact results_cell_row rfl _ _ g _ _ (0, 0) _ rfl (setRow_heap _ _ _ _ _ _ (H3.out).2.1) Tryz.underlying32 rfl (by rw [info_eff]; rfl))
theorem mem_23 (q : Int) (hq : q = toV r i) (ho : i.op = 23) (h4 : q % 4 = 0) (W : World) (h : ST W i p b c r pc cr id) : Calls Tryz.prog 54 #[.pointer (some ⟨p, 0, none⟩)] W (Post i p b c r pc cr id (effL 1 (nx pc) q 4 false (i.d) (0) 0 0) W) := by
    have hwd : widV i.op = 4 := by rw [ho]; rfl
    have HQ := Lib.hid hq
    have q0 : 0 ≤ q := by rw [hq]; unfold toV; omega
    have t4 : q.tmod 4 = q % 4 := Int.tmod_eq_emod_of_nonneg q0
    have d4 : (q % 4 != 0) = false := by simp [h4]
    have HO := Lib.hid ho
    clear hq ho
    (have h0 := FR.new h; go_enter Tryz.func54, Tryz.ntmps54; go_upto_region 1 with fail; generalize W.alloc (.cells #[.int .i64 0, .int .u32 0, .int .u32 0, .int .i64 0, .bool false, .int .i64 0, .int .u32 0, .int .u32 0, .int .u32 0] 32) = W1 at h0 ⊢; generalize W.heap.size = g at h0 ⊢; have H0 := Lib.hid h0; clear h h0)
    have H1 := Lib.hid H0.out.drew
    go_region_held3 (fun W' => W'.cell? ⟨p, 0, none⟩ = some (.int .i64 i.op) ∧ W'.cell? ⟨p, 1, none⟩ = some (.int .i64 i.d) ∧ W'.cell? ⟨p, 2, none⟩ = some (.int .i64 i.a) ∧ W'.cell? ⟨p, 3, none⟩ = some (.int .i64 i.b) ∧ W'.cell? ⟨p, 4, none⟩ = some (.int .i64 i.n) ∧ W'.cell? ⟨p, 5, none⟩ = some (.pointer (some ⟨b, 0, none⟩)) ∧ W'.cell? ⟨p, 6, none⟩ = some (.pointer (some ⟨c, 0, none⟩)) ∧ W'.cell? ⟨p, 7, none⟩ = some (.int .i64 i.clk)) (first | exact H1.out.1.s8) (first | (go_at_call 68; refine (reg_any _ _ H1.out.1).mono ?_; rintro e Wr ⟨rfl, rfl⟩) | (go_at_call 73; refine (width_any _ H1.out.1).mono ?_; rintro e Wr ⟨rfl, rfl⟩))
    rw [toV_eq, ← HQ.out]
    try rw [hwd]
    try clear hwd
    go_upto_region 5 with (first | (go_at_call 70; refine (next_any _ H1.out.1).mono ?_; rintro e Wr ⟨rfl, rfl⟩))
    clear t4 d4 q0 h4
    have EX5 : Hid (ObjAt (W1.alloc (.cells #[.int .i64 1, .int .u32 (nx pc), .int .u32 q, .int .i64 4, .bool false, .int .i64 0, .int .u32 0, .int .u32 0, .int .u32 0] 32)).drew W1.heap.size 32 (effL 1 (nx pc) q 4 false 0 0 0 0)) := (ObjAt.new W1 _ (effL 1 (nx pc) q 4 false 0 0 0 0)).below ((Below.refl _ _).drew)
    have HB5 : Hid (Below W1.heap.size W1 (W1.alloc (.cells #[.int .i64 1, .int .u32 (nx pc), .int .u32 q, .int .i64 4, .bool false, .int .i64 0, .int .u32 0, .int .u32 0, .int .u32 0] 32)).drew) := ((Below.refl _ _).alloc (Nat.le_refl _) _).drew
    generalize (W1.alloc (.cells #[.int .i64 1, .int .u32 (nx pc), .int .u32 q, .int .i64 4, .bool false, .int .i64 0, .int .u32 0, .int .u32 0, .int .u32 0] 32)).drew = W5 at EX5 HB5 ⊢
    clear H1
    have ho := HO.out
    have H5 := Lib.hid (H0.out.below HB5.out)
    obtain ⟨z0, z1, z2, z3, z4, z5, z6, z7⟩ := H5.out.1.s8
    (have f1 := EX5.out.free 5; have y1 := EX5.out.cell 5 _ rfl; go_upto_region 12 with fail; clear f1 y1; have EX6 := Lib.hid (EX5.out.set 5 (.int .i64 i.d)); have HB6 := Lib.hid (HB5.out.setCell (p := ⟨W1.heap.size, 5, none⟩) (Nat.le_refl _) (.int .i64 i.d)))
    have H6 := Lib.hid (H0.out.below HB6.out)
    have EXF : Hid (ObjAt _ W1.heap.size 32 ((effL 1 (nx pc) q 4 false i.d 0 0 0))) := EX6
    clear z0 z1 z2 z3 z4 z5 z6 z7
    go_wp2_with (first | (refine wpList_load_mid rfl 32 (.tmp 5) rfl W1.heap.size 0 rfl ((effL 1 (nx pc) q 4 false i.d 0 0 0)) _ (EXF.out.range 0 _ (fun j v h => by rw [Nat.zero_add]; exact h)) Tryz.underlying32 rfl (by rw [info_eff]; rfl) ?_) | (refine wpList_store_block rfl 32 (.tmp 2) (.tmp 61) rfl g 32 _ _ rfl rfl (H6.out).2.1 (by rw [info_eff]; rfl) rfl (eff_all _ _ _ _ _ _ _ _ _) ?_))
    (refine bodyPost_ret (v := .agg ((effL 1 (nx pc) q 4 false (i.d) (0) 0 0)).toArray) ?_ rfl ⟨rfl, (H6.out).row _⟩; exact results_cell_row rfl _ _ g _ _ (0, 0) _ rfl (setRow_heap _ _ _ _ _ _ (H6.out).2.1) Tryz.underlying32 rfl (by rw [info_eff]; rfl))
theorem mem_25 (q : Int) (hq : q = toV r i) (ho : i.op = 25) (h4 : q % 1 = 0) (W : World) (h : ST W i p b c r pc cr id) : Calls Tryz.prog 54 #[.pointer (some ⟨p, 0, none⟩)] W (Post i p b c r pc cr id (effL 1 (nx pc) q 1 false (i.d) (0) 0 0) W) := by
    have hwd : widV i.op = 1 := by rw [ho]; rfl
    have HQ := Lib.hid hq
    have q0 : 0 ≤ q := by rw [hq]; unfold toV; omega
    have t4 : q.tmod 1 = q % 1 := Int.tmod_eq_emod_of_nonneg q0
    have d4 : (q % 1 != 0) = false := by simp [h4]
    have HO := Lib.hid ho
    clear hq ho
    (have h0 := FR.new h; go_enter Tryz.func54, Tryz.ntmps54; go_upto_region 1 with fail; generalize W.alloc (.cells #[.int .i64 0, .int .u32 0, .int .u32 0, .int .i64 0, .bool false, .int .i64 0, .int .u32 0, .int .u32 0, .int .u32 0] 32) = W1 at h0 ⊢; generalize W.heap.size = g at h0 ⊢; have H0 := Lib.hid h0; clear h h0)
    have H1 := Lib.hid H0.out.drew
    go_region_held3 (fun W' => W'.cell? ⟨p, 0, none⟩ = some (.int .i64 i.op) ∧ W'.cell? ⟨p, 1, none⟩ = some (.int .i64 i.d) ∧ W'.cell? ⟨p, 2, none⟩ = some (.int .i64 i.a) ∧ W'.cell? ⟨p, 3, none⟩ = some (.int .i64 i.b) ∧ W'.cell? ⟨p, 4, none⟩ = some (.int .i64 i.n) ∧ W'.cell? ⟨p, 5, none⟩ = some (.pointer (some ⟨b, 0, none⟩)) ∧ W'.cell? ⟨p, 6, none⟩ = some (.pointer (some ⟨c, 0, none⟩)) ∧ W'.cell? ⟨p, 7, none⟩ = some (.int .i64 i.clk)) (first | exact H1.out.1.s8) (first | (go_at_call 68; refine (reg_any _ _ H1.out.1).mono ?_; rintro e Wr ⟨rfl, rfl⟩) | (go_at_call 73; refine (width_any _ H1.out.1).mono ?_; rintro e Wr ⟨rfl, rfl⟩))
    rw [toV_eq, ← HQ.out]
    try rw [hwd]
    try clear hwd
    go_upto_region 5 with (first | (go_at_call 70; refine (next_any _ H1.out.1).mono ?_; rintro e Wr ⟨rfl, rfl⟩))
    clear t4 d4 q0 h4
    have EX5 : Hid (ObjAt (W1.alloc (.cells #[.int .i64 1, .int .u32 (nx pc), .int .u32 q, .int .i64 1, .bool false, .int .i64 0, .int .u32 0, .int .u32 0, .int .u32 0] 32)).drew W1.heap.size 32 (effL 1 (nx pc) q 1 false 0 0 0 0)) := (ObjAt.new W1 _ (effL 1 (nx pc) q 1 false 0 0 0 0)).below ((Below.refl _ _).drew)
    have HB5 : Hid (Below W1.heap.size W1 (W1.alloc (.cells #[.int .i64 1, .int .u32 (nx pc), .int .u32 q, .int .i64 1, .bool false, .int .i64 0, .int .u32 0, .int .u32 0, .int .u32 0] 32)).drew) := ((Below.refl _ _).alloc (Nat.le_refl _) _).drew
    generalize (W1.alloc (.cells #[.int .i64 1, .int .u32 (nx pc), .int .u32 q, .int .i64 1, .bool false, .int .i64 0, .int .u32 0, .int .u32 0, .int .u32 0] 32)).drew = W5 at EX5 HB5 ⊢
    clear H1
    have ho := HO.out
    have H5 := Lib.hid (H0.out.below HB5.out)
    obtain ⟨z0, z1, z2, z3, z4, z5, z6, z7⟩ := H5.out.1.s8
    (have f1 := EX5.out.free 5; have y1 := EX5.out.cell 5 _ rfl; go_upto_region 12 with fail; clear f1 y1; have EX6 := Lib.hid (EX5.out.set 5 (.int .i64 i.d)); have HB6 := Lib.hid (HB5.out.setCell (p := ⟨W1.heap.size, 5, none⟩) (Nat.le_refl _) (.int .i64 i.d)))
    have H6 := Lib.hid (H0.out.below HB6.out)
    have EXF : Hid (ObjAt _ W1.heap.size 32 ((effL 1 (nx pc) q 1 false i.d 0 0 0))) := EX6
    clear z0 z1 z2 z3 z4 z5 z6 z7
    go_wp2_with (first | (refine wpList_load_mid rfl 32 (.tmp 5) rfl W1.heap.size 0 rfl ((effL 1 (nx pc) q 1 false i.d 0 0 0)) _ (EXF.out.range 0 _ (fun j v h => by rw [Nat.zero_add]; exact h)) Tryz.underlying32 rfl (by rw [info_eff]; rfl) ?_) | (refine wpList_store_block rfl 32 (.tmp 2) (.tmp 61) rfl g 32 _ _ rfl rfl (H6.out).2.1 (by rw [info_eff]; rfl) rfl (eff_all _ _ _ _ _ _ _ _ _) ?_))
    (refine bodyPost_ret (v := .agg ((effL 1 (nx pc) q 1 false (i.d) (0) 0 0)).toArray) ?_ rfl ⟨rfl, (H6.out).row _⟩; exact results_cell_row rfl _ _ g _ _ (0, 0) _ rfl (setRow_heap _ _ _ _ _ _ (H6.out).2.1) Tryz.underlying32 rfl (by rw [info_eff]; rfl))
theorem mem_24 (q : Int) (hq : q = toV r i) (ho : i.op = 24) (h4 : q % 1 = 0) (W : World) (h : ST W i p b c r pc cr id) : Calls Tryz.prog 54 #[.pointer (some ⟨p, 0, none⟩)] W (Post i p b c r pc cr id (effL 1 (nx pc) q 1 true (i.d) (0) 0 0) W) := by
    have hwd : widV i.op = 1 := by rw [ho]; rfl
    have HQ := Lib.hid hq
    have q0 : 0 ≤ q := by rw [hq]; unfold toV; omega
    have t4 : q.tmod 1 = q % 1 := Int.tmod_eq_emod_of_nonneg q0
    have d4 : (q % 1 != 0) = false := by simp [h4]
    have HO := Lib.hid ho
    clear hq ho
    (have h0 := FR.new h; go_enter Tryz.func54, Tryz.ntmps54; go_upto_region 1 with fail; generalize W.alloc (.cells #[.int .i64 0, .int .u32 0, .int .u32 0, .int .i64 0, .bool false, .int .i64 0, .int .u32 0, .int .u32 0, .int .u32 0] 32) = W1 at h0 ⊢; generalize W.heap.size = g at h0 ⊢; have H0 := Lib.hid h0; clear h h0)
    have H1 := Lib.hid H0.out.drew
    go_region_held3 (fun W' => W'.cell? ⟨p, 0, none⟩ = some (.int .i64 i.op) ∧ W'.cell? ⟨p, 1, none⟩ = some (.int .i64 i.d) ∧ W'.cell? ⟨p, 2, none⟩ = some (.int .i64 i.a) ∧ W'.cell? ⟨p, 3, none⟩ = some (.int .i64 i.b) ∧ W'.cell? ⟨p, 4, none⟩ = some (.int .i64 i.n) ∧ W'.cell? ⟨p, 5, none⟩ = some (.pointer (some ⟨b, 0, none⟩)) ∧ W'.cell? ⟨p, 6, none⟩ = some (.pointer (some ⟨c, 0, none⟩)) ∧ W'.cell? ⟨p, 7, none⟩ = some (.int .i64 i.clk)) (first | exact H1.out.1.s8) (first | (go_at_call 68; refine (reg_any _ _ H1.out.1).mono ?_; rintro e Wr ⟨rfl, rfl⟩) | (go_at_call 73; refine (width_any _ H1.out.1).mono ?_; rintro e Wr ⟨rfl, rfl⟩))
    rw [toV_eq, ← HQ.out]
    try rw [hwd]
    try clear hwd
    go_upto_region 5 with (first | (go_at_call 70; refine (next_any _ H1.out.1).mono ?_; rintro e Wr ⟨rfl, rfl⟩))
    clear t4 d4 q0 h4
    have EX5 : Hid (ObjAt (W1.alloc (.cells #[.int .i64 1, .int .u32 (nx pc), .int .u32 q, .int .i64 1, .bool false, .int .i64 0, .int .u32 0, .int .u32 0, .int .u32 0] 32)).drew W1.heap.size 32 (effL 1 (nx pc) q 1 false 0 0 0 0)) := (ObjAt.new W1 _ (effL 1 (nx pc) q 1 false 0 0 0 0)).below ((Below.refl _ _).drew)
    have HB5 : Hid (Below W1.heap.size W1 (W1.alloc (.cells #[.int .i64 1, .int .u32 (nx pc), .int .u32 q, .int .i64 1, .bool false, .int .i64 0, .int .u32 0, .int .u32 0, .int .u32 0] 32)).drew) := ((Below.refl _ _).alloc (Nat.le_refl _) _).drew
    generalize (W1.alloc (.cells #[.int .i64 1, .int .u32 (nx pc), .int .u32 q, .int .i64 1, .bool false, .int .i64 0, .int .u32 0, .int .u32 0, .int .u32 0] 32)).drew = W5 at EX5 HB5 ⊢
    clear H1
    have ho := HO.out
    have H5 := Lib.hid (H0.out.below HB5.out)
    obtain ⟨z0, z1, z2, z3, z4, z5, z6, z7⟩ := H5.out.1.s8
    (have f1 := EX5.out.free 4; have f2 := EX5.out.free 5; have f3 := (EX5.out.set 4 (.bool true)).free 5; have y1 := EX5.out.cell 4 _ rfl; have y2 := EX5.out.cell 5 _ rfl; go_upto_region 12 with fail; clear f1 f2 f3 y1 y2; have EX7 := Lib.hid ((EX5.out.set 4 (.bool true)).set 5 (.int .i64 i.d)); have HB7 := Lib.hid ((HB5.out.setCell (p := ⟨W1.heap.size, 4, none⟩) (Nat.le_refl _) (.bool true)).setCell (p := ⟨W1.heap.size, 5, none⟩) (Nat.le_refl _) (.int .i64 i.d)))
    have H6 := Lib.hid (H0.out.below HB7.out)
    have EXF : Hid (ObjAt _ W1.heap.size 32 ((effL 1 (nx pc) q 1 true i.d 0 0 0))) := EX7
    clear z0 z1 z2 z3 z4 z5 z6 z7
    go_wp2_with (first | (refine wpList_load_mid rfl 32 (.tmp 5) rfl W1.heap.size 0 rfl ((effL 1 (nx pc) q 1 true i.d 0 0 0)) _ (EXF.out.range 0 _ (fun j v h => by rw [Nat.zero_add]; exact h)) Tryz.underlying32 rfl (by rw [info_eff]; rfl) ?_) | (refine wpList_store_block rfl 32 (.tmp 2) (.tmp 61) rfl g 32 _ _ rfl rfl (H6.out).2.1 (by rw [info_eff]; rfl) rfl (eff_all _ _ _ _ _ _ _ _ _) ?_))
    (refine bodyPost_ret (v := .agg ((effL 1 (nx pc) q 1 true (i.d) (0) 0 0)).toArray) ?_ rfl ⟨rfl, (H6.out).row _⟩; exact results_cell_row rfl _ _ g _ _ (0, 0) _ rfl (setRow_heap _ _ _ _ _ _ (H6.out).2.1) Tryz.underlying32 rfl (by rw [info_eff]; rfl))
theorem mem_26 (q : Int) (hq : q = toV r i) (ho : i.op = 26) (h4 : q % 4 = 0) (W : World) (h : ST W i p b c r pc cr id) : Calls Tryz.prog 54 #[.pointer (some ⟨p, 0, none⟩)] W (Post i p b c r pc cr id (effL 2 (nx pc) q 4 false (0) ((Regs.getV r i.b)) 0 0) W) := by
    have hwd : widV i.op = 4 := by rw [ho]; rfl
    have HQ := Lib.hid hq
    have q0 : 0 ≤ q := by rw [hq]; unfold toV; omega
    have t4 : q.tmod 4 = q % 4 := Int.tmod_eq_emod_of_nonneg q0
    have d4 : (q % 4 != 0) = false := by simp [h4]
    have HO := Lib.hid ho
    clear hq ho
    (have h0 := FR.new h; go_enter Tryz.func54, Tryz.ntmps54; go_upto_region 1 with fail; generalize W.alloc (.cells #[.int .i64 0, .int .u32 0, .int .u32 0, .int .i64 0, .bool false, .int .i64 0, .int .u32 0, .int .u32 0, .int .u32 0] 32) = W1 at h0 ⊢; generalize W.heap.size = g at h0 ⊢; have H0 := Lib.hid h0; clear h h0)
    have H1 := Lib.hid H0.out.drew
    go_region_held3 (fun W' => W'.cell? ⟨p, 0, none⟩ = some (.int .i64 i.op) ∧ W'.cell? ⟨p, 1, none⟩ = some (.int .i64 i.d) ∧ W'.cell? ⟨p, 2, none⟩ = some (.int .i64 i.a) ∧ W'.cell? ⟨p, 3, none⟩ = some (.int .i64 i.b) ∧ W'.cell? ⟨p, 4, none⟩ = some (.int .i64 i.n) ∧ W'.cell? ⟨p, 5, none⟩ = some (.pointer (some ⟨b, 0, none⟩)) ∧ W'.cell? ⟨p, 6, none⟩ = some (.pointer (some ⟨c, 0, none⟩)) ∧ W'.cell? ⟨p, 7, none⟩ = some (.int .i64 i.clk)) (first | exact H1.out.1.s8) (first | (go_at_call 68; refine (reg_any _ _ H1.out.1).mono ?_; rintro e Wr ⟨rfl, rfl⟩) | (go_at_call 73; refine (width_any _ H1.out.1).mono ?_; rintro e Wr ⟨rfl, rfl⟩))
    rw [toV_eq, ← HQ.out]
    try rw [hwd]
    try clear hwd
    go_upto_region 5 with (first | (go_at_call 70; refine (next_any _ H1.out.1).mono ?_; rintro e Wr ⟨rfl, rfl⟩))
    clear t4 d4 q0 h4
    have EX5 : Hid (ObjAt (W1.alloc (.cells #[.int .i64 1, .int .u32 (nx pc), .int .u32 q, .int .i64 4, .bool false, .int .i64 0, .int .u32 0, .int .u32 0, .int .u32 0] 32)).drew W1.heap.size 32 (effL 1 (nx pc) q 4 false 0 0 0 0)) := (ObjAt.new W1 _ (effL 1 (nx pc) q 4 false 0 0 0 0)).below ((Below.refl _ _).drew)
    have HB5 : Hid (Below W1.heap.size W1 (W1.alloc (.cells #[.int .i64 1, .int .u32 (nx pc), .int .u32 q, .int .i64 4, .bool false, .int .i64 0, .int .u32 0, .int .u32 0, .int .u32 0] 32)).drew) := ((Below.refl _ _).alloc (Nat.le_refl _) _).drew
    generalize (W1.alloc (.cells #[.int .i64 1, .int .u32 (nx pc), .int .u32 q, .int .i64 4, .bool false, .int .i64 0, .int .u32 0, .int .u32 0, .int .u32 0] 32)).drew = W5 at EX5 HB5 ⊢
    clear H1
    have ho := HO.out
    have H5 := Lib.hid (H0.out.below HB5.out)
    obtain ⟨z0, z1, z2, z3, z4, z5, z6, z7⟩ := H5.out.1.s8
    (have f1 := EX5.out.free 0; have f2 := EX5.out.free 6; have f3 := (EX5.out.set 0 (.int .i64 2)).free 6; have y1 := EX5.out.cell 0 _ rfl; have y2 := EX5.out.cell 6 _ rfl; go_upto_region 12 with (first | (go_at_call 68; refine (reg_any _ _ H5.out.1).mono ?_; rintro e Wr ⟨rfl, rfl⟩)); clear f1 f2 f3 y1 y2; have EX7 := Lib.hid ((EX5.out.set 0 (.int .i64 2)).set 6 (.int .u32 (Regs.getV r i.b))); have HB7 := Lib.hid ((HB5.out.setCell (p := ⟨W1.heap.size, 0, none⟩) (Nat.le_refl _) (.int .i64 2)).setCell (p := ⟨W1.heap.size, 6, none⟩) (Nat.le_refl _) (.int .u32 (Regs.getV r i.b))))
    have H6 := Lib.hid (H0.out.below HB7.out)
    have EXF : Hid (ObjAt _ W1.heap.size 32 ((effL 2 (nx pc) q 4 false 0 (Regs.getV r i.b) 0 0))) := EX7
    clear z0 z1 z2 z3 z4 z5 z6 z7
    go_wp2_with (first | (refine wpList_load_mid rfl 32 (.tmp 5) rfl W1.heap.size 0 rfl ((effL 2 (nx pc) q 4 false 0 (Regs.getV r i.b) 0 0)) _ (EXF.out.range 0 _ (fun j v h => by rw [Nat.zero_add]; exact h)) Tryz.underlying32 rfl (by rw [info_eff]; rfl) ?_) | (refine wpList_store_block rfl 32 (.tmp 2) (.tmp 61) rfl g 32 _ _ rfl rfl (H6.out).2.1 (by rw [info_eff]; rfl) rfl (eff_all _ _ _ _ _ _ _ _ _) ?_))
    (refine bodyPost_ret (v := .agg ((effL 2 (nx pc) q 4 false (0) ((Regs.getV r i.b)) 0 0)).toArray) ?_ rfl ⟨rfl, (H6.out).row _⟩; exact results_cell_row rfl _ _ g _ _ (0, 0) _ rfl (setRow_heap _ _ _ _ _ _ (H6.out).2.1) Tryz.underlying32 rfl (by rw [info_eff]; rfl))
theorem mem_27 (q : Int) (hq : q = toV r i) (ho : i.op = 27) (h4 : q % 1 = 0) (W : World) (h : ST W i p b c r pc cr id) : Calls Tryz.prog 54 #[.pointer (some ⟨p, 0, none⟩)] W (Post i p b c r pc cr id (effL 2 (nx pc) q 1 false (0) ((Regs.getV r i.b)) 0 0) W) := by
    have hwd : widV i.op = 1 := by rw [ho]; rfl
    have HQ := Lib.hid hq
    have q0 : 0 ≤ q := by rw [hq]; unfold toV; omega
    have t4 : q.tmod 1 = q % 1 := Int.tmod_eq_emod_of_nonneg q0
    have d4 : (q % 1 != 0) = false := by simp [h4]
    have HO := Lib.hid ho
    clear hq ho
    (have h0 := FR.new h; go_enter Tryz.func54, Tryz.ntmps54; go_upto_region 1 with fail; generalize W.alloc (.cells #[.int .i64 0, .int .u32 0, .int .u32 0, .int .i64 0, .bool false, .int .i64 0, .int .u32 0, .int .u32 0, .int .u32 0] 32) = W1 at h0 ⊢; generalize W.heap.size = g at h0 ⊢; have H0 := Lib.hid h0; clear h h0)
    have H1 := Lib.hid H0.out.drew
    go_region_held3 (fun W' => W'.cell? ⟨p, 0, none⟩ = some (.int .i64 i.op) ∧ W'.cell? ⟨p, 1, none⟩ = some (.int .i64 i.d) ∧ W'.cell? ⟨p, 2, none⟩ = some (.int .i64 i.a) ∧ W'.cell? ⟨p, 3, none⟩ = some (.int .i64 i.b) ∧ W'.cell? ⟨p, 4, none⟩ = some (.int .i64 i.n) ∧ W'.cell? ⟨p, 5, none⟩ = some (.pointer (some ⟨b, 0, none⟩)) ∧ W'.cell? ⟨p, 6, none⟩ = some (.pointer (some ⟨c, 0, none⟩)) ∧ W'.cell? ⟨p, 7, none⟩ = some (.int .i64 i.clk)) (first | exact H1.out.1.s8) (first | (go_at_call 68; refine (reg_any _ _ H1.out.1).mono ?_; rintro e Wr ⟨rfl, rfl⟩) | (go_at_call 73; refine (width_any _ H1.out.1).mono ?_; rintro e Wr ⟨rfl, rfl⟩))
    rw [toV_eq, ← HQ.out]
    try rw [hwd]
    try clear hwd
    go_upto_region 5 with (first | (go_at_call 70; refine (next_any _ H1.out.1).mono ?_; rintro e Wr ⟨rfl, rfl⟩))
    clear t4 d4 q0 h4
    have EX5 : Hid (ObjAt (W1.alloc (.cells #[.int .i64 1, .int .u32 (nx pc), .int .u32 q, .int .i64 1, .bool false, .int .i64 0, .int .u32 0, .int .u32 0, .int .u32 0] 32)).drew W1.heap.size 32 (effL 1 (nx pc) q 1 false 0 0 0 0)) := (ObjAt.new W1 _ (effL 1 (nx pc) q 1 false 0 0 0 0)).below ((Below.refl _ _).drew)
    have HB5 : Hid (Below W1.heap.size W1 (W1.alloc (.cells #[.int .i64 1, .int .u32 (nx pc), .int .u32 q, .int .i64 1, .bool false, .int .i64 0, .int .u32 0, .int .u32 0, .int .u32 0] 32)).drew) := ((Below.refl _ _).alloc (Nat.le_refl _) _).drew
    generalize (W1.alloc (.cells #[.int .i64 1, .int .u32 (nx pc), .int .u32 q, .int .i64 1, .bool false, .int .i64 0, .int .u32 0, .int .u32 0, .int .u32 0] 32)).drew = W5 at EX5 HB5 ⊢
    clear H1
    have ho := HO.out
    have H5 := Lib.hid (H0.out.below HB5.out)
    obtain ⟨z0, z1, z2, z3, z4, z5, z6, z7⟩ := H5.out.1.s8
    (have f1 := EX5.out.free 0; have f2 := EX5.out.free 6; have f3 := (EX5.out.set 0 (.int .i64 2)).free 6; have y1 := EX5.out.cell 0 _ rfl; have y2 := EX5.out.cell 6 _ rfl; go_upto_region 12 with (first | (go_at_call 68; refine (reg_any _ _ H5.out.1).mono ?_; rintro e Wr ⟨rfl, rfl⟩)); clear f1 f2 f3 y1 y2; have EX7 := Lib.hid ((EX5.out.set 0 (.int .i64 2)).set 6 (.int .u32 (Regs.getV r i.b))); have HB7 := Lib.hid ((HB5.out.setCell (p := ⟨W1.heap.size, 0, none⟩) (Nat.le_refl _) (.int .i64 2)).setCell (p := ⟨W1.heap.size, 6, none⟩) (Nat.le_refl _) (.int .u32 (Regs.getV r i.b))))
    have H6 := Lib.hid (H0.out.below HB7.out)
    have EXF : Hid (ObjAt _ W1.heap.size 32 ((effL 2 (nx pc) q 1 false 0 (Regs.getV r i.b) 0 0))) := EX7
    clear z0 z1 z2 z3 z4 z5 z6 z7
    go_wp2_with (first | (refine wpList_load_mid rfl 32 (.tmp 5) rfl W1.heap.size 0 rfl ((effL 2 (nx pc) q 1 false 0 (Regs.getV r i.b) 0 0)) _ (EXF.out.range 0 _ (fun j v h => by rw [Nat.zero_add]; exact h)) Tryz.underlying32 rfl (by rw [info_eff]; rfl) ?_) | (refine wpList_store_block rfl 32 (.tmp 2) (.tmp 61) rfl g 32 _ _ rfl rfl (H6.out).2.1 (by rw [info_eff]; rfl) rfl (eff_all _ _ _ _ _ _ _ _ _) ?_))
    (refine bodyPost_ret (v := .agg ((effL 2 (nx pc) q 1 false (0) ((Regs.getV r i.b)) 0 0)).toArray) ?_ rfl ⟨rfl, (H6.out).row _⟩; exact results_cell_row rfl _ _ g _ _ (0, 0) _ rfl (setRow_heap _ _ _ _ _ _ (H6.out).2.1) Tryz.underlying32 rfl (by rw [info_eff]; rfl))
end Go.Proofs.YtiohfdhmkikckaaGreatDoor
