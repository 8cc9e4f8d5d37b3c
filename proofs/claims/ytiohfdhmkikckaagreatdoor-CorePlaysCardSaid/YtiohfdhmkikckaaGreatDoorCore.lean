/- Chapter 13: the step at work, and what its methods answer. -/
import Derived.Test.YtiohfdhmkikckaaGreatDoorCRegs
import Derived.Test.YtiohfdhmkikckaaGreatDoorCCsr
import Derived.Test.YtiohfdhmkikckaaGreatDoorCIsa
import Derived.Test.YtiohfdhmkikckaaGreatDoorCAlu
import Derived.Test.YtiohfdhmkikckaaGreatDoorSl
import Derived.Deep.Cut
namespace Go.Proofs.YtiohfdhmkikckaaGreatDoor
set_option linter.unusedVariables false
set_option linter.unusedSimpArgs false
set_option linter.unnecessarySimpa false
open Go.RowKit
set_option maxHeartbeats 2000000
set_option maxRecDepth 100000
set_option linter.unusedVariables false

/-- An instruction and the clock. -/
structure In where
  op : Int
  d : Int
  a : Int
  b : Int
  n : Int
  clk : Int
def stepL (i : In) (b c : Nat) : List Value := [.int .i64 i.op, .int .i64 i.d, .int .i64 i.a, .int .i64 i.b, .int .i64 i.n, .pointer (some ⟨b, 0, none⟩), .pointer (some ⟨c, 0, none⟩), .int .i64 i.clk]
def effL (k pc at_ wd : Int) (sg : Bool) (d v ca tv : Int) : List Value := [.int .i64 k, .int .u32 pc, .int .u32 at_, .int .i64 wd, .bool sg, .int .i64 d, .int .u32 v, .int .u32 ca, .int .u32 tv]
def doneL (pc : Int) : List Value := effL 0 pc 0 0 false 0 0 0 0
def trapL (ca tv : Int) : List Value := effL 3 0 0 0 false 0 0 ca tv
def eff0 : List Value := effL 0 0 0 0 false 0 0 0 0
/-- The state of a step at work: the step at p, the registers at b, those of the kernel at c. -/
structure ST (W : World) (i : In) (p b c : Nat) (r : List Int) (pc : Int) (cr : List Int) (id : Int) : Prop where
  step : ObjAt W p 71 (stepL i b c)
  file : Regs.FileAt W b r true pc
  csr : Csr.FileC W c cr id
variable {W W' W0 : World} {i : In} {p b c g : Nat} {r r' : List Int} {pc pc' : Int} {cr cr' : List Int} {id : Int} {cs : List Value}
theorem file_obj (h : Regs.FileAt W b r true pc) : ObjAt W b 82 (r.map (Value.int .u32) ++ [Value.bool true, Value.int .u32 pc]) := h.2
theorem ST.pb (h : ST W i p b c r pc cr id) : p ≠ b := h.step.ne (file_obj h.file) (by decide)
theorem ST.ne_pc (h : ST W i p b c r pc cr id) : p ≠ c := h.step.ne h.csr.2 (by decide)
theorem ST.bc (h : ST W i p b c r pc cr id) : b ≠ c := (file_obj h.file).ne h.csr.2 (by decide)
theorem ST.below (h : ST W i p b c r pc cr id) (hb : Below W.heap.size W W') : ST W' i p b c r pc cr id := ⟨h.step.below hb, h.file.below hb, h.csr.below hb⟩
theorem ST.upd (h : ST W i p b c r pc cr id) (hu : Upd g W W') (h1 : p ≠ g) (h2 : b ≠ g) (h3 : c ≠ g) : ST W' i p b c r pc cr id := ⟨h.step.upd hu h1, Regs.FileAt.upd h.file hu h2, h.csr.upd hu h3⟩
theorem ST.setB (h : ST W i p b c r pc cr id) (hf : Regs.FileAt W' b r' true pc') (hu : Upd b W W') : ST W' i p b c r' pc' cr id := ⟨h.step.upd hu h.pb, hf, h.csr.upd hu h.bc.symm⟩
theorem ST.setC (h : ST W i p b c r pc cr id) (hf : Csr.FileC W' c cr' id) (hu : Upd c W W') : ST W' i p b c r pc cr' id := ⟨h.step.upd hu h.ne_pc, Regs.FileAt.upd h.file hu h.bc, hf⟩
theorem ST.eff (h : ST W i p b c r pc cr id) (x : ObjAt W g 32 cs) : p ≠ g ∧ b ≠ g ∧ c ≠ g := ⟨h.step.ne x (by decide), (file_obj h.file).ne x (by decide), h.csr.2.ne x (by decide)⟩
/-- What a method of the step answers, and what is behind it. -/
def Post (i : In) (p b c : Nat) (r' : List Int) (pc' : Int) (cr' : List Int) (id : Int) (ef : List Value) (W : World) (e : Ending) (W' : World) : Prop :=
  e = .returned (.agg ef.toArray) ∧ ST W' i p b c r' pc' cr' id ∧ Mod [b, c] W W'
theorem modB (c : Nat) (h : Upd b W W') : Mod [b, c] W W' := (Mod.ofUpd h).mono (fun k _ hk => by simp at hk; simp [hk])
theorem modC (b : Nat) (h : Upd c W W') : Mod [b, c] W W' := (Mod.ofUpd h).mono (fun k _ hk => by simp at hk; simp [hk])
theorem info_eff : (Tryz.prog.info? 32).map (·.size) = some 9 := by kernel_rfl
theorem eff_all (k pc at_ wd : Int) (sg : Bool) (d v ca tv : Int) : (effL k pc at_ wd sg d v ca tv).toArray.all (·.oneCell') = true := by simp [effL, Value.oneCell']
theorem eff_len (k pc at_ wd : Int) (sg : Bool) (d v ca tv : Int) : (effL k pc at_ wd sg d v ca tv).length = 9 := rfl

theorem ST.s8 (h : ST W i p b c r pc cr id) : W.cell? ⟨p, 0, none⟩ = some (.int .i64 i.op) ∧ W.cell? ⟨p, 1, none⟩ = some (.int .i64 i.d) ∧ W.cell? ⟨p, 2, none⟩ = some (.int .i64 i.a) ∧ W.cell? ⟨p, 3, none⟩ = some (.int .i64 i.b) ∧ W.cell? ⟨p, 4, none⟩ = some (.int .i64 i.n) ∧ W.cell? ⟨p, 5, none⟩ = some (.pointer (some ⟨b, 0, none⟩)) ∧ W.cell? ⟨p, 6, none⟩ = some (.pointer (some ⟨c, 0, none⟩)) ∧ W.cell? ⟨p, 7, none⟩ = some (.int .i64 i.clk) := ⟨h.step.cell 0 _ rfl, h.step.cell 1 _ rfl, h.step.cell 2 _ rfl, h.step.cell 3 _ rfl, h.step.cell 4 _ rfl, h.step.cell 5 _ rfl, h.step.cell 6 _ rfl, h.step.cell 7 _ rfl⟩
/-- A method under way: its result lies at g, new. -/
def FR (W0 W : World) (g : Nat) (i : In) (p b c : Nat) (r : List Int) (pc : Int) (cr : List Int) (id : Int) : Prop :=
  ST W i p b c r pc cr id ∧ ObjAt W g 32 eff0 ∧ Mod [b, c] W0 W ∧ W0.heap.size ≤ g
theorem FR.new (h : ST W i p b c r pc cr id) : FR W (W.alloc (.cells #[.int .i64 0, .int .u32 0, .int .u32 0, .int .i64 0, .bool false, .int .i64 0, .int .u32 0, .int .u32 0, .int .u32 0] 32)) W.heap.size i p b c r pc cr id :=
  ⟨h.below ((Below.refl _ _).alloc (Nat.le_refl _) _), ObjAt.new W _ eff0, (Mod.refl _ _).alloc _, Nat.le_refl _⟩
theorem FR.to (h : FR W0 W g i p b c r pc cr id) (hs : ST W' i p b c r' pc' cr' id) (hm : Mod [b, c] W W') : FR W0 W' g i p b c r' pc' cr' id :=
  ⟨hs, h.2.1.mod hm (by have := h.1.eff h.2.1; simp; omega), h.2.2.1.trans hm, h.2.2.2⟩
theorem FR.below (h : FR W0 W g i p b c r pc cr id) (hb : Below W.heap.size W W') : FR W0 W' g i p b c r pc cr id := h.to (h.1.below hb) (Mod.ofBelow hb)
theorem FR.drew (h : FR W0 W g i p b c r pc cr id) : FR W0 W.drew g i p b c r pc cr id := h.below ((Below.refl _ _).drew)
theorem FR.row (h : FR W0 W g i p b c r pc cr id) (x : Array Value) : ST (W.setRow g x) i p b c r pc cr id ∧ Mod [b, c] W0 (W.setRow g x) := by
  have hn := h.1.eff h.2.1
  refine ⟨h.1.upd (Upd.setRow W g x) hn.1 hn.2.1 hn.2.2, ?_⟩
  have hu := Upd.setRow W g x
  exact ⟨hu.os.trans h.2.2.1.os, hu.tape.trans h.2.2.1.tape, hu.output.trans h.2.2.1.output, Nat.le_trans h.2.2.1.size hu.size, fun k hk hm => (hu.block k (Nat.lt_of_lt_of_le hk h.2.2.1.size) (by have := h.2.2.2; simp; omega)).trans (h.2.2.1.block k hk hm)⟩
theorem reg_any (n : Int) (W : World) (h : ST W i p b c r pc cr id) : Calls Tryz.prog 68 #[.pointer (some ⟨p, 0, none⟩), .int .i64 n] W fun e W' => e = .returned (.int .u32 (Regs.getV r n)) ∧ W = W' := by
  have q5 := h.step.cell 5 (.pointer (some ⟨b, 0, none⟩)) rfl
  have HF := Lib.hid h.file
  clear h
  go_enter Tryz.func68, Tryz.ntmps68
  go_wp2_with (go_at_call 21; refine (Regs.get_any n b r pc W HF.out).mono ?_; rintro e W' ⟨rfl, rfl⟩)
  go_ret
  exact ⟨rfl, rfl⟩
def nx (pc : Int) : Int := (pc + 4) % 4294967296
theorem next_any (W : World) (h : ST W i p b c r pc cr id) : Calls Tryz.prog 70 #[.pointer (some ⟨p, 0, none⟩)] W fun e W' => e = .returned (.int .u32 (nx pc)) ∧ W = W' := by
  have q5 := h.step.cell 5 (.pointer (some ⟨b, 0, none⟩)) rfl
  have HF := Lib.hid h.file
  clear h
  go_enter Tryz.func70, Tryz.ntmps70
  go_wp2_with (go_at_call 8; refine (Regs.pc_any b r true pc W HF.out).mono ?_; rintro e W' ⟨rfl, rfl⟩)
  go_ret
  exact ⟨rfl, rfl⟩
theorem trap_any (ca tv : Int) (W : World) : Calls Tryz.prog 26 #[.int .u32 ca, .int .u32 tv] W fun e W' => e = .returned (.agg (trapL ca tv).toArray) ∧ Below W.heap.size W W' := by
  have hb : Below W.heap.size W (W.alloc (.cells (trapL ca tv).toArray 32)) := (Below.refl _ _).alloc (Nat.le_refl _) _
  go_enter Tryz.func26, Tryz.ntmps26
  go_wp2
  refine bodyPost_ret (v := .agg (trapL ca tv).toArray) ?_ rfl ⟨rfl, hb⟩
  exact results_cell_row rfl _ _ W.heap.size _ _ (0, 0) _ rfl (new_block W _ _ rfl) Tryz.underlying32 rfl (by rw [info_eff]; rfl)
theorem done_any (t : Int) (W : World) (h : ST W i p b c r pc cr id) : Calls Tryz.prog 75 #[.pointer (some ⟨p, 0, none⟩), .int .u32 t] W (Post i p b c r t cr id (doneL t) W) := by
  (have h0 := FR.new h; go_enter Tryz.func75, Tryz.ntmps75; go_upto_region 1 with fail; generalize W.alloc (.cells #[.int .i64 0, .int .u32 0, .int .u32 0, .int .i64 0, .bool false, .int .i64 0, .int .u32 0, .int .u32 0, .int .u32 0] 32) = W1 at h0 ⊢; generalize W.heap.size = g at h0 ⊢; have H0 := Lib.hid h0; clear h h0)
  have q5 := H0.out.1.step.cell 5 (.pointer (some ⟨b, 0, none⟩)) rfl
  go_wp2_with (first | (go_at_call 12; refine (Regs.jump_any t b r pc W1 H0.out.1.file).mono ?_; rintro e W2 ⟨rfl, hf, hu⟩; have H1 := Lib.hid (H0.out.to (H0.out.1.setB hf hu) (modB c hu)); clear hf hu) | (refine wpList_store_block rfl 32 (.tmp 4) (.tmp 12) rfl g 32 _ _ rfl rfl (H1.out).2.1 (by rw [info_eff]; rfl) rfl (eff_all _ _ _ _ _ _ _ _ _) ?_))
  (refine bodyPost_ret (v := .agg (doneL t).toArray) ?_ rfl ⟨rfl, (H1.out).row _⟩; exact results_cell_row rfl _ _ g _ _ (0, 0) _ rfl (setRow_heap _ _ _ _ _ _ (H1.out).2.1) Tryz.underlying32 rfl (by rw [info_eff]; rfl))
theorem told_any (v t : Int) (W : World) (h : ST W i p b c r pc cr id) : Calls Tryz.prog 69 #[.pointer (some ⟨p, 0, none⟩), .int .u32 v, .int .u32 t] W (Post i p b c (Regs.putR r i.d v) t cr id (doneL t) W) := by
  (have h0 := FR.new h; go_enter Tryz.func69, Tryz.ntmps69; go_upto_region 1 with fail; generalize W.alloc (.cells #[.int .i64 0, .int .u32 0, .int .u32 0, .int .i64 0, .bool false, .int .i64 0, .int .u32 0, .int .u32 0, .int .u32 0] 32) = W1 at h0 ⊢; generalize W.heap.size = g at h0 ⊢; have H0 := Lib.hid h0; clear h h0)
  have H1 := Lib.hid H0.out.drew
  go_region_held3 (fun W' => W'.cell? ⟨p, 0, none⟩ = some (.int .i64 i.op) ∧ W'.cell? ⟨p, 1, none⟩ = some (.int .i64 i.d) ∧ W'.cell? ⟨p, 2, none⟩ = some (.int .i64 i.a) ∧ W'.cell? ⟨p, 3, none⟩ = some (.int .i64 i.b) ∧ W'.cell? ⟨p, 4, none⟩ = some (.int .i64 i.n) ∧ W'.cell? ⟨p, 5, none⟩ = some (.pointer (some ⟨b, 0, none⟩)) ∧ W'.cell? ⟨p, 6, none⟩ = some (.pointer (some ⟨c, 0, none⟩)) ∧ W'.cell? ⟨p, 7, none⟩ = some (.int .i64 i.clk)) (first | exact H1.out.1.s8 | exact H2.out.1.s8) (first | (go_at_call 17; refine (Regs.set_any i.d v b r pc _ H1.out.1.file).mono ?_; rintro e W2 ⟨rfl, hf, hu⟩; have H2 := Lib.hid (H1.out.to (H1.out.1.setB hf hu) (modB c hu)); clear hf hu))
  go_wp2_with (first | (go_at_call 75; refine (done_any t _ H2.out.1).mono ?_; rintro e W3 ⟨rfl, hs, hm⟩; have H3 := Lib.hid (H2.out.to hs hm); clear hs hm) | (refine wpList_store_block rfl 32 (.tmp 6) (.tmp 20) rfl g 32 _ _ rfl rfl (H3.out).2.1 (by rw [info_eff]; rfl) rfl (eff_all _ _ _ _ _ _ _ _ _) ?_))
  (refine bodyPost_ret (v := .agg (doneL t).toArray) ?_ rfl ⟨rfl, (H3.out).row _⟩; exact results_cell_row rfl _ _ g _ _ (0, 0) _ rfl (setRow_heap _ _ _ _ _ _ (H3.out).2.1) Tryz.underlying32 rfl (by rw [info_eff]; rfl))
def farV (pc n : Int) : Int := (pc + 4 * (n % 4294967296) % 4294967296) % 4294967296
theorem far_any (W : World) (h : ST W i p b c r pc cr id) : Calls Tryz.prog 76 #[.pointer (some ⟨p, 0, none⟩)] W fun e W' => e = .returned (.int .u32 (farV pc i.n)) ∧ Below W.heap.size W W' := by
  have H1 := Lib.hid (h.below ((Below.refl _ _).drew))
  have hb : Hid (Below W.heap.size W W.drew) := (Below.refl _ _).drew
  clear h
  go_enter Tryz.func76, Tryz.ntmps76
  go_upto_region 1 with fail
  go_region_held3 (fun W' => W'.cell? ⟨p, 0, none⟩ = some (.int .i64 i.op) ∧ W'.cell? ⟨p, 1, none⟩ = some (.int .i64 i.d) ∧ W'.cell? ⟨p, 2, none⟩ = some (.int .i64 i.a) ∧ W'.cell? ⟨p, 3, none⟩ = some (.int .i64 i.b) ∧ W'.cell? ⟨p, 4, none⟩ = some (.int .i64 i.n) ∧ W'.cell? ⟨p, 5, none⟩ = some (.pointer (some ⟨b, 0, none⟩)) ∧ W'.cell? ⟨p, 6, none⟩ = some (.pointer (some ⟨c, 0, none⟩)) ∧ W'.cell? ⟨p, 7, none⟩ = some (.int .i64 i.clk)) (first | exact H1.out.s8) (first | (go_at_call 8; refine (Regs.pc_any b r true pc _ H1.out.file).mono ?_; rintro e W2 ⟨rfl, rfl⟩))
  go_wp2_with fail
  go_ret
  exact ⟨rfl, hb.out⟩
end Go.Proofs.YtiohfdhmkikckaaGreatDoor
