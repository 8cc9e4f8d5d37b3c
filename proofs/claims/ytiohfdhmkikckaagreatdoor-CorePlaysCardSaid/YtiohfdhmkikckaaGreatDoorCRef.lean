/- Chapter 13's reference: what it answers for an instruction (parts). -/
import Derived.Test.YtiohfdhmkikckaaGreatDoorCMade
import Derived.Test.YtiohfdhmkikckaaGreatDoorCRegsZ
import Derived.Test.YtiohfdhmkikckaaGreatDoorCCsrZ
import Derived.Test.YtiohfdhmkikckaaGreatDoorCIsaZ
import Derived.Test.YtiohfdhmkikckaaGreatDoorCAluZ
namespace Go.Proofs.YtiohfdhmkikckaaGreatDoor
set_option linter.unusedVariables false
set_option linter.unusedSimpArgs false
set_option linter.unnecessarySimpa false
open Go.RowKit
set_option maxHeartbeats 4000000
set_option maxRecDepth 100000
set_option linter.unusedVariables false
theorem rtrap_any (ca tv : Int) (W : World) : Calls Tryz.prog 31 #[.int .u32 ca, .int .u32 tv] W fun e W' => e = .returned (.agg (trapL ca tv).toArray) ∧ Below W.heap.size W W' := by
  have hb : Below W.heap.size W (W.alloc (.cells (trapL ca tv).toArray 32)) := (Below.refl _ _).alloc (Nat.le_refl _) _
  go_enter Tryz.func31, Tryz.ntmps31
  go_wp2
  refine bodyPost_ret (v := .agg (trapL ca tv).toArray) ?_ rfl ⟨rfl, hb⟩
  exact results_cell_row rfl _ _ W.heap.size _ _ (0, 0) _ rfl (new_block W _ _ rfl) Tryz.underlying32 rfl (by rw [info_eff]; rfl)
variable {W W' W0 : World} {i : In} {g e q m : Nat} {r r' : List Int} {pc pc' : Int} {cr cr' : List Int} {id : Int} {cs : List Value}
theorem rdone_any (t : Int) (W : World) (h : Regs.RefAt W g r pc) : Calls Tryz.prog 33 #[.pointer (some ⟨g, 0, none⟩), .int .u32 t] W fun x W' => x = .returned (.agg (doneL t).toArray) ∧ Regs.RefAt W' g r t ∧ Upd g W W' := by
  have hlt := h.lt
  have hb : Hid (Below W.heap.size W (W.alloc (.cells #[.int .i64 0, .int .u32 0, .int .u32 0, .int .i64 0, .bool false, .int .i64 0, .int .u32 0, .int .u32 0, .int .u32 0] 32))) := (Below.refl _ _).alloc (Nat.le_refl _) _
  have HG : Hid (Regs.RefAt (W.alloc (.cells #[.int .i64 0, .int .u32 0, .int .u32 0, .int .i64 0, .bool false, .int .i64 0, .int .u32 0, .int .u32 0, .int .u32 0] 32)) g r pc) := h.below hb.out
  have EQ : Hid (ObjAt (W.alloc (.cells #[.int .i64 0, .int .u32 0, .int .u32 0, .int .i64 0, .bool false, .int .i64 0, .int .u32 0, .int .u32 0, .int .u32 0] 32)) W.heap.size 32 eff0) := ObjAt.new W _ eff0
  have NE : Hid (W.heap.size ≠ g) := by rw [Hid]; omega
  clear h hlt
  go_enter Tryz.func33, Tryz.ntmps33
  go_upto_region 1 with fail
  generalize W.alloc (.cells #[.int .i64 0, .int .u32 0, .int .u32 0, .int .i64 0, .bool false, .int .i64 0, .int .u32 0, .int .u32 0, .int .u32 0] 32) = W1 at HG EQ hb ⊢
  have cp := HG.out.pc; have fp := HG.out.free 16
  go_upto_region 2 with fail
  clear cp fp
  have HG2 : Hid (Regs.RefAt (W1.setCell ⟨g, 16, none⟩ (.int .u32 t)) g r t) := HG.out.setPc t
  have U2 : Hid (Upd g W (W1.setCell ⟨g, 16, none⟩ (.int .u32 t))) := (Upd.of_below hb.out).trans (Upd.setCell W1 ⟨g, 16, none⟩ _)
  have EQ2 : Hid (ObjAt (W1.setCell ⟨g, 16, none⟩ (.int .u32 t)) W.heap.size 32 eff0) := EQ.out.upd (Upd.setCell W1 ⟨g, 16, none⟩ _) NE.out
  generalize W1.setCell ⟨g, 16, none⟩ (.int .u32 t) = W2 at HG2 U2 EQ2 ⊢
  clear HG EQ hb
  go_wp2_with (refine wpList_store_block rfl 32 (.tmp 4) (.tmp 10) rfl W.heap.size 32 _ _ rfl rfl EQ2.out (by rw [info_eff]; rfl) rfl (eff_all 0 t 0 0 false 0 0 0 0) ?_)
  have hu := Upd.setRow W2 W.heap.size (doneL t).toArray
  refine bodyPost_ret (v := .agg (doneL t).toArray) ?_ rfl ⟨rfl, Regs.RefAt.upd HG2.out hu NE.out.symm, ?_⟩
  · exact results_cell_row rfl _ _ W.heap.size _ _ (0, 0) _ rfl (setRow_heap _ _ _ _ _ _ EQ2.out) Tryz.underlying32 rfl (by rw [info_eff]; rfl)
  · exact ⟨hu.os.trans U2.out.os, hu.tape.trans U2.out.tape, hu.output.trans U2.out.output, Nat.le_trans U2.out.size hu.size, fun k hk hn => (hu.block k (Nat.lt_of_lt_of_le hk U2.out.size) (by simp; omega)).trans (U2.out.block k hk hn)⟩
theorem rword_any (i : In) (W : World) : Calls Tryz.prog 11 #[(.agg #[.int .i64 (i.op), .int .i64 (i.d), .int .i64 (i.a), .int .i64 (i.b), .int .i64 (i.n)])] W fun x W' => x = .returned (.int .u32 (wordV i)) ∧ Below W.heap.size W W' := by
  have hb : Hid (Below W.heap.size W (W.alloc (.cells #[.int .i64 (i.op), .int .i64 (i.d), .int .i64 (i.a), .int .i64 (i.b), .int .i64 (i.n)] 37))) := (Below.refl _ _).alloc (Nat.le_refl _) _
  have HN : Hid (ObjAt (W.alloc (.cells #[.int .i64 (i.op), .int .i64 (i.d), .int .i64 (i.a), .int .i64 (i.b), .int .i64 (i.n)] 37)) W.heap.size 37 (insL i)) := ObjAt.new W _ _
  go_enter Tryz.func11, Tryz.ntmps11
  go_upto_region 1 with fail
  generalize W.alloc (.cells #[.int .i64 (i.op), .int .i64 (i.d), .int .i64 (i.a), .int .i64 (i.b), .int .i64 (i.n)] 37) = W1 at hb HN ⊢
  have c0 := HN.out.cell 0 _ rfl; have c1 := HN.out.cell 1 _ rfl; have c2 := HN.out.cell 2 _ rfl; have c3 := HN.out.cell 3 _ rfl; have c4 := HN.out.cell 4 _ rfl
  go_wp2_with (go_at_call 39; refine (Isa.Encode_ref i.op i.d i.a i.b i.n _).mono ?_; rintro x W2 ⟨rfl, hb2⟩; have HB2 := Lib.hid (hb.out.trans (hb2.mono hb.out.size)); clear hb2)
  go_ret
  exact ⟨rfl, HB2.out⟩
/-- A function of the reference under way. -/
structure RX (W0 W : World) (m q : Nat) (i : In) (g e : Nat) (r : List Int) (pc : Int) (cr : List Int) (id : Int) : Prop where
  ei : ObjAt W m 37 (insL i)
  eg : ObjAt W q 32 eff0
  f : Regs.RefAt W g r pc
  k : Csr.RefC W e cr id
  mod : Mod [g, e] W0 W
  hq : W0.heap.size ≤ q
theorem RX.nge (h : RX W0 W m q i g e r pc cr id) : g ≠ e := (RefAtO h.f).ne h.k.2 (by decide)
theorem RX.below (h : RX W0 W m q i g e r pc cr id) (hb : Below W.heap.size W W') : RX W0 W' m q i g e r pc cr id :=
  ⟨h.ei.below hb, h.eg.below hb, h.f.below hb, h.k.below hb, h.mod.trans (Mod.ofBelow hb), h.hq⟩
theorem RX.new (h1 : Regs.RefAt W g r pc) (h2 : Csr.RefC W e cr id) : RX W ((W.alloc (.cells #[.int .i64 (i.op), .int .i64 (i.d), .int .i64 (i.a), .int .i64 (i.b), .int .i64 (i.n)] 37)).alloc (.cells #[.int .i64 0, .int .u32 0, .int .u32 0, .int .i64 0, .bool false, .int .i64 0, .int .u32 0, .int .u32 0, .int .u32 0] 32)) W.heap.size (W.heap.size + 1) i g e r pc cr id := by
  have e1 : (W.alloc (.cells #[.int .i64 (i.op), .int .i64 (i.d), .int .i64 (i.a), .int .i64 (i.b), .int .i64 (i.n)] 37)).heap.size = W.heap.size + 1 := by unfold World.alloc; exact Array.size_push _
  have hb : Below W.heap.size W ((W.alloc (.cells #[.int .i64 (i.op), .int .i64 (i.d), .int .i64 (i.a), .int .i64 (i.b), .int .i64 (i.n)] 37)).alloc (.cells #[.int .i64 0, .int .u32 0, .int .u32 0, .int .i64 0, .bool false, .int .i64 0, .int .u32 0, .int .u32 0, .int .u32 0] 32)) := ((Below.refl _ _).alloc (Nat.le_refl _) _).alloc (by omega) _
  refine ⟨(ObjAt.new W _ (insL i)).below ((Below.refl _ _).alloc (Nat.le_refl _) _), ?_, h1.below hb, h2.below hb, Mod.ofBelow hb, by omega⟩
  rw [← e1]
  exact ObjAt.new _ _ eff0
theorem RX.toF (h : RX W0 W m q i g e r pc cr id) (hf : Regs.RefAt W' g r' pc') (hu : Upd g W W') : RX W0 W' m q i g e r' pc' cr id :=
  ⟨h.ei.upd hu (h.ei.ne (RefAtO h.f) (by decide)), h.eg.upd hu (h.eg.ne (RefAtO h.f) (by decide)), hf, h.k.upd hu h.nge.symm, h.mod.trans (modB e hu), h.hq⟩
theorem RX.toK (h : RX W0 W m q i g e r pc cr id) (hf : Csr.RefC W' e cr' id) (hu : Upd e W W') : RX W0 W' m q i g e r pc cr' id :=
  ⟨h.ei.upd hu (h.ei.ne h.k.2 (by decide)), h.eg.upd hu (h.eg.ne h.k.2 (by decide)), Regs.RefAt.upd h.f hu h.nge, hf, h.mod.trans (modC g hu), h.hq⟩
theorem RX.to (h : RX W0 W m q i g e r pc cr id) (hf : Regs.RefAt W' g r' pc') (hk : Csr.RefC W' e cr' id) (hm : Mod [g, e] W W') : RX W0 W' m q i g e r' pc' cr' id := by
  have n1 := h.ei.ne (RefAtO h.f) (by decide)
  have n2 := h.ei.ne h.k.2 (by decide)
  have n3 := h.eg.ne (RefAtO h.f) (by decide)
  have n4 := h.eg.ne h.k.2 (by decide)
  exact ⟨h.ei.mod hm (by simp; omega), h.eg.mod hm (by simp; omega), hf, hk, h.mod.trans hm, h.hq⟩
theorem RX.row (h : RX W0 W m q i g e r pc cr id) (x : Array Value) : Regs.RefAt (W.setRow q x) g r pc ∧ Csr.RefC (W.setRow q x) e cr id ∧ Mod [g, e] W0 (W.setRow q x) := by
  have hu := Upd.setRow W q x
  refine ⟨Regs.RefAt.upd h.f hu ((RefAtO h.f).ne h.eg (by decide)), h.k.upd hu (h.k.2.ne h.eg (by decide)), ?_⟩
  exact ⟨hu.os.trans h.mod.os, hu.tape.trans h.mod.tape, hu.output.trans h.mod.output, Nat.le_trans h.mod.size hu.size, fun k hk hm => (hu.block k (Nat.lt_of_lt_of_le hk h.mod.size) (by have := h.hq; simp; omega)).trans (h.mod.block k hk hm)⟩
def RPost (g e : Nat) (id : Int) (o : Out) (W : World) (x : Ending) (W' : World) : Prop :=
  x = .returned (.agg o.ef.toArray) ∧ Regs.RefAt W' g o.r o.pc ∧ Csr.RefC W' e o.cr id ∧ Mod [g, e] W W'
end Go.Proofs.YtiohfdhmkikckaaGreatDoor
