/- Package disk: put. -/
import Derived.Test.YtlafijnmoaenaaaDisk2
import Derived.Deep.RegionHeld3
namespace Go.Proofs.Ytlafijnmoaenaaa
set_option linter.unusedVariables false
set_option linter.unusedSimpArgs false
set_option linter.unnecessarySimpa false
open Go.RowKit Go.Sort
set_option maxHeartbeats 400000
set_option maxRecDepth 100000

/-- A whole array loaded, among reads. -/
theorem wpStill_load_mid {P : Program} {ops : Array Oper} {w : World} {Q : Act → Prop} {a : Act} {o : Oper} {rest : List Oper} (hg : o.guard = none) (ty : TypeId) (x : Operand) (ho : o.op = .load ty x)
    (b off : Nat) (hx : a.eval x = .pointer (some ⟨b, off, none⟩)) (cs : List Value) (d : TypeDesc) (hc : w.rangeAt b off cs) (hu : P.underlying ty = some d) (hd : d.isRow = true) (hi : (P.info? ty).map (·.size) = some cs.length)
    (h : wpStill P ops w Q rest (a.put o.dst (.agg cs.toArray))) : wpStill P ops w Q (o :: rest) a := by
  refine wpStill_step (fun K hK => ?_)
  have hw : Region.wanted o (yielded ops a.tmps) = true := by simp [Region.wanted, hg]
  rw [if_pos hw]
  have hr : (execOp a.eval o).run P w = .ok (.value (.agg cs.toArray)) w := by
    unfold execOp
    simp only [ho, hx, Instr.loadAt, Instr.sureAddr, Sem.run_bind, Sem.run_pure, Result.andThen_ok, run_loadVar_mid w b off ty cs d hc hu hd hi]
  unfold Oper.still
  rw [hr, Oper.stillUpon_value]
  exact hK _ h
def zLit : Value := .agg #[.int .u8 0, .int .u8 0, .int .u8 0, .int .u8 0, .int .u8 0, .int .u8 0, .int .u8 0, .int .u8 0, .int .u8 0, .int .u8 0, .int .u8 0, .int .u8 0, .int .u8 0, .int .u8 0, .int .u8 0, .int .u8 0]
theorem z_lit : (bC z16).toArray = #[.int .u8 0, .int .u8 0, .int .u8 0, .int .u8 0, .int .u8 0, .int .u8 0, .int .u8 0, .int .u8 0, .int .u8 0, .int .u8 0, .int .u8 0, .int .u8 0, .int .u8 0, .int .u8 0, .int .u8 0, .int .u8 0] := by kernel_rfl
theorem eq_zero (s : List Int) (hs : s.length = 16) (w : World) : (Op.equalIn 10000 80 (.agg (bC s).toArray) zLit).run Try.prog w = .ok (s == z16) w := by
  have h := run_equalIn_array_int (P := Try.prog) (w := w) 9998 s z16 Try.underlying80 Try.underlying5 info_u8
  have h2 := h hs rfl
  have e : zLit = .agg (bC z16).toArray := by unfold zLit; rw [z_lit]
  rw [e]
  exact h2
def PutPost (mb : Nat) (n : Nat) (f : Nat → List Int) (w : World) (e : Ending) (w' : World) : Prop := e = .returned (.tuple #[]) ∧ MapF w' mb n f ∧ Mod [mb] w w'
theorem put_any (B dd tt cap lc mb n : Nat) (a la : Option Addr) (R : List Rn) (lb : List Int) (f : Nat → List Int) (k : Nat) (hk : k < 32) (ba : Option Addr) (c : Nat) (s : List Int) (hs : s.length = 16) (w : World) (h : DS w B dd tt a cap R la lc lb mb n f) (hr : Rd w 1 ba 16 (bC s)) (hn : n < 1000000) :
    Calls Try.prog 25 #[.pointer (some ⟨dd, 0, none⟩), .int .i64 k, .slice ba 16 c] w (PutPost mb (n + 1) (upd f k s) w) := by
  have H := Lib.hid h
  have hdd := h.obj.lt
  have c2 := h.obj.cell 2 _ rfl
  obtain ⟨ad, rfl⟩ : ∃ ad, ba = some ad := Option.ne_none_iff_exists'.1 (fun h0 => by have := hr.2.1 h0; omega)
  obtain ⟨bb, bo, rfl, hbb, hrc⟩ := hr.2.2 ad rfl (by intro h0; have := bC_len s; rw [h0] at this; simp at this; omega)
  obtain ⟨W1, hW1⟩ : ∃ W1, W1 = w.alloc (.cells (bC z16).toArray 80) := ⟨_, rfl⟩
  have hb1 : Below w.heap.size w W1 := by rw [hW1]; exact (Below.refl _ _).alloc (Nat.le_refl _) _
  have hG : W1.heap[w.heap.size]? = some (.cells (bC z16).toArray 80 (0, 0)) := by rw [hW1]; exact new_block w _ _ rfl
  have HSRC : ∀ j v, (bC s)[j]? = some v → W1.cell? ((⟨bb, bo, none⟩ : Addr).add j) = some v := fun j v hv => by
    have e : (⟨bb, bo, none⟩ : Addr).add j = ⟨bb, bo + j, none⟩ := by unfold Addr.add; split <;> simp_all
    rw [e]; exact (hb1.cell (p := ⟨bb, bo + j, none⟩) hbb).trans (hrc j v hv)
  obtain ⟨W2, hW2⟩ : ∃ W2, W2 = W1.setRow w.heap.size (bC s).toArray := ⟨_, rfl⟩
  have hcp := copy16 W1 w.heap.size (bC z16) 80 ⟨bb, bo, none⟩ 16 c s hs hG (by rw [bC_len]; rfl) HSRC
  rw [← hW2] at hcp
  have hS : W2.heap[w.heap.size]? = some (.cells (bC s).toArray 80 (0, 0)) := by rw [hW2]; exact setRow_at hG
  have hb2 : Below w.heap.size w W2 := by rw [hW2]; exact below_setRow hb1 (Nat.le_refl _) _
  have H2 := Lib.hid (h.below hb2)
  have HB2 := Lib.hid hb2
  rw [hW1, z_lit] at hcp
  have HW2 := Lib.hid hW2
  have hrow : Hid (W2.rangeAt w.heap.size 0 (bC s)) := fun j v hv => cell_at hS _ v (by simpa using hv)
  have HL : Hid ((bC s).length = 16) := by rw [Hid, bC_len, hs]
  have hq := fun w => eq_zero s hs w
  have hdd2 : W2.cell? ⟨dd, 2, none⟩ = some (.map (some mb)) := H2.out.obj.cell 2 _ rfl
  obtain ⟨D, hD, hat⟩ := H2.out.m
  have HD := Lib.hid hD; have HAT := Lib.hid hat
  clear hr h hb2 hb1 hG HSRC hrc hD hat c2 hW2 hS
  by_cases hz : s = z16
  · have ez : (s == z16) = true := by simpa using hz
    rw [ez] at hq
    unfold zLit at hq
    have HZ := Lib.hid hz
    clear hz
    obtain ⟨w3, hdel, hm3, ht3⟩ := HD.out.drop key_ok Try.underlying26 (key_of k hk) 0
    have HM3 : Hid (MapF w3 mb (n + 1) (upd f k s)) := by rw [Hid, HZ.out]; exact MapF.mono ⟨_, hm3, MapF.del_ HAT.out⟩ (Nat.le_succ n)
    have HT3 : Hid (Mod [mb] w w3) := (Mod.ofBelow HB2.out).trans (Mod.ofTurned ht3)
    clear hm3 ht3
    go_enter Try.func25, Try.ntmps25
    go_wp2_with (refine wpList_load_mid rfl 80 (.tmp 6) rfl w.heap.size 0 rfl (bC s) _ hrow.out Try.underlying80 rfl (by rw [info_sec, HL.out]) ?_)
    go_end0
    exact ⟨rfl, HM3.out, HT3.out⟩
  · have ez : (s == z16) = false := by simpa using hz
    rw [ez] at hq
    unfold zLit at hq
    have HZ := Lib.hid hz
    clear hz
    go_enter Try.func25, Try.ntmps25
    go_wp2_with (refine wpList_load_mid rfl 80 (.tmp 6) rfl w.heap.size 0 rfl (bC s) _ hrow.out Try.underlying80 rfl (by rw [info_sec, HL.out]) ?_)
    refine wp_region_still_tail 6 (by kernel_rfl) (by kernel_rfl) ?_; simp only [List.take_succ_cons, List.take_zero, List.drop_succ_cons, List.drop_zero]; obtain ⟨W4, hW4⟩ : ∃ x, x = World.drew W2 := ⟨_, rfl⟩; change wpStill _ _ (World.drew W2) (fun a' => wpList _ _ _ _ a' (World.drew W2)) _ _; rw [← hW4]
    have hd4 : W4.cell? ⟨dd, 2, none⟩ = some (.map (some mb)) := by rw [hW4]; exact hdd2
    have hrow4 : Hid (W4.rangeAt w.heap.size 0 (bC s)) := by rw [hW4]; exact hrow.out
    have HD4 : Hid (W4.ownsMap Try.prog 3 secR mb n D) := by rw [Hid, hW4]; exact HD.out.drew
    have HB4 : Hid (Below w.heap.size w W4) := by rw [Hid, hW4]; exact HB2.out.drew
    clear hW4 hdd2
    repeat still_step
    refine wpStill_load_mid rfl 80 (.tmp 6) rfl w.heap.size 0 rfl (bC s) _ hrow4.out Try.underlying80 rfl (by rw [info_sec, HL.out]) ?_
    refine wpStill_nil ?_
    obtain ⟨w5, hst, hm5, ht5⟩ := HD4.out.store key_ok Try.underlying26 (by simp only [maxLen]; omega) (key_of k hk) (secR_mk s)
    have HM5 : Hid (MapF w5 mb (n + 1) (upd f k s)) := ⟨_, hm5, MapF.put_ HAT.out (by obtain ⟨es, cl, _, _, _, e⟩ := HD4.out; exact ⟨_, e⟩)⟩
    have HT5 : Hid (Mod [mb] w w5) := (Mod.ofBelow HB4.out).trans (Mod.ofTurned ht5)
    clear hm5 ht5
    go_wp2_with fail
    go_end0
    exact ⟨rfl, HM5.out, HT5.out⟩
end Go.Proofs.Ytlafijnmoaenaaa
