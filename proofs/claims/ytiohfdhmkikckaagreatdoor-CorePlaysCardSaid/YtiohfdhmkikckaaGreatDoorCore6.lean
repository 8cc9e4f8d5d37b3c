/- Chapter 13: Exec. -/
import Derived.Test.YtiohfdhmkikckaaGreatDoorCore5
namespace Go.Proofs.YtiohfdhmkikckaaGreatDoor
set_option linter.unusedVariables false
set_option linter.unusedSimpArgs false
set_option linter.unnecessarySimpa false
open Go.RowKit
set_option maxHeartbeats 4000000
set_option maxRecDepth 100000
set_option linter.unusedVariables false
variable {W W' W0 : World} {i : In} {p b c g : Nat} {r r' : List Int} {pc pc' : Int} {cr cr' : List Int} {id : Int} {cs : List Value}
def insL (i : In) : List Value := [.int .i64 i.op, .int .i64 i.d, .int .i64 i.a, .int .i64 i.b, .int .i64 i.n]
theorem readE0 (cr : List Int) : (Csr.readE cr 0 == 7) = false := by
  unfold Csr.readE
  split <;> simp
theorem none_any (W : World) (h : Csr.FileC W c cr id) : Calls Tryz.prog 22 #[.pointer (some ⟨c, 0, none⟩)] W fun e W' => e = .returned (.bool false) ∧ W = W' := by
  have HE := Lib.hid (readE0 cr)
  obtain ⟨v, hv⟩ : ∃ v, v = Csr.readV cr id 0 0 := ⟨_, rfl⟩
  obtain ⟨x, hx⟩ : ∃ x, x = Csr.readE cr 0 := ⟨_, rfl⟩
  rw [← hx] at HE
  have HV := Lib.hid hv; have HX := Lib.hid hx
  have H := Lib.hid h
  clear hv hx h
  have hx7 := HE.out
  go_enter Tryz.func22, Tryz.ntmps22
  go_wp2_with (go_at_call 46; refine (Csr.read_any 0 0 c cr id W H.out).mono ?_; rintro e W2 ⟨rfl, rfl⟩; rw [← HV.out, ← HX.out])
  go_ret
  exact ⟨rfl, rfl⟩
def excO (r : List Int) (pc : Int) (cr : List Int) (id : Int) (i : In) : Out :=
  if Isa.validB i.op i.d i.a i.b i.n then (if Isa.kernB i.op && !Csr.hasB (cr.getD 5 0) 4 then ⟨trapL 7 (wordV i), 0, r, pc, cr⟩ else runO r pc cr id i)
  else ⟨eff0, 6, r, pc, cr⟩
def ExPost (b c : Nat) (id : Int) (o : Out) (W : World) (e : Ending) (W' : World) : Prop :=
  e = .returned (.tuple #[.agg o.ef.toArray, .int .i64 o.er]) ∧ Regs.FileAt W' b o.r true o.pc ∧ Csr.FileC W' c o.cr id ∧ Mod [b, c] W W'
structure EX (W0 W : World) (m g : Nat) (i : In) (b c : Nat) (r : List Int) (pc : Int) (cr : List Int) (id : Int) : Prop where
  ei : ObjAt W m 37 (insL i)
  eg : ObjAt W g 32 eff0
  f : Regs.FileAt W b r true pc
  k : Csr.FileC W c cr id
  mod : Mod [b, c] W0 W
  hg : W0.heap.size ≤ g
theorem EX.below {m : Nat} (h : EX W0 W m g i b c r pc cr id) (hb : Below W.heap.size W W') : EX W0 W' m g i b c r pc cr id :=
  ⟨h.ei.below hb, h.eg.below hb, h.f.below hb, h.k.below hb, h.mod.trans (Mod.ofBelow hb), h.hg⟩
theorem EX.new (h1 : Regs.FileAt W b r true pc) (h2 : Csr.FileC W c cr id) : EX W ((W.alloc (.cells #[.int .i64 (i.op), .int .i64 (i.d), .int .i64 (i.a), .int .i64 (i.b), .int .i64 (i.n)] 37)).alloc (.cells #[.int .i64 0, .int .u32 0, .int .u32 0, .int .i64 0, .bool false, .int .i64 0, .int .u32 0, .int .u32 0, .int .u32 0] 32)) W.heap.size (W.heap.size + 1) i b c r pc cr id := by
  have e1 : (W.alloc (.cells #[.int .i64 (i.op), .int .i64 (i.d), .int .i64 (i.a), .int .i64 (i.b), .int .i64 (i.n)] 37)).heap.size = W.heap.size + 1 := by unfold World.alloc; exact Array.size_push _
  have hb : Below W.heap.size W ((W.alloc (.cells #[.int .i64 (i.op), .int .i64 (i.d), .int .i64 (i.a), .int .i64 (i.b), .int .i64 (i.n)] 37)).alloc (.cells #[.int .i64 0, .int .u32 0, .int .u32 0, .int .i64 0, .bool false, .int .i64 0, .int .u32 0, .int .u32 0, .int .u32 0] 32)) := ((Below.refl _ _).alloc (Nat.le_refl _) _).alloc (by omega) _
  refine ⟨(ObjAt.new W _ (insL i)).below ((Below.refl _ _).alloc (Nat.le_refl _) _), ?_, h1.below hb, h2.below hb, Mod.ofBelow hb, by omega⟩
  rw [← e1]
  exact ObjAt.new _ _ eff0
theorem EX.row {m : Nat} (h : EX W0 W m g i b c r pc cr id) (x : Array Value) : Regs.FileAt (W.setRow g x) b r true pc ∧ Csr.FileC (W.setRow g x) c cr id ∧ Mod [b, c] W0 (W.setRow g x) := by
  have hu := Upd.setRow W g x
  have n1 := (file_obj h.f).ne h.eg (by decide)
  have n2 := h.k.2.ne h.eg (by decide)
  refine ⟨Regs.FileAt.upd h.f hu n1, h.k.upd hu n2, ?_⟩
  exact ⟨hu.os.trans h.mod.os, hu.tape.trans h.mod.tape, hu.output.trans h.mod.output, Nat.le_trans h.mod.size hu.size, fun k hk hm => (hu.block k (Nat.lt_of_lt_of_le hk h.mod.size) (by have := h.hg; simp; omega)).trans (h.mod.block k hk hm)⟩
theorem EX.to {m p : Nat} (h : EX W0 W m g i b c r pc cr id) (hs : ST W' i p b c r' pc' cr' id) (hm : Mod [b, c] W W') : EX W0 W' m g i b c r' pc' cr' id := by
  have n1 := (file_obj h.f).ne h.eg (by decide)
  have n2 := h.k.2.ne h.eg (by decide)
  have n3 := (file_obj h.f).ne h.ei (by decide)
  have n4 := h.k.2.ne h.ei (by decide)
  exact ⟨h.ei.mod hm (by simp; omega), h.eg.mod hm (by simp; omega), hs.file, hs.csr, h.mod.trans hm, h.hg⟩
theorem EX.tab {m : Nat} (h : EX W0 W m g i b c r pc cr id) (ht : Isa.Tab W0) (h1 : Regs.FileAt W0 b r' true pc') (h2 : Csr.FileC W0 c cr' id) : Isa.Tab W := by
  refine Tab.mod ht h.mod ?_
  have n1 : 0 ≠ b := by
    intro e
    have q1 := ht 16 (by omega)
    have q2 := h1.made
    rw [e] at q1; rw [q1] at q2; cases q2
  have n2 : 0 ≠ c := by
    intro e
    have q1 := ht 8 (by omega)
    have q2 := h2.made
    rw [e] at q1; rw [q1] at q2; cases q2
  simp [n1, n2]
theorem EX.step {m : Nat} (h : EX W0 W m g i b c r pc cr id) : ST (W.alloc (.cells #[.int .i64 i.op, .int .i64 i.d, .int .i64 i.a, .int .i64 i.b, .int .i64 i.n, .pointer (some ⟨b, 0, none⟩), .pointer (some ⟨c, 0, none⟩), .int .i64 i.clk] 71)) i W.heap.size b c r pc cr id :=
  ⟨ObjAt.new W _ (stepL i b c), h.f.below ((Below.refl _ _).alloc (Nat.le_refl _) _), h.k.below ((Below.refl _ _).alloc (Nat.le_refl _) _)⟩
theorem runO_er (r : List Int) (pc : Int) (cr : List Int) (id : Int) (i : In) : (runO r pc cr id i).er = 0 := by
  simp only [runO, memO, toldO, apply_ite Out.er, ite_self]
theorem enter_of {f : FuncId} {fn : Func} {x : Code} (hf : Tryz.prog.funcs[f]? = some fn) (hname : (fn.name == "runtime.NumGoroutine") = false) (hb : fn.body = some x) (args : Array Value) (w : World) : Sem.run Tryz.prog (callFunc f args) w = .ok (.enter f args) w := by
  have h1 : fn.name ≠ "runtime.NumGoroutine" := by simpa using hname
  simp [callFunc, hf, h1, hb]
def IsEff (l : List Value) : Prop := ∃ k p a w s d v ca tv, l = effL k p a w s d v ca tv
theorem IsEff.ite {x : Prop} [Decidable x] {l m : List Value} (h1 : IsEff l) (h2 : IsEff m) : IsEff (if x then l else m) := by
  by_cases h : x
  · rw [if_pos h]; exact h1
  · rw [if_neg h]; exact h2
theorem runO_ef (r : List Int) (pc : Int) (cr : List Int) (id : Int) (i : In) : IsEff (runO r pc cr id i).ef := by
  simp only [runO, memO, toldO, apply_ite Out.ef]
  repeat' (first | exact ⟨_, _, _, _, _, _, _, _, _, rfl⟩ | refine IsEff.ite ?_ ?_)
theorem enter_how (op : Int) (args : Array Value) (w : World) : Sem.run Tryz.prog (callFunc (howF op) args) w = .ok (.enter (howF op) args) w := by
  unfold howF
  repeat' split
  · exact enter_of Tryz.func51 (by kernel_rfl) rfl args w
  · exact enter_of Tryz.func52 (by kernel_rfl) rfl args w
  · exact enter_of Tryz.func53 (by kernel_rfl) rfl args w
  · exact enter_of Tryz.func54 (by kernel_rfl) rfl args w
  · exact enter_of Tryz.func55 (by kernel_rfl) rfl args w
  · exact enter_of Tryz.func56 (by kernel_rfl) rfl args w
  · exact enter_of Tryz.func77 (by kernel_rfl) rfl args w
  · exact enter_of Tryz.func77 (by kernel_rfl) rfl args w
  · exact enter_of Tryz.func78 (by kernel_rfl) rfl args w
  · exact enter_of Tryz.func79 (by kernel_rfl) rfl args w
  · exact enter_of Tryz.func80 (by kernel_rfl) rfl args w
  · exact enter_of Tryz.func81 (by kernel_rfl) rfl args w
def zb (cr : List Int) : Bool := cr == [0, 0, 0, 0, 0, 0, 0]
theorem eq_zero (cr : List Int) (hl : cr.length = 7) (w : World) : Sem.run Tryz.prog (Op.equalIn 10000 45 (.agg (cr.map (Value.int .u32)).toArray) (.agg #[.int .u32 0, .int .u32 0, .int .u32 0, .int .u32 0, .int .u32 0, .int .u32 0, .int .u32 0])) w = .ok (zb cr) w := by
  have := run_equalIn_array_int (P := Tryz.prog) (w := w) 9998 cr [0, 0, 0, 0, 0, 0, 0] Tryz.underlying45 Tryz.underlying23 (by kernel_rfl) hl rfl
  exact this
set_option maxHeartbeats 16000000 in
theorem exec_any (hr : ROk r) (W : World) (h1 : Regs.FileAt W b r true pc) (h2 : Csr.FileC W c cr id) (ht : Isa.Tab W) :
    Calls Tryz.prog 5 #[(.agg #[.int .i64 (i.op), .int .i64 (i.d), .int .i64 (i.a), .int .i64 (i.b), .int .i64 (i.n)]), .pointer (some ⟨b, 0, none⟩), .pointer (some ⟨c, 0, none⟩), .int .i64 i.clk] W (ExPost b c id (excO r pc cr id i) W) := by
  have h0 := EX.new (i := i) h1 h2
  have HT : Hid (∀ {m g : Nat} {W' : World}, EX W W' m g i b c r pc cr id → Isa.Tab W') := fun h => h.tab ht h1 h2
  have hz := eq_zero cr h2.1
  obtain ⟨z, hz0⟩ : ∃ z, z = zb cr := ⟨_, rfl⟩
  rw [← hz0] at hz
  have HZ := Lib.hid hz
  obtain ⟨va, hva⟩ : ∃ v, v = Isa.validB i.op i.d i.a i.b i.n := ⟨_, rfl⟩
  obtain ⟨ke, hke⟩ : ∃ v, v = Isa.kernB i.op := ⟨_, rfl⟩
  obtain ⟨us, hus⟩ : ∃ v, v = !Csr.hasB (cr.getD 5 0) 4 := ⟨_, rfl⟩
  obtain ⟨o, ho⟩ : ∃ o, o = excO r pc cr id i := ⟨_, rfl⟩
  rw [← ho]
  rw [excO, ← hva, ← hke, ← hus] at ho
  have HO := Lib.hid ho
  have HVA := Lib.hid hva; have HKE := Lib.hid hke; have HUS := Lib.hid hus
  have hm0 : Regs.mayE 0 = 0 := rfl
  have HR := Lib.hid hr
  have HL := Lib.hid h2.1
  obtain ⟨mx, my, hmode⟩ : ∃ x y, Csr.modeC cr = #[.bool x, .int .i64 y, .bool us] := ⟨_, _, by rw [Csr.modeC, hus]⟩
  have HM := Lib.hid hmode
  obtain ⟨wv, hwv⟩ : ∃ x, x = wordV i := ⟨_, rfl⟩
  rw [← hwv] at HO
  have WORD : Hid (∀ W, Isa.Tab W → Calls Tryz.prog 10 #[(.agg #[.int .i64 (i.op), .int .i64 (i.d), .int .i64 (i.a), .int .i64 (i.b), .int .i64 (i.n)])] W fun e W' => e = .returned (.int .u32 wv) ∧ Below W.heap.size W W') := fun W ht => by rw [hwv]; exact Word_any i W ht
  obtain ⟨f, hf0⟩ : ∃ f, f = howF i.op := ⟨_, rfl⟩
  have hf := Lib.hid hf0
  have ENT : Hid (∀ args w, Sem.run Tryz.prog (callFunc f args) w = .ok (.enter f args) w) := fun args w => by rw [hf0]; exact enter_how i.op args w
  have RUN0 : Hid (o = runO r pc cr id i → o.er = 0) := fun h => by rw [h]; exact runO_er r pc cr id i
  have RUN2 : Hid (o = runO r pc cr id i → o.ef.length = 9 ∧ o.ef.toArray.all (·.oneCell') = true) := fun h => by
    obtain ⟨k, x1, x2, x3, x4, x5, x6, x7, x8, he⟩ := runO_ef r pc cr id i
    rw [h, he]
    exact ⟨rfl, eff_all _ _ _ _ _ _ _ _ _⟩
  have RUN1 : Hid (o = runO r pc cr id i → ∀ (W : World) (p : Nat), ST W i p b c r pc cr id → Isa.Tab W → Calls Tryz.prog f #[.pointer (some ⟨p, 0, none⟩)] W (OPost i p b c id o W)) := fun h W p hs ht => by rw [h, hf0]; exact run_any hr W hs ht
  clear hz hz0 hva hke hus ho h1 h2 ht hr hmode hwv hf0
  go_enter Tryz.func5, Tryz.ntmps5
  go_upto_region 1 with fail
  generalize (W.alloc (.cells #[.int .i64 (i.op), .int .i64 (i.d), .int .i64 (i.a), .int .i64 (i.b), .int .i64 (i.n)] 37)).alloc (.cells #[.int .i64 0, .int .u32 0, .int .u32 0, .int .i64 0, .bool false, .int .i64 0, .int .u32 0, .int .u32 0, .int .u32 0] 32) = W1 at h0 ⊢
  generalize W.heap.size + 1 = g at h0 ⊢
  generalize W.heap.size = m at h0 ⊢
  have H0 := Lib.hid h0
  clear h0
  go_upto_region 4 with (go_at_call 21; refine (Regs.get_any 0 b r pc _ H0.out.f).mono ?_; rintro e W2 ⟨rfl, rfl⟩; rw [hm0])
  have hz2 := HZ.out
  go_upto_region 6 with (first | (go_at_call 9; refine (Csr.all_any c cr id _ H0.out.k).mono ?_; rintro e W2 ⟨rfl, hb⟩; have H1 := Lib.hid (H0.out.below hb); clear hb) | (go_at_call 22; refine (none_any _ H1.out.k).mono ?_; rintro e W3 ⟨rfl, rfl⟩))
  all_goals (
    have y0 := H1.out.ei.cell 0 _ rfl; have y1 := H1.out.ei.cell 1 _ rfl; have y2 := H1.out.ei.cell 2 _ rfl; have y3 := H1.out.ei.cell 3 _ rfl; have y4 := H1.out.ei.cell 4 _ rfl
    have VAL := Lib.hid (Isa.valid_any i.op i.d i.a i.b i.n W2 (HT.out H1.out))
    rw [← HVA.out] at VAL
    cases va with
    | false =>
      go_wp2_with (first | (go_at_call 23; refine VAL.out.mono ?_; rintro e W4 ⟨rfl, hb⟩; have H2 := Lib.hid (H1.out.below hb); clear hb) | (refine wpList_store_block rfl 32 (.tmp 8) (.tmp 34) rfl g 32 _ _ rfl rfl H2.out.eg (by rw [info_eff]; rfl) rfl (eff_all 0 0 0 0 false 0 0 0 0) ?_))
      have ho : o = ⟨eff0, 6, r, pc, cr⟩ := HO.out
      subst ho
      refine bodyPost_ret (v := .tuple #[.agg eff0.toArray, .int .i64 6]) ?_ rfl ⟨rfl, H2.out.row _⟩
      exact results_row_tmp rfl _ _ g _ _ (0, 0) _ rfl (setRow_heap _ _ _ _ _ _ H2.out.eg) Tryz.underlying32 rfl (by rw [info_eff]; rfl) _ rfl
    | true =>
      have KER := Lib.hid (fun W => Isa.kernel_any i.op W)
      rw [← HKE.out] at KER
      go_upto_region 8 with (first | (go_at_call 23; refine VAL.out.mono ?_; rintro e W4 ⟨rfl, hb⟩; have H2 := Lib.hid (H1.out.below hb); clear hb))
      clear y0 y1 y2 y3 y4 VAL
      have q0 := H2.out.ei.cell 0 _ rfl; have q1 := H2.out.ei.cell 1 _ rfl; have q2 := H2.out.ei.cell 2 _ rfl; have q3 := H2.out.ei.cell 3 _ rfl; have q4 := H2.out.ei.cell 4 _ rfl
      cases ke with
      | false =>
        go_upto_region 10 with (first | (go_at_call 24; refine (KER.out _).mono ?_; rintro e W5 ⟨rfl, rfl⟩))
        have ho : o = runO r pc cr id i := HO.out
        clear q0 q1 q2 q3 q4
        have H3 := H2
        (have er0 := RUN0.out ho; have OEF := RUN2.out ho; have RUN := Lib.hid (fun W' p => RUN1.out ho W' p); have q0 := H3.out.ei.cell 0 _ rfl; have q1 := H3.out.ei.cell 1 _ rfl; have q2 := H3.out.ei.cell 2 _ rfl; have q3 := H3.out.ei.cell 3 _ rfl; have q4 := H3.out.ei.cell 4 _ rfl; clear ho; go_upto_region 11 with fail; clear q0 q1 q2 q3 q4; have SS := Lib.hid H3.out.step; have H4 := Lib.hid (H3.out.below ((Below.refl _ _).alloc (Nat.le_refl _) (.cells #[.int .i64 i.op, .int .i64 i.d, .int .i64 i.a, .int .i64 i.b, .int .i64 i.n, .pointer (some ⟨b, 0, none⟩), .pointer (some ⟨c, 0, none⟩), .int .i64 i.clk] 71))); generalize W4.alloc (.cells #[.int .i64 i.op, .int .i64 i.d, .int .i64 i.a, .int .i64 i.b, .int .i64 i.n, .pointer (some ⟨b, 0, none⟩), .pointer (some ⟨c, 0, none⟩), .int .i64 i.clk] 71) = W7 at SS H4 ⊢; generalize W4.heap.size = p at SS H4 ⊢; go_wp2_with (first | (go_at_call 27; refine (how_any f _ SS.out hf.out).mono ?_; rintro e W8 ⟨rfl, rfl⟩)); rw [ENT.out, Oper.upon_enter]; refine (RUN.out _ _ SS.out (HT.out H4.out)).mono ?_; rintro e W9 ⟨rfl, hs, hm⟩; have H9 := Lib.hid (H4.out.to hs hm); clear hs hm; dsimp only; go_wp2_with (refine wpList_store_block rfl 32 (.tmp 8) (.tmp 55) rfl g 32 _ _ rfl rfl H9.out.eg (by rw [info_eff]; simp [OEF.1]) (by simp [OEF.1, eff0, effL]) OEF.2 ?_); refine bodyPost_ret (v := .tuple #[.agg o.ef.toArray, .int .i64 0]) ?_ rfl ⟨by rw [er0], H9.out.row _⟩; exact results_row_tmp rfl _ _ g _ _ (0, 0) _ rfl (setRow_heap _ _ _ _ _ _ H9.out.eg) Tryz.underlying32 rfl (by rw [info_eff]; simp [OEF.1]) _ rfl)
      | true =>
       cases us with
       | false =>
        have hfl := Csr.fldM2 mx my false
        go_upto_region 10 with (first | (go_at_call 24; refine (KER.out _).mono ?_; rintro e W5 ⟨rfl, rfl⟩) | (go_at_call 25; refine (Csr.mode_any c cr id _ H2.out.k).mono ?_; rintro e W5 ⟨rfl, hb⟩; rw [HM.out]; have H3 := Lib.hid (H2.out.below hb); clear hb))
        have ho : o = runO r pc cr id i := HO.out
        clear q0 q1 q2 q3 q4 hfl
        (have er0 := RUN0.out ho; have OEF := RUN2.out ho; have RUN := Lib.hid (fun W' p => RUN1.out ho W' p); have q0 := H3.out.ei.cell 0 _ rfl; have q1 := H3.out.ei.cell 1 _ rfl; have q2 := H3.out.ei.cell 2 _ rfl; have q3 := H3.out.ei.cell 3 _ rfl; have q4 := H3.out.ei.cell 4 _ rfl; clear ho; go_upto_region 11 with fail; clear q0 q1 q2 q3 q4; have SS := Lib.hid H3.out.step; have H4 := Lib.hid (H3.out.below ((Below.refl _ _).alloc (Nat.le_refl _) (.cells #[.int .i64 i.op, .int .i64 i.d, .int .i64 i.a, .int .i64 i.b, .int .i64 i.n, .pointer (some ⟨b, 0, none⟩), .pointer (some ⟨c, 0, none⟩), .int .i64 i.clk] 71))); generalize W5.alloc (.cells #[.int .i64 i.op, .int .i64 i.d, .int .i64 i.a, .int .i64 i.b, .int .i64 i.n, .pointer (some ⟨b, 0, none⟩), .pointer (some ⟨c, 0, none⟩), .int .i64 i.clk] 71) = W7 at SS H4 ⊢; generalize W5.heap.size = p at SS H4 ⊢; go_wp2_with (first | (go_at_call 27; refine (how_any f _ SS.out hf.out).mono ?_; rintro e W8 ⟨rfl, rfl⟩)); rw [ENT.out, Oper.upon_enter]; refine (RUN.out _ _ SS.out (HT.out H4.out)).mono ?_; rintro e W9 ⟨rfl, hs, hm⟩; have H9 := Lib.hid (H4.out.to hs hm); clear hs hm; dsimp only; go_wp2_with (refine wpList_store_block rfl 32 (.tmp 8) (.tmp 55) rfl g 32 _ _ rfl rfl H9.out.eg (by rw [info_eff]; simp [OEF.1]) (by simp [OEF.1, eff0, effL]) OEF.2 ?_); refine bodyPost_ret (v := .tuple #[.agg o.ef.toArray, .int .i64 0]) ?_ rfl ⟨by rw [er0], H9.out.row _⟩; exact results_row_tmp rfl _ _ g _ _ (0, 0) _ rfl (setRow_heap _ _ _ _ _ _ H9.out.eg) Tryz.underlying32 rfl (by rw [info_eff]; simp [OEF.1]) _ rfl)
       | true =>
        have hfl := Csr.fldM2 mx my true
        go_upto_region 9 with (first | (go_at_call 24; refine (KER.out _).mono ?_; rintro e W5 ⟨rfl, rfl⟩) | (go_at_call 25; refine (Csr.mode_any c cr id _ H2.out.k).mono ?_; rintro e W5 ⟨rfl, hb⟩; rw [HM.out]; have H3 := Lib.hid (H2.out.below hb); clear hb))
        clear q0 q1 q2 q3 q4 hfl
        have q0 := H3.out.ei.cell 0 _ rfl; have q1 := H3.out.ei.cell 1 _ rfl; have q2 := H3.out.ei.cell 2 _ rfl; have q3 := H3.out.ei.cell 3 _ rfl; have q4 := H3.out.ei.cell 4 _ rfl
        have ho : o = ⟨trapL 7 wv, 0, r, pc, cr⟩ := HO.out
        subst ho
        go_wp2_with (first | (go_at_call 10; refine (WORD.out _ (HT.out H3.out)).mono ?_; rintro e W6 ⟨rfl, hb⟩; have H4 := Lib.hid (H3.out.below hb); clear hb) | (go_at_call 26; refine (trap_any 7 wv _).mono ?_; rintro e W7 ⟨rfl, hb⟩; have H5 := Lib.hid (H4.out.below hb); clear hb) | (refine wpList_store_block rfl 32 (.tmp 8) (.tmp 45) rfl g 32 _ _ rfl rfl H5.out.eg (by rw [info_eff]; rfl) rfl (eff_all 3 0 0 0 false 0 0 7 wv) ?_))
        refine bodyPost_ret (v := .tuple #[.agg (trapL 7 wv).toArray, .int .i64 0]) ?_ rfl ⟨rfl, H5.out.row _⟩
        exact results_row_tmp rfl _ _ g _ _ (0, 0) _ rfl (setRow_heap _ _ _ _ _ _ H5.out.eg) Tryz.underlying32 rfl (by rw [info_eff]; rfl) _ rfl)
#print axioms exec_any
end Go.Proofs.YtiohfdhmkikckaaGreatDoor
