/- Events compared; the reference's Same; the last event. -/
import Derived.Test.YtcffdceadmdecaaDoorTr1
namespace Go.Proofs.YtcffdceadmdecaaDoor
set_option linter.unusedVariables false
set_option linter.unusedSimpArgs false
set_option linter.unnecessarySimpa false
open Go.RowKit Go.Sort
set_option maxHeartbeats 1000000
set_option maxRecDepth 100000
set_option linter.unusedVariables false

def i32 (l : List Nat) : List Int := l.map fun n : Nat => (n : Int)
theorem u32C_i32 (l : List Nat) : u32C l = (i32 l).map (Value.int .u32) := by simp [u32C, i32]
theorem i32_beq (a b : List Nat) : (i32 a == i32 b) = decide (a = b) := by
  have : i32 a = i32 b ↔ a = b := by
    constructor
    · intro h
      exact (List.map_inj_right (fun x y h => Int.ofNat.inj h)).1 h
    · rintro rfl; rfl
  by_cases h : a = b
  · subst h; simp
  · have : ¬ i32 a = i32 b := fun h' => h (this.1 h')
    simp [h, this]
theorem info_u32 : ((Tryd.prog).info? 22).map (·.size) = some 1 := by kernel_rfl
theorem stood_ev : (Tryd.prog).stoodInHeld 25 = false := by kernel_rfl
theorem part_k (e : Ev) (w : World) : (part 3 e.cells.toArray 0).run Tryd.prog w = .ok (.int .i64 e.k) w := by kernel_rfl
theorem part_clock (e : Ev) (w : World) : (part 3 e.cells.toArray 1).run Tryd.prog w = .ok (.int .i64 e.clock) w := by kernel_rfl
theorem part_code (e : Ev) (w : World) : (part 22 e.cells.toArray 2).run Tryd.prog w = .ok (.int .u32 (e.code : Int)) w := by kernel_rfl
theorem part_val (e : Ev) (w : World) : (part 22 e.cells.toArray 3).run Tryd.prog w = .ok (.int .u32 (e.val : Int)) w := by kernel_rfl
theorem part_pc (e : Ev) (w : World) : (part 22 e.cells.toArray 4).run Tryd.prog w = .ok (.int .u32 (e.pc : Int)) w := by kernel_rfl
theorem part_rs (e : Ev) (h : e.rs.length = 16) (w : World) : (part 23 e.cells.toArray 5).run Tryd.prog w = .ok (.agg ((i32 e.rs).map (Value.int .u32)).toArray) w := by
  obtain ⟨k, ck, cd, vl, pc, rs⟩ := e
  obtain ⟨r0, r1, r2, r3, r4, r5, r6, r7, r8, r9, r10, r11, r12, r13, r14, r15, rfl⟩ := list16 rs h
  kernel_rfl
theorem ev_ext (a b : Ev) : decide (a = b) = (decide (a.k = b.k) && (decide (a.clock = b.clock) && (decide (a.code = b.code) && (decide (a.val = b.val) && (decide (a.pc = b.pc) && decide (a.rs = b.rs)))))) := by
  obtain ⟨k, ck, cd, vl, pc, rs⟩ := a
  obtain ⟨k', ck', cd', vl', pc', rs'⟩ := b
  simp [Ev.mk.injEq]
theorem listF6 : ∀ (l : List Field), l.length = 6 → ∃ f0 f1 f2 f3 f4 f5 : Field, l = [f0, f1, f2, f3, f4, f5]
  | [f0, f1, f2, f3, f4, f5], _ => ⟨f0, f1, f2, f3, f4, f5, rfl⟩
theorem eq_ev (a b : Ev) (oa : a.rs.length = 16) (ob : b.rs.length = 16) (w : World) : (Op.equalIn 10000 25 (.agg a.cells.toArray) (.agg b.cells.toArray)).run Tryd.prog w = .ok (decide (a = b)) w := by
  have hf : ((Tryd.prog).fieldsOf 25).toList.map (fun f => (f.type, f.offset, f.name)) = [(3, 0, "K"), (3, 1, "Clock"), (22, 2, "Code"), (22, 3, "Val"), (22, 4, "Pc"), (23, 5, "Regs")] := by kernel_rfl
  rw [run_equalIn_struct w 9999 25 _ _ Tryd.underlying25 stood_ev]
  have e6 := run_equalIn_array_int (P := Tryd.prog) (w := w) 9997 (i32 a.rs) (i32 b.rs) Tryd.underlying23 Tryd.underlying22 info_u32 (by simp [i32, oa]) (by simp [i32, ob])
  rw [i32_beq] at e6
  generalize ((Tryd.prog).fieldsOf 25).toList = fs at hf
  have hlen : fs.length = 6 := by have := congrArg List.length hf; simpa using this
  obtain ⟨f0, f1, f2, f3, f4, f5, rfl⟩ := listF6 fs hlen
  · simp only [List.map_cons, List.map_nil, List.cons.injEq, Prod.mk.injEq, and_true] at hf
    obtain ⟨⟨a0, b0, c0⟩, ⟨a1, b1, c1⟩, ⟨a2, b2, c2⟩, ⟨a3, b3, c3⟩, ⟨a4, b4, c4⟩, ⟨a5, b5, c5⟩⟩ := hf
    rw [ev_ext]
    simp [Op.eqFields, a0, a1, a2, a3, a4, a5, b0, b1, b2, b3, b4, b5, c0, c1, c2, c3, c4, c5, Sem.run_bind, part_k, part_clock, part_code, part_val, part_pc, part_rs a oa, part_rs b ob, run_equalIn_int w _ 3 .i64 .i64 _ _ Tryd.underlying3, run_equalIn_int w _ 22 .u32 .u32 _ _ Tryd.underlying22, e6]
    by_cases h0 : a.k = b.k <;> by_cases h1 : a.clock = b.clock <;> by_cases h2 : a.code = b.code <;> by_cases h3 : a.val = b.val <;> by_cases h4 : a.pc = b.pc <;> by_cases h5 : a.rs = b.rs <;> simp [h0, h1, h2, h3, h4, h5] <;> (try omega)

/-- Events' slices, side by side. -/
def RdE (w : World) (a : Option Addr) (l : List Ev) : Prop := Rd w 21 a l.length (evF l)
theorem RdE.ev {w : World} {a : Option Addr} {l : List Ev} (h : RdE w a l) (oks : Oks l) (k : Nat) (hk : k < l.length) : ∃ b o, a = some ⟨b, o, none⟩ ∧ ∀ w', Below w.heap.size w w' → w'.rangeAt b (o + k * 21) l[k].cells := by
  have hne : evF l ≠ [] := fun h0 => by have := evF_len l oks; rw [h0] at this; simp at this; omega
  obtain ⟨p, hp⟩ : ∃ p, a = some p := by
    cases a with
    | none => exact absurd (h.2.1 rfl) (by omega)
    | some p => exact ⟨p, rfl⟩
  obtain ⟨b, o, rfl, hlt, hc⟩ := h.2.2 p hp hne
  refine ⟨b, o, hp, fun w' hb j u hj => ?_⟩
  have hjl : j < 21 := by have := (List.getElem?_eq_some_iff.1 hj).1; rw [cells_len (oks _ (List.getElem_mem hk))] at this; exact this
  have := hc (k * 21 + j) u (by rw [evF_get l oks k j hk hjl]; exact hj)
  rw [Nat.add_assoc]; exact (hb.cell (p := ⟨b, o + (k * 21 + j), none⟩) hlt).trans this
theorem take_step (a b : List Ev) (k : Nat) (ha : k < a.length) (hb : k < b.length) : a.take (k + 1) = b.take (k + 1) ↔ a.take k = b.take k ∧ a[k] = b[k] := by
  rw [List.take_add_one, List.take_add_one, List.getElem?_eq_getElem ha, List.getElem?_eq_getElem hb]
  simp only [Option.toList_some]
  constructor
  · intro h
    have := List.append_inj' h rfl
    exact ⟨this.1, by simpa using this.2⟩
  · rintro ⟨h1, h2⟩; rw [h1, h2]
theorem wpStill_load_mid {P : Program} {ops : Array Oper} {w : World} {Q : Act → Prop} {a : Act} {o : Oper} {rest : List Oper} (hg : o.guard = none) (ty : TypeId) (x : Operand) (ho : o.op = .load ty x)
    (b off : Nat) (hx : a.eval x = .pointer (some ⟨b, off, none⟩)) (cs : List Value) (d : TypeDesc) (hc : w.rangeAt b off cs) (hu : P.underlying ty = some d) (hd : d.isRow = true) (hi : (P.info? ty).map (·.size) = some cs.length)
    (h : wpStill P ops w Q rest (a.put o.dst (.agg cs.toArray))) : wpStill P ops w Q (o :: rest) a := by
  refine wpStill_step (fun K hK => ?_)
  have hw : Region.wanted o (yielded ops a.tmps) = true := by simp [Region.wanted, hg]
  rw [if_pos hw]
  have hr : (execOp a.eval o).run P w = .ok (.value (.agg cs.toArray)) w := by
    unfold execOp
    simp only [ho, hx, Instr.loadAt, Instr.sureAddr, Sem.run_bind, Sem.run_pure, Result.andThen_ok, run_loadVar_mid w b off ty cs d hc hu hd hi]
  unfold Oper.still
  rw [hr, Oper.stillUpon_value]
  exact hK _ h
theorem region_still_drew {P : Program} {id : Nat} {Q : Exit → Act → World → Prop} {a : Act} {w : World} {l : List Oper} (hm : P.follows .mixedOrders = true) (hB : Region.lexB .any l.toArray = true)
    (h : ∀ W, W = w.drew → wpStill P l.toArray W (fun a' => Q .normal a' W) l a) : (Code.region id l.toArray true).wp P Q a w := wp_region_still_lit hm hB (h _ rfl)
theorem rsame_any (a1 a2 : Option Addr) (c1 c2 : Nat) (l1 l2 : List Ev) (w : World) (h1 : RdE w a1 l1) (h2 : RdE w a2 l2) (o1 : Oks l1) (o2 : Oks l2) (n1 : l1.length ≤ 9223372036854775807) (n2 : l2.length ≤ 9223372036854775807) :
    Calls Tryd.prog 11 #[.slice a1 l1.length c1, .slice a2 l2.length c2] w fun x w' => x = .returned (.bool (decide (l1 = l2))) ∧ Below w.heap.size w w' := by
  by_cases hl : l1.length = l2.length
  · have d0 : ((l1.length : Int) != (l2.length : Int)) = false := by simp [hl]
    have HL := Lib.hid hl
    have H1 := Lib.hid h1; have H2 := Lib.hid h2; have O1 := Lib.hid o1; have O2 := Lib.hid o2
    have N1 := Lib.hid n1
    clear hl h1 h2 o1 o2
    go_enter Tryd.func11, Tryd.ntmps11
    go_wp2
    go_loopw [5] (fun i wr => ∃ k : Nat, k ≤ l1.length ∧ i = .int .i64 k ∧ Below w.heap.size w wr ∧ l1.take k = l2.take k) (fun i _ => l1.length - (intOf i).toNat)
    case atStart => exact ⟨0, by omega, rfl, Below.refl _ _, by simp⟩
    case round =>
      obtain ⟨k, hk, rfl, hb, ht⟩ := hrel
      have HB := Lib.hid hb; have HT := Lib.hid ht
      clear hb ht
      by_cases hkl : k < l1.length
      · have hkl2 : k < l2.length := by rw [← HL.out]; exact hkl
        have d1 : decide ((k : Int) < (l1.length : Int)) = true := by simp; omega
        have d2 : decide ((k : Int) < (l2.length : Int)) = true := by simp; omega
        have i1 : (0 : Int) ≤ (k : Int) := by omega
        have i2 : (k : Int) < (l1.length : Int) := by omega
        have i3 : (k : Int) < (l2.length : Int) := by omega
        have w1 : IntKind.i64.wrap ((k : Int) + 1) = (k : Int) + 1 := by rw [IntKind.wrap_i64]; have := N1.out; omega
        obtain ⟨b1, s1, rfl, r1⟩ := H1.out.ev O1.out k hkl
        obtain ⟨b2, s2, rfl, r2⟩ := H2.out.ev O2.out k hkl2
        have R1 := Lib.hid r1; have R2 := Lib.hid r2
        have hq := eq_ev l1[k] l2[k] (O1.out _ (List.getElem_mem hkl)).len (O2.out _ (List.getElem_mem hkl2)).len
        have L1 := Lib.hid (cells_len (O1.out _ (List.getElem_mem hkl)))
        have L2 := Lib.hid (cells_len (O2.out _ (List.getElem_mem hkl2)))
        have HS := Lib.hid (take_step l1 l2 k hkl hkl2)
        generalize l1[k] = x1 at r1 R1 hq L1 HS
        generalize l2[k] = x2 at r2 R2 hq L2 HS
        clear r1 r2
        go_wp2_with fail
        refine region_still_drew (by kernel_rfl) (by kernel_rfl) (fun W1 hW1 => ?_)
        have Q1 : Hid (W1.rangeAt b1 (s1 + k * 21) x1.cells) := by rw [Hid, hW1]; exact R1.out _ HB.out.drew
        have Q2 : Hid (W1.rangeAt b2 (s2 + k * 21) x2.cells) := by rw [Hid, hW1]; exact R2.out _ HB.out.drew
        have HB1 : Hid (Below w.heap.size w W1) := by rw [Hid, hW1]; exact HB.out.drew
        clear hW1
        still_step
        still_step
        still_step
        refine wpStill_load_mid rfl 25 (.tmp 25) rfl b1 (s1 + k * 21) rfl x1.cells _ Q1.out Tryd.underlying25 rfl (by rw [info_ev2, L1.out]) ?_
        still_step
        still_step
        still_step
        refine wpStill_load_mid rfl 25 (.tmp 29) rfl b2 (s2 + k * 21) rfl x2.cells _ Q2.out Tryd.underlying25 rfl (by rw [info_ev2, L2.out]) ?_
        have hq1 := hq W1
        still_step
        refine wpStill_nil ?_
        by_cases hx : x1 = x2
        · have e1 : decide (x1 = x2) = true := by simp [hx]
          rw [e1]
          go_wp2_with fail
          go_roundw
          case rel => exact ⟨k + 1, by omega, by go_num, HB1.out, HS.out.2 ⟨HT.out, hx⟩⟩
          case measure => simp [intOf]; omega
        · have e1 : decide (x1 = x2) = false := by simp [hx]
          rw [e1]
          go_wp2_with fail
          go_ret
          exact ⟨ret_bool (by symm; simp only [decide_eq_false_iff_not]; intro h; exact hx (HS.out.1 (by rw [h])).2), HB1.out⟩
      · obtain rfl : k = l1.length := by omega
        have d1 : decide ((l1.length : Int) < (l1.length : Int)) = false := by simp
        have e2 : l1 = l2 := by
          have h := HT.out
          rw [List.take_length, List.take_of_length_le (by rw [HL.out]; omega)] at h
          exact h
        have HE := Lib.hid e2
        clear e2
        go_wp2_with fail
        go_ret
        exact ⟨ret_bool (by rw [HE.out]; simp), HB.out⟩
  · have d0 : ((l1.length : Int) != (l2.length : Int)) = true := by simp; omega
    go_enter Tryd.func11, Tryd.ntmps11
    go_wp2
    go_ret
    exact ⟨ret_bool (by simp; intro h; exact hl (by rw [h])), Below.refl _ _⟩

def haltEv : Ev := ⟨4, 0, 0, 0, 0, [0, 0, 0, 0, 0, 0, 0, 0, 0, 0, 0, 0, 0, 0, 0, 0]⟩
def halt5Ev : Ev := ⟨4, 3, 0, 0, 8, [0, 5, 0, 0, 0, 0, 0, 0, 0, 0, 0, 0, 0, 0, 0, 0]⟩
theorem halt_ok : haltEv.Ok := ⟨by decide, by decide, by decide, by decide, by decide, rfl, by decide⟩
theorem halt5_ok : halt5Ev.Ok := ⟨by decide, by decide, by decide, by decide, by decide, rfl, by decide⟩
theorem halt5_text : textL halt5Ev = [104, 97, 108, 116, 32, 51, 32, 48, 32, 48, 32, 56, 32, 114, 49, 61, 53] := by
  have d0 : Lib.decDigits 0 = [48] := Lib.decDigits_one (by omega)
  have d1 : Lib.decDigits 1 = [49] := Lib.decDigits_one (by omega)
  have d3 : Lib.decDigits 3 = [51] := Lib.decDigits_one (by omega)
  have d5 : Lib.decDigits 5 = [53] := Lib.decDigits_one (by omega)
  have d8 : Lib.decDigits 8 = [56] := Lib.decDigits_one (by omega)
  have i3 : Lib.itoa 3 = [51] := by rw [show (3 : Int) = ((3 : Nat) : Int) from rfl, Lib.itoa_nonneg, d3]
  simp [textL, headL, halt5Ev, wordL, wordsL, numL, unsL, regsL, regL, d0, d1, d3, d5, d8, i3]
theorem awake_any (w : World) (hW : WordsIs w) (hP : PowIs w) : Calls Tryd.prog 8 #[] w fun x w' => x = .returned (.bool true) ∧ Below w.heap.size w w' := by
  have hT : ∀ w : World, WordsIs w → PowIs w → Calls Tryd.prog 7 #[.agg halt5Ev.cells.toArray] w fun x w' => x = .returned (.string ⟨#[104, 97, 108, 116, 32, 51, 32, 48, 32, 48, 32, 56, 32, 114, 49, 61, 53]⟩) ∧ Below w.heap.size w w' := fun w h1 h2 => by
    have := text_ev halt5Ev halt5_ok w h1 h2
    rw [halt5_text] at this
    exact this
  have hA : ∀ w B b, TrO w B b none 0 [] → B ≤ w.heap.size → Calls Tryd.prog 13 #[.pointer (some ⟨b, 0, none⟩), .agg haltEv.cells.toArray] w fun x w' => x = .returned (.int .i64 0) ∧ ∃ a' c', TrO w' B b a' c' [haltEv] ∧ Mod [b] w w' := fun w B b h hB =>
    (add_any B b none 0 [] haltEv halt_ok w h hB).mono fun x w' hx => by
      rcases hx with ⟨_, rfl, a', c', ht, hm, _⟩ | ⟨h1, _, _⟩
      · exact ⟨rfl, a', c', ht, hm⟩
      · simp at h1
  have HT := Lib.hid hT
  have HA := Lib.hid hA
  have HW := Lib.hid hW; have HP := Lib.hid hP
  clear hT hA hW hP
  go_enter Tryd.func8, Tryd.ntmps8
  go_wp2_with (first | (go_at_call 12; refine (new_any _).mono ?_; rintro x w1 ⟨rfl, ht1, hb1⟩) | (go_at_call 13; refine (HA.out _ _ _ ht1 hb1.size).mono ?_; rintro x w2 ⟨rfl, a', c', ht2, hm2⟩; have hb2 : Below w.heap.size w w2 := hb1.trans (hm2.below (by simp) hb1.size)) | (go_at_call 14; refine (len_any _ _ _ _ _ _ ht2).mono ?_; rintro x w3 ⟨rfl, rfl⟩) | (go_at_call 7; refine (HT.out _ (HW.out.below hb2) (HP.out.below hb2)).mono ?_; rintro x w4 ⟨rfl, hb4⟩))
  go_ret
  exact ⟨rfl, hb2.trans (hb4.mono hb2.size)⟩
end Go.Proofs.YtcffdceadmdecaaDoor
