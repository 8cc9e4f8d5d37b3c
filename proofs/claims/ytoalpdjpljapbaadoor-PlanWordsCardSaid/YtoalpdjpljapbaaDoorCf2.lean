/- Chapter 4: what is wrong: guests, slots, rings, ports. -/
import Derived.Test.YtoalpdjpljapbaaDoorCf1
namespace Go.Proofs.YtoalpdjpljapbaaDoor
set_option linter.unusedVariables false
set_option linter.unusedSimpArgs false
set_option linter.unnecessarySimpa false
open Go.RowKit
set_option maxHeartbeats 2000000
set_option maxRecDepth 100000
set_option linter.unusedVariables false
def at_ (l : List (List Int)) (i j : Nat) : Int := (l.getD i []).getD j 0
theorem at_eq {l : List (List Int)} {i : Nat} (hi : i < l.length) (j : Nat) : at_ l i j = l[i].getD j 0 := by unfold at_; rw [show l.getD i [] = l[i] from by simp [List.getD_eq_getElem?_getD, hi]]
def gBad (c : Cv) (i : Nat) : Bool := !(validB (at_ c.g.l i 0) c.cats) || (decide (at_ c.g.l i 1 < 1) || (decide (8 < at_ c.g.l i 1) || (decide (at_ c.g.l i 2 < 0) || decide (8 - at_ c.g.l i 1 < at_ c.g.l i 2))))
def sBad (c : Cv) (i : Nat) : Bool := !(isG c (at_ c.s.l i 0)) || (decide (at_ c.s.l i 1 < 1) || decide (32 < at_ c.s.l i 1))
def labG (c : Cv) (i : Int) : Int := at_ c.g.l i.toNat 0
def nBad (c : Cv) (i : Nat) : Bool := !(isG c (at_ c.n.l i 0)) || (!(isG c (at_ c.n.l i 1)) || ((at_ c.n.l i 0 == at_ c.n.l i 1) || !(flB (labG c (at_ c.n.l i 0)) (labG c (at_ c.n.l i 1)))))
def takenB (c : Cv) (who : Int) (n : Nat) : Bool := (List.range n).any fun k => at_ c.p.l k 1 == who
def pBad (c : Cv) (i : Nat) : Bool := !(validB (at_ c.p.l i 0) c.cats) || (!(at_ c.p.l i 1 == -1) && (!(isG c (at_ c.p.l i 1)) || (!(at_ c.p.l i 0 == labG c (at_ c.p.l i 1)) || takenB c (at_ c.p.l i 1) i)))
def gFst (c : Cv) : Int × Bool := if c.g.l.length < 1 ∨ 4 < c.g.l.length then (0, true) else fstV (gBad c) c.g.l.length
def sFst (c : Cv) : Int × Bool := if c.s.l.length < 1 ∨ 8 < c.s.l.length then (0, true) else fstV (sBad c) c.s.l.length
def nFst (c : Cv) : Int × Bool := if 4 < c.n.l.length then (0, true) else fstV (nBad c) c.n.l.length
def pFst (c : Cv) : Int × Bool := if 8 < c.p.l.length then (0, true) else fstV (pBad c) c.p.l.length
variable {W W' w : World} {c : Cv} {b N : Nat} {s : Sl}
/-- A row that lies in a block of its own. -/
theorem guests1_any (c : Cv) (i : Nat) (hi : i < c.g.l.length) (b : Nat) (w W : World) (h : CX w W b c) : Calls Tryd.prog 57 #[.int .i64 i, .pointer (some ⟨b, 0, none⟩)] W fun e W' => e = .returned (.bool (gBad c i)) ∧ Below W.heap.size W W' := by
  obtain ⟨bx, ox, hax, hcx⟩ := h.ok.g.cells (by omega) i hi
  obtain ⟨lb, pg, sp, hrow⟩ := row3 hi h.ok.g.len
  rw [hrow] at hcx
  have c0 := hcx _ (Below.refl _ _) 0 _ rfl; have c1 := hcx _ (Below.refl _ _) 1 _ rfl; have c2 := hcx _ (Below.refl _ _) 2 _ rfl
  simp only [Nat.add_zero] at c0
  have kz : (0 : Int) ≤ (i : Int) := by omega
  have kl : (i : Int) < (c.g.l.length : Int) := by omega
  obtain ⟨x, hx⟩ : ∃ x, x = gBad c i := ⟨_, rfl⟩
  have HG : Hid (x = (!(validB lb c.cats) || (decide (pg < 1) || (decide (8 < pg) || (decide (sp < 0) || decide (8 - pg < sp)))))) := by rw [Hid, hx, gBad, at_eq hi, at_eq hi, at_eq hi, hrow]; rfl
  rw [← hx]
  have HX := Lib.hid h
  have q1 := HX.out.ob.cell 1 _ rfl
  rw [hax] at q1
  clear hx hrow hcx h hax
  go_enter Tryd.func57, Tryd.ntmps57
  go_upto_region 2 with fail
  clear q1 c0 c1 c2
  (have R1 : Hid (ObjAt (W.alloc (.cells ([.int .i64 lb, .int .i64 pg, .int .i64 sp] : List Value).toArray 58)) W.heap.size 58 [.int .i64 lb, .int .i64 pg, .int .i64 sp]) := ObjAt.new W _ _; have B1 : Hid (Below W.heap.size W (W.alloc (.cells ([.int .i64 lb, .int .i64 pg, .int .i64 sp] : List Value).toArray 58))) := (Below.refl _ _).alloc (Nat.le_refl _) _; generalize W.alloc (.cells ([.int .i64 lb, .int .i64 pg, .int .i64 sp] : List Value).toArray 58) = W1 at R1 B1 ⊢; have X1 : Hid (CX w W1 b c) := HX.out.below B1.out)
  have r0 := R1.out.cell 0 _ rfl; have r1 := R1.out.cell 1 _ rfl; have r2 := R1.out.cell 2 _ rfl
  have q0 := X1.out.ob.cell 0 _ rfl
  obtain ⟨vb, hvb⟩ : ∃ v, v = validB lb c.cats := ⟨_, rfl⟩
  have VAL : Hid (∀ W, Calls Tryd.prog 58 #[.int .i64 lb, .int .i64 c.cats] W fun e w' => e = .returned (.bool vb) ∧ W = w') := fun W => by rw [hvb]; exact valid_any _ _ _
  rw [← hvb] at HG
  clear hvb
  cases vb with
  | false =>
    (have hx : x = true := (by rw [HG.out]; simp [*]); subst hx)
    go_wp2_with (go_at_call 58; refine (VAL.out _).mono ?_; rintro e Wv ⟨rfl, rfl⟩)
    go_ret
    exact ⟨rfl, B1.out⟩
  | true =>
    by_cases h1 : pg < 1
    · (have hx : x = true := (by rw [HG.out]; simp [*]); subst hx)
      have d1 : decide (pg < 1) = true := by simp [h1]
      clear h1
      go_wp2_with (go_at_call 58; refine (VAL.out _).mono ?_; rintro e Wv ⟨rfl, rfl⟩)
      go_ret
      exact ⟨rfl, B1.out⟩
    · have d1 : decide (pg < 1) = false := by simp [h1]
      by_cases h2 : 8 < pg
      · (have hx : x = true := (by rw [HG.out]; simp [*]); subst hx)
        have d2 : decide (pg > 8) = true := by simp [h2]
        clear h1 h2
        go_wp2_with (go_at_call 58; refine (VAL.out _).mono ?_; rintro e Wv ⟨rfl, rfl⟩)
        go_ret
        exact ⟨rfl, B1.out⟩
      · have d2 : decide (pg > 8) = false := by simpa using h2
        have w8 : IntKind.i64.wrap (8 - pg) = 8 - pg := by rw [IntKind.wrap_i64]; omega
        by_cases h3 : sp < 0
        · (have hx : x = true := (by rw [HG.out]; simp [*]); subst hx)
          have d3 : decide (sp < 0) = true := by simp [h3]
          clear h1 h2 h3
          go_wp2_with (go_at_call 58; refine (VAL.out _).mono ?_; rintro e Wv ⟨rfl, rfl⟩)
          go_ret
          exact ⟨rfl, B1.out⟩
        · have d3 : decide (sp < 0) = false := by simpa using h3
          by_cases h4 : 8 - pg < sp
          · (have hx : x = true := (by rw [HG.out]; simp [*]); subst hx)
            have d4 : decide (sp > 8 - pg) = true := by simp [h4]
            clear h1 h2 h3 h4
            go_wp2_with (go_at_call 58; refine (VAL.out _).mono ?_; rintro e Wv ⟨rfl, rfl⟩)
            go_ret
            exact ⟨rfl, B1.out⟩
          · have d4 : decide (sp > 8 - pg) = false := by simpa using h4
            have hx : x = false := by rw [HG.out]; simp only [h1, h2, h3, h4, decide_false, Bool.not_true, Bool.or_false]
            subst hx
            clear h1 h2 h3 h4
            go_wp2_with (go_at_call 58; refine (VAL.out _).mono ?_; rintro e Wv ⟨rfl, rfl⟩)
            go_ret
            exact ⟨rfl, B1.out⟩
theorem enter_of {f : FuncId} {fn : Func} {x : Code} (hf : Tryd.prog.funcs[f]? = some fn) (hname : (fn.name == "runtime.NumGoroutine") = false) (hb : fn.body = some x) (args : Array Value) (w : World) : Sem.run Tryd.prog (callFunc f args) w = .ok (.enter f args) w := by
  have h1 : fn.name ≠ "runtime.NumGoroutine" := by simpa using hname
  simp [callFunc, hf, h1, hb]
theorem guests_any (c : Cv) (w : World) (h : CfgOk w c) : Calls Tryd.prog 30 #[(.agg #[.int .i64 c.cats, .slice c.g.a c.g.l.length c.g.cap, .slice c.r.a c.r.l.length c.r.cap, .slice c.p.a c.p.l.length c.p.cap, .slice c.n.a c.n.l.length c.n.cap, .slice c.s.a c.s.l.length c.s.cap, .int .i64 c.gate, .int .i64 c.quota])] w fun e w' => e = .returned (.tuple #[.int .i64 (gFst c).1, .bool (gFst c).2]) ∧ Below w.heap.size w w' := by
  have hm := h.g.mx
  obtain ⟨x, hx⟩ : ∃ x, x = gFst c := ⟨_, rfl⟩
  rw [← hx]
  have HX := Lib.hid hx
  clear hx
  by_cases h1 : c.g.l.length < 1
  · have d1 : decide ((c.g.l.length : Int) < 1) = true := by simp; omega
    have hx : x = (0, true) := by rw [HX.out, gFst, if_pos (Or.inl h1)]
    subst hx
    clear h1
    (have h0 := CX.new h; go_enter Tryd.func30, Tryd.ntmps30; go_upto_region 1 with fail; generalize w.alloc (.cells #[.int .i64 c.cats, .slice c.g.a c.g.l.length c.g.cap, .slice c.r.a c.r.l.length c.r.cap, .slice c.p.a c.p.l.length c.p.cap, .slice c.n.a c.n.l.length c.n.cap, .slice c.s.a c.s.l.length c.s.cap, .int .i64 c.gate, .int .i64 c.quota] 29) = W1 at h0 ⊢; generalize w.heap.size = b0 at h0 ⊢; have H0 := Lib.hid h0; clear h0 h)
    (have q0 := H0.out.ob.cell 0 _ rfl; have q1 := H0.out.ob.cell 1 _ rfl; have q2 := H0.out.ob.cell 2 _ rfl; have q3 := H0.out.ob.cell 3 _ rfl; have q4 := H0.out.ob.cell 4 _ rfl; have q5 := H0.out.ob.cell 5 _ rfl; have q6 := H0.out.ob.cell 6 _ rfl; have q7 := H0.out.ob.cell 7 _ rfl)
    go_wp2_with fail
    go_ret2
    exact ⟨rfl, H0.out.bel⟩
  · have d1 : decide ((c.g.l.length : Int) < 1) = false := by simp; omega
    by_cases h2 : 4 < c.g.l.length
    · have d2 : decide ((c.g.l.length : Int) > 4) = true := by simp; omega
      have hx : x = (0, true) := by rw [HX.out, gFst, if_pos (Or.inr h2)]
      subst hx
      clear h1 h2
      (have h0 := CX.new h; go_enter Tryd.func30, Tryd.ntmps30; go_upto_region 1 with fail; generalize w.alloc (.cells #[.int .i64 c.cats, .slice c.g.a c.g.l.length c.g.cap, .slice c.r.a c.r.l.length c.r.cap, .slice c.p.a c.p.l.length c.p.cap, .slice c.n.a c.n.l.length c.n.cap, .slice c.s.a c.s.l.length c.s.cap, .int .i64 c.gate, .int .i64 c.quota] 29) = W1 at h0 ⊢; generalize w.heap.size = b0 at h0 ⊢; have H0 := Lib.hid h0; clear h0 h)
      (have q0 := H0.out.ob.cell 0 _ rfl; have q1 := H0.out.ob.cell 1 _ rfl; have q2 := H0.out.ob.cell 2 _ rfl; have q3 := H0.out.ob.cell 3 _ rfl; have q4 := H0.out.ob.cell 4 _ rfl; have q5 := H0.out.ob.cell 5 _ rfl; have q6 := H0.out.ob.cell 6 _ rfl; have q7 := H0.out.ob.cell 7 _ rfl)
      go_wp2_with fail
      go_ret2
      exact ⟨rfl, H0.out.bel⟩
    · have d2 : decide ((c.g.l.length : Int) > 4) = false := by simp; omega
      have hx : x = fstV (gBad c) c.g.l.length := by rw [HX.out, gFst, if_neg (by omega)]
      subst hx
      clear h1 h2
      (have h0 := CX.new h; go_enter Tryd.func30, Tryd.ntmps30; go_upto_region 1 with fail; generalize w.alloc (.cells #[.int .i64 c.cats, .slice c.g.a c.g.l.length c.g.cap, .slice c.r.a c.r.l.length c.r.cap, .slice c.p.a c.p.l.length c.p.cap, .slice c.n.a c.n.l.length c.n.cap, .slice c.s.a c.s.l.length c.s.cap, .int .i64 c.gate, .int .i64 c.quota] 29) = W1 at h0 ⊢; generalize w.heap.size = b0 at h0 ⊢; have H0 := Lib.hid h0; clear h0 h)
      (have q0 := H0.out.ob.cell 0 _ rfl; have q1 := H0.out.ob.cell 1 _ rfl; have q2 := H0.out.ob.cell 2 _ rfl; have q3 := H0.out.ob.cell 3 _ rfl; have q4 := H0.out.ob.cell 4 _ rfl; have q5 := H0.out.ob.cell 5 _ rfl; have q6 := H0.out.ob.cell 6 _ rfl; have q7 := H0.out.ob.cell 7 _ rfl)
      have FST : Hid (Calls Tryd.prog 56 #[.int .i64 c.g.l.length, .func (Fn.func 57) #[] #[.pointer (some ⟨b0, 0, none⟩)]] W1 (fun e W' => e = .returned (.tuple #[.int .i64 (fstV (gBad c) c.g.l.length).1, .bool (fstV (gBad c) c.g.l.length).2]) ∧ CX w W' b0 c)) :=
        first1 57 (.pointer (some ⟨b0, 0, none⟩)) c.g.l.length hm (gBad c) (fun _ W => CX w W b0 c) (fun W => CX w W b0 c) W1 (enter_of Tryd.func57 (by kernel_rfl) rfl) H0.out (fun _ _ h => h)
          (fun i hi W hW => (guests1_any c i hi b0 w W hW).mono (fun e W' h => ⟨h.1, fun _ => hW.below h.2, hW.below h.2⟩))
      go_wp2_with (go_at_call 56; refine FST.out.mono ?_; rintro e W2 ⟨rfl, hx2⟩; have H2 := Lib.hid hx2; clear hx2)
      go_ret2
      exact ⟨rfl, H2.out.bel⟩
theorem slots1_any (c : Cv) (i : Nat) (hi : i < c.s.l.length) (b : Nat) (w W : World) (h : CX w W b c) : Calls Tryd.prog 67 #[.int .i64 i, .pointer (some ⟨b, 0, none⟩)] W fun e W' => e = .returned (.bool (sBad c i)) ∧ Below W.heap.size W W' := by
  obtain ⟨bx, ox, hax, hcx⟩ := h.ok.s.cells (by omega) i hi
  obtain ⟨gu, bu, hrow⟩ := row2 hi h.ok.s.len
  rw [hrow] at hcx
  have c0 := hcx _ (Below.refl _ _) 0 _ rfl; have c1 := hcx _ (Below.refl _ _) 1 _ rfl
  simp only [Nat.add_zero] at c0
  have kz : (0 : Int) ≤ (i : Int) := by omega
  have kl : (i : Int) < (c.s.l.length : Int) := by omega
  obtain ⟨x, hx⟩ : ∃ x, x = sBad c i := ⟨_, rfl⟩
  obtain ⟨vb, hvb⟩ : ∃ v, v = isG c gu := ⟨_, rfl⟩
  have HG : Hid (x = (!vb || (decide (bu < 1) || decide (32 < bu)))) := by rw [Hid, hx, sBad, at_eq hi, at_eq hi, hrow, hvb]; rfl
  rw [← hx]
  have HX := Lib.hid h
  have GUE : Hid (∀ W, CfgOk W c → Calls Tryd.prog 63 #[(.agg #[.int .i64 c.cats, .slice c.g.a c.g.l.length c.g.cap, .slice c.r.a c.r.l.length c.r.cap, .slice c.p.a c.p.l.length c.p.cap, .slice c.n.a c.n.l.length c.n.cap, .slice c.s.a c.s.l.length c.s.cap, .int .i64 c.gate, .int .i64 c.quota]), .int .i64 gu] W fun e w' => e = .returned (.bool vb) ∧ Below W.heap.size W w') := fun W h => by rw [hvb]; exact guest_any _ _ _ h
  have q5 := HX.out.ob.cell 5 _ rfl
  rw [hax] at q5
  clear hx hvb hrow hcx h hax
  go_enter Tryd.func67, Tryd.ntmps67
  go_upto_region 2 with fail
  clear q5 c0 c1
  (have R1 : Hid (ObjAt (W.alloc (.cells ([.int .i64 gu, .int .i64 bu] : List Value).toArray 66)) W.heap.size 66 [.int .i64 gu, .int .i64 bu]) := ObjAt.new W _ _; have B1 : Hid (Below W.heap.size W (W.alloc (.cells ([.int .i64 gu, .int .i64 bu] : List Value).toArray 66))) := (Below.refl _ _).alloc (Nat.le_refl _) _; generalize W.alloc (.cells ([.int .i64 gu, .int .i64 bu] : List Value).toArray 66) = W1 at R1 B1 ⊢; have X1 : Hid (CX w W1 b c) := HX.out.below B1.out)
  have r0 := R1.out.cell 0 _ rfl; have r1 := R1.out.cell 1 _ rfl
  have r1' : Hid (∀ W', Below W1.heap.size W1 W' → W'.cell? ⟨W.heap.size, 1, none⟩ = some (.int .i64 bu)) := fun W' hb => (R1.out.below hb).cell 1 _ rfl
  (have q0 := X1.out.ob.cell 0 _ rfl; have q1 := X1.out.ob.cell 1 _ rfl; have q2 := X1.out.ob.cell 2 _ rfl; have q3 := X1.out.ob.cell 3 _ rfl; have q4 := X1.out.ob.cell 4 _ rfl; have q5 := X1.out.ob.cell 5 _ rfl; have q6 := X1.out.ob.cell 6 _ rfl; have q7 := X1.out.ob.cell 7 _ rfl)
  cases vb with
  | false =>
    (have hx : x = true := (by rw [HG.out]; simp [*]); subst hx)
    go_wp2_with (go_at_call 63; refine (GUE.out _ X1.out.ok).mono ?_; rintro e W2 ⟨rfl, hb⟩; have B2 := Lib.hid (B1.out.trans (hb.mono B1.out.size)); have r1 := r1'.out _ hb; clear hb)
    go_ret
    exact ⟨rfl, B2.out⟩
  | true =>
    by_cases h1 : bu < 1
    · (have hx : x = true := (by rw [HG.out]; simp [*]); subst hx)
      have d1 : decide (bu < 1) = true := by simp [h1]
      clear h1
      go_wp2_with (go_at_call 63; refine (GUE.out _ X1.out.ok).mono ?_; rintro e W2 ⟨rfl, hb⟩; have B2 := Lib.hid (B1.out.trans (hb.mono B1.out.size)); have r1 := r1'.out _ hb; clear hb)
      go_ret
      exact ⟨rfl, B2.out⟩
    · have d1 : decide (bu < 1) = false := by simp [h1]
      by_cases h2 : 32 < bu
      · (have hx : x = true := (by rw [HG.out]; simp [*]); subst hx)
        have d2 : decide (bu > 32) = true := by simp [h2]
        clear h1 h2
        go_wp2_with (go_at_call 63; refine (GUE.out _ X1.out.ok).mono ?_; rintro e W2 ⟨rfl, hb⟩; have B2 := Lib.hid (B1.out.trans (hb.mono B1.out.size)); have r1 := r1'.out _ hb; clear hb)
        go_ret
        exact ⟨rfl, B2.out⟩
      · have d2 : decide (bu > 32) = false := by simpa using h2
        have hx : x = false := by rw [HG.out]; simp only [h1, h2, decide_false, Bool.not_true, Bool.or_false]
        subst hx
        clear h1 h2
        go_wp2_with (go_at_call 63; refine (GUE.out _ X1.out.ok).mono ?_; rintro e W2 ⟨rfl, hb⟩; have B2 := Lib.hid (B1.out.trans (hb.mono B1.out.size)); have r1 := r1'.out _ hb; clear hb)
        go_ret
        exact ⟨rfl, B2.out⟩
theorem slots_any (c : Cv) (w : World) (h : CfgOk w c) : Calls Tryd.prog 34 #[(.agg #[.int .i64 c.cats, .slice c.g.a c.g.l.length c.g.cap, .slice c.r.a c.r.l.length c.r.cap, .slice c.p.a c.p.l.length c.p.cap, .slice c.n.a c.n.l.length c.n.cap, .slice c.s.a c.s.l.length c.s.cap, .int .i64 c.gate, .int .i64 c.quota])] w fun e w' => e = .returned (.tuple #[.int .i64 (sFst c).1, .bool (sFst c).2]) ∧ Below w.heap.size w w' := by
  have hm := h.s.mx
  obtain ⟨x, hx⟩ : ∃ x, x = sFst c := ⟨_, rfl⟩
  rw [← hx]
  have HX := Lib.hid hx
  clear hx
  by_cases h1 : c.s.l.length < 1
  · have d1 : decide ((c.s.l.length : Int) < 1) = true := by simp; omega
    have hx : x = (0, true) := by rw [HX.out, sFst, if_pos (Or.inl h1)]
    subst hx
    clear h1
    (have h0 := CX.new h; go_enter Tryd.func34, Tryd.ntmps34; go_upto_region 1 with fail; generalize w.alloc (.cells #[.int .i64 c.cats, .slice c.g.a c.g.l.length c.g.cap, .slice c.r.a c.r.l.length c.r.cap, .slice c.p.a c.p.l.length c.p.cap, .slice c.n.a c.n.l.length c.n.cap, .slice c.s.a c.s.l.length c.s.cap, .int .i64 c.gate, .int .i64 c.quota] 29) = W1 at h0 ⊢; generalize w.heap.size = b0 at h0 ⊢; have H0 := Lib.hid h0; clear h0 h)
    (have q0 := H0.out.ob.cell 0 _ rfl; have q1 := H0.out.ob.cell 1 _ rfl; have q2 := H0.out.ob.cell 2 _ rfl; have q3 := H0.out.ob.cell 3 _ rfl; have q4 := H0.out.ob.cell 4 _ rfl; have q5 := H0.out.ob.cell 5 _ rfl; have q6 := H0.out.ob.cell 6 _ rfl; have q7 := H0.out.ob.cell 7 _ rfl)
    go_wp2_with fail
    go_ret2
    exact ⟨rfl, H0.out.bel⟩
  · have d1 : decide ((c.s.l.length : Int) < 1) = false := by simp; omega
    by_cases h2 : 8 < c.s.l.length
    · have d2 : decide ((c.s.l.length : Int) > 8) = true := by simp; omega
      have hx : x = (0, true) := by rw [HX.out, sFst, if_pos (Or.inr h2)]
      subst hx
      clear h1 h2
      (have h0 := CX.new h; go_enter Tryd.func34, Tryd.ntmps34; go_upto_region 1 with fail; generalize w.alloc (.cells #[.int .i64 c.cats, .slice c.g.a c.g.l.length c.g.cap, .slice c.r.a c.r.l.length c.r.cap, .slice c.p.a c.p.l.length c.p.cap, .slice c.n.a c.n.l.length c.n.cap, .slice c.s.a c.s.l.length c.s.cap, .int .i64 c.gate, .int .i64 c.quota] 29) = W1 at h0 ⊢; generalize w.heap.size = b0 at h0 ⊢; have H0 := Lib.hid h0; clear h0 h)
      (have q0 := H0.out.ob.cell 0 _ rfl; have q1 := H0.out.ob.cell 1 _ rfl; have q2 := H0.out.ob.cell 2 _ rfl; have q3 := H0.out.ob.cell 3 _ rfl; have q4 := H0.out.ob.cell 4 _ rfl; have q5 := H0.out.ob.cell 5 _ rfl; have q6 := H0.out.ob.cell 6 _ rfl; have q7 := H0.out.ob.cell 7 _ rfl)
      go_wp2_with fail
      go_ret2
      exact ⟨rfl, H0.out.bel⟩
    · have d2 : decide ((c.s.l.length : Int) > 8) = false := by simp; omega
      have hx : x = fstV (sBad c) c.s.l.length := by rw [HX.out, sFst, if_neg (by omega)]
      subst hx
      clear h1 h2
      (have h0 := CX.new h; go_enter Tryd.func34, Tryd.ntmps34; go_upto_region 1 with fail; generalize w.alloc (.cells #[.int .i64 c.cats, .slice c.g.a c.g.l.length c.g.cap, .slice c.r.a c.r.l.length c.r.cap, .slice c.p.a c.p.l.length c.p.cap, .slice c.n.a c.n.l.length c.n.cap, .slice c.s.a c.s.l.length c.s.cap, .int .i64 c.gate, .int .i64 c.quota] 29) = W1 at h0 ⊢; generalize w.heap.size = b0 at h0 ⊢; have H0 := Lib.hid h0; clear h0 h)
      (have q0 := H0.out.ob.cell 0 _ rfl; have q1 := H0.out.ob.cell 1 _ rfl; have q2 := H0.out.ob.cell 2 _ rfl; have q3 := H0.out.ob.cell 3 _ rfl; have q4 := H0.out.ob.cell 4 _ rfl; have q5 := H0.out.ob.cell 5 _ rfl; have q6 := H0.out.ob.cell 6 _ rfl; have q7 := H0.out.ob.cell 7 _ rfl)
      have FST : Hid (Calls Tryd.prog 56 #[.int .i64 c.s.l.length, .func (Fn.func 67) #[] #[.pointer (some ⟨b0, 0, none⟩)]] W1 (fun e W' => e = .returned (.tuple #[.int .i64 (fstV (sBad c) c.s.l.length).1, .bool (fstV (sBad c) c.s.l.length).2]) ∧ CX w W' b0 c)) :=
        first1 67 (.pointer (some ⟨b0, 0, none⟩)) c.s.l.length hm (sBad c) (fun _ W => CX w W b0 c) (fun W => CX w W b0 c) W1 (enter_of Tryd.func67 (by kernel_rfl) rfl) H0.out (fun _ _ h => h)
          (fun i hi W hW => (slots1_any c i hi b0 w W hW).mono (fun e W' h => ⟨h.1, fun _ => hW.below h.2, hW.below h.2⟩))
      go_wp2_with (go_at_call 56; refine FST.out.mono ?_; rintro e W2 ⟨rfl, hx2⟩; have H2 := Lib.hid hx2; clear hx2)
      go_ret2
      exact ⟨rfl, H2.out.bel⟩
end Go.Proofs.YtoalpdjpljapbaaDoor
