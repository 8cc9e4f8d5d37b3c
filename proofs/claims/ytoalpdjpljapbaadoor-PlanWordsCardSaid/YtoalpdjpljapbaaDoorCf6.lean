/- Chapter 4: the gate, and Check. -/
import Derived.Test.YtoalpdjpljapbaaDoorCf5
import Derived.WalkMore
import Derived.Laws.EntriesVeiled
namespace Go.Proofs.YtoalpdjpljapbaaDoor
set_option linter.unusedVariables false
set_option linter.unusedSimpArgs false
set_option linter.unnecessarySimpa false
open Go.RowKit
set_option maxHeartbeats 2000000
set_option maxRecDepth 100000
set_option linter.unusedVariables false
variable {W W' w : World} {c : Cv} {b N : Nat} {s : Sl}
def gateB (c : Cv) : Bool := if c.gate = -1 then (c.quota != 0) else !(isG c c.gate) || (decide (c.quota < 0) || decide (64 < c.quota))
theorem gate_any (c : Cv) (w : World) (h : CfgOk w c) : Calls Tryd.prog 35 #[(.agg #[.int .i64 c.cats, .slice c.g.a c.g.l.length c.g.cap, .slice c.r.a c.r.l.length c.r.cap, .slice c.p.a c.p.l.length c.p.cap, .slice c.n.a c.n.l.length c.n.cap, .slice c.s.a c.s.l.length c.s.cap, .int .i64 c.gate, .int .i64 c.quota])] w fun e w' => e = .returned (.bool (gateB c)) ∧ Below w.heap.size w w' := by
  obtain ⟨x, hx⟩ : ∃ x, x = gateB c := ⟨_, rfl⟩
  rw [← hx]
  have HG : Hid (x = if c.gate = -1 then (c.quota != 0) else !(isG c c.gate) || (decide (c.quota < 0) || decide (64 < c.quota))) := hx
  clear hx
  by_cases h1 : c.gate = -1
  · have d1 : (c.gate == -1) = true := by simp [h1]
    have hx : x = (c.quota != 0) := by rw [HG.out, if_pos h1]
    subst hx
    clear h1 HG
    (have h0 := CX.new h; go_enter Tryd.func35, Tryd.ntmps35; go_upto_region 1 with fail; generalize w.alloc (.cells #[.int .i64 c.cats, .slice c.g.a c.g.l.length c.g.cap, .slice c.r.a c.r.l.length c.r.cap, .slice c.p.a c.p.l.length c.p.cap, .slice c.n.a c.n.l.length c.n.cap, .slice c.s.a c.s.l.length c.s.cap, .int .i64 c.gate, .int .i64 c.quota] 29) = W1 at h0 ⊢; generalize w.heap.size = b0 at h0 ⊢; have H0 := Lib.hid h0; clear h0 h)
    (have q0 := H0.out.ob.cell 0 _ rfl; have q1 := H0.out.ob.cell 1 _ rfl; have q2 := H0.out.ob.cell 2 _ rfl; have q3 := H0.out.ob.cell 3 _ rfl; have q4 := H0.out.ob.cell 4 _ rfl; have q5 := H0.out.ob.cell 5 _ rfl; have q6 := H0.out.ob.cell 6 _ rfl; have q7 := H0.out.ob.cell 7 _ rfl)
    go_wp2_with fail
    go_ret
    exact ⟨rfl, H0.out.bel⟩
  · have d1 : (c.gate == -1) = false := by simp [h1]
    have hx : x = (!(isG c c.gate) || (decide (c.quota < 0) || decide (64 < c.quota))) := by rw [HG.out, if_neg h1]
    obtain ⟨vg, hvg⟩ : ∃ v, v = isG c c.gate := ⟨_, rfl⟩
    have GUE : Hid (∀ W, CfgOk W c → Calls Tryd.prog 63 #[(.agg #[.int .i64 c.cats, .slice c.g.a c.g.l.length c.g.cap, .slice c.r.a c.r.l.length c.r.cap, .slice c.p.a c.p.l.length c.p.cap, .slice c.n.a c.n.l.length c.n.cap, .slice c.s.a c.s.l.length c.s.cap, .int .i64 c.gate, .int .i64 c.quota]), .int .i64 c.gate] W fun e w' => e = .returned (.bool vg) ∧ Below W.heap.size W w') := fun W h => by rw [hvg]; exact guest_any _ _ _ h
    rw [← hvg] at hx
    clear h1 HG hvg
    cases vg with
    | false =>
      obtain rfl : x = true := by rw [hx]; rfl
      clear hx
      (have h0 := CX.new h; go_enter Tryd.func35, Tryd.ntmps35; go_upto_region 1 with fail; generalize w.alloc (.cells #[.int .i64 c.cats, .slice c.g.a c.g.l.length c.g.cap, .slice c.r.a c.r.l.length c.r.cap, .slice c.p.a c.p.l.length c.p.cap, .slice c.n.a c.n.l.length c.n.cap, .slice c.s.a c.s.l.length c.s.cap, .int .i64 c.gate, .int .i64 c.quota] 29) = W1 at h0 ⊢; generalize w.heap.size = b0 at h0 ⊢; have H0 := Lib.hid h0; clear h0 h)
      (have q0 := H0.out.ob.cell 0 _ rfl; have q1 := H0.out.ob.cell 1 _ rfl; have q2 := H0.out.ob.cell 2 _ rfl; have q3 := H0.out.ob.cell 3 _ rfl; have q4 := H0.out.ob.cell 4 _ rfl; have q5 := H0.out.ob.cell 5 _ rfl; have q6 := H0.out.ob.cell 6 _ rfl; have q7 := H0.out.ob.cell 7 _ rfl)
      (go_wp2_with (go_at_call 63; refine (GUE.out _ H0.out.ok).mono ?_; rintro e Wg ⟨rfl, hb⟩; have H1 := Lib.hid (H0.out.below hb); clear hb; replace q6 := H1.out.ob.cell 6 _ rfl; replace q7 := H1.out.ob.cell 7 _ rfl); go_ret; exact ⟨rfl, H1.out.bel⟩)
    | true =>
      by_cases h2 : c.quota < 0
      · have d2 : decide (c.quota < 0) = true := by simp [h2]
        obtain rfl : x = true := by rw [hx]; simp [h2]
        clear hx h2
        (have h0 := CX.new h; go_enter Tryd.func35, Tryd.ntmps35; go_upto_region 1 with fail; generalize w.alloc (.cells #[.int .i64 c.cats, .slice c.g.a c.g.l.length c.g.cap, .slice c.r.a c.r.l.length c.r.cap, .slice c.p.a c.p.l.length c.p.cap, .slice c.n.a c.n.l.length c.n.cap, .slice c.s.a c.s.l.length c.s.cap, .int .i64 c.gate, .int .i64 c.quota] 29) = W1 at h0 ⊢; generalize w.heap.size = b0 at h0 ⊢; have H0 := Lib.hid h0; clear h0 h)
        (have q0 := H0.out.ob.cell 0 _ rfl; have q1 := H0.out.ob.cell 1 _ rfl; have q2 := H0.out.ob.cell 2 _ rfl; have q3 := H0.out.ob.cell 3 _ rfl; have q4 := H0.out.ob.cell 4 _ rfl; have q5 := H0.out.ob.cell 5 _ rfl; have q6 := H0.out.ob.cell 6 _ rfl; have q7 := H0.out.ob.cell 7 _ rfl)
        (go_wp2_with (go_at_call 63; refine (GUE.out _ H0.out.ok).mono ?_; rintro e Wg ⟨rfl, hb⟩; have H1 := Lib.hid (H0.out.below hb); clear hb; replace q6 := H1.out.ob.cell 6 _ rfl; replace q7 := H1.out.ob.cell 7 _ rfl); go_ret; exact ⟨rfl, H1.out.bel⟩)
      · have d2 : decide (c.quota < 0) = false := by simpa using h2
        by_cases h3 : 64 < c.quota
        · have d3 : decide (c.quota > 64) = true := by simp [h3]
          obtain rfl : x = true := by rw [hx]; simp [h3]
          clear hx h2 h3
          (have h0 := CX.new h; go_enter Tryd.func35, Tryd.ntmps35; go_upto_region 1 with fail; generalize w.alloc (.cells #[.int .i64 c.cats, .slice c.g.a c.g.l.length c.g.cap, .slice c.r.a c.r.l.length c.r.cap, .slice c.p.a c.p.l.length c.p.cap, .slice c.n.a c.n.l.length c.n.cap, .slice c.s.a c.s.l.length c.s.cap, .int .i64 c.gate, .int .i64 c.quota] 29) = W1 at h0 ⊢; generalize w.heap.size = b0 at h0 ⊢; have H0 := Lib.hid h0; clear h0 h)
          (have q0 := H0.out.ob.cell 0 _ rfl; have q1 := H0.out.ob.cell 1 _ rfl; have q2 := H0.out.ob.cell 2 _ rfl; have q3 := H0.out.ob.cell 3 _ rfl; have q4 := H0.out.ob.cell 4 _ rfl; have q5 := H0.out.ob.cell 5 _ rfl; have q6 := H0.out.ob.cell 6 _ rfl; have q7 := H0.out.ob.cell 7 _ rfl)
          (go_wp2_with (go_at_call 63; refine (GUE.out _ H0.out.ok).mono ?_; rintro e Wg ⟨rfl, hb⟩; have H1 := Lib.hid (H0.out.below hb); clear hb; replace q6 := H1.out.ob.cell 6 _ rfl; replace q7 := H1.out.ob.cell 7 _ rfl); go_ret; exact ⟨rfl, H1.out.bel⟩)
        · have d3 : decide (c.quota > 64) = false := by simpa using h3
          obtain rfl : x = false := by rw [hx]; simp [h2, h3]
          clear hx h2 h3
          (have h0 := CX.new h; go_enter Tryd.func35, Tryd.ntmps35; go_upto_region 1 with fail; generalize w.alloc (.cells #[.int .i64 c.cats, .slice c.g.a c.g.l.length c.g.cap, .slice c.r.a c.r.l.length c.r.cap, .slice c.p.a c.p.l.length c.p.cap, .slice c.n.a c.n.l.length c.n.cap, .slice c.s.a c.s.l.length c.s.cap, .int .i64 c.gate, .int .i64 c.quota] 29) = W1 at h0 ⊢; generalize w.heap.size = b0 at h0 ⊢; have H0 := Lib.hid h0; clear h0 h)
          (have q0 := H0.out.ob.cell 0 _ rfl; have q1 := H0.out.ob.cell 1 _ rfl; have q2 := H0.out.ob.cell 2 _ rfl; have q3 := H0.out.ob.cell 3 _ rfl; have q4 := H0.out.ob.cell 4 _ rfl; have q5 := H0.out.ob.cell 5 _ rfl; have q6 := H0.out.ob.cell 6 _ rfl; have q7 := H0.out.ob.cell 7 _ rfl)
          (go_wp2_with (go_at_call 63; refine (GUE.out _ H0.out.ok).mono ?_; rintro e Wg ⟨rfl, hb⟩; have H1 := Lib.hid (H0.out.below hb); clear hb; replace q6 := H1.out.ob.cell 6 _ rfl; replace q7 := H1.out.ob.cell 7 _ rfl); go_ret; exact ⟨rfl, H1.out.bel⟩)
theorem one1_any (c : Cv) (bad : Bool) (b : Nat) (w : World) (h : CfgOk w c) (hb : ObjAt w b 4 [.bool bad]) : Calls Tryd.prog 29 #[(.agg #[.int .i64 c.cats, .slice c.g.a c.g.l.length c.g.cap, .slice c.r.a c.r.l.length c.r.cap, .slice c.p.a c.p.l.length c.p.cap, .slice c.n.a c.n.l.length c.n.cap, .slice c.s.a c.s.l.length c.s.cap, .int .i64 c.gate, .int .i64 c.quota]), .pointer (some ⟨b, 0, none⟩)] w fun e w' => e = .returned (.tuple #[.int .i64 0, .bool bad]) ∧ Below w.heap.size w w' := by
  have hb1 := hb.below ((Below.refl w.heap.size w).alloc (Nat.le_refl _) (.cells #[.int .i64 c.cats, .slice c.g.a c.g.l.length c.g.cap, .slice c.r.a c.r.l.length c.r.cap, .slice c.p.a c.p.l.length c.p.cap, .slice c.n.a c.n.l.length c.n.cap, .slice c.s.a c.s.l.length c.s.cap, .int .i64 c.gate, .int .i64 c.quota] 29))
  have HB := Lib.hid hb1
  clear hb hb1
  have h0 := CX.new h
  go_enter Tryd.func29, Tryd.ntmps29
  go_upto_region 1 with fail
  generalize w.alloc (.cells #[.int .i64 c.cats, .slice c.g.a c.g.l.length c.g.cap, .slice c.r.a c.r.l.length c.r.cap, .slice c.p.a c.p.l.length c.p.cap, .slice c.n.a c.n.l.length c.n.cap, .slice c.s.a c.s.l.length c.s.cap, .int .i64 c.gate, .int .i64 c.quota] 29) = W1 at h0 HB ⊢
  have H0 := Lib.hid h0; clear h0 h
  have k0 := HB.out.cell 0 _ rfl
  go_quiet (fail)
  go_wp2_with fail
  go_ret2
  exact ⟨rfl, below_drewN H0.out.bel _⟩
theorem one_any (bad : Bool) (w : World) : Calls Tryd.prog 28 #[.bool bad] w fun e w' => e = .returned (.func (.func 29) #[] #[.pointer (some ⟨w.heap.size, 0, none⟩)]) ∧ ObjAt w' w.heap.size 4 [.bool bad] ∧ Below w.heap.size w w' := by
  have N1 : Hid (ObjAt (w.alloc (.cells #[.bool bad] 4)) w.heap.size 4 [.bool bad]) := ObjAt.new w _ _
  have B1 : Hid (Below w.heap.size w (w.alloc (.cells #[.bool bad] 4))) := (Below.refl _ _).alloc (Nat.le_refl _) _
  go_enter Tryd.func28, Tryd.ntmps28
  go_wp2_with fail
  go_ret
  exact ⟨rfl, N1.out, B1.out⟩
/-- The six rules. -/
def ruleV (c : Cv) : Nat → Int × Bool
  | 0 => gFst c
  | 1 => rFst c
  | 2 => pFst c
  | 3 => nFst c
  | 4 => sFst c
  | _ => (0, gateB c)
def chkV (c : Cv) : Int × Int :=
  if c.cats < 0 ∨ 8 < c.cats then (12, 0) else
  match (List.range 6).find? fun k => (ruleV c k).2 with
  | some k => (13 + k, (ruleV c k).1)
  | none => if 32 < needV c then (19, 0) else (0, 0)
theorem rule_hit {c : Cv} {k : Nat} (hk : k < 6) (h : ∀ j, j < k → (ruleV c j).2 = false) (hp : (ruleV c k).2 = true) : (List.range 6).find? (fun k => (ruleV c k).2) = some k := by
  rw [List.find?_range_eq_some]
  exact ⟨hp, List.mem_range.2 hk, fun j hj => by simp [h j hj]⟩
theorem rule_none {c : Cv} (h : ∀ j, j < 6 → (ruleV c j).2 = false) : (List.range 6).find? (fun k => (ruleV c k).2) = none := by
  rw [List.find?_eq_none]; intro x hx; simp [h x (List.mem_range.1 hx)]
theorem fstV_false {P : Nat → Bool} {n : Nat} (h : (fstV P n).2 = false) : ∀ j, j < n → P j = false := by
  intro j hj
  unfold fstV at h
  cases hf : (List.range n).find? P with
  | some i => rw [hf] at h; cases h
  | none => rw [List.find?_eq_none] at hf; simpa using hf j (List.mem_range.2 hj)
theorem gok_of {c : Cv} (h0 : (gFst c).2 = false) (h3 : (nFst c).2 = false) : GOk c := by
  unfold gFst at h0
  unfold nFst at h3
  split at h0
  · cases h0
  · split at h3
    · cases h3
    · refine ⟨by omega, by omega, fun r hr => ?_⟩
      obtain ⟨i, hi, rfl⟩ := List.mem_iff_getElem.1 hr
      have := fstV_false h0 i hi
      simp only [gBad, at_eq hi, Bool.or_eq_false_iff, decide_eq_false_iff_not] at this
      unfold GRow
      omega
set_option maxHeartbeats 8000000 in
theorem check_any (c : Cv) (w : World) (h : CfgOk w c) : Calls Tryd.prog 18 #[(.agg #[.int .i64 c.cats, .slice c.g.a c.g.l.length c.g.cap, .slice c.r.a c.r.l.length c.r.cap, .slice c.p.a c.p.l.length c.p.cap, .slice c.n.a c.n.l.length c.n.cap, .slice c.s.a c.s.l.length c.s.cap, .int .i64 c.gate, .int .i64 c.quota])] w fun e w' => e = .returned (.tuple #[.int .i64 (chkV c).1, .int .i64 (chkV c).2]) ∧ Below w.heap.size w w' := by
  obtain ⟨x, hx⟩ : ∃ x, x = chkV c := ⟨_, rfl⟩
  rw [← hx]
  have HG : Hid (x = chkV c) := hx
  clear hx
  by_cases h1 : c.cats < 0
  · have d1 : decide (c.cats < 0) = true := by simp [h1]
    obtain rfl : x = (12, 0) := by rw [HG.out, chkV, if_pos (Or.inl h1)]
    clear h1 HG
    (have h0 := CX.new h; go_enter Tryd.func18, Tryd.ntmps18; go_upto_region 1 with fail; generalize w.alloc (.cells #[.int .i64 c.cats, .slice c.g.a c.g.l.length c.g.cap, .slice c.r.a c.r.l.length c.r.cap, .slice c.p.a c.p.l.length c.p.cap, .slice c.n.a c.n.l.length c.n.cap, .slice c.s.a c.s.l.length c.s.cap, .int .i64 c.gate, .int .i64 c.quota] 29) = W1 at h0 ⊢; generalize w.heap.size = b0 at h0 ⊢; have H0 := Lib.hid h0; clear h0 h); go_step3
    (have q0 := H0.out.ob.cell 0 _ rfl; have q1 := H0.out.ob.cell 1 _ rfl; have q2 := H0.out.ob.cell 2 _ rfl; have q3 := H0.out.ob.cell 3 _ rfl; have q4 := H0.out.ob.cell 4 _ rfl; have q5 := H0.out.ob.cell 5 _ rfl; have q6 := H0.out.ob.cell 6 _ rfl; have q7 := H0.out.ob.cell 7 _ rfl)
    go_wp2_with fail
    rw [Exit.noGoto_ret]; go_ret2
    exact ⟨rfl, H0.out.bel⟩
  · have d1 : decide (c.cats < 0) = false := by simp [h1]
    by_cases h2 : 8 < c.cats
    · have d2 : decide (c.cats > 8) = true := by simp [h2]
      obtain rfl : x = (12, 0) := by rw [HG.out, chkV, if_pos (Or.inr h2)]
      clear h1 h2 HG
      (have h0 := CX.new h; go_enter Tryd.func18, Tryd.ntmps18; go_upto_region 1 with fail; generalize w.alloc (.cells #[.int .i64 c.cats, .slice c.g.a c.g.l.length c.g.cap, .slice c.r.a c.r.l.length c.r.cap, .slice c.p.a c.p.l.length c.p.cap, .slice c.n.a c.n.l.length c.n.cap, .slice c.s.a c.s.l.length c.s.cap, .int .i64 c.gate, .int .i64 c.quota] 29) = W1 at h0 ⊢; generalize w.heap.size = b0 at h0 ⊢; have H0 := Lib.hid h0; clear h0 h); go_step3
      (have q0 := H0.out.ob.cell 0 _ rfl; have q1 := H0.out.ob.cell 1 _ rfl; have q2 := H0.out.ob.cell 2 _ rfl; have q3 := H0.out.ob.cell 3 _ rfl; have q4 := H0.out.ob.cell 4 _ rfl; have q5 := H0.out.ob.cell 5 _ rfl; have q6 := H0.out.ob.cell 6 _ rfl; have q7 := H0.out.ob.cell 7 _ rfl)
      go_wp2_with fail
      rw [Exit.noGoto_ret]; go_ret2
      exact ⟨rfl, H0.out.bel⟩
    · have d2 : decide (c.cats > 8) = false := by simpa using h2
      have hx : x = match (List.range 6).find? fun k => (ruleV c k).2 with
        | some k => ((13 + k : Int), (ruleV c k).1)
        | none => if 32 < needV c then (19, 0) else (0, 0) := by rw [HG.out, chkV, if_neg (by omega)]
      replace HG := Lib.hid hx
      clear h1 h2 hx
      (have h0 := CX.new h; go_enter Tryd.func18, Tryd.ntmps18; go_upto_region 1 with fail; generalize w.alloc (.cells #[.int .i64 c.cats, .slice c.g.a c.g.l.length c.g.cap, .slice c.r.a c.r.l.length c.r.cap, .slice c.p.a c.p.l.length c.p.cap, .slice c.n.a c.n.l.length c.n.cap, .slice c.s.a c.s.l.length c.s.cap, .int .i64 c.gate, .int .i64 c.quota] 29) = W1 at h0 ⊢; generalize w.heap.size = b0 at h0 ⊢; have H0 := Lib.hid h0; clear h0 h); go_step3
      (have q0 := H0.out.ob.cell 0 _ rfl; have q1 := H0.out.ob.cell 1 _ rfl; have q2 := H0.out.ob.cell 2 _ rfl; have q3 := H0.out.ob.cell 3 _ rfl; have q4 := H0.out.ob.cell 4 _ rfl; have q5 := H0.out.ob.cell 5 _ rfl; have q6 := H0.out.ob.cell 6 _ rfl; have q7 := H0.out.ob.cell 7 _ rfl)
      go_upto_region 5 with fail
      go_step3
      go_upto_region 6 with (first | (go_at_call 35; refine (gate_any c _ H0.out.ok).mono ?_; rintro e Wg ⟨rfl, hb⟩; have H1 := Lib.hid (H0.out.below hb); clear hb; clear q0 q1 q2 q3 q4 q5 q6 q7) | (go_at_call 28; refine (one_any _ _).mono ?_; rintro e W2 ⟨rfl, ho, hb⟩; have O2 := Lib.hid ho; have H2 := Lib.hid (H1.out.below hb); clear ho hb))
      have NB : Hid (ObjAt (W2.alloc (.cells #[.func (Fn.func 30) #[] #[], .int .i64 13, .func (Fn.func 31) #[] #[], .int .i64 14, .func (Fn.func 32) #[] #[], .int .i64 15, .func (Fn.func 33) #[] #[], .int .i64 16, .func (Fn.func 34) #[] #[], .int .i64 17, .func (Fn.func 29) #[] #[.pointer (some ⟨Wg.heap.size, 0, none⟩)], .int .i64 18] 82)) W2.heap.size 82 [.func (Fn.func 30) #[] #[], .int .i64 13, .func (Fn.func 31) #[] #[], .int .i64 14, .func (Fn.func 32) #[] #[], .int .i64 15, .func (Fn.func 33) #[] #[], .int .i64 16, .func (Fn.func 34) #[] #[], .int .i64 17, .func (Fn.func 29) #[] #[.pointer (some ⟨Wg.heap.size, 0, none⟩)], .int .i64 18]) := ObjAt.new W2 _ _
      have B3 : Hid (Below W2.heap.size W2 (W2.alloc (.cells #[.func (Fn.func 30) #[] #[], .int .i64 13, .func (Fn.func 31) #[] #[], .int .i64 14, .func (Fn.func 32) #[] #[], .int .i64 15, .func (Fn.func 33) #[] #[], .int .i64 16, .func (Fn.func 34) #[] #[], .int .i64 17, .func (Fn.func 29) #[] #[.pointer (some ⟨Wg.heap.size, 0, none⟩)], .int .i64 18] 82))) := (Below.refl _ _).alloc (Nat.le_refl _) _
      have O3 : Hid (ObjAt (W2.alloc (.cells #[.func (Fn.func 30) #[] #[], .int .i64 13, .func (Fn.func 31) #[] #[], .int .i64 14, .func (Fn.func 32) #[] #[], .int .i64 15, .func (Fn.func 33) #[] #[], .int .i64 16, .func (Fn.func 34) #[] #[], .int .i64 17, .func (Fn.func 29) #[] #[.pointer (some ⟨Wg.heap.size, 0, none⟩)], .int .i64 18] 82)) Wg.heap.size 4 [.bool (gateB c)]) := O2.out.below B3.out
      have H3 : Hid (CX w (W2.alloc (.cells #[.func (Fn.func 30) #[] #[], .int .i64 13, .func (Fn.func 31) #[] #[], .int .i64 14, .func (Fn.func 32) #[] #[], .int .i64 15, .func (Fn.func 33) #[] #[], .int .i64 16, .func (Fn.func 34) #[] #[], .int .i64 17, .func (Fn.func 29) #[] #[.pointer (some ⟨Wg.heap.size, 0, none⟩)], .int .i64 18] 82)) b0 c) := H2.out.below B3.out
      generalize W2.alloc (.cells #[.func (Fn.func 30) #[] #[], .int .i64 13, .func (Fn.func 31) #[] #[], .int .i64 14, .func (Fn.func 32) #[] #[], .int .i64 15, .func (Fn.func 33) #[] #[], .int .i64 16, .func (Fn.func 34) #[] #[], .int .i64 17, .func (Fn.func 29) #[] #[.pointer (some ⟨Wg.heap.size, 0, none⟩)], .int .i64 18] 82) = W3 at NB O3 H3 ⊢
      generalize W2.heap.size = rb at NB ⊢
      generalize Wg.heap.size = gb at NB O3 ⊢
      clear B3 O2 H2 H1
      go_loopw [5, 6, 31] (fun g5 g6 g31 wr => ∃ k : Nat, k ≤ 6 ∧ g31 = .int .i64 k ∧ g5 = .int .i64 0 ∧ g6 = .int .i64 0 ∧ Below W3.heap.size W3 wr ∧ ∀ j, j < k → (ruleV c j).2 = false) (fun _ _ g31 _ => 6 - (intOf g31).toNat)
      case atStart => exact ⟨0, by omega, rfl, rfl, rfl, Below.refl _ _, fun j hj => by omega⟩
      case round =>
        obtain ⟨k, hk, rfl, rfl, rfl, hb, hj⟩ := hrel
        have HB := Lib.hid hb
        have HJ := Lib.hid hj
        clear hb hj
        have X1 := Lib.hid (H3.out.below HB.out)
        have N1 := Lib.hid (NB.out.below HB.out)
        have O1 := Lib.hid (O3.out.below HB.out)
        match k, hk with
        | 0, _ => (
          have r0 := N1.out.cell (2 * 0) _ rfl
          have r1 := N1.out.cell (2 * 0 + 1) _ rfl
          (have q0 := X1.out.ob.cell 0 _ rfl; have q1 := X1.out.ob.cell 1 _ rfl; have q2 := X1.out.ob.cell 2 _ rfl; have q3 := X1.out.ob.cell 3 _ rfl; have q4 := X1.out.ob.cell 4 _ rfl; have q5 := X1.out.ob.cell 5 _ rfl; have q6 := X1.out.ob.cell 6 _ rfl; have q7 := X1.out.ob.cell 7 _ rfl)
          obtain ⟨v, hv⟩ : ∃ v, v = ruleV c 0 := ⟨_, rfl⟩
          have CON : Hid (∀ W, CfgOk W c → ObjAt W gb 4 [.bool (gateB c)] → Calls Tryd.prog 30 #[(.agg #[.int .i64 c.cats, .slice c.g.a c.g.l.length c.g.cap, .slice c.r.a c.r.l.length c.r.cap, .slice c.p.a c.p.l.length c.p.cap, .slice c.n.a c.n.l.length c.n.cap, .slice c.s.a c.s.l.length c.s.cap, .int .i64 c.gate, .int .i64 c.quota])] W fun e w' => e = .returned (.tuple #[.int .i64 v.1, .bool v.2]) ∧ Below W.heap.size W w') := fun W hc ho => by rw [hv]; exact (guests_any c _ hc)
          go_upto_region 8 with fail
          have R4 : Hid (ObjAt (wr.alloc (.cells #[.func (Fn.func 30) #[] #[], .int .i64 13] 82)) wr.heap.size 82 [.func (Fn.func 30) #[] #[], .int .i64 13]) := ObjAt.new wr _ _
          have B4 : Hid (Below wr.heap.size wr (wr.alloc (.cells #[.func (Fn.func 30) #[] #[], .int .i64 13] 82))) := (Below.refl _ _).alloc (Nat.le_refl _) _
          generalize wr.alloc (.cells #[.func (Fn.func 30) #[] #[], .int .i64 13] 82) = W4 at R4 B4 ⊢
          generalize wr.heap.size = rr at R4 ⊢
          have X4 := Lib.hid (X1.out.below B4.out)
          have O4 := Lib.hid (O1.out.below B4.out)
          clear r0 r1
          (replace q0 := X4.out.ob.cell 0 _ rfl; replace q1 := X4.out.ob.cell 1 _ rfl; replace q2 := X4.out.ob.cell 2 _ rfl; replace q3 := X4.out.ob.cell 3 _ rfl; replace q4 := X4.out.ob.cell 4 _ rfl; replace q5 := X4.out.ob.cell 5 _ rfl; replace q6 := X4.out.ob.cell 6 _ rfl; replace q7 := X4.out.ob.cell 7 _ rfl)
          have r0 := R4.out.cell 0 _ rfl
          obtain ⟨vi, vb⟩ := v
          have HV := Lib.hid hv
          clear hv
          dsimp only at CON
          cases vb with
          | false =>
            have HJ2 : Hid (∀ j, j < 0 + 1 → (ruleV c j).2 = false) := fun j hj => by
              rcases Nat.lt_or_ge j 0 with h | h
              · exact HJ.out j h
              · rw [show j = 0 by omega, ← HV.out]
            go_wp2_with (go_at_call 30; refine (CON.out _ X4.out.ok O4.out).mono ?_; rintro e W5 ⟨rfl, hb⟩; have HB5 := Lib.hid (HB.out.trans ((B4.out.trans (hb.mono B4.out.size)).mono HB.out.size)); clear hb)
            go_roundw
            case rel => exact ⟨0 + 1, by omega, by go_num, rfl, rfl, HB5.out, HJ2.out⟩
            case measure => simp [intOf]
          | true =>
            have hx : x = (13 + 0, vi) := by rw [HG.out, rule_hit (k := 0) (by omega) HJ.out (by rw [← HV.out])]; dsimp only; rw [← HV.out]; rfl
            subst hx
            go_wp2_with (go_at_call 30; refine (CON.out _ X4.out.ok O4.out).mono ?_; rintro e W5 ⟨rfl, hb⟩; have X5 := Lib.hid (X4.out.below hb); have R5 := Lib.hid (R4.out.below hb); clear hb)
            have t1 := R5.out.cell 1 _ rfl
            go_quiet (fail)
            go_wp2_with fail
            rw [Exit.noGoto_ret]; go_ret2
            exact ⟨rfl, below_drewN X5.out.bel _⟩
)
        | 1, _ => (
          have r0 := N1.out.cell (2 * 1) _ rfl
          have r1 := N1.out.cell (2 * 1 + 1) _ rfl
          (have q0 := X1.out.ob.cell 0 _ rfl; have q1 := X1.out.ob.cell 1 _ rfl; have q2 := X1.out.ob.cell 2 _ rfl; have q3 := X1.out.ob.cell 3 _ rfl; have q4 := X1.out.ob.cell 4 _ rfl; have q5 := X1.out.ob.cell 5 _ rfl; have q6 := X1.out.ob.cell 6 _ rfl; have q7 := X1.out.ob.cell 7 _ rfl)
          obtain ⟨v, hv⟩ : ∃ v, v = ruleV c 1 := ⟨_, rfl⟩
          have CON : Hid (∀ W, CfgOk W c → ObjAt W gb 4 [.bool (gateB c)] → Calls Tryd.prog 31 #[(.agg #[.int .i64 c.cats, .slice c.g.a c.g.l.length c.g.cap, .slice c.r.a c.r.l.length c.r.cap, .slice c.p.a c.p.l.length c.p.cap, .slice c.n.a c.n.l.length c.n.cap, .slice c.s.a c.s.l.length c.s.cap, .int .i64 c.gate, .int .i64 c.quota])] W fun e w' => e = .returned (.tuple #[.int .i64 v.1, .bool v.2]) ∧ Below W.heap.size W w') := fun W hc ho => by rw [hv]; exact (ranges_any c _ hc)
          go_upto_region 8 with fail
          have R4 : Hid (ObjAt (wr.alloc (.cells #[.func (Fn.func 31) #[] #[], .int .i64 14] 82)) wr.heap.size 82 [.func (Fn.func 31) #[] #[], .int .i64 14]) := ObjAt.new wr _ _
          have B4 : Hid (Below wr.heap.size wr (wr.alloc (.cells #[.func (Fn.func 31) #[] #[], .int .i64 14] 82))) := (Below.refl _ _).alloc (Nat.le_refl _) _
          generalize wr.alloc (.cells #[.func (Fn.func 31) #[] #[], .int .i64 14] 82) = W4 at R4 B4 ⊢
          generalize wr.heap.size = rr at R4 ⊢
          have X4 := Lib.hid (X1.out.below B4.out)
          have O4 := Lib.hid (O1.out.below B4.out)
          clear r0 r1
          (replace q0 := X4.out.ob.cell 0 _ rfl; replace q1 := X4.out.ob.cell 1 _ rfl; replace q2 := X4.out.ob.cell 2 _ rfl; replace q3 := X4.out.ob.cell 3 _ rfl; replace q4 := X4.out.ob.cell 4 _ rfl; replace q5 := X4.out.ob.cell 5 _ rfl; replace q6 := X4.out.ob.cell 6 _ rfl; replace q7 := X4.out.ob.cell 7 _ rfl)
          have r0 := R4.out.cell 0 _ rfl
          obtain ⟨vi, vb⟩ := v
          have HV := Lib.hid hv
          clear hv
          dsimp only at CON
          cases vb with
          | false =>
            have HJ2 : Hid (∀ j, j < 1 + 1 → (ruleV c j).2 = false) := fun j hj => by
              rcases Nat.lt_or_ge j 1 with h | h
              · exact HJ.out j h
              · rw [show j = 1 by omega, ← HV.out]
            go_wp2_with (go_at_call 31; refine (CON.out _ X4.out.ok O4.out).mono ?_; rintro e W5 ⟨rfl, hb⟩; have HB5 := Lib.hid (HB.out.trans ((B4.out.trans (hb.mono B4.out.size)).mono HB.out.size)); clear hb)
            go_roundw
            case rel => exact ⟨1 + 1, by omega, by go_num, rfl, rfl, HB5.out, HJ2.out⟩
            case measure => simp [intOf]
          | true =>
            have hx : x = (13 + 1, vi) := by rw [HG.out, rule_hit (k := 1) (by omega) HJ.out (by rw [← HV.out])]; dsimp only; rw [← HV.out]; rfl
            subst hx
            go_wp2_with (go_at_call 31; refine (CON.out _ X4.out.ok O4.out).mono ?_; rintro e W5 ⟨rfl, hb⟩; have X5 := Lib.hid (X4.out.below hb); have R5 := Lib.hid (R4.out.below hb); clear hb)
            have t1 := R5.out.cell 1 _ rfl
            go_quiet (fail)
            go_wp2_with fail
            rw [Exit.noGoto_ret]; go_ret2
            exact ⟨rfl, below_drewN X5.out.bel _⟩
)
        | 2, _ => (
          have r0 := N1.out.cell (2 * 2) _ rfl
          have r1 := N1.out.cell (2 * 2 + 1) _ rfl
          (have q0 := X1.out.ob.cell 0 _ rfl; have q1 := X1.out.ob.cell 1 _ rfl; have q2 := X1.out.ob.cell 2 _ rfl; have q3 := X1.out.ob.cell 3 _ rfl; have q4 := X1.out.ob.cell 4 _ rfl; have q5 := X1.out.ob.cell 5 _ rfl; have q6 := X1.out.ob.cell 6 _ rfl; have q7 := X1.out.ob.cell 7 _ rfl)
          obtain ⟨v, hv⟩ : ∃ v, v = ruleV c 2 := ⟨_, rfl⟩
          have CON : Hid (∀ W, CfgOk W c → ObjAt W gb 4 [.bool (gateB c)] → Calls Tryd.prog 32 #[(.agg #[.int .i64 c.cats, .slice c.g.a c.g.l.length c.g.cap, .slice c.r.a c.r.l.length c.r.cap, .slice c.p.a c.p.l.length c.p.cap, .slice c.n.a c.n.l.length c.n.cap, .slice c.s.a c.s.l.length c.s.cap, .int .i64 c.gate, .int .i64 c.quota])] W fun e w' => e = .returned (.tuple #[.int .i64 v.1, .bool v.2]) ∧ Below W.heap.size W w') := fun W hc ho => by rw [hv]; exact (ports_any c _ hc)
          go_upto_region 8 with fail
          have R4 : Hid (ObjAt (wr.alloc (.cells #[.func (Fn.func 32) #[] #[], .int .i64 15] 82)) wr.heap.size 82 [.func (Fn.func 32) #[] #[], .int .i64 15]) := ObjAt.new wr _ _
          have B4 : Hid (Below wr.heap.size wr (wr.alloc (.cells #[.func (Fn.func 32) #[] #[], .int .i64 15] 82))) := (Below.refl _ _).alloc (Nat.le_refl _) _
          generalize wr.alloc (.cells #[.func (Fn.func 32) #[] #[], .int .i64 15] 82) = W4 at R4 B4 ⊢
          generalize wr.heap.size = rr at R4 ⊢
          have X4 := Lib.hid (X1.out.below B4.out)
          have O4 := Lib.hid (O1.out.below B4.out)
          clear r0 r1
          (replace q0 := X4.out.ob.cell 0 _ rfl; replace q1 := X4.out.ob.cell 1 _ rfl; replace q2 := X4.out.ob.cell 2 _ rfl; replace q3 := X4.out.ob.cell 3 _ rfl; replace q4 := X4.out.ob.cell 4 _ rfl; replace q5 := X4.out.ob.cell 5 _ rfl; replace q6 := X4.out.ob.cell 6 _ rfl; replace q7 := X4.out.ob.cell 7 _ rfl)
          have r0 := R4.out.cell 0 _ rfl
          obtain ⟨vi, vb⟩ := v
          have HV := Lib.hid hv
          clear hv
          dsimp only at CON
          cases vb with
          | false =>
            have HJ2 : Hid (∀ j, j < 2 + 1 → (ruleV c j).2 = false) := fun j hj => by
              rcases Nat.lt_or_ge j 2 with h | h
              · exact HJ.out j h
              · rw [show j = 2 by omega, ← HV.out]
            go_wp2_with (go_at_call 32; refine (CON.out _ X4.out.ok O4.out).mono ?_; rintro e W5 ⟨rfl, hb⟩; have HB5 := Lib.hid (HB.out.trans ((B4.out.trans (hb.mono B4.out.size)).mono HB.out.size)); clear hb)
            go_roundw
            case rel => exact ⟨2 + 1, by omega, by go_num, rfl, rfl, HB5.out, HJ2.out⟩
            case measure => simp [intOf]
          | true =>
            have hx : x = (13 + 2, vi) := by rw [HG.out, rule_hit (k := 2) (by omega) HJ.out (by rw [← HV.out])]; dsimp only; rw [← HV.out]; rfl
            subst hx
            go_wp2_with (go_at_call 32; refine (CON.out _ X4.out.ok O4.out).mono ?_; rintro e W5 ⟨rfl, hb⟩; have X5 := Lib.hid (X4.out.below hb); have R5 := Lib.hid (R4.out.below hb); clear hb)
            have t1 := R5.out.cell 1 _ rfl
            go_quiet (fail)
            go_wp2_with fail
            rw [Exit.noGoto_ret]; go_ret2
            exact ⟨rfl, below_drewN X5.out.bel _⟩
)
        | 3, _ => (
          have r0 := N1.out.cell (2 * 3) _ rfl
          have r1 := N1.out.cell (2 * 3 + 1) _ rfl
          (have q0 := X1.out.ob.cell 0 _ rfl; have q1 := X1.out.ob.cell 1 _ rfl; have q2 := X1.out.ob.cell 2 _ rfl; have q3 := X1.out.ob.cell 3 _ rfl; have q4 := X1.out.ob.cell 4 _ rfl; have q5 := X1.out.ob.cell 5 _ rfl; have q6 := X1.out.ob.cell 6 _ rfl; have q7 := X1.out.ob.cell 7 _ rfl)
          obtain ⟨v, hv⟩ : ∃ v, v = ruleV c 3 := ⟨_, rfl⟩
          have CON : Hid (∀ W, CfgOk W c → ObjAt W gb 4 [.bool (gateB c)] → Calls Tryd.prog 33 #[(.agg #[.int .i64 c.cats, .slice c.g.a c.g.l.length c.g.cap, .slice c.r.a c.r.l.length c.r.cap, .slice c.p.a c.p.l.length c.p.cap, .slice c.n.a c.n.l.length c.n.cap, .slice c.s.a c.s.l.length c.s.cap, .int .i64 c.gate, .int .i64 c.quota])] W fun e w' => e = .returned (.tuple #[.int .i64 v.1, .bool v.2]) ∧ Below W.heap.size W w') := fun W hc ho => by rw [hv]; exact (rings_any c _ hc)
          go_upto_region 8 with fail
          have R4 : Hid (ObjAt (wr.alloc (.cells #[.func (Fn.func 33) #[] #[], .int .i64 16] 82)) wr.heap.size 82 [.func (Fn.func 33) #[] #[], .int .i64 16]) := ObjAt.new wr _ _
          have B4 : Hid (Below wr.heap.size wr (wr.alloc (.cells #[.func (Fn.func 33) #[] #[], .int .i64 16] 82))) := (Below.refl _ _).alloc (Nat.le_refl _) _
          generalize wr.alloc (.cells #[.func (Fn.func 33) #[] #[], .int .i64 16] 82) = W4 at R4 B4 ⊢
          generalize wr.heap.size = rr at R4 ⊢
          have X4 := Lib.hid (X1.out.below B4.out)
          have O4 := Lib.hid (O1.out.below B4.out)
          clear r0 r1
          (replace q0 := X4.out.ob.cell 0 _ rfl; replace q1 := X4.out.ob.cell 1 _ rfl; replace q2 := X4.out.ob.cell 2 _ rfl; replace q3 := X4.out.ob.cell 3 _ rfl; replace q4 := X4.out.ob.cell 4 _ rfl; replace q5 := X4.out.ob.cell 5 _ rfl; replace q6 := X4.out.ob.cell 6 _ rfl; replace q7 := X4.out.ob.cell 7 _ rfl)
          have r0 := R4.out.cell 0 _ rfl
          obtain ⟨vi, vb⟩ := v
          have HV := Lib.hid hv
          clear hv
          dsimp only at CON
          cases vb with
          | false =>
            have HJ2 : Hid (∀ j, j < 3 + 1 → (ruleV c j).2 = false) := fun j hj => by
              rcases Nat.lt_or_ge j 3 with h | h
              · exact HJ.out j h
              · rw [show j = 3 by omega, ← HV.out]
            go_wp2_with (go_at_call 33; refine (CON.out _ X4.out.ok O4.out).mono ?_; rintro e W5 ⟨rfl, hb⟩; have HB5 := Lib.hid (HB.out.trans ((B4.out.trans (hb.mono B4.out.size)).mono HB.out.size)); clear hb)
            go_roundw
            case rel => exact ⟨3 + 1, by omega, by go_num, rfl, rfl, HB5.out, HJ2.out⟩
            case measure => simp [intOf]
          | true =>
            have hx : x = (13 + 3, vi) := by rw [HG.out, rule_hit (k := 3) (by omega) HJ.out (by rw [← HV.out])]; dsimp only; rw [← HV.out]; rfl
            subst hx
            go_wp2_with (go_at_call 33; refine (CON.out _ X4.out.ok O4.out).mono ?_; rintro e W5 ⟨rfl, hb⟩; have X5 := Lib.hid (X4.out.below hb); have R5 := Lib.hid (R4.out.below hb); clear hb)
            have t1 := R5.out.cell 1 _ rfl
            go_quiet (fail)
            go_wp2_with fail
            rw [Exit.noGoto_ret]; go_ret2
            exact ⟨rfl, below_drewN X5.out.bel _⟩
)
        | 4, _ => (
          have r0 := N1.out.cell (2 * 4) _ rfl
          have r1 := N1.out.cell (2 * 4 + 1) _ rfl
          (have q0 := X1.out.ob.cell 0 _ rfl; have q1 := X1.out.ob.cell 1 _ rfl; have q2 := X1.out.ob.cell 2 _ rfl; have q3 := X1.out.ob.cell 3 _ rfl; have q4 := X1.out.ob.cell 4 _ rfl; have q5 := X1.out.ob.cell 5 _ rfl; have q6 := X1.out.ob.cell 6 _ rfl; have q7 := X1.out.ob.cell 7 _ rfl)
          obtain ⟨v, hv⟩ : ∃ v, v = ruleV c 4 := ⟨_, rfl⟩
          have CON : Hid (∀ W, CfgOk W c → ObjAt W gb 4 [.bool (gateB c)] → Calls Tryd.prog 34 #[(.agg #[.int .i64 c.cats, .slice c.g.a c.g.l.length c.g.cap, .slice c.r.a c.r.l.length c.r.cap, .slice c.p.a c.p.l.length c.p.cap, .slice c.n.a c.n.l.length c.n.cap, .slice c.s.a c.s.l.length c.s.cap, .int .i64 c.gate, .int .i64 c.quota])] W fun e w' => e = .returned (.tuple #[.int .i64 v.1, .bool v.2]) ∧ Below W.heap.size W w') := fun W hc ho => by rw [hv]; exact (slots_any c _ hc)
          go_upto_region 8 with fail
          have R4 : Hid (ObjAt (wr.alloc (.cells #[.func (Fn.func 34) #[] #[], .int .i64 17] 82)) wr.heap.size 82 [.func (Fn.func 34) #[] #[], .int .i64 17]) := ObjAt.new wr _ _
          have B4 : Hid (Below wr.heap.size wr (wr.alloc (.cells #[.func (Fn.func 34) #[] #[], .int .i64 17] 82))) := (Below.refl _ _).alloc (Nat.le_refl _) _
          generalize wr.alloc (.cells #[.func (Fn.func 34) #[] #[], .int .i64 17] 82) = W4 at R4 B4 ⊢
          generalize wr.heap.size = rr at R4 ⊢
          have X4 := Lib.hid (X1.out.below B4.out)
          have O4 := Lib.hid (O1.out.below B4.out)
          clear r0 r1
          (replace q0 := X4.out.ob.cell 0 _ rfl; replace q1 := X4.out.ob.cell 1 _ rfl; replace q2 := X4.out.ob.cell 2 _ rfl; replace q3 := X4.out.ob.cell 3 _ rfl; replace q4 := X4.out.ob.cell 4 _ rfl; replace q5 := X4.out.ob.cell 5 _ rfl; replace q6 := X4.out.ob.cell 6 _ rfl; replace q7 := X4.out.ob.cell 7 _ rfl)
          have r0 := R4.out.cell 0 _ rfl
          obtain ⟨vi, vb⟩ := v
          have HV := Lib.hid hv
          clear hv
          dsimp only at CON
          cases vb with
          | false =>
            have HJ2 : Hid (∀ j, j < 4 + 1 → (ruleV c j).2 = false) := fun j hj => by
              rcases Nat.lt_or_ge j 4 with h | h
              · exact HJ.out j h
              · rw [show j = 4 by omega, ← HV.out]
            go_wp2_with (go_at_call 34; refine (CON.out _ X4.out.ok O4.out).mono ?_; rintro e W5 ⟨rfl, hb⟩; have HB5 := Lib.hid (HB.out.trans ((B4.out.trans (hb.mono B4.out.size)).mono HB.out.size)); clear hb)
            go_roundw
            case rel => exact ⟨4 + 1, by omega, by go_num, rfl, rfl, HB5.out, HJ2.out⟩
            case measure => simp [intOf]
          | true =>
            have hx : x = (13 + 4, vi) := by rw [HG.out, rule_hit (k := 4) (by omega) HJ.out (by rw [← HV.out])]; dsimp only; rw [← HV.out]; rfl
            subst hx
            go_wp2_with (go_at_call 34; refine (CON.out _ X4.out.ok O4.out).mono ?_; rintro e W5 ⟨rfl, hb⟩; have X5 := Lib.hid (X4.out.below hb); have R5 := Lib.hid (R4.out.below hb); clear hb)
            have t1 := R5.out.cell 1 _ rfl
            go_quiet (fail)
            go_wp2_with fail
            rw [Exit.noGoto_ret]; go_ret2
            exact ⟨rfl, below_drewN X5.out.bel _⟩
)
        | 5, _ => (
          have r0 := N1.out.cell (2 * 5) _ rfl
          have r1 := N1.out.cell (2 * 5 + 1) _ rfl
          (have q0 := X1.out.ob.cell 0 _ rfl; have q1 := X1.out.ob.cell 1 _ rfl; have q2 := X1.out.ob.cell 2 _ rfl; have q3 := X1.out.ob.cell 3 _ rfl; have q4 := X1.out.ob.cell 4 _ rfl; have q5 := X1.out.ob.cell 5 _ rfl; have q6 := X1.out.ob.cell 6 _ rfl; have q7 := X1.out.ob.cell 7 _ rfl)
          obtain ⟨v, hv⟩ : ∃ v, v = ruleV c 5 := ⟨_, rfl⟩
          have CON : Hid (∀ W, CfgOk W c → ObjAt W gb 4 [.bool (gateB c)] → Calls Tryd.prog 29 #[(.agg #[.int .i64 c.cats, .slice c.g.a c.g.l.length c.g.cap, .slice c.r.a c.r.l.length c.r.cap, .slice c.p.a c.p.l.length c.p.cap, .slice c.n.a c.n.l.length c.n.cap, .slice c.s.a c.s.l.length c.s.cap, .int .i64 c.gate, .int .i64 c.quota]), .pointer (some ⟨gb, 0, none⟩)] W fun e w' => e = .returned (.tuple #[.int .i64 v.1, .bool v.2]) ∧ Below W.heap.size W w') := fun W hc ho => by rw [hv]; exact (one1_any c _ gb _ hc ho)
          go_upto_region 8 with fail
          have R4 : Hid (ObjAt (wr.alloc (.cells #[.func (Fn.func 29) #[] #[.pointer (some ⟨gb, 0, none⟩)], .int .i64 18] 82)) wr.heap.size 82 [.func (Fn.func 29) #[] #[.pointer (some ⟨gb, 0, none⟩)], .int .i64 18]) := ObjAt.new wr _ _
          have B4 : Hid (Below wr.heap.size wr (wr.alloc (.cells #[.func (Fn.func 29) #[] #[.pointer (some ⟨gb, 0, none⟩)], .int .i64 18] 82))) := (Below.refl _ _).alloc (Nat.le_refl _) _
          generalize wr.alloc (.cells #[.func (Fn.func 29) #[] #[.pointer (some ⟨gb, 0, none⟩)], .int .i64 18] 82) = W4 at R4 B4 ⊢
          generalize wr.heap.size = rr at R4 ⊢
          have X4 := Lib.hid (X1.out.below B4.out)
          have O4 := Lib.hid (O1.out.below B4.out)
          clear r0 r1
          (replace q0 := X4.out.ob.cell 0 _ rfl; replace q1 := X4.out.ob.cell 1 _ rfl; replace q2 := X4.out.ob.cell 2 _ rfl; replace q3 := X4.out.ob.cell 3 _ rfl; replace q4 := X4.out.ob.cell 4 _ rfl; replace q5 := X4.out.ob.cell 5 _ rfl; replace q6 := X4.out.ob.cell 6 _ rfl; replace q7 := X4.out.ob.cell 7 _ rfl)
          have r0 := R4.out.cell 0 _ rfl
          obtain ⟨vi, vb⟩ := v
          have HV := Lib.hid hv
          clear hv
          dsimp only at CON
          cases vb with
          | false =>
            have HJ2 : Hid (∀ j, j < 5 + 1 → (ruleV c j).2 = false) := fun j hj => by
              rcases Nat.lt_or_ge j 5 with h | h
              · exact HJ.out j h
              · rw [show j = 5 by omega, ← HV.out]
            go_wp2_with (go_at_call 29; refine (CON.out _ X4.out.ok O4.out).mono ?_; rintro e W5 ⟨rfl, hb⟩; have HB5 := Lib.hid (HB.out.trans ((B4.out.trans (hb.mono B4.out.size)).mono HB.out.size)); clear hb)
            go_roundw
            case rel => exact ⟨5 + 1, by omega, by go_num, rfl, rfl, HB5.out, HJ2.out⟩
            case measure => simp [intOf]
          | true =>
            have hx : x = (13 + 5, vi) := by rw [HG.out, rule_hit (k := 5) (by omega) HJ.out (by rw [← HV.out])]; dsimp only; rw [← HV.out]; rfl
            subst hx
            go_wp2_with (go_at_call 29; refine (CON.out _ X4.out.ok O4.out).mono ?_; rintro e W5 ⟨rfl, hb⟩; have X5 := Lib.hid (X4.out.below hb); have R5 := Lib.hid (R4.out.below hb); clear hb)
            have t1 := R5.out.cell 1 _ rfl
            go_quiet (fail)
            go_wp2_with fail
            rw [Exit.noGoto_ret]; go_ret2
            exact ⟨rfl, below_drewN X5.out.bel _⟩
)
        | 6, _ =>
          have hgk : GOk c := gok_of (HJ.out 0 (by omega)) (HJ.out 3 (by omega))
          have NEE : Hid (∀ W, CfgOk W c → Calls Tryd.prog 36 #[(.agg #[.int .i64 c.cats, .slice c.g.a c.g.l.length c.g.cap, .slice c.r.a c.r.l.length c.r.cap, .slice c.p.a c.p.l.length c.p.cap, .slice c.n.a c.n.l.length c.n.cap, .slice c.s.a c.s.l.length c.s.cap, .int .i64 c.gate, .int .i64 c.quota])] W fun e w' => e = .returned (.int .i64 (needV c)) ∧ Below W.heap.size W w') := fun W hc => need_any c hgk _ hc
          have hx : x = if 32 < needV c then (19, 0) else (0, 0) := by rw [HG.out, rule_none HJ.out]
          clear hgk HG
          (have q0 := X1.out.ob.cell 0 _ rfl; have q1 := X1.out.ob.cell 1 _ rfl; have q2 := X1.out.ob.cell 2 _ rfl; have q3 := X1.out.ob.cell 3 _ rfl; have q4 := X1.out.ob.cell 4 _ rfl; have q5 := X1.out.ob.cell 5 _ rfl; have q6 := X1.out.ob.cell 6 _ rfl; have q7 := X1.out.ob.cell 7 _ rfl)
          by_cases hn : 32 < needV c
          · have dn : decide (needV c > 32) = true := by simp [hn]
            obtain rfl : x = (19, 0) := by rw [hx, if_pos hn]
            clear hx hn
            go_wp2_with (go_at_call 36; refine (NEE.out _ X1.out.ok).mono ?_; rintro e W5 ⟨rfl, hb⟩; have X5 := Lib.hid (X1.out.below hb); clear hb)
            rw [Exit.noGoto_ret]; go_ret2
            exact ⟨rfl, X5.out.bel⟩
          · have dn : decide (needV c > 32) = false := by simpa using hn
            obtain rfl : x = (0, 0) := by rw [hx, if_neg hn]
            clear hx hn
            go_wp2_with (go_at_call 36; refine (NEE.out _ X1.out.ok).mono ?_; rintro e W5 ⟨rfl, hb⟩; have X5 := Lib.hid (X1.out.below hb); clear hb)
            rw [Exit.noGoto_ret]; go_ret2
            exact ⟨rfl, X5.out.bel⟩
end Go.Proofs.YtoalpdjpljapbaaDoor
