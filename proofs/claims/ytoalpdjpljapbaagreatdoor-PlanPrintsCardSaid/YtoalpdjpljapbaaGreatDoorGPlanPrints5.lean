/- Chapter 4: the gate, and Check. -/
import Derived.Test.YtoalpdjpljapbaaGreatDoorGPlanPrints4
import Derived.WalkMore
import Derived.Laws.EntriesVeiled
import Derived.Test.YtoalpdjpljapbaaGreatDoorGPlanPrints3
import Derived.Test.YtoalpdjpljapbaaGreatDoorGPlanPrints0
import Derived.Lib.ItoaNum
import Derived.Lib.ItoaMem
import Derived.Lib.ItoaLen
import Derived.Lib.Walk
import Derived.Lib.OthersKept
import Derived.Lib.QuietBelow
import Derived.Test.YtoalpdjpljapbaaGreatDoorGPlanPrints1
import Derived.Deep.RegionHeld3
import Derived.BigQuiet
namespace Go.Proofs.YtoalpdjpljapbaaGreatDoor
set_option linter.unusedVariables false
set_option linter.unusedSimpArgs false
set_option linter.unnecessarySimpa false
open Go.RowKit
set_option maxHeartbeats 2000000
set_option maxRecDepth 100000
set_option linter.unusedVariables false
variable {W W' w : World} {c : Cv} {b N : Nat} {s : Sl}
def gateB (c : Cv) : Bool := if c.gate = -1 then (c.quota != 0) else !(isG c c.gate) || (decide (c.quota < 0) || decide (64 < c.quota))
theorem gate_any (c : Cv) (w : World) (h : CfgOk w c) : Calls Tryz.prog 24 #[(.agg #[.int .i64 c.cats, .slice c.g.a c.g.l.length c.g.cap, .slice c.r.a c.r.l.length c.r.cap, .slice c.p.a c.p.l.length c.p.cap, .slice c.n.a c.n.l.length c.n.cap, .slice c.s.a c.s.l.length c.s.cap, .int .i64 c.gate, .int .i64 c.quota])] w fun e w' => e = .returned (.bool (gateB c)) ∧ Below w.heap.size w w' := by
  obtain ⟨x, hx⟩ : ∃ x, x = gateB c := ⟨_, rfl⟩
  rw [← hx]
  have HG : Hid (x = if c.gate = -1 then (c.quota != 0) else !(isG c c.gate) || (decide (c.quota < 0) || decide (64 < c.quota))) := hx
  clear hx
  by_cases h1 : c.gate = -1
  · have d1 : (c.gate == -1) = true := by simp [h1]
    have hx : x = (c.quota != 0) := by rw [HG.out, if_pos h1]
    subst hx
    clear h1 HG
    (have h0 := CX.new h; go_enter Tryz.func24, Tryz.ntmps24; go_upto_region 1 with fail; generalize w.alloc (.cells #[.int .i64 c.cats, .slice c.g.a c.g.l.length c.g.cap, .slice c.r.a c.r.l.length c.r.cap, .slice c.p.a c.p.l.length c.p.cap, .slice c.n.a c.n.l.length c.n.cap, .slice c.s.a c.s.l.length c.s.cap, .int .i64 c.gate, .int .i64 c.quota] 28) = W1 at h0 ⊢; generalize w.heap.size = b0 at h0 ⊢; have H0 := Lib.hid h0; clear h0 h)
    (have q0 := H0.out.ob.cell 0 _ rfl; have q1 := H0.out.ob.cell 1 _ rfl; have q2 := H0.out.ob.cell 2 _ rfl; have q3 := H0.out.ob.cell 3 _ rfl; have q4 := H0.out.ob.cell 4 _ rfl; have q5 := H0.out.ob.cell 5 _ rfl; have q6 := H0.out.ob.cell 6 _ rfl; have q7 := H0.out.ob.cell 7 _ rfl)
    go_wp2_with fail
    go_ret
    exact ⟨rfl, H0.out.bel⟩
  · have d1 : (c.gate == -1) = false := by simp [h1]
    have hx : x = (!(isG c c.gate) || (decide (c.quota < 0) || decide (64 < c.quota))) := by rw [HG.out, if_neg h1]
    obtain ⟨vg, hvg⟩ : ∃ v, v = isG c c.gate := ⟨_, rfl⟩
    have GUE : Hid (∀ W, CfgOk W c → Calls Tryz.prog 47 #[(.agg #[.int .i64 c.cats, .slice c.g.a c.g.l.length c.g.cap, .slice c.r.a c.r.l.length c.r.cap, .slice c.p.a c.p.l.length c.p.cap, .slice c.n.a c.n.l.length c.n.cap, .slice c.s.a c.s.l.length c.s.cap, .int .i64 c.gate, .int .i64 c.quota]), .int .i64 c.gate] W fun e w' => e = .returned (.bool vg) ∧ Below W.heap.size W w') := fun W h => by rw [hvg]; exact guest_any _ _ _ h
    rw [← hvg] at hx
    clear h1 HG hvg
    cases vg with
    | false =>
      obtain rfl : x = true := by rw [hx]; rfl
      clear hx
      (have h0 := CX.new h; go_enter Tryz.func24, Tryz.ntmps24; go_upto_region 1 with fail; generalize w.alloc (.cells #[.int .i64 c.cats, .slice c.g.a c.g.l.length c.g.cap, .slice c.r.a c.r.l.length c.r.cap, .slice c.p.a c.p.l.length c.p.cap, .slice c.n.a c.n.l.length c.n.cap, .slice c.s.a c.s.l.length c.s.cap, .int .i64 c.gate, .int .i64 c.quota] 28) = W1 at h0 ⊢; generalize w.heap.size = b0 at h0 ⊢; have H0 := Lib.hid h0; clear h0 h)
      (have q0 := H0.out.ob.cell 0 _ rfl; have q1 := H0.out.ob.cell 1 _ rfl; have q2 := H0.out.ob.cell 2 _ rfl; have q3 := H0.out.ob.cell 3 _ rfl; have q4 := H0.out.ob.cell 4 _ rfl; have q5 := H0.out.ob.cell 5 _ rfl; have q6 := H0.out.ob.cell 6 _ rfl; have q7 := H0.out.ob.cell 7 _ rfl)
      (go_wp2_with (go_at_call 47; refine (GUE.out _ H0.out.ok).mono ?_; rintro e Wg ⟨rfl, hb⟩; have H1 := Lib.hid (H0.out.below hb); clear hb; replace q6 := H1.out.ob.cell 6 _ rfl; replace q7 := H1.out.ob.cell 7 _ rfl); go_ret; exact ⟨rfl, H1.out.bel⟩)
    | true =>
      by_cases h2 : c.quota < 0
      · have d2 : decide (c.quota < 0) = true := by simp [h2]
        obtain rfl : x = true := by rw [hx]; simp [h2]
        clear hx h2
        (have h0 := CX.new h; go_enter Tryz.func24, Tryz.ntmps24; go_upto_region 1 with fail; generalize w.alloc (.cells #[.int .i64 c.cats, .slice c.g.a c.g.l.length c.g.cap, .slice c.r.a c.r.l.length c.r.cap, .slice c.p.a c.p.l.length c.p.cap, .slice c.n.a c.n.l.length c.n.cap, .slice c.s.a c.s.l.length c.s.cap, .int .i64 c.gate, .int .i64 c.quota] 28) = W1 at h0 ⊢; generalize w.heap.size = b0 at h0 ⊢; have H0 := Lib.hid h0; clear h0 h)
        (have q0 := H0.out.ob.cell 0 _ rfl; have q1 := H0.out.ob.cell 1 _ rfl; have q2 := H0.out.ob.cell 2 _ rfl; have q3 := H0.out.ob.cell 3 _ rfl; have q4 := H0.out.ob.cell 4 _ rfl; have q5 := H0.out.ob.cell 5 _ rfl; have q6 := H0.out.ob.cell 6 _ rfl; have q7 := H0.out.ob.cell 7 _ rfl)
        (go_wp2_with (go_at_call 47; refine (GUE.out _ H0.out.ok).mono ?_; rintro e Wg ⟨rfl, hb⟩; have H1 := Lib.hid (H0.out.below hb); clear hb; replace q6 := H1.out.ob.cell 6 _ rfl; replace q7 := H1.out.ob.cell 7 _ rfl); go_ret; exact ⟨rfl, H1.out.bel⟩)
      · have d2 : decide (c.quota < 0) = false := by simpa using h2
        by_cases h3 : 64 < c.quota
        · have d3 : decide (c.quota > 64) = true := by simp [h3]
          obtain rfl : x = true := by rw [hx]; simp [h3]
          clear hx h2 h3
          (have h0 := CX.new h; go_enter Tryz.func24, Tryz.ntmps24; go_upto_region 1 with fail; generalize w.alloc (.cells #[.int .i64 c.cats, .slice c.g.a c.g.l.length c.g.cap, .slice c.r.a c.r.l.length c.r.cap, .slice c.p.a c.p.l.length c.p.cap, .slice c.n.a c.n.l.length c.n.cap, .slice c.s.a c.s.l.length c.s.cap, .int .i64 c.gate, .int .i64 c.quota] 28) = W1 at h0 ⊢; generalize w.heap.size = b0 at h0 ⊢; have H0 := Lib.hid h0; clear h0 h)
          (have q0 := H0.out.ob.cell 0 _ rfl; have q1 := H0.out.ob.cell 1 _ rfl; have q2 := H0.out.ob.cell 2 _ rfl; have q3 := H0.out.ob.cell 3 _ rfl; have q4 := H0.out.ob.cell 4 _ rfl; have q5 := H0.out.ob.cell 5 _ rfl; have q6 := H0.out.ob.cell 6 _ rfl; have q7 := H0.out.ob.cell 7 _ rfl)
          (go_wp2_with (go_at_call 47; refine (GUE.out _ H0.out.ok).mono ?_; rintro e Wg ⟨rfl, hb⟩; have H1 := Lib.hid (H0.out.below hb); clear hb; replace q6 := H1.out.ob.cell 6 _ rfl; replace q7 := H1.out.ob.cell 7 _ rfl); go_ret; exact ⟨rfl, H1.out.bel⟩)
        · have d3 : decide (c.quota > 64) = false := by simpa using h3
          obtain rfl : x = false := by rw [hx]; simp [h2, h3]
          clear hx h2 h3
          (have h0 := CX.new h; go_enter Tryz.func24, Tryz.ntmps24; go_upto_region 1 with fail; generalize w.alloc (.cells #[.int .i64 c.cats, .slice c.g.a c.g.l.length c.g.cap, .slice c.r.a c.r.l.length c.r.cap, .slice c.p.a c.p.l.length c.p.cap, .slice c.n.a c.n.l.length c.n.cap, .slice c.s.a c.s.l.length c.s.cap, .int .i64 c.gate, .int .i64 c.quota] 28) = W1 at h0 ⊢; generalize w.heap.size = b0 at h0 ⊢; have H0 := Lib.hid h0; clear h0 h)
          (have q0 := H0.out.ob.cell 0 _ rfl; have q1 := H0.out.ob.cell 1 _ rfl; have q2 := H0.out.ob.cell 2 _ rfl; have q3 := H0.out.ob.cell 3 _ rfl; have q4 := H0.out.ob.cell 4 _ rfl; have q5 := H0.out.ob.cell 5 _ rfl; have q6 := H0.out.ob.cell 6 _ rfl; have q7 := H0.out.ob.cell 7 _ rfl)
          (go_wp2_with (go_at_call 47; refine (GUE.out _ H0.out.ok).mono ?_; rintro e Wg ⟨rfl, hb⟩; have H1 := Lib.hid (H0.out.below hb); clear hb; replace q6 := H1.out.ob.cell 6 _ rfl; replace q7 := H1.out.ob.cell 7 _ rfl); go_ret; exact ⟨rfl, H1.out.bel⟩)
theorem one1_any (c : Cv) (bad : Bool) (b : Nat) (w : World) (h : CfgOk w c) (hb : ObjAt w b 4 [.bool bad]) : Calls Tryz.prog 18 #[(.agg #[.int .i64 c.cats, .slice c.g.a c.g.l.length c.g.cap, .slice c.r.a c.r.l.length c.r.cap, .slice c.p.a c.p.l.length c.p.cap, .slice c.n.a c.n.l.length c.n.cap, .slice c.s.a c.s.l.length c.s.cap, .int .i64 c.gate, .int .i64 c.quota]), .pointer (some ⟨b, 0, none⟩)] w fun e w' => e = .returned (.tuple #[.int .i64 0, .bool bad]) ∧ Below w.heap.size w w' := by
  have hb1 := hb.below ((Below.refl w.heap.size w).alloc (Nat.le_refl _) (.cells #[.int .i64 c.cats, .slice c.g.a c.g.l.length c.g.cap, .slice c.r.a c.r.l.length c.r.cap, .slice c.p.a c.p.l.length c.p.cap, .slice c.n.a c.n.l.length c.n.cap, .slice c.s.a c.s.l.length c.s.cap, .int .i64 c.gate, .int .i64 c.quota] 28))
  have HB := Lib.hid hb1
  clear hb hb1
  have h0 := CX.new h
  go_enter Tryz.func18, Tryz.ntmps18
  go_upto_region 1 with fail
  generalize w.alloc (.cells #[.int .i64 c.cats, .slice c.g.a c.g.l.length c.g.cap, .slice c.r.a c.r.l.length c.r.cap, .slice c.p.a c.p.l.length c.p.cap, .slice c.n.a c.n.l.length c.n.cap, .slice c.s.a c.s.l.length c.s.cap, .int .i64 c.gate, .int .i64 c.quota] 28) = W1 at h0 HB ⊢
  have H0 := Lib.hid h0; clear h0 h
  have k0 := HB.out.cell 0 _ rfl
  go_quiet (fail)
  go_wp2_with fail
  go_ret2
  exact ⟨rfl, below_drewN H0.out.bel _⟩
theorem one_any (bad : Bool) (w : World) : Calls Tryz.prog 17 #[.bool bad] w fun e w' => e = .returned (.func (.func 18) #[] #[.pointer (some ⟨w.heap.size, 0, none⟩)]) ∧ ObjAt w' w.heap.size 4 [.bool bad] ∧ Below w.heap.size w w' := by
  have N1 : Hid (ObjAt (w.alloc (.cells #[.bool bad] 4)) w.heap.size 4 [.bool bad]) := ObjAt.new w _ _
  have B1 : Hid (Below w.heap.size w (w.alloc (.cells #[.bool bad] 4))) := (Below.refl _ _).alloc (Nat.le_refl _) _
  go_enter Tryz.func17, Tryz.ntmps17
  go_wp2_with fail
  go_ret
  exact ⟨rfl, N1.out, B1.out⟩
/-- The six rules. -/
def ruleV (c : Cv) : Nat → Int × Bool
  | 0 => gFst c
  | 1 => rFst c
  | 2 => pFst c
  | 3 => nFst c
  | 4 => sFst c
  | _ => (0, gateB c)
def chkV (c : Cv) : Int × Int :=
  if c.cats < 0 ∨ 8 < c.cats then (12, 0) else
  match (List.range 6).find? fun k => (ruleV c k).2 with
  | some k => (13 + k, (ruleV c k).1)
  | none => if 32 < needV c then (19, 0) else (0, 0)
theorem rule_hit {c : Cv} {k : Nat} (hk : k < 6) (h : ∀ j, j < k → (ruleV c j).2 = false) (hp : (ruleV c k).2 = true) : (List.range 6).find? (fun k => (ruleV c k).2) = some k := by
  rw [List.find?_range_eq_some]
  exact ⟨hp, List.mem_range.2 hk, fun j hj => by simp [h j hj]⟩
theorem rule_none {c : Cv} (h : ∀ j, j < 6 → (ruleV c j).2 = false) : (List.range 6).find? (fun k => (ruleV c k).2) = none := by
  rw [List.find?_eq_none]; intro x hx; simp [h x (List.mem_range.1 hx)]
theorem fstV_false {P : Nat → Bool} {n : Nat} (h : (fstV P n).2 = false) : ∀ j, j < n → P j = false := by
  intro j hj
  unfold fstV at h
  cases hf : (List.range n).find? P with
  | some i => rw [hf] at h; cases h
  | none => rw [List.find?_eq_none] at hf; simpa using hf j (List.mem_range.2 hj)
theorem gok_of {c : Cv} (h0 : (gFst c).2 = false) (h3 : (nFst c).2 = false) : GOk c := by
  unfold gFst at h0
  unfold nFst at h3
  split at h0
  · cases h0
  · split at h3
    · cases h3
    · refine ⟨by omega, by omega, fun r hr => ?_⟩
      obtain ⟨i, hi, rfl⟩ := List.mem_iff_getElem.1 hr
      have := fstV_false h0 i hi
      simp only [gBad, at_eq hi, Bool.or_eq_false_iff, decide_eq_false_iff_not] at this
      unfold GRow
      omega
set_option maxHeartbeats 8000000 in
theorem check_any (c : Cv) (w : World) (h : CfgOk w c) : Calls Tryz.prog 7 #[(.agg #[.int .i64 c.cats, .slice c.g.a c.g.l.length c.g.cap, .slice c.r.a c.r.l.length c.r.cap, .slice c.p.a c.p.l.length c.p.cap, .slice c.n.a c.n.l.length c.n.cap, .slice c.s.a c.s.l.length c.s.cap, .int .i64 c.gate, .int .i64 c.quota])] w fun e w' => e = .returned (.tuple #[.int .i64 (chkV c).1, .int .i64 (chkV c).2]) ∧ Below w.heap.size w w' := by
  obtain ⟨x, hx⟩ : ∃ x, x = chkV c := ⟨_, rfl⟩
  rw [← hx]
  have HG : Hid (x = chkV c) := hx
  clear hx
  by_cases h1 : c.cats < 0
  · have d1 : decide (c.cats < 0) = true := by simp [h1]
    obtain rfl : x = (12, 0) := by rw [HG.out, chkV, if_pos (Or.inl h1)]
    clear h1 HG
    (have h0 := CX.new h; go_enter Tryz.func7, Tryz.ntmps7; go_upto_region 1 with fail; generalize w.alloc (.cells #[.int .i64 c.cats, .slice c.g.a c.g.l.length c.g.cap, .slice c.r.a c.r.l.length c.r.cap, .slice c.p.a c.p.l.length c.p.cap, .slice c.n.a c.n.l.length c.n.cap, .slice c.s.a c.s.l.length c.s.cap, .int .i64 c.gate, .int .i64 c.quota] 28) = W1 at h0 ⊢; generalize w.heap.size = b0 at h0 ⊢; have H0 := Lib.hid h0; clear h0 h); go_step3
    (have q0 := H0.out.ob.cell 0 _ rfl; have q1 := H0.out.ob.cell 1 _ rfl; have q2 := H0.out.ob.cell 2 _ rfl; have q3 := H0.out.ob.cell 3 _ rfl; have q4 := H0.out.ob.cell 4 _ rfl; have q5 := H0.out.ob.cell 5 _ rfl; have q6 := H0.out.ob.cell 6 _ rfl; have q7 := H0.out.ob.cell 7 _ rfl)
    go_wp2_with fail
    rw [Exit.noGoto_ret]; go_ret2
    exact ⟨rfl, H0.out.bel⟩
  · have d1 : decide (c.cats < 0) = false := by simp [h1]
    by_cases h2 : 8 < c.cats
    · have d2 : decide (c.cats > 8) = true := by simp [h2]
      obtain rfl : x = (12, 0) := by rw [HG.out, chkV, if_pos (Or.inr h2)]
      clear h1 h2 HG
      (have h0 := CX.new h; go_enter Tryz.func7, Tryz.ntmps7; go_upto_region 1 with fail; generalize w.alloc (.cells #[.int .i64 c.cats, .slice c.g.a c.g.l.length c.g.cap, .slice c.r.a c.r.l.length c.r.cap, .slice c.p.a c.p.l.length c.p.cap, .slice c.n.a c.n.l.length c.n.cap, .slice c.s.a c.s.l.length c.s.cap, .int .i64 c.gate, .int .i64 c.quota] 28) = W1 at h0 ⊢; generalize w.heap.size = b0 at h0 ⊢; have H0 := Lib.hid h0; clear h0 h); go_step3
      (have q0 := H0.out.ob.cell 0 _ rfl; have q1 := H0.out.ob.cell 1 _ rfl; have q2 := H0.out.ob.cell 2 _ rfl; have q3 := H0.out.ob.cell 3 _ rfl; have q4 := H0.out.ob.cell 4 _ rfl; have q5 := H0.out.ob.cell 5 _ rfl; have q6 := H0.out.ob.cell 6 _ rfl; have q7 := H0.out.ob.cell 7 _ rfl)
      go_wp2_with fail
      rw [Exit.noGoto_ret]; go_ret2
      exact ⟨rfl, H0.out.bel⟩
    · have d2 : decide (c.cats > 8) = false := by simpa using h2
      have hx : x = match (List.range 6).find? fun k => (ruleV c k).2 with
        | some k => ((13 + k : Int), (ruleV c k).1)
        | none => if 32 < needV c then (19, 0) else (0, 0) := by rw [HG.out, chkV, if_neg (by omega)]
      replace HG := Lib.hid hx
      clear h1 h2 hx
      (have h0 := CX.new h; go_enter Tryz.func7, Tryz.ntmps7; go_upto_region 1 with fail; generalize w.alloc (.cells #[.int .i64 c.cats, .slice c.g.a c.g.l.length c.g.cap, .slice c.r.a c.r.l.length c.r.cap, .slice c.p.a c.p.l.length c.p.cap, .slice c.n.a c.n.l.length c.n.cap, .slice c.s.a c.s.l.length c.s.cap, .int .i64 c.gate, .int .i64 c.quota] 28) = W1 at h0 ⊢; generalize w.heap.size = b0 at h0 ⊢; have H0 := Lib.hid h0; clear h0 h); go_step3
      (have q0 := H0.out.ob.cell 0 _ rfl; have q1 := H0.out.ob.cell 1 _ rfl; have q2 := H0.out.ob.cell 2 _ rfl; have q3 := H0.out.ob.cell 3 _ rfl; have q4 := H0.out.ob.cell 4 _ rfl; have q5 := H0.out.ob.cell 5 _ rfl; have q6 := H0.out.ob.cell 6 _ rfl; have q7 := H0.out.ob.cell 7 _ rfl)
      go_upto_region 5 with fail
      go_step3
      go_upto_region 6 with (first | (go_at_call 24; refine (gate_any c _ H0.out.ok).mono ?_; rintro e Wg ⟨rfl, hb⟩; have H1 := Lib.hid (H0.out.below hb); clear hb; clear q0 q1 q2 q3 q4 q5 q6 q7) | (go_at_call 17; refine (one_any _ _).mono ?_; rintro e W2 ⟨rfl, ho, hb⟩; have O2 := Lib.hid ho; have H2 := Lib.hid (H1.out.below hb); clear ho hb))
      have NB : Hid (ObjAt (W2.alloc (.cells #[.func (Fn.func 19) #[] #[], .int .i64 13, .func (Fn.func 20) #[] #[], .int .i64 14, .func (Fn.func 21) #[] #[], .int .i64 15, .func (Fn.func 22) #[] #[], .int .i64 16, .func (Fn.func 23) #[] #[], .int .i64 17, .func (Fn.func 18) #[] #[.pointer (some ⟨Wg.heap.size, 0, none⟩)], .int .i64 18] 67)) W2.heap.size 67 [.func (Fn.func 19) #[] #[], .int .i64 13, .func (Fn.func 20) #[] #[], .int .i64 14, .func (Fn.func 21) #[] #[], .int .i64 15, .func (Fn.func 22) #[] #[], .int .i64 16, .func (Fn.func 23) #[] #[], .int .i64 17, .func (Fn.func 18) #[] #[.pointer (some ⟨Wg.heap.size, 0, none⟩)], .int .i64 18]) := ObjAt.new W2 _ _
      have B3 : Hid (Below W2.heap.size W2 (W2.alloc (.cells #[.func (Fn.func 19) #[] #[], .int .i64 13, .func (Fn.func 20) #[] #[], .int .i64 14, .func (Fn.func 21) #[] #[], .int .i64 15, .func (Fn.func 22) #[] #[], .int .i64 16, .func (Fn.func 23) #[] #[], .int .i64 17, .func (Fn.func 18) #[] #[.pointer (some ⟨Wg.heap.size, 0, none⟩)], .int .i64 18] 67))) := (Below.refl _ _).alloc (Nat.le_refl _) _
      have O3 : Hid (ObjAt (W2.alloc (.cells #[.func (Fn.func 19) #[] #[], .int .i64 13, .func (Fn.func 20) #[] #[], .int .i64 14, .func (Fn.func 21) #[] #[], .int .i64 15, .func (Fn.func 22) #[] #[], .int .i64 16, .func (Fn.func 23) #[] #[], .int .i64 17, .func (Fn.func 18) #[] #[.pointer (some ⟨Wg.heap.size, 0, none⟩)], .int .i64 18] 67)) Wg.heap.size 4 [.bool (gateB c)]) := O2.out.below B3.out
      have H3 : Hid (CX w (W2.alloc (.cells #[.func (Fn.func 19) #[] #[], .int .i64 13, .func (Fn.func 20) #[] #[], .int .i64 14, .func (Fn.func 21) #[] #[], .int .i64 15, .func (Fn.func 22) #[] #[], .int .i64 16, .func (Fn.func 23) #[] #[], .int .i64 17, .func (Fn.func 18) #[] #[.pointer (some ⟨Wg.heap.size, 0, none⟩)], .int .i64 18] 67)) b0 c) := H2.out.below B3.out
      generalize W2.alloc (.cells #[.func (Fn.func 19) #[] #[], .int .i64 13, .func (Fn.func 20) #[] #[], .int .i64 14, .func (Fn.func 21) #[] #[], .int .i64 15, .func (Fn.func 22) #[] #[], .int .i64 16, .func (Fn.func 23) #[] #[], .int .i64 17, .func (Fn.func 18) #[] #[.pointer (some ⟨Wg.heap.size, 0, none⟩)], .int .i64 18] 67) = W3 at NB O3 H3 ⊢
      generalize W2.heap.size = rb at NB ⊢
      generalize Wg.heap.size = gb at NB O3 ⊢
      clear B3 O2 H2 H1
      go_loopw [5, 6, 31] (fun g5 g6 g31 wr => ∃ k : Nat, k ≤ 6 ∧ g31 = .int .i64 k ∧ g5 = .int .i64 0 ∧ g6 = .int .i64 0 ∧ Below W3.heap.size W3 wr ∧ ∀ j, j < k → (ruleV c j).2 = false) (fun _ _ g31 _ => 6 - (intOf g31).toNat)
      case atStart => exact ⟨0, by omega, rfl, rfl, rfl, Below.refl _ _, fun j hj => by omega⟩
      case round =>
        obtain ⟨k, hk, rfl, rfl, rfl, hb, hj⟩ := hrel
        have HB := Lib.hid hb
        have HJ := Lib.hid hj
        clear hb hj
        have X1 := Lib.hid (H3.out.below HB.out)
        have N1 := Lib.hid (NB.out.below HB.out)
        have O1 := Lib.hid (O3.out.below HB.out)
        match k, hk with
        | 0, _ => (
          have r0 := N1.out.cell (2 * 0) _ rfl
          have r1 := N1.out.cell (2 * 0 + 1) _ rfl
          (have q0 := X1.out.ob.cell 0 _ rfl; have q1 := X1.out.ob.cell 1 _ rfl; have q2 := X1.out.ob.cell 2 _ rfl; have q3 := X1.out.ob.cell 3 _ rfl; have q4 := X1.out.ob.cell 4 _ rfl; have q5 := X1.out.ob.cell 5 _ rfl; have q6 := X1.out.ob.cell 6 _ rfl; have q7 := X1.out.ob.cell 7 _ rfl)
          obtain ⟨v, hv⟩ : ∃ v, v = ruleV c 0 := ⟨_, rfl⟩
          have CON : Hid (∀ W, CfgOk W c → ObjAt W gb 4 [.bool (gateB c)] → Calls Tryz.prog 19 #[(.agg #[.int .i64 c.cats, .slice c.g.a c.g.l.length c.g.cap, .slice c.r.a c.r.l.length c.r.cap, .slice c.p.a c.p.l.length c.p.cap, .slice c.n.a c.n.l.length c.n.cap, .slice c.s.a c.s.l.length c.s.cap, .int .i64 c.gate, .int .i64 c.quota])] W fun e w' => e = .returned (.tuple #[.int .i64 v.1, .bool v.2]) ∧ Below W.heap.size W w') := fun W hc ho => by rw [hv]; exact (guests_any c _ hc)
          go_upto_region 8 with fail
          have R4 : Hid (ObjAt (wr.alloc (.cells #[.func (Fn.func 19) #[] #[], .int .i64 13] 67)) wr.heap.size 67 [.func (Fn.func 19) #[] #[], .int .i64 13]) := ObjAt.new wr _ _
          have B4 : Hid (Below wr.heap.size wr (wr.alloc (.cells #[.func (Fn.func 19) #[] #[], .int .i64 13] 67))) := (Below.refl _ _).alloc (Nat.le_refl _) _
          generalize wr.alloc (.cells #[.func (Fn.func 19) #[] #[], .int .i64 13] 67) = W4 at R4 B4 ⊢
          generalize wr.heap.size = rr at R4 ⊢
          have X4 := Lib.hid (X1.out.below B4.out)
          have O4 := Lib.hid (O1.out.below B4.out)
          clear r0 r1
          (replace q0 := X4.out.ob.cell 0 _ rfl; replace q1 := X4.out.ob.cell 1 _ rfl; replace q2 := X4.out.ob.cell 2 _ rfl; replace q3 := X4.out.ob.cell 3 _ rfl; replace q4 := X4.out.ob.cell 4 _ rfl; replace q5 := X4.out.ob.cell 5 _ rfl; replace q6 := X4.out.ob.cell 6 _ rfl; replace q7 := X4.out.ob.cell 7 _ rfl)
          have r0 := R4.out.cell 0 _ rfl
          obtain ⟨vi, vb⟩ := v
          have HV := Lib.hid hv
          clear hv
          dsimp only at CON
          cases vb with
          | false =>
            have HJ2 : Hid (∀ j, j < 0 + 1 → (ruleV c j).2 = false) := fun j hj => by
              rcases Nat.lt_or_ge j 0 with h | h
              · exact HJ.out j h
              · rw [show j = 0 by omega, ← HV.out]
            go_wp2_with (go_at_call 19; refine (CON.out _ X4.out.ok O4.out).mono ?_; rintro e W5 ⟨rfl, hb⟩; have HB5 := Lib.hid (HB.out.trans ((B4.out.trans (hb.mono B4.out.size)).mono HB.out.size)); clear hb)
            go_roundw
            case rel => exact ⟨0 + 1, by omega, by go_num, rfl, rfl, HB5.out, HJ2.out⟩
            case measure => simp [intOf]
          | true =>
            have hx : x = (13 + 0, vi) := by rw [HG.out, rule_hit (k := 0) (by omega) HJ.out (by rw [← HV.out])]; dsimp only; rw [← HV.out]; rfl
            subst hx
            go_wp2_with (go_at_call 19; refine (CON.out _ X4.out.ok O4.out).mono ?_; rintro e W5 ⟨rfl, hb⟩; have X5 := Lib.hid (X4.out.below hb); have R5 := Lib.hid (R4.out.below hb); clear hb)
            have t1 := R5.out.cell 1 _ rfl
            go_quiet (fail)
            go_wp2_with fail
            rw [Exit.noGoto_ret]; go_ret2
            exact ⟨rfl, below_drewN X5.out.bel _⟩
)
        | 1, _ => (
          have r0 := N1.out.cell (2 * 1) _ rfl
          have r1 := N1.out.cell (2 * 1 + 1) _ rfl
          (have q0 := X1.out.ob.cell 0 _ rfl; have q1 := X1.out.ob.cell 1 _ rfl; have q2 := X1.out.ob.cell 2 _ rfl; have q3 := X1.out.ob.cell 3 _ rfl; have q4 := X1.out.ob.cell 4 _ rfl; have q5 := X1.out.ob.cell 5 _ rfl; have q6 := X1.out.ob.cell 6 _ rfl; have q7 := X1.out.ob.cell 7 _ rfl)
          obtain ⟨v, hv⟩ : ∃ v, v = ruleV c 1 := ⟨_, rfl⟩
          have CON : Hid (∀ W, CfgOk W c → ObjAt W gb 4 [.bool (gateB c)] → Calls Tryz.prog 20 #[(.agg #[.int .i64 c.cats, .slice c.g.a c.g.l.length c.g.cap, .slice c.r.a c.r.l.length c.r.cap, .slice c.p.a c.p.l.length c.p.cap, .slice c.n.a c.n.l.length c.n.cap, .slice c.s.a c.s.l.length c.s.cap, .int .i64 c.gate, .int .i64 c.quota])] W fun e w' => e = .returned (.tuple #[.int .i64 v.1, .bool v.2]) ∧ Below W.heap.size W w') := fun W hc ho => by rw [hv]; exact (ranges_any c _ hc)
          go_upto_region 8 with fail
          have R4 : Hid (ObjAt (wr.alloc (.cells #[.func (Fn.func 20) #[] #[], .int .i64 14] 67)) wr.heap.size 67 [.func (Fn.func 20) #[] #[], .int .i64 14]) := ObjAt.new wr _ _
          have B4 : Hid (Below wr.heap.size wr (wr.alloc (.cells #[.func (Fn.func 20) #[] #[], .int .i64 14] 67))) := (Below.refl _ _).alloc (Nat.le_refl _) _
          generalize wr.alloc (.cells #[.func (Fn.func 20) #[] #[], .int .i64 14] 67) = W4 at R4 B4 ⊢
          generalize wr.heap.size = rr at R4 ⊢
          have X4 := Lib.hid (X1.out.below B4.out)
          have O4 := Lib.hid (O1.out.below B4.out)
          clear r0 r1
          (replace q0 := X4.out.ob.cell 0 _ rfl; replace q1 := X4.out.ob.cell 1 _ rfl; replace q2 := X4.out.ob.cell 2 _ rfl; replace q3 := X4.out.ob.cell 3 _ rfl; replace q4 := X4.out.ob.cell 4 _ rfl; replace q5 := X4.out.ob.cell 5 _ rfl; replace q6 := X4.out.ob.cell 6 _ rfl; replace q7 := X4.out.ob.cell 7 _ rfl)
          have r0 := R4.out.cell 0 _ rfl
          obtain ⟨vi, vb⟩ := v
          have HV := Lib.hid hv
          clear hv
          dsimp only at CON
          cases vb with
          | false =>
            have HJ2 : Hid (∀ j, j < 1 + 1 → (ruleV c j).2 = false) := fun j hj => by
              rcases Nat.lt_or_ge j 1 with h | h
              · exact HJ.out j h
              · rw [show j = 1 by omega, ← HV.out]
            go_wp2_with (go_at_call 20; refine (CON.out _ X4.out.ok O4.out).mono ?_; rintro e W5 ⟨rfl, hb⟩; have HB5 := Lib.hid (HB.out.trans ((B4.out.trans (hb.mono B4.out.size)).mono HB.out.size)); clear hb)
            go_roundw
            case rel => exact ⟨1 + 1, by omega, by go_num, rfl, rfl, HB5.out, HJ2.out⟩
            case measure => simp [intOf]
          | true =>
            have hx : x = (13 + 1, vi) := by rw [HG.out, rule_hit (k := 1) (by omega) HJ.out (by rw [← HV.out])]; dsimp only; rw [← HV.out]; rfl
            subst hx
            go_wp2_with (go_at_call 20; refine (CON.out _ X4.out.ok O4.out).mono ?_; rintro e W5 ⟨rfl, hb⟩; have X5 := Lib.hid (X4.out.below hb); have R5 := Lib.hid (R4.out.below hb); clear hb)
            have t1 := R5.out.cell 1 _ rfl
            go_quiet (fail)
            go_wp2_with fail
            rw [Exit.noGoto_ret]; go_ret2
            exact ⟨rfl, below_drewN X5.out.bel _⟩
)
        | 2, _ => (
          have r0 := N1.out.cell (2 * 2) _ rfl
          have r1 := N1.out.cell (2 * 2 + 1) _ rfl
          (have q0 := X1.out.ob.cell 0 _ rfl; have q1 := X1.out.ob.cell 1 _ rfl; have q2 := X1.out.ob.cell 2 _ rfl; have q3 := X1.out.ob.cell 3 _ rfl; have q4 := X1.out.ob.cell 4 _ rfl; have q5 := X1.out.ob.cell 5 _ rfl; have q6 := X1.out.ob.cell 6 _ rfl; have q7 := X1.out.ob.cell 7 _ rfl)
          obtain ⟨v, hv⟩ : ∃ v, v = ruleV c 2 := ⟨_, rfl⟩
          have CON : Hid (∀ W, CfgOk W c → ObjAt W gb 4 [.bool (gateB c)] → Calls Tryz.prog 21 #[(.agg #[.int .i64 c.cats, .slice c.g.a c.g.l.length c.g.cap, .slice c.r.a c.r.l.length c.r.cap, .slice c.p.a c.p.l.length c.p.cap, .slice c.n.a c.n.l.length c.n.cap, .slice c.s.a c.s.l.length c.s.cap, .int .i64 c.gate, .int .i64 c.quota])] W fun e w' => e = .returned (.tuple #[.int .i64 v.1, .bool v.2]) ∧ Below W.heap.size W w') := fun W hc ho => by rw [hv]; exact (ports_any c _ hc)
          go_upto_region 8 with fail
          have R4 : Hid (ObjAt (wr.alloc (.cells #[.func (Fn.func 21) #[] #[], .int .i64 15] 67)) wr.heap.size 67 [.func (Fn.func 21) #[] #[], .int .i64 15]) := ObjAt.new wr _ _
          have B4 : Hid (Below wr.heap.size wr (wr.alloc (.cells #[.func (Fn.func 21) #[] #[], .int .i64 15] 67))) := (Below.refl _ _).alloc (Nat.le_refl _) _
          generalize wr.alloc (.cells #[.func (Fn.func 21) #[] #[], .int .i64 15] 67) = W4 at R4 B4 ⊢
          generalize wr.heap.size = rr at R4 ⊢
          have X4 := Lib.hid (X1.out.below B4.out)
          have O4 := Lib.hid (O1.out.below B4.out)
          clear r0 r1
          (replace q0 := X4.out.ob.cell 0 _ rfl; replace q1 := X4.out.ob.cell 1 _ rfl; replace q2 := X4.out.ob.cell 2 _ rfl; replace q3 := X4.out.ob.cell 3 _ rfl; replace q4 := X4.out.ob.cell 4 _ rfl; replace q5 := X4.out.ob.cell 5 _ rfl; replace q6 := X4.out.ob.cell 6 _ rfl; replace q7 := X4.out.ob.cell 7 _ rfl)
          have r0 := R4.out.cell 0 _ rfl
          obtain ⟨vi, vb⟩ := v
          have HV := Lib.hid hv
          clear hv
          dsimp only at CON
          cases vb with
          | false =>
            have HJ2 : Hid (∀ j, j < 2 + 1 → (ruleV c j).2 = false) := fun j hj => by
              rcases Nat.lt_or_ge j 2 with h | h
              · exact HJ.out j h
              · rw [show j = 2 by omega, ← HV.out]
            go_wp2_with (go_at_call 21; refine (CON.out _ X4.out.ok O4.out).mono ?_; rintro e W5 ⟨rfl, hb⟩; have HB5 := Lib.hid (HB.out.trans ((B4.out.trans (hb.mono B4.out.size)).mono HB.out.size)); clear hb)
            go_roundw
            case rel => exact ⟨2 + 1, by omega, by go_num, rfl, rfl, HB5.out, HJ2.out⟩
            case measure => simp [intOf]
          | true =>
            have hx : x = (13 + 2, vi) := by rw [HG.out, rule_hit (k := 2) (by omega) HJ.out (by rw [← HV.out])]; dsimp only; rw [← HV.out]; rfl
            subst hx
            go_wp2_with (go_at_call 21; refine (CON.out _ X4.out.ok O4.out).mono ?_; rintro e W5 ⟨rfl, hb⟩; have X5 := Lib.hid (X4.out.below hb); have R5 := Lib.hid (R4.out.below hb); clear hb)
            have t1 := R5.out.cell 1 _ rfl
            go_quiet (fail)
            go_wp2_with fail
            rw [Exit.noGoto_ret]; go_ret2
            exact ⟨rfl, below_drewN X5.out.bel _⟩
)
        | 3, _ => (
          have r0 := N1.out.cell (2 * 3) _ rfl
          have r1 := N1.out.cell (2 * 3 + 1) _ rfl
          (have q0 := X1.out.ob.cell 0 _ rfl; have q1 := X1.out.ob.cell 1 _ rfl; have q2 := X1.out.ob.cell 2 _ rfl; have q3 := X1.out.ob.cell 3 _ rfl; have q4 := X1.out.ob.cell 4 _ rfl; have q5 := X1.out.ob.cell 5 _ rfl; have q6 := X1.out.ob.cell 6 _ rfl; have q7 := X1.out.ob.cell 7 _ rfl)
          obtain ⟨v, hv⟩ : ∃ v, v = ruleV c 3 := ⟨_, rfl⟩
          have CON : Hid (∀ W, CfgOk W c → ObjAt W gb 4 [.bool (gateB c)] → Calls Tryz.prog 22 #[(.agg #[.int .i64 c.cats, .slice c.g.a c.g.l.length c.g.cap, .slice c.r.a c.r.l.length c.r.cap, .slice c.p.a c.p.l.length c.p.cap, .slice c.n.a c.n.l.length c.n.cap, .slice c.s.a c.s.l.length c.s.cap, .int .i64 c.gate, .int .i64 c.quota])] W fun e w' => e = .returned (.tuple #[.int .i64 v.1, .bool v.2]) ∧ Below W.heap.size W w') := fun W hc ho => by rw [hv]; exact (rings_any c _ hc)
          go_upto_region 8 with fail
          have R4 : Hid (ObjAt (wr.alloc (.cells #[.func (Fn.func 22) #[] #[], .int .i64 16] 67)) wr.heap.size 67 [.func (Fn.func 22) #[] #[], .int .i64 16]) := ObjAt.new wr _ _
          have B4 : Hid (Below wr.heap.size wr (wr.alloc (.cells #[.func (Fn.func 22) #[] #[], .int .i64 16] 67))) := (Below.refl _ _).alloc (Nat.le_refl _) _
          generalize wr.alloc (.cells #[.func (Fn.func 22) #[] #[], .int .i64 16] 67) = W4 at R4 B4 ⊢
          generalize wr.heap.size = rr at R4 ⊢
          have X4 := Lib.hid (X1.out.below B4.out)
          have O4 := Lib.hid (O1.out.below B4.out)
          clear r0 r1
          (replace q0 := X4.out.ob.cell 0 _ rfl; replace q1 := X4.out.ob.cell 1 _ rfl; replace q2 := X4.out.ob.cell 2 _ rfl; replace q3 := X4.out.ob.cell 3 _ rfl; replace q4 := X4.out.ob.cell 4 _ rfl; replace q5 := X4.out.ob.cell 5 _ rfl; replace q6 := X4.out.ob.cell 6 _ rfl; replace q7 := X4.out.ob.cell 7 _ rfl)
          have r0 := R4.out.cell 0 _ rfl
          obtain ⟨vi, vb⟩ := v
          have HV := Lib.hid hv
          clear hv
          dsimp only at CON
          cases vb with
          | false =>
            have HJ2 : Hid (∀ j, j < 3 + 1 → (ruleV c j).2 = false) := fun j hj => by
              rcases Nat.lt_or_ge j 3 with h | h
              · exact HJ.out j h
              · rw [show j = 3 by omega, ← HV.out]
            go_wp2_with (go_at_call 22; refine (CON.out _ X4.out.ok O4.out).mono ?_; rintro e W5 ⟨rfl, hb⟩; have HB5 := Lib.hid (HB.out.trans ((B4.out.trans (hb.mono B4.out.size)).mono HB.out.size)); clear hb)
            go_roundw
            case rel => exact ⟨3 + 1, by omega, by go_num, rfl, rfl, HB5.out, HJ2.out⟩
            case measure => simp [intOf]
          | true =>
            have hx : x = (13 + 3, vi) := by rw [HG.out, rule_hit (k := 3) (by omega) HJ.out (by rw [← HV.out])]; dsimp only; rw [← HV.out]; rfl
            subst hx
            go_wp2_with (go_at_call 22; refine (CON.out _ X4.out.ok O4.out).mono ?_; rintro e W5 ⟨rfl, hb⟩; have X5 := Lib.hid (X4.out.below hb); have R5 := Lib.hid (R4.out.below hb); clear hb)
            have t1 := R5.out.cell 1 _ rfl
            go_quiet (fail)
            go_wp2_with fail
            rw [Exit.noGoto_ret]; go_ret2
            exact ⟨rfl, below_drewN X5.out.bel _⟩
)
        | 4, _ => (
          have r0 := N1.out.cell (2 * 4) _ rfl
          have r1 := N1.out.cell (2 * 4 + 1) _ rfl
          (have q0 := X1.out.ob.cell 0 _ rfl; have q1 := X1.out.ob.cell 1 _ rfl; have q2 := X1.out.ob.cell 2 _ rfl; have q3 := X1.out.ob.cell 3 _ rfl; have q4 := X1.out.ob.cell 4 _ rfl; have q5 := X1.out.ob.cell 5 _ rfl; have q6 := X1.out.ob.cell 6 _ rfl; have q7 := X1.out.ob.cell 7 _ rfl)
          obtain ⟨v, hv⟩ : ∃ v, v = ruleV c 4 := ⟨_, rfl⟩
          have CON : Hid (∀ W, CfgOk W c → ObjAt W gb 4 [.bool (gateB c)] → Calls Tryz.prog 23 #[(.agg #[.int .i64 c.cats, .slice c.g.a c.g.l.length c.g.cap, .slice c.r.a c.r.l.length c.r.cap, .slice c.p.a c.p.l.length c.p.cap, .slice c.n.a c.n.l.length c.n.cap, .slice c.s.a c.s.l.length c.s.cap, .int .i64 c.gate, .int .i64 c.quota])] W fun e w' => e = .returned (.tuple #[.int .i64 v.1, .bool v.2]) ∧ Below W.heap.size W w') := fun W hc ho => by rw [hv]; exact (slots_any c _ hc)
          go_upto_region 8 with fail
          have R4 : Hid (ObjAt (wr.alloc (.cells #[.func (Fn.func 23) #[] #[], .int .i64 17] 67)) wr.heap.size 67 [.func (Fn.func 23) #[] #[], .int .i64 17]) := ObjAt.new wr _ _
          have B4 : Hid (Below wr.heap.size wr (wr.alloc (.cells #[.func (Fn.func 23) #[] #[], .int .i64 17] 67))) := (Below.refl _ _).alloc (Nat.le_refl _) _
          generalize wr.alloc (.cells #[.func (Fn.func 23) #[] #[], .int .i64 17] 67) = W4 at R4 B4 ⊢
          generalize wr.heap.size = rr at R4 ⊢
          have X4 := Lib.hid (X1.out.below B4.out)
          have O4 := Lib.hid (O1.out.below B4.out)
          clear r0 r1
          (replace q0 := X4.out.ob.cell 0 _ rfl; replace q1 := X4.out.ob.cell 1 _ rfl; replace q2 := X4.out.ob.cell 2 _ rfl; replace q3 := X4.out.ob.cell 3 _ rfl; replace q4 := X4.out.ob.cell 4 _ rfl; replace q5 := X4.out.ob.cell 5 _ rfl; replace q6 := X4.out.ob.cell 6 _ rfl; replace q7 := X4.out.ob.cell 7 _ rfl)
          have r0 := R4.out.cell 0 _ rfl
          obtain ⟨vi, vb⟩ := v
          have HV := Lib.hid hv
          clear hv
          dsimp only at CON
          cases vb with
          | false =>
            have HJ2 : Hid (∀ j, j < 4 + 1 → (ruleV c j).2 = false) := fun j hj => by
              rcases Nat.lt_or_ge j 4 with h | h
              · exact HJ.out j h
              · rw [show j = 4 by omega, ← HV.out]
            go_wp2_with (go_at_call 23; refine (CON.out _ X4.out.ok O4.out).mono ?_; rintro e W5 ⟨rfl, hb⟩; have HB5 := Lib.hid (HB.out.trans ((B4.out.trans (hb.mono B4.out.size)).mono HB.out.size)); clear hb)
            go_roundw
            case rel => exact ⟨4 + 1, by omega, by go_num, rfl, rfl, HB5.out, HJ2.out⟩
            case measure => simp [intOf]
          | true =>
            have hx : x = (13 + 4, vi) := by rw [HG.out, rule_hit (k := 4) (by omega) HJ.out (by rw [← HV.out])]; dsimp only; rw [← HV.out]; rfl
            subst hx
            go_wp2_with (go_at_call 23; refine (CON.out _ X4.out.ok O4.out).mono ?_; rintro e W5 ⟨rfl, hb⟩; have X5 := Lib.hid (X4.out.below hb); have R5 := Lib.hid (R4.out.below hb); clear hb)
            have t1 := R5.out.cell 1 _ rfl
            go_quiet (fail)
            go_wp2_with fail
            rw [Exit.noGoto_ret]; go_ret2
            exact ⟨rfl, below_drewN X5.out.bel _⟩
)
        | 5, _ => (
          have r0 := N1.out.cell (2 * 5) _ rfl
          have r1 := N1.out.cell (2 * 5 + 1) _ rfl
          (have q0 := X1.out.ob.cell 0 _ rfl; have q1 := X1.out.ob.cell 1 _ rfl; have q2 := X1.out.ob.cell 2 _ rfl; have q3 := X1.out.ob.cell 3 _ rfl; have q4 := X1.out.ob.cell 4 _ rfl; have q5 := X1.out.ob.cell 5 _ rfl; have q6 := X1.out.ob.cell 6 _ rfl; have q7 := X1.out.ob.cell 7 _ rfl)
          obtain ⟨v, hv⟩ : ∃ v, v = ruleV c 5 := ⟨_, rfl⟩
          have CON : Hid (∀ W, CfgOk W c → ObjAt W gb 4 [.bool (gateB c)] → Calls Tryz.prog 18 #[(.agg #[.int .i64 c.cats, .slice c.g.a c.g.l.length c.g.cap, .slice c.r.a c.r.l.length c.r.cap, .slice c.p.a c.p.l.length c.p.cap, .slice c.n.a c.n.l.length c.n.cap, .slice c.s.a c.s.l.length c.s.cap, .int .i64 c.gate, .int .i64 c.quota]), .pointer (some ⟨gb, 0, none⟩)] W fun e w' => e = .returned (.tuple #[.int .i64 v.1, .bool v.2]) ∧ Below W.heap.size W w') := fun W hc ho => by rw [hv]; exact (one1_any c _ gb _ hc ho)
          go_upto_region 8 with fail
          have R4 : Hid (ObjAt (wr.alloc (.cells #[.func (Fn.func 18) #[] #[.pointer (some ⟨gb, 0, none⟩)], .int .i64 18] 67)) wr.heap.size 67 [.func (Fn.func 18) #[] #[.pointer (some ⟨gb, 0, none⟩)], .int .i64 18]) := ObjAt.new wr _ _
          have B4 : Hid (Below wr.heap.size wr (wr.alloc (.cells #[.func (Fn.func 18) #[] #[.pointer (some ⟨gb, 0, none⟩)], .int .i64 18] 67))) := (Below.refl _ _).alloc (Nat.le_refl _) _
          generalize wr.alloc (.cells #[.func (Fn.func 18) #[] #[.pointer (some ⟨gb, 0, none⟩)], .int .i64 18] 67) = W4 at R4 B4 ⊢
          generalize wr.heap.size = rr at R4 ⊢
          have X4 := Lib.hid (X1.out.below B4.out)
          have O4 := Lib.hid (O1.out.below B4.out)
          clear r0 r1
          (replace q0 := X4.out.ob.cell 0 _ rfl; replace q1 := X4.out.ob.cell 1 _ rfl; replace q2 := X4.out.ob.cell 2 _ rfl; replace q3 := X4.out.ob.cell 3 _ rfl; replace q4 := X4.out.ob.cell 4 _ rfl; replace q5 := X4.out.ob.cell 5 _ rfl; replace q6 := X4.out.ob.cell 6 _ rfl; replace q7 := X4.out.ob.cell 7 _ rfl)
          have r0 := R4.out.cell 0 _ rfl
          obtain ⟨vi, vb⟩ := v
          have HV := Lib.hid hv
          clear hv
          dsimp only at CON
          cases vb with
          | false =>
            have HJ2 : Hid (∀ j, j < 5 + 1 → (ruleV c j).2 = false) := fun j hj => by
              rcases Nat.lt_or_ge j 5 with h | h
              · exact HJ.out j h
              · rw [show j = 5 by omega, ← HV.out]
            go_wp2_with (go_at_call 18; refine (CON.out _ X4.out.ok O4.out).mono ?_; rintro e W5 ⟨rfl, hb⟩; have HB5 := Lib.hid (HB.out.trans ((B4.out.trans (hb.mono B4.out.size)).mono HB.out.size)); clear hb)
            go_roundw
            case rel => exact ⟨5 + 1, by omega, by go_num, rfl, rfl, HB5.out, HJ2.out⟩
            case measure => simp [intOf]
          | true =>
            have hx : x = (13 + 5, vi) := by rw [HG.out, rule_hit (k := 5) (by omega) HJ.out (by rw [← HV.out])]; dsimp only; rw [← HV.out]; rfl
            subst hx
            go_wp2_with (go_at_call 18; refine (CON.out _ X4.out.ok O4.out).mono ?_; rintro e W5 ⟨rfl, hb⟩; have X5 := Lib.hid (X4.out.below hb); have R5 := Lib.hid (R4.out.below hb); clear hb)
            have t1 := R5.out.cell 1 _ rfl
            go_quiet (fail)
            go_wp2_with fail
            rw [Exit.noGoto_ret]; go_ret2
            exact ⟨rfl, below_drewN X5.out.bel _⟩
)
        | 6, _ =>
          have hgk : GOk c := gok_of (HJ.out 0 (by omega)) (HJ.out 3 (by omega))
          have NEE : Hid (∀ W, CfgOk W c → Calls Tryz.prog 25 #[(.agg #[.int .i64 c.cats, .slice c.g.a c.g.l.length c.g.cap, .slice c.r.a c.r.l.length c.r.cap, .slice c.p.a c.p.l.length c.p.cap, .slice c.n.a c.n.l.length c.n.cap, .slice c.s.a c.s.l.length c.s.cap, .int .i64 c.gate, .int .i64 c.quota])] W fun e w' => e = .returned (.int .i64 (needV c)) ∧ Below W.heap.size W w') := fun W hc => need_any c hgk _ hc
          have hx : x = if 32 < needV c then (19, 0) else (0, 0) := by rw [HG.out, rule_none HJ.out]
          clear hgk HG
          (have q0 := X1.out.ob.cell 0 _ rfl; have q1 := X1.out.ob.cell 1 _ rfl; have q2 := X1.out.ob.cell 2 _ rfl; have q3 := X1.out.ob.cell 3 _ rfl; have q4 := X1.out.ob.cell 4 _ rfl; have q5 := X1.out.ob.cell 5 _ rfl; have q6 := X1.out.ob.cell 6 _ rfl; have q7 := X1.out.ob.cell 7 _ rfl)
          by_cases hn : 32 < needV c
          · have dn : decide (needV c > 32) = true := by simp [hn]
            obtain rfl : x = (19, 0) := by rw [hx, if_pos hn]
            clear hx hn
            go_wp2_with (go_at_call 25; refine (NEE.out _ X1.out.ok).mono ?_; rintro e W5 ⟨rfl, hb⟩; have X5 := Lib.hid (X1.out.below hb); clear hb)
            rw [Exit.noGoto_ret]; go_ret2
            exact ⟨rfl, X5.out.bel⟩
          · have dn : decide (needV c > 32) = false := by simpa using hn
            obtain rfl : x = (0, 0) := by rw [hx, if_neg hn]
            clear hx hn
            go_wp2_with (go_at_call 25; refine (NEE.out _ X1.out.ok).mono ?_; rintro e W5 ⟨rfl, hb⟩; have X5 := Lib.hid (X1.out.below hb); clear hb)
            rw [Exit.noGoto_ret]; go_ret2
            exact ⟨rfl, X5.out.bel⟩
end Go.Proofs.YtoalpdjpljapbaaGreatDoor
/- Package plan: Parse. -/
namespace Go.Proofs.YtoalpdjpljapbaaGreatDoor
set_option linter.unusedVariables false
set_option linter.unusedSimpArgs false
set_option linter.unnecessarySimpa false
open Go.RowKit Go.Sort
set_option maxHeartbeats 4000000
set_option maxRecDepth 100000
set_option linter.unusedVariables false
def slE (l : List (List Int)) : Sl := ⟨none, 0, l⟩
def cvOf (c : Pc) : Cv := ⟨c.cats, slE c.g, slE c.r, slE c.p, slE c.n, slE c.s, c.gate, c.quota⟩
def chkP (c : Pc) : Int := (chkV (cvOf c)).1
theorem stRg_pc (c : Cv) : ∀ i, stRg c i = stRg (cvOf (pcOf c)) i
  | 0 => rfl
  | i + 1 => by unfold stRg; rw [stRg_pc c i]; rfl
theorem rBad_pc (c : Cv) : rBad c = rBad (cvOf (pcOf c)) := by
  funext i
  unfold rBad
  rw [stRg_pc c i]; rfl
theorem rFst_pc (c : Cv) : rFst c = rFst (cvOf (pcOf c)) := by
  unfold rFst; rw [rBad_pc]; rfl
theorem rule_pc (c : Cv) (k : Nat) : ruleV c k = ruleV (cvOf (pcOf c)) k := by
  unfold ruleV
  split
  · rfl
  · exact rFst_pc c
  · rfl
  · rfl
  · rfl
  · rfl
theorem chk_pc (c : Cv) : chkV c = chkV (cvOf (pcOf c)) := by
  have e : (fun k => (ruleV c k).2) = fun k => (ruleV (cvOf (pcOf c)) k).2 := funext fun k => by rw [rule_pc]
  by_cases h : c.cats < 0 ∨ 8 < c.cats
  · rw [chkV, chkV, if_pos h, if_pos (show (cvOf (pcOf c)).cats < 0 ∨ 8 < (cvOf (pcOf c)).cats from h)]
  · rw [chkV, chkV, if_neg h, if_neg (show ¬ ((cvOf (pcOf c)).cats < 0 ∨ 8 < (cvOf (pcOf c)).cats) from h), e]
    split
    · rw [rule_pc]
    · rfl
theorem chkP_of (c : Cv) : (chkV c).1 = chkP (pcOf c) := by rw [chk_pc]; rfl
def pcZ : Pc := ⟨0, [], [], [], [], [], 0, 0⟩
def pcN : Pc := ⟨0, [], [], [], [], [], -1, 0⟩
def cvN : Cv := cvOf pcN
def cvZ : Cv := cvOf pcZ
/-- What k lines leave. -/
def stP (L : List (List UInt8)) : Nat → Option (Pc × Int)
  | 0 => some (pcN, -1)
  | k + 1 => (stP L k).bind fun st => lineV st.1 st.2 (decide (k = 0)) (L.getD k [])
def badP (L : List (List UInt8)) : Option Nat := (List.range L.length).find? fun k => (stP L (k + 1)).isNone
def endP (L : List (List UInt8)) : Pc × Int × Int := match stP L L.length with
  | some st => if chkP st.1 = 0 then (st.1, 0, 0) else (pcZ, chkP st.1, 0)
  | none => (pcZ, 6, 0)
def psV (s : List UInt8) : Pc × Int × Int :=
  if 16384 < s.length then (pcZ, 10, 0) else
  match badP (fieldsC 10 s).dropLast with
  | some k => (pcZ, 6, (k : Int) + 1)
  | none => if (fieldsC 10 s).dropLast.length = 0 ∨ (fieldsC 10 s).getLast? ≠ some [] then (pcZ, 6, ((fieldsC 10 s).dropLast.length : Int) + 1) else endP (fieldsC 10 s).dropLast
theorem stP_mono {L : List (List UInt8)} {k : Nat} (h : stP L k = none) : ∀ j, k ≤ j → stP L j = none := by
  intro j hj
  induction j with
  | zero => rw [show k = 0 by omega] at h; exact h
  | succ j ih =>
    by_cases e : k = j + 1
    · subst e; exact h
    · unfold stP; rw [ih (by omega)]; rfl
theorem badP_some {L : List (List UInt8)} {k : Nat} (hk : k < L.length) (h0 : stP L k ≠ none) (h1 : stP L (k + 1) = none) : badP L = some k := by
  rw [badP, List.find?_range_eq_some]
  refine ⟨by simp [h1], List.mem_range.2 hk, fun j hj => ?_⟩
  cases hx : stP L (j + 1) with
  | none => exact absurd (stP_mono hx k (by omega)) h0
  | some v => rfl
theorem badP_none {L : List (List UInt8)} (h : stP L L.length ≠ none) : badP L = none := by
  rw [badP, List.find?_eq_none]
  intro j hj
  have hj := List.mem_range.1 hj
  cases hx : stP L (j + 1) with
  | none => exact absurd (stP_mono hx _ (by omega)) h
  | some v => simp
theorem psV_long {s : List UInt8} (h : 16384 < s.length) : psV s = (pcZ, 10, 0) := by rw [psV, if_pos h]
theorem psV_bad {s : List UInt8} {k : Nat} (h : ¬ 16384 < s.length) (hk : badP (fieldsC 10 s).dropLast = some k) : psV s = (pcZ, 6, (k : Int) + 1) := by rw [psV, if_neg h, hk]
theorem psV_none {s : List UInt8} (h : ¬ 16384 < s.length) (hk : badP (fieldsC 10 s).dropLast = none) (he : (fieldsC 10 s).dropLast.length = 0 ∨ (fieldsC 10 s).getLast? ≠ some []) : psV s = (pcZ, 6, ((fieldsC 10 s).dropLast.length : Int) + 1) := by
  rw [psV, if_neg h, hk]; simp only; rw [if_pos he]
theorem psV_end {s : List UInt8} (h : ¬ 16384 < s.length) (hk : badP (fieldsC 10 s).dropLast = none) (he : ¬ ((fieldsC 10 s).dropLast.length = 0 ∨ (fieldsC 10 s).getLast? ≠ some [])) : psV s = endP (fieldsC 10 s).dropLast := by
  rw [psV, if_neg h, hk]; simp only; rw [if_neg he]
theorem endP_no {L : List (List UInt8)} {c : Pc} {l : Int} (h : stP L L.length = some (c, l)) (he : chkP c ≠ 0) : endP L = (pcZ, chkP c, 0) := by rw [endP, h]; simp only; rw [if_neg he]
theorem endP_yes {L : List (List UInt8)} {c : Pc} {l : Int} (h : stP L L.length = some (c, l)) (he : chkP c = 0) : endP L = (c, 0, 0) := by rw [endP, h]; simp only; rw [if_pos he]
/-- At most k of each. -/
def LenP (k : Nat) (c : Pc) : Prop := c.g.length ≤ k ∧ c.r.length ≤ k ∧ c.p.length ≤ k ∧ c.n.length ≤ k ∧ c.s.length ≤ k
theorem setV_len {k : Nat} {c : Pc} (h : LenP k c) (j : Nat) (row : List Int) : LenP (k + 1) (setV c j row) := by
  obtain ⟨h1, h2, h3, h4, h5⟩ := h
  unfold setV LenP
  split <;> simp only [List.length_append, List.length_singleton] <;> refine ⟨?_, ?_, ?_, ?_, ?_⟩ <;> omega
theorem lineV_len {k : Nat} {c c' : Pc} {last last' : Int} {b : Bool} {s : List UInt8} (h : LenP k c) (he : lineV c last b s = some (c', last')) : LenP (k + 1) c' := by
  unfold lineV at he
  split at he
  · rw [Option.map_eq_some_iff] at he
    obtain ⟨row, _, e⟩ := he
    injection e with e1 e2
    rw [← e1]; exact setV_len h _ _
  · cases he
def PsPost (s : List UInt8) (w : World) (e : Ending) (w' : World) : Prop :=
  ∃ c : Cv, e = .returned (.tuple #[(.agg #[.int .i64 c.cats, .slice c.g.a c.g.l.length c.g.cap, .slice c.r.a c.r.l.length c.r.cap, .slice c.p.a c.p.l.length c.p.cap, .slice c.n.a c.n.l.length c.n.cap, .slice c.s.a c.s.l.length c.s.cap, .int .i64 c.gate, .int .i64 c.quota]), .int .i64 (psV s).2.1, .int .i64 (psV s).2.2]) ∧ CfgOk w' c ∧ pcOf c = (psV s).1 ∧ Below w.heap.size w w'
theorem slE_nil (W : World) (N : Nat) : SlOk W N (slE []) := ⟨⟨by simp [slE, iF], fun _ => rfl, fun p hp => by cases hp⟩, Nat.le_refl _, by unfold maxLen slE; simp, fun r hr => by cases hr⟩
theorem cvZ_ok (W : World) : CfgOk W cvZ := ⟨slE_nil W 3, slE_nil W 3, slE_nil W 2, slE_nil W 2, slE_nil W 2⟩
theorem ps_zero {s : List UInt8} {w w' : World} {e at_ : Int} (h : psV s = (pcZ, e, at_)) (hb : Below w.heap.size w w') : PsPost s w (.returned (.tuple #[.agg #[.int .i64 0, .slice none 0 0, .slice none 0 0, .slice none 0 0, .slice none 0 0, .slice none 0 0, .int .i64 0, .int .i64 0], .int .i64 e, .int .i64 at_])) w' :=
  ⟨cvZ, by rw [h]; rfl, cvZ_ok w', by rw [h]; rfl, hb⟩
theorem ps_good {s : List UInt8} {w w' : World} {c : Cv} (h : psV s = (pcOf c, 0, 0)) (hc : CfgOk w' c) (hb : Below w.heap.size w w') : PsPost s w (.returned (.tuple #[(.agg #[.int .i64 c.cats, .slice c.g.a c.g.l.length c.g.cap, .slice c.r.a c.r.l.length c.r.cap, .slice c.p.a c.p.l.length c.p.cap, .slice c.n.a c.n.l.length c.n.cap, .slice c.s.a c.s.l.length c.s.cap, .int .i64 c.gate, .int .i64 c.quota]), .int .i64 0, .int .i64 0])) w' :=
  ⟨c, by rw [h], hc, by rw [h], hb⟩
theorem rd_start (W : World) : RD W W.heap.size cvN (-1) (W.alloc (.cells #[.int .i64 0, .slice none 0 0, .slice none 0 0, .slice none 0 0, .slice none 0 0, .slice none 0 0, .int .i64 (-1), .int .i64 0, .int .i64 (-1)] 82)) :=
  ⟨(Below.refl _ _).alloc (Nat.le_refl _) _, Nat.le_refl _, ObjAt.new W _ [.int .i64 0, .slice none 0 0, .slice none 0 0, .slice none 0 0, .slice none 0 0, .slice none 0 0, .int .i64 (-1), .int .i64 0, .int .i64 (-1)], Own.nil _ _ _ _, Own.nil _ _ _ _, Own.nil _ _ _ _, Own.nil _ _ _ _, Own.nil _ _ _ _, (fun x hx => by cases hx), (fun x hx => by cases hx), (fun x hx => by cases hx), (fun x hx => by cases hx), (fun x hx => by cases hx)⟩
theorem ln_out {w : World} {rb : Nat} {c : Cv} {last : Int} {b : Bool} {s : List UInt8} {e : Ending} {w' : World} (h : LnPost w rb c last b s e w') :
    (e = .returned (.bool false) ∧ lineV (pcOf c) last b s = none ∧ Below w.heap.size w w') ∨ (e = .returned (.bool true) ∧ ∃ c' l', lineV (pcOf c) last b s = some (pcOf c', l') ∧ RD w rb c' l' w') := by
  unfold LnPost at h
  cases hv : lineV (pcOf c) last b s with
  | none => rw [hv] at h; exact Or.inl ⟨h.1, rfl, h.2⟩
  | some r => rw [hv] at h; obtain ⟨h1, c', h2, h3⟩ := h; exact Or.inr ⟨h1, c', r.2, by rw [h2], h3⟩
/-- The reader after k lines. -/
structure QP (L : List (List UInt8)) (w1 : World) (rb k : Nat) (c : Cv) (last : Int) (W : World) : Prop where
  st : stP L k = some (pcOf c, last)
  len : LenP k (pcOf c)
  rd : RD w1 rb c last W
theorem QP.few {L : List (List UInt8)} {w1 W : World} {rb k : Nat} {c : Cv} {last : Int} (h : QP L w1 rb k c last W) (hk : k ≤ 100000) : FewC c := by
  have h1 : c.g.l.length ≤ k := h.len.1
  have h2 : c.r.l.length ≤ k := h.len.2.1
  have h3 : c.p.l.length ≤ k := h.len.2.2.1
  have h4 : c.n.l.length ≤ k := h.len.2.2.2.1
  have h5 : c.s.l.length ≤ k := h.len.2.2.2.2
  exact ⟨by omega, by omega, by omega, by omega, by omega⟩
theorem QP.next {L : List (List UInt8)} {w1 W : World} {rb k : Nat} {c : Cv} {last : Int} {x : List UInt8} (h : QP L w1 rb k c last W) (hx : L.getD k [] = x) {c' : Cv} {l' : Int} (he : lineV (pcOf c) last (decide (k = 0)) x = some (pcOf c', l')) {W' : World} (hr : RD w1 rb c' l' W') : QP L w1 rb (k + 1) c' l' W' :=
  ⟨by unfold stP; rw [h.st]; simp only [Option.bind_some]; rw [hx]; exact he, lineV_len h.len he, hr⟩
theorem QP.stop {L : List (List UInt8)} {w1 W : World} {rb k : Nat} {c : Cv} {last : Int} {x : List UInt8} (h : QP L w1 rb k c last W) (hx : L.getD k [] = x) (he : lineV (pcOf c) last (decide (k = 0)) x = none) : stP L k ≠ none ∧ stP L (k + 1) = none :=
  ⟨by rw [h.st]; simp, by unfold stP; rw [h.st]; simp only [Option.bind_some]; rw [hx]; exact he⟩
theorem RD.other {w W W' : World} {rb b : Nat} {c : Cv} {last : Int} {cs : List Value} (h : RD w rb c last W) (ho : ObjAt W b 28 cs) (hu : Upd b W W') : CfgOk W' c :=
  have g := h.g.upd hu (h.g.ne ho (by decide))
  have r := h.r.upd hu (h.r.ne ho (by decide))
  have p := h.p.upd hu (h.p.ne ho (by decide))
  have n := h.n.upd hu (h.n.ne ho (by decide))
  have s := h.s.upd hu (h.s.ne ho (by decide))
  ⟨⟨g.rd, g.le, g.capMax, h.lg⟩, ⟨r.rd, r.le, r.capMax, h.lr⟩, ⟨p.rd, p.le, p.capMax, h.lp⟩, ⟨n.rd, n.le, n.capMax, h.ln⟩, ⟨s.rd, s.le, s.capMax, h.ls⟩⟩
theorem upd_put {b k : Nat} {x y : World} {v : Value} (h : Upd b x y) : Upd b x (y.setCell ⟨b, k, none⟩ v) := h.trans (Upd.setCell y ⟨b, k, none⟩ v)
theorem pparse_any (s : ByteArray) (hs : s.size ≤ maxLen) (w : World) (hT : WdTab w) : Calls Tryz.prog 12 #[.string s] w (PsPost s.data.toList w) := by
  obtain ⟨l, hl⟩ : ∃ l, l = s.data.toList := ⟨_, rfl⟩
  have hsl : l.length = s.size := by rw [hl, ba_len]
  rw [← hl]
  obtain ⟨w0, hw0⟩ : ∃ w0, w0 = w.alloc (.cells #[.int .i64 0, .slice none 0 0, .slice none 0 0, .slice none 0 0, .slice none 0 0, .slice none 0 0, .int .i64 0, .int .i64 0] 28) := ⟨_, rfl⟩
  have HO0 : Hid (ObjAt w0 w.heap.size 28 #[.int .i64 0, .slice none 0 0, .slice none 0 0, .slice none 0 0, .slice none 0 0, .slice none 0 0, .int .i64 0, .int .i64 0].toList) := by rw [hw0]; exact ObjAt.new w _ _
  have HB0 : Hid (Below w.heap.size w w0) := by rw [hw0]; exact (Below.refl _ _).alloc (Nat.le_refl _) _
  have HW0 := Lib.hid hw0
  obtain ⟨P, hP⟩ : ∃ P, P = PsPost l w := ⟨_, rfl⟩
  have HZ : Hid (∀ e at_ w', psV l = (pcZ, e, at_) → Below w.heap.size w w' → P (.returned (.tuple #[.agg #[.int .i64 0, .slice none 0 0, .slice none 0 0, .slice none 0 0, .slice none 0 0, .slice none 0 0, .int .i64 0, .int .i64 0], .int .i64 e, .int .i64 at_])) w') := fun e at_ w' h hb => by rw [hP]; exact ps_zero h hb
  have HG : Hid (∀ c w', psV l = (pcOf c, 0, 0) → CfgOk w' c → Below w.heap.size w w' → P (.returned (.tuple #[(.agg #[.int .i64 c.cats, .slice c.g.a c.g.l.length c.g.cap, .slice c.r.a c.r.l.length c.r.cap, .slice c.p.a c.p.l.length c.p.cap, .slice c.n.a c.n.l.length c.n.cap, .slice c.s.a c.s.l.length c.s.cap, .int .i64 c.gate, .int .i64 c.quota]), .int .i64 0, .int .i64 0])) w') := fun c w' h hc hb => by rw [hP]; exact ps_good h hc hb
  rw [← hP]
  clear hP hw0
  unfold maxLen at hs
  by_cases h16 : 16384 < s.size
  · have d1 : decide ((s.size : Int) > 16384) = true := decide_eq_true (by omega)
    have d1' : decide (16384 < s.size) = true := decide_eq_true h16
    have HZ := fun w' h => Lib.hid (HZ.out 10 0 w' (psV_long (by omega)) h)
    clear h16 hl hsl hT HG
    go_enter Tryz.func12, Tryz.ntmps12
    go_upto_region 1 with fail
    rw [← HW0.out]
    have hO0 := HO0.out
    have s6 := hO0.lt
    have a0 := (hO0).cell 0 _ rfl; have a1 := (hO0).cell 1 _ rfl; have a2 := (hO0).cell 2 _ rfl; have a3 := (hO0).cell 3 _ rfl; have a4 := (hO0).cell 4 _ rfl; have a5 := (hO0).cell 5 _ rfl; have a6 := (hO0).cell 6 _ rfl; have a7 := (hO0).cell 7 _ rfl; have g0 := (hO0).free 0; have g1 := (hO0).free 1; have g2 := (hO0).free 2; have g3 := (hO0).free 3; have g4 := (hO0).free 4; have g5 := (hO0).free 5; have g6 := (hO0).free 6; have g7 := (hO0).free 7
    clear hO0
    go_wp2_with fail
    (refine bodyPost_ret (v := .tuple #[.agg #[.int .i64 0, .slice none 0 0, .slice none 0 0, .slice none 0 0, .slice none 0 0, .slice none 0 0, .int .i64 0, .int .i64 0], .int .i64 10, .int .i64 0]) (by simp [results, Tryz.results12, go_sem, a0, a1, a2, a3, a4, a5, a6, a7, s6]) rfl ?_)
    exact (HZ _ ((((((((HB0.out.setCell (Nat.le_refl _) _).setCell (Nat.le_refl _) _).setCell (Nat.le_refl _) _).setCell (Nat.le_refl _) _).setCell (Nat.le_refl _) _).setCell (Nat.le_refl _) _).setCell (Nat.le_refl _) _).setCell (Nat.le_refl _) _)).out
  · have d1 : decide ((s.size : Int) > 16384) = false := decide_eq_false (by omega)
    have d1' : decide (16384 < s.size) = false := decide_eq_false h16
    obtain ⟨F, hF⟩ : ∃ F, F = fieldsC 10 l := ⟨_, rfl⟩
    have hne : F ≠ [] := by rw [hF]; exact fieldsC_ne 10 _
    have hfl : F.length ≤ s.size + 1 := by
      rw [hF, fieldsC_len, ← hsl]
      have := List.count_le_length (a := (10 : UInt8)) (l := l); omega
    obtain ⟨L, hL⟩ : ∃ L, L = F.dropLast := ⟨_, rfl⟩
    obtain ⟨m, hm⟩ : ∃ m, F.length = m + 1 := by cases F with
      | nil => exact absurd rfl hne
      | cons x r => exact ⟨r.length, rfl⟩
    obtain ⟨x, hx⟩ : ∃ x, F[m]? = some x := ⟨_, List.getElem?_eq_getElem (by omega)⟩
    have hLm : L.length = m := by rw [hL, List.length_dropLast, hm]; rfl
    have hlast : F.getLast? = some x := by rw [List.getLast?_eq_getElem?, hm]; exact hx
    have HBAD : Hid (∀ k w', k < m → stP L k ≠ none → stP L (k + 1) = none → Below w.heap.size w w' → P (.returned (.tuple #[.agg #[.int .i64 0, .slice none 0 0, .slice none 0 0, .slice none 0 0, .slice none 0 0, .slice none 0 0, .int .i64 0, .int .i64 0], .int .i64 6, .int .i64 ((k : Int) + 1)])) w') := fun k w' hk h0 h1 hb =>
      HZ.out _ _ _ (psV_bad (by omega) (by rw [← hF, ← hL]; exact badP_some (by omega) h0 h1)) hb
    have HNO : Hid (∀ w', stP L m ≠ none → (m = 0 ∨ x ≠ []) → Below w.heap.size w w' → P (.returned (.tuple #[.agg #[.int .i64 0, .slice none 0 0, .slice none 0 0, .slice none 0 0, .slice none 0 0, .slice none 0 0, .int .i64 0, .int .i64 0], .int .i64 6, .int .i64 ((m : Int) + 1)])) w') := fun w' h0 h1 hb =>
      HZ.out _ _ _ (by
        have := psV_none (s := l) (by omega) (by rw [← hF, ← hL]; exact badP_none (by rw [hLm]; exact h0)) (by
          rw [← hF, ← hL, hLm, hlast]
          rcases h1 with h1 | h1
          · exact Or.inl h1
          · exact Or.inr (by intro e; injection e with e; exact h1 e))
        rw [← hF, ← hL, hLm] at this; exact this) hb
    have HPS : Hid (∀ c last, stP L m = some (pcOf c, last) → m ≠ 0 → x = [] → psV l = if chkP (pcOf c) = 0 then (pcOf c, 0, 0) else (pcZ, chkP (pcOf c), 0)) := fun c last h0 h1 h2 => by
      rw [psV_end (by omega) (by rw [← hF, ← hL]; exact badP_none (by rw [hLm, h0]; simp)) (by
        rw [← hF, ← hL, hLm, hlast, h2]; simp [h1]), ← hF, ← hL]
      split
      · rename_i he; exact endP_yes (by rw [hLm]; exact h0) he
      · rename_i he; exact endP_no (by rw [hLm]; exact h0) he
    have HEN : Hid (∀ w' c last, stP L m = some (pcOf c, last) → m ≠ 0 → x = [] → (chkV c).1 ≠ 0 → Below w.heap.size w w' → P (.returned (.tuple #[.agg #[.int .i64 0, .slice none 0 0, .slice none 0 0, .slice none 0 0, .slice none 0 0, .slice none 0 0, .int .i64 0, .int .i64 0], .int .i64 (chkV c).1, .int .i64 0])) w') := fun w' c last h0 h1 h2 h3 hb =>
      HZ.out _ _ _ (by rw [HPS.out c last h0 h1 h2, ← chkP_of, if_neg h3]) hb
    have HEY : Hid (∀ w' c last, stP L m = some (pcOf c, last) → m ≠ 0 → x = [] → (chkV c).1 = 0 → CfgOk w' c → Below w.heap.size w w' → P (.returned (.tuple #[(.agg #[.int .i64 c.cats, .slice c.g.a c.g.l.length c.g.cap, .slice c.r.a c.r.l.length c.r.cap, .slice c.p.a c.p.l.length c.p.cap, .slice c.n.a c.n.l.length c.n.cap, .slice c.s.a c.s.l.length c.s.cap, .int .i64 c.gate, .int .i64 c.quota]), .int .i64 0, .int .i64 0])) w') := fun w' c last h0 h1 h2 h3 hc hb =>
      HG.out c w' (by rw [HPS.out c last h0 h1 h2, ← chkP_of, if_pos h3]) hc hb
    have HGET : Hid (∀ k (hk : k < m), ∃ y, F[k]? = some y ∧ L.getD k [] = y ∧ y.length ≤ 100000) := fun k hk => by
      have h1 : k < F.length := by omega
      refine ⟨F[k], List.getElem?_eq_getElem h1, ?_, ?_⟩
      · rw [List.getD_eq_getElem?_getD, hL, List.getElem?_eq_getElem (by rw [List.length_dropLast]; omega), List.getElem_dropLast]; rfl
      · have := (fieldsC_mem 10 l F[k] (by rw [← hF]; exact List.getElem_mem h1)).2
        omega
    have HSP : Hid (Calls Tryz.prog 30 #[.string s, .string ⟨#[10]⟩] w0 fun e w' => e = .returned (.slice (some ⟨w0.heap.size, 0, none⟩) F.length F.length) ∧ w' = w0.alloc (.cells (strC F).toArray 9)) := by
      have := split1L s 10 w0 (by omega)
      rw [← hl, ← hF] at this; exact this
    obtain ⟨w1, hw1⟩ : ∃ w1, w1 = w0.alloc (.cells (strC F).toArray 9) := ⟨_, rfl⟩
    have HCELL : Hid (ObjAt w1 w0.heap.size 9 (strC F)) := by rw [hw1]; exact ObjAt.new w0 9 (strC F)
    have HCX : w1.cell? ⟨w0.heap.size, m, none⟩ = some (.string (ba x)) := HCELL.out.cell m _ (by simp [strC, hx])
    have HB01 : Hid (Below w0.heap.size w0 w1) := by rw [hw1]; exact (Below.refl _ _).alloc (Nat.le_refl _) _
    have HB1 := Lib.hid (bmore HB0.out HB01.out)
    have HLC : Hid (∀ k y, F[k]? = some y → w1.cell? ⟨w0.heap.size, k, none⟩ = some (.string (ba y))) := fun k y hy => HCELL.out.cell k _ (by simp [strC, hy])
    have hblk := HCELL.out.lt
    have HO1 := Lib.hid (HO0.out.below HB01.out)
    have HT1 := Lib.hid (hT.below HB1.out)
    rw [hm, ← hw1] at HSP
    have hm2 : m ≤ 16384 := by omega
    have HR0 := Lib.hid (rd_start w1)
    have HQ0 : Hid (QP L w1 w1.heap.size 0 cvN (-1) (w1.alloc (.cells #[.int .i64 0, .slice none 0 0, .slice none 0 0, .slice none 0 0, .slice none 0 0, .slice none 0 0, .int .i64 (-1), .int .i64 0, .int .i64 (-1)] 82))) := ⟨rfl, ⟨by simp [pcOf, cvN, cvOf, pcN, slE], by simp [pcOf, cvN, cvOf, pcN, slE], by simp [pcOf, cvN, cvOf, pcN, slE], by simp [pcOf, cvN, cvOf, pcN, slE], by simp [pcOf, cvN, cvOf, pcN, slE]⟩, HR0.out⟩
    have w3 : IntKind.i64.wrap ((m : Int) + 1 - 1) = (m : Int) := by rw [IntKind.wrap_i64]; omega
    clear hF hne hfl hL hm hx hLm hlast HPS hw1 HR0 h16 hl hsl hT HG HZ HB01 HO0 HCELL
    go_enter Tryz.func12, Tryz.ntmps12
    go_upto_region 1 with fail
    rw [← HW0.out]
    go_wp2_with fail
    refine HSP.out.mono ?_; rintro e w1 ⟨rfl, rfl⟩
    clear HSP
    go_wp2_with fail
    go_loopw [28] (fun i wr => ∃ (k : Nat) (c : Cv) (last : Int), k ≤ m ∧ i = .int .i64 k ∧ QP L w1 w1.heap.size k c last wr) (fun i _ => m - (intOf i).toNat)
    case atStart => exact ⟨0, cvN, -1, by omega, rfl, HQ0.out⟩
    case round =>
      clear HQ0
      obtain ⟨k, c, last, hk, rfl, hq⟩ := hrel
      have HQ := Lib.hid hq
      have HBW := Lib.hid (bmore HB1.out hq.rd.bel)
      clear hq
      have w5 : IntKind.i64.wrap ((k : Int) + 1) = (k : Int) + 1 := by rw [IntKind.wrap_i64]; omega
      by_cases hlt : k < m
      · obtain ⟨y, hy, hyL, hys⟩ := HGET.out k hlt
        have hcr : wr.cell? ⟨w0.heap.size, k, none⟩ = some (.string (ba y)) := by
          rw [HQ.out.rd.bel.cell (p := ⟨w0.heap.size, k, none⟩) hblk]; exact HLC.out k y hy
        have HLN : Hid (∀ b, b = decide (k = 0) → Calls Tryz.prog 31 #[.pointer (some ⟨w1.heap.size, 0, none⟩), .string (ba y), .bool b] wr fun e w' => (e = .returned (.bool false) ∧ stP L k ≠ none ∧ stP L (k + 1) = none ∧ Below w1.heap.size w1 w') ∨ (e = .returned (.bool true) ∧ ∃ c' l', QP L w1 w1.heap.size (k + 1) c' l' w')) := fun b hb => by
          refine (line_any w1 w1.heap.size c last b y hys wr HQ.out.rd HT1.out (HQ.out.few (by omega))).mono ?_
          intro e w' h
          subst hb
          rcases ln_out h with ⟨h1, h2, h3⟩ | ⟨h1, c', l', h2, h3⟩
          · exact Or.inl ⟨h1, (HQ.out.stop hyL h2).1, (HQ.out.stop hyL h2).2, h3⟩
          · exact Or.inr ⟨h1, c', l', HQ.out.next hyL h2 h3⟩
        clear hy hyL hys
        go_wp2_with fail
        refine (HLN.out _ (by first | rfl | (rw [Bool.eq_iff_iff]; simp))).mono ?_; intro e w3 h3
        rcases h3 with ⟨rfl, h1, h2, h4⟩ | ⟨rfl, c', l', h1⟩
        · have HB3 := Lib.hid (bmore HB1.out h4)
          have HS := Lib.hid h1
          have HS2 := Lib.hid h2
          have hO1 := HO1.out.below h4
          have s6 := hO1.lt
          have a0 := (hO1).cell 0 _ rfl; have a1 := (hO1).cell 1 _ rfl; have a2 := (hO1).cell 2 _ rfl; have a3 := (hO1).cell 3 _ rfl; have a4 := (hO1).cell 4 _ rfl; have a5 := (hO1).cell 5 _ rfl; have a6 := (hO1).cell 6 _ rfl; have a7 := (hO1).cell 7 _ rfl; have g0 := (hO1).free 0; have g1 := (hO1).free 1; have g2 := (hO1).free 2; have g3 := (hO1).free 3; have g4 := (hO1).free 4; have g5 := (hO1).free 5; have g6 := (hO1).free 6; have g7 := (hO1).free 7
          clear h1 h2 h4 hO1 HLN
          go_wp2_with fail
          (refine bodyPost_ret (v := .tuple #[.agg #[.int .i64 0, .slice none 0 0, .slice none 0 0, .slice none 0 0, .slice none 0 0, .slice none 0 0, .int .i64 0, .int .i64 0], .int .i64 6, .int .i64 ((k : Int) + 1)]) (by simp [results, Tryz.results12, go_sem, a0, a1, a2, a3, a4, a5, a6, a7, s6]) rfl ?_)
          exact HBAD.out k _ hlt HS.out HS2.out ((((((((HB3.out.setCell (Nat.le_refl _) _).setCell (Nat.le_refl _) _).setCell (Nat.le_refl _) _).setCell (Nat.le_refl _) _).setCell (Nat.le_refl _) _).setCell (Nat.le_refl _) _).setCell (Nat.le_refl _) _).setCell (Nat.le_refl _) _)
        · have HQ2 := Lib.hid h1
          clear h1 HLN
          go_wp2_with fail
          go_roundw
          case rel => exact ⟨k + 1, c', l', by omega, by go_num, HQ2.out⟩
          case measure => simp [intOf]; omega
      · obtain rfl : k = m := by omega
        have hcr : wr.cell? ⟨w0.heap.size, k, none⟩ = some (.string (ba x)) := by
          rw [HQ.out.rd.bel.cell (p := ⟨w0.heap.size, k, none⟩) hblk]; exact HCX
        have bx := ba_isEmpty x
        have hO1 := HO1.out.below HQ.out.rd.bel
        have s6 := hO1.lt
        by_cases h0 : k = 0
        · subst h0
          have a0 := (hO1).cell 0 _ rfl; have a1 := (hO1).cell 1 _ rfl; have a2 := (hO1).cell 2 _ rfl; have a3 := (hO1).cell 3 _ rfl; have a4 := (hO1).cell 4 _ rfl; have a5 := (hO1).cell 5 _ rfl; have a6 := (hO1).cell 6 _ rfl; have a7 := (hO1).cell 7 _ rfl; have g0 := (hO1).free 0; have g1 := (hO1).free 1; have g2 := (hO1).free 2; have g3 := (hO1).free 3; have g4 := (hO1).free 4; have g5 := (hO1).free 5; have g6 := (hO1).free 6; have g7 := (hO1).free 7
          clear bx hO1
          go_wp2_with fail
          (refine bodyPost_ret (v := .tuple #[.agg #[.int .i64 0, .slice none 0 0, .slice none 0 0, .slice none 0 0, .slice none 0 0, .slice none 0 0, .int .i64 0, .int .i64 0], .int .i64 6, .int .i64 1]) (by simp [results, Tryz.results12, go_sem, a0, a1, a2, a3, a4, a5, a6, a7, s6]) rfl ?_)
          exact HNO.out _ (by rw [HQ.out.st]; simp) (by simp) ((((((((HBW.out.setCell (Nat.le_refl _) _).setCell (Nat.le_refl _) _).setCell (Nat.le_refl _) _).setCell (Nat.le_refl _) _).setCell (Nat.le_refl _) _).setCell (Nat.le_refl _) _).setCell (Nat.le_refl _) _).setCell (Nat.le_refl _) _)
        · have z1 : ((k : Int) == 0) = false := by rw [beq_eq_false_iff_ne]; omega
          have z2 : decide (k = 0) = false := decide_eq_false h0
          cases hxe : x.isEmpty
          · have HX : Hid (x ≠ []) := fun e => by rw [e] at hxe; cases hxe
            rw [hxe] at bx
            have a0 := (hO1).cell 0 _ rfl; have a1 := (hO1).cell 1 _ rfl; have a2 := (hO1).cell 2 _ rfl; have a3 := (hO1).cell 3 _ rfl; have a4 := (hO1).cell 4 _ rfl; have a5 := (hO1).cell 5 _ rfl; have a6 := (hO1).cell 6 _ rfl; have a7 := (hO1).cell 7 _ rfl; have g0 := (hO1).free 0; have g1 := (hO1).free 1; have g2 := (hO1).free 2; have g3 := (hO1).free 3; have g4 := (hO1).free 4; have g5 := (hO1).free 5; have g6 := (hO1).free 6; have g7 := (hO1).free 7
            clear hxe hO1
            go_wp2_with fail
            (refine bodyPost_ret (v := .tuple #[.agg #[.int .i64 0, .slice none 0 0, .slice none 0 0, .slice none 0 0, .slice none 0 0, .slice none 0 0, .int .i64 0, .int .i64 0], .int .i64 6, .int .i64 ((k : Int) + 1)]) (by simp [results, Tryz.results12, go_sem, a0, a1, a2, a3, a4, a5, a6, a7, s6]) rfl ?_)
            exact HNO.out _ (by rw [HQ.out.st]; simp) (Or.inr HX.out) ((((((((HBW.out.setCell (Nat.le_refl _) _).setCell (Nat.le_refl _) _).setCell (Nat.le_refl _) _).setCell (Nat.le_refl _) _).setCell (Nat.le_refl _) _).setCell (Nat.le_refl _) _).setCell (Nat.le_refl _) _).setCell (Nat.le_refl _) _)
          · have HX : Hid (x = []) := List.isEmpty_iff.1 hxe
            rw [hxe] at bx
            clear hxe
            obtain ⟨e0, he0⟩ : ∃ v, Hid (v = (chkV c).1) := ⟨_, Lib.hid rfl⟩
            obtain ⟨e1, he1⟩ : ∃ v, Hid (v = (chkV c).2) := ⟨_, Lib.hid rfl⟩
            have CHK : Hid (Calls Tryz.prog 7 #[(.agg #[.int .i64 c.cats, .slice c.g.a c.g.l.length c.g.cap, .slice c.r.a c.r.l.length c.r.cap, .slice c.p.a c.p.l.length c.p.cap, .slice c.n.a c.n.l.length c.n.cap, .slice c.s.a c.s.l.length c.s.cap, .int .i64 c.gate, .int .i64 c.quota])] wr fun e w' => e = .returned (.tuple #[.int .i64 e0, .int .i64 e1]) ∧ Below wr.heap.size wr w') := by
              rw [he0.out, he1.out]; exact check_any c wr HQ.out.rd.cfg
            have q0 := HQ.out.rd.ob.cell 0 _ rfl
            have q1 := HQ.out.rd.ob.cell 1 _ rfl
            have q2 := HQ.out.rd.ob.cell 2 _ rfl
            have q3 := HQ.out.rd.ob.cell 3 _ rfl
            have q4 := HQ.out.rd.ob.cell 4 _ rfl
            have q5 := HQ.out.rd.ob.cell 5 _ rfl
            have q6 := HQ.out.rd.ob.cell 6 _ rfl
            have q7 := HQ.out.rd.ob.cell 7 _ rfl
            clear hO1 s6
            go_wp2_with fail
            refine CHK.out.mono ?_; rintro e w4 ⟨rfl, h4⟩
            have HQ4 := Lib.hid (HQ.out.rd.more h4)
            have HB4 := Lib.hid (bmore HB1.out HQ4.out.bel)
            have hO1 := HO1.out.below HQ4.out.bel
            have s6 := hO1.lt
            have HO4 := Lib.hid hO1
            have a0 := (hO1).cell 0 _ rfl; have a1 := (hO1).cell 1 _ rfl; have a2 := (hO1).cell 2 _ rfl; have a3 := (hO1).cell 3 _ rfl; have a4 := (hO1).cell 4 _ rfl; have a5 := (hO1).cell 5 _ rfl; have a6 := (hO1).cell 6 _ rfl; have a7 := (hO1).cell 7 _ rfl; have g0 := (hO1).free 0; have g1 := (hO1).free 1; have g2 := (hO1).free 2; have g3 := (hO1).free 3; have g4 := (hO1).free 4; have g5 := (hO1).free 5; have g6 := (hO1).free 6; have g7 := (hO1).free 7
            clear hO1 h4 q0 q1 q2 q3 q4 q5 q6 q7 CHK
            by_cases hz : e0 = 0
            · subst hz
              have q0 := HQ4.out.ob.cell 0 _ rfl
              have q1 := HQ4.out.ob.cell 1 _ rfl
              have q2 := HQ4.out.ob.cell 2 _ rfl
              have q3 := HQ4.out.ob.cell 3 _ rfl
              have q4 := HQ4.out.ob.cell 4 _ rfl
              have q5 := HQ4.out.ob.cell 5 _ rfl
              have q6 := HQ4.out.ob.cell 6 _ rfl
              have q7 := HQ4.out.ob.cell 7 _ rfl
              go_wp2_with fail
              refine bodyPost_ret (v := .tuple #[(.agg #[.int .i64 c.cats, .slice c.g.a c.g.l.length c.g.cap, .slice c.r.a c.r.l.length c.r.cap, .slice c.p.a c.p.l.length c.p.cap, .slice c.n.a c.n.l.length c.n.cap, .slice c.s.a c.s.l.length c.s.cap, .int .i64 c.gate, .int .i64 c.quota]), .int .i64 0, .int .i64 0]) (by simp [results, Tryz.results12, go_sem, a0, a1, a2, a3, a4, a5, a6, a7, s6]) rfl ?_
              refine HEY.out _ c last HQ.out.st h0 HX.out he0.out.symm ?_ ?_
              · exact HQ4.out.other HO4.out (upd_put (upd_put (upd_put (upd_put (upd_put (upd_put (upd_put (upd_put (Upd.refl _ _)))))))))
              · exact ((((((((HB4.out.setCell (Nat.le_refl _) _).setCell (Nat.le_refl _) _).setCell (Nat.le_refl _) _).setCell (Nat.le_refl _) _).setCell (Nat.le_refl _) _).setCell (Nat.le_refl _) _).setCell (Nat.le_refl _) _).setCell (Nat.le_refl _) _)
            · have n1 : (e0 == 0) = false := by rw [beq_eq_false_iff_ne]; exact hz
              have n2 : (e0 != 0) = true := by rw [bne_iff_ne]; exact hz
              have n3 : decide (e0 = 0) = false := decide_eq_false hz
              have HNZ : Hid ((chkV c).1 ≠ 0) := by rw [← he0.out]; exact hz
              clear hz
              go_wp2_with fail
              (refine bodyPost_ret (v := .tuple #[.agg #[.int .i64 0, .slice none 0 0, .slice none 0 0, .slice none 0 0, .slice none 0 0, .slice none 0 0, .int .i64 0, .int .i64 0], .int .i64 e0, .int .i64 0]) (by simp [results, Tryz.results12, go_sem, a0, a1, a2, a3, a4, a5, a6, a7, s6]) rfl ?_)
              rw [he0.out]
              exact HEN.out _ c last HQ.out.st h0 HX.out HNZ.out ((((((((HB4.out.setCell (Nat.le_refl _) _).setCell (Nat.le_refl _) _).setCell (Nat.le_refl _) _).setCell (Nat.le_refl _) _).setCell (Nat.le_refl _) _).setCell (Nat.le_refl _) _).setCell (Nat.le_refl _) _).setCell (Nat.le_refl _) _)
end Go.Proofs.YtoalpdjpljapbaaGreatDoor
/- Numbers as digits, there and back: plain lemmas. -/
namespace Go.Proofs.YtoalpdjpljapbaaGreatDoor
set_option linter.unusedVariables false
set_option linter.unusedSimpArgs false
set_option linter.unnecessarySimpa false
open Go.RowKit
theorem dd_step (n : Nat) (h : ¬ n < 10) : Lib.decDigits n = Lib.decDigits (n / 10) ++ [UInt8.ofNat (48 + n % 10)] := by
  rw [Lib.decDigits, dif_neg h]
theorem u8_toNat (k : Nat) (h : k < 256) : (UInt8.ofNat k).toNat = k := by
  simp [Nat.mod_eq_of_lt h]
theorem dd_all : ∀ n : Nat, (Lib.decDigits n).all isDig = true := by
  intro n
  induction n using Nat.strongRecOn with
  | _ n ih =>
    by_cases h : n < 10
    · rw [Lib.decDigits_one h]
      simp only [List.all_cons, List.all_nil, Bool.and_true]
      rw [isDig_iff, u8_toNat _ (by omega)]; omega
    · rw [dd_step n h, List.all_append, ih (n / 10) (by omega)]
      simp only [List.all_cons, List.all_nil, Bool.and_true, Bool.true_and]
      rw [isDig_iff, u8_toNat _ (by omega)]; omega
theorem dd_go : ∀ n : Nat, numGo 0 (Lib.decDigits n) = n := by
  intro n
  induction n using Nat.strongRecOn with
  | _ n ih =>
    by_cases h : n < 10
    · rw [Lib.decDigits_one h]
      simp only [numGo, List.foldl_cons, List.foldl_nil]
      rw [u8_toNat _ (by omega)]; omega
    · rw [dd_step n h, numGo_app, ih (n / 10) (by omega), u8_toNat _ (by omega)]; omega
theorem dd_ne (n : Nat) : Lib.decDigits n ≠ [] := by
  intro h
  have := Lib.decDigits_length n
  rw [h] at this
  have := Lib.nDigits_pos n
  simp at *; omega
theorem dd_head : ∀ n : Nat, 0 < n → (Lib.decDigits n).head? ≠ some 48 := by
  intro n
  induction n using Nat.strongRecOn with
  | _ n ih =>
    intro hn
    by_cases h : n < 10
    · rw [Lib.decDigits_one h]
      simp only [List.head?_cons]
      intro e
      injection e with e
      have := congrArg UInt8.toNat e
      rw [u8_toNat _ (by omega)] at this
      simp at this; omega
    · rw [dd_step n h]
      have h2 := ih (n / 10) (by omega) (by omega)
      cases hd : Lib.decDigits (n / 10) with
      | nil => exact absurd hd (dd_ne _)
      | cons x r => rw [hd] at h2; exact h2
theorem dd_len : ∀ (k n : Nat), 1 ≤ k → n < 10 ^ k → (Lib.decDigits n).length ≤ k
  | 0, n, h, _ => by omega
  | k + 1, n, _, hn => by
    by_cases h : n < 10
    · rw [Lib.decDigits_one h]; simp
    · rw [dd_step n h, List.length_append]
      have hk : 1 ≤ k := by
        rcases Nat.eq_zero_or_pos k with h0 | h0
        · subst h0; simp at hn; omega
        · exact h0
      have := dd_len k (n / 10) hk (by rw [Nat.pow_succ] at hn; omega)
      simp; omega
theorem dd_one (n : Nat) (h : 1 < (Lib.decDigits n).length) : 0 < n := by
  rcases Nat.eq_zero_or_pos n with h0 | h0
  · subst h0; rw [Lib.decDigits_one (by omega)] at h; simp at h
  · exact h0
/-- Digits without a zero ahead are those of their number. -/
theorem go_dd : ∀ (m : Nat) (s : List UInt8), s.length = m → s ≠ [] → s.all isDig = true → (1 < s.length → s.head? ≠ some 48) → Lib.decDigits (numGo 0 s) = s := by
  intro m
  induction m with
  | zero => intro s h hne; exact absurd (List.eq_nil_of_length_eq_zero h) hne
  | succ m ih =>
    intro s hl hne hall hhd
    rcases List.eq_nil_or_concat s with h | ⟨t, b, rfl⟩
    · exact absurd h hne
    · rw [List.concat_eq_append] at *
      rw [List.all_append, Bool.and_eq_true] at hall
      obtain ⟨ht, hb⟩ := hall
      simp only [List.all_cons, List.all_nil, Bool.and_true] at hb
      rw [isDig_iff] at hb
      rw [List.length_append] at hl hhd
      simp only [List.length_cons, List.length_nil] at hl hhd
      rw [numGo_app]
      have hbb : UInt8.ofNat (48 + (b.toNat - 48)) = b := by
        rw [← UInt8.toNat_inj, u8_toNat _ (by omega)]; omega
      by_cases hte : t = []
      · subst hte
        have : 10 * numGo 0 [] + (b.toNat - 48) = b.toNat - 48 := by simp [numGo]
        rw [this, Lib.decDigits_one (by omega), hbb]; rfl
      · have hpos : 0 < t.length := List.length_pos_iff.2 hte
        have hth : t.head? ≠ some 48 := by
          have := hhd (by omega)
          cases t with
          | nil => exact absurd rfl hte
          | cons x r => exact this
        have hI := ih t (by omega) hte ht (fun _ => hth)
        have hm : 1 ≤ numGo 0 t := by
          rcases Nat.eq_zero_or_pos (numGo 0 t) with h0 | h0
          · rw [h0, Lib.decDigits_one (by omega)] at hI
            rw [← hI] at hth
            exact absurd rfl hth
          · exact h0
        rw [dd_step _ (by omega)]
        have e1 : (10 * numGo 0 t + (b.toNat - 48)) / 10 = numGo 0 t := by omega
        have e2 : (10 * numGo 0 t + (b.toNat - 48)) % 10 = b.toNat - 48 := by omega
        rw [e1, e2, hI, hbb]
/-- A number of at most nine digits: read, then written. -/
theorem num_dd (n : Nat) (h : n < 1000000000) : numB (Lib.decDigits n) = true ∧ numI (Lib.decDigits n) = n := by
  have hw : numW (Lib.decDigits n) = true := by
    unfold numW
    have h1 := dd_len 9 n (by omega) (by omega)
    rw [decide_eq_true (dd_ne n), decide_eq_true h1]
    by_cases hl : 1 < (Lib.decDigits n).length
    · rw [decide_eq_false (dd_head n (dd_one n hl))]; simp
    · rw [decide_eq_false hl]; rfl
  have hb : numB (Lib.decDigits n) = true := by rw [numB, hw, dd_all]; rfl
  exact ⟨hb, by rw [numI, if_pos hb, dd_go]⟩
theorem dd_num {s : List UInt8} (h : numB s = true) : Lib.decDigits (numI s) = s := by
  rw [numI, if_pos h]
  unfold numB numW at h
  rw [Bool.and_eq_true, Bool.and_eq_true, Bool.and_eq_true, Bool.not_eq_true', Bool.and_eq_false_iff] at h
  obtain ⟨⟨h1, h2, h3⟩, h4⟩ := h
  refine go_dd _ s rfl (of_decide_eq_true h1) h4 (fun hl => ?_)
  rcases h3 with h3 | h3
  · exact absurd hl (of_decide_eq_false h3)
  · exact of_decide_eq_false h3
end Go.Proofs.YtoalpdjpljapbaaGreatDoor
/- The text of a configuration; what a configuration that is right holds: plain. -/
namespace Go.Proofs.YtoalpdjpljapbaaGreatDoor
set_option linter.unusedVariables false
set_option linter.unusedSimpArgs false
set_option linter.unnecessarySimpa false
open Go.RowKit Go.Sort
set_option maxHeartbeats 2000000
set_option maxRecDepth 100000
set_option linter.unusedVariables false
def dc (n : Int) : List UInt8 := Lib.decDigits n.toNat
def lbT (l : Int) : List UInt8 := lbL l.toNat
def outT : List UInt8 := [111, 117, 116]
/-- The words of a row of a rank. -/
def rowT (k : Nat) (r : List Int) : List (List UInt8) := match k with
  | 0 => [rkName 0, dc (r.getD 0 0)]
  | 1 => [rkName 1, lbT (r.getD 0 0), dc (r.getD 1 0), dc (r.getD 2 0)]
  | 2 => [rkName 2, lbT (r.getD 0 0), dc (r.getD 1 0), dc (r.getD 2 0)]
  | 3 => [rkName 3, lbT (r.getD 0 0), if r.getD 1 0 = -1 then outT else dc (r.getD 1 0)]
  | k + 4 => [rkName (k + 4), dc (r.getD 0 0), dc (r.getD 1 0)]
def tag (k : Nat) (l : List (List Int)) : List (Nat × List Int) := l.map fun r => (k, r)
def gateR (c : Pc) : List (Nat × List Int) := if c.gate = -1 then [] else [(6, [c.gate, c.quota])]
def rowsP (c : Pc) : List (Nat × List Int) := (0, [c.cats]) :: (tag 1 c.g ++ (tag 2 c.r ++ (tag 3 c.p ++ (tag 4 c.n ++ (tag 5 c.s ++ gateR c)))))
def lineT (x : Nat × List Int) : List UInt8 := joinC 32 (rowT x.1 x.2)
def textT (R : List (Nat × List Int)) : List UInt8 := R.flatMap fun x => lineT x ++ [10]
def prT (c : Pc) : List UInt8 := textT (rowsP c)
theorem textT_app (A B : List (Nat × List Int)) : textT (A ++ B) = textT A ++ textT B := by simp [textT]
theorem textT_one (x : Nat × List Int) : textT [x] = lineT x ++ [10] := by simp [textT]
/-- What a configuration that is right holds. -/
structure FitP (c : Pc) : Prop where
  cats : 0 ≤ c.cats ∧ c.cats ≤ 8
  gl : c.g.length ≤ 4
  rl : c.r.length ≤ 8
  pl : c.p.length ≤ 8
  nl : c.n.length ≤ 4
  sl : c.s.length ≤ 8
  g : ∀ r ∈ c.g, (0 ≤ r.getD 0 0 ∧ r.getD 0 0 < 256) ∧ (0 ≤ r.getD 1 0 ∧ r.getD 1 0 ≤ 8) ∧ 0 ≤ r.getD 2 0 ∧ r.getD 2 0 ≤ 8
  r : ∀ r ∈ c.r, (0 ≤ r.getD 0 0 ∧ r.getD 0 0 < 256) ∧ (0 ≤ r.getD 1 0 ∧ r.getD 1 0 ≤ 32) ∧ 0 ≤ r.getD 2 0 ∧ r.getD 2 0 ≤ 32
  p : ∀ r ∈ c.p, (0 ≤ r.getD 0 0 ∧ r.getD 0 0 < 256) ∧ (r.getD 1 0 = -1 ∨ 0 ≤ r.getD 1 0 ∧ r.getD 1 0 < 4)
  n : ∀ r ∈ c.n, (0 ≤ r.getD 0 0 ∧ r.getD 0 0 < 4) ∧ 0 ≤ r.getD 1 0 ∧ r.getD 1 0 < 4
  s : ∀ r ∈ c.s, (0 ≤ r.getD 0 0 ∧ r.getD 0 0 < 4) ∧ 0 ≤ r.getD 1 0 ∧ r.getD 1 0 ≤ 32
  gate : (c.gate = -1 ∧ c.quota = 0) ∨ ((0 ≤ c.gate ∧ c.gate < 4) ∧ 0 ≤ c.quota ∧ c.quota ≤ 64)
theorem valid_256 {l cats : Int} (h : validB l cats = true) : 0 ≤ l ∧ l < 256 := by
  simp only [validB, Bool.and_eq_true, decide_eq_true_eq] at h
  obtain ⟨⟨⟨h1, h2⟩, h3⟩, h4⟩ := h
  refine ⟨h3, ?_⟩
  have : (2 : Int) ^ cats.toNat ≤ 2 ^ 8 := by
    have := Nat.pow_le_pow_right (n := 2) (by omega) (show cats.toNat ≤ 8 by omega)
    exact_mod_cast this
  omega
theorem fit_of {c : Cv} (h : (chkV c).1 = 0) : FitP (pcOf c) := by
  unfold chkV at h
  split at h
  · cases h
  · rename_i hc
    cases hf : (List.range 6).find? (fun k => (ruleV c k).2) with
    | some k => rw [hf] at h; simp only at h; omega
    | none =>
      have hn : ∀ j, j < 6 → (ruleV c j).2 = false := fun j hj => by
        rw [List.find?_eq_none] at hf; simpa using hf j (List.mem_range.2 hj)
      clear h hf
      have h0 : (gFst c).2 = false := hn 0 (by omega)
      have h1 : (rFst c).2 = false := hn 1 (by omega)
      have h2 : (pFst c).2 = false := hn 2 (by omega)
      have h3 : (nFst c).2 = false := hn 3 (by omega)
      have h4 : (sFst c).2 = false := hn 4 (by omega)
      have h5 : gateB c = false := hn 5 (by omega)
      unfold gFst at h0; unfold rFst at h1; unfold pFst at h2; unfold nFst at h3; unfold sFst at h4; unfold gateB at h5
      split at h0
      · cases h0
      split at h1
      · cases h1
      split at h2
      · cases h2
      split at h3
      · cases h3
      split at h4
      · cases h4
      rename_i l0 l1 l2 l3 l4
      have isg : ∀ i, isG c i = true → 0 ≤ i ∧ i < 4 := fun i hi => by
        have := (isG_iff c i).1 hi; omega
      refine ⟨by show 0 ≤ c.cats ∧ c.cats ≤ 8; omega, by show c.g.l.length ≤ 4; omega, by show c.r.l.length ≤ 8; omega, by show c.p.l.length ≤ 8; omega, by show c.n.l.length ≤ 4; omega, by show c.s.l.length ≤ 8; omega, ?_, ?_, ?_, ?_, ?_, ?_⟩
      · intro r hr
        obtain ⟨i, hi, rfl⟩ := List.mem_iff_getElem.1 (show r ∈ c.g.l from hr)
        have := fstV_false h0 i hi
        simp only [gBad, at_eq hi, Bool.or_eq_false_iff, decide_eq_false_iff_not, Bool.not_eq_false'] at this
        have hv := valid_256 this.1
        exact ⟨hv, by omega, by omega, by omega⟩
      · intro r hr
        obtain ⟨i, hi, rfl⟩ := List.mem_iff_getElem.1 (show r ∈ c.r.l from hr)
        have := fstV_false h1 i hi
        simp only [rBad, at_eq hi, Bool.or_eq_false_iff, Bool.not_eq_false', bne_eq_false_iff_eq] at this
        obtain ⟨ha, hb⟩ := this
        have hv := valid_256 ha
        unfold giveV at hb
        split at hb
        · rename_i hw
          have := (wellG_iff _ _ _ _).1 hw
          exact ⟨hv, by omega, by omega, by omega⟩
        · cases hb
      · intro r hr
        obtain ⟨i, hi, rfl⟩ := List.mem_iff_getElem.1 (show r ∈ c.p.l from hr)
        have := fstV_false h2 i hi
        simp only [pBad, at_eq hi, Bool.or_eq_false_iff, Bool.and_eq_false_iff, Bool.not_eq_false', Bool.not_eq_true', beq_eq_false_iff_ne, beq_iff_eq] at this
        obtain ⟨ha, hb⟩ := this
        refine ⟨valid_256 ha, ?_⟩
        rcases hb with hb | hb
        · exact Or.inl hb
        · exact Or.inr (isg _ hb.1)
      · intro r hr
        obtain ⟨i, hi, rfl⟩ := List.mem_iff_getElem.1 (show r ∈ c.n.l from hr)
        have := fstV_false h3 i hi
        simp only [nBad, at_eq hi, Bool.or_eq_false_iff, Bool.not_eq_false'] at this
        exact ⟨isg _ this.1, isg _ this.2.1⟩
      · intro r hr
        obtain ⟨i, hi, rfl⟩ := List.mem_iff_getElem.1 (show r ∈ c.s.l from hr)
        have := fstV_false h4 i hi
        simp only [sBad, at_eq hi, Bool.or_eq_false_iff, Bool.not_eq_false', decide_eq_false_iff_not] at this
        exact ⟨isg _ this.1, by omega, by omega⟩
      · show (c.gate = -1 ∧ c.quota = 0) ∨ _
        split at h5
        · rename_i hg
          left
          exact ⟨hg, by simpa using h5⟩
        · right
          simp only [Bool.or_eq_false_iff, Bool.not_eq_false', decide_eq_false_iff_not] at h5
          exact ⟨isg _ h5.1, by show 0 ≤ c.quota; omega, by show c.quota ≤ 64; omega⟩
/-- The text of a label. -/
theorem lbS_lbT {l : Int} (h : 0 ≤ l ∧ l < 256) : lbS l = ba (lbT l) := by
  have e : l = ((l.toNat : Nat) : Int) := by omega
  have := (lbS_nat l.toNat (by omega)).1
  rw [← e] at this
  rw [this]; rfl
theorem lbL_ok : ∀ l : Fin 256, lbL l.val ≠ [] ∧ (lbL l.val).length ≤ 8 ∧ (lbL l.val).all (fun b => b != 10 && b != 32) = true := by decide +kernel
theorem lbT_ok {l : Int} (h : 0 ≤ l ∧ l < 256) : lbT l ≠ [] ∧ (lbT l).length ≤ 8 ∧ (lbT l).all (fun b => b != 10 && b != 32) = true := lbL_ok ⟨l.toNat, by omega⟩
theorem dc_all (n : Int) : (dc n).all (fun b => b != 10 && b != 32) = true := by
  rw [List.all_eq_true]
  intro b hb
  have := List.all_eq_true.1 (dd_all n.toNat) b hb
  rw [isDig_iff] at this
  have h1 : b ≠ 10 := fun e => by rw [e] at this; simp at this
  have h2 : b ≠ 32 := fun e => by rw [e] at this; simp at this
  simp [h1, h2]
theorem dc_len {n : Int} (h : n < 1000000000) : (dc n).length ≤ 9 := dd_len 9 n.toNat (by omega) (by omega)
/-- A line as the page takes it. -/
def lnW (k : Nat) (ahead : List UInt8) (l : List Int) : List UInt8 := rkName k ++ ((if ahead = [] then [] else 32 :: ahead) ++ (l.flatMap (fun n => 32 :: dc n) ++ [10]))
theorem lnW_0 (a : Int) : lnW 0 [] [a] = lineT (0, [a]) ++ [10] := by simp [lnW, lineT, rowT, joinC]
theorem lnW_1 {l : Int} (h : 0 ≤ l ∧ l < 256) (a b : Int) : lnW 1 (lbT l) [a, b] = lineT (1, [l, a, b]) ++ [10] := by
  unfold lnW; rw [if_neg (lbT_ok h).1]; simp [lineT, rowT, joinC]
theorem lnW_2 {l : Int} (h : 0 ≤ l ∧ l < 256) (a b : Int) : lnW 2 (lbT l) [a, b] = lineT (2, [l, a, b]) ++ [10] := by
  unfold lnW; rw [if_neg (lbT_ok h).1]; simp [lineT, rowT, joinC]
theorem lnW_3 {l : Int} (h : 0 ≤ l ∧ l < 256) {a : Int} (ha : a ≠ -1) : lnW 3 (lbT l) [a] = lineT (3, [l, a]) ++ [10] := by
  unfold lnW; rw [if_neg (lbT_ok h).1]; simp [lineT, rowT, joinC, ha]
theorem lnW_out {l : Int} (h : 0 ≤ l ∧ l < 256) : lnW 3 (lbT l ++ 32 :: outT) [] = lineT (3, [l, -1]) ++ [10] := by
  unfold lnW; rw [if_neg (by simp)]; simp [lineT, rowT, joinC]
theorem lnW_k (k : Nat) (a b : Int) : lnW (k + 4) [] [a, b] = lineT (k + 4, [a, b]) ++ [10] := by simp [lnW, lineT, rowT, joinC]
end Go.Proofs.YtoalpdjpljapbaaGreatDoor
/- Itoa over the kit's contract. -/
namespace Go.Proofs.YtoalpdjpljapbaaGreatDoor
set_option linter.unusedVariables false
set_option linter.unusedSimpArgs false
set_option linter.unnecessarySimpa false
open Go.RowKit Go.Sort Go.Lib
set_option linter.unusedVariables false
set_option maxHeartbeats 400000
set_option maxRecDepth 100000

def PowIs (w : World) : Prop := Lib.TabIs Tryz.prog w "internal/strconv.uint64pow10" .u64 Lib.pow10Tab
theorem PowIs.below {w w' : World} (h : PowIs w) (hb : Below w.heap.size w w') : PowIs w' := by
  unfold PowIs Lib.TabIs World.var? at *
  cases hg : (Tryz.prog).globalNamed "internal/strconv.uint64pow10" with
  | none => simp [hg] at h
  | some g =>
    simp only [hg, Option.bind_some] at h ⊢
    have hlt : g < w.heap.size := by
      rcases Nat.lt_or_ge g w.heap.size with h' | h'
      · exact h'
      · rw [Array.getElem?_eq_none h'] at h; simp at h
    rw [hb.block g hlt]
    exact h

theorem below_grown {w w' : World} (h : ∃ k os, w' = grow (w.drewN k) os) : Below w.heap.size w w' := by
  obtain ⟨k, os, rfl⟩ := h
  have h1 := below_drewN (Below.refl w.heap.size w) k
  have h2 := below_regrown (w.drewN k) (w.drewN k).drawn os
  exact h1.trans (h2.mono h1.size)
theorem itoa_b (n : Int) (h0 : -9223372036854775808 ≤ n) (h1 : n ≤ 9223372036854775807) (w : World) (htab : PowIs w) :
    Calls Tryz.prog 28 #[.int .i64 n] w fun e w' => e = .returned (.string ⟨(Lib.itoa n).toArray⟩) ∧ Below w.heap.size w w' :=
  (Tryz.strconv_Itoa n h0 h1 w htab).mono fun _ _ ⟨h1, h2⟩ => ⟨h1, below_grown h2⟩
end Go.Proofs.YtoalpdjpljapbaaGreatDoor
/- The reference's numbers by digits (lines of XTrTexts). -/
namespace Go.Proofs.YtoalpdjpljapbaaGreatDoor
set_option linter.unusedVariables false
set_option linter.unusedSimpArgs false
set_option linter.unnecessarySimpa false
open Go.RowKit Go.Sort
set_option maxHeartbeats 2000000
set_option maxRecDepth 100000
set_option linter.unusedVariables false
theorem strOfNums_one (b : Nat) (hb : b < 256) : strOfNums [(b : Int)] = ⟨#[UInt8.ofNat b]⟩ := by
  simp [strOfNums]
theorem conv_at (b : Nat) (hb : b < 256) (w : World) (g : Nat) (hg : w.cell? ⟨g, 0, none⟩ = some (.int .u8 (b : Int))) : (convert 40 9 (.slice (some ⟨g, 0, none⟩) 1 1)).run Tryz.prog w = .ok (.string ⟨#[UInt8.ofNat b]⟩) w := by
  refine (run_convert_bytes_arg w 40 5 Tryz.underlying40 Tryz.underlying5 g 0 1 1 [(b : Int)] rfl (fun i hi => ?_) 9 Tryz.underlying9).trans ?_
  · obtain rfl : i = 0 := by omega
    exact hg
  · rw [strOfNums_one b hb]
theorem conv_one (b : Nat) (hb : b < 256) (w : World) (x : Int) (hx : x = (b : Int)) : (convert 40 9 (.slice (some ⟨w.heap.size, 0, none⟩) 1 1)).run Tryz.prog (w.alloc (.cells #[.int .u8 x] 5)) = .ok (.string ⟨#[UInt8.ofNat b]⟩) (w.alloc (.cells #[.int .u8 x] 5)) := by
  subst hx
  refine conv_at b hb _ _ ?_
  rw [World.cell?_alloc_mark w _ _ _ 0]; rfl
theorem decDigits_step (n : Nat) (h : ¬ n < 10) : Lib.decDigits n = Lib.decDigits (n / 10) ++ [UInt8.ofNat (48 + n % 10)] := by
  rw [Lib.decDigits, dif_neg h]
theorem digits_any : ∀ (n : Nat) (w : World), n ≤ 9223372036854775807 → Calls Tryz.prog 15 #[.int .i64 n] w fun e w' => e = .returned (.string ⟨(Lib.decDigits n).toArray⟩) ∧ Below w.heap.size w w' := by
  intro n
  induction n using Nat.strongRecOn with
  | _ n ih =>
    intro w hn
    obtain ⟨sn, hsn⟩ : ∃ s : ByteArray, s = ⟨(Lib.decDigits n).toArray⟩ := ⟨_, rfl⟩
    rw [← hsn]
    by_cases h : n < 10
    · have d0 : decide ((n : Int) < 10) = true := by simp; omega
      have w0 : IntKind.i64.wrap (48 + (n : Int)) = 48 + (n : Int) := by rw [IntKind.wrap_i64]; omega
      have w1 : IntKind.u8.wrap (48 + (n : Int)) = 48 + (n : Int) := by rw [IntKind.wrap_u8]; omega
      have hcv := conv_one (48 + n) (by omega) w (48 + (n : Int)) (by omega)
      have hd : (⟨#[UInt8.ofNat (48 + n)]⟩ : ByteArray) = sn := by rw [hsn, Lib.decDigits_one h]
      rw [hd] at hcv
      have hb : Hid (Below w.heap.size w (w.alloc (.cells #[.int .u8 (48 + (n : Int))] 5))) := (Below.refl _ _).alloc (Nat.le_refl _) _
      clear ih hd hsn
      go_enter Tryz.func15, Tryz.ntmps15
      go_wp2_with fail
      go_ret
      exact ⟨rfl, hb.out⟩
    · have d0 : decide ((n : Int) < 10) = false := by simp; omega
      have w0 : IntKind.i64.wrap (48 + (n : Int) % 10) = 48 + (n : Int) % 10 := by rw [IntKind.wrap_i64]; omega
      have w1 : IntKind.u8.wrap (48 + (n : Int) % 10) = 48 + (n : Int) % 10 := by rw [IntKind.wrap_u8]; omega
      have w2 : IntKind.i64.wrap ((n : Int) / 10) = (n : Int) / 10 := by rw [IntKind.wrap_i64]; omega
      have w3 : (n : Int).tmod 10 = (n : Int) % 10 := by rw [Int.tmod_eq_emod_of_nonneg (by omega)]
      obtain ⟨sq, hsq⟩ : ∃ s : ByteArray, s = ⟨(Lib.decDigits (n / 10)).toArray⟩ := ⟨_, rfl⟩
      obtain ⟨s1, hs1⟩ : ∃ s : ByteArray, s = ⟨#[UInt8.ofNat (48 + n % 10)]⟩ := ⟨_, rfl⟩
      have hih : Hid (∀ w, Calls Tryz.prog 15 #[.int .i64 ((n : Int) / 10)] w fun e w' => e = .returned (.string sq) ∧ Below w.heap.size w w') := fun w => by
        have := ih (n / 10) (by omega) w (by omega)
        rw [Int.natCast_ediv, ← hsq] at this
        exact this
      have hst : Hid (sq ++ s1 = sn) := by rw [Hid, hsq, hs1, hsn, decDigits_step n h, ← ba_append]
      have hcv : Hid (∀ (W : World) (g : Nat), W.cell? ⟨g, 0, none⟩ = some (.int .u8 (48 + (n : Int) % 10)) → (convert 40 9 (.slice (some ⟨g, 0, none⟩) 1 1)).run Tryz.prog W = .ok (.string s1) W) := fun W g hg => by
        rw [hs1]
        exact conv_at (48 + n % 10) (by omega) W g (by rw [hg]; congr 2)
      have hnew : Hid (∀ (W : World), (W.alloc (.cells #[.int .u8 (48 + (n : Int) % 10)] 5)).cell? ⟨W.heap.size, 0, none⟩ = some (.int .u8 (48 + (n : Int) % 10))) := fun W => by rw [World.cell?_alloc_mark W _ _ _ 0]; rfl
      have n0 : (0 : Int) ≤ n := by omega
      have hsz : sq.size + s1.size ≤ 9223372036854775807 := by rw [hsq, hs1, ba_size']; have := Lib.nDigits_le20 (n / 10) (by omega); rw [Lib.decDigits_length]; show _ + 1 ≤ _; omega
      clear ih hsq hs1 hsn
      go_enter Tryz.func15, Tryz.ntmps15
      go_wp2_with fail
      refine wp_region_held_drew (S := fun W' => True) (by kernel_rfl) trivial (fun hHeld => ?_)
      (refine wpAnyH_take (i := 0) (v := (.int .i64 (n : Int))) rfl (by kernel_rfl) (by kernel_rfl) (by kernel_rfl) (fun _ _ _ h => h) (Or.inl ⟨by rfl, (by intro w hSw; go_simp)⟩) (by assumption) ?_; try simp only [Act.put, List.getElem_toArray, List.getElem_cons_succ, List.getElem_cons_zero, List.setIfInBounds_toArray, List.set_cons_zero, List.set_cons_succ])
      (refine wpAnyH_take (i := 1) (v := (.int .i64 ((n : Int) / 10))) rfl (by kernel_rfl) (by kernel_rfl) (by kernel_rfl) (fun _ _ _ h => h) (Or.inl ⟨by rfl, (by intro w hSw; go_simp)⟩) (by assumption) ?_; try simp only [Act.put, List.getElem_toArray, List.getElem_cons_succ, List.getElem_cons_zero, List.setIfInBounds_toArray, List.set_cons_zero, List.set_cons_succ])
      (refine wpAnyH_take (i := 3) (v := (.int .i64 (n : Int))) rfl (by kernel_rfl) (by kernel_rfl) (by kernel_rfl) (fun _ _ _ h => h) (Or.inl ⟨by rfl, (by intro w hSw; go_simp)⟩) (by assumption) ?_; try simp only [Act.put, List.getElem_toArray, List.getElem_cons_succ, List.getElem_cons_zero, List.setIfInBounds_toArray, List.set_cons_zero, List.set_cons_succ])
      (refine wpAnyH_take (i := 4) (v := (.int .i64 ((n : Int) % 10))) rfl (by kernel_rfl) (by kernel_rfl) (by kernel_rfl) (fun _ _ _ h => h) (Or.inl ⟨by rfl, (by intro w hSw; go_simp)⟩) (by assumption) ?_; try simp only [Act.put, List.getElem_toArray, List.getElem_cons_succ, List.getElem_cons_zero, List.setIfInBounds_toArray, List.set_cons_zero, List.set_cons_succ])
      (refine wpAnyH_take (i := 5) (v := (.int .i64 (48 + (n : Int) % 10))) rfl (by kernel_rfl) (by kernel_rfl) (by kernel_rfl) (fun _ _ _ h => h) (Or.inl ⟨by rfl, (by intro w hSw; go_simp)⟩) (by assumption) ?_; try simp only [Act.put, List.getElem_toArray, List.getElem_cons_succ, List.getElem_cons_zero, List.setIfInBounds_toArray, List.set_cons_zero, List.set_cons_succ])
      (refine wpAnyH_take (i := 6) (v := (.int .u8 (48 + (n : Int) % 10))) rfl (by kernel_rfl) (by kernel_rfl) (by kernel_rfl) (fun _ _ _ h => h) (Or.inl ⟨by rfl, (by intro w hSw; go_simp)⟩) (by assumption) ?_; try simp only [Act.put, List.getElem_toArray, List.getElem_cons_succ, List.getElem_cons_zero, List.setIfInBounds_toArray, List.set_cons_zero, List.set_cons_succ])
      refine wpAnyH_ready (rs := [2, 7]) (by kernel_rfl) (by simp) ?_
      refine AllReadyH.cons rfl (fun K hK => ?_) (AllReadyH.cons rfl (fun K hK => ?_) AllReadyH.nil)
      · go_simp
        refine (hih.out _).mono ?_
        rintro e W1 ⟨rfl, hb1⟩
        have hb2 : Hid (Below w.heap.size w W1) := ((Below.refl _ w).drew).trans hb1
        dsimp only
        (refine hK.out _ _ (trivial) (fun hHeld => ?_); clear hK K; try simp only [Act.put, List.getElem_toArray, List.getElem_cons_succ, List.getElem_cons_zero, List.setIfInBounds_toArray, List.set_cons_zero, List.set_cons_succ])
        (refine wpAnyH_ready (rs := [7]) (by kernel_rfl) (by simp) ?_; refine AllReadyH.cons rfl (fun K hK => ?_) AllReadyH.nil)
        go_simp
        (refine hK.out _ _ (trivial) (fun hHeld => ?_); clear hK K; try simp only [Act.put, List.getElem_toArray, List.getElem_cons_succ, List.getElem_cons_zero, List.setIfInBounds_toArray, List.set_cons_zero, List.set_cons_succ])
        have hc1 := hcv.out _ _ (hnew.out W1)
        (refine wpAnyH_ready (rs := [8]) (by kernel_rfl) (by simp) ?_; refine AllReadyH.cons rfl (fun K hK => ?_) AllReadyH.nil)
        go_simp
        (refine hK.out _ _ (trivial) (fun hHeld => ?_); clear hK K; try simp only [Act.put, List.getElem_toArray, List.getElem_cons_succ, List.getElem_cons_zero, List.setIfInBounds_toArray, List.set_cons_zero, List.set_cons_succ])
        (refine wpAnyH_take (i := 9) (v := (.string (sq ++ s1))) rfl (by kernel_rfl) (by kernel_rfl) (by kernel_rfl) (fun _ _ _ h => h) (Or.inl ⟨by rfl, (by intro w hSw; go_simp)⟩) (by assumption) ?_; try simp only [Act.put, List.getElem_toArray, List.getElem_cons_succ, List.getElem_cons_zero, List.setIfInBounds_toArray, List.set_cons_zero, List.set_cons_succ])
        rw [hst.out]
        (refine wpAnyH_take (i := 10) (v := (.string sn)) rfl (by kernel_rfl) (by kernel_rfl) (by kernel_rfl) (fun _ _ _ h => h) (Or.inl ⟨by rfl, (by intro w hSw; go_simp)⟩) (by assumption) ?_; try simp only [Act.put, List.getElem_toArray, List.getElem_cons_succ, List.getElem_cons_zero, List.setIfInBounds_toArray, List.set_cons_zero, List.set_cons_succ])
        refine wpAnyH_done (by kernel_rfl) ?_ _
        go_wp2_with fail
        go_ret
        exact ⟨rfl, hb2.out.alloc hb2.out.size _⟩
      · go_simp
        (refine hK.out _ _ (trivial) (fun hHeld => ?_); clear hK K; try simp only [Act.put, List.getElem_toArray, List.getElem_cons_succ, List.getElem_cons_zero, List.setIfInBounds_toArray, List.set_cons_zero, List.set_cons_succ])
        have hb2 : Hid (Below w.heap.size w (w.alloc (.cells #[.int .u8 (48 + (n : Int) % 10)] 5)).drew) := ((Below.refl _ w).alloc (Nat.le_refl _) _).drew
        have hc0 : (w.alloc (.cells #[.int .u8 (48 + (n : Int) % 10)] 5)).drew.cell? ⟨w.heap.size, 0, none⟩ = some (.int .u8 (48 + (n : Int) % 10)) := hnew.out w
        have hlt : Hid (w.heap.size < (w.alloc (.cells #[.int .u8 (48 + (n : Int) % 10)] 5)).drew.heap.size) := World.block_lt_of_cell? _ _ hc0
        generalize (w.alloc (.cells #[.int .u8 (48 + (n : Int) % 10)] 5)).drew = W2 at hb2 hc0 hlt ⊢
        refine wpAnyH_ready (rs := [2, 8]) (by kernel_rfl) (by simp) ?_
        refine AllReadyH.cons rfl (fun K hK => ?_) (AllReadyH.cons rfl (fun K hK => ?_) AllReadyH.nil)
        · go_simp
          refine (hih.out _).mono ?_
          rintro e W1 ⟨rfl, hb1⟩
          have hb3 : Hid (Below w.heap.size w W1) := hb2.out.trans (hb1.mono hb2.out.size)
          have hc1 := hcv.out W1 w.heap.size ((hb1.cell (p := ⟨w.heap.size, 0, none⟩) hlt.out).trans hc0)
          dsimp only
          (refine hK.out _ _ (trivial) (fun hHeld => ?_); clear hK K; try simp only [Act.put, List.getElem_toArray, List.getElem_cons_succ, List.getElem_cons_zero, List.setIfInBounds_toArray, List.set_cons_zero, List.set_cons_succ])
          (refine wpAnyH_ready (rs := [8]) (by kernel_rfl) (by simp) ?_; refine AllReadyH.cons rfl (fun K hK => ?_) AllReadyH.nil)
          go_simp
          (refine hK.out _ _ (trivial) (fun hHeld => ?_); clear hK K; try simp only [Act.put, List.getElem_toArray, List.getElem_cons_succ, List.getElem_cons_zero, List.setIfInBounds_toArray, List.set_cons_zero, List.set_cons_succ])
          (refine wpAnyH_take (i := 9) (v := (.string (sq ++ s1))) rfl (by kernel_rfl) (by kernel_rfl) (by kernel_rfl) (fun _ _ _ h => h) (Or.inl ⟨by rfl, (by intro w hSw; go_simp)⟩) (by assumption) ?_; try simp only [Act.put, List.getElem_toArray, List.getElem_cons_succ, List.getElem_cons_zero, List.setIfInBounds_toArray, List.set_cons_zero, List.set_cons_succ])
          rw [hst.out]
          (refine wpAnyH_take (i := 10) (v := (.string sn)) rfl (by kernel_rfl) (by kernel_rfl) (by kernel_rfl) (fun _ _ _ h => h) (Or.inl ⟨by rfl, (by intro w hSw; go_simp)⟩) (by assumption) ?_; try simp only [Act.put, List.getElem_toArray, List.getElem_cons_succ, List.getElem_cons_zero, List.setIfInBounds_toArray, List.set_cons_zero, List.set_cons_succ])
          refine wpAnyH_done (by kernel_rfl) ?_ _
          go_wp2_with fail
          go_ret
          exact ⟨rfl, hb3.out⟩
        · have hc1 := hcv.out W2 w.heap.size hc0
          go_simp
          (refine hK.out _ _ (trivial) (fun hHeld => ?_); clear hK K; try simp only [Act.put, List.getElem_toArray, List.getElem_cons_succ, List.getElem_cons_zero, List.setIfInBounds_toArray, List.set_cons_zero, List.set_cons_succ])
          (refine wpAnyH_ready (rs := [2]) (by kernel_rfl) (by simp) ?_; refine AllReadyH.cons rfl (fun K hK => ?_) AllReadyH.nil)
          go_simp
          refine (hih.out _).mono ?_
          rintro e W1 ⟨rfl, hb1⟩
          have hb3 : Hid (Below w.heap.size w W1) := hb2.out.trans (hb1.mono hb2.out.size)
          dsimp only
          (refine hK.out _ _ (trivial) (fun hHeld => ?_); clear hK K; try simp only [Act.put, List.getElem_toArray, List.getElem_cons_succ, List.getElem_cons_zero, List.setIfInBounds_toArray, List.set_cons_zero, List.set_cons_succ])
          (refine wpAnyH_take (i := 9) (v := (.string (sq ++ s1))) rfl (by kernel_rfl) (by kernel_rfl) (by kernel_rfl) (fun _ _ _ h => h) (Or.inl ⟨by rfl, (by intro w hSw; go_simp)⟩) (by assumption) ?_; try simp only [Act.put, List.getElem_toArray, List.getElem_cons_succ, List.getElem_cons_zero, List.setIfInBounds_toArray, List.set_cons_zero, List.set_cons_succ])
          rw [hst.out]
          (refine wpAnyH_take (i := 10) (v := (.string sn)) rfl (by kernel_rfl) (by kernel_rfl) (by kernel_rfl) (fun _ _ _ h => h) (Or.inl ⟨by rfl, (by intro w hSw; go_simp)⟩) (by assumption) ?_; try simp only [Act.put, List.getElem_toArray, List.getElem_cons_succ, List.getElem_cons_zero, List.setIfInBounds_toArray, List.set_cons_zero, List.set_cons_succ])
          refine wpAnyH_done (by kernel_rfl) ?_ _
          go_wp2_with fail
          go_ret
          exact ⟨rfl, hb3.out⟩

end Go.Proofs.YtoalpdjpljapbaaGreatDoor
/- The reference of plan: a line, a label's text, a number. -/
namespace Go.Proofs.YtoalpdjpljapbaaGreatDoor
set_option linter.unusedVariables false
set_option linter.unusedSimpArgs false
set_option linter.unnecessarySimpa false
open Go.RowKit Go.Sort
set_option maxHeartbeats 4000000
set_option maxRecDepth 100000
set_option linter.unusedVariables false
theorem rtext_any (l : Int) (h : 0 ≤ l ∧ l < 256) (w : World) : Calls Tryz.prog 16 #[.int .i64 l] w fun e w' => e = .returned (.string (ba (lbT l))) ∧ Below w.heap.size w w' := by
  have HLB := Lib.hid (lbS_lbT h)
  clear h
  go_enter Tryz.func16, Tryz.ntmps16
  go_wp2_with (go_at_call 39; refine (LText_ref _ _).mono ?_; rintro e w1 ⟨rfl, hb1⟩; rw [HLB.out])
  go_ret
  exact ⟨rfl, hb1⟩
theorem rdig_any (n : Int) (h0 : 0 ≤ n) (h1 : n < 1000000000) (w : World) : Calls Tryz.prog 15 #[.int .i64 n] w fun e w' => e = .returned (.string (ba (dc n))) ∧ Below w.heap.size w w' := by
  have := digits_any n.toNat w (by omega)
  rw [show ((n.toNat : Nat) : Int) = n by omega] at this
  exact this
theorem join_snoc (c : UInt8) : ∀ (L : List (List UInt8)) (x : List UInt8), L ≠ [] → joinC c (L ++ [x]) = joinC c L ++ c :: x
  | [], x, h => absurd rfl h
  | [y], x, _ => by simp [joinC]
  | y :: z :: r, x, _ => by
    have := join_snoc c (z :: r) x (by simp)
    rw [List.cons_append, List.cons_append, joinC, ← List.cons_append, this, joinC]; simp
theorem joinC_len (c : UInt8) : ∀ (L : List (List UInt8)), (∀ x ∈ L, x.length ≤ 1000) → (joinC c L).length ≤ 1001 * L.length
  | [], _ => by simp [joinC]
  | [y], h => by have := h y (by simp); simp [joinC]; omega
  | y :: z :: r, h => by
    have h1 := h y (by simp)
    have := joinC_len c (z :: r) (fun x hx => h x (by simp [hx]))
    rw [joinC]
    simp only [List.length_append, List.length_cons] at this ⊢
    omega
theorem ba_app (a b : List UInt8) : ba a ++ ba b = ba (a ++ b) := by unfold ba; rw [ba_append]
theorem nl_ba (x : List UInt8) : ba x ++ (⟨#[10]⟩ : ByteArray) = ba (x ++ [10]) := by rw [show (⟨#[10]⟩ : ByteArray) = ba [10] from rfl, ba_app]
theorem ba_sp (x y : List UInt8) : ba x ++ (⟨#[32]⟩ : ByteArray) ++ ba y = ba (x ++ 32 :: y) := by rw [show (⟨#[32]⟩ : ByteArray) = ba [32] from rfl, ba_app, ba_app, List.append_assoc]; rfl
theorem rline_any (L : List (List UInt8)) (hne : L ≠ []) (hll : L.length ≤ 10) (hsm : ∀ x ∈ L, x.length ≤ 1000) (W : World) (g : Nat) (ho : ObjAt W g 9 (strC L)) :
    Calls Tryz.prog 14 #[.slice (some ⟨g, 0, none⟩) L.length L.length] W fun e w' => e = .returned (.string (ba (joinC 32 L ++ [10]))) ∧ W = w' := by
  have hpos : 0 < L.length := List.length_pos_iff.2 hne
  have HC : Hid (∀ k (hk : k < L.length), W.cell? ⟨g, k, none⟩ = some (.string (ba L[k]))) := fun k hk => ho.cell k _ (strC_get L k hk)
  have c0 : W.cell? ⟨g, 0, none⟩ = some (.string (ba L[0])) := HC.out 0 hpos
  obtain ⟨x0, hx0⟩ : ∃ x, x = L[0] := ⟨_, rfl⟩
  rw [← hx0] at c0
  have HX0 := Lib.hid hx0
  have HNL := fun x => Lib.hid (nl_ba x)
  have HJL : Hid (∀ k, k ≤ L.length → (joinC 32 (L.take k)).length ≤ 10010) := fun k hk => by
    have := joinC_len 32 (L.take k) (fun x hx => hsm x (List.mem_of_mem_take hx))
    rw [List.length_take] at this; omega
  have HSM := Lib.hid hsm
  have HJ1 : Hid (joinC 32 (L.take 1) = x0) := by
    rw [Hid, List.take_one, hx0]
    rw [show L.head? = some L[0] from by rw [List.head?_eq_getElem?, List.getElem?_eq_getElem hpos]]; rfl
  clear ho hsm hx0 hne
  go_enter Tryz.func14, Tryz.ntmps14
  go_upto_region 3 with fail
  clear c0
  go_loop [3, 4] (fun sv i => ∃ k : Nat, 1 ≤ k ∧ k ≤ L.length ∧ i = .int .i64 k ∧ sv = .string (ba (joinC 32 (L.take k)))) (fun _ i => L.length - (intOf i).toNat)
  case atStart => exact ⟨1, by omega, by omega, rfl, by rw [HJ1.out]⟩
  case round =>
    obtain ⟨k, hk1, hk, rfl, rfl⟩ := hrel
    have hs1 : (ba (joinC 32 (L.take k))).size ≤ 10010 := by rw [ba_size]; exact HJL.out k hk
    have hs2 : (ba (joinC 32 (L.take k)) ++ (⟨#[32]⟩ : ByteArray)).size ≤ 10011 := by rw [ByteArray.size_append]; show _ + 1 ≤ _; omega
    by_cases hlt : k < L.length
    · have ck := HC.out k hlt
      obtain ⟨x, hx⟩ : ∃ x, x = L[k] := ⟨_, rfl⟩
      rw [← hx] at ck
      have hsx : (ba x).size ≤ 1000 := by rw [ba_size, hx]; exact HSM.out _ (List.getElem_mem hlt)
      have HJ : Hid (ba (joinC 32 (L.take k)) ++ (⟨#[32]⟩ : ByteArray) ++ ba x = ba (joinC 32 (L.take (k + 1)))) := by
        rw [Hid, ba_sp, List.take_succ_eq_append_getElem hlt, join_snoc, ← hx]
        intro e
        have h0 : (L.take k).length = 0 := by rw [e]; rfl
        rw [List.length_take] at h0; omega
      have d1 : decide ((k : Int) < (L.length : Int)) = true := decide_eq_true (by omega)
      have d1' : decide (k < L.length) = true := decide_eq_true hlt
      have w1 : IntKind.i64.wrap ((k : Int) + 1) = (k : Int) + 1 := by rw [IntKind.wrap_i64]; omega
      clear hx
      go_wp2_with fail
      go_round
      case rel => exact ⟨k + 1, by omega, by omega, by go_num, by rw [HJ.out]⟩
      case measure => simp [intOf]; omega
    · obtain rfl : k = L.length := by omega
      rw [List.take_length] at hs1 hs2 ⊢
      have d1 : decide ((L.length : Int) < (L.length : Int)) = false := decide_eq_false (by omega)
      go_wp2_with fail
      go_ret
      exact ⟨by rw [← (HNL _).out]; rfl, rfl⟩
end Go.Proofs.YtoalpdjpljapbaaGreatDoor
/- The library's builder text at this seat: laid by the kit's tool (lay-shelf, lay-plain), cut to what the proofs use. -/
/- (no text: the library contracts lie in TxLib) -/
