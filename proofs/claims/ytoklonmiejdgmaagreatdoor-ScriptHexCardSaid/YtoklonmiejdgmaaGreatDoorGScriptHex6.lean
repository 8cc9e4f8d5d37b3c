/- Chapter 4: the gate, and Check. -/
import Derived.Test.YtoklonmiejdgmaaGreatDoorGScriptHex5
import Derived.WalkMore
import Derived.Laws.EntriesVeiled
import Derived.Test.YtoklonmiejdgmaaGreatDoorGScriptHex4
import Derived.Test.YtoklonmiejdgmaaGreatDoorGScriptHex1
import Derived.Lib.Walk
import Derived.Lib.ItoaMem
import Derived.Lib.ItoaLen
import Derived.Lib.OthersKept
import Derived.Lib.QuietBelow
import Derived.Test.YtoklonmiejdgmaaGreatDoorGScriptHex0
import Derived.Deep.RegionHeld3
import Derived.BigQuiet
namespace Go.Proofs.YtoklonmiejdgmaaGreatDoor
set_option linter.unusedVariables false
set_option linter.unusedSimpArgs false
set_option linter.unnecessarySimpa false
open Go.RowKit
set_option maxHeartbeats 2000000
set_option maxRecDepth 100000
set_option linter.unusedVariables false
variable {W W' w : World} {c : Cv} {b N : Nat} {s : Sl}
def gateB (c : Cv) : Bool := if c.gate = -1 then (c.quota != 0) else !(isG c c.gate) || (decide (c.quota < 0) || decide (64 < c.quota))
theorem gate_any (c : Cv) (w : World) (h : CfgOk w c) : Calls Tryz.prog 91 #[(.agg #[.int .i64 c.cats, .slice c.g.a c.g.l.length c.g.cap, .slice c.r.a c.r.l.length c.r.cap, .slice c.p.a c.p.l.length c.p.cap, .slice c.n.a c.n.l.length c.n.cap, .slice c.s.a c.s.l.length c.s.cap, .int .i64 c.gate, .int .i64 c.quota])] w fun e w' => e = .returned (.bool (gateB c)) ∧ Below w.heap.size w w' := by
  obtain ⟨x, hx⟩ : ∃ x, x = gateB c := ⟨_, rfl⟩
  rw [← hx]
  have HG : Hid (x = if c.gate = -1 then (c.quota != 0) else !(isG c c.gate) || (decide (c.quota < 0) || decide (64 < c.quota))) := hx
  clear hx
  by_cases h1 : c.gate = -1
  · have d1 : (c.gate == -1) = true := by simp [h1]
    have hx : x = (c.quota != 0) := by rw [HG.out, if_pos h1]
    subst hx
    clear h1 HG
    (have h0 := CX.new h; go_enter Tryz.func91, Tryz.ntmps91; go_upto_region 1 with fail; generalize w.alloc (.cells #[.int .i64 c.cats, .slice c.g.a c.g.l.length c.g.cap, .slice c.r.a c.r.l.length c.r.cap, .slice c.p.a c.p.l.length c.p.cap, .slice c.n.a c.n.l.length c.n.cap, .slice c.s.a c.s.l.length c.s.cap, .int .i64 c.gate, .int .i64 c.quota] 29) = W1 at h0 ⊢; generalize w.heap.size = b0 at h0 ⊢; have H0 := Lib.hid h0; clear h0 h)
    (have q0 := H0.out.ob.cell 0 _ rfl; have q1 := H0.out.ob.cell 1 _ rfl; have q2 := H0.out.ob.cell 2 _ rfl; have q3 := H0.out.ob.cell 3 _ rfl; have q4 := H0.out.ob.cell 4 _ rfl; have q5 := H0.out.ob.cell 5 _ rfl; have q6 := H0.out.ob.cell 6 _ rfl; have q7 := H0.out.ob.cell 7 _ rfl)
    go_wp2_with fail
    go_ret
    exact ⟨rfl, H0.out.bel⟩
  · have d1 : (c.gate == -1) = false := by simp [h1]
    have hx : x = (!(isG c c.gate) || (decide (c.quota < 0) || decide (64 < c.quota))) := by rw [HG.out, if_neg h1]
    obtain ⟨vg, hvg⟩ : ∃ v, v = isG c c.gate := ⟨_, rfl⟩
    have GUE : Hid (∀ W, CfgOk W c → Calls Tryz.prog 133 #[(.agg #[.int .i64 c.cats, .slice c.g.a c.g.l.length c.g.cap, .slice c.r.a c.r.l.length c.r.cap, .slice c.p.a c.p.l.length c.p.cap, .slice c.n.a c.n.l.length c.n.cap, .slice c.s.a c.s.l.length c.s.cap, .int .i64 c.gate, .int .i64 c.quota]), .int .i64 c.gate] W fun e w' => e = .returned (.bool vg) ∧ Below W.heap.size W w') := fun W h => by rw [hvg]; exact guest_any _ _ _ h
    rw [← hvg] at hx
    clear h1 HG hvg
    cases vg with
    | false =>
      obtain rfl : x = true := by rw [hx]; rfl
      clear hx
      (have h0 := CX.new h; go_enter Tryz.func91, Tryz.ntmps91; go_upto_region 1 with fail; generalize w.alloc (.cells #[.int .i64 c.cats, .slice c.g.a c.g.l.length c.g.cap, .slice c.r.a c.r.l.length c.r.cap, .slice c.p.a c.p.l.length c.p.cap, .slice c.n.a c.n.l.length c.n.cap, .slice c.s.a c.s.l.length c.s.cap, .int .i64 c.gate, .int .i64 c.quota] 29) = W1 at h0 ⊢; generalize w.heap.size = b0 at h0 ⊢; have H0 := Lib.hid h0; clear h0 h)
      (have q0 := H0.out.ob.cell 0 _ rfl; have q1 := H0.out.ob.cell 1 _ rfl; have q2 := H0.out.ob.cell 2 _ rfl; have q3 := H0.out.ob.cell 3 _ rfl; have q4 := H0.out.ob.cell 4 _ rfl; have q5 := H0.out.ob.cell 5 _ rfl; have q6 := H0.out.ob.cell 6 _ rfl; have q7 := H0.out.ob.cell 7 _ rfl)
      (go_wp2_with (go_at_call 133; refine (GUE.out _ H0.out.ok).mono ?_; rintro e Wg ⟨rfl, hb⟩; have H1 := Lib.hid (H0.out.below hb); clear hb; replace q6 := H1.out.ob.cell 6 _ rfl; replace q7 := H1.out.ob.cell 7 _ rfl); go_ret; exact ⟨rfl, H1.out.bel⟩)
    | true =>
      by_cases h2 : c.quota < 0
      · have d2 : decide (c.quota < 0) = true := by simp [h2]
        obtain rfl : x = true := by rw [hx]; simp [h2]
        clear hx h2
        (have h0 := CX.new h; go_enter Tryz.func91, Tryz.ntmps91; go_upto_region 1 with fail; generalize w.alloc (.cells #[.int .i64 c.cats, .slice c.g.a c.g.l.length c.g.cap, .slice c.r.a c.r.l.length c.r.cap, .slice c.p.a c.p.l.length c.p.cap, .slice c.n.a c.n.l.length c.n.cap, .slice c.s.a c.s.l.length c.s.cap, .int .i64 c.gate, .int .i64 c.quota] 29) = W1 at h0 ⊢; generalize w.heap.size = b0 at h0 ⊢; have H0 := Lib.hid h0; clear h0 h)
        (have q0 := H0.out.ob.cell 0 _ rfl; have q1 := H0.out.ob.cell 1 _ rfl; have q2 := H0.out.ob.cell 2 _ rfl; have q3 := H0.out.ob.cell 3 _ rfl; have q4 := H0.out.ob.cell 4 _ rfl; have q5 := H0.out.ob.cell 5 _ rfl; have q6 := H0.out.ob.cell 6 _ rfl; have q7 := H0.out.ob.cell 7 _ rfl)
        (go_wp2_with (go_at_call 133; refine (GUE.out _ H0.out.ok).mono ?_; rintro e Wg ⟨rfl, hb⟩; have H1 := Lib.hid (H0.out.below hb); clear hb; replace q6 := H1.out.ob.cell 6 _ rfl; replace q7 := H1.out.ob.cell 7 _ rfl); go_ret; exact ⟨rfl, H1.out.bel⟩)
      · have d2 : decide (c.quota < 0) = false := by simpa using h2
        by_cases h3 : 64 < c.quota
        · have d3 : decide (c.quota > 64) = true := by simp [h3]
          obtain rfl : x = true := by rw [hx]; simp [h3]
          clear hx h2 h3
          (have h0 := CX.new h; go_enter Tryz.func91, Tryz.ntmps91; go_upto_region 1 with fail; generalize w.alloc (.cells #[.int .i64 c.cats, .slice c.g.a c.g.l.length c.g.cap, .slice c.r.a c.r.l.length c.r.cap, .slice c.p.a c.p.l.length c.p.cap, .slice c.n.a c.n.l.length c.n.cap, .slice c.s.a c.s.l.length c.s.cap, .int .i64 c.gate, .int .i64 c.quota] 29) = W1 at h0 ⊢; generalize w.heap.size = b0 at h0 ⊢; have H0 := Lib.hid h0; clear h0 h)
          (have q0 := H0.out.ob.cell 0 _ rfl; have q1 := H0.out.ob.cell 1 _ rfl; have q2 := H0.out.ob.cell 2 _ rfl; have q3 := H0.out.ob.cell 3 _ rfl; have q4 := H0.out.ob.cell 4 _ rfl; have q5 := H0.out.ob.cell 5 _ rfl; have q6 := H0.out.ob.cell 6 _ rfl; have q7 := H0.out.ob.cell 7 _ rfl)
          (go_wp2_with (go_at_call 133; refine (GUE.out _ H0.out.ok).mono ?_; rintro e Wg ⟨rfl, hb⟩; have H1 := Lib.hid (H0.out.below hb); clear hb; replace q6 := H1.out.ob.cell 6 _ rfl; replace q7 := H1.out.ob.cell 7 _ rfl); go_ret; exact ⟨rfl, H1.out.bel⟩)
        · have d3 : decide (c.quota > 64) = false := by simpa using h3
          obtain rfl : x = false := by rw [hx]; simp [h2, h3]
          clear hx h2 h3
          (have h0 := CX.new h; go_enter Tryz.func91, Tryz.ntmps91; go_upto_region 1 with fail; generalize w.alloc (.cells #[.int .i64 c.cats, .slice c.g.a c.g.l.length c.g.cap, .slice c.r.a c.r.l.length c.r.cap, .slice c.p.a c.p.l.length c.p.cap, .slice c.n.a c.n.l.length c.n.cap, .slice c.s.a c.s.l.length c.s.cap, .int .i64 c.gate, .int .i64 c.quota] 29) = W1 at h0 ⊢; generalize w.heap.size = b0 at h0 ⊢; have H0 := Lib.hid h0; clear h0 h)
          (have q0 := H0.out.ob.cell 0 _ rfl; have q1 := H0.out.ob.cell 1 _ rfl; have q2 := H0.out.ob.cell 2 _ rfl; have q3 := H0.out.ob.cell 3 _ rfl; have q4 := H0.out.ob.cell 4 _ rfl; have q5 := H0.out.ob.cell 5 _ rfl; have q6 := H0.out.ob.cell 6 _ rfl; have q7 := H0.out.ob.cell 7 _ rfl)
          (go_wp2_with (go_at_call 133; refine (GUE.out _ H0.out.ok).mono ?_; rintro e Wg ⟨rfl, hb⟩; have H1 := Lib.hid (H0.out.below hb); clear hb; replace q6 := H1.out.ob.cell 6 _ rfl; replace q7 := H1.out.ob.cell 7 _ rfl); go_ret; exact ⟨rfl, H1.out.bel⟩)
theorem one1_any (c : Cv) (bad : Bool) (b : Nat) (w : World) (h : CfgOk w c) (hb : ObjAt w b 4 [.bool bad]) : Calls Tryz.prog 85 #[(.agg #[.int .i64 c.cats, .slice c.g.a c.g.l.length c.g.cap, .slice c.r.a c.r.l.length c.r.cap, .slice c.p.a c.p.l.length c.p.cap, .slice c.n.a c.n.l.length c.n.cap, .slice c.s.a c.s.l.length c.s.cap, .int .i64 c.gate, .int .i64 c.quota]), .pointer (some ⟨b, 0, none⟩)] w fun e w' => e = .returned (.tuple #[.int .i64 0, .bool bad]) ∧ Below w.heap.size w w' := by
  have hb1 := hb.below ((Below.refl w.heap.size w).alloc (Nat.le_refl _) (.cells #[.int .i64 c.cats, .slice c.g.a c.g.l.length c.g.cap, .slice c.r.a c.r.l.length c.r.cap, .slice c.p.a c.p.l.length c.p.cap, .slice c.n.a c.n.l.length c.n.cap, .slice c.s.a c.s.l.length c.s.cap, .int .i64 c.gate, .int .i64 c.quota] 29))
  have HB := Lib.hid hb1
  clear hb hb1
  have h0 := CX.new h
  go_enter Tryz.func85, Tryz.ntmps85
  go_upto_region 1 with fail
  generalize w.alloc (.cells #[.int .i64 c.cats, .slice c.g.a c.g.l.length c.g.cap, .slice c.r.a c.r.l.length c.r.cap, .slice c.p.a c.p.l.length c.p.cap, .slice c.n.a c.n.l.length c.n.cap, .slice c.s.a c.s.l.length c.s.cap, .int .i64 c.gate, .int .i64 c.quota] 29) = W1 at h0 HB ⊢
  have H0 := Lib.hid h0; clear h0 h
  have k0 := HB.out.cell 0 _ rfl
  go_quiet (fail)
  go_wp2_with fail
  go_ret2
  exact ⟨rfl, below_drewN H0.out.bel _⟩
theorem one_any (bad : Bool) (w : World) : Calls Tryz.prog 84 #[.bool bad] w fun e w' => e = .returned (.func (.func 85) #[] #[.pointer (some ⟨w.heap.size, 0, none⟩)]) ∧ ObjAt w' w.heap.size 4 [.bool bad] ∧ Below w.heap.size w w' := by
  have N1 : Hid (ObjAt (w.alloc (.cells #[.bool bad] 4)) w.heap.size 4 [.bool bad]) := ObjAt.new w _ _
  have B1 : Hid (Below w.heap.size w (w.alloc (.cells #[.bool bad] 4))) := (Below.refl _ _).alloc (Nat.le_refl _) _
  go_enter Tryz.func84, Tryz.ntmps84
  go_wp2_with fail
  go_ret
  exact ⟨rfl, N1.out, B1.out⟩
/-- The six rules. -/
def ruleV (c : Cv) : Nat → Int × Bool
  | 0 => gFst c
  | 1 => rFst c
  | 2 => pFst c
  | 3 => nFst c
  | 4 => sFst c
  | _ => (0, gateB c)
def chkV (c : Cv) : Int × Int :=
  if c.cats < 0 ∨ 8 < c.cats then (12, 0) else
  match (List.range 6).find? fun k => (ruleV c k).2 with
  | some k => (13 + k, (ruleV c k).1)
  | none => if 32 < needV c then (19, 0) else (0, 0)
theorem rule_hit {c : Cv} {k : Nat} (hk : k < 6) (h : ∀ j, j < k → (ruleV c j).2 = false) (hp : (ruleV c k).2 = true) : (List.range 6).find? (fun k => (ruleV c k).2) = some k := by
  rw [List.find?_range_eq_some]
  exact ⟨hp, List.mem_range.2 hk, fun j hj => by simp [h j hj]⟩
theorem rule_none {c : Cv} (h : ∀ j, j < 6 → (ruleV c j).2 = false) : (List.range 6).find? (fun k => (ruleV c k).2) = none := by
  rw [List.find?_eq_none]; intro x hx; simp [h x (List.mem_range.1 hx)]
theorem fstV_false {P : Nat → Bool} {n : Nat} (h : (fstV P n).2 = false) : ∀ j, j < n → P j = false := by
  intro j hj
  unfold fstV at h
  cases hf : (List.range n).find? P with
  | some i => rw [hf] at h; cases h
  | none => rw [List.find?_eq_none] at hf; simpa using hf j (List.mem_range.2 hj)
theorem gok_of {c : Cv} (h0 : (gFst c).2 = false) (h3 : (nFst c).2 = false) : GOk c := by
  unfold gFst at h0
  unfold nFst at h3
  split at h0
  · cases h0
  · split at h3
    · cases h3
    · refine ⟨by omega, by omega, fun r hr => ?_⟩
      obtain ⟨i, hi, rfl⟩ := List.mem_iff_getElem.1 hr
      have := fstV_false h0 i hi
      simp only [gBad, at_eq hi, Bool.or_eq_false_iff, decide_eq_false_iff_not] at this
      unfold GRow
      omega
set_option maxHeartbeats 8000000 in
theorem check_any (c : Cv) (w : World) (h : CfgOk w c) : Calls Tryz.prog 54 #[(.agg #[.int .i64 c.cats, .slice c.g.a c.g.l.length c.g.cap, .slice c.r.a c.r.l.length c.r.cap, .slice c.p.a c.p.l.length c.p.cap, .slice c.n.a c.n.l.length c.n.cap, .slice c.s.a c.s.l.length c.s.cap, .int .i64 c.gate, .int .i64 c.quota])] w fun e w' => e = .returned (.tuple #[.int .i64 (chkV c).1, .int .i64 (chkV c).2]) ∧ Below w.heap.size w w' := by
  obtain ⟨x, hx⟩ : ∃ x, x = chkV c := ⟨_, rfl⟩
  rw [← hx]
  have HG : Hid (x = chkV c) := hx
  clear hx
  by_cases h1 : c.cats < 0
  · have d1 : decide (c.cats < 0) = true := by simp [h1]
    obtain rfl : x = (12, 0) := by rw [HG.out, chkV, if_pos (Or.inl h1)]
    clear h1 HG
    (have h0 := CX.new h; go_enter Tryz.func54, Tryz.ntmps54; go_upto_region 1 with fail; generalize w.alloc (.cells #[.int .i64 c.cats, .slice c.g.a c.g.l.length c.g.cap, .slice c.r.a c.r.l.length c.r.cap, .slice c.p.a c.p.l.length c.p.cap, .slice c.n.a c.n.l.length c.n.cap, .slice c.s.a c.s.l.length c.s.cap, .int .i64 c.gate, .int .i64 c.quota] 29) = W1 at h0 ⊢; generalize w.heap.size = b0 at h0 ⊢; have H0 := Lib.hid h0; clear h0 h); go_step3
    (have q0 := H0.out.ob.cell 0 _ rfl; have q1 := H0.out.ob.cell 1 _ rfl; have q2 := H0.out.ob.cell 2 _ rfl; have q3 := H0.out.ob.cell 3 _ rfl; have q4 := H0.out.ob.cell 4 _ rfl; have q5 := H0.out.ob.cell 5 _ rfl; have q6 := H0.out.ob.cell 6 _ rfl; have q7 := H0.out.ob.cell 7 _ rfl)
    go_wp2_with fail
    rw [Exit.noGoto_ret]; go_ret2
    exact ⟨rfl, H0.out.bel⟩
  · have d1 : decide (c.cats < 0) = false := by simp [h1]
    by_cases h2 : 8 < c.cats
    · have d2 : decide (c.cats > 8) = true := by simp [h2]
      obtain rfl : x = (12, 0) := by rw [HG.out, chkV, if_pos (Or.inr h2)]
      clear h1 h2 HG
      (have h0 := CX.new h; go_enter Tryz.func54, Tryz.ntmps54; go_upto_region 1 with fail; generalize w.alloc (.cells #[.int .i64 c.cats, .slice c.g.a c.g.l.length c.g.cap, .slice c.r.a c.r.l.length c.r.cap, .slice c.p.a c.p.l.length c.p.cap, .slice c.n.a c.n.l.length c.n.cap, .slice c.s.a c.s.l.length c.s.cap, .int .i64 c.gate, .int .i64 c.quota] 29) = W1 at h0 ⊢; generalize w.heap.size = b0 at h0 ⊢; have H0 := Lib.hid h0; clear h0 h); go_step3
      (have q0 := H0.out.ob.cell 0 _ rfl; have q1 := H0.out.ob.cell 1 _ rfl; have q2 := H0.out.ob.cell 2 _ rfl; have q3 := H0.out.ob.cell 3 _ rfl; have q4 := H0.out.ob.cell 4 _ rfl; have q5 := H0.out.ob.cell 5 _ rfl; have q6 := H0.out.ob.cell 6 _ rfl; have q7 := H0.out.ob.cell 7 _ rfl)
      go_wp2_with fail
      rw [Exit.noGoto_ret]; go_ret2
      exact ⟨rfl, H0.out.bel⟩
    · have d2 : decide (c.cats > 8) = false := by simpa using h2
      have hx : x = match (List.range 6).find? fun k => (ruleV c k).2 with
        | some k => ((13 + k : Int), (ruleV c k).1)
        | none => if 32 < needV c then (19, 0) else (0, 0) := by rw [HG.out, chkV, if_neg (by omega)]
      replace HG := Lib.hid hx
      clear h1 h2 hx
      (have h0 := CX.new h; go_enter Tryz.func54, Tryz.ntmps54; go_upto_region 1 with fail; generalize w.alloc (.cells #[.int .i64 c.cats, .slice c.g.a c.g.l.length c.g.cap, .slice c.r.a c.r.l.length c.r.cap, .slice c.p.a c.p.l.length c.p.cap, .slice c.n.a c.n.l.length c.n.cap, .slice c.s.a c.s.l.length c.s.cap, .int .i64 c.gate, .int .i64 c.quota] 29) = W1 at h0 ⊢; generalize w.heap.size = b0 at h0 ⊢; have H0 := Lib.hid h0; clear h0 h); go_step3
      (have q0 := H0.out.ob.cell 0 _ rfl; have q1 := H0.out.ob.cell 1 _ rfl; have q2 := H0.out.ob.cell 2 _ rfl; have q3 := H0.out.ob.cell 3 _ rfl; have q4 := H0.out.ob.cell 4 _ rfl; have q5 := H0.out.ob.cell 5 _ rfl; have q6 := H0.out.ob.cell 6 _ rfl; have q7 := H0.out.ob.cell 7 _ rfl)
      go_upto_region 5 with fail
      go_step3
      go_upto_region 6 with (first | (go_at_call 91; refine (gate_any c _ H0.out.ok).mono ?_; rintro e Wg ⟨rfl, hb⟩; have H1 := Lib.hid (H0.out.below hb); clear hb; clear q0 q1 q2 q3 q4 q5 q6 q7) | (go_at_call 84; refine (one_any _ _).mono ?_; rintro e W2 ⟨rfl, ho, hb⟩; have O2 := Lib.hid ho; have H2 := Lib.hid (H1.out.below hb); clear ho hb))
      have NB : Hid (ObjAt (W2.alloc (.cells #[.func (Fn.func 86) #[] #[], .int .i64 13, .func (Fn.func 87) #[] #[], .int .i64 14, .func (Fn.func 88) #[] #[], .int .i64 15, .func (Fn.func 89) #[] #[], .int .i64 16, .func (Fn.func 90) #[] #[], .int .i64 17, .func (Fn.func 85) #[] #[.pointer (some ⟨Wg.heap.size, 0, none⟩)], .int .i64 18] 157)) W2.heap.size 157 [.func (Fn.func 86) #[] #[], .int .i64 13, .func (Fn.func 87) #[] #[], .int .i64 14, .func (Fn.func 88) #[] #[], .int .i64 15, .func (Fn.func 89) #[] #[], .int .i64 16, .func (Fn.func 90) #[] #[], .int .i64 17, .func (Fn.func 85) #[] #[.pointer (some ⟨Wg.heap.size, 0, none⟩)], .int .i64 18]) := ObjAt.new W2 _ _
      have B3 : Hid (Below W2.heap.size W2 (W2.alloc (.cells #[.func (Fn.func 86) #[] #[], .int .i64 13, .func (Fn.func 87) #[] #[], .int .i64 14, .func (Fn.func 88) #[] #[], .int .i64 15, .func (Fn.func 89) #[] #[], .int .i64 16, .func (Fn.func 90) #[] #[], .int .i64 17, .func (Fn.func 85) #[] #[.pointer (some ⟨Wg.heap.size, 0, none⟩)], .int .i64 18] 157))) := (Below.refl _ _).alloc (Nat.le_refl _) _
      have O3 : Hid (ObjAt (W2.alloc (.cells #[.func (Fn.func 86) #[] #[], .int .i64 13, .func (Fn.func 87) #[] #[], .int .i64 14, .func (Fn.func 88) #[] #[], .int .i64 15, .func (Fn.func 89) #[] #[], .int .i64 16, .func (Fn.func 90) #[] #[], .int .i64 17, .func (Fn.func 85) #[] #[.pointer (some ⟨Wg.heap.size, 0, none⟩)], .int .i64 18] 157)) Wg.heap.size 4 [.bool (gateB c)]) := O2.out.below B3.out
      have H3 : Hid (CX w (W2.alloc (.cells #[.func (Fn.func 86) #[] #[], .int .i64 13, .func (Fn.func 87) #[] #[], .int .i64 14, .func (Fn.func 88) #[] #[], .int .i64 15, .func (Fn.func 89) #[] #[], .int .i64 16, .func (Fn.func 90) #[] #[], .int .i64 17, .func (Fn.func 85) #[] #[.pointer (some ⟨Wg.heap.size, 0, none⟩)], .int .i64 18] 157)) b0 c) := H2.out.below B3.out
      generalize W2.alloc (.cells #[.func (Fn.func 86) #[] #[], .int .i64 13, .func (Fn.func 87) #[] #[], .int .i64 14, .func (Fn.func 88) #[] #[], .int .i64 15, .func (Fn.func 89) #[] #[], .int .i64 16, .func (Fn.func 90) #[] #[], .int .i64 17, .func (Fn.func 85) #[] #[.pointer (some ⟨Wg.heap.size, 0, none⟩)], .int .i64 18] 157) = W3 at NB O3 H3 ⊢
      generalize W2.heap.size = rb at NB ⊢
      generalize Wg.heap.size = gb at NB O3 ⊢
      clear B3 O2 H2 H1
      go_loopw [5, 6, 31] (fun g5 g6 g31 wr => ∃ k : Nat, k ≤ 6 ∧ g31 = .int .i64 k ∧ g5 = .int .i64 0 ∧ g6 = .int .i64 0 ∧ Below W3.heap.size W3 wr ∧ ∀ j, j < k → (ruleV c j).2 = false) (fun _ _ g31 _ => 6 - (intOf g31).toNat)
      case atStart => exact ⟨0, by omega, rfl, rfl, rfl, Below.refl _ _, fun j hj => by omega⟩
      case round =>
        obtain ⟨k, hk, rfl, rfl, rfl, hb, hj⟩ := hrel
        have HB := Lib.hid hb
        have HJ := Lib.hid hj
        clear hb hj
        have X1 := Lib.hid (H3.out.below HB.out)
        have N1 := Lib.hid (NB.out.below HB.out)
        have O1 := Lib.hid (O3.out.below HB.out)
        match k, hk with
        | 0, _ => (
          have r0 := N1.out.cell (2 * 0) _ rfl
          have r1 := N1.out.cell (2 * 0 + 1) _ rfl
          (have q0 := X1.out.ob.cell 0 _ rfl; have q1 := X1.out.ob.cell 1 _ rfl; have q2 := X1.out.ob.cell 2 _ rfl; have q3 := X1.out.ob.cell 3 _ rfl; have q4 := X1.out.ob.cell 4 _ rfl; have q5 := X1.out.ob.cell 5 _ rfl; have q6 := X1.out.ob.cell 6 _ rfl; have q7 := X1.out.ob.cell 7 _ rfl)
          obtain ⟨v, hv⟩ : ∃ v, v = ruleV c 0 := ⟨_, rfl⟩
          have CON : Hid (∀ W, CfgOk W c → ObjAt W gb 4 [.bool (gateB c)] → Calls Tryz.prog 86 #[(.agg #[.int .i64 c.cats, .slice c.g.a c.g.l.length c.g.cap, .slice c.r.a c.r.l.length c.r.cap, .slice c.p.a c.p.l.length c.p.cap, .slice c.n.a c.n.l.length c.n.cap, .slice c.s.a c.s.l.length c.s.cap, .int .i64 c.gate, .int .i64 c.quota])] W fun e w' => e = .returned (.tuple #[.int .i64 v.1, .bool v.2]) ∧ Below W.heap.size W w') := fun W hc ho => by rw [hv]; exact (guests_any c _ hc)
          go_upto_region 8 with fail
          have R4 : Hid (ObjAt (wr.alloc (.cells #[.func (Fn.func 86) #[] #[], .int .i64 13] 157)) wr.heap.size 157 [.func (Fn.func 86) #[] #[], .int .i64 13]) := ObjAt.new wr _ _
          have B4 : Hid (Below wr.heap.size wr (wr.alloc (.cells #[.func (Fn.func 86) #[] #[], .int .i64 13] 157))) := (Below.refl _ _).alloc (Nat.le_refl _) _
          generalize wr.alloc (.cells #[.func (Fn.func 86) #[] #[], .int .i64 13] 157) = W4 at R4 B4 ⊢
          generalize wr.heap.size = rr at R4 ⊢
          have X4 := Lib.hid (X1.out.below B4.out)
          have O4 := Lib.hid (O1.out.below B4.out)
          clear r0 r1
          (replace q0 := X4.out.ob.cell 0 _ rfl; replace q1 := X4.out.ob.cell 1 _ rfl; replace q2 := X4.out.ob.cell 2 _ rfl; replace q3 := X4.out.ob.cell 3 _ rfl; replace q4 := X4.out.ob.cell 4 _ rfl; replace q5 := X4.out.ob.cell 5 _ rfl; replace q6 := X4.out.ob.cell 6 _ rfl; replace q7 := X4.out.ob.cell 7 _ rfl)
          have r0 := R4.out.cell 0 _ rfl
          obtain ⟨vi, vb⟩ := v
          have HV := Lib.hid hv
          clear hv
          dsimp only at CON
          cases vb with
          | false =>
            have HJ2 : Hid (∀ j, j < 0 + 1 → (ruleV c j).2 = false) := fun j hj => by
              rcases Nat.lt_or_ge j 0 with h | h
              · exact HJ.out j h
              · rw [show j = 0 by omega, ← HV.out]
            go_wp2_with (go_at_call 86; refine (CON.out _ X4.out.ok O4.out).mono ?_; rintro e W5 ⟨rfl, hb⟩; have HB5 := Lib.hid (HB.out.trans ((B4.out.trans (hb.mono B4.out.size)).mono HB.out.size)); clear hb)
            go_roundw
            case rel => exact ⟨0 + 1, by omega, by go_num, rfl, rfl, HB5.out, HJ2.out⟩
            case measure => simp [intOf]
          | true =>
            have hx : x = (13 + 0, vi) := by rw [HG.out, rule_hit (k := 0) (by omega) HJ.out (by rw [← HV.out])]; dsimp only; rw [← HV.out]; rfl
            subst hx
            go_wp2_with (go_at_call 86; refine (CON.out _ X4.out.ok O4.out).mono ?_; rintro e W5 ⟨rfl, hb⟩; have X5 := Lib.hid (X4.out.below hb); have R5 := Lib.hid (R4.out.below hb); clear hb)
            have t1 := R5.out.cell 1 _ rfl
            go_quiet (fail)
            go_wp2_with fail
            rw [Exit.noGoto_ret]; go_ret2
            exact ⟨rfl, below_drewN X5.out.bel _⟩
)
        | 1, _ => (
          have r0 := N1.out.cell (2 * 1) _ rfl
          have r1 := N1.out.cell (2 * 1 + 1) _ rfl
          (have q0 := X1.out.ob.cell 0 _ rfl; have q1 := X1.out.ob.cell 1 _ rfl; have q2 := X1.out.ob.cell 2 _ rfl; have q3 := X1.out.ob.cell 3 _ rfl; have q4 := X1.out.ob.cell 4 _ rfl; have q5 := X1.out.ob.cell 5 _ rfl; have q6 := X1.out.ob.cell 6 _ rfl; have q7 := X1.out.ob.cell 7 _ rfl)
          obtain ⟨v, hv⟩ : ∃ v, v = ruleV c 1 := ⟨_, rfl⟩
          have CON : Hid (∀ W, CfgOk W c → ObjAt W gb 4 [.bool (gateB c)] → Calls Tryz.prog 87 #[(.agg #[.int .i64 c.cats, .slice c.g.a c.g.l.length c.g.cap, .slice c.r.a c.r.l.length c.r.cap, .slice c.p.a c.p.l.length c.p.cap, .slice c.n.a c.n.l.length c.n.cap, .slice c.s.a c.s.l.length c.s.cap, .int .i64 c.gate, .int .i64 c.quota])] W fun e w' => e = .returned (.tuple #[.int .i64 v.1, .bool v.2]) ∧ Below W.heap.size W w') := fun W hc ho => by rw [hv]; exact (ranges_any c _ hc)
          go_upto_region 8 with fail
          have R4 : Hid (ObjAt (wr.alloc (.cells #[.func (Fn.func 87) #[] #[], .int .i64 14] 157)) wr.heap.size 157 [.func (Fn.func 87) #[] #[], .int .i64 14]) := ObjAt.new wr _ _
          have B4 : Hid (Below wr.heap.size wr (wr.alloc (.cells #[.func (Fn.func 87) #[] #[], .int .i64 14] 157))) := (Below.refl _ _).alloc (Nat.le_refl _) _
          generalize wr.alloc (.cells #[.func (Fn.func 87) #[] #[], .int .i64 14] 157) = W4 at R4 B4 ⊢
          generalize wr.heap.size = rr at R4 ⊢
          have X4 := Lib.hid (X1.out.below B4.out)
          have O4 := Lib.hid (O1.out.below B4.out)
          clear r0 r1
          (replace q0 := X4.out.ob.cell 0 _ rfl; replace q1 := X4.out.ob.cell 1 _ rfl; replace q2 := X4.out.ob.cell 2 _ rfl; replace q3 := X4.out.ob.cell 3 _ rfl; replace q4 := X4.out.ob.cell 4 _ rfl; replace q5 := X4.out.ob.cell 5 _ rfl; replace q6 := X4.out.ob.cell 6 _ rfl; replace q7 := X4.out.ob.cell 7 _ rfl)
          have r0 := R4.out.cell 0 _ rfl
          obtain ⟨vi, vb⟩ := v
          have HV := Lib.hid hv
          clear hv
          dsimp only at CON
          cases vb with
          | false =>
            have HJ2 : Hid (∀ j, j < 1 + 1 → (ruleV c j).2 = false) := fun j hj => by
              rcases Nat.lt_or_ge j 1 with h | h
              · exact HJ.out j h
              · rw [show j = 1 by omega, ← HV.out]
            go_wp2_with (go_at_call 87; refine (CON.out _ X4.out.ok O4.out).mono ?_; rintro e W5 ⟨rfl, hb⟩; have HB5 := Lib.hid (HB.out.trans ((B4.out.trans (hb.mono B4.out.size)).mono HB.out.size)); clear hb)
            go_roundw
            case rel => exact ⟨1 + 1, by omega, by go_num, rfl, rfl, HB5.out, HJ2.out⟩
            case measure => simp [intOf]
          | true =>
            have hx : x = (13 + 1, vi) := by rw [HG.out, rule_hit (k := 1) (by omega) HJ.out (by rw [← HV.out])]; dsimp only; rw [← HV.out]; rfl
            subst hx
            go_wp2_with (go_at_call 87; refine (CON.out _ X4.out.ok O4.out).mono ?_; rintro e W5 ⟨rfl, hb⟩; have X5 := Lib.hid (X4.out.below hb); have R5 := Lib.hid (R4.out.below hb); clear hb)
            have t1 := R5.out.cell 1 _ rfl
            go_quiet (fail)
            go_wp2_with fail
            rw [Exit.noGoto_ret]; go_ret2
            exact ⟨rfl, below_drewN X5.out.bel _⟩
)
        | 2, _ => (
          have r0 := N1.out.cell (2 * 2) _ rfl
          have r1 := N1.out.cell (2 * 2 + 1) _ rfl
          (have q0 := X1.out.ob.cell 0 _ rfl; have q1 := X1.out.ob.cell 1 _ rfl; have q2 := X1.out.ob.cell 2 _ rfl; have q3 := X1.out.ob.cell 3 _ rfl; have q4 := X1.out.ob.cell 4 _ rfl; have q5 := X1.out.ob.cell 5 _ rfl; have q6 := X1.out.ob.cell 6 _ rfl; have q7 := X1.out.ob.cell 7 _ rfl)
          obtain ⟨v, hv⟩ : ∃ v, v = ruleV c 2 := ⟨_, rfl⟩
          have CON : Hid (∀ W, CfgOk W c → ObjAt W gb 4 [.bool (gateB c)] → Calls Tryz.prog 88 #[(.agg #[.int .i64 c.cats, .slice c.g.a c.g.l.length c.g.cap, .slice c.r.a c.r.l.length c.r.cap, .slice c.p.a c.p.l.length c.p.cap, .slice c.n.a c.n.l.length c.n.cap, .slice c.s.a c.s.l.length c.s.cap, .int .i64 c.gate, .int .i64 c.quota])] W fun e w' => e = .returned (.tuple #[.int .i64 v.1, .bool v.2]) ∧ Below W.heap.size W w') := fun W hc ho => by rw [hv]; exact (ports_any c _ hc)
          go_upto_region 8 with fail
          have R4 : Hid (ObjAt (wr.alloc (.cells #[.func (Fn.func 88) #[] #[], .int .i64 15] 157)) wr.heap.size 157 [.func (Fn.func 88) #[] #[], .int .i64 15]) := ObjAt.new wr _ _
          have B4 : Hid (Below wr.heap.size wr (wr.alloc (.cells #[.func (Fn.func 88) #[] #[], .int .i64 15] 157))) := (Below.refl _ _).alloc (Nat.le_refl _) _
          generalize wr.alloc (.cells #[.func (Fn.func 88) #[] #[], .int .i64 15] 157) = W4 at R4 B4 ⊢
          generalize wr.heap.size = rr at R4 ⊢
          have X4 := Lib.hid (X1.out.below B4.out)
          have O4 := Lib.hid (O1.out.below B4.out)
          clear r0 r1
          (replace q0 := X4.out.ob.cell 0 _ rfl; replace q1 := X4.out.ob.cell 1 _ rfl; replace q2 := X4.out.ob.cell 2 _ rfl; replace q3 := X4.out.ob.cell 3 _ rfl; replace q4 := X4.out.ob.cell 4 _ rfl; replace q5 := X4.out.ob.cell 5 _ rfl; replace q6 := X4.out.ob.cell 6 _ rfl; replace q7 := X4.out.ob.cell 7 _ rfl)
          have r0 := R4.out.cell 0 _ rfl
          obtain ⟨vi, vb⟩ := v
          have HV := Lib.hid hv
          clear hv
          dsimp only at CON
          cases vb with
          | false =>
            have HJ2 : Hid (∀ j, j < 2 + 1 → (ruleV c j).2 = false) := fun j hj => by
              rcases Nat.lt_or_ge j 2 with h | h
              · exact HJ.out j h
              · rw [show j = 2 by omega, ← HV.out]
            go_wp2_with (go_at_call 88; refine (CON.out _ X4.out.ok O4.out).mono ?_; rintro e W5 ⟨rfl, hb⟩; have HB5 := Lib.hid (HB.out.trans ((B4.out.trans (hb.mono B4.out.size)).mono HB.out.size)); clear hb)
            go_roundw
            case rel => exact ⟨2 + 1, by omega, by go_num, rfl, rfl, HB5.out, HJ2.out⟩
            case measure => simp [intOf]
          | true =>
            have hx : x = (13 + 2, vi) := by rw [HG.out, rule_hit (k := 2) (by omega) HJ.out (by rw [← HV.out])]; dsimp only; rw [← HV.out]; rfl
            subst hx
            go_wp2_with (go_at_call 88; refine (CON.out _ X4.out.ok O4.out).mono ?_; rintro e W5 ⟨rfl, hb⟩; have X5 := Lib.hid (X4.out.below hb); have R5 := Lib.hid (R4.out.below hb); clear hb)
            have t1 := R5.out.cell 1 _ rfl
            go_quiet (fail)
            go_wp2_with fail
            rw [Exit.noGoto_ret]; go_ret2
            exact ⟨rfl, below_drewN X5.out.bel _⟩
)
        | 3, _ => (
          have r0 := N1.out.cell (2 * 3) _ rfl
          have r1 := N1.out.cell (2 * 3 + 1) _ rfl
          (have q0 := X1.out.ob.cell 0 _ rfl; have q1 := X1.out.ob.cell 1 _ rfl; have q2 := X1.out.ob.cell 2 _ rfl; have q3 := X1.out.ob.cell 3 _ rfl; have q4 := X1.out.ob.cell 4 _ rfl; have q5 := X1.out.ob.cell 5 _ rfl; have q6 := X1.out.ob.cell 6 _ rfl; have q7 := X1.out.ob.cell 7 _ rfl)
          obtain ⟨v, hv⟩ : ∃ v, v = ruleV c 3 := ⟨_, rfl⟩
          have CON : Hid (∀ W, CfgOk W c → ObjAt W gb 4 [.bool (gateB c)] → Calls Tryz.prog 89 #[(.agg #[.int .i64 c.cats, .slice c.g.a c.g.l.length c.g.cap, .slice c.r.a c.r.l.length c.r.cap, .slice c.p.a c.p.l.length c.p.cap, .slice c.n.a c.n.l.length c.n.cap, .slice c.s.a c.s.l.length c.s.cap, .int .i64 c.gate, .int .i64 c.quota])] W fun e w' => e = .returned (.tuple #[.int .i64 v.1, .bool v.2]) ∧ Below W.heap.size W w') := fun W hc ho => by rw [hv]; exact (rings_any c _ hc)
          go_upto_region 8 with fail
          have R4 : Hid (ObjAt (wr.alloc (.cells #[.func (Fn.func 89) #[] #[], .int .i64 16] 157)) wr.heap.size 157 [.func (Fn.func 89) #[] #[], .int .i64 16]) := ObjAt.new wr _ _
          have B4 : Hid (Below wr.heap.size wr (wr.alloc (.cells #[.func (Fn.func 89) #[] #[], .int .i64 16] 157))) := (Below.refl _ _).alloc (Nat.le_refl _) _
          generalize wr.alloc (.cells #[.func (Fn.func 89) #[] #[], .int .i64 16] 157) = W4 at R4 B4 ⊢
          generalize wr.heap.size = rr at R4 ⊢
          have X4 := Lib.hid (X1.out.below B4.out)
          have O4 := Lib.hid (O1.out.below B4.out)
          clear r0 r1
          (replace q0 := X4.out.ob.cell 0 _ rfl; replace q1 := X4.out.ob.cell 1 _ rfl; replace q2 := X4.out.ob.cell 2 _ rfl; replace q3 := X4.out.ob.cell 3 _ rfl; replace q4 := X4.out.ob.cell 4 _ rfl; replace q5 := X4.out.ob.cell 5 _ rfl; replace q6 := X4.out.ob.cell 6 _ rfl; replace q7 := X4.out.ob.cell 7 _ rfl)
          have r0 := R4.out.cell 0 _ rfl
          obtain ⟨vi, vb⟩ := v
          have HV := Lib.hid hv
          clear hv
          dsimp only at CON
          cases vb with
          | false =>
            have HJ2 : Hid (∀ j, j < 3 + 1 → (ruleV c j).2 = false) := fun j hj => by
              rcases Nat.lt_or_ge j 3 with h | h
              · exact HJ.out j h
              · rw [show j = 3 by omega, ← HV.out]
            go_wp2_with (go_at_call 89; refine (CON.out _ X4.out.ok O4.out).mono ?_; rintro e W5 ⟨rfl, hb⟩; have HB5 := Lib.hid (HB.out.trans ((B4.out.trans (hb.mono B4.out.size)).mono HB.out.size)); clear hb)
            go_roundw
            case rel => exact ⟨3 + 1, by omega, by go_num, rfl, rfl, HB5.out, HJ2.out⟩
            case measure => simp [intOf]
          | true =>
            have hx : x = (13 + 3, vi) := by rw [HG.out, rule_hit (k := 3) (by omega) HJ.out (by rw [← HV.out])]; dsimp only; rw [← HV.out]; rfl
            subst hx
            go_wp2_with (go_at_call 89; refine (CON.out _ X4.out.ok O4.out).mono ?_; rintro e W5 ⟨rfl, hb⟩; have X5 := Lib.hid (X4.out.below hb); have R5 := Lib.hid (R4.out.below hb); clear hb)
            have t1 := R5.out.cell 1 _ rfl
            go_quiet (fail)
            go_wp2_with fail
            rw [Exit.noGoto_ret]; go_ret2
            exact ⟨rfl, below_drewN X5.out.bel _⟩
)
        | 4, _ => (
          have r0 := N1.out.cell (2 * 4) _ rfl
          have r1 := N1.out.cell (2 * 4 + 1) _ rfl
          (have q0 := X1.out.ob.cell 0 _ rfl; have q1 := X1.out.ob.cell 1 _ rfl; have q2 := X1.out.ob.cell 2 _ rfl; have q3 := X1.out.ob.cell 3 _ rfl; have q4 := X1.out.ob.cell 4 _ rfl; have q5 := X1.out.ob.cell 5 _ rfl; have q6 := X1.out.ob.cell 6 _ rfl; have q7 := X1.out.ob.cell 7 _ rfl)
          obtain ⟨v, hv⟩ : ∃ v, v = ruleV c 4 := ⟨_, rfl⟩
          have CON : Hid (∀ W, CfgOk W c → ObjAt W gb 4 [.bool (gateB c)] → Calls Tryz.prog 90 #[(.agg #[.int .i64 c.cats, .slice c.g.a c.g.l.length c.g.cap, .slice c.r.a c.r.l.length c.r.cap, .slice c.p.a c.p.l.length c.p.cap, .slice c.n.a c.n.l.length c.n.cap, .slice c.s.a c.s.l.length c.s.cap, .int .i64 c.gate, .int .i64 c.quota])] W fun e w' => e = .returned (.tuple #[.int .i64 v.1, .bool v.2]) ∧ Below W.heap.size W w') := fun W hc ho => by rw [hv]; exact (slots_any c _ hc)
          go_upto_region 8 with fail
          have R4 : Hid (ObjAt (wr.alloc (.cells #[.func (Fn.func 90) #[] #[], .int .i64 17] 157)) wr.heap.size 157 [.func (Fn.func 90) #[] #[], .int .i64 17]) := ObjAt.new wr _ _
          have B4 : Hid (Below wr.heap.size wr (wr.alloc (.cells #[.func (Fn.func 90) #[] #[], .int .i64 17] 157))) := (Below.refl _ _).alloc (Nat.le_refl _) _
          generalize wr.alloc (.cells #[.func (Fn.func 90) #[] #[], .int .i64 17] 157) = W4 at R4 B4 ⊢
          generalize wr.heap.size = rr at R4 ⊢
          have X4 := Lib.hid (X1.out.below B4.out)
          have O4 := Lib.hid (O1.out.below B4.out)
          clear r0 r1
          (replace q0 := X4.out.ob.cell 0 _ rfl; replace q1 := X4.out.ob.cell 1 _ rfl; replace q2 := X4.out.ob.cell 2 _ rfl; replace q3 := X4.out.ob.cell 3 _ rfl; replace q4 := X4.out.ob.cell 4 _ rfl; replace q5 := X4.out.ob.cell 5 _ rfl; replace q6 := X4.out.ob.cell 6 _ rfl; replace q7 := X4.out.ob.cell 7 _ rfl)
          have r0 := R4.out.cell 0 _ rfl
          obtain ⟨vi, vb⟩ := v
          have HV := Lib.hid hv
          clear hv
          dsimp only at CON
          cases vb with
          | false =>
            have HJ2 : Hid (∀ j, j < 4 + 1 → (ruleV c j).2 = false) := fun j hj => by
              rcases Nat.lt_or_ge j 4 with h | h
              · exact HJ.out j h
              · rw [show j = 4 by omega, ← HV.out]
            go_wp2_with (go_at_call 90; refine (CON.out _ X4.out.ok O4.out).mono ?_; rintro e W5 ⟨rfl, hb⟩; have HB5 := Lib.hid (HB.out.trans ((B4.out.trans (hb.mono B4.out.size)).mono HB.out.size)); clear hb)
            go_roundw
            case rel => exact ⟨4 + 1, by omega, by go_num, rfl, rfl, HB5.out, HJ2.out⟩
            case measure => simp [intOf]
          | true =>
            have hx : x = (13 + 4, vi) := by rw [HG.out, rule_hit (k := 4) (by omega) HJ.out (by rw [← HV.out])]; dsimp only; rw [← HV.out]; rfl
            subst hx
            go_wp2_with (go_at_call 90; refine (CON.out _ X4.out.ok O4.out).mono ?_; rintro e W5 ⟨rfl, hb⟩; have X5 := Lib.hid (X4.out.below hb); have R5 := Lib.hid (R4.out.below hb); clear hb)
            have t1 := R5.out.cell 1 _ rfl
            go_quiet (fail)
            go_wp2_with fail
            rw [Exit.noGoto_ret]; go_ret2
            exact ⟨rfl, below_drewN X5.out.bel _⟩
)
        | 5, _ => (
          have r0 := N1.out.cell (2 * 5) _ rfl
          have r1 := N1.out.cell (2 * 5 + 1) _ rfl
          (have q0 := X1.out.ob.cell 0 _ rfl; have q1 := X1.out.ob.cell 1 _ rfl; have q2 := X1.out.ob.cell 2 _ rfl; have q3 := X1.out.ob.cell 3 _ rfl; have q4 := X1.out.ob.cell 4 _ rfl; have q5 := X1.out.ob.cell 5 _ rfl; have q6 := X1.out.ob.cell 6 _ rfl; have q7 := X1.out.ob.cell 7 _ rfl)
          obtain ⟨v, hv⟩ : ∃ v, v = ruleV c 5 := ⟨_, rfl⟩
          have CON : Hid (∀ W, CfgOk W c → ObjAt W gb 4 [.bool (gateB c)] → Calls Tryz.prog 85 #[(.agg #[.int .i64 c.cats, .slice c.g.a c.g.l.length c.g.cap, .slice c.r.a c.r.l.length c.r.cap, .slice c.p.a c.p.l.length c.p.cap, .slice c.n.a c.n.l.length c.n.cap, .slice c.s.a c.s.l.length c.s.cap, .int .i64 c.gate, .int .i64 c.quota]), .pointer (some ⟨gb, 0, none⟩)] W fun e w' => e = .returned (.tuple #[.int .i64 v.1, .bool v.2]) ∧ Below W.heap.size W w') := fun W hc ho => by rw [hv]; exact (one1_any c _ gb _ hc ho)
          go_upto_region 8 with fail
          have R4 : Hid (ObjAt (wr.alloc (.cells #[.func (Fn.func 85) #[] #[.pointer (some ⟨gb, 0, none⟩)], .int .i64 18] 157)) wr.heap.size 157 [.func (Fn.func 85) #[] #[.pointer (some ⟨gb, 0, none⟩)], .int .i64 18]) := ObjAt.new wr _ _
          have B4 : Hid (Below wr.heap.size wr (wr.alloc (.cells #[.func (Fn.func 85) #[] #[.pointer (some ⟨gb, 0, none⟩)], .int .i64 18] 157))) := (Below.refl _ _).alloc (Nat.le_refl _) _
          generalize wr.alloc (.cells #[.func (Fn.func 85) #[] #[.pointer (some ⟨gb, 0, none⟩)], .int .i64 18] 157) = W4 at R4 B4 ⊢
          generalize wr.heap.size = rr at R4 ⊢
          have X4 := Lib.hid (X1.out.below B4.out)
          have O4 := Lib.hid (O1.out.below B4.out)
          clear r0 r1
          (replace q0 := X4.out.ob.cell 0 _ rfl; replace q1 := X4.out.ob.cell 1 _ rfl; replace q2 := X4.out.ob.cell 2 _ rfl; replace q3 := X4.out.ob.cell 3 _ rfl; replace q4 := X4.out.ob.cell 4 _ rfl; replace q5 := X4.out.ob.cell 5 _ rfl; replace q6 := X4.out.ob.cell 6 _ rfl; replace q7 := X4.out.ob.cell 7 _ rfl)
          have r0 := R4.out.cell 0 _ rfl
          obtain ⟨vi, vb⟩ := v
          have HV := Lib.hid hv
          clear hv
          dsimp only at CON
          cases vb with
          | false =>
            have HJ2 : Hid (∀ j, j < 5 + 1 → (ruleV c j).2 = false) := fun j hj => by
              rcases Nat.lt_or_ge j 5 with h | h
              · exact HJ.out j h
              · rw [show j = 5 by omega, ← HV.out]
            go_wp2_with (go_at_call 85; refine (CON.out _ X4.out.ok O4.out).mono ?_; rintro e W5 ⟨rfl, hb⟩; have HB5 := Lib.hid (HB.out.trans ((B4.out.trans (hb.mono B4.out.size)).mono HB.out.size)); clear hb)
            go_roundw
            case rel => exact ⟨5 + 1, by omega, by go_num, rfl, rfl, HB5.out, HJ2.out⟩
            case measure => simp [intOf]
          | true =>
            have hx : x = (13 + 5, vi) := by rw [HG.out, rule_hit (k := 5) (by omega) HJ.out (by rw [← HV.out])]; dsimp only; rw [← HV.out]; rfl
            subst hx
            go_wp2_with (go_at_call 85; refine (CON.out _ X4.out.ok O4.out).mono ?_; rintro e W5 ⟨rfl, hb⟩; have X5 := Lib.hid (X4.out.below hb); have R5 := Lib.hid (R4.out.below hb); clear hb)
            have t1 := R5.out.cell 1 _ rfl
            go_quiet (fail)
            go_wp2_with fail
            rw [Exit.noGoto_ret]; go_ret2
            exact ⟨rfl, below_drewN X5.out.bel _⟩
)
        | 6, _ =>
          have hgk : GOk c := gok_of (HJ.out 0 (by omega)) (HJ.out 3 (by omega))
          have NEE : Hid (∀ W, CfgOk W c → Calls Tryz.prog 92 #[(.agg #[.int .i64 c.cats, .slice c.g.a c.g.l.length c.g.cap, .slice c.r.a c.r.l.length c.r.cap, .slice c.p.a c.p.l.length c.p.cap, .slice c.n.a c.n.l.length c.n.cap, .slice c.s.a c.s.l.length c.s.cap, .int .i64 c.gate, .int .i64 c.quota])] W fun e w' => e = .returned (.int .i64 (needV c)) ∧ Below W.heap.size W w') := fun W hc => need_any c hgk _ hc
          have hx : x = if 32 < needV c then (19, 0) else (0, 0) := by rw [HG.out, rule_none HJ.out]
          clear hgk HG
          (have q0 := X1.out.ob.cell 0 _ rfl; have q1 := X1.out.ob.cell 1 _ rfl; have q2 := X1.out.ob.cell 2 _ rfl; have q3 := X1.out.ob.cell 3 _ rfl; have q4 := X1.out.ob.cell 4 _ rfl; have q5 := X1.out.ob.cell 5 _ rfl; have q6 := X1.out.ob.cell 6 _ rfl; have q7 := X1.out.ob.cell 7 _ rfl)
          by_cases hn : 32 < needV c
          · have dn : decide (needV c > 32) = true := by simp [hn]
            obtain rfl : x = (19, 0) := by rw [hx, if_pos hn]
            clear hx hn
            go_wp2_with (go_at_call 92; refine (NEE.out _ X1.out.ok).mono ?_; rintro e W5 ⟨rfl, hb⟩; have X5 := Lib.hid (X1.out.below hb); clear hb)
            rw [Exit.noGoto_ret]; go_ret2
            exact ⟨rfl, X5.out.bel⟩
          · have dn : decide (needV c > 32) = false := by simpa using hn
            obtain rfl : x = (0, 0) := by rw [hx, if_neg hn]
            clear hx hn
            go_wp2_with (go_at_call 92; refine (NEE.out _ X1.out.ok).mono ?_; rintro e W5 ⟨rfl, hb⟩; have X5 := Lib.hid (X1.out.below hb); clear hb)
            rw [Exit.noGoto_ret]; go_ret2
            exact ⟨rfl, X5.out.bel⟩
end Go.Proofs.YtoklonmiejdgmaaGreatDoor
/- Package plan: Parse. -/
namespace Go.Proofs.YtoklonmiejdgmaaGreatDoor
set_option linter.unusedVariables false
set_option linter.unusedSimpArgs false
set_option linter.unnecessarySimpa false
open Go.RowKit Go.Sort
set_option maxHeartbeats 4000000
set_option maxRecDepth 100000
set_option linter.unusedVariables false
def slE (l : List (List Int)) : Sl := ⟨none, 0, l⟩
def cvOf (c : Pc) : Cv := ⟨c.cats, slE c.g, slE c.r, slE c.p, slE c.n, slE c.s, c.gate, c.quota⟩
def chkP (c : Pc) : Int := (chkV (cvOf c)).1
theorem stRg_pc (c : Cv) : ∀ i, stRg c i = stRg (cvOf (pcOf c)) i
  | 0 => rfl
  | i + 1 => by unfold stRg; rw [stRg_pc c i]; rfl
theorem rBad_pc (c : Cv) : rBad c = rBad (cvOf (pcOf c)) := by
  funext i
  unfold rBad
  rw [stRg_pc c i]; rfl
theorem rFst_pc (c : Cv) : rFst c = rFst (cvOf (pcOf c)) := by
  unfold rFst; rw [rBad_pc]; rfl
theorem rule_pc (c : Cv) (k : Nat) : ruleV c k = ruleV (cvOf (pcOf c)) k := by
  unfold ruleV
  split
  · rfl
  · exact rFst_pc c
  · rfl
  · rfl
  · rfl
  · rfl
theorem chk_pc (c : Cv) : chkV c = chkV (cvOf (pcOf c)) := by
  have e : (fun k => (ruleV c k).2) = fun k => (ruleV (cvOf (pcOf c)) k).2 := funext fun k => by rw [rule_pc]
  by_cases h : c.cats < 0 ∨ 8 < c.cats
  · rw [chkV, chkV, if_pos h, if_pos (show (cvOf (pcOf c)).cats < 0 ∨ 8 < (cvOf (pcOf c)).cats from h)]
  · rw [chkV, chkV, if_neg h, if_neg (show ¬ ((cvOf (pcOf c)).cats < 0 ∨ 8 < (cvOf (pcOf c)).cats) from h), e]
    split
    · rw [rule_pc]
    · rfl
theorem chkP_of (c : Cv) : (chkV c).1 = chkP (pcOf c) := by rw [chk_pc]; rfl
def pcZ : Pc := ⟨0, [], [], [], [], [], 0, 0⟩
def pcN : Pc := ⟨0, [], [], [], [], [], -1, 0⟩
def cvN : Cv := cvOf pcN
def cvZ : Cv := cvOf pcZ
/-- What k lines leave. -/
def stP (L : List (List UInt8)) : Nat → Option (Pc × Int)
  | 0 => some (pcN, -1)
  | k + 1 => (stP L k).bind fun st => lineV st.1 st.2 (decide (k = 0)) (L.getD k [])
def badP (L : List (List UInt8)) : Option Nat := (List.range L.length).find? fun k => (stP L (k + 1)).isNone
def endP (L : List (List UInt8)) : Pc × Int × Int := match stP L L.length with
  | some st => if chkP st.1 = 0 then (st.1, 0, 0) else (pcZ, chkP st.1, 0)
  | none => (pcZ, 6, 0)
def psV (s : List UInt8) : Pc × Int × Int :=
  if 16384 < s.length then (pcZ, 10, 0) else
  match badP (fieldsC 10 s).dropLast with
  | some k => (pcZ, 6, (k : Int) + 1)
  | none => if (fieldsC 10 s).dropLast.length = 0 ∨ (fieldsC 10 s).getLast? ≠ some [] then (pcZ, 6, ((fieldsC 10 s).dropLast.length : Int) + 1) else endP (fieldsC 10 s).dropLast
theorem stP_mono {L : List (List UInt8)} {k : Nat} (h : stP L k = none) : ∀ j, k ≤ j → stP L j = none := by
  intro j hj
  induction j with
  | zero => rw [show k = 0 by omega] at h; exact h
  | succ j ih =>
    by_cases e : k = j + 1
    · subst e; exact h
    · unfold stP; rw [ih (by omega)]; rfl
theorem badP_some {L : List (List UInt8)} {k : Nat} (hk : k < L.length) (h0 : stP L k ≠ none) (h1 : stP L (k + 1) = none) : badP L = some k := by
  rw [badP, List.find?_range_eq_some]
  refine ⟨by simp [h1], List.mem_range.2 hk, fun j hj => ?_⟩
  cases hx : stP L (j + 1) with
  | none => exact absurd (stP_mono hx k (by omega)) h0
  | some v => rfl
theorem badP_none {L : List (List UInt8)} (h : stP L L.length ≠ none) : badP L = none := by
  rw [badP, List.find?_eq_none]
  intro j hj
  have hj := List.mem_range.1 hj
  cases hx : stP L (j + 1) with
  | none => exact absurd (stP_mono hx _ (by omega)) h
  | some v => simp
theorem psV_long {s : List UInt8} (h : 16384 < s.length) : psV s = (pcZ, 10, 0) := by rw [psV, if_pos h]
theorem psV_bad {s : List UInt8} {k : Nat} (h : ¬ 16384 < s.length) (hk : badP (fieldsC 10 s).dropLast = some k) : psV s = (pcZ, 6, (k : Int) + 1) := by rw [psV, if_neg h, hk]
theorem psV_none {s : List UInt8} (h : ¬ 16384 < s.length) (hk : badP (fieldsC 10 s).dropLast = none) (he : (fieldsC 10 s).dropLast.length = 0 ∨ (fieldsC 10 s).getLast? ≠ some []) : psV s = (pcZ, 6, ((fieldsC 10 s).dropLast.length : Int) + 1) := by
  rw [psV, if_neg h, hk]; simp only; rw [if_pos he]
theorem psV_end {s : List UInt8} (h : ¬ 16384 < s.length) (hk : badP (fieldsC 10 s).dropLast = none) (he : ¬ ((fieldsC 10 s).dropLast.length = 0 ∨ (fieldsC 10 s).getLast? ≠ some [])) : psV s = endP (fieldsC 10 s).dropLast := by
  rw [psV, if_neg h, hk]; simp only; rw [if_neg he]
theorem endP_no {L : List (List UInt8)} {c : Pc} {l : Int} (h : stP L L.length = some (c, l)) (he : chkP c ≠ 0) : endP L = (pcZ, chkP c, 0) := by rw [endP, h]; simp only; rw [if_neg he]
theorem endP_yes {L : List (List UInt8)} {c : Pc} {l : Int} (h : stP L L.length = some (c, l)) (he : chkP c = 0) : endP L = (c, 0, 0) := by rw [endP, h]; simp only; rw [if_pos he]
/-- At most k of each. -/
def LenP (k : Nat) (c : Pc) : Prop := c.g.length ≤ k ∧ c.r.length ≤ k ∧ c.p.length ≤ k ∧ c.n.length ≤ k ∧ c.s.length ≤ k
theorem setV_len {k : Nat} {c : Pc} (h : LenP k c) (j : Nat) (row : List Int) : LenP (k + 1) (setV c j row) := by
  obtain ⟨h1, h2, h3, h4, h5⟩ := h
  unfold setV LenP
  split <;> simp only [List.length_append, List.length_singleton] <;> refine ⟨?_, ?_, ?_, ?_, ?_⟩ <;> omega
theorem lineV_len {k : Nat} {c c' : Pc} {last last' : Int} {b : Bool} {s : List UInt8} (h : LenP k c) (he : lineV c last b s = some (c', last')) : LenP (k + 1) c' := by
  unfold lineV at he
  split at he
  · rw [Option.map_eq_some_iff] at he
    obtain ⟨row, _, e⟩ := he
    injection e with e1 e2
    rw [← e1]; exact setV_len h _ _
  · cases he
def PsPost (s : List UInt8) (w : World) (e : Ending) (w' : World) : Prop :=
  ∃ c : Cv, e = .returned (.tuple #[(.agg #[.int .i64 c.cats, .slice c.g.a c.g.l.length c.g.cap, .slice c.r.a c.r.l.length c.r.cap, .slice c.p.a c.p.l.length c.p.cap, .slice c.n.a c.n.l.length c.n.cap, .slice c.s.a c.s.l.length c.s.cap, .int .i64 c.gate, .int .i64 c.quota]), .int .i64 (psV s).2.1, .int .i64 (psV s).2.2]) ∧ CfgOk w' c ∧ pcOf c = (psV s).1 ∧ Below w.heap.size w w'
theorem slE_nil (W : World) (N : Nat) : SlOk W N (slE []) := ⟨⟨by simp [slE, iF], fun _ => rfl, fun p hp => by cases hp⟩, Nat.le_refl _, by unfold maxLen slE; simp, fun r hr => by cases hr⟩
theorem cvZ_ok (W : World) : CfgOk W cvZ := ⟨slE_nil W 3, slE_nil W 3, slE_nil W 2, slE_nil W 2, slE_nil W 2⟩
theorem ps_zero {s : List UInt8} {w w' : World} {e at_ : Int} (h : psV s = (pcZ, e, at_)) (hb : Below w.heap.size w w') : PsPost s w (.returned (.tuple #[.agg #[.int .i64 0, .slice none 0 0, .slice none 0 0, .slice none 0 0, .slice none 0 0, .slice none 0 0, .int .i64 0, .int .i64 0], .int .i64 e, .int .i64 at_])) w' :=
  ⟨cvZ, by rw [h]; rfl, cvZ_ok w', by rw [h]; rfl, hb⟩
theorem ps_good {s : List UInt8} {w w' : World} {c : Cv} (h : psV s = (pcOf c, 0, 0)) (hc : CfgOk w' c) (hb : Below w.heap.size w w') : PsPost s w (.returned (.tuple #[(.agg #[.int .i64 c.cats, .slice c.g.a c.g.l.length c.g.cap, .slice c.r.a c.r.l.length c.r.cap, .slice c.p.a c.p.l.length c.p.cap, .slice c.n.a c.n.l.length c.n.cap, .slice c.s.a c.s.l.length c.s.cap, .int .i64 c.gate, .int .i64 c.quota]), .int .i64 0, .int .i64 0])) w' :=
  ⟨c, by rw [h], hc, by rw [h], hb⟩
/-- The lists lie in blocks from B on. -/
def NewC (B : Nat) (c : Cv) : Prop := ∀ s ∈ [c.g.a, c.r.a, c.p.a, c.n.a, c.s.a], ∀ k ∈ blk s, B ≤ k
def PsPostN (s : List UInt8) (w : World) (e : Ending) (w' : World) : Prop :=
  ∃ c : Cv, NewC w.heap.size c ∧ e = .returned (.tuple #[(.agg #[.int .i64 c.cats, .slice c.g.a c.g.l.length c.g.cap, .slice c.r.a c.r.l.length c.r.cap, .slice c.p.a c.p.l.length c.p.cap, .slice c.n.a c.n.l.length c.n.cap, .slice c.s.a c.s.l.length c.s.cap, .int .i64 c.gate, .int .i64 c.quota]), .int .i64 (psV s).2.1, .int .i64 (psV s).2.2]) ∧ CfgOk w' c ∧ pcOf c = (psV s).1 ∧ Below w.heap.size w w'
theorem psn_zero {s : List UInt8} {w w' : World} {e at_ : Int} (h : psV s = (pcZ, e, at_)) (hb : Below w.heap.size w w') : PsPostN s w (.returned (.tuple #[.agg #[.int .i64 0, .slice none 0 0, .slice none 0 0, .slice none 0 0, .slice none 0 0, .slice none 0 0, .int .i64 0, .int .i64 0], .int .i64 e, .int .i64 at_])) w' :=
  ⟨cvZ, fun s hs k hk => by simp [cvZ, cvOf, slE] at hs; subst hs; simp [blk] at hk, by rw [h]; rfl, cvZ_ok w', by rw [h]; rfl, hb⟩
theorem psn_good {s : List UInt8} {w w' : World} {c : Cv} (h : psV s = (pcOf c, 0, 0)) (hc : CfgOk w' c) (hn : NewC w.heap.size c) (hb : Below w.heap.size w w') : PsPostN s w (.returned (.tuple #[(.agg #[.int .i64 c.cats, .slice c.g.a c.g.l.length c.g.cap, .slice c.r.a c.r.l.length c.r.cap, .slice c.p.a c.p.l.length c.p.cap, .slice c.n.a c.n.l.length c.n.cap, .slice c.s.a c.s.l.length c.s.cap, .int .i64 c.gate, .int .i64 c.quota]), .int .i64 0, .int .i64 0])) w' :=
  ⟨c, hn, by rw [h], hc, by rw [h], hb⟩
theorem RD.newc {w W : World} {rb : Nat} {c : Cv} {last : Int} {B : Nat} (h : RD w rb c last W) (hB : B ≤ w.heap.size) : NewC B c := fun s hs k hk => by
  simp only [List.mem_cons, List.not_mem_nil, or_false] at hs
  rcases hs with rfl | rfl | rfl | rfl | rfl
  · exact Nat.le_trans hB (h.g.ge k hk).1
  · exact Nat.le_trans hB (h.r.ge k hk).1
  · exact Nat.le_trans hB (h.p.ge k hk).1
  · exact Nat.le_trans hB (h.n.ge k hk).1
  · exact Nat.le_trans hB (h.s.ge k hk).1
theorem rd_start (W : World) : RD W W.heap.size cvN (-1) (W.alloc (.cells #[.int .i64 0, .slice none 0 0, .slice none 0 0, .slice none 0 0, .slice none 0 0, .slice none 0 0, .int .i64 (-1), .int .i64 0, .int .i64 (-1)] 106)) :=
  ⟨(Below.refl _ _).alloc (Nat.le_refl _) _, Nat.le_refl _, ObjAt.new W _ [.int .i64 0, .slice none 0 0, .slice none 0 0, .slice none 0 0, .slice none 0 0, .slice none 0 0, .int .i64 (-1), .int .i64 0, .int .i64 (-1)], Own.nil _ _ _ _, Own.nil _ _ _ _, Own.nil _ _ _ _, Own.nil _ _ _ _, Own.nil _ _ _ _, (fun x hx => by cases hx), (fun x hx => by cases hx), (fun x hx => by cases hx), (fun x hx => by cases hx), (fun x hx => by cases hx)⟩
theorem ln_out {w : World} {rb : Nat} {c : Cv} {last : Int} {b : Bool} {s : List UInt8} {e : Ending} {w' : World} (h : LnPost w rb c last b s e w') :
    (e = .returned (.bool false) ∧ lineV (pcOf c) last b s = none ∧ Below w.heap.size w w') ∨ (e = .returned (.bool true) ∧ ∃ c' l', lineV (pcOf c) last b s = some (pcOf c', l') ∧ RD w rb c' l' w') := by
  unfold LnPost at h
  cases hv : lineV (pcOf c) last b s with
  | none => rw [hv] at h; exact Or.inl ⟨h.1, rfl, h.2⟩
  | some r => rw [hv] at h; obtain ⟨h1, c', h2, h3⟩ := h; exact Or.inr ⟨h1, c', r.2, by rw [h2], h3⟩
/-- The reader after k lines. -/
structure QP (L : List (List UInt8)) (w1 : World) (rb k : Nat) (c : Cv) (last : Int) (W : World) : Prop where
  st : stP L k = some (pcOf c, last)
  len : LenP k (pcOf c)
  rd : RD w1 rb c last W
theorem QP.few {L : List (List UInt8)} {w1 W : World} {rb k : Nat} {c : Cv} {last : Int} (h : QP L w1 rb k c last W) (hk : k ≤ 100000) : FewC c := by
  have h1 : c.g.l.length ≤ k := h.len.1
  have h2 : c.r.l.length ≤ k := h.len.2.1
  have h3 : c.p.l.length ≤ k := h.len.2.2.1
  have h4 : c.n.l.length ≤ k := h.len.2.2.2.1
  have h5 : c.s.l.length ≤ k := h.len.2.2.2.2
  exact ⟨by omega, by omega, by omega, by omega, by omega⟩
theorem QP.next {L : List (List UInt8)} {w1 W : World} {rb k : Nat} {c : Cv} {last : Int} {x : List UInt8} (h : QP L w1 rb k c last W) (hx : L.getD k [] = x) {c' : Cv} {l' : Int} (he : lineV (pcOf c) last (decide (k = 0)) x = some (pcOf c', l')) {W' : World} (hr : RD w1 rb c' l' W') : QP L w1 rb (k + 1) c' l' W' :=
  ⟨by unfold stP; rw [h.st]; simp only [Option.bind_some]; rw [hx]; exact he, lineV_len h.len he, hr⟩
theorem QP.stop {L : List (List UInt8)} {w1 W : World} {rb k : Nat} {c : Cv} {last : Int} {x : List UInt8} (h : QP L w1 rb k c last W) (hx : L.getD k [] = x) (he : lineV (pcOf c) last (decide (k = 0)) x = none) : stP L k ≠ none ∧ stP L (k + 1) = none :=
  ⟨by rw [h.st]; simp, by unfold stP; rw [h.st]; simp only [Option.bind_some]; rw [hx]; exact he⟩
theorem RD.other {w W W' : World} {rb b : Nat} {c : Cv} {last : Int} {cs : List Value} (h : RD w rb c last W) (ho : ObjAt W b 29 cs) (hu : Upd b W W') : CfgOk W' c :=
  have g := h.g.upd hu (h.g.ne ho (by decide))
  have r := h.r.upd hu (h.r.ne ho (by decide))
  have p := h.p.upd hu (h.p.ne ho (by decide))
  have n := h.n.upd hu (h.n.ne ho (by decide))
  have s := h.s.upd hu (h.s.ne ho (by decide))
  ⟨⟨g.rd, g.le, g.capMax, h.lg⟩, ⟨r.rd, r.le, r.capMax, h.lr⟩, ⟨p.rd, p.le, p.capMax, h.lp⟩, ⟨n.rd, n.le, n.capMax, h.ln⟩, ⟨s.rd, s.le, s.capMax, h.ls⟩⟩
theorem upd_put {b k : Nat} {x y : World} {v : Value} (h : Upd b x y) : Upd b x (y.setCell ⟨b, k, none⟩ v) := h.trans (Upd.setCell y ⟨b, k, none⟩ v)
theorem pparse_new (s : ByteArray) (hs : s.size ≤ maxLen) (w : World) (hT : WdTab w) : Calls Tryz.prog 23 #[.string s] w (PsPostN s.data.toList w) := by
  obtain ⟨l, hl⟩ : ∃ l, l = s.data.toList := ⟨_, rfl⟩
  have hsl : l.length = s.size := by rw [hl, ba_len]
  rw [← hl]
  obtain ⟨w0, hw0⟩ : ∃ w0, w0 = w.alloc (.cells #[.int .i64 0, .slice none 0 0, .slice none 0 0, .slice none 0 0, .slice none 0 0, .slice none 0 0, .int .i64 0, .int .i64 0] 29) := ⟨_, rfl⟩
  have HO0 : Hid (ObjAt w0 w.heap.size 29 #[.int .i64 0, .slice none 0 0, .slice none 0 0, .slice none 0 0, .slice none 0 0, .slice none 0 0, .int .i64 0, .int .i64 0].toList) := by rw [hw0]; exact ObjAt.new w _ _
  have HB0 : Hid (Below w.heap.size w w0) := by rw [hw0]; exact (Below.refl _ _).alloc (Nat.le_refl _) _
  have HW0 := Lib.hid hw0
  obtain ⟨P, hP⟩ : ∃ P, P = PsPostN l w := ⟨_, rfl⟩
  have HZ : Hid (∀ e at_ w', psV l = (pcZ, e, at_) → Below w.heap.size w w' → P (.returned (.tuple #[.agg #[.int .i64 0, .slice none 0 0, .slice none 0 0, .slice none 0 0, .slice none 0 0, .slice none 0 0, .int .i64 0, .int .i64 0], .int .i64 e, .int .i64 at_])) w') := fun e at_ w' h hb => by rw [hP]; exact psn_zero h hb
  have HG : Hid (∀ c w', psV l = (pcOf c, 0, 0) → CfgOk w' c → NewC w.heap.size c → Below w.heap.size w w' → P (.returned (.tuple #[(.agg #[.int .i64 c.cats, .slice c.g.a c.g.l.length c.g.cap, .slice c.r.a c.r.l.length c.r.cap, .slice c.p.a c.p.l.length c.p.cap, .slice c.n.a c.n.l.length c.n.cap, .slice c.s.a c.s.l.length c.s.cap, .int .i64 c.gate, .int .i64 c.quota]), .int .i64 0, .int .i64 0])) w') := fun c w' h hc hn hb => by rw [hP]; exact psn_good h hc hn hb
  rw [← hP]
  clear hP hw0
  unfold maxLen at hs
  by_cases h16 : 16384 < s.size
  · have d1 : decide ((s.size : Int) > 16384) = true := decide_eq_true (by omega)
    have d1' : decide (16384 < s.size) = true := decide_eq_true h16
    have HZ := fun w' h => Lib.hid (HZ.out 10 0 w' (psV_long (by omega)) h)
    clear h16 hl hsl hT HG
    go_enter Tryz.func23, Tryz.ntmps23
    go_upto_region 1 with fail
    rw [← HW0.out]
    have hO0 := HO0.out
    have s6 := hO0.lt
    have a0 := (hO0).cell 0 _ rfl; have a1 := (hO0).cell 1 _ rfl; have a2 := (hO0).cell 2 _ rfl; have a3 := (hO0).cell 3 _ rfl; have a4 := (hO0).cell 4 _ rfl; have a5 := (hO0).cell 5 _ rfl; have a6 := (hO0).cell 6 _ rfl; have a7 := (hO0).cell 7 _ rfl; have g0 := (hO0).free 0; have g1 := (hO0).free 1; have g2 := (hO0).free 2; have g3 := (hO0).free 3; have g4 := (hO0).free 4; have g5 := (hO0).free 5; have g6 := (hO0).free 6; have g7 := (hO0).free 7
    clear hO0
    go_wp2_with fail
    (refine bodyPost_ret (v := .tuple #[.agg #[.int .i64 0, .slice none 0 0, .slice none 0 0, .slice none 0 0, .slice none 0 0, .slice none 0 0, .int .i64 0, .int .i64 0], .int .i64 10, .int .i64 0]) (by simp [results, Tryz.results23, go_sem, a0, a1, a2, a3, a4, a5, a6, a7, s6]) rfl ?_)
    exact (HZ _ ((((((((HB0.out.setCell (Nat.le_refl _) _).setCell (Nat.le_refl _) _).setCell (Nat.le_refl _) _).setCell (Nat.le_refl _) _).setCell (Nat.le_refl _) _).setCell (Nat.le_refl _) _).setCell (Nat.le_refl _) _).setCell (Nat.le_refl _) _)).out
  · have d1 : decide ((s.size : Int) > 16384) = false := decide_eq_false (by omega)
    have d1' : decide (16384 < s.size) = false := decide_eq_false h16
    obtain ⟨F, hF⟩ : ∃ F, F = fieldsC 10 l := ⟨_, rfl⟩
    have hne : F ≠ [] := by rw [hF]; exact fieldsC_ne 10 _
    have hfl : F.length ≤ s.size + 1 := by
      rw [hF, fieldsC_len, ← hsl]
      have := List.count_le_length (a := (10 : UInt8)) (l := l); omega
    obtain ⟨L, hL⟩ : ∃ L, L = F.dropLast := ⟨_, rfl⟩
    obtain ⟨m, hm⟩ : ∃ m, F.length = m + 1 := by cases F with
      | nil => exact absurd rfl hne
      | cons x r => exact ⟨r.length, rfl⟩
    obtain ⟨x, hx⟩ : ∃ x, F[m]? = some x := ⟨_, List.getElem?_eq_getElem (by omega)⟩
    have hLm : L.length = m := by rw [hL, List.length_dropLast, hm]; rfl
    have hlast : F.getLast? = some x := by rw [List.getLast?_eq_getElem?, hm]; exact hx
    have HBAD : Hid (∀ k w', k < m → stP L k ≠ none → stP L (k + 1) = none → Below w.heap.size w w' → P (.returned (.tuple #[.agg #[.int .i64 0, .slice none 0 0, .slice none 0 0, .slice none 0 0, .slice none 0 0, .slice none 0 0, .int .i64 0, .int .i64 0], .int .i64 6, .int .i64 ((k : Int) + 1)])) w') := fun k w' hk h0 h1 hb =>
      HZ.out _ _ _ (psV_bad (by omega) (by rw [← hF, ← hL]; exact badP_some (by omega) h0 h1)) hb
    have HNO : Hid (∀ w', stP L m ≠ none → (m = 0 ∨ x ≠ []) → Below w.heap.size w w' → P (.returned (.tuple #[.agg #[.int .i64 0, .slice none 0 0, .slice none 0 0, .slice none 0 0, .slice none 0 0, .slice none 0 0, .int .i64 0, .int .i64 0], .int .i64 6, .int .i64 ((m : Int) + 1)])) w') := fun w' h0 h1 hb =>
      HZ.out _ _ _ (by
        have := psV_none (s := l) (by omega) (by rw [← hF, ← hL]; exact badP_none (by rw [hLm]; exact h0)) (by
          rw [← hF, ← hL, hLm, hlast]
          rcases h1 with h1 | h1
          · exact Or.inl h1
          · exact Or.inr (by intro e; injection e with e; exact h1 e))
        rw [← hF, ← hL, hLm] at this; exact this) hb
    have HPS : Hid (∀ c last, stP L m = some (pcOf c, last) → m ≠ 0 → x = [] → psV l = if chkP (pcOf c) = 0 then (pcOf c, 0, 0) else (pcZ, chkP (pcOf c), 0)) := fun c last h0 h1 h2 => by
      rw [psV_end (by omega) (by rw [← hF, ← hL]; exact badP_none (by rw [hLm, h0]; simp)) (by
        rw [← hF, ← hL, hLm, hlast, h2]; simp [h1]), ← hF, ← hL]
      split
      · rename_i he; exact endP_yes (by rw [hLm]; exact h0) he
      · rename_i he; exact endP_no (by rw [hLm]; exact h0) he
    have HEN : Hid (∀ w' c last, stP L m = some (pcOf c, last) → m ≠ 0 → x = [] → (chkV c).1 ≠ 0 → Below w.heap.size w w' → P (.returned (.tuple #[.agg #[.int .i64 0, .slice none 0 0, .slice none 0 0, .slice none 0 0, .slice none 0 0, .slice none 0 0, .int .i64 0, .int .i64 0], .int .i64 (chkV c).1, .int .i64 0])) w') := fun w' c last h0 h1 h2 h3 hb =>
      HZ.out _ _ _ (by rw [HPS.out c last h0 h1 h2, ← chkP_of, if_neg h3]) hb
    have HEY : Hid (∀ w' c last, stP L m = some (pcOf c, last) → m ≠ 0 → x = [] → (chkV c).1 = 0 → CfgOk w' c → NewC w.heap.size c → Below w.heap.size w w' → P (.returned (.tuple #[(.agg #[.int .i64 c.cats, .slice c.g.a c.g.l.length c.g.cap, .slice c.r.a c.r.l.length c.r.cap, .slice c.p.a c.p.l.length c.p.cap, .slice c.n.a c.n.l.length c.n.cap, .slice c.s.a c.s.l.length c.s.cap, .int .i64 c.gate, .int .i64 c.quota]), .int .i64 0, .int .i64 0])) w') := fun w' c last h0 h1 h2 h3 hc hn hb =>
      HG.out c w' (by rw [HPS.out c last h0 h1 h2, ← chkP_of, if_pos h3]) hc hn hb
    have HGET : Hid (∀ k (hk : k < m), ∃ y, F[k]? = some y ∧ L.getD k [] = y ∧ y.length ≤ 100000) := fun k hk => by
      have h1 : k < F.length := by omega
      refine ⟨F[k], List.getElem?_eq_getElem h1, ?_, ?_⟩
      · rw [List.getD_eq_getElem?_getD, hL, List.getElem?_eq_getElem (by rw [List.length_dropLast]; omega), List.getElem_dropLast]; rfl
      · have := (fieldsC_mem 10 l F[k] (by rw [← hF]; exact List.getElem_mem h1)).2
        omega
    have HSP : Hid (Calls Tryz.prog 48 #[.string s, .string ⟨#[10]⟩] w0 fun e w' => e = .returned (.slice (some ⟨w0.heap.size, 0, none⟩) F.length F.length) ∧ w' = w0.alloc (.cells (strC F).toArray 9)) := by
      have := split1L s 10 w0 (by omega)
      rw [← hl, ← hF] at this; exact this
    obtain ⟨w1, hw1⟩ : ∃ w1, w1 = w0.alloc (.cells (strC F).toArray 9) := ⟨_, rfl⟩
    have HCELL : Hid (ObjAt w1 w0.heap.size 9 (strC F)) := by rw [hw1]; exact ObjAt.new w0 9 (strC F)
    have HCX : w1.cell? ⟨w0.heap.size, m, none⟩ = some (.string (ba x)) := HCELL.out.cell m _ (by simp [strC, hx])
    have HB01 : Hid (Below w0.heap.size w0 w1) := by rw [hw1]; exact (Below.refl _ _).alloc (Nat.le_refl _) _
    have HB1 := Lib.hid (bmore HB0.out HB01.out)
    have HLC : Hid (∀ k y, F[k]? = some y → w1.cell? ⟨w0.heap.size, k, none⟩ = some (.string (ba y))) := fun k y hy => HCELL.out.cell k _ (by simp [strC, hy])
    have hblk := HCELL.out.lt
    have HO1 := Lib.hid (HO0.out.below HB01.out)
    have HT1 := Lib.hid (hT.below HB1.out)
    rw [hm, ← hw1] at HSP
    have hm2 : m ≤ 16384 := by omega
    have HR0 := Lib.hid (rd_start w1)
    have HQ0 : Hid (QP L w1 w1.heap.size 0 cvN (-1) (w1.alloc (.cells #[.int .i64 0, .slice none 0 0, .slice none 0 0, .slice none 0 0, .slice none 0 0, .slice none 0 0, .int .i64 (-1), .int .i64 0, .int .i64 (-1)] 106))) := ⟨rfl, ⟨by simp [pcOf, cvN, cvOf, pcN, slE], by simp [pcOf, cvN, cvOf, pcN, slE], by simp [pcOf, cvN, cvOf, pcN, slE], by simp [pcOf, cvN, cvOf, pcN, slE], by simp [pcOf, cvN, cvOf, pcN, slE]⟩, HR0.out⟩
    have w3 : IntKind.i64.wrap ((m : Int) + 1 - 1) = (m : Int) := by rw [IntKind.wrap_i64]; omega
    clear hF hne hfl hL hm hx hLm hlast HPS hw1 HR0 h16 hl hsl hT HG HZ HB01 HO0 HCELL
    go_enter Tryz.func23, Tryz.ntmps23
    go_upto_region 1 with fail
    rw [← HW0.out]
    go_wp2_with fail
    refine HSP.out.mono ?_; rintro e w1 ⟨rfl, rfl⟩
    clear HSP
    go_wp2_with fail
    go_loopw [28] (fun i wr => ∃ (k : Nat) (c : Cv) (last : Int), k ≤ m ∧ i = .int .i64 k ∧ QP L w1 w1.heap.size k c last wr) (fun i _ => m - (intOf i).toNat)
    case atStart => exact ⟨0, cvN, -1, by omega, rfl, HQ0.out⟩
    case round =>
      clear HQ0
      obtain ⟨k, c, last, hk, rfl, hq⟩ := hrel
      have HQ := Lib.hid hq
      have HBW := Lib.hid (bmore HB1.out hq.rd.bel)
      clear hq
      have w5 : IntKind.i64.wrap ((k : Int) + 1) = (k : Int) + 1 := by rw [IntKind.wrap_i64]; omega
      by_cases hlt : k < m
      · obtain ⟨y, hy, hyL, hys⟩ := HGET.out k hlt
        have hcr : wr.cell? ⟨w0.heap.size, k, none⟩ = some (.string (ba y)) := by
          rw [HQ.out.rd.bel.cell (p := ⟨w0.heap.size, k, none⟩) hblk]; exact HLC.out k y hy
        have HLN : Hid (∀ b, b = decide (k = 0) → Calls Tryz.prog 53 #[.pointer (some ⟨w1.heap.size, 0, none⟩), .string (ba y), .bool b] wr fun e w' => (e = .returned (.bool false) ∧ stP L k ≠ none ∧ stP L (k + 1) = none ∧ Below w1.heap.size w1 w') ∨ (e = .returned (.bool true) ∧ ∃ c' l', QP L w1 w1.heap.size (k + 1) c' l' w')) := fun b hb => by
          refine (line_any w1 w1.heap.size c last b y hys wr HQ.out.rd HT1.out (HQ.out.few (by omega))).mono ?_
          intro e w' h
          subst hb
          rcases ln_out h with ⟨h1, h2, h3⟩ | ⟨h1, c', l', h2, h3⟩
          · exact Or.inl ⟨h1, (HQ.out.stop hyL h2).1, (HQ.out.stop hyL h2).2, h3⟩
          · exact Or.inr ⟨h1, c', l', HQ.out.next hyL h2 h3⟩
        clear hy hyL hys
        go_wp2_with fail
        refine (HLN.out _ (by first | rfl | (rw [Bool.eq_iff_iff]; simp))).mono ?_; intro e w3 h3
        rcases h3 with ⟨rfl, h1, h2, h4⟩ | ⟨rfl, c', l', h1⟩
        · have HB3 := Lib.hid (bmore HB1.out h4)
          have HS := Lib.hid h1
          have HS2 := Lib.hid h2
          have hO1 := HO1.out.below h4
          have s6 := hO1.lt
          have a0 := (hO1).cell 0 _ rfl; have a1 := (hO1).cell 1 _ rfl; have a2 := (hO1).cell 2 _ rfl; have a3 := (hO1).cell 3 _ rfl; have a4 := (hO1).cell 4 _ rfl; have a5 := (hO1).cell 5 _ rfl; have a6 := (hO1).cell 6 _ rfl; have a7 := (hO1).cell 7 _ rfl; have g0 := (hO1).free 0; have g1 := (hO1).free 1; have g2 := (hO1).free 2; have g3 := (hO1).free 3; have g4 := (hO1).free 4; have g5 := (hO1).free 5; have g6 := (hO1).free 6; have g7 := (hO1).free 7
          clear h1 h2 h4 hO1 HLN
          go_wp2_with fail
          (refine bodyPost_ret (v := .tuple #[.agg #[.int .i64 0, .slice none 0 0, .slice none 0 0, .slice none 0 0, .slice none 0 0, .slice none 0 0, .int .i64 0, .int .i64 0], .int .i64 6, .int .i64 ((k : Int) + 1)]) (by simp [results, Tryz.results23, go_sem, a0, a1, a2, a3, a4, a5, a6, a7, s6]) rfl ?_)
          exact HBAD.out k _ hlt HS.out HS2.out ((((((((HB3.out.setCell (Nat.le_refl _) _).setCell (Nat.le_refl _) _).setCell (Nat.le_refl _) _).setCell (Nat.le_refl _) _).setCell (Nat.le_refl _) _).setCell (Nat.le_refl _) _).setCell (Nat.le_refl _) _).setCell (Nat.le_refl _) _)
        · have HQ2 := Lib.hid h1
          clear h1 HLN
          go_wp2_with fail
          go_roundw
          case rel => exact ⟨k + 1, c', l', by omega, by go_num, HQ2.out⟩
          case measure => simp [intOf]; omega
      · obtain rfl : k = m := by omega
        have hcr : wr.cell? ⟨w0.heap.size, k, none⟩ = some (.string (ba x)) := by
          rw [HQ.out.rd.bel.cell (p := ⟨w0.heap.size, k, none⟩) hblk]; exact HCX
        have bx := ba_isEmpty x
        have hO1 := HO1.out.below HQ.out.rd.bel
        have s6 := hO1.lt
        by_cases h0 : k = 0
        · subst h0
          have a0 := (hO1).cell 0 _ rfl; have a1 := (hO1).cell 1 _ rfl; have a2 := (hO1).cell 2 _ rfl; have a3 := (hO1).cell 3 _ rfl; have a4 := (hO1).cell 4 _ rfl; have a5 := (hO1).cell 5 _ rfl; have a6 := (hO1).cell 6 _ rfl; have a7 := (hO1).cell 7 _ rfl; have g0 := (hO1).free 0; have g1 := (hO1).free 1; have g2 := (hO1).free 2; have g3 := (hO1).free 3; have g4 := (hO1).free 4; have g5 := (hO1).free 5; have g6 := (hO1).free 6; have g7 := (hO1).free 7
          clear bx hO1
          go_wp2_with fail
          (refine bodyPost_ret (v := .tuple #[.agg #[.int .i64 0, .slice none 0 0, .slice none 0 0, .slice none 0 0, .slice none 0 0, .slice none 0 0, .int .i64 0, .int .i64 0], .int .i64 6, .int .i64 1]) (by simp [results, Tryz.results23, go_sem, a0, a1, a2, a3, a4, a5, a6, a7, s6]) rfl ?_)
          exact HNO.out _ (by rw [HQ.out.st]; simp) (by simp) ((((((((HBW.out.setCell (Nat.le_refl _) _).setCell (Nat.le_refl _) _).setCell (Nat.le_refl _) _).setCell (Nat.le_refl _) _).setCell (Nat.le_refl _) _).setCell (Nat.le_refl _) _).setCell (Nat.le_refl _) _).setCell (Nat.le_refl _) _)
        · have z1 : ((k : Int) == 0) = false := by rw [beq_eq_false_iff_ne]; omega
          have z2 : decide (k = 0) = false := decide_eq_false h0
          cases hxe : x.isEmpty
          · have HX : Hid (x ≠ []) := fun e => by rw [e] at hxe; cases hxe
            rw [hxe] at bx
            have a0 := (hO1).cell 0 _ rfl; have a1 := (hO1).cell 1 _ rfl; have a2 := (hO1).cell 2 _ rfl; have a3 := (hO1).cell 3 _ rfl; have a4 := (hO1).cell 4 _ rfl; have a5 := (hO1).cell 5 _ rfl; have a6 := (hO1).cell 6 _ rfl; have a7 := (hO1).cell 7 _ rfl; have g0 := (hO1).free 0; have g1 := (hO1).free 1; have g2 := (hO1).free 2; have g3 := (hO1).free 3; have g4 := (hO1).free 4; have g5 := (hO1).free 5; have g6 := (hO1).free 6; have g7 := (hO1).free 7
            clear hxe hO1
            go_wp2_with fail
            (refine bodyPost_ret (v := .tuple #[.agg #[.int .i64 0, .slice none 0 0, .slice none 0 0, .slice none 0 0, .slice none 0 0, .slice none 0 0, .int .i64 0, .int .i64 0], .int .i64 6, .int .i64 ((k : Int) + 1)]) (by simp [results, Tryz.results23, go_sem, a0, a1, a2, a3, a4, a5, a6, a7, s6]) rfl ?_)
            exact HNO.out _ (by rw [HQ.out.st]; simp) (Or.inr HX.out) ((((((((HBW.out.setCell (Nat.le_refl _) _).setCell (Nat.le_refl _) _).setCell (Nat.le_refl _) _).setCell (Nat.le_refl _) _).setCell (Nat.le_refl _) _).setCell (Nat.le_refl _) _).setCell (Nat.le_refl _) _).setCell (Nat.le_refl _) _)
          · have HX : Hid (x = []) := List.isEmpty_iff.1 hxe
            rw [hxe] at bx
            clear hxe
            obtain ⟨e0, he0⟩ : ∃ v, Hid (v = (chkV c).1) := ⟨_, Lib.hid rfl⟩
            obtain ⟨e1, he1⟩ : ∃ v, Hid (v = (chkV c).2) := ⟨_, Lib.hid rfl⟩
            have CHK : Hid (Calls Tryz.prog 54 #[(.agg #[.int .i64 c.cats, .slice c.g.a c.g.l.length c.g.cap, .slice c.r.a c.r.l.length c.r.cap, .slice c.p.a c.p.l.length c.p.cap, .slice c.n.a c.n.l.length c.n.cap, .slice c.s.a c.s.l.length c.s.cap, .int .i64 c.gate, .int .i64 c.quota])] wr fun e w' => e = .returned (.tuple #[.int .i64 e0, .int .i64 e1]) ∧ Below wr.heap.size wr w') := by
              rw [he0.out, he1.out]; exact check_any c wr HQ.out.rd.cfg
            have q0 := HQ.out.rd.ob.cell 0 _ rfl
            have q1 := HQ.out.rd.ob.cell 1 _ rfl
            have q2 := HQ.out.rd.ob.cell 2 _ rfl
            have q3 := HQ.out.rd.ob.cell 3 _ rfl
            have q4 := HQ.out.rd.ob.cell 4 _ rfl
            have q5 := HQ.out.rd.ob.cell 5 _ rfl
            have q6 := HQ.out.rd.ob.cell 6 _ rfl
            have q7 := HQ.out.rd.ob.cell 7 _ rfl
            clear hO1 s6
            go_wp2_with fail
            refine CHK.out.mono ?_; rintro e w4 ⟨rfl, h4⟩
            have HQ4 := Lib.hid (HQ.out.rd.more h4)
            have HB4 := Lib.hid (bmore HB1.out HQ4.out.bel)
            have hO1 := HO1.out.below HQ4.out.bel
            have s6 := hO1.lt
            have HO4 := Lib.hid hO1
            have a0 := (hO1).cell 0 _ rfl; have a1 := (hO1).cell 1 _ rfl; have a2 := (hO1).cell 2 _ rfl; have a3 := (hO1).cell 3 _ rfl; have a4 := (hO1).cell 4 _ rfl; have a5 := (hO1).cell 5 _ rfl; have a6 := (hO1).cell 6 _ rfl; have a7 := (hO1).cell 7 _ rfl; have g0 := (hO1).free 0; have g1 := (hO1).free 1; have g2 := (hO1).free 2; have g3 := (hO1).free 3; have g4 := (hO1).free 4; have g5 := (hO1).free 5; have g6 := (hO1).free 6; have g7 := (hO1).free 7
            clear hO1 h4 q0 q1 q2 q3 q4 q5 q6 q7 CHK
            by_cases hz : e0 = 0
            · subst hz
              have q0 := HQ4.out.ob.cell 0 _ rfl
              have q1 := HQ4.out.ob.cell 1 _ rfl
              have q2 := HQ4.out.ob.cell 2 _ rfl
              have q3 := HQ4.out.ob.cell 3 _ rfl
              have q4 := HQ4.out.ob.cell 4 _ rfl
              have q5 := HQ4.out.ob.cell 5 _ rfl
              have q6 := HQ4.out.ob.cell 6 _ rfl
              have q7 := HQ4.out.ob.cell 7 _ rfl
              go_wp2_with fail
              refine bodyPost_ret (v := .tuple #[(.agg #[.int .i64 c.cats, .slice c.g.a c.g.l.length c.g.cap, .slice c.r.a c.r.l.length c.r.cap, .slice c.p.a c.p.l.length c.p.cap, .slice c.n.a c.n.l.length c.n.cap, .slice c.s.a c.s.l.length c.s.cap, .int .i64 c.gate, .int .i64 c.quota]), .int .i64 0, .int .i64 0]) (by simp [results, Tryz.results23, go_sem, a0, a1, a2, a3, a4, a5, a6, a7, s6]) rfl ?_
              refine HEY.out _ c last HQ.out.st h0 HX.out he0.out.symm ?_ (HQ4.out.newc HB1.out.size) ?_
              · exact HQ4.out.other HO4.out (upd_put (upd_put (upd_put (upd_put (upd_put (upd_put (upd_put (upd_put (Upd.refl _ _)))))))))
              · exact ((((((((HB4.out.setCell (Nat.le_refl _) _).setCell (Nat.le_refl _) _).setCell (Nat.le_refl _) _).setCell (Nat.le_refl _) _).setCell (Nat.le_refl _) _).setCell (Nat.le_refl _) _).setCell (Nat.le_refl _) _).setCell (Nat.le_refl _) _)
            · have n1 : (e0 == 0) = false := by rw [beq_eq_false_iff_ne]; exact hz
              have n2 : (e0 != 0) = true := by rw [bne_iff_ne]; exact hz
              have n3 : decide (e0 = 0) = false := decide_eq_false hz
              have HNZ : Hid ((chkV c).1 ≠ 0) := by rw [← he0.out]; exact hz
              clear hz
              go_wp2_with fail
              (refine bodyPost_ret (v := .tuple #[.agg #[.int .i64 0, .slice none 0 0, .slice none 0 0, .slice none 0 0, .slice none 0 0, .slice none 0 0, .int .i64 0, .int .i64 0], .int .i64 e0, .int .i64 0]) (by simp [results, Tryz.results23, go_sem, a0, a1, a2, a3, a4, a5, a6, a7, s6]) rfl ?_)
              rw [he0.out]
              exact HEN.out _ c last HQ.out.st h0 HX.out HNZ.out ((((((((HB4.out.setCell (Nat.le_refl _) _).setCell (Nat.le_refl _) _).setCell (Nat.le_refl _) _).setCell (Nat.le_refl _) _).setCell (Nat.le_refl _) _).setCell (Nat.le_refl _) _).setCell (Nat.le_refl _) _).setCell (Nat.le_refl _) _)
theorem pparse_any (s : ByteArray) (hs : s.size ≤ maxLen) (w : World) (hT : WdTab w) : Calls Tryz.prog 23 #[.string s] w (PsPost s.data.toList w) := (pparse_new s hs w hT).mono fun _ _ ⟨c, _, h⟩ => ⟨c, h⟩
end Go.Proofs.YtoklonmiejdgmaaGreatDoor
/- Packages plan and its reference: lines of a text. -/
namespace Go.Proofs.YtoklonmiejdgmaaGreatDoor
set_option linter.unusedVariables false
set_option linter.unusedSimpArgs false
set_option linter.unnecessarySimpa false
open Go.RowKit Go.Sort
set_option maxHeartbeats 2000000
set_option maxRecDepth 100000
set_option linter.unusedVariables false
theorem fieldsC_sep (c : UInt8) : ∀ s : List UInt8, fieldsC c (s ++ [c]) = fieldsC c s ++ [[]]
  | [] => by simp [fieldsC]
  | b :: t => by
    have ih := fieldsC_sep c t
    by_cases h : b = c
    · rw [List.cons_append, fieldsC, if_pos h, ih, fieldsC, if_pos h]; rfl
    · obtain ⟨x, r, h1, h2⟩ := fieldsC_cons h t
      obtain ⟨x', r', h1', h2'⟩ := fieldsC_cons h (t ++ [c])
      rw [List.cons_append, h2', h2]
      rw [h1, h1'] at ih
      injection ih with ih1 ih2
      rw [ih1, ih2]; rfl
theorem fieldsC_snoc (c b : UInt8) (hb : b ≠ c) : ∀ s : List UInt8, ∃ D y, fieldsC c (s ++ [b]) = D ++ [y ++ [b]]
  | [] => ⟨[], [], by rw [List.nil_append, fieldsC_free c [b] (by simp; exact hb)]; rfl⟩
  | a :: t => by
    obtain ⟨D, y, ih⟩ := fieldsC_snoc c b hb t
    by_cases h : a = c
    · exact ⟨[] :: D, y, by rw [List.cons_append, fieldsC, if_pos h, ih]; rfl⟩
    · obtain ⟨x', r', h1', h2'⟩ := fieldsC_cons h (t ++ [b])
      rw [ih] at h1'
      cases D with
      | nil =>
        rw [List.nil_append] at h1'
        injection h1' with e1 e2
        exact ⟨[], a :: y, by rw [List.cons_append, h2', ← e1, ← e2]; rfl⟩
      | cons d D =>
        rw [List.cons_append] at h1'
        injection h1' with e1 e2
        exact ⟨(a :: x') :: D, y, by rw [List.cons_append, h2', ← e2]; rfl⟩
theorem fieldsC_last (s : List UInt8) : (fieldsC 10 s).getLast? = some [] ↔ s = [] ∨ s.getLast? = some 10 := by
  rcases List.eq_nil_or_concat s with rfl | ⟨t, b, rfl⟩
  · simp [fieldsC]
  · rw [List.concat_eq_append]
    by_cases h : b = 10
    · subst h
      rw [fieldsC_sep]; simp
    · obtain ⟨D, y, e⟩ := fieldsC_snoc 10 b h t
      rw [e]
      simp [h]

theorem suf_10 (s : List UInt8) : Lib.hasSuffix s [10] = true ↔ s.getLast? = some 10 := by
  unfold Lib.hasSuffix
  rw [List.isSuffixOf_iff_suffix]
  constructor
  · rintro ⟨t, rfl⟩; simp
  · intro h
    obtain ⟨t, ht⟩ := List.getLast?_eq_some_iff.1 h
    exact ⟨t, ht.symm⟩
/-- Is a text's last line ended? -/
def lsB (s : List UInt8) : Bool := decide ((fieldsC 10 s).getLast? = some [])
def lsL (s : List UInt8) : List (List UInt8) := (fieldsC 10 s).dropLast
def LsPost (s : List UInt8) (w : World) (e : Ending) (w' : World) : Prop :=
  (lsB s = true → ∃ a cap, e = .returned (.tuple #[.slice a (lsL s).length cap, .bool true]) ∧ RdW w' a cap (lsL s)) ∧ (lsB s = false → e = .returned (.tuple #[.slice none 0 0, .bool false])) ∧ Below w.heap.size w w'
theorem ls_yes {s : List UInt8} {L : List (List UInt8)} {w w' : World} {e : Ending} {a : Option Addr} {cap : Nat} (h : fieldsC 10 s = L ++ [[]]) (he : e = .returned (.tuple #[.slice a L.length cap, .bool true])) (hr : RdW w' a cap L) (hb : Below w.heap.size w w') : LsPost s w e w' := by
  have e1 : lsL s = L := by rw [lsL, h, List.dropLast_concat]
  have e2 : lsB s = true := by rw [lsB, h]; simp
  exact ⟨fun _ => ⟨a, cap, by rw [e1]; exact he, by rw [e1]; exact hr⟩, (fun h => by rw [e2] at h; cases h), hb⟩
theorem ls_no {s : List UInt8} {D : List (List UInt8)} {x : List UInt8} {w w' : World} (h : fieldsC 10 s = D ++ [x]) (hx : x ≠ []) (hb : Below w.heap.size w w') : LsPost s w (.returned (.tuple #[.slice none 0 0, .bool false])) w' := by
  have e2 : lsB s = false := by rw [lsB, h]; simp [hx]
  exact ⟨(fun h => by rw [e2] at h; cases h), fun _ => rfl, hb⟩
theorem rlines_any (s : ByteArray) (hs : s.size ≤ 100000000) (w : World) : Calls Tryz.prog 26 #[.string s] w (LsPost s.data.toList w) := by
  obtain ⟨ib, hib, hzb, hzb1, hzb2⟩ := info_parts info_byte
  obtain ⟨is, his, hzs, hzs1, hzs2⟩ := info_parts info_str
  obtain ⟨F, hF⟩ : ∃ F, F = fieldsC 10 s.data.toList := ⟨_, rfl⟩
  have HPY : Hid (∀ w' L a n cap, F = L ++ [[]] → n = L.length → RdW w' a cap L → Below w.heap.size w w' → LsPost s.data.toList w (.returned (.tuple #[.slice a n cap, .bool true])) w') := fun w' L a n cap h1 hn h3 h4 => by
    subst hF; subst hn; exact ls_yes h1 rfl h3 h4
  have HPN : Hid (∀ w' D x, F = D ++ [x] → x ≠ [] → Below w.heap.size w w' → LsPost s.data.toList w (.returned (.tuple #[.slice none 0 0, .bool false])) w') := fun w' D x h1 h2 h4 => by
    subst hF; exact ls_no h1 h2 h4
  have HS0 : Hid (SP w w none 0 [] none 0 []) := ⟨Own.nil _ _ _ _, Own.nil _ _ _ _, Below.refl _ _⟩
  have HF := Lib.hid hF
  clear hF
  go_enter Tryz.func26, Tryz.ntmps26
  go_wp2
  go_loopw [4, 5, 6] (fun o v i wr => ∃ (k : Nat) (done : List (List UInt8)) (cur : List UInt8) (ao ab : Option Addr) (co cb : Nat), k ≤ s.size ∧ i = .int .i64 k ∧ o = .slice ao done.length co ∧ v = .slice ab cur.length cb ∧ SP w wr ao co done ab cb cur ∧ done.length ≤ k ∧ cur.length ≤ k ∧ (∀ b ∈ cur, b ≠ 10) ∧ F = done ++ fieldsC 10 (cur ++ s.data.toList.drop k)) (fun _ _ i _ => s.size - (intOf i).toNat)
  case atStart => exact ⟨0, [], [], none, none, 0, 0, by omega, rfl, rfl, rfl, HS0.out, Nat.le_refl _, Nat.le_refl _, by simp, HF.out⟩
  case round =>
    clear HS0
    obtain ⟨k, done, cur, ao, ab, co, cb, hk, rfl, rfl, rfl, hsp, hdl, hcl, hcn, hrel⟩ := hrel
    have SPH := Lib.hid hsp
    have HCN := Lib.hid hcn
    have HREL := Lib.hid hrel
    have hsz := hsp.bel.size
    clear hsp hcn hrel
    by_cases hlt : k < s.size
    · have d1 : decide ((k : Int) < (s.size : Int)) = true := decide_eq_true (by omega)
      have d1' : decide (k < s.size) = true := decide_eq_true hlt
      have w1 : IntKind.i64.wrap ((k : Int) + 1) = (k : Int) + 1 := by rw [IntKind.wrap_i64]; omega
      have hdrop : s.data.toList.drop k = s[k] :: s.data.toList.drop (k + 1) := List.drop_eq_getElem_cons (by rw [ba_len]; exact hlt)
      by_cases h32 : s[k].toNat = 10
      · have hb32 : s[k] = 10 := by rw [← UInt8.toNat_inj]; exact h32
        have dn : ((s[k].toNat : Int) == 10) = true := by simp [h32]
        have HR2 : Hid (F = (done ++ [cur]) ++ fieldsC 10 ([] ++ s.data.toList.drop (k + 1))) := by
          rw [Hid, HREL.out, hdrop, hb32, fieldsC_app 10 cur _ HCN.out, List.append_assoc]; rfl
        have hconv := run_own_str wr _ _ _ _ _ SPH.out.b
        clear hdrop hb32 h32
        go_wp2_with (at_builtin; (refine wpList_own rfl (.tmp 17) (.tmp 20) 54 rfl w.heap.size 9 is _ 1 16 Tryz.underlying54 his hzs hzs1 hzs2 rfl (by omega) ao done.length co (strC done) rfl ((SPH.out.below ((Below.refl _ _).alloc (Nat.le_refl _) _)).o) wr.heap.size [.string (ba cur)] rfl (new_block _ _ _ rfl) rfl (by simp [Value.oneCell']) (by simp only [maxLen]; omega) (by omega) (by simp; omega) ?_); intro g' c' w2 hown1 hmod1 _; have HO := Lib.hid hown1; have HM : Hid (Mod (blk ao) wr w2) := ((Mod.ofBelow ((Below.refl wr.heap.size wr).alloc (Nat.le_refl _) _)).trans hmod1); clear hown1 hmod1)
        have SP2 : Hid (SP w w2 (some ⟨g', 0, none⟩) c' (done ++ [cur]) none 0 []) := ⟨by rw [strC_snoc, List.length_append]; exact HO.out, Own.nil _ _ _ _, SPH.out.bel.trans (HM.out.below (fun j hj => (SPH.out.o.ge j hj).1) hsz)⟩
        go_roundw
        case rel => exact ⟨k + 1, done ++ [cur], [], some ⟨g', 0, none⟩, none, c', 0, by omega, by go_num, by rw [List.length_append]; rfl, rfl, SP2.out, by simp; omega, by simp, by simp, HR2.out⟩
        case measure => simp [intOf]; omega
      · have hb32 : s[k] ≠ 10 := fun e => h32 (by rw [e]; rfl)
        have dn : ((s[k].toNat : Int) == 10) = false := by rw [beq_eq_false_iff_ne]; omega
        have HR2 : Hid (F = done ++ fieldsC 10 ((cur ++ [s[k]]) ++ s.data.toList.drop (k + 1))) := by
          rw [Hid, HREL.out, hdrop, List.append_assoc]; rfl
        have HB2 : Hid (∀ b ∈ cur ++ [s[k]], b ≠ 10) := fun b hb => by
          rcases List.mem_append.1 hb with h | h
          · exact HCN.out b h
          · rw [List.mem_singleton.1 h]; exact hb32
        have hx : s[k].toNat < 256 := s[k].toNat_lt
        clear hdrop hb32 h32
        go_wp2_with (at_builtin; (refine wpList_own rfl (.tmp 22) (.tmp 26) 76 rfl w.heap.size 5 ib _ 1 1 Tryz.underlying76 hib hzb hzb1 hzb2 rfl (by omega) ab cur.length cb (bC cur) rfl ((SPH.out.below ((Below.refl _ _).alloc (Nat.le_refl _) _)).b) wr.heap.size [.int .u8 (s[k].toNat : Int)] rfl (new_block _ _ _ rfl) rfl (by simp [Value.oneCell']) (by simp only [maxLen]; omega) (by omega) (by simp; omega) ?_); intro g' c' w2 hown1 hmod1 _; have HO := Lib.hid hown1; have HM : Hid (Mod (blk ab) wr w2) := ((Mod.ofBelow ((Below.refl wr.heap.size wr).alloc (Nat.le_refl _) _)).trans hmod1); clear hown1 hmod1)
        have SP2 : Hid (SP w w2 ao co done (some ⟨g', 0, none⟩) c' (cur ++ [s[k]])) := ⟨SPH.out.o.mod HM.out (SPH.out.o.apart SPH.out.b (by decide)), by rw [bC_snoc, List.length_append]; exact HO.out, SPH.out.bel.trans (HM.out.below (fun j hj => (SPH.out.b.ge j hj).1) hsz)⟩
        go_roundw
        case rel => exact ⟨k + 1, done, cur ++ [s[k]], ao, some ⟨g', 0, none⟩, co, c', by omega, by go_num, rfl, by rw [List.length_append]; rfl, SP2.out, by omega, by simp; omega, HB2.out, HR2.out⟩
        case measure => simp [intOf]; omega
    · have d1 : decide ((k : Int) < (s.size : Int)) = false := decide_eq_false (by omega)
      have d1' : decide (k < s.size) = false := decide_eq_false hlt
      have HR2 : Hid (F = done ++ [cur]) := by
        rw [Hid, HREL.out, List.drop_eq_nil_of_le (by rw [ba_len]; omega), List.append_nil, fieldsC_free 10 cur HCN.out]
      by_cases hc0 : cur.length = 0
      · have dc : decide ((cur.length : Int) > 0) = false := decide_eq_false (by omega)
        have dc' : decide (0 < cur.length) = false := decide_eq_false (by omega)
        have HC0 : Hid (cur = []) := List.eq_nil_of_length_eq_zero hc0
        clear hc0
        go_wp2
        go_ret2
        exact HPY.out _ done _ _ _ (by rw [HR2.out, HC0.out]) rfl (own_rdW SPH.out.o) SPH.out.bel
      · have dc : decide ((cur.length : Int) > 0) = true := decide_eq_true (by omega)
        have dc' : decide (0 < cur.length) = true := decide_eq_true (by omega)
        have HC0 : Hid (cur ≠ []) := fun e => hc0 (by rw [e]; rfl)
        clear hc0
        go_wp2
        go_ret2
        exact HPN.out _ done cur HR2.out HC0.out SPH.out.bel
theorem lines_any (s : ByteArray) (hs : s.size ≤ 100000000) (w : World) : Calls Tryz.prog 20 #[.string s] w (LsPost s.data.toList w) := by
  have HPY : Hid (∀ w' L a n cap, fieldsC 10 s.data.toList = L ++ [[]] → n = L.length → RdW w' a cap L → Below w.heap.size w w' → LsPost s.data.toList w (.returned (.tuple #[.slice a n cap, .bool true])) w') := fun w' L a n cap h1 hn h3 h4 => by
    subst hn; exact ls_yes h1 rfl h3 h4
  have HPN : Hid (∀ w' D x, fieldsC 10 s.data.toList = D ++ [x] → x ≠ [] → Below w.heap.size w w' → LsPost s.data.toList w (.returned (.tuple #[.slice none 0 0, .bool false])) w') := fun w' D x h1 h2 h4 => by
    exact ls_no h1 h2 h4
  by_cases h0 : s.size = 0
  · have ie := toList_empty s
    rw [decide_eq_true h0] at ie
    have HE : Hid (fieldsC 10 s.data.toList = [] ++ [[]]) := by
      have : s.data.toList = [] := List.eq_nil_of_length_eq_zero (by rw [ba_len]; exact h0)
      rw [Hid, this]; rfl
    clear h0
    go_enter Tryz.func20, Tryz.ntmps20
    go_wp2_with fail
    go_ret2
    exact HPY.out _ [] _ _ _ HE.out rfl (own_rdW (Own.nil w w.heap.size 9 1)) (Below.refl _ _)
  · have ie := toList_empty s
    rw [decide_eq_false h0] at ie
    have HSU : Hid (∀ W, Calls Tryz.prog 47 #[.string s, .string ⟨#[10]⟩] W fun e w' => e = .returned (.bool (Lib.hasSuffix s.data.toList [10])) ∧ w' = W) := fun W => Tryz.strings_HasSuffix s ⟨#[10]⟩ W (by omega)
    cases hx : Lib.hasSuffix s.data.toList [10]
    · have HE : Hid (∃ D x, fieldsC 10 s.data.toList = D ++ [x] ∧ x ≠ []) := by
        refine ⟨(fieldsC 10 s.data.toList).dropLast, (fieldsC 10 s.data.toList).getLast (fieldsC_ne 10 _), (List.dropLast_concat_getLast _).symm, fun e => ?_⟩
        have h2 : (fieldsC 10 s.data.toList).getLast? = some [] := by rw [List.getLast?_eq_some_getLast (fieldsC_ne 10 _), e]
        rcases (fieldsC_last _).1 h2 with h | h
        · rw [← List.length_eq_zero_iff, ba_len] at h; exact h0 h
        · rw [(suf_10 _).2 h] at hx; cases hx
      rw [hx] at HSU
      clear h0 hx
      go_enter Tryz.func20, Tryz.ntmps20
      go_wp2_with fail
      refine (HSU.out _).mono ?_; rintro e w' ⟨rfl, rfl⟩
      go_wp2_with fail
      go_ret2
      obtain ⟨D, x, h1, h2⟩ := HE.out
      exact HPN.out _ D x h1 h2 (Below.refl _ _)
    · obtain ⟨t, ht⟩ : ∃ t, s.data.toList = t ++ [10] := by
        obtain ⟨t, ht⟩ := List.getLast?_eq_some_iff.1 ((suf_10 _).1 hx); exact ⟨t, ht⟩
      have hlt : t.length + 1 = s.size := by rw [← ba_len, ht]; simp
      have HT : Hid (s.extract 0 (s.size - 1) = ba t) := by
        apply ByteArray.ext
        apply Array.ext'
        rw [ByteArray.data_extract, Array.toList_extract, ht, ba_data, ← hlt]
        simp
      have HE : Hid (fieldsC 10 s.data.toList = fieldsC 10 t ++ [[]]) := by rw [Hid, ht, fieldsC_sep]
      have HSP : Hid (∀ W, Calls Tryz.prog 48 #[.string (s.extract 0 (s.size - 1)), .string ⟨#[10]⟩] W fun e w' => e = .returned (.slice (some ⟨W.heap.size, 0, none⟩) (fieldsC 10 t).length (fieldsC 10 t).length) ∧ w' = W.alloc (.cells (strC (fieldsC 10 t)).toArray 9)) := fun W => by
        rw [HT.out]
        have := split1L (ba t) 10 W (by rw [ba_size]; omega)
        rw [ba_data] at this; exact this
      have HR : Hid (∀ W : World, RdW (W.alloc (.cells (strC (fieldsC 10 t)).toArray 9)) (some ⟨W.heap.size, 0, none⟩) (fieldsC 10 t).length (fieldsC 10 t)) := fun W => by
        refine ⟨⟨by rw [strC_len, Nat.mul_one], (fun h => by cases h), fun p hp hne => ?_⟩, Nat.le_refl _, ?_⟩
        · injection hp with hp
          subst hp
          have ho := ObjAt.new W 9 (strC (fieldsC 10 t))
          exact ⟨W.heap.size, 0, rfl, ho.lt, fun j u hu => by rw [Nat.zero_add]; exact ho.cell j u hu⟩
        · rw [fieldsC_len]
          have := List.count_le_length (a := (10 : UInt8)) (l := t)
          unfold maxLen; omega
      have w5 : IntKind.i64.wrap ((s.size : Int) - 1) = ((s.size - 1 : Nat) : Int) := by rw [IntKind.wrap_i64]; omega
      have hsz : s.size - 1 ≤ s.size := by omega
      rw [hx] at HSU
      clear h0 hx ht hlt HT
      go_enter Tryz.func20, Tryz.ntmps20
      go_wp2_with fail
      refine (HSU.out _).mono ?_; rintro e w' ⟨rfl, rfl⟩
      go_wp2_with fail
      refine (HSP.out _).mono ?_; rintro e w2 ⟨rfl, rfl⟩
      go_wp2_with fail
      go_ret2
      exact HPY.out _ _ _ _ _ HE.out rfl (HR.out _) ((Below.refl _ _).alloc (Nat.le_refl _) _)
end Go.Proofs.YtoklonmiejdgmaaGreatDoor
/- Itoa over the kit's contract. -/
namespace Go.Proofs.YtoklonmiejdgmaaGreatDoor
set_option linter.unusedVariables false
set_option linter.unusedSimpArgs false
set_option linter.unnecessarySimpa false
open Go.RowKit Go.Sort Go.Lib
set_option linter.unusedVariables false
set_option maxHeartbeats 400000
set_option maxRecDepth 100000

def PowIs (w : World) : Prop := Lib.TabIs Tryz.prog w "internal/strconv.uint64pow10" .u64 Lib.pow10Tab
theorem PowIs.below {w w' : World} (h : PowIs w) (hb : Below w.heap.size w w') : PowIs w' := by
  unfold PowIs Lib.TabIs World.var? at *
  cases hg : (Tryz.prog).globalNamed "internal/strconv.uint64pow10" with
  | none => simp [hg] at h
  | some g =>
    simp only [hg, Option.bind_some] at h ⊢
    have hlt : g < w.heap.size := by
      rcases Nat.lt_or_ge g w.heap.size with h' | h'
      · exact h'
      · rw [Array.getElem?_eq_none h'] at h; simp at h
    rw [hb.block g hlt]
    exact h

theorem below_grown {w w' : World} (h : ∃ k os, w' = grow (w.drewN k) os) : Below w.heap.size w w' := by
  obtain ⟨k, os, rfl⟩ := h
  have h1 := below_drewN (Below.refl w.heap.size w) k
  have h2 := below_regrown (w.drewN k) (w.drewN k).drawn os
  exact h1.trans (h2.mono h1.size)
theorem itoa_b (n : Int) (h0 : -9223372036854775808 ≤ n) (h1 : n ≤ 9223372036854775807) (w : World) (htab : PowIs w) :
    Calls Tryz.prog 71 #[.int .i64 n] w fun e w' => e = .returned (.string ⟨(Lib.itoa n).toArray⟩) ∧ Below w.heap.size w w' :=
  (Tryz.strconv_Itoa n h0 h1 w htab).mono fun _ _ ⟨h1, h2⟩ => ⟨h1, below_grown h2⟩
end Go.Proofs.YtoklonmiejdgmaaGreatDoor
/- The reference's numbers by digits (lines of XTrTexts). -/
namespace Go.Proofs.YtoklonmiejdgmaaGreatDoor
set_option linter.unusedVariables false
set_option linter.unusedSimpArgs false
set_option linter.unnecessarySimpa false
open Go.RowKit Go.Sort
set_option maxHeartbeats 2000000
set_option maxRecDepth 100000
set_option linter.unusedVariables false
theorem strOfNums_one (b : Nat) (hb : b < 256) : strOfNums [(b : Int)] = ⟨#[UInt8.ofNat b]⟩ := by
  simp [strOfNums]
theorem conv_at (b : Nat) (hb : b < 256) (w : World) (g : Nat) (hg : w.cell? ⟨g, 0, none⟩ = some (.int .u8 (b : Int))) : (convert 76 9 (.slice (some ⟨g, 0, none⟩) 1 1)).run Tryz.prog w = .ok (.string ⟨#[UInt8.ofNat b]⟩) w := by
  refine (run_convert_bytes_arg w 76 5 Tryz.underlying76 Tryz.underlying5 g 0 1 1 [(b : Int)] rfl (fun i hi => ?_) 9 Tryz.underlying9).trans ?_
  · obtain rfl : i = 0 := by omega
    exact hg
  · rw [strOfNums_one b hb]
theorem conv_one (b : Nat) (hb : b < 256) (w : World) (x : Int) (hx : x = (b : Int)) : (convert 76 9 (.slice (some ⟨w.heap.size, 0, none⟩) 1 1)).run Tryz.prog (w.alloc (.cells #[.int .u8 x] 5)) = .ok (.string ⟨#[UInt8.ofNat b]⟩) (w.alloc (.cells #[.int .u8 x] 5)) := by
  subst hx
  refine conv_at b hb _ _ ?_
  rw [World.cell?_alloc_mark w _ _ _ 0]; rfl
theorem decDigits_step (n : Nat) (h : ¬ n < 10) : Lib.decDigits n = Lib.decDigits (n / 10) ++ [UInt8.ofNat (48 + n % 10)] := by
  rw [Lib.decDigits, dif_neg h]
theorem digits_any : ∀ (n : Nat) (w : World), n ≤ 9223372036854775807 → Calls Tryz.prog 45 #[.int .i64 n] w fun e w' => e = .returned (.string ⟨(Lib.decDigits n).toArray⟩) ∧ Below w.heap.size w w' := by
  intro n
  induction n using Nat.strongRecOn with
  | _ n ih =>
    intro w hn
    obtain ⟨sn, hsn⟩ : ∃ s : ByteArray, s = ⟨(Lib.decDigits n).toArray⟩ := ⟨_, rfl⟩
    rw [← hsn]
    by_cases h : n < 10
    · have d0 : decide ((n : Int) < 10) = true := by simp; omega
      have w0 : IntKind.i64.wrap (48 + (n : Int)) = 48 + (n : Int) := by rw [IntKind.wrap_i64]; omega
      have w1 : IntKind.u8.wrap (48 + (n : Int)) = 48 + (n : Int) := by rw [IntKind.wrap_u8]; omega
      have hcv := conv_one (48 + n) (by omega) w (48 + (n : Int)) (by omega)
      have hd : (⟨#[UInt8.ofNat (48 + n)]⟩ : ByteArray) = sn := by rw [hsn, Lib.decDigits_one h]
      rw [hd] at hcv
      have hb : Hid (Below w.heap.size w (w.alloc (.cells #[.int .u8 (48 + (n : Int))] 5))) := (Below.refl _ _).alloc (Nat.le_refl _) _
      clear ih hd hsn
      go_enter Tryz.func45, Tryz.ntmps45
      go_wp2_with fail
      go_ret
      exact ⟨rfl, hb.out⟩
    · have d0 : decide ((n : Int) < 10) = false := by simp; omega
      have w0 : IntKind.i64.wrap (48 + (n : Int) % 10) = 48 + (n : Int) % 10 := by rw [IntKind.wrap_i64]; omega
      have w1 : IntKind.u8.wrap (48 + (n : Int) % 10) = 48 + (n : Int) % 10 := by rw [IntKind.wrap_u8]; omega
      have w2 : IntKind.i64.wrap ((n : Int) / 10) = (n : Int) / 10 := by rw [IntKind.wrap_i64]; omega
      have w3 : (n : Int).tmod 10 = (n : Int) % 10 := by rw [Int.tmod_eq_emod_of_nonneg (by omega)]
      obtain ⟨sq, hsq⟩ : ∃ s : ByteArray, s = ⟨(Lib.decDigits (n / 10)).toArray⟩ := ⟨_, rfl⟩
      obtain ⟨s1, hs1⟩ : ∃ s : ByteArray, s = ⟨#[UInt8.ofNat (48 + n % 10)]⟩ := ⟨_, rfl⟩
      have hih : Hid (∀ w, Calls Tryz.prog 45 #[.int .i64 ((n : Int) / 10)] w fun e w' => e = .returned (.string sq) ∧ Below w.heap.size w w') := fun w => by
        have := ih (n / 10) (by omega) w (by omega)
        rw [Int.natCast_ediv, ← hsq] at this
        exact this
      have hst : Hid (sq ++ s1 = sn) := by rw [Hid, hsq, hs1, hsn, decDigits_step n h, ← ba_append]
      have hcv : Hid (∀ (W : World) (g : Nat), W.cell? ⟨g, 0, none⟩ = some (.int .u8 (48 + (n : Int) % 10)) → (convert 76 9 (.slice (some ⟨g, 0, none⟩) 1 1)).run Tryz.prog W = .ok (.string s1) W) := fun W g hg => by
        rw [hs1]
        exact conv_at (48 + n % 10) (by omega) W g (by rw [hg]; congr 2)
      have hnew : Hid (∀ (W : World), (W.alloc (.cells #[.int .u8 (48 + (n : Int) % 10)] 5)).cell? ⟨W.heap.size, 0, none⟩ = some (.int .u8 (48 + (n : Int) % 10))) := fun W => by rw [World.cell?_alloc_mark W _ _ _ 0]; rfl
      have n0 : (0 : Int) ≤ n := by omega
      have hsz : sq.size + s1.size ≤ 9223372036854775807 := by rw [hsq, hs1, ba_size']; have := Lib.nDigits_le20 (n / 10) (by omega); rw [Lib.decDigits_length]; show _ + 1 ≤ _; omega
      clear ih hsq hs1 hsn
      go_enter Tryz.func45, Tryz.ntmps45
      go_wp2_with fail
      refine wp_region_held_drew (S := fun W' => True) (by kernel_rfl) trivial (fun hHeld => ?_)
      (refine wpAnyH_take (i := 0) (v := (.int .i64 (n : Int))) rfl (by kernel_rfl) (by kernel_rfl) (by kernel_rfl) (fun _ _ _ h => h) (Or.inl ⟨by rfl, (by intro w hSw; go_simp)⟩) (by assumption) ?_; try simp only [Act.put, List.getElem_toArray, List.getElem_cons_succ, List.getElem_cons_zero, List.setIfInBounds_toArray, List.set_cons_zero, List.set_cons_succ])
      (refine wpAnyH_take (i := 1) (v := (.int .i64 ((n : Int) / 10))) rfl (by kernel_rfl) (by kernel_rfl) (by kernel_rfl) (fun _ _ _ h => h) (Or.inl ⟨by rfl, (by intro w hSw; go_simp)⟩) (by assumption) ?_; try simp only [Act.put, List.getElem_toArray, List.getElem_cons_succ, List.getElem_cons_zero, List.setIfInBounds_toArray, List.set_cons_zero, List.set_cons_succ])
      (refine wpAnyH_take (i := 3) (v := (.int .i64 (n : Int))) rfl (by kernel_rfl) (by kernel_rfl) (by kernel_rfl) (fun _ _ _ h => h) (Or.inl ⟨by rfl, (by intro w hSw; go_simp)⟩) (by assumption) ?_; try simp only [Act.put, List.getElem_toArray, List.getElem_cons_succ, List.getElem_cons_zero, List.setIfInBounds_toArray, List.set_cons_zero, List.set_cons_succ])
      (refine wpAnyH_take (i := 4) (v := (.int .i64 ((n : Int) % 10))) rfl (by kernel_rfl) (by kernel_rfl) (by kernel_rfl) (fun _ _ _ h => h) (Or.inl ⟨by rfl, (by intro w hSw; go_simp)⟩) (by assumption) ?_; try simp only [Act.put, List.getElem_toArray, List.getElem_cons_succ, List.getElem_cons_zero, List.setIfInBounds_toArray, List.set_cons_zero, List.set_cons_succ])
      (refine wpAnyH_take (i := 5) (v := (.int .i64 (48 + (n : Int) % 10))) rfl (by kernel_rfl) (by kernel_rfl) (by kernel_rfl) (fun _ _ _ h => h) (Or.inl ⟨by rfl, (by intro w hSw; go_simp)⟩) (by assumption) ?_; try simp only [Act.put, List.getElem_toArray, List.getElem_cons_succ, List.getElem_cons_zero, List.setIfInBounds_toArray, List.set_cons_zero, List.set_cons_succ])
      (refine wpAnyH_take (i := 6) (v := (.int .u8 (48 + (n : Int) % 10))) rfl (by kernel_rfl) (by kernel_rfl) (by kernel_rfl) (fun _ _ _ h => h) (Or.inl ⟨by rfl, (by intro w hSw; go_simp)⟩) (by assumption) ?_; try simp only [Act.put, List.getElem_toArray, List.getElem_cons_succ, List.getElem_cons_zero, List.setIfInBounds_toArray, List.set_cons_zero, List.set_cons_succ])
      refine wpAnyH_ready (rs := [2, 7]) (by kernel_rfl) (by simp) ?_
      refine AllReadyH.cons rfl (fun K hK => ?_) (AllReadyH.cons rfl (fun K hK => ?_) AllReadyH.nil)
      · go_simp
        refine (hih.out _).mono ?_
        rintro e W1 ⟨rfl, hb1⟩
        have hb2 : Hid (Below w.heap.size w W1) := ((Below.refl _ w).drew).trans hb1
        dsimp only
        (refine hK.out _ _ (trivial) (fun hHeld => ?_); clear hK K; try simp only [Act.put, List.getElem_toArray, List.getElem_cons_succ, List.getElem_cons_zero, List.setIfInBounds_toArray, List.set_cons_zero, List.set_cons_succ])
        (refine wpAnyH_ready (rs := [7]) (by kernel_rfl) (by simp) ?_; refine AllReadyH.cons rfl (fun K hK => ?_) AllReadyH.nil)
        go_simp
        (refine hK.out _ _ (trivial) (fun hHeld => ?_); clear hK K; try simp only [Act.put, List.getElem_toArray, List.getElem_cons_succ, List.getElem_cons_zero, List.setIfInBounds_toArray, List.set_cons_zero, List.set_cons_succ])
        have hc1 := hcv.out _ _ (hnew.out W1)
        (refine wpAnyH_ready (rs := [8]) (by kernel_rfl) (by simp) ?_; refine AllReadyH.cons rfl (fun K hK => ?_) AllReadyH.nil)
        go_simp
        (refine hK.out _ _ (trivial) (fun hHeld => ?_); clear hK K; try simp only [Act.put, List.getElem_toArray, List.getElem_cons_succ, List.getElem_cons_zero, List.setIfInBounds_toArray, List.set_cons_zero, List.set_cons_succ])
        (refine wpAnyH_take (i := 9) (v := (.string (sq ++ s1))) rfl (by kernel_rfl) (by kernel_rfl) (by kernel_rfl) (fun _ _ _ h => h) (Or.inl ⟨by rfl, (by intro w hSw; go_simp)⟩) (by assumption) ?_; try simp only [Act.put, List.getElem_toArray, List.getElem_cons_succ, List.getElem_cons_zero, List.setIfInBounds_toArray, List.set_cons_zero, List.set_cons_succ])
        rw [hst.out]
        (refine wpAnyH_take (i := 10) (v := (.string sn)) rfl (by kernel_rfl) (by kernel_rfl) (by kernel_rfl) (fun _ _ _ h => h) (Or.inl ⟨by rfl, (by intro w hSw; go_simp)⟩) (by assumption) ?_; try simp only [Act.put, List.getElem_toArray, List.getElem_cons_succ, List.getElem_cons_zero, List.setIfInBounds_toArray, List.set_cons_zero, List.set_cons_succ])
        refine wpAnyH_done (by kernel_rfl) ?_ _
        go_wp2_with fail
        go_ret
        exact ⟨rfl, hb2.out.alloc hb2.out.size _⟩
      · go_simp
        (refine hK.out _ _ (trivial) (fun hHeld => ?_); clear hK K; try simp only [Act.put, List.getElem_toArray, List.getElem_cons_succ, List.getElem_cons_zero, List.setIfInBounds_toArray, List.set_cons_zero, List.set_cons_succ])
        have hb2 : Hid (Below w.heap.size w (w.alloc (.cells #[.int .u8 (48 + (n : Int) % 10)] 5)).drew) := ((Below.refl _ w).alloc (Nat.le_refl _) _).drew
        have hc0 : (w.alloc (.cells #[.int .u8 (48 + (n : Int) % 10)] 5)).drew.cell? ⟨w.heap.size, 0, none⟩ = some (.int .u8 (48 + (n : Int) % 10)) := hnew.out w
        have hlt : Hid (w.heap.size < (w.alloc (.cells #[.int .u8 (48 + (n : Int) % 10)] 5)).drew.heap.size) := World.block_lt_of_cell? _ _ hc0
        generalize (w.alloc (.cells #[.int .u8 (48 + (n : Int) % 10)] 5)).drew = W2 at hb2 hc0 hlt ⊢
        refine wpAnyH_ready (rs := [2, 8]) (by kernel_rfl) (by simp) ?_
        refine AllReadyH.cons rfl (fun K hK => ?_) (AllReadyH.cons rfl (fun K hK => ?_) AllReadyH.nil)
        · go_simp
          refine (hih.out _).mono ?_
          rintro e W1 ⟨rfl, hb1⟩
          have hb3 : Hid (Below w.heap.size w W1) := hb2.out.trans (hb1.mono hb2.out.size)
          have hc1 := hcv.out W1 w.heap.size ((hb1.cell (p := ⟨w.heap.size, 0, none⟩) hlt.out).trans hc0)
          dsimp only
          (refine hK.out _ _ (trivial) (fun hHeld => ?_); clear hK K; try simp only [Act.put, List.getElem_toArray, List.getElem_cons_succ, List.getElem_cons_zero, List.setIfInBounds_toArray, List.set_cons_zero, List.set_cons_succ])
          (refine wpAnyH_ready (rs := [8]) (by kernel_rfl) (by simp) ?_; refine AllReadyH.cons rfl (fun K hK => ?_) AllReadyH.nil)
          go_simp
          (refine hK.out _ _ (trivial) (fun hHeld => ?_); clear hK K; try simp only [Act.put, List.getElem_toArray, List.getElem_cons_succ, List.getElem_cons_zero, List.setIfInBounds_toArray, List.set_cons_zero, List.set_cons_succ])
          (refine wpAnyH_take (i := 9) (v := (.string (sq ++ s1))) rfl (by kernel_rfl) (by kernel_rfl) (by kernel_rfl) (fun _ _ _ h => h) (Or.inl ⟨by rfl, (by intro w hSw; go_simp)⟩) (by assumption) ?_; try simp only [Act.put, List.getElem_toArray, List.getElem_cons_succ, List.getElem_cons_zero, List.setIfInBounds_toArray, List.set_cons_zero, List.set_cons_succ])
          rw [hst.out]
          (refine wpAnyH_take (i := 10) (v := (.string sn)) rfl (by kernel_rfl) (by kernel_rfl) (by kernel_rfl) (fun _ _ _ h => h) (Or.inl ⟨by rfl, (by intro w hSw; go_simp)⟩) (by assumption) ?_; try simp only [Act.put, List.getElem_toArray, List.getElem_cons_succ, List.getElem_cons_zero, List.setIfInBounds_toArray, List.set_cons_zero, List.set_cons_succ])
          refine wpAnyH_done (by kernel_rfl) ?_ _
          go_wp2_with fail
          go_ret
          exact ⟨rfl, hb3.out⟩
        · have hc1 := hcv.out W2 w.heap.size hc0
          go_simp
          (refine hK.out _ _ (trivial) (fun hHeld => ?_); clear hK K; try simp only [Act.put, List.getElem_toArray, List.getElem_cons_succ, List.getElem_cons_zero, List.setIfInBounds_toArray, List.set_cons_zero, List.set_cons_succ])
          (refine wpAnyH_ready (rs := [2]) (by kernel_rfl) (by simp) ?_; refine AllReadyH.cons rfl (fun K hK => ?_) AllReadyH.nil)
          go_simp
          refine (hih.out _).mono ?_
          rintro e W1 ⟨rfl, hb1⟩
          have hb3 : Hid (Below w.heap.size w W1) := hb2.out.trans (hb1.mono hb2.out.size)
          dsimp only
          (refine hK.out _ _ (trivial) (fun hHeld => ?_); clear hK K; try simp only [Act.put, List.getElem_toArray, List.getElem_cons_succ, List.getElem_cons_zero, List.setIfInBounds_toArray, List.set_cons_zero, List.set_cons_succ])
          (refine wpAnyH_take (i := 9) (v := (.string (sq ++ s1))) rfl (by kernel_rfl) (by kernel_rfl) (by kernel_rfl) (fun _ _ _ h => h) (Or.inl ⟨by rfl, (by intro w hSw; go_simp)⟩) (by assumption) ?_; try simp only [Act.put, List.getElem_toArray, List.getElem_cons_succ, List.getElem_cons_zero, List.setIfInBounds_toArray, List.set_cons_zero, List.set_cons_succ])
          rw [hst.out]
          (refine wpAnyH_take (i := 10) (v := (.string sn)) rfl (by kernel_rfl) (by kernel_rfl) (by kernel_rfl) (fun _ _ _ h => h) (Or.inl ⟨by rfl, (by intro w hSw; go_simp)⟩) (by assumption) ?_; try simp only [Act.put, List.getElem_toArray, List.getElem_cons_succ, List.getElem_cons_zero, List.setIfInBounds_toArray, List.set_cons_zero, List.set_cons_succ])
          refine wpAnyH_done (by kernel_rfl) ?_ _
          go_wp2_with fail
          go_ret
          exact ⟨rfl, hb3.out⟩

end Go.Proofs.YtoklonmiejdgmaaGreatDoor
