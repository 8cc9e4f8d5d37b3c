/- Chapter 4, the reference: guests, isGuest, slots, need. -/
import Derived.Test.YtmchaaelpbifgaaCfA
import Derived.Test.YtmchaaelpbifgaaCfRef
namespace Go.Proofs.Ytmchaaelpbifgaa
set_option linter.unusedVariables false
set_option linter.unusedSimpArgs false
set_option linter.unnecessarySimpa false
open Go.RowKit
set_option maxHeartbeats 4000000
set_option maxRecDepth 100000
set_option linter.unusedVariables false
variable {W W' w : World} {c : Cv} {b N : Nat} {s : Sl}
theorem isGuest_any (c : Cv) (i : Int) (w : World) (h : CfgOk w c) : Calls Try.prog 49 #[(.agg #[.int .i64 c.cats, .slice c.g.a c.g.l.length c.g.cap, .slice c.r.a c.r.l.length c.r.cap, .slice c.p.a c.p.l.length c.p.cap, .slice c.n.a c.n.l.length c.n.cap, .slice c.s.a c.s.l.length c.s.cap, .int .i64 c.gate, .int .i64 c.quota]), .int .i64 i] w fun e w' => e = .returned (.bool (isG c i)) ∧ Below w.heap.size w w' := by
  have HI : Hid (isG c i = (decide (0 ≤ i) && decide (i < c.g.l.length))) := rfl
  obtain ⟨x, hx⟩ : ∃ x, x = isG c i := ⟨_, rfl⟩
  rw [← hx] at HI ⊢
  have h0 := CX.new h
  have H0 := Lib.hid h0
  clear h0 h hx
  by_cases h0 : 0 ≤ i
  · have d0 : decide (i ≥ 0) = true := by simp [h0]
    by_cases h1 : i < c.g.l.length
    · have d1 : decide (i < c.g.l.length) = true := by simp [h1]
      have hx : x = true := by rw [HI.out]; simp [h0, h1]
      subst hx
      go_enter Try.func49, Try.ntmps49
      go_upto_region 1 with fail
      (have q0 := H0.out.ob.cell 0 _ rfl; have q1 := H0.out.ob.cell 1 _ rfl; have q2 := H0.out.ob.cell 2 _ rfl; have q3 := H0.out.ob.cell 3 _ rfl; have q4 := H0.out.ob.cell 4 _ rfl; have q5 := H0.out.ob.cell 5 _ rfl; have q6 := H0.out.ob.cell 6 _ rfl; have q7 := H0.out.ob.cell 7 _ rfl)
      go_wp2_with fail
      go_ret
      exact ⟨rfl, H0.out.bel⟩
    · have d1 : decide (i < c.g.l.length) = false := by simpa using h1
      have hx : x = false := by rw [HI.out]; simp [h1]
      subst hx
      go_enter Try.func49, Try.ntmps49
      go_upto_region 1 with fail
      (have q0 := H0.out.ob.cell 0 _ rfl; have q1 := H0.out.ob.cell 1 _ rfl; have q2 := H0.out.ob.cell 2 _ rfl; have q3 := H0.out.ob.cell 3 _ rfl; have q4 := H0.out.ob.cell 4 _ rfl; have q5 := H0.out.ob.cell 5 _ rfl; have q6 := H0.out.ob.cell 6 _ rfl; have q7 := H0.out.ob.cell 7 _ rfl)
      go_wp2_with fail
      go_ret
      exact ⟨rfl, H0.out.bel⟩
  · have d0 : decide (i ≥ 0) = false := by simp; omega
    have hx : x = false := by rw [HI.out]; simp [h0]
    subst hx
    go_enter Try.func49, Try.ntmps49
    go_upto_region 1 with fail
    (have q0 := H0.out.ob.cell 0 _ rfl; have q1 := H0.out.ob.cell 1 _ rfl; have q2 := H0.out.ob.cell 2 _ rfl; have q3 := H0.out.ob.cell 3 _ rfl; have q4 := H0.out.ob.cell 4 _ rfl; have q5 := H0.out.ob.cell 5 _ rfl; have q6 := H0.out.ob.cell 6 _ rfl; have q7 := H0.out.ob.cell 7 _ rfl)
    go_wp2_with fail
    go_ret
    exact ⟨rfl, H0.out.bel⟩
theorem rguests_any (c : Cv) (w : World) (h : CfgOk w c) : Calls Try.prog 44 #[(.agg #[.int .i64 c.cats, .slice c.g.a c.g.l.length c.g.cap, .slice c.r.a c.r.l.length c.r.cap, .slice c.p.a c.p.l.length c.p.cap, .slice c.n.a c.n.l.length c.n.cap, .slice c.s.a c.s.l.length c.s.cap, .int .i64 c.gate, .int .i64 c.quota])] w fun e w' => e = .returned (.tuple #[.bool (gFst c).2, .int .i64 (gFst c).1]) ∧ Below w.heap.size w w' := by
  have hm := h.g.mx
  obtain ⟨x, hx⟩ : ∃ x, x = gFst c := ⟨_, rfl⟩
  rw [← hx]
  have HX := Lib.hid hx
  clear hx
  by_cases h1 : c.g.l.length < 1
  · have d1 : decide ((c.g.l.length : Int) < 1) = true := by simp; omega
    have hx : x = (0, true) := by rw [HX.out, gFst, if_pos (Or.inl h1)]
    subst hx
    clear h1
    (have h0 := CX.new h; go_enter Try.func44, Try.ntmps44; go_upto_region 1 with fail; generalize w.alloc (.cells #[.int .i64 c.cats, .slice c.g.a c.g.l.length c.g.cap, .slice c.r.a c.r.l.length c.r.cap, .slice c.p.a c.p.l.length c.p.cap, .slice c.n.a c.n.l.length c.n.cap, .slice c.s.a c.s.l.length c.s.cap, .int .i64 c.gate, .int .i64 c.quota] 28) = W1 at h0 ⊢; generalize w.heap.size = b0 at h0 ⊢; have H0 := Lib.hid h0; clear h0 h)
    (have q0 := H0.out.ob.cell 0 _ rfl; have q1 := H0.out.ob.cell 1 _ rfl; have q2 := H0.out.ob.cell 2 _ rfl; have q3 := H0.out.ob.cell 3 _ rfl; have q4 := H0.out.ob.cell 4 _ rfl; have q5 := H0.out.ob.cell 5 _ rfl; have q6 := H0.out.ob.cell 6 _ rfl; have q7 := H0.out.ob.cell 7 _ rfl)
    go_wp2_with fail
    go_ret2
    exact ⟨rfl, H0.out.bel⟩
  · have d1 : decide ((c.g.l.length : Int) < 1) = false := by simp; omega
    by_cases h2 : 4 < c.g.l.length
    · have d2 : decide ((c.g.l.length : Int) > 4) = true := by simp; omega
      have hx : x = (0, true) := by rw [HX.out, gFst, if_pos (Or.inr h2)]
      subst hx
      clear h1 h2
      (have h0 := CX.new h; go_enter Try.func44, Try.ntmps44; go_upto_region 1 with fail; generalize w.alloc (.cells #[.int .i64 c.cats, .slice c.g.a c.g.l.length c.g.cap, .slice c.r.a c.r.l.length c.r.cap, .slice c.p.a c.p.l.length c.p.cap, .slice c.n.a c.n.l.length c.n.cap, .slice c.s.a c.s.l.length c.s.cap, .int .i64 c.gate, .int .i64 c.quota] 28) = W1 at h0 ⊢; generalize w.heap.size = b0 at h0 ⊢; have H0 := Lib.hid h0; clear h0 h)
      (have q0 := H0.out.ob.cell 0 _ rfl; have q1 := H0.out.ob.cell 1 _ rfl; have q2 := H0.out.ob.cell 2 _ rfl; have q3 := H0.out.ob.cell 3 _ rfl; have q4 := H0.out.ob.cell 4 _ rfl; have q5 := H0.out.ob.cell 5 _ rfl; have q6 := H0.out.ob.cell 6 _ rfl; have q7 := H0.out.ob.cell 7 _ rfl)
      go_wp2_with fail
      go_ret2
      exact ⟨rfl, H0.out.bel⟩
    · have d2 : decide ((c.g.l.length : Int) > 4) = false := by simp; omega
      replace HX : Hid (x = fstV (gBad c) c.g.l.length) := by rw [Hid, HX.out, gFst, if_neg (by omega)]
      clear h1 h2
      (have h0 := CX.new h; go_enter Try.func44, Try.ntmps44; go_upto_region 1 with fail; generalize w.alloc (.cells #[.int .i64 c.cats, .slice c.g.a c.g.l.length c.g.cap, .slice c.r.a c.r.l.length c.r.cap, .slice c.p.a c.p.l.length c.p.cap, .slice c.n.a c.n.l.length c.n.cap, .slice c.s.a c.s.l.length c.s.cap, .int .i64 c.gate, .int .i64 c.quota] 28) = W1 at h0 ⊢; generalize w.heap.size = b0 at h0 ⊢; have H0 := Lib.hid h0; clear h0 h)
      (have q0 := H0.out.ob.cell 0 _ rfl; have q1 := H0.out.ob.cell 1 _ rfl; have q2 := H0.out.ob.cell 2 _ rfl; have q3 := H0.out.ob.cell 3 _ rfl; have q4 := H0.out.ob.cell 4 _ rfl; have q5 := H0.out.ob.cell 5 _ rfl; have q6 := H0.out.ob.cell 6 _ rfl; have q7 := H0.out.ob.cell 7 _ rfl)
      go_upto_region 4 with fail
      clear q0 q1 q2 q3 q4 q5 q6 q7
      go_loopw [4] (fun z wr => ∃ k : Nat, k ≤ c.g.l.length ∧ z = .int .i64 k ∧ CX w wr b0 c ∧ ∀ j, j < k → gBad c j = false) (fun z _ => c.g.l.length - (intOf z).toNat)
      case atStart => exact ⟨0, by omega, rfl, H0.out, fun j hj => by omega⟩
      case round =>
        clear H0
        (obtain ⟨k, hk, rfl, hxk, hj⟩ := hrel; have XK := Lib.hid hxk; have KP := Lib.hid hj; clear hxk hj; (have q0 := XK.out.ob.cell 0 _ rfl; have q1 := XK.out.ob.cell 1 _ rfl; have q2 := XK.out.ob.cell 2 _ rfl; have q3 := XK.out.ob.cell 3 _ rfl; have q4 := XK.out.ob.cell 4 _ rfl; have q5 := XK.out.ob.cell 5 _ rfl; have q6 := XK.out.ob.cell 6 _ rfl; have q7 := XK.out.ob.cell 7 _ rfl))
        by_cases hkl : k < c.g.l.length
        · have dk : decide ((k : Int) < (c.g.l.length : Int)) = true := by simp; omega
          have kz : (0 : Int) ≤ (k : Int) := by omega
          have kl : (k : Int) < (c.g.l.length : Int) := by omega
          have w1 : IntKind.i64.wrap ((k : Int) + 1) = (k : Int) + 1 := by rw [IntKind.wrap_i64]; omega
          obtain ⟨bx, ox, hax, hcx⟩ := XK.out.ok.g.cells (by omega) k hkl
          obtain ⟨lb, pg, sp, hrow⟩ := row3 hkl XK.out.ok.g.len
          have HGB : Hid (gBad c k = (!(validB lb c.cats) || (decide (pg < 1) || (decide (8 < pg) || (decide (sp < 0) || decide (8 - pg < sp)))))) := by rw [Hid, gBad, at_eq hkl, at_eq hkl, at_eq hkl, hrow]; rfl
          rw [hrow] at hcx
          have c0 := hcx _ (Below.refl _ _) 0 _ rfl; have c1 := hcx _ (Below.refl _ _) 1 _ rfl; have c2 := hcx _ (Below.refl _ _) 2 _ rfl
          simp only [Nat.add_zero] at c0
          rw [hax] at q1
          clear hcx hrow hax
          go_upto_region 7 with fail
          (have R1 : Hid (ObjAt (wr.alloc (.cells ([.int .i64 lb, .int .i64 pg, .int .i64 sp] : List Value).toArray 34)) wr.heap.size 34 [.int .i64 lb, .int .i64 pg, .int .i64 sp]) := ObjAt.new wr _ _; have X1 : Hid (CX w (wr.alloc (.cells ([.int .i64 lb, .int .i64 pg, .int .i64 sp] : List Value).toArray 34)) b0 c) := XK.out.below ((Below.refl _ _).alloc (Nat.le_refl _) _); generalize wr.alloc (.cells ([.int .i64 lb, .int .i64 pg, .int .i64 sp] : List Value).toArray 34) = W1r at R1 X1 ⊢; generalize wr.heap.size = rr at R1 ⊢)
          clear q0 q1 q2 q3 q4 q5 q6 q7 c0 c1 c2
          have r0 := R1.out.cell 0 _ rfl; have r1 := R1.out.cell 1 _ rfl; have r2 := R1.out.cell 2 _ rfl
          have q0 := X1.out.ob.cell 0 _ rfl
          obtain ⟨vb, hvb⟩ : ∃ v, v = validB lb c.cats := ⟨_, rfl⟩
          have VAL : Hid (∀ W, Calls Try.prog 62 #[.int .i64 lb, .int .i64 c.cats] W fun e w' => e = .returned (.bool vb) ∧ W = w') := fun W => by rw [hvb]; exact Valid_ref _ _ _
          rw [← hvb] at HGB
          clear hvb
          cases vb with
          | false => ((have hx : x = ((k : Int), true) := (by rw [HX.out]; exact fstV_hit hkl KP.out (by rw [HGB.out]; simp [*])); subst hx); clear HGB; go_wp2_with (go_at_call 62; refine (VAL.out _).mono ?_; rintro e Wv ⟨rfl, rfl⟩); go_ret2; exact ⟨rfl, X1.out.bel⟩)
          | true =>
            by_cases h1 : pg < 1
            · have d1 : decide (pg < 1) = true := by simp [h1]
              ((have hx : x = ((k : Int), true) := (by rw [HX.out]; exact fstV_hit hkl KP.out (by rw [HGB.out]; simp [*])); subst hx); clear HGB h1; go_wp2_with (go_at_call 62; refine (VAL.out _).mono ?_; rintro e Wv ⟨rfl, rfl⟩); go_ret2; exact ⟨rfl, X1.out.bel⟩)
            · have d1 : decide (pg < 1) = false := by simp [h1]
              by_cases h2 : 8 < pg
              · have d2 : decide (pg > 8) = true := by simp [h2]
                ((have hx : x = ((k : Int), true) := (by rw [HX.out]; exact fstV_hit hkl KP.out (by rw [HGB.out]; simp [*])); subst hx); clear HGB h1 h2; go_wp2_with (go_at_call 62; refine (VAL.out _).mono ?_; rintro e Wv ⟨rfl, rfl⟩); go_ret2; exact ⟨rfl, X1.out.bel⟩)
              · have d2 : decide (pg > 8) = false := by simpa using h2
                have w8 : IntKind.i64.wrap (8 - pg) = 8 - pg := by rw [IntKind.wrap_i64]; omega
                by_cases h3 : sp < 0
                · have d3 : decide (sp < 0) = true := by simp [h3]
                  ((have hx : x = ((k : Int), true) := (by rw [HX.out]; exact fstV_hit hkl KP.out (by rw [HGB.out]; simp [*])); subst hx); clear HGB h1 h2 h3; go_wp2_with (go_at_call 62; refine (VAL.out _).mono ?_; rintro e Wv ⟨rfl, rfl⟩); go_ret2; exact ⟨rfl, X1.out.bel⟩)
                · have d3 : decide (sp < 0) = false := by simpa using h3
                  by_cases h4 : 8 - pg < sp
                  · have d4 : decide (sp > 8 - pg) = true := by simp [h4]
                    ((have hx : x = ((k : Int), true) := (by rw [HX.out]; exact fstV_hit hkl KP.out (by rw [HGB.out]; simp [*])); subst hx); clear HGB h1 h2 h3 h4; go_wp2_with (go_at_call 62; refine (VAL.out _).mono ?_; rintro e Wv ⟨rfl, rfl⟩); go_ret2; exact ⟨rfl, X1.out.bel⟩)
                  · have d4 : decide (sp > 8 - pg) = false := by simpa using h4
                    have hgb : gBad c k = false := by rw [HGB.out]; simp only [h1, h2, h3, h4, decide_false, Bool.not_true, Bool.or_false]
                    have KP2 : Hid (∀ j, j < k + 1 → gBad c j = false) := fun j hj => by
                      by_cases hjk : j = k
                      · rw [hjk]; exact hgb
                      · exact KP.out j (by omega)
                    clear h1 h2 h3 h4 hgb HGB
                    go_wp2_with (go_at_call 62; refine (VAL.out _).mono ?_; rintro e Wv ⟨rfl, rfl⟩)
                    go_roundw
                    case rel => exact ⟨k + 1, by omega, by go_num, X1.out, KP2.out⟩
                    case measure => simp [intOf]; omega
        · have dk : decide ((k : Int) < (c.g.l.length : Int)) = false := by simp; omega
          have hx : x = (0, false) := by rw [HX.out]; exact fstV_none (fun j hj => KP.out j (by omega))
          subst hx
          go_wp2_with fail
          go_ret2
          exact ⟨rfl, XK.out.bel⟩
end Go.Proofs.Ytmchaaelpbifgaa
