/- The law ConfigFlows: the walk. -/
import Derived.Test.YtmchaaelpbifgaaCfOpen
namespace Go.Proofs.Ytmchaaelpbifgaa
set_option linter.unusedVariables false
set_option linter.unusedSimpArgs false
set_option linter.unnecessarySimpa false
open Go.RowKit Go.Sort
set_option maxHeartbeats 8000000
set_option maxRecDepth 100000
set_option linter.unusedVariables false
variable {W W' w : World} {c : Cv} {b N : Nat} {s : Sl}
/-- What a right ring says. -/
theorem ring_ok {c : Cv} (h : Rt c) {k : Nat} (hk : k < c.n.l.length) {fr tt : Int} (hrow : c.n.l[k] = [fr, tt]) : isG c fr = true ∧ isG c tt = true ∧ fr ≠ tt ∧ flB (labG c fr) (labG c tt) = true := by
  have := h.n.2 k hk
  rw [nBad, at_eq hk, at_eq hk, hrow] at this
  simpa [Bool.or_eq_false_iff] using this
/-- What the first port of a guest says. -/
theorem port_ok {c : Cv} (h : Rt c) {g : Nat} (hg : g < c.g.l.length) : (portV c g = -1) ∨ ∃ i : Nat, portV c g = i ∧ i < c.p.l.length ∧ at_ c.p.l i 1 = g ∧ at_ c.p.l i 0 = at_ c.g.l g 0 := by
  unfold portV
  split
  · split
    · rename_i h2
      right
      unfold fstV at h2 ⊢
      cases hf : (List.range c.p.l.length).find? (portB c g) with
      | none => rw [hf] at h2; cases h2
      | some i =>
        have h3 := List.find?_some hf
        have h4 := List.mem_range.1 (List.mem_of_find?_eq_some hf)
        refine ⟨i, rfl, h4, by simpa [portB] using h3, ?_⟩
        have h5 := h.p.2 i h4
        have h6 : at_ c.p.l i 1 = g := by simpa [portB] using h3
        unfold pBad at h5
        rw [h6] at h5
        simp only [Bool.or_eq_false_iff, Bool.and_eq_false_iff] at h5
        rcases h5.2 with h7 | h7
        · have h8 : ((g : Int) == -1) = false := by simp
          rw [h8] at h7; simp at h7
        · have h8 := h7.2.1
          simp only [Bool.not_eq_false', beq_iff_eq] at h8
          rw [h8, labG, Int.toNat_natCast]
    · exact .inl rfl
  · exact .inl rfl
theorem flows_walk (c : Cv) (w : World) (h : CfgOk w c) : Calls Try.prog 4 #[(.agg #[.int .i64 c.cats, .slice c.g.a c.g.l.length c.g.cap, .slice c.r.a c.r.l.length c.r.cap, .slice c.p.a c.p.l.length c.p.cap, .slice c.n.a c.n.l.length c.n.cap, .slice c.s.a c.s.l.length c.s.cap, .int .i64 c.gate, .int .i64 c.quota])] w fun e w' => e = .returned (.bool true) ∧ Below w.heap.size w w' := by
  obtain ⟨z, hz⟩ : ∃ z, z = chkV c := ⟨_, rfl⟩
  have CHK : Hid (∀ W, CfgOk W c → Calls Try.prog 7 #[(.agg #[.int .i64 c.cats, .slice c.g.a c.g.l.length c.g.cap, .slice c.r.a c.r.l.length c.r.cap, .slice c.p.a c.p.l.length c.p.cap, .slice c.n.a c.n.l.length c.n.cap, .slice c.s.a c.s.l.length c.s.cap, .int .i64 c.gate, .int .i64 c.quota])] W fun e w' => e = .returned (.tuple #[.int .i64 z.1, .int .i64 z.2]) ∧ Below W.heap.size W w') := fun W hc => by rw [hz]; exact check_any c _ hc
  have HZ := Lib.hid hz
  clear hz
  by_cases h0 : z.1 = 0
  · have d0 : (z.1 != 0) = false := by simp [h0]
    have RT := Lib.hid (rt_of (c := c) (by rw [rightV, ← HZ.out, h0]; rfl))
    have hl4 := RT.out.g.1
    have hn4 := RT.out.n.1
    clear h0 HZ
    ((have h0 := CX.new h; go_enter Try.func4, Try.ntmps4; go_upto_region 1 with fail; generalize w.alloc (.cells #[.int .i64 c.cats, .slice c.g.a c.g.l.length c.g.cap, .slice c.r.a c.r.l.length c.r.cap, .slice c.p.a c.p.l.length c.p.cap, .slice c.n.a c.n.l.length c.n.cap, .slice c.s.a c.s.l.length c.s.cap, .int .i64 c.gate, .int .i64 c.quota] 28) = W1 at h0 ⊢; generalize w.heap.size = b0 at h0 ⊢; have H0 := Lib.hid h0; clear h0 h); have XK := H0; clear H0; (have q0 := XK.out.ob.cell 0 _ rfl; have q1 := XK.out.ob.cell 1 _ rfl; have q2 := XK.out.ob.cell 2 _ rfl; have q3 := XK.out.ob.cell 3 _ rfl; have q4 := XK.out.ob.cell 4 _ rfl; have q5 := XK.out.ob.cell 5 _ rfl; have q6 := XK.out.ob.cell 6 _ rfl; have q7 := XK.out.ob.cell 7 _ rfl))
    go_upto_region 5 with (go_at_call 7; refine (CHK.out _ XK.out.ok).mono ?_; rintro e Wc ⟨rfl, hb⟩; replace XK := Lib.hid (XK.out.below hb); clear hb; (replace q0 := XK.out.ob.cell 0 _ rfl; replace q1 := XK.out.ob.cell 1 _ rfl; replace q2 := XK.out.ob.cell 2 _ rfl; replace q3 := XK.out.ob.cell 3 _ rfl; replace q4 := XK.out.ob.cell 4 _ rfl; replace q5 := XK.out.ob.cell 5 _ rfl; replace q6 := XK.out.ob.cell 6 _ rfl; replace q7 := XK.out.ob.cell 7 _ rfl))
    clear q0 q1 q2 q3 q4 q5 q6 q7
    go_loopw [5] (fun z wr => ∃ k : Nat, k ≤ c.n.l.length ∧ z = .int .i64 k ∧ CX w wr b0 c) (fun z _ => c.n.l.length - (intOf z).toNat)
    case atStart => exact ⟨0, by omega, rfl, XK.out⟩
    case round =>
      clear XK CHK
      obtain ⟨k, hk, rfl, hxk⟩ := hrel
      have XK := Lib.hid hxk
      clear hxk
      (have q0 := XK.out.ob.cell 0 _ rfl; have q1 := XK.out.ob.cell 1 _ rfl; have q2 := XK.out.ob.cell 2 _ rfl; have q3 := XK.out.ob.cell 3 _ rfl; have q4 := XK.out.ob.cell 4 _ rfl; have q5 := XK.out.ob.cell 5 _ rfl; have q6 := XK.out.ob.cell 6 _ rfl; have q7 := XK.out.ob.cell 7 _ rfl)
      by_cases hkl : k < c.n.l.length
      · have dk : decide ((k : Int) < (c.n.l.length : Int)) = true := by simp; omega
        have kz : (0 : Int) ≤ (k : Int) := by omega
        have kl : (k : Int) < (c.n.l.length : Int) := by omega
        have w1 : IntKind.i64.wrap ((k : Int) + 1) = (k : Int) + 1 := by rw [IntKind.wrap_i64]; omega
        obtain ⟨bx, ox, hax, hcx⟩ := XK.out.ok.n.cells (by omega) k hkl
        obtain ⟨fr, tt, hrow⟩ := row2 hkl XK.out.ok.n.len
        obtain ⟨hva, hvb, hft, hfl⟩ := ring_ok RT.out hkl hrow
        rw [hrow] at hcx
        have c0 := hcx _ (Below.refl _ _) 0 _ rfl; have c1 := hcx _ (Below.refl _ _) 1 _ rfl
        simp only [Nat.add_zero] at c0
        have ga := (isG_iff c fr).1 hva; have gb := (isG_iff c tt).1 hvb
        obtain ⟨f', rfl⟩ : ∃ f' : Nat, fr = f' := ⟨fr.toNat, by omega⟩
        obtain ⟨t', rfl⟩ : ∃ t' : Nat, tt = t' := ⟨tt.toNat, by omega⟩
        have hfl' : f' < c.g.l.length := by omega
        have htl' : t' < c.g.l.length := by omega
        obtain ⟨gx, go, hga, hgc⟩ := XK.out.ok.g.cells (by omega) f' hfl'
        obtain ⟨gx2, go2, hga2, hgc2⟩ := XK.out.ok.g.cells (by omega) t' htl'
        rw [hga] at hga2
        obtain ⟨rfl, rfl⟩ : gx = gx2 ∧ go = go2 := by simpa using hga2
        obtain ⟨la, y1, z1, hr1⟩ := row3 hfl' XK.out.ok.g.len
        obtain ⟨lb, y2, z2, hr2⟩ := row3 htl' XK.out.ok.g.len
        rw [labG, labG, Int.toNat_natCast, Int.toNat_natCast, at_eq hfl', at_eq htl', hr1, hr2] at hfl
        simp only [List.getD_cons_zero] at hfl
        have HFL := Lib.hid hfl
        rw [hr1] at hgc; rw [hr2] at hgc2
        have HG0 : Hid (∀ W', Below wr.heap.size wr W' → W'.cell? ⟨gx, go + f' * 3, none⟩ = some (.int .i64 la) ∧ W'.cell? ⟨gx, go + t' * 3, none⟩ = some (.int .i64 lb)) := fun W' hb => by
          have e1 := hgc _ hb 0 _ rfl; have e2 := hgc2 _ hb 0 _ rfl
          simp only [Nat.add_zero] at e1 e2
          exact ⟨e1, e2⟩
        have dq : ((f' : Int) == (t' : Int)) = false := by simpa using hft
        have k1 : (f' : Int) < (c.g.l.length : Int) := by omega
        have k2 : (t' : Int) < (c.g.l.length : Int) := by omega
        have k3 : (0 : Int) ≤ (f' : Int) := by omega
        have k4 : (0 : Int) ≤ (t' : Int) := by omega
        have e1 : decide ((f' : Int) < 0) = false := by simp
        have e2 : decide ((t' : Int) < 0) = false := by simp
        have e3 : decide ((f' : Int) ≥ (c.g.l.length : Int)) = false := by simp; omega
        have e4 : decide ((t' : Int) ≥ (c.g.l.length : Int)) = false := by simp; omega
        have e3' : decide (c.g.l.length ≤ f') = false := by simp; omega
        have e4' : decide (c.g.l.length ≤ t') = false := by simp; omega
        have dq' : (f' == t') = false := by simp; omega
        rw [hax] at q4
        have HGA := Lib.hid hga
        clear hva hvb hft hfl ga gb hga hgc hga2 hgc2 hr1 hr2 hcx hrow hax hfl' htl'
        go_upto_region 8 with fail
        (have R1 : Hid (ObjAt (wr.alloc (.cells ([.int .i64 f', .int .i64 t'] : List Value).toArray 38)) wr.heap.size 38 [.int .i64 f', .int .i64 t']) := ObjAt.new wr _ _; have B1 : Hid (Below wr.heap.size wr (wr.alloc (.cells ([.int .i64 f', .int .i64 t'] : List Value).toArray 38))) := (Below.refl _ _).alloc (Nat.le_refl _) _; have X1 : Hid (CX w (wr.alloc (.cells ([.int .i64 f', .int .i64 t'] : List Value).toArray 38)) b0 c) := XK.out.below ((Below.refl _ _).alloc (Nat.le_refl _) _); generalize wr.alloc (.cells ([.int .i64 f', .int .i64 t'] : List Value).toArray 38) = W1r at R1 X1 B1 ⊢; generalize hrr : wr.heap.size = rr at R1 ⊢)
        clear hrr
        clear q0 q1 q2 q3 q4 q5 q6 q7 c0 c1
        have r0 := R1.out.cell 0 _ rfl; have r1 := R1.out.cell 1 _ rfl
        have q1 := X1.out.ob.cell 1 _ rfl
        rw [HGA.out] at q1
        have g0 := (HG0.out _ B1.out).1; have g1 := (HG0.out _ B1.out).2
        go_quiet ((go_at_call 9; exact quiet_same ((flows_any _ _ _).mono fun _ _ h => (⟨h.1.trans (congrArg (fun x => Ending.returned (.bool x)) HFL.out), h.2⟩ : _ = Ending.returned (.bool true) ∧ _))))
        go_wp2_with fail
        go_roundw
        case rel => exact ⟨k + 1, by omega, by go_num, X1.out.below (below_drewN (Below.refl _ _) _)⟩
        case measure => simp [intOf]; omega
      · have dk : decide ((k : Int) < (c.n.l.length : Int)) = false := by simp; omega
        go_upto_region 11 with fail
        clear q0 q1 q2 q3 q4 q5 q6 q7
        go_loopw [7] (fun z wr => ∃ k : Nat, k ≤ c.g.l.length ∧ z = .int .i64 k ∧ CX w wr b0 c) (fun z _ => c.g.l.length - (intOf z).toNat)
        case atStart => exact ⟨0, by omega, rfl, XK.out⟩
        case round =>
          clear XK hkl dk hk
          obtain ⟨g, hg, rfl, hxk⟩ := hrel
          have XK := Lib.hid hxk
          clear hxk
          (have q0 := XK.out.ob.cell 0 _ rfl; have q1 := XK.out.ob.cell 1 _ rfl; have q2 := XK.out.ob.cell 2 _ rfl; have q3 := XK.out.ob.cell 3 _ rfl; have q4 := XK.out.ob.cell 4 _ rfl; have q5 := XK.out.ob.cell 5 _ rfl; have q6 := XK.out.ob.cell 6 _ rfl; have q7 := XK.out.ob.cell 7 _ rfl)
          by_cases hgl : g < c.g.l.length
          · have dk : decide ((g : Int) < (c.g.l.length : Int)) = true := by simp; omega
            have kz : (0 : Int) ≤ (g : Int) := by omega
            have kl : (g : Int) < (c.g.l.length : Int) := by omega
            have w1 : IntKind.i64.wrap ((g : Int) + 1) = (g : Int) + 1 := by rw [IntKind.wrap_i64]; omega
            rcases port_ok RT.out hgl with hp | ⟨i, hp, hi, hat, hlab⟩
            · have POR : Hid (∀ W, CfgOk W c → Calls Try.prog 10 #[(.agg #[.int .i64 c.cats, .slice c.g.a c.g.l.length c.g.cap, .slice c.r.a c.r.l.length c.r.cap, .slice c.p.a c.p.l.length c.p.cap, .slice c.n.a c.n.l.length c.n.cap, .slice c.s.a c.s.l.length c.s.cap, .int .i64 c.gate, .int .i64 c.quota]), .int .i64 g] W fun e w' => e = .returned (.int .i64 (-1)) ∧ Below W.heap.size W w') := fun W hc => by rw [← hp]; exact portof_any c g _ hc
              have e1 : decide ((-1 : Int) ≥ (c.p.l.length : Int)) = false := by simp; omega
              have e2 : decide ((-1 : Int) ≥ 0) = false := by decide
              clear hp
              go_upto_region 14 with (go_at_call 10; refine (POR.out _ XK.out.ok).mono ?_; rintro e Wc ⟨rfl, hb⟩; replace XK := Lib.hid (XK.out.below hb); clear hb; (replace q0 := XK.out.ob.cell 0 _ rfl; replace q1 := XK.out.ob.cell 1 _ rfl; replace q2 := XK.out.ob.cell 2 _ rfl; replace q3 := XK.out.ob.cell 3 _ rfl; replace q4 := XK.out.ob.cell 4 _ rfl; replace q5 := XK.out.ob.cell 5 _ rfl; replace q6 := XK.out.ob.cell 6 _ rfl; replace q7 := XK.out.ob.cell 7 _ rfl))
              go_quiet (fail)
              go_wp2_with fail
              go_roundw
              case rel => exact ⟨g + 1, by omega, by go_num, XK.out.below (below_drewN (Below.refl _ _) _)⟩
              case measure => simp [intOf]; omega
            · have POR : Hid (∀ W, CfgOk W c → Calls Try.prog 10 #[(.agg #[.int .i64 c.cats, .slice c.g.a c.g.l.length c.g.cap, .slice c.r.a c.r.l.length c.r.cap, .slice c.p.a c.p.l.length c.p.cap, .slice c.n.a c.n.l.length c.n.cap, .slice c.s.a c.s.l.length c.s.cap, .int .i64 c.gate, .int .i64 c.quota]), .int .i64 g] W fun e w' => e = .returned (.int .i64 i) ∧ Below W.heap.size W w') := fun W hc => by rw [← hp]; exact portof_any c g _ hc
              have e1 : decide ((i : Int) ≥ (c.p.l.length : Int)) = false := by simp; omega
              have e1' : decide (c.p.l.length ≤ i) = false := by simp; omega
              have e2 : decide ((i : Int) ≥ 0) = true := by simp
              have iz : (0 : Int) ≤ (i : Int) := by omega
              have il : (i : Int) < (c.p.l.length : Int) := by omega
              go_upto_region 14 with (go_at_call 10; refine (POR.out _ XK.out.ok).mono ?_; rintro e Wc ⟨rfl, hb⟩; replace XK := Lib.hid (XK.out.below hb); clear hb; (replace q0 := XK.out.ob.cell 0 _ rfl; replace q1 := XK.out.ob.cell 1 _ rfl; replace q2 := XK.out.ob.cell 2 _ rfl; replace q3 := XK.out.ob.cell 3 _ rfl; replace q4 := XK.out.ob.cell 4 _ rfl; replace q5 := XK.out.ob.cell 5 _ rfl; replace q6 := XK.out.ob.cell 6 _ rfl; replace q7 := XK.out.ob.cell 7 _ rfl))
              obtain ⟨gx, go, hga, hgc⟩ := XK.out.ok.g.cells (by omega) g hgl
              obtain ⟨px, po, hpa, hpc⟩ := XK.out.ok.p.cells (by omega) i hi
              obtain ⟨la, y1, z1, hr1⟩ := row3 hgl XK.out.ok.g.len
              obtain ⟨lb, gu, hr2⟩ := row2 hi XK.out.ok.p.len
              rw [at_eq hi, hr2] at hat
              rw [at_eq hi, at_eq hgl, hr1, hr2] at hlab
              simp only [List.getD_cons_succ, List.getD_cons_zero] at hat hlab
              subst hat hlab
              rw [hr1] at hgc; rw [hr2] at hpc
              have g0 := hgc _ (Below.refl _ _) 0 _ rfl
              have p0 := hpc _ (Below.refl _ _) 0 _ rfl
              have p1 := hpc _ (Below.refl _ _) 1 _ rfl
              simp only [Nat.add_zero] at g0 p0
              have dn1 : ((g : Int) != (g : Int)) = false := by simp
              have dn2 : (lb != lb) = false := by simp
              rw [hga] at q1; rw [hpa] at q3
              clear hp hga hpa hgc hpc hr1 hr2
              go_quiet (fail)
              go_wp2_with fail
              go_roundw
              case rel => exact ⟨g + 1, by omega, by go_num, XK.out.below (below_drewN (Below.refl _ _) _)⟩
              case measure => simp [intOf]; omega
          · have dk : decide ((g : Int) < (c.g.l.length : Int)) = false := by simp; omega
            go_wp2_with (go_at_call 8; refine (awake_any _).mono ?_; rintro e wa ⟨rfl, hb⟩; replace XK := Lib.hid (XK.out.below hb); clear hb)
            go_ret
            exact ⟨rfl, XK.out.bel⟩
  · have d0 : (z.1 != 0) = true := by simp [h0]
    clear h0 HZ
    ((have h0 := CX.new h; go_enter Try.func4, Try.ntmps4; go_upto_region 1 with fail; generalize w.alloc (.cells #[.int .i64 c.cats, .slice c.g.a c.g.l.length c.g.cap, .slice c.r.a c.r.l.length c.r.cap, .slice c.p.a c.p.l.length c.p.cap, .slice c.n.a c.n.l.length c.n.cap, .slice c.s.a c.s.l.length c.s.cap, .int .i64 c.gate, .int .i64 c.quota] 28) = W1 at h0 ⊢; generalize w.heap.size = b0 at h0 ⊢; have H0 := Lib.hid h0; clear h0 h); have XK := H0; clear H0; (have q0 := XK.out.ob.cell 0 _ rfl; have q1 := XK.out.ob.cell 1 _ rfl; have q2 := XK.out.ob.cell 2 _ rfl; have q3 := XK.out.ob.cell 3 _ rfl; have q4 := XK.out.ob.cell 4 _ rfl; have q5 := XK.out.ob.cell 5 _ rfl; have q6 := XK.out.ob.cell 6 _ rfl; have q7 := XK.out.ob.cell 7 _ rfl))
    go_wp2_with (first | (go_at_call 7; refine (CHK.out _ XK.out.ok).mono ?_; rintro e Wc ⟨rfl, hb⟩; replace XK := Lib.hid (XK.out.below hb); clear hb; (replace q0 := XK.out.ob.cell 0 _ rfl; replace q1 := XK.out.ob.cell 1 _ rfl; replace q2 := XK.out.ob.cell 2 _ rfl; replace q3 := XK.out.ob.cell 3 _ rfl; replace q4 := XK.out.ob.cell 4 _ rfl; replace q5 := XK.out.ob.cell 5 _ rfl; replace q6 := XK.out.ob.cell 6 _ rfl; replace q7 := XK.out.ob.cell 7 _ rfl)) | (go_at_call 8; refine (awake_any _).mono ?_; rintro e wa ⟨rfl, hb⟩; replace XK := Lib.hid (XK.out.below hb); clear hb))
    (go_ret; exact ⟨rfl, XK.out.bel⟩)
end Go.Proofs.Ytmchaaelpbifgaa
