/- Chapter 4, the reference: ports. -/
import Derived.Test.YtoalpdjpljapbaaDoorGPlanReads7
namespace Go.Proofs.YtoalpdjpljapbaaDoor
set_option linter.unusedVariables false
set_option linter.unusedSimpArgs false
set_option linter.unnecessarySimpa false
open Go.RowKit Go.Sort
set_option maxHeartbeats 4000000
set_option maxRecDepth 100000
set_option linter.unusedVariables false
variable {W W' w : World} {c : Cv} {b N : Nat} {s : Sl}
set_option maxHeartbeats 8000000 in
theorem rports_any (c : Cv) (w : World) (h : CfgOk w c) : Calls Tryd.prog 46 #[(.agg #[.int .i64 c.cats, .slice c.g.a c.g.l.length c.g.cap, .slice c.r.a c.r.l.length c.r.cap, .slice c.p.a c.p.l.length c.p.cap, .slice c.n.a c.n.l.length c.n.cap, .slice c.s.a c.s.l.length c.s.cap, .int .i64 c.gate, .int .i64 c.quota])] w fun e w' => e = .returned (.tuple #[.bool (pFst c).2, .int .i64 (pFst c).1]) ∧ Below w.heap.size w w' := by
  have hm := h.p.mx
  obtain ⟨x, hx⟩ : ∃ x, x = pFst c := ⟨_, rfl⟩
  rw [← hx]
  have HX := Lib.hid hx
  clear hx
  by_cases h2 : 8 < c.p.l.length
  · have d2 : decide ((c.p.l.length : Int) > 8) = true := by simp; omega
    have hx : x = (0, true) := by rw [HX.out, pFst, if_pos h2]
    subst hx
    clear h2
    (have h0 := CX.new h; go_enter Tryd.func46, Tryd.ntmps46; go_upto_region 1 with fail; generalize w.alloc (.cells #[.int .i64 c.cats, .slice c.g.a c.g.l.length c.g.cap, .slice c.r.a c.r.l.length c.r.cap, .slice c.p.a c.p.l.length c.p.cap, .slice c.n.a c.n.l.length c.n.cap, .slice c.s.a c.s.l.length c.s.cap, .int .i64 c.gate, .int .i64 c.quota] 29) = W1 at h0 ⊢; generalize w.heap.size = b0 at h0 ⊢; have H0 := Lib.hid h0; clear h0 h)
    (have q0 := H0.out.ob.cell 0 _ rfl; have q1 := H0.out.ob.cell 1 _ rfl; have q2 := H0.out.ob.cell 2 _ rfl; have q3 := H0.out.ob.cell 3 _ rfl; have q4 := H0.out.ob.cell 4 _ rfl; have q5 := H0.out.ob.cell 5 _ rfl; have q6 := H0.out.ob.cell 6 _ rfl; have q7 := H0.out.ob.cell 7 _ rfl)
    go_wp2_with fail
    go_ret2
    exact ⟨rfl, H0.out.bel⟩
  · have d2 : decide ((c.p.l.length : Int) > 8) = false := by simp; omega
    replace HX : Hid (x = fstV (pBad c) c.p.l.length) := by rw [Hid, HX.out, pFst, if_neg h2]
    clear h2
    (have h0 := CX.new h; go_enter Tryd.func46, Tryd.ntmps46; go_upto_region 1 with fail; generalize w.alloc (.cells #[.int .i64 c.cats, .slice c.g.a c.g.l.length c.g.cap, .slice c.r.a c.r.l.length c.r.cap, .slice c.p.a c.p.l.length c.p.cap, .slice c.n.a c.n.l.length c.n.cap, .slice c.s.a c.s.l.length c.s.cap, .int .i64 c.gate, .int .i64 c.quota] 29) = W1 at h0 ⊢; generalize w.heap.size = b0 at h0 ⊢; have H0 := Lib.hid h0; clear h0 h)
    (have q0 := H0.out.ob.cell 0 _ rfl; have q1 := H0.out.ob.cell 1 _ rfl; have q2 := H0.out.ob.cell 2 _ rfl; have q3 := H0.out.ob.cell 3 _ rfl; have q4 := H0.out.ob.cell 4 _ rfl; have q5 := H0.out.ob.cell 5 _ rfl; have q6 := H0.out.ob.cell 6 _ rfl; have q7 := H0.out.ob.cell 7 _ rfl)
    go_upto_region 4 with fail
    clear q0 q1 q2 q3 q4 q5 q6 q7
    go_loopw [4] (fun z wr => ∃ k : Nat, k ≤ c.p.l.length ∧ z = .int .i64 k ∧ CX w wr b0 c ∧ ∀ j, j < k → pBad c j = false) (fun z _ => c.p.l.length - (intOf z).toNat)
    case atStart => exact ⟨0, by omega, rfl, H0.out, fun j hj => by omega⟩
    case round =>
      clear H0
      (obtain ⟨k, hk, rfl, hxk, hj⟩ := hrel; have XK := Lib.hid hxk; have KP := Lib.hid hj; clear hxk hj; (have q0 := XK.out.ob.cell 0 _ rfl; have q1 := XK.out.ob.cell 1 _ rfl; have q2 := XK.out.ob.cell 2 _ rfl; have q3 := XK.out.ob.cell 3 _ rfl; have q4 := XK.out.ob.cell 4 _ rfl; have q5 := XK.out.ob.cell 5 _ rfl; have q6 := XK.out.ob.cell 6 _ rfl; have q7 := XK.out.ob.cell 7 _ rfl))
      by_cases hkl : k < c.p.l.length
      · have dk : decide ((k : Int) < (c.p.l.length : Int)) = true := by simp; omega
        have kz : (0 : Int) ≤ (k : Int) := by omega
        have kl : (k : Int) < (c.p.l.length : Int) := by omega
        have w1 : IntKind.i64.wrap ((k : Int) + 1) = (k : Int) + 1 := by rw [IntKind.wrap_i64]; omega
        obtain ⟨bx, ox, hax, hcx⟩ := XK.out.ok.p.cells (by omega) k hkl
        obtain ⟨lb, gu, hrow⟩ := row2 hkl XK.out.ok.p.len
        have HGB : Hid (pBad c k = (!(validB lb c.cats) || (!(gu == -1) && (!(isG c gu) || (!(lb == labG c gu) || takenB c gu k))))) := by rw [Hid, pBad, at_eq hkl, at_eq hkl, hrow]; rfl
        rw [hrow] at hcx
        have c0 := hcx _ (Below.refl _ _) 0 _ rfl; have c1 := hcx _ (Below.refl _ _) 1 _ rfl
        simp only [Nat.add_zero] at c0
        rw [hax] at q3
        have HAX := Lib.hid hax
        clear hcx hrow hax
        go_upto_region 7 with fail
        (have R1 : Hid (ObjAt (wr.alloc (.cells ([.int .i64 lb, .int .i64 gu] : List Value).toArray 62)) wr.heap.size 62 [.int .i64 lb, .int .i64 gu]) := ObjAt.new wr _ _; have X1 : Hid (CX w (wr.alloc (.cells ([.int .i64 lb, .int .i64 gu] : List Value).toArray 62)) b0 c) := XK.out.below ((Below.refl _ _).alloc (Nat.le_refl _) _); generalize wr.alloc (.cells ([.int .i64 lb, .int .i64 gu] : List Value).toArray 62) = W1r at R1 X1 ⊢; generalize wr.heap.size = rr at R1 ⊢)
        clear q0 q1 q2 q3 q4 q5 q6 q7 c0 c1
        have r0 := R1.out.cell 0 _ rfl; have r1 := R1.out.cell 1 _ rfl
        (have q0 := X1.out.ob.cell 0 _ rfl; have q1 := X1.out.ob.cell 1 _ rfl; have q2 := X1.out.ob.cell 2 _ rfl; have q3 := X1.out.ob.cell 3 _ rfl; have q4 := X1.out.ob.cell 4 _ rfl; have q5 := X1.out.ob.cell 5 _ rfl; have q6 := X1.out.ob.cell 6 _ rfl; have q7 := X1.out.ob.cell 7 _ rfl)
        obtain ⟨vb, hvb⟩ : ∃ v, v = validB lb c.cats := ⟨_, rfl⟩
        have VAL : Hid (∀ W, Calls Tryd.prog 76 #[.int .i64 lb, .int .i64 c.cats] W fun e w' => e = .returned (.bool vb) ∧ W = w') := fun W => by rw [hvb]; exact Valid_ref _ _ _
        obtain ⟨vg, hvg⟩ : ∃ v, v = isG c gu := ⟨_, rfl⟩
        have GUE : Hid (∀ W, CfgOk W c → Calls Tryd.prog 49 #[(.agg #[.int .i64 c.cats, .slice c.g.a c.g.l.length c.g.cap, .slice c.r.a c.r.l.length c.r.cap, .slice c.p.a c.p.l.length c.p.cap, .slice c.n.a c.n.l.length c.n.cap, .slice c.s.a c.s.l.length c.s.cap, .int .i64 c.gate, .int .i64 c.quota]), .int .i64 gu] W fun e w' => e = .returned (.bool vg) ∧ Below W.heap.size W w') := fun W h => by rw [hvg]; exact isGuest_any _ _ _ h
        rw [← hvb] at HGB
        clear hvb
        cases vb with
        | false =>
          (have hx : x = ((k : Int), true) := (by rw [HX.out]; exact fstV_hit hkl KP.out (by rw [HGB.out]; simp)); subst hx)
          clear HGB hvg
          go_wp2_with (first | (go_at_call 76; refine (VAL.out _).mono ?_; rintro e Wv ⟨rfl, rfl⟩) | (go_at_call 49; refine (GUE.out _ X1.out.ok).mono ?_; rintro e Wg ⟨rfl, hb⟩; replace X1 := Lib.hid (X1.out.below hb); replace R1 := Lib.hid (R1.out.below hb); clear hb; (replace q0 := X1.out.ob.cell 0 _ rfl; replace q1 := X1.out.ob.cell 1 _ rfl; replace q2 := X1.out.ob.cell 2 _ rfl; replace q3 := X1.out.ob.cell 3 _ rfl; replace q4 := X1.out.ob.cell 4 _ rfl; replace q5 := X1.out.ob.cell 5 _ rfl; replace q6 := X1.out.ob.cell 6 _ rfl; replace q7 := X1.out.ob.cell 7 _ rfl); replace r0 := R1.out.cell 0 _ rfl; replace r1 := R1.out.cell 1 _ rfl))
          go_ret2
          exact ⟨rfl, X1.out.bel⟩
        | true =>
          by_cases hg1 : gu = -1
          · have dg : (gu != -1) = false := by simp [hg1]
            have dz : decide (gu ≥ 0) = false := by simp [hg1]
            have KP2 : Hid (∀ j, j < k + 1 → pBad c j = false) := fun j hj => by
              by_cases hjk : j = k
              · rw [hjk, HGB.out, hg1]; rfl
              · exact KP.out j (by omega)
            clear hg1 hvg HGB
            go_upto_region 9 with (first | (go_at_call 76; refine (VAL.out _).mono ?_; rintro e Wv ⟨rfl, rfl⟩) | (go_at_call 49; refine (GUE.out _ X1.out.ok).mono ?_; rintro e Wg ⟨rfl, hb⟩; replace X1 := Lib.hid (X1.out.below hb); replace R1 := Lib.hid (R1.out.below hb); clear hb; (replace q0 := X1.out.ob.cell 0 _ rfl; replace q1 := X1.out.ob.cell 1 _ rfl; replace q2 := X1.out.ob.cell 2 _ rfl; replace q3 := X1.out.ob.cell 3 _ rfl; replace q4 := X1.out.ob.cell 4 _ rfl; replace q5 := X1.out.ob.cell 5 _ rfl; replace q6 := X1.out.ob.cell 6 _ rfl; replace q7 := X1.out.ob.cell 7 _ rfl); replace r0 := R1.out.cell 0 _ rfl; replace r1 := R1.out.cell 1 _ rfl))
            go_quiet (fail)
            have X2 : Hid (CX w (W1r.drewN nq) b0 c) := X1.out.below (below_drewN (Below.refl _ _) _)
            have R2 : Hid (ObjAt (W1r.drewN nq) rr 62 [.int .i64 lb, .int .i64 gu]) := R1.out.below (below_drewN (Below.refl _ _) _)
            generalize W1r.drewN nq = W2 at X2 R2 ⊢
            clear q0 q1 q2 q3 q4 q5 q6 q7 r0 r1
            go_upto_region 12 with fail
            go_loopw [6] (fun z wr => ∃ j : Nat, j ≤ k ∧ z = .int .i64 j ∧ CX w wr b0 c ∧ ObjAt wr rr 62 [.int .i64 lb, .int .i64 gu]) (fun z _ => k - (intOf z).toNat)
            case atStart => exact ⟨0, by omega, rfl, X2.out, R2.out⟩
            case round =>
              clear X1 R1 X2 R2
              obtain ⟨j, hj, rfl, hx1, hr1⟩ := hrel
              have X1 := Lib.hid hx1
              have R1 := Lib.hid hr1
              clear hx1 hr1
              have r0 := R1.out.cell 0 _ rfl; have r1 := R1.out.cell 1 _ rfl
              by_cases hjk : j < k
              · have dj : decide ((j : Int) < (k : Int)) = true := by simp; omega
                have w2 : IntKind.i64.wrap ((j : Int) + 1) = (j : Int) + 1 := by rw [IntKind.wrap_i64]; omega
                go_upto_region 14 with fail
                go_quiet (fail)
                go_wp2_with fail
                go_roundw
                case rel => exact ⟨j + 1, by omega, by go_num, X1.out.below (below_drewN (Below.refl _ _) _), R1.out.below (below_drewN (Below.refl _ _) _)⟩
                case measure => simp [intOf]; omega
              · have dj : decide ((j : Int) < (k : Int)) = false := by simp; omega
                go_wp2_with fail
                go_roundw
                case rel => exact ⟨k + 1, by omega, by go_num, X1.out, KP2.out⟩
                case measure => simp [intOf]; omega
          · have dg : (gu != -1) = true := by simp [hg1]
            cases vg with
            | false =>
              (have hx : x = ((k : Int), true) := (by rw [HX.out]; exact fstV_hit hkl KP.out (by rw [HGB.out, ← hvg]; simp [hg1])); subst hx)
              clear HGB hvg hg1
              go_wp2_with (first | (go_at_call 76; refine (VAL.out _).mono ?_; rintro e Wv ⟨rfl, rfl⟩) | (go_at_call 49; refine (GUE.out _ X1.out.ok).mono ?_; rintro e Wg ⟨rfl, hb⟩; replace X1 := Lib.hid (X1.out.below hb); replace R1 := Lib.hid (R1.out.below hb); clear hb; (replace q0 := X1.out.ob.cell 0 _ rfl; replace q1 := X1.out.ob.cell 1 _ rfl; replace q2 := X1.out.ob.cell 2 _ rfl; replace q3 := X1.out.ob.cell 3 _ rfl; replace q4 := X1.out.ob.cell 4 _ rfl; replace q5 := X1.out.ob.cell 5 _ rfl; replace q6 := X1.out.ob.cell 6 _ rfl; replace q7 := X1.out.ob.cell 7 _ rfl); replace r0 := R1.out.cell 0 _ rfl; replace r1 := R1.out.cell 1 _ rfl))
              go_ret2
              exact ⟨rfl, X1.out.bel⟩
            | true =>
              have hpb : pBad c k = (!(lb == labG c gu) || takenB c gu k) := by rw [HGB.out, ← hvg]; simp [hg1]
              have ga := (isG_iff c gu).1 hvg.symm
              obtain ⟨f', rfl⟩ : ∃ f' : Nat, gu = f' := ⟨gu.toNat, by omega⟩
              have hfl : f' < c.g.l.length := by omega
              have dz : decide ((f' : Int) ≥ 0) = true := by simp
              clear hg1 HGB hvg
              go_upto_region 9 with (first | (go_at_call 76; refine (VAL.out _).mono ?_; rintro e Wv ⟨rfl, rfl⟩) | (go_at_call 49; refine (GUE.out _ X1.out.ok).mono ?_; rintro e Wg ⟨rfl, hb⟩; replace X1 := Lib.hid (X1.out.below hb); replace R1 := Lib.hid (R1.out.below hb); clear hb; (replace q0 := X1.out.ob.cell 0 _ rfl; replace q1 := X1.out.ob.cell 1 _ rfl; replace q2 := X1.out.ob.cell 2 _ rfl; replace q3 := X1.out.ob.cell 3 _ rfl; replace q4 := X1.out.ob.cell 4 _ rfl; replace q5 := X1.out.ob.cell 5 _ rfl; replace q6 := X1.out.ob.cell 6 _ rfl; replace q7 := X1.out.ob.cell 7 _ rfl); replace r0 := R1.out.cell 0 _ rfl; replace r1 := R1.out.cell 1 _ rfl))
              obtain ⟨gx, go, hga, hgc⟩ := X1.out.ok.g.cells (by omega) f' hfl
              obtain ⟨la, y1, z1, hr1⟩ := row3 hfl X1.out.ok.g.len
              have l1 : labG c f' = la := by rw [labG, Int.toNat_natCast, at_eq hfl, hr1]; rfl
              rw [l1] at hpb
              rw [hr1] at hgc
              have g0 := hgc _ (Below.refl _ _) 0 _ rfl
              simp only [Nat.add_zero] at g0
              rw [hga] at q1
              have k1 : (f' : Int) < (c.g.l.length : Int) := by omega
              have k3 : (0 : Int) ≤ (f' : Int) := by omega
              clear ga hga hgc hr1 l1 hfl
              cases hq : (lb == la) with
              | false =>
                have dn : (lb != la) = true := by rw [bne, hq]; rfl
                (have hx : x = ((k : Int), true) := (by rw [HX.out]; exact fstV_hit hkl KP.out (by rw [hpb, hq]; rfl)); subst hx)
                clear hq hpb
                go_quiet (fail)
                go_wp2_with fail
                go_ret2
                exact ⟨rfl, below_drewN X1.out.bel _⟩
              | true =>
                have dn : (lb != la) = false := by rw [bne, hq]; rfl
                have HPB : Hid (pBad c k = takenB c f' k) := by rw [Hid, hpb, hq]; rfl
                clear hpb hq
                go_quiet (fail)
                have X2 : Hid (CX w (Wg.drewN nq) b0 c) := X1.out.below (below_drewN (Below.refl _ _) _)
                have R2 : Hid (ObjAt (Wg.drewN nq) rr 62 [.int .i64 lb, .int .i64 f']) := R1.out.below (below_drewN (Below.refl _ _) _)
                generalize Wg.drewN nq = W2 at X2 R2 ⊢
                clear q0 q1 q2 q3 q4 q5 q6 q7 r0 r1 g0
                go_upto_region 12 with fail
                go_loopw [6] (fun z wr => ∃ j : Nat, j ≤ k ∧ z = .int .i64 j ∧ CX w wr b0 c ∧ ObjAt wr rr 62 [.int .i64 lb, .int .i64 f'] ∧ ∀ i, i < j → at_ c.p.l i 1 ≠ f') (fun z _ => k - (intOf z).toNat)
                case atStart => exact ⟨0, by omega, rfl, X2.out, R2.out, fun i hi => by omega⟩
                case round =>
                  clear X1 R1 X2 R2
                  obtain ⟨j, hj, rfl, hx1, hr1, hnt⟩ := hrel
                  have X1 := Lib.hid hx1
                  have R1 := Lib.hid hr1
                  have NT := Lib.hid hnt
                  clear hx1 hr1 hnt
                  have r0 := R1.out.cell 0 _ rfl; have r1 := R1.out.cell 1 _ rfl
                  by_cases hjk : j < k
                  · have dj : decide ((j : Int) < (k : Int)) = true := by simp; omega
                    have jz : (0 : Int) ≤ (j : Int) := by omega
                    have jl : (j : Int) < (c.p.l.length : Int) := by omega
                    have w2 : IntKind.i64.wrap ((j : Int) + 1) = (j : Int) + 1 := by rw [IntKind.wrap_i64]; omega
                    have hjp : j < c.p.l.length := by omega
                    obtain ⟨bx2, ox2, hax, hcx⟩ := X1.out.ok.p.cells (by omega) j hjp
                    rw [HAX.out] at hax
                    obtain ⟨rfl, rfl⟩ : bx = bx2 ∧ ox = ox2 := by simpa using hax
                    obtain ⟨y, z, hrow⟩ := row2 hjp X1.out.ok.p.len
                    have hat : at_ c.p.l j 1 = z := by rw [at_eq hjp, hrow]; rfl
                    have HAT := Lib.hid hat
                    rw [hrow] at hcx
                    have c1 := hcx _ (Below.refl _ _) 1 _ rfl
                    have q3 := X1.out.ob.cell 3 _ rfl
                    rw [HAX.out] at q3
                    clear hcx hrow hat hax
                    by_cases hz : z = f'
                    · have de : (z == (f' : Int)) = true := by simp [hz]
                      (have hx : x = ((k : Int), true) := (by rw [HX.out]; exact fstV_hit hkl KP.out (by rw [HPB.out]; exact taken_hit hjk (by rw [HAT.out, hz]))); subst hx)
                      clear hz
                      go_upto_region 14 with fail
                      go_quiet (fail)
                      go_wp2_with fail
                      go_ret2
                      exact ⟨rfl, below_drewN X1.out.bel _⟩
                    · have de : (z == (f' : Int)) = false := by simp [hz]
                      have NT2 : Hid (∀ i, i < j + 1 → at_ c.p.l i 1 ≠ f') := fun i hi => by
                        by_cases hij : i = j
                        · rw [hij, HAT.out]; exact hz
                        · exact NT.out i (by omega)
                      clear hz
                      go_upto_region 14 with fail
                      go_quiet (fail)
                      go_wp2_with fail
                      go_roundw
                      case rel => exact ⟨j + 1, by omega, by go_num, X1.out.below (below_drewN (Below.refl _ _) _), R1.out.below (below_drewN (Below.refl _ _) _), NT2.out⟩
                      case measure => simp [intOf]; omega
                  · have dj : decide ((j : Int) < (k : Int)) = false := by simp; omega
                    have KP2 : Hid (∀ i, i < k + 1 → pBad c i = false) := fun i hi => by
                      by_cases hik : i = k
                      · rw [hik, HPB.out]; exact taken_none (fun q hq => NT.out q (by omega))
                      · exact KP.out i (by omega)
                    go_wp2_with fail
                    go_roundw
                    case rel => exact ⟨k + 1, by omega, by go_num, X1.out, KP2.out⟩
                    case measure => simp [intOf]; omega
      · have dk : decide ((k : Int) < (c.p.l.length : Int)) = false := by simp; omega
        have hx : x = (0, false) := by rw [HX.out]; exact fstV_none (fun j hj => KP.out j (by omega))
        subst hx
        go_wp2_with fail
        go_ret2
        exact ⟨rfl, XK.out.bel⟩
end Go.Proofs.YtoalpdjpljapbaaDoor
/- Chapter 4, the reference: Check, Right, Frames, RingFrame, Bound. -/
namespace Go.Proofs.YtoalpdjpljapbaaDoor
set_option linter.unusedVariables false
set_option linter.unusedSimpArgs false
set_option linter.unnecessarySimpa false
open Go.RowKit Go.Sort
set_option maxHeartbeats 8000000
set_option maxRecDepth 100000
set_option linter.unusedVariables false
variable {W W' w : World} {c : Cv} {b N : Nat} {s : Sl}
theorem rcheck_any (c : Cv) (w : World) (h : CfgOk w c) : Calls Tryd.prog 22 #[(.agg #[.int .i64 c.cats, .slice c.g.a c.g.l.length c.g.cap, .slice c.r.a c.r.l.length c.r.cap, .slice c.p.a c.p.l.length c.p.cap, .slice c.n.a c.n.l.length c.n.cap, .slice c.s.a c.s.l.length c.s.cap, .int .i64 c.gate, .int .i64 c.quota])] w fun e w' => e = .returned (.tuple #[.int .i64 (chkV c).1, .int .i64 (chkV c).2]) ∧ Below w.heap.size w w' := by
  obtain ⟨x, hx⟩ : ∃ x, x = chkV c := ⟨_, rfl⟩
  rw [← hx]
  have HG : Hid (x = chkV c) := hx
  clear hx
  by_cases h1 : c.cats < 0
  · have d1 : decide (c.cats < 0) = true := by simp [h1]
    obtain rfl : x = (12, 0) := by rw [HG.out, chkV, if_pos (Or.inl h1)]
    clear h1 HG
    ((have h0 := CX.new h; go_enter Tryd.func22, Tryd.ntmps22; go_upto_region 1 with fail; generalize w.alloc (.cells #[.int .i64 c.cats, .slice c.g.a c.g.l.length c.g.cap, .slice c.r.a c.r.l.length c.r.cap, .slice c.p.a c.p.l.length c.p.cap, .slice c.n.a c.n.l.length c.n.cap, .slice c.s.a c.s.l.length c.s.cap, .int .i64 c.gate, .int .i64 c.quota] 29) = W1 at h0 ⊢; generalize w.heap.size = b0 at h0 ⊢; have H0 := Lib.hid h0; clear h0 h); have XK := H0; clear H0; (have q0 := XK.out.ob.cell 0 _ rfl; have q1 := XK.out.ob.cell 1 _ rfl; have q2 := XK.out.ob.cell 2 _ rfl; have q3 := XK.out.ob.cell 3 _ rfl; have q4 := XK.out.ob.cell 4 _ rfl; have q5 := XK.out.ob.cell 5 _ rfl; have q6 := XK.out.ob.cell 6 _ rfl; have q7 := XK.out.ob.cell 7 _ rfl))
    go_wp2_with fail
    go_ret2
    exact ⟨rfl, XK.out.bel⟩
  · have d1 : decide (c.cats < 0) = false := by simp [h1]
    by_cases h2 : 8 < c.cats
    · have d2 : decide (c.cats > 8) = true := by simp [h2]
      obtain rfl : x = (12, 0) := by rw [HG.out, chkV, if_pos (Or.inr h2)]
      clear h1 h2 HG
      ((have h0 := CX.new h; go_enter Tryd.func22, Tryd.ntmps22; go_upto_region 1 with fail; generalize w.alloc (.cells #[.int .i64 c.cats, .slice c.g.a c.g.l.length c.g.cap, .slice c.r.a c.r.l.length c.r.cap, .slice c.p.a c.p.l.length c.p.cap, .slice c.n.a c.n.l.length c.n.cap, .slice c.s.a c.s.l.length c.s.cap, .int .i64 c.gate, .int .i64 c.quota] 29) = W1 at h0 ⊢; generalize w.heap.size = b0 at h0 ⊢; have H0 := Lib.hid h0; clear h0 h); have XK := H0; clear H0; (have q0 := XK.out.ob.cell 0 _ rfl; have q1 := XK.out.ob.cell 1 _ rfl; have q2 := XK.out.ob.cell 2 _ rfl; have q3 := XK.out.ob.cell 3 _ rfl; have q4 := XK.out.ob.cell 4 _ rfl; have q5 := XK.out.ob.cell 5 _ rfl; have q6 := XK.out.ob.cell 6 _ rfl; have q7 := XK.out.ob.cell 7 _ rfl))
      go_wp2_with fail
      go_ret2
      exact ⟨rfl, XK.out.bel⟩
    · have d2 : decide (c.cats > 8) = false := by simpa using h2
      have hx : x = match (List.range 6).find? fun k => (ruleV c k).2 with
        | some k => ((13 + k : Int), (ruleV c k).1)
        | none => if 32 < needV c then (19, 0) else (0, 0) := by rw [HG.out, chkV, if_neg (by omega)]; rfl
      replace HG := Lib.hid hx
      clear h1 h2 hx
      have HC := Lib.hid h
      obtain ⟨v0, hv0⟩ : ∃ v, v = ruleV c 0 := ⟨_, rfl⟩
      obtain ⟨v1, hv1⟩ : ∃ v, v = ruleV c 1 := ⟨_, rfl⟩
      obtain ⟨v2, hv2⟩ : ∃ v, v = ruleV c 2 := ⟨_, rfl⟩
      obtain ⟨v3, hv3⟩ : ∃ v, v = ruleV c 3 := ⟨_, rfl⟩
      obtain ⟨v4, hv4⟩ : ∃ v, v = ruleV c 4 := ⟨_, rfl⟩
      obtain ⟨v5, hv5⟩ : ∃ v, v = isG c c.gate := ⟨_, rfl⟩
      have C0 : Hid (∀ W, CfgOk W c → Calls Tryd.prog 44 #[(.agg #[.int .i64 c.cats, .slice c.g.a c.g.l.length c.g.cap, .slice c.r.a c.r.l.length c.r.cap, .slice c.p.a c.p.l.length c.p.cap, .slice c.n.a c.n.l.length c.n.cap, .slice c.s.a c.s.l.length c.s.cap, .int .i64 c.gate, .int .i64 c.quota])] W fun e w' => e = .returned (.tuple #[.bool v0.2, .int .i64 v0.1]) ∧ Below W.heap.size W w') := fun W hc => by rw [hv0]; exact rguests_any c _ hc
      have C1 : Hid (∀ W, CfgOk W c → Calls Tryd.prog 45 #[(.agg #[.int .i64 c.cats, .slice c.g.a c.g.l.length c.g.cap, .slice c.r.a c.r.l.length c.r.cap, .slice c.p.a c.p.l.length c.p.cap, .slice c.n.a c.n.l.length c.n.cap, .slice c.s.a c.s.l.length c.s.cap, .int .i64 c.gate, .int .i64 c.quota])] W fun e w' => e = .returned (.tuple #[.bool v1.2, .int .i64 v1.1]) ∧ Below W.heap.size W w') := fun W hc => by rw [hv1]; exact rranges_any c _ hc
      have C2 : Hid (∀ W, CfgOk W c → Calls Tryd.prog 46 #[(.agg #[.int .i64 c.cats, .slice c.g.a c.g.l.length c.g.cap, .slice c.r.a c.r.l.length c.r.cap, .slice c.p.a c.p.l.length c.p.cap, .slice c.n.a c.n.l.length c.n.cap, .slice c.s.a c.s.l.length c.s.cap, .int .i64 c.gate, .int .i64 c.quota])] W fun e w' => e = .returned (.tuple #[.bool v2.2, .int .i64 v2.1]) ∧ Below W.heap.size W w') := fun W hc => by rw [hv2]; exact rports_any c _ hc
      have C3 : Hid (∀ W, CfgOk W c → Calls Tryd.prog 47 #[(.agg #[.int .i64 c.cats, .slice c.g.a c.g.l.length c.g.cap, .slice c.r.a c.r.l.length c.r.cap, .slice c.p.a c.p.l.length c.p.cap, .slice c.n.a c.n.l.length c.n.cap, .slice c.s.a c.s.l.length c.s.cap, .int .i64 c.gate, .int .i64 c.quota])] W fun e w' => e = .returned (.tuple #[.bool v3.2, .int .i64 v3.1]) ∧ Below W.heap.size W w') := fun W hc => by rw [hv3]; exact rrings_any c _ hc
      have C4 : Hid (∀ W, CfgOk W c → Calls Tryd.prog 48 #[(.agg #[.int .i64 c.cats, .slice c.g.a c.g.l.length c.g.cap, .slice c.r.a c.r.l.length c.r.cap, .slice c.p.a c.p.l.length c.p.cap, .slice c.n.a c.n.l.length c.n.cap, .slice c.s.a c.s.l.length c.s.cap, .int .i64 c.gate, .int .i64 c.quota])] W fun e w' => e = .returned (.tuple #[.bool v4.2, .int .i64 v4.1]) ∧ Below W.heap.size W w') := fun W hc => by rw [hv4]; exact rslots_any c _ hc
      have GUE : Hid (∀ W, CfgOk W c → Calls Tryd.prog 49 #[(.agg #[.int .i64 c.cats, .slice c.g.a c.g.l.length c.g.cap, .slice c.r.a c.r.l.length c.r.cap, .slice c.p.a c.p.l.length c.p.cap, .slice c.n.a c.n.l.length c.n.cap, .slice c.s.a c.s.l.length c.s.cap, .int .i64 c.gate, .int .i64 c.quota]), .int .i64 c.gate] W fun e w' => e = .returned (.bool v5) ∧ Below W.heap.size W w') := fun W h => by rw [hv5]; exact isGuest_any _ _ _ h
      have Hv0 := Lib.hid hv0; have Hv1 := Lib.hid hv1; have Hv2 := Lib.hid hv2; have Hv3 := Lib.hid hv3; have Hv4 := Lib.hid hv4
      clear hv0 hv1 hv2 hv3 hv4
      obtain ⟨i0, b0⟩ := v0
      dsimp only at C0
      cases b0 with
      | true =>
        have hx : x = (13 + 0, i0) := by rw [HG.out, rule_hit (k := 0) (by omega) (fun j hj => by omega) (by rw [← Hv0.out])]; dsimp only; rw [← Hv0.out]; rfl
        subst hx
        clear HG hv5 Hv0 Hv1 Hv2 Hv3 Hv4 GUE C1 C2 C3 C4
        ((have h0 := CX.new h; go_enter Tryd.func22, Tryd.ntmps22; go_upto_region 1 with fail; generalize w.alloc (.cells #[.int .i64 c.cats, .slice c.g.a c.g.l.length c.g.cap, .slice c.r.a c.r.l.length c.r.cap, .slice c.p.a c.p.l.length c.p.cap, .slice c.n.a c.n.l.length c.n.cap, .slice c.s.a c.s.l.length c.s.cap, .int .i64 c.gate, .int .i64 c.quota] 29) = W1 at h0 ⊢; generalize w.heap.size = b0 at h0 ⊢; have H0 := Lib.hid h0; clear h0 h); have XK := H0; clear H0; (have q0 := XK.out.ob.cell 0 _ rfl; have q1 := XK.out.ob.cell 1 _ rfl; have q2 := XK.out.ob.cell 2 _ rfl; have q3 := XK.out.ob.cell 3 _ rfl; have q4 := XK.out.ob.cell 4 _ rfl; have q5 := XK.out.ob.cell 5 _ rfl; have q6 := XK.out.ob.cell 6 _ rfl; have q7 := XK.out.ob.cell 7 _ rfl))
        go_wp2_with (go_at_call 44; refine (C0.out _ XK.out.ok).mono ?_; rintro e Wc ⟨rfl, hb⟩; replace XK := Lib.hid (XK.out.below hb); clear hb; (replace q0 := XK.out.ob.cell 0 _ rfl; replace q1 := XK.out.ob.cell 1 _ rfl; replace q2 := XK.out.ob.cell 2 _ rfl; replace q3 := XK.out.ob.cell 3 _ rfl; replace q4 := XK.out.ob.cell 4 _ rfl; replace q5 := XK.out.ob.cell 5 _ rfl; replace q6 := XK.out.ob.cell 6 _ rfl; replace q7 := XK.out.ob.cell 7 _ rfl))
        go_ret2
        exact ⟨rfl, XK.out.bel⟩
      | false =>
        have F0 : Hid ((ruleV c 0).2 = false) := by rw [Hid, ← Hv0.out]
        obtain ⟨i1, b1⟩ := v1
        dsimp only at C1
        cases b1 with
        | true =>
          have hx : x = (13 + 1, i1) := by rw [HG.out, rule_hit (k := 1) (by omega) (fun j hj => by rw [show j = 0 by omega]; exact F0.out) (by rw [← Hv1.out])]; dsimp only; rw [← Hv1.out]; rfl
          subst hx
          clear HG hv5 Hv0 Hv1 Hv2 Hv3 Hv4 GUE C2 C3 C4 F0
          ((have h0 := CX.new h; go_enter Tryd.func22, Tryd.ntmps22; go_upto_region 1 with fail; generalize w.alloc (.cells #[.int .i64 c.cats, .slice c.g.a c.g.l.length c.g.cap, .slice c.r.a c.r.l.length c.r.cap, .slice c.p.a c.p.l.length c.p.cap, .slice c.n.a c.n.l.length c.n.cap, .slice c.s.a c.s.l.length c.s.cap, .int .i64 c.gate, .int .i64 c.quota] 29) = W1 at h0 ⊢; generalize w.heap.size = b0 at h0 ⊢; have H0 := Lib.hid h0; clear h0 h); have XK := H0; clear H0; (have q0 := XK.out.ob.cell 0 _ rfl; have q1 := XK.out.ob.cell 1 _ rfl; have q2 := XK.out.ob.cell 2 _ rfl; have q3 := XK.out.ob.cell 3 _ rfl; have q4 := XK.out.ob.cell 4 _ rfl; have q5 := XK.out.ob.cell 5 _ rfl; have q6 := XK.out.ob.cell 6 _ rfl; have q7 := XK.out.ob.cell 7 _ rfl))
          go_wp2_with (first | (go_at_call 44; refine (C0.out _ XK.out.ok).mono ?_; rintro e Wc ⟨rfl, hb⟩; replace XK := Lib.hid (XK.out.below hb); clear hb; (replace q0 := XK.out.ob.cell 0 _ rfl; replace q1 := XK.out.ob.cell 1 _ rfl; replace q2 := XK.out.ob.cell 2 _ rfl; replace q3 := XK.out.ob.cell 3 _ rfl; replace q4 := XK.out.ob.cell 4 _ rfl; replace q5 := XK.out.ob.cell 5 _ rfl; replace q6 := XK.out.ob.cell 6 _ rfl; replace q7 := XK.out.ob.cell 7 _ rfl)) | (go_at_call 45; refine (C1.out _ XK.out.ok).mono ?_; rintro e Wc ⟨rfl, hb⟩; replace XK := Lib.hid (XK.out.below hb); clear hb; (replace q0 := XK.out.ob.cell 0 _ rfl; replace q1 := XK.out.ob.cell 1 _ rfl; replace q2 := XK.out.ob.cell 2 _ rfl; replace q3 := XK.out.ob.cell 3 _ rfl; replace q4 := XK.out.ob.cell 4 _ rfl; replace q5 := XK.out.ob.cell 5 _ rfl; replace q6 := XK.out.ob.cell 6 _ rfl; replace q7 := XK.out.ob.cell 7 _ rfl)))
          go_ret2
          exact ⟨rfl, XK.out.bel⟩
        | false =>
          have F1 : Hid ((ruleV c 1).2 = false) := by rw [Hid, ← Hv1.out]
          obtain ⟨i2, b2⟩ := v2
          dsimp only at C2
          cases b2 with
          | true =>
            have hx : x = (13 + 2, i2) := by rw [HG.out, rule_hit (k := 2) (by omega) (fun j hj => by rcases (show j = 0 ∨ j = 1 by omega) with rfl | rfl; exact F0.out; exact F1.out) (by rw [← Hv2.out])]; dsimp only; rw [← Hv2.out]; rfl
            subst hx
            clear HG hv5 Hv0 Hv1 Hv2 Hv3 Hv4 GUE C3 C4 F0 F1
            ((have h0 := CX.new h; go_enter Tryd.func22, Tryd.ntmps22; go_upto_region 1 with fail; generalize w.alloc (.cells #[.int .i64 c.cats, .slice c.g.a c.g.l.length c.g.cap, .slice c.r.a c.r.l.length c.r.cap, .slice c.p.a c.p.l.length c.p.cap, .slice c.n.a c.n.l.length c.n.cap, .slice c.s.a c.s.l.length c.s.cap, .int .i64 c.gate, .int .i64 c.quota] 29) = W1 at h0 ⊢; generalize w.heap.size = b0 at h0 ⊢; have H0 := Lib.hid h0; clear h0 h); have XK := H0; clear H0; (have q0 := XK.out.ob.cell 0 _ rfl; have q1 := XK.out.ob.cell 1 _ rfl; have q2 := XK.out.ob.cell 2 _ rfl; have q3 := XK.out.ob.cell 3 _ rfl; have q4 := XK.out.ob.cell 4 _ rfl; have q5 := XK.out.ob.cell 5 _ rfl; have q6 := XK.out.ob.cell 6 _ rfl; have q7 := XK.out.ob.cell 7 _ rfl))
            go_wp2_with (first | (go_at_call 44; refine (C0.out _ XK.out.ok).mono ?_; rintro e Wc ⟨rfl, hb⟩; replace XK := Lib.hid (XK.out.below hb); clear hb; (replace q0 := XK.out.ob.cell 0 _ rfl; replace q1 := XK.out.ob.cell 1 _ rfl; replace q2 := XK.out.ob.cell 2 _ rfl; replace q3 := XK.out.ob.cell 3 _ rfl; replace q4 := XK.out.ob.cell 4 _ rfl; replace q5 := XK.out.ob.cell 5 _ rfl; replace q6 := XK.out.ob.cell 6 _ rfl; replace q7 := XK.out.ob.cell 7 _ rfl)) | (go_at_call 45; refine (C1.out _ XK.out.ok).mono ?_; rintro e Wc ⟨rfl, hb⟩; replace XK := Lib.hid (XK.out.below hb); clear hb; (replace q0 := XK.out.ob.cell 0 _ rfl; replace q1 := XK.out.ob.cell 1 _ rfl; replace q2 := XK.out.ob.cell 2 _ rfl; replace q3 := XK.out.ob.cell 3 _ rfl; replace q4 := XK.out.ob.cell 4 _ rfl; replace q5 := XK.out.ob.cell 5 _ rfl; replace q6 := XK.out.ob.cell 6 _ rfl; replace q7 := XK.out.ob.cell 7 _ rfl)) | (go_at_call 46; refine (C2.out _ XK.out.ok).mono ?_; rintro e Wc ⟨rfl, hb⟩; replace XK := Lib.hid (XK.out.below hb); clear hb; (replace q0 := XK.out.ob.cell 0 _ rfl; replace q1 := XK.out.ob.cell 1 _ rfl; replace q2 := XK.out.ob.cell 2 _ rfl; replace q3 := XK.out.ob.cell 3 _ rfl; replace q4 := XK.out.ob.cell 4 _ rfl; replace q5 := XK.out.ob.cell 5 _ rfl; replace q6 := XK.out.ob.cell 6 _ rfl; replace q7 := XK.out.ob.cell 7 _ rfl)))
            go_ret2
            exact ⟨rfl, XK.out.bel⟩
          | false =>
            have F2 : Hid ((ruleV c 2).2 = false) := by rw [Hid, ← Hv2.out]
            obtain ⟨i3, b3⟩ := v3
            dsimp only at C3
            cases b3 with
            | true =>
              have hx : x = (13 + 3, i3) := by rw [HG.out, rule_hit (k := 3) (by omega) (fun j hj => by rcases (show j = 0 ∨ j = 1 ∨ j = 2 by omega) with rfl | rfl | rfl; exact F0.out; exact F1.out; exact F2.out) (by rw [← Hv3.out])]; dsimp only; rw [← Hv3.out]; rfl
              subst hx
              clear HG hv5 Hv0 Hv1 Hv2 Hv3 Hv4 GUE C4 F0 F1 F2
              ((have h0 := CX.new h; go_enter Tryd.func22, Tryd.ntmps22; go_upto_region 1 with fail; generalize w.alloc (.cells #[.int .i64 c.cats, .slice c.g.a c.g.l.length c.g.cap, .slice c.r.a c.r.l.length c.r.cap, .slice c.p.a c.p.l.length c.p.cap, .slice c.n.a c.n.l.length c.n.cap, .slice c.s.a c.s.l.length c.s.cap, .int .i64 c.gate, .int .i64 c.quota] 29) = W1 at h0 ⊢; generalize w.heap.size = b0 at h0 ⊢; have H0 := Lib.hid h0; clear h0 h); have XK := H0; clear H0; (have q0 := XK.out.ob.cell 0 _ rfl; have q1 := XK.out.ob.cell 1 _ rfl; have q2 := XK.out.ob.cell 2 _ rfl; have q3 := XK.out.ob.cell 3 _ rfl; have q4 := XK.out.ob.cell 4 _ rfl; have q5 := XK.out.ob.cell 5 _ rfl; have q6 := XK.out.ob.cell 6 _ rfl; have q7 := XK.out.ob.cell 7 _ rfl))
              go_wp2_with (first | (go_at_call 44; refine (C0.out _ XK.out.ok).mono ?_; rintro e Wc ⟨rfl, hb⟩; replace XK := Lib.hid (XK.out.below hb); clear hb; (replace q0 := XK.out.ob.cell 0 _ rfl; replace q1 := XK.out.ob.cell 1 _ rfl; replace q2 := XK.out.ob.cell 2 _ rfl; replace q3 := XK.out.ob.cell 3 _ rfl; replace q4 := XK.out.ob.cell 4 _ rfl; replace q5 := XK.out.ob.cell 5 _ rfl; replace q6 := XK.out.ob.cell 6 _ rfl; replace q7 := XK.out.ob.cell 7 _ rfl)) | (go_at_call 45; refine (C1.out _ XK.out.ok).mono ?_; rintro e Wc ⟨rfl, hb⟩; replace XK := Lib.hid (XK.out.below hb); clear hb; (replace q0 := XK.out.ob.cell 0 _ rfl; replace q1 := XK.out.ob.cell 1 _ rfl; replace q2 := XK.out.ob.cell 2 _ rfl; replace q3 := XK.out.ob.cell 3 _ rfl; replace q4 := XK.out.ob.cell 4 _ rfl; replace q5 := XK.out.ob.cell 5 _ rfl; replace q6 := XK.out.ob.cell 6 _ rfl; replace q7 := XK.out.ob.cell 7 _ rfl)) | (go_at_call 46; refine (C2.out _ XK.out.ok).mono ?_; rintro e Wc ⟨rfl, hb⟩; replace XK := Lib.hid (XK.out.below hb); clear hb; (replace q0 := XK.out.ob.cell 0 _ rfl; replace q1 := XK.out.ob.cell 1 _ rfl; replace q2 := XK.out.ob.cell 2 _ rfl; replace q3 := XK.out.ob.cell 3 _ rfl; replace q4 := XK.out.ob.cell 4 _ rfl; replace q5 := XK.out.ob.cell 5 _ rfl; replace q6 := XK.out.ob.cell 6 _ rfl; replace q7 := XK.out.ob.cell 7 _ rfl)) | (go_at_call 47; refine (C3.out _ XK.out.ok).mono ?_; rintro e Wc ⟨rfl, hb⟩; replace XK := Lib.hid (XK.out.below hb); clear hb; (replace q0 := XK.out.ob.cell 0 _ rfl; replace q1 := XK.out.ob.cell 1 _ rfl; replace q2 := XK.out.ob.cell 2 _ rfl; replace q3 := XK.out.ob.cell 3 _ rfl; replace q4 := XK.out.ob.cell 4 _ rfl; replace q5 := XK.out.ob.cell 5 _ rfl; replace q6 := XK.out.ob.cell 6 _ rfl; replace q7 := XK.out.ob.cell 7 _ rfl)))
              go_ret2
              exact ⟨rfl, XK.out.bel⟩
            | false =>
              have F3 : Hid ((ruleV c 3).2 = false) := by rw [Hid, ← Hv3.out]
              obtain ⟨i4, b4⟩ := v4
              dsimp only at C4
              cases b4 with
              | true =>
                have hx : x = (13 + 4, i4) := by rw [HG.out, rule_hit (k := 4) (by omega) (fun j hj => by rcases (show j = 0 ∨ j = 1 ∨ j = 2 ∨ j = 3 by omega) with rfl | rfl | rfl | rfl; exact F0.out; exact F1.out; exact F2.out; exact F3.out) (by rw [← Hv4.out])]; dsimp only; rw [← Hv4.out]; rfl
                subst hx
                clear HG hv5 Hv0 Hv1 Hv2 Hv3 Hv4 GUE F0 F1 F2 F3
                ((have h0 := CX.new h; go_enter Tryd.func22, Tryd.ntmps22; go_upto_region 1 with fail; generalize w.alloc (.cells #[.int .i64 c.cats, .slice c.g.a c.g.l.length c.g.cap, .slice c.r.a c.r.l.length c.r.cap, .slice c.p.a c.p.l.length c.p.cap, .slice c.n.a c.n.l.length c.n.cap, .slice c.s.a c.s.l.length c.s.cap, .int .i64 c.gate, .int .i64 c.quota] 29) = W1 at h0 ⊢; generalize w.heap.size = b0 at h0 ⊢; have H0 := Lib.hid h0; clear h0 h); have XK := H0; clear H0; (have q0 := XK.out.ob.cell 0 _ rfl; have q1 := XK.out.ob.cell 1 _ rfl; have q2 := XK.out.ob.cell 2 _ rfl; have q3 := XK.out.ob.cell 3 _ rfl; have q4 := XK.out.ob.cell 4 _ rfl; have q5 := XK.out.ob.cell 5 _ rfl; have q6 := XK.out.ob.cell 6 _ rfl; have q7 := XK.out.ob.cell 7 _ rfl))
                go_wp2_with (first | (go_at_call 44; refine (C0.out _ XK.out.ok).mono ?_; rintro e Wc ⟨rfl, hb⟩; replace XK := Lib.hid (XK.out.below hb); clear hb; (replace q0 := XK.out.ob.cell 0 _ rfl; replace q1 := XK.out.ob.cell 1 _ rfl; replace q2 := XK.out.ob.cell 2 _ rfl; replace q3 := XK.out.ob.cell 3 _ rfl; replace q4 := XK.out.ob.cell 4 _ rfl; replace q5 := XK.out.ob.cell 5 _ rfl; replace q6 := XK.out.ob.cell 6 _ rfl; replace q7 := XK.out.ob.cell 7 _ rfl)) | (go_at_call 45; refine (C1.out _ XK.out.ok).mono ?_; rintro e Wc ⟨rfl, hb⟩; replace XK := Lib.hid (XK.out.below hb); clear hb; (replace q0 := XK.out.ob.cell 0 _ rfl; replace q1 := XK.out.ob.cell 1 _ rfl; replace q2 := XK.out.ob.cell 2 _ rfl; replace q3 := XK.out.ob.cell 3 _ rfl; replace q4 := XK.out.ob.cell 4 _ rfl; replace q5 := XK.out.ob.cell 5 _ rfl; replace q6 := XK.out.ob.cell 6 _ rfl; replace q7 := XK.out.ob.cell 7 _ rfl)) | (go_at_call 46; refine (C2.out _ XK.out.ok).mono ?_; rintro e Wc ⟨rfl, hb⟩; replace XK := Lib.hid (XK.out.below hb); clear hb; (replace q0 := XK.out.ob.cell 0 _ rfl; replace q1 := XK.out.ob.cell 1 _ rfl; replace q2 := XK.out.ob.cell 2 _ rfl; replace q3 := XK.out.ob.cell 3 _ rfl; replace q4 := XK.out.ob.cell 4 _ rfl; replace q5 := XK.out.ob.cell 5 _ rfl; replace q6 := XK.out.ob.cell 6 _ rfl; replace q7 := XK.out.ob.cell 7 _ rfl)) | (go_at_call 47; refine (C3.out _ XK.out.ok).mono ?_; rintro e Wc ⟨rfl, hb⟩; replace XK := Lib.hid (XK.out.below hb); clear hb; (replace q0 := XK.out.ob.cell 0 _ rfl; replace q1 := XK.out.ob.cell 1 _ rfl; replace q2 := XK.out.ob.cell 2 _ rfl; replace q3 := XK.out.ob.cell 3 _ rfl; replace q4 := XK.out.ob.cell 4 _ rfl; replace q5 := XK.out.ob.cell 5 _ rfl; replace q6 := XK.out.ob.cell 6 _ rfl; replace q7 := XK.out.ob.cell 7 _ rfl)) | (go_at_call 48; refine (C4.out _ XK.out.ok).mono ?_; rintro e Wc ⟨rfl, hb⟩; replace XK := Lib.hid (XK.out.below hb); clear hb; (replace q0 := XK.out.ob.cell 0 _ rfl; replace q1 := XK.out.ob.cell 1 _ rfl; replace q2 := XK.out.ob.cell 2 _ rfl; replace q3 := XK.out.ob.cell 3 _ rfl; replace q4 := XK.out.ob.cell 4 _ rfl; replace q5 := XK.out.ob.cell 5 _ rfl; replace q6 := XK.out.ob.cell 6 _ rfl; replace q7 := XK.out.ob.cell 7 _ rfl)))
                go_ret2
                exact ⟨rfl, XK.out.bel⟩
              | false =>
                have F4 : Hid ((ruleV c 4).2 = false) := by rw [Hid, ← Hv4.out]
                have hgk : GOk c := gok_of F0.out F3.out
                have NEE : Hid (∀ W, CfgOk W c → Calls Tryd.prog 50 #[(.agg #[.int .i64 c.cats, .slice c.g.a c.g.l.length c.g.cap, .slice c.r.a c.r.l.length c.r.cap, .slice c.p.a c.p.l.length c.p.cap, .slice c.n.a c.n.l.length c.n.cap, .slice c.s.a c.s.l.length c.s.cap, .int .i64 c.gate, .int .i64 c.quota])] W fun e w' => e = .returned (.int .i64 (needV c)) ∧ Below W.heap.size W w') := fun W hc => rneed_any c hgk _ hc
                have HBAD : Hid (gateB c = true → x = (18, 0)) := fun hb => by
                  rw [HG.out, rule_hit (k := 5) (by omega) (fun j hj => by rcases (show j = 0 ∨ j = 1 ∨ j = 2 ∨ j = 3 ∨ j = 4 by omega) with rfl | rfl | rfl | rfl | rfl; exact F0.out; exact F1.out; exact F2.out; exact F3.out; exact F4.out) hb]; rfl
                have HGOOD : Hid (gateB c = false → x = if 32 < needV c then (19, 0) else (0, 0)) := fun hb => by
                  rw [HG.out, rule_none (fun j hj => by rcases (show j = 0 ∨ j = 1 ∨ j = 2 ∨ j = 3 ∨ j = 4 ∨ j = 5 by omega) with rfl | rfl | rfl | rfl | rfl | rfl; exact F0.out; exact F1.out; exact F2.out; exact F3.out; exact F4.out; exact hb)]
                have GAT : Hid (gateB c = if c.gate = -1 then (c.quota != 0) else !v5 || (decide (c.quota < 0) || decide (64 < c.quota))) := by rw [Hid, hv5]; rfl
                clear HG hv5 Hv0 Hv1 Hv2 Hv3 Hv4 F0 F1 F2 F3 F4 hgk
                ((have h0 := CX.new h; go_enter Tryd.func22, Tryd.ntmps22; go_upto_region 1 with fail; generalize w.alloc (.cells #[.int .i64 c.cats, .slice c.g.a c.g.l.length c.g.cap, .slice c.r.a c.r.l.length c.r.cap, .slice c.p.a c.p.l.length c.p.cap, .slice c.n.a c.n.l.length c.n.cap, .slice c.s.a c.s.l.length c.s.cap, .int .i64 c.gate, .int .i64 c.quota] 29) = W1 at h0 ⊢; generalize w.heap.size = b0 at h0 ⊢; have H0 := Lib.hid h0; clear h0 h); have XK := H0; clear H0; (have q0 := XK.out.ob.cell 0 _ rfl; have q1 := XK.out.ob.cell 1 _ rfl; have q2 := XK.out.ob.cell 2 _ rfl; have q3 := XK.out.ob.cell 3 _ rfl; have q4 := XK.out.ob.cell 4 _ rfl; have q5 := XK.out.ob.cell 5 _ rfl; have q6 := XK.out.ob.cell 6 _ rfl; have q7 := XK.out.ob.cell 7 _ rfl))
                go_upto_region 18 with (first | (go_at_call 44; refine (C0.out _ XK.out.ok).mono ?_; rintro e Wc ⟨rfl, hb⟩; replace XK := Lib.hid (XK.out.below hb); clear hb; (replace q0 := XK.out.ob.cell 0 _ rfl; replace q1 := XK.out.ob.cell 1 _ rfl; replace q2 := XK.out.ob.cell 2 _ rfl; replace q3 := XK.out.ob.cell 3 _ rfl; replace q4 := XK.out.ob.cell 4 _ rfl; replace q5 := XK.out.ob.cell 5 _ rfl; replace q6 := XK.out.ob.cell 6 _ rfl; replace q7 := XK.out.ob.cell 7 _ rfl)) | (go_at_call 45; refine (C1.out _ XK.out.ok).mono ?_; rintro e Wc ⟨rfl, hb⟩; replace XK := Lib.hid (XK.out.below hb); clear hb; (replace q0 := XK.out.ob.cell 0 _ rfl; replace q1 := XK.out.ob.cell 1 _ rfl; replace q2 := XK.out.ob.cell 2 _ rfl; replace q3 := XK.out.ob.cell 3 _ rfl; replace q4 := XK.out.ob.cell 4 _ rfl; replace q5 := XK.out.ob.cell 5 _ rfl; replace q6 := XK.out.ob.cell 6 _ rfl; replace q7 := XK.out.ob.cell 7 _ rfl)) | (go_at_call 46; refine (C2.out _ XK.out.ok).mono ?_; rintro e Wc ⟨rfl, hb⟩; replace XK := Lib.hid (XK.out.below hb); clear hb; (replace q0 := XK.out.ob.cell 0 _ rfl; replace q1 := XK.out.ob.cell 1 _ rfl; replace q2 := XK.out.ob.cell 2 _ rfl; replace q3 := XK.out.ob.cell 3 _ rfl; replace q4 := XK.out.ob.cell 4 _ rfl; replace q5 := XK.out.ob.cell 5 _ rfl; replace q6 := XK.out.ob.cell 6 _ rfl; replace q7 := XK.out.ob.cell 7 _ rfl)) | (go_at_call 47; refine (C3.out _ XK.out.ok).mono ?_; rintro e Wc ⟨rfl, hb⟩; replace XK := Lib.hid (XK.out.below hb); clear hb; (replace q0 := XK.out.ob.cell 0 _ rfl; replace q1 := XK.out.ob.cell 1 _ rfl; replace q2 := XK.out.ob.cell 2 _ rfl; replace q3 := XK.out.ob.cell 3 _ rfl; replace q4 := XK.out.ob.cell 4 _ rfl; replace q5 := XK.out.ob.cell 5 _ rfl; replace q6 := XK.out.ob.cell 6 _ rfl; replace q7 := XK.out.ob.cell 7 _ rfl)) | (go_at_call 48; refine (C4.out _ XK.out.ok).mono ?_; rintro e Wc ⟨rfl, hb⟩; replace XK := Lib.hid (XK.out.below hb); clear hb; (replace q0 := XK.out.ob.cell 0 _ rfl; replace q1 := XK.out.ob.cell 1 _ rfl; replace q2 := XK.out.ob.cell 2 _ rfl; replace q3 := XK.out.ob.cell 3 _ rfl; replace q4 := XK.out.ob.cell 4 _ rfl; replace q5 := XK.out.ob.cell 5 _ rfl; replace q6 := XK.out.ob.cell 6 _ rfl; replace q7 := XK.out.ob.cell 7 _ rfl)) | (go_at_call 49; refine (GUE.out _ XK.out.ok).mono ?_; rintro e Wc ⟨rfl, hb⟩; replace XK := Lib.hid (XK.out.below hb); clear hb; (replace q0 := XK.out.ob.cell 0 _ rfl; replace q1 := XK.out.ob.cell 1 _ rfl; replace q2 := XK.out.ob.cell 2 _ rfl; replace q3 := XK.out.ob.cell 3 _ rfl; replace q4 := XK.out.ob.cell 4 _ rfl; replace q5 := XK.out.ob.cell 5 _ rfl; replace q6 := XK.out.ob.cell 6 _ rfl; replace q7 := XK.out.ob.cell 7 _ rfl)) | (go_at_call 50; refine (NEE.out _ XK.out.ok).mono ?_; rintro e Wc ⟨rfl, hb⟩; replace XK := Lib.hid (XK.out.below hb); clear hb; (replace q0 := XK.out.ob.cell 0 _ rfl; replace q1 := XK.out.ob.cell 1 _ rfl; replace q2 := XK.out.ob.cell 2 _ rfl; replace q3 := XK.out.ob.cell 3 _ rfl; replace q4 := XK.out.ob.cell 4 _ rfl; replace q5 := XK.out.ob.cell 5 _ rfl; replace q6 := XK.out.ob.cell 6 _ rfl; replace q7 := XK.out.ob.cell 7 _ rfl)))
                by_cases hq1 : c.quota < 0
                · have e1 : decide (c.quota < 0) = true := by simp [hq1]
                  obtain rfl : x = (18, 0) := HBAD.out (by rw [GAT.out]; split <;> simp <;> omega)
                  by_cases hg : c.gate = -1
                  · have eg : (c.gate != -1) = false := by simp [hg]
                    clear hq1 hg HBAD HGOOD GAT
                    go_wp2_with (first | (go_at_call 44; refine (C0.out _ XK.out.ok).mono ?_; rintro e Wc ⟨rfl, hb⟩; replace XK := Lib.hid (XK.out.below hb); clear hb; (replace q0 := XK.out.ob.cell 0 _ rfl; replace q1 := XK.out.ob.cell 1 _ rfl; replace q2 := XK.out.ob.cell 2 _ rfl; replace q3 := XK.out.ob.cell 3 _ rfl; replace q4 := XK.out.ob.cell 4 _ rfl; replace q5 := XK.out.ob.cell 5 _ rfl; replace q6 := XK.out.ob.cell 6 _ rfl; replace q7 := XK.out.ob.cell 7 _ rfl)) | (go_at_call 45; refine (C1.out _ XK.out.ok).mono ?_; rintro e Wc ⟨rfl, hb⟩; replace XK := Lib.hid (XK.out.below hb); clear hb; (replace q0 := XK.out.ob.cell 0 _ rfl; replace q1 := XK.out.ob.cell 1 _ rfl; replace q2 := XK.out.ob.cell 2 _ rfl; replace q3 := XK.out.ob.cell 3 _ rfl; replace q4 := XK.out.ob.cell 4 _ rfl; replace q5 := XK.out.ob.cell 5 _ rfl; replace q6 := XK.out.ob.cell 6 _ rfl; replace q7 := XK.out.ob.cell 7 _ rfl)) | (go_at_call 46; refine (C2.out _ XK.out.ok).mono ?_; rintro e Wc ⟨rfl, hb⟩; replace XK := Lib.hid (XK.out.below hb); clear hb; (replace q0 := XK.out.ob.cell 0 _ rfl; replace q1 := XK.out.ob.cell 1 _ rfl; replace q2 := XK.out.ob.cell 2 _ rfl; replace q3 := XK.out.ob.cell 3 _ rfl; replace q4 := XK.out.ob.cell 4 _ rfl; replace q5 := XK.out.ob.cell 5 _ rfl; replace q6 := XK.out.ob.cell 6 _ rfl; replace q7 := XK.out.ob.cell 7 _ rfl)) | (go_at_call 47; refine (C3.out _ XK.out.ok).mono ?_; rintro e Wc ⟨rfl, hb⟩; replace XK := Lib.hid (XK.out.below hb); clear hb; (replace q0 := XK.out.ob.cell 0 _ rfl; replace q1 := XK.out.ob.cell 1 _ rfl; replace q2 := XK.out.ob.cell 2 _ rfl; replace q3 := XK.out.ob.cell 3 _ rfl; replace q4 := XK.out.ob.cell 4 _ rfl; replace q5 := XK.out.ob.cell 5 _ rfl; replace q6 := XK.out.ob.cell 6 _ rfl; replace q7 := XK.out.ob.cell 7 _ rfl)) | (go_at_call 48; refine (C4.out _ XK.out.ok).mono ?_; rintro e Wc ⟨rfl, hb⟩; replace XK := Lib.hid (XK.out.below hb); clear hb; (replace q0 := XK.out.ob.cell 0 _ rfl; replace q1 := XK.out.ob.cell 1 _ rfl; replace q2 := XK.out.ob.cell 2 _ rfl; replace q3 := XK.out.ob.cell 3 _ rfl; replace q4 := XK.out.ob.cell 4 _ rfl; replace q5 := XK.out.ob.cell 5 _ rfl; replace q6 := XK.out.ob.cell 6 _ rfl; replace q7 := XK.out.ob.cell 7 _ rfl)) | (go_at_call 49; refine (GUE.out _ XK.out.ok).mono ?_; rintro e Wc ⟨rfl, hb⟩; replace XK := Lib.hid (XK.out.below hb); clear hb; (replace q0 := XK.out.ob.cell 0 _ rfl; replace q1 := XK.out.ob.cell 1 _ rfl; replace q2 := XK.out.ob.cell 2 _ rfl; replace q3 := XK.out.ob.cell 3 _ rfl; replace q4 := XK.out.ob.cell 4 _ rfl; replace q5 := XK.out.ob.cell 5 _ rfl; replace q6 := XK.out.ob.cell 6 _ rfl; replace q7 := XK.out.ob.cell 7 _ rfl)) | (go_at_call 50; refine (NEE.out _ XK.out.ok).mono ?_; rintro e Wc ⟨rfl, hb⟩; replace XK := Lib.hid (XK.out.below hb); clear hb; (replace q0 := XK.out.ob.cell 0 _ rfl; replace q1 := XK.out.ob.cell 1 _ rfl; replace q2 := XK.out.ob.cell 2 _ rfl; replace q3 := XK.out.ob.cell 3 _ rfl; replace q4 := XK.out.ob.cell 4 _ rfl; replace q5 := XK.out.ob.cell 5 _ rfl; replace q6 := XK.out.ob.cell 6 _ rfl; replace q7 := XK.out.ob.cell 7 _ rfl)))
                    go_ret2
                    exact ⟨rfl, XK.out.bel⟩
                  · have eg : (c.gate != -1) = true := by simp [hg]
                    clear hq1 hg HBAD HGOOD GAT
                    cases v5 with
                    | true =>
                      go_wp2_with (first | (go_at_call 44; refine (C0.out _ XK.out.ok).mono ?_; rintro e Wc ⟨rfl, hb⟩; replace XK := Lib.hid (XK.out.below hb); clear hb; (replace q0 := XK.out.ob.cell 0 _ rfl; replace q1 := XK.out.ob.cell 1 _ rfl; replace q2 := XK.out.ob.cell 2 _ rfl; replace q3 := XK.out.ob.cell 3 _ rfl; replace q4 := XK.out.ob.cell 4 _ rfl; replace q5 := XK.out.ob.cell 5 _ rfl; replace q6 := XK.out.ob.cell 6 _ rfl; replace q7 := XK.out.ob.cell 7 _ rfl)) | (go_at_call 45; refine (C1.out _ XK.out.ok).mono ?_; rintro e Wc ⟨rfl, hb⟩; replace XK := Lib.hid (XK.out.below hb); clear hb; (replace q0 := XK.out.ob.cell 0 _ rfl; replace q1 := XK.out.ob.cell 1 _ rfl; replace q2 := XK.out.ob.cell 2 _ rfl; replace q3 := XK.out.ob.cell 3 _ rfl; replace q4 := XK.out.ob.cell 4 _ rfl; replace q5 := XK.out.ob.cell 5 _ rfl; replace q6 := XK.out.ob.cell 6 _ rfl; replace q7 := XK.out.ob.cell 7 _ rfl)) | (go_at_call 46; refine (C2.out _ XK.out.ok).mono ?_; rintro e Wc ⟨rfl, hb⟩; replace XK := Lib.hid (XK.out.below hb); clear hb; (replace q0 := XK.out.ob.cell 0 _ rfl; replace q1 := XK.out.ob.cell 1 _ rfl; replace q2 := XK.out.ob.cell 2 _ rfl; replace q3 := XK.out.ob.cell 3 _ rfl; replace q4 := XK.out.ob.cell 4 _ rfl; replace q5 := XK.out.ob.cell 5 _ rfl; replace q6 := XK.out.ob.cell 6 _ rfl; replace q7 := XK.out.ob.cell 7 _ rfl)) | (go_at_call 47; refine (C3.out _ XK.out.ok).mono ?_; rintro e Wc ⟨rfl, hb⟩; replace XK := Lib.hid (XK.out.below hb); clear hb; (replace q0 := XK.out.ob.cell 0 _ rfl; replace q1 := XK.out.ob.cell 1 _ rfl; replace q2 := XK.out.ob.cell 2 _ rfl; replace q3 := XK.out.ob.cell 3 _ rfl; replace q4 := XK.out.ob.cell 4 _ rfl; replace q5 := XK.out.ob.cell 5 _ rfl; replace q6 := XK.out.ob.cell 6 _ rfl; replace q7 := XK.out.ob.cell 7 _ rfl)) | (go_at_call 48; refine (C4.out _ XK.out.ok).mono ?_; rintro e Wc ⟨rfl, hb⟩; replace XK := Lib.hid (XK.out.below hb); clear hb; (replace q0 := XK.out.ob.cell 0 _ rfl; replace q1 := XK.out.ob.cell 1 _ rfl; replace q2 := XK.out.ob.cell 2 _ rfl; replace q3 := XK.out.ob.cell 3 _ rfl; replace q4 := XK.out.ob.cell 4 _ rfl; replace q5 := XK.out.ob.cell 5 _ rfl; replace q6 := XK.out.ob.cell 6 _ rfl; replace q7 := XK.out.ob.cell 7 _ rfl)) | (go_at_call 49; refine (GUE.out _ XK.out.ok).mono ?_; rintro e Wc ⟨rfl, hb⟩; replace XK := Lib.hid (XK.out.below hb); clear hb; (replace q0 := XK.out.ob.cell 0 _ rfl; replace q1 := XK.out.ob.cell 1 _ rfl; replace q2 := XK.out.ob.cell 2 _ rfl; replace q3 := XK.out.ob.cell 3 _ rfl; replace q4 := XK.out.ob.cell 4 _ rfl; replace q5 := XK.out.ob.cell 5 _ rfl; replace q6 := XK.out.ob.cell 6 _ rfl; replace q7 := XK.out.ob.cell 7 _ rfl)) | (go_at_call 50; refine (NEE.out _ XK.out.ok).mono ?_; rintro e Wc ⟨rfl, hb⟩; replace XK := Lib.hid (XK.out.below hb); clear hb; (replace q0 := XK.out.ob.cell 0 _ rfl; replace q1 := XK.out.ob.cell 1 _ rfl; replace q2 := XK.out.ob.cell 2 _ rfl; replace q3 := XK.out.ob.cell 3 _ rfl; replace q4 := XK.out.ob.cell 4 _ rfl; replace q5 := XK.out.ob.cell 5 _ rfl; replace q6 := XK.out.ob.cell 6 _ rfl; replace q7 := XK.out.ob.cell 7 _ rfl)))
                      go_ret2
                      exact ⟨rfl, XK.out.bel⟩
                    | false =>
                      go_wp2_with (first | (go_at_call 44; refine (C0.out _ XK.out.ok).mono ?_; rintro e Wc ⟨rfl, hb⟩; replace XK := Lib.hid (XK.out.below hb); clear hb; (replace q0 := XK.out.ob.cell 0 _ rfl; replace q1 := XK.out.ob.cell 1 _ rfl; replace q2 := XK.out.ob.cell 2 _ rfl; replace q3 := XK.out.ob.cell 3 _ rfl; replace q4 := XK.out.ob.cell 4 _ rfl; replace q5 := XK.out.ob.cell 5 _ rfl; replace q6 := XK.out.ob.cell 6 _ rfl; replace q7 := XK.out.ob.cell 7 _ rfl)) | (go_at_call 45; refine (C1.out _ XK.out.ok).mono ?_; rintro e Wc ⟨rfl, hb⟩; replace XK := Lib.hid (XK.out.below hb); clear hb; (replace q0 := XK.out.ob.cell 0 _ rfl; replace q1 := XK.out.ob.cell 1 _ rfl; replace q2 := XK.out.ob.cell 2 _ rfl; replace q3 := XK.out.ob.cell 3 _ rfl; replace q4 := XK.out.ob.cell 4 _ rfl; replace q5 := XK.out.ob.cell 5 _ rfl; replace q6 := XK.out.ob.cell 6 _ rfl; replace q7 := XK.out.ob.cell 7 _ rfl)) | (go_at_call 46; refine (C2.out _ XK.out.ok).mono ?_; rintro e Wc ⟨rfl, hb⟩; replace XK := Lib.hid (XK.out.below hb); clear hb; (replace q0 := XK.out.ob.cell 0 _ rfl; replace q1 := XK.out.ob.cell 1 _ rfl; replace q2 := XK.out.ob.cell 2 _ rfl; replace q3 := XK.out.ob.cell 3 _ rfl; replace q4 := XK.out.ob.cell 4 _ rfl; replace q5 := XK.out.ob.cell 5 _ rfl; replace q6 := XK.out.ob.cell 6 _ rfl; replace q7 := XK.out.ob.cell 7 _ rfl)) | (go_at_call 47; refine (C3.out _ XK.out.ok).mono ?_; rintro e Wc ⟨rfl, hb⟩; replace XK := Lib.hid (XK.out.below hb); clear hb; (replace q0 := XK.out.ob.cell 0 _ rfl; replace q1 := XK.out.ob.cell 1 _ rfl; replace q2 := XK.out.ob.cell 2 _ rfl; replace q3 := XK.out.ob.cell 3 _ rfl; replace q4 := XK.out.ob.cell 4 _ rfl; replace q5 := XK.out.ob.cell 5 _ rfl; replace q6 := XK.out.ob.cell 6 _ rfl; replace q7 := XK.out.ob.cell 7 _ rfl)) | (go_at_call 48; refine (C4.out _ XK.out.ok).mono ?_; rintro e Wc ⟨rfl, hb⟩; replace XK := Lib.hid (XK.out.below hb); clear hb; (replace q0 := XK.out.ob.cell 0 _ rfl; replace q1 := XK.out.ob.cell 1 _ rfl; replace q2 := XK.out.ob.cell 2 _ rfl; replace q3 := XK.out.ob.cell 3 _ rfl; replace q4 := XK.out.ob.cell 4 _ rfl; replace q5 := XK.out.ob.cell 5 _ rfl; replace q6 := XK.out.ob.cell 6 _ rfl; replace q7 := XK.out.ob.cell 7 _ rfl)) | (go_at_call 49; refine (GUE.out _ XK.out.ok).mono ?_; rintro e Wc ⟨rfl, hb⟩; replace XK := Lib.hid (XK.out.below hb); clear hb; (replace q0 := XK.out.ob.cell 0 _ rfl; replace q1 := XK.out.ob.cell 1 _ rfl; replace q2 := XK.out.ob.cell 2 _ rfl; replace q3 := XK.out.ob.cell 3 _ rfl; replace q4 := XK.out.ob.cell 4 _ rfl; replace q5 := XK.out.ob.cell 5 _ rfl; replace q6 := XK.out.ob.cell 6 _ rfl; replace q7 := XK.out.ob.cell 7 _ rfl)) | (go_at_call 50; refine (NEE.out _ XK.out.ok).mono ?_; rintro e Wc ⟨rfl, hb⟩; replace XK := Lib.hid (XK.out.below hb); clear hb; (replace q0 := XK.out.ob.cell 0 _ rfl; replace q1 := XK.out.ob.cell 1 _ rfl; replace q2 := XK.out.ob.cell 2 _ rfl; replace q3 := XK.out.ob.cell 3 _ rfl; replace q4 := XK.out.ob.cell 4 _ rfl; replace q5 := XK.out.ob.cell 5 _ rfl; replace q6 := XK.out.ob.cell 6 _ rfl; replace q7 := XK.out.ob.cell 7 _ rfl)))
                      go_ret2
                      exact ⟨rfl, XK.out.bel⟩
                · have e1 : decide (c.quota < 0) = false := by simp [hq1]
                  by_cases hq2 : 64 < c.quota
                  · have e2 : decide (c.quota > 64) = true := by simp [hq2]
                    obtain rfl : x = (18, 0) := HBAD.out (by rw [GAT.out]; split <;> simp <;> omega)
                    by_cases hg : c.gate = -1
                    · have eg : (c.gate != -1) = false := by simp [hg]
                      clear hq1 hq2 hg HBAD HGOOD GAT
                      go_wp2_with (first | (go_at_call 44; refine (C0.out _ XK.out.ok).mono ?_; rintro e Wc ⟨rfl, hb⟩; replace XK := Lib.hid (XK.out.below hb); clear hb; (replace q0 := XK.out.ob.cell 0 _ rfl; replace q1 := XK.out.ob.cell 1 _ rfl; replace q2 := XK.out.ob.cell 2 _ rfl; replace q3 := XK.out.ob.cell 3 _ rfl; replace q4 := XK.out.ob.cell 4 _ rfl; replace q5 := XK.out.ob.cell 5 _ rfl; replace q6 := XK.out.ob.cell 6 _ rfl; replace q7 := XK.out.ob.cell 7 _ rfl)) | (go_at_call 45; refine (C1.out _ XK.out.ok).mono ?_; rintro e Wc ⟨rfl, hb⟩; replace XK := Lib.hid (XK.out.below hb); clear hb; (replace q0 := XK.out.ob.cell 0 _ rfl; replace q1 := XK.out.ob.cell 1 _ rfl; replace q2 := XK.out.ob.cell 2 _ rfl; replace q3 := XK.out.ob.cell 3 _ rfl; replace q4 := XK.out.ob.cell 4 _ rfl; replace q5 := XK.out.ob.cell 5 _ rfl; replace q6 := XK.out.ob.cell 6 _ rfl; replace q7 := XK.out.ob.cell 7 _ rfl)) | (go_at_call 46; refine (C2.out _ XK.out.ok).mono ?_; rintro e Wc ⟨rfl, hb⟩; replace XK := Lib.hid (XK.out.below hb); clear hb; (replace q0 := XK.out.ob.cell 0 _ rfl; replace q1 := XK.out.ob.cell 1 _ rfl; replace q2 := XK.out.ob.cell 2 _ rfl; replace q3 := XK.out.ob.cell 3 _ rfl; replace q4 := XK.out.ob.cell 4 _ rfl; replace q5 := XK.out.ob.cell 5 _ rfl; replace q6 := XK.out.ob.cell 6 _ rfl; replace q7 := XK.out.ob.cell 7 _ rfl)) | (go_at_call 47; refine (C3.out _ XK.out.ok).mono ?_; rintro e Wc ⟨rfl, hb⟩; replace XK := Lib.hid (XK.out.below hb); clear hb; (replace q0 := XK.out.ob.cell 0 _ rfl; replace q1 := XK.out.ob.cell 1 _ rfl; replace q2 := XK.out.ob.cell 2 _ rfl; replace q3 := XK.out.ob.cell 3 _ rfl; replace q4 := XK.out.ob.cell 4 _ rfl; replace q5 := XK.out.ob.cell 5 _ rfl; replace q6 := XK.out.ob.cell 6 _ rfl; replace q7 := XK.out.ob.cell 7 _ rfl)) | (go_at_call 48; refine (C4.out _ XK.out.ok).mono ?_; rintro e Wc ⟨rfl, hb⟩; replace XK := Lib.hid (XK.out.below hb); clear hb; (replace q0 := XK.out.ob.cell 0 _ rfl; replace q1 := XK.out.ob.cell 1 _ rfl; replace q2 := XK.out.ob.cell 2 _ rfl; replace q3 := XK.out.ob.cell 3 _ rfl; replace q4 := XK.out.ob.cell 4 _ rfl; replace q5 := XK.out.ob.cell 5 _ rfl; replace q6 := XK.out.ob.cell 6 _ rfl; replace q7 := XK.out.ob.cell 7 _ rfl)) | (go_at_call 49; refine (GUE.out _ XK.out.ok).mono ?_; rintro e Wc ⟨rfl, hb⟩; replace XK := Lib.hid (XK.out.below hb); clear hb; (replace q0 := XK.out.ob.cell 0 _ rfl; replace q1 := XK.out.ob.cell 1 _ rfl; replace q2 := XK.out.ob.cell 2 _ rfl; replace q3 := XK.out.ob.cell 3 _ rfl; replace q4 := XK.out.ob.cell 4 _ rfl; replace q5 := XK.out.ob.cell 5 _ rfl; replace q6 := XK.out.ob.cell 6 _ rfl; replace q7 := XK.out.ob.cell 7 _ rfl)) | (go_at_call 50; refine (NEE.out _ XK.out.ok).mono ?_; rintro e Wc ⟨rfl, hb⟩; replace XK := Lib.hid (XK.out.below hb); clear hb; (replace q0 := XK.out.ob.cell 0 _ rfl; replace q1 := XK.out.ob.cell 1 _ rfl; replace q2 := XK.out.ob.cell 2 _ rfl; replace q3 := XK.out.ob.cell 3 _ rfl; replace q4 := XK.out.ob.cell 4 _ rfl; replace q5 := XK.out.ob.cell 5 _ rfl; replace q6 := XK.out.ob.cell 6 _ rfl; replace q7 := XK.out.ob.cell 7 _ rfl)))
                      go_ret2
                      exact ⟨rfl, XK.out.bel⟩
                    · have eg : (c.gate != -1) = true := by simp [hg]
                      clear hq1 hq2 hg HBAD HGOOD GAT
                      cases v5 with
                      | true =>
                        go_wp2_with (first | (go_at_call 44; refine (C0.out _ XK.out.ok).mono ?_; rintro e Wc ⟨rfl, hb⟩; replace XK := Lib.hid (XK.out.below hb); clear hb; (replace q0 := XK.out.ob.cell 0 _ rfl; replace q1 := XK.out.ob.cell 1 _ rfl; replace q2 := XK.out.ob.cell 2 _ rfl; replace q3 := XK.out.ob.cell 3 _ rfl; replace q4 := XK.out.ob.cell 4 _ rfl; replace q5 := XK.out.ob.cell 5 _ rfl; replace q6 := XK.out.ob.cell 6 _ rfl; replace q7 := XK.out.ob.cell 7 _ rfl)) | (go_at_call 45; refine (C1.out _ XK.out.ok).mono ?_; rintro e Wc ⟨rfl, hb⟩; replace XK := Lib.hid (XK.out.below hb); clear hb; (replace q0 := XK.out.ob.cell 0 _ rfl; replace q1 := XK.out.ob.cell 1 _ rfl; replace q2 := XK.out.ob.cell 2 _ rfl; replace q3 := XK.out.ob.cell 3 _ rfl; replace q4 := XK.out.ob.cell 4 _ rfl; replace q5 := XK.out.ob.cell 5 _ rfl; replace q6 := XK.out.ob.cell 6 _ rfl; replace q7 := XK.out.ob.cell 7 _ rfl)) | (go_at_call 46; refine (C2.out _ XK.out.ok).mono ?_; rintro e Wc ⟨rfl, hb⟩; replace XK := Lib.hid (XK.out.below hb); clear hb; (replace q0 := XK.out.ob.cell 0 _ rfl; replace q1 := XK.out.ob.cell 1 _ rfl; replace q2 := XK.out.ob.cell 2 _ rfl; replace q3 := XK.out.ob.cell 3 _ rfl; replace q4 := XK.out.ob.cell 4 _ rfl; replace q5 := XK.out.ob.cell 5 _ rfl; replace q6 := XK.out.ob.cell 6 _ rfl; replace q7 := XK.out.ob.cell 7 _ rfl)) | (go_at_call 47; refine (C3.out _ XK.out.ok).mono ?_; rintro e Wc ⟨rfl, hb⟩; replace XK := Lib.hid (XK.out.below hb); clear hb; (replace q0 := XK.out.ob.cell 0 _ rfl; replace q1 := XK.out.ob.cell 1 _ rfl; replace q2 := XK.out.ob.cell 2 _ rfl; replace q3 := XK.out.ob.cell 3 _ rfl; replace q4 := XK.out.ob.cell 4 _ rfl; replace q5 := XK.out.ob.cell 5 _ rfl; replace q6 := XK.out.ob.cell 6 _ rfl; replace q7 := XK.out.ob.cell 7 _ rfl)) | (go_at_call 48; refine (C4.out _ XK.out.ok).mono ?_; rintro e Wc ⟨rfl, hb⟩; replace XK := Lib.hid (XK.out.below hb); clear hb; (replace q0 := XK.out.ob.cell 0 _ rfl; replace q1 := XK.out.ob.cell 1 _ rfl; replace q2 := XK.out.ob.cell 2 _ rfl; replace q3 := XK.out.ob.cell 3 _ rfl; replace q4 := XK.out.ob.cell 4 _ rfl; replace q5 := XK.out.ob.cell 5 _ rfl; replace q6 := XK.out.ob.cell 6 _ rfl; replace q7 := XK.out.ob.cell 7 _ rfl)) | (go_at_call 49; refine (GUE.out _ XK.out.ok).mono ?_; rintro e Wc ⟨rfl, hb⟩; replace XK := Lib.hid (XK.out.below hb); clear hb; (replace q0 := XK.out.ob.cell 0 _ rfl; replace q1 := XK.out.ob.cell 1 _ rfl; replace q2 := XK.out.ob.cell 2 _ rfl; replace q3 := XK.out.ob.cell 3 _ rfl; replace q4 := XK.out.ob.cell 4 _ rfl; replace q5 := XK.out.ob.cell 5 _ rfl; replace q6 := XK.out.ob.cell 6 _ rfl; replace q7 := XK.out.ob.cell 7 _ rfl)) | (go_at_call 50; refine (NEE.out _ XK.out.ok).mono ?_; rintro e Wc ⟨rfl, hb⟩; replace XK := Lib.hid (XK.out.below hb); clear hb; (replace q0 := XK.out.ob.cell 0 _ rfl; replace q1 := XK.out.ob.cell 1 _ rfl; replace q2 := XK.out.ob.cell 2 _ rfl; replace q3 := XK.out.ob.cell 3 _ rfl; replace q4 := XK.out.ob.cell 4 _ rfl; replace q5 := XK.out.ob.cell 5 _ rfl; replace q6 := XK.out.ob.cell 6 _ rfl; replace q7 := XK.out.ob.cell 7 _ rfl)))
                        go_ret2
                        exact ⟨rfl, XK.out.bel⟩
                      | false =>
                        go_wp2_with (first | (go_at_call 44; refine (C0.out _ XK.out.ok).mono ?_; rintro e Wc ⟨rfl, hb⟩; replace XK := Lib.hid (XK.out.below hb); clear hb; (replace q0 := XK.out.ob.cell 0 _ rfl; replace q1 := XK.out.ob.cell 1 _ rfl; replace q2 := XK.out.ob.cell 2 _ rfl; replace q3 := XK.out.ob.cell 3 _ rfl; replace q4 := XK.out.ob.cell 4 _ rfl; replace q5 := XK.out.ob.cell 5 _ rfl; replace q6 := XK.out.ob.cell 6 _ rfl; replace q7 := XK.out.ob.cell 7 _ rfl)) | (go_at_call 45; refine (C1.out _ XK.out.ok).mono ?_; rintro e Wc ⟨rfl, hb⟩; replace XK := Lib.hid (XK.out.below hb); clear hb; (replace q0 := XK.out.ob.cell 0 _ rfl; replace q1 := XK.out.ob.cell 1 _ rfl; replace q2 := XK.out.ob.cell 2 _ rfl; replace q3 := XK.out.ob.cell 3 _ rfl; replace q4 := XK.out.ob.cell 4 _ rfl; replace q5 := XK.out.ob.cell 5 _ rfl; replace q6 := XK.out.ob.cell 6 _ rfl; replace q7 := XK.out.ob.cell 7 _ rfl)) | (go_at_call 46; refine (C2.out _ XK.out.ok).mono ?_; rintro e Wc ⟨rfl, hb⟩; replace XK := Lib.hid (XK.out.below hb); clear hb; (replace q0 := XK.out.ob.cell 0 _ rfl; replace q1 := XK.out.ob.cell 1 _ rfl; replace q2 := XK.out.ob.cell 2 _ rfl; replace q3 := XK.out.ob.cell 3 _ rfl; replace q4 := XK.out.ob.cell 4 _ rfl; replace q5 := XK.out.ob.cell 5 _ rfl; replace q6 := XK.out.ob.cell 6 _ rfl; replace q7 := XK.out.ob.cell 7 _ rfl)) | (go_at_call 47; refine (C3.out _ XK.out.ok).mono ?_; rintro e Wc ⟨rfl, hb⟩; replace XK := Lib.hid (XK.out.below hb); clear hb; (replace q0 := XK.out.ob.cell 0 _ rfl; replace q1 := XK.out.ob.cell 1 _ rfl; replace q2 := XK.out.ob.cell 2 _ rfl; replace q3 := XK.out.ob.cell 3 _ rfl; replace q4 := XK.out.ob.cell 4 _ rfl; replace q5 := XK.out.ob.cell 5 _ rfl; replace q6 := XK.out.ob.cell 6 _ rfl; replace q7 := XK.out.ob.cell 7 _ rfl)) | (go_at_call 48; refine (C4.out _ XK.out.ok).mono ?_; rintro e Wc ⟨rfl, hb⟩; replace XK := Lib.hid (XK.out.below hb); clear hb; (replace q0 := XK.out.ob.cell 0 _ rfl; replace q1 := XK.out.ob.cell 1 _ rfl; replace q2 := XK.out.ob.cell 2 _ rfl; replace q3 := XK.out.ob.cell 3 _ rfl; replace q4 := XK.out.ob.cell 4 _ rfl; replace q5 := XK.out.ob.cell 5 _ rfl; replace q6 := XK.out.ob.cell 6 _ rfl; replace q7 := XK.out.ob.cell 7 _ rfl)) | (go_at_call 49; refine (GUE.out _ XK.out.ok).mono ?_; rintro e Wc ⟨rfl, hb⟩; replace XK := Lib.hid (XK.out.below hb); clear hb; (replace q0 := XK.out.ob.cell 0 _ rfl; replace q1 := XK.out.ob.cell 1 _ rfl; replace q2 := XK.out.ob.cell 2 _ rfl; replace q3 := XK.out.ob.cell 3 _ rfl; replace q4 := XK.out.ob.cell 4 _ rfl; replace q5 := XK.out.ob.cell 5 _ rfl; replace q6 := XK.out.ob.cell 6 _ rfl; replace q7 := XK.out.ob.cell 7 _ rfl)) | (go_at_call 50; refine (NEE.out _ XK.out.ok).mono ?_; rintro e Wc ⟨rfl, hb⟩; replace XK := Lib.hid (XK.out.below hb); clear hb; (replace q0 := XK.out.ob.cell 0 _ rfl; replace q1 := XK.out.ob.cell 1 _ rfl; replace q2 := XK.out.ob.cell 2 _ rfl; replace q3 := XK.out.ob.cell 3 _ rfl; replace q4 := XK.out.ob.cell 4 _ rfl; replace q5 := XK.out.ob.cell 5 _ rfl; replace q6 := XK.out.ob.cell 6 _ rfl; replace q7 := XK.out.ob.cell 7 _ rfl)))
                        go_ret2
                        exact ⟨rfl, XK.out.bel⟩
                  · have e2 : decide (c.quota > 64) = false := by simpa using hq2
                    by_cases hg : c.gate = -1
                    · have eg : (c.gate != -1) = false := by simp [hg]
                      have eg2 : (c.gate == -1) = true := by simp [hg]
                      by_cases hq3 : c.quota = 0
                      · have e3 : (c.quota != 0) = false := by simp [hq3]
                        have hx := HGOOD.out (by rw [GAT.out, if_pos hg, e3])
                        clear hq1 hq2 hq3 hg HBAD HGOOD GAT
                        by_cases hn : 32 < needV c
                        · have dn : decide (needV c > 32) = true := by simp [hn]
                          obtain rfl : x = (19, 0) := by rw [hx, if_pos hn]
                          clear hx hn
                          go_wp2_with (first | (go_at_call 44; refine (C0.out _ XK.out.ok).mono ?_; rintro e Wc ⟨rfl, hb⟩; replace XK := Lib.hid (XK.out.below hb); clear hb; (replace q0 := XK.out.ob.cell 0 _ rfl; replace q1 := XK.out.ob.cell 1 _ rfl; replace q2 := XK.out.ob.cell 2 _ rfl; replace q3 := XK.out.ob.cell 3 _ rfl; replace q4 := XK.out.ob.cell 4 _ rfl; replace q5 := XK.out.ob.cell 5 _ rfl; replace q6 := XK.out.ob.cell 6 _ rfl; replace q7 := XK.out.ob.cell 7 _ rfl)) | (go_at_call 45; refine (C1.out _ XK.out.ok).mono ?_; rintro e Wc ⟨rfl, hb⟩; replace XK := Lib.hid (XK.out.below hb); clear hb; (replace q0 := XK.out.ob.cell 0 _ rfl; replace q1 := XK.out.ob.cell 1 _ rfl; replace q2 := XK.out.ob.cell 2 _ rfl; replace q3 := XK.out.ob.cell 3 _ rfl; replace q4 := XK.out.ob.cell 4 _ rfl; replace q5 := XK.out.ob.cell 5 _ rfl; replace q6 := XK.out.ob.cell 6 _ rfl; replace q7 := XK.out.ob.cell 7 _ rfl)) | (go_at_call 46; refine (C2.out _ XK.out.ok).mono ?_; rintro e Wc ⟨rfl, hb⟩; replace XK := Lib.hid (XK.out.below hb); clear hb; (replace q0 := XK.out.ob.cell 0 _ rfl; replace q1 := XK.out.ob.cell 1 _ rfl; replace q2 := XK.out.ob.cell 2 _ rfl; replace q3 := XK.out.ob.cell 3 _ rfl; replace q4 := XK.out.ob.cell 4 _ rfl; replace q5 := XK.out.ob.cell 5 _ rfl; replace q6 := XK.out.ob.cell 6 _ rfl; replace q7 := XK.out.ob.cell 7 _ rfl)) | (go_at_call 47; refine (C3.out _ XK.out.ok).mono ?_; rintro e Wc ⟨rfl, hb⟩; replace XK := Lib.hid (XK.out.below hb); clear hb; (replace q0 := XK.out.ob.cell 0 _ rfl; replace q1 := XK.out.ob.cell 1 _ rfl; replace q2 := XK.out.ob.cell 2 _ rfl; replace q3 := XK.out.ob.cell 3 _ rfl; replace q4 := XK.out.ob.cell 4 _ rfl; replace q5 := XK.out.ob.cell 5 _ rfl; replace q6 := XK.out.ob.cell 6 _ rfl; replace q7 := XK.out.ob.cell 7 _ rfl)) | (go_at_call 48; refine (C4.out _ XK.out.ok).mono ?_; rintro e Wc ⟨rfl, hb⟩; replace XK := Lib.hid (XK.out.below hb); clear hb; (replace q0 := XK.out.ob.cell 0 _ rfl; replace q1 := XK.out.ob.cell 1 _ rfl; replace q2 := XK.out.ob.cell 2 _ rfl; replace q3 := XK.out.ob.cell 3 _ rfl; replace q4 := XK.out.ob.cell 4 _ rfl; replace q5 := XK.out.ob.cell 5 _ rfl; replace q6 := XK.out.ob.cell 6 _ rfl; replace q7 := XK.out.ob.cell 7 _ rfl)) | (go_at_call 49; refine (GUE.out _ XK.out.ok).mono ?_; rintro e Wc ⟨rfl, hb⟩; replace XK := Lib.hid (XK.out.below hb); clear hb; (replace q0 := XK.out.ob.cell 0 _ rfl; replace q1 := XK.out.ob.cell 1 _ rfl; replace q2 := XK.out.ob.cell 2 _ rfl; replace q3 := XK.out.ob.cell 3 _ rfl; replace q4 := XK.out.ob.cell 4 _ rfl; replace q5 := XK.out.ob.cell 5 _ rfl; replace q6 := XK.out.ob.cell 6 _ rfl; replace q7 := XK.out.ob.cell 7 _ rfl)) | (go_at_call 50; refine (NEE.out _ XK.out.ok).mono ?_; rintro e Wc ⟨rfl, hb⟩; replace XK := Lib.hid (XK.out.below hb); clear hb; (replace q0 := XK.out.ob.cell 0 _ rfl; replace q1 := XK.out.ob.cell 1 _ rfl; replace q2 := XK.out.ob.cell 2 _ rfl; replace q3 := XK.out.ob.cell 3 _ rfl; replace q4 := XK.out.ob.cell 4 _ rfl; replace q5 := XK.out.ob.cell 5 _ rfl; replace q6 := XK.out.ob.cell 6 _ rfl; replace q7 := XK.out.ob.cell 7 _ rfl)))
                          go_ret2
                          exact ⟨rfl, XK.out.bel⟩
                        · have dn : decide (needV c > 32) = false := by simpa using hn
                          obtain rfl : x = (0, 0) := by rw [hx, if_neg hn]
                          clear hx hn
                          go_wp2_with (first | (go_at_call 44; refine (C0.out _ XK.out.ok).mono ?_; rintro e Wc ⟨rfl, hb⟩; replace XK := Lib.hid (XK.out.below hb); clear hb; (replace q0 := XK.out.ob.cell 0 _ rfl; replace q1 := XK.out.ob.cell 1 _ rfl; replace q2 := XK.out.ob.cell 2 _ rfl; replace q3 := XK.out.ob.cell 3 _ rfl; replace q4 := XK.out.ob.cell 4 _ rfl; replace q5 := XK.out.ob.cell 5 _ rfl; replace q6 := XK.out.ob.cell 6 _ rfl; replace q7 := XK.out.ob.cell 7 _ rfl)) | (go_at_call 45; refine (C1.out _ XK.out.ok).mono ?_; rintro e Wc ⟨rfl, hb⟩; replace XK := Lib.hid (XK.out.below hb); clear hb; (replace q0 := XK.out.ob.cell 0 _ rfl; replace q1 := XK.out.ob.cell 1 _ rfl; replace q2 := XK.out.ob.cell 2 _ rfl; replace q3 := XK.out.ob.cell 3 _ rfl; replace q4 := XK.out.ob.cell 4 _ rfl; replace q5 := XK.out.ob.cell 5 _ rfl; replace q6 := XK.out.ob.cell 6 _ rfl; replace q7 := XK.out.ob.cell 7 _ rfl)) | (go_at_call 46; refine (C2.out _ XK.out.ok).mono ?_; rintro e Wc ⟨rfl, hb⟩; replace XK := Lib.hid (XK.out.below hb); clear hb; (replace q0 := XK.out.ob.cell 0 _ rfl; replace q1 := XK.out.ob.cell 1 _ rfl; replace q2 := XK.out.ob.cell 2 _ rfl; replace q3 := XK.out.ob.cell 3 _ rfl; replace q4 := XK.out.ob.cell 4 _ rfl; replace q5 := XK.out.ob.cell 5 _ rfl; replace q6 := XK.out.ob.cell 6 _ rfl; replace q7 := XK.out.ob.cell 7 _ rfl)) | (go_at_call 47; refine (C3.out _ XK.out.ok).mono ?_; rintro e Wc ⟨rfl, hb⟩; replace XK := Lib.hid (XK.out.below hb); clear hb; (replace q0 := XK.out.ob.cell 0 _ rfl; replace q1 := XK.out.ob.cell 1 _ rfl; replace q2 := XK.out.ob.cell 2 _ rfl; replace q3 := XK.out.ob.cell 3 _ rfl; replace q4 := XK.out.ob.cell 4 _ rfl; replace q5 := XK.out.ob.cell 5 _ rfl; replace q6 := XK.out.ob.cell 6 _ rfl; replace q7 := XK.out.ob.cell 7 _ rfl)) | (go_at_call 48; refine (C4.out _ XK.out.ok).mono ?_; rintro e Wc ⟨rfl, hb⟩; replace XK := Lib.hid (XK.out.below hb); clear hb; (replace q0 := XK.out.ob.cell 0 _ rfl; replace q1 := XK.out.ob.cell 1 _ rfl; replace q2 := XK.out.ob.cell 2 _ rfl; replace q3 := XK.out.ob.cell 3 _ rfl; replace q4 := XK.out.ob.cell 4 _ rfl; replace q5 := XK.out.ob.cell 5 _ rfl; replace q6 := XK.out.ob.cell 6 _ rfl; replace q7 := XK.out.ob.cell 7 _ rfl)) | (go_at_call 49; refine (GUE.out _ XK.out.ok).mono ?_; rintro e Wc ⟨rfl, hb⟩; replace XK := Lib.hid (XK.out.below hb); clear hb; (replace q0 := XK.out.ob.cell 0 _ rfl; replace q1 := XK.out.ob.cell 1 _ rfl; replace q2 := XK.out.ob.cell 2 _ rfl; replace q3 := XK.out.ob.cell 3 _ rfl; replace q4 := XK.out.ob.cell 4 _ rfl; replace q5 := XK.out.ob.cell 5 _ rfl; replace q6 := XK.out.ob.cell 6 _ rfl; replace q7 := XK.out.ob.cell 7 _ rfl)) | (go_at_call 50; refine (NEE.out _ XK.out.ok).mono ?_; rintro e Wc ⟨rfl, hb⟩; replace XK := Lib.hid (XK.out.below hb); clear hb; (replace q0 := XK.out.ob.cell 0 _ rfl; replace q1 := XK.out.ob.cell 1 _ rfl; replace q2 := XK.out.ob.cell 2 _ rfl; replace q3 := XK.out.ob.cell 3 _ rfl; replace q4 := XK.out.ob.cell 4 _ rfl; replace q5 := XK.out.ob.cell 5 _ rfl; replace q6 := XK.out.ob.cell 6 _ rfl; replace q7 := XK.out.ob.cell 7 _ rfl)))
                          go_ret2
                          exact ⟨rfl, XK.out.bel⟩
                      · have e3 : (c.quota != 0) = true := by simp [hq3]
                        obtain rfl : x = (18, 0) := HBAD.out (by rw [GAT.out, if_pos hg, e3])
                        clear hq1 hq2 hq3 hg HBAD HGOOD GAT
                        go_wp2_with (first | (go_at_call 44; refine (C0.out _ XK.out.ok).mono ?_; rintro e Wc ⟨rfl, hb⟩; replace XK := Lib.hid (XK.out.below hb); clear hb; (replace q0 := XK.out.ob.cell 0 _ rfl; replace q1 := XK.out.ob.cell 1 _ rfl; replace q2 := XK.out.ob.cell 2 _ rfl; replace q3 := XK.out.ob.cell 3 _ rfl; replace q4 := XK.out.ob.cell 4 _ rfl; replace q5 := XK.out.ob.cell 5 _ rfl; replace q6 := XK.out.ob.cell 6 _ rfl; replace q7 := XK.out.ob.cell 7 _ rfl)) | (go_at_call 45; refine (C1.out _ XK.out.ok).mono ?_; rintro e Wc ⟨rfl, hb⟩; replace XK := Lib.hid (XK.out.below hb); clear hb; (replace q0 := XK.out.ob.cell 0 _ rfl; replace q1 := XK.out.ob.cell 1 _ rfl; replace q2 := XK.out.ob.cell 2 _ rfl; replace q3 := XK.out.ob.cell 3 _ rfl; replace q4 := XK.out.ob.cell 4 _ rfl; replace q5 := XK.out.ob.cell 5 _ rfl; replace q6 := XK.out.ob.cell 6 _ rfl; replace q7 := XK.out.ob.cell 7 _ rfl)) | (go_at_call 46; refine (C2.out _ XK.out.ok).mono ?_; rintro e Wc ⟨rfl, hb⟩; replace XK := Lib.hid (XK.out.below hb); clear hb; (replace q0 := XK.out.ob.cell 0 _ rfl; replace q1 := XK.out.ob.cell 1 _ rfl; replace q2 := XK.out.ob.cell 2 _ rfl; replace q3 := XK.out.ob.cell 3 _ rfl; replace q4 := XK.out.ob.cell 4 _ rfl; replace q5 := XK.out.ob.cell 5 _ rfl; replace q6 := XK.out.ob.cell 6 _ rfl; replace q7 := XK.out.ob.cell 7 _ rfl)) | (go_at_call 47; refine (C3.out _ XK.out.ok).mono ?_; rintro e Wc ⟨rfl, hb⟩; replace XK := Lib.hid (XK.out.below hb); clear hb; (replace q0 := XK.out.ob.cell 0 _ rfl; replace q1 := XK.out.ob.cell 1 _ rfl; replace q2 := XK.out.ob.cell 2 _ rfl; replace q3 := XK.out.ob.cell 3 _ rfl; replace q4 := XK.out.ob.cell 4 _ rfl; replace q5 := XK.out.ob.cell 5 _ rfl; replace q6 := XK.out.ob.cell 6 _ rfl; replace q7 := XK.out.ob.cell 7 _ rfl)) | (go_at_call 48; refine (C4.out _ XK.out.ok).mono ?_; rintro e Wc ⟨rfl, hb⟩; replace XK := Lib.hid (XK.out.below hb); clear hb; (replace q0 := XK.out.ob.cell 0 _ rfl; replace q1 := XK.out.ob.cell 1 _ rfl; replace q2 := XK.out.ob.cell 2 _ rfl; replace q3 := XK.out.ob.cell 3 _ rfl; replace q4 := XK.out.ob.cell 4 _ rfl; replace q5 := XK.out.ob.cell 5 _ rfl; replace q6 := XK.out.ob.cell 6 _ rfl; replace q7 := XK.out.ob.cell 7 _ rfl)) | (go_at_call 49; refine (GUE.out _ XK.out.ok).mono ?_; rintro e Wc ⟨rfl, hb⟩; replace XK := Lib.hid (XK.out.below hb); clear hb; (replace q0 := XK.out.ob.cell 0 _ rfl; replace q1 := XK.out.ob.cell 1 _ rfl; replace q2 := XK.out.ob.cell 2 _ rfl; replace q3 := XK.out.ob.cell 3 _ rfl; replace q4 := XK.out.ob.cell 4 _ rfl; replace q5 := XK.out.ob.cell 5 _ rfl; replace q6 := XK.out.ob.cell 6 _ rfl; replace q7 := XK.out.ob.cell 7 _ rfl)) | (go_at_call 50; refine (NEE.out _ XK.out.ok).mono ?_; rintro e Wc ⟨rfl, hb⟩; replace XK := Lib.hid (XK.out.below hb); clear hb; (replace q0 := XK.out.ob.cell 0 _ rfl; replace q1 := XK.out.ob.cell 1 _ rfl; replace q2 := XK.out.ob.cell 2 _ rfl; replace q3 := XK.out.ob.cell 3 _ rfl; replace q4 := XK.out.ob.cell 4 _ rfl; replace q5 := XK.out.ob.cell 5 _ rfl; replace q6 := XK.out.ob.cell 6 _ rfl; replace q7 := XK.out.ob.cell 7 _ rfl)))
                        go_ret2
                        exact ⟨rfl, XK.out.bel⟩
                    · have eg : (c.gate != -1) = true := by simp [hg]
                      have eg2 : (c.gate == -1) = false := by simp [hg]
                      cases v5 with
                      | false =>
                        obtain rfl : x = (18, 0) := HBAD.out (by rw [GAT.out, if_neg hg]; rfl)
                        clear hq1 hq2 hg HBAD HGOOD GAT
                        go_wp2_with (first | (go_at_call 44; refine (C0.out _ XK.out.ok).mono ?_; rintro e Wc ⟨rfl, hb⟩; replace XK := Lib.hid (XK.out.below hb); clear hb; (replace q0 := XK.out.ob.cell 0 _ rfl; replace q1 := XK.out.ob.cell 1 _ rfl; replace q2 := XK.out.ob.cell 2 _ rfl; replace q3 := XK.out.ob.cell 3 _ rfl; replace q4 := XK.out.ob.cell 4 _ rfl; replace q5 := XK.out.ob.cell 5 _ rfl; replace q6 := XK.out.ob.cell 6 _ rfl; replace q7 := XK.out.ob.cell 7 _ rfl)) | (go_at_call 45; refine (C1.out _ XK.out.ok).mono ?_; rintro e Wc ⟨rfl, hb⟩; replace XK := Lib.hid (XK.out.below hb); clear hb; (replace q0 := XK.out.ob.cell 0 _ rfl; replace q1 := XK.out.ob.cell 1 _ rfl; replace q2 := XK.out.ob.cell 2 _ rfl; replace q3 := XK.out.ob.cell 3 _ rfl; replace q4 := XK.out.ob.cell 4 _ rfl; replace q5 := XK.out.ob.cell 5 _ rfl; replace q6 := XK.out.ob.cell 6 _ rfl; replace q7 := XK.out.ob.cell 7 _ rfl)) | (go_at_call 46; refine (C2.out _ XK.out.ok).mono ?_; rintro e Wc ⟨rfl, hb⟩; replace XK := Lib.hid (XK.out.below hb); clear hb; (replace q0 := XK.out.ob.cell 0 _ rfl; replace q1 := XK.out.ob.cell 1 _ rfl; replace q2 := XK.out.ob.cell 2 _ rfl; replace q3 := XK.out.ob.cell 3 _ rfl; replace q4 := XK.out.ob.cell 4 _ rfl; replace q5 := XK.out.ob.cell 5 _ rfl; replace q6 := XK.out.ob.cell 6 _ rfl; replace q7 := XK.out.ob.cell 7 _ rfl)) | (go_at_call 47; refine (C3.out _ XK.out.ok).mono ?_; rintro e Wc ⟨rfl, hb⟩; replace XK := Lib.hid (XK.out.below hb); clear hb; (replace q0 := XK.out.ob.cell 0 _ rfl; replace q1 := XK.out.ob.cell 1 _ rfl; replace q2 := XK.out.ob.cell 2 _ rfl; replace q3 := XK.out.ob.cell 3 _ rfl; replace q4 := XK.out.ob.cell 4 _ rfl; replace q5 := XK.out.ob.cell 5 _ rfl; replace q6 := XK.out.ob.cell 6 _ rfl; replace q7 := XK.out.ob.cell 7 _ rfl)) | (go_at_call 48; refine (C4.out _ XK.out.ok).mono ?_; rintro e Wc ⟨rfl, hb⟩; replace XK := Lib.hid (XK.out.below hb); clear hb; (replace q0 := XK.out.ob.cell 0 _ rfl; replace q1 := XK.out.ob.cell 1 _ rfl; replace q2 := XK.out.ob.cell 2 _ rfl; replace q3 := XK.out.ob.cell 3 _ rfl; replace q4 := XK.out.ob.cell 4 _ rfl; replace q5 := XK.out.ob.cell 5 _ rfl; replace q6 := XK.out.ob.cell 6 _ rfl; replace q7 := XK.out.ob.cell 7 _ rfl)) | (go_at_call 49; refine (GUE.out _ XK.out.ok).mono ?_; rintro e Wc ⟨rfl, hb⟩; replace XK := Lib.hid (XK.out.below hb); clear hb; (replace q0 := XK.out.ob.cell 0 _ rfl; replace q1 := XK.out.ob.cell 1 _ rfl; replace q2 := XK.out.ob.cell 2 _ rfl; replace q3 := XK.out.ob.cell 3 _ rfl; replace q4 := XK.out.ob.cell 4 _ rfl; replace q5 := XK.out.ob.cell 5 _ rfl; replace q6 := XK.out.ob.cell 6 _ rfl; replace q7 := XK.out.ob.cell 7 _ rfl)) | (go_at_call 50; refine (NEE.out _ XK.out.ok).mono ?_; rintro e Wc ⟨rfl, hb⟩; replace XK := Lib.hid (XK.out.below hb); clear hb; (replace q0 := XK.out.ob.cell 0 _ rfl; replace q1 := XK.out.ob.cell 1 _ rfl; replace q2 := XK.out.ob.cell 2 _ rfl; replace q3 := XK.out.ob.cell 3 _ rfl; replace q4 := XK.out.ob.cell 4 _ rfl; replace q5 := XK.out.ob.cell 5 _ rfl; replace q6 := XK.out.ob.cell 6 _ rfl; replace q7 := XK.out.ob.cell 7 _ rfl)))
                        go_ret2
                        exact ⟨rfl, XK.out.bel⟩
                      | true =>
                        have hx := HGOOD.out (by rw [GAT.out, if_neg hg]; simp; omega)
                        clear hq1 hq2 hg HBAD HGOOD GAT
                        by_cases hn : 32 < needV c
                        · have dn : decide (needV c > 32) = true := by simp [hn]
                          obtain rfl : x = (19, 0) := by rw [hx, if_pos hn]
                          clear hx hn
                          go_wp2_with (first | (go_at_call 44; refine (C0.out _ XK.out.ok).mono ?_; rintro e Wc ⟨rfl, hb⟩; replace XK := Lib.hid (XK.out.below hb); clear hb; (replace q0 := XK.out.ob.cell 0 _ rfl; replace q1 := XK.out.ob.cell 1 _ rfl; replace q2 := XK.out.ob.cell 2 _ rfl; replace q3 := XK.out.ob.cell 3 _ rfl; replace q4 := XK.out.ob.cell 4 _ rfl; replace q5 := XK.out.ob.cell 5 _ rfl; replace q6 := XK.out.ob.cell 6 _ rfl; replace q7 := XK.out.ob.cell 7 _ rfl)) | (go_at_call 45; refine (C1.out _ XK.out.ok).mono ?_; rintro e Wc ⟨rfl, hb⟩; replace XK := Lib.hid (XK.out.below hb); clear hb; (replace q0 := XK.out.ob.cell 0 _ rfl; replace q1 := XK.out.ob.cell 1 _ rfl; replace q2 := XK.out.ob.cell 2 _ rfl; replace q3 := XK.out.ob.cell 3 _ rfl; replace q4 := XK.out.ob.cell 4 _ rfl; replace q5 := XK.out.ob.cell 5 _ rfl; replace q6 := XK.out.ob.cell 6 _ rfl; replace q7 := XK.out.ob.cell 7 _ rfl)) | (go_at_call 46; refine (C2.out _ XK.out.ok).mono ?_; rintro e Wc ⟨rfl, hb⟩; replace XK := Lib.hid (XK.out.below hb); clear hb; (replace q0 := XK.out.ob.cell 0 _ rfl; replace q1 := XK.out.ob.cell 1 _ rfl; replace q2 := XK.out.ob.cell 2 _ rfl; replace q3 := XK.out.ob.cell 3 _ rfl; replace q4 := XK.out.ob.cell 4 _ rfl; replace q5 := XK.out.ob.cell 5 _ rfl; replace q6 := XK.out.ob.cell 6 _ rfl; replace q7 := XK.out.ob.cell 7 _ rfl)) | (go_at_call 47; refine (C3.out _ XK.out.ok).mono ?_; rintro e Wc ⟨rfl, hb⟩; replace XK := Lib.hid (XK.out.below hb); clear hb; (replace q0 := XK.out.ob.cell 0 _ rfl; replace q1 := XK.out.ob.cell 1 _ rfl; replace q2 := XK.out.ob.cell 2 _ rfl; replace q3 := XK.out.ob.cell 3 _ rfl; replace q4 := XK.out.ob.cell 4 _ rfl; replace q5 := XK.out.ob.cell 5 _ rfl; replace q6 := XK.out.ob.cell 6 _ rfl; replace q7 := XK.out.ob.cell 7 _ rfl)) | (go_at_call 48; refine (C4.out _ XK.out.ok).mono ?_; rintro e Wc ⟨rfl, hb⟩; replace XK := Lib.hid (XK.out.below hb); clear hb; (replace q0 := XK.out.ob.cell 0 _ rfl; replace q1 := XK.out.ob.cell 1 _ rfl; replace q2 := XK.out.ob.cell 2 _ rfl; replace q3 := XK.out.ob.cell 3 _ rfl; replace q4 := XK.out.ob.cell 4 _ rfl; replace q5 := XK.out.ob.cell 5 _ rfl; replace q6 := XK.out.ob.cell 6 _ rfl; replace q7 := XK.out.ob.cell 7 _ rfl)) | (go_at_call 49; refine (GUE.out _ XK.out.ok).mono ?_; rintro e Wc ⟨rfl, hb⟩; replace XK := Lib.hid (XK.out.below hb); clear hb; (replace q0 := XK.out.ob.cell 0 _ rfl; replace q1 := XK.out.ob.cell 1 _ rfl; replace q2 := XK.out.ob.cell 2 _ rfl; replace q3 := XK.out.ob.cell 3 _ rfl; replace q4 := XK.out.ob.cell 4 _ rfl; replace q5 := XK.out.ob.cell 5 _ rfl; replace q6 := XK.out.ob.cell 6 _ rfl; replace q7 := XK.out.ob.cell 7 _ rfl)) | (go_at_call 50; refine (NEE.out _ XK.out.ok).mono ?_; rintro e Wc ⟨rfl, hb⟩; replace XK := Lib.hid (XK.out.below hb); clear hb; (replace q0 := XK.out.ob.cell 0 _ rfl; replace q1 := XK.out.ob.cell 1 _ rfl; replace q2 := XK.out.ob.cell 2 _ rfl; replace q3 := XK.out.ob.cell 3 _ rfl; replace q4 := XK.out.ob.cell 4 _ rfl; replace q5 := XK.out.ob.cell 5 _ rfl; replace q6 := XK.out.ob.cell 6 _ rfl; replace q7 := XK.out.ob.cell 7 _ rfl)))
                          go_ret2
                          exact ⟨rfl, XK.out.bel⟩
                        · have dn : decide (needV c > 32) = false := by simpa using hn
                          obtain rfl : x = (0, 0) := by rw [hx, if_neg hn]
                          clear hx hn
                          go_wp2_with (first | (go_at_call 44; refine (C0.out _ XK.out.ok).mono ?_; rintro e Wc ⟨rfl, hb⟩; replace XK := Lib.hid (XK.out.below hb); clear hb; (replace q0 := XK.out.ob.cell 0 _ rfl; replace q1 := XK.out.ob.cell 1 _ rfl; replace q2 := XK.out.ob.cell 2 _ rfl; replace q3 := XK.out.ob.cell 3 _ rfl; replace q4 := XK.out.ob.cell 4 _ rfl; replace q5 := XK.out.ob.cell 5 _ rfl; replace q6 := XK.out.ob.cell 6 _ rfl; replace q7 := XK.out.ob.cell 7 _ rfl)) | (go_at_call 45; refine (C1.out _ XK.out.ok).mono ?_; rintro e Wc ⟨rfl, hb⟩; replace XK := Lib.hid (XK.out.below hb); clear hb; (replace q0 := XK.out.ob.cell 0 _ rfl; replace q1 := XK.out.ob.cell 1 _ rfl; replace q2 := XK.out.ob.cell 2 _ rfl; replace q3 := XK.out.ob.cell 3 _ rfl; replace q4 := XK.out.ob.cell 4 _ rfl; replace q5 := XK.out.ob.cell 5 _ rfl; replace q6 := XK.out.ob.cell 6 _ rfl; replace q7 := XK.out.ob.cell 7 _ rfl)) | (go_at_call 46; refine (C2.out _ XK.out.ok).mono ?_; rintro e Wc ⟨rfl, hb⟩; replace XK := Lib.hid (XK.out.below hb); clear hb; (replace q0 := XK.out.ob.cell 0 _ rfl; replace q1 := XK.out.ob.cell 1 _ rfl; replace q2 := XK.out.ob.cell 2 _ rfl; replace q3 := XK.out.ob.cell 3 _ rfl; replace q4 := XK.out.ob.cell 4 _ rfl; replace q5 := XK.out.ob.cell 5 _ rfl; replace q6 := XK.out.ob.cell 6 _ rfl; replace q7 := XK.out.ob.cell 7 _ rfl)) | (go_at_call 47; refine (C3.out _ XK.out.ok).mono ?_; rintro e Wc ⟨rfl, hb⟩; replace XK := Lib.hid (XK.out.below hb); clear hb; (replace q0 := XK.out.ob.cell 0 _ rfl; replace q1 := XK.out.ob.cell 1 _ rfl; replace q2 := XK.out.ob.cell 2 _ rfl; replace q3 := XK.out.ob.cell 3 _ rfl; replace q4 := XK.out.ob.cell 4 _ rfl; replace q5 := XK.out.ob.cell 5 _ rfl; replace q6 := XK.out.ob.cell 6 _ rfl; replace q7 := XK.out.ob.cell 7 _ rfl)) | (go_at_call 48; refine (C4.out _ XK.out.ok).mono ?_; rintro e Wc ⟨rfl, hb⟩; replace XK := Lib.hid (XK.out.below hb); clear hb; (replace q0 := XK.out.ob.cell 0 _ rfl; replace q1 := XK.out.ob.cell 1 _ rfl; replace q2 := XK.out.ob.cell 2 _ rfl; replace q3 := XK.out.ob.cell 3 _ rfl; replace q4 := XK.out.ob.cell 4 _ rfl; replace q5 := XK.out.ob.cell 5 _ rfl; replace q6 := XK.out.ob.cell 6 _ rfl; replace q7 := XK.out.ob.cell 7 _ rfl)) | (go_at_call 49; refine (GUE.out _ XK.out.ok).mono ?_; rintro e Wc ⟨rfl, hb⟩; replace XK := Lib.hid (XK.out.below hb); clear hb; (replace q0 := XK.out.ob.cell 0 _ rfl; replace q1 := XK.out.ob.cell 1 _ rfl; replace q2 := XK.out.ob.cell 2 _ rfl; replace q3 := XK.out.ob.cell 3 _ rfl; replace q4 := XK.out.ob.cell 4 _ rfl; replace q5 := XK.out.ob.cell 5 _ rfl; replace q6 := XK.out.ob.cell 6 _ rfl; replace q7 := XK.out.ob.cell 7 _ rfl)) | (go_at_call 50; refine (NEE.out _ XK.out.ok).mono ?_; rintro e Wc ⟨rfl, hb⟩; replace XK := Lib.hid (XK.out.below hb); clear hb; (replace q0 := XK.out.ob.cell 0 _ rfl; replace q1 := XK.out.ob.cell 1 _ rfl; replace q2 := XK.out.ob.cell 2 _ rfl; replace q3 := XK.out.ob.cell 3 _ rfl; replace q4 := XK.out.ob.cell 4 _ rfl; replace q5 := XK.out.ob.cell 5 _ rfl; replace q6 := XK.out.ob.cell 6 _ rfl; replace q7 := XK.out.ob.cell 7 _ rfl)))
                          go_ret2
                          exact ⟨rfl, XK.out.bel⟩
end Go.Proofs.YtoalpdjpljapbaaDoor
/- The reference of plan: Parse. -/
namespace Go.Proofs.YtoalpdjpljapbaaDoor
set_option linter.unusedVariables false
set_option linter.unusedSimpArgs false
set_option linter.unnecessarySimpa false
open Go.RowKit Go.Sort
set_option maxHeartbeats 4000000
set_option maxRecDepth 100000
set_option linter.unusedVariables false
theorem rparse_long (s : ByteArray) (h16 : 16384 < s.size) (hs : s.size ≤ maxLen) (w : World) : Calls Tryd.prog 8 #[.string s] w (PsPost s.data.toList w) := by
  obtain ⟨l, hl⟩ : ∃ l, l = s.data.toList := ⟨_, rfl⟩
  have hsl : l.length = s.size := by rw [hl, ba_len]
  rw [← hl]
  obtain ⟨w0, hw0⟩ : ∃ w0, w0 = w.alloc (.cells #[.int .i64 0, .slice none 0 0, .slice none 0 0, .slice none 0 0, .slice none 0 0, .slice none 0 0, .int .i64 0, .int .i64 0] 29) := ⟨_, rfl⟩
  have HO0 : Hid (ObjAt w0 w.heap.size 29 #[.int .i64 0, .slice none 0 0, .slice none 0 0, .slice none 0 0, .slice none 0 0, .slice none 0 0, .int .i64 0, .int .i64 0].toList) := by rw [hw0]; exact ObjAt.new w _ _
  have HB0 : Hid (Below w.heap.size w w0) := by rw [hw0]; exact (Below.refl _ _).alloc (Nat.le_refl _) _
  have HW0 := Lib.hid hw0
  obtain ⟨P, hP⟩ : ∃ P, P = PsPost l w := ⟨_, rfl⟩
  have HZ : Hid (∀ e at_ w', psV l = (pcZ, e, at_) → Below w.heap.size w w' → P (.returned (.tuple #[.agg #[.int .i64 0, .slice none 0 0, .slice none 0 0, .slice none 0 0, .slice none 0 0, .slice none 0 0, .int .i64 0, .int .i64 0], .int .i64 e, .int .i64 at_])) w') := fun e at_ w' h hb => by rw [hP]; exact ps_zero h hb
  rw [← hP]
  clear hP hw0
  unfold maxLen at hs
  have d1 : decide ((s.size : Int) > 16384) = true := decide_eq_true (by omega)
  have d1' : decide (16384 < s.size) = true := decide_eq_true h16
  have HZ := fun w' h => Lib.hid (HZ.out 10 0 w' (psV_long (by omega)) h)
  clear h16 hl hsl
  go_enter Tryd.func8, Tryd.ntmps8
  go_upto_region 1 with fail
  rw [← HW0.out]
  have hO0 := HO0.out
  have s6 := hO0.lt
  have a0 := (hO0).cell 0 _ rfl; have a1 := (hO0).cell 1 _ rfl; have a2 := (hO0).cell 2 _ rfl; have a3 := (hO0).cell 3 _ rfl; have a4 := (hO0).cell 4 _ rfl; have a5 := (hO0).cell 5 _ rfl; have a6 := (hO0).cell 6 _ rfl; have a7 := (hO0).cell 7 _ rfl; have g0 := (hO0).free 0; have g1 := (hO0).free 1; have g2 := (hO0).free 2; have g3 := (hO0).free 3; have g4 := (hO0).free 4; have g5 := (hO0).free 5; have g6 := (hO0).free 6; have g7 := (hO0).free 7
  clear hO0
  go_wp2_with fail
  (refine bodyPost_ret (v := .tuple #[.agg #[.int .i64 0, .slice none 0 0, .slice none 0 0, .slice none 0 0, .slice none 0 0, .slice none 0 0, .int .i64 0, .int .i64 0], .int .i64 10, .int .i64 0]) (by simp [results, Tryd.results8, go_sem, a0, a1, a2, a3, a4, a5, a6, a7, s6]) rfl ?_)
  exact (HZ _ ((((((((HB0.out.setCell (Nat.le_refl _) _).setCell (Nat.le_refl _) _).setCell (Nat.le_refl _) _).setCell (Nat.le_refl _) _).setCell (Nat.le_refl _) _).setCell (Nat.le_refl _) _).setCell (Nat.le_refl _) _).setCell (Nat.le_refl _) _)).out
end Go.Proofs.YtoalpdjpljapbaaDoor
/- The reference of plan: Parse of a text whose last line is ended. -/
namespace Go.Proofs.YtoalpdjpljapbaaDoor
set_option linter.unusedVariables false
set_option linter.unusedSimpArgs false
set_option linter.unnecessarySimpa false
open Go.RowKit Go.Sort
set_option maxHeartbeats 4000000
set_option maxRecDepth 100000
set_option linter.unusedVariables false
theorem RO.other {w W W' : World} {b : Nat} {c : Cv} {cs : List Value} (h : RO w c W) (ho : ObjAt W b 29 cs) (hu : Upd b W W') : CfgOk W' c :=
  have g := h.g.upd hu (h.g.ne ho (by decide))
  have r := h.r.upd hu (h.r.ne ho (by decide))
  have p := h.p.upd hu (h.p.ne ho (by decide))
  have n := h.n.upd hu (h.n.ne ho (by decide))
  have s := h.s.upd hu (h.s.ne ho (by decide))
  ⟨⟨g.rd, g.le, g.capMax, h.lg⟩, ⟨r.rd, r.le, r.capMax, h.lr⟩, ⟨p.rd, p.le, p.capMax, h.lp⟩, ⟨n.rd, n.le, n.capMax, h.ln⟩, ⟨s.rd, s.le, s.capMax, h.ls⟩⟩
theorem rparse_whole (s : ByteArray) (h16 : ¬ 16384 < s.size) (hw : lsB s.data.toList = true) (w : World) : Calls Tryd.prog 8 #[.string s] w (PsPost s.data.toList w) := by
  obtain ⟨l, hl⟩ : ∃ l, l = s.data.toList := ⟨_, rfl⟩
  have hsl : l.length = s.size := by rw [hl, ba_len]
  have HLN0 := rlines_any s (by omega)
  rw [← hl] at hw HLN0 ⊢
  obtain ⟨w0, hw0⟩ : ∃ w0, w0 = w.alloc (.cells #[.int .i64 0, .slice none 0 0, .slice none 0 0, .slice none 0 0, .slice none 0 0, .slice none 0 0, .int .i64 0, .int .i64 0] 29) := ⟨_, rfl⟩
  have HO0 : Hid (ObjAt w0 w.heap.size 29 #[.int .i64 0, .slice none 0 0, .slice none 0 0, .slice none 0 0, .slice none 0 0, .slice none 0 0, .int .i64 0, .int .i64 0].toList) := by rw [hw0]; exact ObjAt.new w _ _
  have HB0 : Hid (Below w.heap.size w w0) := by rw [hw0]; exact (Below.refl _ _).alloc (Nat.le_refl _) _
  have HW0 := Lib.hid hw0
  obtain ⟨P, hP⟩ : ∃ P, P = PsPost l w := ⟨_, rfl⟩
  have HZ : Hid (∀ e at_ w', psV l = (pcZ, e, at_) → Below w.heap.size w w' → P (.returned (.tuple #[.agg #[.int .i64 0, .slice none 0 0, .slice none 0 0, .slice none 0 0, .slice none 0 0, .slice none 0 0, .int .i64 0, .int .i64 0], .int .i64 e, .int .i64 at_])) w') := fun e at_ w' h hb => by rw [hP]; exact ps_zero h hb
  have HG : Hid (∀ c w', psV l = (pcOf c, 0, 0) → CfgOk w' c → Below w.heap.size w w' → P (.returned (.tuple #[(.agg #[.int .i64 c.cats, .slice c.g.a c.g.l.length c.g.cap, .slice c.r.a c.r.l.length c.r.cap, .slice c.p.a c.p.l.length c.p.cap, .slice c.n.a c.n.l.length c.n.cap, .slice c.s.a c.s.l.length c.s.cap, .int .i64 c.gate, .int .i64 c.quota]), .int .i64 0, .int .i64 0])) w') := fun c w' h hc hb => by rw [hP]; exact ps_good h hc hb
  rw [← hP]
  clear hP hw0
  have d1 : decide ((s.size : Int) > 16384) = false := decide_eq_false (by omega)
  have d1' : decide (16384 < s.size) = false := decide_eq_false h16
  obtain ⟨L, hL⟩ : ∃ L, L = lsL l := ⟨_, rfl⟩
  have hdl : (fieldsC 10 l).dropLast = L := by rw [hL]; rfl
  have hgl : (fieldsC 10 l).getLast? = some [] := by unfold lsB at hw; exact of_decide_eq_true hw
  have hLl : L.length ≤ s.size := by
    rw [← hdl, List.length_dropLast, fieldsC_len, ← hsl]
    have := List.count_le_length (a := (10 : UInt8)) (l := l); omega
  have HSM : Hid (∀ x ∈ L, x.length ≤ 100000) := fun x hx => by
    rw [← hdl] at hx
    have := (fieldsC_mem 10 l x (List.dropLast_subset _ hx)).2; omega
  have HBAD : Hid (∀ k w', k < L.length → stP L k ≠ none → stP L (k + 1) = none → Below w.heap.size w w' → P (.returned (.tuple #[.agg #[.int .i64 0, .slice none 0 0, .slice none 0 0, .slice none 0 0, .slice none 0 0, .slice none 0 0, .int .i64 0, .int .i64 0], .int .i64 6, .int .i64 ((k : Int) + 1)])) w') := fun k w' hk h0 h1 hb =>
    HZ.out _ _ _ (psV_bad (by omega) (by rw [hdl]; exact badP_some hk h0 h1)) hb
  have HNO : Hid (∀ w', L.length = 0 → Below w.heap.size w w' → P (.returned (.tuple #[.agg #[.int .i64 0, .slice none 0 0, .slice none 0 0, .slice none 0 0, .slice none 0 0, .slice none 0 0, .int .i64 0, .int .i64 0], .int .i64 6, .int .i64 1])) w') := fun w' h0 hb =>
    HZ.out _ _ _ (by
      have := psV_none (s := l) (by omega) (by rw [hdl]; exact badP_none (by rw [h0]; simp [stP])) (by rw [hdl]; exact Or.inl h0)
      rw [hdl, h0] at this; exact this) hb
  have HPS : Hid (∀ c last, stP L L.length = some (pcOf c, last) → L.length ≠ 0 → psV l = if chkP (pcOf c) = 0 then (pcOf c, 0, 0) else (pcZ, chkP (pcOf c), 0)) := fun c last h0 h1 => by
    rw [psV_end (by omega) (by rw [hdl]; exact badP_none (by rw [h0]; simp)) (by rw [hdl, hgl]; simp [h1]), hdl]
    split
    · rename_i he; exact endP_yes h0 he
    · rename_i he; exact endP_no h0 he
  have HEN : Hid (∀ w' c last, stP L L.length = some (pcOf c, last) → L.length ≠ 0 → (chkV c).1 ≠ 0 → Below w.heap.size w w' → P (.returned (.tuple #[.agg #[.int .i64 0, .slice none 0 0, .slice none 0 0, .slice none 0 0, .slice none 0 0, .slice none 0 0, .int .i64 0, .int .i64 0], .int .i64 (chkV c).1, .int .i64 0])) w') := fun w' c last h0 h1 h3 hb =>
    HZ.out _ _ _ (by rw [HPS.out c last h0 h1, ← chkP_of, if_neg h3]) hb
  have HEY : Hid (∀ w' c last, stP L L.length = some (pcOf c, last) → L.length ≠ 0 → (chkV c).1 = 0 → CfgOk w' c → Below w.heap.size w w' → P (.returned (.tuple #[(.agg #[.int .i64 c.cats, .slice c.g.a c.g.l.length c.g.cap, .slice c.r.a c.r.l.length c.r.cap, .slice c.p.a c.p.l.length c.p.cap, .slice c.n.a c.n.l.length c.n.cap, .slice c.s.a c.s.l.length c.s.cap, .int .i64 c.gate, .int .i64 c.quota]), .int .i64 0, .int .i64 0])) w') := fun w' c last h0 h1 h3 hc hb =>
    HG.out c w' (by rw [HPS.out c last h0 h1, ← chkP_of, if_pos h3]) hc hb
  have HLN : Hid (Calls Tryd.prog 16 #[.string s] w0 fun e w' => ∃ a cap, e = .returned (.tuple #[.slice a L.length cap, .bool true]) ∧ RdW w' a cap L ∧ Below w0.heap.size w0 w') := (HLN0 w0).mono fun e w' h => by
    obtain ⟨a, cap, h1, h2⟩ := h.1 hw
    rw [← hL] at h1 h2
    exact ⟨a, cap, h1, h2, h.2.2⟩
  have HRL : Hid (∀ a cap W, RdW W a cap L → Calls Tryd.prog 21 #[.slice a L.length cap] W (RlPost L W)) := fun a cap W h => rlines_loop a cap L (by omega) HSM.out W h
  have hLm : L.length ≤ 16384 := by omega
  clear hL hdl hgl hLl h16 hl hsl hw HLN0 HPS HG HZ HSM
  go_enter Tryd.func8, Tryd.ntmps8
  go_upto_region 1 with fail
  rw [← HW0.out]
  go_wp2_with fail
  refine HLN.out.mono ?_; rintro e w1 ⟨a, cap, rfl, hR, hb1⟩
  have HB1 := Lib.hid (bmore HB0.out hb1)
  have HO1 := Lib.hid (HO0.out.below hb1)
  have HRW := Lib.hid hR
  clear hR hb1 HLN
  go_wp2_with fail
  refine (HRL.out _ _ _ HRW.out).mono ?_; rintro e w2 ⟨c, at_, rfl, hb2, hc⟩
  obtain ⟨w3, hw3⟩ : ∃ w3, w3 = w2.alloc (.cells #[.int .i64 c.cats, .slice c.g.a c.g.l.length c.g.cap, .slice c.r.a c.r.l.length c.r.cap, .slice c.p.a c.p.l.length c.p.cap, .slice c.n.a c.n.l.length c.n.cap, .slice c.s.a c.s.l.length c.s.cap, .int .i64 c.gate, .int .i64 c.quota] 29) := ⟨_, rfl⟩
  have hb23 : Below w2.heap.size w2 w3 := by rw [hw3]; exact (Below.refl _ _).alloc (Nat.le_refl _) _
  have HX3 : Hid (ObjAt w3 w2.heap.size 29 (cfgL c)) := by rw [hw3]; exact ObjAt.new w2 _ _
  have HB3 := Lib.hid (bmore (bmore HB1.out hb2) hb23)
  have HO3 := Lib.hid ((HO1.out.below hb2).below hb23)
  have HNE : Hid (w2.heap.size ≠ w.heap.size) := by have := HO1.out.lt; have := hb2.size; intro e; omega
  have HC : Hid ((at_ = 0 ∧ (∃ last, stP L L.length = some (pcOf c, last)) ∧ RO w1 c w3) ∨ ∃ k : Nat, at_ = (k : Int) + 1 ∧ k < L.length ∧ stP L k ≠ none ∧ stP L (k + 1) = none) := hc.imp (fun h => ⟨h.1, h.2.1, h.2.2.more hb23⟩) id
  have HW3 := Lib.hid hw3
  clear hb2 hb23 hc hw3 HRL HO1
  go_upto_region 25 with fail
  rw [← HW3.out]
  generalize w2.heap.size = b3 at HX3 HNE ⊢
  have hO3 := HO3.out
  have s6 := hO3.lt
  rcases HC.out with ⟨rfl, ⟨last, hst⟩, hok⟩ | ⟨k, rfl, hk, h0, h1⟩
  · have HST := Lib.hid hst
    have HOK := Lib.hid hok
    clear hst hok HC
    by_cases hz : L.length = 0
    · have z0 : ((L.length : Int) == 0) = true := by simp [hz]
      have HL0 := Lib.hid hz
      have a0 := (hO3).cell 0 _ rfl; have a1 := (hO3).cell 1 _ rfl; have a2 := (hO3).cell 2 _ rfl; have a3 := (hO3).cell 3 _ rfl; have a4 := (hO3).cell 4 _ rfl; have a5 := (hO3).cell 5 _ rfl; have a6 := (hO3).cell 6 _ rfl; have a7 := (hO3).cell 7 _ rfl; have g0 := (hO3).free 0; have g1 := (hO3).free 1; have g2 := (hO3).free 2; have g3 := (hO3).free 3; have g4 := (hO3).free 4; have g5 := (hO3).free 5; have g6 := (hO3).free 6; have g7 := (hO3).free 7
      clear hO3 hz
      go_wp2_with fail
      (refine bodyPost_ret (v := .tuple #[.agg #[.int .i64 0, .slice none 0 0, .slice none 0 0, .slice none 0 0, .slice none 0 0, .slice none 0 0, .int .i64 0, .int .i64 0], .int .i64 6, .int .i64 1]) (by simp [results, Tryd.results8, go_sem, a0, a1, a2, a3, a4, a5, a6, a7, s6]) rfl ?_)
      exact HNO.out _ HL0.out ((((((((HB3.out.setCell (Nat.le_refl _) _).setCell (Nat.le_refl _) _).setCell (Nat.le_refl _) _).setCell (Nat.le_refl _) _).setCell (Nat.le_refl _) _).setCell (Nat.le_refl _) _).setCell (Nat.le_refl _) _).setCell (Nat.le_refl _) _)
    · have z0 : ((L.length : Int) == 0) = false := by rw [beq_eq_false_iff_ne]; omega
      have HL0 := Lib.hid hz
      obtain ⟨e0, he0⟩ : ∃ v, Hid (v = (chkV c).1) := ⟨_, Lib.hid rfl⟩
      obtain ⟨e1, he1⟩ : ∃ v, Hid (v = (chkV c).2) := ⟨_, Lib.hid rfl⟩
      have CHK : Hid (Calls Tryd.prog 22 #[(.agg #[.int .i64 c.cats, .slice c.g.a c.g.l.length c.g.cap, .slice c.r.a c.r.l.length c.r.cap, .slice c.p.a c.p.l.length c.p.cap, .slice c.n.a c.n.l.length c.n.cap, .slice c.s.a c.s.l.length c.s.cap, .int .i64 c.gate, .int .i64 c.quota])] w3 fun e w' => e = .returned (.tuple #[.int .i64 e0, .int .i64 e1]) ∧ Below w3.heap.size w3 w') := by
        rw [he0.out, he1.out]; exact rcheck_any c w3 HOK.out.cfg
      have q0 := (HX3.out).cell 0 _ rfl; have q1 := (HX3.out).cell 1 _ rfl; have q2 := (HX3.out).cell 2 _ rfl; have q3 := (HX3.out).cell 3 _ rfl; have q4 := (HX3.out).cell 4 _ rfl; have q5 := (HX3.out).cell 5 _ rfl; have q6 := (HX3.out).cell 6 _ rfl; have q7 := (HX3.out).cell 7 _ rfl
      clear hO3 hz s6
      go_wp2_with fail
      refine CHK.out.mono ?_; rintro e w4 ⟨rfl, h4⟩
      have HX4 := Lib.hid (HX3.out.below h4)
      have HB4 := Lib.hid (bmore HB3.out h4)
      have HO4 := Lib.hid (HO3.out.below h4)
      have HOK4 := Lib.hid (HOK.out.more h4)
      have s6 := HO4.out.lt
      clear h4 q0 q1 q2 q3 q4 q5 q6 q7 CHK HX3 HB3 HO3 HOK
      have a0 := (HO4.out).cell 0 _ rfl; have a1 := (HO4.out).cell 1 _ rfl; have a2 := (HO4.out).cell 2 _ rfl; have a3 := (HO4.out).cell 3 _ rfl; have a4 := (HO4.out).cell 4 _ rfl; have a5 := (HO4.out).cell 5 _ rfl; have a6 := (HO4.out).cell 6 _ rfl; have a7 := (HO4.out).cell 7 _ rfl; have g0 := (HO4.out).free 0; have g1 := (HO4.out).free 1; have g2 := (HO4.out).free 2; have g3 := (HO4.out).free 3; have g4 := (HO4.out).free 4; have g5 := (HO4.out).free 5; have g6 := (HO4.out).free 6; have g7 := (HO4.out).free 7
      by_cases hz : e0 = 0
      · subst hz
        have q0 := (HX4.out).cell 0 _ rfl; have q1 := (HX4.out).cell 1 _ rfl; have q2 := (HX4.out).cell 2 _ rfl; have q3 := (HX4.out).cell 3 _ rfl; have q4 := (HX4.out).cell 4 _ rfl; have q5 := (HX4.out).cell 5 _ rfl; have q6 := (HX4.out).cell 6 _ rfl; have q7 := (HX4.out).cell 7 _ rfl
        go_wp2_with fail
        refine bodyPost_ret (v := .tuple #[(.agg #[.int .i64 c.cats, .slice c.g.a c.g.l.length c.g.cap, .slice c.r.a c.r.l.length c.r.cap, .slice c.p.a c.p.l.length c.p.cap, .slice c.n.a c.n.l.length c.n.cap, .slice c.s.a c.s.l.length c.s.cap, .int .i64 c.gate, .int .i64 c.quota]), .int .i64 0, .int .i64 0]) (by simp [results, Tryd.results8, go_sem, a0, a1, a2, a3, a4, a5, a6, a7, s6]) rfl ?_
        refine HEY.out _ c last HST.out HL0.out he0.out.symm ?_ ?_
        · exact HOK4.out.other HO4.out (upd_put (upd_put (upd_put (upd_put (upd_put (upd_put (upd_put (upd_put (Upd.refl _ _)))))))))
        · exact ((((((((HB4.out.setCell (Nat.le_refl _) _).setCell (Nat.le_refl _) _).setCell (Nat.le_refl _) _).setCell (Nat.le_refl _) _).setCell (Nat.le_refl _) _).setCell (Nat.le_refl _) _).setCell (Nat.le_refl _) _).setCell (Nat.le_refl _) _)
      · have n1 : (e0 == 0) = false := by rw [beq_eq_false_iff_ne]; exact hz
        have n2 : (e0 != 0) = true := by rw [bne_iff_ne]; exact hz
        have n3 : decide (e0 = 0) = false := decide_eq_false hz
        have HNZ : Hid ((chkV c).1 ≠ 0) := by rw [← he0.out]; exact hz
        clear hz
        go_wp2_with fail
        (refine bodyPost_ret (v := .tuple #[.agg #[.int .i64 0, .slice none 0 0, .slice none 0 0, .slice none 0 0, .slice none 0 0, .slice none 0 0, .int .i64 0, .int .i64 0], .int .i64 e0, .int .i64 0]) (by simp [results, Tryd.results8, go_sem, a0, a1, a2, a3, a4, a5, a6, a7, s6]) rfl ?_)
        rw [he0.out]
        exact HEN.out _ c last HST.out HL0.out HNZ.out ((((((((HB4.out.setCell (Nat.le_refl _) _).setCell (Nat.le_refl _) _).setCell (Nat.le_refl _) _).setCell (Nat.le_refl _) _).setCell (Nat.le_refl _) _).setCell (Nat.le_refl _) _).setCell (Nat.le_refl _) _).setCell (Nat.le_refl _) _)
  · have H0 := Lib.hid h0
    have H1 := Lib.hid h1
    have w5 : decide ((k : Int) + 1 > 0) = true := decide_eq_true (by omega)
    have a0 := (hO3).cell 0 _ rfl; have a1 := (hO3).cell 1 _ rfl; have a2 := (hO3).cell 2 _ rfl; have a3 := (hO3).cell 3 _ rfl; have a4 := (hO3).cell 4 _ rfl; have a5 := (hO3).cell 5 _ rfl; have a6 := (hO3).cell 6 _ rfl; have a7 := (hO3).cell 7 _ rfl; have g0 := (hO3).free 0; have g1 := (hO3).free 1; have g2 := (hO3).free 2; have g3 := (hO3).free 3; have g4 := (hO3).free 4; have g5 := (hO3).free 5; have g6 := (hO3).free 6; have g7 := (hO3).free 7
    clear hO3 h0 h1 HC
    go_wp2_with fail
    (refine bodyPost_ret (v := .tuple #[.agg #[.int .i64 0, .slice none 0 0, .slice none 0 0, .slice none 0 0, .slice none 0 0, .slice none 0 0, .int .i64 0, .int .i64 0], .int .i64 6, .int .i64 ((k : Int) + 1)]) (by simp [results, Tryd.results8, go_sem, a0, a1, a2, a3, a4, a5, a6, a7, s6]) rfl ?_)
    exact HBAD.out k _ hk H0.out H1.out ((((((((HB3.out.setCell (Nat.le_refl _) _).setCell (Nat.le_refl _) _).setCell (Nat.le_refl _) _).setCell (Nat.le_refl _) _).setCell (Nat.le_refl _) _).setCell (Nat.le_refl _) _).setCell (Nat.le_refl _) _).setCell (Nat.le_refl _) _)
end Go.Proofs.YtoalpdjpljapbaaDoor
