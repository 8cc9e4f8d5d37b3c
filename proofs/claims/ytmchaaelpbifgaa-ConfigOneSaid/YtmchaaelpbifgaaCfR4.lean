/- Chapter 4, the reference: ports. -/
import Derived.Test.YtmchaaelpbifgaaCfR3
namespace Go.Proofs.Ytmchaaelpbifgaa
set_option linter.unusedVariables false
set_option linter.unusedSimpArgs false
set_option linter.unnecessarySimpa false
open Go.RowKit Go.Sort
set_option maxHeartbeats 4000000
set_option maxRecDepth 100000
set_option linter.unusedVariables false
variable {W W' w : World} {c : Cv} {b N : Nat} {s : Sl}
set_option maxHeartbeats 8000000 in
theorem rports_any (c : Cv) (w : World) (h : CfgOk w c) : Calls Try.prog 46 #[(.agg #[.int .i64 c.cats, .slice c.g.a c.g.l.length c.g.cap, .slice c.r.a c.r.l.length c.r.cap, .slice c.p.a c.p.l.length c.p.cap, .slice c.n.a c.n.l.length c.n.cap, .slice c.s.a c.s.l.length c.s.cap, .int .i64 c.gate, .int .i64 c.quota])] w fun e w' => e = .returned (.tuple #[.bool (pFst c).2, .int .i64 (pFst c).1]) ∧ Below w.heap.size w w' := by
  have hm := h.p.mx
  obtain ⟨x, hx⟩ : ∃ x, x = pFst c := ⟨_, rfl⟩
  rw [← hx]
  have HX := Lib.hid hx
  clear hx
  by_cases h2 : 8 < c.p.l.length
  · have d2 : decide ((c.p.l.length : Int) > 8) = true := by simp; omega
    have hx : x = (0, true) := by rw [HX.out, pFst, if_pos h2]
    subst hx
    clear h2
    (have h0 := CX.new h; go_enter Try.func46, Try.ntmps46; go_upto_region 1 with fail; generalize w.alloc (.cells #[.int .i64 c.cats, .slice c.g.a c.g.l.length c.g.cap, .slice c.r.a c.r.l.length c.r.cap, .slice c.p.a c.p.l.length c.p.cap, .slice c.n.a c.n.l.length c.n.cap, .slice c.s.a c.s.l.length c.s.cap, .int .i64 c.gate, .int .i64 c.quota] 28) = W1 at h0 ⊢; generalize w.heap.size = b0 at h0 ⊢; have H0 := Lib.hid h0; clear h0 h)
    (have q0 := H0.out.ob.cell 0 _ rfl; have q1 := H0.out.ob.cell 1 _ rfl; have q2 := H0.out.ob.cell 2 _ rfl; have q3 := H0.out.ob.cell 3 _ rfl; have q4 := H0.out.ob.cell 4 _ rfl; have q5 := H0.out.ob.cell 5 _ rfl; have q6 := H0.out.ob.cell 6 _ rfl; have q7 := H0.out.ob.cell 7 _ rfl)
    go_wp2_with fail
    go_ret2
    exact ⟨rfl, H0.out.bel⟩
  · have d2 : decide ((c.p.l.length : Int) > 8) = false := by simp; omega
    replace HX : Hid (x = fstV (pBad c) c.p.l.length) := by rw [Hid, HX.out, pFst, if_neg h2]
    clear h2
    (have h0 := CX.new h; go_enter Try.func46, Try.ntmps46; go_upto_region 1 with fail; generalize w.alloc (.cells #[.int .i64 c.cats, .slice c.g.a c.g.l.length c.g.cap, .slice c.r.a c.r.l.length c.r.cap, .slice c.p.a c.p.l.length c.p.cap, .slice c.n.a c.n.l.length c.n.cap, .slice c.s.a c.s.l.length c.s.cap, .int .i64 c.gate, .int .i64 c.quota] 28) = W1 at h0 ⊢; generalize w.heap.size = b0 at h0 ⊢; have H0 := Lib.hid h0; clear h0 h)
    (have q0 := H0.out.ob.cell 0 _ rfl; have q1 := H0.out.ob.cell 1 _ rfl; have q2 := H0.out.ob.cell 2 _ rfl; have q3 := H0.out.ob.cell 3 _ rfl; have q4 := H0.out.ob.cell 4 _ rfl; have q5 := H0.out.ob.cell 5 _ rfl; have q6 := H0.out.ob.cell 6 _ rfl; have q7 := H0.out.ob.cell 7 _ rfl)
    go_upto_region 4 with fail
    clear q0 q1 q2 q3 q4 q5 q6 q7
    go_loopw [4] (fun z wr => ∃ k : Nat, k ≤ c.p.l.length ∧ z = .int .i64 k ∧ CX w wr b0 c ∧ ∀ j, j < k → pBad c j = false) (fun z _ => c.p.l.length - (intOf z).toNat)
    case atStart => exact ⟨0, by omega, rfl, H0.out, fun j hj => by omega⟩
    case round =>
      clear H0
      (obtain ⟨k, hk, rfl, hxk, hj⟩ := hrel; have XK := Lib.hid hxk; have KP := Lib.hid hj; clear hxk hj; (have q0 := XK.out.ob.cell 0 _ rfl; have q1 := XK.out.ob.cell 1 _ rfl; have q2 := XK.out.ob.cell 2 _ rfl; have q3 := XK.out.ob.cell 3 _ rfl; have q4 := XK.out.ob.cell 4 _ rfl; have q5 := XK.out.ob.cell 5 _ rfl; have q6 := XK.out.ob.cell 6 _ rfl; have q7 := XK.out.ob.cell 7 _ rfl))
      by_cases hkl : k < c.p.l.length
      · have dk : decide ((k : Int) < (c.p.l.length : Int)) = true := by simp; omega
        have kz : (0 : Int) ≤ (k : Int) := by omega
        have kl : (k : Int) < (c.p.l.length : Int) := by omega
        have w1 : IntKind.i64.wrap ((k : Int) + 1) = (k : Int) + 1 := by rw [IntKind.wrap_i64]; omega
        obtain ⟨bx, ox, hax, hcx⟩ := XK.out.ok.p.cells (by omega) k hkl
        obtain ⟨lb, gu, hrow⟩ := row2 hkl XK.out.ok.p.len
        have HGB : Hid (pBad c k = (!(validB lb c.cats) || (!(gu == -1) && (!(isG c gu) || (!(lb == labG c gu) || takenB c gu k))))) := by rw [Hid, pBad, at_eq hkl, at_eq hkl, hrow]; rfl
        rw [hrow] at hcx
        have c0 := hcx _ (Below.refl _ _) 0 _ rfl; have c1 := hcx _ (Below.refl _ _) 1 _ rfl
        simp only [Nat.add_zero] at c0
        rw [hax] at q3
        have HAX := Lib.hid hax
        clear hcx hrow hax
        go_upto_region 7 with fail
        (have R1 : Hid (ObjAt (wr.alloc (.cells ([.int .i64 lb, .int .i64 gu] : List Value).toArray 43)) wr.heap.size 43 [.int .i64 lb, .int .i64 gu]) := ObjAt.new wr _ _; have X1 : Hid (CX w (wr.alloc (.cells ([.int .i64 lb, .int .i64 gu] : List Value).toArray 43)) b0 c) := XK.out.below ((Below.refl _ _).alloc (Nat.le_refl _) _); generalize wr.alloc (.cells ([.int .i64 lb, .int .i64 gu] : List Value).toArray 43) = W1r at R1 X1 ⊢; generalize wr.heap.size = rr at R1 ⊢)
        clear q0 q1 q2 q3 q4 q5 q6 q7 c0 c1
        have r0 := R1.out.cell 0 _ rfl; have r1 := R1.out.cell 1 _ rfl
        (have q0 := X1.out.ob.cell 0 _ rfl; have q1 := X1.out.ob.cell 1 _ rfl; have q2 := X1.out.ob.cell 2 _ rfl; have q3 := X1.out.ob.cell 3 _ rfl; have q4 := X1.out.ob.cell 4 _ rfl; have q5 := X1.out.ob.cell 5 _ rfl; have q6 := X1.out.ob.cell 6 _ rfl; have q7 := X1.out.ob.cell 7 _ rfl)
        obtain ⟨vb, hvb⟩ : ∃ v, v = validB lb c.cats := ⟨_, rfl⟩
        have VAL : Hid (∀ W, Calls Try.prog 62 #[.int .i64 lb, .int .i64 c.cats] W fun e w' => e = .returned (.bool vb) ∧ W = w') := fun W => by rw [hvb]; exact Valid_ref _ _ _
        obtain ⟨vg, hvg⟩ : ∃ v, v = isG c gu := ⟨_, rfl⟩
        have GUE : Hid (∀ W, CfgOk W c → Calls Try.prog 49 #[(.agg #[.int .i64 c.cats, .slice c.g.a c.g.l.length c.g.cap, .slice c.r.a c.r.l.length c.r.cap, .slice c.p.a c.p.l.length c.p.cap, .slice c.n.a c.n.l.length c.n.cap, .slice c.s.a c.s.l.length c.s.cap, .int .i64 c.gate, .int .i64 c.quota]), .int .i64 gu] W fun e w' => e = .returned (.bool vg) ∧ Below W.heap.size W w') := fun W h => by rw [hvg]; exact isGuest_any _ _ _ h
        rw [← hvb] at HGB
        clear hvb
        cases vb with
        | false =>
          (have hx : x = ((k : Int), true) := (by rw [HX.out]; exact fstV_hit hkl KP.out (by rw [HGB.out]; simp)); subst hx)
          clear HGB hvg
          go_wp2_with (first | (go_at_call 62; refine (VAL.out _).mono ?_; rintro e Wv ⟨rfl, rfl⟩) | (go_at_call 49; refine (GUE.out _ X1.out.ok).mono ?_; rintro e Wg ⟨rfl, hb⟩; replace X1 := Lib.hid (X1.out.below hb); replace R1 := Lib.hid (R1.out.below hb); clear hb; (replace q0 := X1.out.ob.cell 0 _ rfl; replace q1 := X1.out.ob.cell 1 _ rfl; replace q2 := X1.out.ob.cell 2 _ rfl; replace q3 := X1.out.ob.cell 3 _ rfl; replace q4 := X1.out.ob.cell 4 _ rfl; replace q5 := X1.out.ob.cell 5 _ rfl; replace q6 := X1.out.ob.cell 6 _ rfl; replace q7 := X1.out.ob.cell 7 _ rfl); replace r0 := R1.out.cell 0 _ rfl; replace r1 := R1.out.cell 1 _ rfl))
          go_ret2
          exact ⟨rfl, X1.out.bel⟩
        | true =>
          by_cases hg1 : gu = -1
          · have dg : (gu != -1) = false := by simp [hg1]
            have dz : decide (gu ≥ 0) = false := by simp [hg1]
            have KP2 : Hid (∀ j, j < k + 1 → pBad c j = false) := fun j hj => by
              by_cases hjk : j = k
              · rw [hjk, HGB.out, hg1]; rfl
              · exact KP.out j (by omega)
            clear hg1 hvg HGB
            go_upto_region 9 with (first | (go_at_call 62; refine (VAL.out _).mono ?_; rintro e Wv ⟨rfl, rfl⟩) | (go_at_call 49; refine (GUE.out _ X1.out.ok).mono ?_; rintro e Wg ⟨rfl, hb⟩; replace X1 := Lib.hid (X1.out.below hb); replace R1 := Lib.hid (R1.out.below hb); clear hb; (replace q0 := X1.out.ob.cell 0 _ rfl; replace q1 := X1.out.ob.cell 1 _ rfl; replace q2 := X1.out.ob.cell 2 _ rfl; replace q3 := X1.out.ob.cell 3 _ rfl; replace q4 := X1.out.ob.cell 4 _ rfl; replace q5 := X1.out.ob.cell 5 _ rfl; replace q6 := X1.out.ob.cell 6 _ rfl; replace q7 := X1.out.ob.cell 7 _ rfl); replace r0 := R1.out.cell 0 _ rfl; replace r1 := R1.out.cell 1 _ rfl))
            go_quiet (fail)
            have X2 : Hid (CX w (W1r.drewN nq) b0 c) := X1.out.below (below_drewN (Below.refl _ _) _)
            have R2 : Hid (ObjAt (W1r.drewN nq) rr 43 [.int .i64 lb, .int .i64 gu]) := R1.out.below (below_drewN (Below.refl _ _) _)
            generalize W1r.drewN nq = W2 at X2 R2 ⊢
            clear q0 q1 q2 q3 q4 q5 q6 q7 r0 r1
            go_upto_region 12 with fail
            go_loopw [6] (fun z wr => ∃ j : Nat, j ≤ k ∧ z = .int .i64 j ∧ CX w wr b0 c ∧ ObjAt wr rr 43 [.int .i64 lb, .int .i64 gu]) (fun z _ => k - (intOf z).toNat)
            case atStart => exact ⟨0, by omega, rfl, X2.out, R2.out⟩
            case round =>
              clear X1 R1 X2 R2
              obtain ⟨j, hj, rfl, hx1, hr1⟩ := hrel
              have X1 := Lib.hid hx1
              have R1 := Lib.hid hr1
              clear hx1 hr1
              have r0 := R1.out.cell 0 _ rfl; have r1 := R1.out.cell 1 _ rfl
              by_cases hjk : j < k
              · have dj : decide ((j : Int) < (k : Int)) = true := by simp; omega
                have w2 : IntKind.i64.wrap ((j : Int) + 1) = (j : Int) + 1 := by rw [IntKind.wrap_i64]; omega
                go_upto_region 14 with fail
                go_quiet (fail)
                go_wp2_with fail
                go_roundw
                case rel => exact ⟨j + 1, by omega, by go_num, X1.out.below (below_drewN (Below.refl _ _) _), R1.out.below (below_drewN (Below.refl _ _) _)⟩
                case measure => simp [intOf]; omega
              · have dj : decide ((j : Int) < (k : Int)) = false := by simp; omega
                go_wp2_with fail
                go_roundw
                case rel => exact ⟨k + 1, by omega, by go_num, X1.out, KP2.out⟩
                case measure => simp [intOf]; omega
          · have dg : (gu != -1) = true := by simp [hg1]
            cases vg with
            | false =>
              (have hx : x = ((k : Int), true) := (by rw [HX.out]; exact fstV_hit hkl KP.out (by rw [HGB.out, ← hvg]; simp [hg1])); subst hx)
              clear HGB hvg hg1
              go_wp2_with (first | (go_at_call 62; refine (VAL.out _).mono ?_; rintro e Wv ⟨rfl, rfl⟩) | (go_at_call 49; refine (GUE.out _ X1.out.ok).mono ?_; rintro e Wg ⟨rfl, hb⟩; replace X1 := Lib.hid (X1.out.below hb); replace R1 := Lib.hid (R1.out.below hb); clear hb; (replace q0 := X1.out.ob.cell 0 _ rfl; replace q1 := X1.out.ob.cell 1 _ rfl; replace q2 := X1.out.ob.cell 2 _ rfl; replace q3 := X1.out.ob.cell 3 _ rfl; replace q4 := X1.out.ob.cell 4 _ rfl; replace q5 := X1.out.ob.cell 5 _ rfl; replace q6 := X1.out.ob.cell 6 _ rfl; replace q7 := X1.out.ob.cell 7 _ rfl); replace r0 := R1.out.cell 0 _ rfl; replace r1 := R1.out.cell 1 _ rfl))
              go_ret2
              exact ⟨rfl, X1.out.bel⟩
            | true =>
              have hpb : pBad c k = (!(lb == labG c gu) || takenB c gu k) := by rw [HGB.out, ← hvg]; simp [hg1]
              have ga := (isG_iff c gu).1 hvg.symm
              obtain ⟨f', rfl⟩ : ∃ f' : Nat, gu = f' := ⟨gu.toNat, by omega⟩
              have hfl : f' < c.g.l.length := by omega
              have dz : decide ((f' : Int) ≥ 0) = true := by simp
              clear hg1 HGB hvg
              go_upto_region 9 with (first | (go_at_call 62; refine (VAL.out _).mono ?_; rintro e Wv ⟨rfl, rfl⟩) | (go_at_call 49; refine (GUE.out _ X1.out.ok).mono ?_; rintro e Wg ⟨rfl, hb⟩; replace X1 := Lib.hid (X1.out.below hb); replace R1 := Lib.hid (R1.out.below hb); clear hb; (replace q0 := X1.out.ob.cell 0 _ rfl; replace q1 := X1.out.ob.cell 1 _ rfl; replace q2 := X1.out.ob.cell 2 _ rfl; replace q3 := X1.out.ob.cell 3 _ rfl; replace q4 := X1.out.ob.cell 4 _ rfl; replace q5 := X1.out.ob.cell 5 _ rfl; replace q6 := X1.out.ob.cell 6 _ rfl; replace q7 := X1.out.ob.cell 7 _ rfl); replace r0 := R1.out.cell 0 _ rfl; replace r1 := R1.out.cell 1 _ rfl))
              obtain ⟨gx, go, hga, hgc⟩ := X1.out.ok.g.cells (by omega) f' hfl
              obtain ⟨la, y1, z1, hr1⟩ := row3 hfl X1.out.ok.g.len
              have l1 : labG c f' = la := by rw [labG, Int.toNat_natCast, at_eq hfl, hr1]; rfl
              rw [l1] at hpb
              rw [hr1] at hgc
              have g0 := hgc _ (Below.refl _ _) 0 _ rfl
              simp only [Nat.add_zero] at g0
              rw [hga] at q1
              have k1 : (f' : Int) < (c.g.l.length : Int) := by omega
              have k3 : (0 : Int) ≤ (f' : Int) := by omega
              clear ga hga hgc hr1 l1 hfl
              cases hq : (lb == la) with
              | false =>
                have dn : (lb != la) = true := by rw [bne, hq]; rfl
                (have hx : x = ((k : Int), true) := (by rw [HX.out]; exact fstV_hit hkl KP.out (by rw [hpb, hq]; rfl)); subst hx)
                clear hq hpb
                go_quiet (fail)
                go_wp2_with fail
                go_ret2
                exact ⟨rfl, below_drewN X1.out.bel _⟩
              | true =>
                have dn : (lb != la) = false := by rw [bne, hq]; rfl
                have HPB : Hid (pBad c k = takenB c f' k) := by rw [Hid, hpb, hq]; rfl
                clear hpb hq
                go_quiet (fail)
                have X2 : Hid (CX w (Wg.drewN nq) b0 c) := X1.out.below (below_drewN (Below.refl _ _) _)
                have R2 : Hid (ObjAt (Wg.drewN nq) rr 43 [.int .i64 lb, .int .i64 f']) := R1.out.below (below_drewN (Below.refl _ _) _)
                generalize Wg.drewN nq = W2 at X2 R2 ⊢
                clear q0 q1 q2 q3 q4 q5 q6 q7 r0 r1 g0
                go_upto_region 12 with fail
                go_loopw [6] (fun z wr => ∃ j : Nat, j ≤ k ∧ z = .int .i64 j ∧ CX w wr b0 c ∧ ObjAt wr rr 43 [.int .i64 lb, .int .i64 f'] ∧ ∀ i, i < j → at_ c.p.l i 1 ≠ f') (fun z _ => k - (intOf z).toNat)
                case atStart => exact ⟨0, by omega, rfl, X2.out, R2.out, fun i hi => by omega⟩
                case round =>
                  clear X1 R1 X2 R2
                  obtain ⟨j, hj, rfl, hx1, hr1, hnt⟩ := hrel
                  have X1 := Lib.hid hx1
                  have R1 := Lib.hid hr1
                  have NT := Lib.hid hnt
                  clear hx1 hr1 hnt
                  have r0 := R1.out.cell 0 _ rfl; have r1 := R1.out.cell 1 _ rfl
                  by_cases hjk : j < k
                  · have dj : decide ((j : Int) < (k : Int)) = true := by simp; omega
                    have jz : (0 : Int) ≤ (j : Int) := by omega
                    have jl : (j : Int) < (c.p.l.length : Int) := by omega
                    have w2 : IntKind.i64.wrap ((j : Int) + 1) = (j : Int) + 1 := by rw [IntKind.wrap_i64]; omega
                    have hjp : j < c.p.l.length := by omega
                    obtain ⟨bx2, ox2, hax, hcx⟩ := X1.out.ok.p.cells (by omega) j hjp
                    rw [HAX.out] at hax
                    obtain ⟨rfl, rfl⟩ : bx = bx2 ∧ ox = ox2 := by simpa using hax
                    obtain ⟨y, z, hrow⟩ := row2 hjp X1.out.ok.p.len
                    have hat : at_ c.p.l j 1 = z := by rw [at_eq hjp, hrow]; rfl
                    have HAT := Lib.hid hat
                    rw [hrow] at hcx
                    have c1 := hcx _ (Below.refl _ _) 1 _ rfl
                    have q3 := X1.out.ob.cell 3 _ rfl
                    rw [HAX.out] at q3
                    clear hcx hrow hat hax
                    by_cases hz : z = f'
                    · have de : (z == (f' : Int)) = true := by simp [hz]
                      (have hx : x = ((k : Int), true) := (by rw [HX.out]; exact fstV_hit hkl KP.out (by rw [HPB.out]; exact taken_hit hjk (by rw [HAT.out, hz]))); subst hx)
                      clear hz
                      go_upto_region 14 with fail
                      go_quiet (fail)
                      go_wp2_with fail
                      go_ret2
                      exact ⟨rfl, below_drewN X1.out.bel _⟩
                    · have de : (z == (f' : Int)) = false := by simp [hz]
                      have NT2 : Hid (∀ i, i < j + 1 → at_ c.p.l i 1 ≠ f') := fun i hi => by
                        by_cases hij : i = j
                        · rw [hij, HAT.out]; exact hz
                        · exact NT.out i (by omega)
                      clear hz
                      go_upto_region 14 with fail
                      go_quiet (fail)
                      go_wp2_with fail
                      go_roundw
                      case rel => exact ⟨j + 1, by omega, by go_num, X1.out.below (below_drewN (Below.refl _ _) _), R1.out.below (below_drewN (Below.refl _ _) _), NT2.out⟩
                      case measure => simp [intOf]; omega
                  · have dj : decide ((j : Int) < (k : Int)) = false := by simp; omega
                    have KP2 : Hid (∀ i, i < k + 1 → pBad c i = false) := fun i hi => by
                      by_cases hik : i = k
                      · rw [hik, HPB.out]; exact taken_none (fun q hq => NT.out q (by omega))
                      · exact KP.out i (by omega)
                    go_wp2_with fail
                    go_roundw
                    case rel => exact ⟨k + 1, by omega, by go_num, X1.out, KP2.out⟩
                    case measure => simp [intOf]; omega
      · have dk : decide ((k : Int) < (c.p.l.length : Int)) = false := by simp; omega
        have hx : x = (0, false) := by rw [HX.out]; exact fstV_none (fun j hj => KP.out j (by omega))
        subst hx
        go_wp2_with fail
        go_ret2
        exact ⟨rfl, XK.out.bel⟩
end Go.Proofs.Ytmchaaelpbifgaa
