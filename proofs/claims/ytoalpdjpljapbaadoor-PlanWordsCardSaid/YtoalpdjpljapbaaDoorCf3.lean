/- Chapter 4: what is wrong: rings, ports. -/
import Derived.Test.YtoalpdjpljapbaaDoorCf2
namespace Go.Proofs.YtoalpdjpljapbaaDoor
set_option linter.unusedVariables false
set_option linter.unusedSimpArgs false
set_option linter.unnecessarySimpa false
open Go.RowKit
set_option maxHeartbeats 2000000
set_option maxRecDepth 100000
set_option linter.unusedVariables false
variable {W W' w : World} {c : Cv} {b N : Nat} {s : Sl}
theorem rings1_any (c : Cv) (i : Nat) (hi : i < c.n.l.length) (b : Nat) (w W : World) (h : CX w W b c) : Calls Tryd.prog 65 #[.int .i64 i, .pointer (some ⟨b, 0, none⟩)] W fun e W' => e = .returned (.bool (nBad c i)) ∧ Below W.heap.size W W' := by
  obtain ⟨bx, ox, hax, hcx⟩ := h.ok.n.cells (by omega) i hi
  obtain ⟨fr, tt, hrow⟩ := row2 hi h.ok.n.len
  rw [hrow] at hcx
  have c0 := hcx _ (Below.refl _ _) 0 _ rfl; have c1 := hcx _ (Below.refl _ _) 1 _ rfl
  simp only [Nat.add_zero] at c0
  have kz : (0 : Int) ≤ (i : Int) := by omega
  have kl : (i : Int) < (c.n.l.length : Int) := by omega
  obtain ⟨x, hx⟩ : ∃ x, x = nBad c i := ⟨_, rfl⟩
  have HG : Hid (x = (!(isG c fr) || (!(isG c tt) || ((fr == tt) || !(flB (labG c fr) (labG c tt)))))) := by rw [Hid, hx, nBad, at_eq hi, at_eq hi, hrow]; rfl
  rw [← hx]
  have HX := Lib.hid h
  have q4 := HX.out.ob.cell 4 _ rfl
  rw [hax] at q4
  clear hx hrow hcx h hax
  go_enter Tryd.func65, Tryd.ntmps65
  go_upto_region 2 with fail
  clear q4 c0 c1
  (have R1 : Hid (ObjAt (W.alloc (.cells ([.int .i64 fr, .int .i64 tt] : List Value).toArray 64)) W.heap.size 64 [.int .i64 fr, .int .i64 tt]) := ObjAt.new W _ _; have B1 : Hid (Below W.heap.size W (W.alloc (.cells ([.int .i64 fr, .int .i64 tt] : List Value).toArray 64))) := (Below.refl _ _).alloc (Nat.le_refl _) _; generalize W.alloc (.cells ([.int .i64 fr, .int .i64 tt] : List Value).toArray 64) = W1 at R1 B1 ⊢; have X1 : Hid (CX w W1 b c) := HX.out.below B1.out)
  generalize W.heap.size = rb at R1 ⊢
  have XK := X1
  have BL : Hid (Below W1.heap.size W1 W1) := Below.refl _ _
  have RR : Hid (∀ W', Below W1.heap.size W1 W' → W'.cell? ⟨rb, 0, none⟩ = some (.int .i64 fr) ∧ W'.cell? ⟨rb, 1, none⟩ = some (.int .i64 tt)) := fun W' hb => ⟨(R1.out.below hb).cell 0 _ rfl, (R1.out.below hb).cell 1 _ rfl⟩
  have r0 := (RR.out _ BL.out).1; have r1 := (RR.out _ BL.out).2
  (have q0 := XK.out.ob.cell 0 _ rfl; have q1 := XK.out.ob.cell 1 _ rfl; have q2 := XK.out.ob.cell 2 _ rfl; have q3 := XK.out.ob.cell 3 _ rfl; have q4 := XK.out.ob.cell 4 _ rfl; have q5 := XK.out.ob.cell 5 _ rfl; have q6 := XK.out.ob.cell 6 _ rfl; have q7 := XK.out.ob.cell 7 _ rfl)
  cases hva : isG c fr with
  | false =>
    (have hx : x = true := (by rw [HG.out]; simp [*]); subst hx)
    (go_wp2_with (go_at_call 63; refine (guest_any c _ _ XK.out.ok).mono ?_; rintro e Wg ⟨rfl, hb⟩; replace XK := Lib.hid (XK.out.below hb); replace BL := Lib.hid (bmore BL.out hb); clear hb; replace r0 := (RR.out _ BL.out).1; replace r1 := (RR.out _ BL.out).2; replace q0 := XK.out.ob.cell 0 _ rfl; replace q1 := XK.out.ob.cell 1 _ rfl; replace q2 := XK.out.ob.cell 2 _ rfl; replace q3 := XK.out.ob.cell 3 _ rfl; replace q4 := XK.out.ob.cell 4 _ rfl; replace q5 := XK.out.ob.cell 5 _ rfl; replace q6 := XK.out.ob.cell 6 _ rfl; replace q7 := XK.out.ob.cell 7 _ rfl); go_ret; exact ⟨rfl, B1.out.trans (BL.out.mono B1.out.size)⟩)
  | true =>
    cases hvb : isG c tt with
    | false =>
      (have hx : x = true := (by rw [HG.out]; simp [*]); subst hx)
      (go_wp2_with (go_at_call 63; refine (guest_any c _ _ XK.out.ok).mono ?_; rintro e Wg ⟨rfl, hb⟩; replace XK := Lib.hid (XK.out.below hb); replace BL := Lib.hid (bmore BL.out hb); clear hb; replace r0 := (RR.out _ BL.out).1; replace r1 := (RR.out _ BL.out).2; replace q0 := XK.out.ob.cell 0 _ rfl; replace q1 := XK.out.ob.cell 1 _ rfl; replace q2 := XK.out.ob.cell 2 _ rfl; replace q3 := XK.out.ob.cell 3 _ rfl; replace q4 := XK.out.ob.cell 4 _ rfl; replace q5 := XK.out.ob.cell 5 _ rfl; replace q6 := XK.out.ob.cell 6 _ rfl; replace q7 := XK.out.ob.cell 7 _ rfl); go_ret; exact ⟨rfl, B1.out.trans (BL.out.mono B1.out.size)⟩)
    | true =>
      by_cases hft : fr = tt
      · have dq : (fr == tt) = true := by simp [hft]
        have hx : x = true := by rw [HG.out, dq]; simp
        subst hx
        clear hft
        (go_wp2_with (go_at_call 63; refine (guest_any c _ _ XK.out.ok).mono ?_; rintro e Wg ⟨rfl, hb⟩; replace XK := Lib.hid (XK.out.below hb); replace BL := Lib.hid (bmore BL.out hb); clear hb; replace r0 := (RR.out _ BL.out).1; replace r1 := (RR.out _ BL.out).2; replace q0 := XK.out.ob.cell 0 _ rfl; replace q1 := XK.out.ob.cell 1 _ rfl; replace q2 := XK.out.ob.cell 2 _ rfl; replace q3 := XK.out.ob.cell 3 _ rfl; replace q4 := XK.out.ob.cell 4 _ rfl; replace q5 := XK.out.ob.cell 5 _ rfl; replace q6 := XK.out.ob.cell 6 _ rfl; replace q7 := XK.out.ob.cell 7 _ rfl); go_ret; exact ⟨rfl, B1.out.trans (BL.out.mono B1.out.size)⟩)
      · have dq : (fr == tt) = false := by simp [hft]
        have hx : x = !(flB (labG c fr) (labG c tt)) := by rw [HG.out, dq, hva, hvb]; simp
        subst hx
        clear HG hft
        go_upto_region 4 with (go_at_call 63; refine (guest_any c _ _ XK.out.ok).mono ?_; rintro e Wg ⟨rfl, hb⟩; replace XK := Lib.hid (XK.out.below hb); replace BL := Lib.hid (bmore BL.out hb); clear hb; replace r0 := (RR.out _ BL.out).1; replace r1 := (RR.out _ BL.out).2; replace q0 := XK.out.ob.cell 0 _ rfl; replace q1 := XK.out.ob.cell 1 _ rfl; replace q2 := XK.out.ob.cell 2 _ rfl; replace q3 := XK.out.ob.cell 3 _ rfl; replace q4 := XK.out.ob.cell 4 _ rfl; replace q5 := XK.out.ob.cell 5 _ rfl; replace q6 := XK.out.ob.cell 6 _ rfl; replace q7 := XK.out.ob.cell 7 _ rfl)
        have ga := (isG_iff c fr).1 hva; have gb := (isG_iff c tt).1 hvb
        obtain ⟨f', hf'⟩ : ∃ f' : Nat, fr = f' := ⟨fr.toNat, by omega⟩
        obtain ⟨t', ht'⟩ : ∃ t' : Nat, tt = t' := ⟨tt.toNat, by omega⟩
        have hfl : f' < c.g.l.length := by omega
        have htl : t' < c.g.l.length := by omega
        obtain ⟨gx, go, hga, hgc⟩ := XK.out.ok.g.cells (by omega) f' hfl
        obtain ⟨gx2, go2, hga2, hgc2⟩ := XK.out.ok.g.cells (by omega) t' htl
        rw [hga] at hga2
        obtain ⟨rfl, rfl⟩ : gx = gx2 ∧ go = go2 := by simpa using hga2
        obtain ⟨la, y1, z1, hr1⟩ := row3 hfl XK.out.ok.g.len
        obtain ⟨lb, y2, z2, hr2⟩ := row3 htl XK.out.ok.g.len
        have l1 : labG c fr = la := by rw [labG, hf', Int.toNat_natCast, at_eq hfl, hr1]; rfl
        have l2 : labG c tt = lb := by rw [labG, ht', Int.toNat_natCast, at_eq htl, hr2]; rfl
        rw [hr1] at hgc; rw [hr2] at hgc2
        have g0 := hgc _ (Below.refl _ _) 0 _ rfl; have g1 := hgc2 _ (Below.refl _ _) 0 _ rfl
        simp only [Nat.add_zero] at g0 g1
        rw [hga] at q1
        have HL1 := Lib.hid l1; have HL2 := Lib.hid l2
        have k1 : (f' : Int) < (c.g.l.length : Int) := by omega
        have k2 : (t' : Int) < (c.g.l.length : Int) := by omega
        have k3 : (0 : Int) ≤ (f' : Int) := by omega
        have k4 : (0 : Int) ≤ (t' : Int) := by omega
        rw [hf'] at r0; rw [ht'] at r1
        clear ga gb hga hgc hga2 hgc2 hr1 hr2 l1 l2 hva hvb dq RR hf' ht' hfl htl
        go_quiet ((go_at_call 66; exact quiet_same (flows_any _ _ _)))
        go_wp2_with fail
        go_ret
        exact ⟨by rw [HL1.out, HL2.out]; rfl, B1.out.trans ((below_drewN BL.out _).mono B1.out.size)⟩
theorem rings_any (c : Cv) (w : World) (h : CfgOk w c) : Calls Tryd.prog 33 #[(.agg #[.int .i64 c.cats, .slice c.g.a c.g.l.length c.g.cap, .slice c.r.a c.r.l.length c.r.cap, .slice c.p.a c.p.l.length c.p.cap, .slice c.n.a c.n.l.length c.n.cap, .slice c.s.a c.s.l.length c.s.cap, .int .i64 c.gate, .int .i64 c.quota])] w fun e w' => e = .returned (.tuple #[.int .i64 (nFst c).1, .bool (nFst c).2]) ∧ Below w.heap.size w w' := by
  have hm := h.n.mx
  obtain ⟨x, hx⟩ : ∃ x, x = nFst c := ⟨_, rfl⟩
  rw [← hx]
  have HX := Lib.hid hx
  clear hx
  by_cases h2 : 4 < c.n.l.length
  · have d2 : decide ((c.n.l.length : Int) > 4) = true := by simp; omega
    have hx : x = (0, true) := by rw [HX.out, nFst, if_pos h2]
    subst hx
    clear h2
    (have h0 := CX.new h; go_enter Tryd.func33, Tryd.ntmps33; go_upto_region 1 with fail; generalize w.alloc (.cells #[.int .i64 c.cats, .slice c.g.a c.g.l.length c.g.cap, .slice c.r.a c.r.l.length c.r.cap, .slice c.p.a c.p.l.length c.p.cap, .slice c.n.a c.n.l.length c.n.cap, .slice c.s.a c.s.l.length c.s.cap, .int .i64 c.gate, .int .i64 c.quota] 29) = W1 at h0 ⊢; generalize w.heap.size = b0 at h0 ⊢; have H0 := Lib.hid h0; clear h0 h)
    (have q0 := H0.out.ob.cell 0 _ rfl; have q1 := H0.out.ob.cell 1 _ rfl; have q2 := H0.out.ob.cell 2 _ rfl; have q3 := H0.out.ob.cell 3 _ rfl; have q4 := H0.out.ob.cell 4 _ rfl; have q5 := H0.out.ob.cell 5 _ rfl; have q6 := H0.out.ob.cell 6 _ rfl; have q7 := H0.out.ob.cell 7 _ rfl)
    go_wp2_with fail
    go_ret2
    exact ⟨rfl, H0.out.bel⟩
  · have d2 : decide ((c.n.l.length : Int) > 4) = false := by simp; omega
    have hx : x = fstV (nBad c) c.n.l.length := by rw [HX.out, nFst, if_neg h2]
    subst hx
    clear h2
    (have h0 := CX.new h; go_enter Tryd.func33, Tryd.ntmps33; go_upto_region 1 with fail; generalize w.alloc (.cells #[.int .i64 c.cats, .slice c.g.a c.g.l.length c.g.cap, .slice c.r.a c.r.l.length c.r.cap, .slice c.p.a c.p.l.length c.p.cap, .slice c.n.a c.n.l.length c.n.cap, .slice c.s.a c.s.l.length c.s.cap, .int .i64 c.gate, .int .i64 c.quota] 29) = W1 at h0 ⊢; generalize w.heap.size = b0 at h0 ⊢; have H0 := Lib.hid h0; clear h0 h)
    (have q0 := H0.out.ob.cell 0 _ rfl; have q1 := H0.out.ob.cell 1 _ rfl; have q2 := H0.out.ob.cell 2 _ rfl; have q3 := H0.out.ob.cell 3 _ rfl; have q4 := H0.out.ob.cell 4 _ rfl; have q5 := H0.out.ob.cell 5 _ rfl; have q6 := H0.out.ob.cell 6 _ rfl; have q7 := H0.out.ob.cell 7 _ rfl)
    have FIR : Hid (Calls Tryd.prog 56 #[.int .i64 c.n.l.length, .func (Fn.func 65) #[] #[.pointer (some ⟨b0, 0, none⟩)]] W1 (fun e W' => e = .returned (.tuple #[.int .i64 (fstV (nBad c) c.n.l.length).1, .bool (fstV (nBad c) c.n.l.length).2]) ∧ CX w W' b0 c)) :=
      first1 65 (.pointer (some ⟨b0, 0, none⟩)) c.n.l.length hm (nBad c) (fun _ W => CX w W b0 c) (fun W => CX w W b0 c) W1 (enter_of Tryd.func65 (by kernel_rfl) rfl) H0.out (fun _ _ h => h)
        (fun i hi W hW => (rings1_any c i hi b0 w W hW).mono (fun e W' h => ⟨h.1, fun _ => hW.below h.2, hW.below h.2⟩))
    go_wp2_with (go_at_call 56; refine FIR.out.mono ?_; rintro e W2 ⟨rfl, hx2⟩; have H2 := Lib.hid hx2; clear hx2)
    go_ret2
    exact ⟨rfl, H2.out.bel⟩
end Go.Proofs.YtoalpdjpljapbaaDoor
