/- Chapter 4, the reference: ranges, ports. -/
import Derived.Test.YtmchaaelpbifgaaCfR2
namespace Go.Proofs.Ytmchaaelpbifgaa
set_option linter.unusedVariables false
set_option linter.unusedSimpArgs false
set_option linter.unnecessarySimpa false
open Go.RowKit Go.Sort
set_option maxHeartbeats 4000000
set_option maxRecDepth 100000
set_option linter.unusedVariables false
variable {W W' w : World} {c : Cv} {b N : Nat} {s : Sl}
theorem give_okr {n : Nat} {R : List Rn} (h : Okr n R) (f m who : Int) : Okr n (giveV n R f m who).2 := by
  unfold giveV
  split
  · rename_i hw
    have hw := (wellG_iff _ _ _ _).1 hw
    split
    · exact h
    · rename_i hh
      exact h.add (by omega) (by omega) (by omega) (by simpa using hh)
  · exact h
theorem stRg_ok (c : Cv) : ∀ i, Okr 32 (stRg c i)
  | 0 => Okr.nil (by omega)
  | i + 1 => give_okr (stRg_ok c i) _ _ _
structure RRI (w W : World) (b rr : Nat) (c : Cv) (i : Nat) : Prop where
  x : CX w W b c
  br : b < rr
  wb : w.heap.size ≤ b
  t : ∃ a cap, RT W rr rr a cap (ownV (stRg c i)) 32
theorem RRI.below {rr i : Nat} (h : RRI w W b rr c i) (hb : Below W.heap.size W W') : RRI w W' b rr c i := by
  obtain ⟨a, cap, h1⟩ := h.t
  exact ⟨h.x.below hb, h.br, h.wb, a, cap, h1.below hb⟩
theorem rranges_any (c : Cv) (w : World) (h : CfgOk w c) : Calls Try.prog 45 #[(.agg #[.int .i64 c.cats, .slice c.g.a c.g.l.length c.g.cap, .slice c.r.a c.r.l.length c.r.cap, .slice c.p.a c.p.l.length c.p.cap, .slice c.n.a c.n.l.length c.n.cap, .slice c.s.a c.s.l.length c.s.cap, .int .i64 c.gate, .int .i64 c.quota])] w fun e w' => e = .returned (.tuple #[.bool (rFst c).2, .int .i64 (rFst c).1]) ∧ Below w.heap.size w w' := by
  have hm := h.r.mx
  have HW := Lib.hid h
  obtain ⟨x, hx⟩ : ∃ x, x = rFst c := ⟨_, rfl⟩
  rw [← hx]
  have HX := Lib.hid hx
  clear hx
  by_cases h2 : 8 < c.r.l.length
  · have d2 : decide ((c.r.l.length : Int) > 8) = true := by simp; omega
    have hx : x = (0, true) := by rw [HX.out, rFst, if_pos h2]
    subst hx
    clear h2
    (have h0 := CX.new h; go_enter Try.func45, Try.ntmps45; go_upto_region 1 with fail; generalize w.alloc (.cells #[.int .i64 c.cats, .slice c.g.a c.g.l.length c.g.cap, .slice c.r.a c.r.l.length c.r.cap, .slice c.p.a c.p.l.length c.p.cap, .slice c.n.a c.n.l.length c.n.cap, .slice c.s.a c.s.l.length c.s.cap, .int .i64 c.gate, .int .i64 c.quota] 28) = W1 at h0 ⊢; generalize w.heap.size = b0 at h0 ⊢; have H0 := Lib.hid h0; clear h0 h)
    (have q0 := H0.out.ob.cell 0 _ rfl; have q1 := H0.out.ob.cell 1 _ rfl; have q2 := H0.out.ob.cell 2 _ rfl; have q3 := H0.out.ob.cell 3 _ rfl; have q4 := H0.out.ob.cell 4 _ rfl; have q5 := H0.out.ob.cell 5 _ rfl; have q6 := H0.out.ob.cell 6 _ rfl; have q7 := H0.out.ob.cell 7 _ rfl)
    go_wp2_with fail
    go_ret2
    exact ⟨rfl, H0.out.bel⟩
  · have d2 : decide ((c.r.l.length : Int) > 8) = false := by simp; omega
    replace HX : Hid (x = fstV (rBad c) c.r.l.length) := by rw [Hid, HX.out, rFst, if_neg h2]
    clear h2
    have h0 := CX.new h
    go_enter Try.func45, Try.ntmps45
    go_upto_region 1 with fail
    have hlt := h0.ob.lt
    generalize w.alloc (.cells #[.int .i64 c.cats, .slice c.g.a c.g.l.length c.g.cap, .slice c.r.a c.r.l.length c.r.cap, .slice c.p.a c.p.l.length c.p.cap, .slice c.n.a c.n.l.length c.n.cap, .slice c.s.a c.s.l.length c.s.cap, .int .i64 c.gate, .int .i64 c.quota] 28) = W1 at h0 hlt ⊢
    obtain ⟨b0, hb0⟩ : ∃ b, b = w.heap.size := ⟨_, rfl⟩
    rw [← hb0] at h0 hlt ⊢
    have HB0 := Lib.hid hb0
    have H0 := Lib.hid h0
    have HLT := Lib.hid hlt
    clear h0 h hb0 hlt
    (have q0 := H0.out.ob.cell 0 _ rfl; have q1 := H0.out.ob.cell 1 _ rfl; have q2 := H0.out.ob.cell 2 _ rfl; have q3 := H0.out.ob.cell 3 _ rfl; have q4 := H0.out.ob.cell 4 _ rfl; have q5 := H0.out.ob.cell 5 _ rfl; have q6 := H0.out.ob.cell 6 _ rfl; have q7 := H0.out.ob.cell 7 _ rfl)
    go_upto_region 4 with (go_at_call 63; refine (rnew_yes 32 (by omega) _).mono ?_; rintro e W2 ⟨a0, cp0, rfl, ht, hb⟩; have T2 := Lib.hid ht; have B2 := Lib.hid hb; clear ht hb)
    have I0 : Hid (RRI w W2 b0 W1.heap.size c 0) := ⟨H0.out.below B2.out, HLT.out, Nat.le_of_eq HB0.out.symm, a0, cp0, T2.out⟩
    generalize W1.heap.size = rr at I0 T2 ⊢
    clear q0 q1 q2 q3 q4 q5 q6 q7 T2 B2 H0 HLT HB0
    go_upto_region 5 with fail
    go_loopw [6] (fun z wr => ∃ k : Nat, k ≤ c.r.l.length ∧ z = .int .i64 k ∧ RRI w wr b0 rr c k ∧ ∀ j, j < k → rBad c j = false) (fun z _ => c.r.l.length - (intOf z).toNat)
    case atStart => exact ⟨0, by omega, rfl, I0.out, fun j hj => by omega⟩
    case round =>
      clear I0
      obtain ⟨k, hk, rfl, hik, hj⟩ := hrel
      have IK := Lib.hid hik
      have XK := Lib.hid hik.x
      have KP := Lib.hid hj
      clear hik hj
      (have q0 := XK.out.ob.cell 0 _ rfl; have q1 := XK.out.ob.cell 1 _ rfl; have q2 := XK.out.ob.cell 2 _ rfl; have q3 := XK.out.ob.cell 3 _ rfl; have q4 := XK.out.ob.cell 4 _ rfl; have q5 := XK.out.ob.cell 5 _ rfl; have q6 := XK.out.ob.cell 6 _ rfl; have q7 := XK.out.ob.cell 7 _ rfl)
      by_cases hkl : k < c.r.l.length
      · have dk : decide ((k : Int) < (c.r.l.length : Int)) = true := by simp; omega
        have kz : (0 : Int) ≤ (k : Int) := by omega
        have kl : (k : Int) < (c.r.l.length : Int) := by omega
        have w1 : IntKind.i64.wrap ((k : Int) + 1) = (k : Int) + 1 := by rw [IntKind.wrap_i64]; omega
        obtain ⟨bx, ox, hax, hcx⟩ := XK.out.ok.r.cells (by omega) k hkl
        obtain ⟨lb, fr, nn, hrow⟩ := row3 hkl XK.out.ok.r.len
        have HGB : Hid (rBad c k = (!(validB lb c.cats) || ((giveV 32 (stRg c k) fr nn k).1 != 0))) := by rw [Hid, rBad, at_eq hkl, at_eq hkl, at_eq hkl, hrow]; rfl
        have HS : Hid (stRg c (k + 1) = (giveV 32 (stRg c k) fr nn k).2) := by rw [Hid, stRg, at_eq hkl, at_eq hkl, hrow]; rfl
        rw [hrow] at hcx
        have c0 := hcx _ (Below.refl _ _) 0 _ rfl; have c1 := hcx _ (Below.refl _ _) 1 _ rfl; have c2 := hcx _ (Below.refl _ _) 2 _ rfl
        simp only [Nat.add_zero] at c0
        rw [hax] at q2
        clear hcx hrow hax
        go_upto_region 8 with fail
        have I1 : Hid (RRI w (wr.alloc (.cells #[.int .i64 lb, .int .i64 fr, .int .i64 nn] 64)) b0 rr c k) := IK.out.below ((Below.refl _ _).alloc (Nat.le_refl _) _)
        have R1 : Hid (ObjAt (wr.alloc (.cells #[.int .i64 lb, .int .i64 fr, .int .i64 nn] 64)) wr.heap.size 64 [.int .i64 lb, .int .i64 fr, .int .i64 nn]) := ObjAt.new wr _ _
        generalize wr.alloc (.cells #[.int .i64 lb, .int .i64 fr, .int .i64 nn] 64) = W1r at R1 I1 ⊢
        generalize wr.heap.size = rb at R1 ⊢
        clear q0 q1 q2 q3 q4 q5 q6 q7 c0 c1 c2 IK XK
        have r0 := R1.out.cell 0 _ rfl; have r1 := R1.out.cell 1 _ rfl; have r2 := R1.out.cell 2 _ rfl
        have q0 := I1.out.x.ob.cell 0 _ rfl
        obtain ⟨vb, hvb⟩ : ∃ v, v = validB lb c.cats := ⟨_, rfl⟩
        have VAL : Hid (∀ W, Calls Try.prog 62 #[.int .i64 lb, .int .i64 c.cats] W fun e w' => e = .returned (.bool vb) ∧ W = w') := fun W => by rw [hvb]; exact Valid_ref _ _ _
        rw [← hvb] at HGB
        clear hvb
        cases vb with
        | false =>
          have hx : x = ((k : Int), true) := by rw [HX.out]; exact fstV_hit hkl KP.out (by rw [HGB.out]; simp)
          subst hx
          go_wp2_with (go_at_call 62; refine (VAL.out _).mono ?_; rintro e Wv ⟨rfl, rfl⟩)
          go_ret2
          exact ⟨rfl, I1.out.x.bel⟩
        | true =>
          obtain ⟨a, cap, ht⟩ := I1.out.t
          obtain ⟨ge, hge⟩ : ∃ z, z = (giveV 32 (stRg c k) fr nn k).1 := ⟨_, rfl⟩
          have GIV : Hid (Calls Try.prog 64 #[.pointer (some ⟨rr, 0, none⟩), .int .i64 fr, .int .i64 nn, .int .i64 k] W1r (RPost rr rr 32 a (.int .i64 ge) (ownV (giveV 32 (stRg c k) fr nn k).2) W1r)) := by
            rw [hge]; exact rgive_any _ _ _ _ _ _ _ _ _ _ (stRg_ok c k) ht (by have := ht.obj.lt; omega)
          have HGE : Hid (rBad c k = (ge != 0)) := by rw [Hid, HGB.out, hge]; simp
          have HT := Lib.hid ht
          clear hge ht HGB
          have HBW : Hid (∀ W2, Mod (rr :: blk a) W1r W2 → Below w.heap.size w W2 ∧ b0 ∉ rr :: blk a) := fun W2 hm => by
            have e1 := I1.out.wb; have e2 := I1.out.br
            refine ⟨below_tab hm I1.out.x.bel (by omega) (fun q hq => by have := (HT.out.own.ge q hq).1; omega), not_tab (by omega) (fun q hq => by have := (HT.out.own.ge q hq).1; omega)⟩
          by_cases h0 : ge = 0
          · subst h0
            have KP2 : Hid (∀ j, j < k + 1 → rBad c j = false) := fun j hj => by
              by_cases hjk : j = k
              · rw [hjk, HGE.out]; rfl
              · exact KP.out j (by omega)
            go_wp2_with (first | (go_at_call 62; refine (VAL.out _).mono ?_; rintro e Wv ⟨rfl, rfl⟩) | (go_at_call 64; refine GIV.out.mono ?_; rintro e W2 ⟨a', cap', rfl, ht, hm, ha'⟩; have T2 := Lib.hid ht; have M2 := Lib.hid hm; clear ht hm ha'))
            have I2 : Hid (RRI w W2 b0 rr c (k + 1)) := ⟨⟨I1.out.x.ob.mod M2.out (HBW.out _ M2.out).2, HW.out.below (HBW.out _ M2.out).1, (HBW.out _ M2.out).1⟩, I1.out.br, I1.out.wb, a', cap', by rw [HS.out]; exact T2.out⟩
            go_roundw
            case rel => exact ⟨k + 1, by omega, by go_num, I2.out, KP2.out⟩
            case measure => simp [intOf]; omega
          · have hx : x = ((k : Int), true) := by rw [HX.out]; exact fstV_hit hkl KP.out (by rw [HGE.out]; simp [h0])
            subst hx
            have d0 : (ge != 0) = true := by simp [h0]
            clear h0
            go_wp2_with (first | (go_at_call 62; refine (VAL.out _).mono ?_; rintro e Wv ⟨rfl, rfl⟩) | (go_at_call 64; refine GIV.out.mono ?_; rintro e W2 ⟨a', cap', rfl, ht, hm, ha'⟩; have T2 := Lib.hid ht; have M2 := Lib.hid hm; clear ht hm ha'))
            go_ret2
            exact ⟨rfl, (HBW.out _ M2.out).1⟩
      · have dk : decide ((k : Int) < (c.r.l.length : Int)) = false := by simp; omega
        have hx : x = (0, false) := by rw [HX.out]; exact fstV_none (fun j hj => KP.out j (by omega))
        subst hx
        go_wp2_with fail
        go_ret2
        exact ⟨rfl, XK.out.bel⟩
end Go.Proofs.Ytmchaaelpbifgaa
