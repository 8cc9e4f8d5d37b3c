/- Chapter 4, the reference: PortOf, RangeOf, Owner. -/
import Derived.Test.YtmchaaelpbifgaaCfR6
namespace Go.Proofs.Ytmchaaelpbifgaa
set_option linter.unusedVariables false
set_option linter.unusedSimpArgs false
set_option linter.unnecessarySimpa false
open Go.RowKit Go.Sort
set_option maxHeartbeats 8000000
set_option maxRecDepth 100000
set_option linter.unusedVariables false
variable {W W' w : World} {c : Cv} {b N : Nat} {s : Sl}
theorem rportof_any (c : Cv) (g : Int) (w : World) (h : CfgOk w c) : Calls Try.prog 25 #[(.agg #[.int .i64 c.cats, .slice c.g.a c.g.l.length c.g.cap, .slice c.r.a c.r.l.length c.r.cap, .slice c.p.a c.p.l.length c.p.cap, .slice c.n.a c.n.l.length c.n.cap, .slice c.s.a c.s.l.length c.s.cap, .int .i64 c.gate, .int .i64 c.quota]), .int .i64 g] w fun e w' => e = .returned (.int .i64 (portV c g)) ∧ Below w.heap.size w w' := by
  have HF : Hid (portV c g = if rightV c && decide (0 ≤ g) then (if (fstV (portB c g) c.p.l.length).2 then (fstV (portB c g) c.p.l.length).1 else -1) else -1) := rfl
  obtain ⟨x, hx⟩ : ∃ x, x = portV c g := ⟨_, rfl⟩
  rw [← hx] at HF ⊢
  clear hx
  have hm := h.p.mx
  cases hr : rightV c with
  | false =>
    obtain rfl : x = -1 := by rw [HF.out, hr]; rfl
    (have RIG : Hid (∀ W, CfgOk W c → Calls Try.prog 51 #[(.agg #[.int .i64 c.cats, .slice c.g.a c.g.l.length c.g.cap, .slice c.r.a c.r.l.length c.r.cap, .slice c.p.a c.p.l.length c.p.cap, .slice c.n.a c.n.l.length c.n.cap, .slice c.s.a c.s.l.length c.s.cap, .int .i64 c.gate, .int .i64 c.quota])] W fun e w' => e = .returned (.bool false) ∧ Below W.heap.size W w') := fun W hc => by rw [← hr]; exact rright_any c _ hc)
    clear hr HF
    ((have h0 := CX.new h; go_enter Try.func25, Try.ntmps25; go_upto_region 1 with fail; generalize w.alloc (.cells #[.int .i64 c.cats, .slice c.g.a c.g.l.length c.g.cap, .slice c.r.a c.r.l.length c.r.cap, .slice c.p.a c.p.l.length c.p.cap, .slice c.n.a c.n.l.length c.n.cap, .slice c.s.a c.s.l.length c.s.cap, .int .i64 c.gate, .int .i64 c.quota] 28) = W1 at h0 ⊢; generalize w.heap.size = b0 at h0 ⊢; have H0 := Lib.hid h0; clear h0 h); have XK := H0; clear H0; (have q0 := XK.out.ob.cell 0 _ rfl; have q1 := XK.out.ob.cell 1 _ rfl; have q2 := XK.out.ob.cell 2 _ rfl; have q3 := XK.out.ob.cell 3 _ rfl; have q4 := XK.out.ob.cell 4 _ rfl; have q5 := XK.out.ob.cell 5 _ rfl; have q6 := XK.out.ob.cell 6 _ rfl; have q7 := XK.out.ob.cell 7 _ rfl))
    go_wp2_with (go_at_call 51; refine (RIG.out _ XK.out.ok).mono ?_; rintro e Wc ⟨rfl, hb⟩; replace XK := Lib.hid (XK.out.below hb); clear hb; (replace q0 := XK.out.ob.cell 0 _ rfl; replace q1 := XK.out.ob.cell 1 _ rfl; replace q2 := XK.out.ob.cell 2 _ rfl; replace q3 := XK.out.ob.cell 3 _ rfl; replace q4 := XK.out.ob.cell 4 _ rfl; replace q5 := XK.out.ob.cell 5 _ rfl; replace q6 := XK.out.ob.cell 6 _ rfl; replace q7 := XK.out.ob.cell 7 _ rfl))
    (go_ret; exact ⟨rfl, XK.out.bel⟩)
  | true =>
    (have RIG : Hid (∀ W, CfgOk W c → Calls Try.prog 51 #[(.agg #[.int .i64 c.cats, .slice c.g.a c.g.l.length c.g.cap, .slice c.r.a c.r.l.length c.r.cap, .slice c.p.a c.p.l.length c.p.cap, .slice c.n.a c.n.l.length c.n.cap, .slice c.s.a c.s.l.length c.s.cap, .int .i64 c.gate, .int .i64 c.quota])] W fun e w' => e = .returned (.bool true) ∧ Below W.heap.size W w') := fun W hc => by rw [← hr]; exact rright_any c _ hc)
    by_cases h1 : g < 0
    · have d1 : decide (g < 0) = true := by simp [h1]
      obtain rfl : x = -1 := by rw [HF.out, if_neg (by simp; omega)]
      clear hr HF h1
      ((have h0 := CX.new h; go_enter Try.func25, Try.ntmps25; go_upto_region 1 with fail; generalize w.alloc (.cells #[.int .i64 c.cats, .slice c.g.a c.g.l.length c.g.cap, .slice c.r.a c.r.l.length c.r.cap, .slice c.p.a c.p.l.length c.p.cap, .slice c.n.a c.n.l.length c.n.cap, .slice c.s.a c.s.l.length c.s.cap, .int .i64 c.gate, .int .i64 c.quota] 28) = W1 at h0 ⊢; generalize w.heap.size = b0 at h0 ⊢; have H0 := Lib.hid h0; clear h0 h); have XK := H0; clear H0; (have q0 := XK.out.ob.cell 0 _ rfl; have q1 := XK.out.ob.cell 1 _ rfl; have q2 := XK.out.ob.cell 2 _ rfl; have q3 := XK.out.ob.cell 3 _ rfl; have q4 := XK.out.ob.cell 4 _ rfl; have q5 := XK.out.ob.cell 5 _ rfl; have q6 := XK.out.ob.cell 6 _ rfl; have q7 := XK.out.ob.cell 7 _ rfl))
      go_wp2_with (go_at_call 51; refine (RIG.out _ XK.out.ok).mono ?_; rintro e Wc ⟨rfl, hb⟩; replace XK := Lib.hid (XK.out.below hb); clear hb; (replace q0 := XK.out.ob.cell 0 _ rfl; replace q1 := XK.out.ob.cell 1 _ rfl; replace q2 := XK.out.ob.cell 2 _ rfl; replace q3 := XK.out.ob.cell 3 _ rfl; replace q4 := XK.out.ob.cell 4 _ rfl; replace q5 := XK.out.ob.cell 5 _ rfl; replace q6 := XK.out.ob.cell 6 _ rfl; replace q7 := XK.out.ob.cell 7 _ rfl))
      (go_ret; exact ⟨rfl, XK.out.bel⟩)
    · have d1 : decide (g < 0) = false := by simp; omega
      have hx : x = (if (fstV (portB c g) c.p.l.length).2 then (fstV (portB c g) c.p.l.length).1 else -1) := by rw [HF.out, if_pos (by simp [hr]; omega)]
      clear hr HF h1
      have HX := Lib.hid hx
      clear hx
      ((have h0 := CX.new h; go_enter Try.func25, Try.ntmps25; go_upto_region 1 with fail; generalize w.alloc (.cells #[.int .i64 c.cats, .slice c.g.a c.g.l.length c.g.cap, .slice c.r.a c.r.l.length c.r.cap, .slice c.p.a c.p.l.length c.p.cap, .slice c.n.a c.n.l.length c.n.cap, .slice c.s.a c.s.l.length c.s.cap, .int .i64 c.gate, .int .i64 c.quota] 28) = W1 at h0 ⊢; generalize w.heap.size = b0 at h0 ⊢; have H0 := Lib.hid h0; clear h0 h); have XK := H0; clear H0; (have q0 := XK.out.ob.cell 0 _ rfl; have q1 := XK.out.ob.cell 1 _ rfl; have q2 := XK.out.ob.cell 2 _ rfl; have q3 := XK.out.ob.cell 3 _ rfl; have q4 := XK.out.ob.cell 4 _ rfl; have q5 := XK.out.ob.cell 5 _ rfl; have q6 := XK.out.ob.cell 6 _ rfl; have q7 := XK.out.ob.cell 7 _ rfl))
      go_upto_region 4 with (go_at_call 51; refine (RIG.out _ XK.out.ok).mono ?_; rintro e Wc ⟨rfl, hb⟩; replace XK := Lib.hid (XK.out.below hb); clear hb; (replace q0 := XK.out.ob.cell 0 _ rfl; replace q1 := XK.out.ob.cell 1 _ rfl; replace q2 := XK.out.ob.cell 2 _ rfl; replace q3 := XK.out.ob.cell 3 _ rfl; replace q4 := XK.out.ob.cell 4 _ rfl; replace q5 := XK.out.ob.cell 5 _ rfl; replace q6 := XK.out.ob.cell 6 _ rfl; replace q7 := XK.out.ob.cell 7 _ rfl))
      clear q0 q1 q2 q3 q4 q5 q6 q7
      go_loopw [5] (fun z wr => ∃ k : Nat, k ≤ c.p.l.length ∧ z = .int .i64 k ∧ CX w wr b0 c ∧ ∀ j, j < k → portB c g j = false) (fun z _ => c.p.l.length - (intOf z).toNat)
      case atStart => exact ⟨0, by omega, rfl, XK.out, fun j hj => by omega⟩
      case round =>
        clear XK
        (obtain ⟨k, hk, rfl, hxk, hj⟩ := hrel; have XK := Lib.hid hxk; have KP := Lib.hid hj; clear hxk hj; (have q0 := XK.out.ob.cell 0 _ rfl; have q1 := XK.out.ob.cell 1 _ rfl; have q2 := XK.out.ob.cell 2 _ rfl; have q3 := XK.out.ob.cell 3 _ rfl; have q4 := XK.out.ob.cell 4 _ rfl; have q5 := XK.out.ob.cell 5 _ rfl; have q6 := XK.out.ob.cell 6 _ rfl; have q7 := XK.out.ob.cell 7 _ rfl))
        by_cases hkl : k < c.p.l.length
        · have dk : decide ((k : Int) < (c.p.l.length : Int)) = true := by simp; omega
          have kz : (0 : Int) ≤ (k : Int) := by omega
          have kl : (k : Int) < (c.p.l.length : Int) := by omega
          have w1 : IntKind.i64.wrap ((k : Int) + 1) = (k : Int) + 1 := by rw [IntKind.wrap_i64]; omega
          obtain ⟨bx, ox, hax, hcx⟩ := XK.out.ok.p.cells (by omega) k hkl
          obtain ⟨lb, gu, hrow⟩ := row2 hkl XK.out.ok.p.len
          have hpb : portB c g k = (gu == g) := by rw [portB, at_eq hkl, hrow]; rfl
          rw [hrow] at hcx
          have c1 := hcx _ (Below.refl _ _) 1 _ rfl
          rw [hax] at q3
          clear hcx hrow hax
          cases hq : (gu == g) with
          | true =>
            have hx : x = (k : Int) := by rw [HX.out, fstV_hit hkl KP.out (by rw [hpb, hq])]; rfl
            subst hx
            clear hpb
            go_wp2_with fail
            (go_ret; exact ⟨rfl, XK.out.bel⟩)
          | false =>
            have KP2 : Hid (∀ j, j < k + 1 → portB c g j = false) := fun j hj => by
              by_cases hjk : j = k
              · rw [hjk, hpb, hq]
              · exact KP.out j (by omega)
            clear hpb
            go_wp2_with fail
            go_roundw
            case rel => exact ⟨k + 1, by omega, by go_num, XK.out, KP2.out⟩
            case measure => simp [intOf]; omega
        · have dk : decide ((k : Int) < (c.p.l.length : Int)) = false := by simp; omega
          obtain rfl : x = -1 := by rw [HX.out, fstV_none (fun j hj => KP.out j (by omega))]; rfl
          go_wp2_with fail
          (go_ret; exact ⟨rfl, XK.out.bel⟩)
theorem rrangeof_any (c : Cv) (g : Int) (hg1 : g < 9223372036854775808) (w : World) (h : CfgOk w c) : Calls Try.prog 27 #[(.agg #[.int .i64 c.cats, .slice c.g.a c.g.l.length c.g.cap, .slice c.r.a c.r.l.length c.r.cap, .slice c.p.a c.p.l.length c.p.cap, .slice c.n.a c.n.l.length c.n.cap, .slice c.s.a c.s.l.length c.s.cap, .int .i64 c.gate, .int .i64 c.quota]), .int .i64 g] w fun e w' => e = .returned (.int .i64 (rangeV c g)) ∧ Below w.heap.size w w' := by
  have HF : Hid (rangeV c g = if rightV c && decide (0 ≤ g) then (if (fstV (rangeB c g) c.r.l.length).2 then (fstV (rangeB c g) c.r.l.length).1 else -1) else -1) := rfl
  obtain ⟨x, hx⟩ : ∃ x, x = rangeV c g := ⟨_, rfl⟩
  rw [← hx] at HF ⊢
  clear hx
  have hm := h.r.mx
  cases hr : rightV c with
  | false =>
    obtain rfl : x = -1 := by rw [HF.out, hr]; rfl
    (have RIG : Hid (∀ W, CfgOk W c → Calls Try.prog 51 #[(.agg #[.int .i64 c.cats, .slice c.g.a c.g.l.length c.g.cap, .slice c.r.a c.r.l.length c.r.cap, .slice c.p.a c.p.l.length c.p.cap, .slice c.n.a c.n.l.length c.n.cap, .slice c.s.a c.s.l.length c.s.cap, .int .i64 c.gate, .int .i64 c.quota])] W fun e w' => e = .returned (.bool false) ∧ Below W.heap.size W w') := fun W hc => by rw [← hr]; exact rright_any c _ hc)
    clear hr HF
    ((have h0 := CX.new h; go_enter Try.func27, Try.ntmps27; go_upto_region 1 with fail; generalize w.alloc (.cells #[.int .i64 c.cats, .slice c.g.a c.g.l.length c.g.cap, .slice c.r.a c.r.l.length c.r.cap, .slice c.p.a c.p.l.length c.p.cap, .slice c.n.a c.n.l.length c.n.cap, .slice c.s.a c.s.l.length c.s.cap, .int .i64 c.gate, .int .i64 c.quota] 28) = W1 at h0 ⊢; generalize w.heap.size = b0 at h0 ⊢; have H0 := Lib.hid h0; clear h0 h); have XK := H0; clear H0; (have q0 := XK.out.ob.cell 0 _ rfl; have q1 := XK.out.ob.cell 1 _ rfl; have q2 := XK.out.ob.cell 2 _ rfl; have q3 := XK.out.ob.cell 3 _ rfl; have q4 := XK.out.ob.cell 4 _ rfl; have q5 := XK.out.ob.cell 5 _ rfl; have q6 := XK.out.ob.cell 6 _ rfl; have q7 := XK.out.ob.cell 7 _ rfl))
    go_wp2_with (go_at_call 51; refine (RIG.out _ XK.out.ok).mono ?_; rintro e Wc ⟨rfl, hb⟩; replace XK := Lib.hid (XK.out.below hb); clear hb; (replace q0 := XK.out.ob.cell 0 _ rfl; replace q1 := XK.out.ob.cell 1 _ rfl; replace q2 := XK.out.ob.cell 2 _ rfl; replace q3 := XK.out.ob.cell 3 _ rfl; replace q4 := XK.out.ob.cell 4 _ rfl; replace q5 := XK.out.ob.cell 5 _ rfl; replace q6 := XK.out.ob.cell 6 _ rfl; replace q7 := XK.out.ob.cell 7 _ rfl))
    (go_ret; exact ⟨rfl, XK.out.bel⟩)
  | true =>
    (have RIG : Hid (∀ W, CfgOk W c → Calls Try.prog 51 #[(.agg #[.int .i64 c.cats, .slice c.g.a c.g.l.length c.g.cap, .slice c.r.a c.r.l.length c.r.cap, .slice c.p.a c.p.l.length c.p.cap, .slice c.n.a c.n.l.length c.n.cap, .slice c.s.a c.s.l.length c.s.cap, .int .i64 c.gate, .int .i64 c.quota])] W fun e w' => e = .returned (.bool true) ∧ Below W.heap.size W w') := fun W hc => by rw [← hr]; exact rright_any c _ hc)
    by_cases h1 : g < 0
    · have d1 : decide (g < 0) = true := by simp [h1]
      obtain rfl : x = -1 := by rw [HF.out, if_neg (by simp; omega)]
      clear hr HF h1
      ((have h0 := CX.new h; go_enter Try.func27, Try.ntmps27; go_upto_region 1 with fail; generalize w.alloc (.cells #[.int .i64 c.cats, .slice c.g.a c.g.l.length c.g.cap, .slice c.r.a c.r.l.length c.r.cap, .slice c.p.a c.p.l.length c.p.cap, .slice c.n.a c.n.l.length c.n.cap, .slice c.s.a c.s.l.length c.s.cap, .int .i64 c.gate, .int .i64 c.quota] 28) = W1 at h0 ⊢; generalize w.heap.size = b0 at h0 ⊢; have H0 := Lib.hid h0; clear h0 h); have XK := H0; clear H0; (have q0 := XK.out.ob.cell 0 _ rfl; have q1 := XK.out.ob.cell 1 _ rfl; have q2 := XK.out.ob.cell 2 _ rfl; have q3 := XK.out.ob.cell 3 _ rfl; have q4 := XK.out.ob.cell 4 _ rfl; have q5 := XK.out.ob.cell 5 _ rfl; have q6 := XK.out.ob.cell 6 _ rfl; have q7 := XK.out.ob.cell 7 _ rfl))
      go_wp2_with (go_at_call 51; refine (RIG.out _ XK.out.ok).mono ?_; rintro e Wc ⟨rfl, hb⟩; replace XK := Lib.hid (XK.out.below hb); clear hb; (replace q0 := XK.out.ob.cell 0 _ rfl; replace q1 := XK.out.ob.cell 1 _ rfl; replace q2 := XK.out.ob.cell 2 _ rfl; replace q3 := XK.out.ob.cell 3 _ rfl; replace q4 := XK.out.ob.cell 4 _ rfl; replace q5 := XK.out.ob.cell 5 _ rfl; replace q6 := XK.out.ob.cell 6 _ rfl; replace q7 := XK.out.ob.cell 7 _ rfl))
      (go_ret; exact ⟨rfl, XK.out.bel⟩)
    · have d1 : decide (g < 0) = false := by simp; omega
      have hx : x = (if (fstV (rangeB c g) c.r.l.length).2 then (fstV (rangeB c g) c.r.l.length).1 else -1) := by rw [HF.out, if_pos (by simp [hr]; omega)]
      have HOK := Lib.hid (rg_ok (rt_of hr))
      have HG0 : Hid (0 ≤ g ∧ g < 9223372036854775808) := ⟨by omega, hg1⟩
      clear hr HF h1 hg1
      have HX := Lib.hid hx
      clear hx
      ((have h0 := CX.new h; go_enter Try.func27, Try.ntmps27; go_upto_region 1 with fail; generalize w.alloc (.cells #[.int .i64 c.cats, .slice c.g.a c.g.l.length c.g.cap, .slice c.r.a c.r.l.length c.r.cap, .slice c.p.a c.p.l.length c.p.cap, .slice c.n.a c.n.l.length c.n.cap, .slice c.s.a c.s.l.length c.s.cap, .int .i64 c.gate, .int .i64 c.quota] 28) = W1 at h0 ⊢; generalize w.heap.size = b0 at h0 ⊢; have H0 := Lib.hid h0; clear h0 h); have XK := H0; clear H0; (have q0 := XK.out.ob.cell 0 _ rfl; have q1 := XK.out.ob.cell 1 _ rfl; have q2 := XK.out.ob.cell 2 _ rfl; have q3 := XK.out.ob.cell 3 _ rfl; have q4 := XK.out.ob.cell 4 _ rfl; have q5 := XK.out.ob.cell 5 _ rfl; have q6 := XK.out.ob.cell 6 _ rfl; have q7 := XK.out.ob.cell 7 _ rfl))
      go_upto_region 4 with (go_at_call 51; refine (RIG.out _ XK.out.ok).mono ?_; rintro e Wc ⟨rfl, hb⟩; replace XK := Lib.hid (XK.out.below hb); clear hb; (replace q0 := XK.out.ob.cell 0 _ rfl; replace q1 := XK.out.ob.cell 1 _ rfl; replace q2 := XK.out.ob.cell 2 _ rfl; replace q3 := XK.out.ob.cell 3 _ rfl; replace q4 := XK.out.ob.cell 4 _ rfl; replace q5 := XK.out.ob.cell 5 _ rfl; replace q6 := XK.out.ob.cell 6 _ rfl; replace q7 := XK.out.ob.cell 7 _ rfl))
      clear q0 q1 q2 q3 q4 q5 q6 q7
      go_loopw [5] (fun z wr => ∃ k : Nat, k ≤ c.r.l.length ∧ z = .int .i64 k ∧ CX w wr b0 c ∧ ∀ j, j < k → rangeB c g j = false) (fun z _ => c.r.l.length - (intOf z).toNat)
      case atStart => exact ⟨0, by omega, rfl, XK.out, fun j hj => by omega⟩
      case round =>
        clear XK
        (obtain ⟨k, hk, rfl, hxk, hj⟩ := hrel; have XK := Lib.hid hxk; have KP := Lib.hid hj; clear hxk hj; (have q0 := XK.out.ob.cell 0 _ rfl; have q1 := XK.out.ob.cell 1 _ rfl; have q2 := XK.out.ob.cell 2 _ rfl; have q3 := XK.out.ob.cell 3 _ rfl; have q4 := XK.out.ob.cell 4 _ rfl; have q5 := XK.out.ob.cell 5 _ rfl; have q6 := XK.out.ob.cell 6 _ rfl; have q7 := XK.out.ob.cell 7 _ rfl))
        by_cases hkl : k < c.r.l.length
        · have dk : decide ((k : Int) < (c.r.l.length : Int)) = true := by simp; omega
          have kz : (0 : Int) ≤ (k : Int) := by omega
          have kl : (k : Int) < (c.r.l.length : Int) := by omega
          have w1 : IntKind.i64.wrap ((k : Int) + 1) = (k : Int) + 1 := by rw [IntKind.wrap_i64]; omega
          obtain ⟨bx, ox, hax, hcx⟩ := XK.out.ok.r.cells (by omega) k hkl
          obtain ⟨lb, fr, nn, hrow⟩ := row3 hkl XK.out.ok.r.len
          have hok1 := HOK.out k hkl
          rw [at_eq hkl, at_eq hkl, hrow] at hok1
          simp only [List.getD_cons_succ, List.getD_cons_zero] at hok1
          have hpb : rangeB c g k = (decide (fr ≤ g) && decide (g - fr < nn)) := by rw [rangeB, at_eq hkl, at_eq hkl, hrow]; rfl
          rw [hrow] at hcx
          have c1 := hcx _ (Below.refl _ _) 1 _ rfl; have c2 := hcx _ (Below.refl _ _) 2 _ rfl
          have ws : IntKind.i64.wrap (g - fr) = g - fr := by have := HG0.out; rw [IntKind.wrap_i64]; omega
          rw [hax] at q2
          clear hcx hrow hax hok1
          go_upto_region 6 with fail
          by_cases h3 : fr ≤ g ∧ g - fr < nn
          · have e1 : decide (g ≥ fr) = true := by simp [h3.1]
            have e2 : decide (g - fr < nn) = true := by simp [h3.2]
            have hx : x = (k : Int) := by rw [HX.out, fstV_hit hkl KP.out (by rw [hpb]; simp [h3])]; rfl
            subst hx
            clear hpb h3
            go_quiet (fail)
            go_wp2_with fail
            go_ret
            exact ⟨rfl, below_drewN XK.out.bel _⟩
          · have KP2 : Hid (∀ j, j < k + 1 → rangeB c g j = false) := fun j hj => by
              by_cases hjk : j = k
              · rw [hjk, hpb]; simp; omega
              · exact KP.out j (by omega)
            by_cases h4 : fr ≤ g
            · have e1 : decide (g ≥ fr) = true := by simp [h4]
              have e2 : decide (g - fr < nn) = false := by simp; omega
              clear hpb h3 h4
              go_quiet (fail)
              go_wp2_with fail
              go_roundw
              case rel => exact ⟨k + 1, by omega, by go_num, XK.out.below (below_drewN (Below.refl _ _) _), KP2.out⟩
              case measure => simp [intOf]; omega
            · have e1 : decide (g ≥ fr) = false := by simp; omega
              clear hpb h3 h4
              go_quiet (fail)
              go_wp2_with fail
              go_roundw
              case rel => exact ⟨k + 1, by omega, by go_num, XK.out.below (below_drewN (Below.refl _ _) _), KP2.out⟩
              case measure => simp [intOf]; omega
        · have dk : decide ((k : Int) < (c.r.l.length : Int)) = false := by simp; omega
          obtain rfl : x = -1 := by rw [HX.out, fstV_none (fun j hj => KP.out j (by omega))]; rfl
          go_wp2_with fail
          (go_ret; exact ⟨rfl, XK.out.bel⟩)
theorem rowner_any (c : Cv) (f : Int) (w : World) (hf : -9223372036854775808 ≤ f ∧ f < 9223372036854775808) (h : CfgOk w c) : Calls Try.prog 22 #[(.agg #[.int .i64 c.cats, .slice c.g.a c.g.l.length c.g.cap, .slice c.r.a c.r.l.length c.r.cap, .slice c.p.a c.p.l.length c.p.cap, .slice c.n.a c.n.l.length c.n.cap, .slice c.s.a c.s.l.length c.s.cap, .int .i64 c.gate, .int .i64 c.quota]), .int .i64 f] w fun e w' => e = .returned (.agg #[.int .i64 (ownV2 c f).1, .int .i64 (ownV2 c f).2]) ∧ Below w.heap.size w w' := by
  have HF : Hid (ownV2 c f = if rightV c && (decide (0 ≤ f) && decide (f < needV c)) then
    match (List.range c.g.l.length).find? fun i => decide (f < sumG (c.g.l.take (i + 1))) with
    | some i => ((1 : Int), (i : Int))
    | none => (2, f - sumG c.g.l)
  else (0, 0)) := rfl
  obtain ⟨x, hx⟩ : ∃ x, x = ownV2 c f := ⟨_, rfl⟩
  rw [← hx] at HF ⊢
  clear hx
  cases hr : rightV c with
  | false =>
    obtain rfl : x = (0, 0) := by rw [HF.out, hr]; rfl
    (have RIG : Hid (∀ W, CfgOk W c → Calls Try.prog 51 #[(.agg #[.int .i64 c.cats, .slice c.g.a c.g.l.length c.g.cap, .slice c.r.a c.r.l.length c.r.cap, .slice c.p.a c.p.l.length c.p.cap, .slice c.n.a c.n.l.length c.n.cap, .slice c.s.a c.s.l.length c.s.cap, .int .i64 c.gate, .int .i64 c.quota])] W fun e w' => e = .returned (.bool false) ∧ Below W.heap.size W w') := fun W hc => by rw [← hr]; exact rright_any c _ hc)
    clear hr HF
    (
    have h0 := CX.new h
    go_enter Try.func22, Try.ntmps22
    go_upto_region 1 with fail
    have hob := h0.bel.size
    have hsz : (w.alloc (.cells #[.int .i64 c.cats, .slice c.g.a c.g.l.length c.g.cap, .slice c.r.a c.r.l.length c.r.cap, .slice c.p.a c.p.l.length c.p.cap, .slice c.n.a c.n.l.length c.n.cap, .slice c.s.a c.s.l.length c.s.cap, .int .i64 c.gate, .int .i64 c.quota] 28)).heap.size = w.heap.size + 1 := by simp
    generalize w.alloc (.cells #[.int .i64 c.cats, .slice c.g.a c.g.l.length c.g.cap, .slice c.r.a c.r.l.length c.r.cap, .slice c.p.a c.p.l.length c.p.cap, .slice c.n.a c.n.l.length c.n.cap, .slice c.s.a c.s.l.length c.s.cap, .int .i64 c.gate, .int .i64 c.quota] 28) = W1 at h0 hob hsz ⊢
    have XK : Hid (CX w (W1.alloc (.cells #[.int .i64 0, .int .i64 0] 47)) w.heap.size c) := h0.below ((Below.refl _ _).alloc (Nat.le_refl _) _)
    have OK : Hid (ObjAt (W1.alloc (.cells #[.int .i64 0, .int .i64 0] 47)) W1.heap.size 47 [.int .i64 0, .int .i64 0]) := ObjAt.new W1 _ _
    have HOB := Lib.hid hob
    clear h0 h hob
    generalize W1.alloc (.cells #[.int .i64 0, .int .i64 0] 47) = W2 at XK OK ⊢
    rw [hsz] at OK HOB
    clear hsz
    generalize w.heap.size + 1 = ob at OK HOB ⊢
    obtain ⟨b0, hb0⟩ : ∃ b, b = w.heap.size := ⟨_, rfl⟩
    rw [← hb0] at XK ⊢
    clear hb0
    (have q0 := XK.out.ob.cell 0 _ rfl; have q1 := XK.out.ob.cell 1 _ rfl; have q2 := XK.out.ob.cell 2 _ rfl; have q3 := XK.out.ob.cell 3 _ rfl; have q4 := XK.out.ob.cell 4 _ rfl; have q5 := XK.out.ob.cell 5 _ rfl; have q6 := XK.out.ob.cell 6 _ rfl; have q7 := XK.out.ob.cell 7 _ rfl)
    (have o0 := OK.out.cell 0 _ rfl; have o1 := OK.out.cell 1 _ rfl; have f0 := OK.out.free 0; have f1 := OK.out.free 1)
)
    go_wp2_with (go_at_call 51; refine (RIG.out _ XK.out.ok).mono ?_; rintro e Wc ⟨rfl, hb⟩; replace XK := Lib.hid (XK.out.below hb); replace OK := Lib.hid (OK.out.below hb); clear hb; (replace q0 := XK.out.ob.cell 0 _ rfl; replace q1 := XK.out.ob.cell 1 _ rfl; replace q2 := XK.out.ob.cell 2 _ rfl; replace q3 := XK.out.ob.cell 3 _ rfl; replace q4 := XK.out.ob.cell 4 _ rfl; replace q5 := XK.out.ob.cell 5 _ rfl; replace q6 := XK.out.ob.cell 6 _ rfl; replace q7 := XK.out.ob.cell 7 _ rfl); (replace o0 := OK.out.cell 0 _ rfl; replace o1 := OK.out.cell 1 _ rfl; replace f0 := OK.out.free 0; replace f1 := OK.out.free 1))
    ((try simp only [Exit.inBlock, Exit.then]); refine bodyPost_ret (v := .agg #[.int .i64 (0), .int .i64 (0)]) ?_ rfl ⟨rfl, (XK.out.bel.setCell (p := ⟨ob, 0, none⟩) HOB.out _).setCell (p := ⟨ob, 1, none⟩) HOB.out _⟩; exact results_cell_row rfl _ _ ob _ _ (0, 0) _ rfl ((OK.out.set 0 (.int .i64 (0))).set 1 (.int .i64 (0))) Try.underlying47 rfl info_own)
  | true =>
    have hrt := rt_of hr
    have hg := hrt.gok
    (have RIG : Hid (∀ W, CfgOk W c → Calls Try.prog 51 #[(.agg #[.int .i64 c.cats, .slice c.g.a c.g.l.length c.g.cap, .slice c.r.a c.r.l.length c.r.cap, .slice c.p.a c.p.l.length c.p.cap, .slice c.n.a c.n.l.length c.n.cap, .slice c.s.a c.s.l.length c.s.cap, .int .i64 c.gate, .int .i64 c.quota])] W fun e w' => e = .returned (.bool true) ∧ Below W.heap.size W w') := fun W hc => by rw [← hr]; exact rright_any c _ hc)
    by_cases h1 : f < 0
    · have d1 : decide (f < 0) = true := by simp [h1]
      obtain rfl : x = (0, 0) := by rw [HF.out, if_neg (by simp; omega)]
      clear hr HF hrt hg h1
      (
    have h0 := CX.new h
    go_enter Try.func22, Try.ntmps22
    go_upto_region 1 with fail
    have hob := h0.bel.size
    have hsz : (w.alloc (.cells #[.int .i64 c.cats, .slice c.g.a c.g.l.length c.g.cap, .slice c.r.a c.r.l.length c.r.cap, .slice c.p.a c.p.l.length c.p.cap, .slice c.n.a c.n.l.length c.n.cap, .slice c.s.a c.s.l.length c.s.cap, .int .i64 c.gate, .int .i64 c.quota] 28)).heap.size = w.heap.size + 1 := by simp
    generalize w.alloc (.cells #[.int .i64 c.cats, .slice c.g.a c.g.l.length c.g.cap, .slice c.r.a c.r.l.length c.r.cap, .slice c.p.a c.p.l.length c.p.cap, .slice c.n.a c.n.l.length c.n.cap, .slice c.s.a c.s.l.length c.s.cap, .int .i64 c.gate, .int .i64 c.quota] 28) = W1 at h0 hob hsz ⊢
    have XK : Hid (CX w (W1.alloc (.cells #[.int .i64 0, .int .i64 0] 47)) w.heap.size c) := h0.below ((Below.refl _ _).alloc (Nat.le_refl _) _)
    have OK : Hid (ObjAt (W1.alloc (.cells #[.int .i64 0, .int .i64 0] 47)) W1.heap.size 47 [.int .i64 0, .int .i64 0]) := ObjAt.new W1 _ _
    have HOB := Lib.hid hob
    clear h0 h hob
    generalize W1.alloc (.cells #[.int .i64 0, .int .i64 0] 47) = W2 at XK OK ⊢
    rw [hsz] at OK HOB
    clear hsz
    generalize w.heap.size + 1 = ob at OK HOB ⊢
    obtain ⟨b0, hb0⟩ : ∃ b, b = w.heap.size := ⟨_, rfl⟩
    rw [← hb0] at XK ⊢
    clear hb0
    (have q0 := XK.out.ob.cell 0 _ rfl; have q1 := XK.out.ob.cell 1 _ rfl; have q2 := XK.out.ob.cell 2 _ rfl; have q3 := XK.out.ob.cell 3 _ rfl; have q4 := XK.out.ob.cell 4 _ rfl; have q5 := XK.out.ob.cell 5 _ rfl; have q6 := XK.out.ob.cell 6 _ rfl; have q7 := XK.out.ob.cell 7 _ rfl)
    (have o0 := OK.out.cell 0 _ rfl; have o1 := OK.out.cell 1 _ rfl; have f0 := OK.out.free 0; have f1 := OK.out.free 1)
)
      go_wp2_with (go_at_call 51; refine (RIG.out _ XK.out.ok).mono ?_; rintro e Wc ⟨rfl, hb⟩; replace XK := Lib.hid (XK.out.below hb); replace OK := Lib.hid (OK.out.below hb); clear hb; (replace q0 := XK.out.ob.cell 0 _ rfl; replace q1 := XK.out.ob.cell 1 _ rfl; replace q2 := XK.out.ob.cell 2 _ rfl; replace q3 := XK.out.ob.cell 3 _ rfl; replace q4 := XK.out.ob.cell 4 _ rfl; replace q5 := XK.out.ob.cell 5 _ rfl; replace q6 := XK.out.ob.cell 6 _ rfl; replace q7 := XK.out.ob.cell 7 _ rfl); (replace o0 := OK.out.cell 0 _ rfl; replace o1 := OK.out.cell 1 _ rfl; replace f0 := OK.out.free 0; replace f1 := OK.out.free 1))
      ((try simp only [Exit.inBlock, Exit.then]); refine bodyPost_ret (v := .agg #[.int .i64 (0), .int .i64 (0)]) ?_ rfl ⟨rfl, (XK.out.bel.setCell (p := ⟨ob, 0, none⟩) HOB.out _).setCell (p := ⟨ob, 1, none⟩) HOB.out _⟩; exact results_cell_row rfl _ _ ob _ _ (0, 0) _ rfl ((OK.out.set 0 (.int .i64 (0))).set 1 (.int .i64 (0))) Try.underlying47 rfl info_own)
    · have d1 : decide (f < 0) = false := by simp; omega
      have hx : x = if f < needV c then (match (List.range c.g.l.length).find? fun i => decide (f < sumG (c.g.l.take (i + 1))) with
          | some i => ((1 : Int), (i : Int))
          | none => (2, f - sumG c.g.l)) else (0, 0) := by
        rw [HF.out]
        by_cases h2 : f < needV c
        · rw [if_pos (by simp [hr, h2]; omega), if_pos h2]
        · rw [if_neg (by simp [hr, h2]), if_neg h2]
      have HX := Lib.hid hx
      have HG := Lib.hid hg
      have F1 : Hid (0 ≤ f ∧ f < 9223372036854775808) := ⟨by omega, hf.2⟩
      have hl4 := hg.g
      clear hr HF hrt hg h1 hx hf
      (
    have h0 := CX.new h
    go_enter Try.func22, Try.ntmps22
    go_upto_region 1 with fail
    have hob := h0.bel.size
    have hsz : (w.alloc (.cells #[.int .i64 c.cats, .slice c.g.a c.g.l.length c.g.cap, .slice c.r.a c.r.l.length c.r.cap, .slice c.p.a c.p.l.length c.p.cap, .slice c.n.a c.n.l.length c.n.cap, .slice c.s.a c.s.l.length c.s.cap, .int .i64 c.gate, .int .i64 c.quota] 28)).heap.size = w.heap.size + 1 := by simp
    generalize w.alloc (.cells #[.int .i64 c.cats, .slice c.g.a c.g.l.length c.g.cap, .slice c.r.a c.r.l.length c.r.cap, .slice c.p.a c.p.l.length c.p.cap, .slice c.n.a c.n.l.length c.n.cap, .slice c.s.a c.s.l.length c.s.cap, .int .i64 c.gate, .int .i64 c.quota] 28) = W1 at h0 hob hsz ⊢
    have XK : Hid (CX w (W1.alloc (.cells #[.int .i64 0, .int .i64 0] 47)) w.heap.size c) := h0.below ((Below.refl _ _).alloc (Nat.le_refl _) _)
    have OK : Hid (ObjAt (W1.alloc (.cells #[.int .i64 0, .int .i64 0] 47)) W1.heap.size 47 [.int .i64 0, .int .i64 0]) := ObjAt.new W1 _ _
    have HOB := Lib.hid hob
    clear h0 h hob
    generalize W1.alloc (.cells #[.int .i64 0, .int .i64 0] 47) = W2 at XK OK ⊢
    rw [hsz] at OK HOB
    clear hsz
    generalize w.heap.size + 1 = ob at OK HOB ⊢
    obtain ⟨b0, hb0⟩ : ∃ b, b = w.heap.size := ⟨_, rfl⟩
    rw [← hb0] at XK ⊢
    clear hb0
    (have q0 := XK.out.ob.cell 0 _ rfl; have q1 := XK.out.ob.cell 1 _ rfl; have q2 := XK.out.ob.cell 2 _ rfl; have q3 := XK.out.ob.cell 3 _ rfl; have q4 := XK.out.ob.cell 4 _ rfl; have q5 := XK.out.ob.cell 5 _ rfl; have q6 := XK.out.ob.cell 6 _ rfl; have q7 := XK.out.ob.cell 7 _ rfl)
    (have o0 := OK.out.cell 0 _ rfl; have o1 := OK.out.cell 1 _ rfl; have f0 := OK.out.free 0; have f1 := OK.out.free 1)
)
      go_upto_region 5 with (go_at_call 51; refine (RIG.out _ XK.out.ok).mono ?_; rintro e Wc ⟨rfl, hb⟩; replace XK := Lib.hid (XK.out.below hb); replace OK := Lib.hid (OK.out.below hb); clear hb; (replace q0 := XK.out.ob.cell 0 _ rfl; replace q1 := XK.out.ob.cell 1 _ rfl; replace q2 := XK.out.ob.cell 2 _ rfl; replace q3 := XK.out.ob.cell 3 _ rfl; replace q4 := XK.out.ob.cell 4 _ rfl; replace q5 := XK.out.ob.cell 5 _ rfl; replace q6 := XK.out.ob.cell 6 _ rfl; replace q7 := XK.out.ob.cell 7 _ rfl); (replace o0 := OK.out.cell 0 _ rfl; replace o1 := OK.out.cell 1 _ rfl; replace f0 := OK.out.free 0; replace f1 := OK.out.free 1))
      clear q0 q1 q2 q3 q4 q5 q6 q7 o0 o1 f0 f1
      go_loopw [5, 6] (fun g3 z wr => ∃ k : Nat, k ≤ c.g.l.length ∧ z = .int .i64 k ∧ g3 = .int .i64 (sumG (c.g.l.take k)) ∧ CX w wr b0 c ∧ ObjAt wr ob 47 [.int .i64 0, .int .i64 0] ∧ ∀ j, j < k → sumG (c.g.l.take (j + 1)) ≤ f) (fun _ z _ => c.g.l.length - (intOf z).toNat)
      case atStart => exact ⟨0, by omega, rfl, by simp [sumG], XK.out, OK.out, fun j hj => by omega⟩
      case round =>
        clear XK OK
        obtain ⟨k, hk, rfl, rfl, hxk, hok, hj⟩ := hrel
        have XK := Lib.hid hxk
        have OK := Lib.hid hok
        have HJ := Lib.hid hj
        clear hxk hok hj
        (have q0 := XK.out.ob.cell 0 _ rfl; have q1 := XK.out.ob.cell 1 _ rfl; have q2 := XK.out.ob.cell 2 _ rfl; have q3 := XK.out.ob.cell 3 _ rfl; have q4 := XK.out.ob.cell 4 _ rfl; have q5 := XK.out.ob.cell 5 _ rfl; have q6 := XK.out.ob.cell 6 _ rfl; have q7 := XK.out.ob.cell 7 _ rfl)
        by_cases hkl : k < c.g.l.length
        · have dk : decide ((k : Int) < (c.g.l.length : Int)) = true := by simp; omega
          have kz : (0 : Int) ≤ (k : Int) := by omega
          have kl : (k : Int) < (c.g.l.length : Int) := by omega
          have w1 : IntKind.i64.wrap ((k : Int) + 1) = (k : Int) + 1 := by rw [IntKind.wrap_i64]; omega
          obtain ⟨bx, ox, hax, hcx⟩ := XK.out.ok.g.cells (by omega) k hkl
          obtain ⟨lb, y, z, hrow⟩ := row3 hkl XK.out.ok.g.len
          have hgr := HG.out.row _ (List.getElem_mem hkl)
          have hst := sumG_take c.g.l k hkl
          have hsb := sumG_takeb c.g.l HG.out.row k (by omega)
          rw [hrow] at hcx hgr hst
          simp only [GRow, List.getD_cons_succ, List.getD_cons_zero] at hgr hst
          obtain ⟨sk, hsk⟩ : ∃ x, x = sumG (c.g.l.take k) := ⟨_, rfl⟩
          rw [← hsk] at hst hsb ⊢
          have HST : Hid (sumG (c.g.l.take (k + 1)) = sk + y + z) := by rw [Hid, hst]; omega
          have c1 := hcx _ (Below.refl _ _) 1 _ rfl; have c2 := hcx _ (Below.refl _ _) 2 _ rfl
          have w2 : IntKind.i64.wrap (sk + y) = sk + y := by rw [IntKind.wrap_i64]; omega
          have w3 : IntKind.i64.wrap (sk + y + z) = sk + y + z := by rw [IntKind.wrap_i64]; omega
          rw [hax] at q1
          clear hcx hrow hgr hst hsb hsk hax
          go_upto_region 7 with fail
          go_quiet (fail)
          have X2 : Hid (CX w (wr.drewN nq) b0 c) := XK.out.below (below_drewN (Below.refl _ _) _)
          have O2 : Hid (ObjAt (wr.drewN nq) ob 47 [.int .i64 0, .int .i64 0]) := OK.out.below (below_drewN (Below.refl _ _) _)
          generalize wr.drewN nq = W2 at X2 O2 ⊢
          clear XK OK
          have XK := X2
          have OK := O2
          clear X2 O2 q0 q1 q2 q3 q4 q5 q6 q7 c1 c2
          (have o0 := OK.out.cell 0 _ rfl; have o1 := OK.out.cell 1 _ rfl; have f0 := OK.out.free 0; have f1 := OK.out.free 1)
          by_cases h3 : f < sk + y + z
          · have d3 : decide (f < sk + y + z) = true := by simp [h3]
            have hx : x = (1, (k : Int)) := by
              have hfn : (List.range c.g.l.length).find? (fun i => decide (f < sumG (c.g.l.take (i + 1)))) = some k := by
                rw [List.find?_range_eq_some]
                exact ⟨by rw [HST.out]; simp [h3], List.mem_range.2 hkl, fun j hj => by simpa using HJ.out j hj⟩
              have hlt : f < needV c := by
                have h1 := sumG_bound (c.g.l.drop (k + 1)) (fun r hr => HG.out.row r (List.mem_of_mem_drop hr))
                have h2 : sumG c.g.l = sumG (c.g.l.take (k + 1)) + sumG (c.g.l.drop (k + 1)) := by
                  conv => lhs; rw [← List.take_append_drop (k + 1) c.g.l]
                  unfold sumG
                  rw [List.map_append, List.sum_append]
                rw [needV, h2, HST.out]; omega
              rw [HX.out, if_pos hlt, hfn]
            subst hx
            clear h3
            go_wp2_with fail
            ((try simp only [Exit.inBlock, Exit.then]); refine bodyPost_ret (v := .agg #[.int .i64 (1), .int .i64 (k)]) ?_ rfl ⟨rfl, (XK.out.bel.setCell (p := ⟨ob, 0, none⟩) HOB.out _).setCell (p := ⟨ob, 1, none⟩) HOB.out _⟩; exact results_cell_row rfl _ _ ob _ _ (0, 0) _ rfl ((OK.out.set 0 (.int .i64 (1))).set 1 (.int .i64 (k))) Try.underlying47 rfl info_own)
          · have d3 : decide (f < sk + y + z) = false := by simpa using h3
            have HJ2 : Hid (∀ j, j < k + 1 → sumG (c.g.l.take (j + 1)) ≤ f) := fun j hj => by
              by_cases hjk : j = k
              · rw [hjk, HST.out]; omega
              · exact HJ.out j (by omega)
            clear h3
            go_wp2_with fail
            go_roundw
            case rel => exact ⟨k + 1, by omega, by go_num, by rw [HST.out], XK.out, OK.out, HJ2.out⟩
            case measure => simp [intOf]; omega
        · have dk : decide ((k : Int) < (c.g.l.length : Int)) = false := by simp; omega
          have hkk : k = c.g.l.length := by omega
          subst hkk
          have hfn : (List.range c.g.l.length).find? (fun i => decide (f < sumG (c.g.l.take (i + 1)))) = none := by
            rw [List.find?_eq_none]; intro j hj; simpa using HJ.out j (by have := List.mem_range.1 hj; omega)
          have hx : x = if f < needV c then (2, f - sumG c.g.l) else (0, 0) := by rw [HX.out, hfn]
          rw [List.take_length]
          have hsb := sumG_bound c.g.l HG.out.row
          have hw : IntKind.i64.wrap (f - sumG c.g.l) = f - sumG c.g.l := by
            have := F1.out
            rw [IntKind.wrap_i64]; omega
          have hnv : needV c = c.n.l.length + sumG c.g.l := rfl
          (have o0 := OK.out.cell 0 _ rfl; have o1 := OK.out.cell 1 _ rfl; have f0 := OK.out.free 0; have f1 := OK.out.free 1)
          by_cases h5 : f < needV c
          · have d5 : decide (f - sumG c.g.l < (c.n.l.length : Int)) = true := by simp; omega
            rw [if_pos h5] at hx
            subst hx
            clear hnv h5 hsb hfn
            go_wp2_with fail
            ((try simp only [Exit.inBlock, Exit.then]); refine bodyPost_ret (v := .agg #[.int .i64 (2), .int .i64 (f - sumG c.g.l)]) ?_ rfl ⟨rfl, (XK.out.bel.setCell (p := ⟨ob, 0, none⟩) HOB.out _).setCell (p := ⟨ob, 1, none⟩) HOB.out _⟩; exact results_cell_row rfl _ _ ob _ _ (0, 0) _ rfl ((OK.out.set 0 (.int .i64 (2))).set 1 (.int .i64 (f - sumG c.g.l))) Try.underlying47 rfl info_own)
          · have d5 : decide (f - sumG c.g.l < (c.n.l.length : Int)) = false := by simp; omega
            rw [if_neg h5] at hx
            subst hx
            clear hnv h5 hsb hfn
            go_wp2_with fail
            ((try simp only [Exit.inBlock, Exit.then]); refine bodyPost_ret (v := .agg #[.int .i64 (0), .int .i64 (0)]) ?_ rfl ⟨rfl, (XK.out.bel.setCell (p := ⟨ob, 0, none⟩) HOB.out _).setCell (p := ⟨ob, 1, none⟩) HOB.out _⟩; exact results_cell_row rfl _ _ ob _ _ (0, 0) _ rfl ((OK.out.set 0 (.int .i64 (0))).set 1 (.int .i64 (0))) Try.underlying47 rfl info_own)
end Go.Proofs.Ytmchaaelpbifgaa
