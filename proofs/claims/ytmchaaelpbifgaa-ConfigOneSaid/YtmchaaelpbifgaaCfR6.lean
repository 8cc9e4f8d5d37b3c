/- Chapter 4, the reference: Frames, RingFrame, Bound, First, PortOf, RangeOf, Period. -/
import Derived.Test.YtmchaaelpbifgaaCfR5
namespace Go.Proofs.Ytmchaaelpbifgaa
set_option linter.unusedVariables false
set_option linter.unusedSimpArgs false
set_option linter.unnecessarySimpa false
open Go.RowKit Go.Sort
set_option maxHeartbeats 8000000
set_option maxRecDepth 100000
set_option linter.unusedVariables false
variable {W W' w : World} {c : Cv} {b N : Nat} {s : Sl}
theorem rframes_any (c : Cv) (w : World) (h : CfgOk w c) : Calls Try.prog 17 #[(.agg #[.int .i64 c.cats, .slice c.g.a c.g.l.length c.g.cap, .slice c.r.a c.r.l.length c.r.cap, .slice c.p.a c.p.l.length c.p.cap, .slice c.n.a c.n.l.length c.n.cap, .slice c.s.a c.s.l.length c.s.cap, .int .i64 c.gate, .int .i64 c.quota])] w fun e w' => e = .returned (.int .i64 (framesV c)) ∧ Below w.heap.size w w' := by
  have HF : Hid (framesV c = if rightV c then needV c else 0) := rfl
  obtain ⟨x, hx⟩ : ∃ x, x = framesV c := ⟨_, rfl⟩
  rw [← hx] at HF ⊢
  clear hx
  cases hr : rightV c with
  | false =>
    obtain rfl : x = 0 := by rw [HF.out, hr]; rfl
    (have RIG : Hid (∀ W, CfgOk W c → Calls Try.prog 51 #[(.agg #[.int .i64 c.cats, .slice c.g.a c.g.l.length c.g.cap, .slice c.r.a c.r.l.length c.r.cap, .slice c.p.a c.p.l.length c.p.cap, .slice c.n.a c.n.l.length c.n.cap, .slice c.s.a c.s.l.length c.s.cap, .int .i64 c.gate, .int .i64 c.quota])] W fun e w' => e = .returned (.bool false) ∧ Below W.heap.size W w') := fun W hc => by rw [← hr]; exact rright_any c _ hc)
    clear hr HF
    ((have h0 := CX.new h; go_enter Try.func17, Try.ntmps17; go_upto_region 1 with fail; generalize w.alloc (.cells #[.int .i64 c.cats, .slice c.g.a c.g.l.length c.g.cap, .slice c.r.a c.r.l.length c.r.cap, .slice c.p.a c.p.l.length c.p.cap, .slice c.n.a c.n.l.length c.n.cap, .slice c.s.a c.s.l.length c.s.cap, .int .i64 c.gate, .int .i64 c.quota] 28) = W1 at h0 ⊢; generalize w.heap.size = b0 at h0 ⊢; have H0 := Lib.hid h0; clear h0 h); have XK := H0; clear H0; (have q0 := XK.out.ob.cell 0 _ rfl; have q1 := XK.out.ob.cell 1 _ rfl; have q2 := XK.out.ob.cell 2 _ rfl; have q3 := XK.out.ob.cell 3 _ rfl; have q4 := XK.out.ob.cell 4 _ rfl; have q5 := XK.out.ob.cell 5 _ rfl; have q6 := XK.out.ob.cell 6 _ rfl; have q7 := XK.out.ob.cell 7 _ rfl))
    go_wp2_with (go_at_call 51; refine (RIG.out _ XK.out.ok).mono ?_; rintro e Wc ⟨rfl, hb⟩; replace XK := Lib.hid (XK.out.below hb); clear hb; (replace q0 := XK.out.ob.cell 0 _ rfl; replace q1 := XK.out.ob.cell 1 _ rfl; replace q2 := XK.out.ob.cell 2 _ rfl; replace q3 := XK.out.ob.cell 3 _ rfl; replace q4 := XK.out.ob.cell 4 _ rfl; replace q5 := XK.out.ob.cell 5 _ rfl; replace q6 := XK.out.ob.cell 6 _ rfl; replace q7 := XK.out.ob.cell 7 _ rfl))
    (go_ret; exact ⟨rfl, XK.out.bel⟩)
  | true =>
    obtain rfl : x = needV c := by rw [HF.out, hr]; rfl
    have hg := (rt_of hr).gok
    (have RIG : Hid (∀ W, CfgOk W c → Calls Try.prog 51 #[(.agg #[.int .i64 c.cats, .slice c.g.a c.g.l.length c.g.cap, .slice c.r.a c.r.l.length c.r.cap, .slice c.p.a c.p.l.length c.p.cap, .slice c.n.a c.n.l.length c.n.cap, .slice c.s.a c.s.l.length c.s.cap, .int .i64 c.gate, .int .i64 c.quota])] W fun e w' => e = .returned (.bool true) ∧ Below W.heap.size W w') := fun W hc => by rw [← hr]; exact rright_any c _ hc)
    have NEE : Hid (∀ W, CfgOk W c → Calls Try.prog 50 #[(.agg #[.int .i64 c.cats, .slice c.g.a c.g.l.length c.g.cap, .slice c.r.a c.r.l.length c.r.cap, .slice c.p.a c.p.l.length c.p.cap, .slice c.n.a c.n.l.length c.n.cap, .slice c.s.a c.s.l.length c.s.cap, .int .i64 c.gate, .int .i64 c.quota])] W fun e w' => e = .returned (.int .i64 (needV c)) ∧ Below W.heap.size W w') := fun W hc => rneed_any c hg _ hc
    clear hr HF hg
    ((have h0 := CX.new h; go_enter Try.func17, Try.ntmps17; go_upto_region 1 with fail; generalize w.alloc (.cells #[.int .i64 c.cats, .slice c.g.a c.g.l.length c.g.cap, .slice c.r.a c.r.l.length c.r.cap, .slice c.p.a c.p.l.length c.p.cap, .slice c.n.a c.n.l.length c.n.cap, .slice c.s.a c.s.l.length c.s.cap, .int .i64 c.gate, .int .i64 c.quota] 28) = W1 at h0 ⊢; generalize w.heap.size = b0 at h0 ⊢; have H0 := Lib.hid h0; clear h0 h); have XK := H0; clear H0; (have q0 := XK.out.ob.cell 0 _ rfl; have q1 := XK.out.ob.cell 1 _ rfl; have q2 := XK.out.ob.cell 2 _ rfl; have q3 := XK.out.ob.cell 3 _ rfl; have q4 := XK.out.ob.cell 4 _ rfl; have q5 := XK.out.ob.cell 5 _ rfl; have q6 := XK.out.ob.cell 6 _ rfl; have q7 := XK.out.ob.cell 7 _ rfl))
    go_wp2_with (first | (go_at_call 51; refine (RIG.out _ XK.out.ok).mono ?_; rintro e Wc ⟨rfl, hb⟩; replace XK := Lib.hid (XK.out.below hb); clear hb; (replace q0 := XK.out.ob.cell 0 _ rfl; replace q1 := XK.out.ob.cell 1 _ rfl; replace q2 := XK.out.ob.cell 2 _ rfl; replace q3 := XK.out.ob.cell 3 _ rfl; replace q4 := XK.out.ob.cell 4 _ rfl; replace q5 := XK.out.ob.cell 5 _ rfl; replace q6 := XK.out.ob.cell 6 _ rfl; replace q7 := XK.out.ob.cell 7 _ rfl)) | (go_at_call 50; refine (NEE.out _ XK.out.ok).mono ?_; rintro e Wc ⟨rfl, hb⟩; replace XK := Lib.hid (XK.out.below hb); clear hb; (replace q0 := XK.out.ob.cell 0 _ rfl; replace q1 := XK.out.ob.cell 1 _ rfl; replace q2 := XK.out.ob.cell 2 _ rfl; replace q3 := XK.out.ob.cell 3 _ rfl; replace q4 := XK.out.ob.cell 4 _ rfl; replace q5 := XK.out.ob.cell 5 _ rfl; replace q6 := XK.out.ob.cell 6 _ rfl; replace q7 := XK.out.ob.cell 7 _ rfl)))
    (go_ret; exact ⟨rfl, XK.out.bel⟩)
theorem rbound_any (c : Cv) (w : World) (h : CfgOk w c) : Calls Try.prog 21 #[(.agg #[.int .i64 c.cats, .slice c.g.a c.g.l.length c.g.cap, .slice c.r.a c.r.l.length c.r.cap, .slice c.p.a c.p.l.length c.p.cap, .slice c.n.a c.n.l.length c.n.cap, .slice c.s.a c.s.l.length c.s.cap, .int .i64 c.gate, .int .i64 c.quota])] w fun e w' => e = .returned (.int .i64 (boundV c)) ∧ Below w.heap.size w w' := by
  have HF : Hid (boundV c = if rightV c then 1 + 4 + 16 * 520 + 4 * c.quota + 16 else 0) := rfl
  obtain ⟨x, hx⟩ : ∃ x, x = boundV c := ⟨_, rfl⟩
  rw [← hx] at HF ⊢
  clear hx
  cases hr : rightV c with
  | false =>
    obtain rfl : x = 0 := by rw [HF.out, hr]; rfl
    (have RIG : Hid (∀ W, CfgOk W c → Calls Try.prog 51 #[(.agg #[.int .i64 c.cats, .slice c.g.a c.g.l.length c.g.cap, .slice c.r.a c.r.l.length c.r.cap, .slice c.p.a c.p.l.length c.p.cap, .slice c.n.a c.n.l.length c.n.cap, .slice c.s.a c.s.l.length c.s.cap, .int .i64 c.gate, .int .i64 c.quota])] W fun e w' => e = .returned (.bool false) ∧ Below W.heap.size W w') := fun W hc => by rw [← hr]; exact rright_any c _ hc)
    clear hr HF
    ((have h0 := CX.new h; go_enter Try.func21, Try.ntmps21; go_upto_region 1 with fail; generalize w.alloc (.cells #[.int .i64 c.cats, .slice c.g.a c.g.l.length c.g.cap, .slice c.r.a c.r.l.length c.r.cap, .slice c.p.a c.p.l.length c.p.cap, .slice c.n.a c.n.l.length c.n.cap, .slice c.s.a c.s.l.length c.s.cap, .int .i64 c.gate, .int .i64 c.quota] 28) = W1 at h0 ⊢; generalize w.heap.size = b0 at h0 ⊢; have H0 := Lib.hid h0; clear h0 h); have XK := H0; clear H0; (have q0 := XK.out.ob.cell 0 _ rfl; have q1 := XK.out.ob.cell 1 _ rfl; have q2 := XK.out.ob.cell 2 _ rfl; have q3 := XK.out.ob.cell 3 _ rfl; have q4 := XK.out.ob.cell 4 _ rfl; have q5 := XK.out.ob.cell 5 _ rfl; have q6 := XK.out.ob.cell 6 _ rfl; have q7 := XK.out.ob.cell 7 _ rfl))
    go_wp2_with (go_at_call 51; refine (RIG.out _ XK.out.ok).mono ?_; rintro e Wc ⟨rfl, hb⟩; replace XK := Lib.hid (XK.out.below hb); clear hb; (replace q0 := XK.out.ob.cell 0 _ rfl; replace q1 := XK.out.ob.cell 1 _ rfl; replace q2 := XK.out.ob.cell 2 _ rfl; replace q3 := XK.out.ob.cell 3 _ rfl; replace q4 := XK.out.ob.cell 4 _ rfl; replace q5 := XK.out.ob.cell 5 _ rfl; replace q6 := XK.out.ob.cell 6 _ rfl; replace q7 := XK.out.ob.cell 7 _ rfl))
    (go_ret; exact ⟨rfl, XK.out.bel⟩)
  | true =>
    have hq := (rt_of hr).quota
    (have RIG : Hid (∀ W, CfgOk W c → Calls Try.prog 51 #[(.agg #[.int .i64 c.cats, .slice c.g.a c.g.l.length c.g.cap, .slice c.r.a c.r.l.length c.r.cap, .slice c.p.a c.p.l.length c.p.cap, .slice c.n.a c.n.l.length c.n.cap, .slice c.s.a c.s.l.length c.s.cap, .int .i64 c.gate, .int .i64 c.quota])] W fun e w' => e = .returned (.bool true) ∧ Below W.heap.size W w') := fun W hc => by rw [← hr]; exact rright_any c _ hc)
    have hx : x = 8325 + 4 * c.quota + 16 := by rw [HF.out, hr]; simp
    subst hx
    have w1 : IntKind.i64.wrap (4 * c.quota) = 4 * c.quota := by rw [IntKind.wrap_i64]; omega
    have w2 : IntKind.i64.wrap (8325 + 4 * c.quota) = 8325 + 4 * c.quota := by rw [IntKind.wrap_i64]; omega
    have w3 : IntKind.i64.wrap (8325 + 4 * c.quota + 16) = 8325 + 4 * c.quota + 16 := by rw [IntKind.wrap_i64]; omega
    clear hr HF hq
    ((have h0 := CX.new h; go_enter Try.func21, Try.ntmps21; go_upto_region 1 with fail; generalize w.alloc (.cells #[.int .i64 c.cats, .slice c.g.a c.g.l.length c.g.cap, .slice c.r.a c.r.l.length c.r.cap, .slice c.p.a c.p.l.length c.p.cap, .slice c.n.a c.n.l.length c.n.cap, .slice c.s.a c.s.l.length c.s.cap, .int .i64 c.gate, .int .i64 c.quota] 28) = W1 at h0 ⊢; generalize w.heap.size = b0 at h0 ⊢; have H0 := Lib.hid h0; clear h0 h); have XK := H0; clear H0; (have q0 := XK.out.ob.cell 0 _ rfl; have q1 := XK.out.ob.cell 1 _ rfl; have q2 := XK.out.ob.cell 2 _ rfl; have q3 := XK.out.ob.cell 3 _ rfl; have q4 := XK.out.ob.cell 4 _ rfl; have q5 := XK.out.ob.cell 5 _ rfl; have q6 := XK.out.ob.cell 6 _ rfl; have q7 := XK.out.ob.cell 7 _ rfl))
    go_wp2_with (go_at_call 51; refine (RIG.out _ XK.out.ok).mono ?_; rintro e Wc ⟨rfl, hb⟩; replace XK := Lib.hid (XK.out.below hb); clear hb; (replace q0 := XK.out.ob.cell 0 _ rfl; replace q1 := XK.out.ob.cell 1 _ rfl; replace q2 := XK.out.ob.cell 2 _ rfl; replace q3 := XK.out.ob.cell 3 _ rfl; replace q4 := XK.out.ob.cell 4 _ rfl; replace q5 := XK.out.ob.cell 5 _ rfl; replace q6 := XK.out.ob.cell 6 _ rfl; replace q7 := XK.out.ob.cell 7 _ rfl))
    (go_ret; exact ⟨rfl, XK.out.bel⟩)
theorem rringf_any (c : Cv) (g : Int) (w : World) (h : CfgOk w c) : Calls Try.prog 24 #[(.agg #[.int .i64 c.cats, .slice c.g.a c.g.l.length c.g.cap, .slice c.r.a c.r.l.length c.r.cap, .slice c.p.a c.p.l.length c.p.cap, .slice c.n.a c.n.l.length c.n.cap, .slice c.s.a c.s.l.length c.s.cap, .int .i64 c.gate, .int .i64 c.quota]), .int .i64 g] w fun e w' => e = .returned (.int .i64 (ringfV c g)) ∧ Below w.heap.size w w' := by
  have HF : Hid (ringfV c g = if rightV c && (decide (0 ≤ g) && decide (g < c.n.l.length)) then sumG c.g.l + g else -1) := rfl
  obtain ⟨x, hx⟩ : ∃ x, x = ringfV c g := ⟨_, rfl⟩
  rw [← hx] at HF ⊢
  clear hx
  cases hr : rightV c with
  | false =>
    obtain rfl : x = -1 := by rw [HF.out, hr]; rfl
    (have RIG : Hid (∀ W, CfgOk W c → Calls Try.prog 51 #[(.agg #[.int .i64 c.cats, .slice c.g.a c.g.l.length c.g.cap, .slice c.r.a c.r.l.length c.r.cap, .slice c.p.a c.p.l.length c.p.cap, .slice c.n.a c.n.l.length c.n.cap, .slice c.s.a c.s.l.length c.s.cap, .int .i64 c.gate, .int .i64 c.quota])] W fun e w' => e = .returned (.bool false) ∧ Below W.heap.size W w') := fun W hc => by rw [← hr]; exact rright_any c _ hc)
    clear hr HF
    ((have h0 := CX.new h; go_enter Try.func24, Try.ntmps24; go_upto_region 1 with fail; generalize w.alloc (.cells #[.int .i64 c.cats, .slice c.g.a c.g.l.length c.g.cap, .slice c.r.a c.r.l.length c.r.cap, .slice c.p.a c.p.l.length c.p.cap, .slice c.n.a c.n.l.length c.n.cap, .slice c.s.a c.s.l.length c.s.cap, .int .i64 c.gate, .int .i64 c.quota] 28) = W1 at h0 ⊢; generalize w.heap.size = b0 at h0 ⊢; have H0 := Lib.hid h0; clear h0 h); have XK := H0; clear H0; (have q0 := XK.out.ob.cell 0 _ rfl; have q1 := XK.out.ob.cell 1 _ rfl; have q2 := XK.out.ob.cell 2 _ rfl; have q3 := XK.out.ob.cell 3 _ rfl; have q4 := XK.out.ob.cell 4 _ rfl; have q5 := XK.out.ob.cell 5 _ rfl; have q6 := XK.out.ob.cell 6 _ rfl; have q7 := XK.out.ob.cell 7 _ rfl))
    go_wp2_with (go_at_call 51; refine (RIG.out _ XK.out.ok).mono ?_; rintro e Wc ⟨rfl, hb⟩; replace XK := Lib.hid (XK.out.below hb); clear hb; (replace q0 := XK.out.ob.cell 0 _ rfl; replace q1 := XK.out.ob.cell 1 _ rfl; replace q2 := XK.out.ob.cell 2 _ rfl; replace q3 := XK.out.ob.cell 3 _ rfl; replace q4 := XK.out.ob.cell 4 _ rfl; replace q5 := XK.out.ob.cell 5 _ rfl; replace q6 := XK.out.ob.cell 6 _ rfl; replace q7 := XK.out.ob.cell 7 _ rfl))
    (go_ret; exact ⟨rfl, XK.out.bel⟩)
  | true =>
    have hrt := rt_of hr
    (have RIG : Hid (∀ W, CfgOk W c → Calls Try.prog 51 #[(.agg #[.int .i64 c.cats, .slice c.g.a c.g.l.length c.g.cap, .slice c.r.a c.r.l.length c.r.cap, .slice c.p.a c.p.l.length c.p.cap, .slice c.n.a c.n.l.length c.n.cap, .slice c.s.a c.s.l.length c.s.cap, .int .i64 c.gate, .int .i64 c.quota])] W fun e w' => e = .returned (.bool true) ∧ Below W.heap.size W w') := fun W hc => by rw [← hr]; exact rright_any c _ hc)
    by_cases h1 : g < 0
    · have d1 : decide (g < 0) = true := by simp [h1]
      obtain rfl : x = -1 := by rw [HF.out, if_neg (by simp; omega)]
      clear hr HF hrt h1
      ((have h0 := CX.new h; go_enter Try.func24, Try.ntmps24; go_upto_region 1 with fail; generalize w.alloc (.cells #[.int .i64 c.cats, .slice c.g.a c.g.l.length c.g.cap, .slice c.r.a c.r.l.length c.r.cap, .slice c.p.a c.p.l.length c.p.cap, .slice c.n.a c.n.l.length c.n.cap, .slice c.s.a c.s.l.length c.s.cap, .int .i64 c.gate, .int .i64 c.quota] 28) = W1 at h0 ⊢; generalize w.heap.size = b0 at h0 ⊢; have H0 := Lib.hid h0; clear h0 h); have XK := H0; clear H0; (have q0 := XK.out.ob.cell 0 _ rfl; have q1 := XK.out.ob.cell 1 _ rfl; have q2 := XK.out.ob.cell 2 _ rfl; have q3 := XK.out.ob.cell 3 _ rfl; have q4 := XK.out.ob.cell 4 _ rfl; have q5 := XK.out.ob.cell 5 _ rfl; have q6 := XK.out.ob.cell 6 _ rfl; have q7 := XK.out.ob.cell 7 _ rfl))
      go_wp2_with (go_at_call 51; refine (RIG.out _ XK.out.ok).mono ?_; rintro e Wc ⟨rfl, hb⟩; replace XK := Lib.hid (XK.out.below hb); clear hb; (replace q0 := XK.out.ob.cell 0 _ rfl; replace q1 := XK.out.ob.cell 1 _ rfl; replace q2 := XK.out.ob.cell 2 _ rfl; replace q3 := XK.out.ob.cell 3 _ rfl; replace q4 := XK.out.ob.cell 4 _ rfl; replace q5 := XK.out.ob.cell 5 _ rfl; replace q6 := XK.out.ob.cell 6 _ rfl; replace q7 := XK.out.ob.cell 7 _ rfl))
      (go_ret; exact ⟨rfl, XK.out.bel⟩)
    · have d1 : decide (g < 0) = false := by simp; omega
      by_cases h2 : (c.n.l.length : Int) ≤ g
      · have d2 : decide (g ≥ (c.n.l.length : Int)) = true := by simp [h2]
        obtain rfl : x = -1 := by rw [HF.out, if_neg (by simp; omega)]
        clear hr HF hrt h1 h2
        ((have h0 := CX.new h; go_enter Try.func24, Try.ntmps24; go_upto_region 1 with fail; generalize w.alloc (.cells #[.int .i64 c.cats, .slice c.g.a c.g.l.length c.g.cap, .slice c.r.a c.r.l.length c.r.cap, .slice c.p.a c.p.l.length c.p.cap, .slice c.n.a c.n.l.length c.n.cap, .slice c.s.a c.s.l.length c.s.cap, .int .i64 c.gate, .int .i64 c.quota] 28) = W1 at h0 ⊢; generalize w.heap.size = b0 at h0 ⊢; have H0 := Lib.hid h0; clear h0 h); have XK := H0; clear H0; (have q0 := XK.out.ob.cell 0 _ rfl; have q1 := XK.out.ob.cell 1 _ rfl; have q2 := XK.out.ob.cell 2 _ rfl; have q3 := XK.out.ob.cell 3 _ rfl; have q4 := XK.out.ob.cell 4 _ rfl; have q5 := XK.out.ob.cell 5 _ rfl; have q6 := XK.out.ob.cell 6 _ rfl; have q7 := XK.out.ob.cell 7 _ rfl))
        go_wp2_with (go_at_call 51; refine (RIG.out _ XK.out.ok).mono ?_; rintro e Wc ⟨rfl, hb⟩; replace XK := Lib.hid (XK.out.below hb); clear hb; (replace q0 := XK.out.ob.cell 0 _ rfl; replace q1 := XK.out.ob.cell 1 _ rfl; replace q2 := XK.out.ob.cell 2 _ rfl; replace q3 := XK.out.ob.cell 3 _ rfl; replace q4 := XK.out.ob.cell 4 _ rfl; replace q5 := XK.out.ob.cell 5 _ rfl; replace q6 := XK.out.ob.cell 6 _ rfl; replace q7 := XK.out.ob.cell 7 _ rfl))
        (go_ret; exact ⟨rfl, XK.out.bel⟩)
      · have d2 : decide (g ≥ (c.n.l.length : Int)) = false := by simp; omega
        have hx : x = needV c - c.n.l.length + g := by rw [HF.out, if_pos (by simp [hr]; omega), needV]; omega
        have hgk := hrt.gok
        have hw : IntKind.i64.wrap (needV c - c.n.l.length) = needV c - c.n.l.length := by
          have := sumG_bound c.g.l hrt.gok.row; have := hrt.gok.g; have := hrt.gok.n
          rw [IntKind.wrap_i64, needV]; omega
        have hw2 : IntKind.i64.wrap (needV c - c.n.l.length + g) = needV c - c.n.l.length + g := by
          have := sumG_bound c.g.l hrt.gok.row; have := hrt.gok.g; have := hrt.gok.n
          rw [IntKind.wrap_i64, needV]; omega
        subst hx
        clear hr HF hrt h1 h2
        ((have h0 := CX.new h; go_enter Try.func24, Try.ntmps24; go_upto_region 1 with fail; generalize w.alloc (.cells #[.int .i64 c.cats, .slice c.g.a c.g.l.length c.g.cap, .slice c.r.a c.r.l.length c.r.cap, .slice c.p.a c.p.l.length c.p.cap, .slice c.n.a c.n.l.length c.n.cap, .slice c.s.a c.s.l.length c.s.cap, .int .i64 c.gate, .int .i64 c.quota] 28) = W1 at h0 ⊢; generalize w.heap.size = b0 at h0 ⊢; have H0 := Lib.hid h0; clear h0 h); have XK := H0; clear H0; (have q0 := XK.out.ob.cell 0 _ rfl; have q1 := XK.out.ob.cell 1 _ rfl; have q2 := XK.out.ob.cell 2 _ rfl; have q3 := XK.out.ob.cell 3 _ rfl; have q4 := XK.out.ob.cell 4 _ rfl; have q5 := XK.out.ob.cell 5 _ rfl; have q6 := XK.out.ob.cell 6 _ rfl; have q7 := XK.out.ob.cell 7 _ rfl))
        go_upto_region 3 with (go_at_call 51; refine (RIG.out _ XK.out.ok).mono ?_; rintro e Wc ⟨rfl, hb⟩; replace XK := Lib.hid (XK.out.below hb); clear hb; (replace q0 := XK.out.ob.cell 0 _ rfl; replace q1 := XK.out.ob.cell 1 _ rfl; replace q2 := XK.out.ob.cell 2 _ rfl; replace q3 := XK.out.ob.cell 3 _ rfl; replace q4 := XK.out.ob.cell 4 _ rfl; replace q5 := XK.out.ob.cell 5 _ rfl; replace q6 := XK.out.ob.cell 6 _ rfl; replace q7 := XK.out.ob.cell 7 _ rfl))
        have NEE : Hid (∀ d os, Calls Try.prog 50 #[(.agg #[.int .i64 c.cats, .slice c.g.a c.g.l.length c.g.cap, .slice c.r.a c.r.l.length c.r.cap, .slice c.p.a c.p.l.length c.p.cap, .slice c.n.a c.n.l.length c.n.cap, .slice c.s.a c.s.l.length c.s.cap, .int .i64 c.gate, .int .i64 c.quota])] (grow (redrawn Wc d) os) fun e w'' => e = .returned (.int .i64 (needV c)) ∧ ∃ p : Regrown, w'' = grow (redrawn Wc p.d) p.os) := fun d os => Calls.regrown_of (rneed_any c hgk _ (XK.out.ok.below (below_regrown Wc d os)))
        clear q0 q1 q2 q3 q4 q5 q6 q7
        (have q0 := cell_regrown (XK.out.ob.cell 0 _ rfl); have q1 := cell_regrown (XK.out.ob.cell 1 _ rfl); have q2 := cell_regrown (XK.out.ob.cell 2 _ rfl); have q3 := cell_regrown (XK.out.ob.cell 3 _ rfl); have q4 := cell_regrown (XK.out.ob.cell 4 _ rfl); have q5 := cell_regrown (XK.out.ob.cell 5 _ rfl); have q6 := cell_regrown (XK.out.ob.cell 6 _ rfl); have q7 := cell_regrown (XK.out.ob.cell 7 _ rfl))
        refine wp_region_quiet_below (by kernel_rfl) (by kernel_rfl) ?_; (repeat (go_big_quiet_step ((go_at_call 50; exact NEE.out _ _)))); refine wpQuiet_nil ?_; intro _ hw'; obtain ⟨⟨dq, osq⟩, hw''⟩ := hw'; subst hw''; have hbq := below_regrown Wc dq osq; generalize grow (redrawn Wc dq) osq = wq at *
        go_wp2_with fail
        go_ret
        exact ⟨rfl, XK.out.bel.trans (hbq.mono XK.out.bel.size)⟩
theorem rperiod_any (c : Cv) (w : World) (h : CfgOk w c) : Calls Try.prog 19 #[(.agg #[.int .i64 c.cats, .slice c.g.a c.g.l.length c.g.cap, .slice c.r.a c.r.l.length c.r.cap, .slice c.p.a c.p.l.length c.p.cap, .slice c.n.a c.n.l.length c.n.cap, .slice c.s.a c.s.l.length c.s.cap, .int .i64 c.gate, .int .i64 c.quota])] w fun e w' => e = .returned (.int .i64 (periodV c)) ∧ Below w.heap.size w w' := by
  have HF : Hid (periodV c = if rightV c then sumB c.s.l else 0) := rfl
  obtain ⟨x, hx⟩ : ∃ x, x = periodV c := ⟨_, rfl⟩
  rw [← hx] at HF ⊢
  clear hx
  cases hr : rightV c with
  | false =>
    obtain rfl : x = 0 := by rw [HF.out, hr]; rfl
    (have RIG : Hid (∀ W, CfgOk W c → Calls Try.prog 51 #[(.agg #[.int .i64 c.cats, .slice c.g.a c.g.l.length c.g.cap, .slice c.r.a c.r.l.length c.r.cap, .slice c.p.a c.p.l.length c.p.cap, .slice c.n.a c.n.l.length c.n.cap, .slice c.s.a c.s.l.length c.s.cap, .int .i64 c.gate, .int .i64 c.quota])] W fun e w' => e = .returned (.bool false) ∧ Below W.heap.size W w') := fun W hc => by rw [← hr]; exact rright_any c _ hc)
    clear hr HF
    ((have h0 := CX.new h; go_enter Try.func19, Try.ntmps19; go_upto_region 1 with fail; generalize w.alloc (.cells #[.int .i64 c.cats, .slice c.g.a c.g.l.length c.g.cap, .slice c.r.a c.r.l.length c.r.cap, .slice c.p.a c.p.l.length c.p.cap, .slice c.n.a c.n.l.length c.n.cap, .slice c.s.a c.s.l.length c.s.cap, .int .i64 c.gate, .int .i64 c.quota] 28) = W1 at h0 ⊢; generalize w.heap.size = b0 at h0 ⊢; have H0 := Lib.hid h0; clear h0 h); have XK := H0; clear H0; (have q0 := XK.out.ob.cell 0 _ rfl; have q1 := XK.out.ob.cell 1 _ rfl; have q2 := XK.out.ob.cell 2 _ rfl; have q3 := XK.out.ob.cell 3 _ rfl; have q4 := XK.out.ob.cell 4 _ rfl; have q5 := XK.out.ob.cell 5 _ rfl; have q6 := XK.out.ob.cell 6 _ rfl; have q7 := XK.out.ob.cell 7 _ rfl))
    go_wp2_with (go_at_call 51; refine (RIG.out _ XK.out.ok).mono ?_; rintro e Wc ⟨rfl, hb⟩; replace XK := Lib.hid (XK.out.below hb); clear hb; (replace q0 := XK.out.ob.cell 0 _ rfl; replace q1 := XK.out.ob.cell 1 _ rfl; replace q2 := XK.out.ob.cell 2 _ rfl; replace q3 := XK.out.ob.cell 3 _ rfl; replace q4 := XK.out.ob.cell 4 _ rfl; replace q5 := XK.out.ob.cell 5 _ rfl; replace q6 := XK.out.ob.cell 6 _ rfl; replace q7 := XK.out.ob.cell 7 _ rfl))
    (go_ret; exact ⟨rfl, XK.out.bel⟩)
  | true =>
    have hrt := rt_of hr
    (have RIG : Hid (∀ W, CfgOk W c → Calls Try.prog 51 #[(.agg #[.int .i64 c.cats, .slice c.g.a c.g.l.length c.g.cap, .slice c.r.a c.r.l.length c.r.cap, .slice c.p.a c.p.l.length c.p.cap, .slice c.n.a c.n.l.length c.n.cap, .slice c.s.a c.s.l.length c.s.cap, .int .i64 c.gate, .int .i64 c.quota])] W fun e w' => e = .returned (.bool true) ∧ Below W.heap.size W w') := fun W hc => by rw [← hr]; exact rright_any c _ hc)
    have hx : x = sumB c.s.l := by rw [HF.out, hr]; rfl
    subst hx
    have SR := Lib.hid (slot_row hrt)
    have sl8 := hrt.sl.2.1
    clear hr HF hrt
    ((have h0 := CX.new h; go_enter Try.func19, Try.ntmps19; go_upto_region 1 with fail; generalize w.alloc (.cells #[.int .i64 c.cats, .slice c.g.a c.g.l.length c.g.cap, .slice c.r.a c.r.l.length c.r.cap, .slice c.p.a c.p.l.length c.p.cap, .slice c.n.a c.n.l.length c.n.cap, .slice c.s.a c.s.l.length c.s.cap, .int .i64 c.gate, .int .i64 c.quota] 28) = W1 at h0 ⊢; generalize w.heap.size = b0 at h0 ⊢; have H0 := Lib.hid h0; clear h0 h); have XK := H0; clear H0; (have q0 := XK.out.ob.cell 0 _ rfl; have q1 := XK.out.ob.cell 1 _ rfl; have q2 := XK.out.ob.cell 2 _ rfl; have q3 := XK.out.ob.cell 3 _ rfl; have q4 := XK.out.ob.cell 4 _ rfl; have q5 := XK.out.ob.cell 5 _ rfl; have q6 := XK.out.ob.cell 6 _ rfl; have q7 := XK.out.ob.cell 7 _ rfl))
    go_upto_region 5 with (go_at_call 51; refine (RIG.out _ XK.out.ok).mono ?_; rintro e Wc ⟨rfl, hb⟩; replace XK := Lib.hid (XK.out.below hb); clear hb; (replace q0 := XK.out.ob.cell 0 _ rfl; replace q1 := XK.out.ob.cell 1 _ rfl; replace q2 := XK.out.ob.cell 2 _ rfl; replace q3 := XK.out.ob.cell 3 _ rfl; replace q4 := XK.out.ob.cell 4 _ rfl; replace q5 := XK.out.ob.cell 5 _ rfl; replace q6 := XK.out.ob.cell 6 _ rfl; replace q7 := XK.out.ob.cell 7 _ rfl))
    clear q0 q1 q2 q3 q4 q5 q6 q7
    go_loopw [3, 4] (fun g3 g12 wr => ∃ k : Nat, k ≤ c.s.l.length ∧ g12 = .int .i64 k ∧ g3 = .int .i64 (sumB (c.s.l.take k)) ∧ CX w wr b0 c) (fun _ g12 _ => c.s.l.length - (intOf g12).toNat)
    case atStart => exact ⟨0, by omega, rfl, by simp [sumB], XK.out⟩
    case round =>
      clear XK
      obtain ⟨k, hk, rfl, rfl, hb⟩ := hrel
      have XK := Lib.hid hb
      clear hb
      (have q0 := XK.out.ob.cell 0 _ rfl; have q1 := XK.out.ob.cell 1 _ rfl; have q2 := XK.out.ob.cell 2 _ rfl; have q3 := XK.out.ob.cell 3 _ rfl; have q4 := XK.out.ob.cell 4 _ rfl; have q5 := XK.out.ob.cell 5 _ rfl; have q6 := XK.out.ob.cell 6 _ rfl; have q7 := XK.out.ob.cell 7 _ rfl)
      obtain ⟨sk, hsk⟩ : ∃ x, x = sumB (c.s.l.take k) := ⟨_, rfl⟩
      rw [← hsk]
      have HS := Lib.hid hsk
      by_cases hkl : k < c.s.l.length
      · have d1 : decide ((k : Int) < (c.s.l.length : Int)) = true := by simp; omega
        have kz : (0 : Int) ≤ (k : Int) := by omega
        have kl : (k : Int) < (c.s.l.length : Int) := by omega
        have w1 : IntKind.i64.wrap ((k : Int) + 1) = (k : Int) + 1 := by rw [IntKind.wrap_i64]; omega
        obtain ⟨bx, ox, hax, hcx⟩ := XK.out.ok.s.cells (by omega) k hkl
        obtain ⟨y, z, hrow⟩ := row2 hkl XK.out.ok.s.len
        have hgr := SR.out _ (List.getElem_mem hkl)
        have hst := sumB_take c.s.l k hkl
        have hsb := sumB_bound (c.s.l.take k) (fun r hr => SR.out r (List.mem_of_mem_take hr))
        rw [List.length_take] at hsb
        rw [hrow] at hcx hgr hst
        simp only [List.getD_cons_succ, List.getD_cons_zero] at hgr hst
        have HST := Lib.hid hst
        have c1 := hcx _ (Below.refl _ _) 1 _ rfl
        have w3 : IntKind.i64.wrap (sk + z) = sk + z := by rw [IntKind.wrap_i64]; omega
        rw [hax] at q5
        clear hcx hrow hgr hst hsb hsk hax
        go_wp2_with fail
        go_roundw
        case rel => exact ⟨k + 1, by omega, by go_num, by rw [HST.out, HS.out], XK.out⟩
        case measure => simp [intOf]; omega
      · have d1 : decide ((k : Int) < (c.s.l.length : Int)) = false := by simp; omega
        go_wp2_with fail
        go_ret
        have hkk : k = c.s.l.length := by omega
        refine ⟨?_, XK.out.bel⟩
        rw [HS.out, hkk, List.take_length]; rfl
theorem rfirst_any (c : Cv) (g : Int) (w : World) (h : CfgOk w c) : Calls Try.prog 23 #[(.agg #[.int .i64 c.cats, .slice c.g.a c.g.l.length c.g.cap, .slice c.r.a c.r.l.length c.r.cap, .slice c.p.a c.p.l.length c.p.cap, .slice c.n.a c.n.l.length c.n.cap, .slice c.s.a c.s.l.length c.s.cap, .int .i64 c.gate, .int .i64 c.quota]), .int .i64 g] w fun e w' => e = .returned (.int .i64 (firstV c g)) ∧ Below w.heap.size w w' := by
  have HF : Hid (firstV c g = if rightV c && isG c g then sumG (c.g.l.take g.toNat) else -1) := rfl
  obtain ⟨x, hx⟩ : ∃ x, x = firstV c g := ⟨_, rfl⟩
  rw [← hx] at HF ⊢
  clear hx
  cases hr : rightV c with
  | false =>
    obtain rfl : x = -1 := by rw [HF.out, hr]; rfl
    (have RIG : Hid (∀ W, CfgOk W c → Calls Try.prog 51 #[(.agg #[.int .i64 c.cats, .slice c.g.a c.g.l.length c.g.cap, .slice c.r.a c.r.l.length c.r.cap, .slice c.p.a c.p.l.length c.p.cap, .slice c.n.a c.n.l.length c.n.cap, .slice c.s.a c.s.l.length c.s.cap, .int .i64 c.gate, .int .i64 c.quota])] W fun e w' => e = .returned (.bool false) ∧ Below W.heap.size W w') := fun W hc => by rw [← hr]; exact rright_any c _ hc)
    clear hr HF
    ((have h0 := CX.new h; go_enter Try.func23, Try.ntmps23; go_upto_region 1 with fail; generalize w.alloc (.cells #[.int .i64 c.cats, .slice c.g.a c.g.l.length c.g.cap, .slice c.r.a c.r.l.length c.r.cap, .slice c.p.a c.p.l.length c.p.cap, .slice c.n.a c.n.l.length c.n.cap, .slice c.s.a c.s.l.length c.s.cap, .int .i64 c.gate, .int .i64 c.quota] 28) = W1 at h0 ⊢; generalize w.heap.size = b0 at h0 ⊢; have H0 := Lib.hid h0; clear h0 h); have XK := H0; clear H0; (have q0 := XK.out.ob.cell 0 _ rfl; have q1 := XK.out.ob.cell 1 _ rfl; have q2 := XK.out.ob.cell 2 _ rfl; have q3 := XK.out.ob.cell 3 _ rfl; have q4 := XK.out.ob.cell 4 _ rfl; have q5 := XK.out.ob.cell 5 _ rfl; have q6 := XK.out.ob.cell 6 _ rfl; have q7 := XK.out.ob.cell 7 _ rfl))
    go_wp2_with (go_at_call 51; refine (RIG.out _ XK.out.ok).mono ?_; rintro e Wc ⟨rfl, hb⟩; replace XK := Lib.hid (XK.out.below hb); clear hb; (replace q0 := XK.out.ob.cell 0 _ rfl; replace q1 := XK.out.ob.cell 1 _ rfl; replace q2 := XK.out.ob.cell 2 _ rfl; replace q3 := XK.out.ob.cell 3 _ rfl; replace q4 := XK.out.ob.cell 4 _ rfl; replace q5 := XK.out.ob.cell 5 _ rfl; replace q6 := XK.out.ob.cell 6 _ rfl; replace q7 := XK.out.ob.cell 7 _ rfl))
    (go_ret; exact ⟨rfl, XK.out.bel⟩)
  | true =>
    have hrt := rt_of hr
    (have RIG : Hid (∀ W, CfgOk W c → Calls Try.prog 51 #[(.agg #[.int .i64 c.cats, .slice c.g.a c.g.l.length c.g.cap, .slice c.r.a c.r.l.length c.r.cap, .slice c.p.a c.p.l.length c.p.cap, .slice c.n.a c.n.l.length c.n.cap, .slice c.s.a c.s.l.length c.s.cap, .int .i64 c.gate, .int .i64 c.quota])] W fun e w' => e = .returned (.bool true) ∧ Below W.heap.size W w') := fun W hc => by rw [← hr]; exact rright_any c _ hc)
    obtain ⟨vg, hvg⟩ : ∃ v, v = isG c g := ⟨_, rfl⟩
    have GUE : Hid (∀ W, CfgOk W c → Calls Try.prog 49 #[(.agg #[.int .i64 c.cats, .slice c.g.a c.g.l.length c.g.cap, .slice c.r.a c.r.l.length c.r.cap, .slice c.p.a c.p.l.length c.p.cap, .slice c.n.a c.n.l.length c.n.cap, .slice c.s.a c.s.l.length c.s.cap, .int .i64 c.gate, .int .i64 c.quota]), .int .i64 g] W fun e w' => e = .returned (.bool vg) ∧ Below W.heap.size W w') := fun W h => by rw [hvg]; exact isGuest_any _ _ _ h
    cases vg with
    | false =>
      obtain rfl : x = -1 := by rw [HF.out, ← hvg]; simp
      clear hr HF hrt hvg
      ((have h0 := CX.new h; go_enter Try.func23, Try.ntmps23; go_upto_region 1 with fail; generalize w.alloc (.cells #[.int .i64 c.cats, .slice c.g.a c.g.l.length c.g.cap, .slice c.r.a c.r.l.length c.r.cap, .slice c.p.a c.p.l.length c.p.cap, .slice c.n.a c.n.l.length c.n.cap, .slice c.s.a c.s.l.length c.s.cap, .int .i64 c.gate, .int .i64 c.quota] 28) = W1 at h0 ⊢; generalize w.heap.size = b0 at h0 ⊢; have H0 := Lib.hid h0; clear h0 h); have XK := H0; clear H0; (have q0 := XK.out.ob.cell 0 _ rfl; have q1 := XK.out.ob.cell 1 _ rfl; have q2 := XK.out.ob.cell 2 _ rfl; have q3 := XK.out.ob.cell 3 _ rfl; have q4 := XK.out.ob.cell 4 _ rfl; have q5 := XK.out.ob.cell 5 _ rfl; have q6 := XK.out.ob.cell 6 _ rfl; have q7 := XK.out.ob.cell 7 _ rfl))
      go_wp2_with (first | (go_at_call 51; refine (RIG.out _ XK.out.ok).mono ?_; rintro e Wc ⟨rfl, hb⟩; replace XK := Lib.hid (XK.out.below hb); clear hb; (replace q0 := XK.out.ob.cell 0 _ rfl; replace q1 := XK.out.ob.cell 1 _ rfl; replace q2 := XK.out.ob.cell 2 _ rfl; replace q3 := XK.out.ob.cell 3 _ rfl; replace q4 := XK.out.ob.cell 4 _ rfl; replace q5 := XK.out.ob.cell 5 _ rfl; replace q6 := XK.out.ob.cell 6 _ rfl; replace q7 := XK.out.ob.cell 7 _ rfl)) | (go_at_call 49; refine (GUE.out _ XK.out.ok).mono ?_; rintro e Wc ⟨rfl, hb⟩; replace XK := Lib.hid (XK.out.below hb); clear hb; (replace q0 := XK.out.ob.cell 0 _ rfl; replace q1 := XK.out.ob.cell 1 _ rfl; replace q2 := XK.out.ob.cell 2 _ rfl; replace q3 := XK.out.ob.cell 3 _ rfl; replace q4 := XK.out.ob.cell 4 _ rfl; replace q5 := XK.out.ob.cell 5 _ rfl; replace q6 := XK.out.ob.cell 6 _ rfl; replace q7 := XK.out.ob.cell 7 _ rfl)))
      (go_ret; exact ⟨rfl, XK.out.bel⟩)
    | true =>
      have hi := (isG_iff c g).1 hvg.symm
      obtain ⟨n, rfl⟩ : ∃ n : Nat, g = n := ⟨g.toNat, by omega⟩
      have hx : x = sumG (c.g.l.take n) := by rw [HF.out, ← hvg, hr]; rfl
      subst hx
      have HG := Lib.hid hrt.gok
      have hn : n < c.g.l.length := by omega
      clear hr HF hrt hvg hi
      ((have h0 := CX.new h; go_enter Try.func23, Try.ntmps23; go_upto_region 1 with fail; generalize w.alloc (.cells #[.int .i64 c.cats, .slice c.g.a c.g.l.length c.g.cap, .slice c.r.a c.r.l.length c.r.cap, .slice c.p.a c.p.l.length c.p.cap, .slice c.n.a c.n.l.length c.n.cap, .slice c.s.a c.s.l.length c.s.cap, .int .i64 c.gate, .int .i64 c.quota] 28) = W1 at h0 ⊢; generalize w.heap.size = b0 at h0 ⊢; have H0 := Lib.hid h0; clear h0 h); have XK := H0; clear H0; (have q0 := XK.out.ob.cell 0 _ rfl; have q1 := XK.out.ob.cell 1 _ rfl; have q2 := XK.out.ob.cell 2 _ rfl; have q3 := XK.out.ob.cell 3 _ rfl; have q4 := XK.out.ob.cell 4 _ rfl; have q5 := XK.out.ob.cell 5 _ rfl; have q6 := XK.out.ob.cell 6 _ rfl; have q7 := XK.out.ob.cell 7 _ rfl))
      go_upto_region 5 with (first | (go_at_call 51; refine (RIG.out _ XK.out.ok).mono ?_; rintro e Wc ⟨rfl, hb⟩; replace XK := Lib.hid (XK.out.below hb); clear hb; (replace q0 := XK.out.ob.cell 0 _ rfl; replace q1 := XK.out.ob.cell 1 _ rfl; replace q2 := XK.out.ob.cell 2 _ rfl; replace q3 := XK.out.ob.cell 3 _ rfl; replace q4 := XK.out.ob.cell 4 _ rfl; replace q5 := XK.out.ob.cell 5 _ rfl; replace q6 := XK.out.ob.cell 6 _ rfl; replace q7 := XK.out.ob.cell 7 _ rfl)) | (go_at_call 49; refine (GUE.out _ XK.out.ok).mono ?_; rintro e Wc ⟨rfl, hb⟩; replace XK := Lib.hid (XK.out.below hb); clear hb; (replace q0 := XK.out.ob.cell 0 _ rfl; replace q1 := XK.out.ob.cell 1 _ rfl; replace q2 := XK.out.ob.cell 2 _ rfl; replace q3 := XK.out.ob.cell 3 _ rfl; replace q4 := XK.out.ob.cell 4 _ rfl; replace q5 := XK.out.ob.cell 5 _ rfl; replace q6 := XK.out.ob.cell 6 _ rfl; replace q7 := XK.out.ob.cell 7 _ rfl)))
      clear q0 q1 q2 q3 q4 q5 q6 q7
      go_loopw [5, 6] (fun g3 g12 wr => ∃ k : Nat, k ≤ n ∧ g12 = .int .i64 k ∧ g3 = .int .i64 (sumG (c.g.l.take k)) ∧ CX w wr b0 c) (fun _ g12 _ => n - (intOf g12).toNat)
      case atStart => exact ⟨0, by omega, rfl, by simp [sumG], XK.out⟩
      case round =>
        clear XK
        obtain ⟨k, hk, rfl, rfl, hxk⟩ := hrel
        have XK := Lib.hid hxk
        clear hxk
        (have q0 := XK.out.ob.cell 0 _ rfl; have q1 := XK.out.ob.cell 1 _ rfl; have q2 := XK.out.ob.cell 2 _ rfl; have q3 := XK.out.ob.cell 3 _ rfl; have q4 := XK.out.ob.cell 4 _ rfl; have q5 := XK.out.ob.cell 5 _ rfl; have q6 := XK.out.ob.cell 6 _ rfl; have q7 := XK.out.ob.cell 7 _ rfl)
        obtain ⟨sk, hsk⟩ : ∃ x, x = sumG (c.g.l.take k) := ⟨_, rfl⟩
        rw [← hsk]
        have HS := Lib.hid hsk
        by_cases hkn : k < n
        · have hkl : k < c.g.l.length := by omega
          have d1 : decide ((k : Int) < (n : Int)) = true := by simp; omega
          have kz : (0 : Int) ≤ (k : Int) := by omega
          have kl : (k : Int) < (c.g.l.length : Int) := by omega
          have w1 : IntKind.i64.wrap ((k : Int) + 1) = (k : Int) + 1 := by have := HG.out.g; rw [IntKind.wrap_i64]; omega
          obtain ⟨bx, ox, hax, hcx⟩ := XK.out.ok.g.cells (by omega) k hkl
          obtain ⟨x, y, z, hrow⟩ := row3 hkl XK.out.ok.g.len
          have hgr := HG.out.row _ (List.getElem_mem hkl)
          have hst := sumG_take c.g.l k hkl
          have hsb := sumG_takeb c.g.l HG.out.row k (by omega)
          rw [hrow] at hcx hgr hst
          simp only [GRow, List.getD_cons_succ, List.getD_cons_zero] at hgr hst
          have HST := Lib.hid hst
          have c1 := hcx _ (Below.refl _ _) 1 _ rfl; have c2 := hcx _ (Below.refl _ _) 2 _ rfl
          have hgl := HG.out.g
          have w2 : IntKind.i64.wrap (sk + y) = sk + y := by rw [IntKind.wrap_i64]; omega
          have w3 : IntKind.i64.wrap (sk + y + z) = sk + y + z := by rw [IntKind.wrap_i64]; omega
          rw [hax] at q1
          clear hcx hrow hgr hst hsb hsk hgl hax
          go_upto_region 7 with fail
          go_quiet (fail)
          go_wp2_with fail
          go_roundw
          case rel => exact ⟨k + 1, by omega, by go_num, by rw [HST.out, HS.out]; congr 1; omega, XK.out.below (below_drewN (Below.refl _ _) _)⟩
          case measure => simp [intOf]; omega
        · have d1 : decide ((k : Int) < (n : Int)) = false := by simp; omega
          go_wp2_with fail
          go_ret
          have hkk : k = n := by omega
          refine ⟨?_, XK.out.bel⟩
          rw [HS.out, hkk]; rfl
end Go.Proofs.Ytmchaaelpbifgaa
