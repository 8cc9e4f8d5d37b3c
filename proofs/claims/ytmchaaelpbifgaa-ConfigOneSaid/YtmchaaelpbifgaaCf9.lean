/- Chapter 4: First, RingFrame, PortOf, RangeOf, Period, Bound. -/
import Derived.Test.YtmchaaelpbifgaaCf8
namespace Go.Proofs.Ytmchaaelpbifgaa
set_option linter.unusedVariables false
set_option linter.unusedSimpArgs false
set_option linter.unnecessarySimpa false
open Go.RowKit
set_option maxHeartbeats 4000000
set_option maxRecDepth 100000
set_option linter.unusedVariables false
variable {W W' w : World} {c : Cv} {b N : Nat} {s : Sl}
def firstV (c : Cv) (g : Int) : Int := if rightV c && isG c g then sumG (c.g.l.take g.toNat) else -1
theorem first_any (c : Cv) (g : Int) (w : World) (h : CfgOk w c) : Calls Try.prog 13 #[(.agg #[.int .i64 c.cats, .slice c.g.a c.g.l.length c.g.cap, .slice c.r.a c.r.l.length c.r.cap, .slice c.p.a c.p.l.length c.p.cap, .slice c.n.a c.n.l.length c.n.cap, .slice c.s.a c.s.l.length c.s.cap, .int .i64 c.gate, .int .i64 c.quota]), .int .i64 g] w fun e w' => e = .returned (.int .i64 (firstV c g)) ∧ Below w.heap.size w w' := by
  have HF : Hid (firstV c g = if rightV c && isG c g then sumG (c.g.l.take g.toNat) else -1) := rfl
  obtain ⟨x, hx⟩ : ∃ x, x = firstV c g := ⟨_, rfl⟩
  rw [← hx] at HF ⊢
  clear hx
  cases hr : rightV c with
  | false =>
    obtain rfl : x = -1 := by rw [HF.out, hr]; rfl
    (have RIG : Hid (∀ W, CfgOk W c → Calls Try.prog 39 #[(.agg #[.int .i64 c.cats, .slice c.g.a c.g.l.length c.g.cap, .slice c.r.a c.r.l.length c.r.cap, .slice c.p.a c.p.l.length c.p.cap, .slice c.n.a c.n.l.length c.n.cap, .slice c.s.a c.s.l.length c.s.cap, .int .i64 c.gate, .int .i64 c.quota])] W fun e w' => e = .returned (.bool false) ∧ Below W.heap.size W w') := fun W hc => by rw [← hr]; exact right_any c _ hc)
    clear hr HF
    ((have h0 := CX.new h; go_enter Try.func13, Try.ntmps13; go_upto_region 1 with fail; generalize w.alloc (.cells #[.int .i64 c.cats, .slice c.g.a c.g.l.length c.g.cap, .slice c.r.a c.r.l.length c.r.cap, .slice c.p.a c.p.l.length c.p.cap, .slice c.n.a c.n.l.length c.n.cap, .slice c.s.a c.s.l.length c.s.cap, .int .i64 c.gate, .int .i64 c.quota] 28) = W1 at h0 ⊢; generalize w.heap.size = b0 at h0 ⊢; have H0 := Lib.hid h0; clear h0 h); have XK := H0; clear H0; (have q0 := XK.out.ob.cell 0 _ rfl; have q1 := XK.out.ob.cell 1 _ rfl; have q2 := XK.out.ob.cell 2 _ rfl; have q3 := XK.out.ob.cell 3 _ rfl; have q4 := XK.out.ob.cell 4 _ rfl; have q5 := XK.out.ob.cell 5 _ rfl; have q6 := XK.out.ob.cell 6 _ rfl; have q7 := XK.out.ob.cell 7 _ rfl))
    go_wp2_with (go_at_call 39; refine (RIG.out _ XK.out.ok).mono ?_; rintro e Wc ⟨rfl, hb⟩; replace XK := Lib.hid (XK.out.below hb); clear hb; (replace q0 := XK.out.ob.cell 0 _ rfl; replace q1 := XK.out.ob.cell 1 _ rfl; replace q2 := XK.out.ob.cell 2 _ rfl; replace q3 := XK.out.ob.cell 3 _ rfl; replace q4 := XK.out.ob.cell 4 _ rfl; replace q5 := XK.out.ob.cell 5 _ rfl; replace q6 := XK.out.ob.cell 6 _ rfl; replace q7 := XK.out.ob.cell 7 _ rfl))
    (go_ret; exact ⟨rfl, XK.out.bel⟩)
  | true =>
    have hrt := rt_of hr
    (have RIG : Hid (∀ W, CfgOk W c → Calls Try.prog 39 #[(.agg #[.int .i64 c.cats, .slice c.g.a c.g.l.length c.g.cap, .slice c.r.a c.r.l.length c.r.cap, .slice c.p.a c.p.l.length c.p.cap, .slice c.n.a c.n.l.length c.n.cap, .slice c.s.a c.s.l.length c.s.cap, .int .i64 c.gate, .int .i64 c.quota])] W fun e w' => e = .returned (.bool true) ∧ Below W.heap.size W w') := fun W hc => by rw [← hr]; exact right_any c _ hc)
    (obtain ⟨vg, hvg⟩ : ∃ v, v = isG c g := ⟨_, rfl⟩; have GUE : Hid (∀ W, CfgOk W c → Calls Try.prog 43 #[(.agg #[.int .i64 c.cats, .slice c.g.a c.g.l.length c.g.cap, .slice c.r.a c.r.l.length c.r.cap, .slice c.p.a c.p.l.length c.p.cap, .slice c.n.a c.n.l.length c.n.cap, .slice c.s.a c.s.l.length c.s.cap, .int .i64 c.gate, .int .i64 c.quota]), .int .i64 g] W fun e w' => e = .returned (.bool vg) ∧ Below W.heap.size W w') := fun W h => by rw [hvg]; exact guest_any _ _ _ h)
    cases vg with
    | false =>
      obtain rfl : x = -1 := by rw [HF.out, ← hvg]; simp
      clear hr HF hrt hvg
      ((have h0 := CX.new h; go_enter Try.func13, Try.ntmps13; go_upto_region 1 with fail; generalize w.alloc (.cells #[.int .i64 c.cats, .slice c.g.a c.g.l.length c.g.cap, .slice c.r.a c.r.l.length c.r.cap, .slice c.p.a c.p.l.length c.p.cap, .slice c.n.a c.n.l.length c.n.cap, .slice c.s.a c.s.l.length c.s.cap, .int .i64 c.gate, .int .i64 c.quota] 28) = W1 at h0 ⊢; generalize w.heap.size = b0 at h0 ⊢; have H0 := Lib.hid h0; clear h0 h); have XK := H0; clear H0; (have q0 := XK.out.ob.cell 0 _ rfl; have q1 := XK.out.ob.cell 1 _ rfl; have q2 := XK.out.ob.cell 2 _ rfl; have q3 := XK.out.ob.cell 3 _ rfl; have q4 := XK.out.ob.cell 4 _ rfl; have q5 := XK.out.ob.cell 5 _ rfl; have q6 := XK.out.ob.cell 6 _ rfl; have q7 := XK.out.ob.cell 7 _ rfl))
      go_wp2_with (first | (go_at_call 39; refine (RIG.out _ XK.out.ok).mono ?_; rintro e Wc ⟨rfl, hb⟩; replace XK := Lib.hid (XK.out.below hb); clear hb; (replace q0 := XK.out.ob.cell 0 _ rfl; replace q1 := XK.out.ob.cell 1 _ rfl; replace q2 := XK.out.ob.cell 2 _ rfl; replace q3 := XK.out.ob.cell 3 _ rfl; replace q4 := XK.out.ob.cell 4 _ rfl; replace q5 := XK.out.ob.cell 5 _ rfl; replace q6 := XK.out.ob.cell 6 _ rfl; replace q7 := XK.out.ob.cell 7 _ rfl)) | (go_at_call 43; refine (GUE.out _ XK.out.ok).mono ?_; rintro e Wc ⟨rfl, hb⟩; replace XK := Lib.hid (XK.out.below hb); clear hb; (replace q0 := XK.out.ob.cell 0 _ rfl; replace q1 := XK.out.ob.cell 1 _ rfl; replace q2 := XK.out.ob.cell 2 _ rfl; replace q3 := XK.out.ob.cell 3 _ rfl; replace q4 := XK.out.ob.cell 4 _ rfl; replace q5 := XK.out.ob.cell 5 _ rfl; replace q6 := XK.out.ob.cell 6 _ rfl; replace q7 := XK.out.ob.cell 7 _ rfl)))
      (go_ret; exact ⟨rfl, XK.out.bel⟩)
    | true =>
      obtain rfl : x = sumG (c.g.l.take g.toNat) := by rw [HF.out, ← hvg, hr]; rfl
      have hi := (isG_iff c g).1 hvg.symm
      have BEH : Hid (∀ W, CfgOk W c → Calls Try.prog 42 #[(.agg #[.int .i64 c.cats, .slice c.g.a c.g.l.length c.g.cap, .slice c.r.a c.r.l.length c.r.cap, .slice c.p.a c.p.l.length c.p.cap, .slice c.n.a c.n.l.length c.n.cap, .slice c.s.a c.s.l.length c.s.cap, .int .i64 c.gate, .int .i64 c.quota]), .int .i64 g] W fun e w' => e = .returned (.int .i64 (sumG (c.g.l.take g.toNat))) ∧ Below W.heap.size W w') := fun W hc => by
        have := behind_any c hrt.gok hrt.g1 g.toNat (by omega) W hc
        rwa [Int.toNat_of_nonneg hi.1] at this
      clear hr HF hrt hvg hi
      ((have h0 := CX.new h; go_enter Try.func13, Try.ntmps13; go_upto_region 1 with fail; generalize w.alloc (.cells #[.int .i64 c.cats, .slice c.g.a c.g.l.length c.g.cap, .slice c.r.a c.r.l.length c.r.cap, .slice c.p.a c.p.l.length c.p.cap, .slice c.n.a c.n.l.length c.n.cap, .slice c.s.a c.s.l.length c.s.cap, .int .i64 c.gate, .int .i64 c.quota] 28) = W1 at h0 ⊢; generalize w.heap.size = b0 at h0 ⊢; have H0 := Lib.hid h0; clear h0 h); have XK := H0; clear H0; (have q0 := XK.out.ob.cell 0 _ rfl; have q1 := XK.out.ob.cell 1 _ rfl; have q2 := XK.out.ob.cell 2 _ rfl; have q3 := XK.out.ob.cell 3 _ rfl; have q4 := XK.out.ob.cell 4 _ rfl; have q5 := XK.out.ob.cell 5 _ rfl; have q6 := XK.out.ob.cell 6 _ rfl; have q7 := XK.out.ob.cell 7 _ rfl))
      go_wp2_with (first | (go_at_call 39; refine (RIG.out _ XK.out.ok).mono ?_; rintro e Wc ⟨rfl, hb⟩; replace XK := Lib.hid (XK.out.below hb); clear hb; (replace q0 := XK.out.ob.cell 0 _ rfl; replace q1 := XK.out.ob.cell 1 _ rfl; replace q2 := XK.out.ob.cell 2 _ rfl; replace q3 := XK.out.ob.cell 3 _ rfl; replace q4 := XK.out.ob.cell 4 _ rfl; replace q5 := XK.out.ob.cell 5 _ rfl; replace q6 := XK.out.ob.cell 6 _ rfl; replace q7 := XK.out.ob.cell 7 _ rfl)) | (go_at_call 43; refine (GUE.out _ XK.out.ok).mono ?_; rintro e Wc ⟨rfl, hb⟩; replace XK := Lib.hid (XK.out.below hb); clear hb; (replace q0 := XK.out.ob.cell 0 _ rfl; replace q1 := XK.out.ob.cell 1 _ rfl; replace q2 := XK.out.ob.cell 2 _ rfl; replace q3 := XK.out.ob.cell 3 _ rfl; replace q4 := XK.out.ob.cell 4 _ rfl; replace q5 := XK.out.ob.cell 5 _ rfl; replace q6 := XK.out.ob.cell 6 _ rfl; replace q7 := XK.out.ob.cell 7 _ rfl)) | (go_at_call 42; refine (BEH.out _ XK.out.ok).mono ?_; rintro e Wc ⟨rfl, hb⟩; replace XK := Lib.hid (XK.out.below hb); clear hb; (replace q0 := XK.out.ob.cell 0 _ rfl; replace q1 := XK.out.ob.cell 1 _ rfl; replace q2 := XK.out.ob.cell 2 _ rfl; replace q3 := XK.out.ob.cell 3 _ rfl; replace q4 := XK.out.ob.cell 4 _ rfl; replace q5 := XK.out.ob.cell 5 _ rfl; replace q6 := XK.out.ob.cell 6 _ rfl; replace q7 := XK.out.ob.cell 7 _ rfl)))
      (go_ret; exact ⟨rfl, XK.out.bel⟩)
def ringfV (c : Cv) (i : Int) : Int := if rightV c && (decide (0 ≤ i) && decide (i < c.n.l.length)) then sumG c.g.l + i else -1
theorem ringf_any (c : Cv) (g : Int) (w : World) (h : CfgOk w c) : Calls Try.prog 14 #[(.agg #[.int .i64 c.cats, .slice c.g.a c.g.l.length c.g.cap, .slice c.r.a c.r.l.length c.r.cap, .slice c.p.a c.p.l.length c.p.cap, .slice c.n.a c.n.l.length c.n.cap, .slice c.s.a c.s.l.length c.s.cap, .int .i64 c.gate, .int .i64 c.quota]), .int .i64 g] w fun e w' => e = .returned (.int .i64 (ringfV c g)) ∧ Below w.heap.size w w' := by
  have HF : Hid (ringfV c g = if rightV c && (decide (0 ≤ g) && decide (g < c.n.l.length)) then sumG c.g.l + g else -1) := rfl
  obtain ⟨x, hx⟩ : ∃ x, x = ringfV c g := ⟨_, rfl⟩
  rw [← hx] at HF ⊢
  clear hx
  cases hr : rightV c with
  | false =>
    obtain rfl : x = -1 := by rw [HF.out, hr]; rfl
    (have RIG : Hid (∀ W, CfgOk W c → Calls Try.prog 39 #[(.agg #[.int .i64 c.cats, .slice c.g.a c.g.l.length c.g.cap, .slice c.r.a c.r.l.length c.r.cap, .slice c.p.a c.p.l.length c.p.cap, .slice c.n.a c.n.l.length c.n.cap, .slice c.s.a c.s.l.length c.s.cap, .int .i64 c.gate, .int .i64 c.quota])] W fun e w' => e = .returned (.bool false) ∧ Below W.heap.size W w') := fun W hc => by rw [← hr]; exact right_any c _ hc)
    clear hr HF
    ((have h0 := CX.new h; go_enter Try.func14, Try.ntmps14; go_upto_region 1 with fail; generalize w.alloc (.cells #[.int .i64 c.cats, .slice c.g.a c.g.l.length c.g.cap, .slice c.r.a c.r.l.length c.r.cap, .slice c.p.a c.p.l.length c.p.cap, .slice c.n.a c.n.l.length c.n.cap, .slice c.s.a c.s.l.length c.s.cap, .int .i64 c.gate, .int .i64 c.quota] 28) = W1 at h0 ⊢; generalize w.heap.size = b0 at h0 ⊢; have H0 := Lib.hid h0; clear h0 h); have XK := H0; clear H0; (have q0 := XK.out.ob.cell 0 _ rfl; have q1 := XK.out.ob.cell 1 _ rfl; have q2 := XK.out.ob.cell 2 _ rfl; have q3 := XK.out.ob.cell 3 _ rfl; have q4 := XK.out.ob.cell 4 _ rfl; have q5 := XK.out.ob.cell 5 _ rfl; have q6 := XK.out.ob.cell 6 _ rfl; have q7 := XK.out.ob.cell 7 _ rfl))
    go_wp2_with (go_at_call 39; refine (RIG.out _ XK.out.ok).mono ?_; rintro e Wc ⟨rfl, hb⟩; replace XK := Lib.hid (XK.out.below hb); clear hb; (replace q0 := XK.out.ob.cell 0 _ rfl; replace q1 := XK.out.ob.cell 1 _ rfl; replace q2 := XK.out.ob.cell 2 _ rfl; replace q3 := XK.out.ob.cell 3 _ rfl; replace q4 := XK.out.ob.cell 4 _ rfl; replace q5 := XK.out.ob.cell 5 _ rfl; replace q6 := XK.out.ob.cell 6 _ rfl; replace q7 := XK.out.ob.cell 7 _ rfl))
    (go_ret; exact ⟨rfl, XK.out.bel⟩)
  | true =>
    have hrt := rt_of hr
    (have RIG : Hid (∀ W, CfgOk W c → Calls Try.prog 39 #[(.agg #[.int .i64 c.cats, .slice c.g.a c.g.l.length c.g.cap, .slice c.r.a c.r.l.length c.r.cap, .slice c.p.a c.p.l.length c.p.cap, .slice c.n.a c.n.l.length c.n.cap, .slice c.s.a c.s.l.length c.s.cap, .int .i64 c.gate, .int .i64 c.quota])] W fun e w' => e = .returned (.bool true) ∧ Below W.heap.size W w') := fun W hc => by rw [← hr]; exact right_any c _ hc)
    by_cases h1 : g < 0
    · have d1 : decide (g < 0) = true := by simp [h1]
      obtain rfl : x = -1 := by rw [HF.out, if_neg (by simp; omega)]
      clear hr HF hrt h1
      ((have h0 := CX.new h; go_enter Try.func14, Try.ntmps14; go_upto_region 1 with fail; generalize w.alloc (.cells #[.int .i64 c.cats, .slice c.g.a c.g.l.length c.g.cap, .slice c.r.a c.r.l.length c.r.cap, .slice c.p.a c.p.l.length c.p.cap, .slice c.n.a c.n.l.length c.n.cap, .slice c.s.a c.s.l.length c.s.cap, .int .i64 c.gate, .int .i64 c.quota] 28) = W1 at h0 ⊢; generalize w.heap.size = b0 at h0 ⊢; have H0 := Lib.hid h0; clear h0 h); have XK := H0; clear H0; (have q0 := XK.out.ob.cell 0 _ rfl; have q1 := XK.out.ob.cell 1 _ rfl; have q2 := XK.out.ob.cell 2 _ rfl; have q3 := XK.out.ob.cell 3 _ rfl; have q4 := XK.out.ob.cell 4 _ rfl; have q5 := XK.out.ob.cell 5 _ rfl; have q6 := XK.out.ob.cell 6 _ rfl; have q7 := XK.out.ob.cell 7 _ rfl))
      go_wp2_with (go_at_call 39; refine (RIG.out _ XK.out.ok).mono ?_; rintro e Wc ⟨rfl, hb⟩; replace XK := Lib.hid (XK.out.below hb); clear hb; (replace q0 := XK.out.ob.cell 0 _ rfl; replace q1 := XK.out.ob.cell 1 _ rfl; replace q2 := XK.out.ob.cell 2 _ rfl; replace q3 := XK.out.ob.cell 3 _ rfl; replace q4 := XK.out.ob.cell 4 _ rfl; replace q5 := XK.out.ob.cell 5 _ rfl; replace q6 := XK.out.ob.cell 6 _ rfl; replace q7 := XK.out.ob.cell 7 _ rfl))
      (go_ret; exact ⟨rfl, XK.out.bel⟩)
    · have d1 : decide (g < 0) = false := by simp; omega
      by_cases h2 : (c.n.l.length : Int) ≤ g
      · have d2 : decide (g ≥ (c.n.l.length : Int)) = true := by simp [h2]
        obtain rfl : x = -1 := by rw [HF.out, if_neg (by simp; omega)]
        clear hr HF hrt h1 h2
        ((have h0 := CX.new h; go_enter Try.func14, Try.ntmps14; go_upto_region 1 with fail; generalize w.alloc (.cells #[.int .i64 c.cats, .slice c.g.a c.g.l.length c.g.cap, .slice c.r.a c.r.l.length c.r.cap, .slice c.p.a c.p.l.length c.p.cap, .slice c.n.a c.n.l.length c.n.cap, .slice c.s.a c.s.l.length c.s.cap, .int .i64 c.gate, .int .i64 c.quota] 28) = W1 at h0 ⊢; generalize w.heap.size = b0 at h0 ⊢; have H0 := Lib.hid h0; clear h0 h); have XK := H0; clear H0; (have q0 := XK.out.ob.cell 0 _ rfl; have q1 := XK.out.ob.cell 1 _ rfl; have q2 := XK.out.ob.cell 2 _ rfl; have q3 := XK.out.ob.cell 3 _ rfl; have q4 := XK.out.ob.cell 4 _ rfl; have q5 := XK.out.ob.cell 5 _ rfl; have q6 := XK.out.ob.cell 6 _ rfl; have q7 := XK.out.ob.cell 7 _ rfl))
        go_wp2_with (go_at_call 39; refine (RIG.out _ XK.out.ok).mono ?_; rintro e Wc ⟨rfl, hb⟩; replace XK := Lib.hid (XK.out.below hb); clear hb; (replace q0 := XK.out.ob.cell 0 _ rfl; replace q1 := XK.out.ob.cell 1 _ rfl; replace q2 := XK.out.ob.cell 2 _ rfl; replace q3 := XK.out.ob.cell 3 _ rfl; replace q4 := XK.out.ob.cell 4 _ rfl; replace q5 := XK.out.ob.cell 5 _ rfl; replace q6 := XK.out.ob.cell 6 _ rfl; replace q7 := XK.out.ob.cell 7 _ rfl))
        (go_ret; exact ⟨rfl, XK.out.bel⟩)
      · have d2 : decide (g ≥ (c.n.l.length : Int)) = false := by simp; omega
        obtain rfl : x = sumG c.g.l + g := by rw [HF.out, if_pos (by simp [hr]; omega)]
        have BEH : Hid (∀ W, CfgOk W c → Calls Try.prog 42 #[(.agg #[.int .i64 c.cats, .slice c.g.a c.g.l.length c.g.cap, .slice c.r.a c.r.l.length c.r.cap, .slice c.p.a c.p.l.length c.p.cap, .slice c.n.a c.n.l.length c.n.cap, .slice c.s.a c.s.l.length c.s.cap, .int .i64 c.gate, .int .i64 c.quota]), .int .i64 c.g.l.length] W fun e w' => e = .returned (.int .i64 (sumG c.g.l)) ∧ Below W.heap.size W w') := fun W hc => by
          have := behind_any c hrt.gok hrt.g1 c.g.l.length (by omega) W hc
          rwa [List.take_length] at this
        have hw : IntKind.i64.wrap (sumG c.g.l + g) = sumG c.g.l + g := by
          have := sumG_bound c.g.l hrt.gok.row; have := hrt.gok.g; have := hrt.gok.n
          rw [IntKind.wrap_i64]; omega
        clear hr HF hrt h1 h2
        ((have h0 := CX.new h; go_enter Try.func14, Try.ntmps14; go_upto_region 1 with fail; generalize w.alloc (.cells #[.int .i64 c.cats, .slice c.g.a c.g.l.length c.g.cap, .slice c.r.a c.r.l.length c.r.cap, .slice c.p.a c.p.l.length c.p.cap, .slice c.n.a c.n.l.length c.n.cap, .slice c.s.a c.s.l.length c.s.cap, .int .i64 c.gate, .int .i64 c.quota] 28) = W1 at h0 ⊢; generalize w.heap.size = b0 at h0 ⊢; have H0 := Lib.hid h0; clear h0 h); have XK := H0; clear H0; (have q0 := XK.out.ob.cell 0 _ rfl; have q1 := XK.out.ob.cell 1 _ rfl; have q2 := XK.out.ob.cell 2 _ rfl; have q3 := XK.out.ob.cell 3 _ rfl; have q4 := XK.out.ob.cell 4 _ rfl; have q5 := XK.out.ob.cell 5 _ rfl; have q6 := XK.out.ob.cell 6 _ rfl; have q7 := XK.out.ob.cell 7 _ rfl))
        go_wp2_with (first | (go_at_call 39; refine (RIG.out _ XK.out.ok).mono ?_; rintro e Wc ⟨rfl, hb⟩; replace XK := Lib.hid (XK.out.below hb); clear hb; (replace q0 := XK.out.ob.cell 0 _ rfl; replace q1 := XK.out.ob.cell 1 _ rfl; replace q2 := XK.out.ob.cell 2 _ rfl; replace q3 := XK.out.ob.cell 3 _ rfl; replace q4 := XK.out.ob.cell 4 _ rfl; replace q5 := XK.out.ob.cell 5 _ rfl; replace q6 := XK.out.ob.cell 6 _ rfl; replace q7 := XK.out.ob.cell 7 _ rfl)) | (go_at_call 42; refine (BEH.out _ XK.out.ok).mono ?_; rintro e Wc ⟨rfl, hb⟩; replace XK := Lib.hid (XK.out.below hb); clear hb; (replace q0 := XK.out.ob.cell 0 _ rfl; replace q1 := XK.out.ob.cell 1 _ rfl; replace q2 := XK.out.ob.cell 2 _ rfl; replace q3 := XK.out.ob.cell 3 _ rfl; replace q4 := XK.out.ob.cell 4 _ rfl; replace q5 := XK.out.ob.cell 5 _ rfl; replace q6 := XK.out.ob.cell 6 _ rfl; replace q7 := XK.out.ob.cell 7 _ rfl)))
        (go_ret; exact ⟨rfl, XK.out.bel⟩)
def boundV (c : Cv) : Int := if rightV c then 1 + 4 + 16 * 520 + 4 * c.quota + 16 else 0
theorem bound_any (c : Cv) (w : World) (h : CfgOk w c) : Calls Try.prog 20 #[(.agg #[.int .i64 c.cats, .slice c.g.a c.g.l.length c.g.cap, .slice c.r.a c.r.l.length c.r.cap, .slice c.p.a c.p.l.length c.p.cap, .slice c.n.a c.n.l.length c.n.cap, .slice c.s.a c.s.l.length c.s.cap, .int .i64 c.gate, .int .i64 c.quota])] w fun e w' => e = .returned (.int .i64 (boundV c)) ∧ Below w.heap.size w w' := by
  have HF : Hid (boundV c = if rightV c then 1 + 4 + 16 * 520 + 4 * c.quota + 16 else 0) := rfl
  obtain ⟨x, hx⟩ : ∃ x, x = boundV c := ⟨_, rfl⟩
  rw [← hx] at HF ⊢
  clear hx
  cases hr : rightV c with
  | false =>
    obtain rfl : x = 0 := by rw [HF.out, hr]; rfl
    (have RIG : Hid (∀ W, CfgOk W c → Calls Try.prog 39 #[(.agg #[.int .i64 c.cats, .slice c.g.a c.g.l.length c.g.cap, .slice c.r.a c.r.l.length c.r.cap, .slice c.p.a c.p.l.length c.p.cap, .slice c.n.a c.n.l.length c.n.cap, .slice c.s.a c.s.l.length c.s.cap, .int .i64 c.gate, .int .i64 c.quota])] W fun e w' => e = .returned (.bool false) ∧ Below W.heap.size W w') := fun W hc => by rw [← hr]; exact right_any c _ hc)
    clear hr HF
    ((have h0 := CX.new h; go_enter Try.func20, Try.ntmps20; go_upto_region 1 with fail; generalize w.alloc (.cells #[.int .i64 c.cats, .slice c.g.a c.g.l.length c.g.cap, .slice c.r.a c.r.l.length c.r.cap, .slice c.p.a c.p.l.length c.p.cap, .slice c.n.a c.n.l.length c.n.cap, .slice c.s.a c.s.l.length c.s.cap, .int .i64 c.gate, .int .i64 c.quota] 28) = W1 at h0 ⊢; generalize w.heap.size = b0 at h0 ⊢; have H0 := Lib.hid h0; clear h0 h); have XK := H0; clear H0; (have q0 := XK.out.ob.cell 0 _ rfl; have q1 := XK.out.ob.cell 1 _ rfl; have q2 := XK.out.ob.cell 2 _ rfl; have q3 := XK.out.ob.cell 3 _ rfl; have q4 := XK.out.ob.cell 4 _ rfl; have q5 := XK.out.ob.cell 5 _ rfl; have q6 := XK.out.ob.cell 6 _ rfl; have q7 := XK.out.ob.cell 7 _ rfl))
    go_wp2_with (go_at_call 39; refine (RIG.out _ XK.out.ok).mono ?_; rintro e Wc ⟨rfl, hb⟩; replace XK := Lib.hid (XK.out.below hb); clear hb; (replace q0 := XK.out.ob.cell 0 _ rfl; replace q1 := XK.out.ob.cell 1 _ rfl; replace q2 := XK.out.ob.cell 2 _ rfl; replace q3 := XK.out.ob.cell 3 _ rfl; replace q4 := XK.out.ob.cell 4 _ rfl; replace q5 := XK.out.ob.cell 5 _ rfl; replace q6 := XK.out.ob.cell 6 _ rfl; replace q7 := XK.out.ob.cell 7 _ rfl))
    (go_ret; exact ⟨rfl, XK.out.bel⟩)
  | true =>
    have hq := (rt_of hr).quota
    (have RIG : Hid (∀ W, CfgOk W c → Calls Try.prog 39 #[(.agg #[.int .i64 c.cats, .slice c.g.a c.g.l.length c.g.cap, .slice c.r.a c.r.l.length c.r.cap, .slice c.p.a c.p.l.length c.p.cap, .slice c.n.a c.n.l.length c.n.cap, .slice c.s.a c.s.l.length c.s.cap, .int .i64 c.gate, .int .i64 c.quota])] W fun e w' => e = .returned (.bool true) ∧ Below W.heap.size W w') := fun W hc => by rw [← hr]; exact right_any c _ hc)
    have hx : x = 8325 + 4 * c.quota + 16 := by rw [HF.out, hr]; simp
    subst hx
    have w1 : IntKind.i64.wrap (4 * c.quota) = 4 * c.quota := by rw [IntKind.wrap_i64]; omega
    have w2 : IntKind.i64.wrap (8325 + 4 * c.quota) = 8325 + 4 * c.quota := by rw [IntKind.wrap_i64]; omega
    have w3 : IntKind.i64.wrap (8325 + 4 * c.quota + 16) = 8325 + 4 * c.quota + 16 := by rw [IntKind.wrap_i64]; omega
    clear hr HF hq
    ((have h0 := CX.new h; go_enter Try.func20, Try.ntmps20; go_upto_region 1 with fail; generalize w.alloc (.cells #[.int .i64 c.cats, .slice c.g.a c.g.l.length c.g.cap, .slice c.r.a c.r.l.length c.r.cap, .slice c.p.a c.p.l.length c.p.cap, .slice c.n.a c.n.l.length c.n.cap, .slice c.s.a c.s.l.length c.s.cap, .int .i64 c.gate, .int .i64 c.quota] 28) = W1 at h0 ⊢; generalize w.heap.size = b0 at h0 ⊢; have H0 := Lib.hid h0; clear h0 h); have XK := H0; clear H0; (have q0 := XK.out.ob.cell 0 _ rfl; have q1 := XK.out.ob.cell 1 _ rfl; have q2 := XK.out.ob.cell 2 _ rfl; have q3 := XK.out.ob.cell 3 _ rfl; have q4 := XK.out.ob.cell 4 _ rfl; have q5 := XK.out.ob.cell 5 _ rfl; have q6 := XK.out.ob.cell 6 _ rfl; have q7 := XK.out.ob.cell 7 _ rfl))
    go_wp2_with (go_at_call 39; refine (RIG.out _ XK.out.ok).mono ?_; rintro e Wc ⟨rfl, hb⟩; replace XK := Lib.hid (XK.out.below hb); clear hb; (replace q0 := XK.out.ob.cell 0 _ rfl; replace q1 := XK.out.ob.cell 1 _ rfl; replace q2 := XK.out.ob.cell 2 _ rfl; replace q3 := XK.out.ob.cell 3 _ rfl; replace q4 := XK.out.ob.cell 4 _ rfl; replace q5 := XK.out.ob.cell 5 _ rfl; replace q6 := XK.out.ob.cell 6 _ rfl; replace q7 := XK.out.ob.cell 7 _ rfl))
    (go_ret; exact ⟨rfl, XK.out.bel⟩)
def sumB (l : List (List Int)) : Int := (l.map fun r => r.getD 1 0).sum
theorem sumB_take (l : List (List Int)) (k : Nat) (hk : k < l.length) : sumB (l.take (k + 1)) = sumB (l.take k) + l[k].getD 1 0 := by
  rw [List.take_add_one, List.getElem?_eq_getElem hk]
  simp only [sumB, List.map_append, List.sum_append, Option.toList_some, List.map_cons, List.map_nil, List.sum_cons, List.sum_nil, Int.add_zero]
theorem sumB_bound : ∀ (l : List (List Int)), (∀ r ∈ l, 1 ≤ r.getD 1 0 ∧ r.getD 1 0 ≤ 32) → (l.length : Int) ≤ sumB l ∧ sumB l ≤ 32 * l.length
  | [], _ => by simp [sumB]
  | r :: l, h => by
    have h1 := h r (by simp)
    have h2 := sumB_bound l (fun r' hr => h r' (by simp [hr]))
    simp only [sumB, List.map_cons, List.sum_cons, List.length_cons] at h2 ⊢
    omega
def periodV (c : Cv) : Int := if rightV c then sumB c.s.l else 0
theorem slot_row (h : Rt c) : ∀ r ∈ c.s.l, 1 ≤ r.getD 1 0 ∧ r.getD 1 0 ≤ 32 := by
  intro r hr
  obtain ⟨i, hi, rfl⟩ := List.mem_iff_getElem.1 hr
  have := h.sl.2.2 i hi
  simp only [sBad, at_eq hi, Bool.or_eq_false_iff, decide_eq_false_iff_not] at this
  omega
theorem period_any (c : Cv) (w : World) (h : CfgOk w c) : Calls Try.prog 18 #[(.agg #[.int .i64 c.cats, .slice c.g.a c.g.l.length c.g.cap, .slice c.r.a c.r.l.length c.r.cap, .slice c.p.a c.p.l.length c.p.cap, .slice c.n.a c.n.l.length c.n.cap, .slice c.s.a c.s.l.length c.s.cap, .int .i64 c.gate, .int .i64 c.quota])] w fun e w' => e = .returned (.int .i64 (periodV c)) ∧ Below w.heap.size w w' := by
  have HF : Hid (periodV c = if rightV c then sumB c.s.l else 0) := rfl
  obtain ⟨x, hx⟩ : ∃ x, x = periodV c := ⟨_, rfl⟩
  rw [← hx] at HF ⊢
  clear hx
  cases hr : rightV c with
  | false =>
    obtain rfl : x = 0 := by rw [HF.out, hr]; rfl
    (have RIG : Hid (∀ W, CfgOk W c → Calls Try.prog 39 #[(.agg #[.int .i64 c.cats, .slice c.g.a c.g.l.length c.g.cap, .slice c.r.a c.r.l.length c.r.cap, .slice c.p.a c.p.l.length c.p.cap, .slice c.n.a c.n.l.length c.n.cap, .slice c.s.a c.s.l.length c.s.cap, .int .i64 c.gate, .int .i64 c.quota])] W fun e w' => e = .returned (.bool false) ∧ Below W.heap.size W w') := fun W hc => by rw [← hr]; exact right_any c _ hc)
    clear hr HF
    ((have h0 := CX.new h; go_enter Try.func18, Try.ntmps18; go_upto_region 1 with fail; generalize w.alloc (.cells #[.int .i64 c.cats, .slice c.g.a c.g.l.length c.g.cap, .slice c.r.a c.r.l.length c.r.cap, .slice c.p.a c.p.l.length c.p.cap, .slice c.n.a c.n.l.length c.n.cap, .slice c.s.a c.s.l.length c.s.cap, .int .i64 c.gate, .int .i64 c.quota] 28) = W1 at h0 ⊢; generalize w.heap.size = b0 at h0 ⊢; have H0 := Lib.hid h0; clear h0 h); have XK := H0; clear H0; (have q0 := XK.out.ob.cell 0 _ rfl; have q1 := XK.out.ob.cell 1 _ rfl; have q2 := XK.out.ob.cell 2 _ rfl; have q3 := XK.out.ob.cell 3 _ rfl; have q4 := XK.out.ob.cell 4 _ rfl; have q5 := XK.out.ob.cell 5 _ rfl; have q6 := XK.out.ob.cell 6 _ rfl; have q7 := XK.out.ob.cell 7 _ rfl))
    go_wp2_with (go_at_call 39; refine (RIG.out _ XK.out.ok).mono ?_; rintro e Wc ⟨rfl, hb⟩; replace XK := Lib.hid (XK.out.below hb); clear hb; (replace q0 := XK.out.ob.cell 0 _ rfl; replace q1 := XK.out.ob.cell 1 _ rfl; replace q2 := XK.out.ob.cell 2 _ rfl; replace q3 := XK.out.ob.cell 3 _ rfl; replace q4 := XK.out.ob.cell 4 _ rfl; replace q5 := XK.out.ob.cell 5 _ rfl; replace q6 := XK.out.ob.cell 6 _ rfl; replace q7 := XK.out.ob.cell 7 _ rfl))
    (go_ret; exact ⟨rfl, XK.out.bel⟩)
  | true =>
    have hrt := rt_of hr
    (have RIG : Hid (∀ W, CfgOk W c → Calls Try.prog 39 #[(.agg #[.int .i64 c.cats, .slice c.g.a c.g.l.length c.g.cap, .slice c.r.a c.r.l.length c.r.cap, .slice c.p.a c.p.l.length c.p.cap, .slice c.n.a c.n.l.length c.n.cap, .slice c.s.a c.s.l.length c.s.cap, .int .i64 c.gate, .int .i64 c.quota])] W fun e w' => e = .returned (.bool true) ∧ Below W.heap.size W w') := fun W hc => by rw [← hr]; exact right_any c _ hc)
    have hx : x = sumB c.s.l := by rw [HF.out, hr]; rfl
    subst hx
    have SR := Lib.hid (slot_row hrt)
    have sl1 := hrt.sl.1
    have sl8 := hrt.sl.2.1
    have HC := Lib.hid h
    obtain ⟨bx, ox, hax, _⟩ := h.s.cells (by omega) 0 (by omega)
    have HAX := Lib.hid hax
    clear hr HF hrt hax
    ((have h0 := CX.new h; go_enter Try.func18, Try.ntmps18; go_upto_region 1 with fail; generalize w.alloc (.cells #[.int .i64 c.cats, .slice c.g.a c.g.l.length c.g.cap, .slice c.r.a c.r.l.length c.r.cap, .slice c.p.a c.p.l.length c.p.cap, .slice c.n.a c.n.l.length c.n.cap, .slice c.s.a c.s.l.length c.s.cap, .int .i64 c.gate, .int .i64 c.quota] 28) = W1 at h0 ⊢; generalize w.heap.size = b0 at h0 ⊢; have H0 := Lib.hid h0; clear h0 h); have XK := H0; clear H0; (have q0 := XK.out.ob.cell 0 _ rfl; have q1 := XK.out.ob.cell 1 _ rfl; have q2 := XK.out.ob.cell 2 _ rfl; have q3 := XK.out.ob.cell 3 _ rfl; have q4 := XK.out.ob.cell 4 _ rfl; have q5 := XK.out.ob.cell 5 _ rfl; have q6 := XK.out.ob.cell 6 _ rfl; have q7 := XK.out.ob.cell 7 _ rfl))
    go_upto_region 4 with (go_at_call 39; refine (RIG.out _ XK.out.ok).mono ?_; rintro e Wc ⟨rfl, hb⟩; replace XK := Lib.hid (XK.out.below hb); clear hb; (replace q0 := XK.out.ob.cell 0 _ rfl; replace q1 := XK.out.ob.cell 1 _ rfl; replace q2 := XK.out.ob.cell 2 _ rfl; replace q3 := XK.out.ob.cell 3 _ rfl; replace q4 := XK.out.ob.cell 4 _ rfl; replace q5 := XK.out.ob.cell 5 _ rfl; replace q6 := XK.out.ob.cell 6 _ rfl; replace q7 := XK.out.ob.cell 7 _ rfl))
    rw [HAX.out] at q5
    go_upto_region 5 with fail
    clear q0 q1 q2 q3 q4 q5 q6 q7
    go_loopw [3, 12] (fun g3 g12 wr => ∃ k : Nat, k ≤ c.s.l.length ∧ g12 = .int .i64 k ∧ g3 = .int .i64 (sumB (c.s.l.take k)) ∧ CX w wr b0 c) (fun _ g12 _ => c.s.l.length - (intOf g12).toNat)
    case atStart => exact ⟨0, by omega, rfl, by simp [sumB], XK.out⟩
    case round =>
      clear XK
      obtain ⟨k, hk, rfl, rfl, hb⟩ := hrel
      have XK := Lib.hid hb
      obtain ⟨sk, hsk⟩ : ∃ x, x = sumB (c.s.l.take k) := ⟨_, rfl⟩
      rw [← hsk]
      have HS := Lib.hid hsk
      by_cases hkl : k < c.s.l.length
      · have d1 : decide ((k : Int) < (c.s.l.length : Int)) = true := by simp; omega
        have kz : (0 : Int) ≤ (k : Int) := by omega
        have kl : (k : Int) < (c.s.l.length : Int) := by omega
        have w1 : IntKind.i64.wrap ((k : Int) + 1) = (k : Int) + 1 := by rw [IntKind.wrap_i64]; omega
        obtain ⟨bx2, ox2, hax, hcx⟩ := XK.out.ok.s.cells (by omega) k hkl
        rw [HAX.out] at hax
        obtain ⟨rfl, rfl⟩ : bx = bx2 ∧ ox = ox2 := by simpa using hax
        obtain ⟨y, z, hrow⟩ := row2 hkl HC.out.s.len
        have hgr := SR.out _ (List.getElem_mem hkl)
        have hst := sumB_take c.s.l k hkl
        have hsb := sumB_bound (c.s.l.take k) (fun r hr => SR.out r (List.mem_of_mem_take hr))
        rw [List.length_take] at hsb
        rw [hrow] at hcx hgr hst
        simp only [List.getD_cons_succ, List.getD_cons_zero] at hgr hst
        have HST := Lib.hid hst
        have c0 := hcx _ (Below.refl _ _) 0 _ rfl; have c1 := hcx _ (Below.refl _ _) 1 _ rfl
        simp only [Nat.add_zero] at c0
        have w3 : IntKind.i64.wrap (sk + z) = sk + z := by rw [IntKind.wrap_i64]; omega
        have HX2 : Hid (CX w (wr.alloc (.cells #[.int .i64 y, .int .i64 z] 36)) b0 c) := XK.out.below ((Below.refl _ _).alloc (Nat.le_refl _) _)
        clear hb hcx hrow hgr hst hsb hsk hax
        go_wp2_with fail
        go_roundw
        case rel => exact ⟨k + 1, by omega, by go_num, by rw [HST.out, HS.out], HX2.out⟩
        case measure => simp [intOf]; omega
      · have d1 : decide ((k : Int) < (c.s.l.length : Int)) = false := by simp; omega
        go_wp2_with fail
        go_ret
        have hkk : k = c.s.l.length := by omega
        refine ⟨?_, XK.out.bel⟩
        rw [HS.out, hkk, List.take_length]; rfl
end Go.Proofs.Ytmchaaelpbifgaa
