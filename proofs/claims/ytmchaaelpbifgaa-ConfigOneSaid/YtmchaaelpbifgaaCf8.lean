/- Chapter 4: Owner, First, RingFrame, PortOf, RangeOf, Period, Bound. -/
import Derived.Test.YtmchaaelpbifgaaCf7
import Derived.Laws.EntriesVeiled
namespace Go.Proofs.Ytmchaaelpbifgaa
set_option linter.unusedVariables false
set_option linter.unusedSimpArgs false
set_option linter.unnecessarySimpa false
open Go.RowKit
set_option maxHeartbeats 2000000
set_option maxRecDepth 100000
set_option linter.unusedVariables false
variable {W W' w : World} {c : Cv} {b N : Nat} {s : Sl}
theorem info_own : (Try.prog.info? 47).map (·.size) = some 2 := by kernel_rfl
def ownV2 (c : Cv) (f : Int) : Int × Int :=
  if rightV c && (decide (0 ≤ f) && decide (f < needV c)) then
    match (List.range c.g.l.length).find? fun i => decide (f < sumG (c.g.l.take (i + 1))) with
    | some i => ((1 : Int), (i : Int))
    | none => (2, f - sumG c.g.l)
  else (0, 0)
set_option maxHeartbeats 4000000 in
theorem owner_any (c : Cv) (f : Int) (w : World) (h : CfgOk w c) : Calls Try.prog 12 #[(.agg #[.int .i64 c.cats, .slice c.g.a c.g.l.length c.g.cap, .slice c.r.a c.r.l.length c.r.cap, .slice c.p.a c.p.l.length c.p.cap, .slice c.n.a c.n.l.length c.n.cap, .slice c.s.a c.s.l.length c.s.cap, .int .i64 c.gate, .int .i64 c.quota]), .int .i64 f] w fun e w' => e = .returned (.agg #[.int .i64 (ownV2 c f).1, .int .i64 (ownV2 c f).2]) ∧ Below w.heap.size w w' := by
  have HF : Hid (ownV2 c f = if rightV c && (decide (0 ≤ f) && decide (f < needV c)) then
    match (List.range c.g.l.length).find? fun i => decide (f < sumG (c.g.l.take (i + 1))) with
    | some i => ((1 : Int), (i : Int))
    | none => (2, f - sumG c.g.l)
  else (0, 0)) := rfl
  obtain ⟨x, hx⟩ : ∃ x, x = ownV2 c f := ⟨_, rfl⟩
  rw [← hx] at HF ⊢
  clear hx
  cases hr : rightV c with
  | false =>
    obtain rfl : x = (0, 0) := by rw [HF.out, hr]; rfl
    (have RIG : Hid (∀ W, CfgOk W c → Calls Try.prog 39 #[(.agg #[.int .i64 c.cats, .slice c.g.a c.g.l.length c.g.cap, .slice c.r.a c.r.l.length c.r.cap, .slice c.p.a c.p.l.length c.p.cap, .slice c.n.a c.n.l.length c.n.cap, .slice c.s.a c.s.l.length c.s.cap, .int .i64 c.gate, .int .i64 c.quota])] W fun e w' => e = .returned (.bool false) ∧ Below W.heap.size W w') := fun W hc => by rw [← hr]; exact right_any c _ hc)
    clear hr HF
    (
    have h0 := CX.new h
    go_enter Try.func12, Try.ntmps12
    go_upto_region 1 with fail
    have hob := h0.bel.size
    have hsz : (w.alloc (.cells #[.int .i64 c.cats, .slice c.g.a c.g.l.length c.g.cap, .slice c.r.a c.r.l.length c.r.cap, .slice c.p.a c.p.l.length c.p.cap, .slice c.n.a c.n.l.length c.n.cap, .slice c.s.a c.s.l.length c.s.cap, .int .i64 c.gate, .int .i64 c.quota] 28)).heap.size = w.heap.size + 1 := by simp
    generalize w.alloc (.cells #[.int .i64 c.cats, .slice c.g.a c.g.l.length c.g.cap, .slice c.r.a c.r.l.length c.r.cap, .slice c.p.a c.p.l.length c.p.cap, .slice c.n.a c.n.l.length c.n.cap, .slice c.s.a c.s.l.length c.s.cap, .int .i64 c.gate, .int .i64 c.quota] 28) = W1 at h0 hob hsz ⊢
    have XK : Hid (CX w (W1.alloc (.cells #[.int .i64 0, .int .i64 0] 47)) w.heap.size c) := h0.below ((Below.refl _ _).alloc (Nat.le_refl _) _)
    have OK : Hid (ObjAt (W1.alloc (.cells #[.int .i64 0, .int .i64 0] 47)) W1.heap.size 47 [.int .i64 0, .int .i64 0]) := ObjAt.new W1 _ _
    have HOB := Lib.hid hob
    clear h0 h hob
    generalize W1.alloc (.cells #[.int .i64 0, .int .i64 0] 47) = W2 at XK OK ⊢
    rw [hsz] at OK HOB
    clear hsz
    generalize w.heap.size + 1 = ob at OK HOB ⊢
    obtain ⟨b0, hb0⟩ : ∃ b, b = w.heap.size := ⟨_, rfl⟩
    rw [← hb0] at XK ⊢
    clear hb0
    (have q0 := XK.out.ob.cell 0 _ rfl; have q1 := XK.out.ob.cell 1 _ rfl; have q2 := XK.out.ob.cell 2 _ rfl; have q3 := XK.out.ob.cell 3 _ rfl; have q4 := XK.out.ob.cell 4 _ rfl; have q5 := XK.out.ob.cell 5 _ rfl; have q6 := XK.out.ob.cell 6 _ rfl; have q7 := XK.out.ob.cell 7 _ rfl)
    (have o0 := OK.out.cell 0 _ rfl; have o1 := OK.out.cell 1 _ rfl; have f0 := OK.out.free 0; have f1 := OK.out.free 1)
)
    go_wp2_with (go_at_call 39; refine (RIG.out _ XK.out.ok).mono ?_; rintro e Wc ⟨rfl, hb⟩; replace XK := Lib.hid (XK.out.below hb); replace OK := Lib.hid (OK.out.below hb); clear hb; (replace q0 := XK.out.ob.cell 0 _ rfl; replace q1 := XK.out.ob.cell 1 _ rfl; replace q2 := XK.out.ob.cell 2 _ rfl; replace q3 := XK.out.ob.cell 3 _ rfl; replace q4 := XK.out.ob.cell 4 _ rfl; replace q5 := XK.out.ob.cell 5 _ rfl; replace q6 := XK.out.ob.cell 6 _ rfl; replace q7 := XK.out.ob.cell 7 _ rfl); (replace o0 := OK.out.cell 0 _ rfl; replace o1 := OK.out.cell 1 _ rfl; replace f0 := OK.out.free 0; replace f1 := OK.out.free 1))
    ((try simp only [Exit.inBlock, Exit.then]); refine bodyPost_ret (v := .agg #[.int .i64 (0), .int .i64 (0)]) ?_ rfl ⟨rfl, (XK.out.bel.setCell (p := ⟨ob, 0, none⟩) HOB.out _).setCell (p := ⟨ob, 1, none⟩) HOB.out _⟩; exact results_cell_row rfl _ _ ob _ _ (0, 0) _ rfl ((OK.out.set 0 (.int .i64 (0))).set 1 (.int .i64 (0))) Try.underlying47 rfl info_own)
  | true =>
    have hrt := rt_of hr
    have hg := hrt.gok
    (have RIG : Hid (∀ W, CfgOk W c → Calls Try.prog 39 #[(.agg #[.int .i64 c.cats, .slice c.g.a c.g.l.length c.g.cap, .slice c.r.a c.r.l.length c.r.cap, .slice c.p.a c.p.l.length c.p.cap, .slice c.n.a c.n.l.length c.n.cap, .slice c.s.a c.s.l.length c.s.cap, .int .i64 c.gate, .int .i64 c.quota])] W fun e w' => e = .returned (.bool true) ∧ Below W.heap.size W w') := fun W hc => by rw [← hr]; exact right_any c _ hc)
    (have NEE : Hid (∀ W, CfgOk W c → Calls Try.prog 36 #[(.agg #[.int .i64 c.cats, .slice c.g.a c.g.l.length c.g.cap, .slice c.r.a c.r.l.length c.r.cap, .slice c.p.a c.p.l.length c.p.cap, .slice c.n.a c.n.l.length c.n.cap, .slice c.s.a c.s.l.length c.s.cap, .int .i64 c.gate, .int .i64 c.quota])] W fun e w' => e = .returned (.int .i64 (needV c)) ∧ Below W.heap.size W w') := fun W hc => need_any c hg _ hc)
    by_cases h1 : f < 0
    · have d1 : decide (f < 0) = true := by simp [h1]
      obtain rfl : x = (0, 0) := by rw [HF.out, if_neg (by simp; omega)]
      clear hr HF hrt hg h1
      (
    have h0 := CX.new h
    go_enter Try.func12, Try.ntmps12
    go_upto_region 1 with fail
    have hob := h0.bel.size
    have hsz : (w.alloc (.cells #[.int .i64 c.cats, .slice c.g.a c.g.l.length c.g.cap, .slice c.r.a c.r.l.length c.r.cap, .slice c.p.a c.p.l.length c.p.cap, .slice c.n.a c.n.l.length c.n.cap, .slice c.s.a c.s.l.length c.s.cap, .int .i64 c.gate, .int .i64 c.quota] 28)).heap.size = w.heap.size + 1 := by simp
    generalize w.alloc (.cells #[.int .i64 c.cats, .slice c.g.a c.g.l.length c.g.cap, .slice c.r.a c.r.l.length c.r.cap, .slice c.p.a c.p.l.length c.p.cap, .slice c.n.a c.n.l.length c.n.cap, .slice c.s.a c.s.l.length c.s.cap, .int .i64 c.gate, .int .i64 c.quota] 28) = W1 at h0 hob hsz ⊢
    have XK : Hid (CX w (W1.alloc (.cells #[.int .i64 0, .int .i64 0] 47)) w.heap.size c) := h0.below ((Below.refl _ _).alloc (Nat.le_refl _) _)
    have OK : Hid (ObjAt (W1.alloc (.cells #[.int .i64 0, .int .i64 0] 47)) W1.heap.size 47 [.int .i64 0, .int .i64 0]) := ObjAt.new W1 _ _
    have HOB := Lib.hid hob
    clear h0 h hob
    generalize W1.alloc (.cells #[.int .i64 0, .int .i64 0] 47) = W2 at XK OK ⊢
    rw [hsz] at OK HOB
    clear hsz
    generalize w.heap.size + 1 = ob at OK HOB ⊢
    obtain ⟨b0, hb0⟩ : ∃ b, b = w.heap.size := ⟨_, rfl⟩
    rw [← hb0] at XK ⊢
    clear hb0
    (have q0 := XK.out.ob.cell 0 _ rfl; have q1 := XK.out.ob.cell 1 _ rfl; have q2 := XK.out.ob.cell 2 _ rfl; have q3 := XK.out.ob.cell 3 _ rfl; have q4 := XK.out.ob.cell 4 _ rfl; have q5 := XK.out.ob.cell 5 _ rfl; have q6 := XK.out.ob.cell 6 _ rfl; have q7 := XK.out.ob.cell 7 _ rfl)
    (have o0 := OK.out.cell 0 _ rfl; have o1 := OK.out.cell 1 _ rfl; have f0 := OK.out.free 0; have f1 := OK.out.free 1)
)
      go_wp2_with (first | (go_at_call 39; refine (RIG.out _ XK.out.ok).mono ?_; rintro e Wc ⟨rfl, hb⟩; replace XK := Lib.hid (XK.out.below hb); replace OK := Lib.hid (OK.out.below hb); clear hb; (replace q0 := XK.out.ob.cell 0 _ rfl; replace q1 := XK.out.ob.cell 1 _ rfl; replace q2 := XK.out.ob.cell 2 _ rfl; replace q3 := XK.out.ob.cell 3 _ rfl; replace q4 := XK.out.ob.cell 4 _ rfl; replace q5 := XK.out.ob.cell 5 _ rfl; replace q6 := XK.out.ob.cell 6 _ rfl; replace q7 := XK.out.ob.cell 7 _ rfl); (replace o0 := OK.out.cell 0 _ rfl; replace o1 := OK.out.cell 1 _ rfl; replace f0 := OK.out.free 0; replace f1 := OK.out.free 1)) | (go_at_call 36; refine (NEE.out _ XK.out.ok).mono ?_; rintro e Wc ⟨rfl, hb⟩; replace XK := Lib.hid (XK.out.below hb); replace OK := Lib.hid (OK.out.below hb); clear hb; (replace q0 := XK.out.ob.cell 0 _ rfl; replace q1 := XK.out.ob.cell 1 _ rfl; replace q2 := XK.out.ob.cell 2 _ rfl; replace q3 := XK.out.ob.cell 3 _ rfl; replace q4 := XK.out.ob.cell 4 _ rfl; replace q5 := XK.out.ob.cell 5 _ rfl; replace q6 := XK.out.ob.cell 6 _ rfl; replace q7 := XK.out.ob.cell 7 _ rfl); (replace o0 := OK.out.cell 0 _ rfl; replace o1 := OK.out.cell 1 _ rfl; replace f0 := OK.out.free 0; replace f1 := OK.out.free 1)))
      ((try simp only [Exit.inBlock, Exit.then]); refine bodyPost_ret (v := .agg #[.int .i64 (0), .int .i64 (0)]) ?_ rfl ⟨rfl, (XK.out.bel.setCell (p := ⟨ob, 0, none⟩) HOB.out _).setCell (p := ⟨ob, 1, none⟩) HOB.out _⟩; exact results_cell_row rfl _ _ ob _ _ (0, 0) _ rfl ((OK.out.set 0 (.int .i64 (0))).set 1 (.int .i64 (0))) Try.underlying47 rfl info_own)
    · have d1 : decide (f < 0) = false := by simp; omega
      by_cases h2 : needV c ≤ f
      · have d2 : decide (f ≥ needV c) = true := by simp [h2]
        obtain rfl : x = (0, 0) := by rw [HF.out, if_neg (by simp; omega)]
        clear hr HF hrt hg h1 h2
        (
    have h0 := CX.new h
    go_enter Try.func12, Try.ntmps12
    go_upto_region 1 with fail
    have hob := h0.bel.size
    have hsz : (w.alloc (.cells #[.int .i64 c.cats, .slice c.g.a c.g.l.length c.g.cap, .slice c.r.a c.r.l.length c.r.cap, .slice c.p.a c.p.l.length c.p.cap, .slice c.n.a c.n.l.length c.n.cap, .slice c.s.a c.s.l.length c.s.cap, .int .i64 c.gate, .int .i64 c.quota] 28)).heap.size = w.heap.size + 1 := by simp
    generalize w.alloc (.cells #[.int .i64 c.cats, .slice c.g.a c.g.l.length c.g.cap, .slice c.r.a c.r.l.length c.r.cap, .slice c.p.a c.p.l.length c.p.cap, .slice c.n.a c.n.l.length c.n.cap, .slice c.s.a c.s.l.length c.s.cap, .int .i64 c.gate, .int .i64 c.quota] 28) = W1 at h0 hob hsz ⊢
    have XK : Hid (CX w (W1.alloc (.cells #[.int .i64 0, .int .i64 0] 47)) w.heap.size c) := h0.below ((Below.refl _ _).alloc (Nat.le_refl _) _)
    have OK : Hid (ObjAt (W1.alloc (.cells #[.int .i64 0, .int .i64 0] 47)) W1.heap.size 47 [.int .i64 0, .int .i64 0]) := ObjAt.new W1 _ _
    have HOB := Lib.hid hob
    clear h0 h hob
    generalize W1.alloc (.cells #[.int .i64 0, .int .i64 0] 47) = W2 at XK OK ⊢
    rw [hsz] at OK HOB
    clear hsz
    generalize w.heap.size + 1 = ob at OK HOB ⊢
    obtain ⟨b0, hb0⟩ : ∃ b, b = w.heap.size := ⟨_, rfl⟩
    rw [← hb0] at XK ⊢
    clear hb0
    (have q0 := XK.out.ob.cell 0 _ rfl; have q1 := XK.out.ob.cell 1 _ rfl; have q2 := XK.out.ob.cell 2 _ rfl; have q3 := XK.out.ob.cell 3 _ rfl; have q4 := XK.out.ob.cell 4 _ rfl; have q5 := XK.out.ob.cell 5 _ rfl; have q6 := XK.out.ob.cell 6 _ rfl; have q7 := XK.out.ob.cell 7 _ rfl)
    (have o0 := OK.out.cell 0 _ rfl; have o1 := OK.out.cell 1 _ rfl; have f0 := OK.out.free 0; have f1 := OK.out.free 1)
)
        go_wp2_with (first | (go_at_call 39; refine (RIG.out _ XK.out.ok).mono ?_; rintro e Wc ⟨rfl, hb⟩; replace XK := Lib.hid (XK.out.below hb); replace OK := Lib.hid (OK.out.below hb); clear hb; (replace q0 := XK.out.ob.cell 0 _ rfl; replace q1 := XK.out.ob.cell 1 _ rfl; replace q2 := XK.out.ob.cell 2 _ rfl; replace q3 := XK.out.ob.cell 3 _ rfl; replace q4 := XK.out.ob.cell 4 _ rfl; replace q5 := XK.out.ob.cell 5 _ rfl; replace q6 := XK.out.ob.cell 6 _ rfl; replace q7 := XK.out.ob.cell 7 _ rfl); (replace o0 := OK.out.cell 0 _ rfl; replace o1 := OK.out.cell 1 _ rfl; replace f0 := OK.out.free 0; replace f1 := OK.out.free 1)) | (go_at_call 36; refine (NEE.out _ XK.out.ok).mono ?_; rintro e Wc ⟨rfl, hb⟩; replace XK := Lib.hid (XK.out.below hb); replace OK := Lib.hid (OK.out.below hb); clear hb; (replace q0 := XK.out.ob.cell 0 _ rfl; replace q1 := XK.out.ob.cell 1 _ rfl; replace q2 := XK.out.ob.cell 2 _ rfl; replace q3 := XK.out.ob.cell 3 _ rfl; replace q4 := XK.out.ob.cell 4 _ rfl; replace q5 := XK.out.ob.cell 5 _ rfl; replace q6 := XK.out.ob.cell 6 _ rfl; replace q7 := XK.out.ob.cell 7 _ rfl); (replace o0 := OK.out.cell 0 _ rfl; replace o1 := OK.out.cell 1 _ rfl; replace f0 := OK.out.free 0; replace f1 := OK.out.free 1)))
        ((try simp only [Exit.inBlock, Exit.then]); refine bodyPost_ret (v := .agg #[.int .i64 (0), .int .i64 (0)]) ?_ rfl ⟨rfl, (XK.out.bel.setCell (p := ⟨ob, 0, none⟩) HOB.out _).setCell (p := ⟨ob, 1, none⟩) HOB.out _⟩; exact results_cell_row rfl _ _ ob _ _ (0, 0) _ rfl ((OK.out.set 0 (.int .i64 (0))).set 1 (.int .i64 (0))) Try.underlying47 rfl info_own)
      · have d2 : decide (f ≥ needV c) = false := by simp; omega
        have hx : x = match (List.range c.g.l.length).find? fun i => decide (f < sumG (c.g.l.take (i + 1))) with
          | some i => ((1 : Int), (i : Int))
          | none => (2, f - sumG c.g.l) := by rw [HF.out, if_pos (by simp [hr]; omega)]
        have BEH : Hid (∀ (n : Nat) W, n ≤ c.g.l.length → CfgOk W c → Calls Try.prog 42 #[(.agg #[.int .i64 c.cats, .slice c.g.a c.g.l.length c.g.cap, .slice c.r.a c.r.l.length c.r.cap, .slice c.p.a c.p.l.length c.p.cap, .slice c.n.a c.n.l.length c.n.cap, .slice c.s.a c.s.l.length c.s.cap, .int .i64 c.gate, .int .i64 c.quota]), .int .i64 n] W fun e w' => e = .returned (.int .i64 (sumG (c.g.l.take n))) ∧ Below W.heap.size W w') := fun n W hn hc => behind_any c hg hrt.g1 n hn _ hc
        have HX := Lib.hid hx
        have HN := Lib.hid hrt.need
        have HG := Lib.hid hg
        have hl4 := hg.g
        have F1 : Hid (0 ≤ f ∧ f < needV c) := ⟨by omega, by omega⟩
        clear hr HF hrt hg h1 h2 hx
        (
    have h0 := CX.new h
    go_enter Try.func12, Try.ntmps12
    go_upto_region 1 with fail
    have hob := h0.bel.size
    have hsz : (w.alloc (.cells #[.int .i64 c.cats, .slice c.g.a c.g.l.length c.g.cap, .slice c.r.a c.r.l.length c.r.cap, .slice c.p.a c.p.l.length c.p.cap, .slice c.n.a c.n.l.length c.n.cap, .slice c.s.a c.s.l.length c.s.cap, .int .i64 c.gate, .int .i64 c.quota] 28)).heap.size = w.heap.size + 1 := by simp
    generalize w.alloc (.cells #[.int .i64 c.cats, .slice c.g.a c.g.l.length c.g.cap, .slice c.r.a c.r.l.length c.r.cap, .slice c.p.a c.p.l.length c.p.cap, .slice c.n.a c.n.l.length c.n.cap, .slice c.s.a c.s.l.length c.s.cap, .int .i64 c.gate, .int .i64 c.quota] 28) = W1 at h0 hob hsz ⊢
    have XK : Hid (CX w (W1.alloc (.cells #[.int .i64 0, .int .i64 0] 47)) w.heap.size c) := h0.below ((Below.refl _ _).alloc (Nat.le_refl _) _)
    have OK : Hid (ObjAt (W1.alloc (.cells #[.int .i64 0, .int .i64 0] 47)) W1.heap.size 47 [.int .i64 0, .int .i64 0]) := ObjAt.new W1 _ _
    have HOB := Lib.hid hob
    clear h0 h hob
    generalize W1.alloc (.cells #[.int .i64 0, .int .i64 0] 47) = W2 at XK OK ⊢
    rw [hsz] at OK HOB
    clear hsz
    generalize w.heap.size + 1 = ob at OK HOB ⊢
    obtain ⟨b0, hb0⟩ : ∃ b, b = w.heap.size := ⟨_, rfl⟩
    rw [← hb0] at XK ⊢
    clear hb0
    (have q0 := XK.out.ob.cell 0 _ rfl; have q1 := XK.out.ob.cell 1 _ rfl; have q2 := XK.out.ob.cell 2 _ rfl; have q3 := XK.out.ob.cell 3 _ rfl; have q4 := XK.out.ob.cell 4 _ rfl; have q5 := XK.out.ob.cell 5 _ rfl; have q6 := XK.out.ob.cell 6 _ rfl; have q7 := XK.out.ob.cell 7 _ rfl)
    (have o0 := OK.out.cell 0 _ rfl; have o1 := OK.out.cell 1 _ rfl; have f0 := OK.out.free 0; have f1 := OK.out.free 1)
)
        go_upto_region 4 with (first | (go_at_call 39; refine (RIG.out _ XK.out.ok).mono ?_; rintro e Wc ⟨rfl, hb⟩; replace XK := Lib.hid (XK.out.below hb); replace OK := Lib.hid (OK.out.below hb); clear hb; (replace q0 := XK.out.ob.cell 0 _ rfl; replace q1 := XK.out.ob.cell 1 _ rfl; replace q2 := XK.out.ob.cell 2 _ rfl; replace q3 := XK.out.ob.cell 3 _ rfl; replace q4 := XK.out.ob.cell 4 _ rfl; replace q5 := XK.out.ob.cell 5 _ rfl; replace q6 := XK.out.ob.cell 6 _ rfl; replace q7 := XK.out.ob.cell 7 _ rfl); (replace o0 := OK.out.cell 0 _ rfl; replace o1 := OK.out.cell 1 _ rfl; replace f0 := OK.out.free 0; replace f1 := OK.out.free 1)) | (go_at_call 36; refine (NEE.out _ XK.out.ok).mono ?_; rintro e Wc ⟨rfl, hb⟩; replace XK := Lib.hid (XK.out.below hb); replace OK := Lib.hid (OK.out.below hb); clear hb; (replace q0 := XK.out.ob.cell 0 _ rfl; replace q1 := XK.out.ob.cell 1 _ rfl; replace q2 := XK.out.ob.cell 2 _ rfl; replace q3 := XK.out.ob.cell 3 _ rfl; replace q4 := XK.out.ob.cell 4 _ rfl; replace q5 := XK.out.ob.cell 5 _ rfl; replace q6 := XK.out.ob.cell 6 _ rfl; replace q7 := XK.out.ob.cell 7 _ rfl); (replace o0 := OK.out.cell 0 _ rfl; replace o1 := OK.out.cell 1 _ rfl; replace f0 := OK.out.free 0; replace f1 := OK.out.free 1)))
        clear q0 q1 q2 q3 q4 q5 q6 q7 o0 o1 f0 f1
        go_loopw [23] (fun z wr => ∃ k : Nat, k ≤ c.g.l.length ∧ z = .int .i64 k ∧ CX w wr b0 c ∧ ObjAt wr ob 47 [.int .i64 0, .int .i64 0] ∧ ∀ j, j < k → sumG (c.g.l.take (j + 1)) ≤ f) (fun z _ => c.g.l.length - (intOf z).toNat)
        case atStart => exact ⟨0, by omega, rfl, XK.out, OK.out, fun j hj => by omega⟩
        case round =>
          clear XK OK
          obtain ⟨k, hk, rfl, hxk, hok, hj⟩ := hrel
          have XK := Lib.hid hxk
          have OK := Lib.hid hok
          have HJ := Lib.hid hj
          clear hxk hok hj
          (have q0 := XK.out.ob.cell 0 _ rfl; have q1 := XK.out.ob.cell 1 _ rfl; have q2 := XK.out.ob.cell 2 _ rfl; have q3 := XK.out.ob.cell 3 _ rfl; have q4 := XK.out.ob.cell 4 _ rfl; have q5 := XK.out.ob.cell 5 _ rfl; have q6 := XK.out.ob.cell 6 _ rfl; have q7 := XK.out.ob.cell 7 _ rfl)
          (have o0 := OK.out.cell 0 _ rfl; have o1 := OK.out.cell 1 _ rfl; have f0 := OK.out.free 0; have f1 := OK.out.free 1)
          by_cases hkl : k < c.g.l.length
          · have dk : decide ((k : Int) < (c.g.l.length : Int)) = true := by simp; omega
            have w1 : IntKind.i64.wrap ((k : Int) + 1) = (k : Int) + 1 := by rw [IntKind.wrap_i64]; omega
            have B1 := BEH.out (k + 1)
            have BE : Hid (∀ W, CfgOk W c → Calls Try.prog 42 #[(.agg #[.int .i64 c.cats, .slice c.g.a c.g.l.length c.g.cap, .slice c.r.a c.r.l.length c.r.cap, .slice c.p.a c.p.l.length c.p.cap, .slice c.n.a c.n.l.length c.n.cap, .slice c.s.a c.s.l.length c.s.cap, .int .i64 c.gate, .int .i64 c.quota]), .int .i64 ((k : Int) + 1)] W fun e w' => e = .returned (.int .i64 (sumG (c.g.l.take (k + 1)))) ∧ Below W.heap.size W w') := fun W hc => BEH.out (k + 1) W (by omega) hc
            clear B1
            by_cases h3 : f < sumG (c.g.l.take (k + 1))
            · have d3 : decide (f < sumG (c.g.l.take (k + 1))) = true := by simp [h3]
              have hx : x = (1, (k : Int)) := by
                rw [HX.out]
                have : (List.range c.g.l.length).find? (fun i => decide (f < sumG (c.g.l.take (i + 1)))) = some k := by
                  rw [List.find?_range_eq_some]
                  exact ⟨by simp [h3], List.mem_range.2 hkl, fun j hj => by simpa using HJ.out j hj⟩
                rw [this]
              subst hx
              generalize sumG (c.g.l.take (k + 1)) = sk at d3 BE
              clear h3
              go_wp2_with (go_at_call 42; refine (BE.out _ XK.out.ok).mono ?_; rintro e Wc ⟨rfl, hb⟩; replace XK := Lib.hid (XK.out.below hb); replace OK := Lib.hid (OK.out.below hb); clear hb; (replace q0 := XK.out.ob.cell 0 _ rfl; replace q1 := XK.out.ob.cell 1 _ rfl; replace q2 := XK.out.ob.cell 2 _ rfl; replace q3 := XK.out.ob.cell 3 _ rfl; replace q4 := XK.out.ob.cell 4 _ rfl; replace q5 := XK.out.ob.cell 5 _ rfl; replace q6 := XK.out.ob.cell 6 _ rfl; replace q7 := XK.out.ob.cell 7 _ rfl); (replace o0 := OK.out.cell 0 _ rfl; replace o1 := OK.out.cell 1 _ rfl; replace f0 := OK.out.free 0; replace f1 := OK.out.free 1))
              ((try simp only [Exit.inBlock, Exit.then]); refine bodyPost_ret (v := .agg #[.int .i64 (1), .int .i64 (k)]) ?_ rfl ⟨rfl, (XK.out.bel.setCell (p := ⟨ob, 0, none⟩) HOB.out _).setCell (p := ⟨ob, 1, none⟩) HOB.out _⟩; exact results_cell_row rfl _ _ ob _ _ (0, 0) _ rfl ((OK.out.set 0 (.int .i64 (1))).set 1 (.int .i64 (k))) Try.underlying47 rfl info_own)
            · have d3 : decide (f < sumG (c.g.l.take (k + 1))) = false := by simpa using h3
              have HJ2 : Hid (∀ j, j < k + 1 → sumG (c.g.l.take (j + 1)) ≤ f) := fun j hj => by
                by_cases hjk : j = k
                · rw [hjk]; omega
                · exact HJ.out j (by omega)
              generalize sumG (c.g.l.take (k + 1)) = sk at d3 BE
              clear h3
              go_wp2_with (go_at_call 42; refine (BE.out _ XK.out.ok).mono ?_; rintro e Wc ⟨rfl, hb⟩; replace XK := Lib.hid (XK.out.below hb); replace OK := Lib.hid (OK.out.below hb); clear hb; (replace q0 := XK.out.ob.cell 0 _ rfl; replace q1 := XK.out.ob.cell 1 _ rfl; replace q2 := XK.out.ob.cell 2 _ rfl; replace q3 := XK.out.ob.cell 3 _ rfl; replace q4 := XK.out.ob.cell 4 _ rfl; replace q5 := XK.out.ob.cell 5 _ rfl; replace q6 := XK.out.ob.cell 6 _ rfl; replace q7 := XK.out.ob.cell 7 _ rfl); (replace o0 := OK.out.cell 0 _ rfl; replace o1 := OK.out.cell 1 _ rfl; replace f0 := OK.out.free 0; replace f1 := OK.out.free 1))
              go_roundw
              case rel => exact ⟨k + 1, by omega, by go_num, XK.out, OK.out, HJ2.out⟩
              case measure => simp [intOf]; omega
          · have dk : decide ((k : Int) < (c.g.l.length : Int)) = false := by simp; omega
            have hkk : k = c.g.l.length := by omega
            have hx : x = (2, f - sumG c.g.l) := by
              rw [HX.out]
              have : (List.range c.g.l.length).find? (fun i => decide (f < sumG (c.g.l.take (i + 1)))) = none := by
                rw [List.find?_eq_none]; intro j hj; simpa using HJ.out j (by have := List.mem_range.1 hj; omega)
              rw [this]
            subst hx
            have BE : Hid (∀ W, CfgOk W c → Calls Try.prog 42 #[(.agg #[.int .i64 c.cats, .slice c.g.a c.g.l.length c.g.cap, .slice c.r.a c.r.l.length c.r.cap, .slice c.p.a c.p.l.length c.p.cap, .slice c.n.a c.n.l.length c.n.cap, .slice c.s.a c.s.l.length c.s.cap, .int .i64 c.gate, .int .i64 c.quota]), .int .i64 c.g.l.length] W fun e w' => e = .returned (.int .i64 (sumG c.g.l)) ∧ Below W.heap.size W w') := fun W hc => by
              have := BEH.out c.g.l.length W (by omega) hc
              rwa [List.take_length] at this
            have hw : IntKind.i64.wrap (f - sumG c.g.l) = f - sumG c.g.l := by
              have := sumG_bound c.g.l HG.out.row; have := F1.out; have := HN.out
              rw [IntKind.wrap_i64]; omega
            go_wp2_with (go_at_call 42; refine (BE.out _ XK.out.ok).mono ?_; rintro e Wc ⟨rfl, hb⟩; replace XK := Lib.hid (XK.out.below hb); replace OK := Lib.hid (OK.out.below hb); clear hb; (replace q0 := XK.out.ob.cell 0 _ rfl; replace q1 := XK.out.ob.cell 1 _ rfl; replace q2 := XK.out.ob.cell 2 _ rfl; replace q3 := XK.out.ob.cell 3 _ rfl; replace q4 := XK.out.ob.cell 4 _ rfl; replace q5 := XK.out.ob.cell 5 _ rfl; replace q6 := XK.out.ob.cell 6 _ rfl; replace q7 := XK.out.ob.cell 7 _ rfl); (replace o0 := OK.out.cell 0 _ rfl; replace o1 := OK.out.cell 1 _ rfl; replace f0 := OK.out.free 0; replace f1 := OK.out.free 1))
            ((try simp only [Exit.inBlock, Exit.then]); refine bodyPost_ret (v := .agg #[.int .i64 (2), .int .i64 (f - sumG c.g.l)]) ?_ rfl ⟨rfl, (XK.out.bel.setCell (p := ⟨ob, 0, none⟩) HOB.out _).setCell (p := ⟨ob, 1, none⟩) HOB.out _⟩; exact results_cell_row rfl _ _ ob _ _ (0, 0) _ rfl ((OK.out.set 0 (.int .i64 (2))).set 1 (.int .i64 (f - sumG c.g.l))) Try.underlying47 rfl info_own)
end Go.Proofs.Ytmchaaelpbifgaa
