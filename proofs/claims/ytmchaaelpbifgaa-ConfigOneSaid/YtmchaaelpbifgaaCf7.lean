/- Chapter 4: what a right configuration is, and what is asked of it. -/
import Derived.Test.YtmchaaelpbifgaaCf6
namespace Go.Proofs.Ytmchaaelpbifgaa
set_option linter.unusedVariables false
set_option linter.unusedSimpArgs false
set_option linter.unnecessarySimpa false
open Go.RowKit
set_option maxHeartbeats 2000000
set_option maxRecDepth 100000
set_option linter.unusedVariables false
variable {W W' w : World} {c : Cv} {b N : Nat} {s : Sl}
def rightV (c : Cv) : Bool := (chkV c).1 == 0
/-- What is known of a right one. -/
structure Rt (c : Cv) : Prop where
  cats : 0 ≤ c.cats ∧ c.cats ≤ 8
  rule : ∀ j, j < 6 → (ruleV c j).2 = false
  need : needV c ≤ 32
theorem rt_of (h : rightV c = true) : Rt c := by
  simp only [rightV, beq_iff_eq] at h
  unfold chkV at h
  split at h
  · simp at h
  · rename_i h1
    cases hf : (List.range 6).find? (fun k => (ruleV c k).2) with
    | some k => rw [hf] at h; dsimp only at h; omega
    | none =>
      rw [hf] at h
      dsimp only at h
      rw [List.find?_eq_none] at hf
      refine ⟨by omega, fun j hj => by simpa using hf j (List.mem_range.2 hj), ?_⟩
      split at h
      · simp at h
      · omega
theorem of_rt (h : Rt c) : chkV c = (0, 0) := by
  have := h.cats; have := h.need
  rw [chkV, if_neg (by omega), rule_none h.rule]
  dsimp only
  rw [if_neg (by omega)]
theorem Rt.gok (h : Rt c) : GOk c := gok_of (h.rule 0 (by omega)) (h.rule 3 (by omega))
theorem Rt.g1 (h : Rt c) : 1 ≤ c.g.l.length := by
  have := h.rule 0 (by omega); simp only [ruleV] at this; unfold gFst at this; split at this
  · cases this
  · omega
theorem Rt.sl (h : Rt c) : 1 ≤ c.s.l.length ∧ c.s.l.length ≤ 8 ∧ ∀ i, i < c.s.l.length → sBad c i = false := by
  have := h.rule 4 (by omega); simp only [ruleV] at this; unfold sFst at this; split at this
  · cases this
  · exact ⟨by omega, by omega, fstV_false this⟩
theorem Rt.p (h : Rt c) : c.p.l.length ≤ 8 ∧ ∀ i, i < c.p.l.length → pBad c i = false := by
  have := h.rule 2 (by omega); simp only [ruleV] at this; unfold pFst at this; split at this
  · cases this
  · exact ⟨by omega, fstV_false this⟩
theorem Rt.n (h : Rt c) : c.n.l.length ≤ 4 ∧ ∀ i, i < c.n.l.length → nBad c i = false := by
  have := h.rule 3 (by omega); simp only [ruleV] at this; unfold nFst at this; split at this
  · cases this
  · exact ⟨by omega, fstV_false this⟩
theorem Rt.r (h : Rt c) : c.r.l.length ≤ 8 ∧ ∀ i, i < c.r.l.length → rBad c i = false := by
  have := h.rule 1 (by omega); simp only [ruleV] at this; unfold rFst at this; split at this
  · cases this
  · exact ⟨by omega, fstV_false this⟩
theorem Rt.g (h : Rt c) : c.g.l.length ≤ 4 ∧ ∀ i, i < c.g.l.length → gBad c i = false := by
  have := h.rule 0 (by omega); simp only [ruleV] at this; unfold gFst at this; split at this
  · cases this
  · exact ⟨by omega, fstV_false this⟩
theorem Rt.gate (h : Rt c) : gateB c = false := h.rule 5 (by omega)
theorem Rt.quota (h : Rt c) : 0 ≤ c.quota ∧ c.quota ≤ 64 := by
  have := h.gate
  unfold gateB at this
  split at this
  · simp at this; omega
  · simp only [Bool.or_eq_false_iff, decide_eq_false_iff_not] at this; omega
theorem right_any (c : Cv) (w : World) (h : CfgOk w c) : Calls Try.prog 39 #[(.agg #[.int .i64 c.cats, .slice c.g.a c.g.l.length c.g.cap, .slice c.r.a c.r.l.length c.r.cap, .slice c.p.a c.p.l.length c.p.cap, .slice c.n.a c.n.l.length c.n.cap, .slice c.s.a c.s.l.length c.s.cap, .int .i64 c.gate, .int .i64 c.quota])] w fun e w' => e = .returned (.bool (rightV c)) ∧ Below w.heap.size w w' := by
  have HR : Hid (rightV c = ((chkV c).1 == 0)) := rfl
  obtain ⟨y, hy⟩ : ∃ y, y = rightV c := ⟨_, rfl⟩
  obtain ⟨z, hz⟩ : ∃ z, z = chkV c := ⟨_, rfl⟩
  rw [← hy, ← hz] at HR
  have CHK : Hid (∀ W, CfgOk W c → Calls Try.prog 7 #[(.agg #[.int .i64 c.cats, .slice c.g.a c.g.l.length c.g.cap, .slice c.r.a c.r.l.length c.r.cap, .slice c.p.a c.p.l.length c.p.cap, .slice c.n.a c.n.l.length c.n.cap, .slice c.s.a c.s.l.length c.s.cap, .int .i64 c.gate, .int .i64 c.quota])] W fun e w' => e = .returned (.tuple #[.int .i64 z.1, .int .i64 z.2]) ∧ Below W.heap.size W w') := fun W hc => by rw [hz]; exact check_any c _ hc
  rw [← hy]
  clear hy hz
  (have h0 := CX.new h; go_enter Try.func39, Try.ntmps39; go_upto_region 1 with fail; generalize w.alloc (.cells #[.int .i64 c.cats, .slice c.g.a c.g.l.length c.g.cap, .slice c.r.a c.r.l.length c.r.cap, .slice c.p.a c.p.l.length c.p.cap, .slice c.n.a c.n.l.length c.n.cap, .slice c.s.a c.s.l.length c.s.cap, .int .i64 c.gate, .int .i64 c.quota] 28) = W1 at h0 ⊢; generalize w.heap.size = b0 at h0 ⊢; have H0 := Lib.hid h0; clear h0 h)
  have XK := H0
  (have q0 := XK.out.ob.cell 0 _ rfl; have q1 := XK.out.ob.cell 1 _ rfl; have q2 := XK.out.ob.cell 2 _ rfl; have q3 := XK.out.ob.cell 3 _ rfl; have q4 := XK.out.ob.cell 4 _ rfl; have q5 := XK.out.ob.cell 5 _ rfl; have q6 := XK.out.ob.cell 6 _ rfl; have q7 := XK.out.ob.cell 7 _ rfl)
  go_wp2_with (go_at_call 7; refine (CHK.out _ XK.out.ok).mono ?_; rintro e Wc ⟨rfl, hb⟩; replace XK := Lib.hid (XK.out.below hb); clear hb; (replace q0 := XK.out.ob.cell 0 _ rfl; replace q1 := XK.out.ob.cell 1 _ rfl; replace q2 := XK.out.ob.cell 2 _ rfl; replace q3 := XK.out.ob.cell 3 _ rfl; replace q4 := XK.out.ob.cell 4 _ rfl; replace q5 := XK.out.ob.cell 5 _ rfl; replace q6 := XK.out.ob.cell 6 _ rfl; replace q7 := XK.out.ob.cell 7 _ rfl))
  go_ret
  exact ⟨by rw [HR.out]; rfl, XK.out.bel⟩
def framesV (c : Cv) : Int := if rightV c then needV c else 0
theorem frames_any (c : Cv) (w : World) (h : CfgOk w c) : Calls Try.prog 11 #[(.agg #[.int .i64 c.cats, .slice c.g.a c.g.l.length c.g.cap, .slice c.r.a c.r.l.length c.r.cap, .slice c.p.a c.p.l.length c.p.cap, .slice c.n.a c.n.l.length c.n.cap, .slice c.s.a c.s.l.length c.s.cap, .int .i64 c.gate, .int .i64 c.quota])] w fun e w' => e = .returned (.int .i64 (framesV c)) ∧ Below w.heap.size w w' := by
  have HF : Hid (framesV c = if rightV c then needV c else 0) := rfl
  obtain ⟨x, hx⟩ : ∃ x, x = framesV c := ⟨_, rfl⟩
  rw [← hx] at HF ⊢
  clear hx
  cases hr : rightV c with
  | false =>
    obtain rfl : x = 0 := by rw [HF.out, hr]; rfl
    (have RIG : Hid (∀ W, CfgOk W c → Calls Try.prog 39 #[(.agg #[.int .i64 c.cats, .slice c.g.a c.g.l.length c.g.cap, .slice c.r.a c.r.l.length c.r.cap, .slice c.p.a c.p.l.length c.p.cap, .slice c.n.a c.n.l.length c.n.cap, .slice c.s.a c.s.l.length c.s.cap, .int .i64 c.gate, .int .i64 c.quota])] W fun e w' => e = .returned (.bool false) ∧ Below W.heap.size W w') := fun W hc => by rw [← hr]; exact right_any c _ hc)
    clear hr HF
    (have h0 := CX.new h; go_enter Try.func11, Try.ntmps11; go_upto_region 1 with fail; generalize w.alloc (.cells #[.int .i64 c.cats, .slice c.g.a c.g.l.length c.g.cap, .slice c.r.a c.r.l.length c.r.cap, .slice c.p.a c.p.l.length c.p.cap, .slice c.n.a c.n.l.length c.n.cap, .slice c.s.a c.s.l.length c.s.cap, .int .i64 c.gate, .int .i64 c.quota] 28) = W1 at h0 ⊢; generalize w.heap.size = b0 at h0 ⊢; have H0 := Lib.hid h0; clear h0 h)
    have XK := H0
    (have q0 := XK.out.ob.cell 0 _ rfl; have q1 := XK.out.ob.cell 1 _ rfl; have q2 := XK.out.ob.cell 2 _ rfl; have q3 := XK.out.ob.cell 3 _ rfl; have q4 := XK.out.ob.cell 4 _ rfl; have q5 := XK.out.ob.cell 5 _ rfl; have q6 := XK.out.ob.cell 6 _ rfl; have q7 := XK.out.ob.cell 7 _ rfl)
    go_wp2_with (go_at_call 39; refine (RIG.out _ XK.out.ok).mono ?_; rintro e Wc ⟨rfl, hb⟩; replace XK := Lib.hid (XK.out.below hb); clear hb; (replace q0 := XK.out.ob.cell 0 _ rfl; replace q1 := XK.out.ob.cell 1 _ rfl; replace q2 := XK.out.ob.cell 2 _ rfl; replace q3 := XK.out.ob.cell 3 _ rfl; replace q4 := XK.out.ob.cell 4 _ rfl; replace q5 := XK.out.ob.cell 5 _ rfl; replace q6 := XK.out.ob.cell 6 _ rfl; replace q7 := XK.out.ob.cell 7 _ rfl))
    (go_ret; exact ⟨rfl, XK.out.bel⟩)
  | true =>
    obtain rfl : x = needV c := by rw [HF.out, hr]; rfl
    have hg := (rt_of hr).gok
    (have RIG : Hid (∀ W, CfgOk W c → Calls Try.prog 39 #[(.agg #[.int .i64 c.cats, .slice c.g.a c.g.l.length c.g.cap, .slice c.r.a c.r.l.length c.r.cap, .slice c.p.a c.p.l.length c.p.cap, .slice c.n.a c.n.l.length c.n.cap, .slice c.s.a c.s.l.length c.s.cap, .int .i64 c.gate, .int .i64 c.quota])] W fun e w' => e = .returned (.bool true) ∧ Below W.heap.size W w') := fun W hc => by rw [← hr]; exact right_any c _ hc)
    have NEE : Hid (∀ W, CfgOk W c → Calls Try.prog 36 #[(.agg #[.int .i64 c.cats, .slice c.g.a c.g.l.length c.g.cap, .slice c.r.a c.r.l.length c.r.cap, .slice c.p.a c.p.l.length c.p.cap, .slice c.n.a c.n.l.length c.n.cap, .slice c.s.a c.s.l.length c.s.cap, .int .i64 c.gate, .int .i64 c.quota])] W fun e w' => e = .returned (.int .i64 (needV c)) ∧ Below W.heap.size W w') := fun W hc => need_any c hg _ hc
    clear hr HF hg
    (have h0 := CX.new h; go_enter Try.func11, Try.ntmps11; go_upto_region 1 with fail; generalize w.alloc (.cells #[.int .i64 c.cats, .slice c.g.a c.g.l.length c.g.cap, .slice c.r.a c.r.l.length c.r.cap, .slice c.p.a c.p.l.length c.p.cap, .slice c.n.a c.n.l.length c.n.cap, .slice c.s.a c.s.l.length c.s.cap, .int .i64 c.gate, .int .i64 c.quota] 28) = W1 at h0 ⊢; generalize w.heap.size = b0 at h0 ⊢; have H0 := Lib.hid h0; clear h0 h)
    have XK := H0
    (have q0 := XK.out.ob.cell 0 _ rfl; have q1 := XK.out.ob.cell 1 _ rfl; have q2 := XK.out.ob.cell 2 _ rfl; have q3 := XK.out.ob.cell 3 _ rfl; have q4 := XK.out.ob.cell 4 _ rfl; have q5 := XK.out.ob.cell 5 _ rfl; have q6 := XK.out.ob.cell 6 _ rfl; have q7 := XK.out.ob.cell 7 _ rfl)
    go_wp2_with (first | (go_at_call 39; refine (RIG.out _ XK.out.ok).mono ?_; rintro e Wc ⟨rfl, hb⟩; replace XK := Lib.hid (XK.out.below hb); clear hb; (replace q0 := XK.out.ob.cell 0 _ rfl; replace q1 := XK.out.ob.cell 1 _ rfl; replace q2 := XK.out.ob.cell 2 _ rfl; replace q3 := XK.out.ob.cell 3 _ rfl; replace q4 := XK.out.ob.cell 4 _ rfl; replace q5 := XK.out.ob.cell 5 _ rfl; replace q6 := XK.out.ob.cell 6 _ rfl; replace q7 := XK.out.ob.cell 7 _ rfl)) | (go_at_call 36; refine (NEE.out _ XK.out.ok).mono ?_; rintro e Wc ⟨rfl, hb⟩; replace XK := Lib.hid (XK.out.below hb); clear hb; (replace q0 := XK.out.ob.cell 0 _ rfl; replace q1 := XK.out.ob.cell 1 _ rfl; replace q2 := XK.out.ob.cell 2 _ rfl; replace q3 := XK.out.ob.cell 3 _ rfl; replace q4 := XK.out.ob.cell 4 _ rfl; replace q5 := XK.out.ob.cell 5 _ rfl; replace q6 := XK.out.ob.cell 6 _ rfl; replace q7 := XK.out.ob.cell 7 _ rfl)))
    (go_ret; exact ⟨rfl, XK.out.bel⟩)
theorem behind_any (c : Cv) (hg : GOk c) (h1 : 1 ≤ c.g.l.length) (n : Nat) (hn : n ≤ c.g.l.length) (w : World) (h : CfgOk w c) : Calls Try.prog 42 #[(.agg #[.int .i64 c.cats, .slice c.g.a c.g.l.length c.g.cap, .slice c.r.a c.r.l.length c.r.cap, .slice c.p.a c.p.l.length c.p.cap, .slice c.n.a c.n.l.length c.n.cap, .slice c.s.a c.s.l.length c.s.cap, .int .i64 c.gate, .int .i64 c.quota]), .int .i64 n] w fun e w' => e = .returned (.int .i64 (sumG (c.g.l.take n))) ∧ Below w.heap.size w w' := by
  have HG := Lib.hid hg
  have HC := Lib.hid h
  obtain ⟨bx, ox, hax, _⟩ := h.g.cells (by omega) 0 (by omega)
  have HAX := Lib.hid hax
  have hcp := h.g.le
  have nz : (0 : Int) ≤ (n : Int) := by omega
  have nc : (n : Int) ≤ (c.g.cap : Int) := by omega
  clear hg hax
  (have h0 := CX.new h; go_enter Try.func42, Try.ntmps42; go_upto_region 1 with fail; generalize w.alloc (.cells #[.int .i64 c.cats, .slice c.g.a c.g.l.length c.g.cap, .slice c.r.a c.r.l.length c.r.cap, .slice c.p.a c.p.l.length c.p.cap, .slice c.n.a c.n.l.length c.n.cap, .slice c.s.a c.s.l.length c.s.cap, .int .i64 c.gate, .int .i64 c.quota] 28) = W1 at h0 ⊢; generalize w.heap.size = b0 at h0 ⊢; have H0 := Lib.hid h0; clear h0 h)
  (have q0 := H0.out.ob.cell 0 _ rfl; have q1 := H0.out.ob.cell 1 _ rfl; have q2 := H0.out.ob.cell 2 _ rfl; have q3 := H0.out.ob.cell 3 _ rfl; have q4 := H0.out.ob.cell 4 _ rfl; have q5 := H0.out.ob.cell 5 _ rfl; have q6 := H0.out.ob.cell 6 _ rfl; have q7 := H0.out.ob.cell 7 _ rfl)
  rw [HAX.out] at q1
  go_upto_region 3 with fail
  clear q0 q1 q2 q3 q4 q5 q6 q7
  go_loopw [5, 13] (fun g3 g12 wr => ∃ k : Nat, k ≤ n ∧ g12 = .int .i64 k ∧ g3 = .int .i64 (sumG (c.g.l.take k)) ∧ Below W1.heap.size W1 wr) (fun _ g12 _ => n - (intOf g12).toNat)
  case atStart => exact ⟨0, by omega, rfl, by simp [sumG], Below.refl _ _⟩
  case round =>
    obtain ⟨k, hk, rfl, rfl, hb⟩ := hrel
    have HB := Lib.hid hb
    obtain ⟨sk, hsk⟩ : ∃ x, x = sumG (c.g.l.take k) := ⟨_, rfl⟩
    rw [← hsk]
    have HS := Lib.hid hsk
    by_cases hkn : k < n
    · have d1 : decide ((k : Int) < (n : Int)) = true := by simp; omega
      have hkl : k < c.g.l.length := by omega
      have kz : (0 : Int) ≤ (k : Int) := by omega
      have kl : (k : Int) < (n : Int) := by omega
      have w1 : IntKind.i64.wrap ((k : Int) + 1) = (k : Int) + 1 := by have := HG.out.g; rw [IntKind.wrap_i64]; omega
      obtain ⟨bx2, ox2, hax, hcx⟩ := HC.out.g.cells (by omega) k hkl
      rw [HAX.out] at hax
      obtain ⟨rfl, rfl⟩ : bx = bx2 ∧ ox = ox2 := by simpa using hax
      obtain ⟨x, y, z, hrow⟩ := row3 hkl HC.out.g.len
      have hgr := HG.out.row _ (List.getElem_mem hkl)
      have hst := sumG_take c.g.l k hkl
      have hsb := sumG_takeb c.g.l HG.out.row k (by omega)
      rw [hrow] at hcx hgr hst
      simp only [GRow, List.getD_cons_succ, List.getD_cons_zero] at hgr hst
      have HST := Lib.hid hst
      have hb2 := H0.out.bel.trans (HB.out.mono H0.out.bel.size)
      have c0 := hcx _ hb2 0 _ rfl; have c1 := hcx _ hb2 1 _ rfl; have c2 := hcx _ hb2 2 _ rfl
      simp only [Nat.add_zero] at c0
      have hgl := HG.out.g
      have w2 : IntKind.i64.wrap (y + z) = y + z := by rw [IntKind.wrap_i64]; omega
      have w3 : IntKind.i64.wrap (sk + (y + z)) = sk + (y + z) := by rw [IntKind.wrap_i64]; omega
      clear hb hb2 hcx hrow hgr hst hsb hsk hgl hax
      go_wp2_with fail
      go_roundw
      case rel => exact ⟨k + 1, by omega, by go_num, by rw [HST.out, HS.out], HB.out.alloc HB.out.size _⟩
      case measure => simp [intOf]; omega
    · have d1 : decide ((k : Int) < (n : Int)) = false := by simp; omega
      go_wp2_with fail
      go_ret
      have hkk : k = n := by omega
      refine ⟨?_, H0.out.bel.trans (HB.out.mono H0.out.bel.size)⟩
      rw [HS.out, hkk]; rfl
end Go.Proofs.Ytmchaaelpbifgaa
