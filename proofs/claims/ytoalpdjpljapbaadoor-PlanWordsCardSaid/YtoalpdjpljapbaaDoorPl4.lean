/- Package plan: a line with a label: ranges, ports. -/
import Derived.Test.YtoalpdjpljapbaaDoorPl3
namespace Go.Proofs.YtoalpdjpljapbaaDoor
set_option linter.unusedVariables false
set_option linter.unusedSimpArgs false
set_option linter.unnecessarySimpa false
open Go.RowKit Go.Sort
set_option maxHeartbeats 4000000
set_option maxRecDepth 100000
set_option linter.unusedVariables false
theorem labelled_range (w : World) (rb : Nat) (c : Cv) (last : Int) (w0 w1 w2 w3 : List UInt8) (hsm : ∀ x ∈ [w0, w1, w2, w3], x.length ≤ 100000000) (g off cap : Nat) (W : World) (h : RD w rb c last W) (hg : g < W.heap.size)
    (hr : ∀ j (hj : j < 4), W.cell? ⟨g, off + j, none⟩ = some (.string (ba ([w0, w1, w2, w3].getD j [])))) (hcap : 4 ≤ cap) (hmx : cap ≤ maxLen) (hn : FewC c) :
    Calls Tryd.prog 40 #[.pointer (some ⟨rb, 0, none⟩), .int .i64 2, .slice (some ⟨g, off, none⟩) 4 cap] W (TkPost w rb c last 2 [w0, w1, w2, w3] W) := by
  obtain ⟨i0, hi0, hz0, hz1, hz2⟩ := info_parts info_ra
  have hlw := hsm w1 (by simp)
  unfold maxLen at hmx
  have n1 : W.cell? ⟨g, off + 1, none⟩ = some (.string (ba w1)) := hr 1 (by omega)
  have HLP := fun W => Lib.hid (lparse_any (ba w1) (by rw [ba_size]; unfold maxLen; omega) W)
  rw [ba_data] at HLP
  have H := Lib.hid h
  have hB := h.bel.size
  have c0 := (h).ob.cell 0 _ rfl; have c1 := (h).ob.cell 1 _ rfl; have c2 := (h).ob.cell 2 _ rfl; have c3 := (h).ob.cell 3 _ rfl; have c4 := (h).ob.cell 4 _ rfl; have c5 := (h).ob.cell 5 _ rfl; have c6 := (h).ob.cell 6 _ rfl; have c7 := (h).ob.cell 7 _ rfl; have c8 := (h).ob.cell 8 _ rfl
  cases hl : lbF w1 with
  | none =>
    have HT : Hid (∀ w', Below w.heap.size w w' → TkPost w rb c last 2 [w0, w1, w2, w3] W (.returned (.bool false)) w') := fun w' hb => tk_no (by unfold rowV; simp [hl]) hb
    have e1 : lbPV w1 = 0 ∧ lbPE w1 = 6 := ⟨by unfold lbPV; rw [hl]; rfl, by unfold lbPE; rw [hl]; rfl⟩
    rw [e1.1, e1.2] at HLP
    clear e1 hl h hr hsm
    go_enter Tryd.func40, Tryd.ntmps40
    go_wp2_with (go_at_call 71; refine ((HLP _).out).mono ?_; rintro e w1 ⟨rfl, rfl⟩)
    go_ret
    exact HT.out _ H.out.bel
  | some x =>
    have e1 : lbPV w1 = x ∧ lbPE w1 = 0 := ⟨by unfold lbPV; rw [hl]; rfl, by unfold lbPE; rw [hl]; rfl⟩
    have hx := lbF_lt hl
    rw [e1.1, e1.2] at HLP
    have hrd : Rd W 1 (some ⟨g, off + 2, none⟩) 2 (strC [w2, w3]) := by
      refine ⟨rfl, (fun h0 => by cases h0), fun p hp _ => ?_⟩
      injection hp with hp
      subst hp
      refine ⟨g, off + 2, rfl, hg, fun j u hu => ?_⟩
      rcases (by have := (List.getElem?_eq_some_iff.1 hu).1; simp [strC] at this; omega : j = 0 ∨ j = 1) with rfl | rfl
      · injection hu with hu; rw [← hu]; exact hr 2 (by omega)
      · injection hu with hu; rw [← hu]; exact hr 3 (by omega)
    have HNB : Hid (Calls Tryd.prog 72 #[.slice (some ⟨g, off + 2, none⟩) 2 (cap - 2)] W (NmPost [w2, w3] W)) := numbers_any (some ⟨g, off + 2, none⟩) (cap - 2) [w2, w3] (fun y hy => hsm y (by simp at hy ⊢; rcases hy with rfl | rfl <;> simp)) (by simp) W hrd
    have HTN : Hid (nmsB [w2, w3] = false → ∀ w', Below w.heap.size w w' → TkPost w rb c last 2 [w0, w1, w2, w3] W (.returned (.bool false)) w') := fun hb w' hbe => tk_no (by unfold rowV; simp [hl, hb]) hbe
    have HTY : Hid (nmsB [w2, w3] = true → ∀ (w' : World) (c' : Cv), pcOf c' = setV (pcOf c) 2 [(x : Int), (numI w2 : Nat), (numI w3 : Nat)] → RD w rb c' last w' → TkPost w rb c last 2 [w0, w1, w2, w3] W (.returned (.bool true)) w') := fun hb w' c' hc hr => tk_yes (by unfold rowV; simp [hl, hb, nmsL]) hc hr
    clear hl hr hsm hrd e1
    have hc2 : ¬ cap = 2 := by omega
    go_enter Tryd.func40, Tryd.ntmps40
    go_wp2_with (go_at_call 71; refine ((HLP _).out).mono ?_; rintro e w1 ⟨rfl, rfl⟩)
    refine HNB.out.mono ?_
    intro e W3 h3
    obtain ⟨hy, hno, hb3⟩ := h3
    have H3 := Lib.hid (H.out.more hb3)
    cases hb : nmsB [w2, w3]
    · obtain rfl := hno hb
      have HT := Lib.hid (HTN.out hb)
      clear hy hno hb3 hb
      go_wp2_with fail
      go_ret
      exact HT.out _ H3.out.bel
    · obtain ⟨a3, c3', rfl, hown3⟩ := hy hb
      obtain ⟨g3, rfl, hg3, hg3'⟩ := hown3.at_ (by simp)
      have HT := Lib.hid (HTY.out hb)
      obtain ⟨y0, hy0⟩ : ∃ y, Hid (y = ((numI w2 : Nat) : Int)) := ⟨_, Lib.hid rfl⟩
      obtain ⟨y1, hy1⟩ : ∃ y, Hid (y = ((numI w3 : Nat) : Int)) := ⟨_, Lib.hid rfl⟩
      have m0 : W3.cell? ⟨g3, 0, none⟩ = some (.int .i64 y0) := by rw [hy0.out]; exact hown3.cell 0 _ rfl
      have m1 : W3.cell? ⟨g3, 1, none⟩ = some (.int .i64 y1) := by rw [hy1.out]; exact hown3.cell 1 _ rfl
      rw [← hy0.out, ← hy1.out] at HT
      have hsz := hb3.size
      have hrb := H3.out.ob.lt
      have hB3 := H3.out.bel.size
      have hfew := hn.2.1
      clear c0 c1 c2 c3 c4 c5 c6 c7 c8
      have c0 := (H3.out).ob.cell 0 _ rfl; have c1 := (H3.out).ob.cell 1 _ rfl; have c2 := (H3.out).ob.cell 2 _ rfl; have c3 := (H3.out).ob.cell 3 _ rfl; have c4 := (H3.out).ob.cell 4 _ rfl; have c5 := (H3.out).ob.cell 5 _ rfl; have c6 := (H3.out).ob.cell 6 _ rfl; have c7 := (H3.out).ob.cell 7 _ rfl; have c8 := (H3.out).ob.cell 8 _ rfl
      have f1 := H3.out.ob.free 2
      clear hy hno hb3 hb hown3 HTY HTN n1 h
      go_wp2_with fail
      go_region_law (refine step_own rfl (.tmp 94) (.tmp 103) 24 rfl w.heap.size 60 i0 _ 3 24 Tryd.underlying24 hi0 hz0 hz1 hz2 rfl (by omega) c.r.a c.r.l.length c.r.cap (iF c.r.l) rfl (H3.out.r.below ((Below.refl _ _).drew.alloc (Nat.le_refl _) _)) W3.heap.size (ivs [(x : Int), y0, y1]) rfl (new_block _ _ _ rfl) rfl (by simp [ivs, Value.oneCell']) (by simp only [maxLen]; omega) (by omega) (by simp; omega) ?_; intro g' cap' W4 hown hmod hat; have h4 := (H3.out.ob.below ((Below.refl _ _).drew.alloc (Nat.le_refl _) _)).mod hmod (H3.out.r.ne H3.out.ob (by decide)); have d0 := h4.cell 2 _ rfl; have e0 := h4.free 2)
      all_goals
        go_wp2_with fail
        go_ret
        refine HT.out _ _ rfl (H3.out.addR (c' := cap') (row := [(x : Int), y0, y1]) ((Below.refl _ _).drew.alloc (Nat.le_refl _) _) hown hmod rfl)
theorem labelled_port (w : World) (rb : Nat) (c : Cv) (last : Int) (w0 w1 w2 : List UInt8) (hsm : ∀ x ∈ [w0, w1, w2], x.length ≤ 100000000) (g off cap : Nat) (W : World) (h : RD w rb c last W) (hg : g < W.heap.size)
    (hr : ∀ j (hj : j < 3), W.cell? ⟨g, off + j, none⟩ = some (.string (ba ([w0, w1, w2].getD j [])))) (hcap : 3 ≤ cap) (hmx : cap ≤ maxLen) (hn : FewC c) :
    Calls Tryd.prog 40 #[.pointer (some ⟨rb, 0, none⟩), .int .i64 3, .slice (some ⟨g, off, none⟩) 3 cap] W (TkPost w rb c last 3 [w0, w1, w2] W) := by
  obtain ⟨i0, hi0, hz0, hz1, hz2⟩ := info_parts info_po
  have hlw := hsm w1 (by simp)
  unfold maxLen at hmx
  have n1 : W.cell? ⟨g, off + 1, none⟩ = some (.string (ba w1)) := hr 1 (by omega)
  have HLP := fun W => Lib.hid (lparse_any (ba w1) (by rw [ba_size]; unfold maxLen; omega) W)
  rw [ba_data] at HLP
  have H := Lib.hid h
  have hB := h.bel.size
  have c0 := (h).ob.cell 0 _ rfl; have c1 := (h).ob.cell 1 _ rfl; have c2 := (h).ob.cell 2 _ rfl; have c3 := (h).ob.cell 3 _ rfl; have c4 := (h).ob.cell 4 _ rfl; have c5 := (h).ob.cell 5 _ rfl; have c6 := (h).ob.cell 6 _ rfl; have c7 := (h).ob.cell 7 _ rfl; have c8 := (h).ob.cell 8 _ rfl
  cases hl : lbF w1 with
  | none =>
    have HT : Hid (∀ w', Below w.heap.size w w' → TkPost w rb c last 3 [w0, w1, w2] W (.returned (.bool false)) w') := fun w' hb => tk_no (by unfold rowV; simp [hl]) hb
    have e1 : lbPV w1 = 0 ∧ lbPE w1 = 6 := ⟨by unfold lbPV; rw [hl]; rfl, by unfold lbPE; rw [hl]; rfl⟩
    rw [e1.1, e1.2] at HLP
    clear e1 hl h hr hsm
    go_enter Tryd.func40, Tryd.ntmps40
    go_wp2_with (go_at_call 71; refine ((HLP _).out).mono ?_; rintro e w1 ⟨rfl, rfl⟩)
    go_ret
    exact HT.out _ H.out.bel
  | some x =>
    have e1 : lbPV w1 = x ∧ lbPE w1 = 0 := ⟨by unfold lbPV; rw [hl]; rfl, by unfold lbPE; rw [hl]; rfl⟩
    have hx := lbF_lt hl
    rw [e1.1, e1.2] at HLP
    have n2 : W.cell? ⟨g, off + 2, none⟩ = some (.string (ba w2)) := hr 2 (by omega)
    have hoq : ((ba w2).toList == [111, 117, 116]) = decide (w2 = [111, 117, 116]) := by
      rw [ByteArray.toList_eq, ba_data]
      by_cases h : w2 = [111, 117, 116] <;> simp [h]
    by_cases hout : w2 = [111, 117, 116]
    · rw [decide_eq_true hout] at hoq
      have HTO : Hid (∀ (w' : World) (c' : Cv), pcOf c' = setV (pcOf c) 3 [(x : Int), -1] → RD w rb c' last w' → TkPost w rb c last 3 [w0, w1, w2] W (.returned (.bool true)) w') := fun w' c' hc hr => tk_yes (by unfold rowV; simp [hl, hout]) hc hr
      have hfew := hn.2.2.1
      have f3 := H.out.ob.free 3
      clear hl hr hsm e1 hout h
      go_enter Tryd.func40, Tryd.ntmps40
      go_wp2_with (first | (go_at_call 71; refine ((HLP _).out).mono ?_; rintro e w1 ⟨rfl, rfl⟩) | (at_builtin; (refine wpList_own rfl (.tmp 33) (.tmp 36) 25 rfl w.heap.size 62 i0 _ 2 16 Tryd.underlying25 hi0 hz0 hz1 hz2 rfl (by omega) c.p.a c.p.l.length c.p.cap (iF c.p.l) rfl (H.out.p.below ((Below.refl _ _).alloc (Nat.le_refl _) _)) W.heap.size (ivs [(x : Int), -1]) rfl (new_block _ _ _ rfl) rfl (by simp [ivs, Value.oneCell']) (by simp only [maxLen]; omega) (by omega) (by simp; omega) ?_); intro g' cap' W4 hown hmod hat; have h4 := (H.out.ob.below ((Below.refl _ _).alloc (Nat.le_refl _) _)).mod hmod (H.out.p.ne H.out.ob (by decide)); have d0 := h4.cell 3 _ rfl; have e0 := h4.free 3; have HN4 := Lib.hid (H.out.addP (c' := cap') (row := [(x : Int), -1]) ((Below.refl _ _).alloc (Nat.le_refl _) _) hown hmod rfl); clear hown hmod hat h4))
      go_ret
      exact HTO.out _ _ rfl HN4.out
    · rw [decide_eq_false hout] at hoq
      have hrd : Rd W 1 (some ⟨g, off + 2, none⟩) 1 (strC [w2]) := by
        refine ⟨rfl, (fun h0 => by cases h0), fun p hp _ => ?_⟩
        injection hp with hp
        subst hp
        refine ⟨g, off + 2, rfl, hg, fun j u hu => ?_⟩
        obtain rfl : j = 0 := by have := (List.getElem?_eq_some_iff.1 hu).1; simp [strC] at this; omega
        injection hu with hu; rw [← hu]; exact hr 2 (by omega)
      have HNB : Hid (Calls Tryd.prog 72 #[.slice (some ⟨g, off + 2, none⟩) 1 (cap - 2)] W (NmPost [w2] W)) := numbers_any (some ⟨g, off + 2, none⟩) (cap - 2) [w2] (fun y hy => hsm y (by simp at hy ⊢; rcases hy with rfl; simp)) (by simp) W hrd
      have HTN : Hid (nmsB [w2] = false → ∀ w', Below w.heap.size w w' → TkPost w rb c last 3 [w0, w1, w2] W (.returned (.bool false)) w') := fun hb w' hbe => tk_no (by unfold rowV; simp [hl, hb, hout]) hbe
      have HTY : Hid (nmsB [w2] = true → ∀ (w' : World) (c' : Cv), pcOf c' = setV (pcOf c) 3 [(x : Int), (numI w2 : Nat)] → RD w rb c' last w' → TkPost w rb c last 3 [w0, w1, w2] W (.returned (.bool true)) w') := fun hb w' c' hc hr => tk_yes (by unfold rowV; simp [hl, hb, nmsL, hout]) hc hr
      clear hl hr hsm hrd e1 hout
      have hc2 : ¬ cap = 2 := by omega
      go_enter Tryd.func40, Tryd.ntmps40
      go_wp2_with (go_at_call 71; refine ((HLP _).out).mono ?_; rintro e w1 ⟨rfl, rfl⟩)
      refine HNB.out.mono ?_
      intro e W3 h3
      obtain ⟨hy, hno, hb3⟩ := h3
      have H3 := Lib.hid (H.out.more hb3)
      cases hb : nmsB [w2]
      · obtain rfl := hno hb
        have HT := Lib.hid (HTN.out hb)
        clear hy hno hb3 hb
        go_wp2_with fail
        go_ret
        exact HT.out _ H3.out.bel
      · obtain ⟨a3, c3', rfl, hown3⟩ := hy hb
        obtain ⟨g3, rfl, hg3, hg3'⟩ := hown3.at_ (by simp)
        have HT := Lib.hid (HTY.out hb)
        obtain ⟨y0, hy0⟩ : ∃ y, Hid (y = ((numI w2 : Nat) : Int)) := ⟨_, Lib.hid rfl⟩
        have m0 : W3.cell? ⟨g3, 0, none⟩ = some (.int .i64 y0) := by rw [hy0.out]; exact hown3.cell 0 _ rfl
        rw [← hy0.out] at HT
        have hsz := hb3.size
        have hrb := H3.out.ob.lt
        have hB3 := H3.out.bel.size
        have hfew := hn.2.2.1
        clear c0 c1 c2 c3 c4 c5 c6 c7 c8
        have c0 := (H3.out).ob.cell 0 _ rfl; have c1 := (H3.out).ob.cell 1 _ rfl; have c2 := (H3.out).ob.cell 2 _ rfl; have c3 := (H3.out).ob.cell 3 _ rfl; have c4 := (H3.out).ob.cell 4 _ rfl; have c5 := (H3.out).ob.cell 5 _ rfl; have c6 := (H3.out).ob.cell 6 _ rfl; have c7 := (H3.out).ob.cell 7 _ rfl; have c8 := (H3.out).ob.cell 8 _ rfl
        have f1 := H3.out.ob.free 3
        clear hy hno hb3 hb hown3 HTY HTN n1 h
        go_wp2_with fail
        go_region_law (refine step_own rfl (.tmp 55) (.tmp 61) 25 rfl w.heap.size 62 i0 _ 2 16 Tryd.underlying25 hi0 hz0 hz1 hz2 rfl (by omega) c.p.a c.p.l.length c.p.cap (iF c.p.l) rfl (H3.out.p.below ((Below.refl _ _).drew.alloc (Nat.le_refl _) _)) W3.heap.size (ivs [(x : Int), y0]) rfl (new_block _ _ _ rfl) rfl (by simp [ivs, Value.oneCell']) (by simp only [maxLen]; omega) (by omega) (by simp; omega) ?_; intro g' cap' W4 hown hmod hat; have h4 := (H3.out.ob.below ((Below.refl _ _).drew.alloc (Nat.le_refl _) _)).mod hmod (H3.out.p.ne H3.out.ob (by decide)); have d0 := h4.cell 3 _ rfl; have e0 := h4.free 3)
        all_goals
          go_wp2_with fail
          go_ret
          refine HT.out _ _ rfl (H3.out.addP (c' := cap') (row := [(x : Int), y0]) ((Below.refl _ _).drew.alloc (Nat.le_refl _) _) hown hmod rfl)
end Go.Proofs.YtoalpdjpljapbaaDoor
