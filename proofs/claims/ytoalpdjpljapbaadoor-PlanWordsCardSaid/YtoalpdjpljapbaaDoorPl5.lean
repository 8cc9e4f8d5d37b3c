/- Package plan: a line of numbers alone. -/
import Derived.Test.YtoalpdjpljapbaaDoorPl3
namespace Go.Proofs.YtoalpdjpljapbaaDoor
set_option linter.unusedVariables false
set_option linter.unusedSimpArgs false
set_option linter.unnecessarySimpa false
open Go.RowKit Go.Sort
set_option maxHeartbeats 4000000
set_option maxRecDepth 100000
set_option linter.unusedVariables false
theorem plain_cats (w : World) (rb : Nat) (c : Cv) (last : Int) (w0 w1 : List UInt8) (hsm : ∀ x ∈ [w0, w1], x.length ≤ 100000000) (g off cap : Nat) (W : World) (h : RD w rb c last W) (hg : g < W.heap.size)
    (hr : ∀ j (hj : j < 2), W.cell? ⟨g, off + j, none⟩ = some (.string (ba ([w0, w1].getD j [])))) (hcap : 2 ≤ cap) (hmx : cap ≤ maxLen) (hn : FewC c) :
    Calls Tryd.prog 41 #[.pointer (some ⟨rb, 0, none⟩), .int .i64 0, .slice (some ⟨g, off, none⟩) 2 cap] W (TkPost w rb c last 0 [w0, w1] W) := by
  unfold maxLen at hmx
  have H := Lib.hid h
  have hB := h.bel.size
  have hrd : Rd W 1 (some ⟨g, off + 1, none⟩) 1 (strC [w1]) := by
    refine ⟨rfl, (fun h0 => by cases h0), fun p hp _ => ?_⟩
    injection hp with hp
    subst hp
    refine ⟨g, off + 1, rfl, hg, fun j u hu => ?_⟩
    obtain rfl : j = 0 := by have := (List.getElem?_eq_some_iff.1 hu).1; simp [strC] at this; omega
    injection hu with hu; rw [← hu]; exact hr 1 (by omega)
  have HNB : Hid (Calls Tryd.prog 72 #[.slice (some ⟨g, off + 1, none⟩) 1 (cap - 1)] W (NmPost [w1] W)) := numbers_any (some ⟨g, off + 1, none⟩) (cap - 1) [w1] (fun y hy => hsm y (List.mem_cons_of_mem _ hy)) (by simp) W hrd
  have HTN : Hid (nmsB [w1] = false → ∀ w', Below w.heap.size w w' → TkPost w rb c last 0 [w0, w1] W (.returned (.bool false)) w') := fun hb w' hbe => tk_no (by unfold rowV; simp [hb]) hbe
  have HTY : Hid (nmsB [w1] = true → ∀ (w' : World) (c' : Cv), pcOf c' = setV (pcOf c) 0 [(numI w1 : Nat)] → RD w rb c' last w' → TkPost w rb c last 0 [w0, w1] W (.returned (.bool true)) w') := fun hb w' c' hc hr => tk_yes (by unfold rowV; simp [hb, nmsL]) hc hr
  have hc1 : ¬ cap = 1 := by omega
  clear hr hsm hrd h
  go_enter Tryd.func41, Tryd.ntmps41
  go_wp2_with fail
  refine HNB.out.mono ?_
  intro e W3 h3
  obtain ⟨hy, hno, hb3⟩ := h3
  have H3 := Lib.hid (H.out.more hb3)
  cases hb : nmsB [w1]
  · obtain rfl := hno hb
    have HT := Lib.hid (HTN.out hb)
    clear hy hno hb3 hb
    go_wp2_with fail
    go_ret
    exact HT.out _ H3.out.bel
  · obtain ⟨a3, c3', rfl, hown3⟩ := hy hb
    obtain ⟨g3, rfl, hg3, hg3'⟩ := hown3.at_ (by simp)
    have HT := Lib.hid (HTY.out hb)
    obtain ⟨y0, hy0⟩ : ∃ y, Hid (y = ((numI w1 : Nat) : Int)) := ⟨_, Lib.hid rfl⟩
    have m0 : W3.cell? ⟨g3, 0, none⟩ = some (.int .i64 y0) := by rw [hy0.out]; exact hown3.cell 0 _ rfl
    rw [← hy0.out] at HT
    have hsz := hb3.size
    have hrb := H3.out.ob.lt
    have hB3 := H3.out.bel.size
    have c0 := (H3.out).ob.cell 0 _ rfl; have c1 := (H3.out).ob.cell 1 _ rfl; have c2 := (H3.out).ob.cell 2 _ rfl; have c3 := (H3.out).ob.cell 3 _ rfl; have c4 := (H3.out).ob.cell 4 _ rfl; have c5 := (H3.out).ob.cell 5 _ rfl; have c6 := (H3.out).ob.cell 6 _ rfl; have c7 := (H3.out).ob.cell 7 _ rfl; have c8 := (H3.out).ob.cell 8 _ rfl
    have f0 := H3.out.ob.free 0
    clear hy hno hb3 hb hown3 HTY HTN
    go_wp2_with fail
    go_ret
    exact HT.out _ _ rfl (H3.out.setCats y0)
theorem plain_ring (w : World) (rb : Nat) (c : Cv) (last : Int) (w0 w1 w2 : List UInt8) (hsm : ∀ x ∈ [w0, w1, w2], x.length ≤ 100000000) (g off cap : Nat) (W : World) (h : RD w rb c last W) (hg : g < W.heap.size)
    (hr : ∀ j (hj : j < 3), W.cell? ⟨g, off + j, none⟩ = some (.string (ba ([w0, w1, w2].getD j [])))) (hcap : 3 ≤ cap) (hmx : cap ≤ maxLen) (hn : FewC c) :
    Calls Tryd.prog 41 #[.pointer (some ⟨rb, 0, none⟩), .int .i64 4, .slice (some ⟨g, off, none⟩) 3 cap] W (TkPost w rb c last 4 [w0, w1, w2] W) := by
  obtain ⟨i0, hi0, hz0, hz1, hz2⟩ := info_parts info_ri
  unfold maxLen at hmx
  have H := Lib.hid h
  have hB := h.bel.size
  have hrd : Rd W 1 (some ⟨g, off + 1, none⟩) 2 (strC [w1, w2]) := by
    refine ⟨rfl, (fun h0 => by cases h0), fun p hp _ => ?_⟩
    injection hp with hp
    subst hp
    refine ⟨g, off + 1, rfl, hg, fun j u hu => ?_⟩
    rcases (by have := (List.getElem?_eq_some_iff.1 hu).1; simp [strC] at this; omega : j = 0 ∨ j = 1) with rfl | rfl
    · injection hu with hu; rw [← hu]; exact hr 1 (by omega)
    · injection hu with hu; rw [← hu]; exact hr 2 (by omega)
  have HNB : Hid (Calls Tryd.prog 72 #[.slice (some ⟨g, off + 1, none⟩) 2 (cap - 1)] W (NmPost [w1, w2] W)) := numbers_any (some ⟨g, off + 1, none⟩) (cap - 1) [w1, w2] (fun y hy => hsm y (List.mem_cons_of_mem _ hy)) (by simp) W hrd
  have HTN : Hid (nmsB [w1, w2] = false → ∀ w', Below w.heap.size w w' → TkPost w rb c last 4 [w0, w1, w2] W (.returned (.bool false)) w') := fun hb w' hbe => tk_no (by unfold rowV; simp [hb]) hbe
  have HTY : Hid (nmsB [w1, w2] = true → ∀ (w' : World) (c' : Cv), pcOf c' = setV (pcOf c) 4 [(numI w1 : Nat), (numI w2 : Nat)] → RD w rb c' last w' → TkPost w rb c last 4 [w0, w1, w2] W (.returned (.bool true)) w') := fun hb w' c' hc hr => tk_yes (by unfold rowV; simp [hb, nmsL]) hc hr
  have hc1 : ¬ cap = 1 := by omega
  clear hr hsm hrd h
  go_enter Tryd.func41, Tryd.ntmps41
  go_wp2_with fail
  refine HNB.out.mono ?_
  intro e W3 h3
  obtain ⟨hy, hno, hb3⟩ := h3
  have H3 := Lib.hid (H.out.more hb3)
  cases hb : nmsB [w1, w2]
  · obtain rfl := hno hb
    have HT := Lib.hid (HTN.out hb)
    clear hy hno hb3 hb
    go_wp2_with fail
    go_ret
    exact HT.out _ H3.out.bel
  · obtain ⟨a3, c3', rfl, hown3⟩ := hy hb
    obtain ⟨g3, rfl, hg3, hg3'⟩ := hown3.at_ (by simp)
    have HT := Lib.hid (HTY.out hb)
    obtain ⟨y0, hy0⟩ : ∃ y, Hid (y = ((numI w1 : Nat) : Int)) := ⟨_, Lib.hid rfl⟩
    obtain ⟨y1, hy1⟩ : ∃ y, Hid (y = ((numI w2 : Nat) : Int)) := ⟨_, Lib.hid rfl⟩
    have m0 : W3.cell? ⟨g3, 0, none⟩ = some (.int .i64 y0) := by rw [hy0.out]; exact hown3.cell 0 _ rfl
    have m1 : W3.cell? ⟨g3, 1, none⟩ = some (.int .i64 y1) := by rw [hy1.out]; exact hown3.cell 1 _ rfl
    rw [← hy0.out, ← hy1.out] at HT
    have hsz := hb3.size
    have hrb := H3.out.ob.lt
    have hB3 := H3.out.bel.size
    have c0 := (H3.out).ob.cell 0 _ rfl; have c1 := (H3.out).ob.cell 1 _ rfl; have c2 := (H3.out).ob.cell 2 _ rfl; have c3 := (H3.out).ob.cell 3 _ rfl; have c4 := (H3.out).ob.cell 4 _ rfl; have c5 := (H3.out).ob.cell 5 _ rfl; have c6 := (H3.out).ob.cell 6 _ rfl; have c7 := (H3.out).ob.cell 7 _ rfl; have c8 := (H3.out).ob.cell 8 _ rfl
    have hfew := hn.2.2.2.1
    have f4 := H3.out.ob.free 4
    clear hy hno hb3 hb hown3 HTY HTN
    go_wp2_with fail
    go_region_law (refine step_own rfl (.tmp 48) (.tmp 56) 26 rfl w.heap.size 64 i0 _ 2 16 Tryd.underlying26 hi0 hz0 hz1 hz2 rfl (by omega) c.n.a c.n.l.length c.n.cap (iF c.n.l) rfl (H3.out.n.below ((Below.refl _ _).drew.alloc (Nat.le_refl _) _)) W3.heap.size (ivs [y0, y1]) rfl (new_block _ _ _ rfl) rfl (by simp [ivs, Value.oneCell']) (by simp only [maxLen]; omega) (by omega) (by simp; omega) ?_; intro g' cap' W4 hown hmod hat; have h4 := (H3.out.ob.below ((Below.refl _ _).drew.alloc (Nat.le_refl _) _)).mod hmod (H3.out.n.ne H3.out.ob (by decide)); have d0 := h4.cell 4 _ rfl; have e0 := h4.free 4)
    all_goals
      go_wp2_with fail
      go_ret
      refine HT.out _ _ rfl (H3.out.addN (c' := cap') (row := [y0, y1]) ((Below.refl _ _).drew.alloc (Nat.le_refl _) _) hown hmod rfl)
theorem plain_slot (w : World) (rb : Nat) (c : Cv) (last : Int) (w0 w1 w2 : List UInt8) (hsm : ∀ x ∈ [w0, w1, w2], x.length ≤ 100000000) (g off cap : Nat) (W : World) (h : RD w rb c last W) (hg : g < W.heap.size)
    (hr : ∀ j (hj : j < 3), W.cell? ⟨g, off + j, none⟩ = some (.string (ba ([w0, w1, w2].getD j [])))) (hcap : 3 ≤ cap) (hmx : cap ≤ maxLen) (hn : FewC c) :
    Calls Tryd.prog 41 #[.pointer (some ⟨rb, 0, none⟩), .int .i64 5, .slice (some ⟨g, off, none⟩) 3 cap] W (TkPost w rb c last 5 [w0, w1, w2] W) := by
  obtain ⟨i0, hi0, hz0, hz1, hz2⟩ := info_parts info_so
  unfold maxLen at hmx
  have H := Lib.hid h
  have hB := h.bel.size
  have hrd : Rd W 1 (some ⟨g, off + 1, none⟩) 2 (strC [w1, w2]) := by
    refine ⟨rfl, (fun h0 => by cases h0), fun p hp _ => ?_⟩
    injection hp with hp
    subst hp
    refine ⟨g, off + 1, rfl, hg, fun j u hu => ?_⟩
    rcases (by have := (List.getElem?_eq_some_iff.1 hu).1; simp [strC] at this; omega : j = 0 ∨ j = 1) with rfl | rfl
    · injection hu with hu; rw [← hu]; exact hr 1 (by omega)
    · injection hu with hu; rw [← hu]; exact hr 2 (by omega)
  have HNB : Hid (Calls Tryd.prog 72 #[.slice (some ⟨g, off + 1, none⟩) 2 (cap - 1)] W (NmPost [w1, w2] W)) := numbers_any (some ⟨g, off + 1, none⟩) (cap - 1) [w1, w2] (fun y hy => hsm y (List.mem_cons_of_mem _ hy)) (by simp) W hrd
  have HTN : Hid (nmsB [w1, w2] = false → ∀ w', Below w.heap.size w w' → TkPost w rb c last 5 [w0, w1, w2] W (.returned (.bool false)) w') := fun hb w' hbe => tk_no (by unfold rowV; simp [hb]) hbe
  have HTY : Hid (nmsB [w1, w2] = true → ∀ (w' : World) (c' : Cv), pcOf c' = setV (pcOf c) 5 [(numI w1 : Nat), (numI w2 : Nat)] → RD w rb c' last w' → TkPost w rb c last 5 [w0, w1, w2] W (.returned (.bool true)) w') := fun hb w' c' hc hr => tk_yes (by unfold rowV; simp [hb, nmsL]) hc hr
  have hc1 : ¬ cap = 1 := by omega
  clear hr hsm hrd h
  go_enter Tryd.func41, Tryd.ntmps41
  go_wp2_with fail
  refine HNB.out.mono ?_
  intro e W3 h3
  obtain ⟨hy, hno, hb3⟩ := h3
  have H3 := Lib.hid (H.out.more hb3)
  cases hb : nmsB [w1, w2]
  · obtain rfl := hno hb
    have HT := Lib.hid (HTN.out hb)
    clear hy hno hb3 hb
    go_wp2_with fail
    go_ret
    exact HT.out _ H3.out.bel
  · obtain ⟨a3, c3', rfl, hown3⟩ := hy hb
    obtain ⟨g3, rfl, hg3, hg3'⟩ := hown3.at_ (by simp)
    have HT := Lib.hid (HTY.out hb)
    obtain ⟨y0, hy0⟩ : ∃ y, Hid (y = ((numI w1 : Nat) : Int)) := ⟨_, Lib.hid rfl⟩
    obtain ⟨y1, hy1⟩ : ∃ y, Hid (y = ((numI w2 : Nat) : Int)) := ⟨_, Lib.hid rfl⟩
    have m0 : W3.cell? ⟨g3, 0, none⟩ = some (.int .i64 y0) := by rw [hy0.out]; exact hown3.cell 0 _ rfl
    have m1 : W3.cell? ⟨g3, 1, none⟩ = some (.int .i64 y1) := by rw [hy1.out]; exact hown3.cell 1 _ rfl
    rw [← hy0.out, ← hy1.out] at HT
    have hsz := hb3.size
    have hrb := H3.out.ob.lt
    have hB3 := H3.out.bel.size
    have c0 := (H3.out).ob.cell 0 _ rfl; have c1 := (H3.out).ob.cell 1 _ rfl; have c2 := (H3.out).ob.cell 2 _ rfl; have c3 := (H3.out).ob.cell 3 _ rfl; have c4 := (H3.out).ob.cell 4 _ rfl; have c5 := (H3.out).ob.cell 5 _ rfl; have c6 := (H3.out).ob.cell 6 _ rfl; have c7 := (H3.out).ob.cell 7 _ rfl; have c8 := (H3.out).ob.cell 8 _ rfl
    have hfew := hn.2.2.2.2
    have f5 := H3.out.ob.free 5
    clear hy hno hb3 hb hown3 HTY HTN
    go_wp2_with fail
    go_region_law (refine step_own rfl (.tmp 68) (.tmp 76) 27 rfl w.heap.size 66 i0 _ 2 16 Tryd.underlying27 hi0 hz0 hz1 hz2 rfl (by omega) c.s.a c.s.l.length c.s.cap (iF c.s.l) rfl (H3.out.s.below ((Below.refl _ _).drew.alloc (Nat.le_refl _) _)) W3.heap.size (ivs [y0, y1]) rfl (new_block _ _ _ rfl) rfl (by simp [ivs, Value.oneCell']) (by simp only [maxLen]; omega) (by omega) (by simp; omega) ?_; intro g' cap' W4 hown hmod hat; have h4 := (H3.out.ob.below ((Below.refl _ _).drew.alloc (Nat.le_refl _) _)).mod hmod (H3.out.s.ne H3.out.ob (by decide)); have d0 := h4.cell 5 _ rfl; have e0 := h4.free 5)
    all_goals
      go_wp2_with fail
      go_ret
      refine HT.out _ _ rfl (H3.out.addS (c' := cap') (row := [y0, y1]) ((Below.refl _ _).drew.alloc (Nat.le_refl _) _) hown hmod rfl)
theorem plain_gate (w : World) (rb : Nat) (c : Cv) (last : Int) (w0 w1 w2 : List UInt8) (hsm : ∀ x ∈ [w0, w1, w2], x.length ≤ 100000000) (g off cap : Nat) (W : World) (h : RD w rb c last W) (hg : g < W.heap.size)
    (hr : ∀ j (hj : j < 3), W.cell? ⟨g, off + j, none⟩ = some (.string (ba ([w0, w1, w2].getD j [])))) (hcap : 3 ≤ cap) (hmx : cap ≤ maxLen) (hn : FewC c) :
    Calls Tryd.prog 41 #[.pointer (some ⟨rb, 0, none⟩), .int .i64 6, .slice (some ⟨g, off, none⟩) 3 cap] W (TkPost w rb c last 6 [w0, w1, w2] W) := by
  unfold maxLen at hmx
  have H := Lib.hid h
  have hB := h.bel.size
  have hrd : Rd W 1 (some ⟨g, off + 1, none⟩) 2 (strC [w1, w2]) := by
    refine ⟨rfl, (fun h0 => by cases h0), fun p hp _ => ?_⟩
    injection hp with hp
    subst hp
    refine ⟨g, off + 1, rfl, hg, fun j u hu => ?_⟩
    rcases (by have := (List.getElem?_eq_some_iff.1 hu).1; simp [strC] at this; omega : j = 0 ∨ j = 1) with rfl | rfl
    · injection hu with hu; rw [← hu]; exact hr 1 (by omega)
    · injection hu with hu; rw [← hu]; exact hr 2 (by omega)
  have HNB : Hid (Calls Tryd.prog 72 #[.slice (some ⟨g, off + 1, none⟩) 2 (cap - 1)] W (NmPost [w1, w2] W)) := numbers_any (some ⟨g, off + 1, none⟩) (cap - 1) [w1, w2] (fun y hy => hsm y (List.mem_cons_of_mem _ hy)) (by simp) W hrd
  have HTN : Hid (nmsB [w1, w2] = false → ∀ w', Below w.heap.size w w' → TkPost w rb c last 6 [w0, w1, w2] W (.returned (.bool false)) w') := fun hb w' hbe => tk_no (by unfold rowV; simp [hb]) hbe
  have HTY : Hid (nmsB [w1, w2] = true → ∀ (w' : World) (c' : Cv), pcOf c' = setV (pcOf c) 6 [(numI w1 : Nat), (numI w2 : Nat)] → RD w rb c' last w' → TkPost w rb c last 6 [w0, w1, w2] W (.returned (.bool true)) w') := fun hb w' c' hc hr => tk_yes (by unfold rowV; simp [hb, nmsL]) hc hr
  have hc1 : ¬ cap = 1 := by omega
  clear hr hsm hrd h
  go_enter Tryd.func41, Tryd.ntmps41
  go_wp2_with fail
  refine HNB.out.mono ?_
  intro e W3 h3
  obtain ⟨hy, hno, hb3⟩ := h3
  have H3 := Lib.hid (H.out.more hb3)
  cases hb : nmsB [w1, w2]
  · obtain rfl := hno hb
    have HT := Lib.hid (HTN.out hb)
    clear hy hno hb3 hb
    go_wp2_with fail
    go_ret
    exact HT.out _ H3.out.bel
  · obtain ⟨a3, c3', rfl, hown3⟩ := hy hb
    obtain ⟨g3, rfl, hg3, hg3'⟩ := hown3.at_ (by simp)
    have HT := Lib.hid (HTY.out hb)
    obtain ⟨y0, hy0⟩ : ∃ y, Hid (y = ((numI w1 : Nat) : Int)) := ⟨_, Lib.hid rfl⟩
    obtain ⟨y1, hy1⟩ : ∃ y, Hid (y = ((numI w2 : Nat) : Int)) := ⟨_, Lib.hid rfl⟩
    have m0 : W3.cell? ⟨g3, 0, none⟩ = some (.int .i64 y0) := by rw [hy0.out]; exact hown3.cell 0 _ rfl
    have m1 : W3.cell? ⟨g3, 1, none⟩ = some (.int .i64 y1) := by rw [hy1.out]; exact hown3.cell 1 _ rfl
    rw [← hy0.out, ← hy1.out] at HT
    have hsz := hb3.size
    have hrb := H3.out.ob.lt
    have hB3 := H3.out.bel.size
    have c0 := (H3.out).ob.cell 0 _ rfl; have c1 := (H3.out).ob.cell 1 _ rfl; have c2 := (H3.out).ob.cell 2 _ rfl; have c3 := (H3.out).ob.cell 3 _ rfl; have c4 := (H3.out).ob.cell 4 _ rfl; have c5 := (H3.out).ob.cell 5 _ rfl; have c6 := (H3.out).ob.cell 6 _ rfl; have c7 := (H3.out).ob.cell 7 _ rfl; have c8 := (H3.out).ob.cell 8 _ rfl
    have f6 := H3.out.ob.free 6
    have f7 := H3.out.ob.free 7
    clear hy hno hb3 hb hown3 HTY HTN
    go_wp2_with fail
    have HD := Lib.hid (H3.out.more (Below.refl _ _).drew)
    go_region
    all_goals
      go_wp2_with fail
      go_ret
      exact HT.out _ _ rfl (HD.out.setGate y0 y1)
end Go.Proofs.YtoalpdjpljapbaaDoor
