/- The reference of plan: ports, ranks. -/
import Derived.Test.YtoalpdjpljapbaaDoorGPlanReads5
namespace Go.Proofs.YtoalpdjpljapbaaDoor
set_option linter.unusedVariables false
set_option linter.unusedSimpArgs false
set_option linter.unnecessarySimpa false
open Go.RowKit Go.Sort
set_option maxHeartbeats 2000000
set_option maxRecDepth 100000
set_option linter.unusedVariables false
theorem ba_beq (a c : List UInt8) : ((ba a).toList == c) = decide (a = c) := by
  rw [ByteArray.toList_eq, ba_data]
  by_cases h : a = c <;> simp [h]
/-- A port's line. -/
def porR (ws : List (List UInt8)) : (Int × Int) × Bool := match lbF (ws.getD 1 []) with
  | none => ((0, 0), false)
  | some x => if ws.getD 2 [] = [111, 117, 116] then (((x : Nat), -1), true) else (((x : Nat), (numI (ws.getD 2 []) : Nat)), numB (ws.getD 2 []))
theorem rport_any (w0 w1 w2 : List UInt8) (hsm : ∀ x ∈ [w0, w1, w2], x.length ≤ 100000000) (a : Option Addr) (cap : Nat) (w : World) (h : RdW w a cap [w0, w1, w2]) :
    Calls Tryd.prog 74 #[.slice a 3 cap] w fun e w' => e = .returned (.tuple #[.agg #[.int .i64 (porR [w0, w1, w2]).1.1, .int .i64 (porR [w0, w1, w2]).1.2], .bool (porR [w0, w1, w2]).2]) ∧ Below w.heap.size w w' := by
  obtain ⟨g, off, rfl, hg, hc⟩ := h.at_ 1 (by simp)
  obtain ⟨W0, hW0⟩ : ∃ W0, W0 = w.alloc (.cells #[.int .i64 0, .int .i64 0] 62) := ⟨_, rfl⟩
  have HO0 : Hid (ObjAt W0 w.heap.size 62 [.int .i64 0, .int .i64 0]) := by rw [hW0]; exact ObjAt.new w _ _
  have HB0 : Hid (Below w.heap.size w W0) := by rw [hW0]; exact (Below.refl _ _).alloc (Nat.le_refl _) _
  have HW0 := Lib.hid hW0
  have n1 : W0.cell? ⟨g, off + 1, none⟩ = some (.string (ba w1)) := by rw [HB0.out.cell (p := ⟨g, off + 1, none⟩) hg]; exact hc 1 (by simp)
  have HN2 : Hid (∀ W, Below w.heap.size w W → W.cell? ⟨g, off + 2, none⟩ = some (.string (ba w2))) := fun W hb => by rw [hb.cell (p := ⟨g, off + 2, none⟩) hg]; exact hc 2 (by simp)
  have HLP := fun W => Lib.hid (LParse_ref (ba w1) W)
  rw [ba_data, find_v, find_e] at HLP
  have hmx : cap ≤ 9223372036854775807 := h.mx
  have hle : 3 ≤ cap := h.le
  obtain ⟨R, hR⟩ : ∃ R, R = porR [w0, w1, w2] := ⟨_, rfl⟩
  rw [← hR]
  cases hl : lbF w1 with
  | none =>
    have e1 : lbPV w1 = 0 ∧ lbPE w1 = 6 := ⟨by unfold lbPV; rw [hl]; rfl, by unfold lbPE; rw [hl]; rfl⟩
    rw [e1.1, e1.2] at HLP
    obtain rfl : R = ((0, 0), false) := by rw [hR]; unfold porR; simp [hl]
    clear e1 hl h hc hsm hR hW0
    go_enter Tryd.func74, Tryd.ntmps74
    go_upto_region 1 with fail
    rw [← HW0.out]
    go_wp2_with fail
    refine ((HLP _).out).mono ?_; rintro e W1 ⟨rfl, b1⟩
    have HB1 := Lib.hid (bmore HB0.out b1)
    have hO := HO0.out.below b1
    have s6 := hO.lt
    have a0 := hO.cell 0 _ rfl
    have a1 := hO.cell 1 _ rfl
    have g0 := hO.free 0
    have g1 := hO.free 1
    clear b1 hO
    go_wp2_with fail
    (refine bodyPost_ret (v := .tuple #[.agg #[.int .i64 0, .int .i64 0], .bool false]) (by simp [results, Tryd.results74, go_sem, a0, a1, s6]) rfl ?_)
    exact ⟨rfl, ((HB1.out.setCell (Nat.le_refl _) _).setCell (Nat.le_refl _) _)⟩
  | some x =>
    have e1 : lbPV w1 = x ∧ lbPE w1 = 0 := ⟨by unfold lbPV; rw [hl]; rfl, by unfold lbPE; rw [hl]; rfl⟩
    rw [e1.1, e1.2] at HLP
    have hoq := ba_beq w2 [111, 117, 116]
    by_cases hout : w2 = [111, 117, 116]
    · rw [decide_eq_true hout] at hoq
      obtain rfl : R = (((x : Int), -1), true) := by rw [hR]; unfold porR; simp [hl, hout]
      clear e1 hl h hc hsm hR hW0 hout
      go_enter Tryd.func74, Tryd.ntmps74
      go_upto_region 1 with fail
      rw [← HW0.out]
      go_wp2_with fail
      refine ((HLP _).out).mono ?_; rintro e W1 ⟨rfl, b1⟩
      have HB1 := Lib.hid (bmore HB0.out b1)
      have n2 := HN2.out _ HB1.out
      have hO := HO0.out.below b1
      have s6 := hO.lt
      have a0 := hO.cell 0 _ rfl
      have a1 := hO.cell 1 _ rfl
      have g0 := hO.free 0
      have g1 := hO.free 1
      clear b1 hO
      go_wp2_with fail
      (refine bodyPost_ret (v := .tuple #[.agg #[.int .i64 x, .int .i64 (-1)], .bool true]) (by simp [results, Tryd.results74, go_sem, a0, a1, s6]) rfl ?_)
      exact ⟨rfl, ((HB1.out.setCell (Nat.le_refl _) _).setCell (Nat.le_refl _) _)⟩
    · rw [decide_eq_false hout] at hoq
      have HNU := fun W => Lib.hid (rnumber_any (ba w2) (by rw [ba_size]; have := hsm w2 (by simp); unfold maxLen; omega) W)
      rw [ba_data] at HNU
      obtain ⟨y, hy⟩ : ∃ y, Hid (y = ((numI w2 : Nat) : Int)) := ⟨_, Lib.hid rfl⟩
      obtain ⟨b, hb⟩ : ∃ y, Hid (y = numB w2) := ⟨_, Lib.hid rfl⟩
      rw [← hy.out, ← hb.out] at HNU
      obtain rfl : R = (((x : Int), y), b) := by rw [hR, hy.out, hb.out]; unfold porR; simp [hl, hout]
      clear e1 hl h hc hsm hR hW0 hout
      go_enter Tryd.func74, Tryd.ntmps74
      go_upto_region 1 with fail
      rw [← HW0.out]
      go_wp2_with fail
      refine ((HLP _).out).mono ?_; rintro e W1 ⟨rfl, b1⟩
      have HB1 := Lib.hid (bmore HB0.out b1)
      have n2 := HN2.out _ HB1.out
      have hO := HO0.out.below b1
      have s6 := hO.lt
      have a0 := hO.cell 0 _ rfl
      have a1 := hO.cell 1 _ rfl
      have g0 := hO.free 0
      have g1 := hO.free 1
      clear b1 hO
      go_wp2_with fail
      refine ((HNU _).out).mono ?_; rintro e W2 ⟨rfl, rfl⟩
      go_wp2_with fail
      (refine bodyPost_ret (v := .tuple #[.agg #[.int .i64 x, .int .i64 y], .bool b]) (by simp [results, Tryd.results74, go_sem, a0, a1, s6]) rfl ?_)
      exact ⟨rfl, ((HB1.out.setCell (Nat.le_refl _) _).setCell (Nat.le_refl _) _)⟩
theorem rank7 {s : List UInt8} (h : rankV s = 7) : ∀ j, j < 7 → rkName j ≠ s := by
  intro j hj e
  unfold rankV at h
  split at h
  · rename_i i hf
    have := List.mem_range.1 (List.mem_of_find?_eq_some hf); omega
  · rename_i hf
    rw [List.find?_eq_none] at hf
    exact hf j (List.mem_range.2 hj) (by simp [e])
def rankR (s : List UInt8) : Int × Int := if rankV s < 7 then ((rankV s : Nat), (wordsK (rankV s) : Nat)) else (-1, 0)
theorem rrank_any (s : List UInt8) (w : World) : Calls Tryd.prog 42 #[.string (ba s)] w fun e w' => e = .returned (.tuple #[.int .i64 (rankR s).1, .int .i64 (rankR s).2]) ∧ w = w' := by
  obtain ⟨R, hR⟩ : ∃ R, R = rankR s := ⟨_, rfl⟩
  rw [← hR]
  have hle := rankV_le s
  by_cases h7 : rankV s < 7
  · have hs := rankV_some h7
    rcases (by omega : rankV s = 0 ∨ rankV s = 1 ∨ rankV s = 2 ∨ rankV s = 3 ∨ rankV s = 4 ∨ rankV s = 5 ∨ rankV s = 6) with hk | hk | hk | hk | hk | hk | hk
    all_goals rw [hk] at hs; rw [show rkName _ = _ from rfl] at hs
    · have h0 : ((ba s).toList == [99, 97, 116, 115]) = true := by rw [ba_beq, ← hs]; decide
      have h1 : ((ba s).toList == [103, 117, 101, 115, 116]) = false := by rw [ba_beq, ← hs]; decide
      have h2 : ((ba s).toList == [114, 97, 110, 103, 101]) = false := by rw [ba_beq, ← hs]; decide
      have h3 : ((ba s).toList == [112, 111, 114, 116]) = false := by rw [ba_beq, ← hs]; decide
      have h4 : ((ba s).toList == [114, 105, 110, 103]) = false := by rw [ba_beq, ← hs]; decide
      have h5 : ((ba s).toList == [115, 108, 111, 116]) = false := by rw [ba_beq, ← hs]; decide
      have h6 : ((ba s).toList == [103, 97, 116, 101]) = false := by rw [ba_beq, ← hs]; decide
      (obtain rfl : R = (0, 2) := (by rw [hR]; unfold rankR; rw [hk]; rfl); clear hR hk hs h7 hle; go_enter Tryd.func42, Tryd.ntmps42; go_wp2_with fail; go_ret2; exact ⟨rfl, rfl⟩)
    · have h0 : ((ba s).toList == [99, 97, 116, 115]) = false := by rw [ba_beq, ← hs]; decide
      have h1 : ((ba s).toList == [103, 117, 101, 115, 116]) = true := by rw [ba_beq, ← hs]; decide
      have h2 : ((ba s).toList == [114, 97, 110, 103, 101]) = false := by rw [ba_beq, ← hs]; decide
      have h3 : ((ba s).toList == [112, 111, 114, 116]) = false := by rw [ba_beq, ← hs]; decide
      have h4 : ((ba s).toList == [114, 105, 110, 103]) = false := by rw [ba_beq, ← hs]; decide
      have h5 : ((ba s).toList == [115, 108, 111, 116]) = false := by rw [ba_beq, ← hs]; decide
      have h6 : ((ba s).toList == [103, 97, 116, 101]) = false := by rw [ba_beq, ← hs]; decide
      (obtain rfl : R = (1, 4) := (by rw [hR]; unfold rankR; rw [hk]; rfl); clear hR hk hs h7 hle; go_enter Tryd.func42, Tryd.ntmps42; go_wp2_with fail; go_ret2; exact ⟨rfl, rfl⟩)
    · have h0 : ((ba s).toList == [99, 97, 116, 115]) = false := by rw [ba_beq, ← hs]; decide
      have h1 : ((ba s).toList == [103, 117, 101, 115, 116]) = false := by rw [ba_beq, ← hs]; decide
      have h2 : ((ba s).toList == [114, 97, 110, 103, 101]) = true := by rw [ba_beq, ← hs]; decide
      have h3 : ((ba s).toList == [112, 111, 114, 116]) = false := by rw [ba_beq, ← hs]; decide
      have h4 : ((ba s).toList == [114, 105, 110, 103]) = false := by rw [ba_beq, ← hs]; decide
      have h5 : ((ba s).toList == [115, 108, 111, 116]) = false := by rw [ba_beq, ← hs]; decide
      have h6 : ((ba s).toList == [103, 97, 116, 101]) = false := by rw [ba_beq, ← hs]; decide
      (obtain rfl : R = (2, 4) := (by rw [hR]; unfold rankR; rw [hk]; rfl); clear hR hk hs h7 hle; go_enter Tryd.func42, Tryd.ntmps42; go_wp2_with fail; go_ret2; exact ⟨rfl, rfl⟩)
    · have h0 : ((ba s).toList == [99, 97, 116, 115]) = false := by rw [ba_beq, ← hs]; decide
      have h1 : ((ba s).toList == [103, 117, 101, 115, 116]) = false := by rw [ba_beq, ← hs]; decide
      have h2 : ((ba s).toList == [114, 97, 110, 103, 101]) = false := by rw [ba_beq, ← hs]; decide
      have h3 : ((ba s).toList == [112, 111, 114, 116]) = true := by rw [ba_beq, ← hs]; decide
      have h4 : ((ba s).toList == [114, 105, 110, 103]) = false := by rw [ba_beq, ← hs]; decide
      have h5 : ((ba s).toList == [115, 108, 111, 116]) = false := by rw [ba_beq, ← hs]; decide
      have h6 : ((ba s).toList == [103, 97, 116, 101]) = false := by rw [ba_beq, ← hs]; decide
      (obtain rfl : R = (3, 3) := (by rw [hR]; unfold rankR; rw [hk]; rfl); clear hR hk hs h7 hle; go_enter Tryd.func42, Tryd.ntmps42; go_wp2_with fail; go_ret2; exact ⟨rfl, rfl⟩)
    · have h0 : ((ba s).toList == [99, 97, 116, 115]) = false := by rw [ba_beq, ← hs]; decide
      have h1 : ((ba s).toList == [103, 117, 101, 115, 116]) = false := by rw [ba_beq, ← hs]; decide
      have h2 : ((ba s).toList == [114, 97, 110, 103, 101]) = false := by rw [ba_beq, ← hs]; decide
      have h3 : ((ba s).toList == [112, 111, 114, 116]) = false := by rw [ba_beq, ← hs]; decide
      have h4 : ((ba s).toList == [114, 105, 110, 103]) = true := by rw [ba_beq, ← hs]; decide
      have h5 : ((ba s).toList == [115, 108, 111, 116]) = false := by rw [ba_beq, ← hs]; decide
      have h6 : ((ba s).toList == [103, 97, 116, 101]) = false := by rw [ba_beq, ← hs]; decide
      (obtain rfl : R = (4, 3) := (by rw [hR]; unfold rankR; rw [hk]; rfl); clear hR hk hs h7 hle; go_enter Tryd.func42, Tryd.ntmps42; go_wp2_with fail; go_ret2; exact ⟨rfl, rfl⟩)
    · have h0 : ((ba s).toList == [99, 97, 116, 115]) = false := by rw [ba_beq, ← hs]; decide
      have h1 : ((ba s).toList == [103, 117, 101, 115, 116]) = false := by rw [ba_beq, ← hs]; decide
      have h2 : ((ba s).toList == [114, 97, 110, 103, 101]) = false := by rw [ba_beq, ← hs]; decide
      have h3 : ((ba s).toList == [112, 111, 114, 116]) = false := by rw [ba_beq, ← hs]; decide
      have h4 : ((ba s).toList == [114, 105, 110, 103]) = false := by rw [ba_beq, ← hs]; decide
      have h5 : ((ba s).toList == [115, 108, 111, 116]) = true := by rw [ba_beq, ← hs]; decide
      have h6 : ((ba s).toList == [103, 97, 116, 101]) = false := by rw [ba_beq, ← hs]; decide
      (obtain rfl : R = (5, 3) := (by rw [hR]; unfold rankR; rw [hk]; rfl); clear hR hk hs h7 hle; go_enter Tryd.func42, Tryd.ntmps42; go_wp2_with fail; go_ret2; exact ⟨rfl, rfl⟩)
    · have h0 : ((ba s).toList == [99, 97, 116, 115]) = false := by rw [ba_beq, ← hs]; decide
      have h1 : ((ba s).toList == [103, 117, 101, 115, 116]) = false := by rw [ba_beq, ← hs]; decide
      have h2 : ((ba s).toList == [114, 97, 110, 103, 101]) = false := by rw [ba_beq, ← hs]; decide
      have h3 : ((ba s).toList == [112, 111, 114, 116]) = false := by rw [ba_beq, ← hs]; decide
      have h4 : ((ba s).toList == [114, 105, 110, 103]) = false := by rw [ba_beq, ← hs]; decide
      have h5 : ((ba s).toList == [115, 108, 111, 116]) = false := by rw [ba_beq, ← hs]; decide
      have h6 : ((ba s).toList == [103, 97, 116, 101]) = true := by rw [ba_beq, ← hs]; decide
      (obtain rfl : R = (6, 3) := (by rw [hR]; unfold rankR; rw [hk]; rfl); clear hR hk hs h7 hle; go_enter Tryd.func42, Tryd.ntmps42; go_wp2_with fail; go_ret2; exact ⟨rfl, rfl⟩)
  · have hn := rank7 (s := s) (by omega)
    obtain rfl : R = (-1, 0) := by rw [hR]; unfold rankR; rw [if_neg h7]
    have hne : ∀ j (hj : j < 7), ((ba s).toList == rkName j) = false := fun j hj => by rw [ba_beq, decide_eq_false (fun e => hn j hj e.symm)]
    have h0 : ((ba s).toList == [99, 97, 116, 115]) = false := hne 0 (by omega)
    have h1 : ((ba s).toList == [103, 117, 101, 115, 116]) = false := hne 1 (by omega)
    have h2 : ((ba s).toList == [114, 97, 110, 103, 101]) = false := hne 2 (by omega)
    have h3 : ((ba s).toList == [112, 111, 114, 116]) = false := hne 3 (by omega)
    have h4 : ((ba s).toList == [114, 105, 110, 103]) = false := hne 4 (by omega)
    have h5 : ((ba s).toList == [115, 108, 111, 116]) = false := hne 5 (by omega)
    have h6 : ((ba s).toList == [103, 97, 116, 101]) = false := hne 6 (by omega)
    clear hn hne h7 hR hle
    go_enter Tryd.func42, Tryd.ntmps42
    go_wp2_with fail
    go_ret2
    exact ⟨rfl, rfl⟩
end Go.Proofs.YtoalpdjpljapbaaDoor
/- The reference of plan: a line taken. -/
namespace Go.Proofs.YtoalpdjpljapbaaDoor
set_option linter.unusedVariables false
set_option linter.unusedSimpArgs false
set_option linter.unnecessarySimpa false
open Go.RowKit Go.Sort
set_option maxHeartbeats 4000000
set_option maxRecDepth 100000
set_option linter.unusedVariables false
/-- A configuration at work whose rows are its own. -/
structure RO (w : World) (c : Cv) (W : World) : Prop where
  bel : Below w.heap.size w W
  g : Own W w.heap.size 58 3 c.g.a c.g.l.length c.g.cap (iF c.g.l)
  r : Own W w.heap.size 60 3 c.r.a c.r.l.length c.r.cap (iF c.r.l)
  p : Own W w.heap.size 62 2 c.p.a c.p.l.length c.p.cap (iF c.p.l)
  n : Own W w.heap.size 64 2 c.n.a c.n.l.length c.n.cap (iF c.n.l)
  s : Own W w.heap.size 66 2 c.s.a c.s.l.length c.s.cap (iF c.s.l)
  lg : ∀ x ∈ c.g.l, x.length = 3
  lr : ∀ x ∈ c.r.l, x.length = 3
  lp : ∀ x ∈ c.p.l, x.length = 2
  ln : ∀ x ∈ c.n.l, x.length = 2
  ls : ∀ x ∈ c.s.l, x.length = 2
theorem RO.more {w : World} {c : Cv} {W W' : World} (h : RO w c W) (hb : Below W.heap.size W W') : RO w c W' :=
  ⟨bmore h.bel hb, h.g.below hb, h.r.below hb, h.p.below hb, h.n.below hb, h.s.below hb, h.lg, h.lr, h.lp, h.ln, h.ls⟩
theorem RO.upd {w : World} {c : Cv} {W W' : World} {b : Nat} {cs : List Value} (h : RO w c W) (ho : ObjAt W b 29 cs) (hb : w.heap.size ≤ b) (hu : Upd b W W') : RO w c W' :=
  ⟨h.bel.trans (hu.below hb h.bel.size), h.g.upd hu (h.g.ne ho (by decide)), h.r.upd hu (h.r.ne ho (by decide)), h.p.upd hu (h.p.ne ho (by decide)), h.n.upd hu (h.n.ne ho (by decide)), h.s.upd hu (h.s.ne ho (by decide)), h.lg, h.lr, h.lp, h.ln, h.ls⟩
theorem RO.cfg {w : World} {c : Cv} {W : World} (h : RO w c W) : CfgOk W c :=
  ⟨⟨h.g.rd, h.g.le, h.g.capMax, h.lg⟩, ⟨h.r.rd, h.r.le, h.r.capMax, h.lr⟩, ⟨h.p.rd, h.p.le, h.p.capMax, h.lp⟩, ⟨h.n.rd, h.n.le, h.n.capMax, h.ln⟩, ⟨h.s.rd, h.s.le, h.s.capMax, h.ls⟩⟩
theorem RO.addG {w : World} {c : Cv} {W W2 : World} (h1 : RO w c W) {g' c' : Nat} {row : List Int} (ho : Own W2 w.heap.size 58 3 (some ⟨g', 0, none⟩) (c.g.l.length + 1) c' (iF c.g.l ++ ivs row)) (hm : Mod (blk c.g.a) W W2) (hrow : row.length = 3) :
    RO w { c with g := ⟨some ⟨g', 0, none⟩, c', c.g.l ++ [row]⟩ } W2 := by
  have hb2 : Below w.heap.size w W2 := h1.bel.trans (hm.below (fun k hk => (h1.g.ge k hk).1) h1.bel.size)
  have hl : (c.g.l ++ [row]).length = c.g.l.length + 1 := by simp
  have hrows : ∀ x ∈ c.g.l ++ [row], x.length = 3 := fun x hx => by
    rcases List.mem_append.1 hx with hx | hx
    · exact h1.lg x hx
    · rw [List.mem_singleton.1 hx]; exact hrow
  have hown : Own W2 w.heap.size 58 3 (some ⟨g', 0, none⟩) (c.g.l ++ [row]).length c' (iF (c.g.l ++ [row])) := by rw [hl, iF_snoc]; exact ho
  exact ⟨hb2, hown, (h1.r.mod hm (h1.r.apart h1.g (by decide))), (h1.p.mod hm (h1.p.apart h1.g (by decide))), (h1.n.mod hm (h1.n.apart h1.g (by decide))), (h1.s.mod hm (h1.s.apart h1.g (by decide))), hrows, h1.lr, h1.lp, h1.ln, h1.ls⟩
theorem RO.addR {w : World} {c : Cv} {W W2 : World} (h1 : RO w c W) {g' c' : Nat} {row : List Int} (ho : Own W2 w.heap.size 60 3 (some ⟨g', 0, none⟩) (c.r.l.length + 1) c' (iF c.r.l ++ ivs row)) (hm : Mod (blk c.r.a) W W2) (hrow : row.length = 3) :
    RO w { c with r := ⟨some ⟨g', 0, none⟩, c', c.r.l ++ [row]⟩ } W2 := by
  have hb2 : Below w.heap.size w W2 := h1.bel.trans (hm.below (fun k hk => (h1.r.ge k hk).1) h1.bel.size)
  have hl : (c.r.l ++ [row]).length = c.r.l.length + 1 := by simp
  have hrows : ∀ x ∈ c.r.l ++ [row], x.length = 3 := fun x hx => by
    rcases List.mem_append.1 hx with hx | hx
    · exact h1.lr x hx
    · rw [List.mem_singleton.1 hx]; exact hrow
  have hown : Own W2 w.heap.size 60 3 (some ⟨g', 0, none⟩) (c.r.l ++ [row]).length c' (iF (c.r.l ++ [row])) := by rw [hl, iF_snoc]; exact ho
  exact ⟨hb2, (h1.g.mod hm (h1.g.apart h1.r (by decide))), hown, (h1.p.mod hm (h1.p.apart h1.r (by decide))), (h1.n.mod hm (h1.n.apart h1.r (by decide))), (h1.s.mod hm (h1.s.apart h1.r (by decide))), h1.lg, hrows, h1.lp, h1.ln, h1.ls⟩
theorem RO.addP {w : World} {c : Cv} {W W2 : World} (h1 : RO w c W) {g' c' : Nat} {row : List Int} (ho : Own W2 w.heap.size 62 2 (some ⟨g', 0, none⟩) (c.p.l.length + 1) c' (iF c.p.l ++ ivs row)) (hm : Mod (blk c.p.a) W W2) (hrow : row.length = 2) :
    RO w { c with p := ⟨some ⟨g', 0, none⟩, c', c.p.l ++ [row]⟩ } W2 := by
  have hb2 : Below w.heap.size w W2 := h1.bel.trans (hm.below (fun k hk => (h1.p.ge k hk).1) h1.bel.size)
  have hl : (c.p.l ++ [row]).length = c.p.l.length + 1 := by simp
  have hrows : ∀ x ∈ c.p.l ++ [row], x.length = 2 := fun x hx => by
    rcases List.mem_append.1 hx with hx | hx
    · exact h1.lp x hx
    · rw [List.mem_singleton.1 hx]; exact hrow
  have hown : Own W2 w.heap.size 62 2 (some ⟨g', 0, none⟩) (c.p.l ++ [row]).length c' (iF (c.p.l ++ [row])) := by rw [hl, iF_snoc]; exact ho
  exact ⟨hb2, (h1.g.mod hm (h1.g.apart h1.p (by decide))), (h1.r.mod hm (h1.r.apart h1.p (by decide))), hown, (h1.n.mod hm (h1.n.apart h1.p (by decide))), (h1.s.mod hm (h1.s.apart h1.p (by decide))), h1.lg, h1.lr, hrows, h1.ln, h1.ls⟩
theorem RO.addN {w : World} {c : Cv} {W W2 : World} (h1 : RO w c W) {g' c' : Nat} {row : List Int} (ho : Own W2 w.heap.size 64 2 (some ⟨g', 0, none⟩) (c.n.l.length + 1) c' (iF c.n.l ++ ivs row)) (hm : Mod (blk c.n.a) W W2) (hrow : row.length = 2) :
    RO w { c with n := ⟨some ⟨g', 0, none⟩, c', c.n.l ++ [row]⟩ } W2 := by
  have hb2 : Below w.heap.size w W2 := h1.bel.trans (hm.below (fun k hk => (h1.n.ge k hk).1) h1.bel.size)
  have hl : (c.n.l ++ [row]).length = c.n.l.length + 1 := by simp
  have hrows : ∀ x ∈ c.n.l ++ [row], x.length = 2 := fun x hx => by
    rcases List.mem_append.1 hx with hx | hx
    · exact h1.ln x hx
    · rw [List.mem_singleton.1 hx]; exact hrow
  have hown : Own W2 w.heap.size 64 2 (some ⟨g', 0, none⟩) (c.n.l ++ [row]).length c' (iF (c.n.l ++ [row])) := by rw [hl, iF_snoc]; exact ho
  exact ⟨hb2, (h1.g.mod hm (h1.g.apart h1.n (by decide))), (h1.r.mod hm (h1.r.apart h1.n (by decide))), (h1.p.mod hm (h1.p.apart h1.n (by decide))), hown, (h1.s.mod hm (h1.s.apart h1.n (by decide))), h1.lg, h1.lr, h1.lp, hrows, h1.ls⟩
theorem RO.addS {w : World} {c : Cv} {W W2 : World} (h1 : RO w c W) {g' c' : Nat} {row : List Int} (ho : Own W2 w.heap.size 66 2 (some ⟨g', 0, none⟩) (c.s.l.length + 1) c' (iF c.s.l ++ ivs row)) (hm : Mod (blk c.s.a) W W2) (hrow : row.length = 2) :
    RO w { c with s := ⟨some ⟨g', 0, none⟩, c', c.s.l ++ [row]⟩ } W2 := by
  have hb2 : Below w.heap.size w W2 := h1.bel.trans (hm.below (fun k hk => (h1.s.ge k hk).1) h1.bel.size)
  have hl : (c.s.l ++ [row]).length = c.s.l.length + 1 := by simp
  have hrows : ∀ x ∈ c.s.l ++ [row], x.length = 2 := fun x hx => by
    rcases List.mem_append.1 hx with hx | hx
    · exact h1.ls x hx
    · rw [List.mem_singleton.1 hx]; exact hrow
  have hown : Own W2 w.heap.size 66 2 (some ⟨g', 0, none⟩) (c.s.l ++ [row]).length c' (iF (c.s.l ++ [row])) := by rw [hl, iF_snoc]; exact ho
  exact ⟨hb2, (h1.g.mod hm (h1.g.apart h1.s (by decide))), (h1.r.mod hm (h1.r.apart h1.s (by decide))), (h1.p.mod hm (h1.p.apart h1.s (by decide))), (h1.n.mod hm (h1.n.apart h1.s (by decide))), hown, h1.lg, h1.lr, h1.lp, h1.ln, hrows⟩
/-- The boxes of configurations stay as they were. -/
def Keep (W W' : World) : Prop := ∀ b cs, ObjAt W b 29 cs → ObjAt W' b 29 cs
theorem keep_refl (W : World) : Keep W W := fun _ _ h => h
theorem keep_mod {W W' : World} {B size n cap : Nat} {e : TypeId} {a : Option Addr} {xs : List Value} (h : Own W B e size a n cap xs) (hne : 29 ≠ e) (hm : Mod (blk a) W W') : Keep W W' := fun b cs ho => ho.mod hm (h.ne ho hne)
theorem keep_fin {W W4 W5 W6 W7 : World} {b1 b2 : Nat} (hb : Below W.heap.size W W4) (hk : Keep W4 W5) (h1 : Upd b2 W5 W6) (h2 : Upd b1 W6 W7) (n1 : W.heap.size ≤ b1) (n2 : W.heap.size ≤ b2) : Keep W W7 := fun b cs ho =>
  have hlt := ho.lt
  ((hk b cs (ho.below hb)).upd h1 (by omega)).upd h2 (by omega)
/-- What a line's taking hands back. -/
def TkR (w : World) (c : Cv) (W : World) (k : Nat) (ws : List (List UInt8)) (e : Ending) (w' : World) : Prop :=
  ∃ c' : Cv, e = .returned (.tuple #[.agg #[.int .i64 c'.cats, .slice c'.g.a c'.g.l.length c'.g.cap, .slice c'.r.a c'.r.l.length c'.r.cap, .slice c'.p.a c'.p.l.length c'.p.cap, .slice c'.n.a c'.n.l.length c'.n.cap, .slice c'.s.a c'.s.l.length c'.s.cap, .int .i64 c'.gate, .int .i64 c'.quota], .bool (rowV k ws).isSome]) ∧ Below w.heap.size w w' ∧ Keep W w' ∧ ∀ row, rowV k ws = some row → pcOf c' = setV (pcOf c) k row ∧ RO w c' w'
theorem lab_row (k : Nat) (hk : k = 1 ∨ k = 2) (w0 w1 w2 w3 : List UInt8) : rowV k [w0, w1, w2, w3] = if (labR [w0, w1, w2, w3]).2 then some [(labR [w0, w1, w2, w3]).1.1, (labR [w0, w1, w2, w3]).1.2.1, (labR [w0, w1, w2, w3]).1.2.2] else none := by
  unfold rowV labR
  rcases hk with rfl | rfl <;> (cases hl : lbF w1 <;> simp [hl, nmsL]; split <;> simp [*])
theorem por_row (w0 w1 w2 : List UInt8) : rowV 3 [w0, w1, w2] = if (porR [w0, w1, w2]).2 then some [(porR [w0, w1, w2]).1.1, (porR [w0, w1, w2]).1.2] else none := by
  unfold rowV porR
  cases hl : lbF w1 <;> simp [hl, nmsL, nmsB]
  split <;> simp [*]
/-- The boxes with which a line's taking begins. -/
structure TB (W W3 : World) (b1 b2 : Nat) (c : Cv) : Prop where
  bel : Below W.heap.size W W3
  z : ObjAt W3 b1 29 #[.int .i64 0, .slice none 0 0, .slice none 0 0, .slice none 0 0, .slice none 0 0, .slice none 0 0, .int .i64 0, .int .i64 0].toList
  o : ObjAt W3 b2 29 (cfgL c)
  n1 : W.heap.size ≤ b1
  n2 : W.heap.size ≤ b2
  ne : b1 ≠ b2
theorem tb_start (W : World) (c : Cv) : TB W (((W.alloc (.cells #[.int .i64 c.cats, .slice c.g.a c.g.l.length c.g.cap, .slice c.r.a c.r.l.length c.r.cap, .slice c.p.a c.p.l.length c.p.cap, .slice c.n.a c.n.l.length c.n.cap, .slice c.s.a c.s.l.length c.s.cap, .int .i64 c.gate, .int .i64 c.quota] 29)).alloc (.cells #[.int .i64 0, .slice none 0 0, .slice none 0 0, .slice none 0 0, .slice none 0 0, .slice none 0 0, .int .i64 0, .int .i64 0] 29)).alloc (.cells #[.int .i64 c.cats, .slice c.g.a c.g.l.length c.g.cap, .slice c.r.a c.r.l.length c.r.cap, .slice c.p.a c.p.l.length c.p.cap, .slice c.n.a c.n.l.length c.n.cap, .slice c.s.a c.s.l.length c.s.cap, .int .i64 c.gate, .int .i64 c.quota] 29)) (W.heap.size + 1) (W.heap.size + 1 + 1) c := by
  have s1 : (W.alloc (.cells #[.int .i64 c.cats, .slice c.g.a c.g.l.length c.g.cap, .slice c.r.a c.r.l.length c.r.cap, .slice c.p.a c.p.l.length c.p.cap, .slice c.n.a c.n.l.length c.n.cap, .slice c.s.a c.s.l.length c.s.cap, .int .i64 c.gate, .int .i64 c.quota] 29)).heap.size = W.heap.size + 1 := World.size_alloc _ _
  have s2 : ((W.alloc (.cells #[.int .i64 c.cats, .slice c.g.a c.g.l.length c.g.cap, .slice c.r.a c.r.l.length c.r.cap, .slice c.p.a c.p.l.length c.p.cap, .slice c.n.a c.n.l.length c.n.cap, .slice c.s.a c.s.l.length c.s.cap, .int .i64 c.gate, .int .i64 c.quota] 29)).alloc (.cells #[.int .i64 0, .slice none 0 0, .slice none 0 0, .slice none 0 0, .slice none 0 0, .slice none 0 0, .int .i64 0, .int .i64 0] 29)).heap.size = W.heap.size + 1 + 1 := by rw [World.size_alloc, s1]
  refine ⟨(((Below.refl _ _).alloc (Nat.le_refl _) _).alloc (by rw [s1]; omega) _).alloc (by rw [s2]; omega) _, ?_, ?_, by omega, by omega, by omega⟩
  · have := (ObjAt.new (W.alloc (.cells #[.int .i64 c.cats, .slice c.g.a c.g.l.length c.g.cap, .slice c.r.a c.r.l.length c.r.cap, .slice c.p.a c.p.l.length c.p.cap, .slice c.n.a c.n.l.length c.n.cap, .slice c.s.a c.s.l.length c.s.cap, .int .i64 c.gate, .int .i64 c.quota] 29)) 29 #[.int .i64 0, .slice none 0 0, .slice none 0 0, .slice none 0 0, .slice none 0 0, .slice none 0 0, .int .i64 0, .int .i64 0].toList).below ((Below.refl _ _).alloc (Nat.le_refl _) (.cells #[.int .i64 c.cats, .slice c.g.a c.g.l.length c.g.cap, .slice c.r.a c.r.l.length c.r.cap, .slice c.p.a c.p.l.length c.p.cap, .slice c.n.a c.n.l.length c.n.cap, .slice c.s.a c.s.l.length c.s.cap, .int .i64 c.gate, .int .i64 c.quota] 29))
    rw [s1] at this; exact this
  · have := ObjAt.new ((W.alloc (.cells #[.int .i64 c.cats, .slice c.g.a c.g.l.length c.g.cap, .slice c.r.a c.r.l.length c.r.cap, .slice c.p.a c.p.l.length c.p.cap, .slice c.n.a c.n.l.length c.n.cap, .slice c.s.a c.s.l.length c.s.cap, .int .i64 c.gate, .int .i64 c.quota] 29)).alloc (.cells #[.int .i64 0, .slice none 0 0, .slice none 0 0, .slice none 0 0, .slice none 0 0, .slice none 0 0, .int .i64 0, .int .i64 0] 29)) 29 (cfgL c)
    rw [s2] at this; exact this
theorem TB.more {W W3 W' : World} {b1 b2 : Nat} {c : Cv} (h : TB W W3 b1 b2 c) (hb : Below W3.heap.size W3 W') : TB W W' b1 b2 c := ⟨bmore h.bel hb, h.z.below hb, h.o.below hb, h.n1, h.n2, h.ne⟩
theorem tkr_fin {w W0 : World} {c c1 : Cv} {k : Nat} {ws : List (List UInt8)} {row : List Int} {b : Bool} {W : World} {v : Value} (h : rowV k ws = if b then some row else none) (hc : pcOf c1 = setV (pcOf c) k row) (hr : RO w c1 W) (hk : Keep W0 W) (hv : v = .tuple #[.agg #[.int .i64 c1.cats, .slice c1.g.a c1.g.l.length c1.g.cap, .slice c1.r.a c1.r.l.length c1.r.cap, .slice c1.p.a c1.p.l.length c1.p.cap, .slice c1.n.a c1.n.l.length c1.n.cap, .slice c1.s.a c1.s.l.length c1.s.cap, .int .i64 c1.gate, .int .i64 c1.quota], .bool b]) : TkR w c W0 k ws (.returned v) W := by
  refine ⟨c1, ?_, hr.bel, hk, fun r hr2 => ?_⟩
  · rw [hv, h]; cases b <;> rfl
  · rw [h] at hr2
    cases b
    · cases hr2
    · injection hr2 with hr2; rw [← hr2]; exact ⟨hc, hr⟩
theorem rtake_guest (w : World) (c : Cv) (w0 w1 w2 w3 : List UInt8) (hsm : ∀ x ∈ [w0, w1, w2, w3], x.length ≤ 100000000) (a : Option Addr) (cap : Nat) (W : World) (h : RO w c W) (hr : RdW W a cap [w0, w1, w2, w3]) (hn : FewC c) :
    Calls Tryd.prog 43 #[(.agg #[.int .i64 c.cats, .slice c.g.a c.g.l.length c.g.cap, .slice c.r.a c.r.l.length c.r.cap, .slice c.p.a c.p.l.length c.p.cap, .slice c.n.a c.n.l.length c.n.cap, .slice c.s.a c.s.l.length c.s.cap, .int .i64 c.gate, .int .i64 c.quota]), .int .i64 1, .slice a 4 cap] W (TkR w c W 1 [w0, w1, w2, w3]) := by
  obtain ⟨i0, hi0, hz0, hz1, hz2⟩ := info_parts info_gu
  obtain ⟨W3, hW3⟩ : ∃ W3, W3 = ((W.alloc (.cells #[.int .i64 c.cats, .slice c.g.a c.g.l.length c.g.cap, .slice c.r.a c.r.l.length c.r.cap, .slice c.p.a c.p.l.length c.p.cap, .slice c.n.a c.n.l.length c.n.cap, .slice c.s.a c.s.l.length c.s.cap, .int .i64 c.gate, .int .i64 c.quota] 29)).alloc (.cells #[.int .i64 0, .slice none 0 0, .slice none 0 0, .slice none 0 0, .slice none 0 0, .slice none 0 0, .int .i64 0, .int .i64 0] 29)).alloc (.cells #[.int .i64 c.cats, .slice c.g.a c.g.l.length c.g.cap, .slice c.r.a c.r.l.length c.r.cap, .slice c.p.a c.p.l.length c.p.cap, .slice c.n.a c.n.l.length c.n.cap, .slice c.s.a c.s.l.length c.s.cap, .int .i64 c.gate, .int .i64 c.quota] 29) := ⟨_, rfl⟩
  obtain ⟨b1, hb1⟩ : ∃ b, b = W.heap.size + 1 := ⟨_, rfl⟩
  obtain ⟨b2, hb2⟩ : ∃ b, b = W.heap.size + 1 + 1 := ⟨_, rfl⟩
  have HTB : Hid (TB W W3 b1 b2 c) := by rw [hW3, hb1, hb2]; exact tb_start W c
  have HRO := Lib.hid (h.more HTB.out.bel)
  have HRW := Lib.hid (hr.below HTB.out.bel)
  have HW3 := Lib.hid hW3
  have HE1 := Lib.hid hb1
  have HE2 := Lib.hid hb2
  have hwB := h.bel.size
  clear hW3 hb1 hb2
  have HLB := Lib.hid (rlabelled_any w0 w1 w2 w3 hsm a cap W3 HRW.out)
  have hrow := lab_row 1 (by omega) w0 w1 w2 w3
  generalize labR [w0, w1, w2, w3] = R at HLB hrow
  obtain ⟨⟨x, y, z⟩, b⟩ := R
  have HROW := Lib.hid hrow
  have hfew := hn.1
  clear hrow h hr hsm
  go_enter Tryd.func43, Tryd.ntmps43
  (go_upto_region 2 with fail; rw [← HW3.out]; try rw [← HE2.out]; try rw [← HE1.out])
  go_wp2_with fail
  refine HLB.out.mono ?_; rintro e W4 ⟨rfl, hb4⟩
  have HTB4 := Lib.hid (HTB.out.more hb4)
  have HRO4 := Lib.hid (HRO.out.more hb4)
  have hs4 := HRO4.out.bel.size
  clear hb4
  have q0 := (HTB4.out.o).cell 0 _ rfl; have q1 := (HTB4.out.o).cell 1 _ rfl; have q2 := (HTB4.out.o).cell 2 _ rfl; have q3 := (HTB4.out.o).cell 3 _ rfl; have q4 := (HTB4.out.o).cell 4 _ rfl; have q5 := (HTB4.out.o).cell 5 _ rfl; have q6 := (HTB4.out.o).cell 6 _ rfl; have q7 := (HTB4.out.o).cell 7 _ rfl
  go_wp2_with (at_builtin; (refine wpList_own rfl (.tmp 32) (.tmp 37) 23 rfl w.heap.size 58 i0 _ 3 24 Tryd.underlying23 hi0 hz0 hz1 hz2 rfl (by omega) c.g.a c.g.l.length c.g.cap (iF c.g.l) rfl ((HRO4.out.g).below ((Below.refl _ _).alloc (Nat.le_refl _) _)) W4.heap.size (ivs [x, y, z]) rfl (new_block _ _ _ rfl) rfl (by simp [ivs, Value.oneCell']) (by simp only [maxLen]; omega) (by omega) (by simp; omega) ?_); intro g' c' W5 hown1 hmod1 _; have HOWN := Lib.hid hown1; have HMOD : Hid (Mod (blk c.g.a) W4 W5) := ((Mod.ofBelow ((Below.refl W4.heap.size W4).alloc (Nat.le_refl _) _)).trans hmod1); clear hown1 hmod1; have HO5 := Lib.hid (HTB4.out.o.mod HMOD.out (HRO4.out.g.ne HTB4.out.o (by decide))); have HZ5 := Lib.hid (HTB4.out.z.mod HMOD.out (HRO4.out.g.ne HTB4.out.z (by decide))); have d5 := HO5.out.cell 1 _ rfl; have e5 := HO5.out.free 1; have HO6 := Lib.hid (HO5.out.set 1 (.slice (some ⟨g', 0, none⟩) (c.g.l.length + 1) c')); have HZ6 := Lib.hid (HZ5.out.upd (Upd.setCell W5 ⟨b2, 1, none⟩ (.slice (some ⟨g', 0, none⟩) (c.g.l.length + 1) c')) HTB4.out.ne); clear q0 q1 q2 q3 q4 q5 q6 q7; have r0 := (HO6.out).cell 0 _ rfl; have r1 := (HO6.out).cell 1 _ rfl; have r2 := (HO6.out).cell 2 _ rfl; have r3 := (HO6.out).cell 3 _ rfl; have r4 := (HO6.out).cell 4 _ rfl; have r5 := (HO6.out).cell 5 _ rfl; have r6 := (HO6.out).cell 6 _ rfl; have r7 := (HO6.out).cell 7 _ rfl; have a0 := (HZ6.out).cell 0 _ rfl; have a1 := (HZ6.out).cell 1 _ rfl; have a2 := (HZ6.out).cell 2 _ rfl; have a3 := (HZ6.out).cell 3 _ rfl; have a4 := (HZ6.out).cell 4 _ rfl; have a5 := (HZ6.out).cell 5 _ rfl; have a6 := (HZ6.out).cell 6 _ rfl; have a7 := (HZ6.out).cell 7 _ rfl; have g0 := (HZ6.out).free 0; have g1 := (HZ6.out).free 1; have g2 := (HZ6.out).free 2; have g3 := (HZ6.out).free 3; have g4 := (HZ6.out).free 4; have g5 := (HZ6.out).free 5; have g6 := (HZ6.out).free 6; have g7 := (HZ6.out).free 7; have s6 := (HZ6.out).lt)
  refine bodyPost_ret (v := .tuple #[.agg #[.int .i64 c.cats, .slice (some ⟨g', 0, none⟩) (c.g.l.length + 1) c', .slice c.r.a c.r.l.length c.r.cap, .slice c.p.a c.p.l.length c.p.cap, .slice c.n.a c.n.l.length c.n.cap, .slice c.s.a c.s.l.length c.s.cap, .int .i64 c.gate, .int .i64 c.quota], .bool b]) (by simp [results, Tryd.results43, go_sem, a0, a1, a2, a3, a4, a5, a6, a7, s6]) rfl ?_
  have HU7 := (upd_put (k := 7) (v := .int .i64 c.quota) (upd_put (k := 6) (v := .int .i64 c.gate) (upd_put (k := 5) (v := .slice c.s.a c.s.l.length c.s.cap) (upd_put (k := 4) (v := .slice c.n.a c.n.l.length c.n.cap) (upd_put (k := 3) (v := .slice c.p.a c.p.l.length c.p.cap) (upd_put (k := 2) (v := .slice c.r.a c.r.l.length c.r.cap) (upd_put (k := 1) (v := .slice (some ⟨g', 0, none⟩) (c.g.l.length + 1) c') (upd_put (k := 0) (v := .int .i64 c.cats) (Upd.refl b1 (W5.setCell ⟨b2, 1, none⟩ (.slice (some ⟨g', 0, none⟩) (c.g.l.length + 1) c')))))))))))
  have HR7 : RO w { c with g := ⟨some ⟨g', 0, none⟩, c', c.g.l ++ [[x, y, z]]⟩ } _ := ((HRO4.out.addG (row := [x, y, z]) HOWN.out HMOD.out rfl).upd HO5.out (by have := HTB4.out.n2; omega) (Upd.setCell W5 ⟨b2, 1, none⟩ (.slice (some ⟨g', 0, none⟩) (c.g.l.length + 1) c'))).upd HZ6.out (by have := HTB4.out.n1; omega) HU7
  have HK7 := keep_fin HTB4.out.bel (keep_mod HRO4.out.g (by decide) HMOD.out) (Upd.setCell W5 ⟨b2, 1, none⟩ (.slice (some ⟨g', 0, none⟩) (c.g.l.length + 1) c')) HU7 HTB4.out.n1 HTB4.out.n2
  exact tkr_fin HROW.out rfl HR7 HK7 (by simp)
theorem rtake_range (w : World) (c : Cv) (w0 w1 w2 w3 : List UInt8) (hsm : ∀ x ∈ [w0, w1, w2, w3], x.length ≤ 100000000) (a : Option Addr) (cap : Nat) (W : World) (h : RO w c W) (hr : RdW W a cap [w0, w1, w2, w3]) (hn : FewC c) :
    Calls Tryd.prog 43 #[(.agg #[.int .i64 c.cats, .slice c.g.a c.g.l.length c.g.cap, .slice c.r.a c.r.l.length c.r.cap, .slice c.p.a c.p.l.length c.p.cap, .slice c.n.a c.n.l.length c.n.cap, .slice c.s.a c.s.l.length c.s.cap, .int .i64 c.gate, .int .i64 c.quota]), .int .i64 2, .slice a 4 cap] W (TkR w c W 2 [w0, w1, w2, w3]) := by
  obtain ⟨i0, hi0, hz0, hz1, hz2⟩ := info_parts info_ra
  obtain ⟨W3, hW3⟩ : ∃ W3, W3 = ((W.alloc (.cells #[.int .i64 c.cats, .slice c.g.a c.g.l.length c.g.cap, .slice c.r.a c.r.l.length c.r.cap, .slice c.p.a c.p.l.length c.p.cap, .slice c.n.a c.n.l.length c.n.cap, .slice c.s.a c.s.l.length c.s.cap, .int .i64 c.gate, .int .i64 c.quota] 29)).alloc (.cells #[.int .i64 0, .slice none 0 0, .slice none 0 0, .slice none 0 0, .slice none 0 0, .slice none 0 0, .int .i64 0, .int .i64 0] 29)).alloc (.cells #[.int .i64 c.cats, .slice c.g.a c.g.l.length c.g.cap, .slice c.r.a c.r.l.length c.r.cap, .slice c.p.a c.p.l.length c.p.cap, .slice c.n.a c.n.l.length c.n.cap, .slice c.s.a c.s.l.length c.s.cap, .int .i64 c.gate, .int .i64 c.quota] 29) := ⟨_, rfl⟩
  obtain ⟨b1, hb1⟩ : ∃ b, b = W.heap.size + 1 := ⟨_, rfl⟩
  obtain ⟨b2, hb2⟩ : ∃ b, b = W.heap.size + 1 + 1 := ⟨_, rfl⟩
  have HTB : Hid (TB W W3 b1 b2 c) := by rw [hW3, hb1, hb2]; exact tb_start W c
  have HRO := Lib.hid (h.more HTB.out.bel)
  have HRW := Lib.hid (hr.below HTB.out.bel)
  have HW3 := Lib.hid hW3
  have HE1 := Lib.hid hb1
  have HE2 := Lib.hid hb2
  have hwB := h.bel.size
  clear hW3 hb1 hb2
  have HLB := Lib.hid (rlabelled_any w0 w1 w2 w3 hsm a cap W3 HRW.out)
  have hrow := lab_row 2 (by omega) w0 w1 w2 w3
  generalize labR [w0, w1, w2, w3] = R at HLB hrow
  obtain ⟨⟨x, y, z⟩, b⟩ := R
  have HROW := Lib.hid hrow
  have hfew := hn.2.1
  clear hrow h hr hsm
  go_enter Tryd.func43, Tryd.ntmps43
  (go_upto_region 2 with fail; rw [← HW3.out]; try rw [← HE2.out]; try rw [← HE1.out])
  go_wp2_with fail
  refine HLB.out.mono ?_; rintro e W4 ⟨rfl, hb4⟩
  have HTB4 := Lib.hid (HTB.out.more hb4)
  have HRO4 := Lib.hid (HRO.out.more hb4)
  have hs4 := HRO4.out.bel.size
  clear hb4
  have q0 := (HTB4.out.o).cell 0 _ rfl; have q1 := (HTB4.out.o).cell 1 _ rfl; have q2 := (HTB4.out.o).cell 2 _ rfl; have q3 := (HTB4.out.o).cell 3 _ rfl; have q4 := (HTB4.out.o).cell 4 _ rfl; have q5 := (HTB4.out.o).cell 5 _ rfl; have q6 := (HTB4.out.o).cell 6 _ rfl; have q7 := (HTB4.out.o).cell 7 _ rfl
  go_wp2_with (at_builtin; (refine wpList_own rfl (.tmp 41) (.tmp 46) 24 rfl w.heap.size 60 i0 _ 3 24 Tryd.underlying24 hi0 hz0 hz1 hz2 rfl (by omega) c.r.a c.r.l.length c.r.cap (iF c.r.l) rfl ((HRO4.out.r).below ((Below.refl _ _).alloc (Nat.le_refl _) _)) W4.heap.size (ivs [x, y, z]) rfl (new_block _ _ _ rfl) rfl (by simp [ivs, Value.oneCell']) (by simp only [maxLen]; omega) (by omega) (by simp; omega) ?_); intro g' c' W5 hown1 hmod1 _; have HOWN := Lib.hid hown1; have HMOD : Hid (Mod (blk c.r.a) W4 W5) := ((Mod.ofBelow ((Below.refl W4.heap.size W4).alloc (Nat.le_refl _) _)).trans hmod1); clear hown1 hmod1; have HO5 := Lib.hid (HTB4.out.o.mod HMOD.out (HRO4.out.r.ne HTB4.out.o (by decide))); have HZ5 := Lib.hid (HTB4.out.z.mod HMOD.out (HRO4.out.r.ne HTB4.out.z (by decide))); have d5 := HO5.out.cell 2 _ rfl; have e5 := HO5.out.free 2; have HO6 := Lib.hid (HO5.out.set 2 (.slice (some ⟨g', 0, none⟩) (c.r.l.length + 1) c')); have HZ6 := Lib.hid (HZ5.out.upd (Upd.setCell W5 ⟨b2, 2, none⟩ (.slice (some ⟨g', 0, none⟩) (c.r.l.length + 1) c')) HTB4.out.ne); clear q0 q1 q2 q3 q4 q5 q6 q7; have r0 := (HO6.out).cell 0 _ rfl; have r1 := (HO6.out).cell 1 _ rfl; have r2 := (HO6.out).cell 2 _ rfl; have r3 := (HO6.out).cell 3 _ rfl; have r4 := (HO6.out).cell 4 _ rfl; have r5 := (HO6.out).cell 5 _ rfl; have r6 := (HO6.out).cell 6 _ rfl; have r7 := (HO6.out).cell 7 _ rfl; have a0 := (HZ6.out).cell 0 _ rfl; have a1 := (HZ6.out).cell 1 _ rfl; have a2 := (HZ6.out).cell 2 _ rfl; have a3 := (HZ6.out).cell 3 _ rfl; have a4 := (HZ6.out).cell 4 _ rfl; have a5 := (HZ6.out).cell 5 _ rfl; have a6 := (HZ6.out).cell 6 _ rfl; have a7 := (HZ6.out).cell 7 _ rfl; have g0 := (HZ6.out).free 0; have g1 := (HZ6.out).free 1; have g2 := (HZ6.out).free 2; have g3 := (HZ6.out).free 3; have g4 := (HZ6.out).free 4; have g5 := (HZ6.out).free 5; have g6 := (HZ6.out).free 6; have g7 := (HZ6.out).free 7; have s6 := (HZ6.out).lt)
  refine bodyPost_ret (v := .tuple #[.agg #[.int .i64 c.cats, .slice c.g.a c.g.l.length c.g.cap, .slice (some ⟨g', 0, none⟩) (c.r.l.length + 1) c', .slice c.p.a c.p.l.length c.p.cap, .slice c.n.a c.n.l.length c.n.cap, .slice c.s.a c.s.l.length c.s.cap, .int .i64 c.gate, .int .i64 c.quota], .bool b]) (by simp [results, Tryd.results43, go_sem, a0, a1, a2, a3, a4, a5, a6, a7, s6]) rfl ?_
  have HU7 := (upd_put (k := 7) (v := .int .i64 c.quota) (upd_put (k := 6) (v := .int .i64 c.gate) (upd_put (k := 5) (v := .slice c.s.a c.s.l.length c.s.cap) (upd_put (k := 4) (v := .slice c.n.a c.n.l.length c.n.cap) (upd_put (k := 3) (v := .slice c.p.a c.p.l.length c.p.cap) (upd_put (k := 2) (v := .slice (some ⟨g', 0, none⟩) (c.r.l.length + 1) c') (upd_put (k := 1) (v := .slice c.g.a c.g.l.length c.g.cap) (upd_put (k := 0) (v := .int .i64 c.cats) (Upd.refl b1 (W5.setCell ⟨b2, 2, none⟩ (.slice (some ⟨g', 0, none⟩) (c.r.l.length + 1) c')))))))))))
  have HR7 : RO w { c with r := ⟨some ⟨g', 0, none⟩, c', c.r.l ++ [[x, y, z]]⟩ } _ := ((HRO4.out.addR (row := [x, y, z]) HOWN.out HMOD.out rfl).upd HO5.out (by have := HTB4.out.n2; omega) (Upd.setCell W5 ⟨b2, 2, none⟩ (.slice (some ⟨g', 0, none⟩) (c.r.l.length + 1) c'))).upd HZ6.out (by have := HTB4.out.n1; omega) HU7
  have HK7 := keep_fin HTB4.out.bel (keep_mod HRO4.out.r (by decide) HMOD.out) (Upd.setCell W5 ⟨b2, 2, none⟩ (.slice (some ⟨g', 0, none⟩) (c.r.l.length + 1) c')) HU7 HTB4.out.n1 HTB4.out.n2
  exact tkr_fin HROW.out rfl HR7 HK7 (by simp)
end Go.Proofs.YtoalpdjpljapbaaDoor
/- The reference of plan: ports and plain lines taken. -/
namespace Go.Proofs.YtoalpdjpljapbaaDoor
set_option linter.unusedVariables false
set_option linter.unusedSimpArgs false
set_option linter.unnecessarySimpa false
open Go.RowKit Go.Sort
set_option maxHeartbeats 4000000
set_option maxRecDepth 100000
set_option linter.unusedVariables false
theorem rtake_port (w : World) (c : Cv) (w0 w1 w2 : List UInt8) (hsm : ∀ x ∈ [w0, w1, w2], x.length ≤ 100000000) (a : Option Addr) (cap : Nat) (W : World) (h : RO w c W) (hr : RdW W a cap [w0, w1, w2]) (hn : FewC c) :
    Calls Tryd.prog 43 #[(.agg #[.int .i64 c.cats, .slice c.g.a c.g.l.length c.g.cap, .slice c.r.a c.r.l.length c.r.cap, .slice c.p.a c.p.l.length c.p.cap, .slice c.n.a c.n.l.length c.n.cap, .slice c.s.a c.s.l.length c.s.cap, .int .i64 c.gate, .int .i64 c.quota]), .int .i64 3, .slice a 3 cap] W (TkR w c W 3 [w0, w1, w2]) := by
  obtain ⟨i0, hi0, hz0, hz1, hz2⟩ := info_parts info_po
  obtain ⟨W3, hW3⟩ : ∃ W3, W3 = ((W.alloc (.cells #[.int .i64 c.cats, .slice c.g.a c.g.l.length c.g.cap, .slice c.r.a c.r.l.length c.r.cap, .slice c.p.a c.p.l.length c.p.cap, .slice c.n.a c.n.l.length c.n.cap, .slice c.s.a c.s.l.length c.s.cap, .int .i64 c.gate, .int .i64 c.quota] 29)).alloc (.cells #[.int .i64 0, .slice none 0 0, .slice none 0 0, .slice none 0 0, .slice none 0 0, .slice none 0 0, .int .i64 0, .int .i64 0] 29)).alloc (.cells #[.int .i64 c.cats, .slice c.g.a c.g.l.length c.g.cap, .slice c.r.a c.r.l.length c.r.cap, .slice c.p.a c.p.l.length c.p.cap, .slice c.n.a c.n.l.length c.n.cap, .slice c.s.a c.s.l.length c.s.cap, .int .i64 c.gate, .int .i64 c.quota] 29) := ⟨_, rfl⟩
  obtain ⟨b1, hb1⟩ : ∃ b, b = W.heap.size + 1 := ⟨_, rfl⟩
  obtain ⟨b2, hb2⟩ : ∃ b, b = W.heap.size + 1 + 1 := ⟨_, rfl⟩
  have HTB : Hid (TB W W3 b1 b2 c) := by rw [hW3, hb1, hb2]; exact tb_start W c
  have HRO := Lib.hid (h.more HTB.out.bel)
  have HRW := Lib.hid (hr.below HTB.out.bel)
  have HW3 := Lib.hid hW3
  have HE1 := Lib.hid hb1
  have HE2 := Lib.hid hb2
  have hwB := h.bel.size
  clear hW3 hb1 hb2
  have HLB := Lib.hid (rport_any w0 w1 w2 hsm a cap W3 HRW.out)
  have hrow := por_row w0 w1 w2
  generalize porR [w0, w1, w2] = R at HLB hrow
  obtain ⟨⟨x, y⟩, b⟩ := R
  have HROW := Lib.hid hrow
  have hfew := hn.2.2.1
  clear hrow h hr hsm
  go_enter Tryd.func43, Tryd.ntmps43
  (go_upto_region 2 with fail; rw [← HW3.out]; try rw [← HE2.out]; try rw [← HE1.out])
  go_wp2_with fail
  refine HLB.out.mono ?_; rintro e Wa ⟨rfl, hb4⟩
  obtain ⟨W4, hW4⟩ : ∃ W4, W4 = Wa.alloc (.cells #[.int .i64 x, .int .i64 y] 62) := ⟨_, rfl⟩
  have HP4 : ObjAt W4 Wa.heap.size 62 [.int .i64 x, .int .i64 y] := by rw [hW4]; exact ObjAt.new Wa _ _
  have hb5 : Below Wa.heap.size Wa W4 := by rw [hW4]; exact (Below.refl _ _).alloc (Nat.le_refl _) _
  have HW4 := Lib.hid hW4
  have HTB4 := Lib.hid ((HTB.out.more hb4).more hb5)
  have HRO4 := Lib.hid ((HRO.out.more hb4).more hb5)
  have hs4 := HRO4.out.bel.size
  have p0 := HP4.cell 0 _ rfl
  have p1 := HP4.cell 1 _ rfl
  clear hb4 hb5 hW4 HP4
  have q0 := (HTB4.out.o).cell 0 _ rfl; have q1 := (HTB4.out.o).cell 1 _ rfl; have q2 := (HTB4.out.o).cell 2 _ rfl; have q3 := (HTB4.out.o).cell 3 _ rfl; have q4 := (HTB4.out.o).cell 4 _ rfl; have q5 := (HTB4.out.o).cell 5 _ rfl; have q6 := (HTB4.out.o).cell 6 _ rfl; have q7 := (HTB4.out.o).cell 7 _ rfl
  go_upto_region 10 with fail
  rw [← HW4.out]
  generalize Wa.heap.size = bp at p0 p1 ⊢
  go_wp2_with (at_builtin; (refine wpList_own rfl (.tmp 59) (.tmp 61) 25 rfl w.heap.size 62 i0 _ 2 16 Tryd.underlying25 hi0 hz0 hz1 hz2 rfl (by omega) c.p.a c.p.l.length c.p.cap (iF c.p.l) rfl ((HRO4.out.p).below ((Below.refl _ _).alloc (Nat.le_refl _) _)) W4.heap.size (ivs [x, y]) rfl (new_block _ _ _ rfl) rfl (by simp [ivs, Value.oneCell']) (by simp only [maxLen]; omega) (by omega) (by simp; omega) ?_); intro g' c' W5 hown1 hmod1 _; have HOWN := Lib.hid hown1; have HMOD : Hid (Mod (blk c.p.a) W4 W5) := ((Mod.ofBelow ((Below.refl W4.heap.size W4).alloc (Nat.le_refl _) _)).trans hmod1); clear hown1 hmod1; have HO5 := Lib.hid (HTB4.out.o.mod HMOD.out (HRO4.out.p.ne HTB4.out.o (by decide))); have HZ5 := Lib.hid (HTB4.out.z.mod HMOD.out (HRO4.out.p.ne HTB4.out.z (by decide))); have d5 := HO5.out.cell 3 _ rfl; have e5 := HO5.out.free 3; have HO6 := Lib.hid (HO5.out.set 3 (.slice (some ⟨g', 0, none⟩) (c.p.l.length + 1) c')); have HZ6 := Lib.hid (HZ5.out.upd (Upd.setCell W5 ⟨b2, 3, none⟩ (.slice (some ⟨g', 0, none⟩) (c.p.l.length + 1) c')) HTB4.out.ne); clear q0 q1 q2 q3 q4 q5 q6 q7; have r0 := (HO6.out).cell 0 _ rfl; have r1 := (HO6.out).cell 1 _ rfl; have r2 := (HO6.out).cell 2 _ rfl; have r3 := (HO6.out).cell 3 _ rfl; have r4 := (HO6.out).cell 4 _ rfl; have r5 := (HO6.out).cell 5 _ rfl; have r6 := (HO6.out).cell 6 _ rfl; have r7 := (HO6.out).cell 7 _ rfl; have a0 := (HZ6.out).cell 0 _ rfl; have a1 := (HZ6.out).cell 1 _ rfl; have a2 := (HZ6.out).cell 2 _ rfl; have a3 := (HZ6.out).cell 3 _ rfl; have a4 := (HZ6.out).cell 4 _ rfl; have a5 := (HZ6.out).cell 5 _ rfl; have a6 := (HZ6.out).cell 6 _ rfl; have a7 := (HZ6.out).cell 7 _ rfl; have g0 := (HZ6.out).free 0; have g1 := (HZ6.out).free 1; have g2 := (HZ6.out).free 2; have g3 := (HZ6.out).free 3; have g4 := (HZ6.out).free 4; have g5 := (HZ6.out).free 5; have g6 := (HZ6.out).free 6; have g7 := (HZ6.out).free 7; have s6 := (HZ6.out).lt)
  refine bodyPost_ret (v := .tuple #[.agg #[.int .i64 c.cats, .slice c.g.a c.g.l.length c.g.cap, .slice c.r.a c.r.l.length c.r.cap, .slice (some ⟨g', 0, none⟩) (c.p.l.length + 1) c', .slice c.n.a c.n.l.length c.n.cap, .slice c.s.a c.s.l.length c.s.cap, .int .i64 c.gate, .int .i64 c.quota], .bool b]) (by simp [results, Tryd.results43, go_sem, a0, a1, a2, a3, a4, a5, a6, a7, s6]) rfl ?_
  have HU7 := (upd_put (k := 7) (v := .int .i64 c.quota) (upd_put (k := 6) (v := .int .i64 c.gate) (upd_put (k := 5) (v := .slice c.s.a c.s.l.length c.s.cap) (upd_put (k := 4) (v := .slice c.n.a c.n.l.length c.n.cap) (upd_put (k := 3) (v := .slice (some ⟨g', 0, none⟩) (c.p.l.length + 1) c') (upd_put (k := 2) (v := .slice c.r.a c.r.l.length c.r.cap) (upd_put (k := 1) (v := .slice c.g.a c.g.l.length c.g.cap) (upd_put (k := 0) (v := .int .i64 c.cats) (Upd.refl b1 (W5.setCell ⟨b2, 3, none⟩ (.slice (some ⟨g', 0, none⟩) (c.p.l.length + 1) c')))))))))))
  have HR7 : RO w { c with p := ⟨some ⟨g', 0, none⟩, c', c.p.l ++ [[x, y]]⟩ } _ := ((HRO4.out.addP (row := [x, y]) HOWN.out HMOD.out rfl).upd HO5.out (by have := HTB4.out.n2; omega) (Upd.setCell W5 ⟨b2, 3, none⟩ (.slice (some ⟨g', 0, none⟩) (c.p.l.length + 1) c'))).upd HZ6.out (by have := HTB4.out.n1; omega) HU7
  have HK7 := keep_fin HTB4.out.bel (keep_mod HRO4.out.p (by decide) HMOD.out) (Upd.setCell W5 ⟨b2, 3, none⟩ (.slice (some ⟨g', 0, none⟩) (c.p.l.length + 1) c')) HU7 HTB4.out.n1 HTB4.out.n2
  exact tkr_fin HROW.out rfl HR7 HK7 (by simp)
theorem plain_row (k : Nat) (hk : k ≠ 1 ∧ k ≠ 2 ∧ k ≠ 3) (ws : List (List UInt8)) : rowV k ws = if nmsB (ws.drop 1) then some (nmsL (ws.drop 1)) else none := by
  unfold rowV; rw [if_neg (by omega)]
theorem tkr_no {w W0 : World} {c c1 : Cv} {k : Nat} {ws : List (List UInt8)} {W : World} {v : Value} (h : rowV k ws = none) (hb : Below w.heap.size w W) (hk : Keep W0 W) (hv : v = .tuple #[.agg #[.int .i64 c1.cats, .slice c1.g.a c1.g.l.length c1.g.cap, .slice c1.r.a c1.r.l.length c1.r.cap, .slice c1.p.a c1.p.l.length c1.p.cap, .slice c1.n.a c1.n.l.length c1.n.cap, .slice c1.s.a c1.s.l.length c1.s.cap, .int .i64 c1.gate, .int .i64 c1.quota], .bool false]) : TkR w c W0 k ws (.returned v) W := by
  refine ⟨c1, ?_, hb, hk, fun r hr2 => ?_⟩
  · rw [hv, h]; rfl
  · rw [h] at hr2; cases hr2
end Go.Proofs.YtoalpdjpljapbaaDoor
/- The reference of plan: plain lines. -/
namespace Go.Proofs.YtoalpdjpljapbaaDoor
set_option linter.unusedVariables false
set_option linter.unusedSimpArgs false
set_option linter.unnecessarySimpa false
open Go.RowKit Go.Sort
set_option maxHeartbeats 4000000
set_option maxRecDepth 100000
set_option linter.unusedVariables false
theorem RO.nums {w : World} {c : Cv} {W : World} (h : RO w c W) (x y z : Int) : RO w { c with cats := x, gate := y, quota := z } W :=
  ⟨h.bel, h.g, h.r, h.p, h.n, h.s, h.lg, h.lr, h.lp, h.ln, h.ls⟩
theorem rplain_cats (w : World) (c : Cv) (w0 v1 : List UInt8) (hsm : ∀ x ∈ [w0, v1], x.length ≤ 100000000) (a : Option Addr) (cap : Nat) (W : World) (h : RO w c W) (hr : RdW W a cap [w0, v1]) (hn : FewC c) :
    Calls Tryd.prog 75 #[(.agg #[.int .i64 c.cats, .slice c.g.a c.g.l.length c.g.cap, .slice c.r.a c.r.l.length c.r.cap, .slice c.p.a c.p.l.length c.p.cap, .slice c.n.a c.n.l.length c.n.cap, .slice c.s.a c.s.l.length c.s.cap, .int .i64 c.gate, .int .i64 c.quota]), .int .i64 0, .slice a 2 cap] W (TkR w c W 0 [w0, v1]) := by
  obtain ⟨W3, hW3⟩ : ∃ W3, W3 = ((W.alloc (.cells #[.int .i64 c.cats, .slice c.g.a c.g.l.length c.g.cap, .slice c.r.a c.r.l.length c.r.cap, .slice c.p.a c.p.l.length c.p.cap, .slice c.n.a c.n.l.length c.n.cap, .slice c.s.a c.s.l.length c.s.cap, .int .i64 c.gate, .int .i64 c.quota] 29)).alloc (.cells #[.int .i64 0, .slice none 0 0, .slice none 0 0, .slice none 0 0, .slice none 0 0, .slice none 0 0, .int .i64 0, .int .i64 0] 29)).alloc (.cells #[.int .i64 c.cats, .slice c.g.a c.g.l.length c.g.cap, .slice c.r.a c.r.l.length c.r.cap, .slice c.p.a c.p.l.length c.p.cap, .slice c.n.a c.n.l.length c.n.cap, .slice c.s.a c.s.l.length c.s.cap, .int .i64 c.gate, .int .i64 c.quota] 29) := ⟨_, rfl⟩
  obtain ⟨b1, hb1⟩ : ∃ b, b = W.heap.size + 1 := ⟨_, rfl⟩
  obtain ⟨b2, hb2⟩ : ∃ b, b = W.heap.size + 1 + 1 := ⟨_, rfl⟩
  have HTB : Hid (TB W W3 b1 b2 c) := by rw [hW3, hb1, hb2]; exact tb_start W c
  have HRO := Lib.hid (h.more HTB.out.bel)
  have HRW := Lib.hid (hr.below HTB.out.bel)
  have HW3 := Lib.hid hW3
  have HE1 := Lib.hid hb1
  have HE2 := Lib.hid hb2
  have hwB := h.bel.size
  clear hW3 hb1 hb2
  have HNB : Hid (Calls Tryd.prog 93 #[.slice a 2 cap, .int .i64 1] W3 (NmPost [v1] W3)) := rnumbers_any a cap [w0, v1] 1 (by simp) [v1] rfl (fun y hy => hsm y (List.mem_cons_of_mem _ hy)) (by simp) W3 HRW.out.rd
  have hrow := plain_row 0 (by omega) [w0, v1]
  rw [show [w0, v1].drop 1 = [v1] from rfl] at hrow
  have HROW := Lib.hid hrow
  clear hrow h hr hsm
  go_enter Tryd.func75, Tryd.ntmps75
  (go_upto_region 2 with fail; rw [← HW3.out]; try rw [← HE2.out]; try rw [← HE1.out])
  go_wp2_with fail
  refine HNB.out.mono ?_; intro e W4 h4
  obtain ⟨hy, hno, hb4⟩ := h4
  have HTB4 := Lib.hid (HTB.out.more hb4)
  have HRO4 := Lib.hid (HRO.out.more hb4)
  have hs4 := HRO4.out.bel.size
  have q0 := (HTB4.out.o).cell 0 _ rfl; have q1 := (HTB4.out.o).cell 1 _ rfl; have q2 := (HTB4.out.o).cell 2 _ rfl; have q3 := (HTB4.out.o).cell 3 _ rfl; have q4 := (HTB4.out.o).cell 4 _ rfl; have q5 := (HTB4.out.o).cell 5 _ rfl; have q6 := (HTB4.out.o).cell 6 _ rfl; have q7 := (HTB4.out.o).cell 7 _ rfl
  cases hb : nmsB [v1]
  · obtain rfl := hno hb
    have HNN : Hid (rowV 0 [w0, v1] = none) := by rw [Hid, HROW.out, hb]; rfl
    have a0 := (HTB4.out.z).cell 0 _ rfl; have a1 := (HTB4.out.z).cell 1 _ rfl; have a2 := (HTB4.out.z).cell 2 _ rfl; have a3 := (HTB4.out.z).cell 3 _ rfl; have a4 := (HTB4.out.z).cell 4 _ rfl; have a5 := (HTB4.out.z).cell 5 _ rfl; have a6 := (HTB4.out.z).cell 6 _ rfl; have a7 := (HTB4.out.z).cell 7 _ rfl; have g0 := (HTB4.out.z).free 0; have g1 := (HTB4.out.z).free 1; have g2 := (HTB4.out.z).free 2; have g3 := (HTB4.out.z).free 3; have g4 := (HTB4.out.z).free 4; have g5 := (HTB4.out.z).free 5; have g6 := (HTB4.out.z).free 6; have g7 := (HTB4.out.z).free 7; have s6 := (HTB4.out.z).lt
    clear hy hno hb4 hb HROW
    go_wp2_with fail
    refine bodyPost_ret (v := .tuple #[(.agg #[.int .i64 c.cats, .slice c.g.a c.g.l.length c.g.cap, .slice c.r.a c.r.l.length c.r.cap, .slice c.p.a c.p.l.length c.p.cap, .slice c.n.a c.n.l.length c.n.cap, .slice c.s.a c.s.l.length c.s.cap, .int .i64 c.gate, .int .i64 c.quota]), .bool false]) (by simp [results, Tryd.results75, go_sem, a0, a1, a2, a3, a4, a5, a6, a7, s6]) rfl ?_
    have HU7 := (upd_put (k := 7) (v := .int .i64 c.quota) (upd_put (k := 6) (v := .int .i64 c.gate) (upd_put (k := 5) (v := .slice c.s.a c.s.l.length c.s.cap) (upd_put (k := 4) (v := .slice c.n.a c.n.l.length c.n.cap) (upd_put (k := 3) (v := .slice c.p.a c.p.l.length c.p.cap) (upd_put (k := 2) (v := .slice c.r.a c.r.l.length c.r.cap) (upd_put (k := 1) (v := .slice c.g.a c.g.l.length c.g.cap) (upd_put (k := 0) (v := .int .i64 c.cats) (Upd.refl b1 W4)))))))))
    exact tkr_no HNN.out (HRO4.out.upd HTB4.out.z (by have := HTB4.out.n1; omega) HU7).bel (keep_fin HTB4.out.bel (keep_refl W4) (Upd.refl b2 W4) HU7 HTB4.out.n1 HTB4.out.n2) rfl
  · obtain ⟨a3, c3, rfl, hown3⟩ := hy hb
    obtain ⟨g3, rfl, hg3, hg3'⟩ := hown3.at_ (by simp)
    have hc3 := hown3.le
    have hc4 : c3 ≤ 9223372036854775807 := hown3.capMax
    obtain ⟨y0, hy0⟩ : ∃ y, Hid (y = ((numI v1 : Nat) : Int)) := ⟨_, Lib.hid rfl⟩
    have m0 : W4.cell? ⟨g3, 0, none⟩ = some (.int .i64 y0) := by rw [hy0.out]; exact hown3.cell 0 _ rfl
    have hne := hown3.ne HTB4.out.o (by decide)
    have HRR : Hid (rowV 0 [w0, v1] = some [y0]) := by rw [Hid, HROW.out, hb, hy0.out]; rfl
    have f0 := HTB4.out.o.free 0
    have HO6 := Lib.hid (HTB4.out.o.set 0 (.int .i64 y0))
    have HZ6 := Lib.hid (HTB4.out.z.upd (Upd.setCell W4 ⟨b2, 0, none⟩ (.int .i64 y0)) HTB4.out.ne)
    have r0 := (HO6.out).cell 0 _ rfl; have r1 := (HO6.out).cell 1 _ rfl; have r2 := (HO6.out).cell 2 _ rfl; have r3 := (HO6.out).cell 3 _ rfl; have r4 := (HO6.out).cell 4 _ rfl; have r5 := (HO6.out).cell 5 _ rfl; have r6 := (HO6.out).cell 6 _ rfl; have r7 := (HO6.out).cell 7 _ rfl
    have a0 := (HZ6.out).cell 0 _ rfl; have a1 := (HZ6.out).cell 1 _ rfl; have a2 := (HZ6.out).cell 2 _ rfl; have a3 := (HZ6.out).cell 3 _ rfl; have a4 := (HZ6.out).cell 4 _ rfl; have a5 := (HZ6.out).cell 5 _ rfl; have a6 := (HZ6.out).cell 6 _ rfl; have a7 := (HZ6.out).cell 7 _ rfl; have g0 := (HZ6.out).free 0; have g1 := (HZ6.out).free 1; have g2 := (HZ6.out).free 2; have g3 := (HZ6.out).free 3; have g4 := (HZ6.out).free 4; have g5 := (HZ6.out).free 5; have g6 := (HZ6.out).free 6; have g7 := (HZ6.out).free 7; have s6 := (HZ6.out).lt
    clear hy hno hb4 hb HROW hown3 hne
    go_wp2_with fail
    refine bodyPost_ret (v := .tuple #[.agg #[.int .i64 y0, .slice c.g.a c.g.l.length c.g.cap, .slice c.r.a c.r.l.length c.r.cap, .slice c.p.a c.p.l.length c.p.cap, .slice c.n.a c.n.l.length c.n.cap, .slice c.s.a c.s.l.length c.s.cap, .int .i64 c.gate, .int .i64 c.quota], .bool true]) (by simp [results, Tryd.results75, go_sem, a0, a1, a2, a3, a4, a5, a6, a7, s6]) rfl ?_
    have HU7 := (upd_put (k := 7) (v := .int .i64 c.quota) (upd_put (k := 6) (v := .int .i64 c.gate) (upd_put (k := 5) (v := .slice c.s.a c.s.l.length c.s.cap) (upd_put (k := 4) (v := .slice c.n.a c.n.l.length c.n.cap) (upd_put (k := 3) (v := .slice c.p.a c.p.l.length c.p.cap) (upd_put (k := 2) (v := .slice c.r.a c.r.l.length c.r.cap) (upd_put (k := 1) (v := .slice c.g.a c.g.l.length c.g.cap) (upd_put (k := 0) (v := .int .i64 y0) (Upd.refl b1 (W4.setCell ⟨b2, 0, none⟩ (.int .i64 y0)))))))))))
    have HR7 : RO w { c with cats := y0 } _ := ((HRO4.out.upd HTB4.out.o (by have := HTB4.out.n2; omega) (Upd.setCell W4 ⟨b2, 0, none⟩ (.int .i64 y0))).upd HZ6.out (by have := HTB4.out.n1; omega) HU7).nums y0 c.gate c.quota
    have HK7 := keep_fin HTB4.out.bel (keep_refl W4) (Upd.setCell W4 ⟨b2, 0, none⟩ (.int .i64 y0)) HU7 HTB4.out.n1 HTB4.out.n2
    exact tkr_fin (row := [y0]) (b := true) (by rw [HRR.out]; rfl) rfl HR7 HK7 rfl
theorem rplain_gate (w : World) (c : Cv) (w0 v1 v2 : List UInt8) (hsm : ∀ x ∈ [w0, v1, v2], x.length ≤ 100000000) (a : Option Addr) (cap : Nat) (W : World) (h : RO w c W) (hr : RdW W a cap [w0, v1, v2]) (hn : FewC c) :
    Calls Tryd.prog 75 #[(.agg #[.int .i64 c.cats, .slice c.g.a c.g.l.length c.g.cap, .slice c.r.a c.r.l.length c.r.cap, .slice c.p.a c.p.l.length c.p.cap, .slice c.n.a c.n.l.length c.n.cap, .slice c.s.a c.s.l.length c.s.cap, .int .i64 c.gate, .int .i64 c.quota]), .int .i64 6, .slice a 3 cap] W (TkR w c W 6 [w0, v1, v2]) := by
  obtain ⟨W3, hW3⟩ : ∃ W3, W3 = ((W.alloc (.cells #[.int .i64 c.cats, .slice c.g.a c.g.l.length c.g.cap, .slice c.r.a c.r.l.length c.r.cap, .slice c.p.a c.p.l.length c.p.cap, .slice c.n.a c.n.l.length c.n.cap, .slice c.s.a c.s.l.length c.s.cap, .int .i64 c.gate, .int .i64 c.quota] 29)).alloc (.cells #[.int .i64 0, .slice none 0 0, .slice none 0 0, .slice none 0 0, .slice none 0 0, .slice none 0 0, .int .i64 0, .int .i64 0] 29)).alloc (.cells #[.int .i64 c.cats, .slice c.g.a c.g.l.length c.g.cap, .slice c.r.a c.r.l.length c.r.cap, .slice c.p.a c.p.l.length c.p.cap, .slice c.n.a c.n.l.length c.n.cap, .slice c.s.a c.s.l.length c.s.cap, .int .i64 c.gate, .int .i64 c.quota] 29) := ⟨_, rfl⟩
  obtain ⟨b1, hb1⟩ : ∃ b, b = W.heap.size + 1 := ⟨_, rfl⟩
  obtain ⟨b2, hb2⟩ : ∃ b, b = W.heap.size + 1 + 1 := ⟨_, rfl⟩
  have HTB : Hid (TB W W3 b1 b2 c) := by rw [hW3, hb1, hb2]; exact tb_start W c
  have HRO := Lib.hid (h.more HTB.out.bel)
  have HRW := Lib.hid (hr.below HTB.out.bel)
  have HW3 := Lib.hid hW3
  have HE1 := Lib.hid hb1
  have HE2 := Lib.hid hb2
  have hwB := h.bel.size
  clear hW3 hb1 hb2
  have HNB : Hid (Calls Tryd.prog 93 #[.slice a 3 cap, .int .i64 1] W3 (NmPost [v1, v2] W3)) := rnumbers_any a cap [w0, v1, v2] 1 (by simp) [v1, v2] rfl (fun y hy => hsm y (List.mem_cons_of_mem _ hy)) (by simp) W3 HRW.out.rd
  have hrow := plain_row 6 (by omega) [w0, v1, v2]
  rw [show [w0, v1, v2].drop 1 = [v1, v2] from rfl] at hrow
  have HROW := Lib.hid hrow
  clear hrow h hr hsm
  go_enter Tryd.func75, Tryd.ntmps75
  (go_upto_region 2 with fail; rw [← HW3.out]; try rw [← HE2.out]; try rw [← HE1.out])
  go_wp2_with fail
  refine HNB.out.mono ?_; intro e W4 h4
  obtain ⟨hy, hno, hb4⟩ := h4
  have HTB4 := Lib.hid (HTB.out.more hb4)
  have HRO4 := Lib.hid (HRO.out.more hb4)
  have hs4 := HRO4.out.bel.size
  have q0 := (HTB4.out.o).cell 0 _ rfl; have q1 := (HTB4.out.o).cell 1 _ rfl; have q2 := (HTB4.out.o).cell 2 _ rfl; have q3 := (HTB4.out.o).cell 3 _ rfl; have q4 := (HTB4.out.o).cell 4 _ rfl; have q5 := (HTB4.out.o).cell 5 _ rfl; have q6 := (HTB4.out.o).cell 6 _ rfl; have q7 := (HTB4.out.o).cell 7 _ rfl
  cases hb : nmsB [v1, v2]
  · obtain rfl := hno hb
    have HNN : Hid (rowV 6 [w0, v1, v2] = none) := by rw [Hid, HROW.out, hb]; rfl
    have a0 := (HTB4.out.z).cell 0 _ rfl; have a1 := (HTB4.out.z).cell 1 _ rfl; have a2 := (HTB4.out.z).cell 2 _ rfl; have a3 := (HTB4.out.z).cell 3 _ rfl; have a4 := (HTB4.out.z).cell 4 _ rfl; have a5 := (HTB4.out.z).cell 5 _ rfl; have a6 := (HTB4.out.z).cell 6 _ rfl; have a7 := (HTB4.out.z).cell 7 _ rfl; have g0 := (HTB4.out.z).free 0; have g1 := (HTB4.out.z).free 1; have g2 := (HTB4.out.z).free 2; have g3 := (HTB4.out.z).free 3; have g4 := (HTB4.out.z).free 4; have g5 := (HTB4.out.z).free 5; have g6 := (HTB4.out.z).free 6; have g7 := (HTB4.out.z).free 7; have s6 := (HTB4.out.z).lt
    clear hy hno hb4 hb HROW
    go_wp2_with fail
    refine bodyPost_ret (v := .tuple #[(.agg #[.int .i64 c.cats, .slice c.g.a c.g.l.length c.g.cap, .slice c.r.a c.r.l.length c.r.cap, .slice c.p.a c.p.l.length c.p.cap, .slice c.n.a c.n.l.length c.n.cap, .slice c.s.a c.s.l.length c.s.cap, .int .i64 c.gate, .int .i64 c.quota]), .bool false]) (by simp [results, Tryd.results75, go_sem, a0, a1, a2, a3, a4, a5, a6, a7, s6]) rfl ?_
    have HU7 := (upd_put (k := 7) (v := .int .i64 c.quota) (upd_put (k := 6) (v := .int .i64 c.gate) (upd_put (k := 5) (v := .slice c.s.a c.s.l.length c.s.cap) (upd_put (k := 4) (v := .slice c.n.a c.n.l.length c.n.cap) (upd_put (k := 3) (v := .slice c.p.a c.p.l.length c.p.cap) (upd_put (k := 2) (v := .slice c.r.a c.r.l.length c.r.cap) (upd_put (k := 1) (v := .slice c.g.a c.g.l.length c.g.cap) (upd_put (k := 0) (v := .int .i64 c.cats) (Upd.refl b1 W4)))))))))
    exact tkr_no HNN.out (HRO4.out.upd HTB4.out.z (by have := HTB4.out.n1; omega) HU7).bel (keep_fin HTB4.out.bel (keep_refl W4) (Upd.refl b2 W4) HU7 HTB4.out.n1 HTB4.out.n2) rfl
  · obtain ⟨a3, c3, rfl, hown3⟩ := hy hb
    obtain ⟨g3, rfl, hg3, hg3'⟩ := hown3.at_ (by simp)
    have hc3 := hown3.le
    have hc4 : c3 ≤ 9223372036854775807 := hown3.capMax
    obtain ⟨y0, hy0⟩ : ∃ y, Hid (y = ((numI v1 : Nat) : Int)) := ⟨_, Lib.hid rfl⟩
    have m0 : W4.cell? ⟨g3, 0, none⟩ = some (.int .i64 y0) := by rw [hy0.out]; exact hown3.cell 0 _ rfl
    obtain ⟨y1, hy1⟩ : ∃ y, Hid (y = ((numI v2 : Nat) : Int)) := ⟨_, Lib.hid rfl⟩
    have m1 : W4.cell? ⟨g3, 1, none⟩ = some (.int .i64 y1) := by rw [hy1.out]; exact hown3.cell 1 _ rfl
    have hne := hown3.ne HTB4.out.o (by decide)
    have HRR : Hid (rowV 6 [w0, v1, v2] = some [y0, y1]) := by rw [Hid, HROW.out, hb, hy0.out, hy1.out]; rfl
    have f6 := HTB4.out.o.free 6
    have HU5 := Lib.hid (Upd.setCell W4 ⟨b2, 6, none⟩ (.int .i64 y0))
    have hown5 := hown3.upd HU5.out hne
    have m1' : (W4.setCell ⟨b2, 6, none⟩ (.int .i64 y0)).cell? ⟨g3, 1, none⟩ = some (.int .i64 y1) := by rw [hy1.out]; exact hown5.cell 1 _ rfl
    have HO5 := Lib.hid (HTB4.out.o.set 6 (.int .i64 y0))
    have HZ5 := Lib.hid (HTB4.out.z.upd HU5.out HTB4.out.ne)
    have x7 := HO5.out.cell 7 _ rfl
    have f7 := HO5.out.free 7
    have HO6 := Lib.hid (HO5.out.set 7 (.int .i64 y1))
    have HZ6 := Lib.hid (HZ5.out.upd (Upd.setCell (W4.setCell ⟨b2, 6, none⟩ (.int .i64 y0)) ⟨b2, 7, none⟩ (.int .i64 y1)) HTB4.out.ne)
    have r0 := (HO6.out).cell 0 _ rfl; have r1 := (HO6.out).cell 1 _ rfl; have r2 := (HO6.out).cell 2 _ rfl; have r3 := (HO6.out).cell 3 _ rfl; have r4 := (HO6.out).cell 4 _ rfl; have r5 := (HO6.out).cell 5 _ rfl; have r6 := (HO6.out).cell 6 _ rfl; have r7 := (HO6.out).cell 7 _ rfl
    have a0 := (HZ6.out).cell 0 _ rfl; have a1 := (HZ6.out).cell 1 _ rfl; have a2 := (HZ6.out).cell 2 _ rfl; have a3 := (HZ6.out).cell 3 _ rfl; have a4 := (HZ6.out).cell 4 _ rfl; have a5 := (HZ6.out).cell 5 _ rfl; have a6 := (HZ6.out).cell 6 _ rfl; have a7 := (HZ6.out).cell 7 _ rfl; have g0 := (HZ6.out).free 0; have g1 := (HZ6.out).free 1; have g2 := (HZ6.out).free 2; have g3 := (HZ6.out).free 3; have g4 := (HZ6.out).free 4; have g5 := (HZ6.out).free 5; have g6 := (HZ6.out).free 6; have g7 := (HZ6.out).free 7; have s6 := (HZ6.out).lt
    clear hy hno hb4 hb HROW hown3 hown5 hne
    go_wp2_with fail
    refine bodyPost_ret (v := .tuple #[.agg #[.int .i64 c.cats, .slice c.g.a c.g.l.length c.g.cap, .slice c.r.a c.r.l.length c.r.cap, .slice c.p.a c.p.l.length c.p.cap, .slice c.n.a c.n.l.length c.n.cap, .slice c.s.a c.s.l.length c.s.cap, .int .i64 y0, .int .i64 y1], .bool true]) (by simp [results, Tryd.results75, go_sem, a0, a1, a2, a3, a4, a5, a6, a7, s6]) rfl ?_
    have HU7 := (upd_put (k := 7) (v := .int .i64 y1) (upd_put (k := 6) (v := .int .i64 y0) (upd_put (k := 5) (v := .slice c.s.a c.s.l.length c.s.cap) (upd_put (k := 4) (v := .slice c.n.a c.n.l.length c.n.cap) (upd_put (k := 3) (v := .slice c.p.a c.p.l.length c.p.cap) (upd_put (k := 2) (v := .slice c.r.a c.r.l.length c.r.cap) (upd_put (k := 1) (v := .slice c.g.a c.g.l.length c.g.cap) (upd_put (k := 0) (v := .int .i64 c.cats) (Upd.refl b1 ((W4.setCell ⟨b2, 6, none⟩ (.int .i64 y0)).setCell ⟨b2, 7, none⟩ (.int .i64 y1)))))))))))
    have HR7 : RO w { c with gate := y0, quota := y1 } _ := ((HRO4.out.upd HTB4.out.o (by have := HTB4.out.n2; omega) ((Upd.setCell W4 ⟨b2, 6, none⟩ (.int .i64 y0)).trans (Upd.setCell _ ⟨b2, 7, none⟩ (.int .i64 y1)))).upd HZ6.out (by have := HTB4.out.n1; omega) HU7).nums c.cats y0 y1
    have HK7 := keep_fin HTB4.out.bel (keep_refl W4) ((Upd.setCell W4 ⟨b2, 6, none⟩ (.int .i64 y0)).trans (Upd.setCell _ ⟨b2, 7, none⟩ (.int .i64 y1))) HU7 HTB4.out.n1 HTB4.out.n2
    exact tkr_fin (row := [y0, y1]) (b := true) (by rw [HRR.out]; rfl) rfl HR7 HK7 rfl
theorem rplain_ring (w : World) (c : Cv) (w0 v1 v2 : List UInt8) (hsm : ∀ x ∈ [w0, v1, v2], x.length ≤ 100000000) (a : Option Addr) (cap : Nat) (W : World) (h : RO w c W) (hr : RdW W a cap [w0, v1, v2]) (hn : FewC c) :
    Calls Tryd.prog 75 #[(.agg #[.int .i64 c.cats, .slice c.g.a c.g.l.length c.g.cap, .slice c.r.a c.r.l.length c.r.cap, .slice c.p.a c.p.l.length c.p.cap, .slice c.n.a c.n.l.length c.n.cap, .slice c.s.a c.s.l.length c.s.cap, .int .i64 c.gate, .int .i64 c.quota]), .int .i64 4, .slice a 3 cap] W (TkR w c W 4 [w0, v1, v2]) := by
  obtain ⟨i0, hi0, hz0, hz1, hz2⟩ := info_parts info_ri
  have hfew := hn.2.2.2.1
  obtain ⟨W3, hW3⟩ : ∃ W3, W3 = ((W.alloc (.cells #[.int .i64 c.cats, .slice c.g.a c.g.l.length c.g.cap, .slice c.r.a c.r.l.length c.r.cap, .slice c.p.a c.p.l.length c.p.cap, .slice c.n.a c.n.l.length c.n.cap, .slice c.s.a c.s.l.length c.s.cap, .int .i64 c.gate, .int .i64 c.quota] 29)).alloc (.cells #[.int .i64 0, .slice none 0 0, .slice none 0 0, .slice none 0 0, .slice none 0 0, .slice none 0 0, .int .i64 0, .int .i64 0] 29)).alloc (.cells #[.int .i64 c.cats, .slice c.g.a c.g.l.length c.g.cap, .slice c.r.a c.r.l.length c.r.cap, .slice c.p.a c.p.l.length c.p.cap, .slice c.n.a c.n.l.length c.n.cap, .slice c.s.a c.s.l.length c.s.cap, .int .i64 c.gate, .int .i64 c.quota] 29) := ⟨_, rfl⟩
  obtain ⟨b1, hb1⟩ : ∃ b, b = W.heap.size + 1 := ⟨_, rfl⟩
  obtain ⟨b2, hb2⟩ : ∃ b, b = W.heap.size + 1 + 1 := ⟨_, rfl⟩
  have HTB : Hid (TB W W3 b1 b2 c) := by rw [hW3, hb1, hb2]; exact tb_start W c
  have HRO := Lib.hid (h.more HTB.out.bel)
  have HRW := Lib.hid (hr.below HTB.out.bel)
  have HW3 := Lib.hid hW3
  have HE1 := Lib.hid hb1
  have HE2 := Lib.hid hb2
  have hwB := h.bel.size
  clear hW3 hb1 hb2
  have HNB : Hid (Calls Tryd.prog 93 #[.slice a 3 cap, .int .i64 1] W3 (NmPost [v1, v2] W3)) := rnumbers_any a cap [w0, v1, v2] 1 (by simp) [v1, v2] rfl (fun y hy => hsm y (List.mem_cons_of_mem _ hy)) (by simp) W3 HRW.out.rd
  have hrow := plain_row 4 (by omega) [w0, v1, v2]
  rw [show [w0, v1, v2].drop 1 = [v1, v2] from rfl] at hrow
  have HROW := Lib.hid hrow
  clear hrow h hr hsm
  go_enter Tryd.func75, Tryd.ntmps75
  (go_upto_region 2 with fail; rw [← HW3.out]; try rw [← HE2.out]; try rw [← HE1.out])
  go_wp2_with fail
  refine HNB.out.mono ?_; intro e W4 h4
  obtain ⟨hy, hno, hb4⟩ := h4
  have HTB4 := Lib.hid (HTB.out.more hb4)
  have HRO4 := Lib.hid (HRO.out.more hb4)
  have hs4 := HRO4.out.bel.size
  have q0 := (HTB4.out.o).cell 0 _ rfl; have q1 := (HTB4.out.o).cell 1 _ rfl; have q2 := (HTB4.out.o).cell 2 _ rfl; have q3 := (HTB4.out.o).cell 3 _ rfl; have q4 := (HTB4.out.o).cell 4 _ rfl; have q5 := (HTB4.out.o).cell 5 _ rfl; have q6 := (HTB4.out.o).cell 6 _ rfl; have q7 := (HTB4.out.o).cell 7 _ rfl
  cases hb : nmsB [v1, v2]
  · obtain rfl := hno hb
    have HNN : Hid (rowV 4 [w0, v1, v2] = none) := by rw [Hid, HROW.out, hb]; rfl
    have a0 := (HTB4.out.z).cell 0 _ rfl; have a1 := (HTB4.out.z).cell 1 _ rfl; have a2 := (HTB4.out.z).cell 2 _ rfl; have a3 := (HTB4.out.z).cell 3 _ rfl; have a4 := (HTB4.out.z).cell 4 _ rfl; have a5 := (HTB4.out.z).cell 5 _ rfl; have a6 := (HTB4.out.z).cell 6 _ rfl; have a7 := (HTB4.out.z).cell 7 _ rfl; have g0 := (HTB4.out.z).free 0; have g1 := (HTB4.out.z).free 1; have g2 := (HTB4.out.z).free 2; have g3 := (HTB4.out.z).free 3; have g4 := (HTB4.out.z).free 4; have g5 := (HTB4.out.z).free 5; have g6 := (HTB4.out.z).free 6; have g7 := (HTB4.out.z).free 7; have s6 := (HTB4.out.z).lt
    clear hy hno hb4 hb HROW
    go_wp2_with fail
    refine bodyPost_ret (v := .tuple #[(.agg #[.int .i64 c.cats, .slice c.g.a c.g.l.length c.g.cap, .slice c.r.a c.r.l.length c.r.cap, .slice c.p.a c.p.l.length c.p.cap, .slice c.n.a c.n.l.length c.n.cap, .slice c.s.a c.s.l.length c.s.cap, .int .i64 c.gate, .int .i64 c.quota]), .bool false]) (by simp [results, Tryd.results75, go_sem, a0, a1, a2, a3, a4, a5, a6, a7, s6]) rfl ?_
    have HU7 := (upd_put (k := 7) (v := .int .i64 c.quota) (upd_put (k := 6) (v := .int .i64 c.gate) (upd_put (k := 5) (v := .slice c.s.a c.s.l.length c.s.cap) (upd_put (k := 4) (v := .slice c.n.a c.n.l.length c.n.cap) (upd_put (k := 3) (v := .slice c.p.a c.p.l.length c.p.cap) (upd_put (k := 2) (v := .slice c.r.a c.r.l.length c.r.cap) (upd_put (k := 1) (v := .slice c.g.a c.g.l.length c.g.cap) (upd_put (k := 0) (v := .int .i64 c.cats) (Upd.refl b1 W4)))))))))
    exact tkr_no HNN.out (HRO4.out.upd HTB4.out.z (by have := HTB4.out.n1; omega) HU7).bel (keep_fin HTB4.out.bel (keep_refl W4) (Upd.refl b2 W4) HU7 HTB4.out.n1 HTB4.out.n2) rfl
  · obtain ⟨a3, c3, rfl, hown3⟩ := hy hb
    obtain ⟨g3, rfl, hg3, hg3'⟩ := hown3.at_ (by simp)
    have hc3 := hown3.le
    have hc4 : c3 ≤ 9223372036854775807 := hown3.capMax
    obtain ⟨y0, hy0⟩ : ∃ y, Hid (y = ((numI v1 : Nat) : Int)) := ⟨_, Lib.hid rfl⟩
    have m0 : W4.cell? ⟨g3, 0, none⟩ = some (.int .i64 y0) := by rw [hy0.out]; exact hown3.cell 0 _ rfl
    obtain ⟨y1, hy1⟩ : ∃ y, Hid (y = ((numI v2 : Nat) : Int)) := ⟨_, Lib.hid rfl⟩
    have m1 : W4.cell? ⟨g3, 1, none⟩ = some (.int .i64 y1) := by rw [hy1.out]; exact hown3.cell 1 _ rfl
    have HRR : Hid (rowV 4 [w0, v1, v2] = some [y0, y1]) := by rw [Hid, HROW.out, hb, hy0.out, hy1.out]; rfl
    have hlt2 := HTB4.out.o.lt
    clear hy hno hb4 hb HROW hown3
    go_wp2_with fail
    go_region_law (refine step_own rfl (.tmp 38) (.tmp 46) 26 rfl w.heap.size 64 i0 _ 2 16 Tryd.underlying26 hi0 hz0 hz1 hz2 rfl (by omega) c.n.a c.n.l.length c.n.cap (iF c.n.l) rfl (HRO4.out.n.below ((Below.refl _ _).drew.alloc (Nat.le_refl _) _)) W4.heap.size (ivs [y0, y1]) rfl (new_block _ _ _ rfl) rfl (by simp [ivs, Value.oneCell']) (by simp only [maxLen]; omega) (by omega) (by simp; omega) ?_; intro g' c' W5 hown1 hmod1 _; have HOWN := Lib.hid hown1; have HMOD : Hid (Mod (blk c.n.a) W4 W5) := ((Mod.ofBelow ((Below.refl W4.heap.size W4).drew.alloc (Nat.le_refl _) _)).trans hmod1); clear hown1 hmod1; have HO5 := Lib.hid (HTB4.out.o.mod HMOD.out (HRO4.out.n.ne HTB4.out.o (by decide))); have HZ5 := Lib.hid (HTB4.out.z.mod HMOD.out (HRO4.out.n.ne HTB4.out.z (by decide))); have d5 := HO5.out.cell 4 _ rfl; have e5 := HO5.out.free 4; have HO6 := Lib.hid (HO5.out.set 4 (.slice (some ⟨g', 0, none⟩) (c.n.l.length + 1) c')); have HZ6 := Lib.hid (HZ5.out.upd (Upd.setCell W5 ⟨b2, 4, none⟩ (.slice (some ⟨g', 0, none⟩) (c.n.l.length + 1) c')) HTB4.out.ne); clear q0 q1 q2 q3 q4 q5 q6 q7; have r0 := (HO6.out).cell 0 _ rfl; have r1 := (HO6.out).cell 1 _ rfl; have r2 := (HO6.out).cell 2 _ rfl; have r3 := (HO6.out).cell 3 _ rfl; have r4 := (HO6.out).cell 4 _ rfl; have r5 := (HO6.out).cell 5 _ rfl; have r6 := (HO6.out).cell 6 _ rfl; have r7 := (HO6.out).cell 7 _ rfl; have a0 := (HZ6.out).cell 0 _ rfl; have a1 := (HZ6.out).cell 1 _ rfl; have a2 := (HZ6.out).cell 2 _ rfl; have a3 := (HZ6.out).cell 3 _ rfl; have a4 := (HZ6.out).cell 4 _ rfl; have a5 := (HZ6.out).cell 5 _ rfl; have a6 := (HZ6.out).cell 6 _ rfl; have a7 := (HZ6.out).cell 7 _ rfl; have g0 := (HZ6.out).free 0; have g1 := (HZ6.out).free 1; have g2 := (HZ6.out).free 2; have g3 := (HZ6.out).free 3; have g4 := (HZ6.out).free 4; have g5 := (HZ6.out).free 5; have g6 := (HZ6.out).free 6; have g7 := (HZ6.out).free 7; have s6 := (HZ6.out).lt)
    all_goals
      go_wp2_with fail
      refine bodyPost_ret (v := .tuple #[.agg #[.int .i64 c.cats, .slice c.g.a c.g.l.length c.g.cap, .slice c.r.a c.r.l.length c.r.cap, .slice c.p.a c.p.l.length c.p.cap, .slice (some ⟨g', 0, none⟩) (c.n.l.length + 1) c', .slice c.s.a c.s.l.length c.s.cap, .int .i64 c.gate, .int .i64 c.quota], .bool true]) (by simp [results, Tryd.results75, go_sem, a0, a1, a2, a3, a4, a5, a6, a7, s6]) rfl ?_
      have HU7 := (upd_put (k := 7) (v := .int .i64 c.quota) (upd_put (k := 6) (v := .int .i64 c.gate) (upd_put (k := 5) (v := .slice c.s.a c.s.l.length c.s.cap) (upd_put (k := 4) (v := .slice (some ⟨g', 0, none⟩) (c.n.l.length + 1) c') (upd_put (k := 3) (v := .slice c.p.a c.p.l.length c.p.cap) (upd_put (k := 2) (v := .slice c.r.a c.r.l.length c.r.cap) (upd_put (k := 1) (v := .slice c.g.a c.g.l.length c.g.cap) (upd_put (k := 0) (v := .int .i64 c.cats) (Upd.refl b1 (W5.setCell ⟨b2, 4, none⟩ (.slice (some ⟨g', 0, none⟩) (c.n.l.length + 1) c')))))))))))
      have HR7 : RO w { c with n := ⟨some ⟨g', 0, none⟩, c', c.n.l ++ [[y0, y1]]⟩ } _ := ((HRO4.out.addN (row := [y0, y1]) HOWN.out HMOD.out rfl).upd HO5.out (by have := HTB4.out.n2; omega) (Upd.setCell W5 ⟨b2, 4, none⟩ (.slice (some ⟨g', 0, none⟩) (c.n.l.length + 1) c'))).upd HZ6.out (by have := HTB4.out.n1; omega) HU7
      have HK7 := keep_fin HTB4.out.bel (keep_mod HRO4.out.n (by decide) HMOD.out) (Upd.setCell W5 ⟨b2, 4, none⟩ (.slice (some ⟨g', 0, none⟩) (c.n.l.length + 1) c')) HU7 HTB4.out.n1 HTB4.out.n2
      exact tkr_fin (row := [y0, y1]) (b := true) (by rw [HRR.out]; rfl) rfl HR7 HK7 (by simp)
theorem rplain_slot (w : World) (c : Cv) (w0 v1 v2 : List UInt8) (hsm : ∀ x ∈ [w0, v1, v2], x.length ≤ 100000000) (a : Option Addr) (cap : Nat) (W : World) (h : RO w c W) (hr : RdW W a cap [w0, v1, v2]) (hn : FewC c) :
    Calls Tryd.prog 75 #[(.agg #[.int .i64 c.cats, .slice c.g.a c.g.l.length c.g.cap, .slice c.r.a c.r.l.length c.r.cap, .slice c.p.a c.p.l.length c.p.cap, .slice c.n.a c.n.l.length c.n.cap, .slice c.s.a c.s.l.length c.s.cap, .int .i64 c.gate, .int .i64 c.quota]), .int .i64 5, .slice a 3 cap] W (TkR w c W 5 [w0, v1, v2]) := by
  obtain ⟨i0, hi0, hz0, hz1, hz2⟩ := info_parts info_so
  have hfew := hn.2.2.2.2
  obtain ⟨W3, hW3⟩ : ∃ W3, W3 = ((W.alloc (.cells #[.int .i64 c.cats, .slice c.g.a c.g.l.length c.g.cap, .slice c.r.a c.r.l.length c.r.cap, .slice c.p.a c.p.l.length c.p.cap, .slice c.n.a c.n.l.length c.n.cap, .slice c.s.a c.s.l.length c.s.cap, .int .i64 c.gate, .int .i64 c.quota] 29)).alloc (.cells #[.int .i64 0, .slice none 0 0, .slice none 0 0, .slice none 0 0, .slice none 0 0, .slice none 0 0, .int .i64 0, .int .i64 0] 29)).alloc (.cells #[.int .i64 c.cats, .slice c.g.a c.g.l.length c.g.cap, .slice c.r.a c.r.l.length c.r.cap, .slice c.p.a c.p.l.length c.p.cap, .slice c.n.a c.n.l.length c.n.cap, .slice c.s.a c.s.l.length c.s.cap, .int .i64 c.gate, .int .i64 c.quota] 29) := ⟨_, rfl⟩
  obtain ⟨b1, hb1⟩ : ∃ b, b = W.heap.size + 1 := ⟨_, rfl⟩
  obtain ⟨b2, hb2⟩ : ∃ b, b = W.heap.size + 1 + 1 := ⟨_, rfl⟩
  have HTB : Hid (TB W W3 b1 b2 c) := by rw [hW3, hb1, hb2]; exact tb_start W c
  have HRO := Lib.hid (h.more HTB.out.bel)
  have HRW := Lib.hid (hr.below HTB.out.bel)
  have HW3 := Lib.hid hW3
  have HE1 := Lib.hid hb1
  have HE2 := Lib.hid hb2
  have hwB := h.bel.size
  clear hW3 hb1 hb2
  have HNB : Hid (Calls Tryd.prog 93 #[.slice a 3 cap, .int .i64 1] W3 (NmPost [v1, v2] W3)) := rnumbers_any a cap [w0, v1, v2] 1 (by simp) [v1, v2] rfl (fun y hy => hsm y (List.mem_cons_of_mem _ hy)) (by simp) W3 HRW.out.rd
  have hrow := plain_row 5 (by omega) [w0, v1, v2]
  rw [show [w0, v1, v2].drop 1 = [v1, v2] from rfl] at hrow
  have HROW := Lib.hid hrow
  clear hrow h hr hsm
  go_enter Tryd.func75, Tryd.ntmps75
  (go_upto_region 2 with fail; rw [← HW3.out]; try rw [← HE2.out]; try rw [← HE1.out])
  go_wp2_with fail
  refine HNB.out.mono ?_; intro e W4 h4
  obtain ⟨hy, hno, hb4⟩ := h4
  have HTB4 := Lib.hid (HTB.out.more hb4)
  have HRO4 := Lib.hid (HRO.out.more hb4)
  have hs4 := HRO4.out.bel.size
  have q0 := (HTB4.out.o).cell 0 _ rfl; have q1 := (HTB4.out.o).cell 1 _ rfl; have q2 := (HTB4.out.o).cell 2 _ rfl; have q3 := (HTB4.out.o).cell 3 _ rfl; have q4 := (HTB4.out.o).cell 4 _ rfl; have q5 := (HTB4.out.o).cell 5 _ rfl; have q6 := (HTB4.out.o).cell 6 _ rfl; have q7 := (HTB4.out.o).cell 7 _ rfl
  cases hb : nmsB [v1, v2]
  · obtain rfl := hno hb
    have HNN : Hid (rowV 5 [w0, v1, v2] = none) := by rw [Hid, HROW.out, hb]; rfl
    have a0 := (HTB4.out.z).cell 0 _ rfl; have a1 := (HTB4.out.z).cell 1 _ rfl; have a2 := (HTB4.out.z).cell 2 _ rfl; have a3 := (HTB4.out.z).cell 3 _ rfl; have a4 := (HTB4.out.z).cell 4 _ rfl; have a5 := (HTB4.out.z).cell 5 _ rfl; have a6 := (HTB4.out.z).cell 6 _ rfl; have a7 := (HTB4.out.z).cell 7 _ rfl; have g0 := (HTB4.out.z).free 0; have g1 := (HTB4.out.z).free 1; have g2 := (HTB4.out.z).free 2; have g3 := (HTB4.out.z).free 3; have g4 := (HTB4.out.z).free 4; have g5 := (HTB4.out.z).free 5; have g6 := (HTB4.out.z).free 6; have g7 := (HTB4.out.z).free 7; have s6 := (HTB4.out.z).lt
    clear hy hno hb4 hb HROW
    go_wp2_with fail
    refine bodyPost_ret (v := .tuple #[(.agg #[.int .i64 c.cats, .slice c.g.a c.g.l.length c.g.cap, .slice c.r.a c.r.l.length c.r.cap, .slice c.p.a c.p.l.length c.p.cap, .slice c.n.a c.n.l.length c.n.cap, .slice c.s.a c.s.l.length c.s.cap, .int .i64 c.gate, .int .i64 c.quota]), .bool false]) (by simp [results, Tryd.results75, go_sem, a0, a1, a2, a3, a4, a5, a6, a7, s6]) rfl ?_
    have HU7 := (upd_put (k := 7) (v := .int .i64 c.quota) (upd_put (k := 6) (v := .int .i64 c.gate) (upd_put (k := 5) (v := .slice c.s.a c.s.l.length c.s.cap) (upd_put (k := 4) (v := .slice c.n.a c.n.l.length c.n.cap) (upd_put (k := 3) (v := .slice c.p.a c.p.l.length c.p.cap) (upd_put (k := 2) (v := .slice c.r.a c.r.l.length c.r.cap) (upd_put (k := 1) (v := .slice c.g.a c.g.l.length c.g.cap) (upd_put (k := 0) (v := .int .i64 c.cats) (Upd.refl b1 W4)))))))))
    exact tkr_no HNN.out (HRO4.out.upd HTB4.out.z (by have := HTB4.out.n1; omega) HU7).bel (keep_fin HTB4.out.bel (keep_refl W4) (Upd.refl b2 W4) HU7 HTB4.out.n1 HTB4.out.n2) rfl
  · obtain ⟨a3, c3, rfl, hown3⟩ := hy hb
    obtain ⟨g3, rfl, hg3, hg3'⟩ := hown3.at_ (by simp)
    have hc3 := hown3.le
    have hc4 : c3 ≤ 9223372036854775807 := hown3.capMax
    obtain ⟨y0, hy0⟩ : ∃ y, Hid (y = ((numI v1 : Nat) : Int)) := ⟨_, Lib.hid rfl⟩
    have m0 : W4.cell? ⟨g3, 0, none⟩ = some (.int .i64 y0) := by rw [hy0.out]; exact hown3.cell 0 _ rfl
    obtain ⟨y1, hy1⟩ : ∃ y, Hid (y = ((numI v2 : Nat) : Int)) := ⟨_, Lib.hid rfl⟩
    have m1 : W4.cell? ⟨g3, 1, none⟩ = some (.int .i64 y1) := by rw [hy1.out]; exact hown3.cell 1 _ rfl
    have HRR : Hid (rowV 5 [w0, v1, v2] = some [y0, y1]) := by rw [Hid, HROW.out, hb, hy0.out, hy1.out]; rfl
    have hlt2 := HTB4.out.o.lt
    clear hy hno hb4 hb HROW hown3
    go_wp2_with fail
    go_region_law (refine step_own rfl (.tmp 52) (.tmp 60) 27 rfl w.heap.size 66 i0 _ 2 16 Tryd.underlying27 hi0 hz0 hz1 hz2 rfl (by omega) c.s.a c.s.l.length c.s.cap (iF c.s.l) rfl (HRO4.out.s.below ((Below.refl _ _).drew.alloc (Nat.le_refl _) _)) W4.heap.size (ivs [y0, y1]) rfl (new_block _ _ _ rfl) rfl (by simp [ivs, Value.oneCell']) (by simp only [maxLen]; omega) (by omega) (by simp; omega) ?_; intro g' c' W5 hown1 hmod1 _; have HOWN := Lib.hid hown1; have HMOD : Hid (Mod (blk c.s.a) W4 W5) := ((Mod.ofBelow ((Below.refl W4.heap.size W4).drew.alloc (Nat.le_refl _) _)).trans hmod1); clear hown1 hmod1; have HO5 := Lib.hid (HTB4.out.o.mod HMOD.out (HRO4.out.s.ne HTB4.out.o (by decide))); have HZ5 := Lib.hid (HTB4.out.z.mod HMOD.out (HRO4.out.s.ne HTB4.out.z (by decide))); have d5 := HO5.out.cell 5 _ rfl; have e5 := HO5.out.free 5; have HO6 := Lib.hid (HO5.out.set 5 (.slice (some ⟨g', 0, none⟩) (c.s.l.length + 1) c')); have HZ6 := Lib.hid (HZ5.out.upd (Upd.setCell W5 ⟨b2, 5, none⟩ (.slice (some ⟨g', 0, none⟩) (c.s.l.length + 1) c')) HTB4.out.ne); clear q0 q1 q2 q3 q4 q5 q6 q7; have r0 := (HO6.out).cell 0 _ rfl; have r1 := (HO6.out).cell 1 _ rfl; have r2 := (HO6.out).cell 2 _ rfl; have r3 := (HO6.out).cell 3 _ rfl; have r4 := (HO6.out).cell 4 _ rfl; have r5 := (HO6.out).cell 5 _ rfl; have r6 := (HO6.out).cell 6 _ rfl; have r7 := (HO6.out).cell 7 _ rfl; have a0 := (HZ6.out).cell 0 _ rfl; have a1 := (HZ6.out).cell 1 _ rfl; have a2 := (HZ6.out).cell 2 _ rfl; have a3 := (HZ6.out).cell 3 _ rfl; have a4 := (HZ6.out).cell 4 _ rfl; have a5 := (HZ6.out).cell 5 _ rfl; have a6 := (HZ6.out).cell 6 _ rfl; have a7 := (HZ6.out).cell 7 _ rfl; have g0 := (HZ6.out).free 0; have g1 := (HZ6.out).free 1; have g2 := (HZ6.out).free 2; have g3 := (HZ6.out).free 3; have g4 := (HZ6.out).free 4; have g5 := (HZ6.out).free 5; have g6 := (HZ6.out).free 6; have g7 := (HZ6.out).free 7; have s6 := (HZ6.out).lt)
    all_goals
      go_wp2_with fail
      refine bodyPost_ret (v := .tuple #[.agg #[.int .i64 c.cats, .slice c.g.a c.g.l.length c.g.cap, .slice c.r.a c.r.l.length c.r.cap, .slice c.p.a c.p.l.length c.p.cap, .slice c.n.a c.n.l.length c.n.cap, .slice (some ⟨g', 0, none⟩) (c.s.l.length + 1) c', .int .i64 c.gate, .int .i64 c.quota], .bool true]) (by simp [results, Tryd.results75, go_sem, a0, a1, a2, a3, a4, a5, a6, a7, s6]) rfl ?_
      have HU7 := (upd_put (k := 7) (v := .int .i64 c.quota) (upd_put (k := 6) (v := .int .i64 c.gate) (upd_put (k := 5) (v := .slice (some ⟨g', 0, none⟩) (c.s.l.length + 1) c') (upd_put (k := 4) (v := .slice c.n.a c.n.l.length c.n.cap) (upd_put (k := 3) (v := .slice c.p.a c.p.l.length c.p.cap) (upd_put (k := 2) (v := .slice c.r.a c.r.l.length c.r.cap) (upd_put (k := 1) (v := .slice c.g.a c.g.l.length c.g.cap) (upd_put (k := 0) (v := .int .i64 c.cats) (Upd.refl b1 (W5.setCell ⟨b2, 5, none⟩ (.slice (some ⟨g', 0, none⟩) (c.s.l.length + 1) c')))))))))))
      have HR7 : RO w { c with s := ⟨some ⟨g', 0, none⟩, c', c.s.l ++ [[y0, y1]]⟩ } _ := ((HRO4.out.addS (row := [y0, y1]) HOWN.out HMOD.out rfl).upd HO5.out (by have := HTB4.out.n2; omega) (Upd.setCell W5 ⟨b2, 5, none⟩ (.slice (some ⟨g', 0, none⟩) (c.s.l.length + 1) c'))).upd HZ6.out (by have := HTB4.out.n1; omega) HU7
      have HK7 := keep_fin HTB4.out.bel (keep_mod HRO4.out.s (by decide) HMOD.out) (Upd.setCell W5 ⟨b2, 5, none⟩ (.slice (some ⟨g', 0, none⟩) (c.s.l.length + 1) c')) HU7 HTB4.out.n1 HTB4.out.n2
      exact tkr_fin (row := [y0, y1]) (b := true) (by rw [HRR.out]; rfl) rfl HR7 HK7 (by simp)
end Go.Proofs.YtoalpdjpljapbaaDoor
/- The reference of plan: a line taken, whatever its rank. -/
namespace Go.Proofs.YtoalpdjpljapbaaDoor
set_option linter.unusedVariables false
set_option linter.unusedSimpArgs false
set_option linter.unnecessarySimpa false
open Go.RowKit Go.Sort
set_option maxHeartbeats 4000000
set_option maxRecDepth 100000
set_option linter.unusedVariables false
/-- A plain line, when its own function is known. -/
theorem rtake_plain (w : World) (c : Cv) (k : Nat) (hk : k ≠ 1 ∧ k ≠ 2 ∧ k ≠ 3) (hk7 : k < 7) (ws : List (List UInt8)) (n : Nat) (a : Option Addr) (cap : Nat) (W : World) (h : RO w c W) (hr : RdW W a cap ws)
    (hP : ∀ W', RO w c W' → RdW W' a cap ws → Calls Tryd.prog 75 #[(.agg #[.int .i64 c.cats, .slice c.g.a c.g.l.length c.g.cap, .slice c.r.a c.r.l.length c.r.cap, .slice c.p.a c.p.l.length c.p.cap, .slice c.n.a c.n.l.length c.n.cap, .slice c.s.a c.s.l.length c.s.cap, .int .i64 c.gate, .int .i64 c.quota]), .int .i64 k, .slice a n cap] W' (TkR w c W' k ws)) :
    Calls Tryd.prog 43 #[(.agg #[.int .i64 c.cats, .slice c.g.a c.g.l.length c.g.cap, .slice c.r.a c.r.l.length c.r.cap, .slice c.p.a c.p.l.length c.p.cap, .slice c.n.a c.n.l.length c.n.cap, .slice c.s.a c.s.l.length c.s.cap, .int .i64 c.gate, .int .i64 c.quota]), .int .i64 k, .slice a n cap] W (TkR w c W k ws) := by
  obtain ⟨W3, hW3⟩ : ∃ W3, W3 = ((W.alloc (.cells #[.int .i64 c.cats, .slice c.g.a c.g.l.length c.g.cap, .slice c.r.a c.r.l.length c.r.cap, .slice c.p.a c.p.l.length c.p.cap, .slice c.n.a c.n.l.length c.n.cap, .slice c.s.a c.s.l.length c.s.cap, .int .i64 c.gate, .int .i64 c.quota] 29)).alloc (.cells #[.int .i64 0, .slice none 0 0, .slice none 0 0, .slice none 0 0, .slice none 0 0, .slice none 0 0, .int .i64 0, .int .i64 0] 29)).alloc (.cells #[.int .i64 c.cats, .slice c.g.a c.g.l.length c.g.cap, .slice c.r.a c.r.l.length c.r.cap, .slice c.p.a c.p.l.length c.p.cap, .slice c.n.a c.n.l.length c.n.cap, .slice c.s.a c.s.l.length c.s.cap, .int .i64 c.gate, .int .i64 c.quota] 29) := ⟨_, rfl⟩
  obtain ⟨b1, hb1⟩ : ∃ b, b = W.heap.size + 1 := ⟨_, rfl⟩
  obtain ⟨b2, hb2⟩ : ∃ b, b = W.heap.size + 1 + 1 := ⟨_, rfl⟩
  have HTB : Hid (TB W W3 b1 b2 c) := by rw [hW3, hb1, hb2]; exact tb_start W c
  have HRO := Lib.hid (h.more HTB.out.bel)
  have HRW := Lib.hid (hr.below HTB.out.bel)
  have HW3 := Lib.hid hW3
  have HE1 := Lib.hid hb1
  have HE2 := Lib.hid hb2
  have hwB := h.bel.size
  clear hW3 hb1 hb2
  have HPL := Lib.hid (hP W3 HRO.out HRW.out)
  have k1 : ((k : Int) == 1) = false := by rw [beq_eq_false_iff_ne]; omega
  have k2 : ((k : Int) == 2) = false := by rw [beq_eq_false_iff_ne]; omega
  have k3 : ((k : Int) == 3) = false := by rw [beq_eq_false_iff_ne]; omega
  have z1 : decide (k = 1) = false := decide_eq_false hk.1
  have z2 : decide (k = 2) = false := decide_eq_false hk.2.1
  have z3 : decide (k = 3) = false := decide_eq_false hk.2.2
  obtain ⟨R, hR⟩ : ∃ R, R = rowV k ws := ⟨_, rfl⟩
  obtain ⟨b, hb⟩ : ∃ b, b = R.isSome := ⟨_, rfl⟩
  have HSH : Hid (∀ e w', TkR w c W3 k ws e w' → ∃ c1 : Cv, e = .returned (.tuple #[(.agg #[.int .i64 c1.cats, .slice c1.g.a c1.g.l.length c1.g.cap, .slice c1.r.a c1.r.l.length c1.r.cap, .slice c1.p.a c1.p.l.length c1.p.cap, .slice c1.n.a c1.n.l.length c1.n.cap, .slice c1.s.a c1.s.l.length c1.s.cap, .int .i64 c1.gate, .int .i64 c1.quota]), .bool b]) ∧ Below w.heap.size w w' ∧ Keep W3 w' ∧ ∀ row, R = some row → pcOf c1 = setV (pcOf c) k row ∧ RO w c1 w') := fun e w' h => by rw [hb, hR]; exact h
  have HFN : Hid (∀ v w' (c1 : Cv), v = .tuple #[(.agg #[.int .i64 c1.cats, .slice c1.g.a c1.g.l.length c1.g.cap, .slice c1.r.a c1.r.l.length c1.r.cap, .slice c1.p.a c1.p.l.length c1.p.cap, .slice c1.n.a c1.n.l.length c1.n.cap, .slice c1.s.a c1.s.l.length c1.s.cap, .int .i64 c1.gate, .int .i64 c1.quota]), .bool b] → Below w.heap.size w w' → Keep W w' → (∀ row, R = some row → pcOf c1 = setV (pcOf c) k row ∧ RO w c1 w') → TkR w c W k ws (.returned v) w') := fun v w' c1 h1 h2 h3 h4 => ⟨c1, by rw [h1, hb, hR], h2, h3, by rw [← hR]; exact h4⟩
  clear h hr hP hk hk7 hR hb
  have q0 := (HTB.out.o).cell 0 _ rfl; have q1 := (HTB.out.o).cell 1 _ rfl; have q2 := (HTB.out.o).cell 2 _ rfl; have q3 := (HTB.out.o).cell 3 _ rfl; have q4 := (HTB.out.o).cell 4 _ rfl; have q5 := (HTB.out.o).cell 5 _ rfl; have q6 := (HTB.out.o).cell 6 _ rfl; have q7 := (HTB.out.o).cell 7 _ rfl
  go_enter Tryd.func43, Tryd.ntmps43
  (go_upto_region 2 with fail; rw [← HW3.out]; try rw [← HE2.out]; try rw [← HE1.out])
  go_wp2_with fail
  refine HPL.out.mono ?_; intro e W4 h4
  obtain ⟨c1, rfl, hb4, hk4, hr4⟩ := HSH.out _ _ h4
  have HZ4 := Lib.hid (hk4 _ _ HTB.out.z)
  have HB4 := Lib.hid hb4
  have HK4 := Lib.hid hk4
  have HR4 := Lib.hid hr4
  have a0 := (HZ4.out).cell 0 _ rfl; have a1 := (HZ4.out).cell 1 _ rfl; have a2 := (HZ4.out).cell 2 _ rfl; have a3 := (HZ4.out).cell 3 _ rfl; have a4 := (HZ4.out).cell 4 _ rfl; have a5 := (HZ4.out).cell 5 _ rfl; have a6 := (HZ4.out).cell 6 _ rfl; have a7 := (HZ4.out).cell 7 _ rfl; have g0 := (HZ4.out).free 0; have g1 := (HZ4.out).free 1; have g2 := (HZ4.out).free 2; have g3 := (HZ4.out).free 3; have g4 := (HZ4.out).free 4; have g5 := (HZ4.out).free 5; have g6 := (HZ4.out).free 6; have g7 := (HZ4.out).free 7; have s6 := (HZ4.out).lt
  clear h4 hb4 hk4 hr4
  go_wp2_with fail
  refine bodyPost_ret (v := .tuple #[(.agg #[.int .i64 c1.cats, .slice c1.g.a c1.g.l.length c1.g.cap, .slice c1.r.a c1.r.l.length c1.r.cap, .slice c1.p.a c1.p.l.length c1.p.cap, .slice c1.n.a c1.n.l.length c1.n.cap, .slice c1.s.a c1.s.l.length c1.s.cap, .int .i64 c1.gate, .int .i64 c1.quota]), .bool b]) (by simp [results, Tryd.results43, go_sem, a0, a1, a2, a3, a4, a5, a6, a7, s6]) rfl ?_
  have HU7 := (upd_put (k := 7) (v := .int .i64 c1.quota) (upd_put (k := 6) (v := .int .i64 c1.gate) (upd_put (k := 5) (v := .slice c1.s.a c1.s.l.length c1.s.cap) (upd_put (k := 4) (v := .slice c1.n.a c1.n.l.length c1.n.cap) (upd_put (k := 3) (v := .slice c1.p.a c1.p.l.length c1.p.cap) (upd_put (k := 2) (v := .slice c1.r.a c1.r.l.length c1.r.cap) (upd_put (k := 1) (v := .slice c1.g.a c1.g.l.length c1.g.cap) (upd_put (k := 0) (v := .int .i64 c1.cats) (Upd.refl b1 W4)))))))))
  refine HFN.out _ _ c1 rfl (HB4.out.trans (HU7.below (by have := HTB.out.n1; omega) HB4.out.size)) (fun b cs ho => (HK4.out b cs (ho.below HTB.out.bel)).upd HU7 (by have := ho.lt; have := HTB.out.n1; omega)) (fun row hrow => ⟨(HR4.out row hrow).1, (HR4.out row hrow).2.upd HZ4.out (by have := HTB.out.n1; omega) HU7⟩)
/-- A line taken. -/
theorem rtake_any (w : World) (c : Cv) (k : Nat) (hk : k < 7) (ws : List (List UInt8)) (hl : ws.length = wordsK k) (hsm : ∀ x ∈ ws, x.length ≤ 100000000) (a : Option Addr) (cap : Nat) (W : World) (h : RO w c W) (hr : RdW W a cap ws) (hn : FewC c) :
    Calls Tryd.prog 43 #[(.agg #[.int .i64 c.cats, .slice c.g.a c.g.l.length c.g.cap, .slice c.r.a c.r.l.length c.r.cap, .slice c.p.a c.p.l.length c.p.cap, .slice c.n.a c.n.l.length c.n.cap, .slice c.s.a c.s.l.length c.s.cap, .int .i64 c.gate, .int .i64 c.quota]), .int .i64 k, .slice a ws.length cap] W (TkR w c W k ws) := by
  rcases (by omega : k = 0 ∨ k = 1 ∨ k = 2 ∨ k = 3 ∨ k = 4 ∨ k = 5 ∨ k = 6) with rfl | rfl | rfl | rfl | rfl | rfl | rfl
  · match ws, hl with
    | [x0, x1], _ => exact rtake_plain w c 0 (by omega) hk _ _ a cap W h hr (fun W' h' hr' => rplain_cats w c x0 x1 hsm a cap W' h' hr' hn)
  · match ws, hl with
    | [x0, x1, x2, x3], _ => exact rtake_guest w c x0 x1 x2 x3 hsm a cap W h hr hn
  · match ws, hl with
    | [x0, x1, x2, x3], _ => exact rtake_range w c x0 x1 x2 x3 hsm a cap W h hr hn
  · match ws, hl with
    | [x0, x1, x2], _ => exact rtake_port w c x0 x1 x2 hsm a cap W h hr hn
  · match ws, hl with
    | [x0, x1, x2], _ => exact rtake_plain w c 4 (by omega) hk _ _ a cap W h hr (fun W' h' hr' => rplain_ring w c x0 x1 x2 hsm a cap W' h' hr' hn)
  · match ws, hl with
    | [x0, x1, x2], _ => exact rtake_plain w c 5 (by omega) hk _ _ a cap W h hr (fun W' h' hr' => rplain_slot w c x0 x1 x2 hsm a cap W' h' hr' hn)
  · match ws, hl with
    | [x0, x1, x2], _ => exact rtake_plain w c 6 (by omega) hk _ _ a cap W h hr (fun W' h' hr' => rplain_gate w c x0 x1 x2 hsm a cap W' h' hr' hn)
end Go.Proofs.YtoalpdjpljapbaaDoor
