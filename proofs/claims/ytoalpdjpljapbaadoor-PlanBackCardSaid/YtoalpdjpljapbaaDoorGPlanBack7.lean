/- The law of plan: the same configurations. -/
import Derived.Test.YtoalpdjpljapbaaDoorGPlanBack5
import Derived.Test.YtoalpdjpljapbaaDoorGPlanBack6
import Derived.Test.YtoalpdjpljapbaaDoorGPlanBack2
import Derived.Test.YtoalpdjpljapbaaDoorGPlanBack1
import Derived.Test.YtoalpdjpljapbaaDoorGPlanBack0
import Derived.Test.YtoalpdjpljapbaaDoorRows
import Derived.LaidSub
import Derived.Lib.LaidTab
import Derived.Deep.DeepHandedRow
namespace Go.Proofs.YtoalpdjpljapbaaDoor
set_option linter.unusedVariables false
set_option linter.unusedSimpArgs false
set_option linter.unnecessarySimpa false
open Go.RowKit Go.Sort
set_option maxHeartbeats 4000000
set_option maxRecDepth 100000
set_option linter.unusedVariables false
/-- Two configurations of one content, boxed. -/
structure SM (W W3 : World) (b1 b2 : Nat) (c d : Cv) : Prop where
  bel : Below W.heap.size W W3
  x : ObjAt W3 b1 29 (cfgL c)
  y : ObjAt W3 b2 29 (cfgL d)
  cx : CfgOk W3 c
  cy : CfgOk W3 d
theorem SM.more {W W3 W' : World} {b1 b2 : Nat} {c d : Cv} (h : SM W W3 b1 b2 c d) (hb : Below W3.heap.size W3 W') : SM W W' b1 b2 c d := ⟨bmore h.bel hb, h.x.below hb, h.y.below hb, h.cx.below hb, h.cy.below hb⟩
theorem sm_start (W : World) (c d : Cv) (hc : CfgOk W c) (hd : CfgOk W d) : SM W ((W.alloc (.cells #[.int .i64 c.cats, .slice c.g.a c.g.l.length c.g.cap, .slice c.r.a c.r.l.length c.r.cap, .slice c.p.a c.p.l.length c.p.cap, .slice c.n.a c.n.l.length c.n.cap, .slice c.s.a c.s.l.length c.s.cap, .int .i64 c.gate, .int .i64 c.quota] 29)).alloc (.cells #[.int .i64 d.cats, .slice d.g.a d.g.l.length d.g.cap, .slice d.r.a d.r.l.length d.r.cap, .slice d.p.a d.p.l.length d.p.cap, .slice d.n.a d.n.l.length d.n.cap, .slice d.s.a d.s.l.length d.s.cap, .int .i64 d.gate, .int .i64 d.quota] 29)) W.heap.size (W.heap.size + 1) c d := by
  have s1 : (W.alloc (.cells #[.int .i64 c.cats, .slice c.g.a c.g.l.length c.g.cap, .slice c.r.a c.r.l.length c.r.cap, .slice c.p.a c.p.l.length c.p.cap, .slice c.n.a c.n.l.length c.n.cap, .slice c.s.a c.s.l.length c.s.cap, .int .i64 c.gate, .int .i64 c.quota] 29)).heap.size = W.heap.size + 1 := World.size_alloc _ _
  have hb : Below W.heap.size W ((W.alloc (.cells #[.int .i64 c.cats, .slice c.g.a c.g.l.length c.g.cap, .slice c.r.a c.r.l.length c.r.cap, .slice c.p.a c.p.l.length c.p.cap, .slice c.n.a c.n.l.length c.n.cap, .slice c.s.a c.s.l.length c.s.cap, .int .i64 c.gate, .int .i64 c.quota] 29)).alloc (.cells #[.int .i64 d.cats, .slice d.g.a d.g.l.length d.g.cap, .slice d.r.a d.r.l.length d.r.cap, .slice d.p.a d.p.l.length d.p.cap, .slice d.n.a d.n.l.length d.n.cap, .slice d.s.a d.s.l.length d.s.cap, .int .i64 d.gate, .int .i64 d.quota] 29)) := ((Below.refl _ _).alloc (Nat.le_refl _) _).alloc (by rw [s1]; omega) _
  refine ⟨hb, (ObjAt.new W 29 (cfgL c)).below ((Below.refl _ _).alloc (Nat.le_refl _) _), ?_, hc.below hb, hd.below hb⟩
  have := ObjAt.new (W.alloc (.cells #[.int .i64 c.cats, .slice c.g.a c.g.l.length c.g.cap, .slice c.r.a c.r.l.length c.r.cap, .slice c.p.a c.p.l.length c.p.cap, .slice c.n.a c.n.l.length c.n.cap, .slice c.s.a c.s.l.length c.s.cap, .int .i64 c.gate, .int .i64 c.quota] 29)) 29 (cfgL d)
  rw [s1] at this; exact this
theorem eqG3 (a b c : Int) (w : World) : Sem.run Tryd.prog (Op.equalIn 10000 58 (.agg #[.int .i64 a, .int .i64 b, .int .i64 c]) (.agg #[.int .i64 a, .int .i64 b, .int .i64 c])) w = .ok true w := by go_simp
theorem eqR3 (a b c : Int) (w : World) : Sem.run Tryd.prog (Op.equalIn 10000 60 (.agg #[.int .i64 a, .int .i64 b, .int .i64 c]) (.agg #[.int .i64 a, .int .i64 b, .int .i64 c])) w = .ok true w := by go_simp
theorem eqP2 (a b : Int) (w : World) : Sem.run Tryd.prog (Op.equalIn 10000 62 (.agg #[.int .i64 a, .int .i64 b]) (.agg #[.int .i64 a, .int .i64 b])) w = .ok true w := by go_simp
theorem eqN2 (a b : Int) (w : World) : Sem.run Tryd.prog (Op.equalIn 10000 64 (.agg #[.int .i64 a, .int .i64 b]) (.agg #[.int .i64 a, .int .i64 b])) w = .ok true w := by go_simp
theorem eqS2 (a b : Int) (w : World) : Sem.run Tryd.prog (Op.equalIn 10000 66 (.agg #[.int .i64 a, .int .i64 b]) (.agg #[.int .i64 a, .int .i64 b])) w = .ok true w := by go_simp
theorem same_any (W : World) (c d : Cv) (hc : CfgOk W c) (hd : CfgOk W d) (he : pcOf c = pcOf d) : Calls Tryd.prog 9 #[.agg #[.int .i64 c.cats, .slice c.g.a c.g.l.length c.g.cap, .slice c.r.a c.r.l.length c.r.cap, .slice c.p.a c.p.l.length c.p.cap, .slice c.n.a c.n.l.length c.n.cap, .slice c.s.a c.s.l.length c.s.cap, .int .i64 c.gate, .int .i64 c.quota], .agg #[.int .i64 d.cats, .slice d.g.a d.g.l.length d.g.cap, .slice d.r.a d.r.l.length d.r.cap, .slice d.p.a d.p.l.length d.p.cap, .slice d.n.a d.n.l.length d.n.cap, .slice d.s.a d.s.l.length d.s.cap, .int .i64 d.gate, .int .i64 d.quota]] W fun e w' => e = .returned (.bool true) ∧ Below W.heap.size W w' := by
  obtain ⟨W3, hW3⟩ : ∃ W3, W3 = (W.alloc (.cells #[.int .i64 c.cats, .slice c.g.a c.g.l.length c.g.cap, .slice c.r.a c.r.l.length c.r.cap, .slice c.p.a c.p.l.length c.p.cap, .slice c.n.a c.n.l.length c.n.cap, .slice c.s.a c.s.l.length c.s.cap, .int .i64 c.gate, .int .i64 c.quota] 29)).alloc (.cells #[.int .i64 d.cats, .slice d.g.a d.g.l.length d.g.cap, .slice d.r.a d.r.l.length d.r.cap, .slice d.p.a d.p.l.length d.p.cap, .slice d.n.a d.n.l.length d.n.cap, .slice d.s.a d.s.l.length d.s.cap, .int .i64 d.gate, .int .i64 d.quota] 29) := ⟨_, rfl⟩
  obtain ⟨b1, hb1⟩ : ∃ b, b = W.heap.size := ⟨_, rfl⟩
  obtain ⟨b2, hb2⟩ : ∃ b, b = W.heap.size + 1 := ⟨_, rfl⟩
  have HSM : Hid (SM W W3 b1 b2 c d) := by rw [hW3, hb1, hb2]; exact sm_start W c d hc hd
  have HE1 := Lib.hid hb1
  have HE2 := Lib.hid hb2
  have HW3 := Lib.hid hW3
  clear hW3 hb1 hb2 hc hd
  obtain ⟨x, ⟨a1, c1, l1⟩, ⟨a2, c2, l2⟩, ⟨a3, c3, l3⟩, ⟨a4, c4, l4⟩, ⟨a5, c5, l5⟩, y, z⟩ := c
  obtain ⟨x', ⟨a1', c1', l1'⟩, ⟨a2', c2', l2'⟩, ⟨a3', c3', l3'⟩, ⟨a4', c4', l4'⟩, ⟨a5', c5', l5'⟩, y', z'⟩ := d
  simp only [pcOf, Pc.mk.injEq] at he
  obtain ⟨rfl, rfl, rfl, rfl, rfl, rfl, rfl, rfl⟩ := he
  have m1 : l1.length ≤ 9223372036854775807 := HSM.out.cx.g.mx
  have m2 : l2.length ≤ 9223372036854775807 := HSM.out.cx.r.mx
  have m3 : l3.length ≤ 9223372036854775807 := HSM.out.cx.p.mx
  have m4 : l4.length ≤ 9223372036854775807 := HSM.out.cx.n.mx
  have m5 : l5.length ≤ 9223372036854775807 := HSM.out.cx.s.mx
  have nn1 : ((l1.length : Int) != (l1.length : Int)) = false := by simp
  have nn2 : ((l2.length : Int) != (l2.length : Int)) = false := by simp
  have nn3 : ((l3.length : Int) != (l3.length : Int)) = false := by simp
  have nn4 : ((l4.length : Int) != (l4.length : Int)) = false := by simp
  have nn5 : ((l5.length : Int) != (l5.length : Int)) = false := by simp
  have nx : (x != x) = false := by simp
  have ny : (y != y) = false := by simp
  have nz : (z != z) = false := by simp
  go_enter Tryd.func9, Tryd.ntmps9
  go_upto_region 1 with fail
  rw [← HW3.out]
  try rw [← HE2.out]
  try rw [← HE1.out]
  (have p0 := HSM.out.x.cell 0 _ rfl; have p1 := HSM.out.x.cell 1 _ rfl; have p2 := HSM.out.x.cell 2 _ rfl; have p3 := HSM.out.x.cell 3 _ rfl; have p4 := HSM.out.x.cell 4 _ rfl; have p5 := HSM.out.x.cell 5 _ rfl; have p6 := HSM.out.x.cell 6 _ rfl; have p7 := HSM.out.x.cell 7 _ rfl; have q0 := HSM.out.y.cell 0 _ rfl; have q1 := HSM.out.y.cell 1 _ rfl; have q2 := HSM.out.y.cell 2 _ rfl; have q3 := HSM.out.y.cell 3 _ rfl; have q4 := HSM.out.y.cell 4 _ rfl; have q5 := HSM.out.y.cell 5 _ rfl; have q6 := HSM.out.y.cell 6 _ rfl; have q7 := HSM.out.y.cell 7 _ rfl)
  go_upto_region 4 with fail
  go_loopw [5] (fun i wr => ∃ k : Nat, k ≤ l1.length ∧ i = .int .i64 k ∧ SM W wr b1 b2 ⟨x, ⟨a1, c1, l1⟩, ⟨a2, c2, l2⟩, ⟨a3, c3, l3⟩, ⟨a4, c4, l4⟩, ⟨a5, c5, l5⟩, y, z⟩ ⟨x, ⟨a1', c1', l1⟩, ⟨a2', c2', l2⟩, ⟨a3', c3', l3⟩, ⟨a4', c4', l4⟩, ⟨a5', c5', l5⟩, y, z⟩) (fun i _ => l1.length - (intOf i).toNat)
  case atStart => exact ⟨0, by omega, rfl, HSM.out⟩
  clear HSM p0 p1 p2 p3 p4 p5 p6 p7 q0 q1 q2 q3 q4 q5 q6 q7
  obtain ⟨k, hk, rfl, hsm⟩ := hrel
  have HSM := Lib.hid hsm
  clear hsm
  (have p0 := HSM.out.x.cell 0 _ rfl; have p1 := HSM.out.x.cell 1 _ rfl; have p2 := HSM.out.x.cell 2 _ rfl; have p3 := HSM.out.x.cell 3 _ rfl; have p4 := HSM.out.x.cell 4 _ rfl; have p5 := HSM.out.x.cell 5 _ rfl; have p6 := HSM.out.x.cell 6 _ rfl; have p7 := HSM.out.x.cell 7 _ rfl; have q0 := HSM.out.y.cell 0 _ rfl; have q1 := HSM.out.y.cell 1 _ rfl; have q2 := HSM.out.y.cell 2 _ rfl; have q3 := HSM.out.y.cell 3 _ rfl; have q4 := HSM.out.y.cell 4 _ rfl; have q5 := HSM.out.y.cell 5 _ rfl; have q6 := HSM.out.y.cell 6 _ rfl; have q7 := HSM.out.y.cell 7 _ rfl)
  by_cases hlt : k < l1.length
  case pos =>
    obtain ⟨g1, o1, ha1, hc1⟩ := HSM.out.cx.g.cells (by omega) k hlt
    obtain ⟨g2, o2, ha2, hc2⟩ := HSM.out.cy.g.cells (by omega) k hlt
    obtain ⟨r0, r1, r2, hrow⟩ := row3 hlt HSM.out.cx.g.len
    have e1 : l1.length ≤ _ := HSM.out.cx.g.le
    have e1' : l1.length ≤ _ := HSM.out.cy.g.le
    simp only at ha1 ha2 hc1 hc2 e1 e1'
    subst ha1; subst ha2
    rw [hrow] at hc1 hc2
    have u0 := hc1 _ (Below.refl _ _) 0 _ rfl; have u1 := hc1 _ (Below.refl _ _) 1 _ rfl
    have v0 := hc2 _ (Below.refl _ _) 0 _ rfl; have v1 := hc2 _ (Below.refl _ _) 1 _ rfl
    simp only [Nat.add_zero] at u0 v0
    have u2 := hc1 _ (Below.refl _ _) 2 _ rfl; have v2 := hc2 _ (Below.refl _ _) 2 _ rfl; have heq := eqG3 r0 r1 r2
    have d1 : decide ((k : Int) < (l1.length : Int)) = true := decide_eq_true (by omega)
    have d1' : decide (k < l1.length) = true := decide_eq_true hlt
    have w1 : IntKind.i64.wrap ((k : Int) + 1) = (k : Int) + 1 := by rw [IntKind.wrap_i64]; omega
    clear hc1 hc2 hrow
    go_upto_region 6 with fail
    go_region
    all_goals
      go_wp2_with fail
      go_roundw
      case rel => exact ⟨k + 1, by omega, by go_num, HSM.out.more (by first | exact (Below.refl _ _).drew | exact Below.refl _ _)⟩
      case measure => simp [intOf]; omega
  obtain rfl : k = l1.length := by omega
  have dq : decide ((l1.length : Int) < (l1.length : Int)) = false := decide_eq_false (by omega)
  go_upto_region 9 with fail
  go_loopw [6] (fun i wr => ∃ k : Nat, k ≤ l2.length ∧ i = .int .i64 k ∧ SM W wr b1 b2 ⟨x, ⟨a1, c1, l1⟩, ⟨a2, c2, l2⟩, ⟨a3, c3, l3⟩, ⟨a4, c4, l4⟩, ⟨a5, c5, l5⟩, y, z⟩ ⟨x, ⟨a1', c1', l1⟩, ⟨a2', c2', l2⟩, ⟨a3', c3', l3⟩, ⟨a4', c4', l4⟩, ⟨a5', c5', l5⟩, y, z⟩) (fun i _ => l2.length - (intOf i).toNat)
  case atStart => exact ⟨0, by omega, rfl, HSM.out⟩
  clear HSM p0 p1 p2 p3 p4 p5 p6 p7 q0 q1 q2 q3 q4 q5 q6 q7
  obtain ⟨k, hk, rfl, hsm⟩ := hrel
  have HSM := Lib.hid hsm
  clear hsm
  (have p0 := HSM.out.x.cell 0 _ rfl; have p1 := HSM.out.x.cell 1 _ rfl; have p2 := HSM.out.x.cell 2 _ rfl; have p3 := HSM.out.x.cell 3 _ rfl; have p4 := HSM.out.x.cell 4 _ rfl; have p5 := HSM.out.x.cell 5 _ rfl; have p6 := HSM.out.x.cell 6 _ rfl; have p7 := HSM.out.x.cell 7 _ rfl; have q0 := HSM.out.y.cell 0 _ rfl; have q1 := HSM.out.y.cell 1 _ rfl; have q2 := HSM.out.y.cell 2 _ rfl; have q3 := HSM.out.y.cell 3 _ rfl; have q4 := HSM.out.y.cell 4 _ rfl; have q5 := HSM.out.y.cell 5 _ rfl; have q6 := HSM.out.y.cell 6 _ rfl; have q7 := HSM.out.y.cell 7 _ rfl)
  by_cases hlt : k < l2.length
  case pos =>
    obtain ⟨g1, o1, ha1, hc1⟩ := HSM.out.cx.r.cells (by omega) k hlt
    obtain ⟨g2, o2, ha2, hc2⟩ := HSM.out.cy.r.cells (by omega) k hlt
    obtain ⟨r0, r1, r2, hrow⟩ := row3 hlt HSM.out.cx.r.len
    have e1 : l2.length ≤ _ := HSM.out.cx.r.le
    have e1' : l2.length ≤ _ := HSM.out.cy.r.le
    simp only at ha1 ha2 hc1 hc2 e1 e1'
    subst ha1; subst ha2
    rw [hrow] at hc1 hc2
    have u0 := hc1 _ (Below.refl _ _) 0 _ rfl; have u1 := hc1 _ (Below.refl _ _) 1 _ rfl
    have v0 := hc2 _ (Below.refl _ _) 0 _ rfl; have v1 := hc2 _ (Below.refl _ _) 1 _ rfl
    simp only [Nat.add_zero] at u0 v0
    have u2 := hc1 _ (Below.refl _ _) 2 _ rfl; have v2 := hc2 _ (Below.refl _ _) 2 _ rfl; have heq := eqR3 r0 r1 r2
    have d1 : decide ((k : Int) < (l2.length : Int)) = true := decide_eq_true (by omega)
    have d1' : decide (k < l2.length) = true := decide_eq_true hlt
    have w1 : IntKind.i64.wrap ((k : Int) + 1) = (k : Int) + 1 := by rw [IntKind.wrap_i64]; omega
    clear hc1 hc2 hrow
    go_upto_region 11 with fail
    go_region
    all_goals
      go_wp2_with fail
      go_roundw
      case rel => exact ⟨k + 1, by omega, by go_num, HSM.out.more (by first | exact (Below.refl _ _).drew | exact Below.refl _ _)⟩
      case measure => simp [intOf]; omega
  obtain rfl : k = l2.length := by omega
  have dq : decide ((l2.length : Int) < (l2.length : Int)) = false := decide_eq_false (by omega)
  go_upto_region 14 with fail
  go_loopw [7] (fun i wr => ∃ k : Nat, k ≤ l3.length ∧ i = .int .i64 k ∧ SM W wr b1 b2 ⟨x, ⟨a1, c1, l1⟩, ⟨a2, c2, l2⟩, ⟨a3, c3, l3⟩, ⟨a4, c4, l4⟩, ⟨a5, c5, l5⟩, y, z⟩ ⟨x, ⟨a1', c1', l1⟩, ⟨a2', c2', l2⟩, ⟨a3', c3', l3⟩, ⟨a4', c4', l4⟩, ⟨a5', c5', l5⟩, y, z⟩) (fun i _ => l3.length - (intOf i).toNat)
  case atStart => exact ⟨0, by omega, rfl, HSM.out⟩
  clear HSM p0 p1 p2 p3 p4 p5 p6 p7 q0 q1 q2 q3 q4 q5 q6 q7
  obtain ⟨k, hk, rfl, hsm⟩ := hrel
  have HSM := Lib.hid hsm
  clear hsm
  (have p0 := HSM.out.x.cell 0 _ rfl; have p1 := HSM.out.x.cell 1 _ rfl; have p2 := HSM.out.x.cell 2 _ rfl; have p3 := HSM.out.x.cell 3 _ rfl; have p4 := HSM.out.x.cell 4 _ rfl; have p5 := HSM.out.x.cell 5 _ rfl; have p6 := HSM.out.x.cell 6 _ rfl; have p7 := HSM.out.x.cell 7 _ rfl; have q0 := HSM.out.y.cell 0 _ rfl; have q1 := HSM.out.y.cell 1 _ rfl; have q2 := HSM.out.y.cell 2 _ rfl; have q3 := HSM.out.y.cell 3 _ rfl; have q4 := HSM.out.y.cell 4 _ rfl; have q5 := HSM.out.y.cell 5 _ rfl; have q6 := HSM.out.y.cell 6 _ rfl; have q7 := HSM.out.y.cell 7 _ rfl)
  by_cases hlt : k < l3.length
  case pos =>
    obtain ⟨g1, o1, ha1, hc1⟩ := HSM.out.cx.p.cells (by omega) k hlt
    obtain ⟨g2, o2, ha2, hc2⟩ := HSM.out.cy.p.cells (by omega) k hlt
    obtain ⟨r0, r1, hrow⟩ := row2 hlt HSM.out.cx.p.len
    have e1 : l3.length ≤ _ := HSM.out.cx.p.le
    have e1' : l3.length ≤ _ := HSM.out.cy.p.le
    simp only at ha1 ha2 hc1 hc2 e1 e1'
    subst ha1; subst ha2
    rw [hrow] at hc1 hc2
    have u0 := hc1 _ (Below.refl _ _) 0 _ rfl; have u1 := hc1 _ (Below.refl _ _) 1 _ rfl
    have v0 := hc2 _ (Below.refl _ _) 0 _ rfl; have v1 := hc2 _ (Below.refl _ _) 1 _ rfl
    simp only [Nat.add_zero] at u0 v0
    have heq := eqP2 r0 r1
    have d1 : decide ((k : Int) < (l3.length : Int)) = true := decide_eq_true (by omega)
    have d1' : decide (k < l3.length) = true := decide_eq_true hlt
    have w1 : IntKind.i64.wrap ((k : Int) + 1) = (k : Int) + 1 := by rw [IntKind.wrap_i64]; omega
    clear hc1 hc2 hrow
    go_upto_region 16 with fail
    go_region
    all_goals
      go_wp2_with fail
      go_roundw
      case rel => exact ⟨k + 1, by omega, by go_num, HSM.out.more (by first | exact (Below.refl _ _).drew | exact Below.refl _ _)⟩
      case measure => simp [intOf]; omega
  obtain rfl : k = l3.length := by omega
  have dq : decide ((l3.length : Int) < (l3.length : Int)) = false := decide_eq_false (by omega)
  go_upto_region 19 with fail
  go_loopw [8] (fun i wr => ∃ k : Nat, k ≤ l4.length ∧ i = .int .i64 k ∧ SM W wr b1 b2 ⟨x, ⟨a1, c1, l1⟩, ⟨a2, c2, l2⟩, ⟨a3, c3, l3⟩, ⟨a4, c4, l4⟩, ⟨a5, c5, l5⟩, y, z⟩ ⟨x, ⟨a1', c1', l1⟩, ⟨a2', c2', l2⟩, ⟨a3', c3', l3⟩, ⟨a4', c4', l4⟩, ⟨a5', c5', l5⟩, y, z⟩) (fun i _ => l4.length - (intOf i).toNat)
  case atStart => exact ⟨0, by omega, rfl, HSM.out⟩
  clear HSM p0 p1 p2 p3 p4 p5 p6 p7 q0 q1 q2 q3 q4 q5 q6 q7
  obtain ⟨k, hk, rfl, hsm⟩ := hrel
  have HSM := Lib.hid hsm
  clear hsm
  (have p0 := HSM.out.x.cell 0 _ rfl; have p1 := HSM.out.x.cell 1 _ rfl; have p2 := HSM.out.x.cell 2 _ rfl; have p3 := HSM.out.x.cell 3 _ rfl; have p4 := HSM.out.x.cell 4 _ rfl; have p5 := HSM.out.x.cell 5 _ rfl; have p6 := HSM.out.x.cell 6 _ rfl; have p7 := HSM.out.x.cell 7 _ rfl; have q0 := HSM.out.y.cell 0 _ rfl; have q1 := HSM.out.y.cell 1 _ rfl; have q2 := HSM.out.y.cell 2 _ rfl; have q3 := HSM.out.y.cell 3 _ rfl; have q4 := HSM.out.y.cell 4 _ rfl; have q5 := HSM.out.y.cell 5 _ rfl; have q6 := HSM.out.y.cell 6 _ rfl; have q7 := HSM.out.y.cell 7 _ rfl)
  by_cases hlt : k < l4.length
  case pos =>
    obtain ⟨g1, o1, ha1, hc1⟩ := HSM.out.cx.n.cells (by omega) k hlt
    obtain ⟨g2, o2, ha2, hc2⟩ := HSM.out.cy.n.cells (by omega) k hlt
    obtain ⟨r0, r1, hrow⟩ := row2 hlt HSM.out.cx.n.len
    have e1 : l4.length ≤ _ := HSM.out.cx.n.le
    have e1' : l4.length ≤ _ := HSM.out.cy.n.le
    simp only at ha1 ha2 hc1 hc2 e1 e1'
    subst ha1; subst ha2
    rw [hrow] at hc1 hc2
    have u0 := hc1 _ (Below.refl _ _) 0 _ rfl; have u1 := hc1 _ (Below.refl _ _) 1 _ rfl
    have v0 := hc2 _ (Below.refl _ _) 0 _ rfl; have v1 := hc2 _ (Below.refl _ _) 1 _ rfl
    simp only [Nat.add_zero] at u0 v0
    have heq := eqN2 r0 r1
    have d1 : decide ((k : Int) < (l4.length : Int)) = true := decide_eq_true (by omega)
    have d1' : decide (k < l4.length) = true := decide_eq_true hlt
    have w1 : IntKind.i64.wrap ((k : Int) + 1) = (k : Int) + 1 := by rw [IntKind.wrap_i64]; omega
    clear hc1 hc2 hrow
    go_upto_region 21 with fail
    go_region
    all_goals
      go_wp2_with fail
      go_roundw
      case rel => exact ⟨k + 1, by omega, by go_num, HSM.out.more (by first | exact (Below.refl _ _).drew | exact Below.refl _ _)⟩
      case measure => simp [intOf]; omega
  obtain rfl : k = l4.length := by omega
  have dq : decide ((l4.length : Int) < (l4.length : Int)) = false := decide_eq_false (by omega)
  go_upto_region 24 with fail
  go_loopw [9] (fun i wr => ∃ k : Nat, k ≤ l5.length ∧ i = .int .i64 k ∧ SM W wr b1 b2 ⟨x, ⟨a1, c1, l1⟩, ⟨a2, c2, l2⟩, ⟨a3, c3, l3⟩, ⟨a4, c4, l4⟩, ⟨a5, c5, l5⟩, y, z⟩ ⟨x, ⟨a1', c1', l1⟩, ⟨a2', c2', l2⟩, ⟨a3', c3', l3⟩, ⟨a4', c4', l4⟩, ⟨a5', c5', l5⟩, y, z⟩) (fun i _ => l5.length - (intOf i).toNat)
  case atStart => exact ⟨0, by omega, rfl, HSM.out⟩
  clear HSM p0 p1 p2 p3 p4 p5 p6 p7 q0 q1 q2 q3 q4 q5 q6 q7
  obtain ⟨k, hk, rfl, hsm⟩ := hrel
  have HSM := Lib.hid hsm
  clear hsm
  (have p0 := HSM.out.x.cell 0 _ rfl; have p1 := HSM.out.x.cell 1 _ rfl; have p2 := HSM.out.x.cell 2 _ rfl; have p3 := HSM.out.x.cell 3 _ rfl; have p4 := HSM.out.x.cell 4 _ rfl; have p5 := HSM.out.x.cell 5 _ rfl; have p6 := HSM.out.x.cell 6 _ rfl; have p7 := HSM.out.x.cell 7 _ rfl; have q0 := HSM.out.y.cell 0 _ rfl; have q1 := HSM.out.y.cell 1 _ rfl; have q2 := HSM.out.y.cell 2 _ rfl; have q3 := HSM.out.y.cell 3 _ rfl; have q4 := HSM.out.y.cell 4 _ rfl; have q5 := HSM.out.y.cell 5 _ rfl; have q6 := HSM.out.y.cell 6 _ rfl; have q7 := HSM.out.y.cell 7 _ rfl)
  by_cases hlt : k < l5.length
  case pos =>
    obtain ⟨g1, o1, ha1, hc1⟩ := HSM.out.cx.s.cells (by omega) k hlt
    obtain ⟨g2, o2, ha2, hc2⟩ := HSM.out.cy.s.cells (by omega) k hlt
    obtain ⟨r0, r1, hrow⟩ := row2 hlt HSM.out.cx.s.len
    have e1 : l5.length ≤ _ := HSM.out.cx.s.le
    have e1' : l5.length ≤ _ := HSM.out.cy.s.le
    simp only at ha1 ha2 hc1 hc2 e1 e1'
    subst ha1; subst ha2
    rw [hrow] at hc1 hc2
    have u0 := hc1 _ (Below.refl _ _) 0 _ rfl; have u1 := hc1 _ (Below.refl _ _) 1 _ rfl
    have v0 := hc2 _ (Below.refl _ _) 0 _ rfl; have v1 := hc2 _ (Below.refl _ _) 1 _ rfl
    simp only [Nat.add_zero] at u0 v0
    have heq := eqS2 r0 r1
    have d1 : decide ((k : Int) < (l5.length : Int)) = true := decide_eq_true (by omega)
    have d1' : decide (k < l5.length) = true := decide_eq_true hlt
    have w1 : IntKind.i64.wrap ((k : Int) + 1) = (k : Int) + 1 := by rw [IntKind.wrap_i64]; omega
    clear hc1 hc2 hrow
    go_upto_region 26 with fail
    go_region
    all_goals
      go_wp2_with fail
      go_roundw
      case rel => exact ⟨k + 1, by omega, by go_num, HSM.out.more (by first | exact (Below.refl _ _).drew | exact Below.refl _ _)⟩
      case measure => simp [intOf]; omega
  obtain rfl : k = l5.length := by omega
  have dq : decide ((l5.length : Int) < (l5.length : Int)) = false := decide_eq_false (by omega)
  go_wp2_with fail
  go_ret
  exact ⟨rfl, HSM.out.bel⟩
end Go.Proofs.YtoalpdjpljapbaaDoor
/- The walk of PlanWords. -/
namespace Go.Proofs.YtoalpdjpljapbaaDoor
set_option linter.unusedVariables false
set_option linter.unusedSimpArgs false
set_option linter.unnecessarySimpa false
open Go.RowKit Go.Sort
set_option maxHeartbeats 2000000
set_option maxRecDepth 100000
set_option linter.unusedVariables false
def awkT : List UInt8 := [99, 97, 116, 115, 32, 49, 10, 103, 117, 101, 115, 116, 32, 97, 32, 52, 32, 48, 10, 115, 108, 111, 116, 32, 48, 32, 53, 10]
theorem awkP : ((psV awkT).1.g.length, (psV awkT).1.gate, (psV awkT).2.1, (psV awkT).2.2) = (1, -1, 0, 0) := by decide +kernel
theorem awake_any (w : World) (hT : WdTab w) : Calls Tryd.prog 6 #[] w fun e w' => e = .returned (.bool true) ∧ Below w.heap.size w w' := by
  have HA : Hid (Calls Tryd.prog 7 #[.string ⟨#[99, 97, 116, 115, 32, 49, 10, 103, 117, 101, 115, 116, 32, 97, 32, 52, 32, 48, 10, 115, 108, 111, 116, 32, 48, 32, 53, 10]⟩] w fun e w' => ∃ c : Cv, e = .returned (.tuple #[(.agg #[.int .i64 c.cats, .slice c.g.a c.g.l.length c.g.cap, .slice c.r.a c.r.l.length c.r.cap, .slice c.p.a c.p.l.length c.p.cap, .slice c.n.a c.n.l.length c.n.cap, .slice c.s.a c.s.l.length c.s.cap, .int .i64 c.gate, .int .i64 c.quota]), .int .i64 0, .int .i64 0]) ∧ c.g.l.length = 1 ∧ c.gate = -1 ∧ Below w.heap.size w w') := by
    refine (pparse_any ⟨#[99, 97, 116, 115, 32, 49, 10, 103, 117, 101, 115, 116, 32, 97, 32, 52, 32, 48, 10, 115, 108, 111, 116, 32, 48, 32, 53, 10]⟩ (by decide) w hT).mono ?_
    rintro e w' ⟨c, h1, _, h3, h4⟩
    have hp := awkP
    rw [Prod.mk.injEq, Prod.mk.injEq, Prod.mk.injEq] at hp
    obtain ⟨p1, p2, p3, p4⟩ := hp
    have e0 : (⟨#[99, 97, 116, 115, 32, 49, 10, 103, 117, 101, 115, 116, 32, 97, 32, 52, 32, 48, 10, 115, 108, 111, 116, 32, 48, 32, 53, 10]⟩ : ByteArray).data.toList = awkT := rfl
    rw [e0] at h1 h3
    rw [p3, p4] at h1
    rw [← h3] at p1 p2
    exact ⟨c, h1, p1, p2, h4⟩
  clear hT
  go_enter Tryd.func6, Tryd.ntmps6
  go_wp2_with fail
  refine HA.out.mono ?_; rintro e w1 ⟨c, rfl, hl, hg, hb⟩
  have HB := Lib.hid hb
  rw [hl, hg]
  clear hb hl hg
  go_wp2_with fail
  go_ret
  exact ⟨rfl, HB.out.alloc HB.out.size _⟩
theorem texts_same (l : List (List UInt8)) (a1 a2 : Option Addr) (c1 c2 : Nat) (w : World) (h1 : RdW w a1 c1 l) (h2 : RdW w a2 c2 l) :
    Calls Tryd.prog 12 #[.slice a1 l.length c1, .slice a2 l.length c2] w fun e w' => e = .returned (.bool true) ∧ Below w.heap.size w w' := by
  have hm : l.length ≤ 9223372036854775807 := Nat.le_trans h1.le h1.mx
  have H1 := Lib.hid h1
  have H2 := Lib.hid h2
  have nn : ((l.length : Int) != (l.length : Int)) = false := by simp
  clear h1 h2
  go_enter Tryd.func12, Tryd.ntmps12
  go_wp2_with fail
  go_loopw [5] (fun i wr => ∃ k : Nat, k ≤ l.length ∧ i = .int .i64 k ∧ Below w.heap.size w wr) (fun i _ => l.length - (intOf i).toNat)
  case atStart => exact ⟨0, by omega, rfl, Below.refl _ _⟩
  case round =>
    obtain ⟨k, hk, rfl, hbe⟩ := hrel
    have HBE := Lib.hid hbe
    clear hbe
    by_cases hlt : k < l.length
    · obtain ⟨g1, o1, rfl, hg1, hc1⟩ := H1.out.at_ k hlt
      obtain ⟨g2, o2, rfl, hg2, hc2⟩ := H2.out.at_ k hlt
      obtain ⟨x, hx⟩ : ∃ x, x = ba l[k] := ⟨_, rfl⟩
      have n1 : wr.cell? ⟨g1, o1 + k, none⟩ = some (.string x) := by rw [HBE.out.cell (p := ⟨g1, o1 + k, none⟩) hg1, hc1 k hlt, hx]
      have n2 : wr.cell? ⟨g2, o2 + k, none⟩ = some (.string x) := by rw [HBE.out.cell (p := ⟨g2, o2 + k, none⟩) hg2, hc2 k hlt, hx]
      have d1 : decide ((k : Int) < (l.length : Int)) = true := decide_eq_true (by omega)
      have d1' : decide (k < l.length) = true := decide_eq_true hlt
      have w1 : IntKind.i64.wrap ((k : Int) + 1) = (k : Int) + 1 := by rw [IntKind.wrap_i64]; omega
      have nx : (x.toList != x.toList) = false := by simp
      have le1 : l.length ≤ c1 := H1.out.le
      have le2 : l.length ≤ c2 := H2.out.le
      clear hc1 hc2 hx
      go_wp2_with fail
      go_region
      all_goals
        go_wp2_with fail
        go_roundw
        case rel => exact ⟨k + 1, by omega, by go_num, HBE.out.drew⟩
        case measure => simp [intOf]; omega
    · obtain rfl : k = l.length := by omega
      have d1 : decide ((l.length : Int) < (l.length : Int)) = false := decide_eq_false (by omega)
      go_wp2_with fail
      go_ret
      exact ⟨rfl, HBE.out⟩
def spL (s : List UInt8) : List (List UInt8) := if wordsB s then fieldsC 32 s else []
theorem rdW_nil (w : World) : RdW w none 0 [] := own_rdW (Own.nil w w.heap.size 9 1)
theorem split_uni {s : List UInt8} {w w' : World} {e : Ending} (h : SplitPost s w e w') : ∃ a cap, e = .returned (.tuple #[.slice a (spL s).length cap, .bool (wordsB s)]) ∧ RdW w' a cap (spL s) ∧ Below w.heap.size w w' := by
  unfold spL
  cases hw : wordsB s
  · exact ⟨none, 0, by rw [h.2.1 hw]; rfl, rdW_nil w', h.2.2⟩
  · obtain ⟨a, cap, h1, h2⟩ := h.1 hw
    exact ⟨a, cap, by rw [h1]; rfl, by simpa using h2, h.2.2⟩
def lnsL (s : List UInt8) : List (List UInt8) := if lsB s then lsL s else []
theorem lines_uni {s : List UInt8} {w w' : World} {e : Ending} (h : LsPost s w e w') : ∃ a cap, e = .returned (.tuple #[.slice a (lnsL s).length cap, .bool (lsB s)]) ∧ RdW w' a cap (lnsL s) ∧ Below w.heap.size w w' := by
  unfold lnsL
  cases hw : lsB s
  · exact ⟨none, 0, by rw [h.2.1 hw]; rfl, rdW_nil w', h.2.2⟩
  · obtain ⟨a, cap, h1, h2⟩ := h.1 hw
    exact ⟨a, cap, by rw [h1]; rfl, by simpa using h2, h.2.2⟩
theorem words_walk (s : ByteArray) (w : World) (hs : s.size ≤ maxLen) (hT : WdTab w) : Calls Tryd.prog 4 #[.string s] w fun e w' => e = .returned (.bool true) ∧ Below w.heap.size w w' := by
  have HAW : Hid (∀ W, Below w.heap.size w W → Calls Tryd.prog 6 #[] W fun e w' => e = .returned (.bool true) ∧ Below W.heap.size W w') := fun W h => awake_any W (hT.below h)
  clear hT
  by_cases h2 : 2000 < s.size
  · have d1 : decide ((s.size : Int) > 2000) = true := decide_eq_true (by omega)
    have d1' : decide (2000 < s.size) = true := decide_eq_true h2
    clear h2
    go_enter Tryd.func4, Tryd.ntmps4
    go_wp2_with (go_at_call 6; refine (HAW.out _ (Below.refl _ _)).mono ?_; rintro e w3 ⟨rfl, hb3⟩)
    go_ret
    exact ⟨rfl, hb3⟩
  · have d1 : decide ((s.size : Int) > 2000) = false := decide_eq_false (by omega)
    have d1' : decide (2000 < s.size) = false := decide_eq_false h2
    have HS1 := fun W => Lib.hid (split_any s (by omega) W)
    have HS2 := fun W => Lib.hid (rsplit_any s (by omega) W)
    have HN1 := fun W => Lib.hid (number_any s hs W)
    have HN2 := fun W => Lib.hid (rnumber_any s hs W)
    have HL1 := fun W => Lib.hid (lines_any s (by omega) W)
    have HL2 := fun W => Lib.hid (rlines_any s (by omega) W)
    obtain ⟨t, ht⟩ : ∃ t, t = s.data.toList := ⟨_, rfl⟩
    rw [← ht] at HS1 HS2 HN1 HN2 HL1 HL2
    obtain ⟨S, hS⟩ : ∃ S, Hid (S = spL t) := ⟨_, Lib.hid rfl⟩
    obtain ⟨L, hL⟩ : ∃ L, Hid (L = lnsL t) := ⟨_, Lib.hid rfl⟩
    obtain ⟨sb, hsb⟩ : ∃ S, Hid (S = wordsB t) := ⟨_, Lib.hid rfl⟩
    obtain ⟨lb, hlb⟩ : ∃ L, Hid (L = lsB t) := ⟨_, Lib.hid rfl⟩
    obtain ⟨n, hn⟩ : ∃ S, Hid (S = numI t) := ⟨_, Lib.hid rfl⟩
    obtain ⟨b, hb⟩ : ∃ L, Hid (L = numB t) := ⟨_, Lib.hid rfl⟩
    rw [← hn.out, ← hb.out] at HN1 HN2
    have HSU : Hid (∀ W e w', SplitPost t W e w' → ∃ a cap, e = .returned (.tuple #[.slice a S.length cap, .bool sb]) ∧ RdW w' a cap S ∧ Below W.heap.size W w') := fun W e w' h => by rw [hS.out, hsb.out]; exact split_uni h
    have HLU : Hid (∀ W e w', LsPost t W e w' → ∃ a cap, e = .returned (.tuple #[.slice a L.length cap, .bool lb]) ∧ RdW w' a cap L ∧ Below W.heap.size W w') := fun W e w' h => by rw [hL.out, hlb.out]; exact lines_uni h
    have sbn : (sb != sb) = false := by simp
    have lbn : (lb == lb) = true := by simp
    have bn : (b != b) = false := by simp
    have nn : ((n : Int) != (n : Int)) = false := by simp
    clear h2 ht
    go_enter Tryd.func4, Tryd.ntmps4
    go_wp2_with fail
    refine ((HS1 _).out).mono ?_; intro e w1 h1
    obtain ⟨a1, c1, rfl, r1, b1⟩ := HSU.out _ _ _ h1
    have HB1 := Lib.hid b1
    have HR1 := Lib.hid r1
    clear h1 b1 r1
    go_wp2_with fail
    refine ((HS2 _).out).mono ?_; intro e w2 h2
    obtain ⟨a2, c2, rfl, r2, b2⟩ := HSU.out _ _ _ h2
    have HB2 := Lib.hid (bmore HB1.out b2)
    have HR2 := Lib.hid r2
    have HR1 := Lib.hid (HR1.out.below b2)
    clear h2 b2 r2
    go_wp2_with (go_at_call 12; refine (texts_same _ _ _ _ _ _ HR1.out HR2.out).mono ?_; rintro e w3 ⟨rfl, b3⟩; have HB3 := Lib.hid (bmore HB2.out b3); clear b3)
    refine ((HN1 _).out).mono ?_; rintro e w4 ⟨rfl, b4⟩
    have HB4 := Lib.hid (bmore HB3.out b4)
    clear b4
    go_wp2_with fail
    refine ((HN2 _).out).mono ?_; rintro e w5 ⟨rfl, rfl⟩
    go_wp2_with fail
    refine ((HL1 _).out).mono ?_; intro e w6 h6
    obtain ⟨a6, c6, rfl, r6, b6⟩ := HLU.out _ _ _ h6
    have HB6 := Lib.hid (bmore HB4.out b6)
    have HR6 := Lib.hid r6
    clear h6 b6 r6
    go_wp2_with fail
    refine ((HL2 _).out).mono ?_; intro e w7 h7
    obtain ⟨a7, c7, rfl, r7, b7⟩ := HLU.out _ _ _ h7
    have HB7 := Lib.hid (bmore HB6.out b7)
    have HR7 := Lib.hid r7
    have HR6 := Lib.hid (HR6.out.below b7)
    clear h7 b7 r7
    go_wp2_with (first | (go_at_call 12; refine (texts_same _ _ _ _ _ _ HR6.out HR7.out).mono ?_; rintro e w8 ⟨rfl, b8⟩; have HB8 := Lib.hid (bmore HB7.out b8); clear b8) | (go_at_call 6; refine (HAW.out _ HB8.out).mono ?_; rintro e w9 ⟨rfl, b9⟩; have HB9 := Lib.hid (bmore HB8.out b9); clear b9))
    go_ret
    exact ⟨rfl, HB9.out⟩
end Go.Proofs.YtoalpdjpljapbaaDoor
/- The walk of PlanBack. -/
namespace Go.Proofs.YtoalpdjpljapbaaDoor
set_option linter.unusedVariables false
set_option linter.unusedSimpArgs false
set_option linter.unnecessarySimpa false
open Go.RowKit Go.Sort
set_option maxHeartbeats 4000000
set_option maxRecDepth 100000
set_option linter.unusedVariables false
theorem len_of {W : World} {c : Cv} (h : CfgOk W c) : LenOk (pcOf c) := ⟨h.g.len, h.r.len, h.p.len, h.n.len, h.s.len⟩
theorem ba_self (s : ByteArray) : ba s.data.toList = s := by
  unfold ba
  apply ByteArray.ext
  simp
theorem back_walk (c : Cv) (s : ByteArray) (w : World) (h : CfgOk w c) (hs : s.size ≤ maxLen) (hT : WdTab w) (hP : PowIs w) : Calls Tryd.prog 5 #[(.agg #[.int .i64 c.cats, .slice c.g.a c.g.l.length c.g.cap, .slice c.r.a c.r.l.length c.r.cap, .slice c.p.a c.p.l.length c.p.cap, .slice c.n.a c.n.l.length c.n.cap, .slice c.s.a c.s.l.length c.s.cap, .int .i64 c.gate, .int .i64 c.quota]), .string s] w fun e w' => e = .returned (.bool true) ∧ Below w.heap.size w w' := by
  have HAW : Hid (∀ W, Below w.heap.size w W → Calls Tryd.prog 6 #[] W fun e w' => e = .returned (.bool true) ∧ Below W.heap.size W w') := fun W h => awake_any W (hT.below h)
  have HPT : Hid (∀ (s : ByteArray), s.size ≤ maxLen → ∀ W, Below w.heap.size w W → Calls Tryd.prog 7 #[.string s] W (PsPost s.data.toList W)) := fun s hs W hb => pparse_any s hs W (hT.below hb)
  have HPW := Lib.hid hP
  obtain ⟨t, ht⟩ : ∃ t, t = s.data.toList := ⟨_, rfl⟩
  have HP1 : Hid (∀ W, Below w.heap.size w W → Calls Tryd.prog 7 #[.string s] W (PsPost t W)) := fun W hb => by rw [ht]; exact HPT.out s hs W hb
  obtain ⟨ev, hev⟩ : ∃ v, Hid (v = (psV t).2.1) := ⟨_, Lib.hid rfl⟩
  obtain ⟨av, hav⟩ : ∃ v, Hid (v = (psV t).2.2) := ⟨_, Lib.hid rfl⟩
  obtain ⟨pv, hpv⟩ : ∃ v, Hid (v = (psV t).1) := ⟨_, Lib.hid rfl⟩
  have HPU : Hid (∀ W e w', PsPost t W e w' → ∃ c : Cv, e = .returned (.tuple #[.agg #[.int .i64 c.cats, .slice c.g.a c.g.l.length c.g.cap, .slice c.r.a c.r.l.length c.r.cap, .slice c.p.a c.p.l.length c.p.cap, .slice c.n.a c.n.l.length c.n.cap, .slice c.s.a c.s.l.length c.s.cap, .int .i64 c.gate, .int .i64 c.quota], .int .i64 ev, .int .i64 av]) ∧ CfgOk w' c ∧ pcOf c = pv ∧ Below W.heap.size W w') := fun W e w' h => by rw [hev.out, hav.out, hpv.out]; exact h
  have HZ0 : Hid (ev = 0 → chkP pv = 0 ∧ ba (prT pv) = s) := fun e => by
    have := ps_back (s := t) (by rw [← hev.out]; exact e)
    rw [← hpv.out] at this
    exact ⟨this.1, by rw [this.2, ht, ba_self]⟩
  have HZN : Hid (ev ≠ 0 → pv = pcZ) := fun e => by rw [hpv.out]; exact ps_zero_of (by rw [← hev.out]; exact e)
  obtain ⟨e0, he0⟩ : ∃ v, Hid (v = (chkV c).1) := ⟨_, Lib.hid rfl⟩
  obtain ⟨e1, he1⟩ : ∃ v, Hid (v = (chkV c).2) := ⟨_, Lib.hid rfl⟩
  have CHK : Hid (∀ W, CfgOk W c → Calls Tryd.prog 18 #[(.agg #[.int .i64 c.cats, .slice c.g.a c.g.l.length c.g.cap, .slice c.r.a c.r.l.length c.r.cap, .slice c.p.a c.p.l.length c.p.cap, .slice c.n.a c.n.l.length c.n.cap, .slice c.s.a c.s.l.length c.s.cap, .int .i64 c.gate, .int .i64 c.quota])] W fun e w' => e = .returned (.tuple #[.int .i64 e0, .int .i64 e1]) ∧ Below W.heap.size W w') := fun W hc => by rw [he0.out, he1.out]; exact check_any c W hc
  have en : (e0 != e0) = false := by simp
  by_cases hz : e0 = 0
  · have HC0 : Hid ((chkV c).1 = 0) := by rw [Hid, ← he0.out]; exact hz
    obtain ⟨q, hq⟩ : ∃ q, q = prT (pcOf c) := ⟨_, rfl⟩
    have HPR : Hid (∀ W, Below w.heap.size w W → CfgOk W c → Calls Tryd.prog 17 #[(.agg #[.int .i64 c.cats, .slice c.g.a c.g.l.length c.g.cap, .slice c.r.a c.r.l.length c.r.cap, .slice c.p.a c.p.l.length c.p.cap, .slice c.n.a c.n.l.length c.n.cap, .slice c.s.a c.s.l.length c.s.cap, .int .i64 c.gate, .int .i64 c.quota])] W fun e w' => e = .returned (.tuple #[.string (ba q), .int .i64 0]) ∧ Below W.heap.size W w') := fun W hb hc => (pprint_any c W hc (hP.below hb)).mono fun e w' h => ⟨by rw [hq]; exact h.2.1 HC0.out, h.2.2⟩
    have hpq := ps_there (c := pcOf c) (by rw [← chkP_of]; exact HC0.out) (fit_of HC0.out) (len_of h)
    have HPQ : Hid (∀ W, Below w.heap.size w W → Calls Tryd.prog 7 #[.string (ba q)] W fun e w' => ∃ d : Cv, e = .returned (.tuple #[.agg #[.int .i64 d.cats, .slice d.g.a d.g.l.length d.g.cap, .slice d.r.a d.r.l.length d.r.cap, .slice d.p.a d.p.l.length d.p.cap, .slice d.n.a d.n.l.length d.n.cap, .slice d.s.a d.s.l.length d.s.cap, .int .i64 d.gate, .int .i64 d.quota], .int .i64 0, .int .i64 0]) ∧ CfgOk w' d ∧ pcOf d = pcOf c ∧ Below W.heap.size W w') := fun W hb => by
      have hsz : (ba q).size ≤ maxLen := by
        rw [ba_size]
        by_cases hl : 16384 < q.length
        · rw [← hq, psV_long hl] at hpq
          injection hpq with _ h2; injection h2 with h2; cases h2
        · unfold maxLen; omega
      refine (HPT.out (ba q) hsz W hb).mono ?_
      rintro e w' ⟨d, h1, h2, h3, h4⟩
      rw [ba_data, hq, hpq] at h1 h3
      exact ⟨d, h1, h2, h3, h4⟩
    subst hz
    clear ht hT hP hev hav hpv he0 he1 hq hpq hs HPT
    (have h0 := CX.new h; go_enter Tryd.func5, Tryd.ntmps5; go_upto_region 1 with fail; generalize w.alloc (.cells #[.int .i64 c.cats, .slice c.g.a c.g.l.length c.g.cap, .slice c.r.a c.r.l.length c.r.cap, .slice c.p.a c.p.l.length c.p.cap, .slice c.n.a c.n.l.length c.n.cap, .slice c.s.a c.s.l.length c.s.cap, .int .i64 c.gate, .int .i64 c.quota] 29) = W1 at h0 ⊢; generalize w.heap.size = b0 at h0 ⊢; have H0 := Lib.hid h0; clear h0 h)
    (have q0 := H0.out.ob.cell 0 _ rfl; have q1 := H0.out.ob.cell 1 _ rfl; have q2 := H0.out.ob.cell 2 _ rfl; have q3 := H0.out.ob.cell 3 _ rfl; have q4 := H0.out.ob.cell 4 _ rfl; have q5 := H0.out.ob.cell 5 _ rfl; have q6 := H0.out.ob.cell 6 _ rfl; have q7 := H0.out.ob.cell 7 _ rfl)
    go_wp2_with fail
    refine (HPR.out _ H0.out.bel H0.out.ok).mono ?_; rintro e Wa ⟨rfl, hba⟩
    have H1 := Lib.hid (H0.out.below hba)
    clear hba q0 q1 q2 q3 q4 q5 q6 q7
    (have q0 := H1.out.ob.cell 0 _ rfl; have q1 := H1.out.ob.cell 1 _ rfl; have q2 := H1.out.ob.cell 2 _ rfl; have q3 := H1.out.ob.cell 3 _ rfl; have q4 := H1.out.ob.cell 4 _ rfl; have q5 := H1.out.ob.cell 5 _ rfl; have q6 := H1.out.ob.cell 6 _ rfl; have q7 := H1.out.ob.cell 7 _ rfl)
    go_wp2_with fail
    refine (CHK.out _ H1.out.ok).mono ?_; rintro e Wb ⟨rfl, hbb⟩
    have H2 := Lib.hid (H1.out.below hbb)
    clear hbb q0 q1 q2 q3 q4 q5 q6 q7
    (have q0 := H2.out.ob.cell 0 _ rfl; have q1 := H2.out.ob.cell 1 _ rfl; have q2 := H2.out.ob.cell 2 _ rfl; have q3 := H2.out.ob.cell 3 _ rfl; have q4 := H2.out.ob.cell 4 _ rfl; have q5 := H2.out.ob.cell 5 _ rfl; have q6 := H2.out.ob.cell 6 _ rfl; have q7 := H2.out.ob.cell 7 _ rfl)
    go_wp2_with fail
    refine (HPQ.out _ H2.out.bel).mono ?_; rintro e wc ⟨d, rfl, okd, pd, bd⟩
    obtain ⟨Wc, hWc⟩ : ∃ Wc, Wc = wc.alloc (.cells #[.int .i64 d.cats, .slice d.g.a d.g.l.length d.g.cap, .slice d.r.a d.r.l.length d.r.cap, .slice d.p.a d.p.l.length d.p.cap, .slice d.n.a d.n.l.length d.n.cap, .slice d.s.a d.s.l.length d.s.cap, .int .i64 d.gate, .int .i64 d.quota] 29) := ⟨_, rfl⟩
    have hbWc : Below wc.heap.size wc Wc := by rw [hWc]; exact ((Below.refl _ _).alloc (Nat.le_refl _) _)
    have HXc : Hid (ObjAt Wc wc.heap.size 29 (cfgL d)) := by rw [hWc]; exact ObjAt.new wc _ _
    have H3 := Lib.hid (H2.out.below (bmore bd hbWc))
    have HOKd := Lib.hid (okd.below hbWc)
    have HPD := Lib.hid pd
    have HWc := Lib.hid hWc
    clear okd pd bd hbWc hWc q0 q1 q2 q3 q4 q5 q6 q7
    go_upto_region 7 with fail
    rw [← HWc.out]
    generalize wc.heap.size = xc at HXc ⊢
    (have q0 := H3.out.ob.cell 0 _ rfl; have q1 := H3.out.ob.cell 1 _ rfl; have q2 := H3.out.ob.cell 2 _ rfl; have q3 := H3.out.ob.cell 3 _ rfl; have q4 := H3.out.ob.cell 4 _ rfl; have q5 := H3.out.ob.cell 5 _ rfl; have q6 := H3.out.ob.cell 6 _ rfl; have q7 := H3.out.ob.cell 7 _ rfl)
    (have z0 := (HXc.out).cell 0 _ rfl; have z1 := (HXc.out).cell 1 _ rfl; have z2 := (HXc.out).cell 2 _ rfl; have z3 := (HXc.out).cell 3 _ rfl; have z4 := (HXc.out).cell 4 _ rfl; have z5 := (HXc.out).cell 5 _ rfl; have z6 := (HXc.out).cell 6 _ rfl; have z7 := (HXc.out).cell 7 _ rfl)
    have HSA := Lib.hid (same_any Wc c d H3.out.ok HOKd.out HPD.out.symm)
    go_upto_region 9 with (go_at_call 9; refine HSA.out.mono ?_; rintro e WL ⟨rfl, b8⟩; have HBL := Lib.hid (bmore H3.out.bel b8); clear b8; clear q0 q1 q2 q3 q4 q5 q6 q7 z0 z1 z2 z3 z4 z5 z6 z7)
    go_upto_region 9 with fail
    go_wp2_with fail
    refine ((HP1.out _ HBL.out)).mono ?_; intro e w1 h1
    obtain ⟨d, rfl, ok1, p1, b1⟩ := HPU.out _ _ _ h1
    obtain ⟨W1, hW1⟩ : ∃ W1, W1 = w1.alloc (.cells #[.int .i64 d.cats, .slice d.g.a d.g.l.length d.g.cap, .slice d.r.a d.r.l.length d.r.cap, .slice d.p.a d.p.l.length d.p.cap, .slice d.n.a d.n.l.length d.n.cap, .slice d.s.a d.s.l.length d.s.cap, .int .i64 d.gate, .int .i64 d.quota] 29) := ⟨_, rfl⟩
    have hbW1 : Below w1.heap.size w1 W1 := by rw [hW1]; exact ((Below.refl _ _).alloc (Nat.le_refl _) _)
    have HX1 : Hid (ObjAt W1 w1.heap.size 29 (cfgL d)) := by rw [hW1]; exact ObjAt.new w1 _ _
    have HB1 := Lib.hid (bmore (bmore HBL.out b1) hbW1)
    have HOK1 := Lib.hid (ok1.below hbW1)
    have HPC1 := Lib.hid p1
    have HW1 := Lib.hid hW1
    clear h1 ok1 p1 b1 hbW1 hW1 HP1
    go_upto_region 10 with fail
    rw [← HW1.out]
    generalize w1.heap.size = x1 at HX1 ⊢
    (have p0 := (HX1.out).cell 0 _ rfl; have p1 := (HX1.out).cell 1 _ rfl; have p2 := (HX1.out).cell 2 _ rfl; have p3 := (HX1.out).cell 3 _ rfl; have p4 := (HX1.out).cell 4 _ rfl; have p5 := (HX1.out).cell 5 _ rfl; have p6 := (HX1.out).cell 6 _ rfl; have p7 := (HX1.out).cell 7 _ rfl)
    by_cases hz : ev = 0
    · subst hz
      have HCK := Lib.hid (HZ0.out rfl)
      have HCD : Hid ((chkV d).1 = 0) := by rw [Hid, chkP_of, HPC1.out]; exact HCK.out.1
      have HPR : Hid (∀ W, Below w.heap.size w W → CfgOk W d → Calls Tryd.prog 17 #[.agg #[.int .i64 d.cats, .slice d.g.a d.g.l.length d.g.cap, .slice d.r.a d.r.l.length d.r.cap, .slice d.p.a d.p.l.length d.p.cap, .slice d.n.a d.n.l.length d.n.cap, .slice d.s.a d.s.l.length d.s.cap, .int .i64 d.gate, .int .i64 d.quota]] W fun e w' => e = .returned (.tuple #[.string s, .int .i64 0]) ∧ Below W.heap.size W w') := fun W hb hc => (pprint_any d W hc (HPW.out.below hb)).mono fun e w' h => by
        have := h.2.1 HCD.out
        rw [HPC1.out, HCK.out.2] at this
        exact ⟨this, h.2.2⟩
      go_wp2_with (first | (go_at_call 17; refine (HPR.out _ HB1.out HOK1.out).mono ?_; rintro e w8 ⟨rfl, b8⟩; have HB8 := Lib.hid (bmore HB1.out b8); clear b8) | (go_at_call 6; refine (HAW.out _ HB8.out).mono ?_; rintro e w9 ⟨rfl, b9⟩; have HB9 := Lib.hid (bmore HB8.out b9); clear b9))
      go_ret
      exact ⟨rfl, HB9.out⟩
    · have n1 : (ev == 0) = false := by rw [beq_eq_false_iff_ne]; exact hz
      have n2 : (ev != 0) = true := by rw [bne_iff_ne]; exact hz
      have HPZ : Hid (pv = pcZ) := HZN.out hz
      have HSZ : Hid (∀ W, CfgOk W d → Calls Tryd.prog 9 #[.agg #[.int .i64 d.cats, .slice d.g.a d.g.l.length d.g.cap, .slice d.r.a d.r.l.length d.r.cap, .slice d.p.a d.p.l.length d.p.cap, .slice d.n.a d.n.l.length d.n.cap, .slice d.s.a d.s.l.length d.s.cap, .int .i64 d.gate, .int .i64 d.quota], .agg #[.int .i64 0, .slice none 0 0, .slice none 0 0, .slice none 0 0, .slice none 0 0, .slice none 0 0, .int .i64 0, .int .i64 0]] W fun e w' => e = .returned (.bool true) ∧ Below W.heap.size W w') := fun W hd => same_any W d cvZ hd (cvZ_ok W) (by rw [HPC1.out, HPZ.out]; rfl)
      clear hz
      go_wp2_with (first | (go_at_call 9; refine (HSZ.out _ HOK1.out).mono ?_; rintro e w8 ⟨rfl, b8⟩; have HB8 := Lib.hid (bmore HB1.out b8); clear b8) | (go_at_call 6; refine (HAW.out _ HB8.out).mono ?_; rintro e w9 ⟨rfl, b9⟩; have HB9 := Lib.hid (bmore HB8.out b9); clear b9))
      go_ret
      exact ⟨rfl, HB9.out⟩
  · have HPR : Hid (∀ W, Below w.heap.size w W → CfgOk W c → Calls Tryd.prog 17 #[(.agg #[.int .i64 c.cats, .slice c.g.a c.g.l.length c.g.cap, .slice c.r.a c.r.l.length c.r.cap, .slice c.p.a c.p.l.length c.p.cap, .slice c.n.a c.n.l.length c.n.cap, .slice c.s.a c.s.l.length c.s.cap, .int .i64 c.gate, .int .i64 c.quota])] W fun e w' => e = .returned (.tuple #[.string ⟨#[]⟩, .int .i64 e0]) ∧ Below W.heap.size W w') := fun W hb hc => (pprint_any c W hc (hP.below hb)).mono fun e w' h => ⟨by rw [he0.out]; exact h.1 (by rw [← he0.out]; exact hz), h.2.2⟩
    have m1 : (e0 == 0) = false := by rw [beq_eq_false_iff_ne]; exact hz
    have m2 : (e0 != 0) = true := by rw [bne_iff_ne]; exact hz
    clear ht hT hP hev hav hpv he0 he1 hs HPT hz
    (have h0 := CX.new h; go_enter Tryd.func5, Tryd.ntmps5; go_upto_region 1 with fail; generalize w.alloc (.cells #[.int .i64 c.cats, .slice c.g.a c.g.l.length c.g.cap, .slice c.r.a c.r.l.length c.r.cap, .slice c.p.a c.p.l.length c.p.cap, .slice c.n.a c.n.l.length c.n.cap, .slice c.s.a c.s.l.length c.s.cap, .int .i64 c.gate, .int .i64 c.quota] 29) = W1 at h0 ⊢; generalize w.heap.size = b0 at h0 ⊢; have H0 := Lib.hid h0; clear h0 h)
    (have q0 := H0.out.ob.cell 0 _ rfl; have q1 := H0.out.ob.cell 1 _ rfl; have q2 := H0.out.ob.cell 2 _ rfl; have q3 := H0.out.ob.cell 3 _ rfl; have q4 := H0.out.ob.cell 4 _ rfl; have q5 := H0.out.ob.cell 5 _ rfl; have q6 := H0.out.ob.cell 6 _ rfl; have q7 := H0.out.ob.cell 7 _ rfl)
    go_wp2_with fail
    refine (HPR.out _ H0.out.bel H0.out.ok).mono ?_; rintro e Wa ⟨rfl, hba⟩
    have H1 := Lib.hid (H0.out.below hba)
    clear hba q0 q1 q2 q3 q4 q5 q6 q7
    (have q0 := H1.out.ob.cell 0 _ rfl; have q1 := H1.out.ob.cell 1 _ rfl; have q2 := H1.out.ob.cell 2 _ rfl; have q3 := H1.out.ob.cell 3 _ rfl; have q4 := H1.out.ob.cell 4 _ rfl; have q5 := H1.out.ob.cell 5 _ rfl; have q6 := H1.out.ob.cell 6 _ rfl; have q7 := H1.out.ob.cell 7 _ rfl)
    go_wp2_with fail
    refine (CHK.out _ H1.out.ok).mono ?_; rintro e WL ⟨rfl, hbb⟩
    have HBL := Lib.hid (bmore H1.out.bel hbb)
    clear hbb q0 q1 q2 q3 q4 q5 q6 q7
    go_upto_region 9 with fail
    go_wp2_with fail
    refine ((HP1.out _ HBL.out)).mono ?_; intro e w1 h1
    obtain ⟨d, rfl, ok1, p1, b1⟩ := HPU.out _ _ _ h1
    obtain ⟨W1, hW1⟩ : ∃ W1, W1 = w1.alloc (.cells #[.int .i64 d.cats, .slice d.g.a d.g.l.length d.g.cap, .slice d.r.a d.r.l.length d.r.cap, .slice d.p.a d.p.l.length d.p.cap, .slice d.n.a d.n.l.length d.n.cap, .slice d.s.a d.s.l.length d.s.cap, .int .i64 d.gate, .int .i64 d.quota] 29) := ⟨_, rfl⟩
    have hbW1 : Below w1.heap.size w1 W1 := by rw [hW1]; exact ((Below.refl _ _).alloc (Nat.le_refl _) _)
    have HX1 : Hid (ObjAt W1 w1.heap.size 29 (cfgL d)) := by rw [hW1]; exact ObjAt.new w1 _ _
    have HB1 := Lib.hid (bmore (bmore HBL.out b1) hbW1)
    have HOK1 := Lib.hid (ok1.below hbW1)
    have HPC1 := Lib.hid p1
    have HW1 := Lib.hid hW1
    clear h1 ok1 p1 b1 hbW1 hW1 HP1
    go_upto_region 10 with fail
    rw [← HW1.out]
    generalize w1.heap.size = x1 at HX1 ⊢
    (have p0 := (HX1.out).cell 0 _ rfl; have p1 := (HX1.out).cell 1 _ rfl; have p2 := (HX1.out).cell 2 _ rfl; have p3 := (HX1.out).cell 3 _ rfl; have p4 := (HX1.out).cell 4 _ rfl; have p5 := (HX1.out).cell 5 _ rfl; have p6 := (HX1.out).cell 6 _ rfl; have p7 := (HX1.out).cell 7 _ rfl)
    by_cases hz : ev = 0
    · subst hz
      have HCK := Lib.hid (HZ0.out rfl)
      have HCD : Hid ((chkV d).1 = 0) := by rw [Hid, chkP_of, HPC1.out]; exact HCK.out.1
      have HPR : Hid (∀ W, Below w.heap.size w W → CfgOk W d → Calls Tryd.prog 17 #[.agg #[.int .i64 d.cats, .slice d.g.a d.g.l.length d.g.cap, .slice d.r.a d.r.l.length d.r.cap, .slice d.p.a d.p.l.length d.p.cap, .slice d.n.a d.n.l.length d.n.cap, .slice d.s.a d.s.l.length d.s.cap, .int .i64 d.gate, .int .i64 d.quota]] W fun e w' => e = .returned (.tuple #[.string s, .int .i64 0]) ∧ Below W.heap.size W w') := fun W hb hc => (pprint_any d W hc (HPW.out.below hb)).mono fun e w' h => by
        have := h.2.1 HCD.out
        rw [HPC1.out, HCK.out.2] at this
        exact ⟨this, h.2.2⟩
      go_wp2_with (first | (go_at_call 17; refine (HPR.out _ HB1.out HOK1.out).mono ?_; rintro e w8 ⟨rfl, b8⟩; have HB8 := Lib.hid (bmore HB1.out b8); clear b8) | (go_at_call 6; refine (HAW.out _ HB8.out).mono ?_; rintro e w9 ⟨rfl, b9⟩; have HB9 := Lib.hid (bmore HB8.out b9); clear b9))
      go_ret
      exact ⟨rfl, HB9.out⟩
    · have n1 : (ev == 0) = false := by rw [beq_eq_false_iff_ne]; exact hz
      have n2 : (ev != 0) = true := by rw [bne_iff_ne]; exact hz
      have HPZ : Hid (pv = pcZ) := HZN.out hz
      have HSZ : Hid (∀ W, CfgOk W d → Calls Tryd.prog 9 #[.agg #[.int .i64 d.cats, .slice d.g.a d.g.l.length d.g.cap, .slice d.r.a d.r.l.length d.r.cap, .slice d.p.a d.p.l.length d.p.cap, .slice d.n.a d.n.l.length d.n.cap, .slice d.s.a d.s.l.length d.s.cap, .int .i64 d.gate, .int .i64 d.quota], .agg #[.int .i64 0, .slice none 0 0, .slice none 0 0, .slice none 0 0, .slice none 0 0, .slice none 0 0, .int .i64 0, .int .i64 0]] W fun e w' => e = .returned (.bool true) ∧ Below W.heap.size W w') := fun W hd => same_any W d cvZ hd (cvZ_ok W) (by rw [HPC1.out, HPZ.out]; rfl)
      clear hz
      go_wp2_with (first | (go_at_call 9; refine (HSZ.out _ HOK1.out).mono ?_; rintro e w8 ⟨rfl, b8⟩; have HB8 := Lib.hid (bmore HB1.out b8); clear b8) | (go_at_call 6; refine (HAW.out _ HB8.out).mono ?_; rintro e w9 ⟨rfl, b9⟩; have HB9 := Lib.hid (bmore HB8.out b9); clear b9))
      go_ret
      exact ⟨rfl, HB9.out⟩
end Go.Proofs.YtoalpdjpljapbaaDoor
/- Chapter 4: an argument that is a configuration. -/
namespace Go.Proofs.YtoalpdjpljapbaaDoor
set_option linter.unusedVariables false
set_option linter.unusedSimpArgs false
set_option linter.unnecessarySimpa false
open Go.ChangeShapes Go.WideShapes Go.ChangeAt Go.RowKit
set_option maxRecDepth 100000
set_option linter.unusedVariables false
theorem open_rowsI {H : Type} {enc : TypeId × Value → H} {W : World} {t e : TypeId} {n N : Nat} (ht : Tryd.prog.underlying t = some (.slice e)) (hok : flatOk Tryd.prog n e = true) (hC : Tryd.prog.cellsOf e = N) (hN : 0 < N) (hlv : leaves Tryd.prog n e = List.replicate N 3) {u : Value} {y : DataW H × List MemPlace} {m : Nat}
    (h : DataW.trod enc Tryd.prog W 0 (fun _ => true) true m t [u] = some y) : ∃ s : Sl, u = .slice s.a s.l.length s.cap ∧ SlOk W N s := by
  have hu : ∃ a len cap, u = .slice a len cap := by
    rcases Go.Deep.open_slice ht h with ⟨hcs, _⟩ | ⟨ad, len', cap', m, k, D, Pl, hcs, _⟩
    · simp at hcs; exact ⟨_, _, _, hcs⟩
    · simp at hcs; exact ⟨_, _, _, hcs⟩
  obtain ⟨a, len, cap, rfl⟩ := hu
  have h' : DataW.Trod enc Tryd.prog W 0 (fun _ => true) true t (.slice a len cap) y.1 y.2 := ⟨m, by simpa [Value.cells] using h⟩
  obtain ⟨a', cap', l, he, hle, hcm, hrd, hl⟩ := open_rowN0 ht hok hC hN hlv Tryd.underlying3 ⟨_, _, _, rfl⟩ h'
  injection he with h1 h2 h3
  subst h1 h2 h3
  exact ⟨⟨a, cap, l⟩, rfl, hrd, hle, hcm, hl⟩
theorem open_cfg {H : Type} {enc : TypeId × Value → H} {W : World} {base : Nat} {v : Value} {d : DataW H} {p : List MemPlace} (hv : Value.okWide Tryd.prog W .any base 29 v) (h : DataW.Trod enc Tryd.prog W 0 (fun _ => true) true 29 v d p) :
    ∃ c : Cv, v = (.agg #[.int .i64 c.cats, .slice c.g.a c.g.l.length c.g.cap, .slice c.r.a c.r.l.length c.r.cap, .slice c.p.a c.p.l.length c.p.cap, .slice c.n.a c.n.l.length c.n.cap, .slice c.s.a c.s.l.length c.s.cap, .int .i64 c.gate, .int .i64 c.quota]) ∧ CfgOk W c := by
  obtain ⟨cs, rfl, sz⟩ := okWide_struct Tryd.underlying29 hv
  rw [show Tryd.prog.cellsOf 29 = 8 from by kernel_rfl] at sz
  obtain ⟨fuel, hf⟩ := h
  have key := fun j lt hj => trod_leaves (P := Tryd.prog) 1 (by kernel_rfl) hf j lt hj
  obtain ⟨u0, y0, m0, g0, t0⟩ := key 0 3 (by kernel_rfl)
  obtain ⟨u1, y1, m1, g1, t1⟩ := key 1 23 (by kernel_rfl)
  obtain ⟨u2, y2, m2, g2, t2⟩ := key 2 24 (by kernel_rfl)
  obtain ⟨u3, y3, m3, g3, t3⟩ := key 3 25 (by kernel_rfl)
  obtain ⟨u4, y4, m4, g4, t4⟩ := key 4 26 (by kernel_rfl)
  obtain ⟨u5, y5, m5, g5, t5⟩ := key 5 27 (by kernel_rfl)
  obtain ⟨u6, y6, m6, g6, t6⟩ := key 6 3 (by kernel_rfl)
  obtain ⟨u7, y7, m7, g7, t7⟩ := key 7 3 (by kernel_rfl)
  obtain ⟨z0, e0, _, _⟩ := DataW.trod_int Tryd.underlying3 t0
  obtain ⟨z6, e6, _, hw6⟩ := DataW.trod_int Tryd.underlying3 t6
  obtain ⟨z7, e7, _, _⟩ := DataW.trod_int Tryd.underlying3 t7
  simp only [List.cons.injEq, and_true] at e0 e6 e7
  subst e0 e6 e7
  obtain ⟨s1, rfl, o1⟩ := open_rowsI (n := 1) (N := 3) Tryd.underlying23 (by kernel_rfl) (by kernel_rfl) (by omega) (by kernel_rfl) t1
  obtain ⟨s2, rfl, o2⟩ := open_rowsI (n := 1) (N := 3) Tryd.underlying24 (by kernel_rfl) (by kernel_rfl) (by omega) (by kernel_rfl) t2
  obtain ⟨s3, rfl, o3⟩ := open_rowsI (n := 1) (N := 2) Tryd.underlying25 (by kernel_rfl) (by kernel_rfl) (by omega) (by kernel_rfl) t3
  obtain ⟨s4, rfl, o4⟩ := open_rowsI (n := 1) (N := 2) Tryd.underlying26 (by kernel_rfl) (by kernel_rfl) (by omega) (by kernel_rfl) t4
  obtain ⟨s5, rfl, o5⟩ := open_rowsI (n := 1) (N := 2) Tryd.underlying27 (by kernel_rfl) (by kernel_rfl) (by omega) (by kernel_rfl) t5
  refine ⟨⟨z0, s1, s2, s3, s4, s5, z6, z7⟩, ?_, ⟨o1, o2, o3, o4, o5⟩⟩
  simp only [Value.cells] at g0 g1 g2 g3 g4 g5 g6 g7
  obtain ⟨l⟩ := cs
  simp only at sz g0 g1 g2 g3 g4 g5 g6 g7
  congr 2
  match l, sz with
  | [a, b, c, d, e, f, g, h], _ =>
    simp at g0 g1 g2 g3 g4 g5 g6 g7
    subst g0 g1 g2 g3 g4 g5 g6 g7
    rfl
end Go.Proofs.YtoalpdjpljapbaaDoor
/- The tables that the row of PlanBack lists. -/
namespace Go.Proofs.YtoalpdjpljapbaaDoor
set_option linter.unusedVariables false
set_option linter.unusedSimpArgs false
set_option linter.unnecessarySimpa false
open Go.ChangeShapes Go.WideShapes Go.ChangeAt Go.RowKit
set_option linter.unusedVariables false
set_option maxRecDepth 100000
def keepN (n : String) (x : String × DataW Unit) : Bool := x.1 == n
def wordsI : List Int := [2, 4, 4, 3, 3, 3, 3]
theorem word_of {W : World} (h : laidMetH Tryd.prog Rows.planBackRow.laid W) : WdTab W := by
  have h2 : laidMetH Tryd.prog [("hermitage/plan.words", Rows.laid_hermitage_plan_words)] W := h.filter (keepN "hermitage/plan.words")
  have hg : Tryd.prog.globalNamed "hermitage/plan.words" = some 0 := by kernel_rfl
  have h3 : Lib.TabIs Tryd.prog W "hermitage/plan.words" .i64 wordsI := Lib.tabIs_of_head (rest := []) (g := 0) (t := 88) (e := 3) (n := 7) hg (by kernel_rfl) Tryd.underlying88 Tryd.underlying3 (by kernel_rfl) (by kernel_rfl) h2
  intro k hk
  have := h3.cell hg k hk
  rcases (by omega : k = 0 ∨ k = 1 ∨ k = 2 ∨ k = 3 ∨ k = 4 ∨ k = 5 ∨ k = 6) with rfl | rfl | rfl | rfl | rfl | rfl | rfl <;> exact this
theorem pow_of {W : World} (h : laidMetH Tryd.prog Rows.planBackRow.laid W) : PowIs W := by
  have h2 : laidMetH Tryd.prog [("internal/strconv.uint64pow10", Rows.laid_internal_strconv_uint64pow10)] W := h.filter (keepN "internal/strconv.uint64pow10")
  exact Lib.tabIs_of_head (rest := []) (g := 4) (t := 169) (e := 155) (n := 20) (by kernel_rfl) (by kernel_rfl) Tryd.underlying169 Tryd.underlying155 (by kernel_rfl) (by kernel_rfl) h2
def tab32 : List Int := [0, 1, 28, 2, 29, 14, 24, 3, 30, 22, 20, 15, 25, 17, 4, 8, 31, 27, 13, 23, 21, 19, 16, 7, 26, 12, 18, 6, 11, 5, 10, 9]
def tab64 : List Int := [0, 1, 56, 2, 57, 49, 28, 3, 61, 58, 42, 50, 38, 29, 17, 4, 62, 47, 59, 36, 45, 43, 51, 22, 53, 39, 33, 30, 24, 18, 12, 5, 63, 55, 48, 27, 60, 41, 37, 16, 46, 35, 44, 21, 52, 32, 23, 11, 54, 26, 40, 15, 34, 20, 31, 10, 25, 14, 19, 9, 13, 8, 7, 6]
def tabAcc : List Int := [128, 191, 160, 191, 128, 159, 144, 191, 128, 143, 0, 0, 0, 0, 0, 0, 0, 0, 0, 0, 0, 0, 0, 0, 0, 0, 0, 0, 0, 0, 0, 0]
noncomputable def layT (g : Nat) (vs : List Value) (h : Array Obj) : Array Obj := h.modify g fun
  | .cells _ t frozen => .cells vs.toArray t frozen
  | o => o
noncomputable def layAll (h : Array Obj) : Array Obj :=
  layT 2 (Go.Pinned.utf8FirstZ.map fun (n : Nat) => Value.int .u8 n) (layT 3 (tabAcc.map (Value.int .u8)) (layT 6 (tab64.map (Value.int .u8)) (layT 5 (tab32.map (Value.int .u8)) (layT 4 (Lib.pow10Tab.map (Value.int .u64)) (layT 0 (wordsI.map (Value.int .i64)) h)))))
end Go.Proofs.YtoalpdjpljapbaaDoor
