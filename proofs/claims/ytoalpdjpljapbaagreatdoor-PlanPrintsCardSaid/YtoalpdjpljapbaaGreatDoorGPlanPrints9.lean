/- Packages plan and its reference: lines of a text. -/
import Derived.Test.YtoalpdjpljapbaaGreatDoorGPlanPrints5
import Derived.Test.YtoalpdjpljapbaaGreatDoorGPlanPrints1
import Derived.Test.YtoalpdjpljapbaaGreatDoorGPlanPrints8
import Derived.Test.YtoalpdjpljapbaaGreatDoorGPlanPrints2
import Derived.Test.YtoalpdjpljapbaaGreatDoorGPlanPrints0
import Derived.Test.YtoalpdjpljapbaaGreatDoorRows
import Derived.LaidSub
import Derived.Lib.LaidTab
import Derived.Deep.DeepHandedRow
namespace Go.Proofs.YtoalpdjpljapbaaGreatDoor
set_option linter.unusedVariables false
set_option linter.unusedSimpArgs false
set_option linter.unnecessarySimpa false
open Go.RowKit Go.Sort
set_option maxHeartbeats 2000000
set_option maxRecDepth 100000
set_option linter.unusedVariables false
theorem fieldsC_sep (c : UInt8) : ∀ s : List UInt8, fieldsC c (s ++ [c]) = fieldsC c s ++ [[]]
  | [] => by simp [fieldsC]
  | b :: t => by
    have ih := fieldsC_sep c t
    by_cases h : b = c
    · rw [List.cons_append, fieldsC, if_pos h, ih, fieldsC, if_pos h]; rfl
    · obtain ⟨x, r, h1, h2⟩ := fieldsC_cons h t
      obtain ⟨x', r', h1', h2'⟩ := fieldsC_cons h (t ++ [c])
      rw [List.cons_append, h2', h2]
      rw [h1, h1'] at ih
      injection ih with ih1 ih2
      rw [ih1, ih2]; rfl
theorem fieldsC_snoc (c b : UInt8) (hb : b ≠ c) : ∀ s : List UInt8, ∃ D y, fieldsC c (s ++ [b]) = D ++ [y ++ [b]]
  | [] => ⟨[], [], by rw [List.nil_append, fieldsC_free c [b] (by simp; exact hb)]; rfl⟩
  | a :: t => by
    obtain ⟨D, y, ih⟩ := fieldsC_snoc c b hb t
    by_cases h : a = c
    · exact ⟨[] :: D, y, by rw [List.cons_append, fieldsC, if_pos h, ih]; rfl⟩
    · obtain ⟨x', r', h1', h2'⟩ := fieldsC_cons h (t ++ [b])
      rw [ih] at h1'
      cases D with
      | nil =>
        rw [List.nil_append] at h1'
        injection h1' with e1 e2
        exact ⟨[], a :: y, by rw [List.cons_append, h2', ← e1, ← e2]; rfl⟩
      | cons d D =>
        rw [List.cons_append] at h1'
        injection h1' with e1 e2
        exact ⟨(a :: x') :: D, y, by rw [List.cons_append, h2', ← e2]; rfl⟩
theorem fieldsC_last (s : List UInt8) : (fieldsC 10 s).getLast? = some [] ↔ s = [] ∨ s.getLast? = some 10 := by
  rcases List.eq_nil_or_concat s with rfl | ⟨t, b, rfl⟩
  · simp [fieldsC]
  · rw [List.concat_eq_append]
    by_cases h : b = 10
    · subst h
      rw [fieldsC_sep]; simp
    · obtain ⟨D, y, e⟩ := fieldsC_snoc 10 b h t
      rw [e]
      simp [h]

theorem suf_10 (s : List UInt8) : Lib.hasSuffix s [10] = true ↔ s.getLast? = some 10 := by
  unfold Lib.hasSuffix
  rw [List.isSuffixOf_iff_suffix]
  constructor
  · rintro ⟨t, rfl⟩; simp
  · intro h
    obtain ⟨t, ht⟩ := List.getLast?_eq_some_iff.1 h
    exact ⟨t, ht.symm⟩
/-- Is a text's last line ended? -/
def lsB (s : List UInt8) : Bool := decide ((fieldsC 10 s).getLast? = some [])
def lsL (s : List UInt8) : List (List UInt8) := (fieldsC 10 s).dropLast
def LsPost (s : List UInt8) (w : World) (e : Ending) (w' : World) : Prop :=
  (lsB s = true → ∃ a cap, e = .returned (.tuple #[.slice a (lsL s).length cap, .bool true]) ∧ RdW w' a cap (lsL s)) ∧ (lsB s = false → e = .returned (.tuple #[.slice none 0 0, .bool false])) ∧ Below w.heap.size w w'
theorem ls_yes {s : List UInt8} {L : List (List UInt8)} {w w' : World} {e : Ending} {a : Option Addr} {cap : Nat} (h : fieldsC 10 s = L ++ [[]]) (he : e = .returned (.tuple #[.slice a L.length cap, .bool true])) (hr : RdW w' a cap L) (hb : Below w.heap.size w w') : LsPost s w e w' := by
  have e1 : lsL s = L := by rw [lsL, h, List.dropLast_concat]
  have e2 : lsB s = true := by rw [lsB, h]; simp
  exact ⟨fun _ => ⟨a, cap, by rw [e1]; exact he, by rw [e1]; exact hr⟩, (fun h => by rw [e2] at h; cases h), hb⟩
theorem ls_no {s : List UInt8} {D : List (List UInt8)} {x : List UInt8} {w w' : World} (h : fieldsC 10 s = D ++ [x]) (hx : x ≠ []) (hb : Below w.heap.size w w') : LsPost s w (.returned (.tuple #[.slice none 0 0, .bool false])) w' := by
  have e2 : lsB s = false := by rw [lsB, h]; simp [hx]
  exact ⟨(fun h => by rw [e2] at h; cases h), fun _ => rfl, hb⟩
end Go.Proofs.YtoalpdjpljapbaaGreatDoor
/- The walk of PlanWords. -/
namespace Go.Proofs.YtoalpdjpljapbaaGreatDoor
set_option linter.unusedVariables false
set_option linter.unusedSimpArgs false
set_option linter.unnecessarySimpa false
open Go.RowKit Go.Sort
set_option maxHeartbeats 2000000
set_option maxRecDepth 100000
set_option linter.unusedVariables false
def awkT : List UInt8 := [99, 97, 116, 115, 32, 49, 10, 103, 117, 101, 115, 116, 32, 97, 32, 52, 32, 48, 10, 115, 108, 111, 116, 32, 48, 32, 53, 10]
theorem awkP : ((psV awkT).1.g.length, (psV awkT).1.gate, (psV awkT).2.1, (psV awkT).2.2) = (1, -1, 0, 0) := by decide +kernel
theorem awake_any (w : World) (hT : WdTab w) : Calls Tryz.prog 5 #[] w fun e w' => e = .returned (.bool true) ∧ Below w.heap.size w w' := by
  have HA : Hid (Calls Tryz.prog 12 #[.string ⟨#[99, 97, 116, 115, 32, 49, 10, 103, 117, 101, 115, 116, 32, 97, 32, 52, 32, 48, 10, 115, 108, 111, 116, 32, 48, 32, 53, 10]⟩] w fun e w' => ∃ c : Cv, e = .returned (.tuple #[(.agg #[.int .i64 c.cats, .slice c.g.a c.g.l.length c.g.cap, .slice c.r.a c.r.l.length c.r.cap, .slice c.p.a c.p.l.length c.p.cap, .slice c.n.a c.n.l.length c.n.cap, .slice c.s.a c.s.l.length c.s.cap, .int .i64 c.gate, .int .i64 c.quota]), .int .i64 0, .int .i64 0]) ∧ c.g.l.length = 1 ∧ c.gate = -1 ∧ Below w.heap.size w w') := by
    refine (pparse_any ⟨#[99, 97, 116, 115, 32, 49, 10, 103, 117, 101, 115, 116, 32, 97, 32, 52, 32, 48, 10, 115, 108, 111, 116, 32, 48, 32, 53, 10]⟩ (by decide) w hT).mono ?_
    rintro e w' ⟨c, h1, _, h3, h4⟩
    have hp := awkP
    rw [Prod.mk.injEq, Prod.mk.injEq, Prod.mk.injEq] at hp
    obtain ⟨p1, p2, p3, p4⟩ := hp
    have e0 : (⟨#[99, 97, 116, 115, 32, 49, 10, 103, 117, 101, 115, 116, 32, 97, 32, 52, 32, 48, 10, 115, 108, 111, 116, 32, 48, 32, 53, 10]⟩ : ByteArray).data.toList = awkT := rfl
    rw [e0] at h1 h3
    rw [p3, p4] at h1
    rw [← h3] at p1 p2
    exact ⟨c, h1, p1, p2, h4⟩
  clear hT
  go_enter Tryz.func5, Tryz.ntmps5
  go_wp2_with fail
  refine HA.out.mono ?_; rintro e w1 ⟨c, rfl, hl, hg, hb⟩
  have HB := Lib.hid hb
  rw [hl, hg]
  clear hb hl hg
  go_wp2_with fail
  go_ret
  exact ⟨rfl, HB.out.alloc HB.out.size _⟩
def spL (s : List UInt8) : List (List UInt8) := if wordsB s then fieldsC 32 s else []
theorem rdW_nil (w : World) : RdW w none 0 [] := own_rdW (Own.nil w w.heap.size 9 1)
theorem split_uni {s : List UInt8} {w w' : World} {e : Ending} (h : SplitPost s w e w') : ∃ a cap, e = .returned (.tuple #[.slice a (spL s).length cap, .bool (wordsB s)]) ∧ RdW w' a cap (spL s) ∧ Below w.heap.size w w' := by
  unfold spL
  cases hw : wordsB s
  · exact ⟨none, 0, by rw [h.2.1 hw]; rfl, rdW_nil w', h.2.2⟩
  · obtain ⟨a, cap, h1, h2⟩ := h.1 hw
    exact ⟨a, cap, by rw [h1]; rfl, by simpa using h2, h.2.2⟩
def lnsL (s : List UInt8) : List (List UInt8) := if lsB s then lsL s else []
theorem lines_uni {s : List UInt8} {w w' : World} {e : Ending} (h : LsPost s w e w') : ∃ a cap, e = .returned (.tuple #[.slice a (lnsL s).length cap, .bool (lsB s)]) ∧ RdW w' a cap (lnsL s) ∧ Below w.heap.size w w' := by
  unfold lnsL
  cases hw : lsB s
  · exact ⟨none, 0, by rw [h.2.1 hw]; rfl, rdW_nil w', h.2.2⟩
  · obtain ⟨a, cap, h1, h2⟩ := h.1 hw
    exact ⟨a, cap, by rw [h1]; rfl, by simpa using h2, h.2.2⟩
end Go.Proofs.YtoalpdjpljapbaaGreatDoor
/- The walk of PlanPrints. -/
namespace Go.Proofs.YtoalpdjpljapbaaGreatDoor
set_option linter.unusedVariables false
set_option linter.unusedSimpArgs false
set_option linter.unnecessarySimpa false
open Go.RowKit Go.Sort
set_option maxHeartbeats 4000000
set_option maxRecDepth 100000
set_option linter.unusedVariables false
def bigB (c : Cv) : Bool := decide (40 < c.g.l.length) || (decide (40 < c.r.l.length) || (decide (40 < c.p.l.length) || (decide (40 < c.n.l.length) || decide (40 < c.s.l.length))))
theorem prints_walk (c : Cv) (w : World) (h : CfgOk w c) (hT : WdTab w) (hP : PowIs w) : Calls Tryz.prog 3 #[(.agg #[.int .i64 c.cats, .slice c.g.a c.g.l.length c.g.cap, .slice c.r.a c.r.l.length c.r.cap, .slice c.p.a c.p.l.length c.p.cap, .slice c.n.a c.n.l.length c.n.cap, .slice c.s.a c.s.l.length c.s.cap, .int .i64 c.gate, .int .i64 c.quota])] w fun e w' => e = .returned (.bool true) ∧ Below w.heap.size w w' := by
  have HAW : Hid (∀ W, Below w.heap.size w W → Calls Tryz.prog 5 #[] W fun e w' => e = .returned (.bool true) ∧ Below W.heap.size W w') := fun W h => awake_any W (hT.below h)
  have m1 := h.g.mx
  have m2 := h.r.mx
  have m3 := h.p.mx
  have m4 := h.n.mx
  have m5 := h.s.mx
  by_cases hb : 40 < c.g.l.length ∨ 40 < c.r.l.length ∨ 40 < c.p.l.length ∨ 40 < c.n.l.length ∨ 40 < c.s.l.length
  · have hnz : (chkV c).1 ≠ 0 := fun e => by
      have := fit_of e
      have h1 : c.g.l.length ≤ 4 := this.gl
      have h2 : c.r.l.length ≤ 8 := this.rl
      have h3 : c.p.l.length ≤ 8 := this.pl
      have h4 : c.n.l.length ≤ 4 := this.nl
      have h5 : c.s.l.length ≤ 8 := this.sl
      omega
    obtain ⟨e0, he0⟩ : ∃ v, Hid (v = (chkV c).1) := ⟨_, Lib.hid rfl⟩
    have HPR : Hid (∀ W, Below w.heap.size w W → CfgOk W c → Calls Tryz.prog 4 #[(.agg #[.int .i64 c.cats, .slice c.g.a c.g.l.length c.g.cap, .slice c.r.a c.r.l.length c.r.cap, .slice c.p.a c.p.l.length c.p.cap, .slice c.n.a c.n.l.length c.n.cap, .slice c.s.a c.s.l.length c.s.cap, .int .i64 c.gate, .int .i64 c.quota])] W fun e w' => e = .returned (.tuple #[.string ⟨#[]⟩, .int .i64 e0]) ∧ Below W.heap.size W w') := fun W hb hc => (pprint_any c W hc (hP.below hb)).mono fun e w' h => ⟨by rw [he0.out]; exact h.1 hnz, h.2.2⟩
    have hz : e0 ≠ 0 := by rw [he0.out]; exact hnz
    have n1 : (e0 == 0) = false := by rw [beq_eq_false_iff_ne]; exact hz
    have n2 : (e0 != 0) = true := by rw [bne_iff_ne]; exact hz
    obtain ⟨x1, hx1⟩ : ∃ x, x = decide (40 < c.g.l.length) := ⟨_, rfl⟩
    obtain ⟨x2, hx2⟩ : ∃ x, x = decide (40 < c.r.l.length) := ⟨_, rfl⟩
    obtain ⟨x3, hx3⟩ : ∃ x, x = decide (40 < c.p.l.length) := ⟨_, rfl⟩
    obtain ⟨x4, hx4⟩ : ∃ x, x = decide (40 < c.n.l.length) := ⟨_, rfl⟩
    obtain ⟨x5, hx5⟩ : ∃ x, x = decide (40 < c.s.l.length) := ⟨_, rfl⟩
    have d1 : decide ((c.g.l.length : Int) > 40) = x1 := by rw [hx1, decide_eq_decide]; omega
    have d2 : decide ((c.r.l.length : Int) > 40) = x2 := by rw [hx2, decide_eq_decide]; omega
    have d3 : decide ((c.p.l.length : Int) > 40) = x3 := by rw [hx3, decide_eq_decide]; omega
    have d4 : decide ((c.n.l.length : Int) > 40) = x4 := by rw [hx4, decide_eq_decide]; omega
    have d5 : decide ((c.s.l.length : Int) > 40) = x5 := by rw [hx5, decide_eq_decide]; omega
    have e1 := hx1.symm
    have e2 := hx2.symm
    have e3 := hx3.symm
    have e4 := hx4.symm
    have e5 := hx5.symm
    have hor : x1 = true ∨ x2 = true ∨ x3 = true ∨ x4 = true ∨ x5 = true := by
      rw [hx1, hx2, hx3, hx4, hx5]; simpa only [decide_eq_true_eq] using hb
    clear hb hnz hz hT hP he0 hx1 hx2 hx3 hx4 hx5
    (have h0 := CX.new h; go_enter Tryz.func3, Tryz.ntmps3; go_upto_region 1 with fail; generalize w.alloc (.cells #[.int .i64 c.cats, .slice c.g.a c.g.l.length c.g.cap, .slice c.r.a c.r.l.length c.r.cap, .slice c.p.a c.p.l.length c.p.cap, .slice c.n.a c.n.l.length c.n.cap, .slice c.s.a c.s.l.length c.s.cap, .int .i64 c.gate, .int .i64 c.quota] 28) = W1 at h0 ⊢; generalize w.heap.size = b0 at h0 ⊢; have H0 := Lib.hid h0; clear h0 h)
    (have q0 := H0.out.ob.cell 0 _ rfl; have q1 := H0.out.ob.cell 1 _ rfl; have q2 := H0.out.ob.cell 2 _ rfl; have q3 := H0.out.ob.cell 3 _ rfl; have q4 := H0.out.ob.cell 4 _ rfl; have q5 := H0.out.ob.cell 5 _ rfl; have q6 := H0.out.ob.cell 6 _ rfl; have q7 := H0.out.ob.cell 7 _ rfl)
    have HOR := Lib.hid hor
    clear hor
    cases x1 <;> cases x2 <;> cases x3 <;> cases x4 <;> cases x5
    case false.false.false.false.false => rcases HOR.out with h | h | h | h | h <;> cases h
    all_goals
      go_wp2_with (first | (go_at_call 4; refine (HPR.out _ H0.out.bel H0.out.ok).mono ?_; rintro e w8 ⟨rfl, b8⟩; have HB8 := Lib.hid (bmore H0.out.bel b8); clear b8) | (go_at_call 5; refine (HAW.out _ HB8.out).mono ?_; rintro e w9 ⟨rfl, b9⟩; have HB9 := Lib.hid (bmore HB8.out b9); clear b9))
      go_ret
      exact ⟨rfl, HB9.out⟩
  · obtain ⟨b1, b2, b3, b4, b5⟩ : ¬ 40 < c.g.l.length ∧ ¬ 40 < c.r.l.length ∧ ¬ 40 < c.p.l.length ∧ ¬ 40 < c.n.l.length ∧ ¬ 40 < c.s.l.length := ⟨fun h => hb (by omega), fun h => hb (by omega), fun h => hb (by omega), fun h => hb (by omega), fun h => hb (by omega)⟩
    have d1 : decide ((c.g.l.length : Int) > 40) = false := decide_eq_false (by omega)
    have d2 : decide ((c.r.l.length : Int) > 40) = false := decide_eq_false (by omega)
    have d3 : decide ((c.p.l.length : Int) > 40) = false := decide_eq_false (by omega)
    have d4 : decide ((c.n.l.length : Int) > 40) = false := decide_eq_false (by omega)
    have d5 : decide ((c.s.l.length : Int) > 40) = false := decide_eq_false (by omega)
    have e1 : decide (40 < c.g.l.length) = false := decide_eq_false b1
    have e2 : decide (40 < c.r.l.length) = false := decide_eq_false b2
    have e3 : decide (40 < c.p.l.length) = false := decide_eq_false b3
    have e4 : decide (40 < c.n.l.length) = false := decide_eq_false b4
    have e5 : decide (40 < c.s.l.length) = false := decide_eq_false b5
    obtain ⟨T, e0, HPV⟩ : ∃ (T : ByteArray) (e0 : Int), Hid (∀ e w', PrPost c w e w' → e = .returned (.tuple #[.string T, .int .i64 e0])) := by
      by_cases h0 : (chkV c).1 = 0
      · exact ⟨_, _, fun e w' h => h.2.1 h0⟩
      · exact ⟨_, _, fun e w' h => h.1 h0⟩
    have HPQ : Hid (∀ W e w', PrPost c W e w' → e = .returned (.tuple #[.string T, .int .i64 e0]) ∧ Below W.heap.size W w') := fun W e w' h => ⟨HPV.out e w (⟨h.1, h.2.1, Below.refl _ _⟩ : PrPost c w e w), h.2.2⟩
    have HPR : Hid (∀ W, Below w.heap.size w W → CfgOk W c → Calls Tryz.prog 4 #[(.agg #[.int .i64 c.cats, .slice c.g.a c.g.l.length c.g.cap, .slice c.r.a c.r.l.length c.r.cap, .slice c.p.a c.p.l.length c.p.cap, .slice c.n.a c.n.l.length c.n.cap, .slice c.s.a c.s.l.length c.s.cap, .int .i64 c.gate, .int .i64 c.quota])] W fun e w' => e = .returned (.tuple #[.string T, .int .i64 e0]) ∧ Below W.heap.size W w') := fun W hb hc => (pprint_any c W hc (hP.below hb)).mono fun e w' h => HPQ.out W e w' h
    have HRR : Hid (∀ W, CfgOk W c → Calls Tryz.prog 6 #[(.agg #[.int .i64 c.cats, .slice c.g.a c.g.l.length c.g.cap, .slice c.r.a c.r.l.length c.r.cap, .slice c.p.a c.p.l.length c.p.cap, .slice c.n.a c.n.l.length c.n.cap, .slice c.s.a c.s.l.length c.s.cap, .int .i64 c.gate, .int .i64 c.quota])] W fun e w' => e = .returned (.tuple #[.string T, .int .i64 e0]) ∧ Below W.heap.size W w') := fun W hc => (rprint_any c W hc).mono fun e w' h => HPQ.out W e w' h
    have ee : (e0 == e0) = true := by simp
    clear hb b1 b2 b3 b4 b5 hT hP HPV HPQ
    (have h0 := CX.new h; go_enter Tryz.func3, Tryz.ntmps3; go_upto_region 1 with fail; generalize w.alloc (.cells #[.int .i64 c.cats, .slice c.g.a c.g.l.length c.g.cap, .slice c.r.a c.r.l.length c.r.cap, .slice c.p.a c.p.l.length c.p.cap, .slice c.n.a c.n.l.length c.n.cap, .slice c.s.a c.s.l.length c.s.cap, .int .i64 c.gate, .int .i64 c.quota] 28) = W1 at h0 ⊢; generalize w.heap.size = b0 at h0 ⊢; have H0 := Lib.hid h0; clear h0 h)
    (have q0 := H0.out.ob.cell 0 _ rfl; have q1 := H0.out.ob.cell 1 _ rfl; have q2 := H0.out.ob.cell 2 _ rfl; have q3 := H0.out.ob.cell 3 _ rfl; have q4 := H0.out.ob.cell 4 _ rfl; have q5 := H0.out.ob.cell 5 _ rfl; have q6 := H0.out.ob.cell 6 _ rfl; have q7 := H0.out.ob.cell 7 _ rfl)
    go_wp2_with fail
    refine (HPR.out _ H0.out.bel H0.out.ok).mono ?_; rintro e Wa ⟨rfl, hba⟩
    have H1 := Lib.hid (H0.out.below hba)
    clear hba q0 q1 q2 q3 q4 q5 q6 q7
    (have q0 := H1.out.ob.cell 0 _ rfl; have q1 := H1.out.ob.cell 1 _ rfl; have q2 := H1.out.ob.cell 2 _ rfl; have q3 := H1.out.ob.cell 3 _ rfl; have q4 := H1.out.ob.cell 4 _ rfl; have q5 := H1.out.ob.cell 5 _ rfl; have q6 := H1.out.ob.cell 6 _ rfl; have q7 := H1.out.ob.cell 7 _ rfl)
    go_wp2_with (first | (go_at_call 6; refine (HRR.out _ H1.out.ok).mono ?_; rintro e w8 ⟨rfl, b8⟩; have HB8 := Lib.hid (bmore H1.out.bel b8); clear b8) | (go_at_call 5; refine (HAW.out _ HB8.out).mono ?_; rintro e w9 ⟨rfl, b9⟩; have HB9 := Lib.hid (bmore HB8.out b9); clear b9))
    go_ret
    exact ⟨rfl, HB9.out⟩
end Go.Proofs.YtoalpdjpljapbaaGreatDoor
/- Chapter 4: an argument that is a configuration. -/
namespace Go.Proofs.YtoalpdjpljapbaaGreatDoor
set_option linter.unusedVariables false
set_option linter.unusedSimpArgs false
set_option linter.unnecessarySimpa false
open Go.ChangeShapes Go.WideShapes Go.ChangeAt Go.RowKit
set_option maxRecDepth 100000
set_option linter.unusedVariables false
theorem open_rowsI {H : Type} {enc : TypeId × Value → H} {W : World} {t e : TypeId} {n N : Nat} (ht : Tryz.prog.underlying t = some (.slice e)) (hok : flatOk Tryz.prog n e = true) (hC : Tryz.prog.cellsOf e = N) (hN : 0 < N) (hlv : leaves Tryz.prog n e = List.replicate N 3) {u : Value} {y : DataW H × List MemPlace} {m : Nat}
    (h : DataW.trod enc Tryz.prog W 0 (fun _ => true) true m t [u] = some y) : ∃ s : Sl, u = .slice s.a s.l.length s.cap ∧ SlOk W N s := by
  have hu : ∃ a len cap, u = .slice a len cap := by
    rcases Go.Deep.open_slice ht h with ⟨hcs, _⟩ | ⟨ad, len', cap', m, k, D, Pl, hcs, _⟩
    · simp at hcs; exact ⟨_, _, _, hcs⟩
    · simp at hcs; exact ⟨_, _, _, hcs⟩
  obtain ⟨a, len, cap, rfl⟩ := hu
  have h' : DataW.Trod enc Tryz.prog W 0 (fun _ => true) true t (.slice a len cap) y.1 y.2 := ⟨m, by simpa [Value.cells] using h⟩
  obtain ⟨a', cap', l, he, hle, hcm, hrd, hl⟩ := open_rowN0 ht hok hC hN hlv Tryz.underlying3 ⟨_, _, _, rfl⟩ h'
  injection he with h1 h2 h3
  subst h1 h2 h3
  exact ⟨⟨a, cap, l⟩, rfl, hrd, hle, hcm, hl⟩
theorem open_cfg {H : Type} {enc : TypeId × Value → H} {W : World} {base : Nat} {v : Value} {d : DataW H} {p : List MemPlace} (hv : Value.okWide Tryz.prog W .any base 28 v) (h : DataW.Trod enc Tryz.prog W 0 (fun _ => true) true 28 v d p) :
    ∃ c : Cv, v = (.agg #[.int .i64 c.cats, .slice c.g.a c.g.l.length c.g.cap, .slice c.r.a c.r.l.length c.r.cap, .slice c.p.a c.p.l.length c.p.cap, .slice c.n.a c.n.l.length c.n.cap, .slice c.s.a c.s.l.length c.s.cap, .int .i64 c.gate, .int .i64 c.quota]) ∧ CfgOk W c := by
  obtain ⟨cs, rfl, sz⟩ := okWide_struct Tryz.underlying28 hv
  rw [show Tryz.prog.cellsOf 28 = 8 from by kernel_rfl] at sz
  obtain ⟨fuel, hf⟩ := h
  have key := fun j lt hj => trod_leaves (P := Tryz.prog) 1 (by kernel_rfl) hf j lt hj
  obtain ⟨u0, y0, m0, g0, t0⟩ := key 0 3 (by kernel_rfl)
  obtain ⟨u1, y1, m1, g1, t1⟩ := key 1 22 (by kernel_rfl)
  obtain ⟨u2, y2, m2, g2, t2⟩ := key 2 23 (by kernel_rfl)
  obtain ⟨u3, y3, m3, g3, t3⟩ := key 3 24 (by kernel_rfl)
  obtain ⟨u4, y4, m4, g4, t4⟩ := key 4 25 (by kernel_rfl)
  obtain ⟨u5, y5, m5, g5, t5⟩ := key 5 26 (by kernel_rfl)
  obtain ⟨u6, y6, m6, g6, t6⟩ := key 6 3 (by kernel_rfl)
  obtain ⟨u7, y7, m7, g7, t7⟩ := key 7 3 (by kernel_rfl)
  obtain ⟨z0, e0, _, _⟩ := DataW.trod_int Tryz.underlying3 t0
  obtain ⟨z6, e6, _, hw6⟩ := DataW.trod_int Tryz.underlying3 t6
  obtain ⟨z7, e7, _, _⟩ := DataW.trod_int Tryz.underlying3 t7
  simp only [List.cons.injEq, and_true] at e0 e6 e7
  subst e0 e6 e7
  obtain ⟨s1, rfl, o1⟩ := open_rowsI (n := 1) (N := 3) Tryz.underlying22 (by kernel_rfl) (by kernel_rfl) (by omega) (by kernel_rfl) t1
  obtain ⟨s2, rfl, o2⟩ := open_rowsI (n := 1) (N := 3) Tryz.underlying23 (by kernel_rfl) (by kernel_rfl) (by omega) (by kernel_rfl) t2
  obtain ⟨s3, rfl, o3⟩ := open_rowsI (n := 1) (N := 2) Tryz.underlying24 (by kernel_rfl) (by kernel_rfl) (by omega) (by kernel_rfl) t3
  obtain ⟨s4, rfl, o4⟩ := open_rowsI (n := 1) (N := 2) Tryz.underlying25 (by kernel_rfl) (by kernel_rfl) (by omega) (by kernel_rfl) t4
  obtain ⟨s5, rfl, o5⟩ := open_rowsI (n := 1) (N := 2) Tryz.underlying26 (by kernel_rfl) (by kernel_rfl) (by omega) (by kernel_rfl) t5
  refine ⟨⟨z0, s1, s2, s3, s4, s5, z6, z7⟩, ?_, ⟨o1, o2, o3, o4, o5⟩⟩
  simp only [Value.cells] at g0 g1 g2 g3 g4 g5 g6 g7
  obtain ⟨l⟩ := cs
  simp only at sz g0 g1 g2 g3 g4 g5 g6 g7
  congr 2
  match l, sz with
  | [a, b, c, d, e, f, g, h], _ =>
    simp at g0 g1 g2 g3 g4 g5 g6 g7
    subst g0 g1 g2 g3 g4 g5 g6 g7
    rfl
end Go.Proofs.YtoalpdjpljapbaaGreatDoor
/- The tables that the row of PlanPrints lists. -/
namespace Go.Proofs.YtoalpdjpljapbaaGreatDoor
set_option linter.unusedVariables false
set_option linter.unusedSimpArgs false
set_option linter.unnecessarySimpa false
open Go.ChangeShapes Go.WideShapes Go.ChangeAt Go.RowKit
set_option linter.unusedVariables false
set_option maxRecDepth 100000
def keepN (n : String) (x : String × DataW Unit) : Bool := x.1 == n
def wordsI : List Int := [2, 4, 4, 3, 3, 3, 3]
theorem word_of {W : World} (h : laidMetH Tryz.prog Rows.planPrintsRow.laid W) : WdTab W := by
  have h2 : laidMetH Tryz.prog [("hermitage/plan.words", Rows.laid_hermitage_plan_words)] W := h.filter (keepN "hermitage/plan.words")
  have hg : Tryz.prog.globalNamed "hermitage/plan.words" = some 0 := by kernel_rfl
  have h3 : Lib.TabIs Tryz.prog W "hermitage/plan.words" .i64 wordsI := Lib.tabIs_of_head (rest := []) (g := 0) (t := 102) (e := 3) (n := 7) hg (by kernel_rfl) Tryz.underlying102 Tryz.underlying3 (by kernel_rfl) (by kernel_rfl) h2
  intro k hk
  have := h3.cell hg k hk
  rcases (by omega : k = 0 ∨ k = 1 ∨ k = 2 ∨ k = 3 ∨ k = 4 ∨ k = 5 ∨ k = 6) with rfl | rfl | rfl | rfl | rfl | rfl | rfl <;> exact this
theorem pow_of {W : World} (h : laidMetH Tryz.prog Rows.planPrintsRow.laid W) : PowIs W := by
  have h2 : laidMetH Tryz.prog [("internal/strconv.uint64pow10", Rows.laid_internal_strconv_uint64pow10)] W := h.filter (keepN "internal/strconv.uint64pow10")
  exact Lib.tabIs_of_head (rest := []) (g := 1) (t := 146) (e := 134) (n := 20) (by kernel_rfl) (by kernel_rfl) Tryz.underlying146 Tryz.underlying134 (by kernel_rfl) (by kernel_rfl) h2
def tab32 : List Int := [0, 1, 28, 2, 29, 14, 24, 3, 30, 22, 20, 15, 25, 17, 4, 8, 31, 27, 13, 23, 21, 19, 16, 7, 26, 12, 18, 6, 11, 5, 10, 9]
def tab64 : List Int := [0, 1, 56, 2, 57, 49, 28, 3, 61, 58, 42, 50, 38, 29, 17, 4, 62, 47, 59, 36, 45, 43, 51, 22, 53, 39, 33, 30, 24, 18, 12, 5, 63, 55, 48, 27, 60, 41, 37, 16, 46, 35, 44, 21, 52, 32, 23, 11, 54, 26, 40, 15, 34, 20, 31, 10, 25, 14, 19, 9, 13, 8, 7, 6]
def tabAcc : List Int := [128, 191, 160, 191, 128, 159, 144, 191, 128, 143, 0, 0, 0, 0, 0, 0, 0, 0, 0, 0, 0, 0, 0, 0, 0, 0, 0, 0, 0, 0, 0, 0]
noncomputable def layT (g : Nat) (vs : List Value) (h : Array Obj) : Array Obj := h.modify g fun
  | .cells _ t frozen => .cells vs.toArray t frozen
  | o => o
noncomputable def layAll (h : Array Obj) : Array Obj :=
  layT 3 (Go.Pinned.utf8FirstZ.map fun (n : Nat) => Value.int .u8 n) (layT 4 (tabAcc.map (Value.int .u8)) (layT 6 (tab64.map (Value.int .u8)) (layT 5 (tab32.map (Value.int .u8)) (layT 1 (Lib.pow10Tab.map (Value.int .u64)) (layT 0 (wordsI.map (Value.int .i64)) h)))))
end Go.Proofs.YtoalpdjpljapbaaGreatDoor
