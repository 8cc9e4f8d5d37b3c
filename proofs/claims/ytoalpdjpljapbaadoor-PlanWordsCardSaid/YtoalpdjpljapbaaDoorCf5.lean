/- Chapter 4: what is wrong: ranges. -/
import Derived.Test.YtoalpdjpljapbaaDoorCf4
namespace Go.Proofs.YtoalpdjpljapbaaDoor
set_option linter.unusedVariables false
set_option linter.unusedSimpArgs false
set_option linter.unnecessarySimpa false
open Go.RowKit
set_option maxHeartbeats 2000000
set_option maxRecDepth 100000
set_option linter.unusedVariables false
variable {W W' w : World} {c : Cv} {b N : Nat} {s : Sl}
def stRg (c : Cv) : Nat → List Rn
  | 0 => []
  | i + 1 => (giveV 32 (stRg c i) (at_ c.r.l i 1) (at_ c.r.l i 2) i).2
def rBad (c : Cv) (i : Nat) : Bool := !(validB (at_ c.r.l i 0) c.cats) || ((giveV 32 (stRg c i) (at_ c.r.l i 1) (at_ c.r.l i 2) i).1 != 0)
def rFst (c : Cv) : Int × Bool := if 8 < c.r.l.length then (0, true) else fstV (rBad c) c.r.l.length
structure RI (w W : World) (b tb tt : Nat) (c : Cv) (i : Nat) : Prop where
  x : CX w W b c
  tp : ObjAt W tb 106 [.pointer (some ⟨tt, 0, none⟩)]
  bt : b < tt
  wb : w.heap.size ≤ b
  ttb : tt < tb
  t : ∃ a cap, TSt W w.heap.size tt a cap 32 (stRg c i) ∧ ∀ k ∈ blk a, tb < k
theorem RI.below {tb tt i : Nat} (h : RI w W b tb tt c i) (hb : Below W.heap.size W W') : RI w W' b tb tt c i := by
  obtain ⟨a, cap, h1, h2⟩ := h.t
  exact ⟨h.x.below hb, h.tp.below hb, h.bt, h.wb, h.ttb, a, cap, h1.below hb, h2⟩
theorem below_tab {tt : Nat} {a : Option Addr} (hm : Mod (tt :: blk a) W W') (hb : Below w.heap.size w W) (h1 : w.heap.size ≤ tt) (h2 : ∀ k ∈ blk a, w.heap.size ≤ k) : Below w.heap.size w W' :=
  hb.trans (hm.below (fun k hk => by
    rcases List.mem_cons.1 hk with rfl | h
    · exact h1
    · exact h2 k h) hb.size)
theorem not_tab {x tt : Nat} {a : Option Addr} (h1 : x ≠ tt) (h2 : ∀ k ∈ blk a, x < k) : x ∉ tt :: blk a := fun hk => by
  rcases List.mem_cons.1 hk with h | h
  · exact h1 h
  · exact Nat.lt_irrefl _ (h2 _ h)
theorem ranges1_any (c : Cv) (i : Nat) (hi : i < c.r.l.length) (b tb tt : Nat) (w W : World) (hw : CfgOk w c) (h : RI w W b tb tt c i) : Calls Tryd.prog 60 #[.int .i64 i, .pointer (some ⟨b, 0, none⟩), .pointer (some ⟨tb, 0, none⟩)] W fun e W' => e = .returned (.bool (rBad c i)) ∧ (rBad c i = false → RI w W' b tb tt c (i + 1)) ∧ Below w.heap.size w W' := by
  obtain ⟨bx, ox, hax, hcx⟩ := h.x.ok.r.cells (by omega) i hi
  obtain ⟨lb, fr, nn, hrow⟩ := row3 hi h.x.ok.r.len
  rw [hrow] at hcx
  have c0 := hcx _ (Below.refl _ _) 0 _ rfl; have c1 := hcx _ (Below.refl _ _) 1 _ rfl; have c2 := hcx _ (Below.refl _ _) 2 _ rfl
  simp only [Nat.add_zero] at c0
  have kz : (0 : Int) ≤ (i : Int) := by omega
  have kl : (i : Int) < (c.r.l.length : Int) := by omega
  obtain ⟨x, hx⟩ : ∃ x, x = rBad c i := ⟨_, rfl⟩
  have HG : Hid (x = (!(validB lb c.cats) || ((giveV 32 (stRg c i) fr nn i).1 != 0))) := by rw [Hid, hx, rBad, at_eq hi, at_eq hi, at_eq hi, hrow]; rfl
  have HS : Hid (stRg c (i + 1) = (giveV 32 (stRg c i) fr nn i).2) := by rw [Hid, stRg, at_eq hi, at_eq hi, hrow]; rfl
  rw [← hx]
  have HI := Lib.hid h
  have HW := Lib.hid hw
  have q2 := HI.out.x.ob.cell 2 _ rfl
  rw [hax] at q2
  clear hx hrow hcx h hax hw
  go_enter Tryd.func60, Tryd.ntmps60
  go_upto_region 2 with fail
  clear q2 c0 c1 c2
  have R1 : Hid (ObjAt (W.alloc (.cells #[.int .i64 lb, .int .i64 fr, .int .i64 nn] 60)) W.heap.size 60 [.int .i64 lb, .int .i64 fr, .int .i64 nn]) := ObjAt.new W _ _
  have B1 : Hid (Below W.heap.size W (W.alloc (.cells #[.int .i64 lb, .int .i64 fr, .int .i64 nn] 60))) := (Below.refl _ _).alloc (Nat.le_refl _) _
  generalize W.alloc (.cells #[.int .i64 lb, .int .i64 fr, .int .i64 nn] 60) = W1 at R1 B1 ⊢
  have I1 := Lib.hid (HI.out.below B1.out)
  have r0 := R1.out.cell 0 _ rfl; have r1 := R1.out.cell 1 _ rfl; have r2 := R1.out.cell 2 _ rfl
  have q0 := I1.out.x.ob.cell 0 _ rfl
  have t0 := I1.out.tp.cell 0 _ rfl
  obtain ⟨vb, hvb⟩ : ∃ v, v = validB lb c.cats := ⟨_, rfl⟩
  have VAL : Hid (∀ W, Calls Tryd.prog 58 #[.int .i64 lb, .int .i64 c.cats] W fun e w' => e = .returned (.bool vb) ∧ W = w') := fun W => by rw [hvb]; exact valid_any _ _ _
  rw [← hvb] at HG
  clear hvb
  cases vb with
  | false =>
    have hx : x = true := by rw [HG.out]; simp
    subst hx
    go_wp2_with (go_at_call 58; refine (VAL.out _).mono ?_; rintro e Wv ⟨rfl, rfl⟩)
    go_ret
    exact ⟨rfl, (fun h => by cases h), I1.out.x.bel⟩
  | true =>
    obtain ⟨a, cap, ht, hblk⟩ := I1.out.t
    obtain ⟨ge, hge⟩ : ∃ z, z = (giveV 32 (stRg c i) fr nn i).1 := ⟨_, rfl⟩
    have GIV : Hid (Calls Tryd.prog 61 #[.pointer (some ⟨tt, 0, none⟩), .int .i64 fr, .int .i64 nn, .int .i64 i] W1 (TPost w.heap.size tt 32 a (.int .i64 ge) (giveV 32 (stRg c i) fr nn i).2 W1)) := by
      rw [hge]; exact give_any _ _ _ _ _ _ _ _ _ _ ht I1.out.x.bel.size
    have HX : Hid (x = (ge != 0)) := by rw [Hid, HG.out, hge]; simp
    have BLK := Lib.hid hblk
    have HT := Lib.hid ht
    clear hge ht hblk HG
    by_cases h0 : ge = 0
    · subst h0
      have hx : x = false := by rw [HX.out]; rfl
      subst hx
      go_wp2_with (first | (go_at_call 58; refine (VAL.out _).mono ?_; rintro e Wv ⟨rfl, rfl⟩) | (go_at_call 61; refine GIV.out.mono ?_; rintro e W2 ⟨a', cap', rfl, ht, hm, ha'⟩; have T2 := Lib.hid ht; have M2 := Lib.hid hm; have A2 := Lib.hid ha'; clear ht hm ha'))
      go_ret
      have e1 := HI.out.wb; have e2 := HI.out.bt; have e3 := HI.out.ttb
      have hbw : Below w.heap.size w W2 := below_tab M2.out I1.out.x.bel (by omega) (fun k hk => by have := BLK.out _ hk; omega)
      refine ⟨rfl, ⟨⟨I1.out.x.ob.mod M2.out (not_tab (by omega) (fun k hk => by have := BLK.out _ hk; omega)), HW.out.below hbw, hbw⟩, I1.out.tp.mod M2.out (not_tab (by omega) BLK.out), HI.out.bt, HI.out.wb, HI.out.ttb, a', cap', by rw [HS.out]; exact T2.out, fun k hk => ?_⟩, hbw⟩
      rcases A2.out k hk with h1 | h1
      · exact BLK.out k h1
      · exact Nat.lt_of_lt_of_le I1.out.tp.lt h1
    · have hx : x = true := by rw [HX.out]; simp [h0]
      subst hx
      have d0 : (ge != 0) = true := by simp [h0]
      clear h0
      go_wp2_with (first | (go_at_call 58; refine (VAL.out _).mono ?_; rintro e Wv ⟨rfl, rfl⟩) | (go_at_call 61; refine GIV.out.mono ?_; rintro e W2 ⟨a', cap', rfl, ht, hm, ha'⟩; have T2 := Lib.hid ht; have M2 := Lib.hid hm; have A2 := Lib.hid ha'; clear ht hm ha'))
      go_ret
      have e1 := HI.out.wb; have e2 := HI.out.bt; have e3 := HI.out.ttb
      have hbw : Below w.heap.size w W2 := below_tab M2.out I1.out.x.bel (by omega) (fun k hk => by have := BLK.out _ hk; omega)
      exact ⟨rfl, fun h => (by cases h), hbw⟩
theorem ranges_any (c : Cv) (w : World) (h : CfgOk w c) : Calls Tryd.prog 31 #[(.agg #[.int .i64 c.cats, .slice c.g.a c.g.l.length c.g.cap, .slice c.r.a c.r.l.length c.r.cap, .slice c.p.a c.p.l.length c.p.cap, .slice c.n.a c.n.l.length c.n.cap, .slice c.s.a c.s.l.length c.s.cap, .int .i64 c.gate, .int .i64 c.quota])] w fun e w' => e = .returned (.tuple #[.int .i64 (rFst c).1, .bool (rFst c).2]) ∧ Below w.heap.size w w' := by
  have hm := h.r.mx
  have HW := Lib.hid h
  obtain ⟨x, hx⟩ : ∃ x, x = rFst c := ⟨_, rfl⟩
  rw [← hx]
  have HX := Lib.hid hx
  clear hx
  by_cases h2 : 8 < c.r.l.length
  · have d2 : decide ((c.r.l.length : Int) > 8) = true := by simp; omega
    have hx : x = (0, true) := by rw [HX.out, rFst, if_pos h2]
    subst hx
    clear h2
    (have h0 := CX.new h; go_enter Tryd.func31, Tryd.ntmps31; go_upto_region 1 with fail; generalize w.alloc (.cells #[.int .i64 c.cats, .slice c.g.a c.g.l.length c.g.cap, .slice c.r.a c.r.l.length c.r.cap, .slice c.p.a c.p.l.length c.p.cap, .slice c.n.a c.n.l.length c.n.cap, .slice c.s.a c.s.l.length c.s.cap, .int .i64 c.gate, .int .i64 c.quota] 29) = W1 at h0 ⊢; generalize w.heap.size = b0 at h0 ⊢; have H0 := Lib.hid h0; clear h0 h)
    (have q0 := H0.out.ob.cell 0 _ rfl; have q1 := H0.out.ob.cell 1 _ rfl; have q2 := H0.out.ob.cell 2 _ rfl; have q3 := H0.out.ob.cell 3 _ rfl; have q4 := H0.out.ob.cell 4 _ rfl; have q5 := H0.out.ob.cell 5 _ rfl; have q6 := H0.out.ob.cell 6 _ rfl; have q7 := H0.out.ob.cell 7 _ rfl)
    go_wp2_with fail
    go_ret2
    exact ⟨rfl, H0.out.bel⟩
  · have d2 : decide ((c.r.l.length : Int) > 8) = false := by simp; omega
    have hx : x = fstV (rBad c) c.r.l.length := by rw [HX.out, rFst, if_neg h2]
    subst hx
    clear h2
    have h0 := CX.new h
    go_enter Tryd.func31, Tryd.ntmps31
    go_upto_region 1 with fail
    have hwb : w.heap.size ≤ w.heap.size := Nat.le_refl _
    have hlt := h0.ob.lt
    generalize w.alloc (.cells #[.int .i64 c.cats, .slice c.g.a c.g.l.length c.g.cap, .slice c.r.a c.r.l.length c.r.cap, .slice c.p.a c.p.l.length c.p.cap, .slice c.n.a c.n.l.length c.n.cap, .slice c.s.a c.s.l.length c.s.cap, .int .i64 c.gate, .int .i64 c.quota] 29) = W1 at h0 hlt ⊢
    obtain ⟨b0, hb0⟩ : ∃ b, b = w.heap.size := ⟨_, rfl⟩
    rw [← hb0] at h0 hlt ⊢
    have HB0 := Lib.hid hb0
    have H0 := Lib.hid h0
    have HLT := Lib.hid hlt
    clear h0 h hb0 hwb hlt
    (have q0 := H0.out.ob.cell 0 _ rfl; have q1 := H0.out.ob.cell 1 _ rfl; have q2 := H0.out.ob.cell 2 _ rfl; have q3 := H0.out.ob.cell 3 _ rfl; have q4 := H0.out.ob.cell 4 _ rfl; have q5 := H0.out.ob.cell 5 _ rfl; have q6 := H0.out.ob.cell 6 _ rfl; have q7 := H0.out.ob.cell 7 _ rfl)
    go_upto_region 4 with (first | (go_at_call 59; refine (tnew_yes 32 (by omega) _).mono ?_; rintro e W2 ⟨rfl, ht, hb⟩; have T2 := Lib.hid ht; have B2 := Lib.hid hb; clear ht hb))
    have NB : Hid (ObjAt (W2.alloc (.cells #[.pointer (some ⟨W1.heap.size, 0, none⟩)] 106)) W2.heap.size 106 [.pointer (some ⟨W1.heap.size, 0, none⟩)]) := ObjAt.new W2 _ _
    have B3 : Hid (Below W2.heap.size W2 (W2.alloc (.cells #[.pointer (some ⟨W1.heap.size, 0, none⟩)] 106))) := (Below.refl _ _).alloc (Nat.le_refl _) _
    generalize W2.alloc (.cells #[.pointer (some ⟨W1.heap.size, 0, none⟩)] 106) = W3 at NB B3 ⊢
    have HI : Hid (RI w W3 b0 W2.heap.size W1.heap.size c 0) := ⟨(H0.out.below B2.out).below B3.out, NB.out, HLT.out, Nat.le_of_eq HB0.out.symm, T2.out.obj.lt, none, 0, (T2.out.below B3.out).mono H0.out.bel.size, fun k hk => (by simp [blk] at hk)⟩
    generalize W2.heap.size = tb at HI NB ⊢
    generalize W1.heap.size = tt at HI NB T2 ⊢
    clear q0 q1 q2 q3 q4 q5 q6 q7 NB
    have FIR : Hid (Calls Tryd.prog 56 #[.int .i64 c.r.l.length, .func (Fn.func 60) #[] #[.pointer (some ⟨b0, 0, none⟩), .pointer (some ⟨tb, 0, none⟩)]] W3 (fun e W' => e = .returned (.tuple #[.int .i64 (fstV (rBad c) c.r.l.length).1, .bool (fstV (rBad c) c.r.l.length).2]) ∧ Below w.heap.size w W')) :=
      first2 60 (.pointer (some ⟨b0, 0, none⟩)) (.pointer (some ⟨tb, 0, none⟩)) c.r.l.length hm (rBad c) (fun i W => RI w W b0 tb tt c i) (fun W => Below w.heap.size w W) W3 (enter_of Tryd.func60 (by kernel_rfl) rfl) HI.out (fun _ _ h => h.x.bel)
        (fun i hi W hW => ranges1_any c i hi b0 tb tt w W HW.out hW)
    have q2 := HI.out.x.ob.cell 2 _ rfl
    go_wp2_with (go_at_call 56; refine FIR.out.mono ?_; rintro e W4 ⟨rfl, hx2⟩; have H2 := Lib.hid hx2; clear hx2)
    go_ret2
    exact ⟨rfl, H2.out⟩
end Go.Proofs.YtoalpdjpljapbaaDoor
