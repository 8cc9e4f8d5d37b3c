/- Chapter 4: PortOf, RangeOf. -/
import Derived.Test.YtmchaaelpbifgaaCf9
namespace Go.Proofs.Ytmchaaelpbifgaa
set_option linter.unusedVariables false
set_option linter.unusedSimpArgs false
set_option linter.unnecessarySimpa false
open Go.RowKit
set_option maxHeartbeats 4000000
set_option maxRecDepth 100000
set_option linter.unusedVariables false
variable {W W' w : World} {c : Cv} {b N : Nat} {s : Sl}
def portB (c : Cv) (g : Int) (i : Nat) : Bool := at_ c.p.l i 1 == g
def portV (c : Cv) (g : Int) : Int := if rightV c && decide (0 ≤ g) then (if (fstV (portB c g) c.p.l.length).2 then (fstV (portB c g) c.p.l.length).1 else -1) else -1
/-- A boxed number lies behind the configuration. -/
def IX (w W : World) (b pb : Nat) (c : Cv) (g : Int) : Prop := CX w W b c ∧ ObjAt W pb 3 [.int .i64 g]
theorem IX.below {pb : Nat} {g : Int} (h : IX w W b pb c g) (hb : Below W.heap.size W W') : IX w W' b pb c g := ⟨h.1.below hb, h.2.below hb⟩
theorem portof1_any (c : Cv) (g : Int) (i : Nat) (hi : i < c.p.l.length) (b pb : Nat) (w W : World) (h : IX w W b pb c g) : Calls Try.prog 41 #[.int .i64 i, .pointer (some ⟨b, 0, none⟩), .pointer (some ⟨pb, 0, none⟩)] W fun e W' => e = .returned (.bool (portB c g i)) ∧ Below W.heap.size W W' := by
  obtain ⟨bx, ox, hax, hcx⟩ := h.1.ok.p.cells (by omega) i hi
  obtain ⟨lb, gu, hrow⟩ := row2 hi h.1.ok.p.len
  rw [hrow] at hcx
  have c1 := hcx _ (Below.refl _ _) 1 _ rfl
  have kz : (0 : Int) ≤ (i : Int) := by omega
  have kl : (i : Int) < (c.p.l.length : Int) := by omega
  have HG : Hid (portB c g i = (gu == g)) := by rw [Hid, portB, at_eq hi, hrow]; rfl
  have q3 := h.1.ob.cell 3 _ rfl
  have p0 := h.2.cell 0 _ rfl
  rw [hax] at q3
  clear hrow hcx h hax
  go_enter Try.func41, Try.ntmps41
  go_upto_region 1 with fail
  go_quiet (fail)
  go_wp2_with fail
  go_ret
  exact ⟨by rw [HG.out]; rfl, below_drewN (Below.refl _ _) _⟩
theorem portof_any (c : Cv) (g : Int) (w : World) (h : CfgOk w c) : Calls Try.prog 10 #[(.agg #[.int .i64 c.cats, .slice c.g.a c.g.l.length c.g.cap, .slice c.r.a c.r.l.length c.r.cap, .slice c.p.a c.p.l.length c.p.cap, .slice c.n.a c.n.l.length c.n.cap, .slice c.s.a c.s.l.length c.s.cap, .int .i64 c.gate, .int .i64 c.quota]), .int .i64 g] w fun e w' => e = .returned (.int .i64 (portV c g)) ∧ Below w.heap.size w w' := by
  have HF : Hid (portV c g = if rightV c && decide (0 ≤ g) then (if (fstV (portB c g) c.p.l.length).2 then (fstV (portB c g) c.p.l.length).1 else -1) else -1) := rfl
  obtain ⟨x, hx⟩ : ∃ x, x = portV c g := ⟨_, rfl⟩
  rw [← hx] at HF ⊢
  clear hx
  have hm := h.p.mx
  cases hr : rightV c with
  | false =>
    obtain rfl : x = -1 := by rw [HF.out, hr]; rfl
    (have RIG : Hid (∀ W, CfgOk W c → Calls Try.prog 39 #[(.agg #[.int .i64 c.cats, .slice c.g.a c.g.l.length c.g.cap, .slice c.r.a c.r.l.length c.r.cap, .slice c.p.a c.p.l.length c.p.cap, .slice c.n.a c.n.l.length c.n.cap, .slice c.s.a c.s.l.length c.s.cap, .int .i64 c.gate, .int .i64 c.quota])] W fun e w' => e = .returned (.bool false) ∧ Below W.heap.size W w') := fun W hc => by rw [← hr]; exact right_any c _ hc)
    clear hr HF
    (
    have h0 := CX.new h
    go_enter Try.func10, Try.ntmps10
    go_upto_region 1 with fail
    have hsz : (w.alloc (.cells #[.int .i64 c.cats, .slice c.g.a c.g.l.length c.g.cap, .slice c.r.a c.r.l.length c.r.cap, .slice c.p.a c.p.l.length c.p.cap, .slice c.n.a c.n.l.length c.n.cap, .slice c.s.a c.s.l.length c.s.cap, .int .i64 c.gate, .int .i64 c.quota] 28)).heap.size = w.heap.size + 1 := by simp
    generalize w.alloc (.cells #[.int .i64 c.cats, .slice c.g.a c.g.l.length c.g.cap, .slice c.r.a c.r.l.length c.r.cap, .slice c.p.a c.p.l.length c.p.cap, .slice c.n.a c.n.l.length c.n.cap, .slice c.s.a c.s.l.length c.s.cap, .int .i64 c.gate, .int .i64 c.quota] 28) = W1 at h0 hsz ⊢
    have PK : Hid (ObjAt (W1.alloc (.cells #[.int .i64 g] 3)) W1.heap.size 3 [.int .i64 g]) := ObjAt.new W1 _ _
    have XK : Hid (CX w (W1.alloc (.cells #[.int .i64 g] 3)) w.heap.size c) := h0.below ((Below.refl _ _).alloc (Nat.le_refl _) _)
    rw [hsz] at PK
    clear h0 hsz h
    generalize W1.alloc (.cells #[.int .i64 g] 3) = W2 at XK PK ⊢
    generalize w.heap.size + 1 = pb at PK ⊢
    obtain ⟨b0, hb0⟩ : ∃ b, b = w.heap.size := ⟨_, rfl⟩
    rw [← hb0] at XK ⊢
    clear hb0
    (have q0 := XK.out.ob.cell 0 _ rfl; have q1 := XK.out.ob.cell 1 _ rfl; have q2 := XK.out.ob.cell 2 _ rfl; have q3 := XK.out.ob.cell 3 _ rfl; have q4 := XK.out.ob.cell 4 _ rfl; have q5 := XK.out.ob.cell 5 _ rfl; have q6 := XK.out.ob.cell 6 _ rfl; have q7 := XK.out.ob.cell 7 _ rfl)
    have p0 := PK.out.cell 0 _ rfl
)
    go_wp2_with (go_at_call 39; refine (RIG.out _ XK.out.ok).mono ?_; rintro e Wc ⟨rfl, hb⟩; replace XK := Lib.hid (XK.out.below hb); replace PK := Lib.hid (PK.out.below hb); clear hb; (replace q0 := XK.out.ob.cell 0 _ rfl; replace q1 := XK.out.ob.cell 1 _ rfl; replace q2 := XK.out.ob.cell 2 _ rfl; replace q3 := XK.out.ob.cell 3 _ rfl; replace q4 := XK.out.ob.cell 4 _ rfl; replace q5 := XK.out.ob.cell 5 _ rfl; replace q6 := XK.out.ob.cell 6 _ rfl; replace q7 := XK.out.ob.cell 7 _ rfl); replace p0 := PK.out.cell 0 _ rfl)
    (go_ret; exact ⟨rfl, XK.out.bel⟩)
  | true =>
    (have RIG : Hid (∀ W, CfgOk W c → Calls Try.prog 39 #[(.agg #[.int .i64 c.cats, .slice c.g.a c.g.l.length c.g.cap, .slice c.r.a c.r.l.length c.r.cap, .slice c.p.a c.p.l.length c.p.cap, .slice c.n.a c.n.l.length c.n.cap, .slice c.s.a c.s.l.length c.s.cap, .int .i64 c.gate, .int .i64 c.quota])] W fun e w' => e = .returned (.bool true) ∧ Below W.heap.size W w') := fun W hc => by rw [← hr]; exact right_any c _ hc)
    by_cases h1 : g < 0
    · have d1 : decide (g < 0) = true := by simp [h1]
      obtain rfl : x = -1 := by rw [HF.out, if_neg (by simp; omega)]
      clear hr HF h1
      (
    have h0 := CX.new h
    go_enter Try.func10, Try.ntmps10
    go_upto_region 1 with fail
    have hsz : (w.alloc (.cells #[.int .i64 c.cats, .slice c.g.a c.g.l.length c.g.cap, .slice c.r.a c.r.l.length c.r.cap, .slice c.p.a c.p.l.length c.p.cap, .slice c.n.a c.n.l.length c.n.cap, .slice c.s.a c.s.l.length c.s.cap, .int .i64 c.gate, .int .i64 c.quota] 28)).heap.size = w.heap.size + 1 := by simp
    generalize w.alloc (.cells #[.int .i64 c.cats, .slice c.g.a c.g.l.length c.g.cap, .slice c.r.a c.r.l.length c.r.cap, .slice c.p.a c.p.l.length c.p.cap, .slice c.n.a c.n.l.length c.n.cap, .slice c.s.a c.s.l.length c.s.cap, .int .i64 c.gate, .int .i64 c.quota] 28) = W1 at h0 hsz ⊢
    have PK : Hid (ObjAt (W1.alloc (.cells #[.int .i64 g] 3)) W1.heap.size 3 [.int .i64 g]) := ObjAt.new W1 _ _
    have XK : Hid (CX w (W1.alloc (.cells #[.int .i64 g] 3)) w.heap.size c) := h0.below ((Below.refl _ _).alloc (Nat.le_refl _) _)
    rw [hsz] at PK
    clear h0 hsz h
    generalize W1.alloc (.cells #[.int .i64 g] 3) = W2 at XK PK ⊢
    generalize w.heap.size + 1 = pb at PK ⊢
    obtain ⟨b0, hb0⟩ : ∃ b, b = w.heap.size := ⟨_, rfl⟩
    rw [← hb0] at XK ⊢
    clear hb0
    (have q0 := XK.out.ob.cell 0 _ rfl; have q1 := XK.out.ob.cell 1 _ rfl; have q2 := XK.out.ob.cell 2 _ rfl; have q3 := XK.out.ob.cell 3 _ rfl; have q4 := XK.out.ob.cell 4 _ rfl; have q5 := XK.out.ob.cell 5 _ rfl; have q6 := XK.out.ob.cell 6 _ rfl; have q7 := XK.out.ob.cell 7 _ rfl)
    have p0 := PK.out.cell 0 _ rfl
)
      go_wp2_with (go_at_call 39; refine (RIG.out _ XK.out.ok).mono ?_; rintro e Wc ⟨rfl, hb⟩; replace XK := Lib.hid (XK.out.below hb); replace PK := Lib.hid (PK.out.below hb); clear hb; (replace q0 := XK.out.ob.cell 0 _ rfl; replace q1 := XK.out.ob.cell 1 _ rfl; replace q2 := XK.out.ob.cell 2 _ rfl; replace q3 := XK.out.ob.cell 3 _ rfl; replace q4 := XK.out.ob.cell 4 _ rfl; replace q5 := XK.out.ob.cell 5 _ rfl; replace q6 := XK.out.ob.cell 6 _ rfl; replace q7 := XK.out.ob.cell 7 _ rfl); replace p0 := PK.out.cell 0 _ rfl)
      (go_ret; exact ⟨rfl, XK.out.bel⟩)
    · have d1 : decide (g < 0) = false := by simp; omega
      have hx : x = (if (fstV (portB c g) c.p.l.length).2 then (fstV (portB c g) c.p.l.length).1 else -1) := by rw [HF.out, if_pos (by simp [hr]; omega)]
      clear hr HF h1
      have HX := Lib.hid hx
      clear hx
      (
    have h0 := CX.new h
    go_enter Try.func10, Try.ntmps10
    go_upto_region 1 with fail
    have hsz : (w.alloc (.cells #[.int .i64 c.cats, .slice c.g.a c.g.l.length c.g.cap, .slice c.r.a c.r.l.length c.r.cap, .slice c.p.a c.p.l.length c.p.cap, .slice c.n.a c.n.l.length c.n.cap, .slice c.s.a c.s.l.length c.s.cap, .int .i64 c.gate, .int .i64 c.quota] 28)).heap.size = w.heap.size + 1 := by simp
    generalize w.alloc (.cells #[.int .i64 c.cats, .slice c.g.a c.g.l.length c.g.cap, .slice c.r.a c.r.l.length c.r.cap, .slice c.p.a c.p.l.length c.p.cap, .slice c.n.a c.n.l.length c.n.cap, .slice c.s.a c.s.l.length c.s.cap, .int .i64 c.gate, .int .i64 c.quota] 28) = W1 at h0 hsz ⊢
    have PK : Hid (ObjAt (W1.alloc (.cells #[.int .i64 g] 3)) W1.heap.size 3 [.int .i64 g]) := ObjAt.new W1 _ _
    have XK : Hid (CX w (W1.alloc (.cells #[.int .i64 g] 3)) w.heap.size c) := h0.below ((Below.refl _ _).alloc (Nat.le_refl _) _)
    rw [hsz] at PK
    clear h0 hsz h
    generalize W1.alloc (.cells #[.int .i64 g] 3) = W2 at XK PK ⊢
    generalize w.heap.size + 1 = pb at PK ⊢
    obtain ⟨b0, hb0⟩ : ∃ b, b = w.heap.size := ⟨_, rfl⟩
    rw [← hb0] at XK ⊢
    clear hb0
    (have q0 := XK.out.ob.cell 0 _ rfl; have q1 := XK.out.ob.cell 1 _ rfl; have q2 := XK.out.ob.cell 2 _ rfl; have q3 := XK.out.ob.cell 3 _ rfl; have q4 := XK.out.ob.cell 4 _ rfl; have q5 := XK.out.ob.cell 5 _ rfl; have q6 := XK.out.ob.cell 6 _ rfl; have q7 := XK.out.ob.cell 7 _ rfl)
    have p0 := PK.out.cell 0 _ rfl
)
      obtain ⟨v, hv⟩ : ∃ v, v = fstV (portB c g) c.p.l.length := ⟨_, rfl⟩
      have FIR : Hid (∀ W, IX w W b0 pb c g → Calls Try.prog 40 #[.int .i64 c.p.l.length, .func (Fn.func 41) #[] #[.pointer (some ⟨b0, 0, none⟩), .pointer (some ⟨pb, 0, none⟩)]] W (fun e W' => e = .returned (.tuple #[.int .i64 v.1, .bool v.2]) ∧ IX w W' b0 pb c g)) := fun W hW => by
        rw [hv]
        exact first2 41 (.pointer (some ⟨b0, 0, none⟩)) (.pointer (some ⟨pb, 0, none⟩)) c.p.l.length hm (portB c g) (fun _ W => IX w W b0 pb c g) (fun W => IX w W b0 pb c g) W (enter_of Try.func41 (by kernel_rfl) rfl) hW (fun _ _ h => h)
          (fun i hi W hW => (portof1_any c g i hi b0 pb w W hW).mono (fun e W' h => ⟨h.1, fun _ => hW.below h.2, hW.below h.2⟩))
      rw [← hv] at HX
      clear hv
      obtain ⟨vi, vb⟩ := v
      cases vb with
      | true =>
        obtain rfl : x = vi := by rw [HX.out]; rfl
        go_wp2_with (first | (go_at_call 39; refine (RIG.out _ XK.out.ok).mono ?_; rintro e Wc ⟨rfl, hb⟩; replace XK := Lib.hid (XK.out.below hb); replace PK := Lib.hid (PK.out.below hb); clear hb; (replace q0 := XK.out.ob.cell 0 _ rfl; replace q1 := XK.out.ob.cell 1 _ rfl; replace q2 := XK.out.ob.cell 2 _ rfl; replace q3 := XK.out.ob.cell 3 _ rfl; replace q4 := XK.out.ob.cell 4 _ rfl; replace q5 := XK.out.ob.cell 5 _ rfl; replace q6 := XK.out.ob.cell 6 _ rfl; replace q7 := XK.out.ob.cell 7 _ rfl); replace p0 := PK.out.cell 0 _ rfl) | (go_at_call 40; refine (FIR.out _ ⟨XK.out, PK.out⟩).mono ?_; rintro e W3 ⟨rfl, hx3⟩; have X3 := Lib.hid hx3; clear hx3))
        go_ret
        exact ⟨rfl, X3.out.1.bel⟩
      | false =>
        obtain rfl : x = -1 := by rw [HX.out]; rfl
        go_wp2_with (first | (go_at_call 39; refine (RIG.out _ XK.out.ok).mono ?_; rintro e Wc ⟨rfl, hb⟩; replace XK := Lib.hid (XK.out.below hb); replace PK := Lib.hid (PK.out.below hb); clear hb; (replace q0 := XK.out.ob.cell 0 _ rfl; replace q1 := XK.out.ob.cell 1 _ rfl; replace q2 := XK.out.ob.cell 2 _ rfl; replace q3 := XK.out.ob.cell 3 _ rfl; replace q4 := XK.out.ob.cell 4 _ rfl; replace q5 := XK.out.ob.cell 5 _ rfl; replace q6 := XK.out.ob.cell 6 _ rfl; replace q7 := XK.out.ob.cell 7 _ rfl); replace p0 := PK.out.cell 0 _ rfl) | (go_at_call 40; refine (FIR.out _ ⟨XK.out, PK.out⟩).mono ?_; rintro e W3 ⟨rfl, hx3⟩; have X3 := Lib.hid hx3; clear hx3))
        go_ret
        exact ⟨rfl, X3.out.1.bel⟩
def rangeB (c : Cv) (g : Int) (i : Nat) : Bool := decide (at_ c.r.l i 1 ≤ g) && decide (g - at_ c.r.l i 1 < at_ c.r.l i 2)
def rangeV (c : Cv) (g : Int) : Int := if rightV c && decide (0 ≤ g) then (if (fstV (rangeB c g) c.r.l.length).2 then (fstV (rangeB c g) c.r.l.length).1 else -1) else -1
/-- All that a right range says. -/
theorem rg_ok (h : Rt c) : ∀ i, i < c.r.l.length → 0 ≤ at_ c.r.l i 1 ∧ at_ c.r.l i 1 ≤ 32 ∧ 1 ≤ at_ c.r.l i 2 ∧ at_ c.r.l i 2 ≤ 32 - at_ c.r.l i 1 := by
  intro i hi
  have := h.r.2 i hi
  simp only [rBad, Bool.or_eq_false_iff] at this
  obtain ⟨_, h2⟩ := this
  unfold giveV at h2
  split at h2
  · rename_i hw
    have := (wellG_iff _ _ _ _).1 hw
    omega
  · simp at h2
theorem rangeof1_any (c : Cv) (g : Int) (hg0 : 0 ≤ g) (hok : ∀ i, i < c.r.l.length → 0 ≤ at_ c.r.l i 1 ∧ at_ c.r.l i 1 ≤ 32 ∧ 1 ≤ at_ c.r.l i 2 ∧ at_ c.r.l i 2 ≤ 32 - at_ c.r.l i 1) (hg1 : g < 9223372036854775808) (i : Nat) (hi : i < c.r.l.length) (b pb : Nat) (w W : World) (h : IX w W b pb c g) : Calls Try.prog 52 #[.int .i64 i, .pointer (some ⟨b, 0, none⟩), .pointer (some ⟨pb, 0, none⟩)] W fun e W' => e = .returned (.bool (rangeB c g i)) ∧ Below W.heap.size W W' := by
  obtain ⟨bx, ox, hax, hcx⟩ := h.1.ok.r.cells (by omega) i hi
  obtain ⟨lb, fr, nn, hrow⟩ := row3 hi h.1.ok.r.len
  have hok1 := hok i hi
  rw [at_eq hi, at_eq hi, hrow] at hok1
  simp only [List.getD_cons_succ, List.getD_cons_zero] at hok1
  rw [hrow] at hcx
  have c0 := hcx _ (Below.refl _ _) 0 _ rfl; have c1 := hcx _ (Below.refl _ _) 1 _ rfl; have c2 := hcx _ (Below.refl _ _) 2 _ rfl
  simp only [Nat.add_zero] at c0
  have kz : (0 : Int) ≤ (i : Int) := by omega
  have kl : (i : Int) < (c.r.l.length : Int) := by omega
  obtain ⟨x, hx⟩ : ∃ x, x = rangeB c g i := ⟨_, rfl⟩
  have HG : Hid (x = (decide (fr ≤ g) && decide (g - fr < nn))) := by rw [Hid, hx, rangeB, at_eq hi, at_eq hi, hrow]; rfl
  rw [← hx]
  have q2 := h.1.ob.cell 2 _ rfl
  have p0 := h.2.cell 0 _ rfl
  have hpb := h.2.lt
  have hpb2 : pb ≠ W.heap.size := by omega
  rw [hax] at q2
  have w1 : IntKind.i64.wrap (g - fr) = g - fr := by rw [IntKind.wrap_i64]; omega
  have HX := Lib.hid h
  clear hx hrow hcx h hax hok1 hok hpb hg0 hg1
  go_enter Try.func52, Try.ntmps52
  go_upto_region 2 with fail
  have R1 : Hid (ObjAt (W.alloc (.cells #[.int .i64 lb, .int .i64 fr, .int .i64 nn] 64)) W.heap.size 64 [.int .i64 lb, .int .i64 fr, .int .i64 nn]) := ObjAt.new W _ _
  have HB : Hid (Below W.heap.size W (W.alloc (.cells #[.int .i64 lb, .int .i64 fr, .int .i64 nn] 64))) := (Below.refl _ _).alloc (Nat.le_refl _) _
  generalize W.alloc (.cells #[.int .i64 lb, .int .i64 fr, .int .i64 nn] 64) = W1 at R1 HB ⊢
  have I1 := Lib.hid (HX.out.below HB.out)
  clear q2 c0 c1 c2 p0 hpb2
  have r1 := R1.out.cell 1 _ rfl; have r2 := R1.out.cell 2 _ rfl
  have p0 := I1.out.2.cell 0 _ rfl
  by_cases h1 : fr ≤ g
  · have d1 : decide (g ≥ fr) = true := by simp [h1]
    by_cases h2 : g - fr < nn
    · have d2 : decide (g - fr < nn) = true := by simp [h2]
      obtain rfl : x = true := by rw [HG.out]; simp [h1, h2]
      clear h1 h2
      go_wp2_with fail
      go_ret
      exact ⟨rfl, HB.out⟩
    · have d2 : decide (g - fr < nn) = false := by simpa using h2
      obtain rfl : x = false := by rw [HG.out]; simp [h1]; omega
      clear h1 h2
      go_wp2_with fail
      go_ret
      exact ⟨rfl, HB.out⟩
  · have d1 : decide (g ≥ fr) = false := by simpa using h1
    obtain rfl : x = false := by rw [HG.out]; simp [h1]
    clear h1
    go_wp2_with fail
    go_ret
    exact ⟨rfl, HB.out⟩
theorem rangeof_any (c : Cv) (g : Int) (hg1 : g < 9223372036854775808) (w : World) (h : CfgOk w c) : Calls Try.prog 26 #[(.agg #[.int .i64 c.cats, .slice c.g.a c.g.l.length c.g.cap, .slice c.r.a c.r.l.length c.r.cap, .slice c.p.a c.p.l.length c.p.cap, .slice c.n.a c.n.l.length c.n.cap, .slice c.s.a c.s.l.length c.s.cap, .int .i64 c.gate, .int .i64 c.quota]), .int .i64 g] w fun e w' => e = .returned (.int .i64 (rangeV c g)) ∧ Below w.heap.size w w' := by
  have HF : Hid (rangeV c g = if rightV c && decide (0 ≤ g) then (if (fstV (rangeB c g) c.r.l.length).2 then (fstV (rangeB c g) c.r.l.length).1 else -1) else -1) := rfl
  obtain ⟨x, hx⟩ : ∃ x, x = rangeV c g := ⟨_, rfl⟩
  rw [← hx] at HF ⊢
  clear hx
  have hm := h.r.mx
  cases hr : rightV c with
  | false =>
    obtain rfl : x = -1 := by rw [HF.out, hr]; rfl
    (have RIG : Hid (∀ W, CfgOk W c → Calls Try.prog 39 #[(.agg #[.int .i64 c.cats, .slice c.g.a c.g.l.length c.g.cap, .slice c.r.a c.r.l.length c.r.cap, .slice c.p.a c.p.l.length c.p.cap, .slice c.n.a c.n.l.length c.n.cap, .slice c.s.a c.s.l.length c.s.cap, .int .i64 c.gate, .int .i64 c.quota])] W fun e w' => e = .returned (.bool false) ∧ Below W.heap.size W w') := fun W hc => by rw [← hr]; exact right_any c _ hc)
    clear hr HF
    (
    have h0 := CX.new h
    go_enter Try.func26, Try.ntmps26
    go_upto_region 1 with fail
    have hsz : (w.alloc (.cells #[.int .i64 c.cats, .slice c.g.a c.g.l.length c.g.cap, .slice c.r.a c.r.l.length c.r.cap, .slice c.p.a c.p.l.length c.p.cap, .slice c.n.a c.n.l.length c.n.cap, .slice c.s.a c.s.l.length c.s.cap, .int .i64 c.gate, .int .i64 c.quota] 28)).heap.size = w.heap.size + 1 := by simp
    generalize w.alloc (.cells #[.int .i64 c.cats, .slice c.g.a c.g.l.length c.g.cap, .slice c.r.a c.r.l.length c.r.cap, .slice c.p.a c.p.l.length c.p.cap, .slice c.n.a c.n.l.length c.n.cap, .slice c.s.a c.s.l.length c.s.cap, .int .i64 c.gate, .int .i64 c.quota] 28) = W1 at h0 hsz ⊢
    have PK : Hid (ObjAt (W1.alloc (.cells #[.int .i64 g] 3)) W1.heap.size 3 [.int .i64 g]) := ObjAt.new W1 _ _
    have XK : Hid (CX w (W1.alloc (.cells #[.int .i64 g] 3)) w.heap.size c) := h0.below ((Below.refl _ _).alloc (Nat.le_refl _) _)
    rw [hsz] at PK
    clear h0 hsz h
    generalize W1.alloc (.cells #[.int .i64 g] 3) = W2 at XK PK ⊢
    generalize w.heap.size + 1 = pb at PK ⊢
    obtain ⟨b0, hb0⟩ : ∃ b, b = w.heap.size := ⟨_, rfl⟩
    rw [← hb0] at XK ⊢
    clear hb0
    (have q0 := XK.out.ob.cell 0 _ rfl; have q1 := XK.out.ob.cell 1 _ rfl; have q2 := XK.out.ob.cell 2 _ rfl; have q3 := XK.out.ob.cell 3 _ rfl; have q4 := XK.out.ob.cell 4 _ rfl; have q5 := XK.out.ob.cell 5 _ rfl; have q6 := XK.out.ob.cell 6 _ rfl; have q7 := XK.out.ob.cell 7 _ rfl)
    have p0 := PK.out.cell 0 _ rfl
)
    go_wp2_with (go_at_call 39; refine (RIG.out _ XK.out.ok).mono ?_; rintro e Wc ⟨rfl, hb⟩; replace XK := Lib.hid (XK.out.below hb); replace PK := Lib.hid (PK.out.below hb); clear hb; (replace q0 := XK.out.ob.cell 0 _ rfl; replace q1 := XK.out.ob.cell 1 _ rfl; replace q2 := XK.out.ob.cell 2 _ rfl; replace q3 := XK.out.ob.cell 3 _ rfl; replace q4 := XK.out.ob.cell 4 _ rfl; replace q5 := XK.out.ob.cell 5 _ rfl; replace q6 := XK.out.ob.cell 6 _ rfl; replace q7 := XK.out.ob.cell 7 _ rfl); replace p0 := PK.out.cell 0 _ rfl)
    (go_ret; exact ⟨rfl, XK.out.bel⟩)
  | true =>
    (have RIG : Hid (∀ W, CfgOk W c → Calls Try.prog 39 #[(.agg #[.int .i64 c.cats, .slice c.g.a c.g.l.length c.g.cap, .slice c.r.a c.r.l.length c.r.cap, .slice c.p.a c.p.l.length c.p.cap, .slice c.n.a c.n.l.length c.n.cap, .slice c.s.a c.s.l.length c.s.cap, .int .i64 c.gate, .int .i64 c.quota])] W fun e w' => e = .returned (.bool true) ∧ Below W.heap.size W w') := fun W hc => by rw [← hr]; exact right_any c _ hc)
    by_cases h1 : g < 0
    · have d1 : decide (g < 0) = true := by simp [h1]
      obtain rfl : x = -1 := by rw [HF.out, if_neg (by simp; omega)]
      clear hr HF h1
      (
    have h0 := CX.new h
    go_enter Try.func26, Try.ntmps26
    go_upto_region 1 with fail
    have hsz : (w.alloc (.cells #[.int .i64 c.cats, .slice c.g.a c.g.l.length c.g.cap, .slice c.r.a c.r.l.length c.r.cap, .slice c.p.a c.p.l.length c.p.cap, .slice c.n.a c.n.l.length c.n.cap, .slice c.s.a c.s.l.length c.s.cap, .int .i64 c.gate, .int .i64 c.quota] 28)).heap.size = w.heap.size + 1 := by simp
    generalize w.alloc (.cells #[.int .i64 c.cats, .slice c.g.a c.g.l.length c.g.cap, .slice c.r.a c.r.l.length c.r.cap, .slice c.p.a c.p.l.length c.p.cap, .slice c.n.a c.n.l.length c.n.cap, .slice c.s.a c.s.l.length c.s.cap, .int .i64 c.gate, .int .i64 c.quota] 28) = W1 at h0 hsz ⊢
    have PK : Hid (ObjAt (W1.alloc (.cells #[.int .i64 g] 3)) W1.heap.size 3 [.int .i64 g]) := ObjAt.new W1 _ _
    have XK : Hid (CX w (W1.alloc (.cells #[.int .i64 g] 3)) w.heap.size c) := h0.below ((Below.refl _ _).alloc (Nat.le_refl _) _)
    rw [hsz] at PK
    clear h0 hsz h
    generalize W1.alloc (.cells #[.int .i64 g] 3) = W2 at XK PK ⊢
    generalize w.heap.size + 1 = pb at PK ⊢
    obtain ⟨b0, hb0⟩ : ∃ b, b = w.heap.size := ⟨_, rfl⟩
    rw [← hb0] at XK ⊢
    clear hb0
    (have q0 := XK.out.ob.cell 0 _ rfl; have q1 := XK.out.ob.cell 1 _ rfl; have q2 := XK.out.ob.cell 2 _ rfl; have q3 := XK.out.ob.cell 3 _ rfl; have q4 := XK.out.ob.cell 4 _ rfl; have q5 := XK.out.ob.cell 5 _ rfl; have q6 := XK.out.ob.cell 6 _ rfl; have q7 := XK.out.ob.cell 7 _ rfl)
    have p0 := PK.out.cell 0 _ rfl
)
      go_wp2_with (go_at_call 39; refine (RIG.out _ XK.out.ok).mono ?_; rintro e Wc ⟨rfl, hb⟩; replace XK := Lib.hid (XK.out.below hb); replace PK := Lib.hid (PK.out.below hb); clear hb; (replace q0 := XK.out.ob.cell 0 _ rfl; replace q1 := XK.out.ob.cell 1 _ rfl; replace q2 := XK.out.ob.cell 2 _ rfl; replace q3 := XK.out.ob.cell 3 _ rfl; replace q4 := XK.out.ob.cell 4 _ rfl; replace q5 := XK.out.ob.cell 5 _ rfl; replace q6 := XK.out.ob.cell 6 _ rfl; replace q7 := XK.out.ob.cell 7 _ rfl); replace p0 := PK.out.cell 0 _ rfl)
      (go_ret; exact ⟨rfl, XK.out.bel⟩)
    · have d1 : decide (g < 0) = false := by simp; omega
      have hx : x = (if (fstV (rangeB c g) c.r.l.length).2 then (fstV (rangeB c g) c.r.l.length).1 else -1) := by rw [HF.out, if_pos (by simp [hr]; omega)]
      have HOK := Lib.hid (rg_ok (rt_of hr))
      have HG0 : Hid (0 ≤ g ∧ g < 9223372036854775808) := ⟨by omega, hg1⟩
      clear hr HF h1 hg1
      have HX := Lib.hid hx
      clear hx
      (
    have h0 := CX.new h
    go_enter Try.func26, Try.ntmps26
    go_upto_region 1 with fail
    have hsz : (w.alloc (.cells #[.int .i64 c.cats, .slice c.g.a c.g.l.length c.g.cap, .slice c.r.a c.r.l.length c.r.cap, .slice c.p.a c.p.l.length c.p.cap, .slice c.n.a c.n.l.length c.n.cap, .slice c.s.a c.s.l.length c.s.cap, .int .i64 c.gate, .int .i64 c.quota] 28)).heap.size = w.heap.size + 1 := by simp
    generalize w.alloc (.cells #[.int .i64 c.cats, .slice c.g.a c.g.l.length c.g.cap, .slice c.r.a c.r.l.length c.r.cap, .slice c.p.a c.p.l.length c.p.cap, .slice c.n.a c.n.l.length c.n.cap, .slice c.s.a c.s.l.length c.s.cap, .int .i64 c.gate, .int .i64 c.quota] 28) = W1 at h0 hsz ⊢
    have PK : Hid (ObjAt (W1.alloc (.cells #[.int .i64 g] 3)) W1.heap.size 3 [.int .i64 g]) := ObjAt.new W1 _ _
    have XK : Hid (CX w (W1.alloc (.cells #[.int .i64 g] 3)) w.heap.size c) := h0.below ((Below.refl _ _).alloc (Nat.le_refl _) _)
    rw [hsz] at PK
    clear h0 hsz h
    generalize W1.alloc (.cells #[.int .i64 g] 3) = W2 at XK PK ⊢
    generalize w.heap.size + 1 = pb at PK ⊢
    obtain ⟨b0, hb0⟩ : ∃ b, b = w.heap.size := ⟨_, rfl⟩
    rw [← hb0] at XK ⊢
    clear hb0
    (have q0 := XK.out.ob.cell 0 _ rfl; have q1 := XK.out.ob.cell 1 _ rfl; have q2 := XK.out.ob.cell 2 _ rfl; have q3 := XK.out.ob.cell 3 _ rfl; have q4 := XK.out.ob.cell 4 _ rfl; have q5 := XK.out.ob.cell 5 _ rfl; have q6 := XK.out.ob.cell 6 _ rfl; have q7 := XK.out.ob.cell 7 _ rfl)
    have p0 := PK.out.cell 0 _ rfl
)
      obtain ⟨v, hv⟩ : ∃ v, v = fstV (rangeB c g) c.r.l.length := ⟨_, rfl⟩
      have FIR : Hid (∀ W, IX w W b0 pb c g → Calls Try.prog 40 #[.int .i64 c.r.l.length, .func (Fn.func 52) #[] #[.pointer (some ⟨b0, 0, none⟩), .pointer (some ⟨pb, 0, none⟩)]] W (fun e W' => e = .returned (.tuple #[.int .i64 v.1, .bool v.2]) ∧ IX w W' b0 pb c g)) := fun W hW => by
        rw [hv]
        exact first2 52 (.pointer (some ⟨b0, 0, none⟩)) (.pointer (some ⟨pb, 0, none⟩)) c.r.l.length hm (rangeB c g) (fun _ W => IX w W b0 pb c g) (fun W => IX w W b0 pb c g) W (enter_of Try.func52 (by kernel_rfl) rfl) hW (fun _ _ h => h)
          (fun i hi W hW => (rangeof1_any c g HG0.out.1 HOK.out HG0.out.2 i hi b0 pb w W hW).mono (fun e W' h => ⟨h.1, fun _ => hW.below h.2, hW.below h.2⟩))
      rw [← hv] at HX
      clear hv
      obtain ⟨vi, vb⟩ := v
      cases vb with
      | true =>
        obtain rfl : x = vi := by rw [HX.out]; rfl
        go_wp2_with (first | (go_at_call 39; refine (RIG.out _ XK.out.ok).mono ?_; rintro e Wc ⟨rfl, hb⟩; replace XK := Lib.hid (XK.out.below hb); replace PK := Lib.hid (PK.out.below hb); clear hb; (replace q0 := XK.out.ob.cell 0 _ rfl; replace q1 := XK.out.ob.cell 1 _ rfl; replace q2 := XK.out.ob.cell 2 _ rfl; replace q3 := XK.out.ob.cell 3 _ rfl; replace q4 := XK.out.ob.cell 4 _ rfl; replace q5 := XK.out.ob.cell 5 _ rfl; replace q6 := XK.out.ob.cell 6 _ rfl; replace q7 := XK.out.ob.cell 7 _ rfl); replace p0 := PK.out.cell 0 _ rfl) | (go_at_call 40; refine (FIR.out _ ⟨XK.out, PK.out⟩).mono ?_; rintro e W3 ⟨rfl, hx3⟩; have X3 := Lib.hid hx3; clear hx3))
        go_ret
        exact ⟨rfl, X3.out.1.bel⟩
      | false =>
        obtain rfl : x = -1 := by rw [HX.out]; rfl
        go_wp2_with (first | (go_at_call 39; refine (RIG.out _ XK.out.ok).mono ?_; rintro e Wc ⟨rfl, hb⟩; replace XK := Lib.hid (XK.out.below hb); replace PK := Lib.hid (PK.out.below hb); clear hb; (replace q0 := XK.out.ob.cell 0 _ rfl; replace q1 := XK.out.ob.cell 1 _ rfl; replace q2 := XK.out.ob.cell 2 _ rfl; replace q3 := XK.out.ob.cell 3 _ rfl; replace q4 := XK.out.ob.cell 4 _ rfl; replace q5 := XK.out.ob.cell 5 _ rfl; replace q6 := XK.out.ob.cell 6 _ rfl; replace q7 := XK.out.ob.cell 7 _ rfl); replace p0 := PK.out.cell 0 _ rfl) | (go_at_call 40; refine (FIR.out _ ⟨XK.out, PK.out⟩).mono ?_; rintro e W3 ⟨rfl, hx3⟩; have X3 := Lib.hid hx3; clear hx3))
        go_ret
        exact ⟨rfl, X3.out.1.bel⟩
end Go.Proofs.Ytmchaaelpbifgaa
