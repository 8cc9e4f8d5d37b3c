/- Chapter 4: configurations as values; the small functions. -/
import Derived.Test.YtoalpdjpljapbaaDoorRowN
import Derived.Test.YtoalpdjpljapbaaDoorCfLab
import Derived.Test.YtoalpdjpljapbaaDoorCfP5
import Derived.Deep.Cut
import Derived.StillTailTactics
import Derived.BigRegion
namespace Go.Proofs.YtoalpdjpljapbaaDoor
set_option linter.unusedVariables false
set_option linter.unusedSimpArgs false
set_option linter.unnecessarySimpa false
open Go.RowKit
set_option maxHeartbeats 2000000
set_option maxRecDepth 100000
set_option linter.unusedVariables false
/-- A slice of rows of ints. -/
structure Sl where
  a : Option Addr
  cap : Nat
  l : List (List Int)
def Sl.val (s : Sl) : Value := .slice s.a s.l.length s.cap
structure SlOk (W : World) (N : Nat) (s : Sl) : Prop where
  rd : Rd W N s.a s.l.length (iF s.l)
  le : s.l.length ≤ s.cap
  cap : s.cap ≤ maxLen
  len : ∀ r ∈ s.l, r.length = N
/-- A configuration. -/
structure Cv where
  cats : Int
  g : Sl
  r : Sl
  p : Sl
  n : Sl
  s : Sl
  gate : Int
  quota : Int
def cfgL (c : Cv) : List Value := [.int .i64 c.cats, .slice c.g.a c.g.l.length c.g.cap, .slice c.r.a c.r.l.length c.r.cap, .slice c.p.a c.p.l.length c.p.cap, .slice c.n.a c.n.l.length c.n.cap, .slice c.s.a c.s.l.length c.s.cap, .int .i64 c.gate, .int .i64 c.quota]
structure CfgOk (W : World) (c : Cv) : Prop where
  g : SlOk W 3 c.g
  r : SlOk W 3 c.r
  p : SlOk W 2 c.p
  n : SlOk W 2 c.n
  s : SlOk W 2 c.s
variable {W W' w : World} {c : Cv} {b N : Nat} {s : Sl}
theorem SlOk.below (h : SlOk W N s) (hb : Below W.heap.size W W') : SlOk W' N s := ⟨h.rd.below hb, h.le, h.cap, h.len⟩
theorem SlOk.mx (h : SlOk W N s) : s.l.length ≤ 9223372036854775807 := by have := h.le; have := h.cap; unfold maxLen at *; omega
theorem CfgOk.below (h : CfgOk W c) (hb : Below W.heap.size W W') : CfgOk W' c := ⟨h.g.below hb, h.r.below hb, h.p.below hb, h.n.below hb, h.s.below hb⟩
/-- A function of a configuration at work: it lies boxed at b. -/
structure CX (w W : World) (b : Nat) (c : Cv) : Prop where
  ob : ObjAt W b 29 (cfgL c)
  ok : CfgOk W c
  bel : Below w.heap.size w W
theorem CX.below (h : CX w W b c) (hb : Below W.heap.size W W') : CX w W' b c := ⟨h.ob.below hb, h.ok.below hb, h.bel.trans (hb.mono h.bel.size)⟩
theorem CX.new (h : CfgOk w c) : CX w (w.alloc (.cells #[.int .i64 c.cats, .slice c.g.a c.g.l.length c.g.cap, .slice c.r.a c.r.l.length c.r.cap, .slice c.p.a c.p.l.length c.p.cap, .slice c.n.a c.n.l.length c.n.cap, .slice c.s.a c.s.l.length c.s.cap, .int .i64 c.gate, .int .i64 c.quota] 29)) w.heap.size c :=
  have hb := (Below.refl w.heap.size w).alloc (Nat.le_refl _) (.cells #[.int .i64 c.cats, .slice c.g.a c.g.l.length c.g.cap, .slice c.r.a c.r.l.length c.r.cap, .slice c.p.a c.p.l.length c.p.cap, .slice c.n.a c.n.l.length c.n.cap, .slice c.s.a c.s.l.length c.s.cap, .int .i64 c.gate, .int .i64 c.quota] 29)
  ⟨ObjAt.new w _ (cfgL c), h.below hb, hb⟩
def isG (c : Cv) (i : Int) : Bool := decide (0 ≤ i) && decide (i < c.g.l.length)
theorem isG_iff (c : Cv) (i : Int) : isG c i = true ↔ 0 ≤ i ∧ i < c.g.l.length := by simp [isG]
theorem guest_any (c : Cv) (i : Int) (w : World) (h : CfgOk w c) : Calls Tryd.prog 63 #[(.agg #[.int .i64 c.cats, .slice c.g.a c.g.l.length c.g.cap, .slice c.r.a c.r.l.length c.r.cap, .slice c.p.a c.p.l.length c.p.cap, .slice c.n.a c.n.l.length c.n.cap, .slice c.s.a c.s.l.length c.s.cap, .int .i64 c.gate, .int .i64 c.quota]), .int .i64 i] w fun e w' => e = .returned (.bool (isG c i)) ∧ Below w.heap.size w w' := by
  have HI : Hid (isG c i = (decide (0 ≤ i) && decide (i < c.g.l.length))) := rfl
  obtain ⟨x, hx⟩ : ∃ x, x = isG c i := ⟨_, rfl⟩
  rw [← hx] at HI ⊢
  have h0 := CX.new h
  have H0 := Lib.hid h0
  clear h0 h hx
  by_cases h0 : 0 ≤ i
  · have d0 : decide (i ≥ 0) = true := by simp [h0]
    by_cases h1 : i < c.g.l.length
    · have d1 : decide (i < c.g.l.length) = true := by simp [h1]
      have hx : x = true := by rw [HI.out]; simp [h0, h1]
      subst hx
      go_enter Tryd.func63, Tryd.ntmps63
      go_upto_region 1 with fail
      (have q0 := H0.out.ob.cell 0 _ rfl; have q1 := H0.out.ob.cell 1 _ rfl; have q2 := H0.out.ob.cell 2 _ rfl; have q3 := H0.out.ob.cell 3 _ rfl; have q4 := H0.out.ob.cell 4 _ rfl; have q5 := H0.out.ob.cell 5 _ rfl; have q6 := H0.out.ob.cell 6 _ rfl; have q7 := H0.out.ob.cell 7 _ rfl)
      go_wp2_with fail
      go_ret
      exact ⟨rfl, H0.out.bel⟩
    · have d1 : decide (i < c.g.l.length) = false := by simpa using h1
      have hx : x = false := by rw [HI.out]; simp [h1]
      subst hx
      go_enter Tryd.func63, Tryd.ntmps63
      go_upto_region 1 with fail
      (have q0 := H0.out.ob.cell 0 _ rfl; have q1 := H0.out.ob.cell 1 _ rfl; have q2 := H0.out.ob.cell 2 _ rfl; have q3 := H0.out.ob.cell 3 _ rfl; have q4 := H0.out.ob.cell 4 _ rfl; have q5 := H0.out.ob.cell 5 _ rfl; have q6 := H0.out.ob.cell 6 _ rfl; have q7 := H0.out.ob.cell 7 _ rfl)
      go_wp2_with fail
      go_ret
      exact ⟨rfl, H0.out.bel⟩
  · have d0 : decide (i ≥ 0) = false := by simp; omega
    have hx : x = false := by rw [HI.out]; simp [h0]
    subst hx
    go_enter Tryd.func63, Tryd.ntmps63
    go_upto_region 1 with fail
    (have q0 := H0.out.ob.cell 0 _ rfl; have q1 := H0.out.ob.cell 1 _ rfl; have q2 := H0.out.ob.cell 2 _ rfl; have q3 := H0.out.ob.cell 3 _ rfl; have q4 := H0.out.ob.cell 4 _ rfl; have q5 := H0.out.ob.cell 5 _ rfl; have q6 := H0.out.ob.cell 6 _ rfl; have q7 := H0.out.ob.cell 7 _ rfl)
    go_wp2_with fail
    go_ret
    exact ⟨rfl, H0.out.bel⟩
/-- The first of n that is so. -/
def fstV (P : Nat → Bool) (n : Nat) : Int × Bool := match (List.range n).find? P with
  | some i => (i, true)
  | none => (0, false)
theorem fstV_hit {P : Nat → Bool} {n k : Nat} (hk : k < n) (h : ∀ j, j < k → P j = false) (hp : P k = true) : fstV P n = ((k : Int), true) := by
  have : (List.range n).find? P = some k := by
    rw [List.find?_range_eq_some]
    exact ⟨hp, List.mem_range.2 hk, fun j hj => by simp [h j hj]⟩
  rw [fstV, this]
theorem fstV_none {P : Nat → Bool} {n : Nat} (h : ∀ j, j < n → P j = false) : fstV P n = (0, false) := by
  have : (List.range n).find? P = none := by
    rw [List.find?_eq_none]; intro x hx; simp [h x (List.mem_range.1 hx)]
  rw [fstV, this]
theorem first1 (f : Nat) (p : Value) (n : Nat) (hn : n ≤ 9223372036854775807) (P : Nat → Bool) (I : Nat → World → Prop) (Q : World → Prop) (w : World) (ENT : ∀ args w, Sem.run Tryd.prog (callFunc f args) w = .ok (.enter f args) w) (hI : I 0 w) (hQ : ∀ i W, I i W → Q W)
    (H : ∀ i : Nat, i < n → ∀ W, I i W → Calls Tryd.prog f #[.int .i64 i, p] W (fun e W' => e = .returned (.bool (P i)) ∧ (P i = false → I (i + 1) W') ∧ Q W')) :
    Calls Tryd.prog 56 #[.int .i64 n, .func (Fn.func f) #[] #[p]] w (fun e W' => e = .returned (.tuple #[.int .i64 (fstV P n).1, .bool (fstV P n).2]) ∧ Q W') := by
  have HE := Lib.hid ENT
  have HH := Lib.hid H
  have HQ := Lib.hid hQ
  have HI := Lib.hid hI
  clear ENT H hQ hI
  go_enter Tryd.func56, Tryd.ntmps56
  go_upto_region 2 with fail
  go_loopw [8] (fun z wr => ∃ k : Nat, k ≤ n ∧ z = .int .i64 k ∧ I k wr ∧ ∀ j, j < k → P j = false) (fun z _ => n - (intOf z).toNat)
  case atStart => exact ⟨0, by omega, rfl, HI.out, fun j hj => by omega⟩
  case round =>
    clear HI
    obtain ⟨k, hk, rfl, hi, hp⟩ := hrel
    have KI := Lib.hid hi
    have KP := Lib.hid hp
    clear hi hp
    by_cases hkn : k < n
    · have d1 : decide ((k : Int) < (n : Int)) = true := by simp; omega
      have w1 : IntKind.i64.wrap ((k : Int) + 1) = (k : Int) + 1 := by rw [IntKind.wrap_i64]; omega
      go_wp2_with fail
      rw [HE.out, Oper.upon_enter]
      refine (HH.out k hkn _ KI.out).mono ?_
      rintro e W2 ⟨rfl, h1, h2⟩
      have N2 := Lib.hid h1
      have Q2 := Lib.hid h2
      clear h1 h2
      cases hpk : P k with
      | false =>
        dsimp only
        go_wp2_with fail
        go_roundw
        case rel => exact ⟨k + 1, by omega, by go_num, N2.out hpk, fun j hj => by
          by_cases hjk : j = k
          · rw [hjk]; exact hpk
          · exact KP.out j (by omega)⟩
        case measure => simp [intOf]; omega
      | true =>
        have hf := fstV_hit hkn KP.out hpk
        have HF := Lib.hid hf
        clear hf
        dsimp only
        go_wp2_with fail
        go_ret2
        exact ⟨by rw [HF.out]; rfl, Q2.out⟩
    · have d1 : decide ((k : Int) < (n : Int)) = false := by simp; omega
      have hf := fstV_none (n := n) (P := P) (fun j hj => KP.out j (by omega))
      have HF := Lib.hid hf
      clear hf
      go_wp2_with fail
      go_ret2
      exact ⟨by rw [HF.out]; rfl, HQ.out _ _ KI.out⟩
theorem first2 (f : Nat) (p q : Value) (n : Nat) (hn : n ≤ 9223372036854775807) (P : Nat → Bool) (I : Nat → World → Prop) (Q : World → Prop) (w : World) (ENT : ∀ args w, Sem.run Tryd.prog (callFunc f args) w = .ok (.enter f args) w) (hI : I 0 w) (hQ : ∀ i W, I i W → Q W)
    (H : ∀ i : Nat, i < n → ∀ W, I i W → Calls Tryd.prog f #[.int .i64 i, p, q] W (fun e W' => e = .returned (.bool (P i)) ∧ (P i = false → I (i + 1) W') ∧ Q W')) :
    Calls Tryd.prog 56 #[.int .i64 n, .func (Fn.func f) #[] #[p, q]] w (fun e W' => e = .returned (.tuple #[.int .i64 (fstV P n).1, .bool (fstV P n).2]) ∧ Q W') := by
  have HE := Lib.hid ENT
  have HH := Lib.hid H
  have HQ := Lib.hid hQ
  have HI := Lib.hid hI
  clear ENT H hQ hI
  go_enter Tryd.func56, Tryd.ntmps56
  go_upto_region 2 with fail
  go_loopw [8] (fun z wr => ∃ k : Nat, k ≤ n ∧ z = .int .i64 k ∧ I k wr ∧ ∀ j, j < k → P j = false) (fun z _ => n - (intOf z).toNat)
  case atStart => exact ⟨0, by omega, rfl, HI.out, fun j hj => by omega⟩
  case round =>
    clear HI
    obtain ⟨k, hk, rfl, hi, hp⟩ := hrel
    have KI := Lib.hid hi
    have KP := Lib.hid hp
    clear hi hp
    by_cases hkn : k < n
    · have d1 : decide ((k : Int) < (n : Int)) = true := by simp; omega
      have w1 : IntKind.i64.wrap ((k : Int) + 1) = (k : Int) + 1 := by rw [IntKind.wrap_i64]; omega
      go_wp2_with fail
      rw [HE.out, Oper.upon_enter]
      refine (HH.out k hkn _ KI.out).mono ?_
      rintro e W2 ⟨rfl, h1, h2⟩
      have N2 := Lib.hid h1
      have Q2 := Lib.hid h2
      clear h1 h2
      cases hpk : P k with
      | false =>
        dsimp only
        go_wp2_with fail
        go_roundw
        case rel => exact ⟨k + 1, by omega, by go_num, N2.out hpk, fun j hj => by
          by_cases hjk : j = k
          · rw [hjk]; exact hpk
          · exact KP.out j (by omega)⟩
        case measure => simp [intOf]; omega
      | true =>
        have hf := fstV_hit hkn KP.out hpk
        have HF := Lib.hid hf
        clear hf
        dsimp only
        go_wp2_with fail
        go_ret2
        exact ⟨by rw [HF.out]; rfl, Q2.out⟩
    · have d1 : decide ((k : Int) < (n : Int)) = false := by simp; omega
      have hf := fstV_none (n := n) (P := P) (fun j hj => KP.out j (by omega))
      have HF := Lib.hid hf
      clear hf
      go_wp2_with fail
      go_ret2
      exact ⟨by rw [HF.out]; rfl, HQ.out _ _ KI.out⟩
def sumG (l : List (List Int)) : Int := (l.map fun r => r.getD 1 0 + r.getD 2 0).sum
theorem sumG_take (l : List (List Int)) (k : Nat) (hk : k < l.length) : sumG (l.take (k + 1)) = sumG (l.take k) + (l[k].getD 1 0 + l[k].getD 2 0) := by
  rw [List.take_add_one, List.getElem?_eq_getElem hk]
  simp only [sumG, List.map_append, List.sum_append, Option.toList_some, List.map_cons, List.map_nil, List.sum_cons, List.sum_nil, Int.add_zero]
def GRow (r : List Int) : Prop := 1 ≤ r.getD 1 0 ∧ r.getD 1 0 ≤ 8 ∧ 0 ≤ r.getD 2 0 ∧ r.getD 2 0 ≤ 8
theorem sumG_bound : ∀ (l : List (List Int)), (∀ r ∈ l, GRow r) → 0 ≤ sumG l ∧ sumG l ≤ 16 * l.length
  | [], _ => by simp [sumG]
  | r :: l, h => by
    have h1 := h r (by simp)
    have h2 := sumG_bound l (fun r' hr => h r' (by simp [hr]))
    unfold GRow at h1
    simp only [sumG, List.map_cons, List.sum_cons, List.length_cons] at h2 ⊢
    omega
theorem sumG_takeb (l : List (List Int)) (h : ∀ r ∈ l, GRow r) (k : Nat) (hk : k ≤ l.length) : 0 ≤ sumG (l.take k) ∧ sumG (l.take k) ≤ 16 * k := by
  have := sumG_bound (l.take k) (fun r hr => h r (List.mem_of_mem_take hr))
  rw [List.length_take] at this
  omega
theorem row3 {l : List (List Int)} {k : Nat} (hk : k < l.length) (h : ∀ r ∈ l, r.length = 3) : ∃ x y z, l[k] = [x, y, z] := by
  have := h _ (List.getElem_mem hk)
  match hq : l[k], this with
  | [x, y, z], _ => exact ⟨x, y, z, rfl⟩
theorem row2 {l : List (List Int)} {k : Nat} (hk : k < l.length) (h : ∀ r ∈ l, r.length = 2) : ∃ x y, l[k] = [x, y] := by
  have := h _ (List.getElem_mem hk)
  match hq : l[k], this with
  | [x, y], _ => exact ⟨x, y, rfl⟩
theorem SlOk.cells {N : Nat} {s : Sl} {W : World} (h : SlOk W N s) (hN : 0 < N) (k : Nat) (hk : k < s.l.length) : ∃ b o, s.a = some ⟨b, o, none⟩ ∧ ∀ W', Below W.heap.size W W' → ∀ j x, (s.l[k])[j]? = some x → W'.cell? ⟨b, o + k * N + j, none⟩ = some (.int .i64 x) := by
  obtain ⟨b, o, h1, _, h2⟩ := rowN_at h.rd h.len hN k hk
  refine ⟨b, o, h1, fun W' hb j x hx => ?_⟩
  have := h2 j x hx
  rw [hb.cell (p := ⟨b, o + k * N + j, none⟩) (World.block_lt_of_cell? _ _ this)]; exact this
def needV (c : Cv) : Int := c.n.l.length + sumG c.g.l
structure GOk (c : Cv) : Prop where
  g : c.g.l.length ≤ 4
  n : c.n.l.length ≤ 4
  row : ∀ r ∈ c.g.l, GRow r
theorem need_any (c : Cv) (hg : GOk c) (w : World) (h : CfgOk w c) : Calls Tryd.prog 36 #[(.agg #[.int .i64 c.cats, .slice c.g.a c.g.l.length c.g.cap, .slice c.r.a c.r.l.length c.r.cap, .slice c.p.a c.p.l.length c.p.cap, .slice c.n.a c.n.l.length c.n.cap, .slice c.s.a c.s.l.length c.s.cap, .int .i64 c.gate, .int .i64 c.quota])] w fun e w' => e = .returned (.int .i64 (needV c)) ∧ Below w.heap.size w w' := by
  have HG := Lib.hid hg
  have HC := Lib.hid h
  clear hg
  (have h0 := CX.new h; go_enter Tryd.func36, Tryd.ntmps36; go_upto_region 1 with fail; generalize w.alloc (.cells #[.int .i64 c.cats, .slice c.g.a c.g.l.length c.g.cap, .slice c.r.a c.r.l.length c.r.cap, .slice c.p.a c.p.l.length c.p.cap, .slice c.n.a c.n.l.length c.n.cap, .slice c.s.a c.s.l.length c.s.cap, .int .i64 c.gate, .int .i64 c.quota] 29) = W1 at h0 ⊢; generalize w.heap.size = b0 at h0 ⊢; have H0 := Lib.hid h0; clear h0 h)
  (have q0 := H0.out.ob.cell 0 _ rfl; have q1 := H0.out.ob.cell 1 _ rfl; have q2 := H0.out.ob.cell 2 _ rfl; have q3 := H0.out.ob.cell 3 _ rfl; have q4 := H0.out.ob.cell 4 _ rfl; have q5 := H0.out.ob.cell 5 _ rfl; have q6 := H0.out.ob.cell 6 _ rfl; have q7 := H0.out.ob.cell 7 _ rfl)
  go_upto_region 3 with fail
  clear q0 q1 q2 q3 q4 q5 q6 q7
  go_loopw [3, 12] (fun g3 g12 wr => ∃ k : Nat, k ≤ c.g.l.length ∧ g12 = .int .i64 k ∧ g3 = .int .i64 (c.n.l.length + sumG (c.g.l.take k)) ∧ Below W1.heap.size W1 wr) (fun _ g12 _ => c.g.l.length - (intOf g12).toNat)
  case atStart => exact ⟨0, by omega, rfl, by simp [sumG], Below.refl _ _⟩
  case round =>
    obtain ⟨k, hk, rfl, rfl, hb⟩ := hrel
    have HB := Lib.hid hb
    obtain ⟨sk, hsk⟩ : ∃ x, x = c.n.l.length + sumG (c.g.l.take k) := ⟨_, rfl⟩
    rw [← hsk]
    have HS := Lib.hid hsk
    by_cases hkl : k < c.g.l.length
    · have d1 : decide ((k : Int) < (c.g.l.length : Int)) = true := by simp; omega
      have kz : (0 : Int) ≤ (k : Int) := by omega
      have kl : (k : Int) < (c.g.l.length : Int) := by omega
      have w1 : IntKind.i64.wrap ((k : Int) + 1) = (k : Int) + 1 := by have := HG.out.g; rw [IntKind.wrap_i64]; omega
      obtain ⟨bx, ox, hax, hcx⟩ := HC.out.g.cells (by omega) k hkl
      obtain ⟨x, y, z, hrow⟩ := row3 hkl HC.out.g.len
      have hgr := HG.out.row _ (List.getElem_mem hkl)
      have hst := sumG_take c.g.l k hkl
      have hsb := sumG_takeb c.g.l HG.out.row k (by omega)
      rw [hrow] at hcx hgr hst
      simp only [GRow, List.getD_cons_succ, List.getD_cons_zero] at hgr hst
      have HST := Lib.hid hst
      have hb2 := H0.out.bel.trans (HB.out.mono H0.out.bel.size)
      have c0 := hcx _ hb2 0 _ rfl; have c1 := hcx _ hb2 1 _ rfl; have c2 := hcx _ hb2 2 _ rfl
      simp only [Nat.add_zero] at c0
      have hgl := HG.out.g; have hnl := HG.out.n
      have w2 : IntKind.i64.wrap (y + z) = y + z := by rw [IntKind.wrap_i64]; omega
      have w3 : IntKind.i64.wrap (sk + (y + z)) = sk + (y + z) := by rw [IntKind.wrap_i64]; omega
      have HAX := Lib.hid hax
      rw [hax]
      clear hb hb2 hcx hrow hgr hst hsb hsk hgl hnl hax
      go_wp2_with fail
      go_roundw
      case rel => exact ⟨k + 1, by omega, by go_num, by rw [HST.out, HS.out]; congr 1; omega, HB.out.alloc HB.out.size _⟩
      case measure => simp [intOf]; omega
    · have d1 : decide ((k : Int) < (c.g.l.length : Int)) = false := by simp; omega
      go_wp2_with fail
      go_ret
      have hkk : k = c.g.l.length := by omega
      refine ⟨?_, H0.out.bel.trans (HB.out.mono H0.out.bel.size)⟩
      rw [HS.out, hkk, List.take_length]; rfl
end Go.Proofs.YtoalpdjpljapbaaDoor
