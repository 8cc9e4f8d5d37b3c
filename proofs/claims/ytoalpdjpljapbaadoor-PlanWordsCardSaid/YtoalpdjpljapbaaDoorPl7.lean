/- Package plan: Parse. -/
import Derived.Test.YtoalpdjpljapbaaDoorPl6
import Derived.Test.YtoalpdjpljapbaaDoorCf6
namespace Go.Proofs.YtoalpdjpljapbaaDoor
set_option linter.unusedVariables false
set_option linter.unusedSimpArgs false
set_option linter.unnecessarySimpa false
open Go.RowKit Go.Sort
set_option maxHeartbeats 4000000
set_option maxRecDepth 100000
set_option linter.unusedVariables false
def slE (l : List (List Int)) : Sl := ⟨none, 0, l⟩
def cvOf (c : Pc) : Cv := ⟨c.cats, slE c.g, slE c.r, slE c.p, slE c.n, slE c.s, c.gate, c.quota⟩
def chkP (c : Pc) : Int := (chkV (cvOf c)).1
theorem stRg_pc (c : Cv) : ∀ i, stRg c i = stRg (cvOf (pcOf c)) i
  | 0 => rfl
  | i + 1 => by unfold stRg; rw [stRg_pc c i]; rfl
theorem rBad_pc (c : Cv) : rBad c = rBad (cvOf (pcOf c)) := by
  funext i
  unfold rBad
  rw [stRg_pc c i]; rfl
theorem rFst_pc (c : Cv) : rFst c = rFst (cvOf (pcOf c)) := by
  unfold rFst; rw [rBad_pc]; rfl
theorem rule_pc (c : Cv) (k : Nat) : ruleV c k = ruleV (cvOf (pcOf c)) k := by
  unfold ruleV
  split
  · rfl
  · exact rFst_pc c
  · rfl
  · rfl
  · rfl
  · rfl
theorem chk_pc (c : Cv) : chkV c = chkV (cvOf (pcOf c)) := by
  have e : (fun k => (ruleV c k).2) = fun k => (ruleV (cvOf (pcOf c)) k).2 := funext fun k => by rw [rule_pc]
  by_cases h : c.cats < 0 ∨ 8 < c.cats
  · rw [chkV, chkV, if_pos h, if_pos (show (cvOf (pcOf c)).cats < 0 ∨ 8 < (cvOf (pcOf c)).cats from h)]
  · rw [chkV, chkV, if_neg h, if_neg (show ¬ ((cvOf (pcOf c)).cats < 0 ∨ 8 < (cvOf (pcOf c)).cats) from h), e]
    split
    · rw [rule_pc]
    · rfl
theorem chkP_of (c : Cv) : (chkV c).1 = chkP (pcOf c) := by rw [chk_pc]; rfl
def pcZ : Pc := ⟨0, [], [], [], [], [], 0, 0⟩
def pcN : Pc := ⟨0, [], [], [], [], [], -1, 0⟩
def cvN : Cv := cvOf pcN
def cvZ : Cv := cvOf pcZ
/-- What k lines leave. -/
def stP (L : List (List UInt8)) : Nat → Option (Pc × Int)
  | 0 => some (pcN, -1)
  | k + 1 => (stP L k).bind fun st => lineV st.1 st.2 (decide (k = 0)) (L.getD k [])
def badP (L : List (List UInt8)) : Option Nat := (List.range L.length).find? fun k => (stP L (k + 1)).isNone
def endP (L : List (List UInt8)) : Pc × Int × Int := match stP L L.length with
  | some st => if chkP st.1 = 0 then (st.1, 0, 0) else (pcZ, chkP st.1, 0)
  | none => (pcZ, 6, 0)
def psV (s : List UInt8) : Pc × Int × Int :=
  if 16384 < s.length then (pcZ, 10, 0) else
  match badP (fieldsC 10 s).dropLast with
  | some k => (pcZ, 6, (k : Int) + 1)
  | none => if (fieldsC 10 s).dropLast.length = 0 ∨ (fieldsC 10 s).getLast? ≠ some [] then (pcZ, 6, ((fieldsC 10 s).dropLast.length : Int) + 1) else endP (fieldsC 10 s).dropLast
theorem stP_mono {L : List (List UInt8)} {k : Nat} (h : stP L k = none) : ∀ j, k ≤ j → stP L j = none := by
  intro j hj
  induction j with
  | zero => rw [show k = 0 by omega] at h; exact h
  | succ j ih =>
    by_cases e : k = j + 1
    · subst e; exact h
    · unfold stP; rw [ih (by omega)]; rfl
theorem badP_some {L : List (List UInt8)} {k : Nat} (hk : k < L.length) (h0 : stP L k ≠ none) (h1 : stP L (k + 1) = none) : badP L = some k := by
  rw [badP, List.find?_range_eq_some]
  refine ⟨by simp [h1], List.mem_range.2 hk, fun j hj => ?_⟩
  cases hx : stP L (j + 1) with
  | none => exact absurd (stP_mono hx k (by omega)) h0
  | some v => rfl
theorem badP_none {L : List (List UInt8)} (h : stP L L.length ≠ none) : badP L = none := by
  rw [badP, List.find?_eq_none]
  intro j hj
  have hj := List.mem_range.1 hj
  cases hx : stP L (j + 1) with
  | none => exact absurd (stP_mono hx _ (by omega)) h
  | some v => simp
theorem psV_long {s : List UInt8} (h : 16384 < s.length) : psV s = (pcZ, 10, 0) := by rw [psV, if_pos h]
theorem psV_bad {s : List UInt8} {k : Nat} (h : ¬ 16384 < s.length) (hk : badP (fieldsC 10 s).dropLast = some k) : psV s = (pcZ, 6, (k : Int) + 1) := by rw [psV, if_neg h, hk]
theorem psV_none {s : List UInt8} (h : ¬ 16384 < s.length) (hk : badP (fieldsC 10 s).dropLast = none) (he : (fieldsC 10 s).dropLast.length = 0 ∨ (fieldsC 10 s).getLast? ≠ some []) : psV s = (pcZ, 6, ((fieldsC 10 s).dropLast.length : Int) + 1) := by
  rw [psV, if_neg h, hk]; simp only; rw [if_pos he]
theorem psV_end {s : List UInt8} (h : ¬ 16384 < s.length) (hk : badP (fieldsC 10 s).dropLast = none) (he : ¬ ((fieldsC 10 s).dropLast.length = 0 ∨ (fieldsC 10 s).getLast? ≠ some [])) : psV s = endP (fieldsC 10 s).dropLast := by
  rw [psV, if_neg h, hk]; simp only; rw [if_neg he]
theorem endP_no {L : List (List UInt8)} {c : Pc} {l : Int} (h : stP L L.length = some (c, l)) (he : chkP c ≠ 0) : endP L = (pcZ, chkP c, 0) := by rw [endP, h]; simp only; rw [if_neg he]
theorem endP_yes {L : List (List UInt8)} {c : Pc} {l : Int} (h : stP L L.length = some (c, l)) (he : chkP c = 0) : endP L = (c, 0, 0) := by rw [endP, h]; simp only; rw [if_pos he]
/-- At most k of each. -/
def LenP (k : Nat) (c : Pc) : Prop := c.g.length ≤ k ∧ c.r.length ≤ k ∧ c.p.length ≤ k ∧ c.n.length ≤ k ∧ c.s.length ≤ k
theorem setV_len {k : Nat} {c : Pc} (h : LenP k c) (j : Nat) (row : List Int) : LenP (k + 1) (setV c j row) := by
  obtain ⟨h1, h2, h3, h4, h5⟩ := h
  unfold setV LenP
  split <;> simp only [List.length_append, List.length_singleton] <;> refine ⟨?_, ?_, ?_, ?_, ?_⟩ <;> omega
theorem lineV_len {k : Nat} {c c' : Pc} {last last' : Int} {b : Bool} {s : List UInt8} (h : LenP k c) (he : lineV c last b s = some (c', last')) : LenP (k + 1) c' := by
  unfold lineV at he
  split at he
  · rw [Option.map_eq_some_iff] at he
    obtain ⟨row, _, e⟩ := he
    injection e with e1 e2
    rw [← e1]; exact setV_len h _ _
  · cases he
def PsPost (s : List UInt8) (w : World) (e : Ending) (w' : World) : Prop :=
  ∃ c : Cv, e = .returned (.tuple #[(.agg #[.int .i64 c.cats, .slice c.g.a c.g.l.length c.g.cap, .slice c.r.a c.r.l.length c.r.cap, .slice c.p.a c.p.l.length c.p.cap, .slice c.n.a c.n.l.length c.n.cap, .slice c.s.a c.s.l.length c.s.cap, .int .i64 c.gate, .int .i64 c.quota]), .int .i64 (psV s).2.1, .int .i64 (psV s).2.2]) ∧ CfgOk w' c ∧ pcOf c = (psV s).1 ∧ Below w.heap.size w w'
theorem slE_nil (W : World) (N : Nat) : SlOk W N (slE []) := ⟨⟨by simp [slE, iF], fun _ => rfl, fun p hp => by cases hp⟩, Nat.le_refl _, by unfold maxLen slE; simp, fun r hr => by cases hr⟩
theorem cvZ_ok (W : World) : CfgOk W cvZ := ⟨slE_nil W 3, slE_nil W 3, slE_nil W 2, slE_nil W 2, slE_nil W 2⟩
theorem ps_zero {s : List UInt8} {w w' : World} {e at_ : Int} (h : psV s = (pcZ, e, at_)) (hb : Below w.heap.size w w') : PsPost s w (.returned (.tuple #[.agg #[.int .i64 0, .slice none 0 0, .slice none 0 0, .slice none 0 0, .slice none 0 0, .slice none 0 0, .int .i64 0, .int .i64 0], .int .i64 e, .int .i64 at_])) w' :=
  ⟨cvZ, by rw [h]; rfl, cvZ_ok w', by rw [h]; rfl, hb⟩
theorem ps_good {s : List UInt8} {w w' : World} {c : Cv} (h : psV s = (pcOf c, 0, 0)) (hc : CfgOk w' c) (hb : Below w.heap.size w w') : PsPost s w (.returned (.tuple #[(.agg #[.int .i64 c.cats, .slice c.g.a c.g.l.length c.g.cap, .slice c.r.a c.r.l.length c.r.cap, .slice c.p.a c.p.l.length c.p.cap, .slice c.n.a c.n.l.length c.n.cap, .slice c.s.a c.s.l.length c.s.cap, .int .i64 c.gate, .int .i64 c.quota]), .int .i64 0, .int .i64 0])) w' :=
  ⟨c, by rw [h], hc, by rw [h], hb⟩
theorem rd_start (W : World) : RD W W.heap.size cvN (-1) (W.alloc (.cells #[.int .i64 0, .slice none 0 0, .slice none 0 0, .slice none 0 0, .slice none 0 0, .slice none 0 0, .int .i64 (-1), .int .i64 0, .int .i64 (-1)] 51)) :=
  ⟨(Below.refl _ _).alloc (Nat.le_refl _) _, Nat.le_refl _, ObjAt.new W _ [.int .i64 0, .slice none 0 0, .slice none 0 0, .slice none 0 0, .slice none 0 0, .slice none 0 0, .int .i64 (-1), .int .i64 0, .int .i64 (-1)], Own.nil _ _ _ _, Own.nil _ _ _ _, Own.nil _ _ _ _, Own.nil _ _ _ _, Own.nil _ _ _ _, (fun x hx => by cases hx), (fun x hx => by cases hx), (fun x hx => by cases hx), (fun x hx => by cases hx), (fun x hx => by cases hx)⟩
theorem ln_out {w : World} {rb : Nat} {c : Cv} {last : Int} {b : Bool} {s : List UInt8} {e : Ending} {w' : World} (h : LnPost w rb c last b s e w') :
    (e = .returned (.bool false) ∧ lineV (pcOf c) last b s = none ∧ Below w.heap.size w w') ∨ (e = .returned (.bool true) ∧ ∃ c' l', lineV (pcOf c) last b s = some (pcOf c', l') ∧ RD w rb c' l' w') := by
  unfold LnPost at h
  cases hv : lineV (pcOf c) last b s with
  | none => rw [hv] at h; exact Or.inl ⟨h.1, rfl, h.2⟩
  | some r => rw [hv] at h; obtain ⟨h1, c', h2, h3⟩ := h; exact Or.inr ⟨h1, c', r.2, by rw [h2], h3⟩
/-- The reader after k lines. -/
structure QP (L : List (List UInt8)) (w1 : World) (rb k : Nat) (c : Cv) (last : Int) (W : World) : Prop where
  st : stP L k = some (pcOf c, last)
  len : LenP k (pcOf c)
  rd : RD w1 rb c last W
theorem QP.few {L : List (List UInt8)} {w1 W : World} {rb k : Nat} {c : Cv} {last : Int} (h : QP L w1 rb k c last W) (hk : k ≤ 100000) : FewC c := by
  have h1 : c.g.l.length ≤ k := h.len.1
  have h2 : c.r.l.length ≤ k := h.len.2.1
  have h3 : c.p.l.length ≤ k := h.len.2.2.1
  have h4 : c.n.l.length ≤ k := h.len.2.2.2.1
  have h5 : c.s.l.length ≤ k := h.len.2.2.2.2
  exact ⟨by omega, by omega, by omega, by omega, by omega⟩
theorem QP.next {L : List (List UInt8)} {w1 W : World} {rb k : Nat} {c : Cv} {last : Int} {x : List UInt8} (h : QP L w1 rb k c last W) (hx : L.getD k [] = x) {c' : Cv} {l' : Int} (he : lineV (pcOf c) last (decide (k = 0)) x = some (pcOf c', l')) {W' : World} (hr : RD w1 rb c' l' W') : QP L w1 rb (k + 1) c' l' W' :=
  ⟨by unfold stP; rw [h.st]; simp only [Option.bind_some]; rw [hx]; exact he, lineV_len h.len he, hr⟩
theorem QP.stop {L : List (List UInt8)} {w1 W : World} {rb k : Nat} {c : Cv} {last : Int} {x : List UInt8} (h : QP L w1 rb k c last W) (hx : L.getD k [] = x) (he : lineV (pcOf c) last (decide (k = 0)) x = none) : stP L k ≠ none ∧ stP L (k + 1) = none :=
  ⟨by rw [h.st]; simp, by unfold stP; rw [h.st]; simp only [Option.bind_some]; rw [hx]; exact he⟩
theorem RD.other {w W W' : World} {rb b : Nat} {c : Cv} {last : Int} {cs : List Value} (h : RD w rb c last W) (ho : ObjAt W b 29 cs) (hu : Upd b W W') : CfgOk W' c :=
  have g := h.g.upd hu (h.g.ne ho (by decide))
  have r := h.r.upd hu (h.r.ne ho (by decide))
  have p := h.p.upd hu (h.p.ne ho (by decide))
  have n := h.n.upd hu (h.n.ne ho (by decide))
  have s := h.s.upd hu (h.s.ne ho (by decide))
  ⟨⟨g.rd, g.le, g.capMax, h.lg⟩, ⟨r.rd, r.le, r.capMax, h.lr⟩, ⟨p.rd, p.le, p.capMax, h.lp⟩, ⟨n.rd, n.le, n.capMax, h.ln⟩, ⟨s.rd, s.le, s.capMax, h.ls⟩⟩
theorem upd_put {b k : Nat} {x y : World} {v : Value} (h : Upd b x y) : Upd b x (y.setCell ⟨b, k, none⟩ v) := h.trans (Upd.setCell y ⟨b, k, none⟩ v)
theorem pparse_any (s : ByteArray) (hs : s.size ≤ maxLen) (w : World) (hT : WdTab w) : Calls Tryd.prog 7 #[.string s] w (PsPost s.data.toList w) := by
  obtain ⟨l, hl⟩ : ∃ l, l = s.data.toList := ⟨_, rfl⟩
  have hsl : l.length = s.size := by rw [hl, ba_len]
  rw [← hl]
  obtain ⟨w0, hw0⟩ : ∃ w0, w0 = w.alloc (.cells #[.int .i64 0, .slice none 0 0, .slice none 0 0, .slice none 0 0, .slice none 0 0, .slice none 0 0, .int .i64 0, .int .i64 0] 29) := ⟨_, rfl⟩
  have HO0 : Hid (ObjAt w0 w.heap.size 29 #[.int .i64 0, .slice none 0 0, .slice none 0 0, .slice none 0 0, .slice none 0 0, .slice none 0 0, .int .i64 0, .int .i64 0].toList) := by rw [hw0]; exact ObjAt.new w _ _
  have HB0 : Hid (Below w.heap.size w w0) := by rw [hw0]; exact (Below.refl _ _).alloc (Nat.le_refl _) _
  have HW0 := Lib.hid hw0
  obtain ⟨P, hP⟩ : ∃ P, P = PsPost l w := ⟨_, rfl⟩
  have HZ : Hid (∀ e at_ w', psV l = (pcZ, e, at_) → Below w.heap.size w w' → P (.returned (.tuple #[.agg #[.int .i64 0, .slice none 0 0, .slice none 0 0, .slice none 0 0, .slice none 0 0, .slice none 0 0, .int .i64 0, .int .i64 0], .int .i64 e, .int .i64 at_])) w') := fun e at_ w' h hb => by rw [hP]; exact ps_zero h hb
  have HG : Hid (∀ c w', psV l = (pcOf c, 0, 0) → CfgOk w' c → Below w.heap.size w w' → P (.returned (.tuple #[(.agg #[.int .i64 c.cats, .slice c.g.a c.g.l.length c.g.cap, .slice c.r.a c.r.l.length c.r.cap, .slice c.p.a c.p.l.length c.p.cap, .slice c.n.a c.n.l.length c.n.cap, .slice c.s.a c.s.l.length c.s.cap, .int .i64 c.gate, .int .i64 c.quota]), .int .i64 0, .int .i64 0])) w') := fun c w' h hc hb => by rw [hP]; exact ps_good h hc hb
  rw [← hP]
  clear hP hw0
  unfold maxLen at hs
  by_cases h16 : 16384 < s.size
  · have d1 : decide ((s.size : Int) > 16384) = true := decide_eq_true (by omega)
    have d1' : decide (16384 < s.size) = true := decide_eq_true h16
    have HZ := fun w' h => Lib.hid (HZ.out 10 0 w' (psV_long (by omega)) h)
    clear h16 hl hsl hT HG
    go_enter Tryd.func7, Tryd.ntmps7
    go_upto_region 1 with fail
    rw [← HW0.out]
    have hO0 := HO0.out
    have s6 := hO0.lt
    have a0 := (hO0).cell 0 _ rfl; have a1 := (hO0).cell 1 _ rfl; have a2 := (hO0).cell 2 _ rfl; have a3 := (hO0).cell 3 _ rfl; have a4 := (hO0).cell 4 _ rfl; have a5 := (hO0).cell 5 _ rfl; have a6 := (hO0).cell 6 _ rfl; have a7 := (hO0).cell 7 _ rfl; have g0 := (hO0).free 0; have g1 := (hO0).free 1; have g2 := (hO0).free 2; have g3 := (hO0).free 3; have g4 := (hO0).free 4; have g5 := (hO0).free 5; have g6 := (hO0).free 6; have g7 := (hO0).free 7
    clear hO0
    go_wp2_with fail
    (refine bodyPost_ret (v := .tuple #[.agg #[.int .i64 0, .slice none 0 0, .slice none 0 0, .slice none 0 0, .slice none 0 0, .slice none 0 0, .int .i64 0, .int .i64 0], .int .i64 10, .int .i64 0]) (by simp [results, Tryd.results7, go_sem, a0, a1, a2, a3, a4, a5, a6, a7, s6]) rfl ?_)
    exact (HZ _ ((((((((HB0.out.setCell (Nat.le_refl _) _).setCell (Nat.le_refl _) _).setCell (Nat.le_refl _) _).setCell (Nat.le_refl _) _).setCell (Nat.le_refl _) _).setCell (Nat.le_refl _) _).setCell (Nat.le_refl _) _).setCell (Nat.le_refl _) _)).out
  · have d1 : decide ((s.size : Int) > 16384) = false := decide_eq_false (by omega)
    have d1' : decide (16384 < s.size) = false := decide_eq_false h16
    obtain ⟨F, hF⟩ : ∃ F, F = fieldsC 10 l := ⟨_, rfl⟩
    have hne : F ≠ [] := by rw [hF]; exact fieldsC_ne 10 _
    have hfl : F.length ≤ s.size + 1 := by
      rw [hF, fieldsC_len, ← hsl]
      have := List.count_le_length (a := (10 : UInt8)) (l := l); omega
    obtain ⟨L, hL⟩ : ∃ L, L = F.dropLast := ⟨_, rfl⟩
    obtain ⟨m, hm⟩ : ∃ m, F.length = m + 1 := by cases F with
      | nil => exact absurd rfl hne
      | cons x r => exact ⟨r.length, rfl⟩
    obtain ⟨x, hx⟩ : ∃ x, F[m]? = some x := ⟨_, List.getElem?_eq_getElem (by omega)⟩
    have hLm : L.length = m := by rw [hL, List.length_dropLast, hm]; rfl
    have hlast : F.getLast? = some x := by rw [List.getLast?_eq_getElem?, hm]; exact hx
    have HBAD : Hid (∀ k w', k < m → stP L k ≠ none → stP L (k + 1) = none → Below w.heap.size w w' → P (.returned (.tuple #[.agg #[.int .i64 0, .slice none 0 0, .slice none 0 0, .slice none 0 0, .slice none 0 0, .slice none 0 0, .int .i64 0, .int .i64 0], .int .i64 6, .int .i64 ((k : Int) + 1)])) w') := fun k w' hk h0 h1 hb =>
      HZ.out _ _ _ (psV_bad (by omega) (by rw [← hF, ← hL]; exact badP_some (by omega) h0 h1)) hb
    have HNO : Hid (∀ w', stP L m ≠ none → (m = 0 ∨ x ≠ []) → Below w.heap.size w w' → P (.returned (.tuple #[.agg #[.int .i64 0, .slice none 0 0, .slice none 0 0, .slice none 0 0, .slice none 0 0, .slice none 0 0, .int .i64 0, .int .i64 0], .int .i64 6, .int .i64 ((m : Int) + 1)])) w') := fun w' h0 h1 hb =>
      HZ.out _ _ _ (by
        have := psV_none (s := l) (by omega) (by rw [← hF, ← hL]; exact badP_none (by rw [hLm]; exact h0)) (by
          rw [← hF, ← hL, hLm, hlast]
          rcases h1 with h1 | h1
          · exact Or.inl h1
          · exact Or.inr (by intro e; injection e with e; exact h1 e))
        rw [← hF, ← hL, hLm] at this; exact this) hb
    have HPS : Hid (∀ c last, stP L m = some (pcOf c, last) → m ≠ 0 → x = [] → psV l = if chkP (pcOf c) = 0 then (pcOf c, 0, 0) else (pcZ, chkP (pcOf c), 0)) := fun c last h0 h1 h2 => by
      rw [psV_end (by omega) (by rw [← hF, ← hL]; exact badP_none (by rw [hLm, h0]; simp)) (by
        rw [← hF, ← hL, hLm, hlast, h2]; simp [h1]), ← hF, ← hL]
      split
      · rename_i he; exact endP_yes (by rw [hLm]; exact h0) he
      · rename_i he; exact endP_no (by rw [hLm]; exact h0) he
    have HEN : Hid (∀ w' c last, stP L m = some (pcOf c, last) → m ≠ 0 → x = [] → (chkV c).1 ≠ 0 → Below w.heap.size w w' → P (.returned (.tuple #[.agg #[.int .i64 0, .slice none 0 0, .slice none 0 0, .slice none 0 0, .slice none 0 0, .slice none 0 0, .int .i64 0, .int .i64 0], .int .i64 (chkV c).1, .int .i64 0])) w') := fun w' c last h0 h1 h2 h3 hb =>
      HZ.out _ _ _ (by rw [HPS.out c last h0 h1 h2, ← chkP_of, if_neg h3]) hb
    have HEY : Hid (∀ w' c last, stP L m = some (pcOf c, last) → m ≠ 0 → x = [] → (chkV c).1 = 0 → CfgOk w' c → Below w.heap.size w w' → P (.returned (.tuple #[(.agg #[.int .i64 c.cats, .slice c.g.a c.g.l.length c.g.cap, .slice c.r.a c.r.l.length c.r.cap, .slice c.p.a c.p.l.length c.p.cap, .slice c.n.a c.n.l.length c.n.cap, .slice c.s.a c.s.l.length c.s.cap, .int .i64 c.gate, .int .i64 c.quota]), .int .i64 0, .int .i64 0])) w') := fun w' c last h0 h1 h2 h3 hc hb =>
      HG.out c w' (by rw [HPS.out c last h0 h1 h2, ← chkP_of, if_pos h3]) hc hb
    have HGET : Hid (∀ k (hk : k < m), ∃ y, F[k]? = some y ∧ L.getD k [] = y ∧ y.length ≤ 100000) := fun k hk => by
      have h1 : k < F.length := by omega
      refine ⟨F[k], List.getElem?_eq_getElem h1, ?_, ?_⟩
      · rw [List.getD_eq_getElem?_getD, hL, List.getElem?_eq_getElem (by rw [List.length_dropLast]; omega), List.getElem_dropLast]; rfl
      · have := (fieldsC_mem 10 l F[k] (by rw [← hF]; exact List.getElem_mem h1)).2
        omega
    have HSP : Hid (Calls Tryd.prog 19 #[.string s, .string ⟨#[10]⟩] w0 fun e w' => e = .returned (.slice (some ⟨w0.heap.size, 0, none⟩) F.length F.length) ∧ w' = w0.alloc (.cells (strC F).toArray 9)) := by
      have := split1L s 10 w0 (by omega)
      rw [← hl, ← hF] at this; exact this
    obtain ⟨w1, hw1⟩ : ∃ w1, w1 = w0.alloc (.cells (strC F).toArray 9) := ⟨_, rfl⟩
    have HCELL : Hid (ObjAt w1 w0.heap.size 9 (strC F)) := by rw [hw1]; exact ObjAt.new w0 9 (strC F)
    have HCX : w1.cell? ⟨w0.heap.size, m, none⟩ = some (.string (ba x)) := HCELL.out.cell m _ (by simp [strC, hx])
    have HB01 : Hid (Below w0.heap.size w0 w1) := by rw [hw1]; exact (Below.refl _ _).alloc (Nat.le_refl _) _
    have HB1 := Lib.hid (bmore HB0.out HB01.out)
    have HLC : Hid (∀ k y, F[k]? = some y → w1.cell? ⟨w0.heap.size, k, none⟩ = some (.string (ba y))) := fun k y hy => HCELL.out.cell k _ (by simp [strC, hy])
    have hblk := HCELL.out.lt
    have HO1 := Lib.hid (HO0.out.below HB01.out)
    have HT1 := Lib.hid (hT.below HB1.out)
    rw [hm, ← hw1] at HSP
    have hm2 : m ≤ 16384 := by omega
    have HR0 := Lib.hid (rd_start w1)
    have HQ0 : Hid (QP L w1 w1.heap.size 0 cvN (-1) (w1.alloc (.cells #[.int .i64 0, .slice none 0 0, .slice none 0 0, .slice none 0 0, .slice none 0 0, .slice none 0 0, .int .i64 (-1), .int .i64 0, .int .i64 (-1)] 51))) := ⟨rfl, ⟨by simp [pcOf, cvN, cvOf, pcN, slE], by simp [pcOf, cvN, cvOf, pcN, slE], by simp [pcOf, cvN, cvOf, pcN, slE], by simp [pcOf, cvN, cvOf, pcN, slE], by simp [pcOf, cvN, cvOf, pcN, slE]⟩, HR0.out⟩
    have w3 : IntKind.i64.wrap ((m : Int) + 1 - 1) = (m : Int) := by rw [IntKind.wrap_i64]; omega
    clear hF hne hfl hL hm hx hLm hlast HPS hw1 HR0 h16 hl hsl hT HG HZ HB01 HO0 HCELL
    go_enter Tryd.func7, Tryd.ntmps7
    go_upto_region 1 with fail
    rw [← HW0.out]
    go_wp2_with fail
    refine HSP.out.mono ?_; rintro e w1 ⟨rfl, rfl⟩
    clear HSP
    go_wp2_with fail
    go_loopw [28] (fun i wr => ∃ (k : Nat) (c : Cv) (last : Int), k ≤ m ∧ i = .int .i64 k ∧ QP L w1 w1.heap.size k c last wr) (fun i _ => m - (intOf i).toNat)
    case atStart => exact ⟨0, cvN, -1, by omega, rfl, HQ0.out⟩
    case round =>
      clear HQ0
      obtain ⟨k, c, last, hk, rfl, hq⟩ := hrel
      have HQ := Lib.hid hq
      have HBW := Lib.hid (bmore HB1.out hq.rd.bel)
      clear hq
      have w5 : IntKind.i64.wrap ((k : Int) + 1) = (k : Int) + 1 := by rw [IntKind.wrap_i64]; omega
      by_cases hlt : k < m
      · obtain ⟨y, hy, hyL, hys⟩ := HGET.out k hlt
        have hcr : wr.cell? ⟨w0.heap.size, k, none⟩ = some (.string (ba y)) := by
          rw [HQ.out.rd.bel.cell (p := ⟨w0.heap.size, k, none⟩) hblk]; exact HLC.out k y hy
        have HLN : Hid (∀ b, b = decide (k = 0) → Calls Tryd.prog 20 #[.pointer (some ⟨w1.heap.size, 0, none⟩), .string (ba y), .bool b] wr fun e w' => (e = .returned (.bool false) ∧ stP L k ≠ none ∧ stP L (k + 1) = none ∧ Below w1.heap.size w1 w') ∨ (e = .returned (.bool true) ∧ ∃ c' l', QP L w1 w1.heap.size (k + 1) c' l' w')) := fun b hb => by
          refine (line_any w1 w1.heap.size c last b y hys wr HQ.out.rd HT1.out (HQ.out.few (by omega))).mono ?_
          intro e w' h
          subst hb
          rcases ln_out h with ⟨h1, h2, h3⟩ | ⟨h1, c', l', h2, h3⟩
          · exact Or.inl ⟨h1, (HQ.out.stop hyL h2).1, (HQ.out.stop hyL h2).2, h3⟩
          · exact Or.inr ⟨h1, c', l', HQ.out.next hyL h2 h3⟩
        clear hy hyL hys
        go_wp2_with fail
        refine (HLN.out _ (by first | rfl | (rw [Bool.eq_iff_iff]; simp))).mono ?_; intro e w3 h3
        rcases h3 with ⟨rfl, h1, h2, h4⟩ | ⟨rfl, c', l', h1⟩
        · have HB3 := Lib.hid (bmore HB1.out h4)
          have HS := Lib.hid h1
          have HS2 := Lib.hid h2
          have hO1 := HO1.out.below h4
          have s6 := hO1.lt
          have a0 := (hO1).cell 0 _ rfl; have a1 := (hO1).cell 1 _ rfl; have a2 := (hO1).cell 2 _ rfl; have a3 := (hO1).cell 3 _ rfl; have a4 := (hO1).cell 4 _ rfl; have a5 := (hO1).cell 5 _ rfl; have a6 := (hO1).cell 6 _ rfl; have a7 := (hO1).cell 7 _ rfl; have g0 := (hO1).free 0; have g1 := (hO1).free 1; have g2 := (hO1).free 2; have g3 := (hO1).free 3; have g4 := (hO1).free 4; have g5 := (hO1).free 5; have g6 := (hO1).free 6; have g7 := (hO1).free 7
          clear h1 h2 h4 hO1 HLN
          go_wp2_with fail
          (refine bodyPost_ret (v := .tuple #[.agg #[.int .i64 0, .slice none 0 0, .slice none 0 0, .slice none 0 0, .slice none 0 0, .slice none 0 0, .int .i64 0, .int .i64 0], .int .i64 6, .int .i64 ((k : Int) + 1)]) (by simp [results, Tryd.results7, go_sem, a0, a1, a2, a3, a4, a5, a6, a7, s6]) rfl ?_)
          exact HBAD.out k _ hlt HS.out HS2.out ((((((((HB3.out.setCell (Nat.le_refl _) _).setCell (Nat.le_refl _) _).setCell (Nat.le_refl _) _).setCell (Nat.le_refl _) _).setCell (Nat.le_refl _) _).setCell (Nat.le_refl _) _).setCell (Nat.le_refl _) _).setCell (Nat.le_refl _) _)
        · have HQ2 := Lib.hid h1
          clear h1 HLN
          go_wp2_with fail
          go_roundw
          case rel => exact ⟨k + 1, c', l', by omega, by go_num, HQ2.out⟩
          case measure => simp [intOf]; omega
      · obtain rfl : k = m := by omega
        have hcr : wr.cell? ⟨w0.heap.size, k, none⟩ = some (.string (ba x)) := by
          rw [HQ.out.rd.bel.cell (p := ⟨w0.heap.size, k, none⟩) hblk]; exact HCX
        have bx := ba_isEmpty x
        have hO1 := HO1.out.below HQ.out.rd.bel
        have s6 := hO1.lt
        by_cases h0 : k = 0
        · subst h0
          have a0 := (hO1).cell 0 _ rfl; have a1 := (hO1).cell 1 _ rfl; have a2 := (hO1).cell 2 _ rfl; have a3 := (hO1).cell 3 _ rfl; have a4 := (hO1).cell 4 _ rfl; have a5 := (hO1).cell 5 _ rfl; have a6 := (hO1).cell 6 _ rfl; have a7 := (hO1).cell 7 _ rfl; have g0 := (hO1).free 0; have g1 := (hO1).free 1; have g2 := (hO1).free 2; have g3 := (hO1).free 3; have g4 := (hO1).free 4; have g5 := (hO1).free 5; have g6 := (hO1).free 6; have g7 := (hO1).free 7
          clear bx hO1
          go_wp2_with fail
          (refine bodyPost_ret (v := .tuple #[.agg #[.int .i64 0, .slice none 0 0, .slice none 0 0, .slice none 0 0, .slice none 0 0, .slice none 0 0, .int .i64 0, .int .i64 0], .int .i64 6, .int .i64 1]) (by simp [results, Tryd.results7, go_sem, a0, a1, a2, a3, a4, a5, a6, a7, s6]) rfl ?_)
          exact HNO.out _ (by rw [HQ.out.st]; simp) (by simp) ((((((((HBW.out.setCell (Nat.le_refl _) _).setCell (Nat.le_refl _) _).setCell (Nat.le_refl _) _).setCell (Nat.le_refl _) _).setCell (Nat.le_refl _) _).setCell (Nat.le_refl _) _).setCell (Nat.le_refl _) _).setCell (Nat.le_refl _) _)
        · have z1 : ((k : Int) == 0) = false := by rw [beq_eq_false_iff_ne]; omega
          have z2 : decide (k = 0) = false := decide_eq_false h0
          cases hxe : x.isEmpty
          · have HX : Hid (x ≠ []) := fun e => by rw [e] at hxe; cases hxe
            rw [hxe] at bx
            have a0 := (hO1).cell 0 _ rfl; have a1 := (hO1).cell 1 _ rfl; have a2 := (hO1).cell 2 _ rfl; have a3 := (hO1).cell 3 _ rfl; have a4 := (hO1).cell 4 _ rfl; have a5 := (hO1).cell 5 _ rfl; have a6 := (hO1).cell 6 _ rfl; have a7 := (hO1).cell 7 _ rfl; have g0 := (hO1).free 0; have g1 := (hO1).free 1; have g2 := (hO1).free 2; have g3 := (hO1).free 3; have g4 := (hO1).free 4; have g5 := (hO1).free 5; have g6 := (hO1).free 6; have g7 := (hO1).free 7
            clear hxe hO1
            go_wp2_with fail
            (refine bodyPost_ret (v := .tuple #[.agg #[.int .i64 0, .slice none 0 0, .slice none 0 0, .slice none 0 0, .slice none 0 0, .slice none 0 0, .int .i64 0, .int .i64 0], .int .i64 6, .int .i64 ((k : Int) + 1)]) (by simp [results, Tryd.results7, go_sem, a0, a1, a2, a3, a4, a5, a6, a7, s6]) rfl ?_)
            exact HNO.out _ (by rw [HQ.out.st]; simp) (Or.inr HX.out) ((((((((HBW.out.setCell (Nat.le_refl _) _).setCell (Nat.le_refl _) _).setCell (Nat.le_refl _) _).setCell (Nat.le_refl _) _).setCell (Nat.le_refl _) _).setCell (Nat.le_refl _) _).setCell (Nat.le_refl _) _).setCell (Nat.le_refl _) _)
          · have HX : Hid (x = []) := List.isEmpty_iff.1 hxe
            rw [hxe] at bx
            clear hxe
            obtain ⟨e0, he0⟩ : ∃ v, Hid (v = (chkV c).1) := ⟨_, Lib.hid rfl⟩
            obtain ⟨e1, he1⟩ : ∃ v, Hid (v = (chkV c).2) := ⟨_, Lib.hid rfl⟩
            have CHK : Hid (Calls Tryd.prog 18 #[(.agg #[.int .i64 c.cats, .slice c.g.a c.g.l.length c.g.cap, .slice c.r.a c.r.l.length c.r.cap, .slice c.p.a c.p.l.length c.p.cap, .slice c.n.a c.n.l.length c.n.cap, .slice c.s.a c.s.l.length c.s.cap, .int .i64 c.gate, .int .i64 c.quota])] wr fun e w' => e = .returned (.tuple #[.int .i64 e0, .int .i64 e1]) ∧ Below wr.heap.size wr w') := by
              rw [he0.out, he1.out]; exact check_any c wr HQ.out.rd.cfg
            have q0 := HQ.out.rd.ob.cell 0 _ rfl
            have q1 := HQ.out.rd.ob.cell 1 _ rfl
            have q2 := HQ.out.rd.ob.cell 2 _ rfl
            have q3 := HQ.out.rd.ob.cell 3 _ rfl
            have q4 := HQ.out.rd.ob.cell 4 _ rfl
            have q5 := HQ.out.rd.ob.cell 5 _ rfl
            have q6 := HQ.out.rd.ob.cell 6 _ rfl
            have q7 := HQ.out.rd.ob.cell 7 _ rfl
            clear hO1 s6
            go_wp2_with fail
            refine CHK.out.mono ?_; rintro e w4 ⟨rfl, h4⟩
            have HQ4 := Lib.hid (HQ.out.rd.more h4)
            have HB4 := Lib.hid (bmore HB1.out HQ4.out.bel)
            have hO1 := HO1.out.below HQ4.out.bel
            have s6 := hO1.lt
            have HO4 := Lib.hid hO1
            have a0 := (hO1).cell 0 _ rfl; have a1 := (hO1).cell 1 _ rfl; have a2 := (hO1).cell 2 _ rfl; have a3 := (hO1).cell 3 _ rfl; have a4 := (hO1).cell 4 _ rfl; have a5 := (hO1).cell 5 _ rfl; have a6 := (hO1).cell 6 _ rfl; have a7 := (hO1).cell 7 _ rfl; have g0 := (hO1).free 0; have g1 := (hO1).free 1; have g2 := (hO1).free 2; have g3 := (hO1).free 3; have g4 := (hO1).free 4; have g5 := (hO1).free 5; have g6 := (hO1).free 6; have g7 := (hO1).free 7
            clear hO1 h4 q0 q1 q2 q3 q4 q5 q6 q7 CHK
            by_cases hz : e0 = 0
            · subst hz
              have q0 := HQ4.out.ob.cell 0 _ rfl
              have q1 := HQ4.out.ob.cell 1 _ rfl
              have q2 := HQ4.out.ob.cell 2 _ rfl
              have q3 := HQ4.out.ob.cell 3 _ rfl
              have q4 := HQ4.out.ob.cell 4 _ rfl
              have q5 := HQ4.out.ob.cell 5 _ rfl
              have q6 := HQ4.out.ob.cell 6 _ rfl
              have q7 := HQ4.out.ob.cell 7 _ rfl
              go_wp2_with fail
              refine bodyPost_ret (v := .tuple #[(.agg #[.int .i64 c.cats, .slice c.g.a c.g.l.length c.g.cap, .slice c.r.a c.r.l.length c.r.cap, .slice c.p.a c.p.l.length c.p.cap, .slice c.n.a c.n.l.length c.n.cap, .slice c.s.a c.s.l.length c.s.cap, .int .i64 c.gate, .int .i64 c.quota]), .int .i64 0, .int .i64 0]) (by simp [results, Tryd.results7, go_sem, a0, a1, a2, a3, a4, a5, a6, a7, s6]) rfl ?_
              refine HEY.out _ c last HQ.out.st h0 HX.out he0.out.symm ?_ ?_
              · exact HQ4.out.other HO4.out (upd_put (upd_put (upd_put (upd_put (upd_put (upd_put (upd_put (upd_put (Upd.refl _ _)))))))))
              · exact ((((((((HB4.out.setCell (Nat.le_refl _) _).setCell (Nat.le_refl _) _).setCell (Nat.le_refl _) _).setCell (Nat.le_refl _) _).setCell (Nat.le_refl _) _).setCell (Nat.le_refl _) _).setCell (Nat.le_refl _) _).setCell (Nat.le_refl _) _)
            · have n1 : (e0 == 0) = false := by rw [beq_eq_false_iff_ne]; exact hz
              have n2 : (e0 != 0) = true := by rw [bne_iff_ne]; exact hz
              have n3 : decide (e0 = 0) = false := decide_eq_false hz
              have HNZ : Hid ((chkV c).1 ≠ 0) := by rw [← he0.out]; exact hz
              clear hz
              go_wp2_with fail
              (refine bodyPost_ret (v := .tuple #[.agg #[.int .i64 0, .slice none 0 0, .slice none 0 0, .slice none 0 0, .slice none 0 0, .slice none 0 0, .int .i64 0, .int .i64 0], .int .i64 e0, .int .i64 0]) (by simp [results, Tryd.results7, go_sem, a0, a1, a2, a3, a4, a5, a6, a7, s6]) rfl ?_)
              rw [he0.out]
              exact HEN.out _ c last HQ.out.st h0 HX.out HNZ.out ((((((((HB4.out.setCell (Nat.le_refl _) _).setCell (Nat.le_refl _) _).setCell (Nat.le_refl _) _).setCell (Nat.le_refl _) _).setCell (Nat.le_refl _) _).setCell (Nat.le_refl _) _).setCell (Nat.le_refl _) _).setCell (Nat.le_refl _) _)
end Go.Proofs.YtoalpdjpljapbaaDoor
