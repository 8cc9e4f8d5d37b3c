/- The reference for asm: a text as an instruction. -/
import Derived.Test.YtbemhbooihaadaaDoorAsS
import Derived.Test.YtbemhbooihaadaaDoorAs8
namespace Go.Proofs.YtbemhbooihaadaaDoor
set_option linter.unusedVariables false
set_option linter.unusedSimpArgs false
set_option linter.unnecessarySimpa false
open Go.RowKit Go.Sort
set_option maxHeartbeats 4000000
set_option maxRecDepth 100000
set_option linter.unusedVariables false
theorem rnames_all (w : World) : Calls Tryd.prog 24 #[] w fun e w' => e = .returned (.slice (some ⟨w.heap.size, 0, none⟩) 42 42) ∧ (∀ o, o < 42 → w'.cell? ⟨w.heap.size, o, none⟩ = some (.string (ba (opName o)))) ∧ Below w.heap.size w w' := by
  refine (rnames_any w).mono ?_
  rintro e w' ⟨rfl, rfl⟩
  exact ⟨rfl, fun o ho => names_at w _ (Below.refl _ _) o ho, (Below.refl _ _).alloc (Nat.le_refl _) _⟩
/-- What the loop over the four places has found. -/
structure IV (P : List Nat) (l : Words) (k at_ : Nat) (c0 c1 c2 c3 : Int) : Prop where
  tk : takeP P l = takeP (P.filter (fun p => decide (k ≤ p))) (l.drop (at_ - 1))
  v0 : valP 0 P l = if 0 < k then c0 else valP 0 (P.filter (fun p => decide (k ≤ p))) (l.drop (at_ - 1))
  v1 : valP 1 P l = if 1 < k then c1 else valP 1 (P.filter (fun p => decide (k ≤ p))) (l.drop (at_ - 1))
  v2 : valP 2 P l = if 2 < k then c2 else valP 2 (P.filter (fun p => decide (k ≤ p))) (l.drop (at_ - 1))
  v3 : valP 3 P l = if 3 < k then c3 else valP 3 (P.filter (fun p => decide (k ≤ p))) (l.drop (at_ - 1))
  z0 : k ≤ 0 → c0 = 0
  z1 : k ≤ 1 → c1 = 0
  z2 : k ≤ 2 → c2 = 0
  z3 : k ≤ 3 → c3 = 0
  pos : 1 ≤ at_
  le : at_ ≤ l.length + 1
theorem iv_start (kk : Nat) (hk : kk ≤ 5) (l : Words) : IV (wantK kk) l 0 1 0 0 0 0 := by
  have e : (wantK kk).filter (fun p => decide (0 ≤ p)) = wantK kk := by simp
  refine ⟨by rw [e]; rfl, by rw [e]; rfl, by rw [e]; rfl, by rw [e]; rfl, by rw [e]; rfl, fun _ => rfl, fun _ => rfl, fun _ => rfl, fun _ => rfl, by omega, by omega⟩
theorem filt_skip {kk k : Nat} (hk : kk ≤ 5) (hk4 : k < 4) (h : decide (k ∈ wantK kk) = false) : (wantK kk).filter (fun p => decide (k + 1 ≤ p)) = (wantK kk).filter (fun p => decide (k ≤ p)) := by
  rcases (by omega : kk = 0 ∨ kk = 1 ∨ kk = 2 ∨ kk = 3 ∨ kk = 4 ∨ kk = 5) with rfl | rfl | rfl | rfl | rfl | rfl <;> rcases (by omega : k = 0 ∨ k = 1 ∨ k = 2 ∨ k = 3) with rfl | rfl | rfl | rfl <;> first | rfl | (exact absurd h (by decide))
theorem filt_take {kk k : Nat} (hk : kk ≤ 5) (hk4 : k < 4) (h : decide (k ∈ wantK kk) = true) : (wantK kk).filter (fun p => decide (k ≤ p)) = k :: (wantK kk).filter (fun p => decide (k + 1 ≤ p)) := by
  rcases (by omega : kk = 0 ∨ kk = 1 ∨ kk = 2 ∨ kk = 3 ∨ kk = 4 ∨ kk = 5) with rfl | rfl | rfl | rfl | rfl | rfl <;> rcases (by omega : k = 0 ∨ k = 1 ∨ k = 2 ∨ k = 3) with rfl | rfl | rfl | rfl <;> first | rfl | (exact absurd h (by decide))
theorem filt_gt (kk k : Nat) : ∀ p ∈ (wantK kk).filter (fun p => decide (k + 1 ≤ p)), p ≠ k := fun p hp => by
  have := (List.mem_filter.1 hp).2
  simp at this; omega
theorem valP_out (q : Nat) : ∀ (P : List Nat) (l : Words), (∀ p ∈ P, p ≠ q) → valP q P l = 0
  | [], l, _ => by cases l <;> rfl
  | p :: ps, [], _ => rfl
  | p :: ps, x :: xs, h => by
    rw [valP, if_neg (h p (List.mem_cons_self ..)), valP_out q ps xs (fun p' hp' => h p' (List.mem_cons_of_mem _ hp'))]
theorem iv_skip {kk k at_ : Nat} {l : Words} {c0 c1 c2 c3 : Int} (hk : kk ≤ 5) (hk4 : k < 4) (h : decide (k ∈ wantK kk) = false) (hi : IV (wantK kk) l k at_ c0 c1 c2 c3) : IV (wantK kk) l (k + 1) at_ c0 c1 c2 c3 := by
  have e := filt_skip hk hk4 h
  have ho : ∀ q, q = k → valP q ((wantK kk).filter (fun p => decide (k + 1 ≤ p))) (l.drop (at_ - 1)) = 0 := fun q hq => by subst hq; exact valP_out _ _ _ (filt_gt kk _)
  refine ⟨by rw [e]; exact hi.tk, ?_, ?_, ?_, ?_, fun h => hi.z0 (by omega), fun h => hi.z1 (by omega), fun h => hi.z2 (by omega), fun h => hi.z3 (by omega), hi.pos, hi.le⟩
  · rw [hi.v0]
    by_cases h1 : 0 < k
    · rw [if_pos h1, if_pos (by omega)]
    · rw [if_neg h1, if_pos (by omega), ← e, ho 0 (by omega), hi.z0 (by omega)]
  · rw [hi.v1]
    by_cases h1 : 1 < k
    · rw [if_pos h1, if_pos (by omega)]
    · rw [if_neg h1]
      by_cases h2 : k = 1
      · rw [if_pos (by omega), ← e, ho 1 h2.symm, hi.z1 (by omega)]
      · rw [if_neg (by omega), e]
  · rw [hi.v2]
    by_cases h1 : 2 < k
    · rw [if_pos h1, if_pos (by omega)]
    · rw [if_neg h1]
      by_cases h2 : k = 2
      · rw [if_pos (by omega), ← e, ho 2 h2.symm, hi.z2 (by omega)]
      · rw [if_neg (by omega), e]
  · rw [hi.v3]
    by_cases h1 : 3 < k
    · rw [if_pos h1, if_pos (by omega)]
    · rw [if_neg h1]
      by_cases h2 : k = 3
      · rw [if_pos (by omega), ← e, ho 3 h2.symm, hi.z3 (by omega)]
      · rw [if_neg (by omega), e]
def upC (q k : Nat) (c v : Int) : Int := if q = k then v else c
theorem iv_take {kk k at_ : Nat} {l : Words} {c0 c1 c2 c3 : Int} (hk : kk ≤ 5) (hk4 : k < 4) (h : decide (k ∈ wantK kk) = true) (hi : IV (wantK kk) l k at_ c0 c1 c2 c3) (hl : at_ - 1 < l.length) (hok : okP k l[at_ - 1] = true) (v : Int) (hv : v = vaP k l[at_ - 1]) :
    IV (wantK kk) l (k + 1) (at_ + 1) (upC 0 k c0 v) (upC 1 k c1 v) (upC 2 k c2 v) (upC 3 k c3 v) := by
  have e := filt_take hk hk4 h
  have hd : l.drop (at_ - 1) = l[at_ - 1] :: l.drop (at_ + 1 - 1) := by
    have := hi.pos
    rw [List.drop_eq_getElem_cons hl, show at_ - 1 + 1 = at_ + 1 - 1 by omega]
  have hp := hi.pos
  have key : ∀ q, valP q ((wantK kk).filter (fun p => decide (k ≤ p))) (l.drop (at_ - 1)) = if k = q then v else valP q ((wantK kk).filter (fun p => decide (k + 1 ≤ p))) (l.drop (at_ + 1 - 1)) := fun q => by
    rw [e, hd, valP, hv]
  refine ⟨?_, ?_, ?_, ?_, ?_, fun h => by omega, ?_, ?_, ?_, by omega, by omega⟩
  · rw [hi.tk, e, hd, takeP, hok]; rfl
  all_goals unfold upC
  · rw [hi.v0, key]
    by_cases h1 : 0 < k
    · rw [if_pos h1, if_pos (by omega), if_neg (by omega)]
    · rw [if_neg h1, if_pos (by omega), if_pos (by omega), if_pos (by omega)]
  · rw [hi.v1, key]
    by_cases h1 : 1 < k
    · rw [if_pos h1, if_pos (by omega), if_neg (by omega)]
    · rw [if_neg h1]
      by_cases h2 : k = 1
      · rw [if_pos h2, if_pos (by omega), if_pos h2.symm]
      · rw [if_neg h2, if_neg (by omega)]
  · rw [hi.v2, key]
    by_cases h1 : 2 < k
    · rw [if_pos h1, if_pos (by omega), if_neg (by omega)]
    · rw [if_neg h1]
      by_cases h2 : k = 2
      · rw [if_pos h2, if_pos (by omega), if_pos h2.symm]
      · rw [if_neg h2, if_neg (by omega)]
  · rw [hi.v3, key]
    by_cases h1 : 3 < k
    · rw [if_pos h1, if_pos (by omega), if_neg (by omega)]
    · rw [if_neg h1]
      by_cases h2 : k = 3
      · rw [if_pos h2, if_pos (by omega), if_pos h2.symm]
      · rw [if_neg h2, if_neg (by omega)]
  · intro h; rw [if_neg (by omega)]; exact hi.z1 (by omega)
  · intro h; rw [if_neg (by omega)]; exact hi.z2 (by omega)
  · intro h; rw [if_neg (by omega)]; exact hi.z3 (by omega)
theorem iv_short {kk k at_ : Nat} {l : Words} {c0 c1 c2 c3 : Int} (hk : kk ≤ 5) (hk4 : k < 4) (h : decide (k ∈ wantK kk) = true) (hi : IV (wantK kk) l k at_ c0 c1 c2 c3) (hl : l.length ≤ at_ - 1) : takeP (wantK kk) l = false := by
  rw [hi.tk, filt_take hk hk4 h, List.drop_eq_nil_of_le hl]; rfl
theorem iv_badw {kk k at_ : Nat} {l : Words} {c0 c1 c2 c3 : Int} (hk : kk ≤ 5) (hk4 : k < 4) (h : decide (k ∈ wantK kk) = true) (hi : IV (wantK kk) l k at_ c0 c1 c2 c3) (hl : at_ - 1 < l.length) (hok : okP k l[at_ - 1] = false) : takeP (wantK kk) l = false := by
  rw [hi.tk, filt_take hk hk4 h, List.drop_eq_getElem_cons hl, takeP, hok]; rfl
theorem iv_end {kk at_ : Nat} {l : Words} {c0 c1 c2 c3 : Int} (hk : kk ≤ 5) (hi : IV (wantK kk) l 4 at_ c0 c1 c2 c3) : takeP (wantK kk) l = decide (at_ = l.length + 1) ∧ valP 0 (wantK kk) l = c0 ∧ valP 1 (wantK kk) l = c1 ∧ valP 2 (wantK kk) l = c2 ∧ valP 3 (wantK kk) l = c3 := by
  have e : (wantK kk).filter (fun p => decide (4 ≤ p)) = [] := by
    rcases (by omega : kk = 0 ∨ kk = 1 ∨ kk = 2 ∨ kk = 3 ∨ kk = 4 ∨ kk = 5) with rfl | rfl | rfl | rfl | rfl | rfl <;> rfl
  refine ⟨?_, by rw [hi.v0]; rfl, by rw [hi.v1]; rfl, by rw [hi.v2]; rfl, by rw [hi.v3]; rfl⟩
  rw [hi.tk, e]
  have h1 := hi.pos
  have h2 := hi.le
  by_cases h : at_ = l.length + 1
  · rw [decide_eq_true h, List.drop_eq_nil_of_le (by omega)]; rfl
  · rw [decide_eq_false h, List.drop_eq_getElem_cons (show at_ - 1 < l.length by omega)]; rfl
theorem fl_want : ∀ o : Fin 42, 1 ≤ o.val → Isa.fl o.val 1 = decide (0 ∈ wantK (kindN o.val)) ∧ Isa.fl o.val 2 = decide (1 ∈ wantK (kindN o.val)) ∧ Isa.fl o.val 4 = decide (2 ∈ wantK (kindN o.val)) ∧ Isa.fl o.val 8 = decide (3 ∈ wantK (kindN o.val)) := by decide +kernel
theorem parV_short {s : List UInt8} {o : Nat} (ho : o = opV ((fieldsC 32 s).headD [])) (h : takeP (wantK (kindN o)) (fieldsC 32 s).tail = false) : parV s = .tuple #[(.agg #[.int .i64 (0), .int .i64 (0), .int .i64 (0), .int .i64 (0), .int .i64 (0)]), .int .i64 6] := by
  apply parV_no
  unfold parB
  rw [← ho, h]; simp
theorem parV_end {s : List UInt8} {o : Nat} (ho : o = opV ((fieldsC 32 s).headD [])) (h0 : o ≠ 0) (hw : wordsB s = true) (h : takeP (wantK (kindN o)) (fieldsC 32 s).tail = true) {c0 c1 c2 c3 : Int} (e0 : valP 0 (wantK (kindN o)) (fieldsC 32 s).tail = c0) (e1 : valP 1 (wantK (kindN o)) (fieldsC 32 s).tail = c1) (e2 : valP 2 (wantK (kindN o)) (fieldsC 32 s).tail = c2) (e3 : valP 3 (wantK (kindN o)) (fieldsC 32 s).tail = c3) :
    (Isa.validB o c0 c1 c2 c3 = false → parV s = .tuple #[(.agg #[.int .i64 (0), .int .i64 (0), .int .i64 (0), .int .i64 (0), .int .i64 (0)]), .int .i64 6]) ∧ (Isa.validB o c0 c1 c2 c3 = true → parV s = .tuple #[(.agg #[.int .i64 (o), .int .i64 (c0), .int .i64 (c1), .int .i64 (c2), .int .i64 (c3)]), .int .i64 0]) := by
  have hP : parB s = Isa.validB o c0 c1 c2 c3 := by
    unfold parB insP
    rw [hw, ← ho, decide_eq_true h0, h, e0, e1, e2, e3]; rfl
  constructor
  · intro hv; exact parV_no (by rw [hP, hv])
  · intro hv
    have hT : parB s = true := by rw [hP, hv]
    unfold parV parO parD parA parC parN parE insP
    rw [if_pos hT, if_pos hT, if_pos hT, if_pos hT, if_pos hT, if_pos hT, ← ho, e0, e1, e2, e3]
theorem rparse_none (s : ByteArray) (hs : s.size ≤ 100000000) (w : World) (hw : wordsB s.data.toList = false) :
    Calls Tryd.prog 11 #[.string s] w fun e w' => e = .returned (parV s.data.toList) ∧ Below w.heap.size w w' := by
  have HE : Hid (parV s.data.toList = .tuple #[(.agg #[.int .i64 (0), .int .i64 (0), .int .i64 (0), .int .i64 (0), .int .i64 (0)]), .int .i64 6]) := parV_no (by simp [parB, hw])
  go_enter Tryd.func11, Tryd.ntmps11
  go_wp2_with fail
  refine (rsplit_any s hs _).mono ?_; rintro e w1 ⟨_, h2, hb⟩; obtain rfl := h2 hw
  have hO : ObjAt w1 w.heap.size 23 zeroI := (ObjAt.new w 23 zeroI).below hb
  have HB : Hid (Below w.heap.size w w1) := bmore ((Below.refl _ _).alloc (Nat.le_refl _) _) hb
  have s6 := hO.lt
  have a0 := (hO).cell 0 _ rfl; have a1 := (hO).cell 1 _ rfl; have a2 := (hO).cell 2 _ rfl; have a3 := (hO).cell 3 _ rfl; have a4 := (hO).cell 4 _ rfl; have g0 := (hO).free 0; have g1 := (hO).free 1; have g2 := (hO).free 2; have g3 := (hO).free 3; have g4 := (hO).free 4
  clear hb h2
  go_wp2_with fail
  (refine bodyPost_ret (v := .tuple #[(.agg #[.int .i64 (0), .int .i64 (0), .int .i64 (0), .int .i64 (0), .int .i64 (0)]), .int .i64 6]) (by simp [results, Tryd.results11, go_sem, a0, a1, a2, a3, a4, s6]) rfl ⟨by rw [HE.out], ?_⟩; exact (((((HB.out.setCell (Nat.le_refl _) _).setCell (Nat.le_refl _) _).setCell (Nat.le_refl _) _).setCell (Nat.le_refl _) _).setCell (Nat.le_refl _) _))
end Go.Proofs.YtbemhbooihaadaaDoor
