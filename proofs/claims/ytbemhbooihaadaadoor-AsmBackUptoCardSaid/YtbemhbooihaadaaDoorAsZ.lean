/- Texts of instructions, there and back: plain. -/
import Derived.Test.YtbemhbooihaadaaDoorAsY
import Derived.Test.YtbemhbooihaadaaDoorNumV
namespace Go.Proofs.YtbemhbooihaadaaDoor
set_option linter.unusedVariables false
set_option linter.unusedSimpArgs false
set_option linter.unnecessarySimpa false
open Go.RowKit Go.Sort
set_option maxHeartbeats 1000000
set_option maxRecDepth 100000
set_option linter.unusedVariables false
def rgW (n : Int) : List UInt8 := 114 :: Lib.itoa n
def insW (o : Nat) (d a b n : Int) : Words := match kindN o with
  | 0 => [rgW d, rgW a, rgW b]
  | 1 => [rgW d, rgW a, Lib.itoa n]
  | 2 => [rgW d, Lib.itoa n]
  | 3 => [rgW a, rgW b, Lib.itoa n]
  | 4 => [rgW a, Lib.itoa n]
  | _ => []
theorem text_join (o : Nat) (h1 : 1 ≤ o) (h2 : o < 42) (d a b n : Int) : textL o d a b n = joinC 32 (opName o :: insW o d a b n) := by
  have hk := fl_kinds ⟨o, h2⟩ h1
  dsimp only at hk
  unfold textL insW
  rcases hk with ⟨k, _⟩ | ⟨k, _⟩ | ⟨k, _⟩ | ⟨k, _⟩ | ⟨k, _⟩ | ⟨k, _⟩ <;> simp [k, joinC, wregL, wnumL, rgW]
theorem opName_clean : ∀ o : Fin 42, 1 ≤ o.val → opName o.val ≠ [] ∧ ((opName o.val).all fun b => decide (b ≠ 32)) = true ∧ ((opName o.val).all fun b => decide (b ≠ 10)) = true ∧ (opName o.val).head? ≠ some 46 := by decide +kernel
theorem dig_no (b : UInt8) (h : isDig b = true) : b ≠ 32 ∧ b ≠ 10 ∧ b ≠ 45 := by
  rw [isDig_iff] at h
  refine ⟨?_, ?_, ?_⟩ <;> (intro e; subst e; revert h; decide)
theorem itoa_form (n : Int) : (∃ m : Nat, n = m ∧ Lib.itoa n = Lib.decDigits m) ∨ (∃ m : Nat, 1 ≤ m ∧ n = -(m : Int) ∧ Lib.itoa n = 45 :: Lib.decDigits m) := by
  by_cases h : n < 0
  · refine .inr ⟨(-n).toNat, by omega, by omega, ?_⟩
    have := Lib.itoa_neg (-n).toNat (by omega)
    rw [show (-(((-n).toNat : Nat) : Int)) = n by omega] at this
    exact this
  · refine .inl ⟨n.toNat, by omega, ?_⟩
    have := Lib.itoa_nonneg n.toNat
    rw [show ((n.toNat : Nat) : Int) = n by omega] at this
    exact this
theorem itoa_clean (n : Int) : Lib.itoa n ≠ [] ∧ ∀ b ∈ Lib.itoa n, b ≠ 32 ∧ b ≠ 10 := by
  rcases itoa_form n with ⟨m, _, e⟩ | ⟨m, _, _, e⟩
  · rw [e]
    exact ⟨dd_ne m, fun b hb => ⟨(dig_no b (List.all_eq_true.1 (dd_all m) b hb)).1, (dig_no b (List.all_eq_true.1 (dd_all m) b hb)).2.1⟩⟩
  · rw [e]
    refine ⟨by simp, fun b hb => ?_⟩
    rcases List.mem_cons.1 hb with rfl | hb
    · exact ⟨by decide, by decide⟩
    · exact ⟨(dig_no b (List.all_eq_true.1 (dd_all m) b hb)).1, (dig_no b (List.all_eq_true.1 (dd_all m) b hb)).2.1⟩
theorem rgW_clean (n : Int) : rgW n ≠ [] ∧ ∀ b ∈ rgW n, b ≠ 32 ∧ b ≠ 10 := by
  refine ⟨by simp [rgW], fun b hb => ?_⟩
  rcases List.mem_cons.1 hb with rfl | hb
  · exact ⟨by decide, by decide⟩
  · exact (itoa_clean n).2 b hb
theorem insW_clean (o : Nat) (d a b n : Int) : ∀ x ∈ insW o d a b n, x ≠ [] ∧ ∀ c ∈ x, c ≠ 32 ∧ c ≠ 10 := by
  intro x hx
  unfold insW at hx
  split at hx <;> simp only [List.mem_cons, List.not_mem_nil, or_false] at hx
  all_goals first
    | exact hx.elim
    | (rcases hx with rfl | rfl | rfl <;> first | exact rgW_clean _ | exact itoa_clean _)
    | (rcases hx with rfl | rfl <;> first | exact rgW_clean _ | exact itoa_clean _)
theorem name_words (o : Nat) (h1 : 1 ≤ o) (h2 : o < 42) (d a b n : Int) : ∀ x ∈ opName o :: insW o d a b n, x ≠ [] ∧ ∀ c ∈ x, c ≠ 32 ∧ c ≠ 10 := by
  intro x hx
  rcases List.mem_cons.1 hx with rfl | hx
  · obtain ⟨e1, e2, e3, _⟩ := opName_clean ⟨o, h2⟩ h1
    exact ⟨e1, fun c hc => ⟨of_decide_eq_true (List.all_eq_true.1 e2 c hc), of_decide_eq_true (List.all_eq_true.1 e3 c hc)⟩⟩
  · exact insW_clean o d a b n x hx
theorem text_fields (o : Nat) (h1 : 1 ≤ o) (h2 : o < 42) (d a b n : Int) : fieldsC 32 (textL o d a b n) = opName o :: insW o d a b n := by
  rw [text_join o h1 h2]
  exact fields_join 32 _ (by simp) (fun x hx c hc => ((name_words o h1 h2 d a b n x hx).2 c hc).1)
theorem text_words (o : Nat) (h1 : 1 ≤ o) (h2 : o < 42) (d a b n : Int) : wordsB (textL o d a b n) = true := by
  unfold wordsB
  rw [text_fields o h1 h2, Bool.not_eq_true', List.any_eq_false]
  intro x hx
  rw [List.isEmpty_iff]
  exact (name_words o h1 h2 d a b n x hx).1
theorem reg_ok (n : Nat) (h : n < 1000000000) : regOk (rgW n) = true ∧ regN (rgW n) = n := by
  have hc : cutB 114 (rgW n) = true := by unfold cutB Lib.hasPrefix rgW; simp [List.isPrefixOf]
  have hd : cutL 114 (rgW n) = Lib.decDigits n := by
    rw [cut_yes hc]
    unfold rgW
    rw [Lib.itoa_nonneg]; rfl
  obtain ⟨e1, e2⟩ := num_dd n h
  exact ⟨by rw [regOk, hc, hd, e1]; rfl, by rw [regN, hd, e2]⟩
theorem num_ok (n : Int) (h0 : -1000000000 < n) (h1 : n < 1000000000) : numOk (Lib.itoa n) = true ∧ numN (Lib.itoa n) = n := by
  rcases itoa_form n with ⟨m, rfl, e⟩ | ⟨m, hm, rfl, e⟩
  · rw [e]
    have hc : cutB 45 (Lib.decDigits m) = false := by
      unfold cutB Lib.hasPrefix
      cases hd : Lib.decDigits m with
      | nil => rfl
      | cons x r =>
        have := dig_no x (List.all_eq_true.1 (dd_all m) x (by rw [hd]; simp))
        simp only [List.isPrefixOf, Bool.and_true, beq_eq_false_iff_ne]
        exact fun e => this.2.2 e.symm
    obtain ⟨e1, e2⟩ := num_dd m (by omega)
    exact ⟨by rw [numOk, hc, cut_no hc, e1]; rfl, by rw [numN, hc, cut_no hc, e2]; rfl⟩
  · rw [e]
    have hc : cutB 45 (45 :: Lib.decDigits m) = true := by unfold cutB Lib.hasPrefix; simp [List.isPrefixOf]
    have hd : cutL 45 (45 :: Lib.decDigits m) = Lib.decDigits m := by rw [cut_yes hc]; rfl
    obtain ⟨e1, e2⟩ := num_dd m (by omega)
    refine ⟨?_, by rw [numN, hc, hd, e2]; rfl⟩
    rw [numOk, hc, hd, e1, e2, show (m == 0) = false from beq_eq_false_iff_ne.2 (by omega)]; rfl
theorem reg_back {x : List UInt8} (h : regOk x = true) : x = rgW (regN x) := by
  unfold regOk at h
  rw [Bool.and_eq_true] at h
  obtain ⟨hc, hn⟩ := h
  have hx : x = 114 :: x.drop 1 := by
    unfold cutB Lib.hasPrefix at hc
    cases x with
    | nil => cases hc
    | cons y r =>
      simp only [List.isPrefixOf, Bool.and_true, beq_iff_eq] at hc
      rw [← hc]; rfl
  rw [cut_yes hc] at hn
  rw [regN, cut_yes hc]
  unfold rgW
  rw [Lib.itoa_nonneg, dd_num hn]
  exact hx
theorem num_back {x : List UInt8} (h : numOk x = true) : x = Lib.itoa (numN x) := by
  unfold numOk at h
  rw [Bool.and_eq_true] at h
  obtain ⟨hn, hz⟩ := h
  cases hc : cutB 45 x
  · rw [cut_no hc] at hn
    rw [numN, hc, cut_no hc]
    show x = Lib.itoa ((numI x : Nat) : Int)
    rw [Lib.itoa_nonneg, dd_num hn]
  · have hx : x = 45 :: x.drop 1 := by
      unfold cutB Lib.hasPrefix at hc
      cases x with
      | nil => cases hc
      | cons y r =>
        simp only [List.isPrefixOf, Bool.and_true, beq_iff_eq] at hc
        rw [← hc]; rfl
    rw [hc, cut_yes hc] at hz
    rw [cut_yes hc] at hn
    rw [numN, hc, cut_yes hc]
    have hm : 1 ≤ numI (x.drop 1) := by
      rcases Nat.eq_zero_or_pos (numI (x.drop 1)) with h0 | h0
      · rw [h0] at hz; cases hz
      · exact h0
    show x = Lib.itoa (-((numI (x.drop 1) : Nat) : Int))
    rw [Lib.itoa_neg _ hm, dd_num hn]
    exact hx
theorem fl_imm : ∀ o : Fin 42, Isa.fl o.val 8 = false → ¬ (o.val = 18 ∨ o.val = 19 ∨ o.val = 20) ∧ ¬ (o.val = 37 ∨ o.val = 38) := by decide +kernel
theorem valid_parts {o : Nat} (h2 : o < 42) {d a b n : Int} (h : Isa.validB o d a b n = true) : (Isa.fl o 1 = false → d = 0) ∧ (Isa.fl o 2 = false → a = 0) ∧ (Isa.fl o 4 = false → b = 0) ∧ (Isa.fl o 8 = false → n = 0) := by
  unfold Isa.validB at h
  rw [Bool.and_eq_true, Bool.and_eq_true, Bool.and_eq_true, Bool.and_eq_true] at h
  obtain ⟨_, e1, e2, e4, e8⟩ := h
  rw [show ((o : Int).toNat) = o from rfl] at e1 e2 e4 e8
  have key : ∀ (f : Bool) (x : Int), Isa.regB f x = true → f = false → x = 0 := fun f x h hf => by
    subst hf; unfold Isa.regB at h; simpa using h
  refine ⟨key _ _ e1, key _ _ e2, key _ _ e4, fun h8 => ?_⟩
  obtain ⟨n1, n2⟩ := fl_imm ⟨o, h2⟩ h8
  unfold Isa.immB at e8
  rw [if_neg n1, if_neg n2, if_pos (by unfold Isa.fl at h8; rw [bne_eq_false_iff_eq] at h8; rw [h8]; rfl)] at e8
  simpa using e8
theorem text_back {op d a b n : Int} (h : Isa.validB op d a b n = true) : parV (textV op d a b n) = .tuple #[(.agg #[.int .i64 (op), .int .i64 (d), .int .i64 (a), .int .i64 (b), .int .i64 (n)]), .int .i64 0] ∧ parB (textV op d a b n) = true := by
  obtain ⟨⟨o1, o2⟩, ⟨d1, d2⟩, ⟨a1, a2⟩, ⟨b1, b2⟩, ⟨n1, n2⟩⟩ := Isa.validB_bounds h
  obtain ⟨o, rfl⟩ : ∃ o : Nat, op = o := ⟨op.toNat, by omega⟩
  obtain ⟨d, rfl⟩ : ∃ o : Nat, d = o := ⟨d.toNat, by omega⟩
  obtain ⟨a, rfl⟩ : ∃ o : Nat, a = o := ⟨a.toNat, by omega⟩
  obtain ⟨b, rfl⟩ : ∃ o : Nat, b = o := ⟨b.toNat, by omega⟩
  have hT : textV o d a b n = textL o d a b n := by rw [textV, if_pos h]; rfl
  rw [hT]
  have hf := text_fields o (by omega) (by omega) d a b n
  have hw := text_words o (by omega) (by omega) d a b n
  have ho : o = opV ((fieldsC 32 (textL o d a b n)).headD []) := by
    rw [hf]; exact (opV_name (by omega) (by omega)).symm
  obtain ⟨p1, p2, p4, p8⟩ := valid_parts (by omega) h
  obtain ⟨r1, r2⟩ := reg_ok d (by omega)
  obtain ⟨r3, r4⟩ := reg_ok a (by omega)
  obtain ⟨r5, r6⟩ := reg_ok b (by omega)
  obtain ⟨r7, r8⟩ := num_ok n (by omega) (by omega)
  have hk := fl_kinds ⟨o, by omega⟩ (by dsimp only; omega)
  dsimp only at hk
  have key : takeP (wantK (kindN o)) (fieldsC 32 (textL o d a b n)).tail = true ∧ valP 0 (wantK (kindN o)) (fieldsC 32 (textL o d a b n)).tail = d ∧ valP 1 (wantK (kindN o)) (fieldsC 32 (textL o d a b n)).tail = a ∧ valP 2 (wantK (kindN o)) (fieldsC 32 (textL o d a b n)).tail = b ∧ valP 3 (wantK (kindN o)) (fieldsC 32 (textL o d a b n)).tail = n := by
    rw [hf, List.tail_cons]
    unfold insW
    rcases hk with ⟨k, e1, e2, e4, e8⟩ | ⟨k, e1, e2, e4, e8⟩ | ⟨k, e1, e2, e4, e8⟩ | ⟨k, e1, e2, e4, e8⟩ | ⟨k, e1, e2, e4, e8⟩ | ⟨k, e1, e2, e4, e8⟩
    all_goals
      rw [k]
      simp only [e1, e2, e4, e8, Bool.true_eq_false, false_implies, true_implies] at p1 p2 p4 p8
      simp [wantK, takeP, valP, okP, vaP, r1, r2, r3, r4, r5, r6, r7, r8]
      try omega
  obtain ⟨t0, v0, v1, v2, v3⟩ := key
  have hend := (parV_end ho (by omega) hw t0 v0 v1 v2 v3).2 h
  refine ⟨hend, ?_⟩
  unfold parB
  rw [hw, ← ho, decide_eq_true (show o ≠ 0 by omega), t0]
  unfold insP
  dsimp only
  rw [v0, v1, v2, v3, h]; rfl
theorem back_text {s : List UInt8} (h : parB s = true) : textV (parO s) (parD s) (parA s) (parC s) (parN s) = s ∧ textE (parO s) (parD s) (parA s) (parC s) (parN s) = 0 := by
  have hv := (parV_yes h).2
  refine ⟨?_, by rw [textE, if_pos hv]⟩
  rw [textV, if_pos hv]
  have h' := h
  unfold parB at h
  rw [Bool.and_eq_true, Bool.and_eq_true, Bool.and_eq_true] at h
  obtain ⟨hw, h0, ht, _⟩ := h
  have hj := join_fields 32 s
  obtain ⟨x, r, hxr⟩ : ∃ x r, fieldsC 32 s = x :: r := by cases hf : fieldsC 32 s with
    | nil => exact absurd hf (fieldsC_ne 32 s)
    | cons x r => exact ⟨x, r, rfl⟩
  unfold parO parD parA parC parN
  rw [if_pos h', if_pos h', if_pos h', if_pos h', if_pos h']
  rw [hxr] at h0 ht hj ⊢
  rw [List.headD_cons] at h0 ht ⊢
  rw [List.tail_cons] at ht ⊢
  have h0' : opV x ≠ 0 := of_decide_eq_true h0
  have hon := opV_some h0'
  have hle := opV_le x
  obtain ⟨o, ho⟩ : ∃ o, o = opV x := ⟨_, rfl⟩
  rw [← ho] at ht hon hle h0' ⊢
  rw [show ((o : Int).toNat) = o from rfl, text_join o (by omega) (by omega), hon, ← hj]
  congr 2
  unfold insP insW
  have hk := fl_kinds ⟨o, by omega⟩ (by dsimp only; omega)
  dsimp only at hk ⊢
  rcases hk with ⟨k, _⟩ | ⟨k, _⟩ | ⟨k, _⟩ | ⟨k, _⟩ | ⟨k, _⟩ | ⟨k, _⟩
  all_goals
    rw [k] at ht ⊢
    rcases r with _ | ⟨y, _ | ⟨z, _ | ⟨u, _ | ⟨v, r⟩⟩⟩⟩
    all_goals first
      | (exfalso; simp [takeP, wantK] at ht; done)
      | (simp only [takeP, wantK, okP, Bool.and_true, Bool.and_eq_true, Nat.reduceLT, if_true, if_false] at ht
         first
           | (simp; done)
           | (obtain ⟨q1, q2, q3⟩ := ht; have e1 := (reg_back q1).symm; have e2 := (reg_back q2).symm; have e3 := (reg_back q3).symm; simp [valP, wantK, vaP, e1, e2, e3]; done)
           | (obtain ⟨q1, q2, q3⟩ := ht; have e1 := (reg_back q1).symm; have e2 := (reg_back q2).symm; have e3 := (num_back q3).symm; simp [valP, wantK, vaP, e1, e2, e3]; done)
           | (obtain ⟨q1, q2⟩ := ht; have e1 := (reg_back q1).symm; have e2 := (num_back q2).symm; simp [valP, wantK, vaP, e1, e2]; done))
end Go.Proofs.YtbemhbooihaadaaDoor
