/- AsmList: the words it was made of. -/
import Derived.Test.YtbemhbooihaadaaDoorAsZ
import Derived.Test.YtbemhbooihaadaaDoorAsPrograms
namespace Go.Proofs.YtbemhbooihaadaaDoor
set_option linter.unusedVariables false
set_option linter.unusedSimpArgs false
set_option linter.unnecessarySimpa false
open Go.RowKit Go.Sort
set_option maxHeartbeats 1000000
set_option maxRecDepth 100000
set_option linter.unusedVariables false
theorem big_dd (x : Nat) (h : x < 4294967296) : lgB (Lib.decDigits x) = true ∧ lgN (Lib.decDigits x) = x := by
  have hw : bigW (Lib.decDigits x) = true := by
    unfold bigW
    have h1 := dd_len 10 x (by omega) (by omega)
    rw [decide_eq_true (dd_ne x), decide_eq_true h1]
    by_cases hl : 1 < (Lib.decDigits x).length
    · rw [decide_eq_false (dd_head x (dd_one x hl))]; simp
    · rw [decide_eq_false hl]; rfl
  have hb : bigD (Lib.decDigits x) = true := by rw [bigD, hw, dd_all]; rfl
  exact ⟨by rw [lgB, hb, dd_go, decide_eq_true h]; rfl, by rw [lgN, if_pos hb, dd_go]; omega⟩
theorem join_mem (c : UInt8) : ∀ (L : Words) (b : UInt8), b ∈ joinC c L → b = c ∨ ∃ x ∈ L, b ∈ x
  | [], b, h => by simp [joinC] at h
  | [x], b, h => .inr ⟨x, by simp, h⟩
  | x :: y :: r, b, h => by
    rw [joinC, List.mem_append] at h
    rcases h with h | h
    · exact .inr ⟨x, by simp, h⟩
    · rcases List.mem_cons.1 h with h | h
      · exact .inl h
      · rcases join_mem c (y :: r) b h with h | ⟨z, hz, hb⟩
        · exact .inl h
        · exact .inr ⟨z, List.mem_cons_of_mem _ hz, hb⟩
theorem itoa_len (n : Int) (h0 : -10000 < n) (h1 : n < 10000) : (Lib.itoa n).length ≤ 5 := by
  rcases itoa_form n with ⟨m, rfl, e⟩ | ⟨m, hm, rfl, e⟩
  · have := dd_len 4 m (by omega) (by omega)
    rw [e]; omega
  · have := dd_len 4 m (by omega) (by omega)
    rw [e, List.length_cons]; omega
theorem wreg_len (n : Nat) (h : n < 100) : (wregL n).length ≤ 4 := by
  have := dd_len 2 n (by omega) (by omega)
  unfold wregL
  rw [Lib.itoa_nonneg, List.length_append]; simp; omega
theorem wnum_len (n : Int) (h0 : -10000 < n) (h1 : n < 10000) : (wnumL n).length ≤ 6 := by
  have := itoa_len n h0 h1
  unfold wnumL
  rw [List.length_append]; simp; omega
theorem opName_five : ∀ o : Fin 42, (opName o.val).length ≤ 5 := by decide +kernel
theorem valid_text {op d a b n : Int} (h : Isa.validB op d a b n = true) : (textV op d a b n).length ≤ 20 ∧ (∀ c ∈ textV op d a b n, c ≠ 10) ∧ Lib.hasPrefix (textV op d a b n) wdP = false := by
  obtain ⟨⟨o1, o2⟩, ⟨d1, d2⟩, ⟨a1, a2⟩, ⟨b1, b2⟩, ⟨n1, n2⟩⟩ := Isa.validB_bounds h
  obtain ⟨o, rfl⟩ : ∃ o : Nat, op = o := ⟨op.toNat, by omega⟩
  obtain ⟨d, rfl⟩ : ∃ o : Nat, d = o := ⟨d.toNat, by omega⟩
  obtain ⟨a, rfl⟩ : ∃ o : Nat, a = o := ⟨a.toNat, by omega⟩
  obtain ⟨b, rfl⟩ : ∃ o : Nat, b = o := ⟨b.toNat, by omega⟩
  have hT : textV o d a b n = textL o d a b n := by rw [textV, if_pos h]; rfl
  rw [hT]
  refine ⟨?_, ?_, ?_⟩
  · have hn := opName_five ⟨o, by omega⟩
    have l1 := wreg_len d (by omega)
    have l2 := wreg_len a (by omega)
    have l3 := wreg_len b (by omega)
    have l4 := wnum_len n (by omega) (by omega)
    unfold textL
    dsimp only at hn
    split <;> (try simp only [List.length_append]) <;> omega
  · intro c hc
    rw [text_join o (by omega) (by omega)] at hc
    rcases join_mem 32 _ c hc with rfl | ⟨x, hx, hcx⟩
    · decide
    · exact ((name_words o (by omega) (by omega) d a b n x hx).2 c hcx).2
  · obtain ⟨e1, _, _, e4⟩ := opName_clean ⟨o, by omega⟩ (by dsimp only; omega)
    rw [text_join o (by omega) (by omega)]
    dsimp only at e1 e4
    cases hn : opName o with
    | nil => exact absurd hn e1
    | cons x r =>
      rw [hn] at e4
      have hx : x ≠ 46 := fun e => e4 (by rw [e]; rfl)
      have hj : ∃ t, joinC 32 ((x :: r) :: insW o d a b n) = x :: t := by
        cases insW o d a b n with
        | nil => exact ⟨r, rfl⟩
        | cons y q => exact ⟨r ++ 32 :: joinC 32 (y :: q), rfl⟩
      obtain ⟨t, ht⟩ := hj
      rw [ht]
      unfold Lib.hasPrefix wdP
      simp only [List.isPrefixOf, Bool.and_eq_false_iff, beq_eq_false_iff_ne]
      exact .inl (fun e => hx e.symm)
theorem line_ok (x : Nat) (hx : x < 4294967296) : (lineL x).length ≤ 20 ∧ (∀ c ∈ lineL x, c ≠ 10) ∧ wdB (lineL x) = true ∧ wdV (lineL x) = x := by
  cases hb : Isa.decB x
  · have hL : lineL x = wdP ++ Lib.decDigits x := by rw [lineL, hb]; rfl
    rw [hL]
    have hp : Lib.hasPrefix (wdP ++ Lib.decDigits x) wdP = true := by
      unfold Lib.hasPrefix
      rw [List.isPrefixOf_iff_prefix]
      exact List.prefix_append _ _
    have ht : Lib.trimPrefix (wdP ++ Lib.decDigits x) wdP = Lib.decDigits x := by
      rw [(pre_app hp).2.2]; rfl
    obtain ⟨g1, g2⟩ := big_dd x hx
    refine ⟨?_, ?_, ?_, ?_⟩
    · have := dd_len 10 x (by omega) (by omega)
      rw [List.length_append]; simp [wdP]; omega
    · intro c hc
      rcases List.mem_append.1 hc with hc | hc
      · exact (by decide : ∀ c ∈ wdP, c ≠ 10) c hc
      · exact (dig_no c (List.all_eq_true.1 (dd_all x) c hc)).2.1
    · rw [wdB, if_pos hp, ht, g1]
    · rw [wdV, if_pos hp, ht, g2]
  · have hL : lineL x = textV ((x : Int) % 64) ((x : Int) / 64 % 16) ((x : Int) / 1024 % 16) ((x : Int) / 16384 % 16) (Isa.decN x) := by rw [lineL, if_pos hb]
    have hv : Isa.validB ((x : Int) % 64) ((x : Int) / 64 % 16) ((x : Int) / 1024 % 16) ((x : Int) / 16384 % 16) (Isa.decN x) = true := hb
    obtain ⟨t1, t2, t3⟩ := valid_text hv
    obtain ⟨q1, q2⟩ := text_back hv
    have hdw := Isa.dec_word x hx
    rw [hL]
    refine ⟨t1, t2, ?_, ?_⟩
    · rw [wdB, if_neg (by rw [t3]; simp), q2]
    · rw [wdV, if_neg (by rw [t3]; simp), if_pos q2]
      unfold parV at q1
      simp only [Value.tuple.injEq, Array.mk.injEq, List.cons.injEq, Value.agg.injEq, Value.int.injEq, true_and, and_true] at q1
      obtain ⟨⟨e1, e2, e3, e4, e5⟩, _⟩ := q1
      rw [e1, e2, e3, e4, e5, hdw]
theorem list_fields : ∀ (l : List Nat), (∀ x ∈ l, x < 4294967296) → fieldsC 10 (listL l) = l.map lineL ++ [[]]
  | [], _ => rfl
  | x :: r, h => by
    have ih := list_fields r (fun y hy => h y (List.mem_cons_of_mem _ hy))
    have e : listL (x :: r) = lineL x ++ 10 :: listL r := by simp [listL]
    rw [e, fieldsC_app 10 (lineL x) _ (line_ok x (h x (List.mem_cons_self ..))).2.1, ih]; rfl
theorem listL_short (l : List Nat) (h : ∀ x ∈ l, x < 4294967296) : (listL l).length ≤ 21 * l.length := by
  induction l with
  | nil => simp [listL]
  | cons x r ih =>
    have h1 := (line_ok x (h x (List.mem_cons_self ..))).1
    have h2 := ih (fun y hy => h y (List.mem_cons_of_mem _ hy))
    unfold listL at h2 ⊢
    rw [List.map_cons, List.flatten_cons, List.length_append, List.length_append, List.length_cons, List.length_cons, List.length_nil]
    omega
theorem list_back (l : List Nat) (h5 : l.length ≤ 512) (hl : ∀ x ∈ l, x < 4294967296) : pgL (listL l) = l.map (fun (x : Nat) => (x : Int)) ∧ pgE (listL l) = 0 ∧ pgAt (listL l) = 0 := by
  obtain ⟨e1, e2⟩ := end_good (list_fields l hl) (fun x hx => by obtain ⟨y, hy, rfl⟩ := List.mem_map.1 hx; exact (line_ok y (hl y hy)).2.2.1)
  have hs := listL_short l hl
  have hlg : pgLong (listL l) = false := by
    unfold pgLong
    rw [e1, List.length_map, decide_eq_false (by omega), decide_eq_false (by omega)]; rfl
  have hbad : pgBad (listL l) = none := by
    rw [pgBad, List.find?_eq_none]
    intro j hj
    rw [e2 j (List.mem_range.1 hj)]; simp
  refine ⟨?_, ?_, ?_⟩
  · rw [pgL, if_neg (by rw [hlg]; simp), hbad]
    show (lnL (listL l)).map wdV = _
    rw [e1, List.map_map]
    apply List.map_congr_left
    intro x hx
    exact (line_ok x (hl x hx)).2.2.2
  · rw [pgE, if_neg (by rw [hlg]; simp), hbad]
  · rw [pgAt, if_neg (by rw [hlg]; simp), hbad]
theorem list_walk (a : Option Addr) (cap : Nat) (l : List Nat) (w : World) (hl : ∀ x ∈ l, x < 4294967296) (hr : Rd w 1 a l.length (wC l)) (hcap : l.length ≤ maxLen) (ht : Isa.Tab w) (hP : PowIs w) :
    Calls Tryd.prog 6 #[.slice a l.length cap] w fun e w' => e = .returned (.bool true) ∧ Below w.heap.size w w' := by
  have hcap' := hcap
  unfold maxLen at hcap
  have HAW : Hid (∀ W, Below w.heap.size w W → Calls Tryd.prog 9 #[] W fun e w' => e = .returned (.bool true) ∧ Below W.heap.size W w') := fun W h => awake_any W (hP.below h) (ht.below h)
  have HLA : Hid (∀ W, Below w.heap.size w W → Calls Tryd.prog 15 #[.slice a l.length cap] W fun e w' => e = .returned (.tuple #[.string (ba (lsV l)), .int .i64 (lsE l)]) ∧ Below W.heap.size W w') := fun W h => list_asm a cap l hl W (hr.below h) hcap' (hP.below h) (ht.below h)
  by_cases h5 : 512 < l.length
  · have hV : lsV l = [] ∧ lsE l = 10 := ⟨by rw [lsV, if_pos h5], by rw [lsE, if_pos h5]⟩
    rw [hV.1, hV.2] at HLA
    have d1 : decide ((l.length : Int) > 512) = true := decide_eq_true (by omega)
    have d1' : decide (512 < l.length) = true := decide_eq_true h5
    clear h5 hV ht hP hl hr hcap'
    go_enter Tryd.func6, Tryd.ntmps6
    go_wp2_with fail
    refine (HLA.out _ (Below.refl _ _)).mono ?_; rintro e w1 ⟨rfl, b1⟩
    have HB1 := Lib.hid b1
    clear b1
    have hem : (ba []).toList.isEmpty = true := by rw [ba_isEmpty]; rfl
    go_wp2_with (go_at_call 9; refine (HAW.out _ HB1.out).mono ?_; rintro e w2 ⟨rfl, b2⟩)
    go_ret
    exact ⟨rfl, bmore HB1.out b2⟩
  · have hV : lsV l = listL l ∧ lsE l = 0 := ⟨by rw [lsV, if_neg h5], by rw [lsE, if_neg h5]⟩
    rw [hV.1, hV.2] at HLA
    obtain ⟨q1, q2, q3⟩ := list_back l (by omega) hl
    have hsz := listL_short l hl
    have HPR : Hid (∀ W, Below w.heap.size w W → Calls Tryd.prog 13 #[.string (ba (listL l))] W fun e w' => ∃ a2 c2, e = .returned (.tuple #[.slice a2 l.length c2, .int .i64 0, .int .i64 0]) ∧ Rd w' 1 a2 l.length (uC (l.map fun (x : Nat) => (x : Int))) ∧ Below W.heap.size W w') := fun W h => by
      refine (program_any (ba (listL l)) (by rw [ba_size]; omega) W (ht.below h)).mono ?_
      rintro e w' ⟨a2, c2, h1, h2, h3⟩
      rw [ba_data, q1, q2, q3, List.length_map] at h1
      rw [ba_data, q1, List.length_map] at h2
      exact ⟨a2, c2, h1, h2, h3⟩
    have hwu : wC l = uC (l.map fun (x : Nat) => (x : Int)) := by simp [wC, uC]
    have HWS : Hid (∀ W a2 c2, Below w.heap.size w W → Rd W 1 a2 l.length (uC (l.map fun (x : Nat) => (x : Int))) → Calls Tryd.prog 17 #[.slice a l.length cap, .slice a2 l.length c2] W fun e w' => e = .returned (.bool true) ∧ Below W.heap.size W w') := fun W a2 c2 h h2 => words_same _ l.length (by simp) hcap' a a2 cap c2 W (by rw [← hwu]; exact hr.below h) h2
    have d1 : decide ((l.length : Int) > 512) = false := decide_eq_false (by omega)
    have d1' : decide (512 < l.length) = false := decide_eq_false h5
    clear h5 hV ht hP hl hr hcap' q1 q2 q3 hsz hwu
    generalize ba (listL l) = S at HLA HPR
    go_enter Tryd.func6, Tryd.ntmps6
    go_wp2_with fail
    refine (HLA.out _ (Below.refl _ _)).mono ?_; rintro e w1 ⟨rfl, b1⟩
    have HB1 := Lib.hid b1
    clear b1
    go_wp2_with fail
    refine (HPR.out _ HB1.out).mono ?_; rintro e w2 ⟨a2, c2, rfl, r2, b2⟩
    have HB2 := Lib.hid (bmore HB1.out b2)
    have HR2 := Lib.hid r2
    clear b2 r2
    go_wp2_with (first | (go_at_call 17; refine (HWS.out _ _ _ HB2.out HR2.out).mono ?_; rintro e w5 ⟨rfl, b5⟩; have HB5 := Lib.hid (bmore HB2.out b5); clear b5) | (go_at_call 9; refine (HAW.out _ HB5.out).mono ?_; rintro e w6 ⟨rfl, b6⟩))
    go_ret
    exact ⟨rfl, bmore HB5.out b6⟩
theorem list_law (v : Value) (xs : List Int) (w : World) (h : RowI w .u32 v xs) (hb : ∀ x ∈ xs, 0 ≤ x ∧ x < 4294967296) (ht : Isa.Tab w) (hP : PowIs w) :
    Calls Tryd.prog 6 #[v] w fun e w' => e = .returned (.bool true) ∧ Below w.heap.size w w' := by
  obtain ⟨a, cap, l, rfl, hr, hl, hm⟩ := row_rd h hb
  exact list_walk a cap l w hl hr hm ht hP
end Go.Proofs.YtbemhbooihaadaaDoor
