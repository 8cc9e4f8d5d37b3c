/- The reference for asm: a line's word; lines, plain. -/
import Derived.Test.YtbemhbooihaadaaDoorAsV
import Derived.Test.YtbemhbooihaadaaDoorAsA
namespace Go.Proofs.YtbemhbooihaadaaDoor
set_option linter.unusedVariables false
set_option linter.unusedSimpArgs false
set_option linter.unnecessarySimpa false
open Go.RowKit Go.Sort
set_option maxHeartbeats 2000000
set_option maxRecDepth 100000
set_option linter.unusedVariables false
theorem rparse_any (s : ByteArray) (hs : s.size ≤ 100000000) (w : World) :
    Calls Tryd.prog 11 #[.string s] w fun e w' => e = .returned (parV s.data.toList) ∧ Below w.heap.size w w' := by
  cases hw : wordsB s.data.toList
  · exact rparse_none s hs w hw
  · exact rparse_yes s hs w hw
theorem fields_sep (c : UInt8) : ∀ s : List UInt8, fieldsC c (s ++ [c]) = fieldsC c s ++ [[]]
  | [] => by simp [fieldsC]
  | b :: t => by
    have ih := fields_sep c t
    by_cases h : b = c
    · rw [List.cons_append, fieldsC, if_pos h, ih, fieldsC, if_pos h]; rfl
    · obtain ⟨x, r, h1, h2⟩ := fieldsC_cons h t
      obtain ⟨x', r', h1', h2'⟩ := fieldsC_cons h (t ++ [c])
      rw [List.cons_append, h2', h2]
      rw [h1, h1'] at ih
      injection ih with ih1 ih2
      rw [ih1, ih2]; rfl
theorem fields_snoc (c b : UInt8) (hb : b ≠ c) : ∀ s : List UInt8, ∃ D y, fieldsC c (s ++ [b]) = D ++ [y ++ [b]]
  | [] => ⟨[], [], by rw [List.nil_append, fieldsC_free c [b] (by simp; exact hb)]; rfl⟩
  | a :: t => by
    obtain ⟨D, y, ih⟩ := fields_snoc c b hb t
    by_cases h : a = c
    · exact ⟨[] :: D, y, by rw [List.cons_append, fieldsC, if_pos h, ih]; rfl⟩
    · obtain ⟨x', r', h1', h2'⟩ := fieldsC_cons h (t ++ [b])
      rw [ih] at h1'
      cases D with
      | nil =>
        rw [List.nil_append] at h1'
        injection h1' with e1 e2
        exact ⟨[], a :: y, by rw [List.cons_append, h2', ← e1, ← e2]; rfl⟩
      | cons d D =>
        rw [List.cons_append] at h1'
        injection h1' with e1 e2
        exact ⟨(a :: x') :: D, y, by rw [List.cons_append, h2', ← e2]; rfl⟩
theorem last_field (s : List UInt8) : (fieldsC 10 s).getLast? = some [] ↔ s = [] ∨ s.getLast? = some 10 := by
  rcases List.eq_nil_or_concat s with rfl | ⟨t, b, rfl⟩
  · simp [fieldsC]
  · rw [List.concat_eq_append]
    by_cases h : b = 10
    · subst h
      rw [fields_sep]; simp
    · obtain ⟨D, y, e⟩ := fields_snoc 10 b h t
      rw [e]
      simp [h]
theorem suf_last (s : List UInt8) : lnE s = true ↔ s.getLast? = some 10 := by
  unfold lnE Lib.hasSuffix
  rw [List.isSuffixOf_iff_suffix]
  constructor
  · rintro ⟨t, rfl⟩; simp
  · intro h
    obtain ⟨t, ht⟩ := List.getLast?_eq_some_iff.1 h
    exact ⟨t, ht.symm⟩
theorem lnL_len (s : List UInt8) : (lnL s).length = s.count 10 + (if s ≠ [] ∧ s.getLast? ≠ some 10 then 1 else 0) := by
  by_cases h : (fieldsC 10 s).getLast? = some []
  · rw [lnL_some h, List.length_dropLast, fieldsC_len]
    have := (last_field s).1 h
    rw [if_neg (by rintro ⟨h1, h2⟩; rcases this with h3 | h3 <;> contradiction)]; rfl
  · rw [lnL_none h, fieldsC_len]
    have h2 : ¬ (s = [] ∨ s.getLast? = some 10) := fun h3 => h ((last_field s).2 h3)
    rw [if_pos ⟨fun e => h2 (.inl e), fun e => h2 (.inr e)⟩]
/-- A text in the midst of its lines: the line that ends here is no word. -/
theorem mid_bad {s : List UInt8} {done : Words} {cur : List UInt8} {r : Words} (h : fieldsC 10 s = done ++ cur :: r) (hr : r ≠ []) (hd : ∀ x ∈ done, wdB x = true) (hc : wdB cur = false) :
    done.length < (lnL s).length ∧ badAt (lnE s) (lnL s) done.length = true ∧ ∀ j, j < done.length → badAt (lnE s) (lnL s) j = false := by
  have hl : done.length + 1 ≤ (lnL s).length := by
    have hr1 : 1 ≤ r.length := by cases r with
      | nil => exact absurd rfl hr
      | cons => simp
    have hf : (fieldsC 10 s).length = done.length + 1 + r.length := by rw [h]; simp; omega
    by_cases h1 : (fieldsC 10 s).getLast? = some []
    · rw [lnL_some h1, List.length_dropLast, hf]; omega
    · rw [lnL_none h1, hf]; omega
  have hg : ∀ j (hj : j < (lnL s).length), (lnL s)[j] = (done ++ cur :: r)[j]'(by obtain ⟨h1, _⟩ := lnL_get s j hj; rw [h] at h1; exact h1) := fun j hj => by
    obtain ⟨h1, h2⟩ := lnL_get s j hj
    exact h2.trans (by simp only [h])
  refine ⟨hl, ?_, fun j hj => ?_⟩
  · rw [bad_at hl, hg _ hl]
    simp [hc]
  · rw [bad_at (show j < (lnL s).length by omega), hg _ (by omega)]
    have : (done ++ cur :: r)[j]'(by simp; omega) = done[j] := List.getElem_append_left hj
    rw [this, hd _ (List.getElem_mem hj), decide_eq_false (by omega)]; rfl
theorem end_bad {s : List UInt8} {done : Words} {cur : List UInt8} (h : fieldsC 10 s = done ++ [cur]) (hd : ∀ x ∈ done, wdB x = true) (hc : cur ≠ []) :
    done.length < (lnL s).length ∧ badAt (lnE s) (lnL s) done.length = true ∧ ∀ j, j < done.length → badAt (lnE s) (lnL s) j = false := by
  have h1 : ¬ (fieldsC 10 s).getLast? = some [] := by rw [h]; simp; exact hc
  have hL : lnL s = done ++ [cur] := by rw [lnL_none h1, h]
  have hE : lnE s = false := by
    cases he : lnE s
    · rfl
    · exact absurd ((last_field s).2 (.inr ((suf_last s).1 he))) h1
  have hl : done.length < (lnL s).length := by rw [hL]; simp
  refine ⟨hl, ?_, fun j hj => ?_⟩
  · rw [bad_at hl, hE, decide_eq_true (by rw [hL]; simp)]; simp
  · rw [bad_at (show j < (lnL s).length by omega)]
    have : (lnL s)[j]'(by omega) = done[j] := by simp only [hL]; exact List.getElem_append_left hj
    rw [this, hd _ (List.getElem_mem hj), decide_eq_false (by rw [hL]; simp; omega)]; rfl
theorem end_good {s : List UInt8} {done : Words} (h : fieldsC 10 s = done ++ [[]]) (hd : ∀ x ∈ done, wdB x = true) :
    lnL s = done ∧ ∀ j, j < (lnL s).length → badAt (lnE s) (lnL s) j = false := by
  have h1 : (fieldsC 10 s).getLast? = some [] := by rw [h]; simp
  have hL : lnL s = done := by rw [lnL_some h1, h]; simp
  refine ⟨hL, fun j hj => ?_⟩
  rw [bad_at hj]
  have : (lnL s)[j] = done[j]'(by rw [← hL]; exact hj) := by simp only [hL]
  rw [this, hd _ (List.getElem_mem _)]
  rcases (last_field s).1 h1 with h2 | h2
  · subst h2
    have : done = [] := by
      have := congrArg List.length h
      simp [fieldsC] at this
      exact this
    rw [hL, this] at hj; simp at hj
  · rw [(suf_last s).2 h2]; simp
theorem wd_no : parB wdP = false := by decide +kernel
theorem pre_app {s : List UInt8} (h : Lib.hasPrefix s wdP = true) : s.take 6 = wdP ∧ 6 ≤ s.length ∧ Lib.trimPrefix s wdP = s.drop 6 := by
  have h' := h
  unfold Lib.hasPrefix at h
  rw [List.isPrefixOf_iff_prefix] at h
  obtain ⟨t, rfl⟩ := h
  refine ⟨by simp [wdP], by simp [wdP], ?_⟩
  unfold Lib.trimPrefix
  rw [if_pos h']; rfl
theorem pre_take {s : List UInt8} (h : Lib.hasPrefix s wdP = false) : s.take 6 ≠ wdP := fun e => by
  have : Lib.hasPrefix s wdP = true := by
    unfold Lib.hasPrefix
    rw [List.isPrefixOf_iff_prefix]
    exact ⟨s.drop 6, by rw [← e]; exact List.take_append_drop 6 s⟩
  rw [h] at this; cases this
theorem rword_any (s : List UInt8) (hs : s.length ≤ 100000000) (w : World) :
    Calls Tryd.prog 39 #[.string (ba s)] w fun e w' => e = .returned (.tuple #[.int .u32 (wdV s), .bool (wdB s)]) ∧ Below w.heap.size w w' := by
  have hz : (ba s).size = s.length := ba_size s
  have HPA : Hid (∀ W, Calls Tryd.prog 11 #[.string (ba s)] W fun e w' => e = .returned (parV s) ∧ Below W.heap.size W w') := fun W => rparse_any (ba s) (by rw [ba_size]; exact hs) W
  have hext : ((ba s).extract 0 6).data.toList = s.take 6 := by rw [Lib.extract_data, ba_data]; rfl
  have hq : (((ba s).extract 0 6).toList == [46, 119, 111, 114, 100, 32]) = decide (s.take 6 = wdP) := by
    rw [ByteArray.toList_eq, hext]
    by_cases h : s.take 6 = wdP
    · rw [h]; rfl
    · rw [decide_eq_false h, beq_eq_false_iff_ne]; exact h
  have HBG : Hid (∀ W, 6 ≤ s.length → Calls Tryd.prog 55 #[.string ((ba s).extract 6 (ba s).size)] W fun e w' => e = .returned (.tuple #[.int .u32 (lgN (s.drop 6)), .bool (lgB (s.drop 6))]) ∧ W = w') := fun W h => by
    have := rbig_any ((ba s).extract 6 (ba s).size) (by rw [ByteArray.size_extract, hz]; unfold maxLen; omega) W
    rw [Lib.extract_to_end, ba_data] at this
    exact this
  obtain ⟨b, hb⟩ : ∃ b : ByteArray, b = ba s := ⟨_, rfl⟩
  rw [← hb] at hz hq HPA HBG ⊢
  clear hext hb
  have hzm : b.size ≤ 9223372036854775807 := by omega
  by_cases hbig : 6 < s.length ∧ Lib.hasPrefix s wdP = true
  · obtain ⟨h6, hp⟩ := hbig
    obtain ⟨p1, p2, p3⟩ := pre_app hp
    have d1 : decide ((b.size : Int) > 6) = true := decide_eq_true (by omega)
    have d1' : decide (6 < b.size) = true := decide_eq_true (by omega)
    have hb6 : 6 ≤ b.size := by omega
    rw [decide_eq_true p1] at hq
    have HV : Hid (wdV s = lgN (s.drop 6)) := by unfold wdV Hid; rw [if_pos hp, p3]
    have HB : Hid (wdB s = lgB (s.drop 6)) := by unfold wdB Hid; rw [if_pos hp, p3]
    clear h6 hp p1 p3 HPA hz
    go_enter Tryd.func39, Tryd.ntmps39
    go_wp2_with (go_at_call 55; refine (HBG.out _ p2).mono ?_; rintro e w1 ⟨rfl, rfl⟩)
    go_ret2
    exact ⟨by rw [HV.out, HB.out]; rfl, Below.refl _ _⟩
  · have hpar : wdV s = (if parB s then Isa.wordI (parO s) (parD s) (parA s) (parC s) (parN s) else 0) ∧ wdB s = parB s := by
      unfold wdV wdB
      cases hp : Lib.hasPrefix s wdP
      · exact ⟨by rw [if_neg (by simp)], by rw [if_neg (by simp)]⟩
      · obtain ⟨p1, p2, p3⟩ := pre_app hp
        have h6 : s.length = 6 := by
          rcases Nat.lt_or_ge 6 s.length with h | h
          · exact absurd ⟨h, hp⟩ hbig
          · omega
        have hs6 : s = wdP := by rw [← p1, List.take_of_length_le (by omega)]
        rw [if_pos rfl, if_pos rfl, p3, hs6, wd_no]
        exact ⟨rfl, rfl⟩
    have HV := Lib.hid hpar.1
    have HB := Lib.hid hpar.2
    have key : ∀ goal : Prop, (decide ((b.size : Int) > 6) = false → decide (6 < b.size) = false → goal) → (decide ((b.size : Int) > 6) = true → decide (6 < b.size) = true → ((b.extract 0 6).toList == [46, 119, 111, 114, 100, 32]) = false → 6 ≤ b.size → goal) → goal := fun goal h1 h2 => by
      by_cases h : 6 < b.size
      · refine h2 (decide_eq_true (by omega)) (decide_eq_true h) ?_ (by omega)
        rw [hq]
        apply decide_eq_false
        cases hp : Lib.hasPrefix s wdP
        · exact pre_take hp
        · exact absurd ⟨by omega, hp⟩ hbig
      · exact h1 (decide_eq_false (by omega)) (decide_eq_false h)
    clear hbig hpar hq HBG hz
    cases hpb : parB s
    · have HPV := Lib.hid (parV_no hpb)
      have HV2 : Hid (wdV s = 0) := by rw [Hid, HV.out, if_neg (by rw [hpb]; simp)]
      have HB2 : Hid (wdB s = false) := by rw [Hid, HB.out, hpb]
      clear hpb HV HB
      refine key _ (fun d1 d1' => ?_) (fun d1 d1' hq6 hb6 => ?_)
      all_goals
        clear key
        go_enter Tryd.func39, Tryd.ntmps39
        go_wp2_with fail
        refine (HPA.out _).mono ?_; rintro e w2 ⟨rfl, hb2⟩
        rw [HPV.out]
        have HB3 := Lib.hid (hb2.alloc hb2.size (.cells #[.int .i64 0, .int .i64 0, .int .i64 0, .int .i64 0, .int .i64 0] 23))
        clear hb2
        go_wp2_with fail
        go_ret2
        exact ⟨by rw [HV2.out, HB2.out]; rfl, HB3.out⟩
    · obtain ⟨hpv, hvd⟩ := parV_yes hpb
      have HV2 : Hid (wdV s = Isa.wordI (parO s) (parD s) (parA s) (parC s) (parN s)) := by rw [Hid, HV.out, if_pos hpb]
      have HB2 : Hid (wdB s = true) := by rw [Hid, HB.out, hpb]
      clear hpb HV HB
      have HPV := Lib.hid hpv
      have HE : Hid (∀ W, Calls Tryd.prog 56 #[(.agg #[.int .i64 (parO s), .int .i64 (parD s), .int .i64 (parA s), .int .i64 (parC s), .int .i64 (parN s)])] W fun e w' => e = .returned (.tuple #[.int .u32 (Isa.wordI (parO s) (parD s) (parA s) (parC s) (parN s)), .int .i64 0]) ∧ Below W.heap.size W w') := fun W => by
        have := Isa.Encode_ref (parO s) (parD s) (parA s) (parC s) (parN s) W
        unfold Isa.encW Isa.encE at this
        rw [if_pos hvd, if_pos hvd] at this
        exact this
      clear hvd hpv
      generalize parO s = o at HPV HE HV2
      generalize parD s = d at HPV HE HV2
      generalize parA s = a at HPV HE HV2
      generalize parC s = c at HPV HE HV2
      generalize parN s = n at HPV HE HV2
      refine key _ (fun d1 d1' => ?_) (fun d1 d1' hq6 hb6 => ?_)
      all_goals
        clear key
        go_enter Tryd.func39, Tryd.ntmps39
        go_wp2_with fail
        refine (HPA.out _).mono ?_; rintro e w2 ⟨rfl, hb2⟩
        rw [HPV.out]
        have HB3 := Lib.hid (hb2.alloc hb2.size (.cells #[.int .i64 o, .int .i64 d, .int .i64 a, .int .i64 c, .int .i64 n] 23))
        clear hb2
        go_wp2_with (go_at_call 56; refine (HE.out _).mono ?_; rintro e w3 ⟨rfl, hb3⟩)
        go_ret2
        exact ⟨by rw [HV2.out, HB2.out]; rfl, bmore HB3.out hb3⟩
end Go.Proofs.YtbemhbooihaadaaDoor
