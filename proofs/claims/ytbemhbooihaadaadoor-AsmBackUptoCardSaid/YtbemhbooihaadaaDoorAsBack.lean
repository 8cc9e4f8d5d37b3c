/- The walk of AsmBack. -/
import Derived.Test.YtbemhbooihaadaaDoorAsZ
namespace Go.Proofs.YtbemhbooihaadaaDoor
set_option linter.unusedVariables false
set_option linter.unusedSimpArgs false
set_option linter.unnecessarySimpa false
open Go.RowKit Go.Sort
set_option maxHeartbeats 2000000
set_option maxRecDepth 100000
set_option linter.unusedVariables false
theorem neI (a b c d e : Int) (w : World) : (binOp .neq 23 (.agg #[.int .i64 (a), .int .i64 (b), .int .i64 (c), .int .i64 (d), .int .i64 (e)]) (.agg #[.int .i64 (a), .int .i64 (b), .int .i64 (c), .int .i64 (d), .int .i64 (e)])).run Tryd.prog w = .ok (.bool false) w := by
  rw [run_neq_struct, eqI]; rfl
/-- What stands behind the first half: any text. -/
theorem back_walk (op d a b n : Int) (s : ByteArray) (w : World) (hs : s.size ≤ 100000000) (ht : Isa.Tab w) (hP : PowIs w) :
    Calls Tryd.prog 4 #[(.agg #[.int .i64 (op), .int .i64 (d), .int .i64 (a), .int .i64 (b), .int .i64 (n)]), .string s] w fun e w' => e = .returned (.bool true) ∧ Below w.heap.size w w' := by
  have HT0 : Hid (∀ W, Below w.heap.size w W → Isa.Tab W) := fun W h => ht.below h
  have HAW : Hid (∀ W, Below w.heap.size w W → Calls Tryd.prog 9 #[] W fun e w' => e = .returned (.bool true) ∧ Below W.heap.size W w') := fun W h => awake_any W (hP.below h) (ht.below h)
  have HTX : Hid (∀ (o' d' a' c' n' : Int) (W : World), Below w.heap.size w W → Calls Tryd.prog 7 #[(.agg #[.int .i64 (o'), .int .i64 (d'), .int .i64 (a'), .int .i64 (c'), .int .i64 (n')])] W fun e w' => e = .returned (.tuple #[.string (ba (textV o' d' a' c' n')), .int .i64 (textE o' d' a' c' n')]) ∧ Below W.heap.size W w') := fun o' d' a' c' n' W h => text_asm o' d' a' c' n' W (hP.below h) (ht.below h)
  have HPS : Hid (∀ W, Below w.heap.size w W → Calls Tryd.prog 10 #[.string s] W fun e w' => e = .returned (parV s.data.toList) ∧ Below W.heap.size W w') := fun W h => parse_any s hs W (ht.below h)
  have HPT : Hid (∀ W, Below w.heap.size w W → Isa.validB op d a b n = true → Calls Tryd.prog 10 #[.string (ba (textV op d a b n))] W fun e w' => e = .returned (.tuple #[(.agg #[.int .i64 (op), .int .i64 (d), .int .i64 (a), .int .i64 (b), .int .i64 (n)]), .int .i64 0]) ∧ Below W.heap.size W w') := fun W h hv => by
    have hl := text_len op d a b n
    have := parse_any (ba (textV op d a b n)) (by rw [ba_size]; omega) W (ht.below h)
    rw [ba_data, (text_back hv).1] at this
    exact this
  have HV : Hid (∀ W, Below w.heap.size w W → Calls Tryd.prog 12 #[(.agg #[.int .i64 (op), .int .i64 (d), .int .i64 (a), .int .i64 (b), .int .i64 (n)])] W fun e w' => e = .returned (.bool (Isa.validB op d a b n)) ∧ Below W.heap.size W w') := fun W h => Isa.valid_any op d a b n W (ht.below h)
  have HB0 : Hid (Below w.heap.size w (w.alloc (.cells #[.int .i64 op, .int .i64 d, .int .i64 a, .int .i64 b, .int .i64 n] 23))) := (Below.refl _ _).alloc (Nat.le_refl _) _
  have HI0 : Hid (ObjAt (w.alloc (.cells #[.int .i64 op, .int .i64 d, .int .i64 a, .int .i64 b, .int .i64 n] 23)) w.heap.size 23 [.int .i64 op, .int .i64 d, .int .i64 a, .int .i64 b, .int .i64 n]) := ObjAt.new w 23 [.int .i64 op, .int .i64 d, .int .i64 a, .int .i64 b, .int .i64 n]
  have HNE : Hid (∀ w, (binOp .neq 23 (.agg #[.int .i64 (op), .int .i64 (d), .int .i64 (a), .int .i64 (b), .int .i64 (n)]) (.agg #[.int .i64 (op), .int .i64 (d), .int .i64 (a), .int .i64 (b), .int .i64 (n)])).run Tryd.prog w = .ok (.bool false) w) := fun w => neI op d a b n w
  have HEQ : Hid (∀ w, Sem.run Tryd.prog (Op.equalIn 10000 23 (.agg #[.int .i64 (op), .int .i64 (d), .int .i64 (a), .int .i64 (b), .int .i64 (n)]) (.agg #[.int .i64 (op), .int .i64 (d), .int .i64 (a), .int .i64 (b), .int .i64 (n)])) w = .ok true w) := fun w => eqI op d a b n w
  have HEZ : Hid (∀ w, Sem.run Tryd.prog (Op.equalIn 10000 23 (.agg #[.int .i64 (0), .int .i64 (0), .int .i64 (0), .int .i64 (0), .int .i64 (0)]) (.agg #[.int .i64 (0), .int .i64 (0), .int .i64 (0), .int .i64 (0), .int .i64 (0)])) w = .ok true w) := fun w => eqI 0 0 0 0 0 w
  clear ht hP hs
  cases hv : Isa.validB op d a b n
  · have hte : textE op d a b n = 6 := by rw [textE, hv]; rfl
    have HT1 := fun W h => Lib.hid (HTX.out op d a b n W h)
    rw [hte] at HT1
    rw [hv] at HV
    clear hte hv HPT
    generalize ba (textV op d a b n) = tv at HT1
    go_enter Tryd.func4, Tryd.ntmps4
    go_wp2_with fail
    refine ((HT1 _ HB0.out).out).mono ?_; rintro e w1 ⟨rfl, hb1⟩
    have HB1 := Lib.hid (bmore HB0.out hb1)
    have HI1 := Lib.hid (HI0.out.below hb1)
    have i0 := HI1.out.cell 0 _ rfl; have i1 := HI1.out.cell 1 _ rfl; have i2 := HI1.out.cell 2 _ rfl; have i3 := HI1.out.cell 3 _ rfl; have i4 := HI1.out.cell 4 _ rfl
    clear hb1
    go_wp2_with fail
    refine (HV.out _ HB1.out).mono ?_; rintro e w2 ⟨rfl, hb2⟩
    have HB2 := Lib.hid (bmore HB1.out hb2)
    clear hb2 i0 i1 i2 i3 i4
    go_wp2_with fail
    refine (HPS.out _ HB2.out).mono ?_; rintro e w5 ⟨rfl, hb5⟩
    have HB5 := Lib.hid (bmore HB2.out hb5)
    clear hb5
    cases hpb : parB s.data.toList
    · have HPV := Lib.hid (parV_no hpb)
      clear hpb
      rw [HPV.out]
      have HB6 : Hid (∀ o, Below w.heap.size w (w5.alloc o)) := fun o => HB5.out.alloc HB5.out.size _
      have heq := HEZ.out
      go_wp2_with (go_at_call 9; refine (HAW.out _ (HB6.out _)).mono ?_; rintro e w6 ⟨rfl, hb6⟩)
      go_ret
      exact ⟨rfl, bmore (HB6.out _) hb6⟩
    · obtain ⟨hpv, hvd⟩ := parV_yes hpb
      obtain ⟨ht1, ht2⟩ := back_text hpb
      have HT2 := fun W h => Lib.hid (HTX.out (parO s.data.toList) (parD s.data.toList) (parA s.data.toList) (parC s.data.toList) (parN s.data.toList) W h)
      rw [ht1, ht2, ba_of] at HT2
      have HPV := Lib.hid hpv
      clear hpb hpv hvd ht1 ht2
      rw [HPV.out]
      generalize parO s.data.toList = o' at HT2 HPV ⊢
      generalize parD s.data.toList = d' at HT2 HPV ⊢
      generalize parA s.data.toList = a' at HT2 HPV ⊢
      generalize parC s.data.toList = c' at HT2 HPV ⊢
      generalize parN s.data.toList = n' at HT2 HPV ⊢
      have HB6 : Hid (∀ o, Below w.heap.size w (w5.alloc o)) := fun o => HB5.out.alloc HB5.out.size _
      go_wp2_with (first | (go_at_call 7; refine ((HT2 _ (HB6.out _)).out).mono ?_; rintro e w6 ⟨rfl, hb6⟩; have HB7 := Lib.hid (bmore (HB6.out _) hb6); clear hb6) | (go_at_call 9; refine (HAW.out _ HB7.out).mono ?_; rintro e w7 ⟨rfl, hb7⟩))
      go_ret
      exact ⟨rfl, bmore HB7.out hb7⟩
  · have hte : textE op d a b n = 0 := by rw [textE, hv]; rfl
    have HT1 := fun W h => Lib.hid (HTX.out op d a b n W h)
    have HP1 := fun W h => Lib.hid (HPT.out W h hv)
    rw [hte] at HT1
    rw [hv] at HV
    clear hte hv HPT
    generalize ba (textV op d a b n) = tv at HT1 HP1
    go_enter Tryd.func4, Tryd.ntmps4
    go_wp2_with fail
    refine ((HT1 _ HB0.out).out).mono ?_; rintro e w1 ⟨rfl, hb1⟩
    have HB1 := Lib.hid (bmore HB0.out hb1)
    have HI1 := Lib.hid (HI0.out.below hb1)
    have i0 := HI1.out.cell 0 _ rfl; have i1 := HI1.out.cell 1 _ rfl; have i2 := HI1.out.cell 2 _ rfl; have i3 := HI1.out.cell 3 _ rfl; have i4 := HI1.out.cell 4 _ rfl
    clear hb1
    go_wp2_with fail
    refine (HV.out _ HB1.out).mono ?_; rintro e w2 ⟨rfl, hb2⟩
    have HB2 := Lib.hid (bmore HB1.out hb2)
    have HI2 := Lib.hid (HI1.out.below hb2)
    clear hb2 i0 i1 i2 i3 i4
    go_wp2_with fail
    refine ((HP1 _ HB2.out).out).mono ?_; rintro e w3 ⟨rfl, hb3⟩
    have HB3' := Lib.hid (bmore HB2.out hb3)
    have HB3 : Hid (∀ o, Below w.heap.size w (w3.alloc o)) := fun o => HB3'.out.alloc HB3'.out.size _
    have HI3 := Lib.hid ((HI2.out.below hb3).below ((Below.refl _ _).alloc (Nat.le_refl _) (.cells #[.int .i64 op, .int .i64 d, .int .i64 a, .int .i64 b, .int .i64 n] 23)))
    have i0 := HI3.out.cell 0 _ rfl; have i1 := HI3.out.cell 1 _ rfl; have i2 := HI3.out.cell 2 _ rfl; have i3 := HI3.out.cell 3 _ rfl; have i4 := HI3.out.cell 4 _ rfl
    have hne := HNE.out
    have heq := HEQ.out
    clear hb3
    go_wp2_with fail
    have HB4 := Lib.hid (HB3.out (.cells #[.int .i64 op, .int .i64 d, .int .i64 a, .int .i64 b, .int .i64 n] 23))
    clear i0 i1 i2 i3 i4 hne heq
    refine (HPS.out _ HB4.out).mono ?_; rintro e w5 ⟨rfl, hb5⟩
    have HB5 := Lib.hid (bmore HB4.out hb5)
    clear hb5
    cases hpb : parB s.data.toList
    · have HPV := Lib.hid (parV_no hpb)
      clear hpb
      rw [HPV.out]
      have HB6 : Hid (∀ o, Below w.heap.size w (w5.alloc o)) := fun o => HB5.out.alloc HB5.out.size _
      have heq := HEZ.out
      go_wp2_with (go_at_call 9; refine (HAW.out _ (HB6.out _)).mono ?_; rintro e w6 ⟨rfl, hb6⟩)
      go_ret
      exact ⟨rfl, bmore (HB6.out _) hb6⟩
    · obtain ⟨hpv, hvd⟩ := parV_yes hpb
      obtain ⟨ht1, ht2⟩ := back_text hpb
      have HT2 := fun W h => Lib.hid (HTX.out (parO s.data.toList) (parD s.data.toList) (parA s.data.toList) (parC s.data.toList) (parN s.data.toList) W h)
      rw [ht1, ht2, ba_of] at HT2
      have HPV := Lib.hid hpv
      clear hpb hpv hvd ht1 ht2
      rw [HPV.out]
      generalize parO s.data.toList = o' at HT2 HPV ⊢
      generalize parD s.data.toList = d' at HT2 HPV ⊢
      generalize parA s.data.toList = a' at HT2 HPV ⊢
      generalize parC s.data.toList = c' at HT2 HPV ⊢
      generalize parN s.data.toList = n' at HT2 HPV ⊢
      have HB6 : Hid (∀ o, Below w.heap.size w (w5.alloc o)) := fun o => HB5.out.alloc HB5.out.size _
      go_wp2_with (first | (go_at_call 7; refine ((HT2 _ (HB6.out _)).out).mono ?_; rintro e w6 ⟨rfl, hb6⟩; have HB7 := Lib.hid (bmore (HB6.out _) hb6); clear hb6) | (go_at_call 9; refine (HAW.out _ HB7.out).mono ?_; rintro e w7 ⟨rfl, hb7⟩))
      go_ret
      exact ⟨rfl, bmore HB7.out hb7⟩
end Go.Proofs.YtbemhbooihaadaaDoor
