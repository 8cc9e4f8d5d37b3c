/- Package asm: kinds; the text of an instruction. -/
import Derived.Test.YtbemhbooihaadaaDoorAs2
namespace Go.Proofs.YtbemhbooihaadaaDoor
set_option linter.unusedVariables false
set_option linter.unusedSimpArgs false
set_option linter.unnecessarySimpa false
open Go.RowKit Go.Sort
set_option maxHeartbeats 2000000
set_option maxRecDepth 100000
set_option linter.unusedVariables false
def kindL : List Nat := [0, 0, 0, 0, 0, 0, 0, 0, 0, 0, 0, 0, 0, 0, 1, 1, 1, 1, 1, 1, 1, 1, 2, 1, 1, 1, 3, 3, 3, 3, 3, 3, 2, 1, 5, 5, 5, 2, 4, 5, 5, 5]
def kindN (o : Nat) : Nat := kindL.getD o 5
theorem kind_1 (w : World) : Calls Tryd.prog 21 #[.int .i64 1] w fun e w' => e = .returned (.int .i64 0) ∧ w = w' := by
  go_enter Tryd.func21, Tryd.ntmps21
  go_wp2
  go_ret
  exact ⟨rfl, rfl⟩
theorem kind_2 (w : World) : Calls Tryd.prog 21 #[.int .i64 2] w fun e w' => e = .returned (.int .i64 0) ∧ w = w' := by
  go_enter Tryd.func21, Tryd.ntmps21
  go_wp2
  go_ret
  exact ⟨rfl, rfl⟩
theorem kind_3 (w : World) : Calls Tryd.prog 21 #[.int .i64 3] w fun e w' => e = .returned (.int .i64 0) ∧ w = w' := by
  go_enter Tryd.func21, Tryd.ntmps21
  go_wp2
  go_ret
  exact ⟨rfl, rfl⟩
theorem kind_4 (w : World) : Calls Tryd.prog 21 #[.int .i64 4] w fun e w' => e = .returned (.int .i64 0) ∧ w = w' := by
  go_enter Tryd.func21, Tryd.ntmps21
  go_wp2
  go_ret
  exact ⟨rfl, rfl⟩
theorem kind_5 (w : World) : Calls Tryd.prog 21 #[.int .i64 5] w fun e w' => e = .returned (.int .i64 0) ∧ w = w' := by
  go_enter Tryd.func21, Tryd.ntmps21
  go_wp2
  go_ret
  exact ⟨rfl, rfl⟩
theorem kind_6 (w : World) : Calls Tryd.prog 21 #[.int .i64 6] w fun e w' => e = .returned (.int .i64 0) ∧ w = w' := by
  go_enter Tryd.func21, Tryd.ntmps21
  go_wp2
  go_ret
  exact ⟨rfl, rfl⟩
theorem kind_7 (w : World) : Calls Tryd.prog 21 #[.int .i64 7] w fun e w' => e = .returned (.int .i64 0) ∧ w = w' := by
  go_enter Tryd.func21, Tryd.ntmps21
  go_wp2
  go_ret
  exact ⟨rfl, rfl⟩
theorem kind_8 (w : World) : Calls Tryd.prog 21 #[.int .i64 8] w fun e w' => e = .returned (.int .i64 0) ∧ w = w' := by
  go_enter Tryd.func21, Tryd.ntmps21
  go_wp2
  go_ret
  exact ⟨rfl, rfl⟩
theorem kind_9 (w : World) : Calls Tryd.prog 21 #[.int .i64 9] w fun e w' => e = .returned (.int .i64 0) ∧ w = w' := by
  go_enter Tryd.func21, Tryd.ntmps21
  go_wp2
  go_ret
  exact ⟨rfl, rfl⟩
theorem kind_10 (w : World) : Calls Tryd.prog 21 #[.int .i64 10] w fun e w' => e = .returned (.int .i64 0) ∧ w = w' := by
  go_enter Tryd.func21, Tryd.ntmps21
  go_wp2
  go_ret
  exact ⟨rfl, rfl⟩
theorem kind_11 (w : World) : Calls Tryd.prog 21 #[.int .i64 11] w fun e w' => e = .returned (.int .i64 0) ∧ w = w' := by
  go_enter Tryd.func21, Tryd.ntmps21
  go_wp2
  go_ret
  exact ⟨rfl, rfl⟩
theorem kind_12 (w : World) : Calls Tryd.prog 21 #[.int .i64 12] w fun e w' => e = .returned (.int .i64 0) ∧ w = w' := by
  go_enter Tryd.func21, Tryd.ntmps21
  go_wp2
  go_ret
  exact ⟨rfl, rfl⟩
theorem kind_13 (w : World) : Calls Tryd.prog 21 #[.int .i64 13] w fun e w' => e = .returned (.int .i64 0) ∧ w = w' := by
  go_enter Tryd.func21, Tryd.ntmps21
  go_wp2
  go_ret
  exact ⟨rfl, rfl⟩
theorem kind_14 (w : World) : Calls Tryd.prog 21 #[.int .i64 14] w fun e w' => e = .returned (.int .i64 1) ∧ w = w' := by
  go_enter Tryd.func21, Tryd.ntmps21
  go_wp2
  go_ret
  exact ⟨rfl, rfl⟩
theorem kind_15 (w : World) : Calls Tryd.prog 21 #[.int .i64 15] w fun e w' => e = .returned (.int .i64 1) ∧ w = w' := by
  go_enter Tryd.func21, Tryd.ntmps21
  go_wp2
  go_ret
  exact ⟨rfl, rfl⟩
theorem kind_16 (w : World) : Calls Tryd.prog 21 #[.int .i64 16] w fun e w' => e = .returned (.int .i64 1) ∧ w = w' := by
  go_enter Tryd.func21, Tryd.ntmps21
  go_wp2
  go_ret
  exact ⟨rfl, rfl⟩
theorem kind_17 (w : World) : Calls Tryd.prog 21 #[.int .i64 17] w fun e w' => e = .returned (.int .i64 1) ∧ w = w' := by
  go_enter Tryd.func21, Tryd.ntmps21
  go_wp2
  go_ret
  exact ⟨rfl, rfl⟩
theorem kind_18 (w : World) : Calls Tryd.prog 21 #[.int .i64 18] w fun e w' => e = .returned (.int .i64 1) ∧ w = w' := by
  go_enter Tryd.func21, Tryd.ntmps21
  go_wp2
  go_ret
  exact ⟨rfl, rfl⟩
theorem kind_19 (w : World) : Calls Tryd.prog 21 #[.int .i64 19] w fun e w' => e = .returned (.int .i64 1) ∧ w = w' := by
  go_enter Tryd.func21, Tryd.ntmps21
  go_wp2
  go_ret
  exact ⟨rfl, rfl⟩
theorem kind_20 (w : World) : Calls Tryd.prog 21 #[.int .i64 20] w fun e w' => e = .returned (.int .i64 1) ∧ w = w' := by
  go_enter Tryd.func21, Tryd.ntmps21
  go_wp2
  go_ret
  exact ⟨rfl, rfl⟩
theorem kind_21 (w : World) : Calls Tryd.prog 21 #[.int .i64 21] w fun e w' => e = .returned (.int .i64 1) ∧ w = w' := by
  go_enter Tryd.func21, Tryd.ntmps21
  go_wp2
  go_ret
  exact ⟨rfl, rfl⟩
theorem kind_22 (w : World) : Calls Tryd.prog 21 #[.int .i64 22] w fun e w' => e = .returned (.int .i64 2) ∧ w = w' := by
  go_enter Tryd.func21, Tryd.ntmps21
  go_wp2
  go_ret
  exact ⟨rfl, rfl⟩
theorem kind_23 (w : World) : Calls Tryd.prog 21 #[.int .i64 23] w fun e w' => e = .returned (.int .i64 1) ∧ w = w' := by
  go_enter Tryd.func21, Tryd.ntmps21
  go_wp2
  go_ret
  exact ⟨rfl, rfl⟩
theorem kind_24 (w : World) : Calls Tryd.prog 21 #[.int .i64 24] w fun e w' => e = .returned (.int .i64 1) ∧ w = w' := by
  go_enter Tryd.func21, Tryd.ntmps21
  go_wp2
  go_ret
  exact ⟨rfl, rfl⟩
theorem kind_25 (w : World) : Calls Tryd.prog 21 #[.int .i64 25] w fun e w' => e = .returned (.int .i64 1) ∧ w = w' := by
  go_enter Tryd.func21, Tryd.ntmps21
  go_wp2
  go_ret
  exact ⟨rfl, rfl⟩
theorem kind_26 (w : World) : Calls Tryd.prog 21 #[.int .i64 26] w fun e w' => e = .returned (.int .i64 3) ∧ w = w' := by
  go_enter Tryd.func21, Tryd.ntmps21
  go_wp2
  go_ret
  exact ⟨rfl, rfl⟩
theorem kind_27 (w : World) : Calls Tryd.prog 21 #[.int .i64 27] w fun e w' => e = .returned (.int .i64 3) ∧ w = w' := by
  go_enter Tryd.func21, Tryd.ntmps21
  go_wp2
  go_ret
  exact ⟨rfl, rfl⟩
theorem kind_28 (w : World) : Calls Tryd.prog 21 #[.int .i64 28] w fun e w' => e = .returned (.int .i64 3) ∧ w = w' := by
  go_enter Tryd.func21, Tryd.ntmps21
  go_wp2
  go_ret
  exact ⟨rfl, rfl⟩
theorem kind_29 (w : World) : Calls Tryd.prog 21 #[.int .i64 29] w fun e w' => e = .returned (.int .i64 3) ∧ w = w' := by
  go_enter Tryd.func21, Tryd.ntmps21
  go_wp2
  go_ret
  exact ⟨rfl, rfl⟩
theorem kind_30 (w : World) : Calls Tryd.prog 21 #[.int .i64 30] w fun e w' => e = .returned (.int .i64 3) ∧ w = w' := by
  go_enter Tryd.func21, Tryd.ntmps21
  go_wp2
  go_ret
  exact ⟨rfl, rfl⟩
theorem kind_31 (w : World) : Calls Tryd.prog 21 #[.int .i64 31] w fun e w' => e = .returned (.int .i64 3) ∧ w = w' := by
  go_enter Tryd.func21, Tryd.ntmps21
  go_wp2
  go_ret
  exact ⟨rfl, rfl⟩
theorem kind_32 (w : World) : Calls Tryd.prog 21 #[.int .i64 32] w fun e w' => e = .returned (.int .i64 2) ∧ w = w' := by
  go_enter Tryd.func21, Tryd.ntmps21
  go_wp2
  go_ret
  exact ⟨rfl, rfl⟩
theorem kind_33 (w : World) : Calls Tryd.prog 21 #[.int .i64 33] w fun e w' => e = .returned (.int .i64 1) ∧ w = w' := by
  go_enter Tryd.func21, Tryd.ntmps21
  go_wp2
  go_ret
  exact ⟨rfl, rfl⟩
theorem kind_34 (w : World) : Calls Tryd.prog 21 #[.int .i64 34] w fun e w' => e = .returned (.int .i64 5) ∧ w = w' := by
  go_enter Tryd.func21, Tryd.ntmps21
  go_wp2
  go_ret
  exact ⟨rfl, rfl⟩
theorem kind_35 (w : World) : Calls Tryd.prog 21 #[.int .i64 35] w fun e w' => e = .returned (.int .i64 5) ∧ w = w' := by
  go_enter Tryd.func21, Tryd.ntmps21
  go_wp2
  go_ret
  exact ⟨rfl, rfl⟩
theorem kind_36 (w : World) : Calls Tryd.prog 21 #[.int .i64 36] w fun e w' => e = .returned (.int .i64 5) ∧ w = w' := by
  go_enter Tryd.func21, Tryd.ntmps21
  go_wp2
  go_ret
  exact ⟨rfl, rfl⟩
theorem kind_37 (w : World) : Calls Tryd.prog 21 #[.int .i64 37] w fun e w' => e = .returned (.int .i64 2) ∧ w = w' := by
  go_enter Tryd.func21, Tryd.ntmps21
  go_wp2
  go_ret
  exact ⟨rfl, rfl⟩
theorem kind_38 (w : World) : Calls Tryd.prog 21 #[.int .i64 38] w fun e w' => e = .returned (.int .i64 4) ∧ w = w' := by
  go_enter Tryd.func21, Tryd.ntmps21
  go_wp2
  go_ret
  exact ⟨rfl, rfl⟩
theorem kind_39 (w : World) : Calls Tryd.prog 21 #[.int .i64 39] w fun e w' => e = .returned (.int .i64 5) ∧ w = w' := by
  go_enter Tryd.func21, Tryd.ntmps21
  go_wp2
  go_ret
  exact ⟨rfl, rfl⟩
theorem kind_40 (w : World) : Calls Tryd.prog 21 #[.int .i64 40] w fun e w' => e = .returned (.int .i64 5) ∧ w = w' := by
  go_enter Tryd.func21, Tryd.ntmps21
  go_wp2
  go_ret
  exact ⟨rfl, rfl⟩
theorem kind_41 (w : World) : Calls Tryd.prog 21 #[.int .i64 41] w fun e w' => e = .returned (.int .i64 5) ∧ w = w' := by
  go_enter Tryd.func21, Tryd.ntmps21
  go_wp2
  go_ret
  exact ⟨rfl, rfl⟩
theorem kind_any (o : Nat) (h1 : 1 ≤ o) (h2 : o < 42) (w : World) : Calls Tryd.prog 21 #[.int .i64 o] w fun e w' => e = .returned (.int .i64 (kindN o)) ∧ w = w' := by
  rcases (by omega : o = 1 ∨ o = 2 ∨ o = 3 ∨ o = 4 ∨ o = 5 ∨ o = 6 ∨ o = 7 ∨ o = 8 ∨ o = 9 ∨ o = 10 ∨ o = 11 ∨ o = 12 ∨ o = 13 ∨ o = 14 ∨ o = 15 ∨ o = 16 ∨ o = 17 ∨ o = 18 ∨ o = 19 ∨ o = 20 ∨ o = 21 ∨ o = 22 ∨ o = 23 ∨ o = 24 ∨ o = 25 ∨ o = 26 ∨ o = 27 ∨ o = 28 ∨ o = 29 ∨ o = 30 ∨ o = 31 ∨ o = 32 ∨ o = 33 ∨ o = 34 ∨ o = 35 ∨ o = 36 ∨ o = 37 ∨ o = 38 ∨ o = 39 ∨ o = 40 ∨ o = 41) with rfl | rfl | rfl | rfl | rfl | rfl | rfl | rfl | rfl | rfl | rfl | rfl | rfl | rfl | rfl | rfl | rfl | rfl | rfl | rfl | rfl | rfl | rfl | rfl | rfl | rfl | rfl | rfl | rfl | rfl | rfl | rfl | rfl | rfl | rfl | rfl | rfl | rfl | rfl | rfl | rfl
  · exact kind_1 w
  · exact kind_2 w
  · exact kind_3 w
  · exact kind_4 w
  · exact kind_5 w
  · exact kind_6 w
  · exact kind_7 w
  · exact kind_8 w
  · exact kind_9 w
  · exact kind_10 w
  · exact kind_11 w
  · exact kind_12 w
  · exact kind_13 w
  · exact kind_14 w
  · exact kind_15 w
  · exact kind_16 w
  · exact kind_17 w
  · exact kind_18 w
  · exact kind_19 w
  · exact kind_20 w
  · exact kind_21 w
  · exact kind_22 w
  · exact kind_23 w
  · exact kind_24 w
  · exact kind_25 w
  · exact kind_26 w
  · exact kind_27 w
  · exact kind_28 w
  · exact kind_29 w
  · exact kind_30 w
  · exact kind_31 w
  · exact kind_32 w
  · exact kind_33 w
  · exact kind_34 w
  · exact kind_35 w
  · exact kind_36 w
  · exact kind_37 w
  · exact kind_38 w
  · exact kind_39 w
  · exact kind_40 w
  · exact kind_41 w
theorem kindN_le : ∀ o : Fin 42, kindN o.val ≤ 5 := by decide +kernel
theorem opName_le : ∀ o : Fin 42, (opName o.val).length ≤ 10 := by decide +kernel
def textL (o : Nat) (d a b n : Int) : List UInt8 := match kindN o with
  | 0 => opName o ++ (wregL d ++ (wregL a ++ wregL b))
  | 1 => opName o ++ (wregL d ++ (wregL a ++ wnumL n))
  | 2 => opName o ++ (wregL d ++ wnumL n)
  | 3 => opName o ++ (wregL a ++ (wregL b ++ wnumL n))
  | 4 => opName o ++ (wregL a ++ wnumL n)
  | _ => opName o
structure TS (w : World) (wb ib : Nat) (op d a b n : Int) (L : List UInt8) (k : Nat) (W : World) : Prop where
  bel : Below w.heap.size w W
  new : w.heap.size ≤ wb
  obj : ObjAt W wb 49 [.string (ba L)]
  ins : ObjAt W ib 23 [.int .i64 op, .int .i64 d, .int .i64 a, .int .i64 b, .int .i64 n]
  len : L.length ≤ k
theorem wregL_len (n : Int) (h0 : -9223372036854775808 ≤ n) (h1 : n ≤ 9223372036854775807) : (wregL n).length ≤ 30 := by
  have := Lib.itoa_length_le n h0 h1
  simp [wregL]; omega
theorem wnumL_len (n : Int) (h0 : -9223372036854775808 ≤ n) (h1 : n ≤ 9223372036854775807) : (wnumL n).length ≤ 30 := by
  have := Lib.itoa_length_le n h0 h1
  simp [wnumL]; omega
theorem reg_ts {w : World} (hP : PowIs w) {wb ib : Nat} {op d a b n : Int} {L : List UInt8} {k : Nat} {W : World} (h : TS w wb ib op d a b n L k W) (hk : k ≤ 1000) (x : Int) (h0 : -9223372036854775808 ≤ x) (h1 : x ≤ 9223372036854775807) :
    Calls Tryd.prog 19 #[.pointer (some ⟨wb, 0, none⟩), .int .i64 x] W fun e w' => e = .returned (.tuple #[]) ∧ TS w wb ib op d a b n (L ++ wregL x) (k + 30) w' := by
  have hlen := h.len
  refine (wreg_any wb L x h0 h1 W (hP.below h.bel) h.obj (by omega)).mono ?_
  rintro e w' ⟨rfl, ho, hu⟩
  have hne : ib ≠ wb := h.ins.ne h.obj (by decide)
  refine ⟨rfl, ?_, h.new, ho, h.ins.upd hu hne, ?_⟩
  · exact h.bel.trans (hu.below h.new h.bel.size)
  · have := wregL_len x h0 h1
    rw [List.length_append]; omega
theorem num_ts {w : World} (hP : PowIs w) {wb ib : Nat} {op d a b n : Int} {L : List UInt8} {k : Nat} {W : World} (h : TS w wb ib op d a b n L k W) (hk : k ≤ 1000) (x : Int) (h0 : -9223372036854775808 ≤ x) (h1 : x ≤ 9223372036854775807) :
    Calls Tryd.prog 20 #[.pointer (some ⟨wb, 0, none⟩), .int .i64 x] W fun e w' => e = .returned (.tuple #[]) ∧ TS w wb ib op d a b n (L ++ wnumL x) (k + 30) w' := by
  have hlen := h.len
  refine (wnum_any wb L x h0 h1 W (hP.below h.bel) h.obj (by omega)).mono ?_
  rintro e w' ⟨rfl, ho, hu⟩
  have hne : ib ≠ wb := h.ins.ne h.obj (by decide)
  refine ⟨rfl, ?_, h.new, ho, h.ins.upd hu hne, ?_⟩
  · exact h.bel.trans (hu.below h.new h.bel.size)
  · have := wnumL_len x h0 h1
    rw [List.length_append]; omega
def textE (op d a b n : Int) : Int := if Isa.validB op d a b n then 0 else 6
def textV (op d a b n : Int) : List UInt8 := if Isa.validB op d a b n then textL op.toNat d a b n else []
theorem text_asm (op d a b n : Int) (w : World) (hP : PowIs w) (ht : Isa.Tab w) :
    Calls Tryd.prog 7 #[(.agg #[.int .i64 (op), .int .i64 (d), .int .i64 (a), .int .i64 (b), .int .i64 (n)])] w fun e w' => e = .returned (.tuple #[.string (ba (textV op d a b n)), .int .i64 (textE op d a b n)]) ∧ Below w.heap.size w w' := by
  have HT := Lib.hid (Isa.alloc_tab ht (.cells #[.int .i64 op, .int .i64 d, .int .i64 a, .int .i64 b, .int .i64 n] 23))
  have HP := Lib.hid hP
  clear ht hP
  cases hv : Isa.validB op d a b n
  · have HE : Hid (textV op d a b n = [] ∧ textE op d a b n = 6) := by simp [Hid, textV, textE, hv]
    go_enter Tryd.func7, Tryd.ntmps7
    go_wp2_with (go_at_call 12; refine (Isa.valid_any _ _ _ _ _ _ HT.out).mono ?_; rintro e w1 ⟨rfl, hb1⟩)
    go_ret2
    exact ⟨by rw [HE.out.1, HE.out.2]; rfl, ((Below.refl _ _).alloc (Nat.le_refl _) _).trans (hb1.mono (by simp))⟩
  · have hB := Isa.validB_bounds hv
    obtain ⟨⟨o1, o2⟩, ⟨d1, d2⟩, ⟨a1, a2⟩, ⟨b1, b2⟩, ⟨n1, n2⟩⟩ := hB
    obtain ⟨o, rfl⟩ : ∃ o : Nat, op = o := ⟨op.toNat, by omega⟩
    have HO : Hid (1 ≤ o ∧ o < 42) := ⟨by omega, by omega⟩
    have HE : Hid (textV o d a b n = textL o d a b n ∧ textE o d a b n = 0) := by simp [Hid, textV, textE, hv]
    go_enter Tryd.func7, Tryd.ntmps7
    go_wp2_with fail
    refine (Isa.valid_any _ _ _ _ _ _ HT.out).mono ?_; rintro e w1 ⟨rfl, hb1⟩
    have HB1 : Hid (Below w.heap.size w w1) := ((Below.refl _ _).alloc (Nat.le_refl _) _).trans (hb1.mono (by simp))
    have HI1 : Hid (ObjAt w1 w.heap.size 23 [.int .i64 o, .int .i64 d, .int .i64 a, .int .i64 b, .int .i64 n]) := (ObjAt.new w 23 [.int .i64 o, .int .i64 d, .int .i64 a, .int .i64 b, .int .i64 n]).below hb1
    have k0 := HI1.out.cell 0 _ rfl
    clear hb1
    go_wp2_with fail
    refine (name_any o HO.out.1 HO.out.2 _).mono ?_; rintro e w2 ⟨rfl, hb2⟩
    have HB2 : Hid (Below w.heap.size w w2) := bmore HB1.out hb2
    have HI2 : Hid (ObjAt w2 w.heap.size 23 [.int .i64 o, .int .i64 d, .int .i64 a, .int .i64 b, .int .i64 n]) := HI1.out.below hb2
    have HB3 : Hid (Below w.heap.size w (w2.alloc (.cells #[.string (ba (opName o))] 49))) := bmore HB2.out ((Below.refl _ _).alloc (Nat.le_refl _) _)
    have HI3 : Hid (ObjAt (w2.alloc (.cells #[.string (ba (opName o))] 49)) w.heap.size 23 [.int .i64 o, .int .i64 d, .int .i64 a, .int .i64 b, .int .i64 n]) := HI2.out.below ((Below.refl _ _).alloc (Nat.le_refl _) _)
    have k0 := HI3.out.cell 0 _ rfl
    have k1 := HI3.out.cell 1 _ rfl
    have k2 := HI3.out.cell 2 _ rfl
    have k3 := HI3.out.cell 3 _ rfl
    have k4 := HI3.out.cell 4 _ rfl
    have kw := (ObjAt.new w2 49 [.string (ba (opName o))]).cell 0 _ rfl
    have hTS : TS w w2.heap.size w.heap.size o d a b n (opName o) 10 (w2.alloc (.cells #[.string (ba (opName o))] 49)) := ⟨HB3.out, HB2.out.size, ObjAt.new w2 49 [.string (ba (opName o))], HI3.out, opName_le ⟨o, by omega⟩⟩
    clear hb2
    go_wp2_with fail
    refine (kind_any o HO.out.1 HO.out.2 _).mono ?_; rintro e w3 ⟨rfl, rfl⟩
    have HC : Hid (kindN o = 0 ∨ kindN o = 1 ∨ kindN o = 2 ∨ kindN o = 3 ∨ kindN o = 4 ∨ kindN o = 5) := by have := kindN_le ⟨o, by omega⟩; dsimp only at this; unfold Hid; omega
    clear HB1 HI1 HB3 HI3 HT
    rcases HC.out with hK | hK | hK | hK | hK | hK
    all_goals
      rw [hK]
      have HL : Hid (kindN o = _) := hK
      clear hK HC
      go_wp2_with (first | (go_at_call 19; refine (reg_ts HP.out (by assumption) (by omega) _ (by omega) (by omega)).mono ?_; rintro e Wr ⟨rfl, hTS⟩; have k1 := hTS.ins.cell 1 _ rfl; have k2 := hTS.ins.cell 2 _ rfl; have k3 := hTS.ins.cell 3 _ rfl; have k4 := hTS.ins.cell 4 _ rfl; have kw := hTS.obj.cell 0 _ rfl) | (go_at_call 20; refine (num_ts HP.out (by assumption) (by omega) _ (by omega) (by omega)).mono ?_; rintro e Wr ⟨rfl, hTS⟩; have k1 := hTS.ins.cell 1 _ rfl; have k2 := hTS.ins.cell 2 _ rfl; have k3 := hTS.ins.cell 3 _ rfl; have k4 := hTS.ins.cell 4 _ rfl; have kw := hTS.obj.cell 0 _ rfl))
      go_ret2
      refine ⟨?_, ?_⟩
      · rw [HE.out.1, HE.out.2]; unfold textL; rw [HL.out]; rfl
      · first | (rename_i hTS; exact hTS.bel) | exact hTS.bel
end Go.Proofs.YtbemhbooihaadaaDoor
