/- The reference for asm: names, numbers with a sign, texts. -/
import Derived.Test.YtbemhbooihaadaaDoorAs3
import Derived.Test.YtbemhbooihaadaaDoorAs4
namespace Go.Proofs.YtbemhbooihaadaaDoor
set_option linter.unusedVariables false
set_option linter.unusedSimpArgs false
set_option linter.unnecessarySimpa false
open Go.RowKit Go.Sort
set_option maxHeartbeats 2000000
set_option maxRecDepth 100000
set_option linter.unusedVariables false
theorem rnames_any (w : World) : Calls Tryd.prog 24 #[] w fun e w' => e = .returned (.slice (some ⟨w.heap.size, 0, none⟩) 42 42) ∧ w' = w.alloc (.cells (strC opNames).toArray 9) := by
  go_enter Tryd.func24, Tryd.ntmps24
  go_wp2
  go_ret
  exact ⟨rfl, rfl⟩
theorem names_at (w W : World) (h : Below (w.heap.size + 1) (w.alloc (.cells (strC opNames).toArray 9)) W) (o : Nat) (ho : o < 42) : W.cell? ⟨w.heap.size, o, none⟩ = some (.string (ba (opName o))) := by
  have hn : ObjAt (w.alloc (.cells (strC opNames).toArray 9)) w.heap.size 9 (strC opNames) := ObjAt.new w 9 (strC opNames)
  have := (hn.belowB h (by omega)).cell o (.string (ba (opName o))) (by
    rw [strC_get _ _ (by rw [opNames_len]; exact ho)]
    unfold opName
    rw [List.getD_eq_getElem?_getD, List.getElem?_eq_getElem (by rw [opNames_len]; exact ho)]; rfl)
  exact this
theorem rnames_o (o : Nat) (ho : o < 42) (w : World) : Calls Tryd.prog 24 #[] w fun e w' => e = .returned (.slice (some ⟨w.heap.size, 0, none⟩) 42 42) ∧ w'.cell? ⟨w.heap.size, o, none⟩ = some (.string (ba (opName o))) ∧ Below w.heap.size w w' := by
  refine (rnames_any w).mono ?_
  rintro e w' ⟨rfl, rfl⟩
  exact ⟨rfl, names_at w _ (Below.refl _ _) o ho, (Below.refl _ _).alloc (Nat.le_refl _) _⟩
theorem digits_b (n : Nat) (h : n ≤ 9223372036854775807) (w : World) : Calls Tryd.prog 25 #[.int .i64 n] w fun e w' => e = .returned (.string (ba (Lib.decDigits n))) ∧ Below w.heap.size w w' := digits_any n w h
theorem rsigned_any (n : Int) (h0 : -100000 ≤ n) (h1 : n ≤ 100000) (w : World) : Calls Tryd.prog 26 #[.int .i64 n] w fun e w' => e = .returned (.string (ba (Lib.itoa n))) ∧ Below w.heap.size w w' := by
  by_cases hn : n < 0
  · obtain ⟨m, hm, rfl⟩ : ∃ m : Nat, 1 ≤ m ∧ n = -(m : Int) := ⟨(-n).toNat, by omega, by omega⟩
    obtain ⟨t, ht⟩ : ∃ t : ByteArray, t = ba (Lib.decDigits m) := ⟨_, rfl⟩
    have hz : t.size ≤ 30 := by
      rw [ht, ba_size, Lib.decDigits_length]
      have := Lib.nDigits_le20 m (by omega); omega
    have HD : Hid (∀ W, Calls Tryd.prog 25 #[.int .i64 m] W fun e w' => e = .returned (.string t) ∧ Below W.heap.size W w') := fun W => by rw [ht]; exact digits_b m (by omega) W
    have HR : Hid ((⟨#[45]⟩ : ByteArray) ++ t = ba (Lib.itoa (-(m : Int)))) := by
      rw [ht, Lib.itoa_neg m (by omega)]; unfold ba; rw [show (⟨#[45]⟩ : ByteArray) = ⟨[45].toArray⟩ from rfl, ba_append]; rfl
    have w1 : IntKind.i64.wrap (-(-(m : Int))) = (m : Int) := by rw [IntKind.wrap_i64]; omega
    have q1 : ¬ 9223372036854775807 < 1 + t.size := by omega
    clear ht hn
    go_enter Tryd.func26, Tryd.ntmps26
    go_wp2_with (go_at_call 25; refine (HD.out _).mono ?_; rintro e w1 ⟨rfl, hb1⟩)
    rw [HR.out]
    go_ret
    exact ⟨rfl, hb1⟩
  · obtain ⟨m, rfl⟩ : ∃ m : Nat, n = m := ⟨n.toNat, by omega⟩
    have HD : Hid (∀ W, Calls Tryd.prog 25 #[.int .i64 m] W fun e w' => e = .returned (.string (ba (Lib.itoa m))) ∧ Below W.heap.size W w') := fun W => by rw [Lib.itoa_nonneg]; exact digits_b m (by omega) W
    go_enter Tryd.func26, Tryd.ntmps26
    go_wp2_with (go_at_call 25; refine (HD.out _).mono ?_; rintro e w1 ⟨rfl, hb1⟩)
    go_ret
    exact ⟨rfl, hb1⟩
theorem fl_kinds : ∀ o : Fin 42, 1 ≤ o.val → (kindN o.val = 0 ∧ Isa.fl o.val 1 = true ∧ Isa.fl o.val 2 = true ∧ Isa.fl o.val 4 = true ∧ Isa.fl o.val 8 = false) ∨ (kindN o.val = 1 ∧ Isa.fl o.val 1 = true ∧ Isa.fl o.val 2 = true ∧ Isa.fl o.val 4 = false ∧ Isa.fl o.val 8 = true) ∨ (kindN o.val = 2 ∧ Isa.fl o.val 1 = true ∧ Isa.fl o.val 2 = false ∧ Isa.fl o.val 4 = false ∧ Isa.fl o.val 8 = true) ∨ (kindN o.val = 3 ∧ Isa.fl o.val 1 = false ∧ Isa.fl o.val 2 = true ∧ Isa.fl o.val 4 = true ∧ Isa.fl o.val 8 = true) ∨ (kindN o.val = 4 ∧ Isa.fl o.val 1 = false ∧ Isa.fl o.val 2 = true ∧ Isa.fl o.val 4 = false ∧ Isa.fl o.val 8 = true) ∨ (kindN o.val = 5 ∧ Isa.fl o.val 1 = false ∧ Isa.fl o.val 2 = false ∧ Isa.fl o.val 4 = false ∧ Isa.fl o.val 8 = false) := by decide +kernel
/- One word more of a text. -/
def addR (L : List UInt8) (n : Int) : List UInt8 := L ++ wregL n
theorem cat_reg (L : List UInt8) (n : Nat) : (ba L ++ (⟨#[32, 114]⟩ : ByteArray)) ++ ba (Lib.decDigits n) = ba (L ++ wregL n) := by
  unfold wregL ba; rw [show (⟨#[32, 114]⟩ : ByteArray) = ⟨[32, 114].toArray⟩ from rfl, ba_append, ba_append, Lib.itoa_nonneg, List.append_assoc]
theorem cat_num (L : List UInt8) (n : Int) : (ba L ++ (⟨#[32]⟩ : ByteArray)) ++ ba (Lib.itoa n) = ba (L ++ wnumL n) := by
  unfold wnumL ba; rw [show (⟨#[32]⟩ : ByteArray) = ⟨[32].toArray⟩ from rfl, ba_append, ba_append, List.append_assoc]
structure TR (w : World) (ib : Nat) (op d a b n : Int) (W : World) : Prop where
  bel : Below w.heap.size w W
  ins : ObjAt W ib 23 [.int .i64 op, .int .i64 d, .int .i64 a, .int .i64 b, .int .i64 n]
theorem TR.more {w : World} {ib : Nat} {op d a b n : Int} {W W' : World} (h : TR w ib op d a b n W) (hb : Below W.heap.size W W') : TR w ib op d a b n W' := ⟨bmore h.bel hb, h.ins.below hb⟩
theorem textL_flat (o : Nat) (h1 : 1 ≤ o) (h2 : o < 42) (d a b n : Int) : textL o d a b n = (((opName o ++ if Isa.fl o 1 then wregL d else []) ++ if Isa.fl o 2 then wregL a else []) ++ if Isa.fl o 4 then wregL b else []) ++ if Isa.fl o 8 then wnumL n else [] := by
  have hk := fl_kinds ⟨o, h2⟩ h1
  dsimp only at hk
  unfold textL
  rcases hk with ⟨k, e1, e2, e4, e8⟩ | ⟨k, e1, e2, e4, e8⟩ | ⟨k, e1, e2, e4, e8⟩ | ⟨k, e1, e2, e4, e8⟩ | ⟨k, e1, e2, e4, e8⟩ | ⟨k, e1, e2, e4, e8⟩ <;> simp [k, e1, e2, e4, e8]
theorem rtext_any (op d a b n : Int) (w : World) :
    Calls Tryd.prog 8 #[(.agg #[.int .i64 (op), .int .i64 (d), .int .i64 (a), .int .i64 (b), .int .i64 (n)])] w fun e w' => e = .returned (.tuple #[.string (ba (textV op d a b n)), .int .i64 (textE op d a b n)]) ∧ Below w.heap.size w w' := by
  cases hv : Isa.validB op d a b n
  · have HE : Hid (textV op d a b n = [] ∧ textE op d a b n = 6) := by simp [Hid, textV, textE, hv]
    have HV := Lib.hid hv
    clear hv
    go_enter Tryd.func8, Tryd.ntmps8
    go_wp2_with (go_at_call 22; refine (Isa.Valid_ref _ _ _ _ _ _).mono ?_; rintro e w1 ⟨rfl, hb1⟩; rw [HV.out])
    go_ret2
    exact ⟨by rw [HE.out.1, HE.out.2]; rfl, ((Below.refl _ _).alloc (Nat.le_refl _) _).trans (hb1.mono (by simp))⟩
  · have hB := Isa.validB_bounds hv
    obtain ⟨⟨o1, o2⟩, ⟨d1, d2⟩, ⟨a1, a2⟩, ⟨b1, b2⟩, ⟨n1, n2⟩⟩ := hB
    obtain ⟨o, rfl⟩ : ∃ o : Nat, op = o := ⟨op.toNat, by omega⟩
    obtain ⟨d, rfl⟩ : ∃ o : Nat, d = o := ⟨d.toNat, by omega⟩
    obtain ⟨a, rfl⟩ : ∃ o : Nat, a = o := ⟨a.toNat, by omega⟩
    obtain ⟨b, rfl⟩ : ∃ o : Nat, b = o := ⟨b.toNat, by omega⟩
    have HV := Lib.hid hv
    have HE : Hid (textV o d a b n = textL o d a b n ∧ textE o d a b n = 0) := by simp [Hid, textV, textE, hv]
    have hfl := textL_flat o (by omega) (by omega) d a b n
    have HHS : Hid (∀ w, Calls Tryd.prog 23 #[.int .i64 o] w fun e w' => e = .returned (.tuple #[.bool (Isa.fl o 1), .bool (Isa.fl o 2), .bool (Isa.fl o 4), .bool (Isa.fl o 8)]) ∧ w = w') := fun w => Isa.has_any o (by omega) (by omega) w
    have HNM : Hid ((opName o).length ≤ 10) := opName_le ⟨o, by omega⟩
    have HF := Lib.hid hfl
    clear hv hfl
    generalize Isa.fl o 1 = f1 at HHS HF
    generalize Isa.fl o 2 = f2 at HHS HF
    generalize Isa.fl o 4 = f4 at HHS HF
    generalize Isa.fl o 8 = f8 at HHS HF
    rw [HF.out] at HE
    clear HF
    go_enter Tryd.func8, Tryd.ntmps8
    go_wp2_with fail
    refine (Isa.Valid_ref _ _ _ _ _ _).mono ?_; rintro e w1 ⟨rfl, hb1⟩
    rw [HV.out]
    have H1 : Hid (TR w w.heap.size o d a b n w1) := ⟨((Below.refl _ _).alloc (Nat.le_refl _) _).trans (hb1.mono (by simp)), (ObjAt.new w 23 [.int .i64 o, .int .i64 d, .int .i64 a, .int .i64 b, .int .i64 n]).below hb1⟩
    have c0 := H1.out.ins.cell 0 _ rfl
    clear hb1 HV
    go_wp2_with fail
    refine (HHS.out _).mono ?_; rintro e w2 ⟨rfl, rfl⟩
    go_upto_region 4 with fail
    obtain ⟨L0, hL0⟩ : ∃ x, Hid (x = opName o) := ⟨_, Lib.hid rfl⟩
    have hl0 : L0.length ≤ 10 := by rw [hL0.out]; exact HNM.out
    go_cut [8] from 20 (fun s8 wc => s8 = .string (ba L0) ∧ TR w w.heap.size o d a b n wc)
    case first =>
      have hB1 := H1.out.bel.size
      have hlt := H1.out.ins.lt
      have HNA : Hid (∀ W, Calls Tryd.prog 24 #[] W fun e w' => e = .returned (.slice (some ⟨W.heap.size, 0, none⟩) 42 42) ∧ w'.cell? ⟨W.heap.size, o, none⟩ = some (.string (ba L0)) ∧ Below W.heap.size W w') := fun W => by rw [hL0.out]; exact rnames_o o (by omega) W
      have x1 : decide ((o : Int) < 42) = true := decide_eq_true (by omega)
      have x2 : decide ((o : Int) < 0) = false := decide_eq_false (by omega)
      have x3 : (o : Int).toNat = o := by omega
      have x4 : o < 42 := by omega
      have x5 : (o : Int) < 42 := by omega
      have x6 : (0 : Int) ≤ o := by omega
      have x7 : ¬ (o : Int) < 0 := by omega
      go_region_with (go_at_call 24; refine (HNA.out _).mono ?_; rintro e W ⟨rfl, hcW, hbW⟩; have hcV : W.cell? ⟨w1.heap.size, o, none⟩ = some (.string (ba L0)) := hcW; clear hcW; have hB2 : Below w1.heap.size w1 W := (Below.refl _ _).drew.trans hbW; have HT2 := Lib.hid (H1.out.more hB2); have c1 := HT2.out.ins.cell 0 _ rfl; clear hbW hB2)
      all_goals (go_wp2_with fail; go_meet; exact ⟨rfl, HT2.out⟩)
    case rest =>
    obtain ⟨rfl, hTR⟩ := hcut
    have HI := Lib.hid hTR
    clear hTR
    rw [← hL0.out] at HE
    clear H1 c0 HHS HNM hL0
    go_upto_if 25 with fail
    obtain ⟨L1, hL1⟩ : ∃ x, Hid (x = L0 ++ if f1 then wregL (d : Int) else []) := ⟨_, Lib.hid rfl⟩
    have hlL1 : (L1).length ≤ (L0).length + 30 := by
      rw [hL1.out, List.length_append]
      split
      · have := wregL_len (d : Int) (by omega) (by omega); omega
      · simp
    rw [← hL1.out] at HE
    go_cut [8] from 25 (fun s8 wc => s8 = .string (ba L1) ∧ TR w w.heap.size o d a b n wc)
    case first =>
      obtain ⟨tx, htx⟩ : ∃ tx : ByteArray, Hid (tx = ba (Lib.decDigits d)) := ⟨_, Lib.hid rfl⟩
      have z1 : tx.size ≤ 30 := by
        rw [htx.out, ba_size, Lib.decDigits_length]
        have := Lib.nDigits_le20 d (by omega); omega
      obtain ⟨ty, hty⟩ : ∃ ty : ByteArray, Hid (ty = ba L0) := ⟨_, Lib.hid rfl⟩
      have z2 : ty.size ≤ 400 := by rw [hty.out, ba_size]; omega
      have q1 : ¬ 9223372036854775807 < ty.size + 2 := by omega
      have q2 : ¬ 9223372036854775807 < ty.size + 2 + tx.size := by omega
      have HD : Hid (∀ W, Calls Tryd.prog 25 #[.int .i64 d] W fun e w' => e = .returned (.string tx) ∧ Below W.heap.size W w') := fun W => by rw [htx.out]; exact digits_b d (by omega) W
      have HCT : Hid ((ty ++ (⟨#[32, 114]⟩ : ByteArray)) ++ tx = ba (L0 ++ wregL d)) := by rw [htx.out, hty.out]; exact cat_reg L0 d
      rw [← hty.out]
      have hc := (HI).out.ins.cell 1 _ rfl
      have HH := HI
      cases f1
      · go_wp2_with fail
        go_meet
        case rel => exact ⟨by rw [hL1.out, hty.out, if_neg (by simp), List.append_nil], HH.out⟩
      · go_wp2_with (go_at_call 25; refine (HD.out _).mono ?_; rintro e w7 ⟨rfl, hb7⟩)
        go_meet
        case rel => exact ⟨by rw [HCT.out, hL1.out]; simp, HH.out.more hb7⟩
    case rest =>
    obtain ⟨rfl, hTR⟩ := hcut
    have HI := Lib.hid hTR
    clear hTR
    go_upto_if 32 with fail
    obtain ⟨L2, hL2⟩ : ∃ x, Hid (x = L1 ++ if f2 then wregL (a : Int) else []) := ⟨_, Lib.hid rfl⟩
    have hlL2 : (L2).length ≤ (L1).length + 30 := by
      rw [hL2.out, List.length_append]
      split
      · have := wregL_len (a : Int) (by omega) (by omega); omega
      · simp
    rw [← hL2.out] at HE
    go_cut [8] from 32 (fun s8 wc => s8 = .string (ba L2) ∧ TR w w.heap.size o d a b n wc)
    case first =>
      obtain ⟨tx, htx⟩ : ∃ tx : ByteArray, Hid (tx = ba (Lib.decDigits a)) := ⟨_, Lib.hid rfl⟩
      have z1 : tx.size ≤ 30 := by
        rw [htx.out, ba_size, Lib.decDigits_length]
        have := Lib.nDigits_le20 a (by omega); omega
      obtain ⟨ty, hty⟩ : ∃ ty : ByteArray, Hid (ty = ba L1) := ⟨_, Lib.hid rfl⟩
      have z2 : ty.size ≤ 400 := by rw [hty.out, ba_size]; omega
      have q1 : ¬ 9223372036854775807 < ty.size + 2 := by omega
      have q2 : ¬ 9223372036854775807 < ty.size + 2 + tx.size := by omega
      have HD : Hid (∀ W, Calls Tryd.prog 25 #[.int .i64 a] W fun e w' => e = .returned (.string tx) ∧ Below W.heap.size W w') := fun W => by rw [htx.out]; exact digits_b a (by omega) W
      have HCT : Hid ((ty ++ (⟨#[32, 114]⟩ : ByteArray)) ++ tx = ba (L1 ++ wregL a)) := by rw [htx.out, hty.out]; exact cat_reg L1 a
      rw [← hty.out]
      have hc := (HI).out.ins.cell 2 _ rfl
      have HH := HI
      cases f2
      · go_wp2_with fail
        go_meet
        case rel => exact ⟨by rw [hL2.out, hty.out, if_neg (by simp), List.append_nil], HH.out⟩
      · go_wp2_with (go_at_call 25; refine (HD.out _).mono ?_; rintro e w7 ⟨rfl, hb7⟩)
        go_meet
        case rel => exact ⟨by rw [HCT.out, hL2.out]; simp, HH.out.more hb7⟩
    case rest =>
    obtain ⟨rfl, hTR⟩ := hcut
    have HI := Lib.hid hTR
    clear hTR
    go_upto_if 39 with fail
    obtain ⟨L3, hL3⟩ : ∃ x, Hid (x = L2 ++ if f4 then wregL (b : Int) else []) := ⟨_, Lib.hid rfl⟩
    have hlL3 : (L3).length ≤ (L2).length + 30 := by
      rw [hL3.out, List.length_append]
      split
      · have := wregL_len (b : Int) (by omega) (by omega); omega
      · simp
    rw [← hL3.out] at HE
    go_cut [8] from 39 (fun s8 wc => s8 = .string (ba L3) ∧ TR w w.heap.size o d a b n wc)
    case first =>
      obtain ⟨tx, htx⟩ : ∃ tx : ByteArray, Hid (tx = ba (Lib.decDigits b)) := ⟨_, Lib.hid rfl⟩
      have z1 : tx.size ≤ 30 := by
        rw [htx.out, ba_size, Lib.decDigits_length]
        have := Lib.nDigits_le20 b (by omega); omega
      obtain ⟨ty, hty⟩ : ∃ ty : ByteArray, Hid (ty = ba L2) := ⟨_, Lib.hid rfl⟩
      have z2 : ty.size ≤ 400 := by rw [hty.out, ba_size]; omega
      have q1 : ¬ 9223372036854775807 < ty.size + 2 := by omega
      have q2 : ¬ 9223372036854775807 < ty.size + 2 + tx.size := by omega
      have HD : Hid (∀ W, Calls Tryd.prog 25 #[.int .i64 b] W fun e w' => e = .returned (.string tx) ∧ Below W.heap.size W w') := fun W => by rw [htx.out]; exact digits_b b (by omega) W
      have HCT : Hid ((ty ++ (⟨#[32, 114]⟩ : ByteArray)) ++ tx = ba (L2 ++ wregL b)) := by rw [htx.out, hty.out]; exact cat_reg L2 b
      rw [← hty.out]
      have hc := (HI).out.ins.cell 3 _ rfl
      have HH := HI
      cases f4
      · go_wp2_with fail
        go_meet
        case rel => exact ⟨by rw [hL3.out, hty.out, if_neg (by simp), List.append_nil], HH.out⟩
      · go_wp2_with (go_at_call 25; refine (HD.out _).mono ?_; rintro e w7 ⟨rfl, hb7⟩)
        go_meet
        case rel => exact ⟨by rw [HCT.out, hL3.out]; simp, HH.out.more hb7⟩
    case rest =>
    obtain ⟨rfl, hTR⟩ := hcut
    have HI := Lib.hid hTR
    clear hTR
    go_upto_if 46 with fail
    obtain ⟨L4, hL4⟩ : ∃ x, Hid (x = L3 ++ if f8 then wnumL n else []) := ⟨_, Lib.hid rfl⟩
    rw [← hL4.out] at HE
    go_cut [8] from 46 (fun s8 wc => s8 = .string (ba L4) ∧ TR w w.heap.size o d a b n wc)
    case first =>
      obtain ⟨tx, htx⟩ : ∃ tx : ByteArray, Hid (tx = ba (Lib.itoa n)) := ⟨_, Lib.hid rfl⟩
      have z1 : tx.size ≤ 30 := by
        have := Lib.itoa_length_le n (by omega) (by omega)
        rw [htx.out, ba_size]; omega
      obtain ⟨ty, hty⟩ : ∃ ty : ByteArray, Hid (ty = ba L3) := ⟨_, Lib.hid rfl⟩
      have z2 : ty.size ≤ 400 := by rw [hty.out, ba_size]; omega
      have q1 : ¬ 9223372036854775807 < ty.size + 1 := by omega
      have q2 : ¬ 9223372036854775807 < ty.size + 1 + tx.size := by omega
      have HD : Hid (∀ W, Calls Tryd.prog 26 #[.int .i64 n] W fun e w' => e = .returned (.string tx) ∧ Below W.heap.size W w') := fun W => by rw [htx.out]; exact rsigned_any n (by omega) (by omega) W
      have HCT : Hid ((ty ++ (⟨#[32]⟩ : ByteArray)) ++ tx = ba (L3 ++ wnumL n)) := by rw [htx.out, hty.out]; exact cat_num L3 n
      rw [← hty.out]
      have hc := HI.out.ins.cell 4 _ rfl
      have HH := HI
      cases f8
      · go_wp2_with fail
        go_meet
        case rel => exact ⟨by rw [hL4.out, hty.out, if_neg (by simp), List.append_nil], HH.out⟩
      · go_wp2_with (go_at_call 26; refine (HD.out _).mono ?_; rintro e w7 ⟨rfl, hb7⟩)
        go_meet
        case rel => exact ⟨by rw [HCT.out, hL4.out]; simp, HH.out.more hb7⟩
    case rest =>
    obtain ⟨rfl, hTR⟩ := hcut
    have HB := Lib.hid hTR.bel
    clear hTR
    go_wp2_with fail
    go_ret2
    exact ⟨by rw [HE.out.1, HE.out.2]; rfl, HB.out⟩
end Go.Proofs.YtbemhbooihaadaaDoor
