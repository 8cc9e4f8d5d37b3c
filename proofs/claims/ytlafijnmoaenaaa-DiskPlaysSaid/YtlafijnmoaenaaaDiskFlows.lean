/- The law DiskFlows. -/
import Derived.Test.YtlafijnmoaenaaaDisk6
import Derived.Test.YtlafijnmoaenaaaDiskOpen
namespace Go.Proofs.Ytlafijnmoaenaaa
set_option linter.unusedVariables false
set_option linter.unusedSimpArgs false
set_option linter.unnecessarySimpa false
open Go.RowKit Go.Sort
set_option maxHeartbeats 400000
set_option maxRecDepth 100000

theorem dnew_long (ra : Option Addr) (n rc : Nat) (hn : n ≤ 9223372036854775807) (h8 : 8 < n) (w : World) : Calls Try.prog 12 #[.slice ra n rc] w fun e w' => e = .returned (.tuple #[.pointer none, .int .i64 14]) ∧ w = w' := by
  have d8 : decide ((8 : Int) < (n : Int)) = true := by simp; omega
  have d8' : decide (8 < n) = true := by simp; omega
  go_enter Try.func12, Try.ntmps12
  go_wp2
  go_ret2
  exact ⟨rfl, rfl⟩
theorem DS.ofMod {w w' : World} {B dd tt cap lc mb n : Nat} {a la : Option Addr} {R : List Rn} {lb : List Int} {f : Nat → List Int} (h : DS w B dd tt a cap R la lc lb mb n f) (hm : Mod [mb] w w') {B' e size m c : Nat} {a' : Option Addr} {xs : List Value} (ho : Own w B' e size a' m c xs) : Own w' B' e size a' m c xs :=
  ho.mod hm (fun k hk => by simpa using h.notMap (ho.isC k hk))
/- Not in the disk, or nobody's: nothing is read, nothing written. -/
set_option maxHeartbeats 8000000 in
theorem flows_walk (ra : Option Addr) (rc : Nat) (l : List Rg) (who other at_ : Int) (v4 : Value) (bs : List Int) (w : World) (hr : Rd w 3 ra l.length (rgF l)) (hle : l.length ≤ rc) (hc : rc ≤ maxLen) (hb4 : RowI w .u8 v4 bs) :
    Calls Try.prog 4 #[.slice ra l.length rc, .int .i64 who, .int .i64 other, .int .i64 at_, v4] w fun e w' => e = .returned (.bool true) ∧ Below w.heap.size w w' := by
  obtain ⟨ba, cb, rfl⟩ := hb4.form
  have hbl : bs.length ≤ 9223372036854775807 := by obtain ⟨_, _, e, q1, q2, _⟩ := hb4; unfold maxLen at q2; omega
  have HRB := Lib.hid (rowI_rd hb4)
  have HR := Lib.hid hr
  have hll : l.length ≤ 9223372036854775807 := by unfold maxLen at hc; omega
  clear hr hb4
  by_cases h8 : l.length ≤ 8
  · have HNEW := Lib.hid (dnew_any ra rc l w HR.out hle hc h8)
    go_enter Try.func4, Try.ntmps4
    go_wp2_with fail
    refine HNEW.out.mono ?_; intro e w1 h1
    rcases h1 with ⟨R, dd, tt, a, cap, la, lc, mb, hn, rfl, hd, hb, hg⟩ | ⟨hn, rfl, hb⟩
    · have HD := Lib.hid hd; have HB := Lib.hid hb
      have hown := newV_own l 0 [] R hn (by simp)
      rw [Nat.zero_add] at hown
      clear hn hd hb hg HNEW
      cases hwv : (whoV R at_).2
      · have HWV : Hid (whoV R at_ = (0, false)) := by
          unfold whoV at hwv ⊢
          split at hwv
          · cases hwv
          · rfl
        have HE1 : Hid (readE R (l.map (·.1)) other at_ = 3) := by rw [Hid, readE, hwv]; rfl
        have HE2 : Hid (writeE R (l.map (·.1)) who at_ bs.length = 3) := by rw [Hid, writeE, hwv]; rfl
        have HF2 : Hid (writeF R (l.map (·.1)) who at_ bs.length bs (fun _ => z16) = fun _ => z16) := by rw [Hid, writeF, HE2.out]; rfl
        clear hwv hown
        cases hi : inD at_
        · have HI := Lib.hid hi
          clear hi
          (go_wp2_with fail; refine (bytes_any _ _ _ _ _ _ _ _ _ _ _ _ _ _ HD.out).mono ?_; rw [HI.out]; rintro e w2 ⟨a2, m2, c2, rfl, hif2, hb2⟩; have HD2 := Lib.hid (HD.out.below hb2); have HB2 : Hid (Below w.heap.size w w2) := bmore HB.out hb2; clear hb2; go_wp2_with fail; refine (range_any _ _ _ _ _ _ _ _ _ _ _ _ _ _ HD2.out).mono ?_; rw [HWV.out]; rintro e w3 ⟨rfl, hb3⟩; have HD3 := Lib.hid (HD2.out.below hb3); have HB3 : Hid (Below w.heap.size w w3) := bmore HB2.out hb3; have HB23 := Lib.hid hb3; clear hb3 HD2 HB2; go_wp2_with fail; refine (read_any _ _ _ _ _ _ _ _ _ _ _ _ other _ _ HD3.out).mono ?_; rw [HE1.out]; rintro e w4 ⟨a4, m4, c4, rfl, hif4, hb4⟩; have HD4 := Lib.hid (HD3.out.below hb4); have HB4 : Hid (Below w.heap.size w w4) := bmore HB3.out hb4; have HB24 : Hid (Below w2.heap.size w2 w4) := bmore HB23.out hb4; clear hb4 HD3 HB3 HB23)
          (first | (rw [if_neg (by decide)] at hif2) | (simp only [if_false] at hif2) | (simp only [Bool.false_eq_true, if_false] at hif2))
          (first | (rw [if_neg (by decide)] at hif4) | (simp only [if_false] at hif4) | (simp only [Bool.false_eq_true, if_false] at hif4))
          obtain ⟨rfl, rfl, rfl⟩ := hif2
          obtain ⟨rfl, rfl, rfl⟩ := hif4
          go_wp2_with fail
          (refine (write_any _ _ _ _ _ _ _ _ _ _ _ _ who _ _ bs.length _ bs rfl hbl w4 HD4.out (HRB.out.below HB4.out) (by omega)).mono ?_; rw [HE2.out, HF2.out]; rintro e w5 ⟨rfl, hd5, hm5⟩; have HD5 := Lib.hid hd5; have HB5 : Hid (Below w.heap.size w w5) := HB4.out.trans (hm5.below (fun k hk => by simp at hk; subst hk; exact HD4.out.ge) HB4.out.size); have HM5 := Lib.hid hm5; clear hd5 hm5; go_wp2_with fail; refine (bytes_any _ _ _ _ _ _ _ _ _ _ _ _ _ _ HD5.out).mono ?_; rw [HI.out]; rintro e w6 ⟨a6, m6, c6, rfl, hif6, hb6⟩; have HD6 := Lib.hid (HD5.out.below hb6); have HB6 : Hid (Below w.heap.size w w6) := bmore HB5.out hb6; have HB56 := Lib.hid hb6; clear hb6)
          (first | (rw [if_neg (by decide)] at hif6) | (simp only [if_false] at hif6) | (simp only [Bool.false_eq_true, if_false] at hif6))
          obtain ⟨rfl, rfl, rfl⟩ := hif6
          have v0 := run_convert_bytes_nil (P := Try.prog) w6 22 5 Try.underlying22 Try.underlying5 0 0 9 Try.underlying9
          generalize ByteArray.empty = Z at v0
          (go_wp2_with fail; refine (awake_any _).mono ?_; rintro e wz ⟨rfl, hbz⟩; go_wp2_with fail; go_ret; exact ⟨rfl, bmore HB6.out hbz⟩)
        · have HI := Lib.hid hi
          clear hi
          (go_wp2_with fail; refine (bytes_any _ _ _ _ _ _ _ _ _ _ _ _ _ _ HD.out).mono ?_; rw [HI.out]; rintro e w2 ⟨a2, m2, c2, rfl, hif2, hb2⟩; have HD2 := Lib.hid (HD.out.below hb2); have HB2 : Hid (Below w.heap.size w w2) := bmore HB.out hb2; clear hb2; go_wp2_with fail; refine (range_any _ _ _ _ _ _ _ _ _ _ _ _ _ _ HD2.out).mono ?_; rw [HWV.out]; rintro e w3 ⟨rfl, hb3⟩; have HD3 := Lib.hid (HD2.out.below hb3); have HB3 : Hid (Below w.heap.size w w3) := bmore HB2.out hb3; have HB23 := Lib.hid hb3; clear hb3 HD2 HB2; go_wp2_with fail; refine (read_any _ _ _ _ _ _ _ _ _ _ _ _ other _ _ HD3.out).mono ?_; rw [HE1.out]; rintro e w4 ⟨a4, m4, c4, rfl, hif4, hb4⟩; have HD4 := Lib.hid (HD3.out.below hb4); have HB4 : Hid (Below w.heap.size w w4) := bmore HB3.out hb4; have HB24 : Hid (Below w2.heap.size w2 w4) := bmore HB23.out hb4; clear hb4 HD3 HB3 HB23)
          (first | (rw [if_neg (by decide)] at hif4) | (simp only [if_false] at hif4) | (simp only [Bool.false_eq_true, if_false] at hif4))
          obtain ⟨rfl, rfl, rfl⟩ := hif4
          ((first | (rw [if_pos rfl] at hif2) | (simp only [if_true] at hif2)); obtain ⟨rfl, hown2⟩ := hif2; have HO2 := Lib.hid hown2; clear hown2)
          go_wp2_with fail
          (refine (write_any _ _ _ _ _ _ _ _ _ _ _ _ who _ _ bs.length _ bs rfl hbl w4 HD4.out (HRB.out.below HB4.out) (by omega)).mono ?_; rw [HE2.out, HF2.out]; rintro e w5 ⟨rfl, hd5, hm5⟩; have HD5 := Lib.hid hd5; have HB5 : Hid (Below w.heap.size w w5) := HB4.out.trans (hm5.below (fun k hk => by simp at hk; subst hk; exact HD4.out.ge) HB4.out.size); have HM5 := Lib.hid hm5; clear hd5 hm5; go_wp2_with fail; refine (bytes_any _ _ _ _ _ _ _ _ _ _ _ _ _ _ HD5.out).mono ?_; rw [HI.out]; rintro e w6 ⟨a6, m6, c6, rfl, hif6, hb6⟩; have HD6 := Lib.hid (HD5.out.below hb6); have HB6 : Hid (Below w.heap.size w w6) := bmore HB5.out hb6; have HB56 := Lib.hid hb6; clear hb6)
          ((first | (rw [if_pos rfl] at hif6) | (simp only [if_true] at hif6)); obtain ⟨rfl, hown6⟩ := hif6; have HO6 := Lib.hid hown6; have HO26 := Lib.hid ((HD4.out.ofMod HM5.out (HO2.out.below HB24.out)).below HB56.out); clear hown6)
          (have v6 := conv_rd HO6.out.rd rfl c6; have v2 := conv_rd HO26.out.rd rfl c2; generalize strOfNums z16 = Z at v6 v2; (go_wp2_with fail; refine (awake_any _).mono ?_; rintro e wz ⟨rfl, hbz⟩; go_wp2_with fail; go_ret; exact ⟨rfl, bmore HB6.out hbz⟩))
      · obtain ⟨r, hr, hx, hx1, hx2⟩ := who_own (i := at_) (x := (whoV R at_).1) (R := R) (by rw [← hwv])
        obtain ⟨h0, h32⟩ := whoV_lt HD.out.t.ok hwv
        obtain ⟨k, rfl⟩ := Int.eq_ofNat_of_zero_le h0
        have hj := hown r hr
        obtain ⟨j, hje⟩ : ∃ j : Nat, j = r.2.2 := ⟨_, rfl⟩
        rw [← hje] at hx hj
        have HWV : Hid (whoV R k = ((j : Int), true)) := by rw [Hid, ← hx, ← hwv]
        obtain ⟨lab, hlab⟩ : ∃ lab, lab = l[j].1 := ⟨_, rfl⟩
        have HLAB : Hid (l[j].1 = lab) := hlab.symm
        have hgd : (l.map (fun x : Rg => x.1)).getD (whoV R k).1.toNat 0 = lab := by rw [hx, hlab]; simp [hj]
        have HI : Hid (inD (k : Int) = true) := by simp [Hid, inD]; omega
        have hj0 : (0 : Int) ≤ j := by omega
        have hj1 : (j : Int) < (l.length : Int) := by omega
        have hj2 : decide ((l.length : Int) ≤ (j : Int)) = false := by simp; omega
        have hj3 : decide (l.length ≤ j) = false := by simp; omega
        have hE1 : readE R (l.map (·.1)) other k = if flB lab other then 0 else 8 := by unfold readE; rw [hwv, hgd]; rfl
        have hE2 : writeE R (l.map (·.1)) who k bs.length = if flB who lab then (if bs.length = 16 then 0 else 1) else 8 := by unfold writeE; rw [hwv, hgd]; rfl
        have HK := Lib.hid (show k < 32 by omega)
        obtain ⟨qb0, qo0, rfl, _, _, _, _⟩ := rg_at HR.out j hj
        clear hown hr hx hx1 hx2 hwv h0 h32 hje hlab hgd
        cases hf1 : flB lab other
        · have HE1 : Hid (readE R (l.map (·.1)) other k = 8) := by rw [Hid, hE1, hf1]; rfl
          clear hE1 hf1
          cases hf2 : flB who lab
          · have HE2 : Hid (writeE R (l.map (·.1)) who k bs.length = 8) := by rw [Hid, hE2, hf2]; rfl
            have HF2 : Hid (writeF R (l.map (·.1)) who k bs.length bs (fun _ => z16) = fun _ => z16) := by rw [Hid, writeF, HE2.out]; rfl
            clear hE2 hf2
            (go_wp2_with fail; refine (bytes_any _ _ _ _ _ _ _ _ _ _ _ _ _ _ HD.out).mono ?_; rw [HI.out]; rintro e w2 ⟨a2, m2, c2, rfl, hif2, hb2⟩; have HD2 := Lib.hid (HD.out.below hb2); have HB2 : Hid (Below w.heap.size w w2) := bmore HB.out hb2; clear hb2; go_wp2_with fail; refine (range_any _ _ _ _ _ _ _ _ _ _ _ _ _ _ HD2.out).mono ?_; rw [HWV.out]; rintro e w3 ⟨rfl, hb3⟩; have HD3 := Lib.hid (HD2.out.below hb3); have HB3 : Hid (Below w.heap.size w w3) := bmore HB2.out hb3; have HB23 := Lib.hid hb3; clear hb3 HD2 HB2; go_wp2_with fail; refine (read_any _ _ _ _ _ _ _ _ _ _ _ _ other _ _ HD3.out).mono ?_; rw [HE1.out]; rintro e w4 ⟨a4, m4, c4, rfl, hif4, hb4⟩; have HD4 := Lib.hid (HD3.out.below hb4); have HB4 : Hid (Below w.heap.size w w4) := bmore HB3.out hb4; have HB24 : Hid (Below w2.heap.size w2 w4) := bmore HB23.out hb4; clear hb4 HD3 HB3 HB23)
            ((first | (rw [if_pos rfl] at hif2) | (simp only [if_true] at hif2)); obtain ⟨rfl, hown2⟩ := hif2; have HO2 := Lib.hid hown2; clear hown2)
            ((first | (rw [if_neg (by decide)] at hif4) | (simp only [if_false] at hif4) | (simp only [Bool.false_eq_true, if_false] at hif4)); obtain ⟨rfl, rfl, rfl⟩ := hif4; go_wp2_with fail)
            (refine (write_any _ _ _ _ _ _ _ _ _ _ _ _ who _ _ bs.length _ bs rfl hbl w4 HD4.out (HRB.out.below HB4.out) (by omega)).mono ?_; rw [HE2.out, HF2.out]; rintro e w5 ⟨rfl, hd5, hm5⟩; have HD5 := Lib.hid hd5; have HB5 : Hid (Below w.heap.size w w5) := HB4.out.trans (hm5.below (fun k hk => by simp at hk; subst hk; exact HD4.out.ge) HB4.out.size); have HM5 := Lib.hid hm5; clear hd5 hm5; go_wp2_with fail; refine (bytes_any _ _ _ _ _ _ _ _ _ _ _ _ _ _ HD5.out).mono ?_; rw [HI.out]; rintro e w6 ⟨a6, m6, c6, rfl, hif6, hb6⟩; have HD6 := Lib.hid (HD5.out.below hb6); have HB6 : Hid (Below w.heap.size w w6) := bmore HB5.out hb6; have HB56 := Lib.hid hb6; clear hb6)
            ((first | (rw [if_pos rfl] at hif6) | (simp only [if_true] at hif6)); obtain ⟨rfl, hown6⟩ := hif6; have HO6 := Lib.hid hown6; have HO26 := Lib.hid ((HD4.out.ofMod HM5.out (HO2.out.below HB24.out)).below HB56.out); clear hown6)
            (have v6 := conv_rd HO6.out.rd rfl c6; have v2 := conv_rd HO26.out.rd rfl c2; generalize strOfNums z16 = Z at v6 v2; (go_wp2_with fail; refine (awake_any _).mono ?_; rintro e wz ⟨rfl, hbz⟩; go_wp2_with fail; go_ret; exact ⟨rfl, bmore HB6.out hbz⟩))
          · have HFL2 := Lib.hid hf2
            by_cases hl16 : bs.length = 16
            · have HE2 : Hid (writeE R (l.map (·.1)) who k bs.length = 0) := by rw [Hid, hE2, hf2, if_pos rfl, if_pos hl16]
              have HF2 : Hid (writeF R (l.map (·.1)) who k bs.length bs (fun _ => z16) = upd (fun _ => z16) k bs) := by rw [Hid, writeF, HE2.out]; simp
              have HU : Hid (upd (fun _ => z16) k bs (k : Int).toNat = bs) := by simp [Hid, upd]
              have HL16 := Lib.hid hl16
              clear hE2 hf2 hl16
              (go_wp2_with fail; refine (bytes_any _ _ _ _ _ _ _ _ _ _ _ _ _ _ HD.out).mono ?_; rw [HI.out]; rintro e w2 ⟨a2, m2, c2, rfl, hif2, hb2⟩; have HD2 := Lib.hid (HD.out.below hb2); have HB2 : Hid (Below w.heap.size w w2) := bmore HB.out hb2; clear hb2; go_wp2_with fail; refine (range_any _ _ _ _ _ _ _ _ _ _ _ _ _ _ HD2.out).mono ?_; rw [HWV.out]; rintro e w3 ⟨rfl, hb3⟩; have HD3 := Lib.hid (HD2.out.below hb3); have HB3 : Hid (Below w.heap.size w w3) := bmore HB2.out hb3; have HB23 := Lib.hid hb3; clear hb3 HD2 HB2; go_wp2_with fail; refine (read_any _ _ _ _ _ _ _ _ _ _ _ _ other _ _ HD3.out).mono ?_; rw [HE1.out]; rintro e w4 ⟨a4, m4, c4, rfl, hif4, hb4⟩; have HD4 := Lib.hid (HD3.out.below hb4); have HB4 : Hid (Below w.heap.size w w4) := bmore HB3.out hb4; have HB24 : Hid (Below w2.heap.size w2 w4) := bmore HB23.out hb4; clear hb4 HD3 HB3 HB23)
              ((first | (rw [if_pos rfl] at hif2) | (simp only [if_true] at hif2)); obtain ⟨rfl, hown2⟩ := hif2; have HO2 := Lib.hid hown2; clear hown2)
              ((first | (rw [if_neg (by decide)] at hif4) | (simp only [if_false] at hif4) | (simp only [Bool.false_eq_true, if_false] at hif4)); obtain ⟨rfl, rfl, rfl⟩ := hif4; go_wp2_with fail)
              (refine (write_any _ _ _ _ _ _ _ _ _ _ _ _ who _ _ bs.length _ bs rfl hbl w4 HD4.out (HRB.out.below HB4.out) (by omega)).mono ?_; rw [HE2.out, HF2.out]; rintro e w5 ⟨rfl, hd5, hm5⟩; have HD5 := Lib.hid hd5; have HB5 : Hid (Below w.heap.size w w5) := HB4.out.trans (hm5.below (fun k hk => by simp at hk; subst hk; exact HD4.out.ge) HB4.out.size); have HM5 := Lib.hid hm5; clear hd5 hm5; go_wp2_with fail; refine (bytes_any _ _ _ _ _ _ _ _ _ _ _ _ _ _ HD5.out).mono ?_; rw [HI.out]; rintro e w6 ⟨a6, m6, c6, rfl, hif6, hb6⟩; have HD6 := Lib.hid (HD5.out.below hb6); have HB6 : Hid (Below w.heap.size w w6) := bmore HB5.out hb6; have HB56 := Lib.hid hb6; clear hb6)
              ((first | (rw [if_pos rfl] at hif6) | (simp only [if_true] at hif6)); obtain ⟨rfl, hown6⟩ := hif6; rw [HU.out] at hown6; have HO6 := Lib.hid hown6; clear hown6)
              (go_wp2_with fail; refine (read_any _ _ _ _ _ _ _ _ _ _ _ _ other _ _ HD6.out).mono ?_; rw [HE1.out]; rintro e w7 ⟨a7, m7, c7, rfl, hif7, hb7⟩; have HB7 : Hid (Below w.heap.size w w7) := bmore HB6.out hb7; have HO67 := Lib.hid (HO6.out.below hb7); have v6 := conv_rd HO67.out.rd HL16.out c6; have v4 := conv_rd (HRB.out.below HB7.out) rfl cb; obtain ⟨qb, qo, hqq, qbw, q0, _, _⟩ := rg_at (HR.out.below HB7.out) j hj; injection hqq with hqq; injection hqq with hq1 hq2; subst hq1 hq2; rw [HLAB.out] at q0; clear hb7)
              (first | (rw [if_neg (by decide)] at hif7) | (simp only [if_false] at hif7) | (simp only [Bool.false_eq_true, if_false] at hif7))
              obtain ⟨rfl, rfl, rfl⟩ := hif7
              generalize strOfNums bs = Z at v6 v4
              (go_wp2_with (first | (go_at_call 14; refine (flows_any who lab _).mono ?_; rw [HFL2.out]; rintro e w' ⟨rfl, rfl⟩) | (go_at_call 13; refine (awake_any _).mono ?_; rintro e wz ⟨rfl, hbz⟩)); go_ret; exact ⟨rfl, bmore HB7.out hbz⟩)
            · have HE2 : Hid (writeE R (l.map (·.1)) who k bs.length = 1) := by rw [Hid, hE2, hf2, if_pos rfl, if_neg hl16]
              have HF2 : Hid (writeF R (l.map (·.1)) who k bs.length bs (fun _ => z16) = fun _ => z16) := by rw [Hid, writeF, HE2.out]; rfl
              clear hE2 hf2 hl16
              (go_wp2_with fail; refine (bytes_any _ _ _ _ _ _ _ _ _ _ _ _ _ _ HD.out).mono ?_; rw [HI.out]; rintro e w2 ⟨a2, m2, c2, rfl, hif2, hb2⟩; have HD2 := Lib.hid (HD.out.below hb2); have HB2 : Hid (Below w.heap.size w w2) := bmore HB.out hb2; clear hb2; go_wp2_with fail; refine (range_any _ _ _ _ _ _ _ _ _ _ _ _ _ _ HD2.out).mono ?_; rw [HWV.out]; rintro e w3 ⟨rfl, hb3⟩; have HD3 := Lib.hid (HD2.out.below hb3); have HB3 : Hid (Below w.heap.size w w3) := bmore HB2.out hb3; have HB23 := Lib.hid hb3; clear hb3 HD2 HB2; go_wp2_with fail; refine (read_any _ _ _ _ _ _ _ _ _ _ _ _ other _ _ HD3.out).mono ?_; rw [HE1.out]; rintro e w4 ⟨a4, m4, c4, rfl, hif4, hb4⟩; have HD4 := Lib.hid (HD3.out.below hb4); have HB4 : Hid (Below w.heap.size w w4) := bmore HB3.out hb4; have HB24 : Hid (Below w2.heap.size w2 w4) := bmore HB23.out hb4; clear hb4 HD3 HB3 HB23)
              ((first | (rw [if_pos rfl] at hif2) | (simp only [if_true] at hif2)); obtain ⟨rfl, hown2⟩ := hif2; have HO2 := Lib.hid hown2; clear hown2)
              ((first | (rw [if_neg (by decide)] at hif4) | (simp only [if_false] at hif4) | (simp only [Bool.false_eq_true, if_false] at hif4)); obtain ⟨rfl, rfl, rfl⟩ := hif4; go_wp2_with fail)
              (refine (write_any _ _ _ _ _ _ _ _ _ _ _ _ who _ _ bs.length _ bs rfl hbl w4 HD4.out (HRB.out.below HB4.out) (by omega)).mono ?_; rw [HE2.out, HF2.out]; rintro e w5 ⟨rfl, hd5, hm5⟩; have HD5 := Lib.hid hd5; have HB5 : Hid (Below w.heap.size w w5) := HB4.out.trans (hm5.below (fun k hk => by simp at hk; subst hk; exact HD4.out.ge) HB4.out.size); have HM5 := Lib.hid hm5; clear hd5 hm5; go_wp2_with fail; refine (bytes_any _ _ _ _ _ _ _ _ _ _ _ _ _ _ HD5.out).mono ?_; rw [HI.out]; rintro e w6 ⟨a6, m6, c6, rfl, hif6, hb6⟩; have HD6 := Lib.hid (HD5.out.below hb6); have HB6 : Hid (Below w.heap.size w w6) := bmore HB5.out hb6; have HB56 := Lib.hid hb6; clear hb6)
              ((first | (rw [if_pos rfl] at hif6) | (simp only [if_true] at hif6)); obtain ⟨rfl, hown6⟩ := hif6; have HO6 := Lib.hid hown6; have HO26 := Lib.hid ((HD4.out.ofMod HM5.out (HO2.out.below HB24.out)).below HB56.out); clear hown6)
              (have v6 := conv_rd HO6.out.rd rfl c6; have v2 := conv_rd HO26.out.rd rfl c2; generalize strOfNums z16 = Z at v6 v2; (go_wp2_with fail; refine (awake_any _).mono ?_; rintro e wz ⟨rfl, hbz⟩; go_wp2_with fail; go_ret; exact ⟨rfl, bmore HB6.out hbz⟩))
        · have HFL1 := Lib.hid hf1
          have HE1 : Hid (readE R (l.map (·.1)) other k = 0) := by rw [Hid, hE1, hf1]; rfl
          clear hE1 hf1
          cases hf2 : flB who lab
          · have HE2 : Hid (writeE R (l.map (·.1)) who k bs.length = 8) := by rw [Hid, hE2, hf2]; rfl
            have HF2 : Hid (writeF R (l.map (·.1)) who k bs.length bs (fun _ => z16) = fun _ => z16) := by rw [Hid, writeF, HE2.out]; rfl
            clear hE2 hf2
            (go_wp2_with fail; refine (bytes_any _ _ _ _ _ _ _ _ _ _ _ _ _ _ HD.out).mono ?_; rw [HI.out]; rintro e w2 ⟨a2, m2, c2, rfl, hif2, hb2⟩; have HD2 := Lib.hid (HD.out.below hb2); have HB2 : Hid (Below w.heap.size w w2) := bmore HB.out hb2; clear hb2; go_wp2_with fail; refine (range_any _ _ _ _ _ _ _ _ _ _ _ _ _ _ HD2.out).mono ?_; rw [HWV.out]; rintro e w3 ⟨rfl, hb3⟩; have HD3 := Lib.hid (HD2.out.below hb3); have HB3 : Hid (Below w.heap.size w w3) := bmore HB2.out hb3; have HB23 := Lib.hid hb3; clear hb3 HD2 HB2; go_wp2_with fail; refine (read_any _ _ _ _ _ _ _ _ _ _ _ _ other _ _ HD3.out).mono ?_; rw [HE1.out]; rintro e w4 ⟨a4, m4, c4, rfl, hif4, hb4⟩; have HD4 := Lib.hid (HD3.out.below hb4); have HB4 : Hid (Below w.heap.size w w4) := bmore HB3.out hb4; have HB24 : Hid (Below w2.heap.size w2 w4) := bmore HB23.out hb4; clear hb4 HD3 HB3 HB23)
            ((first | (rw [if_pos rfl] at hif2) | (simp only [if_true] at hif2)); obtain ⟨rfl, hown2⟩ := hif2; have HO2 := Lib.hid hown2; clear hown2)
            ((first | (rw [if_pos rfl] at hif4) | (simp only [if_true] at hif4)); obtain ⟨rfl, hown4⟩ := hif4; have v4 := conv_rd hown4.rd rfl c4; have v2 := conv_rd (HO2.out.below HB24.out).rd rfl c2; generalize hZ : strOfNums z16 = Z at v4 v2; clear hZ hown4; (obtain ⟨qb, qo, hqq, qbw, q0, _, _⟩ := rg_at (HR.out.below HB4.out) j hj; injection hqq with hqq; injection hqq with hq1 hq2; subst hq1 hq2; rw [HLAB.out] at q0); go_wp2_with (go_at_call 14; refine (flows_any lab other _).mono ?_; rw [HFL1.out]; rintro e w' ⟨rfl, rfl⟩); clear v4 v2 q0 qbw)
            (refine (write_any _ _ _ _ _ _ _ _ _ _ _ _ who _ _ bs.length _ bs rfl hbl w4 HD4.out (HRB.out.below HB4.out) (by omega)).mono ?_; rw [HE2.out, HF2.out]; rintro e w5 ⟨rfl, hd5, hm5⟩; have HD5 := Lib.hid hd5; have HB5 : Hid (Below w.heap.size w w5) := HB4.out.trans (hm5.below (fun k hk => by simp at hk; subst hk; exact HD4.out.ge) HB4.out.size); have HM5 := Lib.hid hm5; clear hd5 hm5; go_wp2_with fail; refine (bytes_any _ _ _ _ _ _ _ _ _ _ _ _ _ _ HD5.out).mono ?_; rw [HI.out]; rintro e w6 ⟨a6, m6, c6, rfl, hif6, hb6⟩; have HD6 := Lib.hid (HD5.out.below hb6); have HB6 : Hid (Below w.heap.size w w6) := bmore HB5.out hb6; have HB56 := Lib.hid hb6; clear hb6)
            ((first | (rw [if_pos rfl] at hif6) | (simp only [if_true] at hif6)); obtain ⟨rfl, hown6⟩ := hif6; have HO6 := Lib.hid hown6; have HO26 := Lib.hid ((HD4.out.ofMod HM5.out (HO2.out.below HB24.out)).below HB56.out); clear hown6)
            (have v6 := conv_rd HO6.out.rd rfl c6; have v2 := conv_rd HO26.out.rd rfl c2; generalize strOfNums z16 = Z at v6 v2; (go_wp2_with fail; refine (awake_any _).mono ?_; rintro e wz ⟨rfl, hbz⟩; go_wp2_with fail; go_ret; exact ⟨rfl, bmore HB6.out hbz⟩))
          · have HFL2 := Lib.hid hf2
            by_cases hl16 : bs.length = 16
            · have HE2 : Hid (writeE R (l.map (·.1)) who k bs.length = 0) := by rw [Hid, hE2, hf2, if_pos rfl, if_pos hl16]
              have HF2 : Hid (writeF R (l.map (·.1)) who k bs.length bs (fun _ => z16) = upd (fun _ => z16) k bs) := by rw [Hid, writeF, HE2.out]; simp
              have HU : Hid (upd (fun _ => z16) k bs (k : Int).toNat = bs) := by simp [Hid, upd]
              have HL16 := Lib.hid hl16
              clear hE2 hf2 hl16
              (go_wp2_with fail; refine (bytes_any _ _ _ _ _ _ _ _ _ _ _ _ _ _ HD.out).mono ?_; rw [HI.out]; rintro e w2 ⟨a2, m2, c2, rfl, hif2, hb2⟩; have HD2 := Lib.hid (HD.out.below hb2); have HB2 : Hid (Below w.heap.size w w2) := bmore HB.out hb2; clear hb2; go_wp2_with fail; refine (range_any _ _ _ _ _ _ _ _ _ _ _ _ _ _ HD2.out).mono ?_; rw [HWV.out]; rintro e w3 ⟨rfl, hb3⟩; have HD3 := Lib.hid (HD2.out.below hb3); have HB3 : Hid (Below w.heap.size w w3) := bmore HB2.out hb3; have HB23 := Lib.hid hb3; clear hb3 HD2 HB2; go_wp2_with fail; refine (read_any _ _ _ _ _ _ _ _ _ _ _ _ other _ _ HD3.out).mono ?_; rw [HE1.out]; rintro e w4 ⟨a4, m4, c4, rfl, hif4, hb4⟩; have HD4 := Lib.hid (HD3.out.below hb4); have HB4 : Hid (Below w.heap.size w w4) := bmore HB3.out hb4; have HB24 : Hid (Below w2.heap.size w2 w4) := bmore HB23.out hb4; clear hb4 HD3 HB3 HB23)
              ((first | (rw [if_pos rfl] at hif2) | (simp only [if_true] at hif2)); obtain ⟨rfl, hown2⟩ := hif2; have HO2 := Lib.hid hown2; clear hown2)
              ((first | (rw [if_pos rfl] at hif4) | (simp only [if_true] at hif4)); obtain ⟨rfl, hown4⟩ := hif4; have v4 := conv_rd hown4.rd rfl c4; have v2 := conv_rd (HO2.out.below HB24.out).rd rfl c2; generalize hZ : strOfNums z16 = Z at v4 v2; clear hZ hown4; (obtain ⟨qb, qo, hqq, qbw, q0, _, _⟩ := rg_at (HR.out.below HB4.out) j hj; injection hqq with hqq; injection hqq with hq1 hq2; subst hq1 hq2; rw [HLAB.out] at q0); go_wp2_with (go_at_call 14; refine (flows_any lab other _).mono ?_; rw [HFL1.out]; rintro e w' ⟨rfl, rfl⟩); clear v4 v2 q0 qbw)
              (refine (write_any _ _ _ _ _ _ _ _ _ _ _ _ who _ _ bs.length _ bs rfl hbl w4 HD4.out (HRB.out.below HB4.out) (by omega)).mono ?_; rw [HE2.out, HF2.out]; rintro e w5 ⟨rfl, hd5, hm5⟩; have HD5 := Lib.hid hd5; have HB5 : Hid (Below w.heap.size w w5) := HB4.out.trans (hm5.below (fun k hk => by simp at hk; subst hk; exact HD4.out.ge) HB4.out.size); have HM5 := Lib.hid hm5; clear hd5 hm5; go_wp2_with fail; refine (bytes_any _ _ _ _ _ _ _ _ _ _ _ _ _ _ HD5.out).mono ?_; rw [HI.out]; rintro e w6 ⟨a6, m6, c6, rfl, hif6, hb6⟩; have HD6 := Lib.hid (HD5.out.below hb6); have HB6 : Hid (Below w.heap.size w w6) := bmore HB5.out hb6; have HB56 := Lib.hid hb6; clear hb6)
              ((first | (rw [if_pos rfl] at hif6) | (simp only [if_true] at hif6)); obtain ⟨rfl, hown6⟩ := hif6; rw [HU.out] at hown6; have HO6 := Lib.hid hown6; clear hown6)
              (go_wp2_with fail; refine (read_any _ _ _ _ _ _ _ _ _ _ _ _ other _ _ HD6.out).mono ?_; rw [HE1.out]; rintro e w7 ⟨a7, m7, c7, rfl, hif7, hb7⟩; have HB7 : Hid (Below w.heap.size w w7) := bmore HB6.out hb7; have HO67 := Lib.hid (HO6.out.below hb7); have v6 := conv_rd HO67.out.rd HL16.out c6; have v4 := conv_rd (HRB.out.below HB7.out) rfl cb; obtain ⟨qb, qo, hqq, qbw, q0, _, _⟩ := rg_at (HR.out.below HB7.out) j hj; injection hqq with hqq; injection hqq with hq1 hq2; subst hq1 hq2; rw [HLAB.out] at q0; clear hb7)
              (first | (rw [if_pos rfl] at hif7) | (simp only [if_true] at hif7))
              obtain ⟨rfl, hown7⟩ := hif7
              rw [HU.out] at hown7
              have v7 := conv_rd hown7.rd HL16.out c7
              clear hown7
              generalize strOfNums bs = Z at v6 v4 v7
              (go_wp2_with (first | (go_at_call 14; refine (flows_any who lab _).mono ?_; rw [HFL2.out]; rintro e w' ⟨rfl, rfl⟩) | (go_at_call 13; refine (awake_any _).mono ?_; rintro e wz ⟨rfl, hbz⟩)); go_ret; exact ⟨rfl, bmore HB7.out hbz⟩)
            · have HE2 : Hid (writeE R (l.map (·.1)) who k bs.length = 1) := by rw [Hid, hE2, hf2, if_pos rfl, if_neg hl16]
              have HF2 : Hid (writeF R (l.map (·.1)) who k bs.length bs (fun _ => z16) = fun _ => z16) := by rw [Hid, writeF, HE2.out]; rfl
              clear hE2 hf2 hl16
              (go_wp2_with fail; refine (bytes_any _ _ _ _ _ _ _ _ _ _ _ _ _ _ HD.out).mono ?_; rw [HI.out]; rintro e w2 ⟨a2, m2, c2, rfl, hif2, hb2⟩; have HD2 := Lib.hid (HD.out.below hb2); have HB2 : Hid (Below w.heap.size w w2) := bmore HB.out hb2; clear hb2; go_wp2_with fail; refine (range_any _ _ _ _ _ _ _ _ _ _ _ _ _ _ HD2.out).mono ?_; rw [HWV.out]; rintro e w3 ⟨rfl, hb3⟩; have HD3 := Lib.hid (HD2.out.below hb3); have HB3 : Hid (Below w.heap.size w w3) := bmore HB2.out hb3; have HB23 := Lib.hid hb3; clear hb3 HD2 HB2; go_wp2_with fail; refine (read_any _ _ _ _ _ _ _ _ _ _ _ _ other _ _ HD3.out).mono ?_; rw [HE1.out]; rintro e w4 ⟨a4, m4, c4, rfl, hif4, hb4⟩; have HD4 := Lib.hid (HD3.out.below hb4); have HB4 : Hid (Below w.heap.size w w4) := bmore HB3.out hb4; have HB24 : Hid (Below w2.heap.size w2 w4) := bmore HB23.out hb4; clear hb4 HD3 HB3 HB23)
              ((first | (rw [if_pos rfl] at hif2) | (simp only [if_true] at hif2)); obtain ⟨rfl, hown2⟩ := hif2; have HO2 := Lib.hid hown2; clear hown2)
              ((first | (rw [if_pos rfl] at hif4) | (simp only [if_true] at hif4)); obtain ⟨rfl, hown4⟩ := hif4; have v4 := conv_rd hown4.rd rfl c4; have v2 := conv_rd (HO2.out.below HB24.out).rd rfl c2; generalize hZ : strOfNums z16 = Z at v4 v2; clear hZ hown4; (obtain ⟨qb, qo, hqq, qbw, q0, _, _⟩ := rg_at (HR.out.below HB4.out) j hj; injection hqq with hqq; injection hqq with hq1 hq2; subst hq1 hq2; rw [HLAB.out] at q0); go_wp2_with (go_at_call 14; refine (flows_any lab other _).mono ?_; rw [HFL1.out]; rintro e w' ⟨rfl, rfl⟩); clear v4 v2 q0 qbw)
              (refine (write_any _ _ _ _ _ _ _ _ _ _ _ _ who _ _ bs.length _ bs rfl hbl w4 HD4.out (HRB.out.below HB4.out) (by omega)).mono ?_; rw [HE2.out, HF2.out]; rintro e w5 ⟨rfl, hd5, hm5⟩; have HD5 := Lib.hid hd5; have HB5 : Hid (Below w.heap.size w w5) := HB4.out.trans (hm5.below (fun k hk => by simp at hk; subst hk; exact HD4.out.ge) HB4.out.size); have HM5 := Lib.hid hm5; clear hd5 hm5; go_wp2_with fail; refine (bytes_any _ _ _ _ _ _ _ _ _ _ _ _ _ _ HD5.out).mono ?_; rw [HI.out]; rintro e w6 ⟨a6, m6, c6, rfl, hif6, hb6⟩; have HD6 := Lib.hid (HD5.out.below hb6); have HB6 : Hid (Below w.heap.size w w6) := bmore HB5.out hb6; have HB56 := Lib.hid hb6; clear hb6)
              ((first | (rw [if_pos rfl] at hif6) | (simp only [if_true] at hif6)); obtain ⟨rfl, hown6⟩ := hif6; have HO6 := Lib.hid hown6; have HO26 := Lib.hid ((HD4.out.ofMod HM5.out (HO2.out.below HB24.out)).below HB56.out); clear hown6)
              (have v6 := conv_rd HO6.out.rd rfl c6; have v2 := conv_rd HO26.out.rd rfl c2; generalize strOfNums z16 = Z at v6 v2; (go_wp2_with fail; refine (awake_any _).mono ?_; rintro e wz ⟨rfl, hbz⟩; go_wp2_with fail; go_ret; exact ⟨rfl, bmore HB6.out hbz⟩))
    · have HB := Lib.hid hb
      clear hn hb HNEW
      go_wp2_with (go_at_call 13; refine (awake_any _).mono ?_; rintro e wz ⟨rfl, hbz⟩)
      go_ret
      exact ⟨rfl, bmore HB.out hbz⟩
  · have HNEW := Lib.hid (dnew_long ra l.length rc hll (by omega) w)
    go_enter Try.func4, Try.ntmps4
    go_wp2_with fail
    refine HNEW.out.mono ?_; rintro e w' ⟨rfl, rfl⟩
    go_wp2_with (go_at_call 13; refine (awake_any _).mono ?_; rintro e wz ⟨rfl, hbz⟩)
    go_ret
    exact ⟨rfl, hbz⟩
end Go.Proofs.Ytlafijnmoaenaaa
