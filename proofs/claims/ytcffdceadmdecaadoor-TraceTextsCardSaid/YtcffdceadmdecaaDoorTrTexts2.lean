/- The reference's texts: signed numbers, words; slices of events compared. -/
import Derived.Test.YtcffdceadmdecaaDoorTrTexts
namespace Go.Proofs.YtcffdceadmdecaaDoor
set_option linter.unusedVariables false
set_option linter.unusedSimpArgs false
set_option linter.unnecessarySimpa false
open Go.RowKit Go.Sort
set_option maxHeartbeats 2000000
set_option maxRecDepth 100000
set_option linter.unusedVariables false
theorem tdiv_neg (m : Nat) : (-(m : Int)).tdiv 10 = -((m / 10 : Nat) : Int) := by rw [Int.neg_tdiv, Int.tdiv_eq_ediv_of_nonneg (by omega), Int.natCast_ediv]; rfl
theorem tmod_neg (m : Nat) : (-(m : Int)).tmod 10 = -((m % 10 : Nat) : Int) := by rw [Int.neg_tmod, Int.tmod_eq_emod_of_nonneg (by omega), Int.natCast_emod]; rfl
theorem signed_any (n : Int) (h0 : -9223372036854775808 ≤ n) (h1 : n ≤ 9223372036854775807) (w : World) : Calls Tryd.prog 25 #[.int .i64 n] w fun e w' => e = .returned (.string ⟨(Lib.itoa n).toArray⟩) ∧ Below w.heap.size w w' := by
  obtain ⟨sn, hsn⟩ : ∃ s : ByteArray, s = ⟨(Lib.itoa n).toArray⟩ := ⟨_, rfl⟩
  rw [← hsn]
  by_cases hn : n ≥ 0
  · obtain ⟨m, rfl⟩ : ∃ m : Nat, n = m := ⟨n.toNat, by omega⟩
    have d0 : decide ((m : Int) ≥ 0) = true := by simp
    have HC : Hid (∀ w, Calls Tryd.prog 32 #[.int .i64 m] w fun e w' => e = .returned (.string sn) ∧ Below w.heap.size w w') := fun w => by
      rw [hsn, Lib.itoa_nonneg]; exact digits_any m w (by omega)
    clear hsn
    go_enter Tryd.func25, Tryd.ntmps25
    go_wp2_with (go_at_call 32; refine (HC.out _).mono ?_; rintro e w1 ⟨rfl, hb⟩)
    go_ret
    exact ⟨rfl, hb⟩
  · obtain ⟨m, hm⟩ : ∃ m : Nat, n = -(m : Int) := ⟨n.natAbs, by omega⟩
    have d0 : decide (n ≥ 0) = false := by simp; omega
    have d0' : decide (0 ≤ n) = false := by simp; omega
    have td : n.tdiv 10 = -((m / 10 : Nat) : Int) := by rw [hm]; exact tdiv_neg m
    have tm : n.tmod 10 = -((m % 10 : Nat) : Int) := by rw [hm]; exact tmod_neg m
    obtain ⟨q, hq⟩ : ∃ q : Nat, q = m / 10 := ⟨_, rfl⟩
    obtain ⟨r, hr⟩ : ∃ r : Nat, r = m % 10 := ⟨_, rfl⟩
    rw [← hq] at td
    rw [← hr] at tm
    have w1 : IntKind.i64.wrap (-(q : Int)) = -(q : Int) := by rw [IntKind.wrap_i64]; omega
    have w2 : IntKind.i64.wrap (-(r : Int)) = -(r : Int) := by rw [IntKind.wrap_i64]; omega
    have w3 : IntKind.i64.wrap (q : Int) = (q : Int) := by rw [IntKind.wrap_i64]; omega
    have w4 : IntKind.i64.wrap (r : Int) = (r : Int) := by rw [IntKind.wrap_i64]; omega
    obtain ⟨sr, hsr⟩ : ∃ s : ByteArray, s = ⟨(Lib.decDigits r).toArray⟩ := ⟨_, rfl⟩
    obtain ⟨sq, hsq⟩ : ∃ s : ByteArray, s = ⟨(Lib.decDigits q).toArray⟩ := ⟨_, rfl⟩
    have HR : Hid (∀ w, Calls Tryd.prog 32 #[.int .i64 (r : Int)] w fun e w' => e = .returned (.string sr) ∧ Below w.heap.size w w') := fun w => by
      rw [hsr]; exact digits_any r w (by omega)
    have HQ : Hid (∀ w, Calls Tryd.prog 32 #[.int .i64 (q : Int)] w fun e w' => e = .returned (.string sq) ∧ Below w.heap.size w w') := fun w => by
      rw [hsq]; exact digits_any q w (by omega)
    have zr : sr.size ≤ 20 := by rw [hsr, ba_size, Lib.decDigits_length]; exact Lib.nDigits_le20 _ (by omega)
    have zq : sq.size ≤ 20 := by rw [hsq, ba_size, Lib.decDigits_length]; exact Lib.nDigits_le20 _ (by omega)
    have hit : Lib.itoa n = 45 :: Lib.decDigits m := by rw [hm]; exact Lib.itoa_neg m (by omega)
    by_cases hz : q = 0
    · have hmr : m = r := by omega
      have e1 : (⟨#[45]⟩ : ByteArray) ++ sr = sn := by
        rw [hsr, hsn, hit, hmr]; exact ba_append [45] _
      have n1 : -n = (r : Int) := by omega
      have dz : (-(q : Int) == 0) = true := by simp [hz]
      have HE := Lib.hid e1
      have z1 : 1 + sr.size ≤ 9223372036854775807 := by omega
      clear e1 hsr hsq hsn hit hm hq hr hmr
      go_enter Tryd.func25, Tryd.ntmps25
      go_wp2_with (go_at_call 32; refine (HR.out _).mono ?_; rintro e w1 ⟨rfl, hb⟩)
      go_ret
      exact ⟨by rw [← HE.out]; rfl, hb⟩
    · have hmr : Lib.decDigits m = Lib.decDigits q ++ Lib.decDigits r := by rw [decDigits_step m (by omega), ← hq, ← hr, Lib.decDigits_one (i := r) (by omega)]
      have e1 : (⟨#[45]⟩ : ByteArray) ++ sq ++ sr = sn := by
        rw [hsr, hsq, hsn, hit, hmr]; rw [show (⟨#[45]⟩ : ByteArray) = ⟨([45] : List UInt8).toArray⟩ from rfl, ba_append, ba_append]; rfl
      have dz : (-(q : Int) == 0) = false := by simp; omega
      have HE := Lib.hid e1
      clear e1 hsr hsq hsn hit hm hq hr hmr
      go_enter Tryd.func25, Tryd.ntmps25
      have z1 : 1 + sq.size ≤ 9223372036854775807 := by omega
      have z2 : 1 + sq.size + sr.size ≤ 9223372036854775807 := by omega
      go_wp2_with fail
      refine (HQ.out _).mono ?_
      rintro e w1 ⟨rfl, hb⟩
      go_wp2_with fail
      refine (HR.out _).mono ?_
      rintro e w2 ⟨rfl, hb2⟩
      go_wp2_with fail
      go_ret
      exact ⟨by rw [← HE.out]; rfl, hb.trans (hb2.mono hb.size)⟩
theorem rword_any (k : Int) (w : World) : Calls Tryd.prog 24 #[.int .i64 k] w fun e w' => e = .returned (.string ⟨(wordL k).toArray⟩) ∧ w = w' := by
  by_cases h1 : k = 1
  · subst h1; go_enter Tryd.func24, Tryd.ntmps24; go_wp2; go_ret; exact ⟨rfl, rfl⟩
  by_cases h2 : k = 2
  · subst h2; go_enter Tryd.func24, Tryd.ntmps24; go_wp2; go_ret; exact ⟨rfl, rfl⟩
  by_cases h3 : k = 3
  · subst h3; go_enter Tryd.func24, Tryd.ntmps24; go_wp2; go_ret; exact ⟨rfl, rfl⟩
  by_cases h4 : k = 4
  · subst h4; go_enter Tryd.func24, Tryd.ntmps24; go_wp2; go_ret; exact ⟨rfl, rfl⟩
  by_cases h5 : k = 5
  · subst h5; go_enter Tryd.func24, Tryd.ntmps24; go_wp2; go_ret; exact ⟨rfl, rfl⟩
  by_cases h6 : k = 6
  · subst h6; go_enter Tryd.func24, Tryd.ntmps24; go_wp2; go_ret; exact ⟨rfl, rfl⟩
  have hw : Hid (wordL k = [63]) := by
    rw [Hid, wordL]
    split
    · rename_i h
      obtain rfl : k = 0 := by omega
      rfl
    · rfl
  have d1 : (k == 1) = false := by simp [h1]
  have d2 : (k == 2) = false := by simp [h2]
  have d3 : (k == 3) = false := by simp [h3]
  have d4 : (k == 4) = false := by simp [h4]
  have d5 : (k == 5) = false := by simp [h5]
  have d6 : (k == 6) = false := by simp [h6]
  go_enter Tryd.func24, Tryd.ntmps24; go_wp2; go_ret; exact ⟨by rw [hw.out]; rfl, rfl⟩
theorem equal_any (a1 a2 : Option Addr) (c1 c2 : Nat) (l1 l2 : List Ev) (w : World) (h1 : RdE w a1 l1) (h2 : RdE w a2 l2) (o1 : Oks l1) (o2 : Oks l2) (n1 : l1.length ≤ 9223372036854775807) (n2 : l2.length ≤ 9223372036854775807) :
    Calls Tryd.prog 26 #[.slice a1 l1.length c1, .slice a2 l2.length c2] w fun x w' => x = .returned (.bool (decide (l1 = l2))) ∧ Below w.heap.size w w' := by
  by_cases hl : l1.length = l2.length
  · have d0 : ((l1.length : Int) != (l2.length : Int)) = false := by simp [hl]
    have HL := Lib.hid hl
    have H1 := Lib.hid h1; have H2 := Lib.hid h2; have O1 := Lib.hid o1; have O2 := Lib.hid o2
    have N1 := Lib.hid n1
    clear hl h1 h2 o1 o2
    go_enter Tryd.func26, Tryd.ntmps26
    go_wp2
    go_loopw [5, 13] (fun u i wr => ∃ k : Nat, k ≤ l1.length ∧ i = .int .i64 k ∧ Below w.heap.size w wr ∧ l1.take k = l2.take k) (fun u i _ => l1.length - (intOf i).toNat)
    case atStart => exact ⟨0, by omega, rfl, Below.refl _ _, by simp⟩
    case round =>
      obtain ⟨k, hk, rfl, hb, ht⟩ := hrel
      have HB := Lib.hid hb; have HT := Lib.hid ht
      clear hb ht
      by_cases hkl : k < l1.length
      · have hkl2 : k < l2.length := by rw [← HL.out]; exact hkl
        have d1 : decide ((k : Int) < (l1.length : Int)) = true := by simp; omega
        have d2 : decide ((k : Int) < (l2.length : Int)) = true := by simp; omega
        have i1 : (0 : Int) ≤ (k : Int) := by omega
        have i2 : (k : Int) < (l1.length : Int) := by omega
        have i3 : (k : Int) < (l2.length : Int) := by omega
        have w1 : IntKind.i64.wrap ((k : Int) + 1) = (k : Int) + 1 := by rw [IntKind.wrap_i64]; have := N1.out; omega
        obtain ⟨b1, s1, rfl, r1⟩ := H1.out.ev O1.out k hkl
        obtain ⟨b2, s2, rfl, r2⟩ := H2.out.ev O2.out k hkl2
        have R1 := Lib.hid r1; have R2 := Lib.hid r2
        have hq := eq_ev l1[k] l2[k] (O1.out _ (List.getElem_mem hkl)).len (O2.out _ (List.getElem_mem hkl2)).len
        have L1 := Lib.hid (cells_len (O1.out _ (List.getElem_mem hkl)))
        have L2 := Lib.hid (cells_len (O2.out _ (List.getElem_mem hkl2)))
        have HS := Lib.hid (take_step l1 l2 k hkl hkl2)
        generalize l1[k] = x1 at r1 R1 hq L1 HS
        generalize l2[k] = x2 at r2 R2 hq L2 HS
        clear r1 r2
        go_wp2_with fail
        refine region_still_drew (by kernel_rfl) (by kernel_rfl) (fun W1 hW1 => ?_)
        have Q1 : Hid (W1.rangeAt b1 (s1 + k * 21) x1.cells) := by rw [Hid, hW1]; exact R1.out _ HB.out.drew
        have Q2 : Hid (W1.rangeAt b2 (s2 + k * 21) x2.cells) := by rw [Hid, hW1]; exact R2.out _ HB.out.drew
        have HB1 : Hid (Below w.heap.size w W1) := by rw [Hid, hW1]; exact HB.out.drew
        clear hW1
        still_step
        still_step
        still_step
        refine wpStill_load_mid rfl 25 (.tmp 18) rfl b1 (s1 + k * 21) rfl x1.cells _ Q1.out Tryd.underlying25 rfl (by rw [info_ev2, L1.out]) ?_
        still_step
        still_step
        still_step
        refine wpStill_load_mid rfl 25 (.tmp 22) rfl b2 (s2 + k * 21) rfl x2.cells _ Q2.out Tryd.underlying25 rfl (by rw [info_ev2, L2.out]) ?_
        have hq1 := hq W1
        still_step
        refine wpStill_nil ?_
        by_cases hx : x1 = x2
        · have e1 : decide (x1 = x2) = true := by simp [hx]
          rw [e1]
          go_wp2_with fail
          go_roundw
          case rel => exact ⟨k + 1, by omega, by go_num, HB1.out, HS.out.2 ⟨HT.out, hx⟩⟩
          case measure => simp [intOf]; omega
        · have e1 : decide (x1 = x2) = false := by simp [hx]
          rw [e1]
          go_wp2_with fail
          go_ret
          exact ⟨ret_bool (by symm; simp only [decide_eq_false_iff_not]; intro h; exact hx (HS.out.1 (by rw [h])).2), HB1.out⟩
      · obtain rfl : k = l1.length := by omega
        have d1 : decide ((l1.length : Int) < (l1.length : Int)) = false := by simp
        have e2 : l1 = l2 := by
          have h := HT.out
          rw [List.take_length, List.take_of_length_le (by rw [HL.out]; omega)] at h
          exact h
        have HE := Lib.hid e2
        clear e2
        go_wp2_with fail
        go_ret
        exact ⟨ret_bool (by rw [HE.out]; simp), HB.out⟩
  · have d0 : ((l1.length : Int) != (l2.length : Int)) = true := by simp; omega
    go_enter Tryd.func26, Tryd.ntmps26
    go_wp2
    go_ret
    exact ⟨ret_bool (by simp; intro h; exact hl (by rw [h])), Below.refl _ _⟩

end Go.Proofs.YtcffdceadmdecaaDoor
