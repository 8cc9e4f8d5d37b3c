/- The walks of the laws of chapter 09. -/
import Derived.Test.YtjphehncpgekfaaDoorIsa4
namespace Go.Proofs.YtjphehncpgekfaaDoor
open Go.RowKit
set_option maxHeartbeats 400000
set_option maxRecDepth 100000

theorem validB_op0 (op : Int) : validB op 0 0 0 0 = realB op := by
  cases h : realB op
  · simp [validB, h]
  · have h2 : 1 ≤ op ∧ op ≤ 41 := by simpa [realB] using h
    obtain ⟨o, rfl⟩ := Int.eq_ofNat_of_zero_le (show 0 ≤ op by omega)
    have := (by decide +kernel : ∀ o : Fin 42, 1 ≤ o.val → validB o.val 0 0 0 0 = true) ⟨o, by omega⟩ (by simp only; omega)
    exact this

theorem ops_walk (op a b : Int) (w : World) (ht : Tab w) : Calls Tryd.prog 4 #[.int .i64 op, .int .i64 a, .int .i64 b] w fun e w' => e = .returned (.bool true) ∧ Below w.heap.size w w' := by
  have HV := Lib.hid (validB_op0 op)
  have HT := Lib.hid ht; clear ht
  cases hr : realB op
  · have HW : Hid (encW op 0 0 0 0 = 0 ∧ encE op 0 0 0 0 = 6) := by simp [Hid, encW, encE, HV.out, hr]
    have hE : (decide (1 ≤ op) && decide (op ≤ 41)) = false := hr
    have HF : Hid (validB op 0 a b 0 = false) := by simp [Hid, validB, hr]
    have h12 : op < 1 ∨ 41 < op := by simp at hE; omega
    clear hE
    rcases h12 with h1 | h1
    all_goals
      go_enter Tryd.func4, Tryd.ntmps4
      go_wp2_with fail
      refine (valid_any _ _ _ _ _ _ HT.out).mono ?_; rw [HV.out, hr]; rintro e w1 ⟨rfl, hb1⟩
      have HT1 := Lib.hid (HT.out.below hb1)
      go_wp2_with fail
      refine (encode_any _ _ _ _ _ _ HT1.out).mono ?_; rw [HW.out.1, HW.out.2]; rintro e w2 ⟨rfl, hb2⟩
      have HT2 := Lib.hid (alloc_tab (HT1.out.below hb2) (.cells #[.int .i64 (op), .int .i64 (0), .int .i64 (a), .int .i64 (b), .int .i64 (0)] 23))
      go_wp2_with fail
      refine (valid_any _ _ _ _ _ _ HT2.out).mono ?_; rw [HF.out]; rintro e w3 ⟨rfl, hb3⟩
      have HT3 := Lib.hid (HT2.out.below hb3)
      go_wp2_with fail
      refine (awake_any _ HT3.out).mono ?_; rintro e w4 ⟨rfl, hb4⟩
      go_wp2_with fail
      go_ret
      have s1 := hb1.size; have s2 := hb2.size; have s3 := hb3.size
      simp only [World.size_alloc] at s3
      exact ⟨rfl, hb1.trans ((hb2.mono s1).trans (((Below.refl _ _).alloc (by omega) _).trans ((hb3.mono (by simp; omega)).trans (hb4.mono (by omega)))))⟩
  · have h12 : 1 ≤ op ∧ op ≤ 41 := by simpa [realB] using hr
    obtain ⟨h1, h2⟩ := h12
    have HW : Hid (encW op 0 0 0 0 = op ∧ encE op 0 0 0 0 = 0) := by simp [Hid, encW, encE, HV.out, hr, wordI]
    have HB : validB op 0 a b 0 = true → (0 ≤ a ∧ a ≤ 15) ∧ (0 ≤ b ∧ b ≤ 15) := fun h => ⟨(validB_bounds h).2.2.1, (validB_bounds h).2.2.2.1⟩
    cases hv : validB op 0 a b 0
    · clear HB
      go_enter Tryd.func4, Tryd.ntmps4
      go_wp2_with fail
      refine (valid_any _ _ _ _ _ _ HT.out).mono ?_; rw [HV.out, hr]; rintro e w1 ⟨rfl, hb1⟩
      have HT1 := Lib.hid (HT.out.below hb1)
      go_wp2_with fail
      refine (encode_any _ _ _ _ _ _ HT1.out).mono ?_; rw [HW.out.1, HW.out.2]; rintro e w2 ⟨rfl, hb2⟩
      have HT2 := Lib.hid (alloc_tab (HT1.out.below hb2) (.cells #[.int .i64 (op), .int .i64 (0), .int .i64 (a), .int .i64 (b), .int .i64 (0)] 23))
      go_wp2_with fail
      refine (valid_any _ _ _ _ _ _ HT2.out).mono ?_; rw [hv]; rintro e w3 ⟨rfl, hb3⟩
      have HT3 := Lib.hid (HT2.out.below hb3)
      go_wp2_with fail
      refine (awake_any _ HT3.out).mono ?_; rintro e w4 ⟨rfl, hb4⟩
      go_wp2_with fail
      go_ret
      have s1 := hb1.size; have s2 := hb2.size; have s3 := hb3.size
      simp only [World.size_alloc] at s3
      exact ⟨rfl, hb1.trans ((hb2.mono s1).trans (((Below.refl _ _).alloc (by omega) _).trans ((hb3.mono (by simp; omega)).trans (hb4.mono (by omega)))))⟩
    · obtain ⟨⟨a1, a2⟩, ⟨b1, b2⟩⟩ := HB hv
      clear HB
      go_enter Tryd.func4, Tryd.ntmps4
      go_wp2_with fail
      refine (valid_any _ _ _ _ _ _ HT.out).mono ?_; rw [HV.out, hr]; rintro e w1 ⟨rfl, hb1⟩
      have HT1 := Lib.hid (HT.out.below hb1)
      go_wp2_with fail
      refine (encode_any _ _ _ _ _ _ HT1.out).mono ?_; rw [HW.out.1, HW.out.2]; rintro e w2 ⟨rfl, hb2⟩
      have HT2 := Lib.hid (alloc_tab (HT1.out.below hb2) (.cells #[.int .i64 (op), .int .i64 (0), .int .i64 (a), .int .i64 (b), .int .i64 (0)] 23))
      go_wp2_with fail
      refine (valid_any _ _ _ _ _ _ HT2.out).mono ?_; rw [hv]; rintro e w3 ⟨rfl, hb3⟩
      have HT3 := Lib.hid (HT2.out.below hb3)
      go_wp2_with fail
      refine (awake_any _ HT3.out).mono ?_; rintro e w4 ⟨rfl, hb4⟩
      go_wp2_with fail
      go_ret
      have s1 := hb1.size; have s2 := hb2.size; have s3 := hb3.size
      simp only [World.size_alloc] at s3
      exact ⟨rfl, hb1.trans ((hb2.mono s1).trans (((Below.refl _ _).alloc (by omega) _).trans ((hb3.mono (by simp; omega)).trans (hb4.mono (by omega)))))⟩

theorem word_back {op d a b n : Int} (h : validB op d a b n = true) : ∃ x : Nat, encW op d a b n = x ∧ x < 4294967296 ∧ (x : Int) % 64 = op ∧ (x : Int) / 64 % 16 = d ∧ (x : Int) / 1024 % 16 = a ∧ (x : Int) / 16384 % 16 = b ∧ decN x = n ∧ decB x = true := by
  obtain ⟨⟨o1, o2⟩, ⟨d1, d2⟩, ⟨a1, a2⟩, ⟨b1, b2⟩, ⟨n1, n2⟩⟩ := validB_bounds h
  have hw : encW op d a b n = wordI op d a b n := by simp [encW, h]
  have hx : 0 ≤ wordI op d a b n ∧ wordI op d a b n < 4294967296 := by unfold wordI; omega
  obtain ⟨x, hxe⟩ := Int.eq_ofNat_of_zero_le hx.1
  have e1 : (x : Int) % 64 = op := by rw [← hxe, wordI]; omega
  have e2 : (x : Int) / 64 % 16 = d := by rw [← hxe, wordI]; omega
  have e3 : (x : Int) / 1024 % 16 = a := by rw [← hxe, wordI]; omega
  have e4 : (x : Int) / 16384 % 16 = b := by rw [← hxe, wordI]; omega
  have e5 : decN x = n := by
    have : (x : Int) / 262144 = n % 16384 := by rw [← hxe, wordI]; omega
    unfold decN
    split <;> omega
  refine ⟨x, by rw [hw, hxe], by omega, e1, e2, e3, e4, e5, ?_⟩
  rw [decB, e1, e2, e3, e4, e5, h]
theorem dec_word (x : Nat) (hx : x < 4294967296) : wordI ((x : Int) % 64) ((x : Int) / 64 % 16) ((x : Int) / 1024 % 16) ((x : Int) / 16384 % 16) (decN x) = x := by
  unfold wordI decN
  split <;> omega
end Go.Proofs.YtjphehncpgekfaaDoor
