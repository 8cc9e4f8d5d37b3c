/- The reference for asm: one word. -/
import Derived.Test.YtbemhbooihaadaaDoorAsR
import Derived.Test.YtbemhbooihaadaaDoorAs5
namespace Go.Proofs.YtbemhbooihaadaaDoor
set_option linter.unusedVariables false
set_option linter.unusedSimpArgs false
set_option linter.unnecessarySimpa false
open Go.RowKit Go.Sort
set_option maxHeartbeats 2000000
set_option maxRecDepth 100000
set_option linter.unusedVariables false
theorem pre_head (c : UInt8) (s : ByteArray) (h : 0 < s.size) : cutB c s.data.toList = decide (s[0].toNat = c.toNat) := by
  unfold cutB Lib.hasPrefix
  have e := head_get s h
  cases hl : s.data.toList with
  | nil => rw [hl] at e; cases e
  | cons x r =>
    rw [hl] at e
    injection e with e
    rw [← e]
    simp only [List.isPrefixOf, Bool.and_true]
    rw [Bool.eq_iff_iff]
    simp only [beq_iff_eq, decide_eq_true_eq]
    exact ⟨fun h => by rw [h], fun h => (UInt8.toNat_inj.1 h).symm⟩
theorem pre_nil (c : UInt8) (s : ByteArray) (h : s.size = 0) : cutB c s.data.toList = false := by
  rw [show s.data.toList = [] from List.eq_nil_of_length_eq_zero (by rw [ba_len]; exact h)]; rfl
theorem cut_yes {c : UInt8} {l : List UInt8} (h : cutB c l = true) : cutL c l = l.drop 1 := by
  unfold cutL Lib.trimPrefix
  unfold cutB at h
  rw [if_pos h]; rfl
theorem cut_no {c : UInt8} {l : List UInt8} (h : cutB c l = false) : cutL c l = l := by
  unfold cutL Lib.trimPrefix
  unfold cutB at h
  rw [if_neg (by rw [h]; simp)]
def rgN (s : List UInt8) : Int := if regOk s then regN s else 0
theorem tail_number (s : ByteArray) (hs : s.size ≤ maxLen) (w : World) : Calls Tryd.prog 62 #[.string (s.extract 1 s.size)] w fun e w' => e = .returned (.tuple #[.int .i64 (numI (s.data.toList.drop 1)), .bool (numB (s.data.toList.drop 1))]) ∧ w = w' := by
  have := rnumber_any (s.extract 1 s.size) (by rw [ByteArray.size_extract]; omega) w
  rw [Lib.extract_to_end] at this
  exact this
theorem rreg_any (s : ByteArray) (hs : s.size ≤ maxLen) (w : World) : Calls Tryd.prog 49 #[.string s] w fun e w' => e = .returned (.tuple #[.int .i64 (rgN s.data.toList), .bool (regOk s.data.toList)]) ∧ w = w' := by
  have HT := fun W => Lib.hid (tail_number s hs W)
  unfold maxLen at hs
  by_cases h2 : s.size < 2
  · have d1 : decide ((s.size : Int) < 2) = true := decide_eq_true (by omega)
    have d1' : decide (s.size < 2) = true := decide_eq_true h2
    have hno : regOk s.data.toList = false := by
      unfold regOk
      cases hc : cutB 114 s.data.toList
      · rfl
      · rw [cut_yes hc]
        have : (s.data.toList.drop 1) = [] := List.drop_eq_nil_of_le (by rw [ba_len]; omega)
        rw [this]; rfl
    have HR : Hid (rgN s.data.toList = 0) := by rw [Hid, rgN, if_neg (by rw [hno]; simp)]
    have HNO := Lib.hid hno
    clear hno h2 HT
    go_enter Tryd.func49, Tryd.ntmps49
    go_wp2
    go_ret2
    exact ⟨by rw [HR.out, HNO.out]; rfl, rfl⟩
  · have d1 : decide ((s.size : Int) < 2) = false := decide_eq_false (by omega)
    have d1' : decide (s.size < 2) = false := decide_eq_false h2
    have hp := pre_head 114 s (by omega)
    by_cases h3 : s[0].toNat = 114
    · have dn : ((s[0].toNat : Int) != 114) = false := by simp [h3]
      have hc : cutB 114 s.data.toList = true := by rw [hp]; exact decide_eq_true h3
      have HOK : Hid (regOk s.data.toList = numB (s.data.toList.drop 1)) := by rw [Hid, regOk, hc, cut_yes hc]; rfl
      have HV : Hid (rgN s.data.toList = numI (s.data.toList.drop 1)) := by
        rw [Hid, rgN, HOK.out, regN, cut_yes hc]
        cases hb : numB (s.data.toList.drop 1)
        · rw [if_neg (by simp), numI_bad hb]; rfl
        · rw [if_pos rfl]
      clear h3 hp hc
      go_enter Tryd.func49, Tryd.ntmps49
      go_wp2_with (go_at_call 62; refine ((HT _).out).mono ?_; rintro e w1 ⟨rfl, rfl⟩)
      go_ret2
      exact ⟨by rw [HV.out, HOK.out, List.drop_one]; rfl, rfl⟩
    · have dn : ((s[0].toNat : Int) != 114) = true := by simp; omega
      have hc : cutB 114 s.data.toList = false := by rw [hp]; exact decide_eq_false h3
      have hno : regOk s.data.toList = false := by rw [regOk, hc]; rfl
      have HR : Hid (rgN s.data.toList = 0) := by rw [Hid, rgN, if_neg (by rw [hno]; simp)]
      have HNO := Lib.hid hno
      clear hno h3 hp hc HT
      go_enter Tryd.func49, Tryd.ntmps49
      go_wp2
      go_ret2
      exact ⟨by rw [HR.out, HNO.out]; rfl, rfl⟩
theorem rimm_any (s : ByteArray) (hs : s.size ≤ maxLen) (w : World) : Calls Tryd.prog 50 #[.string s] w fun e w' => e = .returned (.tuple #[.int .i64 (numN s.data.toList), .bool (numOk s.data.toList)]) ∧ w = w' := by
  have HT := fun W => Lib.hid (tail_number s hs W)
  have HN := fun W => Lib.hid (rnumber_any s hs W)
  unfold maxLen at hs
  by_cases h0 : s.size = 0
  · have d1 : decide ((s.size : Int) > 0) = false := decide_eq_false (by omega)
    have d1' : decide (0 < s.size) = false := decide_eq_false (by omega)
    have hc := pre_nil 45 s h0
    have HV : Hid (numN s.data.toList = numI s.data.toList) := by rw [Hid, numN, hc, cut_no hc]; rfl
    have HO : Hid (numOk s.data.toList = numB s.data.toList) := by rw [Hid, numOk, hc, cut_no hc]; simp
    clear h0 hc HT
    go_enter Tryd.func50, Tryd.ntmps50
    go_wp2_with (go_at_call 62; refine ((HN _).out).mono ?_; rintro e w1 ⟨rfl, rfl⟩)
    go_ret2
    exact ⟨by rw [HV.out, HO.out]; rfl, rfl⟩
  · have d1 : decide ((s.size : Int) > 0) = true := decide_eq_true (by omega)
    have d1' : decide (0 < s.size) = true := decide_eq_true (by omega)
    have hp := pre_head 45 s (by omega)
    have hsz : 0 < s.size := by omega
    by_cases h3 : s[0].toNat = 45
    · have dn : ((s[0].toNat : Int) == 45) = true := by simp [h3]
      have hc : cutB 45 s.data.toList = true := by rw [hp]; exact decide_eq_true h3
      have hlt := numI_lt (s.data.toList.drop 1)
      obtain ⟨v, hv⟩ : ∃ v, v = numI (s.data.toList.drop 1) := ⟨_, rfl⟩
      obtain ⟨b, hb⟩ : ∃ b, b = numB (s.data.toList.drop 1) := ⟨_, rfl⟩
      have HOK : Hid (numOk s.data.toList = (b && !(v == 0))) := by rw [Hid, numOk, hc, cut_yes hc, hv, hb]; rfl
      have HV : Hid (numN s.data.toList = -(v : Int)) := by rw [Hid, numN, hc, cut_yes hc, hv]; rfl
      rw [← hv] at HT hlt
      rw [← hb] at HT
      have w1 : IntKind.i64.wrap (-(v : Int)) = -(v : Int) := by rw [IntKind.wrap_i64]; omega
      have hgt : decide ((v : Int) > 0) = !(v == 0) := by rw [Bool.eq_iff_iff]; simp; omega
      have HGT := Lib.hid hgt
      clear h0 h3 hp hc hv hb hgt HN
      rcases (by omega : v = 0 ∨ v ≠ 0) with hz | hz
      · subst hz
        cases b
        all_goals
          go_enter Tryd.func50, Tryd.ntmps50
          go_wp2_with (go_at_call 62; refine ((HT _).out).mono ?_; rintro e w1 ⟨rfl, rfl⟩)
          go_ret2
          exact ⟨by rw [HV.out, HOK.out]; rfl, rfl⟩
      · have g1 : decide ((v : Int) > 0) = true := decide_eq_true (by omega)
        have g2 : decide (0 < v) = true := decide_eq_true (by omega)
        have HE : Hid ((v == 0) = false) := by rw [Hid, beq_eq_false_iff_ne]; exact hz
        cases b
        all_goals
          go_enter Tryd.func50, Tryd.ntmps50
          go_wp2_with (go_at_call 62; refine ((HT _).out).mono ?_; rintro e w1 ⟨rfl, rfl⟩)
          go_ret2
          exact ⟨by rw [HV.out, HOK.out, HE.out]; rfl, rfl⟩
    · have dn : ((s[0].toNat : Int) == 45) = false := by rw [beq_eq_false_iff_ne]; omega
      have hc : cutB 45 s.data.toList = false := by rw [hp]; exact decide_eq_false h3
      have HV : Hid (numN s.data.toList = numI s.data.toList) := by rw [Hid, numN, hc, cut_no hc]; rfl
      have HO : Hid (numOk s.data.toList = numB s.data.toList) := by rw [Hid, numOk, hc, cut_no hc]; simp
      clear h0 h3 hp hc HT
      go_enter Tryd.func50, Tryd.ntmps50
      go_wp2_with (go_at_call 62; refine ((HN _).out).mono ?_; rintro e w1 ⟨rfl, rfl⟩)
      go_ret2
      exact ⟨by rw [HV.out, HO.out]; rfl, rfl⟩
def paN (is : Bool) (s : List UInt8) : Int := if is then rgN s else numN s
def paB (is : Bool) (s : List UInt8) : Bool := if is then regOk s else numOk s
theorem part_any (s : List UInt8) (hs : s.length ≤ 100000000) (is : Bool) (w : World) : Calls Tryd.prog 32 #[.string (ba s), .bool is] w fun e w' => e = .returned (.tuple #[.int .i64 (paN is s), .bool (paB is s)]) ∧ w = w' := by
  have h1 : (ba s).size ≤ maxLen := by rw [ba_size]; unfold maxLen; omega
  have HR := fun W => Lib.hid (rreg_any (ba s) h1 W)
  have HI := fun W => Lib.hid (rimm_any (ba s) h1 W)
  rw [ba_data] at HR HI
  clear h1
  cases is
  · go_enter Tryd.func32, Tryd.ntmps32
    go_wp2_with (go_at_call 50; refine ((HI _).out).mono ?_; rintro e w1 ⟨rfl, rfl⟩)
    go_ret2
    exact ⟨rfl, rfl⟩
  · go_enter Tryd.func32, Tryd.ntmps32
    go_wp2_with (go_at_call 49; refine ((HR _).out).mono ?_; rintro e w1 ⟨rfl, rfl⟩)
    go_ret2
    exact ⟨rfl, rfl⟩
theorem pa_ok (p : Nat) (s : List UInt8) : paB (decide (p < 3)) s = okP p s ∧ (okP p s = true → paN (decide (p < 3)) s = vaP p s) := by
  unfold paB okP paN vaP
  by_cases h : p < 3
  · simp only [h, decide_true, if_true]
    exact ⟨trivial, fun h2 => by rw [rgN, if_pos h2]⟩
  · simp only [h, decide_false]
    exact ⟨by simp, fun h2 => by simp⟩
end Go.Proofs.YtbemhbooihaadaaDoor
