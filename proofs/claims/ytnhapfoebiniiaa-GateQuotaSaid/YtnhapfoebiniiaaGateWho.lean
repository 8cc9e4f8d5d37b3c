/- The law GateWho. -/
import Derived.Test.YtnhapfoebiniiaaGateActs
namespace Go.Proofs.Ytnhapfoebiniiaa
open Go.RowKit Go.Sort
set_option maxHeartbeats 400000
set_option maxRecDepth 100000

theorem may_who (cats who quota us x l : Int) (m : Nat) (h : who = -1 ∨ x ≠ who) : mayV cats who quota us x l m = 4 := by
  unfold mayV
  by_cases e1 : who = -1
  · rw [if_pos e1]
  · rw [if_neg e1]
    rcases h with h | h
    · exact absurd h e1
    · rw [if_pos h]
/-- An act in memory. -/
theorem act_at {w W : World} {a : Option Addr} {acts : List Actv} (h : Rd w 4 a acts.length (actF acts)) (hb : Below w.heap.size w W) (k : Nat) (hk : k < acts.length) : ∃ b0 o0, a = some ⟨b0, o0, none⟩ ∧ W.cell? ⟨b0, o0 + k * 4, none⟩ = some (.int .i64 acts[k].1) ∧ W.cell? ⟨b0, o0 + k * 4 + 1, none⟩ = some (.int .i64 acts[k].2.1) ∧ W.cell? ⟨b0, o0 + k * 4 + 2, none⟩ = some (.int .i64 acts[k].2.2.1) ∧ W.cell? ⟨b0, o0 + k * 4 + 3, none⟩ = some (.string acts[k].2.2.2) := by
  have hrd := h.below hb
  have hne : actF acts ≠ [] := by intro h0; have := actF_len acts; rw [h0] at this; simp at this; omega
  have ha : a ≠ none := fun h0 => by have := h.2.1 h0; omega
  obtain ⟨p, rfl⟩ := Option.ne_none_iff_exists'.1 ha
  obtain ⟨b0, o0, rfl, _, gc⟩ := hrd.2.2 p rfl hne
  refine ⟨b0, o0, rfl, ?_, ?_, ?_, ?_⟩
  · exact gc (k * 4) _ (by have := actF_get acts k 0 hk (by omega); simpa [actC] using this)
  · have := gc (k * 4 + 1) (.int .i64 acts[k].2.1) (by have := actF_get acts k 1 hk (by omega); simpa [actC] using this)
    rwa [← Nat.add_assoc] at this
  · have := gc (k * 4 + 2) (.int .i64 acts[k].2.2.1) (by have := actF_get acts k 2 hk (by omega); simpa [actC] using this)
    rwa [← Nat.add_assoc] at this
  · have := gc (k * 4 + 3) (.string acts[k].2.2.2) (by have := actF_get acts k 3 hk (by omega); simpa [actC] using this)
    rwa [← Nat.add_assoc] at this
set_option maxHeartbeats 4000000 in
theorem who_walk (who : Int) (a : Option Addr) (c : Nat) (acts : List Actv) (none_ : Bool) (w : World) (hr : Rd w 4 a acts.length (actF acts)) (hle : acts.length ≤ c) (hc : c ≤ maxLen) (hst : ∀ x ∈ acts, x.2.2.2.size ≤ maxLen) :
    Calls Try.prog 5 #[.int .i64 who, .slice a acts.length c, .bool none_] w fun e w' => e = .returned (.bool true) ∧ Below w.heap.size w w' := by
  unfold maxLen at hc
  have HR := Lib.hid hr; have HST := Lib.hid hst
  clear hr hst
  cases none_
  · by_cases hok : -1 ≤ who ∧ who < 4
    · go_enter Try.func5, Try.ntmps5
      go_wp2_with fail
      refine (gnew_yes w.heap.size 8 who 64 (by unfold okG; omega) w).mono ?_; rintro e w1 ⟨rfl, hg1, hb1⟩
      have HG0 := Lib.hid hg1; have HB0 := Lib.hid hb1
      have HL : Hid (w.heap.size ≤ w.heap.size) := Nat.le_refl _
      obtain ⟨bg, hbg⟩ : ∃ bg, bg = w.heap.size := ⟨_, rfl⟩
      have HG0 : Hid (GSt w1 w.heap.size bg none 0 [] 0 0 0 8 who 64) := by rw [Hid, hbg]; exact HG0.out
      have HL : Hid (w.heap.size ≤ bg) := by rw [Hid, hbg]; exact Nat.le_refl _
      rw [← hbg]
      have HWV : Hid (-1 ≤ who) := hok.1
      clear hg1 hb1 hbg hok
      go_wp2_with fail
      (
    go_loopw [10] (fun i wr => ∃ (k : Nat), k ≤ acts.length ∧ k ≤ 60 ∧ i = .int .i64 k ∧ GSt wr w.heap.size bg none 0 [] 0 0 0 8 (who) 64 ∧ Below w.heap.size w wr) (fun i _ => 60 - (intOf i).toNat)
    case atStart => exact ⟨0, by omega, by omega, rfl, HG0.out, HB0.out⟩
    case round =>
      clear HG0 HB0
      obtain ⟨k, hk1, hk2, rfl, hg, hb⟩ := hrel
      have HG := Lib.hid hg; have HB := Lib.hid hb
      clear hg hb
      by_cases g1 : k < acts.length
      · by_cases g2 : k < 60
        · obtain ⟨b0, o0, rfl, k0, k1, k2, k3⟩ := act_at HR.out HB.out k g1
          have hsx : acts[k].2.2.2.size ≤ maxLen := HST.out _ (List.getElem_mem g1)
          generalize acts[k] = x at k0 k1 k2 k3 hsx
          obtain ⟨kk, xw, xl, xs⟩ := x
          have hb0 : (0 : Int) ≤ k := by omega
          have hb1 : (k : Int) < (acts.length : Int) := by omega
          have hal : Below wr.heap.size wr (wr.alloc (.cells #[.int .i64 kk, .int .i64 xw, .int .i64 xl, .string xs] 32)) := (Below.refl _ _).alloc (Nat.le_refl _) _
          have HG1 := Lib.hid (HG.out.below hal)
          have HB1 := Lib.hid (bmore HB.out hal)
          clear hal
          by_cases e0 : xw = who
          · by_cases e1 : 0 ≤ who
            · first
                | (refine absurd e1 ?_; decide)
                | (have t0 : (xw == who) = true := by simpa using e0
                   have t1 : decide (0 ≤ who) = true := by simpa using e1
                   clear e0
                   go_wp2
                   go_roundw
                   case rel => exact ⟨k + 1, by omega, by omega, by go_num, HG1.out, HB1.out⟩
                   case measure => simp [intOf]; omega)
            · have HM := Lib.hid (may_who 8 (who) 64 0 xw xl xs.size (by have := HWV.out; omega))
              have t0 : (xw == who) = true := by simpa using e0
              have t1 : decide (0 ≤ who) = false := by first | decide | simpa using e1
              clear e0
              go_wp2_with fail
              refine (release_no _ _ _ _ _ _ _ _ _ _ _ _ _ _ _ HG1.out (by omega) (by omega) (by omega) (by omega) hsx (by rw [HM.out]; omega)).mono ?_; rintro e w3 ⟨he, hb3⟩
              obtain rfl : e = .returned (.int .i64 4) := he.trans (ret_int HM.out)
              go_wp2
              go_roundw
              case rel => exact ⟨k + 1, by omega, by omega, by go_num, HG1.out.below hb3, bmore HB1.out hb3⟩
              case measure => simp [intOf]; omega
          · have HM := Lib.hid (may_who 8 (who) 64 0 xw xl xs.size (.inr e0))
            have t0 : (xw == who) = false := by simpa using e0
            clear e0
            go_wp2_with fail
            refine (release_no _ _ _ _ _ _ _ _ _ _ _ _ _ _ _ HG1.out (by omega) (by omega) (by omega) (by omega) hsx (by rw [HM.out]; omega)).mono ?_; rintro e w3 ⟨he, hb3⟩
            obtain rfl : e = .returned (.int .i64 4) := he.trans (ret_int HM.out)
            go_wp2
            go_roundw
            case rel => exact ⟨k + 1, by omega, by omega, by go_num, HG1.out.below hb3, bmore HB1.out hb3⟩
            case measure => simp [intOf]; omega
        · (
            go_wp2_with fail
            refine (log_any _ _ _ _ _ _ _ _ _ _ _ _ HG.out (by simp)).mono ?_; rintro e w4 ⟨a4, c4, rfl, hown4, hb4⟩
            have hg4 := HG.out.below hb4
            have hb4' := bmore HB.out hb4
            have hn4 : ((([] : List Rel).length : Int) == 0) = true := rfl
            go_wp2_with fail
            refine (used_any _ _ _ _ _ _ _ _ _ _ _ hg4.obj).mono ?_; rintro e w' ⟨rfl, rfl⟩
            go_wp2_with fail
            refine (turn_any _ _ _ _ _ _ _ _ _ _ _ _ hg4 (by simp) (by simp) (by omega) (by omega)).mono ?_; rintro e w5 ⟨a5, c5, rfl, hown5, hg5, hu5⟩
            have hb5 := bupd hb4' hu5 HL.out
            go_wp2_with fail
            refine (awake_any _).mono ?_; rintro e wz ⟨rfl, hbz⟩
            go_wp2_with fail
            go_ret
            exact ⟨rfl, bmore hb5 hbz⟩
          )
      · (
            go_wp2_with fail
            refine (log_any _ _ _ _ _ _ _ _ _ _ _ _ HG.out (by simp)).mono ?_; rintro e w4 ⟨a4, c4, rfl, hown4, hb4⟩
            have hg4 := HG.out.below hb4
            have hb4' := bmore HB.out hb4
            have hn4 : ((([] : List Rel).length : Int) == 0) = true := rfl
            go_wp2_with fail
            refine (used_any _ _ _ _ _ _ _ _ _ _ _ hg4.obj).mono ?_; rintro e w' ⟨rfl, rfl⟩
            go_wp2_with fail
            refine (turn_any _ _ _ _ _ _ _ _ _ _ _ _ hg4 (by simp) (by simp) (by omega) (by omega)).mono ?_; rintro e w5 ⟨a5, c5, rfl, hown5, hg5, hu5⟩
            have hb5 := bupd hb4' hu5 HL.out
            go_wp2_with fail
            refine (awake_any _).mono ?_; rintro e wz ⟨rfl, hbz⟩
            go_wp2_with fail
            go_ret
            exact ⟨rfl, bmore hb5 hbz⟩
        )
      )
    · go_enter Try.func5, Try.ntmps5
      go_wp2_with fail
      refine (gnew_no 8 who 64 (by unfold okG; omega) w).mono ?_; rintro e w1 ⟨rfl, rfl⟩
      by_cases g1 : who < -1
      · clear hok
        go_wp2_with fail
        refine (awake_any _).mono ?_; rintro e wz ⟨rfl, hbz⟩
        go_wp2_with fail
        go_ret
        exact ⟨rfl, hbz⟩
      · have g2 : 4 ≤ who := by omega
        clear hok
        go_wp2_with fail
        refine (awake_any _).mono ?_; rintro e wz ⟨rfl, hbz⟩
        go_wp2_with fail
        go_ret
        exact ⟨rfl, hbz⟩
  · go_enter Try.func5, Try.ntmps5
    go_wp2_with fail
    refine (gnew_yes w.heap.size 8 (-1) 64 (by unfold okG; omega) w).mono ?_; rintro e w1 ⟨rfl, hg1, hb1⟩
    have HB0 := Lib.hid hb1
    obtain ⟨bg, hbg⟩ : ∃ bg, bg = w.heap.size := ⟨_, rfl⟩
    have HG0 : Hid (GSt w1 w.heap.size bg none 0 [] 0 0 0 8 (-1) 64) := by rw [Hid, hbg]; exact hg1
    have HL : Hid (w.heap.size ≤ bg) := by rw [Hid, hbg]; exact Nat.le_refl _
    rw [← hbg]
    have HWV : Hid ((-1 : Int) ≤ -1) := by rw [Hid]; omega
    clear hg1 hb1 hbg
    go_wp2_with fail
    (
    go_loopw [10] (fun i wr => ∃ (k : Nat), k ≤ acts.length ∧ k ≤ 60 ∧ i = .int .i64 k ∧ GSt wr w.heap.size bg none 0 [] 0 0 0 8 (-1) 64 ∧ Below w.heap.size w wr) (fun i _ => 60 - (intOf i).toNat)
    case atStart => exact ⟨0, by omega, by omega, rfl, HG0.out, HB0.out⟩
    case round =>
      clear HG0 HB0
      obtain ⟨k, hk1, hk2, rfl, hg, hb⟩ := hrel
      have HG := Lib.hid hg; have HB := Lib.hid hb
      clear hg hb
      by_cases g1 : k < acts.length
      · by_cases g2 : k < 60
        · obtain ⟨b0, o0, rfl, k0, k1, k2, k3⟩ := act_at HR.out HB.out k g1
          have hsx : acts[k].2.2.2.size ≤ maxLen := HST.out _ (List.getElem_mem g1)
          generalize acts[k] = x at k0 k1 k2 k3 hsx
          obtain ⟨kk, xw, xl, xs⟩ := x
          have hb0 : (0 : Int) ≤ k := by omega
          have hb1 : (k : Int) < (acts.length : Int) := by omega
          have hal : Below wr.heap.size wr (wr.alloc (.cells #[.int .i64 kk, .int .i64 xw, .int .i64 xl, .string xs] 32)) := (Below.refl _ _).alloc (Nat.le_refl _) _
          have HG1 := Lib.hid (HG.out.below hal)
          have HB1 := Lib.hid (bmore HB.out hal)
          clear hal
          by_cases e0 : xw = -1
          · by_cases e1 : 0 ≤ -1
            · first
                | (refine absurd e1 ?_; decide)
                | (have t0 : (xw == -1) = true := by simpa using e0
                   have t1 : decide (0 ≤ -1) = true := by simpa using e1
                   clear e0
                   go_wp2
                   go_roundw
                   case rel => exact ⟨k + 1, by omega, by omega, by go_num, HG1.out, HB1.out⟩
                   case measure => simp [intOf]; omega)
            · have HM := Lib.hid (may_who 8 (-1) 64 0 xw xl xs.size (by have := HWV.out; omega))
              have t0 : (xw == -1) = true := by simpa using e0
              have t1 : decide (0 ≤ -1) = false := by first | decide | simpa using e1
              clear e0
              go_wp2_with fail
              refine (release_no _ _ _ _ _ _ _ _ _ _ _ _ _ _ _ HG1.out (by omega) (by omega) (by omega) (by omega) hsx (by rw [HM.out]; omega)).mono ?_; rintro e w3 ⟨he, hb3⟩
              obtain rfl : e = .returned (.int .i64 4) := he.trans (ret_int HM.out)
              go_wp2
              go_roundw
              case rel => exact ⟨k + 1, by omega, by omega, by go_num, HG1.out.below hb3, bmore HB1.out hb3⟩
              case measure => simp [intOf]; omega
          · have HM := Lib.hid (may_who 8 (-1) 64 0 xw xl xs.size (.inr e0))
            have t0 : (xw == -1) = false := by simpa using e0
            clear e0
            go_wp2_with fail
            refine (release_no _ _ _ _ _ _ _ _ _ _ _ _ _ _ _ HG1.out (by omega) (by omega) (by omega) (by omega) hsx (by rw [HM.out]; omega)).mono ?_; rintro e w3 ⟨he, hb3⟩
            obtain rfl : e = .returned (.int .i64 4) := he.trans (ret_int HM.out)
            go_wp2
            go_roundw
            case rel => exact ⟨k + 1, by omega, by omega, by go_num, HG1.out.below hb3, bmore HB1.out hb3⟩
            case measure => simp [intOf]; omega
        · (
            go_wp2_with fail
            refine (log_any _ _ _ _ _ _ _ _ _ _ _ _ HG.out (by simp)).mono ?_; rintro e w4 ⟨a4, c4, rfl, hown4, hb4⟩
            have hg4 := HG.out.below hb4
            have hb4' := bmore HB.out hb4
            have hn4 : ((([] : List Rel).length : Int) == 0) = true := rfl
            go_wp2_with fail
            refine (used_any _ _ _ _ _ _ _ _ _ _ _ hg4.obj).mono ?_; rintro e w' ⟨rfl, rfl⟩
            go_wp2_with fail
            refine (turn_any _ _ _ _ _ _ _ _ _ _ _ _ hg4 (by simp) (by simp) (by omega) (by omega)).mono ?_; rintro e w5 ⟨a5, c5, rfl, hown5, hg5, hu5⟩
            have hb5 := bupd hb4' hu5 HL.out
            go_wp2_with fail
            refine (awake_any _).mono ?_; rintro e wz ⟨rfl, hbz⟩
            go_wp2_with fail
            go_ret
            exact ⟨rfl, bmore hb5 hbz⟩
          )
      · (
            go_wp2_with fail
            refine (log_any _ _ _ _ _ _ _ _ _ _ _ _ HG.out (by simp)).mono ?_; rintro e w4 ⟨a4, c4, rfl, hown4, hb4⟩
            have hg4 := HG.out.below hb4
            have hb4' := bmore HB.out hb4
            have hn4 : ((([] : List Rel).length : Int) == 0) = true := rfl
            go_wp2_with fail
            refine (used_any _ _ _ _ _ _ _ _ _ _ _ hg4.obj).mono ?_; rintro e w' ⟨rfl, rfl⟩
            go_wp2_with fail
            refine (turn_any _ _ _ _ _ _ _ _ _ _ _ _ hg4 (by simp) (by simp) (by omega) (by omega)).mono ?_; rintro e w5 ⟨a5, c5, rfl, hown5, hg5, hu5⟩
            have hb5 := bupd hb4' hu5 HL.out
            go_wp2_with fail
            refine (awake_any _).mono ?_; rintro e wz ⟨rfl, hbz⟩
            go_wp2_with fail
            go_ret
            exact ⟨rfl, bmore hb5 hbz⟩
        )
    )
end Go.Proofs.Ytnhapfoebiniiaa
