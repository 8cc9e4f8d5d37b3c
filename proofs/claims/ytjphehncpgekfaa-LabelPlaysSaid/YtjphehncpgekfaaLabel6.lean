/- label.Under; ints; awake. -/
import Derived.Test.YtjphehncpgekfaaLabel5
namespace Go.Proofs.Ytjphehncpgekfaa
open Go.RowKit
set_option maxHeartbeats 400000
set_option maxRecDepth 100000

theorem Under_any (top : Int) (v : Value) (xs : List Int) (w : World) (hr : RowI w .i64 v xs) (hreach : xs.length * 8 ≤ 140737488351232) :
    Calls Try.prog 49 #[.int .i64 top, v] w (UndPost top xs w) := by
  have hlow := hr.low
  obtain ⟨a, cap, rfl, hc1, hc2, hcell⟩ := hr
  unfold maxLen at hc2
  obtain ⟨i0, hi, hz0, hz1, hz2⟩ := info_parts info_int
  have HH := Lib.hid hlow; clear hlow
  go_enter Try.func49, Try.ntmps49
  go_wp2
  go_loopw [12] (fun i wr => ∃ (k : Nat) (a1 : Option Addr) (c1 : Nat), k ≤ xs.length ∧ i = .int .i64 k ∧ wr.cell? ⟨w.heap.size, 0, none⟩ = some (.int .i64 top) ∧ wr.heap[w.heap.size + 1]? = some (.cells #[.slice a1 (undI top xs k).length c1] 25 (0, 0)) ∧ wr.ownsRow (w.heap.size + 2) 3 1 (.slice a1 (undI top xs k).length c1) (undI top xs k).length ((undI top xs k).map (Value.int .i64)) ∧ Below w.heap.size w wr ∧ w.heap.size + 2 ≤ wr.heap.size) (fun i _ => xs.length - (intOf i).toNat)
  case atStart =>
    refine ⟨0, none, 0, by omega, rfl, ?_, ?_, (World.ownsRow_nil _ _ _ _ : _), ((Below.refl _ _).alloc (Nat.le_refl _) _).alloc (by simp) _, by simp⟩
    · go_simp
    · have h := heap_alloc_new (w.alloc (.cells #[.int .i64 top] 3)) (.cells #[.slice none 0 0] 25)
      rw [show (w.alloc (.cells #[.int .i64 top] 3)).heap.size = w.heap.size + 1 from by simp] at h
      exact h
  case round =>
    obtain ⟨k, a1, c1, hk, rfl, hct, hco, hown, hb, hsz⟩ := hrel
    have hlen := undI_len top xs k
    by_cases hlt : k < xs.length
    · obtain ⟨b, off, rfl, hc⟩ := hcell (by intro h; simp [h] at hlt)
      have hbl := HH.out (by intro h; simp [h] at hlt) b off cap rfl
      have hck := (hb.cell (p := ⟨b, off + k, none⟩) hbl).trans (hc k hlt)
      have HL := Lib.hid (undI_succ top xs k hlt)
      have hcc := cell_of_one hco
      have hcf := free_of_one hco
      clear hc
      generalize xs[k] = x at hck HL
      by_cases hbit : flB x top = true
      · have HB := Lib.hid hbit
        go_wp2_with (first | (go_at_call 16; refine (flows_any _ _ _).mono ?_; rintro e w' ⟨rfl, rfl⟩) | go_in | (at_builtin; refine wpList_append_own _ rfl _ _ 25 rfl (w.heap.size + 2) 3 i0 (.int .i64 0) 1 8 Try.underlying25 hi hz0 hz1 hz2 rfl (by decide) _ _ _ rfl (hown.alloc _) ⟨wr.heap.size, 0, none⟩ 1 1 [.int .i64 (k : Int)] rfl rfl (cell_one_new _ _ _) ?c2 ?c3 ?c4 ?c5 ?_))
        case c2 => intro u hu; simp at hu; subst hu; rfl
        case c3 => unfold maxLen; omega
        case c4 => omega
        case c5 => simp; omega
        intro v' w1 hown1 hgrow _
        have hne : some (w.heap.size + 1) ≠ Value.ownBlock (.slice a1 (undI top xs k).length c1) := fun e => by have := hown.lt _ e.symm; omega
        have hne0 : some (w.heap.size) ≠ Value.ownBlock (.slice a1 (undI top xs k).length c1) := fun e => by have := hown.lt _ e.symm; omega
        have h1 : w1.heap[w.heap.size + 1]? = some (.cells #[.slice a1 (undI top xs k).length c1] 25 (0, 0)) := by
          rw [hgrow.block _ (by simp; omega) hne, Below.heap_alloc _ _ _ (by omega)]; exact hco
        have h2 : w1.cell? ⟨w.heap.size, 0, none⟩ = some (.int .i64 top) := by
          refine hgrow.cell (a := ⟨w.heap.size, 0, none⟩) ?_ hne0
          rw [← hct]; exact World.cell?_of_block (Below.heap_alloc _ _ _ (show w.heap.size < _ by omega))
        have hb1 : Below w.heap.size w w1 := (hb.alloc hb.size _).grown hgrow (by have := hb.size; simp; omega) (fun j hj => by have := (hown.lt j hj).1; omega)
        have hs1 : w.heap.size + 2 ≤ w1.heap.size := by have := hgrow.size; simp at this; omega
        have R1 : w1.ownsRow (w.heap.size + 2) 3 1 v' (undI top xs (k + 1)).length ((undI top xs (k + 1)).map (Value.int .i64)) := by
          rw [HL.out, if_pos HB.out]
          simpa using hown1
        obtain ⟨a2, c2, hv⟩ := ownsRow_form R1
        rw [hv] at R1 ⊢
        have h3 := cell_of_one h1
        have h4 := free_of_one h1
        have F1 := Lib.hid (one_setCell (u := .slice a2 (undI top xs (k + 1)).length c2) h1)
        have F2 := Lib.hid (hb1.setCell (p := ⟨w.heap.size + 1, 0, none⟩) (by simp) (.slice a2 (undI top xs (k + 1)).length c2))
        have F3 := Lib.hid (ownsRow_setCell_below R1 (a := ⟨w.heap.size + 1, 0, none⟩) (by simp) (.slice a2 (undI top xs (k + 1)).length c2))
        have F4 : Hid ((w1.setCell ⟨w.heap.size + 1, 0, none⟩ (.slice a2 (undI top xs (k + 1)).length c2)).cell? ⟨w.heap.size, 0, none⟩ = some (.int .i64 top)) := by
          rw [Hid, ← h2]; exact World.cell?_of_block (Below.heap_setCell _ _ _ _ (by simp))
        clear hown1 hgrow hown h1 hb1 R1 hv hne hne0 hcc hcf hco hct
        go_wp2
        go_end0
        go_wp2
        go_roundw
        case rel => exact ⟨k + 1, a2, c2, by omega, by go_num, F4.out, F1.out, F3.out, F2.out, by simp [World.setCell]; omega⟩
        case measure => simp [intOf]; omega
      · simp only [Bool.not_eq_true] at hbit
        have HB := Lib.hid hbit
        go_wp2_with (first | (go_at_call 16; refine (flows_any _ _ _).mono ?_; rintro e w' ⟨rfl, rfl⟩) | go_in)
        go_end0
        go_wp2
        go_roundw
        case rel => exact ⟨k + 1, a1, c1, by omega, by go_num, hct, (by rw [HL.out, HB.out]; simpa using hco), (by rw [HL.out, HB.out]; simpa using hown), hb, hsz⟩
        case measure => simp [intOf]; omega
    · obtain rfl : k = xs.length := by omega
      have hcc := cell_of_one hco
      go_wp2
      go_ret
      exact ⟨_, rfl, ownsRow_rowI hown, hb⟩

/-- 'ints': the same numbers? (Two lists that are the same.) -/
theorem ints_same (v v' : Value) (xs : List Int) (w : World) (hr : RowI w .i64 v xs) (hr' : RowI w .i64 v' xs) :
    Calls Try.prog 48 #[v, v'] w fun e w' => e = .returned (.bool true) ∧ Below w.heap.size w w' := by
  obtain ⟨a, cap, rfl, hc1, hc2, hcell⟩ := hr
  obtain ⟨a', cap', rfl, hc1', hc2', hcell'⟩ := hr'
  unfold maxLen at hc2 hc2'
  have hne : ((xs.length : Int) != xs.length) = false := by simp
  go_enter Try.func48, Try.ntmps48
  go_wp2
  go_loopw [5] (fun i wr => ∃ k : Nat, k ≤ xs.length ∧ i = .int .i64 k ∧ ∃ n, wr = w.drewN n) (fun i _ => xs.length - (intOf i).toNat)
  case atStart => exact ⟨0, by omega, rfl, 0, rfl⟩
  case round =>
    obtain ⟨k, hk, rfl, n, rfl⟩ := hrel
    by_cases hlt : k < xs.length
    · obtain ⟨b, off, rfl, hc⟩ := hcell (by intro h; simp [h] at hlt)
      obtain ⟨b', off', rfl, hc'⟩ := hcell' (by intro h; simp [h] at hlt)
      have hck := hc k hlt
      have hck' := hc' k hlt
      have hne2 : (xs[k] != xs[k]) = false := by simp
      have hlt2 : decide ((k : Int) < xs.length) = true := by simp; omega
      clear hc hc' hcell hcell'
      go_wp2_with fail
      go_quiet (fail)
      go_wp2
      go_roundw
      case rel => exact ⟨k + 1, by omega, by go_num, _, by first | rfl | (rw [World.drewN_drewN])⟩
      case measure => simp [intOf]; omega
    · have hlt2 : decide ((k : Int) < xs.length) = false := by simp; omega
      go_wp2
      go_ret
      exact ⟨rfl, below_drewN (Below.refl _ _) _⟩

theorem awake_any (w : World) : Calls Try.prog 17 #[] w fun e w' => e = .returned (.bool true) ∧ Below w.heap.size w w' := by
  have ht : textS 5 = ⟨#[97, 99]⟩ ∧ textE 5 = 0 := by have := textS_nat 5 (by decide); exact this
  have f1 : flB 1 5 = true := by decide +kernel
  have f2 : flB 2 5 = false := by decide +kernel
  have HT := Lib.hid ht; clear ht
  go_enter Try.func17, Try.ntmps17
  go_wp2_with (first | (go_at_call 22; refine (text_any 5 _).mono ?_; rw [HT.out.1, HT.out.2]; rintro e w1 ⟨rfl, hb1⟩) | (go_at_call 16; refine (flows_any _ _ _).mono ?_; rintro e w' ⟨rfl, rfl⟩))
  go_ret
  exact ⟨rfl, hb1⟩
end Go.Proofs.Ytjphehncpgekfaa
