/- Package hermitageref03: Of, Runs, Give. -/
import Derived.Test.YthmbflofcceifaaPartsRef
namespace Go.Proofs.Ythmbflofcceifaa
set_option linter.unusedVariables false
set_option linter.unusedSimpArgs false
set_option linter.unnecessarySimpa false
open Go.RowKit Go.Sort
set_option maxHeartbeats 400000
set_option maxRecDepth 100000

/-- The places of one. -/
def ofF (f : Nat → Int) (who : Int) : Nat → List Int
  | 0 => []
  | k + 1 => ofF f who k ++ if f k = who ∧ 0 ≤ who then [(k : Int)] else []
theorem ofF_len (f : Nat → Int) (who : Int) : ∀ k, (ofF f who k).length ≤ k
  | 0 => Nat.le_refl _
  | k + 1 => by have := ofF_len f who k; unfold ofF; split <;> simp <;> omega
set_option maxHeartbeats 1600000 in
theorem rof_any (B rr c n : Nat) (a : Option Addr) (f : Nat → Int) (who : Int) (w : World) (h : RT w B rr a c f n) (hn : n ≤ 64) : Calls Try.prog 21 #[.pointer (some ⟨rr, 0, none⟩), .int .i64 who] w (OfPost w.heap.size (ofF f who n) w) := by
  obtain ⟨i0, hi0, hz0, hz1, hz2⟩ := info_parts info_int
  have c0 := h.obj.cell 0 _ rfl
  have H := Lib.hid h
  have HO0 : Hid (Own w w.heap.size 3 1 none 0 0 (inC [])) := Own.nil _ _ _ _
  clear h
  go_enter Try.func21, Try.ntmps21
  go_wp2_with fail
  go_loopw [5, 6] (fun s i wr => ∃ (k : Nat) (a' : Option Addr) (c' : Nat), k ≤ n ∧ i = .int .i64 k ∧ s = .slice a' (ofF f who k).length c' ∧ Own wr w.heap.size 3 1 a' (ofF f who k).length c' (inC (ofF f who k)) ∧ Below w.heap.size w wr) (fun _ i _ => n - (intOf i).toNat)
  case atStart => exact ⟨0, none, 0, Nat.zero_le _, rfl, rfl, HO0.out, Below.refl _ _⟩
  case round =>
    clear HO0 c0
    obtain ⟨k, a', c', hk, rfl, rfl, ho, hb⟩ := hrel
    have HO := Lib.hid ho; have HB := Lib.hid hb
    have hbz := hb.size
    have c0 := (H.out.below hb).obj.cell 0 _ rfl
    clear ho hb
    by_cases g : k < n
    · have d : decide ((k : Int) < (n : Int)) = true := by simp; omega
      obtain ⟨g', rfl, k0⟩ := (H.out.below HB.out).at_ k g
      have hb0 : (0 : Int) ≤ k := by omega
      have hb1 : (k : Int) < (n : Int) := by omega
      have hln := ofF_len f who k
      by_cases g2 : f k = who
      · have e2 : (f k == who) = true := by simpa using g2
        by_cases g3 : 0 ≤ who
        · have e3 : decide (0 ≤ who) = true := by simpa using g3
          have HN : Hid (ofF f who (k + 1) = ofF f who k ++ [(k : Int)]) := by rw [Hid, ofF, if_pos ⟨g2, g3⟩]
          generalize f k = x at k0 e2
          generalize ofF f who k = L at *
          clear g2 g3
          go_wp2_with (at_builtin; (refine wpList_own rfl (.tmp 29) (.tmp 31) 22 rfl w.heap.size 3 i0 _ 1 8 Try.underlying22 hi0 hz0 hz1 hz2 rfl (by omega) a' L.length c' (inC L) rfl (HO.out.below ((Below.refl _ _).alloc (Nat.le_refl _) _)) wr.heap.size [.int .i64 k] rfl (new_block _ _ _ rfl) rfl (by simp [Value.oneCell']) (by simp only [maxLen]; omega) (by omega) (by simp; omega) ?_); intro g2 c2 w1 hown1 hmod1 _; have HM1 : Hid (Mod (blk a') wr w1) := ((Mod.ofBelow ((Below.refl wr.heap.size wr).alloc (Nat.le_refl _) _)).trans hmod1); have HO1 := Lib.hid hown1; clear hown1 hmod1)
          have hb2 : Below w.heap.size w w1 := HB.out.trans (HM1.out.below (B := w.heap.size) (fun j hj => (HO.out.ge j hj).1) hbz)
          go_roundw
          case rel => exact ⟨k + 1, some ⟨g2, 0, none⟩, c2, by omega, by go_num, by rw [HN.out]; simp, by rw [HN.out]; simpa [inC] using HO1.out, hb2⟩
          case measure => simp [intOf]; omega
        · have e3 : decide (0 ≤ who) = false := by simpa using g3
          have HN : Hid (ofF f who (k + 1) = ofF f who k) := by rw [Hid, ofF, if_neg (fun hc => g3 hc.2), List.append_nil]
          generalize f k = x at k0 e2
          clear g2 g3
          go_wp2_with fail
          go_roundw
          case rel => exact ⟨k + 1, a', c', by omega, by go_num, by rw [HN.out], by rw [HN.out]; exact HO.out, HB.out⟩
          case measure => simp [intOf]; omega
      · have e2 : (f k == who) = false := by simpa using g2
        have HN : Hid (ofF f who (k + 1) = ofF f who k) := by rw [Hid, ofF, if_neg (fun hc => g2 hc.1), List.append_nil]
        generalize f k = x at k0 e2
        clear g2
        go_wp2_with fail
        go_roundw
        case rel => exact ⟨k + 1, a', c', by omega, by go_num, by rw [HN.out], by rw [HN.out]; exact HO.out, HB.out⟩
        case measure => simp [intOf]; omega
    · obtain rfl : k = n := by omega
      have d : decide ((k : Int) < (k : Int)) = false := by simp
      go_wp2_with fail
      go_ret
      exact ⟨a', c', rfl, HO.out, HB.out⟩
set_option maxHeartbeats 3200000 in
theorem rruns_any (B rr c n : Nat) (a : Option Addr) (f : Nat → Int) (L : List Rz) (w : World) (h : RT w B rr a c f n) (hn : n ≤ 64) (hL : Rle f L n) : Calls Try.prog 22 #[.pointer (some ⟨rr, 0, none⟩)] w (RunsPost w.heap.size L w) := by
  obtain ⟨i0, hi0, hz0, hz1, hz2⟩ := info_parts info_run
  have c0 := h.obj.cell 0 _ rfl
  have H := Lib.hid h
  have HO0 : Hid (Own w w.heap.size 33 3 none 0 0 (rzF [])) := Own.nil _ _ _ _
  clear h
  go_enter Try.func22, Try.ntmps22
  go_wp2_with fail
  go_loopw [3, 4] (fun s i wr => ∃ (k : Nat) (a' : Option Addr) (c' : Nat) (M : List Rz), k ≤ n ∧ i = .int .i64 k ∧ s = .slice a' M.length c' ∧ Own wr w.heap.size 33 3 a' M.length c' (rzF M) ∧ Below w.heap.size w wr ∧ Rle f M k) (fun _ i _ => n - (intOf i).toNat)
  case atStart => exact ⟨0, none, 0, [], Nat.zero_le _, rfl, rfl, HO0.out, Below.refl _ _, Rle.nil⟩
  case round =>
    clear HO0 c0
    obtain ⟨k, a', c', M, hk, rfl, rfl, ho, hb, hrle⟩ := hrel
    have HO := Lib.hid ho; have HB := Lib.hid hb; have HRLE := Lib.hid hrle
    have hbz := hb.size
    have c0 := (H.out.below hb).obj.cell 0 _ rfl
    have hml := (rle_all hrle).2
    clear ho hb
    by_cases g : k < n
    · have d : decide ((k : Int) < (n : Int)) = true := by simp; omega
      obtain ⟨g', rfl, k0⟩ := (H.out.below HB.out).at_ k g
      have hb0 : (0 : Int) ≤ k := by omega
      have hb1 : (k : Int) < (n : Int) := by omega
      have HJ := Lib.hid (Rle.join (N := 1) (v := f k) hrle (Nat.le_refl _) (fun i hi hj => by rw [show i = k by omega]))
      clear hrle
      rcases k with _ | p
      · obtain rfl : M = [] := List.eq_nil_of_length_eq_zero (by omega)
        rw [show joinV [] (0, 1, f 0) = [] ++ [(0, 1, f 0)] from rfl] at HJ
        rw [show ((0 : Nat) : Int) = 0 from rfl]
        have hb2 : (0 : Int) < (n : Int) := by omega
        generalize f 0 = x at k0 HJ
        go_wp2_with fail
        go_quiet (fail)
        (
        obtain ⟨W1, hW1⟩ : ∃ W1, W1 = wr.drewN nq := ⟨_, rfl⟩
        have hbw : Below wr.heap.size wr W1 := by rw [hW1]; exact below_drewN (Below.refl _ _) nq
        have HO1 := Lib.hid (HO.out.below hbw)
        have HB1 : Hid (Below w.heap.size w W1) := bmore HB.out hbw
        have hz1' : wr.heap.size ≤ W1.heap.size := hbw.size
        have HBW := Lib.hid hbw
        rw [← hW1]
        clear hW1 hbw
)
        have q0 := (HBW.out.cell (p := ⟨g', 0, none⟩) (World.block_lt_of_cell? wr ⟨g', 0, none⟩ k0)).trans k0
        have q1 := (HBW.out.cell (p := ⟨rr, 0, none⟩) (World.block_lt_of_cell? wr ⟨rr, 0, none⟩ c0)).trans c0
        clear k0 c0
        (
        go_wp2_with (at_builtin; (refine wpList_own rfl (.tmp 48) (.tmp 58) 27 rfl w.heap.size 33 i0 _ 3 24 Try.underlying27 hi0 hz0 hz1 hz2 rfl (by omega) a' (0) c' (rzF ([])) rfl (HO1.out.below ((Below.refl _ _).alloc (Nat.le_refl _) _)) W1.heap.size [.int .i64 (0), .int .i64 1, .int .i64 x] rfl (new_block _ _ _ rfl) rfl (by simp [Value.oneCell']) (by simp only [maxLen]; omega) (by omega) (by simp; omega) ?_); intro g2 c2 w1 hown1 hmod1 _; have HM1 : Hid (Mod (blk a') W1 w1) := ((Mod.ofBelow ((Below.refl W1.heap.size W1).alloc (Nat.le_refl _) _)).trans hmod1); have HO2 := Lib.hid hown1; clear hown1 hmod1)
        have hb2 : Below w.heap.size w w1 := HB1.out.trans (HM1.out.below (B := w.heap.size) (fun j hj => (HO1.out.ge j hj).1) (by omega))
        have ho2 : Own w1 w.heap.size 33 3 (some ⟨g2, 0, none⟩) (([]) ++ [(0, 1, x)]).length c2 (rzF (([]) ++ [(0, 1, x)])) := by rw [rzF_snoc, show (([]) ++ [(0, 1, x)] : List Rz).length = (0) + 1 by simp, show rzC (0, 1, x) = [.int .i64 (0), .int .i64 1, .int .i64 x] by simp [rzC]]; exact HO2.out
        go_roundw
        case rel => exact ⟨0 + 1, some ⟨g2, 0, none⟩, c2, ([]) ++ [(0, 1, x)], by omega, by go_num, by first | rfl | simp, ho2, hb2, HJ.out⟩
        case measure => simp [intOf]; omega
)
      · obtain ⟨g3, hgg, p0⟩ := (H.out.below HB.out).at_ p (by omega)
        injection hgg with hgg
        injection hgg with hgg
        subst hgg
        obtain ⟨q, hq, hqw⟩ := rle_last HRLE.out (by omega)
        rw [Nat.add_sub_cancel] at hqw
        rcases List.eq_nil_or_concat M with rfl | ⟨M0, q', rfl⟩
        · simp at hq
        · rw [List.concat_eq_append] at *
          obtain rfl : q' = q := by simpa using hq
          rw [joinV_snoc] at HJ
          dsimp only at HJ
          have hm0 : (M0 ++ [q']).length = M0.length + 1 := by simp
          have HO : Hid (Own wr w.heap.size 33 3 a' (M0.length + 1) c' (rzF (M0 ++ [q']))) := by have := HO.out; rwa [hm0] at this
          rw [hm0] at hml ⊢
          clear hm0
          have hc0 : ((p + 1 : Nat) : Int) = (p : Int) + 1 := by omega
          have hb2 : (0 : Int) ≤ (p : Int) + 1 := by omega
          have hb3 : (p : Int) < (n : Int) := by omega
          have hb4 : (p : Int) + 1 < (n : Int) := by omega
          have hb5 : (0 : Int) ≤ (p : Int) := by omega
          have e0 : decide ((0 : Int) < (p : Int) + 1) = true := by rw [decide_eq_true_eq]; omega
          rw [hc0]
          have hqn := ((rle_all HRLE.out).1 q' (by simp))
          have hqn2 : q'.2.1 ≤ 64 := by omega
          rw [hqw] at HJ
          have HQW := Lib.hid hqw
          clear hq hqw hqn
          generalize f (p + 1) = x at k0 HJ
          generalize f p = y at p0 HJ HQW
          by_cases ex : y = x
          · subst ex
            rw [if_pos rfl] at HJ
            have ne : (y == y) = true := by simp
            obtain ⟨g2, rfl, _, hg2⟩ := HO.out.at_ (by omega)
            have hk : M0.length < (M0 ++ [q']).length := by simp
            have m1 := HO.out.cell (M0.length * 3 + 1) (.int .i64 q'.2.1) (by have := rzF_get (M0 ++ [q']) M0.length 1 hk (by omega); simpa [rzC] using this)
            clear hk
            obtain ⟨qf, qn, qw⟩ := q'
            dsimp only at hqn2 m1
            have hc1 : M0.length + 1 ≤ c' := HO.out.le
            have hi0 : (0 : Int) ≤ (M0.length : Int) := by omega
            have hi1 : (M0.length : Int) < (M0.length : Int) + 1 := by omega
            go_wp2_with fail
            go_quiet (fail)
            (
        obtain ⟨W1, hW1⟩ : ∃ W1, W1 = wr.drewN nq := ⟨_, rfl⟩
        have hbw : Below wr.heap.size wr W1 := by rw [hW1]; exact below_drewN (Below.refl _ _) nq
        have HO1 := Lib.hid (HO.out.below hbw)
        have HB1 : Hid (Below w.heap.size w W1) := bmore HB.out hbw
        have hz1' : wr.heap.size ≤ W1.heap.size := hbw.size
        have HBW := Lib.hid hbw
        rw [← hW1]
        clear hW1 hbw
)
            have n1 := (HBW.out.cell (p := ⟨g2, M0.length * 3 + 1, none⟩) hg2).trans m1
            have nf := HO1.out.free (M0.length * 3 + 1)
            clear k0 c0 p0 m1
            go_wp2_with fail
            have hs := Own.put HO1.out (j := M0.length * 3 + 1) (by omega) (.int .i64 ((qn + 1 : Nat) : Int))
            rw [rzF_grow, Int.natCast_add] at hs
            have hb2 : Below w.heap.size w (W1.setCell ⟨g2, M0.length * 3 + 1, none⟩ (.int .i64 ((qn : Int) + 1))) := HB1.out.setCell (p := ⟨g2, M0.length * 3 + 1, none⟩) (HO1.out.ge g2 (by simp [blk])).1 _
            go_roundw
            case rel => exact ⟨p + 1 + 1, some ⟨g2, 0, none⟩, c', M0 ++ [(qf, qn + 1, qw)], by omega, by go_num, by simp, by rw [show (M0 ++ [(qf, qn + 1, qw)] : List Rz).length = M0.length + 1 by simp]; exact hs, hb2, by rw [HQW.out]; exact HJ.out⟩
            case measure => simp [intOf]; omega
          · rw [if_neg ex] at HJ
            have ne : (x == y) = false := by simpa using Ne.symm ex
            clear ex
            go_wp2_with fail
            go_quiet (fail)
            (
        obtain ⟨W1, hW1⟩ : ∃ W1, W1 = wr.drewN nq := ⟨_, rfl⟩
        have hbw : Below wr.heap.size wr W1 := by rw [hW1]; exact below_drewN (Below.refl _ _) nq
        have HO1 := Lib.hid (HO.out.below hbw)
        have HB1 : Hid (Below w.heap.size w W1) := bmore HB.out hbw
        have hz1' : wr.heap.size ≤ W1.heap.size := hbw.size
        have HBW := Lib.hid hbw
        rw [← hW1]
        clear hW1 hbw
)
            have q0 := (HBW.out.cell (p := ⟨g', p + 1, none⟩) (World.block_lt_of_cell? wr ⟨g', p + 1, none⟩ k0)).trans k0
            have q1 := (HBW.out.cell (p := ⟨rr, 0, none⟩) (World.block_lt_of_cell? wr ⟨rr, 0, none⟩ c0)).trans c0
            clear k0 c0 p0
            (
        go_wp2_with (at_builtin; (refine wpList_own rfl (.tmp 48) (.tmp 58) 27 rfl w.heap.size 33 i0 _ 3 24 Try.underlying27 hi0 hz0 hz1 hz2 rfl (by omega) a' ((M0.length + 1)) c' (rzF ((M0 ++ [q']))) rfl (HO1.out.below ((Below.refl _ _).alloc (Nat.le_refl _) _)) W1.heap.size [.int .i64 (((p : Int) + 1)), .int .i64 1, .int .i64 x] rfl (new_block _ _ _ rfl) rfl (by simp [Value.oneCell']) (by simp only [maxLen]; omega) (by omega) (by simp; omega) ?_); intro g2 c2 w1 hown1 hmod1 _; have HM1 : Hid (Mod (blk a') W1 w1) := ((Mod.ofBelow ((Below.refl W1.heap.size W1).alloc (Nat.le_refl _) _)).trans hmod1); have HO2 := Lib.hid hown1; clear hown1 hmod1)
        have hb2 : Below w.heap.size w w1 := HB1.out.trans (HM1.out.below (B := w.heap.size) (fun j hj => (HO1.out.ge j hj).1) (by omega))
        have ho2 : Own w1 w.heap.size 33 3 (some ⟨g2, 0, none⟩) (((M0 ++ [q'])) ++ [((p + 1), 1, x)]).length c2 (rzF (((M0 ++ [q'])) ++ [((p + 1), 1, x)])) := by rw [rzF_snoc, show (((M0 ++ [q'])) ++ [((p + 1), 1, x)] : List Rz).length = ((M0.length + 1)) + 1 by simp, show rzC ((p + 1), 1, x) = [.int .i64 (((p : Int) + 1)), .int .i64 1, .int .i64 x] by simp [rzC]]; exact HO2.out
        go_roundw
        case rel => exact ⟨(p + 1) + 1, some ⟨g2, 0, none⟩, c2, ((M0 ++ [q'])) ++ [((p + 1), 1, x)], by omega, by go_num, by first | rfl | simp, ho2, hb2, HJ.out⟩
        case measure => simp [intOf]; omega
)
    · obtain rfl : k = n := by omega
      have d : decide ((k : Int) < (k : Int)) = false := by simp
      obtain rfl : M = L := rle_uniq hrle hL
      clear hrle
      go_wp2_with fail
      go_ret
      exact ⟨a', c', rfl, HO.out, HB.out⟩
end Go.Proofs.Ythmbflofcceifaa
