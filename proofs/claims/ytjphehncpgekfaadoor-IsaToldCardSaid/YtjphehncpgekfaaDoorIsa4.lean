/- The walks of the reference of chapter 09, second part; awake. -/
import Derived.Test.YtjphehncpgekfaaDoorIsa3
namespace Go.Proofs.YtjphehncpgekfaaDoor
open Go.RowKit
set_option maxHeartbeats 400000
set_option maxRecDepth 100000

theorem Encode_ref (op d a b n : Int) (w : World) : Calls Tryd.prog 11 #[(.agg #[.int .i64 (op), .int .i64 (d), .int .i64 (a), .int .i64 (b), .int .i64 (n)])] w fun e w' => e = .returned (.tuple #[.int .u32 (encW op d a b n), .int .i64 (encE op d a b n)]) ∧ Below w.heap.size w w' := by
  cases hv : validB op d a b n
  · have HE : Hid (encW op d a b n = 0 ∧ encE op d a b n = 6) := by simp [Hid, encW, encE, hv]
    go_enter Tryd.func11, Tryd.ntmps11
    go_wp2_with (go_at_call 15; refine (Valid_ref _ _ _ _ _ _).mono ?_; rintro e w1 ⟨rfl, hb1⟩)
    go_ret2
    exact ⟨ret_two (by rw [HE.out.1]) (by rw [HE.out.2]), ((Below.refl _ _).alloc (Nat.le_refl _) _).trans (hb1.mono (by simp))⟩
  · have HE : Hid (encW op d a b n = wordI op d a b n ∧ encE op d a b n = 0) := by simp [Hid, encW, encE, hv]
    have hB := validB_bounds hv
    go_enter Tryd.func11, Tryd.ntmps11
    go_wp2_with fail
    refine (Valid_ref _ _ _ _ _ _).mono ?_; rintro e w1 ⟨rfl, hb1⟩
    have hk := keepB hb1 (by simp) (new_block w _ _ rfl)
    have k0 := cell_at hk 0 _ rfl; have k1 := cell_at hk 1 _ rfl; have k2 := cell_at hk 2 _ rfl; have k3 := cell_at hk 3 _ rfl; have k4 := cell_at hk 4 _ rfl
    clear hk
    go_wp2_with fail
    go_ret2
    refine ⟨ret_two ?_ (by rw [HE.out.2]), ((Below.refl _ _).alloc (Nat.le_refl _) _).trans (hb1.mono (by simp))⟩
    rw [HE.out.1, wordI]
    omega

theorem Writes_ref (op d a b n : Int) (w : World) : Calls Tryd.prog 14 #[(.agg #[.int .i64 (op), .int .i64 (d), .int .i64 (a), .int .i64 (b), .int .i64 (n)])] w fun e w' => e = .returned (.tuple #[.int .i64 (wrV op d a b n), .bool (wrB op d a b n)]) ∧ Below w.heap.size w w' := by
  cases hv : validB op d a b n
  · have HE : Hid (wrV op d a b n = 0 ∧ wrB op d a b n = false) := by simp [Hid, wrV, wrB, hv]
    go_enter Tryd.func14, Tryd.ntmps14
    go_wp2_with (go_at_call 15; refine (Valid_ref _ _ _ _ _ _).mono ?_; rintro e w1 ⟨rfl, hb1⟩)
    go_ret2
    exact ⟨ret_ib (by rw [HE.out.1]) (by rw [HE.out.2]), ((Below.refl _ _).alloc (Nat.le_refl _) _).trans (hb1.mono (by simp))⟩
  · have hB := (validB_bounds hv).1
    obtain ⟨o, rfl⟩ := Int.eq_ofNat_of_zero_le (show 0 ≤ op by omega)
    cases hf : fl o 1
    all_goals
      have HE : Hid (wrV o d a b n = (if fl o 1 then d else 0) ∧ wrB o d a b n = fl o 1) := by
        refine ⟨?_, ?_⟩ <;> simp [wrV, wrB, hv, fl]
      rw [hf] at HE
      go_enter Tryd.func14, Tryd.ntmps14
      go_wp2_with fail
      refine (Valid_ref _ _ _ _ _ _).mono ?_; rintro e w1 ⟨rfl, hb1⟩
      have hk := keepB hb1 (by simp) (new_block w _ _ rfl)
      have k0 := cell_at hk 0 _ rfl; have k1 := cell_at hk 1 _ rfl
      clear hk
      go_wp2_with (go_at_call 22; refine (has_any _ (by omega) (by omega) _).mono ?_; rintro e w' ⟨rfl, rfl⟩)
      go_ret2
      exact ⟨ret_ib (by rw [HE.out.1]; rfl) (by rw [HE.out.2]), ((Below.refl _ _).alloc (Nat.le_refl _) _).trans (hb1.mono (by simp))⟩

theorem Decode_ref (x : Nat) (hx : x < 4294967296) (w : World) : Calls Tryd.prog 12 #[.int .u32 x] w (DecPost x w) := by
  obtain ⟨n, hn⟩ : ∃ n, n = decN x := ⟨_, rfl⟩
  have HD := Lib.hid hn
  have HB : Hid (decB x = validB ((x : Int) % 64) ((x : Int) / 64 % 16) ((x : Int) / 1024 % 16) ((x : Int) / 16384 % 16) n) := by rw [Hid, decB, hn]
  have HN : Hid (n = if (x : Int) / 262144 < 8192 then (x : Int) / 262144 else (x : Int) / 262144 - 16384) := by
    rw [Hid, hn, decN]
    split <;> split <;> omega
  clear hn
  by_cases hlt : (x : Int) / 262144 < 8192
  · have HN2 : Hid ((x : Int) / 262144 = n) := by rw [Hid, HN.out, if_pos hlt]
    go_enter Tryd.func12, Tryd.ntmps12
    go_wp2_with fail
    rw [HN2.out]
    refine (Valid_ref _ _ _ _ _ _).mono ?_; rw [← HB.out]; rintro e w5 ⟨rfl, hb5⟩
    have hkA := keepB hb5 (b := w.heap.size) (by simp; omega) ((Below.heap_alloc _ _ _ (by simp)).trans (new_block w _ _ rfl))
    have hkB := keepB hb5 (b := w.heap.size + 1) (by simp) (new_block (w.alloc _) _ _ (by simp))
    have a0 := cell_at hkA 0 (.int .i64 0) rfl; have a1 := cell_at hkA 1 (.int .i64 0) rfl; have a2 := cell_at hkA 2 (.int .i64 0) rfl; have a3 := cell_at hkA 3 (.int .i64 0) rfl; have a4 := cell_at hkA 4 (.int .i64 0) rfl; have af0 := free_at hkA 0; have af1 := free_at hkA 1; have af2 := free_at hkA 2; have af3 := free_at hkA 3; have af4 := free_at hkA 4
    have b0 := cell_at hkB 0 _ rfl; have b1 := cell_at hkB 1 _ rfl; have b2 := cell_at hkB 2 _ rfl; have b3 := cell_at hkB 3 _ rfl; have b4 := cell_at hkB 4 _ rfl
    have HB5 : Hid (Below w.heap.size w w5) := (((Below.refl _ _).alloc (Nat.le_refl _) _).alloc (by simp) _).trans (hb5.mono (by simp; omega))
    have s6 : w.heap.size < w5.heap.size := by have := hb5.size; simp at this; omega
    clear hkA hkB hb5 HN
    cases hd : decB x
    · go_wp2_with fail
      refine bodyPost_ret (v := .tuple #[(.agg #[.int .i64 (0), .int .i64 (0), .int .i64 (0), .int .i64 (0), .int .i64 (0)]), .bool false]) ?_ rfl ⟨by simp [hd], ?_⟩
      · simp [results, Tryd.results12, go_sem, a0, a1, a2, a3, a4, s6]
      · exact (((((HB5.out.setCell (Nat.le_refl _) _).setCell (Nat.le_refl _) _).setCell (Nat.le_refl _) _).setCell (Nat.le_refl _) _).setCell (Nat.le_refl _) _)
    · go_wp2_with fail
      refine bodyPost_ret (v := .tuple #[(.agg #[.int .i64 ((x : Int) % 64), .int .i64 ((x : Int) / 64 % 16), .int .i64 ((x : Int) / 1024 % 16), .int .i64 ((x : Int) / 16384 % 16), .int .i64 (n)]), .bool true]) ?_ rfl ⟨by rw [HD.out]; simp [hd], ?_⟩
      · simp [results, Tryd.results12, go_sem, a0, a1, a2, a3, a4, s6]
      · exact (((((HB5.out.setCell (Nat.le_refl _) _).setCell (Nat.le_refl _) _).setCell (Nat.le_refl _) _).setCell (Nat.le_refl _) _).setCell (Nat.le_refl _) _)
  · have HN2 : Hid ((x : Int) / 262144 - 16384 = n) := by rw [Hid, HN.out, if_neg hlt]
    go_enter Tryd.func12, Tryd.ntmps12
    go_wp2_with fail
    rw [HN2.out]
    refine (Valid_ref _ _ _ _ _ _).mono ?_; rw [← HB.out]; rintro e w5 ⟨rfl, hb5⟩
    have hkA := keepB hb5 (b := w.heap.size) (by simp; omega) ((Below.heap_alloc _ _ _ (by simp)).trans (new_block w _ _ rfl))
    have hkB := keepB hb5 (b := w.heap.size + 1) (by simp) (new_block (w.alloc _) _ _ (by simp))
    have a0 := cell_at hkA 0 (.int .i64 0) rfl; have a1 := cell_at hkA 1 (.int .i64 0) rfl; have a2 := cell_at hkA 2 (.int .i64 0) rfl; have a3 := cell_at hkA 3 (.int .i64 0) rfl; have a4 := cell_at hkA 4 (.int .i64 0) rfl; have af0 := free_at hkA 0; have af1 := free_at hkA 1; have af2 := free_at hkA 2; have af3 := free_at hkA 3; have af4 := free_at hkA 4
    have b0 := cell_at hkB 0 _ rfl; have b1 := cell_at hkB 1 _ rfl; have b2 := cell_at hkB 2 _ rfl; have b3 := cell_at hkB 3 _ rfl; have b4 := cell_at hkB 4 _ rfl
    have HB5 : Hid (Below w.heap.size w w5) := (((Below.refl _ _).alloc (Nat.le_refl _) _).alloc (by simp) _).trans (hb5.mono (by simp; omega))
    have s6 : w.heap.size < w5.heap.size := by have := hb5.size; simp at this; omega
    clear hkA hkB hb5 HN
    cases hd : decB x
    · go_wp2_with fail
      refine bodyPost_ret (v := .tuple #[(.agg #[.int .i64 (0), .int .i64 (0), .int .i64 (0), .int .i64 (0), .int .i64 (0)]), .bool false]) ?_ rfl ⟨by simp [hd], ?_⟩
      · simp [results, Tryd.results12, go_sem, a0, a1, a2, a3, a4, s6]
      · exact (((((HB5.out.setCell (Nat.le_refl _) _).setCell (Nat.le_refl _) _).setCell (Nat.le_refl _) _).setCell (Nat.le_refl _) _).setCell (Nat.le_refl _) _)
    · go_wp2_with fail
      refine bodyPost_ret (v := .tuple #[(.agg #[.int .i64 ((x : Int) % 64), .int .i64 ((x : Int) / 64 % 16), .int .i64 ((x : Int) / 1024 % 16), .int .i64 ((x : Int) / 16384 % 16), .int .i64 (n)]), .bool true]) ?_ rfl ⟨by rw [HD.out]; simp [hd], ?_⟩
      · simp [results, Tryd.results12, go_sem, a0, a1, a2, a3, a4, s6]
      · exact (((((HB5.out.setCell (Nat.le_refl _) _).setCell (Nat.le_refl _) _).setCell (Nat.le_refl _) _).setCell (Nat.le_refl _) _).setCell (Nat.le_refl _) _)

theorem awake_any (w : World) (ht : Tab w) : Calls Tryd.prog 10 #[] w fun e w' => e = .returned (.bool true) ∧ Below w.heap.size w w' := by
  have e1 : encW 14 1 2 0 (-1) = 4294707278 ∧ encE 14 1 2 0 (-1) = 0 := by decide +kernel
  have E := Lib.hid e1; clear e1
  have d1 : decB 0 = false := by decide +kernel
  have D := Lib.hid d1; clear d1
  have HT := Lib.hid ht; clear ht
  go_enter Tryd.func10, Tryd.ntmps10
  go_wp2_with fail
  refine (encode_any 14 1 2 0 (-1) _ HT.out).mono ?_; rw [E.out.1, E.out.2]; rintro e w1 ⟨rfl, hb1⟩
  go_wp2_with fail
  refine (decode_any 0 (by decide) _ (HT.out.below hb1)).mono ?_; rintro e w2 hq
  rw [DecPost, D.out] at hq
  obtain ⟨rfl, hb2⟩ := hq
  go_wp2_with fail
  go_ret
  exact ⟨rfl, (hb1.trans (hb2.mono hb1.size)).alloc (Nat.le_trans hb1.size hb2.size) _⟩
end Go.Proofs.YtjphehncpgekfaaDoor
