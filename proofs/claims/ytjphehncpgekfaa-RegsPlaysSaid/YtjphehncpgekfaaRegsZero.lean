/- The law RegsZero. -/
import Derived.Test.YtjphehncpgekfaaRegsGone
namespace Go.Proofs.Ytjphehncpgekfaa
open Go.RowKit
set_option maxHeartbeats 400000
set_option maxRecDepth 100000

theorem get_nil (i : Int) (w : World) : Calls Try.prog 39 #[.pointer none, .int .i64 i] w fun e w' => e = .returned (.tuple #[.int .u32 0, .int .i64 7]) ∧ w = w' := by go_enter Try.func39, Try.ntmps39; go_wp2; go_ret2; exact ⟨rfl, rfl⟩
theorem set_nil (i v : Int) (w : World) : Calls Try.prog 20 #[.pointer none, .int .i64 i, .int .u32 v] w fun e w' => e = .returned (.int .i64 7) ∧ w = w' := by go_enter Try.func20, Try.ntmps20; go_wp2; go_ret; exact ⟨rfl, rfl⟩
theorem jump_nil (v : Int) (w : World) : Calls Try.prog 35 #[.pointer none, .int .u32 v] w fun e w' => e = .returned (.int .i64 7) ∧ w = w' := by go_enter Try.func35, Try.ntmps35; go_wp2; go_ret; exact ⟨rfl, rfl⟩
theorem clear_nil (w : World) : Calls Try.prog 37 #[.pointer none] w fun e w' => e = .returned (.int .i64 7) ∧ w = w' := by go_enter Try.func37, Try.ntmps37; go_wp2; go_ret; exact ⟨rfl, rfl⟩
theorem pc_nil (w : World) : Calls Try.prog 36 #[.pointer none] w fun e w' => e = .returned (.int .u32 0) ∧ w = w' := by go_enter Try.func36, Try.ntmps36; go_wp2; go_ret; exact ⟨rfl, rfl⟩
theorem all_nil (w : World) : Calls Try.prog 19 #[.pointer none] w (AllPost (List.replicate 16 0) w) := by
  go_enter Try.func19, Try.ntmps19
  go_wp2_with (refine wpList_store_new rfl 30 (.tmp 2) (.tmp 5) rfl _ _ rfl rfl (by rw [info_arr]; rfl) (by rfl) (by rfl) ?_)
  refine bodyPost_ret (v := .agg ((List.replicate 16 0).map (Value.int .u32)).toArray) ?_ rfl ⟨rfl, (Below.refl _ _).alloc (Nat.le_refl _) _⟩
  exact results_cell_row rfl _ _ w.heap.size _ _ (0, 0) _ rfl (new_block w _ _ rfl) Try.underlying30 rfl (by rw [info_arr]; rfl)
theorem may_un (i : Int) (b : Nat) (r : List Int) (pc : Int) (w : World) (h : FileAt w b r false pc) : Calls Try.prog 55 #[.pointer (some ⟨b, 0, none⟩), .int .i64 i] w fun e w' => e = .returned (.int .i64 7) ∧ w = w' := by
  have hm := h.made
  clear h
  go_enter Try.func55, Try.ntmps55; go_wp2; go_ret; exact ⟨rfl, rfl⟩
theorem get_un (i : Int) (b : Nat) (r : List Int) (pc : Int) (w : World) (h : FileAt w b r false pc) : Calls Try.prog 39 #[.pointer (some ⟨b, 0, none⟩), .int .i64 i] w fun e w' => e = .returned (.tuple #[.int .u32 0, .int .i64 7]) ∧ w = w' := by
  have H := Lib.hid h; clear h
  go_enter Try.func39, Try.ntmps39
  go_wp2_with (go_at_call 55; refine (may_un _ _ _ _ _ H.out).mono ?_; rintro e w' ⟨rfl, rfl⟩)
  go_ret2
  exact ⟨rfl, rfl⟩
theorem set_un (i v : Int) (b : Nat) (r : List Int) (pc : Int) (w : World) (h : FileAt w b r false pc) : Calls Try.prog 20 #[.pointer (some ⟨b, 0, none⟩), .int .i64 i, .int .u32 v] w fun e w' => e = .returned (.int .i64 7) ∧ w = w' := by
  have H := Lib.hid h; clear h
  go_enter Try.func20, Try.ntmps20
  go_wp2_with (go_at_call 55; refine (may_un _ _ _ _ _ H.out).mono ?_; rintro e w' ⟨rfl, rfl⟩)
  go_ret
  exact ⟨rfl, rfl⟩
theorem jump_un (v : Int) (b : Nat) (r : List Int) (pc : Int) (w : World) (h : FileAt w b r false pc) : Calls Try.prog 35 #[.pointer (some ⟨b, 0, none⟩), .int .u32 v] w fun e w' => e = .returned (.int .i64 7) ∧ w = w' := by
  have hm := h.made
  clear h
  go_enter Try.func35, Try.ntmps35; go_wp2; go_ret; exact ⟨rfl, rfl⟩
theorem clear_un (b : Nat) (r : List Int) (pc : Int) (w : World) (h : FileAt w b r false pc) : Calls Try.prog 37 #[.pointer (some ⟨b, 0, none⟩)] w fun e w' => e = .returned (.int .i64 7) ∧ w = w' := by
  have hm := h.made
  clear h
  go_enter Try.func37, Try.ntmps37; go_wp2; go_ret; exact ⟨rfl, rfl⟩
theorem zero_walk (i v : Int) (w : World) : Calls Try.prog 11 #[.int .i64 i, .int .u32 v] w fun e w' => e = .returned (.bool true) ∧ Below w.heap.size w w' := by
  obtain ⟨W, hW⟩ : ∃ W, W = w.alloc (.cells (fileCells (List.replicate 16 0) false 0) 78) := ⟨_, rfl⟩
  have HF : Hid (FileAt W w.heap.size (List.replicate 16 0) false 0) := by rw [Hid, hW]; exact ⟨rfl, new_block w _ _ rfl⟩
  have HB : Hid (Below w.heap.size w W) := by rw [Hid, hW]; exact (Below.refl _ _).alloc (Nat.le_refl _) _
  have HW := Lib.hid hW
  go_enter Try.func11, Try.ntmps11
  go_wp2_with fail
  change Calls _ _ _ (w.alloc (.cells (fileCells (List.replicate 16 0) false 0) 78)) _
  rw [← hW]
  clear hW
  refine (get_nil _ _).mono ?_; rintro e w' ⟨rfl, rfl⟩
  go_wp2_with (go_at_call 39; refine (get_un _ _ _ _ _ HF.out).mono ?_; rintro e w' ⟨rfl, rfl⟩)
  refine (set_nil _ _ _).mono ?_; rintro e w' ⟨rfl, rfl⟩
  go_wp2_with (go_at_call 20; refine (set_un _ _ _ _ _ _ HF.out).mono ?_; rintro e w' ⟨rfl, rfl⟩)
  refine (jump_nil _ _).mono ?_; rintro e w' ⟨rfl, rfl⟩
  go_wp2_with (go_at_call 35; refine (jump_un _ _ _ _ _ HF.out).mono ?_; rintro e w' ⟨rfl, rfl⟩)
  refine (clear_nil _).mono ?_; rintro e w' ⟨rfl, rfl⟩
  go_wp2_with (go_at_call 37; refine (clear_un _ _ _ _ HF.out).mono ?_; rintro e w' ⟨rfl, rfl⟩)
  refine (pc_nil _).mono ?_; rintro e w' ⟨rfl, rfl⟩
  go_wp2_with (go_at_call 36; refine (pc_any _ _ _ _ _ HF.out).mono ?_; rintro e w' ⟨rfl, rfl⟩)
  refine (all_nil _).mono ?_; rintro e w1 ⟨he, hb1⟩
  obtain rfl : e = .returned (.agg ([0, 0, 0, 0, 0, 0, 0, 0, 0, 0, 0, 0, 0, 0, 0, 0].map (Value.int .u32)).toArray) := he
  have HF1 : Hid (FileAt w1 w.heap.size (List.replicate 16 0) false 0) := HF.out.below hb1
  have HB1 : Hid (Below w.heap.size w w1) := HB.out.trans (hb1.mono HB.out.size)
  clear hb1
  go_wp2_with fail
  refine (all_any _ _ _ _ _ HF1.out).mono ?_; rintro e w2 ⟨he, hb2⟩
  have hql := eqIn_zero w2
  simp only [List.map_cons, List.map_nil] at hql
  obtain rfl : e = .returned (.agg ([0, 0, 0, 0, 0, 0, 0, 0, 0, 0, 0, 0, 0, 0, 0, 0].map (Value.int .u32)).toArray) := he
  have HF2 : Hid (FileAt w2 w.heap.size (List.replicate 16 0) false 0) := HF1.out.below hb2
  have HB2 : Hid (Below w.heap.size w w2) := HB1.out.trans (hb2.mono HB1.out.size)
  clear hb2
  go_wp2_with fail
  refine (all_any _ _ _ _ _ HF2.out).mono ?_; rintro e w3 ⟨he, hb3⟩
  have hql := eqIn_zero w3
  simp only [List.map_cons, List.map_nil] at hql
  obtain rfl : e = .returned (.agg ([0, 0, 0, 0, 0, 0, 0, 0, 0, 0, 0, 0, 0, 0, 0, 0].map (Value.int .u32)).toArray) := he
  have HB3 : Hid (Below w.heap.size w w3) := HB2.out.trans (hb3.mono HB2.out.size)
  clear hb3
  go_wp2_with fail
  go_ret
  exact ⟨rfl, HB3.out⟩
end Go.Proofs.Ytjphehncpgekfaa
