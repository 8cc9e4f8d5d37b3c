/- The walks of the reference of chapter 09. -/
import Derived.Test.YtjphehncpgekfaaDoorIsa2
namespace Go.Proofs.YtjphehncpgekfaaDoor
open Go.RowKit
set_option maxHeartbeats 400000
set_option maxRecDepth 100000

def fl (o : Nat) (m : Int) : Bool := bits BinOp.and IntKind.i64 (hasI o) m != 0
theorem fl_1 : ∀ o : Fin 42, fl o 1 = ((decide (1 ≤ o.val) && decide (o.val ≤ 25)) || o.val == 32 || o.val == 33 || o.val == 37) := by decide +kernel
theorem fl_2 : ∀ o : Fin 42, fl o 2 = ((decide (1 ≤ o.val) && decide (o.val ≤ 21)) || (decide (23 ≤ o.val) && decide (o.val ≤ 31)) || o.val == 33 || o.val == 38) := by decide +kernel
theorem fl_4 : ∀ o : Fin 42, fl o 4 = ((decide (1 ≤ o.val) && decide (o.val ≤ 13)) || (decide (26 ≤ o.val) && decide (o.val ≤ 31))) := by decide +kernel
theorem fl_8 : ∀ o : Fin 42, fl o 8 = ((decide (14 ≤ o.val) && decide (o.val ≤ 33)) || o.val == 37 || o.val == 38) := by decide +kernel

theorem ret_4 {a b c d a' b' c' d' : Bool} (h1 : a = a') (h2 : b = b') (h3 : c = c') (h4 : d = d') : Ending.returned (.tuple #[.bool a, .bool b, .bool c, .bool d]) = .returned (.tuple #[.bool a', .bool b', .bool c', .bool d']) := by rw [h1, h2, h3, h4]

theorem has_1 (w : World) : Calls Tryd.prog 22 #[.int .i64 1] w fun e w' => e = .returned (.tuple #[.bool true, .bool true, .bool true, .bool false]) ∧ w = w' := by
  go_enter Tryd.func22, Tryd.ntmps22
  go_wp2
  exact bodyPost_ret (v := .tuple #[.bool true, .bool true, .bool true, .bool false]) (by simp [results, Tryd.results22, go_sem]) rfl ⟨rfl, rfl⟩
theorem has_2 (w : World) : Calls Tryd.prog 22 #[.int .i64 2] w fun e w' => e = .returned (.tuple #[.bool true, .bool true, .bool true, .bool false]) ∧ w = w' := by
  go_enter Tryd.func22, Tryd.ntmps22
  go_wp2
  exact bodyPost_ret (v := .tuple #[.bool true, .bool true, .bool true, .bool false]) (by simp [results, Tryd.results22, go_sem]) rfl ⟨rfl, rfl⟩
theorem has_3 (w : World) : Calls Tryd.prog 22 #[.int .i64 3] w fun e w' => e = .returned (.tuple #[.bool true, .bool true, .bool true, .bool false]) ∧ w = w' := by
  go_enter Tryd.func22, Tryd.ntmps22
  go_wp2
  exact bodyPost_ret (v := .tuple #[.bool true, .bool true, .bool true, .bool false]) (by simp [results, Tryd.results22, go_sem]) rfl ⟨rfl, rfl⟩
theorem has_4 (w : World) : Calls Tryd.prog 22 #[.int .i64 4] w fun e w' => e = .returned (.tuple #[.bool true, .bool true, .bool true, .bool false]) ∧ w = w' := by
  go_enter Tryd.func22, Tryd.ntmps22
  go_wp2
  exact bodyPost_ret (v := .tuple #[.bool true, .bool true, .bool true, .bool false]) (by simp [results, Tryd.results22, go_sem]) rfl ⟨rfl, rfl⟩
theorem has_5 (w : World) : Calls Tryd.prog 22 #[.int .i64 5] w fun e w' => e = .returned (.tuple #[.bool true, .bool true, .bool true, .bool false]) ∧ w = w' := by
  go_enter Tryd.func22, Tryd.ntmps22
  go_wp2
  exact bodyPost_ret (v := .tuple #[.bool true, .bool true, .bool true, .bool false]) (by simp [results, Tryd.results22, go_sem]) rfl ⟨rfl, rfl⟩
theorem has_6 (w : World) : Calls Tryd.prog 22 #[.int .i64 6] w fun e w' => e = .returned (.tuple #[.bool true, .bool true, .bool true, .bool false]) ∧ w = w' := by
  go_enter Tryd.func22, Tryd.ntmps22
  go_wp2
  exact bodyPost_ret (v := .tuple #[.bool true, .bool true, .bool true, .bool false]) (by simp [results, Tryd.results22, go_sem]) rfl ⟨rfl, rfl⟩
theorem has_7 (w : World) : Calls Tryd.prog 22 #[.int .i64 7] w fun e w' => e = .returned (.tuple #[.bool true, .bool true, .bool true, .bool false]) ∧ w = w' := by
  go_enter Tryd.func22, Tryd.ntmps22
  go_wp2
  exact bodyPost_ret (v := .tuple #[.bool true, .bool true, .bool true, .bool false]) (by simp [results, Tryd.results22, go_sem]) rfl ⟨rfl, rfl⟩
theorem has_8 (w : World) : Calls Tryd.prog 22 #[.int .i64 8] w fun e w' => e = .returned (.tuple #[.bool true, .bool true, .bool true, .bool false]) ∧ w = w' := by
  go_enter Tryd.func22, Tryd.ntmps22
  go_wp2
  exact bodyPost_ret (v := .tuple #[.bool true, .bool true, .bool true, .bool false]) (by simp [results, Tryd.results22, go_sem]) rfl ⟨rfl, rfl⟩
theorem has_9 (w : World) : Calls Tryd.prog 22 #[.int .i64 9] w fun e w' => e = .returned (.tuple #[.bool true, .bool true, .bool true, .bool false]) ∧ w = w' := by
  go_enter Tryd.func22, Tryd.ntmps22
  go_wp2
  exact bodyPost_ret (v := .tuple #[.bool true, .bool true, .bool true, .bool false]) (by simp [results, Tryd.results22, go_sem]) rfl ⟨rfl, rfl⟩
theorem has_10 (w : World) : Calls Tryd.prog 22 #[.int .i64 10] w fun e w' => e = .returned (.tuple #[.bool true, .bool true, .bool true, .bool false]) ∧ w = w' := by
  go_enter Tryd.func22, Tryd.ntmps22
  go_wp2
  exact bodyPost_ret (v := .tuple #[.bool true, .bool true, .bool true, .bool false]) (by simp [results, Tryd.results22, go_sem]) rfl ⟨rfl, rfl⟩
theorem has_11 (w : World) : Calls Tryd.prog 22 #[.int .i64 11] w fun e w' => e = .returned (.tuple #[.bool true, .bool true, .bool true, .bool false]) ∧ w = w' := by
  go_enter Tryd.func22, Tryd.ntmps22
  go_wp2
  exact bodyPost_ret (v := .tuple #[.bool true, .bool true, .bool true, .bool false]) (by simp [results, Tryd.results22, go_sem]) rfl ⟨rfl, rfl⟩
theorem has_12 (w : World) : Calls Tryd.prog 22 #[.int .i64 12] w fun e w' => e = .returned (.tuple #[.bool true, .bool true, .bool true, .bool false]) ∧ w = w' := by
  go_enter Tryd.func22, Tryd.ntmps22
  go_wp2
  exact bodyPost_ret (v := .tuple #[.bool true, .bool true, .bool true, .bool false]) (by simp [results, Tryd.results22, go_sem]) rfl ⟨rfl, rfl⟩
theorem has_13 (w : World) : Calls Tryd.prog 22 #[.int .i64 13] w fun e w' => e = .returned (.tuple #[.bool true, .bool true, .bool true, .bool false]) ∧ w = w' := by
  go_enter Tryd.func22, Tryd.ntmps22
  go_wp2
  exact bodyPost_ret (v := .tuple #[.bool true, .bool true, .bool true, .bool false]) (by simp [results, Tryd.results22, go_sem]) rfl ⟨rfl, rfl⟩
theorem has_14 (w : World) : Calls Tryd.prog 22 #[.int .i64 14] w fun e w' => e = .returned (.tuple #[.bool true, .bool true, .bool false, .bool true]) ∧ w = w' := by
  go_enter Tryd.func22, Tryd.ntmps22
  go_wp2
  exact bodyPost_ret (v := .tuple #[.bool true, .bool true, .bool false, .bool true]) (by simp [results, Tryd.results22, go_sem]) rfl ⟨rfl, rfl⟩
theorem has_15 (w : World) : Calls Tryd.prog 22 #[.int .i64 15] w fun e w' => e = .returned (.tuple #[.bool true, .bool true, .bool false, .bool true]) ∧ w = w' := by
  go_enter Tryd.func22, Tryd.ntmps22
  go_wp2
  exact bodyPost_ret (v := .tuple #[.bool true, .bool true, .bool false, .bool true]) (by simp [results, Tryd.results22, go_sem]) rfl ⟨rfl, rfl⟩
theorem has_16 (w : World) : Calls Tryd.prog 22 #[.int .i64 16] w fun e w' => e = .returned (.tuple #[.bool true, .bool true, .bool false, .bool true]) ∧ w = w' := by
  go_enter Tryd.func22, Tryd.ntmps22
  go_wp2
  exact bodyPost_ret (v := .tuple #[.bool true, .bool true, .bool false, .bool true]) (by simp [results, Tryd.results22, go_sem]) rfl ⟨rfl, rfl⟩
theorem has_17 (w : World) : Calls Tryd.prog 22 #[.int .i64 17] w fun e w' => e = .returned (.tuple #[.bool true, .bool true, .bool false, .bool true]) ∧ w = w' := by
  go_enter Tryd.func22, Tryd.ntmps22
  go_wp2
  exact bodyPost_ret (v := .tuple #[.bool true, .bool true, .bool false, .bool true]) (by simp [results, Tryd.results22, go_sem]) rfl ⟨rfl, rfl⟩
theorem has_18 (w : World) : Calls Tryd.prog 22 #[.int .i64 18] w fun e w' => e = .returned (.tuple #[.bool true, .bool true, .bool false, .bool true]) ∧ w = w' := by
  go_enter Tryd.func22, Tryd.ntmps22
  go_wp2
  exact bodyPost_ret (v := .tuple #[.bool true, .bool true, .bool false, .bool true]) (by simp [results, Tryd.results22, go_sem]) rfl ⟨rfl, rfl⟩
theorem has_19 (w : World) : Calls Tryd.prog 22 #[.int .i64 19] w fun e w' => e = .returned (.tuple #[.bool true, .bool true, .bool false, .bool true]) ∧ w = w' := by
  go_enter Tryd.func22, Tryd.ntmps22
  go_wp2
  exact bodyPost_ret (v := .tuple #[.bool true, .bool true, .bool false, .bool true]) (by simp [results, Tryd.results22, go_sem]) rfl ⟨rfl, rfl⟩
theorem has_20 (w : World) : Calls Tryd.prog 22 #[.int .i64 20] w fun e w' => e = .returned (.tuple #[.bool true, .bool true, .bool false, .bool true]) ∧ w = w' := by
  go_enter Tryd.func22, Tryd.ntmps22
  go_wp2
  exact bodyPost_ret (v := .tuple #[.bool true, .bool true, .bool false, .bool true]) (by simp [results, Tryd.results22, go_sem]) rfl ⟨rfl, rfl⟩
theorem has_21 (w : World) : Calls Tryd.prog 22 #[.int .i64 21] w fun e w' => e = .returned (.tuple #[.bool true, .bool true, .bool false, .bool true]) ∧ w = w' := by
  go_enter Tryd.func22, Tryd.ntmps22
  go_wp2
  exact bodyPost_ret (v := .tuple #[.bool true, .bool true, .bool false, .bool true]) (by simp [results, Tryd.results22, go_sem]) rfl ⟨rfl, rfl⟩
theorem has_22 (w : World) : Calls Tryd.prog 22 #[.int .i64 22] w fun e w' => e = .returned (.tuple #[.bool true, .bool false, .bool false, .bool true]) ∧ w = w' := by
  go_enter Tryd.func22, Tryd.ntmps22
  go_wp2
  exact bodyPost_ret (v := .tuple #[.bool true, .bool false, .bool false, .bool true]) (by simp [results, Tryd.results22, go_sem]) rfl ⟨rfl, rfl⟩
theorem has_23 (w : World) : Calls Tryd.prog 22 #[.int .i64 23] w fun e w' => e = .returned (.tuple #[.bool true, .bool true, .bool false, .bool true]) ∧ w = w' := by
  go_enter Tryd.func22, Tryd.ntmps22
  go_wp2
  exact bodyPost_ret (v := .tuple #[.bool true, .bool true, .bool false, .bool true]) (by simp [results, Tryd.results22, go_sem]) rfl ⟨rfl, rfl⟩
theorem has_24 (w : World) : Calls Tryd.prog 22 #[.int .i64 24] w fun e w' => e = .returned (.tuple #[.bool true, .bool true, .bool false, .bool true]) ∧ w = w' := by
  go_enter Tryd.func22, Tryd.ntmps22
  go_wp2
  exact bodyPost_ret (v := .tuple #[.bool true, .bool true, .bool false, .bool true]) (by simp [results, Tryd.results22, go_sem]) rfl ⟨rfl, rfl⟩
theorem has_25 (w : World) : Calls Tryd.prog 22 #[.int .i64 25] w fun e w' => e = .returned (.tuple #[.bool true, .bool true, .bool false, .bool true]) ∧ w = w' := by
  go_enter Tryd.func22, Tryd.ntmps22
  go_wp2
  exact bodyPost_ret (v := .tuple #[.bool true, .bool true, .bool false, .bool true]) (by simp [results, Tryd.results22, go_sem]) rfl ⟨rfl, rfl⟩
theorem has_26 (w : World) : Calls Tryd.prog 22 #[.int .i64 26] w fun e w' => e = .returned (.tuple #[.bool false, .bool true, .bool true, .bool true]) ∧ w = w' := by
  go_enter Tryd.func22, Tryd.ntmps22
  go_wp2
  exact bodyPost_ret (v := .tuple #[.bool false, .bool true, .bool true, .bool true]) (by simp [results, Tryd.results22, go_sem]) rfl ⟨rfl, rfl⟩
theorem has_27 (w : World) : Calls Tryd.prog 22 #[.int .i64 27] w fun e w' => e = .returned (.tuple #[.bool false, .bool true, .bool true, .bool true]) ∧ w = w' := by
  go_enter Tryd.func22, Tryd.ntmps22
  go_wp2
  exact bodyPost_ret (v := .tuple #[.bool false, .bool true, .bool true, .bool true]) (by simp [results, Tryd.results22, go_sem]) rfl ⟨rfl, rfl⟩
theorem has_28 (w : World) : Calls Tryd.prog 22 #[.int .i64 28] w fun e w' => e = .returned (.tuple #[.bool false, .bool true, .bool true, .bool true]) ∧ w = w' := by
  go_enter Tryd.func22, Tryd.ntmps22
  go_wp2
  exact bodyPost_ret (v := .tuple #[.bool false, .bool true, .bool true, .bool true]) (by simp [results, Tryd.results22, go_sem]) rfl ⟨rfl, rfl⟩
theorem has_29 (w : World) : Calls Tryd.prog 22 #[.int .i64 29] w fun e w' => e = .returned (.tuple #[.bool false, .bool true, .bool true, .bool true]) ∧ w = w' := by
  go_enter Tryd.func22, Tryd.ntmps22
  go_wp2
  exact bodyPost_ret (v := .tuple #[.bool false, .bool true, .bool true, .bool true]) (by simp [results, Tryd.results22, go_sem]) rfl ⟨rfl, rfl⟩
theorem has_30 (w : World) : Calls Tryd.prog 22 #[.int .i64 30] w fun e w' => e = .returned (.tuple #[.bool false, .bool true, .bool true, .bool true]) ∧ w = w' := by
  go_enter Tryd.func22, Tryd.ntmps22
  go_wp2
  exact bodyPost_ret (v := .tuple #[.bool false, .bool true, .bool true, .bool true]) (by simp [results, Tryd.results22, go_sem]) rfl ⟨rfl, rfl⟩
theorem has_31 (w : World) : Calls Tryd.prog 22 #[.int .i64 31] w fun e w' => e = .returned (.tuple #[.bool false, .bool true, .bool true, .bool true]) ∧ w = w' := by
  go_enter Tryd.func22, Tryd.ntmps22
  go_wp2
  exact bodyPost_ret (v := .tuple #[.bool false, .bool true, .bool true, .bool true]) (by simp [results, Tryd.results22, go_sem]) rfl ⟨rfl, rfl⟩
theorem has_32 (w : World) : Calls Tryd.prog 22 #[.int .i64 32] w fun e w' => e = .returned (.tuple #[.bool true, .bool false, .bool false, .bool true]) ∧ w = w' := by
  go_enter Tryd.func22, Tryd.ntmps22
  go_wp2
  exact bodyPost_ret (v := .tuple #[.bool true, .bool false, .bool false, .bool true]) (by simp [results, Tryd.results22, go_sem]) rfl ⟨rfl, rfl⟩
theorem has_33 (w : World) : Calls Tryd.prog 22 #[.int .i64 33] w fun e w' => e = .returned (.tuple #[.bool true, .bool true, .bool false, .bool true]) ∧ w = w' := by
  go_enter Tryd.func22, Tryd.ntmps22
  go_wp2
  exact bodyPost_ret (v := .tuple #[.bool true, .bool true, .bool false, .bool true]) (by simp [results, Tryd.results22, go_sem]) rfl ⟨rfl, rfl⟩
theorem has_34 (w : World) : Calls Tryd.prog 22 #[.int .i64 34] w fun e w' => e = .returned (.tuple #[.bool false, .bool false, .bool false, .bool false]) ∧ w = w' := by
  go_enter Tryd.func22, Tryd.ntmps22
  go_wp2
  exact bodyPost_ret (v := .tuple #[.bool false, .bool false, .bool false, .bool false]) (by simp [results, Tryd.results22, go_sem]) rfl ⟨rfl, rfl⟩
theorem has_35 (w : World) : Calls Tryd.prog 22 #[.int .i64 35] w fun e w' => e = .returned (.tuple #[.bool false, .bool false, .bool false, .bool false]) ∧ w = w' := by
  go_enter Tryd.func22, Tryd.ntmps22
  go_wp2
  exact bodyPost_ret (v := .tuple #[.bool false, .bool false, .bool false, .bool false]) (by simp [results, Tryd.results22, go_sem]) rfl ⟨rfl, rfl⟩
theorem has_36 (w : World) : Calls Tryd.prog 22 #[.int .i64 36] w fun e w' => e = .returned (.tuple #[.bool false, .bool false, .bool false, .bool false]) ∧ w = w' := by
  go_enter Tryd.func22, Tryd.ntmps22
  go_wp2
  exact bodyPost_ret (v := .tuple #[.bool false, .bool false, .bool false, .bool false]) (by simp [results, Tryd.results22, go_sem]) rfl ⟨rfl, rfl⟩
theorem has_37 (w : World) : Calls Tryd.prog 22 #[.int .i64 37] w fun e w' => e = .returned (.tuple #[.bool true, .bool false, .bool false, .bool true]) ∧ w = w' := by
  go_enter Tryd.func22, Tryd.ntmps22
  go_wp2
  exact bodyPost_ret (v := .tuple #[.bool true, .bool false, .bool false, .bool true]) (by simp [results, Tryd.results22, go_sem]) rfl ⟨rfl, rfl⟩
theorem has_38 (w : World) : Calls Tryd.prog 22 #[.int .i64 38] w fun e w' => e = .returned (.tuple #[.bool false, .bool true, .bool false, .bool true]) ∧ w = w' := by
  go_enter Tryd.func22, Tryd.ntmps22
  go_wp2
  exact bodyPost_ret (v := .tuple #[.bool false, .bool true, .bool false, .bool true]) (by simp [results, Tryd.results22, go_sem]) rfl ⟨rfl, rfl⟩
theorem has_39 (w : World) : Calls Tryd.prog 22 #[.int .i64 39] w fun e w' => e = .returned (.tuple #[.bool false, .bool false, .bool false, .bool false]) ∧ w = w' := by
  go_enter Tryd.func22, Tryd.ntmps22
  go_wp2
  exact bodyPost_ret (v := .tuple #[.bool false, .bool false, .bool false, .bool false]) (by simp [results, Tryd.results22, go_sem]) rfl ⟨rfl, rfl⟩
theorem has_40 (w : World) : Calls Tryd.prog 22 #[.int .i64 40] w fun e w' => e = .returned (.tuple #[.bool false, .bool false, .bool false, .bool false]) ∧ w = w' := by
  go_enter Tryd.func22, Tryd.ntmps22
  go_wp2
  exact bodyPost_ret (v := .tuple #[.bool false, .bool false, .bool false, .bool false]) (by simp [results, Tryd.results22, go_sem]) rfl ⟨rfl, rfl⟩
theorem has_41 (w : World) : Calls Tryd.prog 22 #[.int .i64 41] w fun e w' => e = .returned (.tuple #[.bool false, .bool false, .bool false, .bool false]) ∧ w = w' := by
  go_enter Tryd.func22, Tryd.ntmps22
  go_wp2
  exact bodyPost_ret (v := .tuple #[.bool false, .bool false, .bool false, .bool false]) (by simp [results, Tryd.results22, go_sem]) rfl ⟨rfl, rfl⟩
theorem has_any (o : Nat) (h1 : 1 ≤ o) (h2 : o < 42) (w : World) : Calls Tryd.prog 22 #[.int .i64 o] w fun e w' => e = .returned (.tuple #[.bool (fl o 1), .bool (fl o 2), .bool (fl o 4), .bool (fl o 8)]) ∧ w = w' := by
  rcases (by omega : o = 1 ∨ o = 2 ∨ o = 3 ∨ o = 4 ∨ o = 5 ∨ o = 6 ∨ o = 7 ∨ o = 8 ∨ o = 9 ∨ o = 10 ∨ o = 11 ∨ o = 12 ∨ o = 13 ∨ o = 14 ∨ o = 15 ∨ o = 16 ∨ o = 17 ∨ o = 18 ∨ o = 19 ∨ o = 20 ∨ o = 21 ∨ o = 22 ∨ o = 23 ∨ o = 24 ∨ o = 25 ∨ o = 26 ∨ o = 27 ∨ o = 28 ∨ o = 29 ∨ o = 30 ∨ o = 31 ∨ o = 32 ∨ o = 33 ∨ o = 34 ∨ o = 35 ∨ o = 36 ∨ o = 37 ∨ o = 38 ∨ o = 39 ∨ o = 40 ∨ o = 41) with rfl | rfl | rfl | rfl | rfl | rfl | rfl | rfl | rfl | rfl | rfl | rfl | rfl | rfl | rfl | rfl | rfl | rfl | rfl | rfl | rfl | rfl | rfl | rfl | rfl | rfl | rfl | rfl | rfl | rfl | rfl | rfl | rfl | rfl | rfl | rfl | rfl | rfl | rfl | rfl | rfl
  · exact (has_1 w).mono fun e w' h => ⟨h.1.trans (ret_4 (by decide +kernel) (by decide +kernel) (by decide +kernel) (by decide +kernel)), h.2⟩
  · exact (has_2 w).mono fun e w' h => ⟨h.1.trans (ret_4 (by decide +kernel) (by decide +kernel) (by decide +kernel) (by decide +kernel)), h.2⟩
  · exact (has_3 w).mono fun e w' h => ⟨h.1.trans (ret_4 (by decide +kernel) (by decide +kernel) (by decide +kernel) (by decide +kernel)), h.2⟩
  · exact (has_4 w).mono fun e w' h => ⟨h.1.trans (ret_4 (by decide +kernel) (by decide +kernel) (by decide +kernel) (by decide +kernel)), h.2⟩
  · exact (has_5 w).mono fun e w' h => ⟨h.1.trans (ret_4 (by decide +kernel) (by decide +kernel) (by decide +kernel) (by decide +kernel)), h.2⟩
  · exact (has_6 w).mono fun e w' h => ⟨h.1.trans (ret_4 (by decide +kernel) (by decide +kernel) (by decide +kernel) (by decide +kernel)), h.2⟩
  · exact (has_7 w).mono fun e w' h => ⟨h.1.trans (ret_4 (by decide +kernel) (by decide +kernel) (by decide +kernel) (by decide +kernel)), h.2⟩
  · exact (has_8 w).mono fun e w' h => ⟨h.1.trans (ret_4 (by decide +kernel) (by decide +kernel) (by decide +kernel) (by decide +kernel)), h.2⟩
  · exact (has_9 w).mono fun e w' h => ⟨h.1.trans (ret_4 (by decide +kernel) (by decide +kernel) (by decide +kernel) (by decide +kernel)), h.2⟩
  · exact (has_10 w).mono fun e w' h => ⟨h.1.trans (ret_4 (by decide +kernel) (by decide +kernel) (by decide +kernel) (by decide +kernel)), h.2⟩
  · exact (has_11 w).mono fun e w' h => ⟨h.1.trans (ret_4 (by decide +kernel) (by decide +kernel) (by decide +kernel) (by decide +kernel)), h.2⟩
  · exact (has_12 w).mono fun e w' h => ⟨h.1.trans (ret_4 (by decide +kernel) (by decide +kernel) (by decide +kernel) (by decide +kernel)), h.2⟩
  · exact (has_13 w).mono fun e w' h => ⟨h.1.trans (ret_4 (by decide +kernel) (by decide +kernel) (by decide +kernel) (by decide +kernel)), h.2⟩
  · exact (has_14 w).mono fun e w' h => ⟨h.1.trans (ret_4 (by decide +kernel) (by decide +kernel) (by decide +kernel) (by decide +kernel)), h.2⟩
  · exact (has_15 w).mono fun e w' h => ⟨h.1.trans (ret_4 (by decide +kernel) (by decide +kernel) (by decide +kernel) (by decide +kernel)), h.2⟩
  · exact (has_16 w).mono fun e w' h => ⟨h.1.trans (ret_4 (by decide +kernel) (by decide +kernel) (by decide +kernel) (by decide +kernel)), h.2⟩
  · exact (has_17 w).mono fun e w' h => ⟨h.1.trans (ret_4 (by decide +kernel) (by decide +kernel) (by decide +kernel) (by decide +kernel)), h.2⟩
  · exact (has_18 w).mono fun e w' h => ⟨h.1.trans (ret_4 (by decide +kernel) (by decide +kernel) (by decide +kernel) (by decide +kernel)), h.2⟩
  · exact (has_19 w).mono fun e w' h => ⟨h.1.trans (ret_4 (by decide +kernel) (by decide +kernel) (by decide +kernel) (by decide +kernel)), h.2⟩
  · exact (has_20 w).mono fun e w' h => ⟨h.1.trans (ret_4 (by decide +kernel) (by decide +kernel) (by decide +kernel) (by decide +kernel)), h.2⟩
  · exact (has_21 w).mono fun e w' h => ⟨h.1.trans (ret_4 (by decide +kernel) (by decide +kernel) (by decide +kernel) (by decide +kernel)), h.2⟩
  · exact (has_22 w).mono fun e w' h => ⟨h.1.trans (ret_4 (by decide +kernel) (by decide +kernel) (by decide +kernel) (by decide +kernel)), h.2⟩
  · exact (has_23 w).mono fun e w' h => ⟨h.1.trans (ret_4 (by decide +kernel) (by decide +kernel) (by decide +kernel) (by decide +kernel)), h.2⟩
  · exact (has_24 w).mono fun e w' h => ⟨h.1.trans (ret_4 (by decide +kernel) (by decide +kernel) (by decide +kernel) (by decide +kernel)), h.2⟩
  · exact (has_25 w).mono fun e w' h => ⟨h.1.trans (ret_4 (by decide +kernel) (by decide +kernel) (by decide +kernel) (by decide +kernel)), h.2⟩
  · exact (has_26 w).mono fun e w' h => ⟨h.1.trans (ret_4 (by decide +kernel) (by decide +kernel) (by decide +kernel) (by decide +kernel)), h.2⟩
  · exact (has_27 w).mono fun e w' h => ⟨h.1.trans (ret_4 (by decide +kernel) (by decide +kernel) (by decide +kernel) (by decide +kernel)), h.2⟩
  · exact (has_28 w).mono fun e w' h => ⟨h.1.trans (ret_4 (by decide +kernel) (by decide +kernel) (by decide +kernel) (by decide +kernel)), h.2⟩
  · exact (has_29 w).mono fun e w' h => ⟨h.1.trans (ret_4 (by decide +kernel) (by decide +kernel) (by decide +kernel) (by decide +kernel)), h.2⟩
  · exact (has_30 w).mono fun e w' h => ⟨h.1.trans (ret_4 (by decide +kernel) (by decide +kernel) (by decide +kernel) (by decide +kernel)), h.2⟩
  · exact (has_31 w).mono fun e w' h => ⟨h.1.trans (ret_4 (by decide +kernel) (by decide +kernel) (by decide +kernel) (by decide +kernel)), h.2⟩
  · exact (has_32 w).mono fun e w' h => ⟨h.1.trans (ret_4 (by decide +kernel) (by decide +kernel) (by decide +kernel) (by decide +kernel)), h.2⟩
  · exact (has_33 w).mono fun e w' h => ⟨h.1.trans (ret_4 (by decide +kernel) (by decide +kernel) (by decide +kernel) (by decide +kernel)), h.2⟩
  · exact (has_34 w).mono fun e w' h => ⟨h.1.trans (ret_4 (by decide +kernel) (by decide +kernel) (by decide +kernel) (by decide +kernel)), h.2⟩
  · exact (has_35 w).mono fun e w' h => ⟨h.1.trans (ret_4 (by decide +kernel) (by decide +kernel) (by decide +kernel) (by decide +kernel)), h.2⟩
  · exact (has_36 w).mono fun e w' h => ⟨h.1.trans (ret_4 (by decide +kernel) (by decide +kernel) (by decide +kernel) (by decide +kernel)), h.2⟩
  · exact (has_37 w).mono fun e w' h => ⟨h.1.trans (ret_4 (by decide +kernel) (by decide +kernel) (by decide +kernel) (by decide +kernel)), h.2⟩
  · exact (has_38 w).mono fun e w' h => ⟨h.1.trans (ret_4 (by decide +kernel) (by decide +kernel) (by decide +kernel) (by decide +kernel)), h.2⟩
  · exact (has_39 w).mono fun e w' h => ⟨h.1.trans (ret_4 (by decide +kernel) (by decide +kernel) (by decide +kernel) (by decide +kernel)), h.2⟩
  · exact (has_40 w).mono fun e w' h => ⟨h.1.trans (ret_4 (by decide +kernel) (by decide +kernel) (by decide +kernel) (by decide +kernel)), h.2⟩
  · exact (has_41 w).mono fun e w' h => ⟨h.1.trans (ret_4 (by decide +kernel) (by decide +kernel) (by decide +kernel) (by decide +kernel)), h.2⟩

theorem reg_any (may : Bool) (n : Int) (w : World) : Calls Tryd.prog 23 #[.bool may, .int .i64 n] w fun e w' => e = .returned (.bool (regB may n)) ∧ w = w' := by
  by_cases h0 : n = 0
  · subst h0
    go_enter Tryd.func23, Tryd.ntmps23
    go_wp2
    go_ret
    exact ⟨ret_bool (by cases may <;> simp [regB]), rfl⟩
  · have g0 : (n == 0) = false := by simpa using h0
    cases may
    · go_enter Tryd.func23, Tryd.ntmps23
      go_wp2
      go_ret
      exact ⟨ret_bool (by simp [regB, h0]), rfl⟩
    · by_cases h1 : 0 < n
      · have g1 : decide (0 < n) = true := by simpa using h1
        go_enter Tryd.func23, Tryd.ntmps23
        go_wp2
        go_ret
        exact ⟨ret_bool (by rw [Bool.eq_iff_iff]; simp [regB]; omega), rfl⟩
      · have g1 : decide (0 < n) = false := by simpa using h1
        go_enter Tryd.func23, Tryd.ntmps23
        go_wp2
        go_ret
        exact ⟨ret_bool (by rw [Bool.eq_iff_iff]; simp [regB]; omega), rfl⟩

set_option maxHeartbeats 4000000 in
theorem Valid_ref (op d a b n : Int) (w : World) : Calls Tryd.prog 15 #[(.agg #[.int .i64 (op), .int .i64 (d), .int .i64 (a), .int .i64 (b), .int .i64 (n)])] w fun e w' => e = .returned (.bool (validB op d a b n)) ∧ Below w.heap.size w w' := by
  cases hr : realB op
  · have hE : validB op d a b n = false := by simp [validB, hr]
    have HE := Lib.hid hE; clear hE
    by_cases h1 : op < 1
    · go_enter Tryd.func15, Tryd.ntmps15
      go_wp2
      go_ret
      exact ⟨ret_bool (by rw [HE.out]), (Below.refl _ _).alloc (Nat.le_refl _) _⟩
    · have h2 : 41 < op := by simp [realB] at hr; omega
      go_enter Tryd.func15, Tryd.ntmps15
      go_wp2
      go_ret
      exact ⟨ret_bool (by rw [HE.out]), (Below.refl _ _).alloc (Nat.le_refl _) _⟩
  · obtain ⟨o, rfl⟩ : ∃ o : Nat, op = o := ⟨op.toNat, by simp [realB] at hr; omega⟩
    have ho : 1 ≤ o ∧ o < 42 := by simp [realB] at hr; omega
    obtain ⟨o1, o2⟩ := ho
    have HE : Hid (validB o d a b n = (regB (fl o 1) d && (regB (fl o 2) a && (regB (fl o 4) b && immB o n)))) := by simp [Hid, validB, hr, fl]
    have HI : Hid (immB o n = if o = 18 ∨ o = 19 ∨ o = 20 then decide (0 ≤ n) && decide (n ≤ 31) else if o = 37 ∨ o = 38 then decide (0 ≤ n) && decide (n < 9) else if fl o 8 then decide (-8192 ≤ n) && decide (n ≤ 8191) else n == 0) := by
      rw [Hid, immB]
      have : (bits BinOp.and IntKind.i64 (hasI o) 8 == 0) = !fl o 8 := by simp [fl, bne]
      rw [this]
      cases fl o 8 <;> rfl
    have H8 := Lib.hid (fl_8 ⟨o, o2⟩)
    clear hr
    cases h1 : regB (fl o 1) d
    · go_enter Tryd.func15, Tryd.ntmps15
      go_wp2_with (first | (go_at_call 22; refine (has_any o (by omega) (by omega) _).mono ?_; rintro e w' ⟨rfl, rfl⟩) | (go_at_call 23; refine (reg_any _ _ _).mono ?_; rintro e w' ⟨rfl, rfl⟩))
      go_ret
      exact ⟨ret_bool (by rw [HE.out, h1]; rfl), (Below.refl _ _).alloc (Nat.le_refl _) _⟩
    · cases h2 : regB (fl o 2) a
      · go_enter Tryd.func15, Tryd.ntmps15
        go_wp2_with (first | (go_at_call 22; refine (has_any o (by omega) (by omega) _).mono ?_; rintro e w' ⟨rfl, rfl⟩) | (go_at_call 23; refine (reg_any _ _ _).mono ?_; rintro e w' ⟨rfl, rfl⟩))
        go_ret
        exact ⟨ret_bool (by rw [HE.out, h1, h2]; rfl), (Below.refl _ _).alloc (Nat.le_refl _) _⟩
      · cases h3 : regB (fl o 4) b
        · go_enter Tryd.func15, Tryd.ntmps15
          go_wp2_with (first | (go_at_call 22; refine (has_any o (by omega) (by omega) _).mono ?_; rintro e w' ⟨rfl, rfl⟩) | (go_at_call 23; refine (reg_any _ _ _).mono ?_; rintro e w' ⟨rfl, rfl⟩))
          go_ret
          exact ⟨ret_bool (by rw [HE.out, h1, h2, h3]; rfl), (Below.refl _ _).alloc (Nat.le_refl _) _⟩
        · have HV : Hid (validB o d a b n = immB o n) := by rw [Hid, HE.out, h1, h2, h3]; rfl
          clear HE
          cases h8 : fl o 8
          · have hs : ¬ (o = 18 ∨ o = 19 ∨ o = 20) ∧ ¬ (o = 37 ∨ o = 38) := by
              have := H8.out
              simp only at this
              rw [h8] at this
              simp at this
              omega
            have g1 : ((o : Int) == 18) = false := by simp; omega
            have g2 : ((o : Int) == 19) = false := by simp; omega
            have g3 : ((o : Int) == 20) = false := by simp; omega
            have g4 : ((o : Int) == 37) = false := by simp; omega
            have g5 : ((o : Int) == 38) = false := by simp; omega
            have HN : Hid (immB o n = (n == 0)) := by rw [Hid, HI.out, if_neg hs.1, if_neg hs.2, h8]; rfl
            clear hs
            by_cases hn : n = 0
            · subst hn
              go_enter Tryd.func15, Tryd.ntmps15
              go_wp2_with (first | (go_at_call 22; refine (has_any o (by omega) (by omega) _).mono ?_; rintro e w' ⟨rfl, rfl⟩) | (go_at_call 23; refine (reg_any _ _ _).mono ?_; rintro e w' ⟨rfl, rfl⟩))
              go_ret
              exact ⟨ret_bool (by rw [HV.out, HN.out]; rfl), (Below.refl _ _).alloc (Nat.le_refl _) _⟩
            · have hn2 : (n != 0) = true := by simpa using hn
              go_enter Tryd.func15, Tryd.ntmps15
              go_wp2_with (first | (go_at_call 22; refine (has_any o (by omega) (by omega) _).mono ?_; rintro e w' ⟨rfl, rfl⟩) | (go_at_call 23; refine (reg_any _ _ _).mono ?_; rintro e w' ⟨rfl, rfl⟩))
              go_ret
              exact ⟨ret_bool (by rw [HV.out, HN.out]; simpa using hn), (Below.refl _ _).alloc (Nat.le_refl _) _⟩
          · by_cases hs : o = 18 ∨ o = 19 ∨ o = 20
            · have HN : Hid (immB o n = (decide (0 ≤ n) && decide (n ≤ 31))) := by rw [Hid, HI.out, if_pos hs]
              by_cases hn : 0 ≤ n
              all_goals
                have hn2 : decide (0 ≤ n) = _ := (by first | exact decide_eq_true hn | exact decide_eq_false hn)
                rcases hs with rfl | rfl | rfl
                all_goals
                  go_enter Tryd.func15, Tryd.ntmps15
                  go_wp2_with (first | (go_at_call 22; refine (has_any _ (by omega) (by omega) _).mono ?_; rintro e w' ⟨rfl, rfl⟩) | (go_at_call 23; refine (reg_any _ _ _).mono ?_; rintro e w' ⟨rfl, rfl⟩))
                  go_ret
                  exact ⟨ret_bool (by rw [HV.out, HN.out, hn2]; rfl), (Below.refl _ _).alloc (Nat.le_refl _) _⟩
            · by_cases ht : o = 37 ∨ o = 38
              · have HN : Hid (immB o n = (decide (0 ≤ n) && decide (n < 9))) := by rw [Hid, HI.out, if_neg hs, if_pos ht]
                by_cases hn : 0 ≤ n
                all_goals
                  have hn2 : decide (0 ≤ n) = _ := (by first | exact decide_eq_true hn | exact decide_eq_false hn)
                  rcases ht with rfl | rfl
                  all_goals
                    go_enter Tryd.func15, Tryd.ntmps15
                    go_wp2_with (first | (go_at_call 22; refine (has_any _ (by omega) (by omega) _).mono ?_; rintro e w' ⟨rfl, rfl⟩) | (go_at_call 23; refine (reg_any _ _ _).mono ?_; rintro e w' ⟨rfl, rfl⟩))
                    go_ret
                    exact ⟨ret_bool (by rw [HV.out, HN.out, hn2]; rfl), (Below.refl _ _).alloc (Nat.le_refl _) _⟩
              · have HN : Hid (immB o n = (decide (-8192 ≤ n) && decide (n ≤ 8191))) := by rw [Hid, HI.out, if_neg hs, if_neg ht, h8]; rfl
                have g1 : ((o : Int) == 18) = false := by simp; omega
                have g2 : ((o : Int) == 19) = false := by simp; omega
                have g3 : ((o : Int) == 20) = false := by simp; omega
                have g4 : ((o : Int) == 37) = false := by simp; omega
                have g5 : ((o : Int) == 38) = false := by simp; omega
                clear hs ht
                by_cases hn : -8192 ≤ n
                all_goals
                  have hn2 : decide (-8192 ≤ n) = _ := (by first | exact decide_eq_true hn | exact decide_eq_false hn)
                  go_enter Tryd.func15, Tryd.ntmps15
                  go_wp2_with (first | (go_at_call 22; refine (has_any o (by omega) (by omega) _).mono ?_; rintro e w' ⟨rfl, rfl⟩) | (go_at_call 23; refine (reg_any _ _ _).mono ?_; rintro e w' ⟨rfl, rfl⟩))
                  go_ret
                  exact ⟨ret_bool (by rw [HV.out, HN.out, hn2]; rfl), (Below.refl _ _).alloc (Nat.le_refl _) _⟩
end Go.Proofs.YtjphehncpgekfaaDoor
