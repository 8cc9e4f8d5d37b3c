/- The walks of IsaTold, IsaPlays. -/
import Derived.Test.YtjphehncpgekfaaDoorIsaLaws
import Derived.Lib.QuietBelow
namespace Go.Proofs.YtjphehncpgekfaaDoor
open Go.RowKit Go.Sort
set_option maxHeartbeats 4000000
set_option maxRecDepth 100000

theorem plays_walk (op d a b n : Int) (y : Nat) (hy : y < 4294967296) (w : World) (ht : Tab w) : Calls Tryd.prog 5 #[(.agg #[.int .i64 (op), .int .i64 (d), .int .i64 (a), .int .i64 (b), .int .i64 (n)]), .int .u32 y] w fun e w' => e = .returned (.bool true) ∧ Below w.heap.size w w' := by
  have HT0 := Lib.hid (alloc_tab ht (.cells #[.int .i64 (op), .int .i64 (d), .int .i64 (a), .int .i64 (b), .int .i64 (n)] 23))
  clear ht
  go_enter Tryd.func5, Tryd.ntmps5
  go_wp2_with fail
  refine (encode_any _ _ _ _ _ _ HT0.out).mono ?_; rintro e w1 ⟨rfl, hb1⟩
  have HK1 := Lib.hid (keepB hb1 (by simp) (new_block w _ _ rfl))
  have i0 := cell_at HK1.out 0 _ rfl; have i1 := cell_at HK1.out 1 _ rfl; have i2 := cell_at HK1.out 2 _ rfl; have i3 := cell_at HK1.out 3 _ rfl; have i4 := cell_at HK1.out 4 _ rfl
  have HT1 := Lib.hid (HT0.out.below hb1)
  have h1 : w.heap.size < w1.heap.size := by have := hb1.size; simp at this; omega
  have HB1 : Hid (Below w.heap.size w w1) := ((Below.refl _ _).alloc (Nat.le_refl _) _).trans (hb1.mono (by simp))
  clear hb1
  go_wp2_with fail
  refine (Encode_ref _ _ _ _ _ _).mono ?_; rintro e w2 ⟨rfl, hb2⟩
  have HT2 := Lib.hid (HT1.out.below hb2)
  have HK2 := Lib.hid (keepB hb2 h1 HK1.out)
  have h2 : w.heap.size < w2.heap.size := by have := hb2.size; omega
  have HB2 := Lib.hid (HB1.out.trans (hb2.mono (by omega)))
  clear i0 i1 i2 i3 i4 hb2
  go_wp2_with fail
  refine (decode_any y hy _ HT2.out).mono ?_; rintro e w3 ⟨he3, hb3⟩
  have HT3 := Lib.hid (HT2.out.below hb3)
  have HK3 := Lib.hid (keepB hb3 h2 HK2.out)
  have h3 : w.heap.size < w3.heap.size := by have := hb3.size; omega
  have HB3 := Lib.hid (HB2.out.trans (hb3.mono (by omega)))
  clear hb3
  obtain ⟨ib, c0, c1, c2, c3, c4, hib⟩ : ∃ ib, ∃ c0 c1 c2 c3 c4 : Int, (if decB y then ((.agg #[.int .i64 ((y : Int) % 64), .int .i64 ((y : Int) / 64 % 16), .int .i64 ((y : Int) / 1024 % 16), .int .i64 ((y : Int) / 16384 % 16), .int .i64 (decN y)]) : Value) else (.agg #[.int .i64 (0), .int .i64 (0), .int .i64 (0), .int .i64 (0), .int .i64 (0)])) = (.agg #[.int .i64 (c0), .int .i64 (c1), .int .i64 (c2), .int .i64 (c3), .int .i64 (c4)]) ∧ ib = decB y := by
    cases decB y
    · exact ⟨false, 0, 0, 0, 0, 0, rfl, rfl⟩
    · exact ⟨true, _, _, _, _, _, rfl, rfl⟩
  have HI := Lib.hid hib; clear hib
  rw [HI.out.1, ← HI.out.2] at he3
  obtain rfl := he3
  go_wp2_with fail
  refine (Decode_ref y hy _).mono ?_; rintro e w4 ⟨he4, hb4⟩
  rw [HI.out.1, ← HI.out.2] at he4
  obtain rfl := he4
  have s4 := hb4.size
  simp only [World.size_alloc] at hb4 s4
  have HT4 := Lib.hid ((alloc_tab HT3.out (.cells #[.int .i64 (c0), .int .i64 (c1), .int .i64 (c2), .int .i64 (c3), .int .i64 (c4)] 23)).below (by simpa using hb4))
  have HK4 := Lib.hid (keepB hb4 (by omega) ((Below.heap_alloc w3 _ _ h3).trans HK3.out))
  have HC4 := Lib.hid (keepB hb4 (by omega) (new_block w3 _ _ rfl))
  have HB4 : Hid (Below w.heap.size w w4) := (HB3.out.alloc (by omega) _).trans (hb4.mono (by omega))
  have i0 := cell_at HK4.out 0 _ rfl; have i1 := cell_at HK4.out 1 _ rfl; have i2 := cell_at HK4.out 2 _ rfl; have i3 := cell_at HK4.out 3 _ rfl; have i4 := cell_at HK4.out 4 _ rfl
  have h4 : w.heap.size < w4.heap.size := by omega
  clear hb4
  have HT5 := Lib.hid (alloc_tab HT4.out (.cells #[.int .i64 (c0), .int .i64 (c1), .int .i64 (c2), .int .i64 (c3), .int .i64 (c4)] 23))
  go_wp2_with fail
  refine (writes_any _ _ _ _ _ _ HT5.out).mono ?_; rintro e w5 ⟨rfl, hb5⟩
  have s5 := hb5.size
  simp only [World.size_alloc] at hb5 s5
  have HT6 := Lib.hid (HT5.out.below (by simpa using hb5))
  have HK5 := Lib.hid (keepB hb5 (by omega) ((Below.heap_alloc w4 _ _ h4).trans HK4.out))
  have HC5 := Lib.hid (keepB hb5 (by omega) ((Below.heap_alloc w4 _ _ (by omega)).trans HC4.out))
  have HD5 := Lib.hid (keepB hb5 (by omega) (new_block w4 _ _ rfl))
  have HB5 : Hid (Below w.heap.size w w5) := (HB4.out.alloc (by omega) _).trans (hb5.mono (by omega))
  clear i0 i1 i2 i3 i4 hb5
  have i0 := cell_at HK5.out 0 _ rfl; have i1 := cell_at HK5.out 1 _ rfl; have i2 := cell_at HK5.out 2 _ rfl; have i3 := cell_at HK5.out 3 _ rfl; have i4 := cell_at HK5.out 4 _ rfl
  go_wp2_with fail
  refine (Writes_ref _ _ _ _ _ _).mono ?_; rintro e w6 ⟨rfl, hb6⟩
  have s6 := hb6.size
  have HT7 := Lib.hid (HT6.out.below hb6)
  have HK6 := Lib.hid (keepB hb6 (by omega) HK5.out)
  have HC6 := Lib.hid (keepB hb6 (by omega) HC5.out)
  have HD6 := Lib.hid (keepB hb6 (by omega) HD5.out)
  have HB6 : Hid (Below w.heap.size w w6) := HB5.out.trans (hb6.mono (by omega))
  clear i0 i1 i2 i3 i4 hb6
  have i0 := cell_at HK6.out 0 _ rfl; have i1 := cell_at HK6.out 1 _ rfl; have i2 := cell_at HK6.out 2 _ rfl; have i3 := cell_at HK6.out 3 _ rfl; have i4 := cell_at HK6.out 4 _ rfl
  have k0 := cell_at HC6.out 0 _ rfl; have k1 := cell_at HC6.out 1 _ rfl; have k2 := cell_at HC6.out 2 _ rfl; have k3 := cell_at HC6.out 3 _ rfl; have k4 := cell_at HC6.out 4 _ rfl
  have j0 := cell_at HD6.out 0 _ rfl; have j1 := cell_at HD6.out 1 _ rfl; have j2 := cell_at HD6.out 2 _ rfl; have j3 := cell_at HD6.out 3 _ rfl; have j4 := cell_at HD6.out 4 _ rfl
  have hib : (ib == ib) = true := by simp
  have hw1 : (wrV op d a b n == wrV op d a b n) = true := by simp
  have hw2 : (wrB op d a b n == wrB op d a b n) = true := by simp
  have he1 : (encW op d a b n == encW op d a b n) = true := by simp
  have he2 : (encE op d a b n == encE op d a b n) = true := by simp
  have hv : (validB op d a b n == validB op d a b n) = true := by simp
  go_wp2_with fail
  have g_i0 := fun d os => cell_regrown i0 d os
  have g_k0 := fun d os => cell_regrown k0 d os; have g_k1 := fun d os => cell_regrown k1 d os; have g_k2 := fun d os => cell_regrown k2 d os; have g_k3 := fun d os => cell_regrown k3 d os; have g_k4 := fun d os => cell_regrown k4 d os
  have g_j0 := fun d os => cell_regrown j0 d os; have g_j1 := fun d os => cell_regrown j1 d os; have g_j2 := fun d os => cell_regrown j2 d os; have g_j3 := fun d os => cell_regrown j3 d os; have g_j4 := fun d os => cell_regrown j4 d os
  have g_i1 := fun d os => cell_regrown i1 d os; have g_i2 := fun d os => cell_regrown i2 d os; have g_i3 := fun d os => cell_regrown i3 d os; have g_i4 := fun d os => cell_regrown i4 d os
  clear i0 i1 i2 i3 i4 k0 k1 k2 k3 k4 j0 j1 j2 j3 j4
  have cV := Lib.hid (fun dd os => (valid_any op d a b n (grow (redrawn w6 dd) os) (HT7.out.below (below_regrown w6 dd os))).regrown_of)
  have cW := Lib.hid (fun dd os => (Valid_ref op d a b n (grow (redrawn w6 dd) os)).regrown_of)
  have cA := Lib.hid (fun dd os => (awake_any (grow (redrawn w6 dd) os) (HT7.out.below (below_regrown w6 dd os))).regrown_of)
  have cK := Lib.hid (fun dd os => (show Calls Tryd.prog 16 #[.int .i64 op] (grow (redrawn w6 dd) os) (fun e w' => e = .returned (.bool (kernB op)) ∧ Below (grow (redrawn w6 dd) os).heap.size (grow (redrawn w6 dd) os) w') from (kernel_any op _).mono fun e w' h => ⟨h.1, h.2 ▸ Below.refl _ _⟩).regrown_of)
  have cL := Lib.hid (fun dd os => (show Calls Tryd.prog 17 #[.int .i64 op] (grow (redrawn w6 dd) os) (fun e w' => e = .returned (.bool (kernB op)) ∧ Below (grow (redrawn w6 dd) os).heap.size (grow (redrawn w6 dd) os) w') from (kernel_ref op _).mono fun e w' h => ⟨h.1, h.2 ▸ Below.refl _ _⟩).regrown_of)
  have hker : (kernB op == kernB op) = true := by simp
  refine wp_region_quiet_below (by kernel_rfl) (by kernel_rfl) ?_
  repeat (quiet_step (first | exact cV.out _ _ | exact cW.out _ _ | exact cA.out _ _ | exact cK.out _ _ | exact cL.out _ _))
  refine wpQuiet_nil ?_
  intro _ hw'
  obtain ⟨⟨dq, osq⟩, hw''⟩ := hw'
  subst hw''
  have hbq := below_regrown w6 dq osq
  generalize grow (redrawn w6 dq) osq = wq at *
  go_wp2
  go_ret
  exact ⟨rfl, HB6.out.trans (hbq.mono (by omega))⟩
end Go.Proofs.YtjphehncpgekfaaDoor
