/- The walk of IsaTold. -/
import Derived.Test.YtjphehncpgekfaaDoorIsaLaws
import Derived.Lib.QuietBelow
namespace Go.Proofs.YtjphehncpgekfaaDoor
open Go.RowKit Go.Sort
set_option maxHeartbeats 1000000
set_option maxRecDepth 100000

theorem told {op d a b n : Int} (h : wrB op d a b n = true) (dd : Int) (h0 : 0 ≤ dd) (h1 : dd ≤ 15) : wrV op d a b n = d ∧ wrB op dd a b n = true ∧ wrV op dd a b n = dd := by
  have hv : wrV op d a b n = d := by simp only [wrV]; rw [wrB] at h; rw [h]; rfl
  have h2 : wrB op dd a b n = true := by
    simp only [wrB, validB, Bool.and_eq_true] at h ⊢
    obtain ⟨⟨g1, g2, g3⟩, g4⟩ := h
    refine ⟨⟨g1, ?_, g3⟩, g4⟩
    rw [g4]
    simp [regB]; omega
  refine ⟨hv, h2, ?_⟩
  simp only [wrV]; rw [wrB] at h2; rw [h2]; rfl
theorem untold {op d a b n : Int} (h : wrB op d a b n = false) : wrV op d a b n = 0 := by
  simp only [wrV]; rw [wrB] at h; rw [h]; rfl
theorem kern_range {op : Int} (h : kernB op = true) : 35 ≤ op ∧ op ≤ 40 := by
  simp [kernB] at h; omega

theorem kern_grown (op : Int) (bk : Bool) (hk : kernB op = bk) (w : World) (dd : Nat) (os : Array Obj) : Calls Tryd.prog 16 #[.int .i64 op] (grow (redrawn w dd) os) (fun e w' => e = .returned (.bool bk) ∧ ∃ p : Regrown, w' = grow (redrawn w p.d) p.os) :=
  Calls.regrown_of ((kernel_any op _).mono fun e w' h => ⟨h.1.trans (by rw [hk]), h.2 ▸ Below.refl _ _⟩)
theorem told_walk (op d a b n : Int) (y : Nat) (hy : y < 256) (w : World) (ht : Tab w) : Calls Tryd.prog 6 #[(.agg #[.int .i64 (op), .int .i64 (d), .int .i64 (a), .int .i64 (b), .int .i64 (n)]), .int .u8 y] w fun e w' => e = .returned (.bool true) ∧ Below w.heap.size w w' := by
  have HT0 := Lib.hid (alloc_tab (alloc_tab ht (.cells #[.int .i64 (op), .int .i64 (d), .int .i64 (a), .int .i64 (b), .int .i64 (n)] 23)) (.cells #[.int .i64 (op), .int .i64 ((y : Int) % 16), .int .i64 (a), .int .i64 (b), .int .i64 (n)] 23))
  clear ht
  cases hb : wrB op d a b n
  · have HU := Lib.hid (untold hb)
    go_enter Tryd.func6, Tryd.ntmps6
    go_wp2_with fail
    refine (writes_any _ _ _ _ _ _ HT0.out).mono ?_; rw [hb, HU.out]; rintro e w1 ⟨rfl, hb1⟩
    have s1 := hb1.size
    simp only [World.size_alloc] at hb1 s1
    have hkI := keepB hb1 (b := w.heap.size) (by omega) ((Below.heap_alloc _ _ _ (by simp)).trans (new_block w _ _ rfl))
    have hkK := keepB hb1 (b := w.heap.size + 1) (by omega) (new_block (w.alloc _) _ _ (by simp))
    have k0 := cell_at hkK 0 _ rfl; have k1 := cell_at hkK 1 _ rfl; have k2 := cell_at hkK 2 _ rfl; have k3 := cell_at hkK 3 _ rfl; have k4 := cell_at hkK 4 _ rfl
    have HT1 := Lib.hid (HT0.out.below (by simpa using hb1))
    have HKI := Lib.hid hkI; have HKK := Lib.hid hkK
    have HB1 : Hid (Below w.heap.size w w1) := (((Below.refl _ _).alloc (Nat.le_refl _) _).alloc (by simp) _).trans (hb1.mono (by omega))
    clear hkI hkK hb1
    go_wp2_with fail
    refine (writes_any _ _ _ _ _ _ HT1.out).mono ?_; rintro e w2 ⟨rfl, hb2⟩
    have s2 := hb2.size
    have hkI := keepB hb2 (by omega) HKI.out
    have hkK := keepB hb2 (by omega) HKK.out
    clear k0 k1 k2 k3 k4
    have i0 := cell_at hkI 0 _ rfl
    have k0 := cell_at hkK 0 _ rfl
    have HT2 := Lib.hid (HT1.out.below hb2)
    have HB2 : Hid (Below w.heap.size w w2) := HB1.out.trans (hb2.mono (by omega))
    clear hkI hkK hb2
    go_wp2_with fail
    cases hk : kernB op
    · have hker : (false == false) = true := rfl
      have g_i0 := fun dd os => cell_regrown i0 dd os
      have g_k0 := fun dd os => cell_regrown k0 dd os
      have cA := Lib.hid (fun dd os => (awake_any (grow (redrawn w2 dd) os) (HT2.out.below (below_regrown w2 dd os))).regrown_of)
      have cK := Lib.hid (fun dd os => kern_grown op false hk w2 dd os)
      clear i0 k0
      refine wp_region_quiet_below (by kernel_rfl) (by kernel_rfl) ?_
      repeat (go_big_quiet_step (first | (go_at_call 10; exact cA.out _ _) | (go_at_call 16; exact cK.out _ _)))
      refine wpQuiet_nil ?_
      intro _ hw'
      obtain ⟨⟨dq, osq⟩, hw''⟩ := hw'
      subst hw''
      have hbq := below_regrown w2 dq osq
      generalize grow (redrawn w2 dq) osq = wq at *
      go_wp2
      go_ret
      exact ⟨rfl, HB2.out.trans (hbq.mono (by omega))⟩
    · have hker : (true == true) = true := rfl
      obtain ⟨hr1, hr2⟩ := kern_range hk
      have hd1 : decide (35 ≤ op) = true := by simpa using hr1
      have hd2 : decide (op ≤ 40) = true := by simpa using hr2
      have g_i0 := fun dd os => cell_regrown i0 dd os
      have g_k0 := fun dd os => cell_regrown k0 dd os
      have cA := Lib.hid (fun dd os => (awake_any (grow (redrawn w2 dd) os) (HT2.out.below (below_regrown w2 dd os))).regrown_of)
      have cK := Lib.hid (fun dd os => kern_grown op true hk w2 dd os)
      clear i0 k0
      refine wp_region_quiet_below (by kernel_rfl) (by kernel_rfl) ?_
      repeat (go_big_quiet_step (first | (go_at_call 10; exact cA.out _ _) | (go_at_call 16; exact cK.out _ _)))
      refine wpQuiet_nil ?_
      intro _ hw'
      obtain ⟨⟨dq, osq⟩, hw''⟩ := hw'
      subst hw''
      have hbq := below_regrown w2 dq osq
      generalize grow (redrawn w2 dq) osq = wq at *
      go_wp2
      go_ret
      exact ⟨rfl, HB2.out.trans (hbq.mono (by omega))⟩
  · obtain ⟨t1, t2, t3⟩ := told hb ((y : Int) % 16) (by omega) (by omega)
    have H1 := Lib.hid t1; have H2 := Lib.hid t2; have H3 := Lib.hid t3
    clear t1 t2 t3
    go_enter Tryd.func6, Tryd.ntmps6
    go_wp2_with fail
    refine (writes_any _ _ _ _ _ _ HT0.out).mono ?_; rw [hb, H1.out]; rintro e w1 ⟨rfl, hb1⟩
    have s1 := hb1.size
    simp only [World.size_alloc] at hb1 s1
    have hkI := keepB hb1 (b := w.heap.size) (by omega) ((Below.heap_alloc _ _ _ (by simp)).trans (new_block w _ _ rfl))
    have hkK := keepB hb1 (b := w.heap.size + 1) (by omega) (new_block (w.alloc _) _ _ (by simp))
    have k0 := cell_at hkK 0 _ rfl; have k1 := cell_at hkK 1 _ rfl; have k2 := cell_at hkK 2 _ rfl; have k3 := cell_at hkK 3 _ rfl; have k4 := cell_at hkK 4 _ rfl
    have HT1 := Lib.hid (HT0.out.below (by simpa using hb1))
    have HKI := Lib.hid hkI; have HKK := Lib.hid hkK
    have HB1 : Hid (Below w.heap.size w w1) := (((Below.refl _ _).alloc (Nat.le_refl _) _).alloc (by simp) _).trans (hb1.mono (by omega))
    clear hkI hkK hb1
    go_wp2_with fail
    refine (writes_any _ _ _ _ _ _ HT1.out).mono ?_; rw [H2.out, H3.out]; rintro e w2 ⟨rfl, hb2⟩
    have s2 := hb2.size
    have hkI := keepB hb2 (by omega) HKI.out
    have hkK := keepB hb2 (by omega) HKK.out
    clear k0 k1 k2 k3 k4
    have i0 := cell_at hkI 0 _ rfl; have i1 := cell_at hkI 1 _ rfl
    have k0 := cell_at hkK 0 _ rfl; have k1 := cell_at hkK 1 _ rfl
    have HT2 := Lib.hid (HT1.out.below hb2)
    have HB2 : Hid (Below w.heap.size w w2) := HB1.out.trans (hb2.mono (by omega))
    clear hkI hkK hb2
    have hdd : (d != d) = false := by simp
    have hyy : ((y : Int) % 16 != (y : Int) % 16) = false := by simp
    go_wp2_with fail
    cases hk : kernB op
    · have hker : (false == false) = true := rfl
      have g_i0 := fun dd os => cell_regrown i0 dd os
      have g_k0 := fun dd os => cell_regrown k0 dd os
      have cA := Lib.hid (fun dd os => (awake_any (grow (redrawn w2 dd) os) (HT2.out.below (below_regrown w2 dd os))).regrown_of)
      have cK := Lib.hid (fun dd os => kern_grown op false hk w2 dd os)
      clear i0 k0
      refine wp_region_quiet_below (by kernel_rfl) (by kernel_rfl) ?_
      repeat (go_big_quiet_step (first | (go_at_call 10; exact cA.out _ _) | (go_at_call 16; exact cK.out _ _)))
      refine wpQuiet_nil ?_
      intro _ hw'
      obtain ⟨⟨dq, osq⟩, hw''⟩ := hw'
      subst hw''
      have hbq := below_regrown w2 dq osq
      generalize grow (redrawn w2 dq) osq = wq at *
      go_wp2
      go_ret
      exact ⟨rfl, HB2.out.trans (hbq.mono (by omega))⟩
    · have hker : (true == true) = true := rfl
      obtain ⟨hr1, hr2⟩ := kern_range hk
      have hd1 : decide (35 ≤ op) = true := by simpa using hr1
      have hd2 : decide (op ≤ 40) = true := by simpa using hr2
      have g_i0 := fun dd os => cell_regrown i0 dd os
      have g_k0 := fun dd os => cell_regrown k0 dd os
      have cA := Lib.hid (fun dd os => (awake_any (grow (redrawn w2 dd) os) (HT2.out.below (below_regrown w2 dd os))).regrown_of)
      have cK := Lib.hid (fun dd os => kern_grown op true hk w2 dd os)
      clear i0 k0
      refine wp_region_quiet_below (by kernel_rfl) (by kernel_rfl) ?_
      repeat (go_big_quiet_step (first | (go_at_call 10; exact cA.out _ _) | (go_at_call 16; exact cK.out _ _)))
      refine wpQuiet_nil ?_
      intro _ hw'
      obtain ⟨⟨dq, osq⟩, hw''⟩ := hw'
      subst hw''
      have hbq := below_regrown w2 dq osq
      generalize grow (redrawn w2 dq) osq = wq at *
      go_wp2
      go_ret
      exact ⟨rfl, HB2.out.trans (hbq.mono (by omega))⟩
end Go.Proofs.YtjphehncpgekfaaDoor
