/- The law RegsPlays. -/
import Derived.Test.YtjphehncpgekfaaRegsRef
import Derived.Deep.RegionHeld3
namespace Go.Proofs.Ytjphehncpgekfaa
open Go.RowKit
set_option maxHeartbeats 400000
set_option maxRecDepth 100000

theorem eqIn_self (R : List Int) (h : R.length = 16) (w : World) : Sem.run Try.prog (Op.equalIn 10000 30 (.agg (R.map (Value.int .u32)).toArray) (.agg (R.map (Value.int .u32)).toArray)) w = .ok true w := by
  have e := run_equalIn_array_int w 9998 R R Try.underlying30 Try.underlying29 info_u32 h h
  simpa using e
theorem und_arr : Try.prog.underlying 30 = some (.array 16 29) := Try.underlying30
set_option maxHeartbeats 4000000 in
theorem plays_walk (v0 v1 v2 : Value) (ks is vs : List Int) (w : World) (h0 : RowI w .u8 v0 ks) (hk : ∀ x ∈ ks, 0 ≤ x ∧ x < 256) (h1 : RowI w .i64 v1 is) (h2 : RowI w .u32 v2 vs) :
    Calls Try.prog 10 #[v0, v1, v2] w fun e w' => e = .returned (.bool true) ∧ Below w.heap.size w w' := by
  obtain ⟨a0, c0, rfl⟩ := h0.form
  obtain ⟨a1, c1, rfl⟩ := h1.form
  obtain ⟨a2, c2, rfl⟩ := h2.form
  have hl0 : ks.length ≤ 9223372036854775807 := by obtain ⟨_, _, e, q1, q2, _⟩ := h0; unfold maxLen at q2; omega
  have hl1 : is.length ≤ 9223372036854775807 := by obtain ⟨_, _, e, q1, q2, _⟩ := h1; unfold maxLen at q2; omega
  have hl2 : vs.length ≤ 9223372036854775807 := by obtain ⟨_, _, e, q1, q2, _⟩ := h2; unfold maxLen at q2; omega
  have H0 := Lib.hid h0; have H1 := Lib.hid h1; have H2 := Lib.hid h2; have HK := Lib.hid hk
  clear h0 h1 h2 hk
  go_enter Try.func10, Try.ntmps10
  go_wp2_with fail
  refine (new_any w).mono ?_; rintro e w1 ⟨rfl, hn, hb1, hs1⟩
  have HR : Hid (RefAt (w1.alloc (.cells (refCells (List.replicate 16 0) 0) 68)) w1.heap.size (List.replicate 16 0) 0) := ⟨rfl, new_block w1 _ _ rfl⟩
  have HB : Hid (Below w.heap.size w (w1.alloc (.cells (refCells (List.replicate 16 0) 0) 68))) := hb1.alloc (by omega) _
  have HF : Hid (FileAt (w1.alloc (.cells (refCells (List.replicate 16 0) 0) 68)) w.heap.size (List.replicate 16 0) true 0) := hn.below ((Below.refl _ _).alloc (Nat.le_refl _) _)
  have hlt1 : w.heap.size < w1.heap.size := by omega
  clear hn hb1 hs1
  go_wp2_with fail
  go_loopw [8, 9] (fun g k wr => ∃ (n bg : Nat) (r : List Int) (pc : Int), n ≤ ks.length ∧ n ≤ is.length ∧ n ≤ vs.length ∧ n ≤ 100 ∧ k = .int .i64 n ∧ g = .pointer (some ⟨bg, 0, none⟩) ∧ w.heap.size < bg ∧ FileAt wr w.heap.size r true pc ∧ RefAt wr bg r pc ∧ Below w.heap.size w wr) (fun _ k _ => 100 - (intOf k).toNat)
  case atStart => exact ⟨0, w1.heap.size, List.replicate 16 0, 0, by omega, by omega, by omega, by omega, rfl, rfl, hlt1, HF.out, HR.out, HB.out⟩
  case round =>
    clear HF HR HB hlt1
    obtain ⟨n, bg, r, pc, hn0, hn1, hn2, hn3, rfl, rfl, hbg, hf, hr, hb⟩ := hrel
    have HF := Lib.hid hf; have HR := Lib.hid hr; have HB := Lib.hid hb
    clear hf hr hb
    by_cases g0 : n < ks.length
    · by_cases g1 : n < is.length
      · by_cases g2 : n < vs.length
        · by_cases g3 : n < 100
          · have d0 : decide ((n : Int) < ks.length) = true := by simp; omega
            have d1 : decide ((n : Int) < is.length) = true := by simp; omega
            have d2 : decide ((n : Int) < vs.length) = true := by simp; omega
            obtain ⟨b0, o0, hb0, k0⟩ := (by obtain ⟨_, _, e, _, _, q⟩ := H0.out; injection e with e1 e2 e3; subst e1; exact q (by intro h; simp [h] at g0) : ∃ b off, a0 = some ⟨b, off, none⟩ ∧ ∀ i (h : i < ks.length), w.cell? ⟨b, off + i, none⟩ = some (.int .u8 ks[i]))
            obtain ⟨b1, o1, hb1', k1⟩ := (by obtain ⟨_, _, e, _, _, q⟩ := H1.out; injection e with e1 e2 e3; subst e1; exact q (by intro h; simp [h] at g1) : ∃ b off, a1 = some ⟨b, off, none⟩ ∧ ∀ i (h : i < is.length), w.cell? ⟨b, off + i, none⟩ = some (.int .i64 is[i]))
            obtain ⟨b2, o2, hb2', k2⟩ := (by obtain ⟨_, _, e, _, _, q⟩ := H2.out; injection e with e1 e2 e3; subst e1; exact q (by intro h; simp [h] at g2) : ∃ b off, a2 = some ⟨b, off, none⟩ ∧ ∀ i (h : i < vs.length), w.cell? ⟨b, off + i, none⟩ = some (.int .u32 vs[i]))
            subst hb0 hb1' hb2'
            have q0 := k0 n g0; have q1 := k1 n g1; have q2 := k2 n g2
            have hx := HK.out ks[n] (List.getElem_mem g0)
            clear k0 k1 k2
            generalize ks[n] = x at q0 hx
            generalize is[n] = y at q1
            generalize vs[n] = z at q2
            have Q0 := Lib.hid q0; have Q1 := Lib.hid q1; have Q2 := Lib.hid q2
            have L0 := Lib.hid (World.block_lt_of_cell? w ⟨b0, o0 + n, none⟩ q0)
            have L1 := Lib.hid (World.block_lt_of_cell? w ⟨b1, o1 + n, none⟩ q1)
            have L2 := Lib.hid (World.block_lt_of_cell? w ⟨b2, o2 + n, none⟩ q2)
            clear q0 q1 q2
            have cx : wr.cell? ⟨b0, o0 + n, none⟩ = some (.int .u8 x) := (HB.out.cell (p := ⟨b0, o0 + n, none⟩) L0.out).trans Q0.out
            have cy : wr.cell? ⟨b1, o1 + n, none⟩ = some (.int .i64 y) := (HB.out.cell (p := ⟨b1, o1 + n, none⟩) L1.out).trans Q1.out
            have cz : wr.cell? ⟨b2, o2 + n, none⟩ = some (.int .u32 z) := (HB.out.cell (p := ⟨b2, o2 + n, none⟩) L2.out).trans Q2.out
            by_cases x4 : x % 6 = 4
            · have e4 : (x % 6 == 4) = true := by simpa using x4
              clear x4
              have hf4 := HR.out.free 16
              have hp4 := HR.out.pc
              obtain ⟨W1, hW1⟩ : ∃ W1, W1 = wr.setCell ⟨bg, 16, none⟩ (.int .u32 z) := ⟨_, rfl⟩
              have HW1 := Lib.hid hW1
              have HR1 : Hid (RefAt W1 bg r z) := by rw [Hid, hW1]; exact HR.out.setPc z
              have hu1 : Upd bg wr W1 := by rw [hW1]; exact Upd.setCell wr ⟨bg, 16, none⟩ _
              have HF1 : Hid (FileAt W1 w.heap.size r true pc) := HF.out.upd hu1 (by omega)
              have HB1 : Hid (Below w.heap.size w W1) := HB.out.trans (hu1.below (by omega) HB.out.size)
              have cz1 : (wr.setCell ⟨bg, 16, none⟩ (.int .u32 z)).cell? ⟨b2, o2 + n, none⟩ = some (.int .u32 z) := by rw [← hW1]; exact (HB1.out.cell (p := ⟨b2, o2 + n, none⟩) L2.out).trans Q2.out
              clear hW1 hu1
              go_wp2_with fail
              rw [← HW1.out]
              refine (jump_any _ _ _ _ _ HF1.out).mono ?_; rintro e W2 ⟨rfl, hf2, hu2⟩
              have HF2 := Lib.hid hf2
              have HR2 : Hid (RefAt W2 bg r z) := HR1.out.upd hu2 (by omega)
              have HB2 : Hid (Below w.heap.size w W2) := HB1.out.trans (hu2.below (Nat.le_refl _) HB1.out.size)
              clear hf2 hu2 cz1 cx cy cz hf4 hp4
              (
            have cy2 : (W2).cell? ⟨b1, o1 + n, none⟩ = some (.int .i64 y) := (HB2.out.cell (p := ⟨b1, o1 + n, none⟩) L1.out).trans Q1.out
            have n1 : (getV r y != getV r y) = false := by simp
            have n2 : (mayE y != mayE y) = false := by simp
            have n3 : (z != z) = false := by simp
            have hq := eqIn_self r HF2.out.1
            have hu := und_arr
            have hi : (Try.prog.info? 30).map (·.size) = some ((r).map (Value.int .u32)).length := by rw [info_arr]; simp [HF2.out.1]
            go_wp2_with (first | (go_at_call 39; refine (get_any _ _ _ _ _ HF2.out).mono ?_; rintro e w' ⟨rfl, rfl⟩) | (go_at_call 40; refine (rget_any _ _ _ _ _ HR2.out).mono ?_; rintro e w' ⟨rfl, rfl⟩))
            clear cy2
            go_region_held3 (fun w' => FileAt w' w.heap.size r true z ∧ RefAt w' bg r z ∧ Below w.heap.size w w' ∧ w'.rangeAt bg 0 ((r).map (Value.int .u32)) ∧ w'.cell? ⟨bg, 16, none⟩ = some (.int .u32 z))
              (first | (exact ⟨HF2.out, HR2.out, HB2.out.drew, HR2.out.row, HR2.out.pc⟩) | (exact ⟨hHA.1.below hbA, hHA.2.1.below hbA, hHA.2.2.1.trans (hbA.mono hHA.2.2.1.size), (hHA.2.1.below hbA).row, (hHA.2.1.below hbA).pc⟩) | (exact hHA))
              (first | (go_at_call 19; have hHA := ‹_ ∧ RefAt _ _ _ _ ∧ _›; refine (all_any _ _ _ _ _ hHA.1).mono ?_; rintro e wA ⟨rfl, hbA⟩) | (go_at_call 36; have hHA := ‹_ ∧ RefAt _ _ _ _ ∧ _›; refine (pc_any _ _ _ _ _ hHA.1).mono ?_; rintro e wA ⟨rfl, rfl⟩))
            have hE := ‹_ ∧ RefAt _ _ _ _ ∧ _›
            go_wp2
            go_roundw
            case rel => exact ⟨n + 1, bg, r, z, by omega, by omega, by omega, by omega, by go_num, rfl, by assumption, hE.1, hE.2.1, hE.2.2.1⟩
            case measure => simp [intOf]; omega
              )
            · by_cases x5 : x % 6 = 5
              · have e4 : (x % 6 == 4) = false := by simpa using x4
                have e5 : (x % 6 == 5) = true := by simpa using x5
                clear x4 x5 cx cy cz
                obtain ⟨W1, hW1⟩ : ∃ W1, W1 = wr.alloc (.cells (refCells (List.replicate 16 0) 0) 68) := ⟨_, rfl⟩
                have hlt : w.heap.size < wr.heap.size := HF.out.lt
                have HR1 : Hid (RefAt W1 wr.heap.size (List.replicate 16 0) 0) := by rw [Hid, hW1]; exact ⟨rfl, new_block wr _ _ rfl⟩
                have HF1 : Hid (FileAt W1 w.heap.size r true pc) := by rw [Hid, hW1]; exact HF.out.below ((Below.refl _ _).alloc (Nat.le_refl _) _)
                have HB1 : Hid (Below w.heap.size w W1) := by rw [Hid, hW1]; exact HB.out.alloc (by omega) _
                have cx : (wr.alloc (.cells (refCells (List.replicate 16 0) 0) 68)).cell? ⟨b0, o0 + n, none⟩ = some (.int .u8 x) := by rw [← hW1]; exact (HB1.out.cell (p := ⟨b0, o0 + n, none⟩) L0.out).trans Q0.out
                have cx : wr.cell? ⟨b0, o0 + n, none⟩ = some (.int .u8 x) := (HB.out.cell (p := ⟨b0, o0 + n, none⟩) L0.out).trans Q0.out
                go_wp2_with fail
                change Calls _ _ _ (wr.alloc (.cells (refCells (List.replicate 16 0) 0) 68)) _
                rw [← hW1]
                clear hW1
                refine (clear_any _ _ _ _ HF1.out).mono ?_; rintro e W2 ⟨rfl, hf2, hu2⟩
                obtain ⟨R0, hR0⟩ : ∃ x : List Int, x = List.replicate 16 0 := ⟨_, rfl⟩
                obtain ⟨P0, hP0⟩ : ∃ x : Int, x = 0 := ⟨_, rfl⟩
                have HF2 : Hid (FileAt W2 w.heap.size R0 true P0) := by rw [Hid, hR0, hP0]; exact hf2
                have HR2 : Hid (RefAt W2 wr.heap.size R0 P0) := by rw [Hid, hR0, hP0]; exact HR1.out.upd hu2 (by omega)
                have HB2 : Hid (Below w.heap.size w W2) := HB1.out.trans (hu2.below (Nat.le_refl _) HB1.out.size)
                clear hf2 hu2 cx hR0 hP0
                (
            have cy2 : (W2).cell? ⟨b1, o1 + n, none⟩ = some (.int .i64 y) := (HB2.out.cell (p := ⟨b1, o1 + n, none⟩) L1.out).trans Q1.out
            have n1 : (getV R0 y != getV R0 y) = false := by simp
            have n2 : (mayE y != mayE y) = false := by simp
            have n3 : (P0 != P0) = false := by simp
            have hq := eqIn_self R0 HF2.out.1
            have hu := und_arr
            have hi : (Try.prog.info? 30).map (·.size) = some ((R0).map (Value.int .u32)).length := by rw [info_arr]; simp [HF2.out.1]
            go_wp2_with (first | (go_at_call 39; refine (get_any _ _ _ _ _ HF2.out).mono ?_; rintro e w' ⟨rfl, rfl⟩) | (go_at_call 40; refine (rget_any _ _ _ _ _ HR2.out).mono ?_; rintro e w' ⟨rfl, rfl⟩))
            clear cy2
            go_region_held3 (fun w' => FileAt w' w.heap.size R0 true P0 ∧ RefAt w' wr.heap.size R0 P0 ∧ Below w.heap.size w w' ∧ w'.rangeAt wr.heap.size 0 ((R0).map (Value.int .u32)) ∧ w'.cell? ⟨wr.heap.size, 16, none⟩ = some (.int .u32 P0))
              (first | (exact ⟨HF2.out, HR2.out, HB2.out.drew, HR2.out.row, HR2.out.pc⟩) | (exact ⟨hHA.1.below hbA, hHA.2.1.below hbA, hHA.2.2.1.trans (hbA.mono hHA.2.2.1.size), (hHA.2.1.below hbA).row, (hHA.2.1.below hbA).pc⟩) | (exact hHA))
              (first | (go_at_call 19; have hHA := ‹_ ∧ RefAt _ _ _ _ ∧ _›; refine (all_any _ _ _ _ _ hHA.1).mono ?_; rintro e wA ⟨rfl, hbA⟩) | (go_at_call 36; have hHA := ‹_ ∧ RefAt _ _ _ _ ∧ _›; refine (pc_any _ _ _ _ _ hHA.1).mono ?_; rintro e wA ⟨rfl, rfl⟩))
            have hE := ‹_ ∧ RefAt _ _ _ _ ∧ _›
            go_wp2
            go_roundw
            case rel => exact ⟨n + 1, wr.heap.size, R0, P0, by omega, by omega, by omega, by omega, by go_num, rfl, by assumption, hE.1, hE.2.1, hE.2.2.1⟩
            case measure => simp [intOf]; omega
                )
              · have e4 : (x % 6 == 4) = false := by simpa using x4
                have e5 : (x % 6 == 5) = false := by simpa using x5
                clear x4 x5
                have n2 : (mayE y != mayE y) = false := by simp
                go_wp2_with fail
                go_region_held3 (fun w' => w'.cell? ⟨b1, o1 + n, none⟩ = some (.int .i64 y) ∧ w'.cell? ⟨b2, o2 + n, none⟩ = some (.int .u32 z) ∧ Below w.heap.size w w')
                  (first | (exact ⟨cy, cz, HB.out.drew⟩) | (exact ⟨(HB3.out.cell (p := ⟨b1, o1 + n, none⟩) L1.out).trans Q1.out, (HB3.out.cell (p := ⟨b2, o2 + n, none⟩) L2.out).trans Q2.out, HB3.out⟩) | (exact ⟨(HB2.out.cell (p := ⟨b1, o1 + n, none⟩) L1.out).trans Q1.out, (HB2.out.cell (p := ⟨b2, o2 + n, none⟩) L2.out).trans Q2.out, HB2.out⟩))
                  (first | (go_at_call 20; refine (set_any _ _ _ _ _ _ (show FileAt wr.drew _ r true pc from HF.out)).mono ?_; rintro e W2 ⟨rfl, hf2, hu2⟩; have HF2 := Lib.hid hf2; have HR2 : Hid (RefAt W2 bg r pc) := (show RefAt wr.drew bg r pc from HR.out).upd hu2 (by omega); have HB2 : Hid (Below w.heap.size w W2) := HB.out.drew.trans (hu2.below (Nat.le_refl _) HB.out.drew.size); clear hf2 hu2) | (go_at_call 38; refine (rset_any _ _ _ _ _ _ HR2.out).mono ?_; rintro e W3 ⟨rfl, hr3, hu3⟩; have HR3 := Lib.hid hr3; have HF3 : Hid (FileAt W3 w.heap.size (putR r y z) true pc) := HF2.out.upd hu3 (by omega); have HB3 : Hid (Below w.heap.size w W3) := HB2.out.trans (hu3.below (by omega) HB2.out.size); clear hr3 hu3))
                have hE := ‹_ ∧ _ ∧ Below w.heap.size w _›
                clear cx cy cz
                (
            have cy2 : (W3).cell? ⟨b1, o1 + n, none⟩ = some (.int .i64 y) := (HB3.out.cell (p := ⟨b1, o1 + n, none⟩) L1.out).trans Q1.out
            have n1 : (getV (putR r y z) y != getV (putR r y z) y) = false := by simp
            have n2 : (mayE y != mayE y) = false := by simp
            have n3 : (pc != pc) = false := by simp
            have hq := eqIn_self (putR r y z) HF3.out.1
            have hu := und_arr
            have hi : (Try.prog.info? 30).map (·.size) = some (((putR r y z)).map (Value.int .u32)).length := by rw [info_arr]; simp [HF3.out.1]
            go_wp2_with (first | (go_at_call 39; refine (get_any _ _ _ _ _ HF3.out).mono ?_; rintro e w' ⟨rfl, rfl⟩) | (go_at_call 40; refine (rget_any _ _ _ _ _ HR3.out).mono ?_; rintro e w' ⟨rfl, rfl⟩))
            clear cy2
            go_region_held3 (fun w' => FileAt w' w.heap.size (putR r y z) true pc ∧ RefAt w' bg (putR r y z) pc ∧ Below w.heap.size w w' ∧ w'.rangeAt bg 0 (((putR r y z)).map (Value.int .u32)) ∧ w'.cell? ⟨bg, 16, none⟩ = some (.int .u32 pc))
              (first | (exact ⟨HF3.out, HR3.out, HB3.out.drew, HR3.out.row, HR3.out.pc⟩) | (exact ⟨hHA.1.below hbA, hHA.2.1.below hbA, hHA.2.2.1.trans (hbA.mono hHA.2.2.1.size), (hHA.2.1.below hbA).row, (hHA.2.1.below hbA).pc⟩) | (exact hHA))
              (first | (go_at_call 19; have hHA := ‹_ ∧ RefAt _ _ _ _ ∧ _›; refine (all_any _ _ _ _ _ hHA.1).mono ?_; rintro e wA ⟨rfl, hbA⟩) | (go_at_call 36; have hHA := ‹_ ∧ RefAt _ _ _ _ ∧ _›; refine (pc_any _ _ _ _ _ hHA.1).mono ?_; rintro e wA ⟨rfl, rfl⟩))
            have hE := ‹_ ∧ RefAt _ _ _ _ ∧ _›
            go_wp2
            go_roundw
            case rel => exact ⟨n + 1, bg, (putR r y z), pc, by omega, by omega, by omega, by omega, by go_num, rfl, by assumption, hE.1, hE.2.1, hE.2.2.1⟩
            case measure => simp [intOf]; omega
                )
          · have d0 : decide ((n : Int) < ks.length) = true := by simp; omega
            have d1 : decide ((n : Int) < is.length) = true := by simp; omega
            have d2 : decide ((n : Int) < vs.length) = true := by simp; omega
            have d3 : decide ((n : Int) < 100) = false := by simp; omega
            (go_wp2_with fail; refine (awake_any _).mono ?_; rintro e wz ⟨rfl, hbz⟩; go_wp2_with fail; go_ret; exact ⟨rfl, HB.out.trans (hbz.mono HB.out.size)⟩)
        · have d0 : decide ((n : Int) < ks.length) = true := by simp; omega
          have d1 : decide ((n : Int) < is.length) = true := by simp; omega
          have d2 : decide ((n : Int) < vs.length) = false := by simp; omega
          (go_wp2_with fail; refine (awake_any _).mono ?_; rintro e wz ⟨rfl, hbz⟩; go_wp2_with fail; go_ret; exact ⟨rfl, HB.out.trans (hbz.mono HB.out.size)⟩)
      · have d0 : decide ((n : Int) < ks.length) = true := by simp; omega
        have d1 : decide ((n : Int) < is.length) = false := by simp; omega
        (go_wp2_with fail; refine (awake_any _).mono ?_; rintro e wz ⟨rfl, hbz⟩; go_wp2_with fail; go_ret; exact ⟨rfl, HB.out.trans (hbz.mono HB.out.size)⟩)
    · have d0 : decide ((n : Int) < ks.length) = false := by simp; omega
      (go_wp2_with fail; refine (awake_any _).mono ?_; rintro e wz ⟨rfl, hbz⟩; go_wp2_with fail; go_ret; exact ⟨rfl, HB.out.trans (hbz.mono HB.out.size)⟩)
end Go.Proofs.Ytjphehncpgekfaa
