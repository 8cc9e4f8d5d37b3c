/- The law RegsGone. -/
import Derived.Test.YtjphehncpgekfaaRegsLaws
namespace Go.Proofs.Ytjphehncpgekfaa
open Go.RowKit
set_option maxHeartbeats 400000
set_option maxRecDepth 100000

theorem eqIn_zero (w : World) : Sem.run Try.prog (Op.equalIn 10000 30 (.agg ([0, 0, 0, 0, 0, 0, 0, 0, 0, 0, 0, 0, 0, 0, 0, 0].map (Value.int .u32)).toArray) (.agg ([0, 0, 0, 0, 0, 0, 0, 0, 0, 0, 0, 0, 0, 0, 0, 0].map (Value.int .u32)).toArray)) w = .ok true w := by kernel_rfl
theorem gone_walk (v0 v1 : Value) (pc : Int) (is vs : List Int) (w : World) (h0 : RowI w .i64 v0 is) (h1 : RowI w .u32 v1 vs) :
    Calls Try.prog 9 #[v0, v1, .int .u32 pc] w fun e w' => e = .returned (.bool true) ∧ Below w.heap.size w w' := by
  obtain ⟨a0, c0, rfl⟩ := h0.form
  obtain ⟨a1, c1, rfl⟩ := h1.form
  have hl0 : is.length ≤ 9223372036854775807 := by obtain ⟨_, _, e, q1, q2, _⟩ := h0; unfold maxLen at q2; omega
  have hl1 : vs.length ≤ 9223372036854775807 := by obtain ⟨_, _, e, q1, q2, _⟩ := h1; unfold maxLen at q2; omega
  have H0 := Lib.hid h0; have H1 := Lib.hid h1
  clear h0 h1
  go_enter Try.func9, Try.ntmps9
  go_wp2_with fail
  refine (new_any w).mono ?_; rintro e w1 ⟨rfl, hn, hb1, hs1⟩
  go_wp2_with fail
  go_loopw [8] (fun k wr => ∃ (n : Nat) (r : List Int), n ≤ is.length ∧ n ≤ vs.length ∧ n ≤ 100 ∧ k = .int .i64 n ∧ FileAt wr w.heap.size r true 0 ∧ Below w.heap.size w wr) (fun k _ => 100 - (intOf k).toNat)
  case atStart => exact ⟨0, _, by omega, by omega, by omega, rfl, hn, hb1⟩
  case round =>
    obtain ⟨n, r, hn0, hn1, hn2, rfl, hf, hb⟩ := hrel
    have HF := Lib.hid hf
    clear hf hn
    by_cases g0 : n < is.length
    · by_cases g1 : n < vs.length
      · by_cases g2 : n < 100
        · have d0 : decide ((n : Int) < is.length) = true := by simp; omega
          have d1 : decide ((n : Int) < vs.length) = true := by simp; omega
          have HB := Lib.hid hb; clear hb
          obtain ⟨b0, o0, hb0, k0⟩ := (by obtain ⟨_, _, e, _, _, q⟩ := H0.out; injection e with e1 e2 e3; subst e1; exact q (by intro h; simp [h] at g0) : ∃ b off, a0 = some ⟨b, off, none⟩ ∧ ∀ i (h : i < is.length), w.cell? ⟨b, off + i, none⟩ = some (.int .i64 is[i]))
          obtain ⟨b1, o1, hb1', k1⟩ := (by obtain ⟨_, _, e, _, _, q⟩ := H1.out; injection e with e1 e2 e3; subst e1; exact q (by intro h; simp [h] at g1) : ∃ b off, a1 = some ⟨b, off, none⟩ ∧ ∀ i (h : i < vs.length), w.cell? ⟨b, off + i, none⟩ = some (.int .u32 vs[i]))
          subst hb0 hb1'
          have q0 := k0 n g0; have q1 := k1 n g1
          clear k0 k1
          generalize is[n] = x at q0
          generalize vs[n] = y at q1
          have L0 := World.block_lt_of_cell? w ⟨b0, o0 + n, none⟩ q0
          have L1 := World.block_lt_of_cell? w ⟨b1, o1 + n, none⟩ q1
          have c0 : wr.cell? ⟨b0, o0 + n, none⟩ = some (.int .i64 x) := (HB.out.cell (p := ⟨b0, o0 + n, none⟩) L0).trans q0
          have c1 : wr.cell? ⟨b1, o1 + n, none⟩ = some (.int .u32 y) := (HB.out.cell (p := ⟨b1, o1 + n, none⟩) L1).trans q1
          clear q0 q1 L0 L1
          go_wp2_with fail
          refine wp_region_still_tail 9 (by kernel_rfl) (by kernel_rfl) ?_; simp only [List.take_succ_cons, List.take_zero, List.drop_succ_cons, List.drop_zero]; obtain ⟨W1, hW1⟩ : ∃ x, x = World.drew wr := ⟨_, rfl⟩; change wpStill _ _ (World.drew wr) (fun a' => wpList _ _ _ _ a' (World.drew wr)) _ _; rw [← hW1]
          have HF1 : Hid (FileAt W1 w.heap.size r true 0) := by rw [Hid, hW1]; exact HF.out
          have HB1 : Hid (Below w.heap.size w W1) := by rw [Hid, hW1]; exact HB.out.drew
          have c0' : W1.cell? ⟨b0, o0 + n, none⟩ = some (.int .i64 x) := by rw [hW1]; exact c0
          have c1' : W1.cell? ⟨b1, o1 + n, none⟩ = some (.int .u32 y) := by rw [hW1]; exact c1
          clear c0 c1 hW1
          repeat still_step
          refine wpStill_nil ?_
          clear c0' c1'
          go_wp2_with fail
          refine (set_any _ _ _ _ _ _ HF1.out).mono ?_; rintro e W2 ⟨rfl, hf2, hu2⟩
          have HF2 := Lib.hid hf2
          have HB2 : Hid (Below w.heap.size w W2) := HB1.out.trans (hu2.below (Nat.le_refl _) (by have := HB1.out.size; omega))
          clear hf2 hu2
          go_wp2_with fail
          go_roundw
          case rel => exact ⟨n + 1, _, by omega, by omega, by omega, by go_num, HF2.out, HB2.out⟩
          case measure => simp [intOf]; omega
        · have d0 : decide ((n : Int) < is.length) = true := by simp; omega
          have d1 : decide ((n : Int) < vs.length) = true := by simp; omega
          have d2 : decide ((n : Int) < 100) = false := by simp; omega
          (
      go_wp2_with fail
      refine (jump_any pc _ _ _ _ HF.out).mono ?_; rintro e u1 ⟨rfl, hf1, hu1⟩
      have HF1 := Lib.hid hf1; clear hf1
      have hbu1 : Below w.heap.size w u1 := hb.trans (hu1.below (Nat.le_refl _) (by have := hb.size; omega))
      have nn : (pc != pc) = false := by simp
      go_wp2_with (go_at_call 36; refine (pc_any _ _ _ _ _ HF1.out).mono ?_; rintro e wz ⟨rfl, rfl⟩)
      refine (clear_any _ _ _ _ HF1.out).mono ?_; rintro e u2 ⟨rfl, hf2, hu2⟩
      have HF2 := Lib.hid hf2; clear hf2
      have hbu2 : Below w.heap.size w u2 := hbu1.trans (hu2.below (Nat.le_refl _) (by have := hbu1.size; omega))
      go_wp2_with fail
      refine (all_any _ _ _ _ _ HF2.out).mono ?_; rintro e u3 ⟨he, hb3⟩
      have hbu3 : Below w.heap.size w u3 := hbu2.trans (hb3.mono (by have := hbu2.size; omega))
      have HF3 : Hid (FileAt u3 w.heap.size (List.replicate 16 0) true 0) := HF2.out.below hb3
      have hql := eqIn_zero u3
      simp only [List.map_cons, List.map_nil] at hql
      obtain rfl : e = .returned (.agg ([0, 0, 0, 0, 0, 0, 0, 0, 0, 0, 0, 0, 0, 0, 0, 0].map (Value.int .u32)).toArray) := he
      go_wp2_with (go_at_call 36; refine (pc_any _ _ _ _ _ HF3.out).mono ?_; rintro e wz ⟨rfl, rfl⟩)
      refine (awake_any _).mono ?_; rintro e wz ⟨rfl, hbz⟩
      go_wp2_with fail
      go_ret
      exact ⟨rfl, hbu3.trans (hbz.mono hbu3.size)⟩
          )
      · have d0 : decide ((n : Int) < is.length) = true := by simp; omega
        have d1 : decide ((n : Int) < vs.length) = false := by simp; omega
        (
      go_wp2_with fail
      refine (jump_any pc _ _ _ _ HF.out).mono ?_; rintro e u1 ⟨rfl, hf1, hu1⟩
      have HF1 := Lib.hid hf1; clear hf1
      have hbu1 : Below w.heap.size w u1 := hb.trans (hu1.below (Nat.le_refl _) (by have := hb.size; omega))
      have nn : (pc != pc) = false := by simp
      go_wp2_with (go_at_call 36; refine (pc_any _ _ _ _ _ HF1.out).mono ?_; rintro e wz ⟨rfl, rfl⟩)
      refine (clear_any _ _ _ _ HF1.out).mono ?_; rintro e u2 ⟨rfl, hf2, hu2⟩
      have HF2 := Lib.hid hf2; clear hf2
      have hbu2 : Below w.heap.size w u2 := hbu1.trans (hu2.below (Nat.le_refl _) (by have := hbu1.size; omega))
      go_wp2_with fail
      refine (all_any _ _ _ _ _ HF2.out).mono ?_; rintro e u3 ⟨he, hb3⟩
      have hbu3 : Below w.heap.size w u3 := hbu2.trans (hb3.mono (by have := hbu2.size; omega))
      have HF3 : Hid (FileAt u3 w.heap.size (List.replicate 16 0) true 0) := HF2.out.below hb3
      have hql := eqIn_zero u3
      simp only [List.map_cons, List.map_nil] at hql
      obtain rfl : e = .returned (.agg ([0, 0, 0, 0, 0, 0, 0, 0, 0, 0, 0, 0, 0, 0, 0, 0].map (Value.int .u32)).toArray) := he
      go_wp2_with (go_at_call 36; refine (pc_any _ _ _ _ _ HF3.out).mono ?_; rintro e wz ⟨rfl, rfl⟩)
      refine (awake_any _).mono ?_; rintro e wz ⟨rfl, hbz⟩
      go_wp2_with fail
      go_ret
      exact ⟨rfl, hbu3.trans (hbz.mono hbu3.size)⟩
        )
    · have d0 : decide ((n : Int) < is.length) = false := by simp; omega
      (
      go_wp2_with fail
      refine (jump_any pc _ _ _ _ HF.out).mono ?_; rintro e u1 ⟨rfl, hf1, hu1⟩
      have HF1 := Lib.hid hf1; clear hf1
      have hbu1 : Below w.heap.size w u1 := hb.trans (hu1.below (Nat.le_refl _) (by have := hb.size; omega))
      have nn : (pc != pc) = false := by simp
      go_wp2_with (go_at_call 36; refine (pc_any _ _ _ _ _ HF1.out).mono ?_; rintro e wz ⟨rfl, rfl⟩)
      refine (clear_any _ _ _ _ HF1.out).mono ?_; rintro e u2 ⟨rfl, hf2, hu2⟩
      have HF2 := Lib.hid hf2; clear hf2
      have hbu2 : Below w.heap.size w u2 := hbu1.trans (hu2.below (Nat.le_refl _) (by have := hbu1.size; omega))
      go_wp2_with fail
      refine (all_any _ _ _ _ _ HF2.out).mono ?_; rintro e u3 ⟨he, hb3⟩
      have hbu3 : Below w.heap.size w u3 := hbu2.trans (hb3.mono (by have := hbu2.size; omega))
      have HF3 : Hid (FileAt u3 w.heap.size (List.replicate 16 0) true 0) := HF2.out.below hb3
      have hql := eqIn_zero u3
      simp only [List.map_cons, List.map_nil] at hql
      obtain rfl : e = .returned (.agg ([0, 0, 0, 0, 0, 0, 0, 0, 0, 0, 0, 0, 0, 0, 0, 0].map (Value.int .u32)).toArray) := he
      go_wp2_with (go_at_call 36; refine (pc_any _ _ _ _ _ HF3.out).mono ?_; rintro e wz ⟨rfl, rfl⟩)
      refine (awake_any _).mono ?_; rintro e wz ⟨rfl, hbz⟩
      go_wp2_with fail
      go_ret
      exact ⟨rfl, hbu3.trans (hbz.mono hbu3.size)⟩
      )
end Go.Proofs.Ytjphehncpgekfaa
