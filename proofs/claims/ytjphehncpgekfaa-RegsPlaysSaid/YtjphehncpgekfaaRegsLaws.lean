/- The laws of chapter 11: awake, RegsOne, RegsGone. -/
import Derived.Test.YtjphehncpgekfaaRegs
import Derived.StillTailTactics
namespace Go.Proofs.Ytjphehncpgekfaa
open Go.RowKit
set_option maxHeartbeats 400000
set_option maxRecDepth 100000

theorem info_u32 : (Try.prog.info? 29).map (·.size) = some 1 := by kernel_rfl
theorem eq_lit (w : World) : (binOp .eql 30 (.agg ([0, 0, 0, 5, 0, 0, 0, 0, 0, 0, 0, 0, 0, 0, 0, 0].map (Value.int .u32)).toArray) (.agg ([0, 0, 0, 5, 0, 0, 0, 0, 0, 0, 0, 0, 0, 0, 0, 0].map (Value.int .u32)).toArray)).run Try.prog w = .ok (.bool true) w :=
  run_eql_array_int w _ _ Try.underlying30 Try.underlying29 info_u32 rfl rfl
theorem eqIn_lit (w : World) : Sem.run Try.prog (Op.equalIn 10000 30 (.agg ([0, 0, 0, 5, 0, 0, 0, 0, 0, 0, 0, 0, 0, 0, 0, 0].map (Value.int .u32)).toArray) (.agg ([0, 0, 0, 5, 0, 0, 0, 0, 0, 0, 0, 0, 0, 0, 0, 0].map (Value.int .u32)).toArray)) w = .ok true w := by kernel_rfl
theorem awake_any (w : World) : Calls Try.prog 21 #[] w fun e w' => e = .returned (.bool true) ∧ Below w.heap.size w w' := by
  go_enter Try.func21, Try.ntmps21
  go_wp2_with fail
  refine (new_any w).mono ?_; rintro e w1 ⟨rfl, hn, hb1, hs1⟩
  have HN := Lib.hid hn; clear hn
  go_wp2_with fail
  refine (set_any 3 5 _ _ _ _ HN.out).mono ?_; rintro e w2 ⟨he, hf2, hu2⟩
  have HF2 := Lib.hid hf2; clear hf2
  obtain rfl : e = .returned (.int .i64 0) := he
  go_wp2_with fail
  refine (set_any 0 5 _ _ _ _ HF2.out).mono ?_; rintro e w3 ⟨he, hf3, hu3⟩
  have HF3 := Lib.hid hf3; clear hf3
  obtain rfl : e = .returned (.int .i64 0) := he
  go_wp2_with fail
  refine (all_any _ _ _ _ _ HF3.out).mono ?_; rintro e w4 ⟨he, hb4⟩
  have hql := eqIn_lit w4
  simp only [List.map_cons, List.map_nil] at hql
  obtain rfl : e = .returned (.agg ([0, 0, 0, 5, 0, 0, 0, 0, 0, 0, 0, 0, 0, 0, 0, 0].map (Value.int .u32)).toArray) := he
  go_wp2_with fail
  go_ret
  have s2 := hu2.size; have s3 := hu3.size
  exact ⟨rfl, hb1.trans ((hu2.below (Nat.le_refl _) (by omega)).trans ((hu3.below (Nat.le_refl _) (by omega)).trans (hb4.mono (by omega))))⟩

/-- What one Set of the loop does. -/
theorem putR_get (r : List Int) (i v : Int) (j : Nat) : (putR r i v).getD j 0 = if inR i && i != 0 && decide (j = i.toNat) && decide (j < r.length) then v else r.getD j 0 := by
  unfold putR
  cases h : (inR i && i != 0)
  · simp
  · simp only [if_true, Bool.true_and]
    by_cases hj : j = i.toNat
    · subst hj
      by_cases hl : i.toNat < r.length <;> simp [hl, List.getD_eq_getElem?_getD]
    · simp [hj, List.getD_eq_getElem?_getD, Ne.symm hj]

theorem putR_zero (r : List Int) (i v : Int) (h : r.getD 0 0 = 0) : (putR r i v).getD 0 0 = 0 := by
  unfold putR
  cases hc : (inR i && i != 0)
  · exact h
  · simp only [Bool.and_eq_true, bne_iff_ne, ne_eq] at hc
    have := (inR_iff i).1 hc.1
    have hne : i.toNat ≠ 0 := by omega
    simp only [if_true]
    rw [List.getD_eq_getElem?_getD, List.getElem?_set_ne hne, ← List.getD_eq_getElem?_getD]
    exact h

theorem three (x : Int) : ((mayE x == 0) = false ∧ decide (0 ≤ x) = false) ∨ ((mayE x == 0) = false ∧ decide (0 ≤ x) = true ∧ decide (x < 16) = false) ∨ ((mayE x == 0) = true ∧ decide (0 ≤ x) = true ∧ decide (x < 16) = true) := by
  by_cases h1 : 0 ≤ x
  · by_cases h2 : x < 16
    · exact .inr (.inr ⟨by simp [mayE, inR, h1, h2], by simpa using h1, by simpa using h2⟩)
    · exact .inr (.inl ⟨by simp [mayE, inR, h1, h2], by simpa using h1, by simpa using h2⟩)
  · exact .inl ⟨by simp [mayE, inR, h1], by simpa using h1⟩

set_option maxHeartbeats 4000000 in
theorem one_walk (v0 v1 : Value) (is vs : List Int) (w : World) (h0 : RowI w .i64 v0 is) (h1 : RowI w .u32 v1 vs) :
    Calls Try.prog 4 #[v0, v1] w fun e w' => e = .returned (.bool true) ∧ Below w.heap.size w w' := by
  obtain ⟨a0, c0, rfl⟩ := h0.form
  obtain ⟨a1, c1, rfl⟩ := h1.form
  have hl0 : is.length ≤ 9223372036854775807 := by obtain ⟨_, _, e, q1, q2, _⟩ := h0; unfold maxLen at q2; omega
  have hl1 : vs.length ≤ 9223372036854775807 := by obtain ⟨_, _, e, q1, q2, _⟩ := h1; unfold maxLen at q2; omega
  have H0 := Lib.hid h0; have H1 := Lib.hid h1
  clear h0 h1
  go_enter Try.func4, Try.ntmps4
  go_wp2_with fail
  refine (new_any w).mono ?_; rintro e w1 ⟨rfl, hn, hb1, hs1⟩
  go_wp2_with fail
  go_loopw [6] (fun k wr => ∃ (n : Nat) (r : List Int), n ≤ is.length ∧ n ≤ vs.length ∧ n ≤ 100 ∧ k = .int .i64 n ∧ FileAt wr w.heap.size r true 0 ∧ r.getD 0 0 = 0 ∧ Below w.heap.size w wr) (fun k _ => 100 - (intOf k).toNat)
  case atStart => exact ⟨0, _, by omega, by omega, by omega, rfl, hn, rfl, hb1⟩
  case round =>
    obtain ⟨n, r, hn0, hn1, hn2, rfl, hf, hr0, hb⟩ := hrel
    have HF := Lib.hid hf; have HR0 := Lib.hid hr0
    clear hf hr0 hn
    by_cases g0 : n < is.length
    · by_cases g1 : n < vs.length
      · by_cases g2 : n < 100
        · have d0 : decide ((n : Int) < is.length) = true := by simp; omega
          have d1 : decide ((n : Int) < vs.length) = true := by simp; omega
          go_wp2_with fail
          refine (all_any _ _ _ _ _ HF.out).mono ?_; rintro e w2 ⟨rfl, hb2⟩
          have hrl := Lib.hid HF.out.1
          obtain ⟨W, hW⟩ : ∃ W, W = w2.alloc (.cells (r.map (Value.int .u32)).toArray 30) := ⟨_, rfl⟩
          have HW := Lib.hid hW
          have HB : Hid (Below w.heap.size w W) := by rw [Hid, hW]; exact (hb.trans (hb2.mono hb.size)).alloc (by have := hb.size; have := hb2.size; omega) _
          have HFW : Hid (FileAt W w.heap.size r true 0) := by rw [Hid, hW]; exact (HF.out.below hb2).below ((Below.refl _ _).alloc (Nat.le_refl _) _)
          have HO : Hid (W.heap[w2.heap.size]? = some (.cells (r.map (Value.int .u32)).toArray 30 (0, 0))) := by rw [Hid, hW]; exact new_block w2 _ _ rfl
          have hsz : w.heap.size < w2.heap.size := by have := HF.out.lt; have := hb2.size; omega
          have hsW : W.heap.size = w2.heap.size + 1 := by rw [hW]; simp
          clear hW hb2 hb
          go_wp2_with (((with_reducible refine wpList_store_newW 30 _ _ HW.out (.tmp 7) (.tmp 31) ?_ ?_ ?_ ?_ ?_ ?_ ?_ ?_)); exact rfl; exact rfl; exact rfl; exact rfl; (rw [info_arr]; simp [hrl.out]); (simp [hrl.out]); exact ints_all _ _; go_frame)
          obtain ⟨b0, o0, hb0, k0⟩ := (by obtain ⟨_, _, e, _, _, q⟩ := H0.out; injection e with e1 e2 e3; subst e1; exact q (by intro h; simp [h] at g0) : ∃ b off, a0 = some ⟨b, off, none⟩ ∧ ∀ i (h : i < is.length), w.cell? ⟨b, off + i, none⟩ = some (.int .i64 is[i]))
          obtain ⟨b1, o1, hb1', k1⟩ := (by obtain ⟨_, _, e, _, _, q⟩ := H1.out; injection e with e1 e2 e3; subst e1; exact q (by intro h; simp [h] at g1) : ∃ b off, a1 = some ⟨b, off, none⟩ ∧ ∀ i (h : i < vs.length), w.cell? ⟨b, off + i, none⟩ = some (.int .u32 vs[i]))
          subst hb0 hb1'
          have q0 := k0 n g0; have q1 := k1 n g1
          clear k0 k1
          generalize is[n] = x at q0
          generalize vs[n] = y at q1
          have Q0 := Lib.hid q0; have Q1 := Lib.hid q1
          have L0 := Lib.hid (World.block_lt_of_cell? w ⟨b0, o0 + n, none⟩ q0)
          have L1 := Lib.hid (World.block_lt_of_cell? w ⟨b1, o1 + n, none⟩ q1)
          clear q0 q1
          refine wp_region_still_tail 9 (by kernel_rfl) (by kernel_rfl) ?_; simp only [List.take_succ_cons, List.take_zero, List.drop_succ_cons, List.drop_zero]; obtain ⟨W1, hW1⟩ : ∃ x, x = World.drew W := ⟨_, rfl⟩; change wpStill _ _ (World.drew W) (fun a' => wpList _ _ _ _ a' (World.drew W)) _ _; rw [← hW1]
          have HF1 : Hid (FileAt W1 w.heap.size r true 0) := by rw [Hid, hW1]; exact HFW.out
          have HO1 : Hid (W1.heap[w2.heap.size]? = some (.cells (r.map (Value.int .u32)).toArray 30 (0, 0))) := by rw [Hid, hW1]; exact HO.out
          have HB1 : Hid (Below w.heap.size w W1) := by rw [Hid, hW1]; exact HB.out.drew
          have hsW1 : W1.heap.size = w2.heap.size + 1 := by rw [hW1]; exact hsW
          have HW1 := Lib.hid hW1
          have c0 : W1.cell? ⟨b0, o0 + n, none⟩ = some (.int .i64 x) := (HB1.out.cell (p := ⟨b0, o0 + n, none⟩) L0.out).trans Q0.out
          have c1 : W1.cell? ⟨b1, o1 + n, none⟩ = some (.int .u32 y) := (HB1.out.cell (p := ⟨b1, o1 + n, none⟩) L1.out).trans Q1.out
          clear hW1 hsW
          repeat still_step
          refine wpStill_nil ?_
          clear c0 c1
          go_wp2_with fail
          refine (set_any _ _ _ _ _ _ HF1.out).mono ?_; rintro e W2 ⟨rfl, hf2, hu2⟩
          have HF2 := Lib.hid hf2
          have HO2 := Lib.hid (hu2.keep (by omega) HO1.out)
          have HB2 : Hid (Below w.heap.size w W2) := HB1.out.trans (hu2.below (Nat.le_refl _) (by omega))
          have hsW2 : w2.heap.size < W2.heap.size := by have := hu2.size; omega
          clear hf2 hu2
          go_wp2_with fail
          refine (all_any _ _ _ _ _ HF2.out).mono ?_; rintro e W3 ⟨rfl, hb3⟩
          obtain ⟨r2, hr2⟩ : ∃ r2, r2 = putR r x y := ⟨_, rfl⟩
          rw [← hr2]
          have HR2 := Lib.hid hr2
          have hl2 := Lib.hid HF2.out.1
          rw [← hr2] at hl2 HF2
          clear hr2
          obtain ⟨W4, hW4⟩ : ∃ W4, W4 = W3.alloc (.cells (r2.map (Value.int .u32)).toArray 30) := ⟨_, rfl⟩
          have HW4 := Lib.hid hW4
          have HF4 : Hid (FileAt W4 w.heap.size r2 true 0) := by rw [Hid, hW4]; exact (HF2.out.below hb3).below ((Below.refl _ _).alloc (Nat.le_refl _) _)
          have HO4 : Hid (W4.heap[w2.heap.size]? = some (.cells (r.map (Value.int .u32)).toArray 30 (0, 0))) := by rw [Hid, hW4]; exact (Below.heap_alloc _ _ _ (by have := hb3.size; omega)).trans (keepB hb3 hsW2 HO2.out)
          have HN4 : Hid (W4.heap[W3.heap.size]? = some (.cells (r2.map (Value.int .u32)).toArray 30 (0, 0))) := by rw [Hid, hW4]; exact new_block W3 _ _ rfl
          have HB4 : Hid (Below w.heap.size w W4) := by rw [Hid, hW4]; exact (HB2.out.trans (hb3.mono (by omega))).alloc (by have := hb3.size; omega) _
          have hrl := Lib.hid HF.out.1
          have e0 : r2.getD 0 0 = 0 := by rw [HR2.out]; exact putR_zero r x y HR0.out
          have n0 : W4.cell? ⟨W3.heap.size, 0, none⟩ = some (.int .u32 0) := cell_at HN4.out 0 _ (by
            have := hl2.out
            rw [← e0]
            simp [this])
          have E0 := Lib.hid e0
          have c0 : W4.cell? ⟨b0, o0 + n, none⟩ = some (.int .i64 x) := (HB4.out.cell (p := ⟨b0, o0 + n, none⟩) L0.out).trans Q0.out
          have c1 : W4.cell? ⟨b1, o1 + n, none⟩ = some (.int .u32 y) := (HB4.out.cell (p := ⟨b1, o1 + n, none⟩) L1.out).trans Q1.out
          clear hW4 hb3 e0
          rcases three x with ⟨he0, dx1⟩ | ⟨he0, dx1, dx2⟩ | ⟨he0, dx1, dx2⟩
          ·
            go_wp2_with (((with_reducible refine wpList_store_newW 30 _ _ HW4.out (.tmp 9) (.tmp 43) ?_ ?_ ?_ ?_ ?_ ?_ ?_ ?_)); exact rfl; exact rfl; exact rfl; exact rfl; (rw [info_arr]; simp [hl2.out]); (simp [hl2.out]); exact ints_all _ _; go_frame)
            clear n0 c0 c1
            go_loopw [10] (fun j wr2 => ∃ (m nq : Nat), m ≤ 16 ∧ j = .int .i64 m ∧ wr2 = W4.drewN nq) (fun j _ => 16 - (intOf j).toNat)
            case atStart => exact ⟨0, 0, by omega, rfl, rfl⟩
            case round =>
              obtain ⟨m, nq0, hm, rfl, rfl⟩ := hrel
              by_cases hlm : m < 16
              · have cn : W4.cell? ⟨W3.heap.size, m, none⟩ = some (.int .u32 (r2.getD m 0)) := cell_at HN4.out m _ (by have := hl2.out; simp [this, hlm])
                have co : W4.cell? ⟨w2.heap.size, m, none⟩ = some (.int .u32 (r.getD m 0)) := cell_at HO4.out m _ (by have := hrl.out; simp [this, hlm])
                have hg := putR_get r x y m
                rw [← HR2.out] at hg
                have c0 : W4.cell? ⟨b0, o0 + n, none⟩ = some (.int .i64 x) := (HB4.out.cell (p := ⟨b0, o0 + n, none⟩) L0.out).trans Q0.out
                have c1 : W4.cell? ⟨b1, o1 + n, none⟩ = some (.int .u32 y) := (HB4.out.cell (p := ⟨b1, o1 + n, none⟩) L1.out).trans Q1.out
                have b0lt : (n : Int) < is.length := by omega
                have b1lt : (n : Int) < vs.length := by omega
                by_cases hx : (m : Int) = x
                · by_cases hm0 : m = 0
                  · subst hm0
                    obtain rfl : x = 0 := by simpa using hx.symm
                    clear hg hx cn co c1
                    go_wp2_with fail
                    go_quiet (fail)
                    go_wp2
                    go_roundw
                    case rel => exact ⟨1, _, by omega, rfl, rfl⟩
                    case measure => simp [intOf]
                  · have e1 : r2.getD m 0 = y := by
                      rw [hg]
                      have h1 : inR x = true := (inR_iff x).2 (by omega)
                      have h2 : (x != 0) = true := by simp; omega
                      have h3 : decide (m = x.toNat) = true := by simp; omega
                      have h4 : decide (m < r.length) = true := by have := hrl.out; simp; omega
                      rw [h1, h2, h3, h4]; rfl
                    rw [e1] at cn
                    have t1 : ((m : Int) == x) = true := by simpa using hx
                    have t2 : decide (0 < m) = true := by simp; omega
                    have t5 : (0 : Int) < m := by omega
                    have t3 : ((m : Int) != x) = false := by simpa using hx
                    have t4 : (y != y) = false := by simp
                    clear hg hx hm0 co e1
                    go_wp2_with fail
                    go_quiet (fail)
                    go_wp2
                    go_roundw
                    case rel => exact ⟨m + 1, _, by omega, by go_num, rfl⟩
                    case measure => simp [intOf]; omega
                · have e1 : r2.getD m 0 = r.getD m 0 := by
                    rw [hg]
                    by_cases hir : inR x = true
                    · have := (inR_iff x).1 hir
                      have h3 : decide (m = x.toNat) = false := by simp; omega
                      rw [h3]; simp
                    · simp only [Bool.not_eq_true] at hir
                      rw [hir]; simp
                  rw [e1] at cn
                  have t1 : ((m : Int) == x) = false := by simpa using hx
                  have t3 : ((m : Int) != x) = true := by simpa using hx
                  generalize r.getD m 0 = z at cn co
                  have t4 : (z != z) = false := by simp
                  clear hg hx c1 e1
                  go_wp2_with fail
                  go_quiet (fail)
                  go_wp2
                  go_roundw
                  case rel => exact ⟨m + 1, _, by omega, by go_num, rfl⟩
                  case measure => simp [intOf]; omega
              · obtain rfl : m = 16 := by omega
                go_wp2
                go_roundw
                case rel => exact ⟨n + 1, r2, by omega, by omega, by omega, by go_num, HF4.out, E0.out, below_drewN HB4.out _⟩
                case measure => simp [intOf]; omega
          ·
            go_wp2_with (((with_reducible refine wpList_store_newW 30 _ _ HW4.out (.tmp 9) (.tmp 43) ?_ ?_ ?_ ?_ ?_ ?_ ?_ ?_)); exact rfl; exact rfl; exact rfl; exact rfl; (rw [info_arr]; simp [hl2.out]); (simp [hl2.out]); exact ints_all _ _; go_frame)
            clear n0 c0 c1
            go_loopw [10] (fun j wr2 => ∃ (m nq : Nat), m ≤ 16 ∧ j = .int .i64 m ∧ wr2 = W4.drewN nq) (fun j _ => 16 - (intOf j).toNat)
            case atStart => exact ⟨0, 0, by omega, rfl, rfl⟩
            case round =>
              obtain ⟨m, nq0, hm, rfl, rfl⟩ := hrel
              by_cases hlm : m < 16
              · have cn : W4.cell? ⟨W3.heap.size, m, none⟩ = some (.int .u32 (r2.getD m 0)) := cell_at HN4.out m _ (by have := hl2.out; simp [this, hlm])
                have co : W4.cell? ⟨w2.heap.size, m, none⟩ = some (.int .u32 (r.getD m 0)) := cell_at HO4.out m _ (by have := hrl.out; simp [this, hlm])
                have hg := putR_get r x y m
                rw [← HR2.out] at hg
                have c0 : W4.cell? ⟨b0, o0 + n, none⟩ = some (.int .i64 x) := (HB4.out.cell (p := ⟨b0, o0 + n, none⟩) L0.out).trans Q0.out
                have c1 : W4.cell? ⟨b1, o1 + n, none⟩ = some (.int .u32 y) := (HB4.out.cell (p := ⟨b1, o1 + n, none⟩) L1.out).trans Q1.out
                have b0lt : (n : Int) < is.length := by omega
                have b1lt : (n : Int) < vs.length := by omega
                by_cases hx : (m : Int) = x
                · by_cases hm0 : m = 0
                  · subst hm0
                    obtain rfl : x = 0 := by simpa using hx.symm
                    clear hg hx cn co c1
                    go_wp2_with fail
                    go_quiet (fail)
                    go_wp2
                    go_roundw
                    case rel => exact ⟨1, _, by omega, rfl, rfl⟩
                    case measure => simp [intOf]
                  · have e1 : r2.getD m 0 = y := by
                      rw [hg]
                      have h1 : inR x = true := (inR_iff x).2 (by omega)
                      have h2 : (x != 0) = true := by simp; omega
                      have h3 : decide (m = x.toNat) = true := by simp; omega
                      have h4 : decide (m < r.length) = true := by have := hrl.out; simp; omega
                      rw [h1, h2, h3, h4]; rfl
                    rw [e1] at cn
                    have t1 : ((m : Int) == x) = true := by simpa using hx
                    have t2 : decide (0 < m) = true := by simp; omega
                    have t5 : (0 : Int) < m := by omega
                    have t3 : ((m : Int) != x) = false := by simpa using hx
                    have t4 : (y != y) = false := by simp
                    clear hg hx hm0 co e1
                    go_wp2_with fail
                    go_quiet (fail)
                    go_wp2
                    go_roundw
                    case rel => exact ⟨m + 1, _, by omega, by go_num, rfl⟩
                    case measure => simp [intOf]; omega
                · have e1 : r2.getD m 0 = r.getD m 0 := by
                    rw [hg]
                    by_cases hir : inR x = true
                    · have := (inR_iff x).1 hir
                      have h3 : decide (m = x.toNat) = false := by simp; omega
                      rw [h3]; simp
                    · simp only [Bool.not_eq_true] at hir
                      rw [hir]; simp
                  rw [e1] at cn
                  have t1 : ((m : Int) == x) = false := by simpa using hx
                  have t3 : ((m : Int) != x) = true := by simpa using hx
                  generalize r.getD m 0 = z at cn co
                  have t4 : (z != z) = false := by simp
                  clear hg hx c1 e1
                  go_wp2_with fail
                  go_quiet (fail)
                  go_wp2
                  go_roundw
                  case rel => exact ⟨m + 1, _, by omega, by go_num, rfl⟩
                  case measure => simp [intOf]; omega
              · obtain rfl : m = 16 := by omega
                go_wp2
                go_roundw
                case rel => exact ⟨n + 1, r2, by omega, by omega, by omega, by go_num, HF4.out, E0.out, below_drewN HB4.out _⟩
                case measure => simp [intOf]; omega
          ·
            go_wp2_with (((with_reducible refine wpList_store_newW 30 _ _ HW4.out (.tmp 9) (.tmp 43) ?_ ?_ ?_ ?_ ?_ ?_ ?_ ?_)); exact rfl; exact rfl; exact rfl; exact rfl; (rw [info_arr]; simp [hl2.out]); (simp [hl2.out]); exact ints_all _ _; go_frame)
            clear n0 c0 c1
            go_loopw [10] (fun j wr2 => ∃ (m nq : Nat), m ≤ 16 ∧ j = .int .i64 m ∧ wr2 = W4.drewN nq) (fun j _ => 16 - (intOf j).toNat)
            case atStart => exact ⟨0, 0, by omega, rfl, rfl⟩
            case round =>
              obtain ⟨m, nq0, hm, rfl, rfl⟩ := hrel
              by_cases hlm : m < 16
              · have cn : W4.cell? ⟨W3.heap.size, m, none⟩ = some (.int .u32 (r2.getD m 0)) := cell_at HN4.out m _ (by have := hl2.out; simp [this, hlm])
                have co : W4.cell? ⟨w2.heap.size, m, none⟩ = some (.int .u32 (r.getD m 0)) := cell_at HO4.out m _ (by have := hrl.out; simp [this, hlm])
                have hg := putR_get r x y m
                rw [← HR2.out] at hg
                have c0 : W4.cell? ⟨b0, o0 + n, none⟩ = some (.int .i64 x) := (HB4.out.cell (p := ⟨b0, o0 + n, none⟩) L0.out).trans Q0.out
                have c1 : W4.cell? ⟨b1, o1 + n, none⟩ = some (.int .u32 y) := (HB4.out.cell (p := ⟨b1, o1 + n, none⟩) L1.out).trans Q1.out
                have b0lt : (n : Int) < is.length := by omega
                have b1lt : (n : Int) < vs.length := by omega
                by_cases hx : (m : Int) = x
                · by_cases hm0 : m = 0
                  · subst hm0
                    obtain rfl : x = 0 := by simpa using hx.symm
                    clear hg hx cn co c1
                    go_wp2_with fail
                    go_quiet (fail)
                    go_wp2
                    go_roundw
                    case rel => exact ⟨1, _, by omega, rfl, rfl⟩
                    case measure => simp [intOf]
                  · have e1 : r2.getD m 0 = y := by
                      rw [hg]
                      have h1 : inR x = true := (inR_iff x).2 (by omega)
                      have h2 : (x != 0) = true := by simp; omega
                      have h3 : decide (m = x.toNat) = true := by simp; omega
                      have h4 : decide (m < r.length) = true := by have := hrl.out; simp; omega
                      rw [h1, h2, h3, h4]; rfl
                    rw [e1] at cn
                    have t1 : ((m : Int) == x) = true := by simpa using hx
                    have t2 : decide (0 < m) = true := by simp; omega
                    have t5 : (0 : Int) < m := by omega
                    have t3 : ((m : Int) != x) = false := by simpa using hx
                    have t4 : (y != y) = false := by simp
                    clear hg hx hm0 co e1
                    go_wp2_with fail
                    go_quiet (fail)
                    go_wp2
                    go_roundw
                    case rel => exact ⟨m + 1, _, by omega, by go_num, rfl⟩
                    case measure => simp [intOf]; omega
                · have e1 : r2.getD m 0 = r.getD m 0 := by
                    rw [hg]
                    by_cases hir : inR x = true
                    · have := (inR_iff x).1 hir
                      have h3 : decide (m = x.toNat) = false := by simp; omega
                      rw [h3]; simp
                    · simp only [Bool.not_eq_true] at hir
                      rw [hir]; simp
                  rw [e1] at cn
                  have t1 : ((m : Int) == x) = false := by simpa using hx
                  have t3 : ((m : Int) != x) = true := by simpa using hx
                  generalize r.getD m 0 = z at cn co
                  have t4 : (z != z) = false := by simp
                  clear hg hx c1 e1
                  go_wp2_with fail
                  go_quiet (fail)
                  go_wp2
                  go_roundw
                  case rel => exact ⟨m + 1, _, by omega, by go_num, rfl⟩
                  case measure => simp [intOf]; omega
              · obtain rfl : m = 16 := by omega
                go_wp2
                go_roundw
                case rel => exact ⟨n + 1, r2, by omega, by omega, by omega, by go_num, HF4.out, E0.out, below_drewN HB4.out _⟩
                case measure => simp [intOf]; omega
        · have d0 : decide ((n : Int) < is.length) = true := by simp; omega
          have d1 : decide ((n : Int) < vs.length) = true := by simp; omega
          have d2 : decide ((n : Int) < 100) = false := by simp; omega
          go_wp2_with fail; refine (awake_any _).mono ?_; rintro e wz ⟨rfl, hbz⟩; go_wp2_with fail; go_ret; exact ⟨rfl, hb.trans (hbz.mono hb.size)⟩
      · have d0 : decide ((n : Int) < is.length) = true := by simp; omega
        have d1 : decide ((n : Int) < vs.length) = false := by simp; omega
        go_wp2_with fail; refine (awake_any _).mono ?_; rintro e wz ⟨rfl, hbz⟩; go_wp2_with fail; go_ret; exact ⟨rfl, hb.trans (hbz.mono hb.size)⟩
    · have d0 : decide ((n : Int) < is.length) = false := by simp; omega
      go_wp2_with fail; refine (awake_any _).mono ?_; rintro e wz ⟨rfl, hbz⟩; go_wp2_with fail; go_ret; exact ⟨rfl, hb.trans (hbz.mono hb.size)⟩
end Go.Proofs.Ytjphehncpgekfaa
