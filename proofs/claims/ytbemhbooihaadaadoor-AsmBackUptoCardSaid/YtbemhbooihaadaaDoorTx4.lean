/- The reference's numbers by digits (lines of XTrTexts). -/
import Derived.Test.YtbemhbooihaadaaDoorTx3
import Derived.Deep.RegionHeld3
import Derived.BigQuiet
import Derived.Lib.QuietBelow
import Derived.Lib.ItoaLen
import Derived.Test.YtbemhbooihaadaaDoorTxPow
namespace Go.Proofs.YtbemhbooihaadaaDoor
set_option linter.unusedVariables false
set_option linter.unusedSimpArgs false
set_option linter.unnecessarySimpa false
open Go.RowKit Go.Sort
set_option maxHeartbeats 2000000
set_option maxRecDepth 100000
set_option linter.unusedVariables false
theorem strOfNums_one (b : Nat) (hb : b < 256) : strOfNums [(b : Int)] = ⟨#[UInt8.ofNat b]⟩ := by
  simp [strOfNums]
theorem conv_at (b : Nat) (hb : b < 256) (w : World) (g : Nat) (hg : w.cell? ⟨g, 0, none⟩ = some (.int .u8 (b : Int))) : (convert 75 9 (.slice (some ⟨g, 0, none⟩) 1 1)).run Tryd.prog w = .ok (.string ⟨#[UInt8.ofNat b]⟩) w := by
  refine (run_convert_bytes_arg w 75 5 Tryd.underlying75 Tryd.underlying5 g 0 1 1 [(b : Int)] rfl (fun i hi => ?_) 9 Tryd.underlying9).trans ?_
  · obtain rfl : i = 0 := by omega
    exact hg
  · rw [strOfNums_one b hb]
theorem conv_one (b : Nat) (hb : b < 256) (w : World) (x : Int) (hx : x = (b : Int)) : (convert 75 9 (.slice (some ⟨w.heap.size, 0, none⟩) 1 1)).run Tryd.prog (w.alloc (.cells #[.int .u8 x] 5)) = .ok (.string ⟨#[UInt8.ofNat b]⟩) (w.alloc (.cells #[.int .u8 x] 5)) := by
  subst hx
  refine conv_at b hb _ _ ?_
  rw [World.cell?_alloc_mark w _ _ _ 0]; rfl
theorem decDigits_step (n : Nat) (h : ¬ n < 10) : Lib.decDigits n = Lib.decDigits (n / 10) ++ [UInt8.ofNat (48 + n % 10)] := by
  rw [Lib.decDigits, dif_neg h]
theorem digits_any : ∀ (n : Nat) (w : World), n ≤ 9223372036854775807 → Calls Tryd.prog 25 #[.int .i64 n] w fun e w' => e = .returned (.string ⟨(Lib.decDigits n).toArray⟩) ∧ Below w.heap.size w w' := by
  intro n
  induction n using Nat.strongRecOn with
  | _ n ih =>
    intro w hn
    obtain ⟨sn, hsn⟩ : ∃ s : ByteArray, s = ⟨(Lib.decDigits n).toArray⟩ := ⟨_, rfl⟩
    rw [← hsn]
    by_cases h : n < 10
    · have d0 : decide ((n : Int) < 10) = true := by simp; omega
      have w0 : IntKind.i64.wrap (48 + (n : Int)) = 48 + (n : Int) := by rw [IntKind.wrap_i64]; omega
      have w1 : IntKind.u8.wrap (48 + (n : Int)) = 48 + (n : Int) := by rw [IntKind.wrap_u8]; omega
      have hcv := conv_one (48 + n) (by omega) w (48 + (n : Int)) (by omega)
      have hd : (⟨#[UInt8.ofNat (48 + n)]⟩ : ByteArray) = sn := by rw [hsn, Lib.decDigits_one h]
      rw [hd] at hcv
      have hb : Hid (Below w.heap.size w (w.alloc (.cells #[.int .u8 (48 + (n : Int))] 5))) := (Below.refl _ _).alloc (Nat.le_refl _) _
      clear ih hd hsn
      go_enter Tryd.func25, Tryd.ntmps25
      go_wp2_with fail
      go_ret
      exact ⟨rfl, hb.out⟩
    · have d0 : decide ((n : Int) < 10) = false := by simp; omega
      have w0 : IntKind.i64.wrap (48 + (n : Int) % 10) = 48 + (n : Int) % 10 := by rw [IntKind.wrap_i64]; omega
      have w1 : IntKind.u8.wrap (48 + (n : Int) % 10) = 48 + (n : Int) % 10 := by rw [IntKind.wrap_u8]; omega
      have w2 : IntKind.i64.wrap ((n : Int) / 10) = (n : Int) / 10 := by rw [IntKind.wrap_i64]; omega
      have w3 : (n : Int).tmod 10 = (n : Int) % 10 := by rw [Int.tmod_eq_emod_of_nonneg (by omega)]
      obtain ⟨sq, hsq⟩ : ∃ s : ByteArray, s = ⟨(Lib.decDigits (n / 10)).toArray⟩ := ⟨_, rfl⟩
      obtain ⟨s1, hs1⟩ : ∃ s : ByteArray, s = ⟨#[UInt8.ofNat (48 + n % 10)]⟩ := ⟨_, rfl⟩
      have hih : Hid (∀ w, Calls Tryd.prog 25 #[.int .i64 ((n : Int) / 10)] w fun e w' => e = .returned (.string sq) ∧ Below w.heap.size w w') := fun w => by
        have := ih (n / 10) (by omega) w (by omega)
        rw [Int.natCast_ediv, ← hsq] at this
        exact this
      have hst : Hid (sq ++ s1 = sn) := by rw [Hid, hsq, hs1, hsn, decDigits_step n h, ← ba_append]
      have hcv : Hid (∀ (W : World) (g : Nat), W.cell? ⟨g, 0, none⟩ = some (.int .u8 (48 + (n : Int) % 10)) → (convert 75 9 (.slice (some ⟨g, 0, none⟩) 1 1)).run Tryd.prog W = .ok (.string s1) W) := fun W g hg => by
        rw [hs1]
        exact conv_at (48 + n % 10) (by omega) W g (by rw [hg]; congr 2)
      have hnew : Hid (∀ (W : World), (W.alloc (.cells #[.int .u8 (48 + (n : Int) % 10)] 5)).cell? ⟨W.heap.size, 0, none⟩ = some (.int .u8 (48 + (n : Int) % 10))) := fun W => by rw [World.cell?_alloc_mark W _ _ _ 0]; rfl
      have n0 : (0 : Int) ≤ n := by omega
      have hsz : sq.size + s1.size ≤ 9223372036854775807 := by rw [hsq, hs1, ba_size']; have := Lib.nDigits_le20 (n / 10) (by omega); rw [Lib.decDigits_length]; show _ + 1 ≤ _; omega
      clear ih hsq hs1 hsn
      go_enter Tryd.func25, Tryd.ntmps25
      go_wp2_with fail
      refine wp_region_held_drew (S := fun W' => True) (by kernel_rfl) trivial (fun hHeld => ?_)
      (refine wpAnyH_take (i := 0) (v := (.int .i64 (n : Int))) rfl (by kernel_rfl) (by kernel_rfl) (by kernel_rfl) (fun _ _ _ h => h) (Or.inl ⟨by rfl, (by intro w hSw; go_simp)⟩) (by assumption) ?_; try simp only [Act.put, List.getElem_toArray, List.getElem_cons_succ, List.getElem_cons_zero, List.setIfInBounds_toArray, List.set_cons_zero, List.set_cons_succ])
      (refine wpAnyH_take (i := 1) (v := (.int .i64 ((n : Int) / 10))) rfl (by kernel_rfl) (by kernel_rfl) (by kernel_rfl) (fun _ _ _ h => h) (Or.inl ⟨by rfl, (by intro w hSw; go_simp)⟩) (by assumption) ?_; try simp only [Act.put, List.getElem_toArray, List.getElem_cons_succ, List.getElem_cons_zero, List.setIfInBounds_toArray, List.set_cons_zero, List.set_cons_succ])
      (refine wpAnyH_take (i := 3) (v := (.int .i64 (n : Int))) rfl (by kernel_rfl) (by kernel_rfl) (by kernel_rfl) (fun _ _ _ h => h) (Or.inl ⟨by rfl, (by intro w hSw; go_simp)⟩) (by assumption) ?_; try simp only [Act.put, List.getElem_toArray, List.getElem_cons_succ, List.getElem_cons_zero, List.setIfInBounds_toArray, List.set_cons_zero, List.set_cons_succ])
      (refine wpAnyH_take (i := 4) (v := (.int .i64 ((n : Int) % 10))) rfl (by kernel_rfl) (by kernel_rfl) (by kernel_rfl) (fun _ _ _ h => h) (Or.inl ⟨by rfl, (by intro w hSw; go_simp)⟩) (by assumption) ?_; try simp only [Act.put, List.getElem_toArray, List.getElem_cons_succ, List.getElem_cons_zero, List.setIfInBounds_toArray, List.set_cons_zero, List.set_cons_succ])
      (refine wpAnyH_take (i := 5) (v := (.int .i64 (48 + (n : Int) % 10))) rfl (by kernel_rfl) (by kernel_rfl) (by kernel_rfl) (fun _ _ _ h => h) (Or.inl ⟨by rfl, (by intro w hSw; go_simp)⟩) (by assumption) ?_; try simp only [Act.put, List.getElem_toArray, List.getElem_cons_succ, List.getElem_cons_zero, List.setIfInBounds_toArray, List.set_cons_zero, List.set_cons_succ])
      (refine wpAnyH_take (i := 6) (v := (.int .u8 (48 + (n : Int) % 10))) rfl (by kernel_rfl) (by kernel_rfl) (by kernel_rfl) (fun _ _ _ h => h) (Or.inl ⟨by rfl, (by intro w hSw; go_simp)⟩) (by assumption) ?_; try simp only [Act.put, List.getElem_toArray, List.getElem_cons_succ, List.getElem_cons_zero, List.setIfInBounds_toArray, List.set_cons_zero, List.set_cons_succ])
      refine wpAnyH_ready (rs := [2, 7]) (by kernel_rfl) (by simp) ?_
      refine AllReadyH.cons rfl (fun K hK => ?_) (AllReadyH.cons rfl (fun K hK => ?_) AllReadyH.nil)
      · go_simp
        refine (hih.out _).mono ?_
        rintro e W1 ⟨rfl, hb1⟩
        have hb2 : Hid (Below w.heap.size w W1) := ((Below.refl _ w).drew).trans hb1
        dsimp only
        (refine hK.out _ _ (trivial) (fun hHeld => ?_); clear hK K; try simp only [Act.put, List.getElem_toArray, List.getElem_cons_succ, List.getElem_cons_zero, List.setIfInBounds_toArray, List.set_cons_zero, List.set_cons_succ])
        (refine wpAnyH_ready (rs := [7]) (by kernel_rfl) (by simp) ?_; refine AllReadyH.cons rfl (fun K hK => ?_) AllReadyH.nil)
        go_simp
        (refine hK.out _ _ (trivial) (fun hHeld => ?_); clear hK K; try simp only [Act.put, List.getElem_toArray, List.getElem_cons_succ, List.getElem_cons_zero, List.setIfInBounds_toArray, List.set_cons_zero, List.set_cons_succ])
        have hc1 := hcv.out _ _ (hnew.out W1)
        (refine wpAnyH_ready (rs := [8]) (by kernel_rfl) (by simp) ?_; refine AllReadyH.cons rfl (fun K hK => ?_) AllReadyH.nil)
        go_simp
        (refine hK.out _ _ (trivial) (fun hHeld => ?_); clear hK K; try simp only [Act.put, List.getElem_toArray, List.getElem_cons_succ, List.getElem_cons_zero, List.setIfInBounds_toArray, List.set_cons_zero, List.set_cons_succ])
        (refine wpAnyH_take (i := 9) (v := (.string (sq ++ s1))) rfl (by kernel_rfl) (by kernel_rfl) (by kernel_rfl) (fun _ _ _ h => h) (Or.inl ⟨by rfl, (by intro w hSw; go_simp)⟩) (by assumption) ?_; try simp only [Act.put, List.getElem_toArray, List.getElem_cons_succ, List.getElem_cons_zero, List.setIfInBounds_toArray, List.set_cons_zero, List.set_cons_succ])
        rw [hst.out]
        (refine wpAnyH_take (i := 10) (v := (.string sn)) rfl (by kernel_rfl) (by kernel_rfl) (by kernel_rfl) (fun _ _ _ h => h) (Or.inl ⟨by rfl, (by intro w hSw; go_simp)⟩) (by assumption) ?_; try simp only [Act.put, List.getElem_toArray, List.getElem_cons_succ, List.getElem_cons_zero, List.setIfInBounds_toArray, List.set_cons_zero, List.set_cons_succ])
        refine wpAnyH_done (by kernel_rfl) ?_ _
        go_wp2_with fail
        go_ret
        exact ⟨rfl, hb2.out.alloc hb2.out.size _⟩
      · go_simp
        (refine hK.out _ _ (trivial) (fun hHeld => ?_); clear hK K; try simp only [Act.put, List.getElem_toArray, List.getElem_cons_succ, List.getElem_cons_zero, List.setIfInBounds_toArray, List.set_cons_zero, List.set_cons_succ])
        have hb2 : Hid (Below w.heap.size w (w.alloc (.cells #[.int .u8 (48 + (n : Int) % 10)] 5)).drew) := ((Below.refl _ w).alloc (Nat.le_refl _) _).drew
        have hc0 : (w.alloc (.cells #[.int .u8 (48 + (n : Int) % 10)] 5)).drew.cell? ⟨w.heap.size, 0, none⟩ = some (.int .u8 (48 + (n : Int) % 10)) := hnew.out w
        have hlt : Hid (w.heap.size < (w.alloc (.cells #[.int .u8 (48 + (n : Int) % 10)] 5)).drew.heap.size) := World.block_lt_of_cell? _ _ hc0
        generalize (w.alloc (.cells #[.int .u8 (48 + (n : Int) % 10)] 5)).drew = W2 at hb2 hc0 hlt ⊢
        refine wpAnyH_ready (rs := [2, 8]) (by kernel_rfl) (by simp) ?_
        refine AllReadyH.cons rfl (fun K hK => ?_) (AllReadyH.cons rfl (fun K hK => ?_) AllReadyH.nil)
        · go_simp
          refine (hih.out _).mono ?_
          rintro e W1 ⟨rfl, hb1⟩
          have hb3 : Hid (Below w.heap.size w W1) := hb2.out.trans (hb1.mono hb2.out.size)
          have hc1 := hcv.out W1 w.heap.size ((hb1.cell (p := ⟨w.heap.size, 0, none⟩) hlt.out).trans hc0)
          dsimp only
          (refine hK.out _ _ (trivial) (fun hHeld => ?_); clear hK K; try simp only [Act.put, List.getElem_toArray, List.getElem_cons_succ, List.getElem_cons_zero, List.setIfInBounds_toArray, List.set_cons_zero, List.set_cons_succ])
          (refine wpAnyH_ready (rs := [8]) (by kernel_rfl) (by simp) ?_; refine AllReadyH.cons rfl (fun K hK => ?_) AllReadyH.nil)
          go_simp
          (refine hK.out _ _ (trivial) (fun hHeld => ?_); clear hK K; try simp only [Act.put, List.getElem_toArray, List.getElem_cons_succ, List.getElem_cons_zero, List.setIfInBounds_toArray, List.set_cons_zero, List.set_cons_succ])
          (refine wpAnyH_take (i := 9) (v := (.string (sq ++ s1))) rfl (by kernel_rfl) (by kernel_rfl) (by kernel_rfl) (fun _ _ _ h => h) (Or.inl ⟨by rfl, (by intro w hSw; go_simp)⟩) (by assumption) ?_; try simp only [Act.put, List.getElem_toArray, List.getElem_cons_succ, List.getElem_cons_zero, List.setIfInBounds_toArray, List.set_cons_zero, List.set_cons_succ])
          rw [hst.out]
          (refine wpAnyH_take (i := 10) (v := (.string sn)) rfl (by kernel_rfl) (by kernel_rfl) (by kernel_rfl) (fun _ _ _ h => h) (Or.inl ⟨by rfl, (by intro w hSw; go_simp)⟩) (by assumption) ?_; try simp only [Act.put, List.getElem_toArray, List.getElem_cons_succ, List.getElem_cons_zero, List.setIfInBounds_toArray, List.set_cons_zero, List.set_cons_succ])
          refine wpAnyH_done (by kernel_rfl) ?_ _
          go_wp2_with fail
          go_ret
          exact ⟨rfl, hb3.out⟩
        · have hc1 := hcv.out W2 w.heap.size hc0
          go_simp
          (refine hK.out _ _ (trivial) (fun hHeld => ?_); clear hK K; try simp only [Act.put, List.getElem_toArray, List.getElem_cons_succ, List.getElem_cons_zero, List.setIfInBounds_toArray, List.set_cons_zero, List.set_cons_succ])
          (refine wpAnyH_ready (rs := [2]) (by kernel_rfl) (by simp) ?_; refine AllReadyH.cons rfl (fun K hK => ?_) AllReadyH.nil)
          go_simp
          refine (hih.out _).mono ?_
          rintro e W1 ⟨rfl, hb1⟩
          have hb3 : Hid (Below w.heap.size w W1) := hb2.out.trans (hb1.mono hb2.out.size)
          dsimp only
          (refine hK.out _ _ (trivial) (fun hHeld => ?_); clear hK K; try simp only [Act.put, List.getElem_toArray, List.getElem_cons_succ, List.getElem_cons_zero, List.setIfInBounds_toArray, List.set_cons_zero, List.set_cons_succ])
          (refine wpAnyH_take (i := 9) (v := (.string (sq ++ s1))) rfl (by kernel_rfl) (by kernel_rfl) (by kernel_rfl) (fun _ _ _ h => h) (Or.inl ⟨by rfl, (by intro w hSw; go_simp)⟩) (by assumption) ?_; try simp only [Act.put, List.getElem_toArray, List.getElem_cons_succ, List.getElem_cons_zero, List.setIfInBounds_toArray, List.set_cons_zero, List.set_cons_succ])
          rw [hst.out]
          (refine wpAnyH_take (i := 10) (v := (.string sn)) rfl (by kernel_rfl) (by kernel_rfl) (by kernel_rfl) (fun _ _ _ h => h) (Or.inl ⟨by rfl, (by intro w hSw; go_simp)⟩) (by assumption) ?_; try simp only [Act.put, List.getElem_toArray, List.getElem_cons_succ, List.getElem_cons_zero, List.setIfInBounds_toArray, List.set_cons_zero, List.set_cons_succ])
          refine wpAnyH_done (by kernel_rfl) ?_ _
          go_wp2_with fail
          go_ret
          exact ⟨rfl, hb3.out⟩

end Go.Proofs.YtbemhbooihaadaaDoor
