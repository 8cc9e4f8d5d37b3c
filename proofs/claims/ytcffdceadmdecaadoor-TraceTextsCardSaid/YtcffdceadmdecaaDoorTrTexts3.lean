/- The reference's text of an event. -/
import Derived.Test.YtcffdceadmdecaaDoorTrTexts2
namespace Go.Proofs.YtcffdceadmdecaaDoor
set_option linter.unusedVariables false
set_option linter.unusedSimpArgs false
set_option linter.unnecessarySimpa false
open Go.RowKit Go.Sort
set_option maxHeartbeats 4000000
set_option maxRecDepth 100000
set_option linter.unusedVariables false
theorem itoa_nat_len (n : Nat) (h : n < 4294967296) : (Lib.itoa (n : Int)).length ≤ 21 := Lib.itoa_length_le _ (by omega) (by omega)
theorem rtext_any (e : Ev) (ok : e.Ok) (w : World) : Calls Tryd.prog 9 #[.agg e.cells.toArray] w fun x w' => x = .returned (.string ⟨(textL e).toArray⟩) ∧ Below w.heap.size w w' := by
  obtain ⟨s0, hs0⟩ : ∃ s : ByteArray, s = ⟨(wordL e.k).toArray⟩ := ⟨_, rfl⟩
  obtain ⟨s1, hs1⟩ : ∃ s : ByteArray, s = ⟨(Lib.itoa e.clock).toArray⟩ := ⟨_, rfl⟩
  obtain ⟨s2, hs2⟩ : ∃ s : ByteArray, s = ⟨(Lib.itoa (e.code : Int)).toArray⟩ := ⟨_, rfl⟩
  obtain ⟨s3, hs3⟩ : ∃ s : ByteArray, s = ⟨(Lib.itoa (e.val : Int)).toArray⟩ := ⟨_, rfl⟩
  obtain ⟨s4, hs4⟩ : ∃ s : ByteArray, s = ⟨(Lib.itoa (e.pc : Int)).toArray⟩ := ⟨_, rfl⟩
  have l0 : s0.size ≤ 5 := by rw [hs0, ba_size]; exact wordL_len _
  have l1 : s1.size ≤ 21 := by rw [hs1, ba_size]; exact Lib.itoa_length_le _ ok.clock.1 ok.clock.2
  have l2 : s2.size ≤ 21 := by rw [hs2, ba_size]; exact itoa_nat_len _ ok.code
  have l3 : s3.size ≤ 21 := by rw [hs3, ba_size]; exact itoa_nat_len _ ok.val
  have l4 : s4.size ≤ 21 := by rw [hs4, ba_size]; exact itoa_nat_len _ ok.pc
  have HW : Hid (∀ w, Calls Tryd.prog 24 #[.int .i64 e.k] w fun x w' => x = .returned (.string s0) ∧ Below w.heap.size w w') := fun w => by rw [hs0]; exact (rword_any e.k w).mono fun x w' ⟨h1, h2⟩ => ⟨h1, h2 ▸ Below.refl _ _⟩
  have H1 : Hid (∀ w, Calls Tryd.prog 25 #[.int .i64 e.clock] w fun x w' => x = .returned (.string s1) ∧ Below w.heap.size w w') := fun w => by rw [hs1]; exact signed_any _ ok.clock.1 ok.clock.2 w
  have H2 : Hid (∀ w, Calls Tryd.prog 25 #[.int .i64 (e.code : Int)] w fun x w' => x = .returned (.string s2) ∧ Below w.heap.size w w') := fun w => by rw [hs2]; exact signed_any _ (by omega) (by have := ok.code; omega) w
  have H3 : Hid (∀ w, Calls Tryd.prog 25 #[.int .i64 (e.val : Int)] w fun x w' => x = .returned (.string s3) ∧ Below w.heap.size w w') := fun w => by rw [hs3]; exact signed_any _ (by omega) (by have := ok.val; omega) w
  have H4 : Hid (∀ w, Calls Tryd.prog 25 #[.int .i64 (e.pc : Int)] w fun x w' => x = .returned (.string s4) ∧ Below w.heap.size w w') := fun w => by rw [hs4]; exact signed_any _ (by omega) (by have := ok.pc; omega) w
  have hfin0 : Hid (s0 ++ ⟨#[32]⟩ ++ s1 ++ ⟨#[32]⟩ ++ s2 ++ ⟨#[32]⟩ ++ s3 ++ ⟨#[32]⟩ ++ s4 = ⟨(fin e 0).toArray⟩) := by
    have e32 : (⟨#[32]⟩ : ByteArray) = ⟨([32] : List UInt8).toArray⟩ := rfl
    rw [Hid, hs0, hs1, hs2, hs3, hs4, e32]
    simp only [ba_append, fin, mid, headL, numL, unsL, Lib.itoa_nonneg, List.take_zero, regsL, List.append_nil, List.take_succ_cons, List.flatten_cons, List.flatten_nil, List.append_assoc, List.cons_append, List.nil_append]
  have hl := cells_len ok
  have okh := Lib.hid ok
  have hN : Hid (ObjAt (w.alloc (.cells e.cells.toArray 25)) w.heap.size 25 e.cells) := ObjAt.new w _ _
  have hB : Hid (Below w.heap.size w (w.alloc (.cells e.cells.toArray 25))) := (Below.refl _ _).alloc (Nat.le_refl _) _
  clear hs0 hs1 hs2 hs3 hs4 ok
  go_enter Tryd.func9, Tryd.ntmps9
  go_upto_region 1 with fail
  clear hl
  generalize w.alloc (.cells e.cells.toArray 25) = W1 at hN hB ⊢
  have c2 : IntKind.i64.wrap (e.code : Int) = (e.code : Int) := by have := okh.out.code; rw [IntKind.wrap_i64]; omega
  have c3 : IntKind.i64.wrap (e.val : Int) = (e.val : Int) := by have := okh.out.val; rw [IntKind.wrap_i64]; omega
  have c4 : IntKind.i64.wrap (e.pc : Int) = (e.pc : Int) := by have := okh.out.pc; rw [IntKind.wrap_i64]; omega
  have z1 : s0.size + 1 ≤ 9223372036854775807 := by omega
  have z2 : s0.size + 1 + s1.size ≤ 9223372036854775807 := by omega
  have z3 : s0.size + 1 + s1.size + 1 ≤ 9223372036854775807 := by omega
  have z4 : s0.size + 1 + s1.size + 1 + s2.size ≤ 9223372036854775807 := by omega
  have z5 : s0.size + 1 + s1.size + 1 + s2.size + 1 ≤ 9223372036854775807 := by omega
  have z6 : s0.size + 1 + s1.size + 1 + s2.size + 1 + s3.size ≤ 9223372036854775807 := by omega
  have z7 : s0.size + 1 + s1.size + 1 + s2.size + 1 + s3.size + 1 ≤ 9223372036854775807 := by omega
  have z8 : s0.size + 1 + s1.size + 1 + s2.size + 1 + s3.size + 1 + s4.size ≤ 9223372036854775807 := by omega
  obtain ⟨p, hp⟩ : ∃ p : Nat, p = w.heap.size := ⟨_, rfl⟩
  have HP := Lib.hid hp
  rw [← hp] at hN ⊢
  clear hp
  have HS : Hid (∀ W, Below W1.heap.size W1 W → W.cell? ⟨p, 0, none⟩ = some (.int .i64 e.k) ∧ W.cell? ⟨p, 1, none⟩ = some (.int .i64 e.clock) ∧ W.cell? ⟨p, 2, none⟩ = some (.int .u32 (e.code : Int)) ∧ W.cell? ⟨p, 3, none⟩ = some (.int .u32 (e.val : Int)) ∧ W.cell? ⟨p, 4, none⟩ = some (.int .u32 (e.pc : Int))) := fun W hb => ⟨(hN.out.below hb).cell 0 _ rfl, (hN.out.below hb).cell 1 _ rfl, (hN.out.below hb).cell 2 _ rfl, (hN.out.below hb).cell 3 _ rfl, (hN.out.below hb).cell 4 _ rfl⟩
  have hd0 : Hid (Below W1.heap.size W1 W1.drew) := (Below.refl _ _).drew
  refine wp_region_held_drew (S := fun W => W.cell? ⟨p, 0, none⟩ = some (.int .i64 e.k) ∧ W.cell? ⟨p, 1, none⟩ = some (.int .i64 e.clock) ∧ W.cell? ⟨p, 2, none⟩ = some (.int .u32 (e.code : Int)) ∧ W.cell? ⟨p, 3, none⟩ = some (.int .u32 (e.val : Int)) ∧ W.cell? ⟨p, 4, none⟩ = some (.int .u32 (e.pc : Int))) (by kernel_rfl) (HS.out _ hd0.out) (fun hHeld => ?_)
  (refine wpAnyH_take (i := 0) (v := (.pointer (some ⟨p, 0, none⟩))) rfl (by kernel_rfl) (by kernel_rfl) (by kernel_rfl) (fun _ _ _ h => h) (Or.inl ⟨by rfl, (by intro w hSw; go_simp)⟩) (by assumption) ?_; try simp only [Act.put, List.getElem_toArray, List.getElem_cons_succ, List.getElem_cons_zero, List.setIfInBounds_toArray, List.set_cons_zero, List.set_cons_succ])
  (refine wpAnyH_take (i := 1) (v := (.int .i64 e.k)) rfl (by kernel_rfl) (by kernel_rfl) (by kernel_rfl) (fun _ _ _ h => h) (Or.inl ⟨by rfl, (by intro w hSw; go_simp)⟩) (by assumption) ?_; try simp only [Act.put, List.getElem_toArray, List.getElem_cons_succ, List.getElem_cons_zero, List.setIfInBounds_toArray, List.set_cons_zero, List.set_cons_succ])
  (refine wpAnyH_take (i := 4) (v := (.pointer (some ⟨p, 1, none⟩))) rfl (by kernel_rfl) (by kernel_rfl) (by kernel_rfl) (fun _ _ _ h => h) (Or.inl ⟨by rfl, (by intro w hSw; go_simp)⟩) (by assumption) ?_; try simp only [Act.put, List.getElem_toArray, List.getElem_cons_succ, List.getElem_cons_zero, List.setIfInBounds_toArray, List.set_cons_zero, List.set_cons_succ])
  (refine wpAnyH_take (i := 5) (v := (.int .i64 e.clock)) rfl (by kernel_rfl) (by kernel_rfl) (by kernel_rfl) (fun _ _ _ h => h) (Or.inl ⟨by rfl, (by intro w hSw; go_simp)⟩) (by assumption) ?_; try simp only [Act.put, List.getElem_toArray, List.getElem_cons_succ, List.getElem_cons_zero, List.setIfInBounds_toArray, List.set_cons_zero, List.set_cons_succ])
  (refine wpAnyH_take (i := 9) (v := (.pointer (some ⟨p, 2, none⟩))) rfl (by kernel_rfl) (by kernel_rfl) (by kernel_rfl) (fun _ _ _ h => h) (Or.inl ⟨by rfl, (by intro w hSw; go_simp)⟩) (by assumption) ?_; try simp only [Act.put, List.getElem_toArray, List.getElem_cons_succ, List.getElem_cons_zero, List.setIfInBounds_toArray, List.set_cons_zero, List.set_cons_succ])
  (refine wpAnyH_take (i := 10) (v := (.int .u32 (e.code : Int))) rfl (by kernel_rfl) (by kernel_rfl) (by kernel_rfl) (fun _ _ _ h => h) (Or.inl ⟨by rfl, (by intro w hSw; go_simp)⟩) (by assumption) ?_; try simp only [Act.put, List.getElem_toArray, List.getElem_cons_succ, List.getElem_cons_zero, List.setIfInBounds_toArray, List.set_cons_zero, List.set_cons_succ])
  (refine wpAnyH_take (i := 11) (v := (.int .i64 (e.code : Int))) rfl (by kernel_rfl) (by kernel_rfl) (by kernel_rfl) (fun _ _ _ h => h) (Or.inl ⟨by rfl, (by intro w hSw; go_simp)⟩) (by assumption) ?_; try simp only [Act.put, List.getElem_toArray, List.getElem_cons_succ, List.getElem_cons_zero, List.setIfInBounds_toArray, List.set_cons_zero, List.set_cons_succ])
  (refine wpAnyH_take (i := 15) (v := (.pointer (some ⟨p, 3, none⟩))) rfl (by kernel_rfl) (by kernel_rfl) (by kernel_rfl) (fun _ _ _ h => h) (Or.inl ⟨by rfl, (by intro w hSw; go_simp)⟩) (by assumption) ?_; try simp only [Act.put, List.getElem_toArray, List.getElem_cons_succ, List.getElem_cons_zero, List.setIfInBounds_toArray, List.set_cons_zero, List.set_cons_succ])
  (refine wpAnyH_take (i := 16) (v := (.int .u32 (e.val : Int))) rfl (by kernel_rfl) (by kernel_rfl) (by kernel_rfl) (fun _ _ _ h => h) (Or.inl ⟨by rfl, (by intro w hSw; go_simp)⟩) (by assumption) ?_; try simp only [Act.put, List.getElem_toArray, List.getElem_cons_succ, List.getElem_cons_zero, List.setIfInBounds_toArray, List.set_cons_zero, List.set_cons_succ])
  (refine wpAnyH_take (i := 17) (v := (.int .i64 (e.val : Int))) rfl (by kernel_rfl) (by kernel_rfl) (by kernel_rfl) (fun _ _ _ h => h) (Or.inl ⟨by rfl, (by intro w hSw; go_simp)⟩) (by assumption) ?_; try simp only [Act.put, List.getElem_toArray, List.getElem_cons_succ, List.getElem_cons_zero, List.setIfInBounds_toArray, List.set_cons_zero, List.set_cons_succ])
  (refine wpAnyH_take (i := 21) (v := (.pointer (some ⟨p, 4, none⟩))) rfl (by kernel_rfl) (by kernel_rfl) (by kernel_rfl) (fun _ _ _ h => h) (Or.inl ⟨by rfl, (by intro w hSw; go_simp)⟩) (by assumption) ?_; try simp only [Act.put, List.getElem_toArray, List.getElem_cons_succ, List.getElem_cons_zero, List.setIfInBounds_toArray, List.set_cons_zero, List.set_cons_succ])
  (refine wpAnyH_take (i := 22) (v := (.int .u32 (e.pc : Int))) rfl (by kernel_rfl) (by kernel_rfl) (by kernel_rfl) (fun _ _ _ h => h) (Or.inl ⟨by rfl, (by intro w hSw; go_simp)⟩) (by assumption) ?_; try simp only [Act.put, List.getElem_toArray, List.getElem_cons_succ, List.getElem_cons_zero, List.setIfInBounds_toArray, List.set_cons_zero, List.set_cons_succ])
  (refine wpAnyH_take (i := 23) (v := (.int .i64 (e.pc : Int))) rfl (by kernel_rfl) (by kernel_rfl) (by kernel_rfl) (fun _ _ _ h => h) (Or.inl ⟨by rfl, (by intro w hSw; go_simp)⟩) (by assumption) ?_; try simp only [Act.put, List.getElem_toArray, List.getElem_cons_succ, List.getElem_cons_zero, List.setIfInBounds_toArray, List.set_cons_zero, List.set_cons_succ])
  (refine wpAnyH_ready (rs := [2]) (by kernel_rfl) (by simp) ?_; refine AllReadyH.cons rfl (fun K hK => ?_) AllReadyH.nil; go_simp; refine (HW.out _).mono ?_; rintro x Wn ⟨rfl, hbx⟩; have hd1 := Lib.hid (hd0.out.trans (hbx.mono hd0.out.size)); clear hbx; dsimp only; refine hK.out _ _ (HS.out _ hd1.out) (fun hHeld => ?_); clear hK K; try simp only [Act.put, List.getElem_toArray, List.getElem_cons_succ, List.getElem_cons_zero, List.setIfInBounds_toArray, List.set_cons_zero, List.set_cons_succ])
  (refine wpAnyH_take (i := 3) (v := (.string (s0 ++ ⟨#[32]⟩))) rfl (by kernel_rfl) (by kernel_rfl) (by kernel_rfl) (fun _ _ _ h => h) (Or.inl ⟨by rfl, (by intro w hSw; go_simp)⟩) (by assumption) ?_; try simp only [Act.put, List.getElem_toArray, List.getElem_cons_succ, List.getElem_cons_zero, List.setIfInBounds_toArray, List.set_cons_zero, List.set_cons_succ])
  (refine wpAnyH_ready (rs := [6]) (by kernel_rfl) (by simp) ?_; refine AllReadyH.cons rfl (fun K hK => ?_) AllReadyH.nil; go_simp; refine (H1.out _).mono ?_; rintro x Wn ⟨rfl, hbx⟩; have hd2 := Lib.hid (hd1.out.trans (hbx.mono hd1.out.size)); clear hbx; dsimp only; refine hK.out _ _ (HS.out _ hd2.out) (fun hHeld => ?_); clear hK K; try simp only [Act.put, List.getElem_toArray, List.getElem_cons_succ, List.getElem_cons_zero, List.setIfInBounds_toArray, List.set_cons_zero, List.set_cons_succ])
  (refine wpAnyH_take (i := 7) (v := (.string (s0 ++ ⟨#[32]⟩ ++ s1))) rfl (by kernel_rfl) (by kernel_rfl) (by kernel_rfl) (fun _ _ _ h => h) (Or.inl ⟨by rfl, (by intro w hSw; go_simp)⟩) (by assumption) ?_; try simp only [Act.put, List.getElem_toArray, List.getElem_cons_succ, List.getElem_cons_zero, List.setIfInBounds_toArray, List.set_cons_zero, List.set_cons_succ])
  (refine wpAnyH_take (i := 8) (v := (.string (s0 ++ ⟨#[32]⟩ ++ s1 ++ ⟨#[32]⟩))) rfl (by kernel_rfl) (by kernel_rfl) (by kernel_rfl) (fun _ _ _ h => h) (Or.inl ⟨by rfl, (by intro w hSw; go_simp)⟩) (by assumption) ?_; try simp only [Act.put, List.getElem_toArray, List.getElem_cons_succ, List.getElem_cons_zero, List.setIfInBounds_toArray, List.set_cons_zero, List.set_cons_succ])
  (refine wpAnyH_ready (rs := [12]) (by kernel_rfl) (by simp) ?_; refine AllReadyH.cons rfl (fun K hK => ?_) AllReadyH.nil; go_simp; refine (H2.out _).mono ?_; rintro x Wn ⟨rfl, hbx⟩; have hd3 := Lib.hid (hd2.out.trans (hbx.mono hd2.out.size)); clear hbx; dsimp only; refine hK.out _ _ (HS.out _ hd3.out) (fun hHeld => ?_); clear hK K; try simp only [Act.put, List.getElem_toArray, List.getElem_cons_succ, List.getElem_cons_zero, List.setIfInBounds_toArray, List.set_cons_zero, List.set_cons_succ])
  (refine wpAnyH_take (i := 13) (v := (.string (s0 ++ ⟨#[32]⟩ ++ s1 ++ ⟨#[32]⟩ ++ s2))) rfl (by kernel_rfl) (by kernel_rfl) (by kernel_rfl) (fun _ _ _ h => h) (Or.inl ⟨by rfl, (by intro w hSw; go_simp)⟩) (by assumption) ?_; try simp only [Act.put, List.getElem_toArray, List.getElem_cons_succ, List.getElem_cons_zero, List.setIfInBounds_toArray, List.set_cons_zero, List.set_cons_succ])
  (refine wpAnyH_take (i := 14) (v := (.string (s0 ++ ⟨#[32]⟩ ++ s1 ++ ⟨#[32]⟩ ++ s2 ++ ⟨#[32]⟩))) rfl (by kernel_rfl) (by kernel_rfl) (by kernel_rfl) (fun _ _ _ h => h) (Or.inl ⟨by rfl, (by intro w hSw; go_simp)⟩) (by assumption) ?_; try simp only [Act.put, List.getElem_toArray, List.getElem_cons_succ, List.getElem_cons_zero, List.setIfInBounds_toArray, List.set_cons_zero, List.set_cons_succ])
  (refine wpAnyH_ready (rs := [18]) (by kernel_rfl) (by simp) ?_; refine AllReadyH.cons rfl (fun K hK => ?_) AllReadyH.nil; go_simp; refine (H3.out _).mono ?_; rintro x Wn ⟨rfl, hbx⟩; have hd4 := Lib.hid (hd3.out.trans (hbx.mono hd3.out.size)); clear hbx; dsimp only; refine hK.out _ _ (HS.out _ hd4.out) (fun hHeld => ?_); clear hK K; try simp only [Act.put, List.getElem_toArray, List.getElem_cons_succ, List.getElem_cons_zero, List.setIfInBounds_toArray, List.set_cons_zero, List.set_cons_succ])
  (refine wpAnyH_take (i := 19) (v := (.string (s0 ++ ⟨#[32]⟩ ++ s1 ++ ⟨#[32]⟩ ++ s2 ++ ⟨#[32]⟩ ++ s3))) rfl (by kernel_rfl) (by kernel_rfl) (by kernel_rfl) (fun _ _ _ h => h) (Or.inl ⟨by rfl, (by intro w hSw; go_simp)⟩) (by assumption) ?_; try simp only [Act.put, List.getElem_toArray, List.getElem_cons_succ, List.getElem_cons_zero, List.setIfInBounds_toArray, List.set_cons_zero, List.set_cons_succ])
  (refine wpAnyH_take (i := 20) (v := (.string (s0 ++ ⟨#[32]⟩ ++ s1 ++ ⟨#[32]⟩ ++ s2 ++ ⟨#[32]⟩ ++ s3 ++ ⟨#[32]⟩))) rfl (by kernel_rfl) (by kernel_rfl) (by kernel_rfl) (fun _ _ _ h => h) (Or.inl ⟨by rfl, (by intro w hSw; go_simp)⟩) (by assumption) ?_; try simp only [Act.put, List.getElem_toArray, List.getElem_cons_succ, List.getElem_cons_zero, List.setIfInBounds_toArray, List.set_cons_zero, List.set_cons_succ])
  (refine wpAnyH_ready (rs := [24]) (by kernel_rfl) (by simp) ?_; refine AllReadyH.cons rfl (fun K hK => ?_) AllReadyH.nil; go_simp; refine (H4.out _).mono ?_; rintro x Wn ⟨rfl, hbx⟩; have hd5 := Lib.hid (hd4.out.trans (hbx.mono hd4.out.size)); clear hbx; dsimp only; refine hK.out _ _ (HS.out _ hd5.out) (fun hHeld => ?_); clear hK K; try simp only [Act.put, List.getElem_toArray, List.getElem_cons_succ, List.getElem_cons_zero, List.setIfInBounds_toArray, List.set_cons_zero, List.set_cons_succ])
  (refine wpAnyH_take (i := 25) (v := (.string (s0 ++ ⟨#[32]⟩ ++ s1 ++ ⟨#[32]⟩ ++ s2 ++ ⟨#[32]⟩ ++ s3 ++ ⟨#[32]⟩ ++ s4))) rfl (by kernel_rfl) (by kernel_rfl) (by kernel_rfl) (fun _ _ _ h => h) (Or.inl ⟨by rfl, (by intro w hSw; go_simp)⟩) (by assumption) ?_; try simp only [Act.put, List.getElem_toArray, List.getElem_cons_succ, List.getElem_cons_zero, List.setIfInBounds_toArray, List.set_cons_zero, List.set_cons_succ])
  rw [hfin0.out]
  (refine wpAnyH_take (i := 26) (v := (.string ⟨(fin e 0).toArray⟩)) rfl (by kernel_rfl) (by kernel_rfl) (by kernel_rfl) (fun _ _ _ h => h) (Or.inl ⟨by rfl, (by intro w hSw; go_simp)⟩) (by assumption) ?_; try simp only [Act.put, List.getElem_toArray, List.getElem_cons_succ, List.getElem_cons_zero, List.setIfInBounds_toArray, List.set_cons_zero, List.set_cons_succ])
  refine wpAnyH_done (by kernel_rfl) ?_ _
  have hB5 : Hid (Below w.heap.size w Wn) := hB.out.trans (hd5.out.mono hB.out.size)
  have hN5 : Hid (ObjAt Wn p 25 e.cells) := hN.out.below hd5.out
  clear hd0 hd1 hd2 hd3 hd4 hd5 HS hHeld HW H1 H2 H3 H4 hfin0 z1 z2 z3 z4 z5 z6 z7 z8 l0 l1 l2 l3 l4 c2 c3 c4 hN hB
  generalize Wn = W2 at hB5 hN5 ⊢
  go_wp2_with fail
  go_loopw [3, 4] (fun t i wr => ∃ k : Nat, k ≤ 16 ∧ i = .int .i64 k ∧ t = .string ⟨(fin e k).toArray⟩ ∧ Below w.heap.size w wr ∧ ObjAt wr p 25 e.cells) (fun t i _ => 16 - (intOf i).toNat)
  case atStart => exact ⟨0, by omega, rfl, rfl, hB5.out, hN5.out⟩
  case round =>
    clear hB5 hN5
    obtain ⟨k, hk, rfl, rfl, hb, hn⟩ := hrel
    have HB := Lib.hid hb; have HN := Lib.hid hn
    clear hb hn
    have hfl := fin_len e okh.out k
    by_cases hk3 : k < 16
    · have hkl : k < e.rs.length := by rw [okh.out.len]; exact hk3
      have hr := okh.out.rs _ (List.getElem_mem hkl)
      have hst := Lib.hid (fin_step e k hkl)
      have hcl : e.cells[5 + k]? = some (.int .u32 (e.rs[k] : Int)) := by
        have : (u32C e.rs)[k]? = some (.int .u32 (e.rs[k] : Int)) := by simp [u32C, hkl]
        simpa [Ev.cells, Nat.add_comm] using this
      generalize e.rs[k] = r at hr hst hcl
      have HC : Hid (∀ W, Below wr.heap.size wr W → W.cell? ⟨p, 5 + k, none⟩ = some (.int .u32 (r : Int))) := fun W hb => (HN.out.below hb).cell (5 + k) _ hcl
      have hc0 := HC.out _ (Below.refl _ _)
      have d1 : decide ((k : Int) < 16) = true := by simp; omega
      have i0 : (0 : Int) ≤ (k : Int) := by omega
      have i1 : (k : Int) < ((16 : Nat) : Int) := by omega
      have i2 : (k : Int) < 16 := by omega
      clear hcl
      by_cases hz : r = 0
      · have d2 : ((r : Int) != 0) = false := by subst hz; rfl
        go_wp2_with fail
        go_roundw
        case rel => exact ⟨k + 1, by omega, by go_num, by rw [hst.out, if_pos hz, List.append_nil], HB.out, HN.out⟩
        case measure => simp [intOf]; omega
      · have d2 : ((r : Int) != 0) = true := by simp; omega
        obtain ⟨sk, hsk⟩ : ∃ s : ByteArray, s = ⟨(fin e k).toArray⟩ := ⟨_, rfl⟩
        obtain ⟨si, hsi⟩ : ∃ s : ByteArray, s = ⟨(Lib.itoa (k : Int)).toArray⟩ := ⟨_, rfl⟩
        obtain ⟨sr, hsr⟩ : ∃ s : ByteArray, s = ⟨(Lib.itoa (r : Int)).toArray⟩ := ⟨_, rfl⟩
        have lk : sk.size ≤ 2000 := by rw [hsk, ba_size]; exact hfl
        have li : si.size ≤ 21 := by rw [hsi, ba_size]; exact itoa_nat_len _ (by omega)
        have lr : sr.size ≤ 21 := by rw [hsr, ba_size]; exact itoa_nat_len _ hr
        have HI : Hid (∀ w, Calls Tryd.prog 25 #[.int .i64 (k : Int)] w fun x w' => x = .returned (.string si) ∧ Below w.heap.size w w') := fun w => by rw [hsi]; exact signed_any _ (by omega) (by omega) w
        have HR : Hid (∀ w, Calls Tryd.prog 25 #[.int .i64 (r : Int)] w fun x w' => x = .returned (.string sr) ∧ Below w.heap.size w w') := fun w => by rw [hsr]; exact signed_any _ (by omega) (by omega) w
        have hfin : Hid (sk ++ ⟨#[32, 114]⟩ ++ si ++ ⟨#[61]⟩ ++ sr = ⟨(fin e (k + 1)).toArray⟩) := by
          have e1 : (⟨#[32, 114]⟩ : ByteArray) = ⟨([32, 114] : List UInt8).toArray⟩ := rfl
          have e2 : (⟨#[61]⟩ : ByteArray) = ⟨([61] : List UInt8).toArray⟩ := rfl
          rw [Hid, hsk, hsi, hsr, e1, e2, hst.out, if_neg hz]
          simp only [ba_append, regL, Lib.itoa_nonneg, List.append_assoc]
        rw [← hsk]
        clear hsk hsi hsr hst
        have c2 : IntKind.i64.wrap (r : Int) = (r : Int) := by rw [IntKind.wrap_i64]; omega
        have w1 : IntKind.i64.wrap ((k : Int) + 1) = (k : Int) + 1 := by rw [IntKind.wrap_i64]; omega
        have z1 : sk.size + 2 ≤ 9223372036854775807 := by omega
        have z2 : sk.size + 2 + si.size ≤ 9223372036854775807 := by omega
        have z3 : sk.size + 2 + si.size + 1 ≤ 9223372036854775807 := by omega
        have z4 : sk.size + 2 + si.size + 1 + sr.size ≤ 9223372036854775807 := by omega
        have hd0 : Hid (Below wr.heap.size wr wr.drew) := (Below.refl _ _).drew
        go_upto_region 6 with fail
        clear hc0
        have HS := HC
        refine wp_region_held_drew (S := fun W => W.cell? ⟨p, 5 + k, none⟩ = some (.int .u32 (r : Int))) (by kernel_rfl) (HS.out _ hd0.out) (fun hHeld => ?_)
        (refine wpAnyH_take (i := 0) (v := (.string sk)) rfl (by kernel_rfl) (by kernel_rfl) (by kernel_rfl) (fun _ _ _ h => h) (Or.inl ⟨by rfl, (by intro w hSw; go_simp)⟩) (by assumption) ?_; try simp only [Act.put, List.getElem_toArray, List.getElem_cons_succ, List.getElem_cons_zero, List.setIfInBounds_toArray, List.set_cons_zero, List.set_cons_succ])
        (refine wpAnyH_take (i := 1) (v := (.string (sk ++ ⟨#[32, 114]⟩))) rfl (by kernel_rfl) (by kernel_rfl) (by kernel_rfl) (fun _ _ _ h => h) (Or.inl ⟨by rfl, (by intro w hSw; go_simp)⟩) (by assumption) ?_; try simp only [Act.put, List.getElem_toArray, List.getElem_cons_succ, List.getElem_cons_zero, List.setIfInBounds_toArray, List.set_cons_zero, List.set_cons_succ])
        (refine wpAnyH_take (i := 2) (v := (.int .i64 (k : Int))) rfl (by kernel_rfl) (by kernel_rfl) (by kernel_rfl) (fun _ _ _ h => h) (Or.inl ⟨by rfl, (by intro w hSw; go_simp)⟩) (by assumption) ?_; try simp only [Act.put, List.getElem_toArray, List.getElem_cons_succ, List.getElem_cons_zero, List.setIfInBounds_toArray, List.set_cons_zero, List.set_cons_succ])
        (refine wpAnyH_take (i := 6) (v := (.int .i64 (k : Int))) rfl (by kernel_rfl) (by kernel_rfl) (by kernel_rfl) (fun _ _ _ h => h) (Or.inl ⟨by rfl, (by intro w hSw; go_simp)⟩) (by assumption) ?_; try simp only [Act.put, List.getElem_toArray, List.getElem_cons_succ, List.getElem_cons_zero, List.setIfInBounds_toArray, List.set_cons_zero, List.set_cons_succ])
        (refine wpAnyH_take (i := 7) (v := (.pointer (some ⟨p, 5, none⟩))) rfl (by kernel_rfl) (by kernel_rfl) (by kernel_rfl) (fun _ _ _ h => h) (Or.inl ⟨by rfl, (by intro w hSw; go_simp)⟩) (by assumption) ?_; try simp only [Act.put, List.getElem_toArray, List.getElem_cons_succ, List.getElem_cons_zero, List.setIfInBounds_toArray, List.set_cons_zero, List.set_cons_succ])
        (refine wpAnyH_take (i := 8) (v := (.pointer (some ⟨p, 5 + k, none⟩))) rfl (by kernel_rfl) (by kernel_rfl) (by kernel_rfl) (fun _ _ _ h => h) (Or.inl ⟨by rfl, (by intro w hSw; go_simp)⟩) (by assumption) ?_; try simp only [Act.put, List.getElem_toArray, List.getElem_cons_succ, List.getElem_cons_zero, List.setIfInBounds_toArray, List.set_cons_zero, List.set_cons_succ])
        (refine wpAnyH_take (i := 9) (v := (.int .u32 (r : Int))) rfl (by kernel_rfl) (by kernel_rfl) (by kernel_rfl) (fun _ _ _ h => h) (Or.inl ⟨by rfl, (by intro w hSw; go_simp)⟩) (by assumption) ?_; try simp only [Act.put, List.getElem_toArray, List.getElem_cons_succ, List.getElem_cons_zero, List.setIfInBounds_toArray, List.set_cons_zero, List.set_cons_succ])
        (refine wpAnyH_take (i := 10) (v := (.int .i64 (r : Int))) rfl (by kernel_rfl) (by kernel_rfl) (by kernel_rfl) (fun _ _ _ h => h) (Or.inl ⟨by rfl, (by intro w hSw; go_simp)⟩) (by assumption) ?_; try simp only [Act.put, List.getElem_toArray, List.getElem_cons_succ, List.getElem_cons_zero, List.setIfInBounds_toArray, List.set_cons_zero, List.set_cons_succ])
        (refine wpAnyH_ready (rs := [3]) (by kernel_rfl) (by simp) ?_; refine AllReadyH.cons rfl (fun K hK => ?_) AllReadyH.nil; go_simp; refine (HI.out _).mono ?_; rintro x Wn ⟨rfl, hbx⟩; have hd1 := Lib.hid (hd0.out.trans (hbx.mono hd0.out.size)); clear hbx; dsimp only; refine hK.out _ _ (HS.out _ hd1.out) (fun hHeld => ?_); clear hK K; try simp only [Act.put, List.getElem_toArray, List.getElem_cons_succ, List.getElem_cons_zero, List.setIfInBounds_toArray, List.set_cons_zero, List.set_cons_succ])
        (refine wpAnyH_take (i := 4) (v := (.string (sk ++ ⟨#[32, 114]⟩ ++ si))) rfl (by kernel_rfl) (by kernel_rfl) (by kernel_rfl) (fun _ _ _ h => h) (Or.inl ⟨by rfl, (by intro w hSw; go_simp)⟩) (by assumption) ?_; try simp only [Act.put, List.getElem_toArray, List.getElem_cons_succ, List.getElem_cons_zero, List.setIfInBounds_toArray, List.set_cons_zero, List.set_cons_succ])
        (refine wpAnyH_take (i := 5) (v := (.string (sk ++ ⟨#[32, 114]⟩ ++ si ++ ⟨#[61]⟩))) rfl (by kernel_rfl) (by kernel_rfl) (by kernel_rfl) (fun _ _ _ h => h) (Or.inl ⟨by rfl, (by intro w hSw; go_simp)⟩) (by assumption) ?_; try simp only [Act.put, List.getElem_toArray, List.getElem_cons_succ, List.getElem_cons_zero, List.setIfInBounds_toArray, List.set_cons_zero, List.set_cons_succ])
        (refine wpAnyH_ready (rs := [11]) (by kernel_rfl) (by simp) ?_; refine AllReadyH.cons rfl (fun K hK => ?_) AllReadyH.nil; go_simp; refine (HR.out _).mono ?_; rintro x Wn ⟨rfl, hbx⟩; have hd2 := Lib.hid (hd1.out.trans (hbx.mono hd1.out.size)); clear hbx; dsimp only; refine hK.out _ _ (HS.out _ hd2.out) (fun hHeld => ?_); clear hK K; try simp only [Act.put, List.getElem_toArray, List.getElem_cons_succ, List.getElem_cons_zero, List.setIfInBounds_toArray, List.set_cons_zero, List.set_cons_succ])
        (refine wpAnyH_take (i := 12) (v := (.string (sk ++ ⟨#[32, 114]⟩ ++ si ++ ⟨#[61]⟩ ++ sr))) rfl (by kernel_rfl) (by kernel_rfl) (by kernel_rfl) (fun _ _ _ h => h) (Or.inl ⟨by rfl, (by intro w hSw; go_simp)⟩) (by assumption) ?_; try simp only [Act.put, List.getElem_toArray, List.getElem_cons_succ, List.getElem_cons_zero, List.setIfInBounds_toArray, List.set_cons_zero, List.set_cons_succ])
        rw [hfin.out]
        (refine wpAnyH_take (i := 13) (v := (.string ⟨(fin e (k + 1)).toArray⟩)) rfl (by kernel_rfl) (by kernel_rfl) (by kernel_rfl) (fun _ _ _ h => h) (Or.inl ⟨by rfl, (by intro w hSw; go_simp)⟩) (by assumption) ?_; try simp only [Act.put, List.getElem_toArray, List.getElem_cons_succ, List.getElem_cons_zero, List.setIfInBounds_toArray, List.set_cons_zero, List.set_cons_succ])
        refine wpAnyH_done (by kernel_rfl) ?_ _
        have HB2 : Hid (Below w.heap.size w Wn) := HB.out.trans (hd2.out.mono HB.out.size)
        have HN2 : Hid (ObjAt Wn p 25 e.cells) := HN.out.below hd2.out
        clear HC HS HI HR hd0 hd1 hd2 hHeld
        go_wp2_with fail
        go_roundw
        case rel => exact ⟨k + 1, by omega, by go_num, rfl, HB2.out, HN2.out⟩
        case measure => simp [intOf]; omega
    · obtain rfl : k = 16 := by omega
      have d1 : decide (((16 : Nat) : Int) < 16) = false := by decide
      have ht := fin_text e okh.out
      rw [ht]
      go_wp2_with fail
      go_ret
      exact ⟨rfl, HB.out⟩
#print axioms rtext_any
end Go.Proofs.YtcffdceadmdecaaDoor
