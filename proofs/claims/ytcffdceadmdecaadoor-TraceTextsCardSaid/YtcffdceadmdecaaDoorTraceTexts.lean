/- The walk of the law TraceTexts. -/
import Derived.Test.YtcffdceadmdecaaDoorTrTexts3
import Derived.Test.YtcffdceadmdecaaDoorTraceOne
namespace Go.Proofs.YtcffdceadmdecaaDoor
set_option linter.unusedVariables false
set_option linter.unusedSimpArgs false
set_option linter.unnecessarySimpa false
open Go.RowKit Go.Sort
set_option maxHeartbeats 4000000
set_option maxRecDepth 100000
set_option linter.unusedVariables false
theorem same_any (a1 a2 : Option Addr) (c1 c2 : Nat) (l1 l2 : List Ev) (w : World) (h1 : RdE w a1 l1) (h2 : RdE w a2 l2) (o1 : Oks l1) (o2 : Oks l2) (n1 : l1.length ≤ 9223372036854775807) (n2 : l2.length ≤ 9223372036854775807) :
    Calls Tryd.prog 10 #[.slice a1 l1.length c1, .slice a2 l2.length c2] w fun x w' => x = .returned (.bool (decide (l1 = l2))) ∧ Below w.heap.size w w' := by
  go_enter Tryd.func10, Tryd.ntmps10
  go_wp2_with (go_at_call 26; refine (equal_any a1 a2 c1 c2 l1 l2 w h1 h2 o1 o2 n1 n2).mono ?_; rintro x w1 ⟨rfl, hb⟩)
  go_ret
  exact ⟨rfl, hb⟩
theorem texts_walk (e : Ev) (ok : e.Ok) (a1 a2 : Option Addr) (c1 c2 : Nat) (l1 l2 : List Ev) (w : World) (h1 : RdE w a1 l1) (h2 : RdE w a2 l2) (o1 : Oks l1) (o2 : Oks l2) (n1 : l1.length ≤ 9223372036854775807) (n2 : l2.length ≤ 9223372036854775807) (hW : WordsIs w) (hP : PowIs w) :
    Calls Tryd.prog 4 #[.agg e.cells.toArray, .slice a1 l1.length c1, .slice a2 l2.length c2] w fun x w' => x = .returned (.bool true) ∧ Below w.heap.size w w' := by
  obtain ⟨sx, hsx⟩ : ∃ sx, sx = (⟨(textL e).toArray⟩ : ByteArray) := ⟨_, rfl⟩
  have TX : Hid (∀ W, Below w.heap.size w W → Calls Tryd.prog 7 #[.agg e.cells.toArray] W fun x w' => x = .returned (.string sx) ∧ Below W.heap.size W w') := by rw [hsx]; exact fun W h => text_ev e ok W (hW.below h) (hP.below h)
  have TY : Hid (∀ W, Below w.heap.size w W → Calls Tryd.prog 9 #[.agg e.cells.toArray] W fun x w' => x = .returned (.string sx) ∧ Below W.heap.size W w') := by rw [hsx]; exact fun W h => rtext_any e ok W
  obtain ⟨sm, hsm⟩ : ∃ sm : Bool, sm = decide (l1 = l2) := ⟨_, rfl⟩
  have SX : Hid (∀ W, Below w.heap.size w W → Calls Tryd.prog 10 #[.slice a1 l1.length c1, .slice a2 l2.length c2] W fun x w' => x = .returned (.bool sm) ∧ Below W.heap.size W w') := by rw [hsm]; exact fun W h => same_any a1 a2 c1 c2 l1 l2 W (h1.below h) (h2.below h) o1 o2 n1 n2
  have SY : Hid (∀ W, Below w.heap.size w W → Calls Tryd.prog 11 #[.slice a1 l1.length c1, .slice a2 l2.length c2] W fun x w' => x = .returned (.bool sm) ∧ Below W.heap.size W w') := by rw [hsm]; exact fun W h => rsame_any a1 a2 c1 c2 l1 l2 W (h1.below h) (h2.below h) o1 o2 n1 n2
  have FW : Hid (∀ W, Below w.heap.size w W → Calls Tryd.prog 8 #[] W fun x w' => x = .returned (.bool true) ∧ Below W.heap.size W w') := fun W h => awake_any W (hW.below h) (hP.below h)
  have hl := cells_len ok
  have HL := Lib.hid hl
  have hN : Hid (ObjAt (w.alloc (.cells e.cells.toArray 25)) w.heap.size 25 e.cells) := ObjAt.new w _ _
  have hB : Hid (Below w.heap.size w (w.alloc (.cells e.cells.toArray 25))) := (Below.refl _ _).alloc (Nat.le_refl _) _
  clear hsx hsm hW hP h1 h2 o1 o2
  go_enter Tryd.func4, Tryd.ntmps4
  go_upto_region 1 with fail
  clear hl
  generalize w.alloc (.cells e.cells.toArray 25) = W1 at hN hB ⊢
  obtain ⟨p, hp⟩ : ∃ p : Nat, p = w.heap.size := ⟨_, rfl⟩
  rw [← hp] at hN ⊢
  have HB0 : Hid (∀ W, Below W1.heap.size W1 W → Below w.heap.size w W) := fun W h => hB.out.trans (h.mono hB.out.size)
  have FIN : Hid (∀ W, Below W1.heap.size W1 W → Below w.heap.size w W) := HB0.out
  have HS : Hid (∀ W, Below W1.heap.size W1 W → W.rangeAt p 0 e.cells) := fun W h => (hN.out.below h).range 0 _ (fun j v h => by simpa using h)
  have hd0 : Hid (Below W1.heap.size W1 W1.drew) := (Below.refl _ _).drew
  have hl := HL.out
  clear hp hN hB
  refine wp_region_held_drew (S := fun W' => W'.rangeAt p 0 e.cells) (by kernel_rfl) (HS.out _ hd0.out) (fun hHeld => ?_)
  (refine wpAnyH_take (i := 0) (v := .agg (e).cells.toArray) rfl (by kernel_rfl) (by kernel_rfl) (by kernel_rfl) (fun _ _ _ h => h) (yieldsIf_load_mid (by rfl) 25 (.tmp 3) rfl p 0 rfl (e).cells _ (fun w h => h) Tryd.underlying25 rfl (by rw [info_ev2, hl])) (by assumption) ?_; try simp only [Act.put, List.getElem_toArray, List.getElem_cons_succ, List.getElem_cons_zero, List.setIfInBounds_toArray, List.set_cons_zero, List.set_cons_succ])
  (refine wpAnyH_take (i := 2) (v := .agg (e).cells.toArray) rfl (by kernel_rfl) (by kernel_rfl) (by kernel_rfl) (fun _ _ _ h => h) (yieldsIf_load_mid (by rfl) 25 (.tmp 3) rfl p 0 rfl (e).cells _ (fun w h => h) Tryd.underlying25 rfl (by rw [info_ev2, hl])) (by assumption) ?_; try simp only [Act.put, List.getElem_toArray, List.getElem_cons_succ, List.getElem_cons_zero, List.setIfInBounds_toArray, List.set_cons_zero, List.set_cons_succ])
  (refine wpAnyH_ready (rs := [1]) (by kernel_rfl) (by simp) ?_; refine AllReadyH.cons rfl (fun K hK => ?_) AllReadyH.nil; go_simp; refine (TX.out _ (HB0.out _ hd0.out)).mono ?_; rintro x Wn ⟨rfl, hbx⟩; have hd1 := Lib.hid (hd0.out.trans (hbx.mono hd0.out.size)); clear hbx; dsimp only; refine hK.out _ _ (HS.out _ hd1.out) (fun hHeld => ?_); clear hK K; try simp only [Act.put, List.getElem_toArray, List.getElem_cons_succ, List.getElem_cons_zero, List.setIfInBounds_toArray, List.set_cons_zero, List.set_cons_succ])
  (refine wpAnyH_ready (rs := [3]) (by kernel_rfl) (by simp) ?_; refine AllReadyH.cons rfl (fun K hK => ?_) AllReadyH.nil; go_simp; refine (TY.out _ (HB0.out _ hd1.out)).mono ?_; rintro x Wn ⟨rfl, hbx⟩; have hd2 := Lib.hid (hd1.out.trans (hbx.mono hd1.out.size)); clear hbx; dsimp only; refine hK.out _ _ (HS.out _ hd2.out) (fun hHeld => ?_); clear hK K; try simp only [Act.put, List.getElem_toArray, List.getElem_cons_succ, List.getElem_cons_zero, List.setIfInBounds_toArray, List.set_cons_zero, List.set_cons_succ])
  have hv : (sx.toList == sx.toList) = true := by simp
  (refine wpAnyH_take (i := 4) (v := (.bool true)) rfl (by kernel_rfl) (by kernel_rfl) (by kernel_rfl) (fun _ _ _ h => h) (Or.inl ⟨by rfl, (by intro w hSw; go_simp)⟩) (by assumption) ?_; try simp only [Act.put, List.getElem_toArray, List.getElem_cons_succ, List.getElem_cons_zero, List.setIfInBounds_toArray, List.set_cons_zero, List.set_cons_succ])
  clear hv
  (refine wpAnyH_take (i := 5) (v := (.bool true)) rfl (by kernel_rfl) (by kernel_rfl) (by kernel_rfl) (fun _ _ _ h => h) (Or.inl ⟨by rfl, (by intro w hSw; go_simp)⟩) (by assumption) ?_; try simp only [Act.put, List.getElem_toArray, List.getElem_cons_succ, List.getElem_cons_zero, List.setIfInBounds_toArray, List.set_cons_zero, List.set_cons_succ])
  (refine wpAnyH_take (i := 6) (v := (.slice a1 l1.length c1)) rfl (by kernel_rfl) (by kernel_rfl) (by kernel_rfl) (fun _ _ _ h => h) (Or.inl ⟨by rfl, (by intro w hSw; go_simp)⟩) (by assumption) ?_; try simp only [Act.put, List.getElem_toArray, List.getElem_cons_succ, List.getElem_cons_zero, List.setIfInBounds_toArray, List.set_cons_zero, List.set_cons_succ])
  (refine wpAnyH_take (i := 7) (v := (.slice a2 l2.length c2)) rfl (by kernel_rfl) (by kernel_rfl) (by kernel_rfl) (fun _ _ _ h => h) (Or.inl ⟨by rfl, (by intro w hSw; go_simp)⟩) (by assumption) ?_; try simp only [Act.put, List.getElem_toArray, List.getElem_cons_succ, List.getElem_cons_zero, List.setIfInBounds_toArray, List.set_cons_zero, List.set_cons_succ])
  (refine wpAnyH_take (i := 9) (v := (.slice a1 l1.length c1)) rfl (by kernel_rfl) (by kernel_rfl) (by kernel_rfl) (fun _ _ _ h => h) (Or.inl ⟨by rfl, (by intro w hSw; go_simp)⟩) (by assumption) ?_; try simp only [Act.put, List.getElem_toArray, List.getElem_cons_succ, List.getElem_cons_zero, List.setIfInBounds_toArray, List.set_cons_zero, List.set_cons_succ])
  (refine wpAnyH_take (i := 10) (v := (.slice a2 l2.length c2)) rfl (by kernel_rfl) (by kernel_rfl) (by kernel_rfl) (fun _ _ _ h => h) (Or.inl ⟨by rfl, (by intro w hSw; go_simp)⟩) (by assumption) ?_; try simp only [Act.put, List.getElem_toArray, List.getElem_cons_succ, List.getElem_cons_zero, List.setIfInBounds_toArray, List.set_cons_zero, List.set_cons_succ])
  (refine wpAnyH_ready (rs := [8]) (by kernel_rfl) (by simp) ?_; refine AllReadyH.cons rfl (fun K hK => ?_) AllReadyH.nil; go_simp; refine (SX.out _ (HB0.out _ hd2.out)).mono ?_; rintro x Wn ⟨rfl, hbx⟩; have hd3 := Lib.hid (hd2.out.trans (hbx.mono hd2.out.size)); clear hbx; dsimp only; refine hK.out _ _ (HS.out _ hd3.out) (fun hHeld => ?_); clear hK K; try simp only [Act.put, List.getElem_toArray, List.getElem_cons_succ, List.getElem_cons_zero, List.setIfInBounds_toArray, List.set_cons_zero, List.set_cons_succ])
  (refine wpAnyH_ready (rs := [11]) (by kernel_rfl) (by simp) ?_; refine AllReadyH.cons rfl (fun K hK => ?_) AllReadyH.nil; go_simp; refine (SY.out _ (HB0.out _ hd3.out)).mono ?_; rintro x Wn ⟨rfl, hbx⟩; have hd4 := Lib.hid (hd3.out.trans (hbx.mono hd3.out.size)); clear hbx; dsimp only; refine hK.out _ _ (HS.out _ hd4.out) (fun hHeld => ?_); clear hK K; try simp only [Act.put, List.getElem_toArray, List.getElem_cons_succ, List.getElem_cons_zero, List.setIfInBounds_toArray, List.set_cons_zero, List.set_cons_succ])
  (refine wpAnyH_take (i := 12) (v := (.bool true)) rfl (by kernel_rfl) (by kernel_rfl) (by kernel_rfl) (fun _ _ _ h => h) (Or.inl ⟨by rfl, (by intro w hSw; go_simp)⟩) (by assumption) ?_; try simp only [Act.put, List.getElem_toArray, List.getElem_cons_succ, List.getElem_cons_zero, List.setIfInBounds_toArray, List.set_cons_zero, List.set_cons_succ])
  (refine wpAnyH_take (i := 13) (v := (.bool true)) rfl (by kernel_rfl) (by kernel_rfl) (by kernel_rfl) (fun _ _ _ h => h) (Or.inl ⟨by rfl, (by intro w hSw; go_simp)⟩) (by assumption) ?_; try simp only [Act.put, List.getElem_toArray, List.getElem_cons_succ, List.getElem_cons_zero, List.setIfInBounds_toArray, List.set_cons_zero, List.set_cons_succ])
  (refine wpAnyH_take (i := 14) (v := (.bool true)) rfl (by kernel_rfl) (by kernel_rfl) (by kernel_rfl) (fun _ _ _ h => h) (Or.inl ⟨by rfl, (by intro w hSw; go_simp)⟩) (by assumption) ?_; try simp only [Act.put, List.getElem_toArray, List.getElem_cons_succ, List.getElem_cons_zero, List.setIfInBounds_toArray, List.set_cons_zero, List.set_cons_succ])
  (refine wpAnyH_ready (rs := [15]) (by kernel_rfl) (by simp) ?_; refine AllReadyH.cons rfl (fun K hK => ?_) AllReadyH.nil; go_simp; refine (FW.out _ (HB0.out _ hd4.out)).mono ?_; rintro x Wn ⟨rfl, hbx⟩; have hd5 := Lib.hid (hd4.out.trans (hbx.mono hd4.out.size)); clear hbx; dsimp only; refine hK.out _ _ (HS.out _ hd5.out) (fun hHeld => ?_); clear hK K; try simp only [Act.put, List.getElem_toArray, List.getElem_cons_succ, List.getElem_cons_zero, List.setIfInBounds_toArray, List.set_cons_zero, List.set_cons_succ])
  (refine wpAnyH_take (i := 16) (v := (.bool true)) rfl (by kernel_rfl) (by kernel_rfl) (by kernel_rfl) (fun _ _ _ h => h) (Or.inl ⟨by rfl, (by intro w hSw; go_simp)⟩) (by assumption) ?_; try simp only [Act.put, List.getElem_toArray, List.getElem_cons_succ, List.getElem_cons_zero, List.setIfInBounds_toArray, List.set_cons_zero, List.set_cons_succ])
  (refine wpAnyH_take (i := 17) (v := (.bool true)) rfl (by kernel_rfl) (by kernel_rfl) (by kernel_rfl) (fun _ _ _ h => h) (Or.inl ⟨by rfl, (by intro w hSw; go_simp)⟩) (by assumption) ?_; try simp only [Act.put, List.getElem_toArray, List.getElem_cons_succ, List.getElem_cons_zero, List.setIfInBounds_toArray, List.set_cons_zero, List.set_cons_succ])
  refine wpAnyH_done (by kernel_rfl) ?_ _
  go_wp2_with fail
  go_ret
  exact ⟨rfl, FIN.out _ hd5.out⟩
#print axioms texts_walk
end Go.Proofs.YtcffdceadmdecaaDoor
