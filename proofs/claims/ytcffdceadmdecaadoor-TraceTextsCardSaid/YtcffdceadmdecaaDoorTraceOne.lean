/- The walk of the law TraceOne. -/
import Derived.Test.YtcffdceadmdecaaDoorTr2
import Derived.Test.YtcffdceadmdecaaDoorTrLaw
namespace Go.Proofs.YtcffdceadmdecaaDoor
set_option linter.unusedVariables false
set_option linter.unusedSimpArgs false
set_option linter.unnecessarySimpa false
open Go.RowKit Go.Sort
set_option maxHeartbeats 2000000
set_option maxRecDepth 100000
set_option linter.unusedVariables false

theorem ba_beq (a b : ByteArray) : (a == b) = decide (a = b) := by
  rw [beq_toListBytes, ByteArray.toList_eq, ByteArray.toList_eq]
  by_cases h : a = b
  · subst h; simp
  · have : ¬ a.data = b.data := fun q => h (ByteArray.ext q)
    simp [h, this]
def kOf (k : Int) : Int := 1 + (IntKind.u8.wrap k) % 6
theorem kOf_bd (k : Int) : 1 ≤ kOf k ∧ kOf k ≤ 6 := by unfold kOf; rw [IntKind.wrap_u8]; omega
def Ev.at_ (e : Ev) : Ev := { e with k := kOf e.k }
theorem at_ok {e : Ev} (h : e.Ok) : e.at_.Ok := ⟨by have := kOf_bd e.k; simp [Ev.at_]; omega, h.clock, h.code, h.val, h.pc, h.len, h.rs⟩
theorem cells_all (e : Ev) : e.cells.toArray.all (·.oneCell') = true := all_oneCell_toArray (cells_one e)

theorem one_walk (a b : Ev) (oa : a.Ok) (ob : b.Ok) (w : World) (hW : WordsIs w) (hP : PowIs w) : Calls Tryd.prog 3 #[.agg a.cells.toArray, .agg b.cells.toArray] w fun x w' => x = .returned (.bool true) ∧ Below w.heap.size w w' := by
  have la := cells_len oa; have lb := cells_len ob
  have e1 : Hid ((w.alloc (.cells a.cells.toArray 25)).heap.size = w.heap.size + 1) := by unfold World.alloc; exact Array.size_push _
  have la' := Lib.hid la; have lb' := Lib.hid lb
  have HX : Hid (Ev.cells a.at_ = a.cells.set 0 (.int .i64 (kOf a.k))) := rfl
  have HY : Hid (Ev.cells b.at_ = b.cells.set 0 (.int .i64 (kOf b.k))) := rfl
  go_enter Tryd.func3, Tryd.ntmps3
  go_upto_region 1 with (fail)
  have EA : Hid (ObjAt ((w.alloc (.cells a.cells.toArray 25)).alloc (.cells b.cells.toArray 25)) w.heap.size 25 a.cells) := (ObjAt.new w _ _).below ((Below.refl _ _).alloc (Nat.le_refl _) _)
  have EB : Hid (ObjAt ((w.alloc (.cells a.cells.toArray 25)).alloc (.cells b.cells.toArray 25)) (w.heap.size + 1) 25 b.cells) := by rw [← e1.out]; exact ObjAt.new _ _ _
  have BL : Hid (Below w.heap.size w ((w.alloc (.cells a.cells.toArray 25)).alloc (.cells b.cells.toArray 25))) := ((Below.refl _ _).alloc (Nat.le_refl _) _).alloc (by rw [e1.out]; omega) _
  have SZ : Hid (((w.alloc (.cells a.cells.toArray 25)).alloc (.cells b.cells.toArray 25)).heap.size = w.heap.size + 1 + 1) := by rw [Hid, ← e1.out]; unfold World.alloc; exact Array.size_push _
  generalize (w.alloc (.cells a.cells.toArray 25)).alloc (.cells b.cells.toArray 25) = W2 at EA EB BL SZ ⊢
  clear e1
  go_upto_region 2 with (first | (refine wpList_load_mid rfl 25 (.tmp 2) rfl w.heap.size 0 rfl a.cells _ (EA.out.range 0 _ (fun j v h => by simpa using h)) Tryd.underlying25 rfl (by rw [info_ev2, la'.out]) ?_) | (refine wpList_store_new rfl 25 (.tmp 5) (.tmp 7) rfl _ _ rfl rfl (by rw [info_ev2]; simp [la'.out]) (by simp [la'.out]) (cells_all a) ?_))
  have EX : Hid (ObjAt (W2.alloc (.cells a.cells.toArray 25)) W2.heap.size 25 a.cells) := ObjAt.new _ _ _
  have EA3 : Hid (ObjAt (W2.alloc (.cells a.cells.toArray 25)) w.heap.size 25 a.cells) := EA.out.below ((Below.refl _ _).alloc (Nat.le_refl _) _)
  have EB3 : Hid (ObjAt (W2.alloc (.cells a.cells.toArray 25)) (w.heap.size + 1) 25 b.cells) := EB.out.below ((Below.refl _ _).alloc (Nat.le_refl _) _)
  have BL3 : Hid (Below w.heap.size w (W2.alloc (.cells a.cells.toArray 25))) := BL.out.alloc (by rw [SZ.out]; omega) _
  have SZ3 : Hid ((W2.alloc (.cells a.cells.toArray 25)).heap.size = W2.heap.size + 1) := by unfold World.alloc; exact Array.size_push _
  generalize W2.alloc (.cells a.cells.toArray 25) = W3 at EX EA3 EB3 BL3 SZ3 ⊢
  clear EA EB BL
  go_upto_region 3 with (first | (refine wpList_load_mid rfl 25 (.tmp 3) rfl (w.heap.size + 1) 0 rfl b.cells _ (EB3.out.range 0 _ (fun j v h => by simpa using h)) Tryd.underlying25 rfl (by rw [info_ev2, lb'.out]) ?_) | (refine wpList_store_new rfl 25 (.tmp 6) (.tmp 8) rfl _ _ rfl rfl (by rw [info_ev2]; simp [lb'.out]) (by simp [lb'.out]) (cells_all b) ?_))
  have EY4 : Hid (ObjAt (W3.alloc (.cells b.cells.toArray 25)) W3.heap.size 25 b.cells) := ObjAt.new _ _ _
  have EX4 : Hid (ObjAt (W3.alloc (.cells b.cells.toArray 25)) W2.heap.size 25 a.cells) := EX.out.below ((Below.refl _ _).alloc (Nat.le_refl _) _)
  have EA4 : Hid (ObjAt (W3.alloc (.cells b.cells.toArray 25)) w.heap.size 25 a.cells) := EA3.out.below ((Below.refl _ _).alloc (Nat.le_refl _) _)
  have EB4 : Hid (ObjAt (W3.alloc (.cells b.cells.toArray 25)) (w.heap.size + 1) 25 b.cells) := EB3.out.below ((Below.refl _ _).alloc (Nat.le_refl _) _)
  have BL4 : Hid (Below w.heap.size w (W3.alloc (.cells b.cells.toArray 25))) := BL3.out.alloc (by rw [SZ3.out, SZ.out]; omega) _
  generalize W3.alloc (.cells b.cells.toArray 25) = W4 at EX4 EY4 EA4 EB4 BL4 ⊢
  clear EX EA3 EB3 BL3 la lb
  obtain ⟨px, hpx⟩ : ∃ px, px = W2.heap.size := ⟨_, rfl⟩
  obtain ⟨py, hpy⟩ : ∃ py, py = W3.heap.size := ⟨_, rfl⟩
  rw [← hpx] at EX4 SZ3 SZ ⊢
  rw [← hpy] at EY4 SZ3 ⊢
  have qx : Hid (px = w.heap.size + 1 + 1) := SZ.out
  have qy : Hid (py = px + 1) := SZ3.out
  clear hpx hpy SZ SZ3
  have cA := EA4.out.cell 0 (.int .i64 a.k) rfl
  have cX := EX4.out.cell 0 (.int .i64 a.k) rfl
  have fX := EX4.out.free 0
  obtain ⟨m, hm⟩ : ∃ m : Nat, IntKind.u8.wrap a.k = (m : Int) := ⟨(IntKind.u8.wrap a.k).toNat, by rw [IntKind.wrap_u8]; omega⟩
  have hm2 : m < 256 := by rw [IntKind.wrap_u8] at hm; omega
  have kA : Hid (kOf a.k = 1 + (m : Int) % 6) := by rw [Hid]; unfold kOf; rw [hm]
  go_upto_region 4 with (fail)
  have EX5 : Hid (ObjAt (W4.setCell ⟨px, 0, none⟩ (.int .i64 (1 + (m : Int) % 6))) px 25 a.at_.cells) := by rw [Hid, HX.out, ← kA.out.symm]; exact EX4.out.set 0 _
  have EY5 : Hid (ObjAt (W4.setCell ⟨px, 0, none⟩ (.int .i64 (1 + (m : Int) % 6))) py 25 b.cells) := EY4.out.upd (Upd.setCell W4 ⟨px, 0, none⟩ _) (by rw [qy.out]; simp)
  have EB5 : Hid (ObjAt (W4.setCell ⟨px, 0, none⟩ (.int .i64 (1 + (m : Int) % 6))) (w.heap.size + 1) 25 b.cells) := EB4.out.upd (Upd.setCell W4 ⟨px, 0, none⟩ _) (by rw [qx.out]; simp)
  have BL5 : Hid (Below w.heap.size w (W4.setCell ⟨px, 0, none⟩ (.int .i64 (1 + (m : Int) % 6)))) := BL4.out.setCell (p := ⟨px, 0, none⟩) (by rw [qx.out]; simp; omega) _
  clear cA cX fX hm hm2 kA
  generalize W4.setCell ⟨px, 0, none⟩ (.int .i64 (1 + (m : Int) % 6)) = W5 at EX5 EY5 EB5 BL5 ⊢
  clear EX4 EY4 EA4 EB4 BL4
  have cB := EB5.out.cell 0 (.int .i64 b.k) rfl
  have cY := EY5.out.cell 0 (.int .i64 b.k) rfl
  have fY := EY5.out.free 0
  obtain ⟨m2, hm⟩ : ∃ m : Nat, IntKind.u8.wrap b.k = (m : Int) := ⟨(IntKind.u8.wrap b.k).toNat, by rw [IntKind.wrap_u8]; omega⟩
  have hm2 : m2 < 256 := by rw [IntKind.wrap_u8] at hm; omega
  have kB : Hid (kOf b.k = 1 + (m2 : Int) % 6) := by rw [Hid]; unfold kOf; rw [hm]
  go_upto_region 5 with (fail)
  have EY6 : Hid (ObjAt (W5.setCell ⟨py, 0, none⟩ (.int .i64 (1 + (m2 : Int) % 6))) py 25 b.at_.cells) := by rw [Hid, HY.out, ← kB.out.symm]; exact EY5.out.set 0 _
  have EX6 : Hid (ObjAt (W5.setCell ⟨py, 0, none⟩ (.int .i64 (1 + (m2 : Int) % 6))) px 25 a.at_.cells) := EX5.out.upd (Upd.setCell W5 ⟨py, 0, none⟩ _) (by rw [qy.out]; simp)
  have BL6 : Hid (Below w.heap.size w (W5.setCell ⟨py, 0, none⟩ (.int .i64 (1 + (m2 : Int) % 6)))) := BL5.out.setCell (p := ⟨py, 0, none⟩) (by rw [qy.out, qx.out]; simp; omega) _
  clear cB cY fY hm hm2 kB
  generalize W5.setCell ⟨py, 0, none⟩ (.int .i64 (1 + (m2 : Int) % 6)) = W6 at EX6 EY6 BL6 ⊢
  clear EX5 EY5 EB5 BL5
  have OX := at_ok oa; have OY := at_ok ob
  have hxl := cells_len OX; have hyl := cells_len OY
  have kx := kOf_bd a.k; have ky := kOf_bd b.k
  have inj : textL a.at_ = textL b.at_ → a.at_ = b.at_ := textL_inj _ _ kx ky OX.len OY.len
  have hq := eq_ev a.at_ b.at_ OX.len OY.len
  have HOX := Lib.hid OX; have HOY := Lib.hid OY
  clear HX HY kx ky la' lb' oa ob OX OY
  generalize a.at_ = x at *
  generalize b.at_ = y at *
  have hS0 : W6.drew.rangeAt px 0 x.cells ∧ W6.drew.rangeAt py 0 y.cells := ⟨EX6.out.range 0 _ (fun j v h => by simpa using h), EY6.out.range 0 _ (fun j v h => by simpa using h)⟩
  have HB : Hid (∀ W', Below W6.heap.size W6 W' → W'.rangeAt px 0 x.cells ∧ W'.rangeAt py 0 y.cells) := fun W' hb => ⟨(EX6.out.below hb).range 0 _ (fun j v h => by simpa using h), (EY6.out.below hb).range 0 _ (fun j v h => by simpa using h)⟩
  have hbt : Hid ((⟨(textL x).toArray⟩ : ByteArray) = ⟨(textL y).toArray⟩ ↔ x = y) := ⟨fun h => inj (by simpa using h), fun h => by rw [h]⟩
  clear inj
  obtain ⟨sx, hsx⟩ : ∃ sx, sx = (⟨(textL x).toArray⟩ : ByteArray) := ⟨_, rfl⟩
  obtain ⟨sy, hsy⟩ : ∃ sy, sy = (⟨(textL y).toArray⟩ : ByteArray) := ⟨_, rfl⟩
  have TX : Hid (∀ w, WordsIs w → PowIs w → Calls Tryd.prog 7 #[.agg x.cells.toArray] w fun e w' => e = .returned (.string sx) ∧ Below w.heap.size w w') := by rw [hsx]; exact fun w h1 h2 => text_ev x HOX.out w h1 h2
  have TY : Hid (∀ w, WordsIs w → PowIs w → Calls Tryd.prog 7 #[.agg y.cells.toArray] w fun e w' => e = .returned (.string sy) ∧ Below w.heap.size w w') := by rw [hsy]; exact fun w h1 h2 => text_ev y HOY.out w h1 h2
  have hst : Hid (sx = sy ↔ x = y) := by rw [hsx, hsy]; exact hbt
  clear hsx hsy hbt
  have HW := Lib.hid hW; have HP := Lib.hid hP
  clear hW hP
  have FINAL : ∀ v : Bool, v = decide (x = y) → (v == decide (x = y)) = true := fun v h => by simp [h]
  refine wp_region_held_drew (S := fun W' => W'.rangeAt px 0 x.cells ∧ W'.rangeAt py 0 y.cells) (by kernel_rfl) hS0 (fun hHeld => ?_)
  (refine wpAnyH_take (i := 0) (v := .agg (x).cells.toArray) rfl (by kernel_rfl) (by kernel_rfl) (by kernel_rfl) (fun _ _ _ h => h) (yieldsIf_load_mid (by rfl) 25 (.tmp 5) rfl px 0 rfl (x).cells _ (fun w h => h.1) Tryd.underlying25 rfl (by rw [info_ev2, hxl])) (by assumption) ?_; try simp only [Act.put, List.getElem_toArray, List.getElem_cons_succ, List.getElem_cons_zero, List.setIfInBounds_toArray, List.set_cons_zero, List.set_cons_succ])
  (refine wpAnyH_take (i := 2) (v := .agg (y).cells.toArray) rfl (by kernel_rfl) (by kernel_rfl) (by kernel_rfl) (fun _ _ _ h => h) (yieldsIf_load_mid (by rfl) 25 (.tmp 6) rfl py 0 rfl (y).cells _ (fun w h => h.2) Tryd.underlying25 rfl (by rw [info_ev2, hyl])) (by assumption) ?_; try simp only [Act.put, List.getElem_toArray, List.getElem_cons_succ, List.getElem_cons_zero, List.setIfInBounds_toArray, List.set_cons_zero, List.set_cons_succ])
  (refine wpAnyH_take (i := 5) (v := .agg (x).cells.toArray) rfl (by kernel_rfl) (by kernel_rfl) (by kernel_rfl) (fun _ _ _ h => h) (yieldsIf_load_mid (by rfl) 25 (.tmp 5) rfl px 0 rfl (x).cells _ (fun w h => h.1) Tryd.underlying25 rfl (by rw [info_ev2, hxl])) (by assumption) ?_; try simp only [Act.put, List.getElem_toArray, List.getElem_cons_succ, List.getElem_cons_zero, List.setIfInBounds_toArray, List.set_cons_zero, List.set_cons_succ])
  (refine wpAnyH_take (i := 6) (v := .agg (y).cells.toArray) rfl (by kernel_rfl) (by kernel_rfl) (by kernel_rfl) (fun _ _ _ h => h) (yieldsIf_load_mid (by rfl) 25 (.tmp 6) rfl py 0 rfl (y).cells _ (fun w h => h.2) Tryd.underlying25 rfl (by rw [info_ev2, hyl])) (by assumption) ?_; try simp only [Act.put, List.getElem_toArray, List.getElem_cons_succ, List.getElem_cons_zero, List.setIfInBounds_toArray, List.set_cons_zero, List.set_cons_succ])
  (refine wpAnyH_take (i := 7) (v := (.bool (decide (x = y)))) rfl (by kernel_rfl) (by kernel_rfl) (by kernel_rfl) (fun _ _ _ h => h) (Or.inl ⟨by rfl, (by intro w hSw; go_simp)⟩) (by assumption) ?_; try simp only [Act.put, List.getElem_toArray, List.getElem_cons_succ, List.getElem_cons_zero, List.setIfInBounds_toArray, List.set_cons_zero, List.set_cons_succ])
  (refine wpAnyH_ready (rs := [1]) (by kernel_rfl) (by simp) ?_; refine AllReadyH.cons rfl (fun K hK => ?_) AllReadyH.nil)
  go_simp
  refine (TX.out _ (HW.out.below BL6.out.drew) (HP.out.below BL6.out.drew)).mono ?_
  rintro v W7 ⟨rfl, hb7⟩
  have h67 : Below W6.heap.size W6 W7 := ((Below.refl _ W6).drew).trans hb7
  have HB7 := Lib.hid h67
  clear h67
  dsimp only
  (refine hK.out _ _ (HB.out _ HB7.out) (fun hHeld => ?_); clear hK K; try simp only [Act.put, List.getElem_toArray, List.getElem_cons_succ, List.getElem_cons_zero, List.setIfInBounds_toArray, List.set_cons_zero, List.set_cons_succ])
  (refine wpAnyH_ready (rs := [3]) (by kernel_rfl) (by simp) ?_; refine AllReadyH.cons rfl (fun K hK => ?_) AllReadyH.nil)
  go_simp
  refine (TY.out _ (HW.out.below (BL6.out.trans (HB7.out.mono BL6.out.size))) (HP.out.below (BL6.out.trans (HB7.out.mono BL6.out.size)))).mono ?_
  rintro v W8 ⟨rfl, hb8⟩
  have h68 : Below W6.heap.size W6 W8 := HB7.out.trans (hb8.mono HB7.out.size)
  have HB8 := Lib.hid h68
  clear h68
  dsimp only
  (refine hK.out _ _ (HB.out _ HB8.out) (fun hHeld => ?_); clear hK K; try simp only [Act.put, List.getElem_toArray, List.getElem_cons_succ, List.getElem_cons_zero, List.setIfInBounds_toArray, List.set_cons_zero, List.set_cons_succ])
  have hv : (sx.toList == sy.toList) = decide (x = y) := by
    rw [← beq_toListBytes, ba_beq]; exact decide_eq_decide.2 hst.out
  (refine wpAnyH_take (i := 4) (v := (.bool (decide (x = y)))) rfl (by kernel_rfl) (by kernel_rfl) (by kernel_rfl) (fun _ _ _ h => h) (Or.inl ⟨by rfl, (by intro w hSw; go_simp)⟩) (by assumption) ?_; try simp only [Act.put, List.getElem_toArray, List.getElem_cons_succ, List.getElem_cons_zero, List.setIfInBounds_toArray, List.set_cons_zero, List.set_cons_succ])
  clear hv
  (refine wpAnyH_take (i := 8) (v := (.bool true)) rfl (by kernel_rfl) (by kernel_rfl) (by kernel_rfl) (fun _ _ _ h => h) (Or.inl ⟨by rfl, (by intro w hSw; go_simp)⟩) (by assumption) ?_; try simp only [Act.put, List.getElem_toArray, List.getElem_cons_succ, List.getElem_cons_zero, List.setIfInBounds_toArray, List.set_cons_zero, List.set_cons_succ])
  (refine wpAnyH_take (i := 9) (v := (.bool true)) rfl (by kernel_rfl) (by kernel_rfl) (by kernel_rfl) (fun _ _ _ h => h) (Or.inl ⟨by rfl, (by intro w hSw; go_simp)⟩) (by assumption) ?_; try simp only [Act.put, List.getElem_toArray, List.getElem_cons_succ, List.getElem_cons_zero, List.setIfInBounds_toArray, List.set_cons_zero, List.set_cons_succ])
  (refine wpAnyH_ready (rs := [10]) (by kernel_rfl) (by simp) ?_; refine AllReadyH.cons rfl (fun K hK => ?_) AllReadyH.nil)
  go_simp
  refine (awake_any _ (HW.out.below (BL6.out.trans (HB8.out.mono BL6.out.size))) (HP.out.below (BL6.out.trans (HB8.out.mono BL6.out.size)))).mono ?_
  rintro v W9 ⟨rfl, hb9⟩
  have h69 : Below W6.heap.size W6 W9 := HB8.out.trans (hb9.mono HB8.out.size)
  have HB9 := Lib.hid h69
  clear h69
  dsimp only
  (refine hK.out _ _ (HB.out _ HB9.out) (fun hHeld => ?_); clear hK K; try simp only [Act.put, List.getElem_toArray, List.getElem_cons_succ, List.getElem_cons_zero, List.setIfInBounds_toArray, List.set_cons_zero, List.set_cons_succ])
  (refine wpAnyH_take (i := 11) (v := (.bool true)) rfl (by kernel_rfl) (by kernel_rfl) (by kernel_rfl) (fun _ _ _ h => h) (Or.inl ⟨by rfl, (by intro w hSw; go_simp)⟩) (by assumption) ?_; try simp only [Act.put, List.getElem_toArray, List.getElem_cons_succ, List.getElem_cons_zero, List.setIfInBounds_toArray, List.set_cons_zero, List.set_cons_succ])
  (refine wpAnyH_take (i := 12) (v := (.bool true)) rfl (by kernel_rfl) (by kernel_rfl) (by kernel_rfl) (fun _ _ _ h => h) (Or.inl ⟨by rfl, (by intro w hSw; go_simp)⟩) (by assumption) ?_; try simp only [Act.put, List.getElem_toArray, List.getElem_cons_succ, List.getElem_cons_zero, List.setIfInBounds_toArray, List.set_cons_zero, List.set_cons_succ])
  refine wpAnyH_done (by kernel_rfl) ?_ _
  go_wp2_with fail
  go_ret
  exact ⟨rfl, BL6.out.trans (HB9.out.mono BL6.out.size)⟩
#print axioms one_walk
end Go.Proofs.YtcffdceadmdecaaDoor
