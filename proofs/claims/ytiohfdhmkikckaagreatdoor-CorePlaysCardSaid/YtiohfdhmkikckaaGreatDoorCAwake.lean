/- Chapter 13: the law's awake. -/
import Derived.Test.YtiohfdhmkikckaaGreatDoorCMade
namespace Go.Proofs.YtiohfdhmkikckaaGreatDoor
set_option linter.unusedVariables false
set_option linter.unusedSimpArgs false
set_option linter.unnecessarySimpa false
open Go.RowKit
set_option maxHeartbeats 4000000
set_option maxRecDepth 100000
set_option linter.unusedVariables false
theorem eqE (k p a wd : Int) (s : Bool) (d v ca tv : Int) (w : World) : Sem.run Tryz.prog (Op.equalIn 10000 32 (.agg #[.int .i64 k, .int .u32 p, .int .u32 a, .int .i64 wd, .bool s, .int .i64 d, .int .u32 v, .int .u32 ca, .int .u32 tv]) (.agg #[.int .i64 k, .int .u32 p, .int .u32 a, .int .i64 wd, .bool s, .int .i64 d, .int .u32 v, .int .u32 ca, .int .u32 tv])) w = .ok true w := by
  go_simp
theorem eqEff {l : List Value} (h : IsEff l) (w : World) : Sem.run Tryz.prog (Op.equalIn 10000 32 (.agg l.toArray) (.agg l.toArray)) w = .ok true w := by
  obtain ⟨k, p, a, wd, s, d, v, ca, tv, rfl⟩ := h
  exact eqE k p a wd s d v ca tv w
def jalI : In := ⟨32, 1, 0, 0, 4, 0⟩
theorem jal_out (r : List Int) : excO r 8 (k3 4) 2 jalI = ⟨doneL 24, 0, Regs.putR r 1 12, 24, k3 4⟩ := by kernel_rfl
theorem get_put (r : List Int) (hl : r.length = 16) : Regs.getV (Regs.putR r 1 12) 1 = 12 := by
  have h1 : Regs.inR 1 = true := by decide
  simp [Regs.getV, Regs.putR, h1, List.getD_eq_getElem?_getD, hl]
theorem FileAt.len {W : World} {b : Nat} {r : List Int} {m : Bool} {pc : Int} (h : Regs.FileAt W b r m pc) : r.length = 16 := h.1
theorem awake_any (w : World) (ht : Isa.Tab w) : Calls Tryz.prog 13 #[] w fun e w' => e = .returned (.bool true) ∧ Below w.heap.size w w' := by
  have hq := eqE 0 24 0 0 false 0 0 0 0
  have MADE := Lib.hid (made_any (.slice none 0 0) [] (fun x hx => by cases hx) 8 4 w ⟨none, 0, rfl, Nat.le_refl _, by unfold maxLen; omega, fun h => absurd rfl h⟩)
  have HT := Lib.hid ht
  clear ht
  go_enter Tryz.func13, Tryz.ntmps13
  go_upto_region 4 with (first | (go_at_call 4; refine MADE.out.mono ?_; rintro x W1 ⟨b, c, g, e, rfl, h4⟩; generalize rV [] = r at h4; have H4 := Lib.hid h4; clear h4))
  go_upto_region 5 with (first | (go_at_call 5; refine (exec_any (i := jalI) H4.out.ok _ H4.out.f H4.out.k (HT.out.below H4.out.bel)).mono ?_; rw [jal_out]; rintro y W2 ⟨rfl, hf, hk, hm⟩; have HF := Lib.hid hf; have HB := Lib.hid (H4.out.bel.trans (hm.below (fun k hk => by have := H4.out.lb; have := H4.out.lc; simp at hk; omega) H4.out.bel.size)); clear hf hk hm) | (refine wpList_store_new rfl 32 (.tmp 5) (.tmp 22) rfl _ _ rfl rfl (by rw [info_eff]; rfl) rfl (eff_all 0 24 0 0 false 0 0 0 0) ?_))
  have EX : Hid (ObjAt (W2.alloc (.cells (doneL 24).toArray 32)) W2.heap.size 32 (doneL 24)) := ObjAt.new W2 _ _
  have H2 : Hid (Below w.heap.size w (W2.alloc (.cells (doneL 24).toArray 32))) := HB.out.alloc HB.out.size _
  have F2 : Hid (Regs.FileAt (W2.alloc (.cells (doneL 24).toArray 32)) b (Regs.putR r 1 12) true 24) := HF.out.below ((Below.refl _ _).alloc (Nat.le_refl _) _)
  generalize W2.alloc (.cells (doneL 24).toArray 32) = W3 at EX H2 F2 ⊢
  generalize W2.heap.size = m at EX ⊢
  clear H4 HF HB MADE HT
  have hgp := get_put r (by have := F2.out.1; simpa [Regs.putR_len] using this)
  go_upto_region 6 with (first | (go_at_call 21; refine (Regs.get_any 1 b _ 24 W3 F2.out).mono ?_; rintro y W4 ⟨rfl, rfl⟩; rw [hgp]))
  have c0 := EX.out.cell 0 _ rfl; have c1 := EX.out.cell 1 _ rfl; have c2 := EX.out.cell 2 _ rfl; have c3 := EX.out.cell 3 _ rfl; have c4 := EX.out.cell 4 _ rfl; have c5 := EX.out.cell 5 _ rfl; have c6 := EX.out.cell 6 _ rfl; have c7 := EX.out.cell 7 _ rfl; have c8 := EX.out.cell 8 _ rfl
  go_wp2_with fail
  go_ret
  exact ⟨rfl, H2.out⟩
#print axioms awake_any
end Go.Proofs.YtiohfdhmkikckaaGreatDoor
