/- Chapter 13: without registers. -/
import Derived.Test.YtiohfdhmkikckaaDoorCMade
import Derived.Test.YtiohfdhmkikckaaDoorCCsrU
namespace Go.Proofs.YtiohfdhmkikckaaDoor
set_option linter.unusedVariables false
set_option linter.unusedSimpArgs false
set_option linter.unnecessarySimpa false
open Go.RowKit
set_option maxHeartbeats 4000000
set_option maxRecDepth 100000
set_option linter.unusedVariables false
variable {W W' W0 : World} {i : In} {p b c g : Nat} {r r' : List Int} {pc pc' : Int} {cr cr' : List Int} {id : Int} {cs : List Value}
structure EZ (W0 W : World) (m g : Nat) (i : In) : Prop where
  ei : ObjAt W m 23 (insL i)
  eg : ObjAt W g 40 eff0
  bel : Below W0.heap.size W0 W
  hg : W0.heap.size ≤ g
theorem EZ.below {m : Nat} (h : EZ W0 W m g i) (hb : Below W.heap.size W W') : EZ W0 W' m g i := ⟨h.ei.below hb, h.eg.below hb, h.bel.trans (hb.mono h.bel.size), h.hg⟩
theorem EZ.new (W : World) (i : In) : EZ W ((W.alloc (.cells #[.int .i64 (i.op), .int .i64 (i.d), .int .i64 (i.a), .int .i64 (i.b), .int .i64 (i.n)] 23)).alloc (.cells #[.int .i64 0, .int .u32 0, .int .u32 0, .int .i64 0, .bool false, .int .i64 0, .int .u32 0, .int .u32 0, .int .u32 0] 40)) W.heap.size (W.heap.size + 1) i := by
  have e1 : (W.alloc (.cells #[.int .i64 (i.op), .int .i64 (i.d), .int .i64 (i.a), .int .i64 (i.b), .int .i64 (i.n)] 23)).heap.size = W.heap.size + 1 := by unfold World.alloc; exact Array.size_push _
  refine ⟨(ObjAt.new W _ (insL i)).below ((Below.refl _ _).alloc (Nat.le_refl _) _), ?_, ((Below.refl _ _).alloc (Nat.le_refl _) _).alloc (by omega) _, by omega⟩
  rw [← e1]
  exact ObjAt.new _ _ eff0
theorem EZ.row {m : Nat} (h : EZ W0 W m g i) (x : Array Value) : Below W0.heap.size W0 (W.setRow g x) := by
  have hu := Upd.setRow W g x
  exact bupd h.bel hu h.hg
def ExZ (W : World) (e : Ending) (W' : World) : Prop := e = .returned (.tuple #[.agg eff0.toArray, .int .i64 7]) ∧ Below W.heap.size W W'
theorem exec_zr (vr vc : Value) (W : World) (hg : ∀ W', Below W.heap.size W W' → Calls Tryd.prog 20 #[vr, .int .i64 0] W' fun e W'' => e = .returned (.tuple #[.int .u32 0, .int .i64 7]) ∧ W' = W'') :
    Calls Tryd.prog 9 #[(.agg #[.int .i64 (i.op), .int .i64 (i.d), .int .i64 (i.a), .int .i64 (i.b), .int .i64 (i.n)]), vr, vc, .int .i64 i.clk] W (ExZ W) := by
  have h0 := EZ.new W i
  have HG := Lib.hid hg
  clear hg
  go_enter Tryd.func9, Tryd.ntmps9
  go_upto_region 1 with fail
  generalize (W.alloc (.cells #[.int .i64 (i.op), .int .i64 (i.d), .int .i64 (i.a), .int .i64 (i.b), .int .i64 (i.n)] 23)).alloc (.cells #[.int .i64 0, .int .u32 0, .int .u32 0, .int .i64 0, .bool false, .int .i64 0, .int .u32 0, .int .u32 0, .int .u32 0] 40) = W1 at h0 ⊢
  generalize W.heap.size + 1 = g at h0 ⊢
  have H0 := Lib.hid h0
  clear h0
  go_wp2_with (first | (go_at_call 20; refine (HG.out _ H0.out.bel).mono ?_; rintro e W2 ⟨rfl, rfl⟩) | (refine wpList_store_block rfl 40 (.tmp 8) (.tmp 21) rfl g 40 _ _ rfl rfl H0.out.eg (by rw [info_eff]; rfl) rfl (eff_all 0 0 0 0 false 0 0 0 0) ?_))
  refine bodyPost_ret (v := .tuple #[.agg eff0.toArray, .int .i64 7]) ?_ rfl ⟨rfl, H0.out.row _⟩
  exact results_row_tmp rfl _ _ g _ _ (0, 0) _ rfl (setRow_heap _ _ _ _ _ _ H0.out.eg) Tryd.underlying40 rfl (by rw [info_eff]; rfl) _ rfl
theorem none_unc (v : Value) (W : World) (h : CsrU.Unmade W v) : Calls Tryd.prog 21 #[v] W fun e W' => e = .returned (.bool true) ∧ W = W' := by
  have H := Lib.hid h
  clear h
  go_enter Tryd.func21, Tryd.ntmps21
  go_wp2_with (go_at_call 37; refine (CsrU.read_un v 0 0 W H.out).mono ?_; rintro e W2 ⟨rfl, rfl⟩)
  go_ret
  exact ⟨rfl, rfl⟩
theorem exec_zc (vc : Value) (W : World) (h1 : Regs.FileAt W b r true pc) (hc : CsrU.Unmade W vc) :
    Calls Tryd.prog 9 #[(.agg #[.int .i64 (i.op), .int .i64 (i.d), .int .i64 (i.a), .int .i64 (i.b), .int .i64 (i.n)]), .pointer (some ⟨b, 0, none⟩), vc, .int .i64 i.clk] W (ExZ W) := by
  have h0 := EZ.new W i
  have H1 := Lib.hid h1; have HC := Lib.hid hc
  have hm0 : Regs.mayE 0 = 0 := rfl
  have hz := eq_zero [0, 0, 0, 0, 0, 0, 0] rfl
  have hzb : zb [0, 0, 0, 0, 0, 0, 0] = true := rfl
  rw [hzb] at hz
  simp only [List.map_cons, List.map_nil] at hz
  clear h1 hc hzb
  go_enter Tryd.func9, Tryd.ntmps9
  go_upto_region 1 with fail
  generalize (W.alloc (.cells #[.int .i64 (i.op), .int .i64 (i.d), .int .i64 (i.a), .int .i64 (i.b), .int .i64 (i.n)] 23)).alloc (.cells #[.int .i64 0, .int .u32 0, .int .u32 0, .int .i64 0, .bool false, .int .i64 0, .int .u32 0, .int .u32 0, .int .u32 0] 40) = W1 at h0 ⊢
  have F1 := Lib.hid (H1.out.below h0.bel)
  have U1 := Lib.hid (HC.out.below rfl h0.bel)
  generalize W.heap.size + 1 = g at h0 ⊢
  have H0 := Lib.hid h0
  clear h0 H1 HC
  go_wp2_with (first | (go_at_call 20; refine (Regs.get_any 0 b r pc _ F1.out).mono ?_; rintro e W2 ⟨rfl, rfl⟩; rw [hm0]) | (go_at_call 17; refine (CsrU.all_un vc _ U1.out).mono ?_; rintro e W2 ⟨rfl, hb⟩; have H2 := Lib.hid (H0.out.below hb); have U2 := Lib.hid (U1.out.below rfl hb); clear hb; simp only [List.map_cons, List.map_nil]) | (go_at_call 21; refine (none_unc vc _ U2.out).mono ?_; rintro e W3 ⟨rfl, rfl⟩) | (refine wpList_store_block rfl 40 (.tmp 8) (.tmp 30) rfl g 40 _ _ rfl rfl H2.out.eg (by rw [info_eff]; rfl) rfl (eff_all 0 0 0 0 false 0 0 0 0) ?_))
  refine bodyPost_ret (v := .tuple #[.agg eff0.toArray, .int .i64 7]) ?_ rfl ⟨rfl, H2.out.row _⟩
  exact results_row_tmp rfl _ _ g _ _ (0, 0) _ rfl (setRow_heap _ _ _ _ _ _ H2.out.eg) Tryd.underlying40 rfl (by rw [info_eff]; rfl) _ rfl
structure ZW (w W : World) (m b s d : Nat) (i : In) : Prop where
  ei : ObjAt W m 23 (insL i)
  fb : Regs.FileAt W b (List.replicate 16 0) true 0
  fs : Regs.FileAt W s (List.replicate 16 0) false 0
  ud : CsrU.Unmade W (.pointer (some ⟨d, 0, none⟩))
  bel : Below w.heap.size w W
theorem ZW.below {w : World} {m s d : Nat} (h : ZW w W m b s d i) (hb : Below W.heap.size W W') : ZW w W' m b s d i := ⟨h.ei.below hb, h.fb.below hb, h.fs.below hb, h.ud.below rfl hb, h.bel.trans (hb.mono h.bel.size)⟩
theorem zero_walk (op d a bb n : Int) (w : World) : Calls Tryd.prog 3 #[(.agg #[.int .i64 (op), .int .i64 (d), .int .i64 (a), .int .i64 (bb), .int .i64 (n)])] w fun e w' => e = .returned (.bool true) ∧ Below w.heap.size w w' := by
  have HN : Hid (ObjAt (w.alloc (.cells #[.int .i64 (op), .int .i64 (d), .int .i64 (a), .int .i64 (bb), .int .i64 (n)] 23)) w.heap.size 23 (insL ⟨op, d, a, bb, n, 0⟩)) := ObjAt.new w _ _
  have B0 : Hid (Below w.heap.size w (w.alloc (.cells #[.int .i64 (op), .int .i64 (d), .int .i64 (a), .int .i64 (bb), .int .i64 (n)] 23))) := (Below.refl _ _).alloc (Nat.le_refl _) _
  go_enter Tryd.func3, Tryd.ntmps3
  go_upto_region 1 with fail
  generalize w.alloc (.cells #[.int .i64 (op), .int .i64 (d), .int .i64 (a), .int .i64 (bb), .int .i64 (n)] 23) = W0 at HN B0 ⊢
  go_upto_region 3 with (first | (go_at_call 7; refine (Regs.new_any _).mono ?_; rintro x W1 ⟨rfl, hf, hb, _⟩; have F1 := Lib.hid hf; have B1 := Lib.hid hb; clear hf hb) | (go_at_call 8; refine (Csr.new_any 0 _ (by omega) (by omega)).mono ?_; rintro x W2 ⟨c, rfl, hf, hb, hs⟩; have B2 := Lib.hid hb; clear hf hb hs))
  obtain ⟨b, hbb⟩ : ∃ b, b = W0.heap.size := ⟨_, rfl⟩
  obtain ⟨m, hmm⟩ : ∃ b, b = w.heap.size := ⟨_, rfl⟩
  rw [← hbb] at F1 ⊢
  rw [← hmm] at HN ⊢
  go_upto_region 4 with fail
  have F3 : Hid (Regs.FileAt (W2.alloc (.cells #[.int .u32 0, .int .u32 0, .int .u32 0, .int .u32 0, .int .u32 0, .int .u32 0, .int .u32 0, .int .u32 0, .int .u32 0, .int .u32 0, .int .u32 0, .int .u32 0, .int .u32 0, .int .u32 0, .int .u32 0, .int .u32 0, .bool false, .int .u32 0] 35)) W2.heap.size (List.replicate 16 0) false 0) := ⟨rfl, new_block W2 _ _ rfl⟩
  have B3 : Hid (Below W2.heap.size W2 (W2.alloc (.cells #[.int .u32 0, .int .u32 0, .int .u32 0, .int .u32 0, .int .u32 0, .int .u32 0, .int .u32 0, .int .u32 0, .int .u32 0, .int .u32 0, .int .u32 0, .int .u32 0, .int .u32 0, .int .u32 0, .int .u32 0, .int .u32 0, .bool false, .int .u32 0] 35))) := (Below.refl _ _).alloc (Nat.le_refl _) _
  generalize W2.alloc (.cells #[.int .u32 0, .int .u32 0, .int .u32 0, .int .u32 0, .int .u32 0, .int .u32 0, .int .u32 0, .int .u32 0, .int .u32 0, .int .u32 0, .int .u32 0, .int .u32 0, .int .u32 0, .int .u32 0, .int .u32 0, .int .u32 0, .bool false, .int .u32 0] 35) = W3 at F3 B3 ⊢
  go_upto_region 5 with fail
  have U4 : Hid (CsrU.Unmade (W3.alloc (.cells #[.int .u32 0, .int .u32 0, .int .u32 0, .int .u32 0, .int .u32 0, .int .u32 0, .int .u32 0, .int .i64 0, .bool false] 38)) (.pointer (some ⟨W3.heap.size, 0, none⟩))) := .inr ⟨_, rfl, (ObjAt.newA W3 38 #[.int .u32 0, .int .u32 0, .int .u32 0, .int .u32 0, .int .u32 0, .int .u32 0, .int .u32 0, .int .i64 0, .bool false]).cell 8 _ rfl⟩
  have B4 : Hid (Below W3.heap.size W3 (W3.alloc (.cells #[.int .u32 0, .int .u32 0, .int .u32 0, .int .u32 0, .int .u32 0, .int .u32 0, .int .u32 0, .int .i64 0, .bool false] 38))) := (Below.refl _ _).alloc (Nat.le_refl _) _
  generalize W3.alloc (.cells #[.int .u32 0, .int .u32 0, .int .u32 0, .int .u32 0, .int .u32 0, .int .u32 0, .int .u32 0, .int .i64 0, .bool false] 38) = W4 at U4 B4 ⊢
  generalize W3.heap.size = dd at U4 ⊢
  generalize W2.heap.size = ss at F3 ⊢
  have H4 : Hid (ZW w W4 m b ss dd ⟨op, d, a, bb, n, 0⟩) :=
    ⟨(((HN.out.below B1.out).below B2.out).below B3.out).below B4.out, ((F1.out.below B2.out).below B3.out).below B4.out, F3.out.below B4.out, U4.out, bmore (bmore (bmore (bmore B0.out B1.out) B2.out) B3.out) B4.out⟩
  clear HN B0 F1 B1 B2 F3 B3 U4 B4 hbb hmm
  (have q0 := H4.out.ei.cell 0 _ rfl; have q1 := H4.out.ei.cell 1 _ rfl; have q2 := H4.out.ei.cell 2 _ rfl; have q3 := H4.out.ei.cell 3 _ rfl; have q4 := H4.out.ei.cell 4 _ rfl; go_upto_region 6 with (first | (go_at_call 9; refine (exec_zr (i := ⟨op, d, a, bb, n, 0⟩) _ _ _ (fun W' _ => Regs.get_nil 0 W')).mono ?_; rintro y Wn ⟨rfl, hb⟩; have Hx := Lib.hid (H4.out.below hb); clear hb) | (refine wpList_store_new rfl 40 (.tmp 8) (.tmp 25) rfl _ _ rfl rfl (by rw [info_eff]; rfl) rfl (eff_all 0 0 0 0 false 0 0 0 0) ?_)); clear q0 q1 q2 q3 q4; have H5 := Lib.hid (Hx.out.below ((Below.refl _ _).alloc (Nat.le_refl _) (.cells eff0.toArray 40))))
  (have q0 := H5.out.ei.cell 0 _ rfl; have q1 := H5.out.ei.cell 1 _ rfl; have q2 := H5.out.ei.cell 2 _ rfl; have q3 := H5.out.ei.cell 3 _ rfl; have q4 := H5.out.ei.cell 4 _ rfl; go_upto_region 7 with (first | (go_at_call 9; refine (exec_zc (i := ⟨op, d, a, bb, n, 0⟩) _ _ H5.out.fb (.inl rfl)).mono ?_; rintro y Wn ⟨rfl, hb⟩; have Hx := Lib.hid (H5.out.below hb); clear hb) | (refine wpList_store_new rfl 40 (.tmp 10) (.tmp 31) rfl _ _ rfl rfl (by rw [info_eff]; rfl) rfl (eff_all 0 0 0 0 false 0 0 0 0) ?_)); clear q0 q1 q2 q3 q4; have H6 := Lib.hid (Hx.out.below ((Below.refl _ _).alloc (Nat.le_refl _) (.cells eff0.toArray 40))))
  (have q0 := H6.out.ei.cell 0 _ rfl; have q1 := H6.out.ei.cell 1 _ rfl; have q2 := H6.out.ei.cell 2 _ rfl; have q3 := H6.out.ei.cell 3 _ rfl; have q4 := H6.out.ei.cell 4 _ rfl; go_upto_region 8 with (first | (go_at_call 9; refine (exec_zr (i := ⟨op, d, a, bb, n, 0⟩) _ _ _ (fun W' hb => Regs.get_un 0 ss _ 0 W' (H6.out.fs.below hb))).mono ?_; rintro y Wn ⟨rfl, hb⟩; have Hx := Lib.hid (H6.out.below hb); clear hb) | (refine wpList_store_new rfl 40 (.tmp 12) (.tmp 37) rfl _ _ rfl rfl (by rw [info_eff]; rfl) rfl (eff_all 0 0 0 0 false 0 0 0 0) ?_)); clear q0 q1 q2 q3 q4; have H7 := Lib.hid (Hx.out.below ((Below.refl _ _).alloc (Nat.le_refl _) (.cells eff0.toArray 40))))
  (have q0 := H7.out.ei.cell 0 _ rfl; have q1 := H7.out.ei.cell 1 _ rfl; have q2 := H7.out.ei.cell 2 _ rfl; have q3 := H7.out.ei.cell 3 _ rfl; have q4 := H7.out.ei.cell 4 _ rfl; go_upto_region 9 with (first | (go_at_call 9; refine (exec_zc (i := ⟨op, d, a, bb, n, 0⟩) _ _ H7.out.fb H7.out.ud).mono ?_; rintro y Wn ⟨rfl, hb⟩; have Hx := Lib.hid (H7.out.below hb); clear hb) | (refine wpList_store_new rfl 40 (.tmp 14) (.tmp 43) rfl _ _ rfl rfl (by rw [info_eff]; rfl) rfl (eff_all 0 0 0 0 false 0 0 0 0) ?_)); clear q0 q1 q2 q3 q4; have H8 := Lib.hid (Hx.out.below ((Below.refl _ _).alloc (Nat.le_refl _) (.cells eff0.toArray 40))))
  go_wp2_with fail
  go_ret
  exact ⟨rfl, H8.out.bel⟩
#print axioms zero_walk
end Go.Proofs.YtiohfdhmkikckaaDoor
