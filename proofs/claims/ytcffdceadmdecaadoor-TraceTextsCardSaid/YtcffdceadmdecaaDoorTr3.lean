/- The last event of a trace. -/
import Derived.Test.YtcffdceadmdecaaDoorTr2
namespace Go.Proofs.YtcffdceadmdecaaDoor
set_option linter.unusedVariables false
set_option linter.unusedSimpArgs false
set_option linter.unnecessarySimpa false
open Go.RowKit Go.Sort
set_option maxHeartbeats 2000000
set_option maxRecDepth 100000
set_option linter.unusedVariables false
theorem cells_all (e : Ev) : e.cells.toArray.all (·.oneCell') = true := all_oneCell_toArray (cells_one e)
theorem last_any (B b : Nat) (a : Option Addr) (c : Nat) (l : List Ev) (e : Ev) (w : World) (h : TrO w B b a c (l ++ [e])) (hn : (l ++ [e]).length ≤ 4096) : Calls Tryd.prog 16 #[.pointer (some ⟨b, 0, none⟩)] w fun x w' => x = .returned (.tuple #[.agg e.cells.toArray, .bool true]) ∧ Below w.heap.size w w' := by
  have ok : e.Ok := h.oks e (by simp)
  have hl := cells_len ok
  have hlen : (l ++ [e]).length = l.length + 1 := by simp
  obtain ⟨g, rfl, hgB, hgl⟩ := h.own.at_ (by omega)
  have H0 : Hid (∀ o : Obj, TrO (w.alloc o) B b (some ⟨g, 0, none⟩) c (l ++ [e])) := fun o => h.below ((Below.refl _ _).alloc (Nat.le_refl _) o)
  have hbw := Lib.hid h.obj.lt
  clear h
  go_enter Tryd.func16, Tryd.ntmps16
  go_upto_region 1 with (fail)
  have HZ : Hid ((w.alloc (.cells #[.int .i64 0, .int .i64 0, .int .u32 0, .int .u32 0, .int .u32 0, .int .u32 0, .int .u32 0, .int .u32 0, .int .u32 0, .int .u32 0, .int .u32 0, .int .u32 0, .int .u32 0, .int .u32 0, .int .u32 0, .int .u32 0, .int .u32 0, .int .u32 0, .int .u32 0, .int .u32 0, .int .u32 0] 25)).heap[w.heap.size]? = some (.cells #[.int .i64 0, .int .i64 0, .int .u32 0, .int .u32 0, .int .u32 0, .int .u32 0, .int .u32 0, .int .u32 0, .int .u32 0, .int .u32 0, .int .u32 0, .int .u32 0, .int .u32 0, .int .u32 0, .int .u32 0, .int .u32 0, .int .u32 0, .int .u32 0, .int .u32 0, .int .u32 0, .int .u32 0] 25 (0, 0))) := new_block _ _ _ rfl
  have HT := Lib.hid (H0.out (.cells #[.int .i64 0, .int .i64 0, .int .u32 0, .int .u32 0, .int .u32 0, .int .u32 0, .int .u32 0, .int .u32 0, .int .u32 0, .int .u32 0, .int .u32 0, .int .u32 0, .int .u32 0, .int .u32 0, .int .u32 0, .int .u32 0, .int .u32 0, .int .u32 0, .int .u32 0, .int .u32 0, .int .u32 0] 25))
  have BL : Hid (Below w.heap.size w (w.alloc (.cells #[.int .i64 0, .int .i64 0, .int .u32 0, .int .u32 0, .int .u32 0, .int .u32 0, .int .u32 0, .int .u32 0, .int .u32 0, .int .u32 0, .int .u32 0, .int .u32 0, .int .u32 0, .int .u32 0, .int .u32 0, .int .u32 0, .int .u32 0, .int .u32 0, .int .u32 0, .int .u32 0, .int .u32 0] 25))) := (Below.refl _ _).alloc (Nat.le_refl _) _
  generalize w.alloc (.cells #[.int .i64 0, .int .i64 0, .int .u32 0, .int .u32 0, .int .u32 0, .int .u32 0, .int .u32 0, .int .u32 0, .int .u32 0, .int .u32 0, .int .u32 0, .int .u32 0, .int .u32 0, .int .u32 0, .int .u32 0, .int .u32 0, .int .u32 0, .int .u32 0, .int .u32 0, .int .u32 0, .int .u32 0] 25) = W at HZ HT BL ⊢
  clear H0
  have c0 := HT.out.obj.cell 0 _ rfl
  rw [hlen] at c0
  have i1 : (0 : Int) ≤ (l.length : Int) := by omega
  have w1 : IntKind.i64.wrap ((l.length : Int) + 1 - 1) = (l.length : Int) := by rw [IntKind.wrap_i64]; omega
  have w2 : IntKind.i64.wrap (l.length : Int) = (l.length : Int) := by rw [IntKind.wrap_i64]; omega
  have i2 : (l.length : Int) < (l.length : Int) + 1 := by omega
  have d0 : (((l.length + 1 : Nat) : Int) == 0) = false := by simp; omega
  have hrow : Hid (W.rangeAt g (l.length * 21) e.cells) := fun j u hj => by
    have hjl : j < 21 := by have := (List.getElem?_eq_some_iff.1 hj).1; omega
    refine HT.out.own.cell (l.length * 21 + j) u ?_
    rw [evF_get (l ++ [e]) HT.out.oks l.length j (by omega) hjl]
    simpa using hj
  go_wp2_with (go_at_call 27; refine (none_any b _ _ HT.out.obj).mono ?_; rintro x w2 ⟨rfl, rfl⟩)
  clear d0
  refine wp_region_still_tail 12 (by kernel_rfl) (by kernel_rfl) ?_; simp only [List.take_succ_cons, List.take_zero, List.drop_succ_cons, List.drop_zero]; obtain ⟨W1, hW1⟩ : ∃ x, x = World.drew W := ⟨_, rfl⟩; change wpStill _ _ (World.drew W) (fun a' => wpList _ _ _ _ a' (World.drew W)) _ _; rw [← hW1]
  have c1 : W1.cell? ⟨b, 0, none⟩ = some (.slice (some ⟨g, 0, none⟩) (l.length + 1) c) := by rw [hW1]; exact c0
  have hz1 : Hid (W1.heap[w.heap.size]? = some (.cells #[.int .i64 0, .int .i64 0, .int .u32 0, .int .u32 0, .int .u32 0, .int .u32 0, .int .u32 0, .int .u32 0, .int .u32 0, .int .u32 0, .int .u32 0, .int .u32 0, .int .u32 0, .int .u32 0, .int .u32 0, .int .u32 0, .int .u32 0, .int .u32 0, .int .u32 0, .int .u32 0, .int .u32 0] 25 (0, 0))) := by rw [Hid, hW1]; exact HZ.out
  have hr1 : Hid (W1.rangeAt g (l.length * 21) e.cells) := by rw [Hid, hW1]; exact hrow.out
  have bl1 : Hid (Below w.heap.size w W1) := by rw [Hid, hW1]; exact BL.out.drew
  clear hW1 c0 HZ hrow BL HT
  still_step
  still_step
  still_step
  still_step
  still_step
  still_step
  still_step
  still_step
  still_step
  still_step
  still_step
  refine wpStill_load_mid rfl 25 (.tmp 25) rfl g (l.length * 21) rfl e.cells _ hr1.out Tryd.underlying25 rfl (by rw [info_ev2, hl]) ?_
  refine wpStill_nil ?_
  refine wpList_store_block rfl 25 (.tmp 2) (.tmp 26) rfl w.heap.size 25 _ e.cells.toArray rfl rfl hz1.out (by rw [info_ev2]; simp [hl]) (by simp [hl]) (cells_all e) ?_
  go_wp2_with fail
  refine bodyPost_ret (v := .tuple #[.agg e.cells.toArray, .bool true]) ?_ rfl ⟨rfl, bl1.out.trans ((Upd.setRow W1 w.heap.size e.cells.toArray).below (Nat.le_refl _) bl1.out.size)⟩
  exact results_row_tmp rfl _ _ w.heap.size _ _ (0, 0) _ rfl (setRow_heap _ _ _ _ _ _ hz1.out) Tryd.underlying25 rfl (by rw [info_ev2]; simp [hl]) _ rfl
#print axioms last_any
end Go.Proofs.YtcffdceadmdecaaDoor
