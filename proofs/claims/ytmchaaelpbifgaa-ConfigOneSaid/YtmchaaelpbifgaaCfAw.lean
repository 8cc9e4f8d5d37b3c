/- Chapter 4: awake. -/
import Derived.Test.YtmchaaelpbifgaaCfR7
namespace Go.Proofs.Ytmchaaelpbifgaa
set_option linter.unusedVariables false
set_option linter.unusedSimpArgs false
set_option linter.unnecessarySimpa false
open Go.RowKit Go.Sort
set_option maxHeartbeats 8000000
set_option maxRecDepth 100000
set_option linter.unusedVariables false
variable {W W' w : World} {c : Cv} {b N : Nat} {s : Sl}
theorem info_cfg : (Try.prog.info? 28).map (·.size) = some 8 := by kernel_rfl
/-- The small configuration, its rows at two places. -/
def smallC (g s : Nat) : Cv := ⟨1, ⟨some ⟨g, 0, none⟩, 1, [[1, 4, 0]]⟩, ⟨none, 0, []⟩, ⟨none, 0, []⟩, ⟨none, 0, []⟩, ⟨some ⟨s, 0, none⟩, 1, [[0, 5]]⟩, -1, 0⟩
theorem small_chk (g s : Nat) : chkV (smallC g s) = (0, 0) := by
  show chkV (smallC 0 0) = (0, 0)
  decide +kernel
theorem small_right (g s : Nat) : rightV (smallC g s) = true := by rw [rightV, small_chk]; rfl
theorem small_frames (g s : Nat) : framesV (smallC g s) = 4 := by
  rw [framesV, small_right]; rfl
theorem small_period (g s : Nat) : periodV (smallC g s) = 5 := by
  rw [periodV, small_right]; rfl
theorem nil_ok (W : World) (N : Nat) : SlOk W N ⟨none, 0, []⟩ := ⟨⟨by simp [iF], fun _ => rfl, fun p hp => by cases hp⟩, Nat.le_refl _, by simp, by simp⟩
theorem one_ok {W : World} {N g : Nat} {t : TypeId} (r : List Int) (hr : r.length = N) (h : ObjAt W g t (ivs r)) : SlOk W N ⟨some ⟨g, 0, none⟩, 1, [r]⟩ :=
  ⟨⟨by simp [iF, ivs, hr], (fun h0 => by cases h0), fun p hp _ => by
    injection hp with hp
    subst hp
    refine ⟨g, 0, rfl, h.lt, fun j u hu => ?_⟩
    rw [Nat.zero_add]
    exact h.cell j u (by simpa [iF] using hu)⟩, Nat.le_refl _, (by simp only; unfold maxLen; omega), by simpa using hr⟩
theorem small_any (w : World) : Calls Try.prog 37 #[] w fun e w' => ∃ g s, e = .returned (.agg #[.int .i64 1, .slice (some ⟨g, 0, none⟩) 1 1, .slice none 0 0, .slice none 0 0, .slice none 0 0, .slice (some ⟨s, 0, none⟩) 1 1, .int .i64 (-1), .int .i64 0]) ∧ CfgOk w' (smallC g s) ∧ Below w.heap.size w w' := by
  have O0 : Hid (ObjAt (w.alloc (.cells #[.int .i64 0, .slice none 0 0, .slice none 0 0, .slice none 0 0, .slice none 0 0, .slice none 0 0, .int .i64 0, .int .i64 0] 28)) w.heap.size 28 [.int .i64 0, .slice none 0 0, .slice none 0 0, .slice none 0 0, .slice none 0 0, .slice none 0 0, .int .i64 0, .int .i64 0]) := ObjAt.new w _ _
  have B0 : Hid (Below w.heap.size w (w.alloc (.cells #[.int .i64 0, .slice none 0 0, .slice none 0 0, .slice none 0 0, .slice none 0 0, .slice none 0 0, .int .i64 0, .int .i64 0] 28))) := (Below.refl _ _).alloc (Nat.le_refl _) _
  have hlt : w.heap.size < (w.alloc (.cells #[.int .i64 0, .slice none 0 0, .slice none 0 0, .slice none 0 0, .slice none 0 0, .slice none 0 0, .int .i64 0, .int .i64 0] 28)).heap.size := by simp
  go_enter Try.func37, Try.ntmps37
  go_upto_region 1 with fail
  generalize w.alloc (.cells #[.int .i64 0, .slice none 0 0, .slice none 0 0, .slice none 0 0, .slice none 0 0, .slice none 0 0, .int .i64 0, .int .i64 0] 28) = W1 at O0 B0 hlt ⊢
  have OG : Hid (ObjAt (W1.alloc (.cells #[.int .i64 1, .int .i64 4, .int .i64 0] 34)) W1.heap.size 34 [.int .i64 1, .int .i64 4, .int .i64 0]) := ObjAt.new W1 _ _
  have B1 : Hid (Below W1.heap.size W1 (W1.alloc (.cells #[.int .i64 1, .int .i64 4, .int .i64 0] 34))) := (Below.refl _ _).alloc (Nat.le_refl _) _
  have OS : Hid (ObjAt ((W1.alloc (.cells #[.int .i64 1, .int .i64 4, .int .i64 0] 34)).alloc (.cells #[.int .i64 0, .int .i64 5] 36)) (W1.heap.size + 1) 36 [.int .i64 0, .int .i64 5]) := by
    have := ObjAt.new (W1.alloc (.cells #[.int .i64 1, .int .i64 4, .int .i64 0] 34)) 36 [.int .i64 0, .int .i64 5]
    rwa [World.size_alloc] at this
  have B2 : Hid (Below (W1.alloc (.cells #[.int .i64 1, .int .i64 4, .int .i64 0] 34)).heap.size (W1.alloc (.cells #[.int .i64 1, .int .i64 4, .int .i64 0] 34)) ((W1.alloc (.cells #[.int .i64 1, .int .i64 4, .int .i64 0] 34)).alloc (.cells #[.int .i64 0, .int .i64 5] 36))) := (Below.refl _ _).alloc (Nat.le_refl _) _
  have O2 : Hid (ObjAt ((W1.alloc (.cells #[.int .i64 1, .int .i64 4, .int .i64 0] 34)).alloc (.cells #[.int .i64 0, .int .i64 5] 36)) w.heap.size 28 [.int .i64 0, .slice none 0 0, .slice none 0 0, .slice none 0 0, .slice none 0 0, .slice none 0 0, .int .i64 0, .int .i64 0]) := (O0.out.below B1.out).below B2.out
  go_wp2_with (refine wpList_store_block rfl 28 (.tmp 0) (.tmp 5) rfl w.heap.size 28 _ _ rfl rfl O2.out (by rw [info_cfg]; rfl) rfl (by simp [Value.oneCell']) ?_)
  have B3 : Hid (Below w.heap.size w ((W1.alloc (.cells #[.int .i64 1, .int .i64 4, .int .i64 0] 34)).alloc (.cells #[.int .i64 0, .int .i64 5] 36))) := B0.out.trans ((B1.out.trans (B2.out.mono B1.out.size)).mono B0.out.size)
  have OG2 : Hid (ObjAt ((W1.alloc (.cells #[.int .i64 1, .int .i64 4, .int .i64 0] 34)).alloc (.cells #[.int .i64 0, .int .i64 5] 36)) W1.heap.size 34 [.int .i64 1, .int .i64 4, .int .i64 0]) := OG.out.below B2.out
  generalize (W1.alloc (.cells #[.int .i64 1, .int .i64 4, .int .i64 0] 34)).alloc (.cells #[.int .i64 0, .int .i64 5] 36) = W2 at OS O2 OG2 B3 ⊢
  have hu := Upd.setRow W2 w.heap.size #[.int .i64 1, .slice (some ⟨W1.heap.size, 0, none⟩) 1 1, .slice none 0 0, .slice none 0 0, .slice none 0 0, .slice (some ⟨W1.heap.size + 1, 0, none⟩) 1 1, .int .i64 (-1), .int .i64 0]
  refine bodyPost_ret (v := .agg #[.int .i64 1, .slice (some ⟨W1.heap.size, 0, none⟩) 1 1, .slice none 0 0, .slice none 0 0, .slice none 0 0, .slice (some ⟨W1.heap.size + 1, 0, none⟩) 1 1, .int .i64 (-1), .int .i64 0]) ?_ rfl ⟨W1.heap.size, W1.heap.size + 1, rfl, ⟨?_, nil_ok _ _, nil_ok _ _, nil_ok _ _, ?_⟩, ?_⟩
  · exact results_cell_row rfl _ _ w.heap.size _ _ (0, 0) _ rfl (setRow_heap _ _ _ _ _ _ O2.out) Try.underlying28 rfl (by rw [info_cfg]; rfl)
  · exact one_ok _ rfl (OG2.out.upd hu (by omega))
  · exact one_ok _ rfl (OS.out.upd hu (by omega))
  · exact B3.out.trans (hu.below (Nat.le_refl _) B3.out.size)
theorem small_check (g s : Nat) (w : World) (h : CfgOk w (smallC g s)) : Calls Try.prog 7 #[.agg #[.int .i64 1, .slice (some ⟨g, 0, none⟩) 1 1, .slice none 0 0, .slice none 0 0, .slice none 0 0, .slice (some ⟨s, 0, none⟩) 1 1, .int .i64 (-1), .int .i64 0]] w fun e w' => e = .returned (.tuple #[.int .i64 0, .int .i64 0]) ∧ Below w.heap.size w w' := by
  have := check_any (smallC g s) w h; rw [small_chk] at this; exact this
theorem small_fr (g s : Nat) (w : World) (h : CfgOk w (smallC g s)) : Calls Try.prog 11 #[.agg #[.int .i64 1, .slice (some ⟨g, 0, none⟩) 1 1, .slice none 0 0, .slice none 0 0, .slice none 0 0, .slice (some ⟨s, 0, none⟩) 1 1, .int .i64 (-1), .int .i64 0]] w fun e w' => e = .returned (.int .i64 4) ∧ Below w.heap.size w w' := by
  have := frames_any (smallC g s) w h; rw [small_frames] at this; exact this
theorem small_pe (g s : Nat) (w : World) (h : CfgOk w (smallC g s)) : Calls Try.prog 18 #[.agg #[.int .i64 1, .slice (some ⟨g, 0, none⟩) 1 1, .slice none 0 0, .slice none 0 0, .slice none 0 0, .slice (some ⟨s, 0, none⟩) 1 1, .int .i64 (-1), .int .i64 0]] w fun e w' => e = .returned (.int .i64 5) ∧ Below w.heap.size w w' := by
  have := period_any (smallC g s) w h; rw [small_period] at this; exact this
theorem awake_any (w : World) : Calls Try.prog 8 #[] w fun e w' => e = .returned (.bool true) ∧ Below w.heap.size w w' := by
  have BB : Hid (Below w.heap.size w w) := Below.refl _ _
  go_enter Try.func8, Try.ntmps8
  go_wp2_with (first | (go_at_call 37; refine (small_any _).mono ?_; rintro e w' ⟨g, s, rfl, hok, hb⟩; have OK := Lib.hid hok; replace BB := Lib.hid (bmore BB.out hb); clear hok hb) | (go_at_call 7; refine (small_check _ _ _ OK.out).mono ?_; clear OK; rintro e w' ⟨rfl, hb⟩; replace BB := Lib.hid (bmore BB.out hb); clear hb) | (go_at_call 11; refine (small_fr _ _ _ OK.out).mono ?_; clear OK; rintro e w' ⟨rfl, hb⟩; replace BB := Lib.hid (bmore BB.out hb); clear hb) | (go_at_call 18; refine (small_pe _ _ _ OK.out).mono ?_; clear OK; rintro e w' ⟨rfl, hb⟩; replace BB := Lib.hid (bmore BB.out hb); clear hb))
  go_ret
  exact ⟨rfl, BB.out⟩
end Go.Proofs.Ytmchaaelpbifgaa
