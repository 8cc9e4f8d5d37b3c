/- Contracts (Csr): CsrRef. -/
import Derived.Test.YtiohfdhmkikckaaGreatDoorCCsr
namespace Go.Proofs.YtiohfdhmkikckaaGreatDoor
set_option linter.unusedVariables false
set_option linter.unusedSimpArgs false
set_option linter.unnecessarySimpa false
namespace Csr
set_option maxHeartbeats 4000000
set_option maxRecDepth 100000
section
open Go.RowKit
theorem bit_any (a : Bool) (x : Int) (w : World) : Calls Tryz.prog 85 #[.bool a, .int .u32 x] w fun e w' => e = .returned (.int .u32 (bitV a x)) ∧ w = w' := by
  cases a
  · go_enter Tryz.func85, Tryz.ntmps85
    go_wp2
    go_ret
    exact ⟨rfl, rfl⟩
  · go_enter Tryz.func85, Tryz.ntmps85
    go_wp2
    go_ret
    exact ⟨rfl, rfl⟩
theorem rleave_any (b : Nat) (r : List Int) (id : Int) (w : World) (h : RefC w b r id) (hs : StOk r) : Calls Tryz.prog 65 #[.pointer (some ⟨b, 0, none⟩)] w fun e w' => e = .returned (.int .u32 (r.getD 2 0)) ∧ RefC w' b (leaveR r) id ∧ Upd b w w' := by
  have HS := Lib.hid hs
  have HF := Lib.hid h
  have HE := Lib.hid (leave_eq (r.getD 5 0) hs.1 hs.2.1)
  have c5 := h.reg 5 (by omega)
  obtain ⟨s, hs5⟩ : ∃ s, s = r.getD 5 0 := ⟨_, rfl⟩
  rw [← hs5] at c5
  have HT := Lib.hid hs5.symm
  have HS5 := Lib.hid hs5
  clear h hs hs5
  go_enter Tryz.func65, Tryz.ntmps65
  go_wp2_with fail
  clear c5
  refine wp_region_still_tail 13 (by kernel_rfl) (by kernel_rfl) ?_; simp only [List.take_succ_cons, List.take_zero, List.drop_succ_cons, List.drop_zero]; obtain ⟨W1, hW1⟩ : ∃ x, x = World.drew w := ⟨_, rfl⟩; change wpStill _ _ (World.drew w) (fun a' => wpList _ _ _ _ a' (World.drew w)) _ _; rw [← hW1]
  have HF1 : Hid (RefC W1 b r id) := by rw [Hid, hW1]; exact HF.out
  have HU1 : Hid (Upd b w W1) := by rw [Hid, hW1]; exact (Upd.refl _ _).drew
  have c5 := HF1.out.reg 5 (by omega)
  have f5 := HF1.out.free 5
  have HF2 : Hid (RefC (W1.setCell ⟨b, 5, none⟩ (.int .u32 (mvN (r.getD 5 0) (bits .and .u32 (r.getD 5 0) 10) 2 1 8 4 2))) b (leaveR r) id) := HF1.out.set 5 (by omega) _
  have HU2 : Hid (Upd b w (W1.setCell ⟨b, 5, none⟩ (.int .u32 (mvN (r.getD 5 0) (bits .and .u32 (r.getD 5 0) 10) 2 1 8 4 2)))) := HU1.out.trans (Upd.setCell _ ⟨b, 5, none⟩ _)
  have c2 := HF2.out.reg 2 (by omega)
  rw [leave2, ← HE.out] at c2
  rw [← HE.out] at HF2 HU2
  obtain ⟨x, hx⟩ : ∃ x, x = r.getD 2 0 := ⟨_, rfl⟩
  rw [← HS5.out] at HF2 HU2 c2 c5
  rw [← hx] at c2
  have HX := Lib.hid hx
  clear hx HE hW1
  repeat (first | still_step | still_call ((rhas_any _ (by simp) _ _ _ _ HF1.out HS.out s HT.out).mono fun _ _ h => ⟨h.1, h.2.symm⟩) | still_call ((bit_any _ _ _).mono fun _ _ h => ⟨h.1, h.2.symm⟩))
  refine wpStill_nil ?_
  go_wp2_with fail
  go_ret
  exact ⟨ret_int HX.out, HF2.out, HU2.out⟩
theorem rread_any (n c : Int) (b : Nat) (r : List Int) (id : Int) (w : World) (h : RefC w b r id) (hs : StOk r) : Calls Tryz.prog 66 #[.pointer (some ⟨b, 0, none⟩), .int .i64 n, .int .i64 c] w fun e w' => e = .returned (.tuple #[.int .u32 (readV r id n c), .int .i64 (readE r n)]) ∧ w = w' := by
  have H := Lib.hid h
  have HS := Lib.hid hs
  clear hs
  cases hk : hasB (r.getD 5 0) 4
  · have HK := Lib.hid hk
    have HV : Hid (readV r id n c = 0) := by simp only [Hid, readV, hk]; rfl
    have HR : Hid (readE r n = 4) := by simp only [Hid, readE, hk]; rfl
    clear hk h
    go_enter Tryz.func66, Tryz.ntmps66
    (go_wp2_with (go_at_call 45; refine (rhas_any _ (by simp) _ _ _ _ H.out HS.out _ rfl).mono ?_; rw [HK.out]; rintro e w' ⟨rfl, rfl⟩))
    go_ret2
    exact ⟨ret_two (by rw [HV.out]) (by rw [HR.out]), rfl⟩
  · have HK := Lib.hid hk
    by_cases h1 : n < 0
    · have HV : Hid (readV r id n c = 0) := by simp only [Hid, readV, hk, if_true]; rw [if_neg (by omega)]
      have HR : Hid (readE r n = 1) := by simp only [Hid, readE, hk, if_true]; rw [if_neg (by omega)]
      clear hk h
      go_enter Tryz.func66, Tryz.ntmps66
      (go_wp2_with (go_at_call 45; refine (rhas_any _ (by simp) _ _ _ _ H.out HS.out _ rfl).mono ?_; rw [HK.out]; rintro e w' ⟨rfl, rfl⟩))
      go_ret2
      exact ⟨ret_two (by rw [HV.out]) (by rw [HR.out]), rfl⟩
    · by_cases h2 : 9 ≤ n
      · have HV : Hid (readV r id n c = 0) := by simp only [Hid, readV, hk, if_true]; rw [if_neg (by omega)]
        have HR : Hid (readE r n = 1) := by simp only [Hid, readE, hk, if_true]; rw [if_neg (by omega)]
        clear hk h
        go_enter Tryz.func66, Tryz.ntmps66
        (go_wp2_with (go_at_call 45; refine (rhas_any _ (by simp) _ _ _ _ H.out HS.out _ rfl).mono ?_; rw [HK.out]; rintro e w' ⟨rfl, rfl⟩))
        go_ret2
        exact ⟨ret_two (by rw [HV.out]) (by rw [HR.out]), rfl⟩
      · have HR : Hid (readE r n = 0) := by simp only [Hid, readE, hk, if_true]; rw [if_pos (by omega)]
        by_cases h7 : n = 7
        · subst h7
          have HV : Hid (readV r id 7 c = c % 4294967296) := by simp only [Hid, readV, hk]; rfl
          clear hk h
          go_enter Tryz.func66, Tryz.ntmps66
          (go_wp2_with (go_at_call 45; refine (rhas_any _ (by simp) _ _ _ _ H.out HS.out _ rfl).mono ?_; rw [HK.out]; rintro e w' ⟨rfl, rfl⟩))
          go_ret2
          exact ⟨ret_two (by rw [HV.out]) (by rw [HR.out]), rfl⟩
        · by_cases h8 : n = 8
          · subst h8
            have HV : Hid (readV r id 8 c = id % 4294967296) := by simp only [Hid, readV, hk]; rfl
            have hi := h.id
            clear hk h h7
            go_enter Tryz.func66, Tryz.ntmps66
            (go_wp2_with (go_at_call 45; refine (rhas_any _ (by simp) _ _ _ _ H.out HS.out _ rfl).mono ?_; rw [HK.out]; rintro e w' ⟨rfl, rfl⟩))
            go_ret2
            exact ⟨ret_two (by rw [HV.out]) (by rw [HR.out]), rfl⟩
          · obtain ⟨k, rfl⟩ := Int.eq_ofNat_of_zero_le (by omega : 0 ≤ n)
            have HV : Hid (readV r id k c = r.getD k 0) := by simp only [Hid, readV, hk, if_true]; rw [if_pos (by omega), if_neg h7, if_neg h8]; rfl
            have hr := h.reg k (by omega)
            have e7 : ((k : Int) == 7) = false := by simpa using h7
            have e8 : ((k : Int) == 8) = false := by simpa using h8
            obtain ⟨x, hx⟩ : ∃ x, x = r.getD k 0 := ⟨_, rfl⟩
            rw [← hx] at hr
            have HX := Lib.hid hx
            clear hk h hx
            go_enter Tryz.func66, Tryz.ntmps66
            (go_wp2_with (go_at_call 45; refine (rhas_any _ (by simp) _ _ _ _ H.out HS.out _ rfl).mono ?_; rw [HK.out]; rintro e w' ⟨rfl, rfl⟩))
            go_ret2
            exact ⟨ret_two (by rw [HV.out, HX.out]) (by rw [HR.out]), rfl⟩
theorem rmode_any (b : Nat) (r : List Int) (id : Int) (w : World) (h : RefC w b r id) (hs : StOk r) : Calls Tryz.prog 30 #[.pointer (some ⟨b, 0, none⟩)] w (ModePost (modeC r) w) := by
  have hb : Below w.heap.size w (w.alloc (.cells #[.bool false, .int .i64 0, .bool false] 66)) := (Below.refl _ _).alloc (Nat.le_refl _) _
  have H := Lib.hid (h.below hb)
  have HS := Lib.hid hs
  have hr := H.out.reg 0 (by omega)
  obtain ⟨x, hx⟩ : ∃ x, x = r.getD 0 0 := ⟨_, rfl⟩
  obtain ⟨s, hs5⟩ : ∃ s, s = r.getD 5 0 := ⟨_, rfl⟩
  have x0 : 0 ≤ x := by rw [hx]; exact hs.2.2.1
  have x1 : x < 4294967296 := by rw [hx]; exact hs.2.2.2
  have HT := Lib.hid hs5.symm
  have HX := Lib.hid hx
  have HM : Hid (modeC r = #[.bool (x.tmod 2 == 1), .int .i64 (wrap64 ((x / 256).tmod 32)), .bool (!hasB s 4)]) := by rw [Hid, modeC, ← hx, ← hs5, onV, rootV, and_one x x0 x1, and_31 (x / 256) (by omega) (by omega), Int.tmod_eq_emod_of_nonneg x0, Int.tmod_eq_emod_of_nonneg (by omega : 0 ≤ x / 256)]
  rw [← hx] at hr
  clear h hx hs hs5 x0 x1
  obtain ⟨W, hW⟩ : ∃ W, W = w.alloc (.cells #[.bool false, .int .i64 0, .bool false] 66) := ⟨_, rfl⟩
  go_enter Tryz.func30, Tryz.ntmps30
  go_wp2_with fail
  rw [← hW] at H hr hb ⊢
  have HO := Lib.hid (hW ▸ new_block w _ _ rfl : W.heap[w.heap.size]? = some (.cells #[.bool false, .int .i64 0, .bool false] 66 (0, 0)))
  clear hr hW
  refine wp_region_still_tail 19 (by kernel_rfl) (by kernel_rfl) ?_; simp only [List.take_succ_cons, List.take_zero, List.drop_succ_cons, List.drop_zero]; obtain ⟨W1, hW1⟩ : ∃ x, x = World.drew W := ⟨_, rfl⟩; change wpStill _ _ (World.drew W) (fun a' => wpList _ _ _ _ a' (World.drew W)) _ _; rw [← hW1]
  have HF1 : Hid (RefC W1 b r id) := by rw [Hid, hW1]; exact H.out
  have HB1 : Hid (Below w.heap.size w W1) := by rw [Hid, hW1]; exact hb.drew
  have HO1 : Hid (W1.heap[w.heap.size]? = some (.cells #[.bool false, .int .i64 0, .bool false] 66 (0, 0))) := by rw [Hid, hW1]; exact HO.out
  have hr := HF1.out.reg 0 (by omega)
  have c0 := cell_at HO1.out 0 _ rfl; have c1 := cell_at HO1.out 1 _ rfl; have c2 := cell_at HO1.out 2 _ rfl
  have f0 := free_at HO1.out 0; have f1 := free_at HO1.out 1; have f2 := free_at HO1.out 2
  rw [← HX.out] at hr
  clear hW1 hb
  repeat (first | still_step | still_call ((rhas_any _ (by simp) _ _ _ _ HF1.out HS.out s HT.out).mono fun _ _ h => ⟨h.1, h.2.symm⟩))
  refine wpStill_nil ?_
  go_wp2_with fail
  refine bodyPost_ret (v := .agg #[.bool (x.tmod 2 == 1), .int .i64 (wrap64 ((x / 256).tmod 32)), .bool (!hasB s 4)]) (by simp [results, Tryz.results30, go_sem, c0, c1, c2]) rfl ⟨by rw [HM.out], ?_⟩
  exact ((HB1.out.setCell (by simp) _).setCell (by simp) _).setCell (by simp) _
end
end Csr
end Go.Proofs.YtiohfdhmkikckaaGreatDoor
