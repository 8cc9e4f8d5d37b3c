/- The reference of chapter 12. -/
import Derived.Test.YtbalikmfbbmmjaaCsr
namespace Go.Proofs.Ytbalikmfbbmmjaa
open Go.RowKit
set_option maxHeartbeats 400000
set_option maxRecDepth 100000

def RefC (w : World) (b : Nat) (r : List Int) (id : Int) : Prop := r.length = 7 ∧ ObjAt w b 57 (r.map (Value.int .u32) ++ [.int .i64 id])
section
variable {w w' : World} {b c : Nat} {r : List Int} {i0 : Int}
theorem RefC.reg (h : RefC w b r i0) (i : Nat) (hi : i < 7) : w.cell? ⟨b, i, none⟩ = some (.int .u32 (r.getD i 0)) := by
  have hl := h.1
  refine h.2.cell i _ ?_
  simp [List.getElem?_append, hl, hi]
theorem RefC.id (h : RefC w b r i0) : w.cell? ⟨b, 7, none⟩ = some (.int .i64 i0) := by
  have hl := h.1
  refine h.2.cell 7 _ ?_
  simp [List.getElem?_append, hl]
theorem RefC.free (h : RefC w b r i0) (j : Nat) : w.frozen? ⟨b, j, none⟩ = false := h.2.free j
theorem RefC.lt (h : RefC w b r i0) : b < w.heap.size := h.2.lt
theorem RefC.set (h : RefC w b r i0) (i : Nat) (hi : i < 7) (v : Int) : RefC (w.setCell ⟨b, i, none⟩ (.int .u32 v)) b (r.set i v) i0 := by
  have hl := h.1
  refine ⟨by simpa using hl, ?_⟩
  have := h.2.set i (.int .u32 v)
  simpa [List.set_append, hl, hi] using this
theorem RefC.below (h : RefC w b r i0) (hb : Below w.heap.size w w') : RefC w' b r i0 := ⟨h.1, h.2.below hb⟩
theorem RefC.upd (h : RefC w b r i0) (hu : Upd c w w') (hc : b ≠ c) : RefC w' b r i0 := ⟨h.1, h.2.upd hu hc⟩
end
/-- The status has its own bits alone. -/
def StOk (r : List Int) : Prop := 0 ≤ r.getD 5 0 ∧ r.getD 5 0 < 16 ∧ 0 ≤ r.getD 0 0 ∧ r.getD 0 0 < 4294967296
theorem st_cases {P : Int → Prop} (h : ∀ n : Fin 16, P (n.val : Int)) (s : Int) (h0 : 0 ≤ s) (h1 : s < 16) : P s := by
  obtain ⟨n, rfl⟩ := Int.eq_ofNat_of_zero_le h0
  exact h ⟨n, by omega⟩
theorem rhas_eq (s : Int) (h0 : 0 ≤ s) (h1 : s < 16) : (bits .and .u32 s 1 == 1) = hasB s 1 ∧ (bits .and .u32 s 2 == 2) = hasB s 2 ∧ (bits .and .u32 s 4 == 4) = hasB s 4 ∧ (bits .and .u32 s 8 == 8) = hasB s 8 :=
  st_cases (P := fun s => (bits .and .u32 s 1 == 1) = hasB s 1 ∧ (bits .and .u32 s 2 == 2) = hasB s 2 ∧ (bits .and .u32 s 4 == 4) = hasB s 4 ∧ (bits .and .u32 s 8 == 8) = hasB s 8) (by decide +kernel) s h0 h1
def bitV (a : Bool) (b : Int) : Int := if a then b else 0
theorem leave_eq (s : Int) (h0 : 0 ≤ s) (h1 : s < 16) : bits .or .u32 (bits .or .u32 (bits .and .u32 s 10) (bitV (hasB s 2) 1)) (bitV (hasB s 8) 4) = mvN s (bits .and .u32 s 10) 2 1 8 4 2 :=
  st_cases (P := fun s => bits .or .u32 (bits .or .u32 (bits .and .u32 s 10) (bitV (hasB s 2) 1)) (bitV (hasB s 8) 4) = mvN s (bits .and .u32 s 10) 2 1 8 4 2) (by decide +kernel) s h0 h1
theorem enter_eq (s : Int) (h0 : 0 ≤ s) (h1 : s < 16) : bits .or .u32 (bits .or .u32 4 (bitV (hasB s 1) 2)) (bitV (hasB s 4) 8) = mvN s 4 1 2 4 8 2 :=
  st_cases (P := fun s => bits .or .u32 (bits .or .u32 4 (bitV (hasB s 1) 2)) (bitV (hasB s 4) 8) = mvN s 4 1 2 4 8 2) (by decide +kernel) s h0 h1
theorem mv_ok (s : Int) (h0 : 0 ≤ s) (h1 : s < 16) : (0 ≤ mvN s 4 1 2 4 8 2 ∧ mvN s 4 1 2 4 8 2 < 16) ∧ (0 ≤ mvN s (bits .and .u32 s 10) 2 1 8 4 2 ∧ mvN s (bits .and .u32 s 10) 2 1 8 4 2 < 16) :=
  st_cases (P := fun s => (0 ≤ mvN s 4 1 2 4 8 2 ∧ mvN s 4 1 2 4 8 2 < 16) ∧ (0 ≤ mvN s (bits .and .u32 s 10) 2 1 8 4 2 ∧ mvN s (bits .and .u32 s 10) 2 1 8 4 2 < 16)) (by decide +kernel) s h0 h1

theorem rhas_any (bit : Int) (hb : bit = 1 ∨ bit = 2 ∨ bit = 4 ∨ bit = 8) (b : Nat) (r : List Int) (id : Int) (w : World) (h : RefC w b r id) (hs : StOk r) (s : Int) (hss : r.getD 5 0 = s) : Calls Try.prog 34 #[.pointer (some ⟨b, 0, none⟩), .int .u32 bit] w fun e w' => e = .returned (.bool (hasB s bit)) ∧ w = w' := by
  subst hss
  have hm := h.reg 5 (by omega)
  obtain ⟨st, hst⟩ : ∃ st, st = r.getD 5 0 := ⟨_, rfl⟩
  have HE : Hid ((bits .and .u32 st bit == bit) = hasB (r.getD 5 0) bit) := by
    have := rhas_eq (r.getD 5 0) hs.1 hs.2.1
    rw [Hid, hst]
    rcases hb with rfl | rfl | rfl | rfl <;> simp only [this]
  rw [← hst] at hm
  clear h hb hs hst
  go_enter Try.func34, Try.ntmps34
  go_wp2
  go_ret
  exact ⟨by rw [← HE.out]; rfl, rfl⟩
theorem bit_any (a : Bool) (x : Int) (w : World) : Calls Try.prog 33 #[.bool a, .int .u32 x] w fun e w' => e = .returned (.int .u32 (bitV a x)) ∧ w = w' := by
  cases a
  · go_enter Try.func33, Try.ntmps33
    go_wp2
    go_ret
    exact ⟨rfl, rfl⟩
  · go_enter Try.func33, Try.ntmps33
    go_wp2
    go_ret
    exact ⟨rfl, rfl⟩
def REnterPost (b : Nat) (r : List Int) (id pc c t : Int) (w : World) (e : Ending) (w' : World) : Prop := e = .returned (.int .u32 (r.getD 1 0)) ∧ RefC w' b (enterR r pc c t) id ∧ Upd b w w'
theorem trap0 (r : List Int) (pc c t : Int) : (trapR r pc c t).getD 0 0 = r.getD 0 0 := by simp [trapR, List.getD_eq_getElem?_getD]
theorem StOk.trap {r : List Int} (h : StOk r) (pc c t : Int) : StOk (trapR r pc c t) := by unfold StOk at *; rw [trap5, trap0]; exact h
theorem renter_any (pc c t : Int) (b : Nat) (r : List Int) (id : Int) (w : World) (h : RefC w b r id) (hs : StOk r) : Calls Try.prog 20 #[.pointer (some ⟨b, 0, none⟩), .int .u32 pc, .int .u32 c, .int .u32 t] w (REnterPost b r id pc c t w) := by
  have c2 := h.reg 2 (by omega); have c3 := h.reg 3 (by omega); have c4 := h.reg 4 (by omega)
  have f2 := h.free 2; have f3 := h.free 3; have f4 := h.free 4
  obtain ⟨W, hW⟩ : ∃ W, W = ((w.setCell ⟨b, 2, none⟩ (.int .u32 pc)).setCell ⟨b, 3, none⟩ (.int .u32 c)).setCell ⟨b, 4, none⟩ (.int .u32 t) := ⟨_, rfl⟩
  have HW := Lib.hid hW
  have HF : Hid (RefC W b (trapR r pc c t) id) := by rw [Hid, hW]; exact ((h.set 2 (by omega) pc).set 3 (by omega) c).set 4 (by omega) t
  have HU : Hid (Upd b w W) := by rw [Hid, hW]; exact ((Upd.setCell w ⟨b, 2, none⟩ _).trans (Upd.setCell _ ⟨b, 3, none⟩ _)).trans (Upd.setCell _ ⟨b, 4, none⟩ _)
  have HS := Lib.hid (hs.trap pc c t)
  have HE := Lib.hid (enter_eq (r.getD 5 0) hs.1 hs.2.1)
  generalize r.getD 2 0 = x2 at c2
  generalize r.getD 3 0 = x3 at c3
  generalize r.getD 4 0 = x4 at c4
  clear h hW hs
  go_enter Try.func20, Try.ntmps20
  go_wp2_with fail
  rw [← HW.out]
  clear c2 c3 c4 f2 f3 f4
  refine wp_region_still_tail 12 (by kernel_rfl) (by kernel_rfl) ?_; simp only [List.take_succ_cons, List.take_zero, List.drop_succ_cons, List.drop_zero]; obtain ⟨W1, hW1⟩ : ∃ x, x = World.drew W := ⟨_, rfl⟩; change wpStill _ _ (World.drew W) (fun a' => wpList _ _ _ _ a' (World.drew W)) _ _; rw [← hW1]
  have HF1 : Hid (RefC W1 b (trapR r pc c t) id) := by rw [Hid, hW1]; exact HF.out
  have HU1 : Hid (Upd b w W1) := by rw [Hid, hW1]; exact HU.out.drew
  have c5 := HF1.out.reg 5 (by omega)
  have f5 := HF1.out.free 5
  rw [trap5] at c5
  clear hW1
  have hr1 : (enterR r pc c t).getD 1 0 = r.getD 1 0 := enter1 r pc c t
  have HF2 : Hid (RefC (W1.setCell ⟨b, 5, none⟩ (.int .u32 (mvN (r.getD 5 0) 4 1 2 4 8 2))) b (enterR r pc c t) id) := HF1.out.set 5 (by omega) _
  have HU2 : Hid (Upd b w (W1.setCell ⟨b, 5, none⟩ (.int .u32 (mvN (r.getD 5 0) 4 1 2 4 8 2)))) := HU1.out.trans (Upd.setCell _ ⟨b, 5, none⟩ _)
  have c1 := HF2.out.reg 1 (by omega)
  rw [hr1, ← HE.out] at c1
  rw [← HE.out] at HF2 HU2
  have HT := Lib.hid (trap5 r pc c t)
  obtain ⟨s, hs⟩ : ∃ s, s = r.getD 5 0 := ⟨_, rfl⟩
  obtain ⟨x, hx⟩ : ∃ x, x = r.getD 1 0 := ⟨_, rfl⟩
  rw [← hs] at HF2 HU2 c1 c5 HT
  rw [← hx] at c1
  have HX := Lib.hid hx
  clear hr1 hs hx HE
  repeat (first | still_step | still_call ((rhas_any _ (by simp) _ _ _ _ HF1.out HS.out s HT.out).mono fun _ _ h => ⟨h.1, h.2.symm⟩) | still_call ((bit_any _ _ _).mono fun _ _ h => ⟨h.1, h.2.symm⟩))
  refine wpStill_nil ?_
  go_wp2_with fail
  go_ret
  exact ⟨ret_int HX.out, HF2.out, HU2.out⟩
theorem rleave_any (b : Nat) (r : List Int) (id : Int) (w : World) (h : RefC w b r id) (hs : StOk r) : Calls Try.prog 21 #[.pointer (some ⟨b, 0, none⟩)] w fun e w' => e = .returned (.int .u32 (r.getD 2 0)) ∧ RefC w' b (leaveR r) id ∧ Upd b w w' := by
  have HS := Lib.hid hs
  have HF := Lib.hid h
  have HE := Lib.hid (leave_eq (r.getD 5 0) hs.1 hs.2.1)
  have c5 := h.reg 5 (by omega)
  obtain ⟨s, hs5⟩ : ∃ s, s = r.getD 5 0 := ⟨_, rfl⟩
  rw [← hs5] at c5
  have HT := Lib.hid hs5.symm
  have HS5 := Lib.hid hs5
  clear h hs hs5
  go_enter Try.func21, Try.ntmps21
  go_wp2_with fail
  clear c5
  refine wp_region_still_tail 13 (by kernel_rfl) (by kernel_rfl) ?_; simp only [List.take_succ_cons, List.take_zero, List.drop_succ_cons, List.drop_zero]; obtain ⟨W1, hW1⟩ : ∃ x, x = World.drew w := ⟨_, rfl⟩; change wpStill _ _ (World.drew w) (fun a' => wpList _ _ _ _ a' (World.drew w)) _ _; rw [← hW1]
  have HF1 : Hid (RefC W1 b r id) := by rw [Hid, hW1]; exact HF.out
  have HU1 : Hid (Upd b w W1) := by rw [Hid, hW1]; exact (Upd.refl _ _).drew
  have c5 := HF1.out.reg 5 (by omega)
  have f5 := HF1.out.free 5
  have HF2 : Hid (RefC (W1.setCell ⟨b, 5, none⟩ (.int .u32 (mvN (r.getD 5 0) (bits .and .u32 (r.getD 5 0) 10) 2 1 8 4 2))) b (leaveR r) id) := HF1.out.set 5 (by omega) _
  have HU2 : Hid (Upd b w (W1.setCell ⟨b, 5, none⟩ (.int .u32 (mvN (r.getD 5 0) (bits .and .u32 (r.getD 5 0) 10) 2 1 8 4 2)))) := HU1.out.trans (Upd.setCell _ ⟨b, 5, none⟩ _)
  have c2 := HF2.out.reg 2 (by omega)
  rw [leave2, ← HE.out] at c2
  rw [← HE.out] at HF2 HU2
  obtain ⟨x, hx⟩ : ∃ x, x = r.getD 2 0 := ⟨_, rfl⟩
  rw [← HS5.out] at HF2 HU2 c2 c5
  rw [← hx] at c2
  have HX := Lib.hid hx
  clear hx HE hW1
  repeat (first | still_step | still_call ((rhas_any _ (by simp) _ _ _ _ HF1.out HS.out s HT.out).mono fun _ _ h => ⟨h.1, h.2.symm⟩) | still_call ((bit_any _ _ _).mono fun _ _ h => ⟨h.1, h.2.symm⟩))
  refine wpStill_nil ?_
  go_wp2_with fail
  go_ret
  exact ⟨ret_int HX.out, HF2.out, HU2.out⟩
theorem rreset_any (b : Nat) (r : List Int) (id : Int) (w : World) (h : RefC w b r id) : Calls Try.prog 22 #[.pointer (some ⟨b, 0, none⟩)] w fun e w' => e = .returned (.tuple #[]) ∧ RefC w' b r0 id ∧ Upd b w w' := by
  obtain ⟨W, hW⟩ : ∃ W, W = ((((((w.setCell ⟨b, 0, none⟩ (.int .u32 0)).setCell ⟨b, 1, none⟩ (.int .u32 0)).setCell ⟨b, 2, none⟩ (.int .u32 0)).setCell ⟨b, 3, none⟩ (.int .u32 0)).setCell ⟨b, 4, none⟩ (.int .u32 0)).setCell ⟨b, 5, none⟩ (.int .u32 0)).setCell ⟨b, 6, none⟩ (.int .u32 0) := ⟨_, rfl⟩
  have HW := Lib.hid hW
  have HF : Hid (RefC W b [0, 0, 0, 0, 0, 0, 0] id) := by
    have := ((((((h.set 0 (by omega) 0).set 1 (by omega) 0).set 2 (by omega) 0).set 3 (by omega) 0).set 4 (by omega) 0).set 5 (by omega) 0).set 6 (by omega) 0
    rw [set7 r h.1] at this
    rw [Hid, hW]
    exact this
  have HU : Hid (Upd b w W) := by rw [Hid, hW]; exact ((((((Upd.setCell _ ⟨b, 0, none⟩ _).trans (Upd.setCell _ ⟨b, 1, none⟩ _)).trans (Upd.setCell _ ⟨b, 2, none⟩ _)).trans (Upd.setCell _ ⟨b, 3, none⟩ _)).trans (Upd.setCell _ ⟨b, 4, none⟩ _)).trans (Upd.setCell _ ⟨b, 5, none⟩ _)).trans (Upd.setCell _ ⟨b, 6, none⟩ _)
  have HF2 : Hid (RefC (W.setCell ⟨b, 5, none⟩ (.int .u32 4)) b r0 id) := HF.out.set 5 (by omega) 4
  have HU2 : Hid (Upd b w (W.setCell ⟨b, 5, none⟩ (.int .u32 4))) := HU.out.trans (Upd.setCell _ ⟨b, 5, none⟩ _)
  rw [hW] at HF2 HU2
  clear hW HF HU HW
  have c0 := h.reg 0 (by omega); have c1 := h.reg 1 (by omega); have c2 := h.reg 2 (by omega); have c3 := h.reg 3 (by omega); have c4 := h.reg 4 (by omega); have c5 := h.reg 5 (by omega); have c6 := h.reg 6 (by omega)
  have f0 := h.free 0; have f1 := h.free 1; have f2 := h.free 2; have f3 := h.free 3; have f4 := h.free 4; have f5 := h.free 5; have f6 := h.free 6
  generalize r.getD 0 0 = x0 at c0; generalize r.getD 1 0 = x1 at c1; generalize r.getD 2 0 = x2 at c2; generalize r.getD 3 0 = x3 at c3; generalize r.getD 4 0 = x4 at c4; generalize r.getD 5 0 = x5 at c5; generalize r.getD 6 0 = x6 at c6
  clear h
  go_enter Try.func22, Try.ntmps22
  go_wp2_with fail
  go_end0
  exact ⟨rfl, HF2.out, HU2.out⟩
def RNewPost (id : Int) (w : World) (e : Ending) (w' : World) : Prop := ∃ b : Nat, e = .returned (.tuple #[.pointer (some ⟨b, 0, none⟩), .int .i64 0]) ∧ RefC w' b r0 id ∧ Below w.heap.size w w' ∧ w.heap.size ≤ b
theorem rnew_any (id : Int) (w : World) (h0 : 0 ≤ id) (h1 : id < 4) : Calls Try.prog 19 #[.int .i64 id] w (RNewPost id w) := by
  obtain ⟨W, hW⟩ : ∃ W, W = w.alloc (.cells #[.int .u32 0, .int .u32 0, .int .u32 0, .int .u32 0, .int .u32 0, .int .u32 0, .int .u32 0, .int .i64 id] 57) := ⟨_, rfl⟩
  have HF : Hid (RefC W w.heap.size [0, 0, 0, 0, 0, 0, 0] id) := by rw [Hid, hW]; exact ⟨rfl, new_block w _ _ rfl⟩
  have HB : Hid (Below w.heap.size w W) := by rw [Hid, hW]; exact (Below.refl _ _).alloc (Nat.le_refl _) _
  go_enter Try.func19, Try.ntmps19
  go_wp2_with fail
  rw [← hW]
  refine (rreset_any _ _ _ _ HF.out).mono ?_; rintro e w1 ⟨rfl, hf1, hu1⟩
  have hb1 := bupd HB.out hu1 (Nat.le_refl _)
  clear hW
  go_wp2_with fail
  go_ret2
  exact ⟨w.heap.size, rfl, hf1, hb1, Nat.le_refl _⟩
theorem rnew_no (id : Int) (w : World) (h : id < 0 ∨ 4 ≤ id) : Calls Try.prog 19 #[.int .i64 id] w fun e w' => e = .returned (.tuple #[.pointer none, .int .i64 1]) ∧ w = w' := by
  by_cases h0 : id < 0
  · clear h
    go_enter Try.func19, Try.ntmps19
    go_wp2
    go_ret2
    exact ⟨rfl, rfl⟩
  · have h1 : 4 ≤ id := by omega
    clear h
    go_enter Try.func19, Try.ntmps19
    go_wp2
    go_ret2
    exact ⟨rfl, rfl⟩
theorem rread_any (n c : Int) (b : Nat) (r : List Int) (id : Int) (w : World) (h : RefC w b r id) (hs : StOk r) : Calls Try.prog 24 #[.pointer (some ⟨b, 0, none⟩), .int .i64 n, .int .i64 c] w fun e w' => e = .returned (.tuple #[.int .u32 (readV r id n c), .int .i64 (readE r n)]) ∧ w = w' := by
  have H := Lib.hid h
  have HS := Lib.hid hs
  clear hs
  cases hk : hasB (r.getD 5 0) 4
  · have HK := Lib.hid hk
    have HV : Hid (readV r id n c = 0) := by simp only [Hid, readV, hk]; rfl
    have HR : Hid (readE r n = 4) := by simp only [Hid, readE, hk]; rfl
    clear hk h
    go_enter Try.func24, Try.ntmps24
    (go_wp2_with (go_at_call 34; refine (rhas_any _ (by simp) _ _ _ _ H.out HS.out _ rfl).mono ?_; rw [HK.out]; rintro e w' ⟨rfl, rfl⟩))
    go_ret2
    exact ⟨ret_two (by rw [HV.out]) (by rw [HR.out]), rfl⟩
  · have HK := Lib.hid hk
    by_cases h1 : n < 0
    · have HV : Hid (readV r id n c = 0) := by simp only [Hid, readV, hk, if_true]; rw [if_neg (by omega)]
      have HR : Hid (readE r n = 1) := by simp only [Hid, readE, hk, if_true]; rw [if_neg (by omega)]
      clear hk h
      go_enter Try.func24, Try.ntmps24
      (go_wp2_with (go_at_call 34; refine (rhas_any _ (by simp) _ _ _ _ H.out HS.out _ rfl).mono ?_; rw [HK.out]; rintro e w' ⟨rfl, rfl⟩))
      go_ret2
      exact ⟨ret_two (by rw [HV.out]) (by rw [HR.out]), rfl⟩
    · by_cases h2 : 9 ≤ n
      · have HV : Hid (readV r id n c = 0) := by simp only [Hid, readV, hk, if_true]; rw [if_neg (by omega)]
        have HR : Hid (readE r n = 1) := by simp only [Hid, readE, hk, if_true]; rw [if_neg (by omega)]
        clear hk h
        go_enter Try.func24, Try.ntmps24
        (go_wp2_with (go_at_call 34; refine (rhas_any _ (by simp) _ _ _ _ H.out HS.out _ rfl).mono ?_; rw [HK.out]; rintro e w' ⟨rfl, rfl⟩))
        go_ret2
        exact ⟨ret_two (by rw [HV.out]) (by rw [HR.out]), rfl⟩
      · have HR : Hid (readE r n = 0) := by simp only [Hid, readE, hk, if_true]; rw [if_pos (by omega)]
        by_cases h7 : n = 7
        · subst h7
          have HV : Hid (readV r id 7 c = c % 4294967296) := by simp only [Hid, readV, hk]; rfl
          clear hk h
          go_enter Try.func24, Try.ntmps24
          (go_wp2_with (go_at_call 34; refine (rhas_any _ (by simp) _ _ _ _ H.out HS.out _ rfl).mono ?_; rw [HK.out]; rintro e w' ⟨rfl, rfl⟩))
          go_ret2
          exact ⟨ret_two (by rw [HV.out]) (by rw [HR.out]), rfl⟩
        · by_cases h8 : n = 8
          · subst h8
            have HV : Hid (readV r id 8 c = id % 4294967296) := by simp only [Hid, readV, hk]; rfl
            have hi := h.id
            clear hk h h7
            go_enter Try.func24, Try.ntmps24
            (go_wp2_with (go_at_call 34; refine (rhas_any _ (by simp) _ _ _ _ H.out HS.out _ rfl).mono ?_; rw [HK.out]; rintro e w' ⟨rfl, rfl⟩))
            go_ret2
            exact ⟨ret_two (by rw [HV.out]) (by rw [HR.out]), rfl⟩
          · obtain ⟨k, rfl⟩ := Int.eq_ofNat_of_zero_le (by omega : 0 ≤ n)
            have HV : Hid (readV r id k c = r.getD k 0) := by simp only [Hid, readV, hk, if_true]; rw [if_pos (by omega), if_neg h7, if_neg h8]; rfl
            have hr := h.reg k (by omega)
            have e7 : ((k : Int) == 7) = false := by simpa using h7
            have e8 : ((k : Int) == 8) = false := by simpa using h8
            obtain ⟨x, hx⟩ : ∃ x, x = r.getD k 0 := ⟨_, rfl⟩
            rw [← hx] at hr
            have HX := Lib.hid hx
            clear hk h hx
            go_enter Try.func24, Try.ntmps24
            (go_wp2_with (go_at_call 34; refine (rhas_any _ (by simp) _ _ _ _ H.out HS.out _ rfl).mono ?_; rw [HK.out]; rintro e w' ⟨rfl, rfl⟩))
            go_ret2
            exact ⟨ret_two (by rw [HV.out, HX.out]) (by rw [HR.out]), rfl⟩
def RWritePost (b : Nat) (r : List Int) (id n v : Int) (w : World) (e : Ending) (w' : World) : Prop := e = .returned (.int .i64 (putE r n)) ∧ RefC w' b (putC r n v) id ∧ Upd b w w'
theorem rwrite_any (n v : Int) (b : Nat) (r : List Int) (id : Int) (w : World) (h : RefC w b r id) (hs : StOk r) : Calls Try.prog 23 #[.pointer (some ⟨b, 0, none⟩), .int .i64 n, .int .u32 v] w (RWritePost b r id n v w) := by
  have H := Lib.hid h
  have HS := Lib.hid hs
  clear hs
  cases hk : hasB (r.getD 5 0) 4
  · have HK := Lib.hid hk
    have HP : Hid (putE r n = 4) := by simp only [Hid, putE, hk]; rfl
    have HC : Hid (putC r n v = r) := by simp only [Hid, putC, hk]; rfl
    clear hk h
    go_enter Try.func23, Try.ntmps23
    (go_wp2_with (go_at_call 34; refine (rhas_any _ (by simp) _ _ _ _ H.out HS.out _ rfl).mono ?_; rw [HK.out]; rintro e w' ⟨rfl, rfl⟩))
    go_ret
    exact ⟨ret_int (by rw [HP.out]), by rw [HC.out]; exact H.out, Upd.refl _ _⟩
  · have HK := Lib.hid hk
    by_cases hn : 0 ≤ n ∧ n ≤ 6
    · have h7 : n = 0 ∨ n = 1 ∨ n = 2 ∨ n = 3 ∨ n = 4 ∨ n = 5 ∨ n = 6 := by omega
      clear hn
      rcases h7 with rfl | rfl | rfl | rfl | rfl | rfl | rfl
      · as_aux_lemma =>
        have hr := h.reg 0 (by omega)
        have hf := h.free 0
        have HP : Hid (putE r 0 = 0) := by simp only [Hid, putE, hk]; rfl
        have HS2 : Hid (RefC (w.setCell ⟨b, 0, none⟩ (.int .u32 (bits .and .u32 v 7937))) b (putC r 0 v) id) := by
          have e : putC r 0 v = r.set 0 (bits .and .u32 v 7937) := by simp only [putC, hk]; rfl
          rw [Hid, e]; exact h.set 0 (by omega) _
        generalize r.getD 0 0 = x at hr
        clear hk h
        go_enter Try.func23, Try.ntmps23
        (go_wp2_with (go_at_call 34; refine (rhas_any _ (by simp) _ _ _ _ H.out HS.out _ rfl).mono ?_; rw [HK.out]; rintro e w' ⟨rfl, rfl⟩))
        go_ret
        exact ⟨ret_int (by rw [HP.out]), HS2.out, Upd.setCell w ⟨b, 0, none⟩ _⟩
      · as_aux_lemma =>
        have hr := h.reg 1 (by omega)
        have hf := h.free 1
        have HP : Hid (putE r 1 = 0) := by simp only [Hid, putE, hk]; rfl
        have HS2 : Hid (RefC (w.setCell ⟨b, 1, none⟩ (.int .u32 (v))) b (putC r 1 v) id) := by
          have e : putC r 1 v = r.set 1 (v) := by simp only [putC, hk]; rfl
          rw [Hid, e]; exact h.set 1 (by omega) _
        generalize r.getD 1 0 = x at hr
        clear hk h
        go_enter Try.func23, Try.ntmps23
        (go_wp2_with (go_at_call 34; refine (rhas_any _ (by simp) _ _ _ _ H.out HS.out _ rfl).mono ?_; rw [HK.out]; rintro e w' ⟨rfl, rfl⟩))
        go_ret
        exact ⟨ret_int (by rw [HP.out]), HS2.out, Upd.setCell w ⟨b, 1, none⟩ _⟩
      · as_aux_lemma =>
        have hr := h.reg 2 (by omega)
        have hf := h.free 2
        have HP : Hid (putE r 2 = 0) := by simp only [Hid, putE, hk]; rfl
        have HS2 : Hid (RefC (w.setCell ⟨b, 2, none⟩ (.int .u32 (v))) b (putC r 2 v) id) := by
          have e : putC r 2 v = r.set 2 (v) := by simp only [putC, hk]; rfl
          rw [Hid, e]; exact h.set 2 (by omega) _
        generalize r.getD 2 0 = x at hr
        clear hk h
        go_enter Try.func23, Try.ntmps23
        (go_wp2_with (go_at_call 34; refine (rhas_any _ (by simp) _ _ _ _ H.out HS.out _ rfl).mono ?_; rw [HK.out]; rintro e w' ⟨rfl, rfl⟩))
        go_ret
        exact ⟨ret_int (by rw [HP.out]), HS2.out, Upd.setCell w ⟨b, 2, none⟩ _⟩
      · as_aux_lemma =>
        have hr := h.reg 3 (by omega)
        have hf := h.free 3
        have HP : Hid (putE r 3 = 0) := by simp only [Hid, putE, hk]; rfl
        have HS2 : Hid (RefC (w.setCell ⟨b, 3, none⟩ (.int .u32 (v))) b (putC r 3 v) id) := by
          have e : putC r 3 v = r.set 3 (v) := by simp only [putC, hk]; rfl
          rw [Hid, e]; exact h.set 3 (by omega) _
        generalize r.getD 3 0 = x at hr
        clear hk h
        go_enter Try.func23, Try.ntmps23
        (go_wp2_with (go_at_call 34; refine (rhas_any _ (by simp) _ _ _ _ H.out HS.out _ rfl).mono ?_; rw [HK.out]; rintro e w' ⟨rfl, rfl⟩))
        go_ret
        exact ⟨ret_int (by rw [HP.out]), HS2.out, Upd.setCell w ⟨b, 3, none⟩ _⟩
      · as_aux_lemma =>
        have hr := h.reg 4 (by omega)
        have hf := h.free 4
        have HP : Hid (putE r 4 = 0) := by simp only [Hid, putE, hk]; rfl
        have HS2 : Hid (RefC (w.setCell ⟨b, 4, none⟩ (.int .u32 (v))) b (putC r 4 v) id) := by
          have e : putC r 4 v = r.set 4 (v) := by simp only [putC, hk]; rfl
          rw [Hid, e]; exact h.set 4 (by omega) _
        generalize r.getD 4 0 = x at hr
        clear hk h
        go_enter Try.func23, Try.ntmps23
        (go_wp2_with (go_at_call 34; refine (rhas_any _ (by simp) _ _ _ _ H.out HS.out _ rfl).mono ?_; rw [HK.out]; rintro e w' ⟨rfl, rfl⟩))
        go_ret
        exact ⟨ret_int (by rw [HP.out]), HS2.out, Upd.setCell w ⟨b, 4, none⟩ _⟩
      · as_aux_lemma =>
        have hr := h.reg 5 (by omega)
        have hf := h.free 5
        have HP : Hid (putE r 5 = 0) := by simp only [Hid, putE, hk]; rfl
        have HS2 : Hid (RefC (w.setCell ⟨b, 5, none⟩ (.int .u32 (bits .and .u32 v 15))) b (putC r 5 v) id) := by
          have e : putC r 5 v = r.set 5 (bits .and .u32 v 15) := by simp only [putC, hk]; rfl
          rw [Hid, e]; exact h.set 5 (by omega) _
        generalize r.getD 5 0 = x at hr
        clear hk h
        go_enter Try.func23, Try.ntmps23
        (go_wp2_with (go_at_call 34; refine (rhas_any _ (by simp) _ _ _ _ H.out HS.out _ rfl).mono ?_; rw [HK.out]; rintro e w' ⟨rfl, rfl⟩))
        go_ret
        exact ⟨ret_int (by rw [HP.out]), HS2.out, Upd.setCell w ⟨b, 5, none⟩ _⟩
      · as_aux_lemma =>
        have hr := h.reg 6 (by omega)
        have hf := h.free 6
        have HP : Hid (putE r 6 = 0) := by simp only [Hid, putE, hk]; rfl
        have HS2 : Hid (RefC (w.setCell ⟨b, 6, none⟩ (.int .u32 (v))) b (putC r 6 v) id) := by
          have e : putC r 6 v = r.set 6 (v) := by simp only [putC, hk]; rfl
          rw [Hid, e]; exact h.set 6 (by omega) _
        generalize r.getD 6 0 = x at hr
        clear hk h
        go_enter Try.func23, Try.ntmps23
        (go_wp2_with (go_at_call 34; refine (rhas_any _ (by simp) _ _ _ _ H.out HS.out _ rfl).mono ?_; rw [HK.out]; rintro e w' ⟨rfl, rfl⟩))
        go_ret
        exact ⟨ret_int (by rw [HP.out]), HS2.out, Upd.setCell w ⟨b, 6, none⟩ _⟩
    · have HP : Hid (putE r n = 1) := by simp only [Hid, putE, hk, if_true]; rw [if_neg hn]
      have HC : Hid (putC r n v = r) := by simp only [Hid, putC, hk, if_true]; rw [if_neg (by omega), if_neg (by omega), if_neg (by omega)]
      clear hk h
      by_cases n0 : n < 0
      · clear hn
        go_enter Try.func23, Try.ntmps23
        (go_wp2_with (go_at_call 34; refine (rhas_any _ (by simp) _ _ _ _ H.out HS.out _ rfl).mono ?_; rw [HK.out]; rintro e w' ⟨rfl, rfl⟩))
        go_ret
        exact ⟨ret_int (by rw [HP.out]), by rw [HC.out]; exact H.out, Upd.refl _ _⟩
      · have n1 : 6 < n := by omega
        clear hn
        go_enter Try.func23, Try.ntmps23
        (go_wp2_with (go_at_call 34; refine (rhas_any _ (by simp) _ _ _ _ H.out HS.out _ rfl).mono ?_; rw [HK.out]; rintro e w' ⟨rfl, rfl⟩))
        go_ret
        exact ⟨ret_int (by rw [HP.out]), by rw [HC.out]; exact H.out, Upd.refl _ _⟩
theorem rhandles_any (b : Nat) (r : List Int) (id : Int) (w : World) (h : RefC w b r id) : Calls Try.prog 27 #[.pointer (some ⟨b, 0, none⟩)] w fun e w' => e = .returned (.bool (r.getD 1 0 != 0)) ∧ w = w' := by
  have hr := h.reg 1 (by omega)
  generalize r.getD 1 0 = x at hr
  clear h
  go_enter Try.func27, Try.ntmps27
  go_wp2
  go_ret
  exact ⟨rfl, rfl⟩
theorem ropen_any (b : Nat) (r : List Int) (id : Int) (w : World) (h : RefC w b r id) (hs : StOk r) : Calls Try.prog 26 #[.pointer (some ⟨b, 0, none⟩)] w fun e w' => e = .returned (.bool (openV r)) ∧ w = w' := by
  have H := Lib.hid h; have HS := Lib.hid hs; clear h hs
  cases hk : r.getD 1 0 != 0
  · have HO : Hid (openV r = false) := by simp only [Hid, openV, hk]; rfl
    have HK := Lib.hid hk; clear hk
    go_enter Try.func26, Try.ntmps26
    go_wp2_with (go_at_call 27; refine (rhandles_any _ _ _ _ H.out).mono ?_; rw [HK.out]; rintro e w' ⟨rfl, rfl⟩)
    go_ret
    exact ⟨by rw [HO.out]; rfl, rfl⟩
  · have HO : Hid (openV r = hasB (r.getD 5 0) 1) := by simp only [Hid, openV, hk]; rfl
    have HK := Lib.hid hk; clear hk
    go_enter Try.func26, Try.ntmps26
    go_wp2_with (first | (go_at_call 27; refine (rhandles_any _ _ _ _ H.out).mono ?_; rw [HK.out]; rintro e w' ⟨rfl, rfl⟩) | (go_at_call 34; refine (rhas_any _ (by simp) _ _ _ _ H.out HS.out _ rfl).mono ?_; rw [← HO.out]; rintro e w' ⟨rfl, rfl⟩))
    go_ret
    exact ⟨rfl, rfl⟩
theorem ofInt32 (a : Nat) (ha : a < 4294967296) : (BitVec.ofInt 32 (a : Int)).toNat = a := by
  simp only [BitVec.toNat_ofInt]
  omega
theorem u32_and (a b : Nat) (ha : a < 4294967296) (hb : b < 4294967296) : bits .and .u32 (a : Int) (b : Int) = ((a &&& b : Nat) : Int) := by
  have h : (BitVec.ofInt 32 (a : Int) &&& BitVec.ofInt 32 (b : Int)).toNat = a &&& b := by rw [BitVec.toNat_and, ofInt32 a ha, ofInt32 b hb]
  have hl : a &&& b < 4294967296 := Nat.lt_of_le_of_lt Nat.and_le_left ha
  simp only [bits]
  show IntKind.u32.wrap ((BitVec.ofInt 32 (a : Int) &&& BitVec.ofInt 32 (b : Int)).toNat : Int) = _
  rw [h]
  simp only [IntKind.wrap_u32]
  omega
theorem and_31 (x : Int) (h0 : 0 ≤ x) (h1 : x < 4294967296) : bits .and .u32 x 31 = x % 32 := by
  obtain ⟨n, rfl⟩ := Int.eq_ofNat_of_zero_le h0
  have := u32_and n 31 (by omega) (by omega)
  have h2 : n &&& 31 = n % 32 := Nat.and_two_pow_sub_one_eq_mod n 5
  rw [h2] at this
  exact this
theorem and_one (x : Int) (h0 : 0 ≤ x) (h1 : x < 4294967296) : (bits .and .u32 x 1 != 0) = (x % 2 == 1) := by
  obtain ⟨n, rfl⟩ := Int.eq_ofNat_of_zero_le h0
  have := u32_and n 1 (by omega) (by omega)
  have h2 : n &&& 1 = n % 2 := Nat.and_two_pow_sub_one_eq_mod n 1
  rw [h2] at this
  rw [show bits .and .u32 (n : Int) 1 = ((n % 2 : Nat) : Int) from this]
  rcases Nat.mod_two_eq_zero_or_one n with h | h
  · rw [h]; have : (n : Int) % 2 = 0 := by omega
    rw [this]; rfl
  · rw [h]; have : (n : Int) % 2 = 1 := by omega
    rw [this]; rfl
theorem rmode_any (b : Nat) (r : List Int) (id : Int) (w : World) (h : RefC w b r id) (hs : StOk r) : Calls Try.prog 25 #[.pointer (some ⟨b, 0, none⟩)] w (ModePost (modeC r) w) := by
  have hb : Below w.heap.size w (w.alloc (.cells #[.bool false, .int .i64 0, .bool false] 29)) := (Below.refl _ _).alloc (Nat.le_refl _) _
  have H := Lib.hid (h.below hb)
  have HS := Lib.hid hs
  have hr := H.out.reg 0 (by omega)
  obtain ⟨x, hx⟩ : ∃ x, x = r.getD 0 0 := ⟨_, rfl⟩
  obtain ⟨s, hs5⟩ : ∃ s, s = r.getD 5 0 := ⟨_, rfl⟩
  have x0 : 0 ≤ x := by rw [hx]; exact hs.2.2.1
  have x1 : x < 4294967296 := by rw [hx]; exact hs.2.2.2
  have HT := Lib.hid hs5.symm
  have HX := Lib.hid hx
  have HM : Hid (modeC r = #[.bool (x.tmod 2 == 1), .int .i64 (wrap64 ((x / 256).tmod 32)), .bool (!hasB s 4)]) := by rw [Hid, modeC, ← hx, ← hs5, onV, rootV, and_one x x0 x1, and_31 (x / 256) (by omega) (by omega), Int.tmod_eq_emod_of_nonneg x0, Int.tmod_eq_emod_of_nonneg (by omega : 0 ≤ x / 256)]
  rw [← hx] at hr
  clear h hx hs hs5 x0 x1
  obtain ⟨W, hW⟩ : ∃ W, W = w.alloc (.cells #[.bool false, .int .i64 0, .bool false] 29) := ⟨_, rfl⟩
  go_enter Try.func25, Try.ntmps25
  go_wp2_with fail
  rw [← hW] at H hr hb ⊢
  have HO := Lib.hid (hW ▸ new_block w _ _ rfl : W.heap[w.heap.size]? = some (.cells #[.bool false, .int .i64 0, .bool false] 29 (0, 0)))
  clear hr hW
  refine wp_region_still_tail 19 (by kernel_rfl) (by kernel_rfl) ?_; simp only [List.take_succ_cons, List.take_zero, List.drop_succ_cons, List.drop_zero]; obtain ⟨W1, hW1⟩ : ∃ x, x = World.drew W := ⟨_, rfl⟩; change wpStill _ _ (World.drew W) (fun a' => wpList _ _ _ _ a' (World.drew W)) _ _; rw [← hW1]
  have HF1 : Hid (RefC W1 b r id) := by rw [Hid, hW1]; exact H.out
  have HB1 : Hid (Below w.heap.size w W1) := by rw [Hid, hW1]; exact hb.drew
  have HO1 : Hid (W1.heap[w.heap.size]? = some (.cells #[.bool false, .int .i64 0, .bool false] 29 (0, 0))) := by rw [Hid, hW1]; exact HO.out
  have hr := HF1.out.reg 0 (by omega)
  have c0 := cell_at HO1.out 0 _ rfl; have c1 := cell_at HO1.out 1 _ rfl; have c2 := cell_at HO1.out 2 _ rfl
  have f0 := free_at HO1.out 0; have f1 := free_at HO1.out 1; have f2 := free_at HO1.out 2
  rw [← HX.out] at hr
  clear hW1 hb
  repeat (first | still_step | still_call ((rhas_any _ (by simp) _ _ _ _ HF1.out HS.out s HT.out).mono fun _ _ h => ⟨h.1, h.2.symm⟩))
  refine wpStill_nil ?_
  go_wp2_with fail
  refine bodyPost_ret (v := .agg #[.bool (x.tmod 2 == 1), .int .i64 (wrap64 ((x / 256).tmod 32)), .bool (!hasB s 4)]) (by simp [results, Try.results25, go_sem, c0, c1, c2]) rfl ⟨by rw [HM.out], ?_⟩
  exact ((HB1.out.setCell (by simp) _).setCell (by simp) _).setCell (by simp) _
end Go.Proofs.Ytbalikmfbbmmjaa
