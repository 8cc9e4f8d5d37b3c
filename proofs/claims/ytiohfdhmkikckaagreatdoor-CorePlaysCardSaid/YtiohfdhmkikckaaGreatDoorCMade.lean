/- Chapter 13: the registers that a law makes. -/
import Derived.Test.YtiohfdhmkikckaaGreatDoorCore6
import Derived.Test.YtiohfdhmkikckaaGreatDoorFlat
namespace Go.Proofs.YtiohfdhmkikckaaGreatDoor
set_option linter.unusedVariables false
set_option linter.unusedSimpArgs false
set_option linter.unnecessarySimpa false
open Go.RowKit
set_option maxHeartbeats 4000000
set_option maxRecDepth 100000
set_option linter.unusedVariables false
theorem FileAtO {W : World} {b : Nat} {r : List Int} {pc : Int} (h : Regs.FileAt W b r true pc) : ObjAt W b 82 (r.map (Value.int .u32) ++ [Value.bool true, Value.int .u32 pc]) := h.2
theorem RefAtO {W : World} {b : Nat} {r : List Int} {pc : Int} (h : Regs.RefAt W b r pc) : ObjAt W b 43 (r.map (Value.int .u32) ++ [Value.int .u32 pc]) := h.2
/-- The four that a law makes. -/
structure Four (w W : World) (b c g e : Nat) (r : List Int) (pc gpc : Int) (cr ce : List Int) : Prop where
  f : Regs.FileAt W b r true pc
  k : Csr.FileC W c cr 2
  rf : Regs.RefAt W g r gpc
  rk : Csr.RefC W e ce 2
  ok : ROk r
  bel : Below w.heap.size w W
  lb : w.heap.size ≤ b
  lc : w.heap.size ≤ c
  lg : w.heap.size ≤ g
  le : w.heap.size ≤ e
variable {w W W' : World} {b c g e : Nat} {r r' : List Int} {pc pc' gpc : Int} {cr ce cr' ce' : List Int}
theorem Four.ne (h : Four w W b c g e r pc gpc cr ce) : b ≠ c ∧ b ≠ g ∧ b ≠ e ∧ c ≠ g ∧ c ≠ e ∧ g ≠ e :=
  ⟨(FileAtO h.f).ne h.k.2 (by decide), (FileAtO h.f).ne (RefAtO h.rf) (by decide), (FileAtO h.f).ne h.rk.2 (by decide), h.k.2.ne (RefAtO h.rf) (by decide), h.k.2.ne h.rk.2 (by decide), (RefAtO h.rf).ne h.rk.2 (by decide)⟩
theorem Four.below (h : Four w W b c g e r pc gpc cr ce) (hb : Below W.heap.size W W') : Four w W' b c g e r pc gpc cr ce :=
  ⟨h.f.below hb, h.k.below hb, h.rf.below hb, h.rk.below hb, h.ok, h.bel.trans (hb.mono h.bel.size), h.lb, h.lc, h.lg, h.le⟩
theorem Four.setK (h : Four w W b c g e r pc gpc cr ce) (hf : Csr.FileC W' c cr' 2) (hu : Upd c W W') : Four w W' b c g e r pc gpc cr' ce :=
  ⟨Regs.FileAt.upd h.f hu h.ne.1, hf, Regs.RefAt.upd h.rf hu h.ne.2.2.2.1.symm, h.rk.upd hu h.ne.2.2.2.2.1.symm, h.ok, bupd h.bel hu h.lc, h.lb, h.lc, h.lg, h.le⟩
theorem Four.setE (h : Four w W b c g e r pc gpc cr ce) (hf : Csr.RefC W' e ce' 2) (hu : Upd e W W') : Four w W' b c g e r pc gpc cr ce' :=
  ⟨Regs.FileAt.upd h.f hu h.ne.2.2.1, h.k.upd hu h.ne.2.2.2.2.1, Regs.RefAt.upd h.rf hu h.ne.2.2.2.2.2, hf, h.ok, bupd h.bel hu h.le, h.lb, h.lc, h.lg, h.le⟩
theorem Four.setPc (h : Four w W b c g e r pc gpc cr ce) (hf : Regs.FileAt W' b r true pc') (hu : Upd b W W') : Four w W' b c g e r pc' gpc cr ce :=
  ⟨hf, h.k.upd hu h.ne.1.symm, Regs.RefAt.upd h.rf hu h.ne.2.1.symm, h.rk.upd hu h.ne.2.2.1.symm, h.ok, bupd h.bel hu h.lb, h.lb, h.lc, h.lg, h.le⟩
theorem Four.setGpc (h : Four w W b c g e r pc gpc cr ce) (v : Int) : Four w (W.setCell ⟨g, 16, none⟩ (.int .u32 v)) b c g e r pc v cr ce :=
  have hu := Upd.setCell W ⟨g, 16, none⟩ (.int .u32 v)
  ⟨Regs.FileAt.upd h.f hu h.ne.2.1, h.k.upd hu h.ne.2.2.2.1, h.rf.setPc v, h.rk.upd hu h.ne.2.2.2.2.2.symm, h.ok, bupd h.bel hu h.lg, h.lb, h.lc, h.lg, h.le⟩
theorem ROk.put (h : ROk r) (i v : Int) (h0 : 0 ≤ v ∧ v ≤ 4294967295) : ROk (Regs.putR r i v) := by
  unfold Regs.putR
  split
  · intro x hx
    rcases List.mem_or_eq_of_mem_set hx with h1 | h1
    · exact h x h1
    · rw [h1]; exact h0
  · exact h
/-- One register set in both. -/
theorem Four.both {W1 : World} (h : Four w W b c g e r pc gpc cr ce) (i v : Int) (hv : 0 ≤ v ∧ v ≤ 4294967295) (hf : Regs.FileAt W1 b (Regs.putR r i v) true pc) (hu : Upd b W W1) (hg : Regs.RefAt W' g (Regs.putR r i v) gpc) (hu2 : Upd g W1 W') : Four w W' b c g e (Regs.putR r i v) pc gpc cr ce :=
  ⟨Regs.FileAt.upd hf hu2 h.ne.2.1, (h.k.upd hu h.ne.1.symm).upd hu2 h.ne.2.2.2.1, hg, (h.rk.upd hu h.ne.2.2.1.symm).upd hu2 h.ne.2.2.2.2.2.symm, h.ok.put i v hv, bupd (bupd h.bel hu h.lb) hu2 h.lg, h.lb, h.lc, h.lg, h.le⟩
def k1 : List Int := [0, 64, 0, 0, 0, 4, 0]
def k2 : List Int := [0, 64, 32, 0, 0, 4, 0]
def k3 (st : Int) : List Int := [0, 64, 32, 0, 0, bits .and .u32 st 15, 0]
theorem k1_eq : Csr.putC Csr.r0 1 64 = k1 := by decide +kernel
theorem k2_eq : Csr.putC k1 2 32 = k2 := by decide +kernel
theorem k3_eq (st : Int) : Csr.putC k2 5 st = k3 st := by
  have h : Csr.hasB (k2.getD 5 0) 4 = true := by decide +kernel
  rw [Csr.putC_5 h]; rfl
theorem ok0 : Csr.StOk Csr.r0 := Csr.ok_r0
theorem ok1 : Csr.StOk k1 := ⟨by decide, by decide, by decide, by decide⟩
theorem ok2 : Csr.StOk k2 := ⟨by decide, by decide, by decide, by decide⟩
def fillR (xs : List Int) : Nat → List Int
  | 0 => List.replicate 16 0
  | k + 1 => Regs.putR (fillR xs k) k (xs.getD k 0)
def rV (xs : List Int) : List Int := fillR xs (min xs.length 16)
theorem row_cell {w : World} {k : IntKind} {a : Option Addr} {c : Nat} {xs : List Int} (h : RowI w k (.slice a xs.length c) xs) (n : Nat) (hn : n < xs.length) : ∃ b o, a = some ⟨b, o, none⟩ ∧ ∀ W, Below w.heap.size w W → W.cell? ⟨b, o + n, none⟩ = some (.int k xs[n]) := by
  obtain ⟨a', c', e, _, _, h3⟩ := h
  cases e
  obtain ⟨b, o, rfl, hc⟩ := h3 (by intro h0; rw [h0] at hn; simp at hn)
  refine ⟨b, o, rfl, fun W hb => ?_⟩
  have h1 := hc n hn
  rw [hb.cell (p := ⟨b, o + n, none⟩) (World.block_lt_of_cell? w _ h1)]
  exact h1
def MadePost (xs : List Int) (w : World) (pc st : Int) (x : Ending) (W : World) : Prop :=
  ∃ b c g e, x = .returned (.tuple #[.pointer (some ⟨b, 0, none⟩), .pointer (some ⟨c, 0, none⟩), .pointer (some ⟨g, 0, none⟩), .pointer (some ⟨e, 0, none⟩)]) ∧ Four w W b c g e (rV xs) pc pc (k3 st) (k3 st)
theorem made_any (v : Value) (xs : List Int) (hv : ∀ x ∈ xs, 0 ≤ x ∧ x < 4294967296) (pc st : Int) (w : World) (h : RowI w .u32 v xs) : Calls Tryz.prog 4 #[v, .int .u32 pc, .int .u32 st] w (MadePost xs w pc st) := by
  have H := Lib.hid h
  obtain ⟨a0, c0, rfl, q1, q2, _⟩ := h
  have HV := Lib.hid hv
  have hl : xs.length ≤ 9223372036854775807 := by unfold maxLen at q2; omega
  clear hv q1 q2
  go_enter Tryz.func4, Tryz.ntmps4
  go_upto_region 3 with (first | (go_at_call 14; refine (Regs.new_any _).mono ?_; rintro x W1 ⟨rfl, hf, hb, _⟩; have F1 := Lib.hid hf; have B1 := Lib.hid hb; clear hf hb) | (go_at_call 15; refine (Csr.new_any 2 _ (by omega) (by omega)).mono ?_; rintro x W2 ⟨c, rfl, hf, hb, hs⟩; have F2 := Lib.hid hf; have B2 := Lib.hid hb; have S2 := Lib.hid hs; clear hf hb hs))
  have B12 : Hid (Below w.heap.size w W2) := B1.out.trans (B2.out.mono B1.out.size)
  have F1' : Hid (Regs.FileAt W2 w.heap.size (List.replicate 16 0) true 0) := F1.out.below B2.out
  clear F1
  go_upto_region 4 with fail
  have G3 : Hid (Regs.RefAt (W2.alloc (.cells #[.int .u32 0, .int .u32 0, .int .u32 0, .int .u32 0, .int .u32 0, .int .u32 0, .int .u32 0, .int .u32 0, .int .u32 0, .int .u32 0, .int .u32 0, .int .u32 0, .int .u32 0, .int .u32 0, .int .u32 0, .int .u32 0, .int .u32 0] 43)) W2.heap.size (List.replicate 16 0) 0) := ⟨rfl, new_block W2 _ _ rfl⟩
  have B3 : Hid (Below W2.heap.size W2 (W2.alloc (.cells #[.int .u32 0, .int .u32 0, .int .u32 0, .int .u32 0, .int .u32 0, .int .u32 0, .int .u32 0, .int .u32 0, .int .u32 0, .int .u32 0, .int .u32 0, .int .u32 0, .int .u32 0, .int .u32 0, .int .u32 0, .int .u32 0, .int .u32 0] 43))) := (Below.refl _ _).alloc (Nat.le_refl _) _
  generalize W2.alloc (.cells #[.int .u32 0, .int .u32 0, .int .u32 0, .int .u32 0, .int .u32 0, .int .u32 0, .int .u32 0, .int .u32 0, .int .u32 0, .int .u32 0, .int .u32 0, .int .u32 0, .int .u32 0, .int .u32 0, .int .u32 0, .int .u32 0, .int .u32 0] 43) = W3 at G3 B3 ⊢
  go_upto_region 5 with (first | (go_at_call 16; refine (Csr.rnew_any 2 _ (by omega) (by omega)).mono ?_; rintro x W4 ⟨e, rfl, hf, hb, hs⟩; have F4 := Lib.hid hf; have B4 := Lib.hid hb; have S4 := Lib.hid hs; clear hf hb hs))
  have h4 : Four w W4 w.heap.size c W2.heap.size e (List.replicate 16 0) 0 0 Csr.r0 Csr.r0 :=
    ⟨(F1'.out.below B3.out).below B4.out, (F2.out.below B3.out).below B4.out, G3.out.below B4.out, F4.out, fun x hx => by rw [List.eq_of_mem_replicate hx]; omega,
      (B12.out.trans (B3.out.mono B12.out.size)).trans (B4.out.mono (B12.out.trans (B3.out.mono B12.out.size)).size), Nat.le_refl _, Nat.le_trans B1.out.size S2.out, B12.out.size, Nat.le_trans (B12.out.trans (B3.out.mono B12.out.size)).size S4.out⟩
  obtain ⟨g, hg⟩ : ∃ g, g = W2.heap.size := ⟨_, rfl⟩
  obtain ⟨b, hb⟩ : ∃ b, b = w.heap.size := ⟨_, rfl⟩
  rw [← hg, ← hb] at h4 ⊢
  have H4 := Lib.hid h4
  clear h4 F1' F2 F4 G3 B1 B2 B3 B4 S2 S4 B12 hg hb
  go_upto_region 8 with fail
  go_loopw [16] (fun i wr => ∃ (k : Nat), k ≤ xs.length ∧ k ≤ 16 ∧ i = .int .i64 k ∧ Four w wr b c g e (fillR xs k) 0 0 Csr.r0 Csr.r0) (fun i _ => 16 - (intOf i).toNat)
  case atStart => exact ⟨0, by omega, by omega, rfl, H4.out⟩
  case round =>
    clear H4
    obtain ⟨k, hk, hk2, rfl, h⟩ := hrel
    obtain ⟨r, hr⟩ : ∃ r, r = fillR xs k := ⟨_, rfl⟩
    rw [← hr] at h
    have HF := Lib.hid h
    have HRV := Lib.hid hr
    clear h hr
    by_cases hkl : k < xs.length
    · have d1 : decide ((k : Int) < (xs.length : Int)) = true := by simp; omega
      by_cases hk16 : k < 16
      · have d2 : decide ((k : Int) < 16) = true := by simp; omega
        obtain ⟨bx, ox, rfl, hcx⟩ := row_cell H.out k hkl
        obtain ⟨x, hx0⟩ : ∃ x, x = xs[k] := ⟨_, rfl⟩
        have hx : x ∈ xs := by rw [hx0]; exact List.getElem_mem hkl
        have HNX : Hid (fillR xs (k + 1) = Regs.putR r k x) := by rw [Hid, fillR, ← HRV.out, hx0, List.getD_eq_getElem?_getD, List.getElem?_eq_getElem hkl]; rfl
        rw [← hx0] at hcx
        have hxb := HV.out x hx
        clear hx0
        have HXB : Hid (0 ≤ x ∧ x ≤ 4294967295) := by rw [Hid]; omega
        have HCX := Lib.hid hcx
        clear hcx hx hxb
        have cx := HCX.out _ HF.out.bel
        have i1 : (0 : Int) ≤ (k : Int) := by omega
        have i2 : (k : Int) < (xs.length : Int) := by omega
        have w1 : IntKind.i64.wrap ((k : Int) + 1) = (k : Int) + 1 := by rw [IntKind.wrap_i64]; omega
        go_upto_region 11 with (first | (go_at_call 17; refine (Regs.set_any k x b r 0 _ HF.out.f).mono ?_; rintro y W5 ⟨rfl, hf, hu⟩; have F5 := Lib.hid hf; have U5 := Lib.hid hu; clear hf hu))
        clear cx
        have B5 : Hid (Below w.heap.size w W5) := bupd HF.out.bel U5.out HF.out.lb
        have cx := HCX.out _ B5.out
        have G5 : Hid (Regs.RefAt W5 g r 0) := Regs.RefAt.upd HF.out.rf U5.out HF.out.ne.2.1.symm
        go_wp2_with (first | (go_at_call 18; refine (Regs.rset_any k x g r 0 _ G5.out).mono ?_; rintro y W6 ⟨rfl, hf, hu⟩; have H6 := Lib.hid (HF.out.both k x HXB.out F5.out U5.out hf hu); clear hf hu))
        go_roundw
        case rel => exact ⟨k + 1, by omega, by omega, by go_num, by rw [HNX.out]; exact H6.out⟩
        case measure => simp [intOf]; omega
      · have d2 : decide ((k : Int) < 16) = false := by simp; omega
        have HRE : Hid (r = rV xs) := by rw [HRV.out, rV]; congr 1; omega
        (go_upto_region 13 with (first | (go_at_call 12; refine (Regs.jump_any pc b r 0 _ HF.out.f).mono ?_; rintro y Wn ⟨rfl, hf, hu⟩; have H5 := Lib.hid (HF.out.setPc hf hu); clear hf hu)); have cp := H5.out.rf.pc; have fp := H5.out.rf.free 16; go_upto_region 14 with fail; clear cp fp; have H6 := Lib.hid (H5.out.setGpc pc); go_upto_region 15 with (first | (go_at_call 19; refine (Csr.write_any 1 64 c Csr.r0 2 _ H6.out.k).mono ?_; rintro y Wn ⟨rfl, hf, hu⟩; rw [k1_eq] at hf; have H7 := Lib.hid (H6.out.setK hf hu); clear hf hu)); go_upto_region 16 with (first | (go_at_call 20; refine (Csr.rwrite_any 1 64 e Csr.r0 2 _ H7.out.rk ok0).mono ?_; rintro y Wn ⟨rfl, hf, hu⟩; rw [k1_eq] at hf; have H8 := Lib.hid (H7.out.setE hf hu); clear hf hu)); go_upto_region 17 with (first | (go_at_call 19; refine (Csr.write_any 2 32 c k1 2 _ H8.out.k).mono ?_; rintro y Wn ⟨rfl, hf, hu⟩; rw [k2_eq] at hf; have H9 := Lib.hid (H8.out.setK hf hu); clear hf hu)); go_upto_region 18 with (first | (go_at_call 20; refine (Csr.rwrite_any 2 32 e k1 2 _ H9.out.rk ok1).mono ?_; rintro y Wn ⟨rfl, hf, hu⟩; rw [k2_eq] at hf; have H10 := Lib.hid (H9.out.setE hf hu); clear hf hu)); go_upto_region 19 with (first | (go_at_call 19; refine (Csr.write_any 5 st c k2 2 _ H10.out.k).mono ?_; rintro y Wn ⟨rfl, hf, hu⟩; rw [k3_eq] at hf; have H11 := Lib.hid (H10.out.setK hf hu); clear hf hu)); go_upto_region 20 with (first | (go_at_call 20; refine (Csr.rwrite_any 5 st e k2 2 _ H11.out.rk ok2).mono ?_; rintro y Wn ⟨rfl, hf, hu⟩; rw [k3_eq] at hf; have H12 := Lib.hid (H11.out.setE hf hu); clear hf hu)); go_wp2_with fail; exact bodyPost_ret (v := .tuple #[.pointer (some ⟨b, 0, none⟩), .pointer (some ⟨c, 0, none⟩), .pointer (some ⟨g, 0, none⟩), .pointer (some ⟨e, 0, none⟩)]) (by simp [results, Tryz.results4, go_sem]) rfl ⟨b, c, g, e, rfl, by rw [← HRE.out]; exact H12.out⟩)
    · have d1 : decide ((k : Int) < (xs.length : Int)) = false := by simp; omega
      have HRE : Hid (r = rV xs) := by rw [HRV.out, rV]; congr 1; omega
      (go_upto_region 13 with (first | (go_at_call 12; refine (Regs.jump_any pc b r 0 _ HF.out.f).mono ?_; rintro y Wn ⟨rfl, hf, hu⟩; have H5 := Lib.hid (HF.out.setPc hf hu); clear hf hu)); have cp := H5.out.rf.pc; have fp := H5.out.rf.free 16; go_upto_region 14 with fail; clear cp fp; have H6 := Lib.hid (H5.out.setGpc pc); go_upto_region 15 with (first | (go_at_call 19; refine (Csr.write_any 1 64 c Csr.r0 2 _ H6.out.k).mono ?_; rintro y Wn ⟨rfl, hf, hu⟩; rw [k1_eq] at hf; have H7 := Lib.hid (H6.out.setK hf hu); clear hf hu)); go_upto_region 16 with (first | (go_at_call 20; refine (Csr.rwrite_any 1 64 e Csr.r0 2 _ H7.out.rk ok0).mono ?_; rintro y Wn ⟨rfl, hf, hu⟩; rw [k1_eq] at hf; have H8 := Lib.hid (H7.out.setE hf hu); clear hf hu)); go_upto_region 17 with (first | (go_at_call 19; refine (Csr.write_any 2 32 c k1 2 _ H8.out.k).mono ?_; rintro y Wn ⟨rfl, hf, hu⟩; rw [k2_eq] at hf; have H9 := Lib.hid (H8.out.setK hf hu); clear hf hu)); go_upto_region 18 with (first | (go_at_call 20; refine (Csr.rwrite_any 2 32 e k1 2 _ H9.out.rk ok1).mono ?_; rintro y Wn ⟨rfl, hf, hu⟩; rw [k2_eq] at hf; have H10 := Lib.hid (H9.out.setE hf hu); clear hf hu)); go_upto_region 19 with (first | (go_at_call 19; refine (Csr.write_any 5 st c k2 2 _ H10.out.k).mono ?_; rintro y Wn ⟨rfl, hf, hu⟩; rw [k3_eq] at hf; have H11 := Lib.hid (H10.out.setK hf hu); clear hf hu)); go_upto_region 20 with (first | (go_at_call 20; refine (Csr.rwrite_any 5 st e k2 2 _ H11.out.rk ok2).mono ?_; rintro y Wn ⟨rfl, hf, hu⟩; rw [k3_eq] at hf; have H12 := Lib.hid (H11.out.setE hf hu); clear hf hu)); go_wp2_with fail; exact bodyPost_ret (v := .tuple #[.pointer (some ⟨b, 0, none⟩), .pointer (some ⟨c, 0, none⟩), .pointer (some ⟨g, 0, none⟩), .pointer (some ⟨e, 0, none⟩)]) (by simp [results, Tryz.results4, go_sem]) rfl ⟨b, c, g, e, rfl, by rw [← HRE.out]; exact H12.out⟩)
end Go.Proofs.YtiohfdhmkikckaaGreatDoor
