/- Chapter 13: what stays so behind an instruction. -/
import Derived.Test.YtiohfdhmkikckaaGreatDoorCRef4
import Derived.Test.YtiohfdhmkikckaaGreatDoorRowN
namespace Go.Proofs.YtiohfdhmkikckaaGreatDoor
set_option linter.unusedVariables false
set_option linter.unusedSimpArgs false
set_option linter.unnecessarySimpa false
open Go.RowKit
set_option maxHeartbeats 4000000
set_option maxRecDepth 100000
set_option linter.unusedVariables false
variable {r cr : List Int} {pc id : Int} {i : In}
structure COk (cr : List Int) : Prop where
  st : Csr.StOk cr
  len : cr.length = 7
  all : ∀ n : Nat, 0 ≤ cr.getD n 0 ∧ cr.getD n 0 ≤ 4294967295
def RC (o : Out) : Prop := ROk o.r ∧ COk o.cr
theorem set_all {cr : List Int} {k : Nat} {v : Int} (h : ∀ n : Nat, 0 ≤ cr.getD n 0 ∧ cr.getD n 0 ≤ 4294967295) (hv : 0 ≤ v ∧ v ≤ 4294967295) (n : Nat) : 0 ≤ (cr.set k v).getD n 0 ∧ (cr.set k v).getD n 0 ≤ 4294967295 := by
  rw [List.getD_eq_getElem?_getD, List.getElem?_set]
  split
  · split
    · exact hv
    · simp
  · rw [← List.getD_eq_getElem?_getD]; exact h n
theorem leave_ok (h : COk cr) : COk (Csr.leaveR cr) := by
  have hs := Csr.ok_leave h.st h.len
  refine ⟨hs, by simp [Csr.leaveR, h.len], ?_⟩
  unfold Csr.leaveR at hs ⊢
  refine set_all h.all ?_
  have h1 := hs.1; have h2 := hs.2.1
  simp only [List.getD_eq_getElem?_getD, List.getElem?_set, h.len] at h1 h2
  simp at h1 h2
  simp only [List.getD_eq_getElem?_getD]
  omega
theorem put_ok (h : COk cr) (n v : Int) (hv : 0 ≤ v ∧ v ≤ 4294967295) : COk (Csr.putC cr n v) := by
  refine ⟨Csr.ok_put h.st h.len n v hv.1 (by omega), ?_, ?_⟩
  · unfold Csr.putC; repeat' split
    all_goals simp [h.len]
  · have a := Csr.and7937 v hv.1 (by omega)
    have c := Csr.and15 v hv.1 (by omega)
    unfold Csr.putC; repeat' split
    · exact set_all h.all (by omega)
    · exact set_all h.all (by omega)
    · exact set_all h.all hv
    · exact h.all
    · exact h.all
theorem read_ok (h : COk cr) (id n c : Int) : 0 ≤ Csr.readV cr id n c ∧ Csr.readV cr id n c ≤ 4294967295 := by
  unfold Csr.readV; repeat' split
  · omega
  · omega
  · exact h.all _
  · omega
  · omega
theorem told_ok (hr : ROk r) (hc : COk cr) (v t : Int) (hv : 0 ≤ v ∧ v ≤ 4294967295) : RC (toldO v t r cr i) := ⟨hr.put _ _ hv, hc⟩
theorem run_ok (hr : ROk r) (hc : COk cr) : RC (runO r pc cr id i) := by
  have ha := hr.get i.a; have hb := hr.get i.b
  have hn : 0 ≤ nx pc ∧ nx pc ≤ 4294967295 := by unfold nx; omega
  unfold runO
  by_cases h1 : i.op ≤ 13
  · rw [if_pos h1]; exact told_ok hr hc _ _ (Alu.doV_w32 _ _ _ ha hb)
  rw [if_neg h1]
  by_cases h2 : i.op ≤ 21
  · rw [if_pos h2]; exact told_ok hr hc _ _ (Alu.doV_w32 _ _ _ ha (by unfold Alu.W32; omega))
  rw [if_neg h2]
  by_cases h3 : i.op = 22
  · rw [if_pos h3]; exact told_ok hr hc _ _ (by unfold Alu.upV; omega)
  rw [if_neg h3]
  by_cases h4 : i.op ≤ 27
  · rw [if_pos h4]
    unfold memO; repeat' split
    all_goals exact ⟨hr, hc⟩
  rw [if_neg h4]
  by_cases h5 : i.op ≤ 31
  · rw [if_pos h5]; exact ⟨hr, hc⟩
  rw [if_neg h5]
  by_cases h6 : i.op ≤ 33
  · rw [if_pos h6]; exact told_ok hr hc _ _ hn
  rw [if_neg h6]
  by_cases h7 : i.op = 34
  · rw [if_pos h7]; exact ⟨hr, hc⟩
  rw [if_neg h7]
  by_cases h8 : i.op = 41
  · rw [if_pos h8]; exact ⟨hr, hc⟩
  rw [if_neg h8]
  by_cases h9 : i.op = 36
  · rw [if_pos h9]; exact ⟨hr, leave_ok hc⟩
  rw [if_neg h9]
  by_cases h10 : i.op = 37
  · rw [if_pos h10]; exact told_ok hr hc _ _ (read_ok hc _ _ _)
  rw [if_neg h10]
  by_cases h11 : i.op = 38
  · rw [if_pos h11]
    split
    · exact ⟨hr, put_ok hc _ _ ha⟩
    · exact ⟨hr, put_ok hc _ _ ha⟩
  rw [if_neg h11]
  exact ⟨hr, hc⟩
theorem exc_ok (hr : ROk r) (hc : COk cr) : RC (excO r pc cr id i) := by
  unfold excO
  repeat' split
  · exact ⟨hr, hc⟩
  · exact run_ok hr hc
  · exact ⟨hr, hc⟩
theorem k3_ok (st : Int) (h0 : 0 ≤ st) (h1 : st < 4294967296) : COk (k3 st) := by
  have c := Csr.and15 st h0 h1
  refine ⟨⟨?_, ?_, by simp [k3], by simp [k3]⟩, rfl, fun n => ?_⟩
  · show 0 ≤ bits .and .u32 st 15; omega
  · show bits .and .u32 st 15 < 16; omega
  · match n with
    | 0 => exact ⟨by simp [k3], by simp [k3]⟩
    | 1 => exact ⟨by simp [k3], by simp [k3]⟩
    | 2 => exact ⟨by simp [k3], by simp [k3]⟩
    | 3 => exact ⟨by simp [k3], by simp [k3]⟩
    | 4 => exact ⟨by simp [k3], by simp [k3]⟩
    | 5 => show 0 ≤ bits .and .u32 st 15 ∧ bits .and .u32 st 15 ≤ 4294967295; omega
    | 6 => exact ⟨by simp [k3], by simp [k3]⟩
    | n + 7 => exact ⟨by simp [k3, List.getD_eq_getElem?_getD], by simp [k3, List.getD_eq_getElem?_getD]⟩
/-- The program's machine and the document's. -/
structure PW (w W : World) (b c g e : Nat) (r : List Int) (pc : Int) (cr : List Int) (s : List Int) (qc : Int) (cs : List Int) : Prop where
  f : Regs.FileAt W b r true pc
  k : Csr.FileC W c cr 2
  rf : Regs.RefAt W g s qc
  rk : Csr.RefC W e cs 2
  bel : Below w.heap.size w W
  lb : w.heap.size ≤ b
  lc : w.heap.size ≤ c
  lg : w.heap.size ≤ g
  le : w.heap.size ≤ e
variable {w W W' : World} {b c g e : Nat} {r r' s s' cr cr' cs cs' : List Int} {pc pc' qc qc' : Int}
theorem PW.ne (h : PW w W b c g e r pc cr s qc cs) : b ≠ c ∧ b ≠ g ∧ b ≠ e ∧ c ≠ g ∧ c ≠ e ∧ g ≠ e :=
  ⟨(FileAtO h.f).ne h.k.2 (by decide), (FileAtO h.f).ne (RefAtO h.rf) (by decide), (FileAtO h.f).ne h.rk.2 (by decide), h.k.2.ne (RefAtO h.rf) (by decide), h.k.2.ne h.rk.2 (by decide), (RefAtO h.rf).ne h.rk.2 (by decide)⟩
theorem PW.below (h : PW w W b c g e r pc cr s qc cs) (hb : Below W.heap.size W W') : PW w W' b c g e r pc cr s qc cs :=
  ⟨h.f.below hb, h.k.below hb, h.rf.below hb, h.rk.below hb, h.bel.trans (hb.mono h.bel.size), h.lb, h.lc, h.lg, h.le⟩
theorem ref_mod {S : List Nat} {r : List Int} {p : Int} (h : Regs.RefAt W b r p) (hm : Mod S W W') (hb : b ∉ S) : Regs.RefAt W' b r p := ⟨h.1, (hm.block b h.lt hb).trans h.2⟩
theorem PW.one (h : PW w W b c g e r pc cr s qc cs) (hf : Regs.FileAt W' b r' true pc') (hk : Csr.FileC W' c cr' 2) (hm : Mod [b, c] W W') : PW w W' b c g e r' pc' cr' s qc cs := by
  have hn := h.ne
  exact ⟨hf, hk, ref_mod h.rf hm (by simp; omega), ⟨h.rk.1, h.rk.2.mod hm (by simp; omega)⟩, hm.below (fun k hk => by have := h.lb; have := h.lc; simp at hk; omega) h.bel.size |> h.bel.trans, h.lb, h.lc, h.lg, h.le⟩
theorem PW.two (h : PW w W b c g e r pc cr s qc cs) (hf : Regs.RefAt W' g s' qc') (hk : Csr.RefC W' e cs' 2) (hm : Mod [g, e] W W') : PW w W' b c g e r pc cr s' qc' cs' := by
  have hn := h.ne
  exact ⟨file_mod h.f hm (by simp; omega), ⟨h.k.1, h.k.2.mod hm (by simp; omega)⟩, hf, hk, hm.below (fun k hk => by have := h.lg; have := h.le; simp at hk; omega) h.bel.size |> h.bel.trans, h.lb, h.lc, h.lg, h.le⟩
theorem PW.jump (h : PW w W b c g e r pc cr s qc cs) (hf : Regs.FileAt W' b r true pc') (hu : Upd b W W') : PW w W' b c g e r pc' cr s qc cs :=
  ⟨hf, h.k.upd hu h.ne.1.symm, Regs.RefAt.upd h.rf hu h.ne.2.1.symm, h.rk.upd hu h.ne.2.2.1.symm, bupd h.bel hu h.lb, h.lb, h.lc, h.lg, h.le⟩
theorem PW.setPc (h : PW w W b c g e r pc cr s qc cs) (v : Int) : PW w (W.setCell ⟨g, 16, none⟩ (.int .u32 v)) b c g e r pc cr s v cs :=
  have hu := Upd.setCell W ⟨g, 16, none⟩ (.int .u32 v)
  ⟨Regs.FileAt.upd h.f hu h.ne.2.1, h.k.upd hu h.ne.2.2.2.1, h.rf.setPc v, h.rk.upd hu h.ne.2.2.2.2.2.symm, bupd h.bel hu h.lg, h.lb, h.lc, h.lg, h.le⟩
theorem arr7z (r : List Int) (h : r.length = 7) (w : World) : Sem.run Tryz.prog (Op.equalIn 10000 45 (.agg (r.map (Value.int .u32)).toArray) (.agg (r.map (Value.int .u32)).toArray)) w = .ok true w := by
  have := run_equalIn_array_int (P := Tryz.prog) (w := w) 9998 r r Tryz.underlying45 Tryz.underlying23 (by kernel_rfl) h h
  rw [this]; simp
end Go.Proofs.YtiohfdhmkikckaaGreatDoor
