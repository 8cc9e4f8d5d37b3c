/- Chapter 13: laws of one instruction on one machine. -/
import Derived.Test.YtiohfdhmkikckaaDoorCLaw
import Derived.Test.YtiohfdhmkikckaaDoorCIsaW
namespace Go.Proofs.YtiohfdhmkikckaaDoor
set_option linter.unusedVariables false
set_option linter.unusedSimpArgs false
set_option linter.unnecessarySimpa false
open Go.RowKit
set_option maxHeartbeats 4000000
set_option maxRecDepth 100000
set_option linter.unusedVariables false
/-- What one instruction may change. -/
structure OneOk (R : List Int) (pc : Int) (cr : List Int) (op : Int) (wr : Bool) (wv : Int) (o : Out) (K P A W : Int) (S : Bool) (D V C T : Int) : Prop where
  ef : o.ef = effL K P A W S D V C T
  reg : ∀ j : Nat, o.r.getD j 0 ≠ R.getD j 0 → wr = true ∧ wv = j ∧ K = 0
  out : (o.er ≠ 0 ∨ K ≠ 0) → o.pc = pc ∧ o.cr = cr
  at_ : o.er = 0 → K = 0 → o.pc = P
  kept : o.cr = cr ∨ op = 36 ∨ op = 38
  len : o.r.length = R.length
variable {R cr : List Int} {pc id : Int} {i : In} {op : Int} {wr : Bool} {wv : Int}
def One (R : List Int) (pc : Int) (cr : List Int) (op : Int) (wr : Bool) (wv : Int) (o : Out) : Prop := ∃ K P A W S D V C T, OneOk R pc cr op wr wv o K P A W S D V C T
theorem one_told (v t : Int) (h1 : wr = true) (h2 : wv = i.d) : One R pc cr op wr wv (toldO v t R cr i) := by
  refine ⟨0, t, 0, 0, false, 0, 0, 0, 0, rfl, fun j hj => ⟨h1, ?_, rfl⟩, fun h => ?_, fun _ _ => rfl, Or.inl rfl, Regs.putR_len _ _ _⟩
  · rw [h2]
    simp only [toldO, Regs.putR] at hj
    split at hj
    · rename_i hc
      simp only [Bool.and_eq_true, Regs.inR_iff] at hc
      by_cases hn : i.d.toNat = j
      · omega
      · exfalso; apply hj; simp [List.getD_eq_getElem?_getD, List.getElem?_set_ne hn]
    · exact absurd rfl hj
  · simp [toldO] at h
theorem one_same (K P A W : Int) (S : Bool) (D V C T : Int) (pc' : Int) (cr' : List Int) (h1 : K ≠ 0 → pc' = pc ∧ cr' = cr) (h2 : K = 0 → pc' = P) (h3 : cr' = cr ∨ op = 36 ∨ op = 38) : One R pc cr op wr wv ⟨effL K P A W S D V C T, 0, R, pc', cr'⟩ :=
  ⟨K, P, A, W, S, D, V, C, T, rfl, fun j hj => absurd rfl hj, fun h => h1 (by simpa using h), fun _ h => h2 h, h3, rfl⟩
theorem one_mem : One R pc cr op wr wv (memO R pc cr i) := by
  unfold memO
  repeat' split
  all_goals exact one_same _ _ _ _ _ _ _ _ _ _ _ (fun _ => ⟨rfl, rfl⟩) (fun h => absurd h (by decide)) (Or.inl rfl)
theorem putC_bad (h : ¬ Csr.putE cr i.n = 0) (v : Int) : Csr.putC cr i.n v = cr := by
  unfold Csr.putE at h
  unfold Csr.putC
  split at h
  · rw [if_pos (by assumption)]
    split at h
    · exact absurd rfl h
    · rw [if_neg (by omega), if_neg (by omega), if_neg (by omega)]
  · rw [if_neg (by assumption)]
theorem exitK_ne (o : Int) : exitK o ≠ 0 := by
  unfold exitK; repeat' split
  all_goals decide
theorem one_run (hw : (i.op ≤ 22 ∨ i.op = 32 ∨ i.op = 33 ∨ i.op = 37) → wr = true ∧ wv = i.d) : One R pc cr i.op wr wv (runO R pc cr id i) := by
  unfold runO
  by_cases h1 : i.op ≤ 13
  · rw [if_pos h1]; exact one_told _ _ (hw (by omega)).1 (hw (by omega)).2
  rw [if_neg h1]
  by_cases h2 : i.op ≤ 21
  · rw [if_pos h2]; exact one_told _ _ (hw (by omega)).1 (hw (by omega)).2
  rw [if_neg h2]
  by_cases h3 : i.op = 22
  · rw [if_pos h3]; exact one_told _ _ (hw (by omega)).1 (hw (by omega)).2
  rw [if_neg h3]
  by_cases h4 : i.op ≤ 27
  · rw [if_pos h4]; exact one_mem
  rw [if_neg h4]
  by_cases h5 : i.op ≤ 31
  · rw [if_pos h5]; exact one_same _ _ _ _ _ _ _ _ _ _ _ (fun h => absurd rfl h) (fun _ => rfl) (Or.inl rfl)
  rw [if_neg h5]
  by_cases h6 : i.op ≤ 33
  · rw [if_pos h6]; exact one_told _ _ (hw (by omega)).1 (hw (by omega)).2
  rw [if_neg h6]
  by_cases h7 : i.op = 34
  · rw [if_pos h7]; exact one_same _ _ _ _ _ _ _ _ _ _ _ (fun _ => ⟨rfl, rfl⟩) (fun h => absurd h (by decide)) (Or.inl rfl)
  rw [if_neg h7]
  by_cases h8 : i.op = 41
  · rw [if_pos h8]; exact one_same _ _ _ _ _ _ _ _ _ _ _ (fun _ => ⟨rfl, rfl⟩) (fun h => absurd h (by decide)) (Or.inl rfl)
  rw [if_neg h8]
  by_cases h9 : i.op = 36
  · rw [if_pos h9]; exact one_same _ _ _ _ _ _ _ _ _ _ _ (fun h => absurd rfl h) (fun _ => rfl) (Or.inr (Or.inl h9))
  rw [if_neg h9]
  by_cases h10 : i.op = 37
  · rw [if_pos h10]; exact one_told _ _ (hw (by omega)).1 (hw (by omega)).2
  rw [if_neg h10]
  by_cases h11 : i.op = 38
  · rw [if_pos h11]
    by_cases h12 : Csr.putE cr i.n = 0
    · rw [if_pos h12]; exact one_same _ _ _ _ _ _ _ _ _ _ _ (fun h => absurd rfl h) (fun _ => rfl) (Or.inr (Or.inr h11))
    · rw [if_neg h12]; exact one_same _ _ _ _ _ _ _ _ _ _ _ (fun _ => ⟨rfl, putC_bad h12 _⟩) (fun h => absurd h (by decide)) (Or.inr (Or.inr h11))
  rw [if_neg h11]
  exact one_same _ _ _ _ _ _ _ _ _ _ _ (fun _ => ⟨rfl, rfl⟩) (fun h => absurd h (exitK_ne _)) (Or.inl rfl)
theorem wr_true (hv : Isa.validB i.op i.d i.a i.b i.n = true) (h : i.op ≤ 22 ∨ i.op = 32 ∨ i.op = 33 ∨ i.op = 37) : Isa.wrB i.op i.d i.a i.b i.n = true ∧ Isa.wrV i.op i.d i.a i.b i.n = i.d := by
  have hb := (Isa.validB_bounds hv).1
  have hf : (bits BinOp.and IntKind.i64 (Isa.hasI i.op.toNat) 1 != 0) = true := by
    have h1 := Isa.fl_1 ⟨i.op.toNat, by omega⟩
    simp only [Isa.fl] at h1
    rw [h1]
    simp only [Bool.or_eq_true, Bool.and_eq_true, decide_eq_true_eq, beq_iff_eq]
    omega
  simp only [Isa.wrB, Isa.wrV, hv, hf, Bool.and_self, if_pos, and_self]
theorem one_law : One R pc cr i.op (Isa.wrB i.op i.d i.a i.b i.n) (Isa.wrV i.op i.d i.a i.b i.n) (excO R pc cr id i) := by
  unfold excO
  by_cases hv : Isa.validB i.op i.d i.a i.b i.n = true
  · rw [if_pos hv]
    split
    · exact one_same _ _ _ _ _ _ _ _ _ _ _ (fun _ => ⟨rfl, rfl⟩) (fun h => absurd h (by decide)) (Or.inl rfl)
    · exact one_run (fun h => wr_true hv h)
  · rw [if_neg hv]
    exact ⟨0, 0, 0, 0, false, 0, 0, 0, 0, rfl, fun j hj => absurd rfl hj, fun _ => ⟨rfl, rfl⟩, fun h => absurd (show (6 : Int) = 0 from h) (by decide), Or.inl rfl, rfl⟩
/-- The machine of a law, and the instruction. -/
structure K1 (w W : World) (m b c : Nat) (i : In) (r1 : List Int) (p1 : Int) (k1' : List Int) : Prop where
  ei : ObjAt W m 23 (insL i)
  f : Regs.FileAt W b r1 true p1
  k : Csr.FileC W c k1' 2
  bel : Below w.heap.size w W
  lb : w.heap.size ≤ b
  lc : w.heap.size ≤ c
variable {w W W' : World} {m b c : Nat} {r1 r1' k1' k1'' : List Int} {p1 p1' : Int}
theorem K1.below (h : K1 w W m b c i r1 p1 k1') (hb : Below W.heap.size W W') : K1 w W' m b c i r1 p1 k1' :=
  ⟨h.ei.below hb, h.f.below hb, h.k.below hb, h.bel.trans (hb.mono h.bel.size), h.lb, h.lc⟩
theorem K1.one (h : K1 w W m b c i r1 p1 k1') (hf : Regs.FileAt W' b r1' true p1') (hk : Csr.FileC W' c k1'' 2) (hm : Mod [b, c] W W') : K1 w W' m b c i r1' p1' k1'' := by
  have n1 := h.ei.ne (FileAtO h.f) (by decide)
  have n2 := h.ei.ne h.k.2 (by decide)
  have hb : Below w.heap.size W W' := hm.below (fun k hk => by have := h.lb; have := h.lc; simp at hk; omega) h.bel.size
  exact ⟨h.ei.mod hm (by simp; omega), hf, hk, h.bel.trans hb, h.lb, h.lc⟩
theorem K1.tab (h : K1 w W m b c i r1 p1 k1') (ht : Isa.Tab w) : Isa.Tab W := ht.below h.bel
theorem arr7 (r : List Int) (h : r.length = 7) (w : World) : Sem.run Tryd.prog (Op.equalIn 10000 36 (.agg (r.map (Value.int .u32)).toArray) (.agg (r.map (Value.int .u32)).toArray)) w = .ok true w := by
  have := run_equalIn_array_int (P := Tryd.prog) (w := w) 9998 r r Tryd.underlying36 Tryd.underlying30 (by kernel_rfl) h h
  rw [this]; simp
theorem arr7b (r s : List Int) (h : r.length = 7) (h' : s.length = 7) (w : World) : Sem.run Tryd.prog (Op.equalIn 10000 36 (.agg (r.map (Value.int .u32)).toArray) (.agg (s.map (Value.int .u32)).toArray)) w = .ok (r == s) w :=
  run_equalIn_array_int (P := Tryd.prog) (w := w) 9998 r s Tryd.underlying36 Tryd.underlying30 (by kernel_rfl) h h'
end Go.Proofs.YtiohfdhmkikckaaDoor
