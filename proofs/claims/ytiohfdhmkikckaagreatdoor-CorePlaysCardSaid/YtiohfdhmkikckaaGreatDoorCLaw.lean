/- Chapter 13: laws of what an instruction comes to. -/
import Derived.Test.YtiohfdhmkikckaaGreatDoorCAwake
namespace Go.Proofs.YtiohfdhmkikckaaGreatDoor
set_option linter.unusedVariables false
set_option linter.unusedSimpArgs false
set_option linter.unnecessarySimpa false
open Go.RowKit
set_option maxHeartbeats 4000000
set_option maxRecDepth 100000
set_option linter.unusedVariables false
theorem arr16 (r : List Int) (h : r.length = 16) (w : World) : Sem.run Tryz.prog (Op.equalIn 10000 40 (.agg (r.map (Value.int .u32)).toArray) (.agg (r.map (Value.int .u32)).toArray)) w = .ok true w := by
  have := run_equalIn_array_int (P := Tryz.prog) (w := w) 9998 r r Tryz.underlying40 Tryz.underlying23 (by kernel_rfl) h h
  rw [this]; simp
theorem excO_er (r : List Int) (pc : Int) (cr : List Int) (id : Int) (i : In) : (excO r pc cr id i).er = if Isa.validB i.op i.d i.a i.b i.n then 0 else 6 := by
  unfold excO
  split
  · split
    · rfl
    · exact runO_er _ _ _ _ _
  · rfl
theorem excO_ef (r : List Int) (pc : Int) (cr : List Int) (id : Int) (i : In) : IsEff (excO r pc cr id i).ef := by
  unfold excO
  split
  · split
    · exact ⟨_, _, _, _, _, _, _, _, _, rfl⟩
    · exact runO_ef _ _ _ _ _
  · exact ⟨_, _, _, _, _, _, _, _, _, rfl⟩
theorem has0 : Csr.hasB ((k3 0).getD 5 0) 4 = false := by decide +kernel
theorem has4 : Csr.hasB ((k3 4).getD 5 0) 4 = true := by decide +kernel
/-- An instruction that is not the kernel's is the same in every mode. -/
theorem runO_same (r : List Int) (pc : Int) (c1 c2 : List Int) (id : Int) (i : In) (h : Isa.kernB i.op = false) : (runO r pc c1 id i).ef = (runO r pc c2 id i).ef ∧ (runO r pc c1 id i).r = (runO r pc c2 id i).r ∧ (runO r pc c1 id i).pc = (runO r pc c2 id i).pc := by
  have h36 : ¬ i.op = 36 := fun e => by rw [e] at h; exact absurd h (by decide)
  have h37 : ¬ i.op = 37 := fun e => by rw [e] at h; exact absurd h (by decide)
  have h38 : ¬ i.op = 38 := fun e => by rw [e] at h; exact absurd h (by decide)
  simp only [runO, memO, toldO, if_neg h36, if_neg h37, if_neg h38, apply_ite Out.ef, apply_ite Out.r, apply_ite Out.pc, and_self]
theorem ks0 {r : List Int} {pc : Int} {i : In} (hv : Isa.validB i.op i.d i.a i.b i.n = true) (hk : Isa.kernB i.op = true) : excO r pc (k3 0) 2 i = ⟨trapL 7 (wordV i), 0, r, pc, k3 0⟩ := by
  rw [excO, if_pos hv, hk, has0]; rfl
theorem ks1 {r : List Int} {pc : Int} {i : In} (h : ¬ (Isa.validB i.op i.d i.a i.b i.n = true ∧ Isa.kernB i.op = true)) : (excO r pc (k3 0) 2 i).ef = (excO r pc (k3 4) 2 i).ef ∧ (excO r pc (k3 0) 2 i).r = (excO r pc (k3 4) 2 i).r ∧ (excO r pc (k3 0) 2 i).pc = (excO r pc (k3 4) 2 i).pc := by
  by_cases hv : Isa.validB i.op i.d i.a i.b i.n = true
  · have hk : Isa.kernB i.op = false := by cases hq : Isa.kernB i.op <;> simp_all
    rw [excO, excO, if_pos hv, if_pos hv, hk]
    exact runO_same _ _ _ _ _ _ hk
  · rw [excO, excO, if_neg hv, if_neg hv]
    exact ⟨rfl, rfl, rfl⟩
/-- Two machines, made alike, of which the one and then the other has done an instruction. -/
structure KW (w W : World) (m b c b' c' : Nat) (i : In) (r1 : List Int) (p1 : Int) (k1' : List Int) (r2 : List Int) (p2 : Int) (k2' : List Int) : Prop where
  ei : ObjAt W m 37 (insL i)
  f : Regs.FileAt W b r1 true p1
  k : Csr.FileC W c k1' 2
  f' : Regs.FileAt W b' r2 true p2
  k' : Csr.FileC W c' k2' 2
  bel : Below w.heap.size w W
  lb : w.heap.size ≤ b
  lc : w.heap.size ≤ c
  lb' : w.heap.size ≤ b'
  lc' : w.heap.size ≤ c'
  nb : b ≠ b'
  nc : c ≠ c'
variable {w W W' : World} {m b c b' c' : Nat} {i : In} {r1 r2 r1' r2' k1' k2' k1'' k2'' : List Int} {p1 p2 p1' p2' : Int}
theorem KW.below (h : KW w W m b c b' c' i r1 p1 k1' r2 p2 k2') (hb : Below W.heap.size W W') : KW w W' m b c b' c' i r1 p1 k1' r2 p2 k2' :=
  ⟨h.ei.below hb, h.f.below hb, h.k.below hb, h.f'.below hb, h.k'.below hb, h.bel.trans (hb.mono h.bel.size), h.lb, h.lc, h.lb', h.lc', h.nb, h.nc⟩
theorem file_mod {S : List Nat} {r : List Int} {p : Int} {m : Bool} (h : Regs.FileAt W b r m p) (hm : Mod S W W') (hb : b ∉ S) : Regs.FileAt W' b r m p := ⟨h.1, (hm.block b h.lt hb).trans h.2⟩
theorem KW.one (h : KW w W m b c b' c' i r1 p1 k1' r2 p2 k2') (hf : Regs.FileAt W' b r1' true p1') (hk : Csr.FileC W' c k1'' 2) (hm : Mod [b, c] W W') : KW w W' m b c b' c' i r1' p1' k1'' r2 p2 k2' := by
  have n1 := h.ei.ne (FileAtO h.f) (by decide)
  have n2 := h.ei.ne h.k.2 (by decide)
  have n3 := (FileAtO h.f').ne h.k.2 (by decide)
  have n4 := (FileAtO h.f).ne h.k'.2 (by decide)
  have n5 := h.nb; have n6 := h.nc
  have hb : Below w.heap.size W W' := hm.below (fun k hk => by have := h.lb; have := h.lc; simp at hk; omega) h.bel.size
  exact ⟨h.ei.mod hm (by simp; omega), hf, hk, file_mod h.f' hm (by simp; omega), ⟨h.k'.1, h.k'.2.mod hm (by simp; omega)⟩, h.bel.trans hb, h.lb, h.lc, h.lb', h.lc', h.nb, h.nc⟩
theorem KW.two (h : KW w W m b c b' c' i r1 p1 k1' r2 p2 k2') (hf : Regs.FileAt W' b' r2' true p2') (hk : Csr.FileC W' c' k2'' 2) (hm : Mod [b', c'] W W') : KW w W' m b c b' c' i r1 p1 k1' r2' p2' k2'' := by
  have n1 := h.ei.ne (FileAtO h.f') (by decide)
  have n2 := h.ei.ne h.k'.2 (by decide)
  have n3 := (FileAtO h.f').ne h.k.2 (by decide)
  have n4 := (FileAtO h.f).ne h.k'.2 (by decide)
  have n5 := h.nb; have n6 := h.nc
  have hb : Below w.heap.size W W' := hm.below (fun k hk => by have := h.lb'; have := h.lc'; simp at hk; omega) h.bel.size
  exact ⟨h.ei.mod hm (by simp; omega), file_mod h.f hm (by simp; omega), ⟨h.k.1, h.k.2.mod hm (by simp; omega)⟩, hf, hk, h.bel.trans hb, h.lb, h.lc, h.lb', h.lc', h.nb, h.nc⟩
theorem KW.tab (h : KW w W m b c b' c' i r1 p1 k1' r2 p2 k2') (ht : Isa.Tab w) : Isa.Tab W := ht.below h.bel
end Go.Proofs.YtiohfdhmkikckaaGreatDoor
