/- Chapter 13: what an instruction comes to. -/
import Derived.Test.YtiohfdhmkikckaaGreatDoorCore4
namespace Go.Proofs.YtiohfdhmkikckaaGreatDoor
set_option linter.unusedVariables false
set_option linter.unusedSimpArgs false
set_option linter.unnecessarySimpa false
open Go.RowKit
set_option maxHeartbeats 4000000
set_option maxRecDepth 100000
set_option linter.unusedVariables false
variable {W W' W0 : World} {i : In} {p b c g : Nat} {r r' : List Int} {pc pc' : Int} {cr cr' : List Int} {id : Int} {cs : List Value}
theorem ST.tabb (h : ST W i p b c r pc cr id) (ht : Isa.Tab W) : 0 ≠ b ∧ 0 ≠ c := by
  constructor
  · intro e
    have h1 := ht 16 (by omega)
    have h2 := h.file.made
    rw [e] at h1
    rw [h1] at h2
    cases h2
  · intro e
    have h1 := ht 8 (by omega)
    have h2 := h.csr.made
    rw [e] at h1
    rw [h1] at h2
    cases h2
theorem Tab.mod {S : List Nat} (ht : Isa.Tab W) (hm : Mod S W W') (hs : 0 ∉ S) : Isa.Tab W' := fun i hi => by
  have h1 := ht i hi
  have hl := World.block_lt_of_cell? W _ h1
  have := hm.block _ hl hs
  rw [← h1]
  simp only [World.cell?, this]
def wordV (i : In) : Int := Isa.encW i.op i.d i.a i.b i.n
theorem Word_any (i : In) (W : World) (ht : Isa.Tab W) : Calls Tryz.prog 10 #[(.agg #[.int .i64 (i.op), .int .i64 (i.d), .int .i64 (i.a), .int .i64 (i.b), .int .i64 (i.n)])] W fun e W' => e = .returned (.int .u32 (wordV i)) ∧ Below W.heap.size W W' := by
  have hb : Hid (Below W.heap.size W (W.alloc (.cells #[.int .i64 (i.op), .int .i64 (i.d), .int .i64 (i.a), .int .i64 (i.b), .int .i64 (i.n)] 37))) := (Below.refl _ _).alloc (Nat.le_refl _) _
  have HT := Lib.hid (ht.below hb.out)
  have HN : Hid (ObjAt (W.alloc (.cells #[.int .i64 (i.op), .int .i64 (i.d), .int .i64 (i.a), .int .i64 (i.b), .int .i64 (i.n)] 37)) W.heap.size 37 [.int .i64 i.op, .int .i64 i.d, .int .i64 i.a, .int .i64 i.b, .int .i64 i.n]) := ObjAt.new W _ _
  clear ht
  go_enter Tryz.func10, Tryz.ntmps10
  go_upto_region 1 with fail
  generalize W.alloc (.cells #[.int .i64 (i.op), .int .i64 (i.d), .int .i64 (i.a), .int .i64 (i.b), .int .i64 (i.n)] 37) = W1 at hb HT HN ⊢
  have c0 := HN.out.cell 0 _ rfl; have c1 := HN.out.cell 1 _ rfl; have c2 := HN.out.cell 2 _ rfl; have c3 := HN.out.cell 3 _ rfl; have c4 := HN.out.cell 4 _ rfl
  go_wp2_with (go_at_call 38; refine (Isa.encode_any i.op i.d i.a i.b i.n _ HT.out).mono ?_; rintro e W2 ⟨rfl, hb2⟩; have HB2 := Lib.hid (hb.out.trans (hb2.mono hb.out.size)); clear hb2)
  go_ret
  exact ⟨rfl, HB2.out⟩
theorem write_any (r' : List Int) (pc' : Int) (ef : List Value) (hr : ROk r) (W : World) (h : ST W i p b c r pc cr id) (ht : Isa.Tab W)
    (hef : ef = if Csr.putE cr i.n = 0 then doneL (nx pc) else trapL 1 (wordV i)) (hpc : pc' = if Csr.putE cr i.n = 0 then nx pc else pc) :
    Calls Tryz.prog 80 #[.pointer (some ⟨p, 0, none⟩)] W (Post i p b c r pc' (Csr.putC cr i.n (Regs.getV r i.a)) id ef W) := by
  have htb := h.tabb ht
  have HT : Hid (∀ W', Mod [b, c] W W' → Isa.Tab W') := fun W' hm => Tab.mod ht hm (by simp [htb])
  obtain ⟨cr', hcr⟩ : ∃ x, x = Csr.putC cr i.n (Regs.getV r i.a) := ⟨_, rfl⟩
  rw [← hcr]
  have HC := Lib.hid hcr
  obtain ⟨e1, he1⟩ : ∃ x, x = Csr.putE cr i.n := ⟨_, rfl⟩
  rw [← he1] at hef hpc
  have HE := Lib.hid he1
  clear htb ht hr hcr he1
  by_cases h0 : e1 = 0
  · rw [if_pos h0] at hef hpc
    subst hef hpc
    have d0 : (e1 != 0) = false := by simp [h0]
    have D0 := Lib.hid d0
    clear h0 d0
    (have h0 := FR.new h; go_enter Tryz.func80, Tryz.ntmps80; go_upto_region 1 with fail; generalize W.alloc (.cells #[.int .i64 0, .int .u32 0, .int .u32 0, .int .i64 0, .bool false, .int .i64 0, .int .u32 0, .int .u32 0, .int .u32 0] 32) = W1 at h0 ⊢; generalize W.heap.size = g at h0 ⊢; have H0 := Lib.hid h0; clear h h0)
    have H1 := Lib.hid H0.out.drew
    go_region_held3 (fun W' => W'.cell? ⟨p, 0, none⟩ = some (.int .i64 i.op) ∧ W'.cell? ⟨p, 1, none⟩ = some (.int .i64 i.d) ∧ W'.cell? ⟨p, 2, none⟩ = some (.int .i64 i.a) ∧ W'.cell? ⟨p, 3, none⟩ = some (.int .i64 i.b) ∧ W'.cell? ⟨p, 4, none⟩ = some (.int .i64 i.n) ∧ W'.cell? ⟨p, 5, none⟩ = some (.pointer (some ⟨b, 0, none⟩)) ∧ W'.cell? ⟨p, 6, none⟩ = some (.pointer (some ⟨c, 0, none⟩)) ∧ W'.cell? ⟨p, 7, none⟩ = some (.int .i64 i.clk)) (first | exact H2.out.1.s8 | exact H1.out.1.s8) (first | (go_at_call 68; refine (reg_any _ _ H1.out.1).mono ?_; rintro e Wr ⟨rfl, rfl⟩) | (go_at_call 19; refine (Csr.write_any i.n (Regs.getV r i.a) c cr id _ H1.out.1.csr).mono ?_; rintro e W2 ⟨rfl, hf, hu⟩; rw [← HE.out]; rw [← HC.out] at hf; have H2 := Lib.hid (H1.out.to (H1.out.1.setC hf hu) (modC b hu)); clear hf hu))
    have d0 := D0.out
    go_wp2_with (first | (go_at_call 70; refine (next_any _ H2.out.1).mono ?_; rintro e Wr ⟨rfl, rfl⟩) | (go_at_call 75; refine (done_any (nx pc) _ H2.out.1).mono ?_; rintro e W3 ⟨rfl, hs, hm⟩; have H3 := Lib.hid (H2.out.to hs hm); clear hs hm) | (refine wpList_store_block rfl 32 (.tmp 2) (.tmp 32) rfl g 32 _ _ rfl rfl (H3.out).2.1 (by rw [info_eff]; rfl) rfl (eff_all _ _ _ _ _ _ _ _ _) ?_))
    (refine bodyPost_ret (v := .agg (doneL (nx pc)).toArray) ?_ rfl ⟨rfl, (H3.out).row _⟩; exact results_cell_row rfl _ _ g _ _ (0, 0) _ rfl (setRow_heap _ _ _ _ _ _ (H3.out).2.1) Tryz.underlying32 rfl (by rw [info_eff]; rfl))
  · rw [if_neg h0] at hef hpc
    subst hef hpc
    have d0 : (e1 != 0) = true := by simp [h0]
    have D0 := Lib.hid d0
    clear h0 d0
    obtain ⟨wv, hwv⟩ : ∃ x, x = wordV i := ⟨_, rfl⟩
    rw [← hwv]
    have WORD : Hid (∀ W, Isa.Tab W → Calls Tryz.prog 10 #[(.agg #[.int .i64 (i.op), .int .i64 (i.d), .int .i64 (i.a), .int .i64 (i.b), .int .i64 (i.n)])] W fun e W' => e = .returned (.int .u32 wv) ∧ Below W.heap.size W W') := fun W ht => by rw [hwv]; exact Word_any i W ht
    clear hwv
    (have h0 := FR.new h; go_enter Tryz.func80, Tryz.ntmps80; go_upto_region 1 with fail; generalize W.alloc (.cells #[.int .i64 0, .int .u32 0, .int .u32 0, .int .i64 0, .bool false, .int .i64 0, .int .u32 0, .int .u32 0, .int .u32 0] 32) = W1 at h0 ⊢; generalize W.heap.size = g at h0 ⊢; have H0 := Lib.hid h0; clear h h0)
    have H1 := Lib.hid H0.out.drew
    go_region_held3 (fun W' => W'.cell? ⟨p, 0, none⟩ = some (.int .i64 i.op) ∧ W'.cell? ⟨p, 1, none⟩ = some (.int .i64 i.d) ∧ W'.cell? ⟨p, 2, none⟩ = some (.int .i64 i.a) ∧ W'.cell? ⟨p, 3, none⟩ = some (.int .i64 i.b) ∧ W'.cell? ⟨p, 4, none⟩ = some (.int .i64 i.n) ∧ W'.cell? ⟨p, 5, none⟩ = some (.pointer (some ⟨b, 0, none⟩)) ∧ W'.cell? ⟨p, 6, none⟩ = some (.pointer (some ⟨c, 0, none⟩)) ∧ W'.cell? ⟨p, 7, none⟩ = some (.int .i64 i.clk)) (first | exact H2.out.1.s8 | exact H1.out.1.s8) (first | (go_at_call 68; refine (reg_any _ _ H1.out.1).mono ?_; rintro e Wr ⟨rfl, rfl⟩) | (go_at_call 19; refine (Csr.write_any i.n (Regs.getV r i.a) c cr id _ H1.out.1.csr).mono ?_; rintro e W2 ⟨rfl, hf, hu⟩; rw [← HE.out]; rw [← HC.out] at hf; have H2 := Lib.hid (H1.out.to (H1.out.1.setC hf hu) (modC b hu)); clear hf hu))
    have d0 := D0.out
    go_wp2_with (first | (go_at_call 10; refine (WORD.out _ (HT.out _ H2.out.2.2.1)).mono ?_; rintro e W4 ⟨rfl, hb⟩; have H4 := Lib.hid (H2.out.below hb); clear hb) | (go_at_call 26; refine (trap_any 1 wv _).mono ?_; rintro e W3 ⟨rfl, hb⟩; have H3 := Lib.hid (H4.out.below hb); clear hb) | (refine wpList_store_block rfl 32 (.tmp 2) (.tmp 28) rfl g 32 _ _ rfl rfl (H3.out).2.1 (by rw [info_eff]; rfl) rfl (eff_all _ _ _ _ _ _ _ _ _) ?_))
    (refine bodyPost_ret (v := .agg ((trapL 1 wv)).toArray) ?_ rfl ⟨rfl, (H3.out).row _⟩; exact results_cell_row rfl _ _ g _ _ (0, 0) _ rfl (setRow_heap _ _ _ _ _ _ (H3.out).2.1) Tryz.underlying32 rfl (by rw [info_eff]; rfl))
/-- Which method does it. -/
def howF (op : Int) : Nat :=
  if op ≤ 13 then 51 else if op ≤ 21 then 52 else if op = 22 then 53 else if op ≤ 27 then 54 else if op ≤ 31 then 55 else if op ≤ 33 then 56
  else if op = 34 then 77 else if op = 41 then 77 else if op = 36 then 78 else if op = 37 then 79 else if op = 38 then 80 else 81
theorem system_any (f : Nat) (W : World) (h : ST W i p b c r pc cr id) (hi : 33 < i.op) (hf : f = howF i.op) : Calls Tryz.prog 57 #[.pointer (some ⟨p, 0, none⟩)] W fun e W' => e = .returned (.func (Fn.func f) #[.pointer (some ⟨p, 0, none⟩)] #[]) ∧ W = W' := by
  have q0 := h.step.cell 0 (.int .i64 i.op) rfl
  clear h
  generalize i.op = o at *
  rw [howF, if_neg (by omega), if_neg (by omega), if_neg (by omega), if_neg (by omega), if_neg (by omega), if_neg (by omega)] at hf
  by_cases h1 : o = 34
  · rw [if_pos h1] at hf; subst hf h1
    go_enter Tryz.func57, Tryz.ntmps57
    go_wp2_with fail
    go_ret
    exact ⟨rfl, rfl⟩
  · rw [if_neg h1] at hf
    have d1 : (o == 34) = false := by simp [h1]
    by_cases h2 : o = 41
    · rw [if_pos h2] at hf; subst hf h2
      go_enter Tryz.func57, Tryz.ntmps57
      go_wp2_with fail
      go_ret
      exact ⟨rfl, rfl⟩
    · rw [if_neg h2] at hf
      have d2 : (o == 41) = false := by simp [h2]
      by_cases h3 : o = 36
      · rw [if_pos h3] at hf; subst hf h3
        go_enter Tryz.func57, Tryz.ntmps57
        go_wp2_with fail
        go_ret
        exact ⟨rfl, rfl⟩
      · rw [if_neg h3] at hf
        have d3 : (o == 36) = false := by simp [h3]
        by_cases h4 : o = 37
        · rw [if_pos h4] at hf; subst hf h4
          go_enter Tryz.func57, Tryz.ntmps57
          go_wp2_with fail
          go_ret
          exact ⟨rfl, rfl⟩
        · rw [if_neg h4] at hf
          have d4 : (o == 37) = false := by simp [h4]
          by_cases h5 : o = 38
          · rw [if_pos h5] at hf; subst hf h5
            go_enter Tryz.func57, Tryz.ntmps57
            go_wp2_with fail
            go_ret
            exact ⟨rfl, rfl⟩
          · rw [if_neg h5] at hf
            have d5 : (o == 38) = false := by simp [h5]
            subst hf
            clear h1 h2 h3 h4 h5
            go_enter Tryz.func57, Tryz.ntmps57
            go_wp2_with fail
            go_ret
            exact ⟨rfl, rfl⟩
theorem how_any (f : Nat) (W : World) (h : ST W i p b c r pc cr id) (hf : f = howF i.op) : Calls Tryz.prog 27 #[.pointer (some ⟨p, 0, none⟩)] W fun e W' => e = .returned (.func (Fn.func f) #[.pointer (some ⟨p, 0, none⟩)] #[]) ∧ W = W' := by
  have q0 := h.step.cell 0 (.int .i64 i.op) rfl
  have SYS : Hid (33 < i.op → Calls Tryz.prog 57 #[.pointer (some ⟨p, 0, none⟩)] W fun e W' => e = .returned (.func (Fn.func f) #[.pointer (some ⟨p, 0, none⟩)] #[]) ∧ W = W') := fun hi => system_any f W h hi hf
  clear h
  generalize i.op = o at *
  by_cases h1 : o ≤ 13
  · rw [howF, if_pos h1] at hf; subst hf
    have d1 : decide (o ≤ 13) = true := by simp [h1]
    clear h1
    go_enter Tryz.func27, Tryz.ntmps27
    go_wp2_with fail
    go_ret
    exact ⟨rfl, rfl⟩
  · rw [howF, if_neg h1] at hf
    have d1 : decide (o ≤ 13) = false := by simp; omega
    by_cases h2 : o ≤ 21
    · rw [if_pos h2] at hf; subst hf
      have d2 : decide (o ≤ 21) = true := by simp [h2]
      clear h1 h2
      go_enter Tryz.func27, Tryz.ntmps27
      go_wp2_with fail
      go_ret
      exact ⟨rfl, rfl⟩
    · rw [if_neg h2] at hf
      have d2 : decide (o ≤ 21) = false := by simp; omega
      by_cases h3 : o = 22
      · rw [if_pos h3] at hf; subst hf h3
        clear d1 d2 h1 h2
        go_enter Tryz.func27, Tryz.ntmps27
        go_wp2_with fail
        go_ret
        exact ⟨rfl, rfl⟩
      · rw [if_neg h3] at hf
        have d3 : (o == 22) = false := by simp [h3]
        by_cases h4 : o ≤ 27
        · rw [if_pos h4] at hf; subst hf
          have d4 : decide (o ≤ 27) = true := by simp [h4]
          clear h1 h2 h3 h4
          go_enter Tryz.func27, Tryz.ntmps27
          go_wp2_with fail
          go_ret
          exact ⟨rfl, rfl⟩
        · rw [if_neg h4] at hf
          have d4 : decide (o ≤ 27) = false := by simp; omega
          by_cases h5 : o ≤ 31
          · rw [if_pos h5] at hf; subst hf
            have d5 : decide (o ≤ 31) = true := by simp [h5]
            clear h1 h2 h3 h4 h5
            go_enter Tryz.func27, Tryz.ntmps27
            go_wp2_with fail
            go_ret
            exact ⟨rfl, rfl⟩
          · rw [if_neg h5] at hf
            have d5 : decide (o ≤ 31) = false := by simp; omega
            by_cases h6 : o ≤ 33
            · rw [if_pos h6] at hf; subst hf
              have d6 : decide (o ≤ 33) = true := by simp [h6]
              clear h1 h2 h3 h4 h5 h6
              go_enter Tryz.func27, Tryz.ntmps27
              go_wp2_with fail
              go_ret
              exact ⟨rfl, rfl⟩
            · have d6 : decide (o ≤ 33) = false := by simp; omega
              have S := Lib.hid (SYS.out (by omega))
              clear h1 h2 h3 h4 h5 h6 hf
              go_enter Tryz.func27, Tryz.ntmps27
              go_wp2_with (go_at_call 57; refine S.out.mono ?_; rintro e W2 ⟨rfl, rfl⟩)
              go_ret
              exact ⟨rfl, rfl⟩
/-- What is behind an instruction. -/
structure Out where
  ef : List Value
  er : Int
  r : List Int
  pc : Int
  cr : List Int
def memO (r : List Int) (pc : Int) (cr : List Int) (i : In) : Out :=
  if wordB i.op && toV r i % 4 != 0 then ⟨trapL 2 (toV r i), 0, r, pc, cr⟩
  else if i.op = 23 then ⟨effL 1 (nx pc) (toV r i) 4 false i.d 0 0 0, 0, r, pc, cr⟩
  else if i.op = 24 then ⟨effL 1 (nx pc) (toV r i) 1 true i.d 0 0 0, 0, r, pc, cr⟩
  else if i.op = 25 then ⟨effL 1 (nx pc) (toV r i) 1 false i.d 0 0 0, 0, r, pc, cr⟩
  else if i.op = 26 then ⟨effL 2 (nx pc) (toV r i) 4 false 0 (Regs.getV r i.b) 0 0, 0, r, pc, cr⟩
  else ⟨effL 2 (nx pc) (toV r i) 1 false 0 (Regs.getV r i.b) 0 0, 0, r, pc, cr⟩
def exitK (op : Int) : Int := if op = 35 then 4 else if op = 40 then 5 else 6
def toldO (v t : Int) (r : List Int) (cr : List Int) (i : In) : Out := ⟨doneL t, 0, Regs.putR r i.d v, t, cr⟩
def runO (r : List Int) (pc : Int) (cr : List Int) (id : Int) (i : In) : Out :=
  if i.op ≤ 13 then toldO (Alu.doV i.op (Regs.getV r i.a) (Regs.getV r i.b)) (nx pc) r cr i
  else if i.op ≤ 21 then toldO (Alu.doV (Alu.plV i.op) (Regs.getV r i.a) (i.n % 4294967296)) (nx pc) r cr i
  else if i.op = 22 then toldO (Alu.upV i.n) (nx pc) r cr i
  else if i.op ≤ 27 then memO r pc cr i
  else if i.op ≤ 31 then (let t := if Alu.takV i.op (Regs.getV r i.a) (Regs.getV r i.b) then farV pc i.n else nx pc; ⟨doneL t, 0, r, t, cr⟩)
  else if i.op ≤ 33 then toldO (nx pc) (if i.op = 33 then toV r i else farV pc i.n) r cr i
  else if i.op = 34 then ⟨trapL 6 0, 0, r, pc, cr⟩
  else if i.op = 41 then ⟨trapL 8 pc, 0, r, pc, cr⟩
  else if i.op = 36 then ⟨doneL (cr.getD 2 0), 0, r, cr.getD 2 0, Csr.leaveR cr⟩
  else if i.op = 37 then toldO (Csr.readV cr id i.n i.clk) (nx pc) r cr i
  else if i.op = 38 then (if Csr.putE cr i.n = 0 then ⟨doneL (nx pc), 0, r, nx pc, Csr.putC cr i.n (Regs.getV r i.a)⟩ else ⟨trapL 1 (wordV i), 0, r, pc, Csr.putC cr i.n (Regs.getV r i.a)⟩)
  else ⟨effL (exitK i.op) (nx pc) 0 0 false 0 0 0 0, 0, r, pc, cr⟩
def OPost (i : In) (p b c : Nat) (id : Int) (o : Out) (W : World) (e : Ending) (W' : World) : Prop := Post i p b c o.r o.pc o.cr id o.ef W e W'
theorem memory_any (hi : 22 < i.op) (hi2 : i.op ≤ 27) (W : World) (h : ST W i p b c r pc cr id) : Calls Tryz.prog 54 #[.pointer (some ⟨p, 0, none⟩)] W (OPost i p b c id (memO r pc cr i) W) := by
  unfold OPost memO
  by_cases hw : (wordB i.op && toV r i % 4 != 0) = true
  · rw [if_pos hw]
    simp only [Bool.and_eq_true, bne_iff_ne, ne_eq] at hw
    exact mem_trap _ rfl hw.1 hw.2 W h
  · rw [if_neg hw]
    have hal : wordB i.op = true → toV r i % 4 = 0 := fun hb => by
      simp only [Bool.and_eq_true, bne_iff_ne, ne_eq, not_and, Decidable.not_not] at hw
      exact hw hb
    have h1 : toV r i % 1 = 0 := by omega
    by_cases h23 : i.op = 23
    · rw [if_pos h23]; exact mem_23 _ rfl h23 (hal (by rw [h23]; rfl)) W h
    rw [if_neg h23]
    by_cases h24 : i.op = 24
    · rw [if_pos h24]; exact mem_24 _ rfl h24 h1 W h
    rw [if_neg h24]
    by_cases h25 : i.op = 25
    · rw [if_pos h25]; exact mem_25 _ rfl h25 h1 W h
    rw [if_neg h25]
    by_cases h26 : i.op = 26
    · rw [if_pos h26]; exact mem_26 _ rfl h26 (hal (by rw [h26]; rfl)) W h
    rw [if_neg h26]
    exact mem_27 _ rfl (by omega) h1 W h
theorem run_any (hr : ROk r) (W : World) (h : ST W i p b c r pc cr id) (ht : Isa.Tab W) : Calls Tryz.prog (howF i.op) #[.pointer (some ⟨p, 0, none⟩)] W (OPost i p b c id (runO r pc cr id i) W) := by
  unfold OPost runO howF
  by_cases h1 : i.op ≤ 13
  · rw [if_pos h1, if_pos h1]; exact plain_any hr W h
  rw [if_neg h1, if_neg h1]
  by_cases h2 : i.op ≤ 21
  · rw [if_pos h2, if_pos h2]; exact number_any hr W h
  rw [if_neg h2, if_neg h2]
  by_cases h3 : i.op = 22
  · rw [if_pos h3, if_pos h3]; exact upper_any W h
  rw [if_neg h3, if_neg h3]
  by_cases h4 : i.op ≤ 27
  · rw [if_pos h4, if_pos h4]; exact memory_any (by omega) h4 W h
  rw [if_neg h4, if_neg h4]
  by_cases h5 : i.op ≤ 31
  · rw [if_pos h5, if_pos h5]; exact branch_any hr _ W h rfl
  rw [if_neg h5, if_neg h5]
  by_cases h6 : i.op ≤ 33
  · rw [if_pos h6, if_pos h6]; exact jump_any _ W h rfl
  rw [if_neg h6, if_neg h6]
  by_cases h7 : i.op = 34
  · rw [if_pos h7, if_pos h7]; exact call_any _ (by rw [if_neg (by omega)]) W h
  rw [if_neg h7, if_neg h7]
  by_cases h8 : i.op = 41
  · rw [if_pos h8, if_pos h8]; exact call_any _ (by rw [if_pos h8]) W h
  rw [if_neg h8, if_neg h8]
  by_cases h9 : i.op = 36
  · rw [if_pos h9, if_pos h9]; exact back_any W h
  rw [if_neg h9, if_neg h9]
  by_cases h10 : i.op = 37
  · rw [if_pos h10, if_pos h10]; exact read_any W h
  rw [if_neg h10, if_neg h10]
  by_cases h11 : i.op = 38
  · rw [if_pos h11, if_pos h11]
    by_cases h12 : Csr.putE cr i.n = 0
    · rw [if_pos h12]; exact write_any r _ _ hr W h ht (by rw [if_pos h12]) (by rw [if_pos h12])
    · rw [if_neg h12]; exact write_any r _ _ hr W h ht (by rw [if_neg h12]) (by rw [if_neg h12])
  rw [if_neg h11, if_neg h11]
  exact exit_any _ rfl W h
end Go.Proofs.YtiohfdhmkikckaaGreatDoor
