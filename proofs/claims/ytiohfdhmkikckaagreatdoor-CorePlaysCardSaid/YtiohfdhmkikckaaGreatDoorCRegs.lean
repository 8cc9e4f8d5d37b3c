/- Contracts (Regs): Regs, RegsZero, RegsRef. -/
import Derived.Test.YtiohfdhmkikckaaGreatDoorMem
import Derived.Test.YtiohfdhmkikckaaGreatDoorRows
namespace Go.Proofs.YtiohfdhmkikckaaGreatDoor
set_option linter.unusedVariables false
set_option linter.unusedSimpArgs false
set_option linter.unnecessarySimpa false
namespace Regs
set_option maxHeartbeats 4000000
set_option maxRecDepth 100000
section
open Go.RowKit
/-- Registers in memory: the object's block. -/
def fileCells (r : List Int) (made : Bool) (pc : Int) : Array Value := (r.map (Value.int .u32) ++ [Value.bool made, Value.int .u32 pc]).toArray
def FileAt (w : World) (b : Nat) (r : List Int) (made : Bool) (pc : Int) : Prop := r.length = 16 ∧ w.heap[b]? = some (.cells (fileCells r made pc) 82 (0, 0))
theorem FileAt.reg {w : World} {b : Nat} {r : List Int} {made : Bool} {pc : Int} (h : FileAt w b r made pc) (i : Nat) (hi : i < 16) : w.cell? ⟨b, i, none⟩ = some (.int .u32 (r.getD i 0)) := by
  have hl := h.1
  refine cell_at h.2 i _ ?_
  simp [fileCells, List.getElem?_append, hl, hi]
theorem FileAt.made {w : World} {b : Nat} {r : List Int} {made : Bool} {pc : Int} (h : FileAt w b r made pc) : w.cell? ⟨b, 16, none⟩ = some (.bool made) := by
  have hl := h.1
  refine cell_at h.2 16 _ ?_
  simp [fileCells, List.getElem?_append, hl]
theorem FileAt.pc {w : World} {b : Nat} {r : List Int} {made : Bool} {pc : Int} (h : FileAt w b r made pc) : w.cell? ⟨b, 17, none⟩ = some (.int .u32 pc) := by
  have hl := h.1
  refine cell_at h.2 17 _ ?_
  simp [fileCells, List.getElem?_append, hl]
theorem FileAt.free {w : World} {b : Nat} {r : List Int} {made : Bool} {pc : Int} (h : FileAt w b r made pc) (j : Nat) : w.frozen? ⟨b, j, none⟩ = false := free_at h.2 j
theorem FileAt.lt {w : World} {b : Nat} {r : List Int} {made : Bool} {pc : Int} (h : FileAt w b r made pc) : b < w.heap.size := (Array.getElem?_eq_some_iff.1 h.2).1
theorem FileAt.setReg {w : World} {b : Nat} {r : List Int} {made : Bool} {pc : Int} (h : FileAt w b r made pc) (i : Nat) (hi : i < 16) (v : Int) : FileAt (w.setCell ⟨b, i, none⟩ (.int .u32 v)) b (r.set i v) made pc := by
  have hl := h.1
  refine ⟨by simpa using hl, ?_⟩
  rw [setCell_block h.2 i]
  congr 2
  simp [fileCells, List.set_append, hl, hi]
theorem FileAt.setPc {w : World} {b : Nat} {r : List Int} {made : Bool} {pc : Int} (h : FileAt w b r made pc) (v : Int) : FileAt (w.setCell ⟨b, 17, none⟩ (.int .u32 v)) b r made v := by
  have hl := h.1
  refine ⟨hl, ?_⟩
  rw [setCell_block h.2 17]
  congr 2
  simp [fileCells, List.set_append, hl]
theorem FileAt.below {w w' : World} {b : Nat} {r : List Int} {made : Bool} {pc : Int} (h : FileAt w b r made pc) (hb : Below w.heap.size w w') : FileAt w' b r made pc := ⟨h.1, keepB hb h.lt h.2⟩
theorem FileAt.row {w : World} {b : Nat} {r : List Int} {made : Bool} {pc : Int} (h : FileAt w b r made pc) : w.rangeAt b 0 (r.map (Value.int .u32)) := fun j v hv => by
  have hj : j < r.length := by have := (List.getElem?_eq_some_iff.1 hv).1; simpa using this
  rw [Nat.zero_add, h.reg j (by have := h.1; omega), ← hv]
  simp [hj]
def inR (i : Int) : Bool := decide (0 ≤ i) && decide (i < 16)
theorem inR_iff (i : Int) : inR i = true ↔ 0 ≤ i ∧ i < 16 := by simp [inR]
def mayE (i : Int) : Int := if inR i then 0 else 1
/-- What a Set leaves. -/
def putR (r : List Int) (i v : Int) : List Int := if inR i && i != 0 then r.set i.toNat v else r
theorem putR_len (r : List Int) (i v : Int) : (putR r i v).length = r.length := by
  unfold putR; split <;> simp
def NewPost (w : World) (e : Ending) (w' : World) : Prop := e = .returned (.pointer (some ⟨w.heap.size, 0, none⟩)) ∧ FileAt w' w.heap.size (List.replicate 16 0) true 0 ∧ Below w.heap.size w w' ∧ w'.heap.size = w.heap.size + 1
theorem new_any (w : World) : Calls Tryz.prog 14 #[] w (NewPost w) := by
  go_enter Tryz.func14, Tryz.ntmps14
  go_wp2
  go_ret
  refine ⟨rfl, ⟨rfl, new_block w _ _ rfl⟩, (Below.refl _ _).alloc (Nat.le_refl _) _, by simp⟩
theorem may_any (i : Int) (b : Nat) (r : List Int) (pc : Int) (w : World) (h : FileAt w b r true pc) : Calls Tryz.prog 42 #[.pointer (some ⟨b, 0, none⟩), .int .i64 i] w fun e w' => e = .returned (.int .i64 (mayE i)) ∧ w = w' := by
  have hm := h.made
  clear h
  by_cases h1 : i < 0
  · have HE : Hid (mayE i = 1) := by simp [Hid, mayE, inR]; omega
    go_enter Tryz.func42, Tryz.ntmps42
    go_wp2
    go_ret
    exact ⟨ret_int (by rw [HE.out]), rfl⟩
  · by_cases h2 : 16 ≤ i
    · have HE : Hid (mayE i = 1) := by simp [Hid, mayE, inR]; omega
      go_enter Tryz.func42, Tryz.ntmps42
      go_wp2
      go_ret
      exact ⟨ret_int (by rw [HE.out]), rfl⟩
    · have HE : Hid (mayE i = 0) := by simp [Hid, mayE, inR]; omega
      go_enter Tryz.func42, Tryz.ntmps42
      go_wp2
      go_ret
      exact ⟨ret_int (by rw [HE.out]), rfl⟩
def PutPost (b : Nat) (r : List Int) (i v pc : Int) (w : World) (e : Ending) (w' : World) : Prop := e = .returned (.tuple #[]) ∧ FileAt w' b (putR r i v) true pc ∧ Upd b w w'
theorem put_any (i : Nat) (hi : i < 16) (v : Int) (b : Nat) (r : List Int) (pc : Int) (w : World) (h : FileAt w b r true pc) : Calls Tryz.prog 43 #[.pointer (some ⟨b, 0, none⟩), .int .i64 i, .int .u32 v] w (PutPost b r i v pc w) := by
  by_cases h0 : i = 0
  · subst h0
    go_enter Tryz.func43, Tryz.ntmps43
    go_wp2
    go_end0
    exact ⟨rfl, by simpa [putR] using h, Upd.refl _ _⟩
  · have hr := h.reg i hi
    have hf := h.free i
    have hne : ((i : Int) != 0) = true := by simpa using h0
    have HS : Hid (FileAt (w.setCell ⟨b, i, none⟩ (.int .u32 v)) b (putR r i v) true pc) := by
      have : putR r i v = r.set i v := by
        have e : (inR (i : Int) && (i : Int) != 0) = true := by rw [hne, (inR_iff _).2 (by omega)]; rfl
        rw [putR, e]; rfl
      rw [Hid, this]; exact h.setReg i hi v
    clear h
    go_enter Tryz.func43, Tryz.ntmps43
    go_wp2
    go_end0
    exact ⟨rfl, HS.out, Upd.setCell w ⟨b, i, none⟩ _⟩
def SetPost (b : Nat) (r : List Int) (i v pc : Int) (w : World) (e : Ending) (w' : World) : Prop := e = .returned (.int .i64 (mayE i)) ∧ FileAt w' b (putR r i v) true pc ∧ Upd b w w'
theorem set_any (i v : Int) (b : Nat) (r : List Int) (pc : Int) (w : World) (h : FileAt w b r true pc) : Calls Tryz.prog 17 #[.pointer (some ⟨b, 0, none⟩), .int .i64 i, .int .u32 v] w (SetPost b r i v pc w) := by
  have H := Lib.hid h; clear h
  cases hi : inR i
  · have HE : Hid (mayE i = 1) := by simp [Hid, mayE, hi]
    have HP : Hid (putR r i v = r) := by simp [Hid, putR, hi]
    go_enter Tryz.func17, Tryz.ntmps17
    go_wp2_with (go_at_call 42; refine (may_any _ _ _ _ _ H.out).mono ?_; rw [HE.out]; rintro e w' ⟨rfl, rfl⟩)
    go_ret
    exact ⟨ret_int (by rw [HE.out]), by rw [HP.out]; exact H.out, Upd.refl _ _⟩
  · have HE : Hid (mayE i = 0) := by simp [Hid, mayE, hi]
    obtain ⟨i1, i2⟩ := (inR_iff i).1 hi
    obtain ⟨n, rfl⟩ := Int.eq_ofNat_of_zero_le i1
    clear hi
    go_enter Tryz.func17, Tryz.ntmps17
    go_wp2_with (first | (go_at_call 42; refine (may_any _ _ _ _ _ H.out).mono ?_; rw [HE.out]; rintro e w' ⟨rfl, rfl⟩) | (go_at_call 43; refine (put_any n (by omega) _ _ _ _ _ H.out).mono ?_; rintro e w1 ⟨rfl, hw1, hu1⟩))
    go_ret
    exact ⟨ret_int (by rw [HE.out]), hw1, hu1⟩
theorem info_arr : (Tryz.prog.info? 40).map (·.size) = some 16 := by kernel_rfl
def AllPost (r : List Int) (w : World) (e : Ending) (w' : World) : Prop := e = .returned (.agg (r.map (Value.int .u32)).toArray) ∧ Below w.heap.size w w'
theorem all_any (b : Nat) (r : List Int) (m : Bool) (pc : Int) (w : World) (h : FileAt w b r m pc) : Calls Tryz.prog 7 #[.pointer (some ⟨b, 0, none⟩)] w (AllPost r w) := by
  have hlen := Lib.hid h.1
  have hb : Below w.heap.size w (w.alloc (.cells (Array.replicate 16 (Value.int .u32 0)) 40)) := (Below.refl _ _).alloc (Nat.le_refl _) _
  have hrow := Lib.hid ((h.below hb).row)
  clear hb h
  go_enter Tryz.func7, Tryz.ntmps7
  go_wp2_with (first | (refine wpList_load_mid rfl 40 (.tmp 9) rfl b 0 rfl (r.map (Value.int .u32)) _ hrow.out Tryz.underlying40 rfl (by rw [info_arr]; simp [hlen.out]) ?_) | (refine wpList_store_new rfl 40 (.tmp 2) (.tmp 10) rfl _ _ rfl rfl (by rw [info_arr]; simp [hlen.out]) (by simp [hlen.out]) (ints_all _ _) ?_))
  refine bodyPost_ret (v := .agg (r.map (Value.int .u32)).toArray) ?_ rfl ⟨rfl, (Below.refl _ _).alloc (Nat.le_refl _) _⟩
  exact results_cell_row rfl _ _ w.heap.size _ _ (0, 0) _ rfl (new_block w _ _ rfl) Tryz.underlying40 rfl (by rw [info_arr]; simp [hlen.out])
def getV (r : List Int) (i : Int) : Int := if inR i then r.getD i.toNat 0 else 0
theorem get_any (i : Int) (b : Nat) (r : List Int) (pc : Int) (w : World) (h : FileAt w b r true pc) : Calls Tryz.prog 21 #[.pointer (some ⟨b, 0, none⟩), .int .i64 i] w fun e w' => e = .returned (.tuple #[.int .u32 (getV r i), .int .i64 (mayE i)]) ∧ w = w' := by
  have H := Lib.hid h; clear h
  cases hi : inR i
  · have HE : Hid (mayE i = 1) := by simp [Hid, mayE, hi]
    have HG : Hid (getV r i = 0) := by simp [Hid, getV, hi]
    go_enter Tryz.func21, Tryz.ntmps21
    go_wp2_with (go_at_call 42; refine (may_any _ _ _ _ _ H.out).mono ?_; rw [HE.out]; rintro e w' ⟨rfl, rfl⟩)
    go_ret2
    exact ⟨ret_two (by rw [HG.out]) (by rw [HE.out]), rfl⟩
  · have HE : Hid (mayE i = 0) := by simp [Hid, mayE, hi]
    obtain ⟨i1, i2⟩ := (inR_iff i).1 hi
    obtain ⟨n, rfl⟩ := Int.eq_ofNat_of_zero_le i1
    have hc := H.out.reg n (by omega)
    have HG : Hid (getV r n = r.getD n 0) := by simp [Hid, getV, hi]
    obtain ⟨x, hx⟩ : ∃ x, x = r.getD n 0 := ⟨_, rfl⟩
    have HX := Lib.hid hx
    rw [← hx] at hc
    clear hi hx
    go_enter Tryz.func21, Tryz.ntmps21
    go_wp2_with (go_at_call 42; refine (may_any _ _ _ _ _ H.out).mono ?_; rw [HE.out]; rintro e w' ⟨rfl, rfl⟩)
    go_ret2
    exact ⟨ret_two (by rw [HG.out, HX.out]) (by rw [HE.out]), rfl⟩
theorem pc_any (b : Nat) (r : List Int) (m : Bool) (pc : Int) (w : World) (h : FileAt w b r m pc) : Calls Tryz.prog 8 #[.pointer (some ⟨b, 0, none⟩)] w fun e w' => e = .returned (.int .u32 pc) ∧ w = w' := by
  have hc := h.pc
  clear h
  go_enter Tryz.func8, Tryz.ntmps8
  go_wp2
  go_ret
  exact ⟨rfl, rfl⟩
def JumpPost (b : Nat) (r : List Int) (v : Int) (w : World) (e : Ending) (w' : World) : Prop := e = .returned (.int .i64 0) ∧ FileAt w' b r true v ∧ Upd b w w'
theorem jump_any (v : Int) (b : Nat) (r : List Int) (pc : Int) (w : World) (h : FileAt w b r true pc) : Calls Tryz.prog 12 #[.pointer (some ⟨b, 0, none⟩), .int .u32 v] w (JumpPost b r v w) := by
  have hc := h.pc; have hm := h.made; have hf := h.free 17
  have HS := Lib.hid (h.setPc v)
  clear h
  go_enter Tryz.func12, Tryz.ntmps12
  go_wp2
  go_ret
  exact ⟨rfl, HS.out, Upd.setCell w ⟨b, 17, none⟩ _⟩
def ClearPost (b : Nat) (w : World) (e : Ending) (w' : World) : Prop := e = .returned (.int .i64 0) ∧ FileAt w' b (List.replicate 16 0) true 0 ∧ Upd b w w'
theorem info_file : (Tryz.prog.info? 82).map (·.size) = some 18 := by kernel_rfl
theorem file_all (r : List Int) (m : Bool) (pc : Int) : (fileCells r m pc).all (·.oneCell') = true := all_oneCell_toArray (by
  intro v hv
  simp only [List.mem_append, List.mem_map, List.mem_cons, List.not_mem_nil, or_false] at hv
  rcases hv with ⟨_, _, rfl⟩ | rfl | rfl <;> rfl)
end
section
open Go.RowKit
theorem get_nil (i : Int) (w : World) : Calls Tryz.prog 21 #[.pointer none, .int .i64 i] w fun e w' => e = .returned (.tuple #[.int .u32 0, .int .i64 7]) ∧ w = w' := by go_enter Tryz.func21, Tryz.ntmps21; go_wp2; go_ret2; exact ⟨rfl, rfl⟩
theorem set_nil (i v : Int) (w : World) : Calls Tryz.prog 17 #[.pointer none, .int .i64 i, .int .u32 v] w fun e w' => e = .returned (.int .i64 7) ∧ w = w' := by go_enter Tryz.func17, Tryz.ntmps17; go_wp2; go_ret; exact ⟨rfl, rfl⟩
theorem jump_nil (v : Int) (w : World) : Calls Tryz.prog 12 #[.pointer none, .int .u32 v] w fun e w' => e = .returned (.int .i64 7) ∧ w = w' := by go_enter Tryz.func12, Tryz.ntmps12; go_wp2; go_ret; exact ⟨rfl, rfl⟩
theorem pc_nil (w : World) : Calls Tryz.prog 8 #[.pointer none] w fun e w' => e = .returned (.int .u32 0) ∧ w = w' := by go_enter Tryz.func8, Tryz.ntmps8; go_wp2; go_ret; exact ⟨rfl, rfl⟩
theorem all_nil (w : World) : Calls Tryz.prog 7 #[.pointer none] w (AllPost (List.replicate 16 0) w) := by
  go_enter Tryz.func7, Tryz.ntmps7
  go_wp2_with (refine wpList_store_new rfl 40 (.tmp 2) (.tmp 5) rfl _ _ rfl rfl (by rw [info_arr]; rfl) (by rfl) (by rfl) ?_)
  refine bodyPost_ret (v := .agg ((List.replicate 16 0).map (Value.int .u32)).toArray) ?_ rfl ⟨rfl, (Below.refl _ _).alloc (Nat.le_refl _) _⟩
  exact results_cell_row rfl _ _ w.heap.size _ _ (0, 0) _ rfl (new_block w _ _ rfl) Tryz.underlying40 rfl (by rw [info_arr]; rfl)
theorem may_un (i : Int) (b : Nat) (r : List Int) (pc : Int) (w : World) (h : FileAt w b r false pc) : Calls Tryz.prog 42 #[.pointer (some ⟨b, 0, none⟩), .int .i64 i] w fun e w' => e = .returned (.int .i64 7) ∧ w = w' := by
  have hm := h.made
  clear h
  go_enter Tryz.func42, Tryz.ntmps42; go_wp2; go_ret; exact ⟨rfl, rfl⟩
theorem get_un (i : Int) (b : Nat) (r : List Int) (pc : Int) (w : World) (h : FileAt w b r false pc) : Calls Tryz.prog 21 #[.pointer (some ⟨b, 0, none⟩), .int .i64 i] w fun e w' => e = .returned (.tuple #[.int .u32 0, .int .i64 7]) ∧ w = w' := by
  have H := Lib.hid h; clear h
  go_enter Tryz.func21, Tryz.ntmps21
  go_wp2_with (go_at_call 42; refine (may_un _ _ _ _ _ H.out).mono ?_; rintro e w' ⟨rfl, rfl⟩)
  go_ret2
  exact ⟨rfl, rfl⟩
theorem set_un (i v : Int) (b : Nat) (r : List Int) (pc : Int) (w : World) (h : FileAt w b r false pc) : Calls Tryz.prog 17 #[.pointer (some ⟨b, 0, none⟩), .int .i64 i, .int .u32 v] w fun e w' => e = .returned (.int .i64 7) ∧ w = w' := by
  have H := Lib.hid h; clear h
  go_enter Tryz.func17, Tryz.ntmps17
  go_wp2_with (go_at_call 42; refine (may_un _ _ _ _ _ H.out).mono ?_; rintro e w' ⟨rfl, rfl⟩)
  go_ret
  exact ⟨rfl, rfl⟩
theorem jump_un (v : Int) (b : Nat) (r : List Int) (pc : Int) (w : World) (h : FileAt w b r false pc) : Calls Tryz.prog 12 #[.pointer (some ⟨b, 0, none⟩), .int .u32 v] w fun e w' => e = .returned (.int .i64 7) ∧ w = w' := by
  have hm := h.made
  clear h
  go_enter Tryz.func12, Tryz.ntmps12; go_wp2; go_ret; exact ⟨rfl, rfl⟩
end
section
open Go.RowKit
def refCells (r : List Int) (pc : Int) : Array Value := (r.map (Value.int .u32) ++ [Value.int .u32 pc]).toArray
def RefAt (w : World) (b : Nat) (r : List Int) (pc : Int) : Prop := r.length = 16 ∧ w.heap[b]? = some (.cells (refCells r pc) 43 (0, 0))
theorem RefAt.reg {w : World} {b : Nat} {r : List Int} {pc : Int} (h : RefAt w b r pc) (i : Nat) (hi : i < 16) : w.cell? ⟨b, i, none⟩ = some (.int .u32 (r.getD i 0)) := by
  have hl := h.1
  refine cell_at h.2 i _ ?_
  simp [refCells, List.getElem?_append, hl, hi]
theorem RefAt.pc {w : World} {b : Nat} {r : List Int} {pc : Int} (h : RefAt w b r pc) : w.cell? ⟨b, 16, none⟩ = some (.int .u32 pc) := by
  have hl := h.1
  refine cell_at h.2 16 _ ?_
  simp [refCells, List.getElem?_append, hl]
theorem RefAt.free {w : World} {b : Nat} {r : List Int} {pc : Int} (h : RefAt w b r pc) (j : Nat) : w.frozen? ⟨b, j, none⟩ = false := free_at h.2 j
theorem RefAt.lt {w : World} {b : Nat} {r : List Int} {pc : Int} (h : RefAt w b r pc) : b < w.heap.size := (Array.getElem?_eq_some_iff.1 h.2).1
theorem RefAt.setReg {w : World} {b : Nat} {r : List Int} {pc : Int} (h : RefAt w b r pc) (i : Nat) (hi : i < 16) (v : Int) : RefAt (w.setCell ⟨b, i, none⟩ (.int .u32 v)) b (r.set i v) pc := by
  have hl := h.1
  refine ⟨by simpa using hl, ?_⟩
  rw [setCell_block h.2 i]
  congr 2
  simp [refCells, List.set_append, hl, hi]
theorem RefAt.setPc {w : World} {b : Nat} {r : List Int} {pc : Int} (h : RefAt w b r pc) (v : Int) : RefAt (w.setCell ⟨b, 16, none⟩ (.int .u32 v)) b r v := by
  have hl := h.1
  refine ⟨hl, ?_⟩
  rw [setCell_block h.2 16]
  congr 2
  simp [refCells, List.set_append, hl]
theorem RefAt.below {w w' : World} {b : Nat} {r : List Int} {pc : Int} (h : RefAt w b r pc) (hb : Below w.heap.size w w') : RefAt w' b r pc := ⟨h.1, keepB hb h.lt h.2⟩
theorem RefAt.row {w : World} {b : Nat} {r : List Int} {pc : Int} (h : RefAt w b r pc) : w.rangeAt b 0 (r.map (Value.int .u32)) := fun j v hv => by
  have hj : j < r.length := by have := (List.getElem?_eq_some_iff.1 hv).1; simpa using this
  rw [Nat.zero_add, h.reg j (by have := h.1; omega), ← hv]
  simp [hj]
theorem RefAt.upd {w w' : World} {b c : Nat} {r : List Int} {pc : Int} (h : RefAt w b r pc) (hu : Upd c w w') (hc : b ≠ c) : RefAt w' b r pc := ⟨h.1, hu.keep hc h.2⟩
theorem FileAt.upd {w w' : World} {b c : Nat} {r : List Int} {m : Bool} {pc : Int} (h : FileAt w b r m pc) (hu : Upd c w w') (hc : b ≠ c) : FileAt w' b r m pc := ⟨h.1, hu.keep hc h.2⟩
def RSetPost (b : Nat) (r : List Int) (i v pc : Int) (w : World) (e : Ending) (w' : World) : Prop := e = .returned (.int .i64 (mayE i)) ∧ RefAt w' b (putR r i v) pc ∧ Upd b w w'
theorem rset_any (i v : Int) (b : Nat) (r : List Int) (pc : Int) (w : World) (h : RefAt w b r pc) : Calls Tryz.prog 18 #[.pointer (some ⟨b, 0, none⟩), .int .i64 i, .int .u32 v] w (RSetPost b r i v pc w) := by
  by_cases h1 : i < 0
  · have HE : Hid (mayE i = 1) := by simp [Hid, mayE, inR]; omega
    have HP : Hid (putR r i v = r) := by rw [Hid, putR, if_neg]; simp [inR]; omega
    have H := Lib.hid h; clear h
    go_enter Tryz.func18, Tryz.ntmps18
    go_wp2
    go_ret
    exact ⟨ret_int (by rw [HE.out]), by rw [HP.out]; exact H.out, Upd.refl _ _⟩
  · by_cases h2 : 16 ≤ i
    · have HE : Hid (mayE i = 1) := by simp [Hid, mayE, inR]; omega
      have HP : Hid (putR r i v = r) := by rw [Hid, putR, if_neg]; simp [inR]; omega
      have H := Lib.hid h; clear h
      go_enter Tryz.func18, Tryz.ntmps18
      go_wp2
      go_ret
      exact ⟨ret_int (by rw [HE.out]), by rw [HP.out]; exact H.out, Upd.refl _ _⟩
    · have HE : Hid (mayE i = 0) := by simp [Hid, mayE, inR]; omega
      obtain ⟨n, rfl⟩ := Int.eq_ofNat_of_zero_le (by omega : 0 ≤ i)
      by_cases h0 : n = 0
      · subst h0
        have HP : Hid (putR r 0 v = r) := by simp [Hid, putR]
        have HE : Hid (mayE 0 = 0) := HE.out
        have H := Lib.hid h; clear h
        go_enter Tryz.func18, Tryz.ntmps18
        go_wp2
        go_ret
        exact ⟨ret_int (by rw [HE.out]), by rw [HP.out]; exact H.out, Upd.refl _ _⟩
      · have HS : Hid (RefAt (w.setCell ⟨b, n, none⟩ (.int .u32 v)) b (putR r n v) pc) := by
          have : putR r n v = r.set n v := by
            have e : (inR (n : Int) && (n : Int) != 0) = true := by rw [(inR_iff _).2 (by omega)]; simpa using h0
            rw [putR, e]; rfl
          rw [Hid, this]; exact h.setReg n (by omega) v
        have hr := h.reg n (by omega)
        have hf := h.free n
        have hpos : (0 : Int) < n := by omega
        clear h
        go_enter Tryz.func18, Tryz.ntmps18
        go_wp2
        go_ret
        exact ⟨ret_int (by rw [HE.out]), HS.out, Upd.setCell w ⟨b, n, none⟩ _⟩
end
end Regs
end Go.Proofs.YtiohfdhmkikckaaGreatDoor
