/- The reference of chapter 11. -/
import Derived.Test.YtjphehncpgekfaaRegsZero
namespace Go.Proofs.Ytjphehncpgekfaa
open Go.RowKit
set_option maxHeartbeats 400000
set_option maxRecDepth 100000

def refCells (r : List Int) (pc : Int) : Array Value := (r.map (Value.int .u32) ++ [Value.int .u32 pc]).toArray
def RefAt (w : World) (b : Nat) (r : List Int) (pc : Int) : Prop := r.length = 16 ∧ w.heap[b]? = some (.cells (refCells r pc) 68 (0, 0))
theorem RefAt.reg {w : World} {b : Nat} {r : List Int} {pc : Int} (h : RefAt w b r pc) (i : Nat) (hi : i < 16) : w.cell? ⟨b, i, none⟩ = some (.int .u32 (r.getD i 0)) := by
  have hl := h.1
  refine cell_at h.2 i _ ?_
  simp [refCells, List.getElem?_append, hl, hi]
theorem RefAt.pc {w : World} {b : Nat} {r : List Int} {pc : Int} (h : RefAt w b r pc) : w.cell? ⟨b, 16, none⟩ = some (.int .u32 pc) := by
  have hl := h.1
  refine cell_at h.2 16 _ ?_
  simp [refCells, List.getElem?_append, hl]
theorem RefAt.free {w : World} {b : Nat} {r : List Int} {pc : Int} (h : RefAt w b r pc) (j : Nat) : w.frozen? ⟨b, j, none⟩ = false := free_at h.2 j
theorem RefAt.lt {w : World} {b : Nat} {r : List Int} {pc : Int} (h : RefAt w b r pc) : b < w.heap.size := (Array.getElem?_eq_some_iff.1 h.2).1
theorem RefAt.setReg {w : World} {b : Nat} {r : List Int} {pc : Int} (h : RefAt w b r pc) (i : Nat) (hi : i < 16) (v : Int) : RefAt (w.setCell ⟨b, i, none⟩ (.int .u32 v)) b (r.set i v) pc := by
  have hl := h.1
  refine ⟨by simpa using hl, ?_⟩
  rw [setCell_block h.2 i]
  congr 2
  simp [refCells, List.set_append, hl, hi]
theorem RefAt.setPc {w : World} {b : Nat} {r : List Int} {pc : Int} (h : RefAt w b r pc) (v : Int) : RefAt (w.setCell ⟨b, 16, none⟩ (.int .u32 v)) b r v := by
  have hl := h.1
  refine ⟨hl, ?_⟩
  rw [setCell_block h.2 16]
  congr 2
  simp [refCells, List.set_append, hl]
theorem RefAt.below {w w' : World} {b : Nat} {r : List Int} {pc : Int} (h : RefAt w b r pc) (hb : Below w.heap.size w w') : RefAt w' b r pc := ⟨h.1, keepB hb h.lt h.2⟩
theorem RefAt.row {w : World} {b : Nat} {r : List Int} {pc : Int} (h : RefAt w b r pc) : w.rangeAt b 0 (r.map (Value.int .u32)) := fun j v hv => by
  have hj : j < r.length := by have := (List.getElem?_eq_some_iff.1 hv).1; simpa using this
  rw [Nat.zero_add, h.reg j (by have := h.1; omega), ← hv]
  simp [hj]
theorem RefAt.upd {w w' : World} {b c : Nat} {r : List Int} {pc : Int} (h : RefAt w b r pc) (hu : Upd c w w') (hc : b ≠ c) : RefAt w' b r pc := ⟨h.1, hu.keep hc h.2⟩
theorem FileAt.upd {w w' : World} {b c : Nat} {r : List Int} {m : Bool} {pc : Int} (h : FileAt w b r m pc) (hu : Upd c w w') (hc : b ≠ c) : FileAt w' b r m pc := ⟨h.1, hu.keep hc h.2⟩

theorem rget_any (i : Int) (b : Nat) (r : List Int) (pc : Int) (w : World) (h : RefAt w b r pc) : Calls Try.prog 40 #[.pointer (some ⟨b, 0, none⟩), .int .i64 i] w fun e w' => e = .returned (.tuple #[.int .u32 (getV r i), .int .i64 (mayE i)]) ∧ w = w' := by
  by_cases h1 : i < 0
  · have HE : Hid (mayE i = 1) := by simp [Hid, mayE, inR]; omega
    have HG : Hid (getV r i = 0) := by simp [Hid, getV, inR]; omega
    clear h
    go_enter Try.func40, Try.ntmps40
    go_wp2
    go_ret2
    exact ⟨ret_two (by rw [HG.out]) (by rw [HE.out]), rfl⟩
  · by_cases h2 : 16 ≤ i
    · have HE : Hid (mayE i = 1) := by simp [Hid, mayE, inR]; omega
      have HG : Hid (getV r i = 0) := by simp [Hid, getV, inR]; omega
      clear h
      go_enter Try.func40, Try.ntmps40
      go_wp2
      go_ret2
      exact ⟨ret_two (by rw [HG.out]) (by rw [HE.out]), rfl⟩
    · have HE : Hid (mayE i = 0) := by simp [Hid, mayE, inR]; omega
      obtain ⟨n, rfl⟩ := Int.eq_ofNat_of_zero_le (by omega : 0 ≤ i)
      have hc := h.reg n (by omega)
      have HG : Hid (getV r n = r.getD n 0) := by simp [Hid, getV, inR]; omega
      obtain ⟨x, hx⟩ : ∃ x, x = r.getD n 0 := ⟨_, rfl⟩
      have HX := Lib.hid hx
      rw [← hx] at hc
      clear hx h
      go_enter Try.func40, Try.ntmps40
      go_wp2
      go_ret2
      exact ⟨ret_two (by rw [HG.out, HX.out]) (by rw [HE.out]), rfl⟩

def RSetPost (b : Nat) (r : List Int) (i v pc : Int) (w : World) (e : Ending) (w' : World) : Prop := e = .returned (.int .i64 (mayE i)) ∧ RefAt w' b (putR r i v) pc ∧ Upd b w w'
theorem rset_any (i v : Int) (b : Nat) (r : List Int) (pc : Int) (w : World) (h : RefAt w b r pc) : Calls Try.prog 38 #[.pointer (some ⟨b, 0, none⟩), .int .i64 i, .int .u32 v] w (RSetPost b r i v pc w) := by
  by_cases h1 : i < 0
  · have HE : Hid (mayE i = 1) := by simp [Hid, mayE, inR]; omega
    have HP : Hid (putR r i v = r) := by rw [Hid, putR, if_neg]; simp [inR]; omega
    have H := Lib.hid h; clear h
    go_enter Try.func38, Try.ntmps38
    go_wp2
    go_ret
    exact ⟨ret_int (by rw [HE.out]), by rw [HP.out]; exact H.out, Upd.refl _ _⟩
  · by_cases h2 : 16 ≤ i
    · have HE : Hid (mayE i = 1) := by simp [Hid, mayE, inR]; omega
      have HP : Hid (putR r i v = r) := by rw [Hid, putR, if_neg]; simp [inR]; omega
      have H := Lib.hid h; clear h
      go_enter Try.func38, Try.ntmps38
      go_wp2
      go_ret
      exact ⟨ret_int (by rw [HE.out]), by rw [HP.out]; exact H.out, Upd.refl _ _⟩
    · have HE : Hid (mayE i = 0) := by simp [Hid, mayE, inR]; omega
      obtain ⟨n, rfl⟩ := Int.eq_ofNat_of_zero_le (by omega : 0 ≤ i)
      by_cases h0 : n = 0
      · subst h0
        have HP : Hid (putR r 0 v = r) := by simp [Hid, putR]
        have HE : Hid (mayE 0 = 0) := HE.out
        have H := Lib.hid h; clear h
        go_enter Try.func38, Try.ntmps38
        go_wp2
        go_ret
        exact ⟨ret_int (by rw [HE.out]), by rw [HP.out]; exact H.out, Upd.refl _ _⟩
      · have HS : Hid (RefAt (w.setCell ⟨b, n, none⟩ (.int .u32 v)) b (putR r n v) pc) := by
          have : putR r n v = r.set n v := by
            have e : (inR (n : Int) && (n : Int) != 0) = true := by rw [(inR_iff _).2 (by omega)]; simpa using h0
            rw [putR, e]; rfl
          rw [Hid, this]; exact h.setReg n (by omega) v
        have hr := h.reg n (by omega)
        have hf := h.free n
        have hpos : (0 : Int) < n := by omega
        clear h
        go_enter Try.func38, Try.ntmps38
        go_wp2
        go_ret
        exact ⟨ret_int (by rw [HE.out]), HS.out, Upd.setCell w ⟨b, n, none⟩ _⟩
end Go.Proofs.Ytjphehncpgekfaa
