/- Contracts (Csr): Csr, CsrRef, CsrLaws, CsrUser, CsrPlays. -/
import Derived.Test.YtiohfdhmkikckaaGreatDoorObj
import Derived.Test.YtiohfdhmkikckaaGreatDoorRows
import Derived.StillTailTactics
import Derived.BigRegion
namespace Go.Proofs.YtiohfdhmkikckaaGreatDoor
set_option linter.unusedVariables false
set_option linter.unusedSimpArgs false
set_option linter.unnecessarySimpa false
namespace Csr
set_option maxHeartbeats 4000000
set_option maxRecDepth 100000
section
open Go.RowKit
/-- The registers in memory. -/
def FileC (w : World) (b : Nat) (r : List Int) (id : Int) : Prop := r.length = 7 ∧ ObjAt w b 84 (r.map (Value.int .u32) ++ [.int .i64 id, .bool true])
section
variable {w w' : World} {b c : Nat} {r : List Int} {i0 : Int}
theorem FileC.reg (h : FileC w b r i0) (i : Nat) (hi : i < 7) : w.cell? ⟨b, i, none⟩ = some (.int .u32 (r.getD i 0)) := by
  have hl := h.1
  refine h.2.cell i _ ?_
  simp [List.getElem?_append, hl, hi]
theorem FileC.id (h : FileC w b r i0) : w.cell? ⟨b, 7, none⟩ = some (.int .i64 i0) := by
  have hl := h.1
  refine h.2.cell 7 _ ?_
  simp [List.getElem?_append, hl]
theorem FileC.made (h : FileC w b r i0) : w.cell? ⟨b, 8, none⟩ = some (.bool true) := by
  have hl := h.1
  refine h.2.cell 8 _ ?_
  simp [List.getElem?_append, hl]
theorem FileC.free (h : FileC w b r i0) (j : Nat) : w.frozen? ⟨b, j, none⟩ = false := h.2.free j
theorem FileC.lt (h : FileC w b r i0) : b < w.heap.size := h.2.lt
theorem FileC.set (h : FileC w b r i0) (i : Nat) (hi : i < 7) (v : Int) : FileC (w.setCell ⟨b, i, none⟩ (.int .u32 v)) b (r.set i v) i0 := by
  have hl := h.1
  refine ⟨by simpa using hl, ?_⟩
  have := h.2.set i (.int .u32 v)
  simpa [List.set_append, hl, hi] using this
theorem FileC.below (h : FileC w b r i0) (hb : Below w.heap.size w w') : FileC w' b r i0 := ⟨h.1, h.2.below hb⟩
theorem FileC.belowB {B : Nat} (h : FileC w b r i0) (hb : Below B w w') (hB : b < B) : FileC w' b r i0 := ⟨h.1, h.2.belowB hb hB⟩
theorem FileC.upd (h : FileC w b r i0) (hu : Upd c w w') (hc : b ≠ c) : FileC w' b r i0 := ⟨h.1, h.2.upd hu hc⟩
end
theorem none_any (b : Nat) (r : List Int) (id : Int) (w : World) (h : FileC w b r id) : Calls Tryz.prog 37 #[.pointer (some ⟨b, 0, none⟩)] w fun e w' => e = .returned (.bool false) ∧ w = w' := by
  have hm := h.made
  clear h
  go_enter Tryz.func37, Tryz.ntmps37
  go_wp2
  go_ret
  exact ⟨rfl, rfl⟩
def hasB (st bit : Int) : Bool := bits .and .u32 st bit != 0
theorem has_any (bit : Int) (b : Nat) (r : List Int) (id : Int) (w : World) (h : FileC w b r id) : Calls Tryz.prog 50 #[.pointer (some ⟨b, 0, none⟩), .int .u32 bit] w fun e w' => e = .returned (.bool (hasB (r.getD 5 0) bit)) ∧ w = w' := by
  have hm := h.reg 5 (by omega)
  generalize r.getD 5 0 = st at hm
  clear h
  go_enter Tryz.func50, Tryz.ntmps50
  go_wp2
  go_ret
  exact ⟨rfl, rfl⟩
def kerE (r : List Int) : Int := if hasB (r.getD 5 0) 4 then 0 else 4
theorem kernel_any (b : Nat) (r : List Int) (id : Int) (w : World) (h : FileC w b r id) : Calls Tryz.prog 44 #[.pointer (some ⟨b, 0, none⟩)] w fun e w' => e = .returned (.int .i64 (kerE r)) ∧ w = w' := by
  have H := Lib.hid h; clear h
  cases hk : hasB (r.getD 5 0) 4
  · have HE : Hid (kerE r = 4) := by simp only [Hid, kerE, hk]; rfl
    have HK := Lib.hid hk; clear hk
    go_enter Tryz.func44, Tryz.ntmps44
    go_wp2_with (first | (go_at_call 37; refine (none_any _ _ _ _ H.out).mono ?_; rintro e w' ⟨rfl, rfl⟩) | (go_at_call 50; refine (has_any _ _ _ _ _ H.out).mono ?_; rw [HK.out]; rintro e w' ⟨rfl, rfl⟩))
    go_ret
    exact ⟨ret_int (by rw [HE.out]), rfl⟩
  · have HE : Hid (kerE r = 0) := by simp only [Hid, kerE, hk]; rfl
    have HK := Lib.hid hk; clear hk
    go_enter Tryz.func44, Tryz.ntmps44
    go_wp2_with (first | (go_at_call 37; refine (none_any _ _ _ _ H.out).mono ?_; rintro e w' ⟨rfl, rfl⟩) | (go_at_call 50; refine (has_any _ _ _ _ _ H.out).mono ?_; rw [HK.out]; rintro e w' ⟨rfl, rfl⟩))
    go_ret
    exact ⟨ret_int (by rw [HE.out]), rfl⟩
def mv1 (st s x y : Int) : Int := if hasB st x then bits .or .u32 s y else s
theorem mv_any (x y s : Int) (b p q : Nat) (r : List Int) (id : Int) (w : World) (h : FileC w b r id) (hp : ObjAt w p 26 [.pointer (some ⟨b, 0, none⟩)]) (hq : ObjAt w q 23 [.int .u32 s]) :
    Calls Tryz.prog 104 #[.int .u32 x, .int .u32 y, .pointer (some ⟨p, 0, none⟩), .pointer (some ⟨q, 0, none⟩)] w fun e w' => e = .returned (.tuple #[]) ∧ ObjAt w' q 23 [.int .u32 (mv1 (r.getD 5 0) s x y)] ∧ Upd q w w' := by
  have H := Lib.hid h; have HQ := Lib.hid hq
  have cp := hp.cell 0 _ rfl
  have cq := hq.cell 0 _ rfl
  have fq := hq.free 0
  clear h hp hq
  cases hk : hasB (r.getD 5 0) x
  · have HE : Hid (mv1 (r.getD 5 0) s x y = s) := by simp only [Hid, mv1, hk]; rfl
    have HK := Lib.hid hk; clear hk
    go_enter Tryz.func104, Tryz.ntmps104
    go_wp2_with (go_at_call 50; refine (has_any _ _ _ _ _ H.out).mono ?_; rw [HK.out]; rintro e w' ⟨rfl, rfl⟩)
    go_end0
    exact ⟨rfl, by rw [HE.out]; exact HQ.out, Upd.refl _ _⟩
  · have HE : Hid (mv1 (r.getD 5 0) s x y = bits .or .u32 s y) := by simp only [Hid, mv1, hk]; rfl
    have HK := Lib.hid hk; clear hk
    go_enter Tryz.func104, Tryz.ntmps104
    go_wp2_with (go_at_call 50; refine (has_any _ _ _ _ _ H.out).mono ?_; rw [HK.out]; rintro e w' ⟨rfl, rfl⟩)
    go_end0
    exact ⟨rfl, by rw [HE.out]; exact HQ.out.set 0 _, Upd.setCell w ⟨q, 0, none⟩ _⟩
def mvN (st set a1 a2 a3 a4 : Int) (n : Nat) : Int := match n with | 0 => set | 1 => mv1 st set a1 a2 | _ => mv1 st (mv1 st set a1 a2) a3 a4
theorem ix0 (a1 a2 a3 a4 : Int) (w : World) : (Instr.index 124 (.agg #[.int .u32 a1, .int .u32 a2, .int .u32 a3, .int .u32 a4]) (.int .i64 0)).run Tryz.prog w = .ok (.agg #[.int .u32 a1, .int .u32 a2]) w := by kernel_rfl
theorem ix1 (a1 a2 a3 a4 : Int) (w : World) : (Instr.index 124 (.agg #[.int .u32 a1, .int .u32 a2, .int .u32 a3, .int .u32 a4]) (.int .i64 1)).run Tryz.prog w = .ok (.agg #[.int .u32 a3, .int .u32 a4]) w := by kernel_rfl
def MovePost (b : Nat) (r : List Int) (id v : Int) (w : World) (e : Ending) (w' : World) : Prop := e = .returned (.tuple #[]) ∧ FileC w' b (r.set 5 v) id ∧ Upd b w w'
theorem move_any (set a1 a2 a3 a4 : Int) (b : Nat) (r : List Int) (id : Int) (w : World) (h : FileC w b r id) : Calls Tryz.prog 103 #[.pointer (some ⟨b, 0, none⟩), .int .u32 set, .agg #[.int .u32 a1, .int .u32 a2, .int .u32 a3, .int .u32 a4]] w (MovePost b r id (mvN (r.getD 5 0) set a1 a2 a3 a4 2) w) := by
  have H := Lib.hid h; clear h
  obtain ⟨W0, hW0⟩ : ∃ W0, W0 = ((w.alloc (.cells #[.pointer (some ⟨b, 0, none⟩)] 26)).alloc (.cells #[.int .u32 a1, .int .u32 a2, .int .u32 a3, .int .u32 a4] 124)).alloc (.cells #[.int .u32 set] 23) := ⟨_, rfl⟩
  have hB : Below w.heap.size w W0 := by rw [hW0]; exact (((Below.refl _ _).alloc (Nat.le_refl _) _).alloc (by simp) _).alloc (by simp; omega) _
  have hp : ObjAt W0 w.heap.size 26 [.pointer (some ⟨b, 0, none⟩)] := by rw [hW0]; exact (((ObjAt.new w _ _).below ((Below.refl _ _).alloc (Nat.le_refl _) _)).below ((Below.refl _ _).alloc (Nat.le_refl _) _))
  have hq : ObjAt W0 (w.heap.size + 1 + 1) 23 [.int .u32 set] := by rw [hW0]; exact new_block _ _ _ (by simp)
  have HF : Hid (FileC W0 b r id) := H.out.below hB
  have HB := Lib.hid hB; have HP := Lib.hid hp; have HQ := Lib.hid hq
  clear hB hp hq
  go_enter Tryz.func103, Tryz.ntmps103
  go_wp2_with fail
  rw [← hW0]
  clear hW0
  go_loopw [13] (fun k wr => ∃ (n : Nat) (m : Int), n ≤ 2 ∧ m = n ∧ k = .int .i64 m ∧ FileC wr b r id ∧ ObjAt wr w.heap.size 26 [.pointer (some ⟨b, 0, none⟩)] ∧ ObjAt wr (w.heap.size + 1 + 1) 23 [.int .u32 (mvN (r.getD 5 0) set a1 a2 a3 a4 n)] ∧ Below w.heap.size w wr) (fun k _ => 2 - (intOf k).toNat)
  case atStart => exact ⟨0, 0, by omega, rfl, rfl, HF.out, HP.out, HQ.out, HB.out⟩
  case round =>
    obtain ⟨n, m, hn, hm, rfl, hf, hp, hq, hb⟩ := hrel
    clear HF HB HP HQ
    have h3 : n = 0 ∨ n = 1 ∨ n = 2 := by omega
    rcases h3 with rfl | rfl | rfl
    · obtain rfl : m = 0 := hm
      clear hn
      have hix := ix0 a1 a2 a3 a4
      have hal : Below wr.heap.size wr (wr.alloc (.cells #[.int .u32 a1, .int .u32 a2] 123)) := (Below.refl _ _).alloc (Nat.le_refl _) _
      go_wp2_with fail
      refine (mv_any _ _ _ _ _ _ _ _ _ (hf.below hal) (hp.below hal) (hq.below hal)).mono ?_; rintro e w1 ⟨rfl, hq1, hu1⟩
      have hw := hb.size
      have hf1 := (hf.below hal).upd hu1 (by have := H.out.lt; omega)
      have hp1 := (hp.below hal).upd hu1 (by omega)
      have hb1 := bupd (bmore hb hal) hu1 (by omega)
      clear hf hp hq hb hal hu1 hix
      go_wp2
      go_roundw
      case rel => exact ⟨1, 1, by omega, rfl, rfl, hf1, hp1, hq1, hb1⟩
      case measure => simp [intOf]
    · obtain rfl : m = 1 := hm
      clear hn
      have hix := ix1 a1 a2 a3 a4
      have hal : Below wr.heap.size wr (wr.alloc (.cells #[.int .u32 a3, .int .u32 a4] 123)) := (Below.refl _ _).alloc (Nat.le_refl _) _
      go_wp2_with fail
      refine (mv_any _ _ _ _ _ _ _ _ _ (hf.below hal) (hp.below hal) (hq.below hal)).mono ?_; rintro e w1 ⟨rfl, hq1, hu1⟩
      have hw := hb.size
      have hf1 := (hf.below hal).upd hu1 (by have := H.out.lt; omega)
      have hp1 := (hp.below hal).upd hu1 (by omega)
      have hb1 := bupd (bmore hb hal) hu1 (by omega)
      clear hf hp hq hb hal hu1 hix
      go_wp2
      go_roundw
      case rel => exact ⟨2, 2, by omega, rfl, rfl, hf1, hp1, hq1, hb1⟩
      case measure => simp [intOf]
    · obtain rfl : m = 2 := hm
      clear hn
      obtain ⟨z, hz⟩ : ∃ z, z = mvN (r.getD 5 0) set a1 a2 a3 a4 2 := ⟨_, rfl⟩
      rw [← hz] at hq
      have HZ := Lib.hid hz
      clear hz
      have c3 := hp.cell 0 _ rfl
      have c6 := hq.cell 0 _ rfl
      have c5 := hf.reg 5 (by omega)
      have f5 := hf.free 5
      generalize r.getD 5 0 = st at c5
      go_wp2_with fail
      go_region
      go_end0
      exact ⟨rfl, by rw [← HZ.out]; exact FileC.set (w := wr) hf 5 (by omega) z, ((Upd.of_below hb).drew).trans (Upd.setCell _ ⟨b, 5, none⟩ _)⟩
def readE (r : List Int) (n : Int) : Int := if hasB (r.getD 5 0) 4 then (if 0 ≤ n ∧ n < 9 then 0 else 1) else 4
def readV (r : List Int) (id n c : Int) : Int := if hasB (r.getD 5 0) 4 then (if 0 ≤ n ∧ n < 9 then (if n = 7 then c % 4294967296 else if n = 8 then id % 4294967296 else r.getD n.toNat 0) else 0) else 0
theorem kerE_no {r : List Int} (h : hasB (r.getD 5 0) 4 = false) : kerE r = 4 := by simp only [kerE, h]; rfl
theorem kerE_yes {r : List Int} (h : hasB (r.getD 5 0) 4 = true) : kerE r = 0 := by simp only [kerE, h]; rfl
theorem read_any (n c : Int) (b : Nat) (r : List Int) (id : Int) (w : World) (h : FileC w b r id) : Calls Tryz.prog 46 #[.pointer (some ⟨b, 0, none⟩), .int .i64 n, .int .i64 c] w fun e w' => e = .returned (.tuple #[.int .u32 (readV r id n c), .int .i64 (readE r n)]) ∧ w = w' := by
  have H := Lib.hid h
  cases hk : hasB (r.getD 5 0) 4
  · have HE := Lib.hid (kerE_no hk)
    have HV : Hid (readV r id n c = 0) := by simp only [Hid, readV, hk]; rfl
    have HR : Hid (readE r n = 4) := by simp only [Hid, readE, hk]; rfl
    clear hk h
    go_enter Tryz.func46, Tryz.ntmps46
    (go_wp2_with (go_at_call 44; refine (kernel_any _ _ _ _ H.out).mono ?_; rw [HE.out]; rintro e w' ⟨rfl, rfl⟩))
    go_ret2
    exact ⟨ret_two (by rw [HV.out]) (by rw [HR.out]), rfl⟩
  · have HE := Lib.hid (kerE_yes hk)
    by_cases h1 : n < 0
    · have HV : Hid (readV r id n c = 0) := by simp only [Hid, readV, hk, if_true]; rw [if_neg (by omega)]
      have HR : Hid (readE r n = 1) := by simp only [Hid, readE, hk, if_true]; rw [if_neg (by omega)]
      clear hk h
      go_enter Tryz.func46, Tryz.ntmps46
      (go_wp2_with (go_at_call 44; refine (kernel_any _ _ _ _ H.out).mono ?_; rw [HE.out]; rintro e w' ⟨rfl, rfl⟩))
      go_ret2
      exact ⟨ret_two (by rw [HV.out]) (by rw [HR.out]), rfl⟩
    · by_cases h2 : 9 ≤ n
      · have HV : Hid (readV r id n c = 0) := by simp only [Hid, readV, hk, if_true]; rw [if_neg (by omega)]
        have HR : Hid (readE r n = 1) := by simp only [Hid, readE, hk, if_true]; rw [if_neg (by omega)]
        clear hk h
        go_enter Tryz.func46, Tryz.ntmps46
        (go_wp2_with (go_at_call 44; refine (kernel_any _ _ _ _ H.out).mono ?_; rw [HE.out]; rintro e w' ⟨rfl, rfl⟩))
        go_ret2
        exact ⟨ret_two (by rw [HV.out]) (by rw [HR.out]), rfl⟩
      · have HR : Hid (readE r n = 0) := by simp only [Hid, readE, hk, if_true]; rw [if_pos (by omega)]
        by_cases h7 : n = 7
        · subst h7
          have HV : Hid (readV r id 7 c = c % 4294967296) := by simp only [Hid, readV, hk]; rfl
          clear hk h
          go_enter Tryz.func46, Tryz.ntmps46
          (go_wp2_with (go_at_call 44; refine (kernel_any _ _ _ _ H.out).mono ?_; rw [HE.out]; rintro e w' ⟨rfl, rfl⟩))
          go_ret2
          exact ⟨ret_two (by rw [HV.out]) (by rw [HR.out]), rfl⟩
        · by_cases h8 : n = 8
          · subst h8
            have HV : Hid (readV r id 8 c = id % 4294967296) := by simp only [Hid, readV, hk]; rfl
            have hi := h.id
            clear hk h h7
            go_enter Tryz.func46, Tryz.ntmps46
            (go_wp2_with (go_at_call 44; refine (kernel_any _ _ _ _ H.out).mono ?_; rw [HE.out]; rintro e w' ⟨rfl, rfl⟩))
            go_ret2
            exact ⟨ret_two (by rw [HV.out]) (by rw [HR.out]), rfl⟩
          · obtain ⟨k, rfl⟩ := Int.eq_ofNat_of_zero_le (by omega : 0 ≤ n)
            have HV : Hid (readV r id k c = r.getD k 0) := by simp only [Hid, readV, hk, if_true]; rw [if_pos (by omega), if_neg h7, if_neg h8]; rfl
            have hr := h.reg k (by omega)
            have e7 : ((k : Int) == 7) = false := by simpa using h7
            have e8 : ((k : Int) == 8) = false := by simpa using h8
            obtain ⟨x, hx⟩ : ∃ x, x = r.getD k 0 := ⟨_, rfl⟩
            rw [← hx] at hr
            have HX := Lib.hid hx
            clear hk h hx
            go_enter Tryz.func46, Tryz.ntmps46
            (go_wp2_with (go_at_call 44; refine (kernel_any _ _ _ _ H.out).mono ?_; rw [HE.out]; rintro e w' ⟨rfl, rfl⟩))
            go_ret2
            exact ⟨ret_two (by rw [HV.out, HX.out]) (by rw [HR.out]), rfl⟩
def putE (r : List Int) (n : Int) : Int := if hasB (r.getD 5 0) 4 then (if 0 ≤ n ∧ n ≤ 6 then 0 else 1) else 4
def putC (r : List Int) (n v : Int) : List Int := if hasB (r.getD 5 0) 4 then (if n = 0 then r.set 0 (bits .and .u32 v 7937) else if n = 5 then r.set 5 (bits .and .u32 v 15) else if 1 ≤ n ∧ n ≤ 6 then r.set n.toNat v else r) else r
def WritePost (b : Nat) (r : List Int) (id n v : Int) (w : World) (e : Ending) (w' : World) : Prop := e = .returned (.int .i64 (putE r n)) ∧ FileC w' b (putC r n v) id ∧ Upd b w w'
theorem write_any (n v : Int) (b : Nat) (r : List Int) (id : Int) (w : World) (h : FileC w b r id) : Calls Tryz.prog 19 #[.pointer (some ⟨b, 0, none⟩), .int .i64 n, .int .u32 v] w (WritePost b r id n v w) := by
  have H := Lib.hid h
  cases hk : hasB (r.getD 5 0) 4
  · have HE := Lib.hid (kerE_no hk)
    have HP : Hid (putE r n = 4) := by simp only [Hid, putE, hk]; rfl
    have HC : Hid (putC r n v = r) := by simp only [Hid, putC, hk]; rfl
    clear hk h
    go_enter Tryz.func19, Tryz.ntmps19
    (go_wp2_with (go_at_call 44; refine (kernel_any _ _ _ _ H.out).mono ?_; rw [HE.out]; rintro e w' ⟨rfl, rfl⟩))
    go_ret
    exact ⟨ret_int (by rw [HP.out]), by rw [HC.out]; exact H.out, Upd.refl _ _⟩
  · have HE := Lib.hid (kerE_yes hk)
    by_cases hn : 0 ≤ n ∧ n ≤ 6
    · have h7 : n = 0 ∨ n = 1 ∨ n = 2 ∨ n = 3 ∨ n = 4 ∨ n = 5 ∨ n = 6 := by omega
      clear hn
      rcases h7 with rfl | rfl | rfl | rfl | rfl | rfl | rfl
      · as_aux_lemma =>
        have hr := h.reg 0 (by omega)
        have hf := h.free 0
        have HP : Hid (putE r 0 = 0) := by simp only [Hid, putE, hk]; rfl
        have HS : Hid (FileC (w.setCell ⟨b, 0, none⟩ (.int .u32 (bits .and .u32 v 7937))) b (putC r 0 v) id) := by
          have e : putC r 0 v = r.set 0 (bits .and .u32 v 7937) := by simp only [putC, hk]; rfl
          rw [Hid, e]; exact h.set 0 (by omega) _
        generalize r.getD 0 0 = x at hr
        clear hk h
        go_enter Tryz.func19, Tryz.ntmps19
        (go_wp2_with (go_at_call 44; refine (kernel_any _ _ _ _ H.out).mono ?_; rw [HE.out]; rintro e w' ⟨rfl, rfl⟩))
        go_ret
        exact ⟨ret_int (by rw [HP.out]), HS.out, Upd.setCell w ⟨b, 0, none⟩ _⟩
      · as_aux_lemma =>
        have hr := h.reg 1 (by omega)
        have hf := h.free 1
        have HP : Hid (putE r 1 = 0) := by simp only [Hid, putE, hk]; rfl
        have HS : Hid (FileC (w.setCell ⟨b, 1, none⟩ (.int .u32 (v))) b (putC r 1 v) id) := by
          have e : putC r 1 v = r.set 1 (v) := by simp only [putC, hk]; rfl
          rw [Hid, e]; exact h.set 1 (by omega) _
        generalize r.getD 1 0 = x at hr
        clear hk h
        go_enter Tryz.func19, Tryz.ntmps19
        (go_wp2_with (go_at_call 44; refine (kernel_any _ _ _ _ H.out).mono ?_; rw [HE.out]; rintro e w' ⟨rfl, rfl⟩))
        go_ret
        exact ⟨ret_int (by rw [HP.out]), HS.out, Upd.setCell w ⟨b, 1, none⟩ _⟩
      · as_aux_lemma =>
        have hr := h.reg 2 (by omega)
        have hf := h.free 2
        have HP : Hid (putE r 2 = 0) := by simp only [Hid, putE, hk]; rfl
        have HS : Hid (FileC (w.setCell ⟨b, 2, none⟩ (.int .u32 (v))) b (putC r 2 v) id) := by
          have e : putC r 2 v = r.set 2 (v) := by simp only [putC, hk]; rfl
          rw [Hid, e]; exact h.set 2 (by omega) _
        generalize r.getD 2 0 = x at hr
        clear hk h
        go_enter Tryz.func19, Tryz.ntmps19
        (go_wp2_with (go_at_call 44; refine (kernel_any _ _ _ _ H.out).mono ?_; rw [HE.out]; rintro e w' ⟨rfl, rfl⟩))
        go_ret
        exact ⟨ret_int (by rw [HP.out]), HS.out, Upd.setCell w ⟨b, 2, none⟩ _⟩
      · as_aux_lemma =>
        have hr := h.reg 3 (by omega)
        have hf := h.free 3
        have HP : Hid (putE r 3 = 0) := by simp only [Hid, putE, hk]; rfl
        have HS : Hid (FileC (w.setCell ⟨b, 3, none⟩ (.int .u32 (v))) b (putC r 3 v) id) := by
          have e : putC r 3 v = r.set 3 (v) := by simp only [putC, hk]; rfl
          rw [Hid, e]; exact h.set 3 (by omega) _
        generalize r.getD 3 0 = x at hr
        clear hk h
        go_enter Tryz.func19, Tryz.ntmps19
        (go_wp2_with (go_at_call 44; refine (kernel_any _ _ _ _ H.out).mono ?_; rw [HE.out]; rintro e w' ⟨rfl, rfl⟩))
        go_ret
        exact ⟨ret_int (by rw [HP.out]), HS.out, Upd.setCell w ⟨b, 3, none⟩ _⟩
      · as_aux_lemma =>
        have hr := h.reg 4 (by omega)
        have hf := h.free 4
        have HP : Hid (putE r 4 = 0) := by simp only [Hid, putE, hk]; rfl
        have HS : Hid (FileC (w.setCell ⟨b, 4, none⟩ (.int .u32 (v))) b (putC r 4 v) id) := by
          have e : putC r 4 v = r.set 4 (v) := by simp only [putC, hk]; rfl
          rw [Hid, e]; exact h.set 4 (by omega) _
        generalize r.getD 4 0 = x at hr
        clear hk h
        go_enter Tryz.func19, Tryz.ntmps19
        (go_wp2_with (go_at_call 44; refine (kernel_any _ _ _ _ H.out).mono ?_; rw [HE.out]; rintro e w' ⟨rfl, rfl⟩))
        go_ret
        exact ⟨ret_int (by rw [HP.out]), HS.out, Upd.setCell w ⟨b, 4, none⟩ _⟩
      · as_aux_lemma =>
        have hr := h.reg 5 (by omega)
        have hf := h.free 5
        have HP : Hid (putE r 5 = 0) := by simp only [Hid, putE, hk]; rfl
        have HS : Hid (FileC (w.setCell ⟨b, 5, none⟩ (.int .u32 (bits .and .u32 v 15))) b (putC r 5 v) id) := by
          have e : putC r 5 v = r.set 5 (bits .and .u32 v 15) := by simp only [putC, hk]; rfl
          rw [Hid, e]; exact h.set 5 (by omega) _
        generalize r.getD 5 0 = x at hr
        clear hk h
        go_enter Tryz.func19, Tryz.ntmps19
        (go_wp2_with (go_at_call 44; refine (kernel_any _ _ _ _ H.out).mono ?_; rw [HE.out]; rintro e w' ⟨rfl, rfl⟩))
        go_ret
        exact ⟨ret_int (by rw [HP.out]), HS.out, Upd.setCell w ⟨b, 5, none⟩ _⟩
      · as_aux_lemma =>
        have hr := h.reg 6 (by omega)
        have hf := h.free 6
        have HP : Hid (putE r 6 = 0) := by simp only [Hid, putE, hk]; rfl
        have HS : Hid (FileC (w.setCell ⟨b, 6, none⟩ (.int .u32 (v))) b (putC r 6 v) id) := by
          have e : putC r 6 v = r.set 6 (v) := by simp only [putC, hk]; rfl
          rw [Hid, e]; exact h.set 6 (by omega) _
        generalize r.getD 6 0 = x at hr
        clear hk h
        go_enter Tryz.func19, Tryz.ntmps19
        (go_wp2_with (go_at_call 44; refine (kernel_any _ _ _ _ H.out).mono ?_; rw [HE.out]; rintro e w' ⟨rfl, rfl⟩))
        go_ret
        exact ⟨ret_int (by rw [HP.out]), HS.out, Upd.setCell w ⟨b, 6, none⟩ _⟩
    · have HP : Hid (putE r n = 1) := by simp only [Hid, putE, hk, if_true]; rw [if_neg hn]
      have HC : Hid (putC r n v = r) := by simp only [Hid, putC, hk, if_true]; rw [if_neg (by omega), if_neg (by omega), if_neg (by omega)]
      have n0 : (n == 0) = false := by simp; omega
      have n1 : (n == 1) = false := by simp; omega
      have n2 : (n == 2) = false := by simp; omega
      have n3 : (n == 3) = false := by simp; omega
      have n4 : (n == 4) = false := by simp; omega
      have n5 : (n == 5) = false := by simp; omega
      have n6 : (n == 6) = false := by simp; omega
      clear hk h hn
      go_enter Tryz.func19, Tryz.ntmps19
      (go_wp2_with (go_at_call 44; refine (kernel_any _ _ _ _ H.out).mono ?_; rw [HE.out]; rintro e w' ⟨rfl, rfl⟩))
      go_ret
      exact ⟨ret_int (by rw [HP.out]), by rw [HC.out]; exact H.out, Upd.refl _ _⟩
def onV (x : Int) : Bool := bits .and .u32 x 1 != 0
def rootV (x : Int) : Int := wrap64 (bits .and .u32 (x / 256) 31)
def modeC (r : List Int) : Array Value := #[.bool (onV (r.getD 0 0)), .int .i64 (rootV (r.getD 0 0)), .bool (!hasB (r.getD 5 0) 4)]
def ModePost (v : Array Value) (w : World) (e : Ending) (w' : World) : Prop := e = .returned (.agg v) ∧ Below w.heap.size w w'
theorem mode_any (b : Nat) (r : List Int) (id : Int) (w : World) (h : FileC w b r id) : Calls Tryz.prog 25 #[.pointer (some ⟨b, 0, none⟩)] w (ModePost (modeC r) w) := by
  have hb : Below w.heap.size w (w.alloc (.cells #[.bool false, .int .i64 0, .bool false] 66)) := (Below.refl _ _).alloc (Nat.le_refl _) _
  have H := Lib.hid (h.below hb)
  have hr := H.out.reg 0 (by omega)
  obtain ⟨x, hx⟩ : ∃ x, x = r.getD 0 0 := ⟨_, rfl⟩
  obtain ⟨y, hy⟩ : ∃ y, y = hasB (r.getD 5 0) 4 := ⟨_, rfl⟩
  have HY := Lib.hid hy
  have HM : Hid (modeC r = #[.bool (onV x), .int .i64 (rootV x), .bool (!y)]) := by rw [Hid, modeC, ← hx, ← hy]
  rw [← hx] at hr
  clear h hx hy
  go_enter Tryz.func25, Tryz.ntmps25
  go_wp2_with (first | (go_at_call 37; refine (none_any _ _ _ _ H.out).mono ?_; rintro e w' ⟨rfl, rfl⟩) | (go_at_call 50; refine (has_any _ _ _ _ _ H.out).mono ?_; rw [← HY.out]; rintro e w' ⟨rfl, rfl⟩))
  have hk : (w.alloc (.cells #[.bool (onV x), .int .i64 (rootV x), .bool (!y)] 66)).heap[w.heap.size]? = some (.cells #[.bool (onV x), .int .i64 (rootV x), .bool (!y)] 66 (0, 0)) := new_block w _ _ rfl
  have a0 := cell_at hk 0 _ rfl; have a1 := cell_at hk 1 _ rfl; have a2 := cell_at hk 2 _ rfl
  refine bodyPost_ret (v := .agg #[.bool (onV x), .int .i64 (rootV x), .bool (!y)]) ?_ rfl ⟨by rw [HM.out], (Below.refl _ _).alloc (Nat.le_refl _) _⟩
  simp only [onV, rootV] at a0 a1 a2 ⊢
  simp [results, Tryz.results25, go_sem, a0, a1, a2]
def openV (r : List Int) : Bool := r.getD 1 0 != 0 && hasB (r.getD 5 0) 1
def trapR (r : List Int) (pc c t : Int) : List Int := (((r.set 2 pc).set 3 c).set 4 t)
def enterR (r : List Int) (pc c t : Int) : List Int := (trapR r pc c t).set 5 (mvN (r.getD 5 0) 4 1 2 4 8 2)
def leaveR (r : List Int) : List Int := r.set 5 (mvN (r.getD 5 0) (bits .and .u32 (r.getD 5 0) 10) 2 1 8 4 2)
theorem trap5 (r : List Int) (pc c t : Int) : (trapR r pc c t).getD 5 0 = r.getD 5 0 := by simp [trapR, List.getD_eq_getElem?_getD]
theorem enter1 (r : List Int) (pc c t : Int) : (enterR r pc c t).getD 1 0 = r.getD 1 0 := by simp [enterR, trapR, List.getD_eq_getElem?_getD]
theorem leave2 (r : List Int) : (leaveR r).getD 2 0 = r.getD 2 0 := by simp [leaveR, List.getD_eq_getElem?_getD]
def EnterPost (b : Nat) (r : List Int) (id pc c t : Int) (w : World) (e : Ending) (w' : World) : Prop := e = .returned (.tuple #[.int .u32 (r.getD 1 0), .int .i64 0]) ∧ FileC w' b (enterR r pc c t) id ∧ Upd b w w'
def LeavePost (b : Nat) (r : List Int) (id : Int) (w : World) (e : Ending) (w' : World) : Prop := e = .returned (.tuple #[.int .u32 (r.getD 2 0), .int .i64 0]) ∧ FileC w' b (leaveR r) id ∧ Upd b w w'
theorem leave_any (b : Nat) (r : List Int) (id : Int) (w : World) (h : FileC w b r id) : Calls Tryz.prog 90 #[.pointer (some ⟨b, 0, none⟩)] w (LeavePost b r id w) := by
  have H := Lib.hid h
  have c5 := h.reg 5 (by omega)
  obtain ⟨st, hs⟩ : ∃ st, st = r.getD 5 0 := ⟨_, rfl⟩
  have HS := Lib.hid hs
  rw [← hs] at c5
  clear h hs
  go_enter Tryz.func90, Tryz.ntmps90
  go_wp2_with (go_at_call 37; refine (none_any _ _ _ _ H.out).mono ?_; rintro e w' ⟨rfl, rfl⟩)
  refine (move_any _ _ _ _ _ _ _ _ _ H.out).mono ?_; rintro e w1 ⟨rfl, hf1, hu2⟩
  rw [HS.out] at hf1
  have hf2 : FileC w1 b (leaveR r) id := hf1
  have hr := hf2.reg 2 (by omega)
  rw [leave2] at hr
  have HF2 := Lib.hid hf2
  obtain ⟨x, hx⟩ : ∃ x, x = r.getD 2 0 := ⟨_, rfl⟩
  have HX := Lib.hid hx
  rw [← hx] at hr
  clear hf1 hf2 hx c5
  go_wp2_with fail
  go_ret2
  exact ⟨ret_two HX.out rfl, HF2.out, hu2⟩
def r0 : List Int := [0, 0, 0, 0, 0, 4, 0]
theorem info_arr : (Tryz.prog.info? 45).map (·.size) = some 7 := by kernel_rfl
def a0 : Array Value := #[.int .u32 0, .int .u32 0, .int .u32 0, .int .u32 0, .int .u32 0, .int .u32 4, .int .u32 0]
def FirstPost (w : World) (e : Ending) (w' : World) : Prop := e = .returned (.agg #[.int .u32 0, .int .u32 0, .int .u32 0, .int .u32 0, .int .u32 0, .int .u32 4, .int .u32 0]) ∧ Below w.heap.size w w'
theorem first_any (w : World) : Calls Tryz.prog 40 #[] w (FirstPost w) := by
  go_enter Tryz.func40, Tryz.ntmps40
  go_wp2
  refine bodyPost_ret (v := .agg (r0.map (Value.int .u32)).toArray) ?_ rfl ⟨rfl, (Below.refl _ _).alloc (Nat.le_refl _) _⟩
  exact results_cell_row rfl _ _ w.heap.size _ _ (0, 0) _ rfl (new_block w _ _ rfl) Tryz.underlying45 rfl (by rw [info_arr]; rfl)
theorem set7 (r : List Int) (h : r.length = 7) (a b c d e f g : Int) : ((((((r.set 0 a).set 1 b).set 2 c).set 3 d).set 4 e).set 5 f).set 6 g = [a, b, c, d, e, f, g] := by
  match r, h with
  | [_, _, _, _, _, _, _], _ => rfl
def ResetPost (b : Nat) (id : Int) (w : World) (e : Ending) (w' : World) : Prop := e = .returned (.int .i64 0) ∧ FileC w' b r0 id ∧ Upd b w w'
def NewPost (id : Int) (w : World) (e : Ending) (w' : World) : Prop := ∃ b : Nat, e = .returned (.tuple #[.pointer (some ⟨b, 0, none⟩), .int .i64 0]) ∧ FileC w' b r0 id ∧ Below w.heap.size w w' ∧ w.heap.size ≤ b
theorem new_any (id : Int) (w : World) (h0 : 0 ≤ id) (h1 : id < 4) : Calls Tryz.prog 15 #[.int .i64 id] w (NewPost id w) := by
  go_enter Tryz.func15, Tryz.ntmps15
  go_wp2_with fail
  refine (first_any _).mono ?_; rintro e w1 ⟨rfl, hb1⟩
  have hs := hb1.size
  go_wp2_with fail
  go_ret2
  exact ⟨w1.heap.size, rfl, ⟨rfl, new_block w1 _ _ rfl⟩, hb1.alloc hs _, hs⟩
theorem new_no (id : Int) (w : World) (h : id < 0 ∨ 4 ≤ id) : Calls Tryz.prog 15 #[.int .i64 id] w fun e w' => e = .returned (.tuple #[.pointer none, .int .i64 1]) ∧ w = w' := by
  by_cases h0 : id < 0
  · clear h
    go_enter Tryz.func15, Tryz.ntmps15
    go_wp2
    go_ret2
    exact ⟨rfl, rfl⟩
  · have h1 : 4 ≤ id := by omega
    clear h
    go_enter Tryz.func15, Tryz.ntmps15
    go_wp2
    go_ret2
    exact ⟨rfl, rfl⟩
def AllPost (r : List Int) (w : World) (e : Ending) (w' : World) : Prop := e = .returned (.agg (r.map (Value.int .u32)).toArray) ∧ Below w.heap.size w w'
theorem all_any (b : Nat) (r : List Int) (id : Int) (w : World) (h : FileC w b r id) : Calls Tryz.prog 9 #[.pointer (some ⟨b, 0, none⟩)] w (AllPost r w) := by
  have hlen := Lib.hid h.1
  have hb : Below w.heap.size w (w.alloc (.cells (Array.replicate 7 (Value.int .u32 0)) 45)) := (Below.refl _ _).alloc (Nat.le_refl _) _
  have H1 := Lib.hid (h.below hb)
  have hrow : Hid ((w.alloc (.cells (Array.replicate 7 (Value.int .u32 0)) 45)).rangeAt b 0 (r.map (Value.int .u32))) := fun j v hv => by
    have hj : j < r.length := by have := (List.getElem?_eq_some_iff.1 hv).1; simpa using this
    have hl := hlen.out
    rw [Nat.zero_add, H1.out.reg j (by omega), ← hv]
    simp [hj]
  clear hb h
  go_enter Tryz.func9, Tryz.ntmps9
  go_wp2_with (first | (go_at_call 37; refine (none_any _ _ _ _ H1.out).mono ?_; rintro e w' ⟨rfl, rfl⟩) | (refine wpList_load_mid rfl 45 (.tmp 8) rfl b 0 rfl (r.map (Value.int .u32)) _ hrow.out Tryz.underlying45 rfl (by rw [info_arr]; simp [hlen.out]) ?_) | (refine wpList_store_new rfl 45 (.tmp 2) (.tmp 9) rfl _ _ rfl rfl (by rw [info_arr]; simp [hlen.out]) (by simp [hlen.out]) (ints_all _ _) ?_))
  refine bodyPost_ret (v := .agg (r.map (Value.int .u32)).toArray) ?_ rfl ⟨rfl, (Below.refl _ _).alloc (Nat.le_refl _) _⟩
  exact results_cell_row rfl _ _ w.heap.size _ _ (0, 0) _ rfl (new_block w _ _ rfl) Tryz.underlying45 rfl (by rw [info_arr]; simp [hlen.out])
end
section
open Go.RowKit
def RefC (w : World) (b : Nat) (r : List Int) (id : Int) : Prop := r.length = 7 ∧ ObjAt w b 48 (r.map (Value.int .u32) ++ [.int .i64 id])
section
variable {w w' : World} {b c : Nat} {r : List Int} {i0 : Int}
theorem RefC.reg (h : RefC w b r i0) (i : Nat) (hi : i < 7) : w.cell? ⟨b, i, none⟩ = some (.int .u32 (r.getD i 0)) := by
  have hl := h.1
  refine h.2.cell i _ ?_
  simp [List.getElem?_append, hl, hi]
theorem RefC.id (h : RefC w b r i0) : w.cell? ⟨b, 7, none⟩ = some (.int .i64 i0) := by
  have hl := h.1
  refine h.2.cell 7 _ ?_
  simp [List.getElem?_append, hl]
theorem RefC.free (h : RefC w b r i0) (j : Nat) : w.frozen? ⟨b, j, none⟩ = false := h.2.free j
theorem RefC.lt (h : RefC w b r i0) : b < w.heap.size := h.2.lt
theorem RefC.set (h : RefC w b r i0) (i : Nat) (hi : i < 7) (v : Int) : RefC (w.setCell ⟨b, i, none⟩ (.int .u32 v)) b (r.set i v) i0 := by
  have hl := h.1
  refine ⟨by simpa using hl, ?_⟩
  have := h.2.set i (.int .u32 v)
  simpa [List.set_append, hl, hi] using this
theorem RefC.below (h : RefC w b r i0) (hb : Below w.heap.size w w') : RefC w' b r i0 := ⟨h.1, h.2.below hb⟩
theorem RefC.upd (h : RefC w b r i0) (hu : Upd c w w') (hc : b ≠ c) : RefC w' b r i0 := ⟨h.1, h.2.upd hu hc⟩
end
/-- The status has its own bits alone. -/
def StOk (r : List Int) : Prop := 0 ≤ r.getD 5 0 ∧ r.getD 5 0 < 16 ∧ 0 ≤ r.getD 0 0 ∧ r.getD 0 0 < 4294967296
theorem st_cases {P : Int → Prop} (h : ∀ n : Fin 16, P (n.val : Int)) (s : Int) (h0 : 0 ≤ s) (h1 : s < 16) : P s := by
  obtain ⟨n, rfl⟩ := Int.eq_ofNat_of_zero_le h0
  exact h ⟨n, by omega⟩
theorem rhas_eq (s : Int) (h0 : 0 ≤ s) (h1 : s < 16) : (bits .and .u32 s 1 == 1) = hasB s 1 ∧ (bits .and .u32 s 2 == 2) = hasB s 2 ∧ (bits .and .u32 s 4 == 4) = hasB s 4 ∧ (bits .and .u32 s 8 == 8) = hasB s 8 :=
  st_cases (P := fun s => (bits .and .u32 s 1 == 1) = hasB s 1 ∧ (bits .and .u32 s 2 == 2) = hasB s 2 ∧ (bits .and .u32 s 4 == 4) = hasB s 4 ∧ (bits .and .u32 s 8 == 8) = hasB s 8) (by decide +kernel) s h0 h1
def bitV (a : Bool) (b : Int) : Int := if a then b else 0
theorem leave_eq (s : Int) (h0 : 0 ≤ s) (h1 : s < 16) : bits .or .u32 (bits .or .u32 (bits .and .u32 s 10) (bitV (hasB s 2) 1)) (bitV (hasB s 8) 4) = mvN s (bits .and .u32 s 10) 2 1 8 4 2 :=
  st_cases (P := fun s => bits .or .u32 (bits .or .u32 (bits .and .u32 s 10) (bitV (hasB s 2) 1)) (bitV (hasB s 8) 4) = mvN s (bits .and .u32 s 10) 2 1 8 4 2) (by decide +kernel) s h0 h1
theorem enter_eq (s : Int) (h0 : 0 ≤ s) (h1 : s < 16) : bits .or .u32 (bits .or .u32 4 (bitV (hasB s 1) 2)) (bitV (hasB s 4) 8) = mvN s 4 1 2 4 8 2 :=
  st_cases (P := fun s => bits .or .u32 (bits .or .u32 4 (bitV (hasB s 1) 2)) (bitV (hasB s 4) 8) = mvN s 4 1 2 4 8 2) (by decide +kernel) s h0 h1
theorem mv_ok (s : Int) (h0 : 0 ≤ s) (h1 : s < 16) : (0 ≤ mvN s 4 1 2 4 8 2 ∧ mvN s 4 1 2 4 8 2 < 16) ∧ (0 ≤ mvN s (bits .and .u32 s 10) 2 1 8 4 2 ∧ mvN s (bits .and .u32 s 10) 2 1 8 4 2 < 16) :=
  st_cases (P := fun s => (0 ≤ mvN s 4 1 2 4 8 2 ∧ mvN s 4 1 2 4 8 2 < 16) ∧ (0 ≤ mvN s (bits .and .u32 s 10) 2 1 8 4 2 ∧ mvN s (bits .and .u32 s 10) 2 1 8 4 2 < 16)) (by decide +kernel) s h0 h1
theorem rhas_any (bit : Int) (hb : bit = 1 ∨ bit = 2 ∨ bit = 4 ∨ bit = 8) (b : Nat) (r : List Int) (id : Int) (w : World) (h : RefC w b r id) (hs : StOk r) (s : Int) (hss : r.getD 5 0 = s) : Calls Tryz.prog 45 #[.pointer (some ⟨b, 0, none⟩), .int .u32 bit] w fun e w' => e = .returned (.bool (hasB s bit)) ∧ w = w' := by
  subst hss
  have hm := h.reg 5 (by omega)
  obtain ⟨st, hst⟩ : ∃ st, st = r.getD 5 0 := ⟨_, rfl⟩
  have HE : Hid ((bits .and .u32 st bit == bit) = hasB (r.getD 5 0) bit) := by
    have := rhas_eq (r.getD 5 0) hs.1 hs.2.1
    rw [Hid, hst]
    rcases hb with rfl | rfl | rfl | rfl <;> simp only [this]
  rw [← hst] at hm
  clear h hb hs hst
  go_enter Tryz.func45, Tryz.ntmps45
  go_wp2
  go_ret
  exact ⟨by rw [← HE.out]; rfl, rfl⟩
def REnterPost (b : Nat) (r : List Int) (id pc c t : Int) (w : World) (e : Ending) (w' : World) : Prop := e = .returned (.int .u32 (r.getD 1 0)) ∧ RefC w' b (enterR r pc c t) id ∧ Upd b w w'
theorem trap0 (r : List Int) (pc c t : Int) : (trapR r pc c t).getD 0 0 = r.getD 0 0 := by simp [trapR, List.getD_eq_getElem?_getD]
theorem StOk.trap {r : List Int} (h : StOk r) (pc c t : Int) : StOk (trapR r pc c t) := by unfold StOk at *; rw [trap5, trap0]; exact h
theorem rreset_any (b : Nat) (r : List Int) (id : Int) (w : World) (h : RefC w b r id) : Calls Tryz.prog 41 #[.pointer (some ⟨b, 0, none⟩)] w fun e w' => e = .returned (.tuple #[]) ∧ RefC w' b r0 id ∧ Upd b w w' := by
  obtain ⟨W, hW⟩ : ∃ W, W = ((((((w.setCell ⟨b, 0, none⟩ (.int .u32 0)).setCell ⟨b, 1, none⟩ (.int .u32 0)).setCell ⟨b, 2, none⟩ (.int .u32 0)).setCell ⟨b, 3, none⟩ (.int .u32 0)).setCell ⟨b, 4, none⟩ (.int .u32 0)).setCell ⟨b, 5, none⟩ (.int .u32 0)).setCell ⟨b, 6, none⟩ (.int .u32 0) := ⟨_, rfl⟩
  have HW := Lib.hid hW
  have HF : Hid (RefC W b [0, 0, 0, 0, 0, 0, 0] id) := by
    have := ((((((h.set 0 (by omega) 0).set 1 (by omega) 0).set 2 (by omega) 0).set 3 (by omega) 0).set 4 (by omega) 0).set 5 (by omega) 0).set 6 (by omega) 0
    rw [set7 r h.1] at this
    rw [Hid, hW]
    exact this
  have HU : Hid (Upd b w W) := by rw [Hid, hW]; exact ((((((Upd.setCell _ ⟨b, 0, none⟩ _).trans (Upd.setCell _ ⟨b, 1, none⟩ _)).trans (Upd.setCell _ ⟨b, 2, none⟩ _)).trans (Upd.setCell _ ⟨b, 3, none⟩ _)).trans (Upd.setCell _ ⟨b, 4, none⟩ _)).trans (Upd.setCell _ ⟨b, 5, none⟩ _)).trans (Upd.setCell _ ⟨b, 6, none⟩ _)
  have HF2 : Hid (RefC (W.setCell ⟨b, 5, none⟩ (.int .u32 4)) b r0 id) := HF.out.set 5 (by omega) 4
  have HU2 : Hid (Upd b w (W.setCell ⟨b, 5, none⟩ (.int .u32 4))) := HU.out.trans (Upd.setCell _ ⟨b, 5, none⟩ _)
  rw [hW] at HF2 HU2
  clear hW HF HU HW
  have c0 := h.reg 0 (by omega); have c1 := h.reg 1 (by omega); have c2 := h.reg 2 (by omega); have c3 := h.reg 3 (by omega); have c4 := h.reg 4 (by omega); have c5 := h.reg 5 (by omega); have c6 := h.reg 6 (by omega)
  have f0 := h.free 0; have f1 := h.free 1; have f2 := h.free 2; have f3 := h.free 3; have f4 := h.free 4; have f5 := h.free 5; have f6 := h.free 6
  generalize r.getD 0 0 = x0 at c0; generalize r.getD 1 0 = x1 at c1; generalize r.getD 2 0 = x2 at c2; generalize r.getD 3 0 = x3 at c3; generalize r.getD 4 0 = x4 at c4; generalize r.getD 5 0 = x5 at c5; generalize r.getD 6 0 = x6 at c6
  clear h
  go_enter Tryz.func41, Tryz.ntmps41
  go_wp2_with fail
  go_end0
  exact ⟨rfl, HF2.out, HU2.out⟩
def RNewPost (id : Int) (w : World) (e : Ending) (w' : World) : Prop := ∃ b : Nat, e = .returned (.tuple #[.pointer (some ⟨b, 0, none⟩), .int .i64 0]) ∧ RefC w' b r0 id ∧ Below w.heap.size w w' ∧ w.heap.size ≤ b
theorem rnew_any (id : Int) (w : World) (h0 : 0 ≤ id) (h1 : id < 4) : Calls Tryz.prog 16 #[.int .i64 id] w (RNewPost id w) := by
  obtain ⟨W, hW⟩ : ∃ W, W = w.alloc (.cells #[.int .u32 0, .int .u32 0, .int .u32 0, .int .u32 0, .int .u32 0, .int .u32 0, .int .u32 0, .int .i64 id] 48) := ⟨_, rfl⟩
  have HF : Hid (RefC W w.heap.size [0, 0, 0, 0, 0, 0, 0] id) := by rw [Hid, hW]; exact ⟨rfl, new_block w _ _ rfl⟩
  have HB : Hid (Below w.heap.size w W) := by rw [Hid, hW]; exact (Below.refl _ _).alloc (Nat.le_refl _) _
  go_enter Tryz.func16, Tryz.ntmps16
  go_wp2_with fail
  rw [← hW]
  refine (rreset_any _ _ _ _ HF.out).mono ?_; rintro e w1 ⟨rfl, hf1, hu1⟩
  have hb1 := bupd HB.out hu1 (Nat.le_refl _)
  clear hW
  go_wp2_with fail
  go_ret2
  exact ⟨w.heap.size, rfl, hf1, hb1, Nat.le_refl _⟩
theorem rnew_no (id : Int) (w : World) (h : id < 0 ∨ 4 ≤ id) : Calls Tryz.prog 16 #[.int .i64 id] w fun e w' => e = .returned (.tuple #[.pointer none, .int .i64 1]) ∧ w = w' := by
  by_cases h0 : id < 0
  · clear h
    go_enter Tryz.func16, Tryz.ntmps16
    go_wp2
    go_ret2
    exact ⟨rfl, rfl⟩
  · have h1 : 4 ≤ id := by omega
    clear h
    go_enter Tryz.func16, Tryz.ntmps16
    go_wp2
    go_ret2
    exact ⟨rfl, rfl⟩
def RWritePost (b : Nat) (r : List Int) (id n v : Int) (w : World) (e : Ending) (w' : World) : Prop := e = .returned (.int .i64 (putE r n)) ∧ RefC w' b (putC r n v) id ∧ Upd b w w'
theorem rwrite_any (n v : Int) (b : Nat) (r : List Int) (id : Int) (w : World) (h : RefC w b r id) (hs : StOk r) : Calls Tryz.prog 20 #[.pointer (some ⟨b, 0, none⟩), .int .i64 n, .int .u32 v] w (RWritePost b r id n v w) := by
  have H := Lib.hid h
  have HS := Lib.hid hs
  clear hs
  cases hk : hasB (r.getD 5 0) 4
  · have HK := Lib.hid hk
    have HP : Hid (putE r n = 4) := by simp only [Hid, putE, hk]; rfl
    have HC : Hid (putC r n v = r) := by simp only [Hid, putC, hk]; rfl
    clear hk h
    go_enter Tryz.func20, Tryz.ntmps20
    (go_wp2_with (go_at_call 45; refine (rhas_any _ (by simp) _ _ _ _ H.out HS.out _ rfl).mono ?_; rw [HK.out]; rintro e w' ⟨rfl, rfl⟩))
    go_ret
    exact ⟨ret_int (by rw [HP.out]), by rw [HC.out]; exact H.out, Upd.refl _ _⟩
  · have HK := Lib.hid hk
    by_cases hn : 0 ≤ n ∧ n ≤ 6
    · have h7 : n = 0 ∨ n = 1 ∨ n = 2 ∨ n = 3 ∨ n = 4 ∨ n = 5 ∨ n = 6 := by omega
      clear hn
      rcases h7 with rfl | rfl | rfl | rfl | rfl | rfl | rfl
      · as_aux_lemma =>
        have hr := h.reg 0 (by omega)
        have hf := h.free 0
        have HP : Hid (putE r 0 = 0) := by simp only [Hid, putE, hk]; rfl
        have HS2 : Hid (RefC (w.setCell ⟨b, 0, none⟩ (.int .u32 (bits .and .u32 v 7937))) b (putC r 0 v) id) := by
          have e : putC r 0 v = r.set 0 (bits .and .u32 v 7937) := by simp only [putC, hk]; rfl
          rw [Hid, e]; exact h.set 0 (by omega) _
        generalize r.getD 0 0 = x at hr
        clear hk h
        go_enter Tryz.func20, Tryz.ntmps20
        (go_wp2_with (go_at_call 45; refine (rhas_any _ (by simp) _ _ _ _ H.out HS.out _ rfl).mono ?_; rw [HK.out]; rintro e w' ⟨rfl, rfl⟩))
        go_ret
        exact ⟨ret_int (by rw [HP.out]), HS2.out, Upd.setCell w ⟨b, 0, none⟩ _⟩
      · as_aux_lemma =>
        have hr := h.reg 1 (by omega)
        have hf := h.free 1
        have HP : Hid (putE r 1 = 0) := by simp only [Hid, putE, hk]; rfl
        have HS2 : Hid (RefC (w.setCell ⟨b, 1, none⟩ (.int .u32 (v))) b (putC r 1 v) id) := by
          have e : putC r 1 v = r.set 1 (v) := by simp only [putC, hk]; rfl
          rw [Hid, e]; exact h.set 1 (by omega) _
        generalize r.getD 1 0 = x at hr
        clear hk h
        go_enter Tryz.func20, Tryz.ntmps20
        (go_wp2_with (go_at_call 45; refine (rhas_any _ (by simp) _ _ _ _ H.out HS.out _ rfl).mono ?_; rw [HK.out]; rintro e w' ⟨rfl, rfl⟩))
        go_ret
        exact ⟨ret_int (by rw [HP.out]), HS2.out, Upd.setCell w ⟨b, 1, none⟩ _⟩
      · as_aux_lemma =>
        have hr := h.reg 2 (by omega)
        have hf := h.free 2
        have HP : Hid (putE r 2 = 0) := by simp only [Hid, putE, hk]; rfl
        have HS2 : Hid (RefC (w.setCell ⟨b, 2, none⟩ (.int .u32 (v))) b (putC r 2 v) id) := by
          have e : putC r 2 v = r.set 2 (v) := by simp only [putC, hk]; rfl
          rw [Hid, e]; exact h.set 2 (by omega) _
        generalize r.getD 2 0 = x at hr
        clear hk h
        go_enter Tryz.func20, Tryz.ntmps20
        (go_wp2_with (go_at_call 45; refine (rhas_any _ (by simp) _ _ _ _ H.out HS.out _ rfl).mono ?_; rw [HK.out]; rintro e w' ⟨rfl, rfl⟩))
        go_ret
        exact ⟨ret_int (by rw [HP.out]), HS2.out, Upd.setCell w ⟨b, 2, none⟩ _⟩
      · as_aux_lemma =>
        have hr := h.reg 3 (by omega)
        have hf := h.free 3
        have HP : Hid (putE r 3 = 0) := by simp only [Hid, putE, hk]; rfl
        have HS2 : Hid (RefC (w.setCell ⟨b, 3, none⟩ (.int .u32 (v))) b (putC r 3 v) id) := by
          have e : putC r 3 v = r.set 3 (v) := by simp only [putC, hk]; rfl
          rw [Hid, e]; exact h.set 3 (by omega) _
        generalize r.getD 3 0 = x at hr
        clear hk h
        go_enter Tryz.func20, Tryz.ntmps20
        (go_wp2_with (go_at_call 45; refine (rhas_any _ (by simp) _ _ _ _ H.out HS.out _ rfl).mono ?_; rw [HK.out]; rintro e w' ⟨rfl, rfl⟩))
        go_ret
        exact ⟨ret_int (by rw [HP.out]), HS2.out, Upd.setCell w ⟨b, 3, none⟩ _⟩
      · as_aux_lemma =>
        have hr := h.reg 4 (by omega)
        have hf := h.free 4
        have HP : Hid (putE r 4 = 0) := by simp only [Hid, putE, hk]; rfl
        have HS2 : Hid (RefC (w.setCell ⟨b, 4, none⟩ (.int .u32 (v))) b (putC r 4 v) id) := by
          have e : putC r 4 v = r.set 4 (v) := by simp only [putC, hk]; rfl
          rw [Hid, e]; exact h.set 4 (by omega) _
        generalize r.getD 4 0 = x at hr
        clear hk h
        go_enter Tryz.func20, Tryz.ntmps20
        (go_wp2_with (go_at_call 45; refine (rhas_any _ (by simp) _ _ _ _ H.out HS.out _ rfl).mono ?_; rw [HK.out]; rintro e w' ⟨rfl, rfl⟩))
        go_ret
        exact ⟨ret_int (by rw [HP.out]), HS2.out, Upd.setCell w ⟨b, 4, none⟩ _⟩
      · as_aux_lemma =>
        have hr := h.reg 5 (by omega)
        have hf := h.free 5
        have HP : Hid (putE r 5 = 0) := by simp only [Hid, putE, hk]; rfl
        have HS2 : Hid (RefC (w.setCell ⟨b, 5, none⟩ (.int .u32 (bits .and .u32 v 15))) b (putC r 5 v) id) := by
          have e : putC r 5 v = r.set 5 (bits .and .u32 v 15) := by simp only [putC, hk]; rfl
          rw [Hid, e]; exact h.set 5 (by omega) _
        generalize r.getD 5 0 = x at hr
        clear hk h
        go_enter Tryz.func20, Tryz.ntmps20
        (go_wp2_with (go_at_call 45; refine (rhas_any _ (by simp) _ _ _ _ H.out HS.out _ rfl).mono ?_; rw [HK.out]; rintro e w' ⟨rfl, rfl⟩))
        go_ret
        exact ⟨ret_int (by rw [HP.out]), HS2.out, Upd.setCell w ⟨b, 5, none⟩ _⟩
      · as_aux_lemma =>
        have hr := h.reg 6 (by omega)
        have hf := h.free 6
        have HP : Hid (putE r 6 = 0) := by simp only [Hid, putE, hk]; rfl
        have HS2 : Hid (RefC (w.setCell ⟨b, 6, none⟩ (.int .u32 (v))) b (putC r 6 v) id) := by
          have e : putC r 6 v = r.set 6 (v) := by simp only [putC, hk]; rfl
          rw [Hid, e]; exact h.set 6 (by omega) _
        generalize r.getD 6 0 = x at hr
        clear hk h
        go_enter Tryz.func20, Tryz.ntmps20
        (go_wp2_with (go_at_call 45; refine (rhas_any _ (by simp) _ _ _ _ H.out HS.out _ rfl).mono ?_; rw [HK.out]; rintro e w' ⟨rfl, rfl⟩))
        go_ret
        exact ⟨ret_int (by rw [HP.out]), HS2.out, Upd.setCell w ⟨b, 6, none⟩ _⟩
    · have HP : Hid (putE r n = 1) := by simp only [Hid, putE, hk, if_true]; rw [if_neg hn]
      have HC : Hid (putC r n v = r) := by simp only [Hid, putC, hk, if_true]; rw [if_neg (by omega), if_neg (by omega), if_neg (by omega)]
      clear hk h
      by_cases n0 : n < 0
      · clear hn
        go_enter Tryz.func20, Tryz.ntmps20
        (go_wp2_with (go_at_call 45; refine (rhas_any _ (by simp) _ _ _ _ H.out HS.out _ rfl).mono ?_; rw [HK.out]; rintro e w' ⟨rfl, rfl⟩))
        go_ret
        exact ⟨ret_int (by rw [HP.out]), by rw [HC.out]; exact H.out, Upd.refl _ _⟩
      · have n1 : 6 < n := by omega
        clear hn
        go_enter Tryz.func20, Tryz.ntmps20
        (go_wp2_with (go_at_call 45; refine (rhas_any _ (by simp) _ _ _ _ H.out HS.out _ rfl).mono ?_; rw [HK.out]; rintro e w' ⟨rfl, rfl⟩))
        go_ret
        exact ⟨ret_int (by rw [HP.out]), by rw [HC.out]; exact H.out, Upd.refl _ _⟩
theorem ofInt32 (a : Nat) (ha : a < 4294967296) : (BitVec.ofInt 32 (a : Int)).toNat = a := by
  simp only [BitVec.toNat_ofInt]
  omega
theorem u32_and (a b : Nat) (ha : a < 4294967296) (hb : b < 4294967296) : bits .and .u32 (a : Int) (b : Int) = ((a &&& b : Nat) : Int) := by
  have h : (BitVec.ofInt 32 (a : Int) &&& BitVec.ofInt 32 (b : Int)).toNat = a &&& b := by rw [BitVec.toNat_and, ofInt32 a ha, ofInt32 b hb]
  have hl : a &&& b < 4294967296 := Nat.lt_of_le_of_lt Nat.and_le_left ha
  simp only [bits]
  show IntKind.u32.wrap ((BitVec.ofInt 32 (a : Int) &&& BitVec.ofInt 32 (b : Int)).toNat : Int) = _
  rw [h]
  simp only [IntKind.wrap_u32]
  omega
theorem and_31 (x : Int) (h0 : 0 ≤ x) (h1 : x < 4294967296) : bits .and .u32 x 31 = x % 32 := by
  obtain ⟨n, rfl⟩ := Int.eq_ofNat_of_zero_le h0
  have := u32_and n 31 (by omega) (by omega)
  have h2 : n &&& 31 = n % 32 := Nat.and_two_pow_sub_one_eq_mod n 5
  rw [h2] at this
  exact this
theorem and_one (x : Int) (h0 : 0 ≤ x) (h1 : x < 4294967296) : (bits .and .u32 x 1 != 0) = (x % 2 == 1) := by
  obtain ⟨n, rfl⟩ := Int.eq_ofNat_of_zero_le h0
  have := u32_and n 1 (by omega) (by omega)
  have h2 : n &&& 1 = n % 2 := Nat.and_two_pow_sub_one_eq_mod n 1
  rw [h2] at this
  rw [show bits .and .u32 (n : Int) 1 = ((n % 2 : Nat) : Int) from this]
  rcases Nat.mod_two_eq_zero_or_one n with h | h
  · rw [h]; have : (n : Int) % 2 = 0 := by omega
    rw [this]; rfl
  · rw [h]; have : (n : Int) % 2 = 1 := by omega
    rw [this]; rfl
end
section
open Go.RowKit Go.Sort
theorem fldM0 : ∀ (a : Bool) (b : Int) (c : Bool) (w : World), (Instr.field 66 (.agg #[.bool a, .int .i64 b, .bool c]) 0).run Tryz.prog w = .ok (.bool a) w := fun _ _ _ _ => by kernel_rfl
theorem fldM1 : ∀ (a : Bool) (b : Int) (c : Bool) (w : World), (Instr.field 66 (.agg #[.bool a, .int .i64 b, .bool c]) 1).run Tryz.prog w = .ok (.int .i64 b) w := fun _ _ _ _ => by kernel_rfl
theorem fldM2 : ∀ (a : Bool) (b : Int) (c : Bool) (w : World), (Instr.field 66 (.agg #[.bool a, .int .i64 b, .bool c]) 2).run Tryz.prog w = .ok (.bool c) w := fun _ _ _ _ => by kernel_rfl
theorem eqM (a : Bool) (b : Int) (c : Bool) (w : World) : Sem.run Tryz.prog (Op.equalIn 10000 66 (.agg #[.bool a, .int .i64 b, .bool c]) (.agg #[.bool a, .int .i64 b, .bool c])) w = .ok true w := by
  go_simp
theorem ker4 : hasB 4 4 = true := by decide +kernel
theorem putE_yes {r : List Int} {n : Int} (h : hasB (r.getD 5 0) 4 = true) (h0 : 0 ≤ n) (h1 : n ≤ 6) : putE r n = 0 := by simp only [putE, h, if_true]; rw [if_pos ⟨h0, h1⟩]
theorem putC_0 {r : List Int} {v : Int} (h : hasB (r.getD 5 0) 4 = true) : putC r 0 v = r.set 0 (bits .and .u32 v 7937) := by simp only [putC, h, if_true]
theorem putC_5 {r : List Int} {v : Int} (h : hasB (r.getD 5 0) 4 = true) : putC r 5 v = r.set 5 (bits .and .u32 v 15) := by simp only [putC, h, if_true]; rfl
theorem putC_k {r : List Int} {n : Nat} {v : Int} (h : hasB (r.getD 5 0) 4 = true) (h0 : 1 ≤ n) (h1 : n ≤ 6) (h5 : n ≠ 5) : putC r n v = r.set n v := by
  simp only [putC, h, if_true]
  rw [if_neg (by omega), if_neg (by omega), if_pos (by omega)]
  rfl
def enS (s : Int) : Int := mvN s 4 1 2 4 8 2
def lvS (s : Int) : Int := mvN s (bits .and .u32 s 10) 2 1 8 4 2
theorem back_bits (s : Int) (h0 : 0 ≤ s) (h1 : s < 16) : hasB (lvS (enS s)) 4 = hasB s 4 ∧ hasB (lvS (enS s)) 1 = hasB s 1 ∧ hasB (enS s) 4 = true ∧ hasB (enS s) 1 = false :=
  st_cases (P := fun s => hasB (lvS (enS s)) 4 = hasB s 4 ∧ hasB (lvS (enS s)) 1 = hasB s 1 ∧ hasB (enS s) 4 = true ∧ hasB (enS s) 1 = false) (by decide +kernel) s h0 h1
theorem and15 (x : Int) (h0 : 0 ≤ x) (h1 : x < 4294967296) : 0 ≤ bits .and .u32 x 15 ∧ bits .and .u32 x 15 < 16 := by
  obtain ⟨n, rfl⟩ := Int.eq_ofNat_of_zero_le h0
  have := u32_and n 15 (by omega) (by omega)
  have h2 : n &&& 15 = n % 16 := Nat.and_two_pow_sub_one_eq_mod n 4
  rw [h2] at this
  rw [show bits .and .u32 (n : Int) 15 = ((n % 16 : Nat) : Int) from this]
  omega
end
section
open Go.RowKit Go.Sort
theorem u32_and_bv (a b : BitVec 32) : bits .and .u32 (a.toNat : Int) (b.toNat : Int) = ((a &&& b).toNat : Int) := by
  rw [u32_and _ _ a.isLt b.isLt, BitVec.toNat_and]
theorem bv_of (x : Int) (h0 : 0 ≤ x) (h1 : x < 4294967296) : ∃ a : BitVec 32, x = (a.toNat : Int) := by
  obtain ⟨n, rfl⟩ := Int.eq_ofNat_of_zero_le h0
  exact ⟨BitVec.ofNat 32 n, by rw [BitVec.toNat_ofNat]; omega⟩
end
section
open Go.RowKit Go.Sort
theorem seven (r : List Int) (h : r.length = 7) : ∃ a b c d e f g, r = [a, b, c, d, e, f, g] := by
  match r, h with
  | [a, b, c, d, e, f, g], _ => exact ⟨a, b, c, d, e, f, g, rfl⟩
theorem and7937 (x : Int) (h0 : 0 ≤ x) (h1 : x < 4294967296) : 0 ≤ bits .and .u32 x 7937 ∧ bits .and .u32 x 7937 < 4294967296 := by
  obtain ⟨a, rfl⟩ := bv_of x h0 h1
  have e1 := u32_and_bv a 7937#32
  rw [show (7937 : Int) = ((7937#32).toNat : Int) from rfl, e1]
  have := (a &&& 7937#32).isLt
  omega
theorem ok_r0 : StOk r0 := ⟨by decide, by decide, by decide, by decide⟩
theorem ok_enter {r : List Int} (h : StOk r) (hl : r.length = 7) (pc c t : Int) : StOk (enterR r pc c t) := by
  obtain ⟨x0, x1, x2, x3, x4, x5, x6, rfl⟩ := seven r hl
  have := (mv_ok x5 h.1 h.2.1).1
  exact ⟨this.1, this.2, h.2.2.1, h.2.2.2⟩
theorem ok_leave {r : List Int} (h : StOk r) (hl : r.length = 7) : StOk (leaveR r) := by
  obtain ⟨x0, x1, x2, x3, x4, x5, x6, rfl⟩ := seven r hl
  have := (mv_ok x5 h.1 h.2.1).2
  exact ⟨this.1, this.2, h.2.2.1, h.2.2.2⟩
theorem ok_put {r : List Int} (h : StOk r) (hl : r.length = 7) (n v : Int) (h0 : 0 ≤ v) (h1 : v < 4294967296) : StOk (putC r n v) := by
  obtain ⟨x0, x1, x2, x3, x4, x5, x6, rfl⟩ := seven r hl
  have a := and7937 v h0 h1
  have c := and15 v h0 h1
  obtain ⟨h1, h2, h3, h4⟩ := h
  simp only [List.getD_cons_succ, List.getD_cons_zero] at h1 h2 h3 h4
  cases hk : hasB x5 4
  · have e : putC [x0, x1, x2, x3, x4, x5, x6] n v = [x0, x1, x2, x3, x4, x5, x6] := by simp only [putC, List.getD_cons_succ, List.getD_cons_zero, hk]; rfl
    rw [e]; exact ⟨h1, h2, h3, h4⟩
  · by_cases hn : 0 ≤ n ∧ n ≤ 6
    · have h7 : n = 0 ∨ n = 1 ∨ n = 2 ∨ n = 3 ∨ n = 4 ∨ n = 5 ∨ n = 6 := by omega
      rcases h7 with rfl | rfl | rfl | rfl | rfl | rfl | rfl <;> simp only [putC, List.getD_cons_succ, List.getD_cons_zero, hk, if_true]
      · exact ⟨h1, h2, a.1, a.2⟩
      · exact ⟨h1, h2, h3, h4⟩
      · exact ⟨h1, h2, h3, h4⟩
      · exact ⟨h1, h2, h3, h4⟩
      · exact ⟨h1, h2, h3, h4⟩
      · exact ⟨c.1, c.2, h3, h4⟩
      · exact ⟨h1, h2, h3, h4⟩
    · have e : putC [x0, x1, x2, x3, x4, x5, x6] n v = [x0, x1, x2, x3, x4, x5, x6] := by
        simp only [putC, List.getD_cons_succ, List.getD_cons_zero, hk, if_true]; rw [if_neg (by omega), if_neg (by omega), if_neg (by omega)]
      rw [e]; exact ⟨h1, h2, h3, h4⟩
/-- All that the round holds of the two objects. -/
def Both (w W : World) (b g : Nat) (r : List Int) (id : Int) : Prop := FileC W b r id ∧ RefC W g r id ∧ StOk r ∧ Below w.heap.size w W ∧ w.heap.size ≤ b ∧ w.heap.size ≤ g ∧ b ≠ g
theorem row_at {w : World} {k : IntKind} {a : Option Addr} {c : Nat} {xs : List Int} (h : RowI w k (.slice a xs.length c) xs) (n : Nat) (hn : n < xs.length) : ∃ b o x, a = some ⟨b, o, none⟩ ∧ x ∈ xs ∧ b < w.heap.size ∧ ∀ W, Below w.heap.size w W → W.cell? ⟨b, o + n, none⟩ = some (.int k x) := by
  obtain ⟨_, _, e, _, _, q⟩ := h
  injection e with e1 e2 e3
  subst e1
  obtain ⟨b, o, rfl, hc⟩ := q (by intro h; simp [h] at hn)
  have h1 := hc n hn
  have hb := World.block_lt_of_cell? w ⟨b, o + n, none⟩ h1
  exact ⟨b, o, xs[n], rfl, List.getElem_mem hn, hb, fun W hW => (hW.cell (p := ⟨b, o + n, none⟩) hb).trans h1⟩
end
end Csr
end Go.Proofs.YtiohfdhmkikckaaGreatDoor
