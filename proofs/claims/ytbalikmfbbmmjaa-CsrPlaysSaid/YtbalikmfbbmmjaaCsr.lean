/- The walks of package csr. -/
import Derived.Test.YtbalikmfbbmmjaaObj
import Derived.Test.YtbalikmfbbmmjaaRows
import Derived.StillTailTactics
import Derived.BigRegion
namespace Go.Proofs.Ytbalikmfbbmmjaa
open Go.RowKit
set_option maxHeartbeats 400000
set_option maxRecDepth 100000

/-- The registers in memory. -/
def FileC (w : World) (b : Nat) (r : List Int) (id : Int) : Prop := r.length = 7 ∧ ObjAt w b 43 (r.map (Value.int .u32) ++ [.int .i64 id, .bool true])
section
variable {w w' : World} {b c : Nat} {r : List Int} {i0 : Int}
theorem FileC.reg (h : FileC w b r i0) (i : Nat) (hi : i < 7) : w.cell? ⟨b, i, none⟩ = some (.int .u32 (r.getD i 0)) := by
  have hl := h.1
  refine h.2.cell i _ ?_
  simp [List.getElem?_append, hl, hi]
theorem FileC.id (h : FileC w b r i0) : w.cell? ⟨b, 7, none⟩ = some (.int .i64 i0) := by
  have hl := h.1
  refine h.2.cell 7 _ ?_
  simp [List.getElem?_append, hl]
theorem FileC.made (h : FileC w b r i0) : w.cell? ⟨b, 8, none⟩ = some (.bool true) := by
  have hl := h.1
  refine h.2.cell 8 _ ?_
  simp [List.getElem?_append, hl]
theorem FileC.free (h : FileC w b r i0) (j : Nat) : w.frozen? ⟨b, j, none⟩ = false := h.2.free j
theorem FileC.lt (h : FileC w b r i0) : b < w.heap.size := h.2.lt
theorem FileC.set (h : FileC w b r i0) (i : Nat) (hi : i < 7) (v : Int) : FileC (w.setCell ⟨b, i, none⟩ (.int .u32 v)) b (r.set i v) i0 := by
  have hl := h.1
  refine ⟨by simpa using hl, ?_⟩
  have := h.2.set i (.int .u32 v)
  simpa [List.set_append, hl, hi] using this
theorem FileC.below (h : FileC w b r i0) (hb : Below w.heap.size w w') : FileC w' b r i0 := ⟨h.1, h.2.below hb⟩
theorem FileC.belowB {B : Nat} (h : FileC w b r i0) (hb : Below B w w') (hB : b < B) : FileC w' b r i0 := ⟨h.1, h.2.belowB hb hB⟩
theorem FileC.upd (h : FileC w b r i0) (hu : Upd c w w') (hc : b ≠ c) : FileC w' b r i0 := ⟨h.1, h.2.upd hu hc⟩
end
theorem none_any (b : Nat) (r : List Int) (id : Int) (w : World) (h : FileC w b r id) : Calls Try.prog 30 #[.pointer (some ⟨b, 0, none⟩)] w fun e w' => e = .returned (.bool false) ∧ w = w' := by
  have hm := h.made
  clear h
  go_enter Try.func30, Try.ntmps30
  go_wp2
  go_ret
  exact ⟨rfl, rfl⟩
def hasB (st bit : Int) : Bool := bits .and .u32 st bit != 0
theorem has_any (bit : Int) (b : Nat) (r : List Int) (id : Int) (w : World) (h : FileC w b r id) : Calls Try.prog 31 #[.pointer (some ⟨b, 0, none⟩), .int .u32 bit] w fun e w' => e = .returned (.bool (hasB (r.getD 5 0) bit)) ∧ w = w' := by
  have hm := h.reg 5 (by omega)
  generalize r.getD 5 0 = st at hm
  clear h
  go_enter Try.func31, Try.ntmps31
  go_wp2
  go_ret
  exact ⟨rfl, rfl⟩
def kerE (r : List Int) : Int := if hasB (r.getD 5 0) 4 then 0 else 4
theorem kernel_any (b : Nat) (r : List Int) (id : Int) (w : World) (h : FileC w b r id) : Calls Try.prog 29 #[.pointer (some ⟨b, 0, none⟩)] w fun e w' => e = .returned (.int .i64 (kerE r)) ∧ w = w' := by
  have H := Lib.hid h; clear h
  cases hk : hasB (r.getD 5 0) 4
  · have HE : Hid (kerE r = 4) := by simp only [Hid, kerE, hk]; rfl
    have HK := Lib.hid hk; clear hk
    go_enter Try.func29, Try.ntmps29
    go_wp2_with (first | (go_at_call 30; refine (none_any _ _ _ _ H.out).mono ?_; rintro e w' ⟨rfl, rfl⟩) | (go_at_call 31; refine (has_any _ _ _ _ _ H.out).mono ?_; rw [HK.out]; rintro e w' ⟨rfl, rfl⟩))
    go_ret
    exact ⟨ret_int (by rw [HE.out]), rfl⟩
  · have HE : Hid (kerE r = 0) := by simp only [Hid, kerE, hk]; rfl
    have HK := Lib.hid hk; clear hk
    go_enter Try.func29, Try.ntmps29
    go_wp2_with (first | (go_at_call 30; refine (none_any _ _ _ _ H.out).mono ?_; rintro e w' ⟨rfl, rfl⟩) | (go_at_call 31; refine (has_any _ _ _ _ _ H.out).mono ?_; rw [HK.out]; rintro e w' ⟨rfl, rfl⟩))
    go_ret
    exact ⟨ret_int (by rw [HE.out]), rfl⟩
def mv1 (st s x y : Int) : Int := if hasB st x then bits .or .u32 s y else s
theorem mv_any (x y s : Int) (b p q : Nat) (r : List Int) (id : Int) (w : World) (h : FileC w b r id) (hp : ObjAt w p 23 [.pointer (some ⟨b, 0, none⟩)]) (hq : ObjAt w q 22 [.int .u32 s]) :
    Calls Try.prog 35 #[.int .u32 x, .int .u32 y, .pointer (some ⟨p, 0, none⟩), .pointer (some ⟨q, 0, none⟩)] w fun e w' => e = .returned (.tuple #[]) ∧ ObjAt w' q 22 [.int .u32 (mv1 (r.getD 5 0) s x y)] ∧ Upd q w w' := by
  have H := Lib.hid h; have HQ := Lib.hid hq
  have cp := hp.cell 0 _ rfl
  have cq := hq.cell 0 _ rfl
  have fq := hq.free 0
  clear h hp hq
  cases hk : hasB (r.getD 5 0) x
  · have HE : Hid (mv1 (r.getD 5 0) s x y = s) := by simp only [Hid, mv1, hk]; rfl
    have HK := Lib.hid hk; clear hk
    go_enter Try.func35, Try.ntmps35
    go_wp2_with (go_at_call 31; refine (has_any _ _ _ _ _ H.out).mono ?_; rw [HK.out]; rintro e w' ⟨rfl, rfl⟩)
    go_end0
    exact ⟨rfl, by rw [HE.out]; exact HQ.out, Upd.refl _ _⟩
  · have HE : Hid (mv1 (r.getD 5 0) s x y = bits .or .u32 s y) := by simp only [Hid, mv1, hk]; rfl
    have HK := Lib.hid hk; clear hk
    go_enter Try.func35, Try.ntmps35
    go_wp2_with (go_at_call 31; refine (has_any _ _ _ _ _ H.out).mono ?_; rw [HK.out]; rintro e w' ⟨rfl, rfl⟩)
    go_end0
    exact ⟨rfl, by rw [HE.out]; exact HQ.out.set 0 _, Upd.setCell w ⟨q, 0, none⟩ _⟩
def mvN (st set a1 a2 a3 a4 : Int) (n : Nat) : Int := match n with | 0 => set | 1 => mv1 st set a1 a2 | _ => mv1 st (mv1 st set a1 a2) a3 a4
theorem ix0 (a1 a2 a3 a4 : Int) (w : World) : (Instr.index 63 (.agg #[.int .u32 a1, .int .u32 a2, .int .u32 a3, .int .u32 a4]) (.int .i64 0)).run Try.prog w = .ok (.agg #[.int .u32 a1, .int .u32 a2]) w := by kernel_rfl
theorem ix1 (a1 a2 a3 a4 : Int) (w : World) : (Instr.index 63 (.agg #[.int .u32 a1, .int .u32 a2, .int .u32 a3, .int .u32 a4]) (.int .i64 1)).run Try.prog w = .ok (.agg #[.int .u32 a3, .int .u32 a4]) w := by kernel_rfl
def MovePost (b : Nat) (r : List Int) (id v : Int) (w : World) (e : Ending) (w' : World) : Prop := e = .returned (.tuple #[]) ∧ FileC w' b (r.set 5 v) id ∧ Upd b w w'
theorem move_any (set a1 a2 a3 a4 : Int) (b : Nat) (r : List Int) (id : Int) (w : World) (h : FileC w b r id) : Calls Try.prog 32 #[.pointer (some ⟨b, 0, none⟩), .int .u32 set, .agg #[.int .u32 a1, .int .u32 a2, .int .u32 a3, .int .u32 a4]] w (MovePost b r id (mvN (r.getD 5 0) set a1 a2 a3 a4 2) w) := by
  have H := Lib.hid h; clear h
  obtain ⟨W0, hW0⟩ : ∃ W0, W0 = ((w.alloc (.cells #[.pointer (some ⟨b, 0, none⟩)] 23)).alloc (.cells #[.int .u32 a1, .int .u32 a2, .int .u32 a3, .int .u32 a4] 63)).alloc (.cells #[.int .u32 set] 22) := ⟨_, rfl⟩
  have hB : Below w.heap.size w W0 := by rw [hW0]; exact (((Below.refl _ _).alloc (Nat.le_refl _) _).alloc (by simp) _).alloc (by simp; omega) _
  have hp : ObjAt W0 w.heap.size 23 [.pointer (some ⟨b, 0, none⟩)] := by rw [hW0]; exact (((ObjAt.new w _ _).below ((Below.refl _ _).alloc (Nat.le_refl _) _)).below ((Below.refl _ _).alloc (Nat.le_refl _) _))
  have hq : ObjAt W0 (w.heap.size + 1 + 1) 22 [.int .u32 set] := by rw [hW0]; exact new_block _ _ _ (by simp)
  have HF : Hid (FileC W0 b r id) := H.out.below hB
  have HB := Lib.hid hB; have HP := Lib.hid hp; have HQ := Lib.hid hq
  clear hB hp hq
  go_enter Try.func32, Try.ntmps32
  go_wp2_with fail
  rw [← hW0]
  clear hW0
  go_loopw [13] (fun k wr => ∃ (n : Nat) (m : Int), n ≤ 2 ∧ m = n ∧ k = .int .i64 m ∧ FileC wr b r id ∧ ObjAt wr w.heap.size 23 [.pointer (some ⟨b, 0, none⟩)] ∧ ObjAt wr (w.heap.size + 1 + 1) 22 [.int .u32 (mvN (r.getD 5 0) set a1 a2 a3 a4 n)] ∧ Below w.heap.size w wr) (fun k _ => 2 - (intOf k).toNat)
  case atStart => exact ⟨0, 0, by omega, rfl, rfl, HF.out, HP.out, HQ.out, HB.out⟩
  case round =>
    obtain ⟨n, m, hn, hm, rfl, hf, hp, hq, hb⟩ := hrel
    clear HF HB HP HQ
    have h3 : n = 0 ∨ n = 1 ∨ n = 2 := by omega
    rcases h3 with rfl | rfl | rfl
    · obtain rfl : m = 0 := hm
      clear hn
      have hix := ix0 a1 a2 a3 a4
      have hal : Below wr.heap.size wr (wr.alloc (.cells #[.int .u32 a1, .int .u32 a2] 62)) := (Below.refl _ _).alloc (Nat.le_refl _) _
      go_wp2_with fail
      refine (mv_any _ _ _ _ _ _ _ _ _ (hf.below hal) (hp.below hal) (hq.below hal)).mono ?_; rintro e w1 ⟨rfl, hq1, hu1⟩
      have hw := hb.size
      have hf1 := (hf.below hal).upd hu1 (by have := H.out.lt; omega)
      have hp1 := (hp.below hal).upd hu1 (by omega)
      have hb1 := bupd (bmore hb hal) hu1 (by omega)
      clear hf hp hq hb hal hu1 hix
      go_wp2
      go_roundw
      case rel => exact ⟨1, 1, by omega, rfl, rfl, hf1, hp1, hq1, hb1⟩
      case measure => simp [intOf]
    · obtain rfl : m = 1 := hm
      clear hn
      have hix := ix1 a1 a2 a3 a4
      have hal : Below wr.heap.size wr (wr.alloc (.cells #[.int .u32 a3, .int .u32 a4] 62)) := (Below.refl _ _).alloc (Nat.le_refl _) _
      go_wp2_with fail
      refine (mv_any _ _ _ _ _ _ _ _ _ (hf.below hal) (hp.below hal) (hq.below hal)).mono ?_; rintro e w1 ⟨rfl, hq1, hu1⟩
      have hw := hb.size
      have hf1 := (hf.below hal).upd hu1 (by have := H.out.lt; omega)
      have hp1 := (hp.below hal).upd hu1 (by omega)
      have hb1 := bupd (bmore hb hal) hu1 (by omega)
      clear hf hp hq hb hal hu1 hix
      go_wp2
      go_roundw
      case rel => exact ⟨2, 2, by omega, rfl, rfl, hf1, hp1, hq1, hb1⟩
      case measure => simp [intOf]
    · obtain rfl : m = 2 := hm
      clear hn
      obtain ⟨z, hz⟩ : ∃ z, z = mvN (r.getD 5 0) set a1 a2 a3 a4 2 := ⟨_, rfl⟩
      rw [← hz] at hq
      have HZ := Lib.hid hz
      clear hz
      have c3 := hp.cell 0 _ rfl
      have c6 := hq.cell 0 _ rfl
      have c5 := hf.reg 5 (by omega)
      have f5 := hf.free 5
      generalize r.getD 5 0 = st at c5
      go_wp2_with fail
      go_region
      go_end0
      exact ⟨rfl, by rw [← HZ.out]; exact FileC.set (w := wr) hf 5 (by omega) z, ((Upd.of_below hb).drew).trans (Upd.setCell _ ⟨b, 5, none⟩ _)⟩
def readE (r : List Int) (n : Int) : Int := if hasB (r.getD 5 0) 4 then (if 0 ≤ n ∧ n < 9 then 0 else 1) else 4
def readV (r : List Int) (id n c : Int) : Int := if hasB (r.getD 5 0) 4 then (if 0 ≤ n ∧ n < 9 then (if n = 7 then c % 4294967296 else if n = 8 then id % 4294967296 else r.getD n.toNat 0) else 0) else 0
theorem kerE_no {r : List Int} (h : hasB (r.getD 5 0) 4 = false) : kerE r = 4 := by simp only [kerE, h]; rfl
theorem kerE_yes {r : List Int} (h : hasB (r.getD 5 0) 4 = true) : kerE r = 0 := by simp only [kerE, h]; rfl
theorem read_any (n c : Int) (b : Nat) (r : List Int) (id : Int) (w : World) (h : FileC w b r id) : Calls Try.prog 13 #[.pointer (some ⟨b, 0, none⟩), .int .i64 n, .int .i64 c] w fun e w' => e = .returned (.tuple #[.int .u32 (readV r id n c), .int .i64 (readE r n)]) ∧ w = w' := by
  have H := Lib.hid h
  cases hk : hasB (r.getD 5 0) 4
  · have HE := Lib.hid (kerE_no hk)
    have HV : Hid (readV r id n c = 0) := by simp only [Hid, readV, hk]; rfl
    have HR : Hid (readE r n = 4) := by simp only [Hid, readE, hk]; rfl
    clear hk h
    go_enter Try.func13, Try.ntmps13
    (go_wp2_with (go_at_call 29; refine (kernel_any _ _ _ _ H.out).mono ?_; rw [HE.out]; rintro e w' ⟨rfl, rfl⟩))
    go_ret2
    exact ⟨ret_two (by rw [HV.out]) (by rw [HR.out]), rfl⟩
  · have HE := Lib.hid (kerE_yes hk)
    by_cases h1 : n < 0
    · have HV : Hid (readV r id n c = 0) := by simp only [Hid, readV, hk, if_true]; rw [if_neg (by omega)]
      have HR : Hid (readE r n = 1) := by simp only [Hid, readE, hk, if_true]; rw [if_neg (by omega)]
      clear hk h
      go_enter Try.func13, Try.ntmps13
      (go_wp2_with (go_at_call 29; refine (kernel_any _ _ _ _ H.out).mono ?_; rw [HE.out]; rintro e w' ⟨rfl, rfl⟩))
      go_ret2
      exact ⟨ret_two (by rw [HV.out]) (by rw [HR.out]), rfl⟩
    · by_cases h2 : 9 ≤ n
      · have HV : Hid (readV r id n c = 0) := by simp only [Hid, readV, hk, if_true]; rw [if_neg (by omega)]
        have HR : Hid (readE r n = 1) := by simp only [Hid, readE, hk, if_true]; rw [if_neg (by omega)]
        clear hk h
        go_enter Try.func13, Try.ntmps13
        (go_wp2_with (go_at_call 29; refine (kernel_any _ _ _ _ H.out).mono ?_; rw [HE.out]; rintro e w' ⟨rfl, rfl⟩))
        go_ret2
        exact ⟨ret_two (by rw [HV.out]) (by rw [HR.out]), rfl⟩
      · have HR : Hid (readE r n = 0) := by simp only [Hid, readE, hk, if_true]; rw [if_pos (by omega)]
        by_cases h7 : n = 7
        · subst h7
          have HV : Hid (readV r id 7 c = c % 4294967296) := by simp only [Hid, readV, hk]; rfl
          clear hk h
          go_enter Try.func13, Try.ntmps13
          (go_wp2_with (go_at_call 29; refine (kernel_any _ _ _ _ H.out).mono ?_; rw [HE.out]; rintro e w' ⟨rfl, rfl⟩))
          go_ret2
          exact ⟨ret_two (by rw [HV.out]) (by rw [HR.out]), rfl⟩
        · by_cases h8 : n = 8
          · subst h8
            have HV : Hid (readV r id 8 c = id % 4294967296) := by simp only [Hid, readV, hk]; rfl
            have hi := h.id
            clear hk h h7
            go_enter Try.func13, Try.ntmps13
            (go_wp2_with (go_at_call 29; refine (kernel_any _ _ _ _ H.out).mono ?_; rw [HE.out]; rintro e w' ⟨rfl, rfl⟩))
            go_ret2
            exact ⟨ret_two (by rw [HV.out]) (by rw [HR.out]), rfl⟩
          · obtain ⟨k, rfl⟩ := Int.eq_ofNat_of_zero_le (by omega : 0 ≤ n)
            have HV : Hid (readV r id k c = r.getD k 0) := by simp only [Hid, readV, hk, if_true]; rw [if_pos (by omega), if_neg h7, if_neg h8]; rfl
            have hr := h.reg k (by omega)
            have e7 : ((k : Int) == 7) = false := by simpa using h7
            have e8 : ((k : Int) == 8) = false := by simpa using h8
            obtain ⟨x, hx⟩ : ∃ x, x = r.getD k 0 := ⟨_, rfl⟩
            rw [← hx] at hr
            have HX := Lib.hid hx
            clear hk h hx
            go_enter Try.func13, Try.ntmps13
            (go_wp2_with (go_at_call 29; refine (kernel_any _ _ _ _ H.out).mono ?_; rw [HE.out]; rintro e w' ⟨rfl, rfl⟩))
            go_ret2
            exact ⟨ret_two (by rw [HV.out, HX.out]) (by rw [HR.out]), rfl⟩
def putE (r : List Int) (n : Int) : Int := if hasB (r.getD 5 0) 4 then (if 0 ≤ n ∧ n ≤ 6 then 0 else 1) else 4
def putC (r : List Int) (n v : Int) : List Int := if hasB (r.getD 5 0) 4 then (if n = 0 then r.set 0 (bits .and .u32 v 7937) else if n = 5 then r.set 5 (bits .and .u32 v 15) else if 1 ≤ n ∧ n ≤ 6 then r.set n.toNat v else r) else r
def WritePost (b : Nat) (r : List Int) (id n v : Int) (w : World) (e : Ending) (w' : World) : Prop := e = .returned (.int .i64 (putE r n)) ∧ FileC w' b (putC r n v) id ∧ Upd b w w'
theorem write_any (n v : Int) (b : Nat) (r : List Int) (id : Int) (w : World) (h : FileC w b r id) : Calls Try.prog 9 #[.pointer (some ⟨b, 0, none⟩), .int .i64 n, .int .u32 v] w (WritePost b r id n v w) := by
  have H := Lib.hid h
  cases hk : hasB (r.getD 5 0) 4
  · have HE := Lib.hid (kerE_no hk)
    have HP : Hid (putE r n = 4) := by simp only [Hid, putE, hk]; rfl
    have HC : Hid (putC r n v = r) := by simp only [Hid, putC, hk]; rfl
    clear hk h
    go_enter Try.func9, Try.ntmps9
    (go_wp2_with (go_at_call 29; refine (kernel_any _ _ _ _ H.out).mono ?_; rw [HE.out]; rintro e w' ⟨rfl, rfl⟩))
    go_ret
    exact ⟨ret_int (by rw [HP.out]), by rw [HC.out]; exact H.out, Upd.refl _ _⟩
  · have HE := Lib.hid (kerE_yes hk)
    by_cases hn : 0 ≤ n ∧ n ≤ 6
    · have h7 : n = 0 ∨ n = 1 ∨ n = 2 ∨ n = 3 ∨ n = 4 ∨ n = 5 ∨ n = 6 := by omega
      clear hn
      rcases h7 with rfl | rfl | rfl | rfl | rfl | rfl | rfl
      · as_aux_lemma =>
        have hr := h.reg 0 (by omega)
        have hf := h.free 0
        have HP : Hid (putE r 0 = 0) := by simp only [Hid, putE, hk]; rfl
        have HS : Hid (FileC (w.setCell ⟨b, 0, none⟩ (.int .u32 (bits .and .u32 v 7937))) b (putC r 0 v) id) := by
          have e : putC r 0 v = r.set 0 (bits .and .u32 v 7937) := by simp only [putC, hk]; rfl
          rw [Hid, e]; exact h.set 0 (by omega) _
        generalize r.getD 0 0 = x at hr
        clear hk h
        go_enter Try.func9, Try.ntmps9
        (go_wp2_with (go_at_call 29; refine (kernel_any _ _ _ _ H.out).mono ?_; rw [HE.out]; rintro e w' ⟨rfl, rfl⟩))
        go_ret
        exact ⟨ret_int (by rw [HP.out]), HS.out, Upd.setCell w ⟨b, 0, none⟩ _⟩
      · as_aux_lemma =>
        have hr := h.reg 1 (by omega)
        have hf := h.free 1
        have HP : Hid (putE r 1 = 0) := by simp only [Hid, putE, hk]; rfl
        have HS : Hid (FileC (w.setCell ⟨b, 1, none⟩ (.int .u32 (v))) b (putC r 1 v) id) := by
          have e : putC r 1 v = r.set 1 (v) := by simp only [putC, hk]; rfl
          rw [Hid, e]; exact h.set 1 (by omega) _
        generalize r.getD 1 0 = x at hr
        clear hk h
        go_enter Try.func9, Try.ntmps9
        (go_wp2_with (go_at_call 29; refine (kernel_any _ _ _ _ H.out).mono ?_; rw [HE.out]; rintro e w' ⟨rfl, rfl⟩))
        go_ret
        exact ⟨ret_int (by rw [HP.out]), HS.out, Upd.setCell w ⟨b, 1, none⟩ _⟩
      · as_aux_lemma =>
        have hr := h.reg 2 (by omega)
        have hf := h.free 2
        have HP : Hid (putE r 2 = 0) := by simp only [Hid, putE, hk]; rfl
        have HS : Hid (FileC (w.setCell ⟨b, 2, none⟩ (.int .u32 (v))) b (putC r 2 v) id) := by
          have e : putC r 2 v = r.set 2 (v) := by simp only [putC, hk]; rfl
          rw [Hid, e]; exact h.set 2 (by omega) _
        generalize r.getD 2 0 = x at hr
        clear hk h
        go_enter Try.func9, Try.ntmps9
        (go_wp2_with (go_at_call 29; refine (kernel_any _ _ _ _ H.out).mono ?_; rw [HE.out]; rintro e w' ⟨rfl, rfl⟩))
        go_ret
        exact ⟨ret_int (by rw [HP.out]), HS.out, Upd.setCell w ⟨b, 2, none⟩ _⟩
      · as_aux_lemma =>
        have hr := h.reg 3 (by omega)
        have hf := h.free 3
        have HP : Hid (putE r 3 = 0) := by simp only [Hid, putE, hk]; rfl
        have HS : Hid (FileC (w.setCell ⟨b, 3, none⟩ (.int .u32 (v))) b (putC r 3 v) id) := by
          have e : putC r 3 v = r.set 3 (v) := by simp only [putC, hk]; rfl
          rw [Hid, e]; exact h.set 3 (by omega) _
        generalize r.getD 3 0 = x at hr
        clear hk h
        go_enter Try.func9, Try.ntmps9
        (go_wp2_with (go_at_call 29; refine (kernel_any _ _ _ _ H.out).mono ?_; rw [HE.out]; rintro e w' ⟨rfl, rfl⟩))
        go_ret
        exact ⟨ret_int (by rw [HP.out]), HS.out, Upd.setCell w ⟨b, 3, none⟩ _⟩
      · as_aux_lemma =>
        have hr := h.reg 4 (by omega)
        have hf := h.free 4
        have HP : Hid (putE r 4 = 0) := by simp only [Hid, putE, hk]; rfl
        have HS : Hid (FileC (w.setCell ⟨b, 4, none⟩ (.int .u32 (v))) b (putC r 4 v) id) := by
          have e : putC r 4 v = r.set 4 (v) := by simp only [putC, hk]; rfl
          rw [Hid, e]; exact h.set 4 (by omega) _
        generalize r.getD 4 0 = x at hr
        clear hk h
        go_enter Try.func9, Try.ntmps9
        (go_wp2_with (go_at_call 29; refine (kernel_any _ _ _ _ H.out).mono ?_; rw [HE.out]; rintro e w' ⟨rfl, rfl⟩))
        go_ret
        exact ⟨ret_int (by rw [HP.out]), HS.out, Upd.setCell w ⟨b, 4, none⟩ _⟩
      · as_aux_lemma =>
        have hr := h.reg 5 (by omega)
        have hf := h.free 5
        have HP : Hid (putE r 5 = 0) := by simp only [Hid, putE, hk]; rfl
        have HS : Hid (FileC (w.setCell ⟨b, 5, none⟩ (.int .u32 (bits .and .u32 v 15))) b (putC r 5 v) id) := by
          have e : putC r 5 v = r.set 5 (bits .and .u32 v 15) := by simp only [putC, hk]; rfl
          rw [Hid, e]; exact h.set 5 (by omega) _
        generalize r.getD 5 0 = x at hr
        clear hk h
        go_enter Try.func9, Try.ntmps9
        (go_wp2_with (go_at_call 29; refine (kernel_any _ _ _ _ H.out).mono ?_; rw [HE.out]; rintro e w' ⟨rfl, rfl⟩))
        go_ret
        exact ⟨ret_int (by rw [HP.out]), HS.out, Upd.setCell w ⟨b, 5, none⟩ _⟩
      · as_aux_lemma =>
        have hr := h.reg 6 (by omega)
        have hf := h.free 6
        have HP : Hid (putE r 6 = 0) := by simp only [Hid, putE, hk]; rfl
        have HS : Hid (FileC (w.setCell ⟨b, 6, none⟩ (.int .u32 (v))) b (putC r 6 v) id) := by
          have e : putC r 6 v = r.set 6 (v) := by simp only [putC, hk]; rfl
          rw [Hid, e]; exact h.set 6 (by omega) _
        generalize r.getD 6 0 = x at hr
        clear hk h
        go_enter Try.func9, Try.ntmps9
        (go_wp2_with (go_at_call 29; refine (kernel_any _ _ _ _ H.out).mono ?_; rw [HE.out]; rintro e w' ⟨rfl, rfl⟩))
        go_ret
        exact ⟨ret_int (by rw [HP.out]), HS.out, Upd.setCell w ⟨b, 6, none⟩ _⟩
    · have HP : Hid (putE r n = 1) := by simp only [Hid, putE, hk, if_true]; rw [if_neg hn]
      have HC : Hid (putC r n v = r) := by simp only [Hid, putC, hk, if_true]; rw [if_neg (by omega), if_neg (by omega), if_neg (by omega)]
      have n0 : (n == 0) = false := by simp; omega
      have n1 : (n == 1) = false := by simp; omega
      have n2 : (n == 2) = false := by simp; omega
      have n3 : (n == 3) = false := by simp; omega
      have n4 : (n == 4) = false := by simp; omega
      have n5 : (n == 5) = false := by simp; omega
      have n6 : (n == 6) = false := by simp; omega
      clear hk h hn
      go_enter Try.func9, Try.ntmps9
      (go_wp2_with (go_at_call 29; refine (kernel_any _ _ _ _ H.out).mono ?_; rw [HE.out]; rintro e w' ⟨rfl, rfl⟩))
      go_ret
      exact ⟨ret_int (by rw [HP.out]), by rw [HC.out]; exact H.out, Upd.refl _ _⟩
def onV (x : Int) : Bool := bits .and .u32 x 1 != 0
def rootV (x : Int) : Int := wrap64 (bits .and .u32 (x / 256) 31)
def modeC (r : List Int) : Array Value := #[.bool (onV (r.getD 0 0)), .int .i64 (rootV (r.getD 0 0)), .bool (!hasB (r.getD 5 0) 4)]
def ModePost (v : Array Value) (w : World) (e : Ending) (w' : World) : Prop := e = .returned (.agg v) ∧ Below w.heap.size w w'
theorem mode_any (b : Nat) (r : List Int) (id : Int) (w : World) (h : FileC w b r id) : Calls Try.prog 10 #[.pointer (some ⟨b, 0, none⟩)] w (ModePost (modeC r) w) := by
  have hb : Below w.heap.size w (w.alloc (.cells #[.bool false, .int .i64 0, .bool false] 29)) := (Below.refl _ _).alloc (Nat.le_refl _) _
  have H := Lib.hid (h.below hb)
  have hr := H.out.reg 0 (by omega)
  obtain ⟨x, hx⟩ : ∃ x, x = r.getD 0 0 := ⟨_, rfl⟩
  obtain ⟨y, hy⟩ : ∃ y, y = hasB (r.getD 5 0) 4 := ⟨_, rfl⟩
  have HY := Lib.hid hy
  have HM : Hid (modeC r = #[.bool (onV x), .int .i64 (rootV x), .bool (!y)]) := by rw [Hid, modeC, ← hx, ← hy]
  rw [← hx] at hr
  clear h hx hy
  go_enter Try.func10, Try.ntmps10
  go_wp2_with (first | (go_at_call 30; refine (none_any _ _ _ _ H.out).mono ?_; rintro e w' ⟨rfl, rfl⟩) | (go_at_call 31; refine (has_any _ _ _ _ _ H.out).mono ?_; rw [← HY.out]; rintro e w' ⟨rfl, rfl⟩))
  have hk : (w.alloc (.cells #[.bool (onV x), .int .i64 (rootV x), .bool (!y)] 29)).heap[w.heap.size]? = some (.cells #[.bool (onV x), .int .i64 (rootV x), .bool (!y)] 29 (0, 0)) := new_block w _ _ rfl
  have a0 := cell_at hk 0 _ rfl; have a1 := cell_at hk 1 _ rfl; have a2 := cell_at hk 2 _ rfl
  refine bodyPost_ret (v := .agg #[.bool (onV x), .int .i64 (rootV x), .bool (!y)]) ?_ rfl ⟨by rw [HM.out], (Below.refl _ _).alloc (Nat.le_refl _) _⟩
  simp only [onV, rootV] at a0 a1 a2 ⊢
  simp [results, Try.results10, go_sem, a0, a1, a2]
theorem handles_any (b : Nat) (r : List Int) (id : Int) (w : World) (h : FileC w b r id) : Calls Try.prog 18 #[.pointer (some ⟨b, 0, none⟩)] w fun e w' => e = .returned (.bool (r.getD 1 0 != 0)) ∧ w = w' := by
  have H := Lib.hid h
  have hr := h.reg 1 (by omega)
  generalize r.getD 1 0 = x at hr
  clear h
  go_enter Try.func18, Try.ntmps18
  go_wp2_with (go_at_call 30; refine (none_any _ _ _ _ H.out).mono ?_; rintro e w' ⟨rfl, rfl⟩)
  go_ret
  exact ⟨rfl, rfl⟩
def openV (r : List Int) : Bool := r.getD 1 0 != 0 && hasB (r.getD 5 0) 1
theorem open_any (b : Nat) (r : List Int) (id : Int) (w : World) (h : FileC w b r id) : Calls Try.prog 11 #[.pointer (some ⟨b, 0, none⟩)] w fun e w' => e = .returned (.bool (openV r)) ∧ w = w' := by
  have H := Lib.hid h; clear h
  cases hk : r.getD 1 0 != 0
  · have HO : Hid (openV r = false) := by simp only [Hid, openV, hk]; rfl
    have HK := Lib.hid hk; clear hk
    go_enter Try.func11, Try.ntmps11
    go_wp2_with (go_at_call 18; refine (handles_any _ _ _ _ H.out).mono ?_; rw [HK.out]; rintro e w' ⟨rfl, rfl⟩)
    go_ret
    exact ⟨by rw [HO.out]; rfl, rfl⟩
  · have HO : Hid (openV r = hasB (r.getD 5 0) 1) := by simp only [Hid, openV, hk]; rfl
    have HK := Lib.hid hk; clear hk
    go_enter Try.func11, Try.ntmps11
    go_wp2_with (first | (go_at_call 18; refine (handles_any _ _ _ _ H.out).mono ?_; rw [HK.out]; rintro e w' ⟨rfl, rfl⟩) | (go_at_call 31; refine (has_any _ _ _ _ _ H.out).mono ?_; rw [← HO.out]; rintro e w' ⟨rfl, rfl⟩))
    go_ret
    exact ⟨rfl, rfl⟩
def trapR (r : List Int) (pc c t : Int) : List Int := (((r.set 2 pc).set 3 c).set 4 t)
def enterR (r : List Int) (pc c t : Int) : List Int := (trapR r pc c t).set 5 (mvN (r.getD 5 0) 4 1 2 4 8 2)
def leaveR (r : List Int) : List Int := r.set 5 (mvN (r.getD 5 0) (bits .and .u32 (r.getD 5 0) 10) 2 1 8 4 2)
theorem trap5 (r : List Int) (pc c t : Int) : (trapR r pc c t).getD 5 0 = r.getD 5 0 := by simp [trapR, List.getD_eq_getElem?_getD]
theorem enter1 (r : List Int) (pc c t : Int) : (enterR r pc c t).getD 1 0 = r.getD 1 0 := by simp [enterR, trapR, List.getD_eq_getElem?_getD]
theorem leave2 (r : List Int) : (leaveR r).getD 2 0 = r.getD 2 0 := by simp [leaveR, List.getD_eq_getElem?_getD]
def EnterPost (b : Nat) (r : List Int) (id pc c t : Int) (w : World) (e : Ending) (w' : World) : Prop := e = .returned (.tuple #[.int .u32 (r.getD 1 0), .int .i64 0]) ∧ FileC w' b (enterR r pc c t) id ∧ Upd b w w'
theorem enter_any (pc c t : Int) (b : Nat) (r : List Int) (id : Int) (w : World) (h : FileC w b r id) : Calls Try.prog 12 #[.pointer (some ⟨b, 0, none⟩), .int .u32 pc, .int .u32 c, .int .u32 t] w (EnterPost b r id pc c t w) := by
  have H := Lib.hid h
  have c2 := h.reg 2 (by omega); have c3 := h.reg 3 (by omega); have c4 := h.reg 4 (by omega)
  have f2 := h.free 2; have f3 := h.free 3; have f4 := h.free 4
  generalize r.getD 2 0 = x2 at c2
  generalize r.getD 3 0 = x3 at c3
  generalize r.getD 4 0 = x4 at c4
  clear h
  go_enter Try.func12, Try.ntmps12
  go_wp2_with (go_at_call 30; refine (none_any _ _ _ _ H.out).mono ?_; rintro e w' ⟨rfl, rfl⟩)
  go_region
  go_wp2_with fail
  have hf0 : FileC (((w.setCell ⟨b, 2, none⟩ (.int .u32 pc)).setCell ⟨b, 3, none⟩ (.int .u32 c)).setCell ⟨b, 4, none⟩ (.int .u32 t)).drew b (trapR r pc c t) id := ((H.out.set 2 (by omega) pc).set 3 (by omega) c).set 4 (by omega) t
  have hu0 : Upd b w (((w.setCell ⟨b, 2, none⟩ (.int .u32 pc)).setCell ⟨b, 3, none⟩ (.int .u32 c)).setCell ⟨b, 4, none⟩ (.int .u32 t)).drew := (((Upd.setCell w ⟨b, 2, none⟩ _).trans (Upd.setCell _ ⟨b, 3, none⟩ _)).trans (Upd.setCell _ ⟨b, 4, none⟩ _)).drew
  refine (move_any _ _ _ _ _ _ _ _ _ hf0).mono ?_; rintro e w1 ⟨rfl, hf1, hu1⟩
  rw [trap5] at hf1
  have hf2 : FileC w1 b (enterR r pc c t) id := hf1
  have hu2 := hu0.trans hu1
  have hr := hf2.reg 1 (by omega)
  rw [enter1] at hr
  have HF2 := Lib.hid hf2
  obtain ⟨x, hx⟩ : ∃ x, x = r.getD 1 0 := ⟨_, rfl⟩
  have HX := Lib.hid hx
  rw [← hx] at hr
  clear hf0 hu0 hf1 hu1 hf2 hx c2 c3 c4 f2 f3 f4
  go_wp2_with fail
  go_ret2
  exact ⟨ret_two HX.out rfl, HF2.out, hu2⟩
def LeavePost (b : Nat) (r : List Int) (id : Int) (w : World) (e : Ending) (w' : World) : Prop := e = .returned (.tuple #[.int .u32 (r.getD 2 0), .int .i64 0]) ∧ FileC w' b (leaveR r) id ∧ Upd b w w'
theorem leave_any (b : Nat) (r : List Int) (id : Int) (w : World) (h : FileC w b r id) : Calls Try.prog 14 #[.pointer (some ⟨b, 0, none⟩)] w (LeavePost b r id w) := by
  have H := Lib.hid h
  have c5 := h.reg 5 (by omega)
  obtain ⟨st, hs⟩ : ∃ st, st = r.getD 5 0 := ⟨_, rfl⟩
  have HS := Lib.hid hs
  rw [← hs] at c5
  clear h hs
  go_enter Try.func14, Try.ntmps14
  go_wp2_with (go_at_call 30; refine (none_any _ _ _ _ H.out).mono ?_; rintro e w' ⟨rfl, rfl⟩)
  refine (move_any _ _ _ _ _ _ _ _ _ H.out).mono ?_; rintro e w1 ⟨rfl, hf1, hu2⟩
  rw [HS.out] at hf1
  have hf2 : FileC w1 b (leaveR r) id := hf1
  have hr := hf2.reg 2 (by omega)
  rw [leave2] at hr
  have HF2 := Lib.hid hf2
  obtain ⟨x, hx⟩ : ∃ x, x = r.getD 2 0 := ⟨_, rfl⟩
  have HX := Lib.hid hx
  rw [← hx] at hr
  clear hf1 hf2 hx c5
  go_wp2_with fail
  go_ret2
  exact ⟨ret_two HX.out rfl, HF2.out, hu2⟩
def r0 : List Int := [0, 0, 0, 0, 0, 4, 0]
theorem info_arr : (Try.prog.info? 37).map (·.size) = some 7 := by kernel_rfl
def a0 : Array Value := #[.int .u32 0, .int .u32 0, .int .u32 0, .int .u32 0, .int .u32 0, .int .u32 4, .int .u32 0]
def FirstPost (w : World) (e : Ending) (w' : World) : Prop := e = .returned (.agg #[.int .u32 0, .int .u32 0, .int .u32 0, .int .u32 0, .int .u32 0, .int .u32 4, .int .u32 0]) ∧ Below w.heap.size w w'
theorem first_any (w : World) : Calls Try.prog 28 #[] w (FirstPost w) := by
  go_enter Try.func28, Try.ntmps28
  go_wp2
  refine bodyPost_ret (v := .agg (r0.map (Value.int .u32)).toArray) ?_ rfl ⟨rfl, (Below.refl _ _).alloc (Nat.le_refl _) _⟩
  exact results_cell_row rfl _ _ w.heap.size _ _ (0, 0) _ rfl (new_block w _ _ rfl) Try.underlying37 rfl (by rw [info_arr]; rfl)
theorem set7 (r : List Int) (h : r.length = 7) (a b c d e f g : Int) : ((((((r.set 0 a).set 1 b).set 2 c).set 3 d).set 4 e).set 5 f).set 6 g = [a, b, c, d, e, f, g] := by
  match r, h with
  | [_, _, _, _, _, _, _], _ => rfl
def ResetPost (b : Nat) (id : Int) (w : World) (e : Ending) (w' : World) : Prop := e = .returned (.int .i64 0) ∧ FileC w' b r0 id ∧ Upd b w w'
theorem reset_any (b : Nat) (r : List Int) (id : Int) (w : World) (h : FileC w b r id) : Calls Try.prog 17 #[.pointer (some ⟨b, 0, none⟩)] w (ResetPost b id w) := by
  have H := Lib.hid h; clear h
  go_enter Try.func17, Try.ntmps17
  go_wp2_with (go_at_call 30; refine (none_any _ _ _ _ H.out).mono ?_; rintro e w' ⟨rfl, rfl⟩)
  refine (first_any _).mono ?_; rintro e w1 ⟨rfl, hb1⟩
  have h1 := H.out.below hb1
  have HS : Hid (FileC (((((((w1.setCell ⟨b, 0, none⟩ (.int .u32 0)).setCell ⟨b, 1, none⟩ (.int .u32 0)).setCell ⟨b, 2, none⟩ (.int .u32 0)).setCell ⟨b, 3, none⟩ (.int .u32 0)).setCell ⟨b, 4, none⟩ (.int .u32 0)).setCell ⟨b, 5, none⟩ (.int .u32 4)).setCell ⟨b, 6, none⟩ (.int .u32 0)) b r0 id) := by
    have := ((((((h1.set 0 (by omega) 0).set 1 (by omega) 0).set 2 (by omega) 0).set 3 (by omega) 0).set 4 (by omega) 0).set 5 (by omega) 4).set 6 (by omega) 0
    rw [set7 r h1.1] at this
    exact this
  have hu := Upd.of_below (b := b) hb1
  have c0 := h1.reg 0 (by omega); have c1 := h1.reg 1 (by omega); have c2 := h1.reg 2 (by omega); have c3 := h1.reg 3 (by omega); have c4 := h1.reg 4 (by omega); have c5 := h1.reg 5 (by omega); have c6 := h1.reg 6 (by omega)
  have f0 := h1.free 0; have f1 := h1.free 1; have f2 := h1.free 2; have f3 := h1.free 3; have f4 := h1.free 4; have f5 := h1.free 5; have f6 := h1.free 6
  generalize r.getD 0 0 = x0 at c0; generalize r.getD 1 0 = x1 at c1; generalize r.getD 2 0 = x2 at c2; generalize r.getD 3 0 = x3 at c3; generalize r.getD 4 0 = x4 at c4; generalize r.getD 5 0 = x5 at c5; generalize r.getD 6 0 = x6 at c6
  clear h1 hb1
  go_wp2_with fail
  go_ret
  exact ⟨rfl, HS.out, ((((((hu.trans (Upd.setCell _ ⟨b, 0, none⟩ _)).trans (Upd.setCell _ ⟨b, 1, none⟩ _)).trans (Upd.setCell _ ⟨b, 2, none⟩ _)).trans (Upd.setCell _ ⟨b, 3, none⟩ _)).trans (Upd.setCell _ ⟨b, 4, none⟩ _)).trans (Upd.setCell _ ⟨b, 5, none⟩ _)).trans (Upd.setCell _ ⟨b, 6, none⟩ _)⟩
def NewPost (id : Int) (w : World) (e : Ending) (w' : World) : Prop := ∃ b : Nat, e = .returned (.tuple #[.pointer (some ⟨b, 0, none⟩), .int .i64 0]) ∧ FileC w' b r0 id ∧ Below w.heap.size w w' ∧ w.heap.size ≤ b
theorem new_any (id : Int) (w : World) (h0 : 0 ≤ id) (h1 : id < 4) : Calls Try.prog 8 #[.int .i64 id] w (NewPost id w) := by
  go_enter Try.func8, Try.ntmps8
  go_wp2_with fail
  refine (first_any _).mono ?_; rintro e w1 ⟨rfl, hb1⟩
  have hs := hb1.size
  go_wp2_with fail
  go_ret2
  exact ⟨w1.heap.size, rfl, ⟨rfl, new_block w1 _ _ rfl⟩, hb1.alloc hs _, hs⟩
theorem new_no (id : Int) (w : World) (h : id < 0 ∨ 4 ≤ id) : Calls Try.prog 8 #[.int .i64 id] w fun e w' => e = .returned (.tuple #[.pointer none, .int .i64 1]) ∧ w = w' := by
  by_cases h0 : id < 0
  · clear h
    go_enter Try.func8, Try.ntmps8
    go_wp2
    go_ret2
    exact ⟨rfl, rfl⟩
  · have h1 : 4 ≤ id := by omega
    clear h
    go_enter Try.func8, Try.ntmps8
    go_wp2
    go_ret2
    exact ⟨rfl, rfl⟩
def AllPost (r : List Int) (w : World) (e : Ending) (w' : World) : Prop := e = .returned (.agg (r.map (Value.int .u32)).toArray) ∧ Below w.heap.size w w'
theorem all_any (b : Nat) (r : List Int) (id : Int) (w : World) (h : FileC w b r id) : Calls Try.prog 16 #[.pointer (some ⟨b, 0, none⟩)] w (AllPost r w) := by
  have hlen := Lib.hid h.1
  have hb : Below w.heap.size w (w.alloc (.cells (Array.replicate 7 (Value.int .u32 0)) 37)) := (Below.refl _ _).alloc (Nat.le_refl _) _
  have H1 := Lib.hid (h.below hb)
  have hrow : Hid ((w.alloc (.cells (Array.replicate 7 (Value.int .u32 0)) 37)).rangeAt b 0 (r.map (Value.int .u32))) := fun j v hv => by
    have hj : j < r.length := by have := (List.getElem?_eq_some_iff.1 hv).1; simpa using this
    have hl := hlen.out
    rw [Nat.zero_add, H1.out.reg j (by omega), ← hv]
    simp [hj]
  clear hb h
  go_enter Try.func16, Try.ntmps16
  go_wp2_with (first | (go_at_call 30; refine (none_any _ _ _ _ H1.out).mono ?_; rintro e w' ⟨rfl, rfl⟩) | (refine wpList_load_mid rfl 37 (.tmp 8) rfl b 0 rfl (r.map (Value.int .u32)) _ hrow.out Try.underlying37 rfl (by rw [info_arr]; simp [hlen.out]) ?_) | (refine wpList_store_new rfl 37 (.tmp 2) (.tmp 9) rfl _ _ rfl rfl (by rw [info_arr]; simp [hlen.out]) (by simp [hlen.out]) (ints_all _ _) ?_))
  refine bodyPost_ret (v := .agg (r.map (Value.int .u32)).toArray) ?_ rfl ⟨rfl, (Below.refl _ _).alloc (Nat.le_refl _) _⟩
  exact results_cell_row rfl _ _ w.heap.size _ _ (0, 0) _ rfl (new_block w _ _ rfl) Try.underlying37 rfl (by rw [info_arr]; simp [hlen.out])
end Go.Proofs.Ytbalikmfbbmmjaa
