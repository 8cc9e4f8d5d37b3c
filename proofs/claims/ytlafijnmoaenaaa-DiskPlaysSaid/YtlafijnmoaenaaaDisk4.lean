/- Package octet: Fit; package disk: Fill, Read, Write, Range, Bytes. -/
import Derived.Test.YtlafijnmoaenaaaDisk3
namespace Go.Proofs.Ytlafijnmoaenaaa
set_option linter.unusedVariables false
set_option linter.unusedSimpArgs false
set_option linter.unnecessarySimpa false
open Go.RowKit Go.Sort
set_option maxHeartbeats 400000
set_option maxRecDepth 100000

/-- A string's bytes, as numbers. -/
def bytesI (s : ByteArray) : List Int := s.data.toList.map (fun b => (b.toNat : Int))
/-- Sixteen of them, zeros behind. -/
def fitB (s : ByteArray) : List Int := (bytesI s ++ z16).take 16
theorem fitB_len (s : ByteArray) : (fitB s).length = 16 := by simp [fitB, z16]
theorem copyS16 (w : World) (g : Nat) (s : ByteArray) (hg : w.heap[g]? = some (.cells (bC z16).toArray 5 (0, 0))) :
    (Builtin.copy_ #[22, 9] 3 #[.slice (some ⟨g, 0, none⟩) 16 16, .string s]).run Try.prog w = .ok (goInt (Nat.min s.size 16)) (w.setRow g (bC (fitB s)).toArray) := by
  have hsz : s.data.toList.length = s.size := (Lib.size_eq s).symm
  obtain ⟨m, hm⟩ : ∃ m, m = Nat.min s.size 16 := ⟨_, rfl⟩
  have hm1 : m ≤ 16 := by rw [hm]; exact Nat.min_le_right _ _
  have hm2 : m ≤ s.size := by rw [hm]; exact Nat.min_le_left _ _
  obtain ⟨cs, hcs⟩ : ∃ cs, cs = List.take m (List.map (fun b : UInt8 => Value.int IntKind.u8 (b.toNat : Int)) s.data.toList) := ⟨_, rfl⟩
  have hcl : cs.length = m := by rw [hcs]; simp; omega
  have h1 : ∀ v ∈ cs, v.oneCell' = true := fun v hv => by
    rw [hcs] at hv
    obtain ⟨b, _, rfl⟩ := List.mem_map.1 (List.mem_of_mem_take hv)
    rfl
  have hst := run_storeCells_at Try.prog g 0 5 cs 0 (bC z16).toArray w hg (by rw [hcl]; simp [bC_len, z16]; omega) h1
  have hfin : ((bC z16).toArray.toList.take 0 ++ cs ++ (bC z16).toArray.toList.drop (0 + cs.length)) = bC (fitB s) := by
    rw [hcl, hcs]
    have e0 : List.map (fun b : UInt8 => Value.int IntKind.u8 (b.toNat : Int)) s.data.toList = bC (bytesI s) := by simp [bC, bytesI]
    have e1 : (bytesI s).length = s.size := by simp [bytesI, hsz]
    rw [e0]
    simp only [List.take_zero, List.nil_append, Nat.zero_add, fitB]
    rcases Nat.le_total s.size 16 with h | h
    · have e2 : m = s.size := by rw [hm]; exact Nat.min_eq_left h
      rw [e2, List.take_of_length_le (by rw [bC_len, e1]; exact Nat.le_refl _), List.take_append, e1, List.take_of_length_le (l := bytesI s) (by omega)]
      rw [show bC z16 = List.replicate 16 (Value.int .u8 0) from rfl, show z16 = List.replicate 16 0 from rfl]
      unfold bC
      rw [List.map_append, List.take_replicate, List.map_replicate, List.drop_replicate, Nat.min_eq_left (by omega)]
    · have e2 : m = 16 := by rw [hm]; exact Nat.min_eq_right h
      rw [e2, List.take_append, e1, show 16 - s.size = 0 by omega]
      simp [bC, z16]
  rw [← hm]
  cases hq : Try.prog.info? 5 with
  | none => have := info_u8; rw [hq] at this; cases this
  | some i =>
    have hi : i.size = 1 := by have := info_u8; rw [hq] at this; simpa using this
    have hu := Try.underlying22
    have hmin : Nat.min s.size 16 = m := hm.symm
    simp [Builtin.copy_, run_underlying hu, Builtin.lenOf, Builtin.firstCells, sizeOf, typeInfo, hq, hi, hmin]
    rw [Nat.add_zero, hfin] at hst
    rw [← hcs, hst]
    rfl
theorem fit_any (s : ByteArray) (w : World) : Calls Try.prog 26 #[.string s, .int .i64 16] w (BPost w.heap.size 16 (fitB s) w) := by
  obtain ⟨W1, hW1⟩ : ∃ W1, W1 = w.alloc (.cells (bC z16).toArray 5) := ⟨_, rfl⟩
  have hmk := make16 w
  rw [← hW1] at hmk
  have hb1 : Below w.heap.size w W1 := by rw [hW1]; exact (Below.refl _ _).alloc (Nat.le_refl _) _
  have hG : W1.heap[w.heap.size]? = some (.cells (bC z16).toArray 5 (0, 0)) := by rw [hW1]; exact new_block w _ _ rfl
  obtain ⟨W2, hW2⟩ : ∃ W2, W2 = W1.setRow w.heap.size (bC (fitB s)).toArray := ⟨_, rfl⟩
  have hcp := copyS16 W1 w.heap.size s hG
  rw [← hW2] at hcp
  have HF : Hid (BPost w.heap.size 16 (fitB s) w (.returned (.slice (some ⟨w.heap.size, 0, none⟩) 16 16)) W2) := by
    rw [hW2]
    exact ⟨some ⟨w.heap.size, 0, none⟩, 16, rfl, bytes_new (setRow_at hG) (fitB_len s) (Nat.le_refl _) (by simp only [maxLen]; omega), below_setRow hb1 (Nat.le_refl _) _⟩
  clear hW1 hW2 hb1 hG
  go_enter Try.func26, Try.ntmps26
  go_wp2_with fail
  go_ret
  exact HF.out
/-- What an act on a disk leaves. -/
def DPost (B dd tt : Nat) (a : Option Addr) (cap : Nat) (R : List Rn) (la : Option Addr) (lc : Nat) (lb : List Int) (mb n : Nat) (r : Value) (f : Nat → List Int) (w : World) (e : Ending) (w' : World) : Prop :=
  e = .returned r ∧ DS w' B dd tt a cap R la lc lb mb n f ∧ Mod [mb] w w'
theorem whoV_lt {n : Nat} {R : List Rn} (hok : Okr n R) {i : Int} (h : (whoV R i).2 = true) : 0 ≤ i ∧ i < n := by
  obtain ⟨r, hr, _, h1, h2⟩ := who_own (i := i) (x := (whoV R i).1) (R := R) (by rw [← h])
  have := hok.each r hr
  omega
def fillV (R : List Rn) (at_ : Int) : Int := if (whoV R at_).2 then 0 else 3
theorem fill_any (B dd tt cap lc mb n : Nat) (a la : Option Addr) (R : List Rn) (lb : List Int) (f : Nat → List Int) (at_ : Int) (s : ByteArray) (w : World) (h : DS w B dd tt a cap R la lc lb mb n f) (hn : n < 1000000) :
    Calls Try.prog 11 #[.pointer (some ⟨dd, 0, none⟩), .int .i64 at_, .string s] w (DPost B dd tt a cap R la lc lb mb (n + 1) (.int .i64 (fillV R at_)) (if (whoV R at_).2 then upd f at_.toNat (fitB s) else f) w) := by
  have H := Lib.hid h
  have HL := Lib.hid (label_any _ _ _ _ _ _ _ _ _ _ _ _ at_ w h)
  cases hw : (whoV R at_).2
  · have HV : Hid (fillV R at_ = 3) := by rw [Hid, fillV, hw]; rfl
    have hl : labV R lb at_ = (0, 3) := by rw [labV, hw]; rfl
    rw [hl] at HL
    clear h hw hl
    go_enter Try.func11, Try.ntmps11
    go_wp2_with fail
    refine HL.out.mono ?_; rintro e w1 ⟨rfl, hb⟩
    go_wp2_with fail
    go_ret
    rw [HV.out]
    refine ⟨rfl, ?_, Mod.ofBelow hb⟩
    have h1 := H.out.below hb
    exact ⟨h1.obj, h1.t, h1.lab, h1.m.mono (Nat.le_succ _), h1.own, h1.sec, h1.ge⟩
  · have HV : Hid (fillV R at_ = 0) := by rw [Hid, fillV, hw]; rfl
    obtain ⟨h0, h32⟩ := whoV_lt h.t.ok hw
    obtain ⟨k, rfl⟩ := Int.eq_ofNat_of_zero_le h0
    obtain ⟨l, hl⟩ : ∃ l, labV R lb k = (l, 0) := ⟨_, by rw [labV, hw]; rfl⟩
    rw [hl] at HL
    clear h hw hl
    go_enter Try.func11, Try.ntmps11
    go_wp2_with fail
    refine HL.out.mono ?_; rintro e w1 ⟨rfl, hb⟩
    have H1 := Lib.hid (H.out.below hb)
    have HB1 := Lib.hid hb
    clear hb
    go_wp2_with fail
    refine (fit_any s w1).mono ?_; rintro e w2 ⟨a2, c2, rfl, hown2, hb2⟩
    have H2 := Lib.hid (H1.out.below hb2)
    have HR2 := Lib.hid hown2.rd
    have HB2 : Hid (Below w.heap.size w w2) := bmore HB1.out hb2
    clear hown2 hb2 H1 HB1
    go_wp2_with fail
    refine (put_any _ _ _ _ _ _ _ _ _ _ _ _ k (by omega) _ _ (fitB s) (fitB_len s) w2 H2.out HR2.out hn).mono ?_; rintro e w3 ⟨rfl, hm3, ht3⟩
    have H3 := Lib.hid (H2.out.turn hm3 (fitB_len s) ht3)
    have HM3 : Hid (Mod [mb] w w3) := (Mod.ofBelow HB2.out).trans ht3
    clear hm3 ht3
    go_wp2_with fail
    go_ret
    rw [HV.out]
    exact ⟨rfl, by simpa using H3.out, HM3.out⟩
/-- What Read answers: an error, and nothing; or the sector. -/
def readE (R : List Rn) (lb : List Int) (who at_ : Int) : Int := if (whoV R at_).2 then (if flB (lb.getD (whoV R at_).1.toNat 0) who then 0 else 8) else 3
def RdPost (B : Nat) (er : Int) (s : List Int) (w : World) (e : Ending) (w' : World) : Prop :=
  ∃ a m c, e = .returned (.tuple #[.slice a m c, .int .i64 er]) ∧ (if er = 0 then m = 16 ∧ Own w' B 5 1 a 16 c (bC s) else a = none ∧ m = 0 ∧ c = 0) ∧ Below w.heap.size w w'
theorem read_any (B dd tt cap lc mb n : Nat) (a la : Option Addr) (R : List Rn) (lb : List Int) (f : Nat → List Int) (who at_ : Int) (w : World) (h : DS w B dd tt a cap R la lc lb mb n f) :
    Calls Try.prog 7 #[.pointer (some ⟨dd, 0, none⟩), .int .i64 who, .int .i64 at_] w (RdPost w.heap.size (readE R lb who at_) (f at_.toNat) w) := by
  have H := Lib.hid h
  have HL := Lib.hid (label_any _ _ _ _ _ _ _ _ _ _ _ _ at_ w h)
  cases hw : (whoV R at_).2
  · have HV : Hid (readE R lb who at_ = 3) := by rw [Hid, readE, hw]; rfl
    have hl : labV R lb at_ = (0, 3) := by rw [labV, hw]; rfl
    rw [hl] at HL
    clear h hw hl
    go_enter Try.func7, Try.ntmps7
    go_wp2_with fail
    refine HL.out.mono ?_; rintro e w1 ⟨rfl, hb⟩
    go_wp2_with fail
    go_ret2
    rw [HV.out]
    exact ⟨none, 0, 0, rfl, by simp, hb⟩
  · obtain ⟨h0, h32⟩ := whoV_lt h.t.ok hw
    obtain ⟨k, rfl⟩ := Int.eq_ofNat_of_zero_le h0
    have hl : labV R lb k = (lb.getD (whoV R k).1.toNat 0, 0) := by rw [labV, hw]; rfl
    rw [hl] at HL
    have HV : Hid (readE R lb who k = if flB (lb.getD (whoV R k).1.toNat 0) who then 0 else 8) := by rw [Hid, readE, hw]; rfl
    generalize lb.getD (whoV R k).1.toNat 0 = l at HL HV
    clear h hw hl
    cases hfl : flB l who
    · rw [hfl] at HV
      have HFL := Lib.hid hfl
      go_enter Try.func7, Try.ntmps7
      go_wp2_with fail
      refine HL.out.mono ?_; rintro e w1 ⟨rfl, hb⟩
      go_wp2_with fail
      refine (flows_any l who w1).mono ?_; rw [HFL.out]; rintro e w' ⟨rfl, rfl⟩
      go_wp2_with fail
      go_ret2
      rw [HV.out]
      exact ⟨none, 0, 0, rfl, by simp, hb⟩
    · rw [hfl] at HV
      have HFL := Lib.hid hfl
      go_enter Try.func7, Try.ntmps7
      go_wp2_with fail
      refine HL.out.mono ?_; rintro e w1 ⟨rfl, hb⟩
      have H1 := Lib.hid (H.out.below hb)
      have HB1 := Lib.hid hb
      clear hb
      go_wp2_with fail
      refine (flows_any l who w1).mono ?_; rw [HFL.out]; rintro e w' ⟨rfl, rfl⟩
      go_wp2_with fail
      refine (copied_any _ _ _ _ _ _ _ _ _ _ _ _ k (by omega) w1 H1.out).mono ?_; rintro e w2 ⟨a2, c2, rfl, hown2, hb2⟩
      have HF : Hid (RdPost w.heap.size 0 (f k) w (.returned (.tuple #[.slice a2 16 c2, .int .i64 0])) w2) := ⟨a2, 16, c2, rfl, by rw [if_pos rfl]; exact ⟨rfl, hown2.mono HB1.out.size⟩, bmore HB1.out hb2⟩
      clear hown2 hb2
      go_wp2_with fail
      go_ret2
      rw [HV.out]
      exact HF.out
def writeE (R : List Rn) (lb : List Int) (who at_ : Int) (m : Nat) : Int := if (whoV R at_).2 then (if flB who (lb.getD (whoV R at_).1.toNat 0) then (if m = 16 then 0 else 1) else 8) else 3
theorem range_any (B dd tt cap lc mb n : Nat) (a la : Option Addr) (R : List Rn) (lb : List Int) (f : Nat → List Int) (at_ : Int) (w : World) (h : DS w B dd tt a cap R la lc lb mb n f) :
    Calls Try.prog 8 #[.pointer (some ⟨dd, 0, none⟩), .int .i64 at_] w fun e w' => e = .returned (.tuple #[.int .i64 (whoV R at_).1, .bool (whoV R at_).2]) ∧ Below w.heap.size w w' := by
  have HN := Lib.hid (dnone_no _ _ _ _ _ _ _ _ _ _ _ _ w h)
  have HW := Lib.hid (who_any _ _ _ _ _ _ at_ w h.t)
  have c0 := h.obj.cell 0 _ rfl
  clear h
  go_enter Try.func8, Try.ntmps8
  go_wp2_with fail
  refine HN.out.mono ?_; rintro e w' ⟨rfl, rfl⟩
  go_wp2_with fail
  refine HW.out.mono ?_; rintro e w1 ⟨rfl, hb⟩
  go_wp2_with fail
  go_ret2
  exact ⟨rfl, hb⟩
def BtPost (B : Nat) (ok : Bool) (s : List Int) (w : World) (e : Ending) (w' : World) : Prop :=
  ∃ a m c, e = .returned (.tuple #[.slice a m c, .bool ok]) ∧ (if ok then m = 16 ∧ Own w' B 5 1 a 16 c (bC s) else a = none ∧ m = 0 ∧ c = 0) ∧ Below w.heap.size w w'
def inD (at_ : Int) : Bool := decide (0 ≤ at_) && decide (at_ < 32)
theorem bytes_any (B dd tt cap lc mb n : Nat) (a la : Option Addr) (R : List Rn) (lb : List Int) (f : Nat → List Int) (at_ : Int) (w : World) (h : DS w B dd tt a cap R la lc lb mb n f) :
    Calls Try.prog 9 #[.pointer (some ⟨dd, 0, none⟩), .int .i64 at_] w (BtPost w.heap.size (inD at_) (f at_.toNat) w) := by
  have HN := Lib.hid (dnone_no _ _ _ _ _ _ _ _ _ _ _ _ w h)
  by_cases h0 : at_ < 0
  · have e0 : decide (at_ < 0) = true := by simpa using h0
    have HV : Hid (inD at_ = false) := by simp [Hid, inD]; omega
    clear h h0
    go_enter Try.func9, Try.ntmps9
    go_wp2_with fail
    refine HN.out.mono ?_; rintro e w' ⟨rfl, rfl⟩
    go_wp2_with fail
    go_ret2
    rw [HV.out]
    exact ⟨none, 0, 0, rfl, by simp, Below.refl _ _⟩
  · have e0 : decide (at_ < 0) = false := by simpa using h0
    by_cases h1 : 32 ≤ at_
    · have e1 : decide (32 ≤ at_) = true := by simpa using h1
      have HV : Hid (inD at_ = false) := by simp [Hid, inD]; omega
      clear h h0 h1
      go_enter Try.func9, Try.ntmps9
      go_wp2_with fail
      refine HN.out.mono ?_; rintro e w' ⟨rfl, rfl⟩
      go_wp2_with fail
      go_ret2
      rw [HV.out]
      exact ⟨none, 0, 0, rfl, by simp, Below.refl _ _⟩
    · have HV : Hid (inD at_ = true) := by simp [Hid, inD]; omega
      obtain ⟨k, rfl⟩ := Int.eq_ofNat_of_zero_le (show 0 ≤ at_ by omega)
      have e1 : decide ((32 : Int) ≤ (k : Int)) = false := by simp; omega
      have e1' : decide (32 ≤ k) = false := by simp; omega
      have HC := Lib.hid (copied_any _ _ _ _ _ _ _ _ _ _ _ _ k (by omega) w h)
      clear h h0 h1
      go_enter Try.func9, Try.ntmps9
      go_wp2_with fail
      refine HN.out.mono ?_; rintro e w' ⟨rfl, rfl⟩
      go_wp2_with fail
      refine HC.out.mono ?_; rintro e w2 ⟨a2, c2, rfl, hown2, hb2⟩
      have HF : Hid (BtPost w.heap.size true (f k) w (.returned (.tuple #[.slice a2 16 c2, .bool true])) w2) := ⟨a2, 16, c2, rfl, by rw [if_pos rfl]; exact ⟨rfl, hown2⟩, hb2⟩
      clear hown2 hb2
      go_wp2_with fail
      go_ret2
      rw [HV.out]
      exact HF.out
end Go.Proofs.Ytlafijnmoaenaaa
