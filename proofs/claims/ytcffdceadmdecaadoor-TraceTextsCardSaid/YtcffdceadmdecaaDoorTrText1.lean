/- The words and the numbers that a line puts. -/
import Derived.Test.YtcffdceadmdecaaDoorTrB
namespace Go.Proofs.YtcffdceadmdecaaDoor
set_option linter.unusedVariables false
set_option linter.unusedSimpArgs false
set_option linter.unnecessarySimpa false
open Go.RowKit Go.Sort
set_option maxHeartbeats 1000000
set_option maxRecDepth 100000
set_option linter.unusedVariables false

def wordsL : List (List UInt8) := [[63], [116, 114, 97, 112], [99, 97, 108, 108], [105, 110, 116], [104, 97, 108, 116], [115, 116, 97, 114, 116], [102, 97, 117, 108, 116]]
def wordL (k : Int) : List UInt8 := if 0 ≤ k ∧ k < 7 then wordsL.getD k.toNat [] else [63]
def WordsIs (w : World) : Prop := ∀ i, i < 7 → w.cell? ⟨0, i, none⟩ = some (.string ⟨(wordsL.getD i []).toArray⟩)
theorem WordsIs.below {w w' : World} (h : WordsIs w) (hb : Below w.heap.size w w') : WordsIs w' := fun i hi => by
  rw [hb.cell (p := ⟨0, i, none⟩) (World.block_lt_of_cell? w _ (h i hi))]
  exact h i hi

theorem word_any (k : Int) (w : World) (hT : WordsIs w) : Calls Tryd.prog 19 #[.int .i64 k] w fun e w' => e = .returned (.string ⟨(wordL k).toArray⟩) ∧ w = w' := by
  by_cases h0 : k < 0
  · have h0' : ¬ (0 ≤ k ∧ k < 7) := by omega
    have d0 : decide (k < 0) = true := decide_eq_true h0
    go_enter Tryd.func19, Tryd.ntmps19
    go_wp2
    go_ret
    exact ⟨by rw [wordL, if_neg h0']; rfl, rfl⟩
  · by_cases h1 : 7 ≤ k
    · have h0' : ¬ (0 ≤ k ∧ k < 7) := by omega
      have d0 : decide (k < 0) = false := decide_eq_false h0
      have d1 : decide (k ≥ 7) = true := decide_eq_true h1
      have d1' : decide (7 ≤ k) = true := decide_eq_true h1
      go_enter Tryd.func19, Tryd.ntmps19
      go_wp2
      go_ret
      exact ⟨by rw [wordL, if_neg h0']; rfl, rfl⟩
    · obtain ⟨n, rfl⟩ : ∃ n : Nat, k = n := ⟨k.toNat, by omega⟩
      have hn : n < 7 := by omega
      have c := hT n hn
      have h0' : (0 ≤ (n : Int) ∧ (n : Int) < 7) := by omega
      have d0 : decide ((n : Int) < 0) = false := decide_eq_false h0
      have d1 : decide ((n : Int) ≥ 7) = false := decide_eq_false h1
      have d1' : decide (7 ≤ (n : Int)) = false := decide_eq_false h1
      have HT := Lib.hid hT
      clear hT
      go_enter Tryd.func19, Tryd.ntmps19
      go_wp2
      go_ret
      exact ⟨by rw [wordL, if_pos h0']; simp, rfl⟩

theorem ba_append (a b : List UInt8) : (⟨a.toArray⟩ : ByteArray) ++ ⟨b.toArray⟩ = ⟨(a ++ b).toArray⟩ := by
  apply ByteArray.ext
  rw [ByteArray.data_append]; simp
theorem ba_size (a : List UInt8) : (⟨a.toArray⟩ : ByteArray).size = a.length := by simp [ByteArray.size]

/-- What a call that writes one line hands back. -/
def Wrote (B b : Nat) (l m : List UInt8) (w : World) (e : Ending) (w' : World) : Prop := e = .returned (.tuple #[]) ∧ LineI B b (Lib.byteCells (l ++ m)) w' ∧ Below B w w' ∧ Kept b w w'

theorem put_any (B b : Nat) (l m : List UInt8) (w : World) (h : LineI B b (Lib.byteCells l) w) (hlen : l.length + m.length ≤ 140737488355328) (hBw : B ≤ w.heap.size) :
    Calls Tryd.prog 18 #[.pointer (some ⟨b, 0, none⟩), .string ⟨m.toArray⟩] w (Wrote B b l m w) := by
  go_enter Tryd.func18, Tryd.ntmps18
  go_wp2_with (go_at_call 29; refine (write_any B b _ _ _ h (by rw [Lib.byteCells_length, ba_size]; exact hlen) hBw).mono ?_)
  rintro e w' ⟨rfl, h', hb, hk⟩
  go_wp2
  go_end0
  exact ⟨rfl, .inr (by rw [Lib.byteCells_append]; exact h'), hb, hk⟩

theorem below_growB {B : Nat} {w : World} (hB : B ≤ w.heap.size) (k : Nat) (os : Array Obj) : Below B w (grow (w.drewN k) os) :=
  (show Below w.heap.size w (grow (w.drewN k) os) from ⟨rfl, rfl, rfl, by simp [grow, World.drewN], fun j hj => by simp [grow, World.drewN, Array.getElem?_append, hj]⟩).mono hB
theorem line_grow {B b : Nat} {bs : List Value} {w : World} (h : LineI B b bs w) (k : Nat) (os : Array Obj) : LineI B b bs (grow (w.drewN k) os) := by
  have key : ∀ p, Lib.BuilderAtF 51 5 B b p bs w → Lib.BuilderAtF 51 5 B b p bs (grow (w.drewN k) os) := fun p ⟨hB, v, hb, hown, hne⟩ => by
    have old : ∀ j o, w.heap[j]? = some o → (grow (w.drewN k) os).heap[j]? = some o := fun j o ho => by
      have hj : j < w.heap.size := (Array.getElem?_eq_some_iff.1 ho).1
      have : (grow (w.drewN k) os).heap[j]? = w.heap[j]? := by simp [grow, World.drewN, Array.getElem?_append, hj]
      rw [this, ho]
    refine ⟨hB, v, old _ _ hb, ⟨hown.1, ?_⟩, hne⟩
    rcases hown.2 with hz | ⟨g, cap, cur, fz, hv, hbg, hg, r⟩
    · exact .inl hz
    · exact .inr ⟨g, cap, cur, fz, hv, hbg, old _ _ hg, r⟩
  exact h.elim (fun x => .inl (key _ x)) (fun x => .inr (key _ x))
theorem kept_grow (b : Nat) (w : World) (k : Nat) (os : Array Obj) : Kept b w (grow (w.drewN k) os) := fun j o hj _ _ => by
  have hlt : j < w.heap.size := (Array.getElem?_eq_some_iff.1 hj).1
  have : (grow (w.drewN k) os).heap[j]? = w.heap[j]? := by simp [grow, World.drewN, Array.getElem?_append, hlt]
  rw [this, hj]

def numL (n : Int) : List UInt8 := 32 :: Lib.itoa n
def unsL (n : Nat) : List UInt8 := 32 :: Lib.decDigits n
def regL (i u : Nat) : List UInt8 := [32, 114] ++ Lib.decDigits i ++ [61] ++ Lib.decDigits u

def Grew (B b : Nat) (l : List UInt8) (w w' : World) : Prop := LineI B b (Lib.byteCells l) w' ∧ Below B w w' ∧ Kept b w w' ∧ PowIs w'
theorem grew (B b : Nat) (l : List UInt8) (w : World) (hP : PowIs w) (h : LineI B b (Lib.byteCells l) w) (hBw : B ≤ w.heap.size) (k : Nat) (os : Array Obj) : Grew B b l w (grow (w.drewN k) os) :=
  ⟨line_grow h k os, below_growB hBw k os, kept_grow b w k os, hP.below (below_growB (Nat.le_refl _) k os)⟩
theorem itoa_g (B b : Nat) (l : List UInt8) (n : Int) (h0 : -9223372036854775808 ≤ n) (h1 : n ≤ 9223372036854775807) (w : World) (hP : PowIs w) (h : LineI B b (Lib.byteCells l) w) (hBw : B ≤ w.heap.size) :
    Calls Tryd.prog 30 #[.int .i64 n] w fun e w' => e = .returned (.string ⟨(Lib.itoa n).toArray⟩) ∧ Grew B b l w w' :=
  (Tryd.strconv_Itoa n h0 h1 w hP).mono fun e w' ⟨he, k, os, hw⟩ => ⟨he, by rw [hw]; exact grew B b l w hP h hBw k os⟩
theorem fmtu_g (B b : Nat) (l : List UInt8) (n : Nat) (h1 : n < 18446744073709551616) (w : World) (hP : PowIs w) (h : LineI B b (Lib.byteCells l) w) (hBw : B ≤ w.heap.size) :
    Calls Tryd.prog 31 #[.int .u64 n, .int .i64 10] w fun e w' => e = .returned (.string ⟨(Lib.decDigits n).toArray⟩) ∧ Grew B b l w w' :=
  (fmtu n h1 w hP).mono fun e w' ⟨he, k, os, hw⟩ => ⟨he, by rw [hw]; exact grew B b l w hP h hBw k os⟩

theorem number_any (B b : Nat) (l : List UInt8) (n : Int) (h0 : -9223372036854775808 ≤ n) (h1 : n ≤ 9223372036854775807) (w : World) (hP : PowIs w) (h : LineI B b (Lib.byteCells l) w) (hlen : l.length + 30 ≤ 140737488355328) (hBw : B ≤ w.heap.size) :
    Calls Tryd.prog 20 #[.pointer (some ⟨b, 0, none⟩), .int .i64 n] w (Wrote B b l (numL n) w) := by
  have hz := Lib.itoa_length_le n h0 h1
  have hs : (⟨#[32]⟩ : ByteArray) ++ ⟨(Lib.itoa n).toArray⟩ = ⟨(numL n).toArray⟩ := ba_append [32] _
  go_enter Tryd.func20, Tryd.ntmps20
  go_wp2_with (first | (go_at_call 30; refine (itoa_g B b l n h0 h1 _ hP h hBw).mono ?_; rintro e w1 ⟨rfl, hl1, hb1, hk1, hP1⟩) | (go_at_call 18; refine (put_any B b l (numL n) _ hl1 (by simp [numL]; omega) (Nat.le_trans hBw hb1.size)).mono ?_; rintro e w' ⟨rfl, h', hb, hk⟩))
  go_end0
  exact ⟨rfl, h', hb1.trans hb, hk1.trans hk⟩

theorem uns_any (B b : Nat) (l : List UInt8) (n : Nat) (h1 : n < 4294967296) (w : World) (hP : PowIs w) (h : LineI B b (Lib.byteCells l) w) (hlen : l.length + 30 ≤ 140737488355328) (hBw : B ≤ w.heap.size) :
    Calls Tryd.prog 21 #[.pointer (some ⟨b, 0, none⟩), .int .u32 n] w (Wrote B b l (unsL n) w) := by
  have hwr : IntKind.u64.wrap (n : Int) = (n : Int) := by rw [IntKind.wrap_u64]; omega
  have hz : (Lib.decDigits n).length ≤ 20 := by rw [Lib.decDigits_length]; exact Lib.nDigits_le20 n (by omega)
  have hs : (⟨#[32]⟩ : ByteArray) ++ ⟨(Lib.decDigits n).toArray⟩ = ⟨(unsL n).toArray⟩ := ba_append [32] _
  go_enter Tryd.func21, Tryd.ntmps21
  go_wp2_with (first | (go_at_call 31; refine (fmtu_g B b l n (by omega) _ hP h hBw).mono ?_; rintro e w1 ⟨rfl, hl1, hb1, hk1, hP1⟩) | (go_at_call 18; refine (put_any B b l (unsL n) _ hl1 (by simp [unsL]; omega) (Nat.le_trans hBw hb1.size)).mono ?_; rintro e w' ⟨rfl, h', hb, hk⟩))
  go_end0
  exact ⟨rfl, h', hb1.trans hb, hk1.trans hk⟩

theorem reg_any (B b : Nat) (l : List UInt8) (i n : Nat) (hi : i < 16) (h1 : n < 4294967296) (w : World) (hP : PowIs w) (h : LineI B b (Lib.byteCells l) w) (hlen : l.length + 60 ≤ 140737488355328) (hBw : B ≤ w.heap.size) :
    Calls Tryd.prog 22 #[.pointer (some ⟨b, 0, none⟩), .int .i64 i, .int .u32 n] w (Wrote B b l (regL i n) w) := by
  have hwr : IntKind.u64.wrap (n : Int) = (n : Int) := by rw [IntKind.wrap_u64]; omega
  have hz : (Lib.decDigits n).length ≤ 20 := by rw [Lib.decDigits_length]; exact Lib.nDigits_le20 n (by omega)
  have hzi : (Lib.decDigits i).length ≤ 20 := by rw [Lib.decDigits_length]; exact Lib.nDigits_le20 i (by omega)
  have hzj := Lib.itoa_length_le (i : Int) (by omega) (by omega)
  have q1 : ¬ 9223372036854775807 < 2 + (Lib.itoa (i : Int)).length := by omega
  have q2 : ¬ 9223372036854775807 < 2 + (Lib.itoa (i : Int)).length + 1 := by omega
  have q3 : ¬ 9223372036854775807 < 2 + (Lib.itoa (i : Int)).length + 1 + (Lib.decDigits n).length := by omega
  have hs : (⟨#[32, 114]⟩ : ByteArray) ++ ⟨(Lib.itoa (i : Int)).toArray⟩ ++ ⟨#[61]⟩ ++ ⟨(Lib.decDigits n).toArray⟩ = ⟨(regL i n).toArray⟩ := by
    rw [Lib.itoa_nonneg, show (⟨#[32, 114]⟩ : ByteArray) = ⟨[32, 114].toArray⟩ from rfl, show (⟨#[61]⟩ : ByteArray) = ⟨[61].toArray⟩ from rfl, ba_append, ba_append, ba_append]; rfl
  go_enter Tryd.func22, Tryd.ntmps22
  go_wp2_with (first | (go_at_call 30; refine (itoa_g B b l (i : Int) (by omega) (by omega) _ hP h hBw).mono ?_; rintro e w1 ⟨rfl, hl1, hb1, hk1, hP1⟩) | (go_at_call 31; refine (fmtu_g B b l n (by omega) _ hP1 hl1 (Nat.le_trans hBw hb1.size)).mono ?_; rintro e w2 ⟨rfl, hl2, hb2, hk2, hP2⟩) | (go_at_call 18; refine (put_any B b l (regL i n) _ hl2 (by simp [regL]; omega) (Nat.le_trans hBw (hb1.trans hb2).size)).mono ?_; rintro e w' ⟨rfl, h', hb, hk⟩))
  go_end0
  exact ⟨rfl, h', (hb1.trans hb2).trans hb, (hk1.trans hk2).trans hk⟩
#print axioms reg_any
end Go.Proofs.YtcffdceadmdecaaDoor
