/- Bits of numbers that are not negative; the reading of a slice of integers: plain lemmas. -/
import Derived.Test.YtoalpdjpljapbaaDoorLift
import Derived.WalkSpells
import Derived.WalkLawsBesides
import Derived.Deep.QuietTactic
import Derived.BigQuiet
import Derived.Lib.Hide
import Derived.Outline
namespace Go.Proofs.YtoalpdjpljapbaaDoor
set_option linter.unusedVariables false
set_option linter.unusedSimpArgs false
set_option linter.unnecessarySimpa false
open Go.RowKit

theorem ofInt64 (a : Nat) (ha : a < 9223372036854775808) : (BitVec.ofInt 64 (a : Int)).toNat = a := by
  simp only [BitVec.toNat_ofInt]
  omega

theorem wrap64_nat (a : Nat) (ha : a < 9223372036854775808) : IntKind.i64.wrap (a : Int) = a := IntWalk.i64_in _ (by omega)

theorem i64_and (a b : Nat) (ha : a < 9223372036854775808) (hb : b < 9223372036854775808) : bits .and .i64 (a : Int) (b : Int) = ((a &&& b : Nat) : Int) := by
  have h : (BitVec.ofInt 64 (a : Int) &&& BitVec.ofInt 64 (b : Int)).toNat = a &&& b := by rw [BitVec.toNat_and, ofInt64 a ha, ofInt64 b hb]
  have hl : a &&& b < 9223372036854775808 := Nat.lt_of_le_of_lt Nat.and_le_left ha
  simp only [bits]
  show IntKind.i64.wrap ((BitVec.ofInt 64 (a : Int) &&& BitVec.ofInt 64 (b : Int)).toNat : Int) = _
  rw [h, wrap64_nat _ hl]

theorem i64_or (a b : Nat) (ha : a < 9223372036854775808) (hb : b < 9223372036854775808) : bits .or .i64 (a : Int) (b : Int) = ((a ||| b : Nat) : Int) := by
  have h : (BitVec.ofInt 64 (a : Int) ||| BitVec.ofInt 64 (b : Int)).toNat = a ||| b := by rw [BitVec.toNat_or, ofInt64 a ha, ofInt64 b hb]
  have hl : a ||| b < 2 ^ 63 := Nat.or_lt_two_pow (by omega) (by omega)
  simp only [bits]
  show IntKind.i64.wrap ((BitVec.ofInt 64 (a : Int) ||| BitVec.ofInt 64 (b : Int)).toNat : Int) = _
  rw [h, wrap64_nat _ (by omega)]

/-- What is in a alone. -/
def andN (a b : Nat) : Nat := a ^^^ (a &&& b)
theorem andN_testBit (a b i : Nat) : (andN a b).testBit i = (a.testBit i && !b.testBit i) := by
  unfold andN
  rw [Nat.testBit_xor, Nat.testBit_and]
  cases a.testBit i <;> cases b.testBit i <;> rfl

theorem i64_andNot (a b : Nat) (ha : a < 9223372036854775808) (hb : b < 9223372036854775808) : bits .andNot .i64 (a : Int) (b : Int) = ((andN a b : Nat) : Int) := by
  have h : (BitVec.ofInt 64 (a : Int) &&& ~~~ BitVec.ofInt 64 (b : Int)).toNat = andN a b := by
    apply Nat.eq_of_testBit_eq
    intro i
    rw [andN_testBit, BitVec.toNat_and, Nat.testBit_and, ofInt64 a ha]
    by_cases hi : i < 64
    · rw [BitVec.toNat_not, ofInt64 b hb, show (2 ^ 64 - 1 - b) = 2 ^ 64 - (b + 1) from by omega, Nat.testBit_two_pow_sub_succ (by omega)]
      simp [hi]
    · have : a.testBit i = false := Nat.testBit_lt_two_pow (Nat.lt_of_lt_of_le ha (Nat.le_trans (by decide : 9223372036854775808 ≤ 2 ^ 64) (Nat.pow_le_pow_right (by decide) (by omega))))
      rw [this]; rfl
  have hl : andN a b < 2 ^ 63 := Nat.xor_lt_two_pow (by omega) (Nat.lt_of_le_of_lt Nat.and_le_left (by omega))
  simp only [bits]
  show IntKind.i64.wrap ((BitVec.ofInt 64 (a : Int) &&& ~~~ BitVec.ofInt 64 (b : Int)).toNat : Int) = _
  rw [h, wrap64_nat _ (by omega)]

theorem testBit_div (l c : Nat) : (l / 2 ^ c % 2 = 1) ↔ l.testBit c = true := by
  rw [Nat.testBit_eq_decide_div_mod_eq]; simp

/-- 'x>>c & 1 == 1' as the walk writes it. -/
theorem bit_eq (l c : Nat) (hl : l < 9223372036854775808) : (bits BinOp.and IntKind.i64 ((l : Int) / 2 ^ c) 1 == 1) = l.testBit c := by
  have e : ((l : Int) / 2 ^ c) = ((l / 2 ^ c : Nat) : Int) := by simp
  have h1 : l / 2 ^ c < 9223372036854775808 := Nat.lt_of_le_of_lt (Nat.div_le_self _ _) hl
  rw [e, show (1 : Int) = ((1 : Nat) : Int) from rfl, i64_and _ _ h1 (by decide), Nat.and_one_is_mod]
  have := testBit_div l c
  cases h : l.testBit c
  · rw [h] at this
    simp at this
    simp; omega
  · rw [h] at this
    simp at this
    simp; omega

theorem eq_of_bits8 (a b : Nat) (ha : a < 256) (hb : b < 256) (h : ∀ c, c < 8 → a.testBit c = b.testBit c) : a = b := by
  apply Nat.eq_of_testBit_eq
  intro i
  by_cases hi : i < 8
  · exact h i hi
  · have pw : (2 : Nat) ^ 8 ≤ 2 ^ i := Nat.pow_le_pow_right (by decide) (by omega)
    simp only [Nat.reducePow] at pw
    rw [Nat.testBit_lt_two_pow (Nat.lt_of_lt_of_le ha pw), Nat.testBit_lt_two_pow (Nat.lt_of_lt_of_le hb pw)]

/-- A slice of integers that came in, or that the call laid: its elements. -/
def RowI (w : World) (k : IntKind) (v : Value) (xs : List Int) : Prop :=
  ∃ a cap, v = .slice a xs.length cap ∧ xs.length ≤ cap ∧ cap ≤ maxLen ∧ (xs ≠ [] → ∃ b off, a = some ⟨b, off, none⟩ ∧ ∀ i (h : i < xs.length), w.cell? ⟨b, off + i, none⟩ = some (.int k xs[i]))

theorem RowI.below {w w' : World} {k : IntKind} {v : Value} {xs : List Int} (h : RowI w k v xs) (hb : Below w.heap.size w w') : RowI w' k v xs := by
  obtain ⟨a, cap, rfl, h1, h2, h3⟩ := h
  refine ⟨a, cap, rfl, h1, h2, fun hn => ?_⟩
  obtain ⟨b, off, rfl, hc⟩ := h3 hn
  refine ⟨b, off, rfl, fun i hi => ?_⟩
  have := hc i hi
  rw [hb.cell (p := ⟨b, off + i, none⟩) (World.block_lt_of_cell? w ⟨b, off + i, none⟩ this)]
  exact this
theorem RowI.low {w : World} {k : IntKind} {v : Value} {xs : List Int} (h : RowI w k v xs) : xs ≠ [] → ∀ b off c, v = .slice (some ⟨b, off, none⟩) xs.length c → b < w.heap.size := by
  obtain ⟨a, cap, rfl, h1, h2, h3⟩ := h
  rintro hn b off c e
  obtain ⟨b', off', rfl, hc⟩ := h3 hn
  simp at e
  obtain ⟨⟨rfl, rfl⟩, rfl⟩ := e
  have hpos : 0 < xs.length := List.length_pos_iff.2 hn
  exact World.block_lt_of_cell? w ⟨b', off' + 0, none⟩ (hc 0 hpos)
theorem RowI.form {w : World} {k : IntKind} {v : Value} {xs : List Int} (h : RowI w k v xs) : ∃ a c, v = .slice a xs.length c := by
  obtain ⟨a, cap, rfl, _⟩ := h
  exact ⟨a, cap, rfl⟩

theorem cell_at {w : World} {b : Nat} {cs : Array Value} {t : TypeId} {fz : Nat × Nat} (h : w.heap[b]? = some (.cells cs t fz)) (j : Nat) (v : Value) (hv : cs[j]? = some v) : w.cell? ⟨b, j, none⟩ = some v := by
  simp [World.cell?, h, hv]
theorem free_at {w : World} {b : Nat} {cs : Array Value} {t : TypeId} (h : w.heap[b]? = some (.cells cs t (0, 0))) (j : Nat) : w.frozen? ⟨b, j, none⟩ = false := by
  simp [World.frozen?, h]
theorem new_block (w : World) (o : Obj) (n : Nat) (hn : w.heap.size = n) : (w.alloc o).heap[n]? = some o := by subst hn; exact heap_alloc_new w o
theorem keepB {B : Nat} {w w' : World} (h : Below B w w') {b : Nat} {o : Obj} (hb : b < B) (ho : w.heap[b]? = some o) : w'.heap[b]? = some o := (h.block b hb).trans ho

theorem ret_bool {a b : Bool} (h : a = b) : Ending.returned (.bool a) = .returned (.bool b) := by rw [h]
theorem ret_two {k1 k2 : IntKind} {a b c d : Int} (h : a = b) (h' : c = d) : Ending.returned (.tuple #[.int k1 a, .int k2 c]) = .returned (.tuple #[.int k1 b, .int k2 d]) := by rw [h, h']
theorem ret_int {k : IntKind} {a b : Int} (h : a = b) : Ending.returned (.int k a) = .returned (.int k b) := by rw [h]
end Go.Proofs.YtoalpdjpljapbaaDoor
