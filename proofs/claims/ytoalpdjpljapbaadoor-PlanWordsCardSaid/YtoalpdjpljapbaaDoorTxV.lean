/- Words, numbers and lines of a text, on lists of bytes. Plain Lean. -/
import Derived.Lib.Split
import Derived.Lib.SplitLaws
import Derived.Lib.IndexBytes
import Derived.Lib.IndexLaws
import Derived.Lib.ItoaNum
import Derived.Test.YtoalpdjpljapbaaDoorChecked
namespace Go.Proofs.YtoalpdjpljapbaaDoor
set_option linter.unusedVariables false
set_option linter.unusedSimpArgs false
set_option linter.unnecessarySimpa false
open Go

/-- A text's pieces between bytes c. -/
def fieldsC (c : UInt8) : List UInt8 → List (List UInt8)
  | [] => [[]]
  | b :: l => if b = c then [] :: fieldsC c l else match fieldsC c l with
    | [] => [[b]]
    | x :: r => (b :: x) :: r
theorem fieldsC_ne (c : UInt8) : ∀ l, fieldsC c l ≠ []
  | [] => by simp [fieldsC]
  | b :: l => by
    unfold fieldsC
    split
    · simp
    · split <;> simp
theorem fieldsC_cons {c b : UInt8} (h : b ≠ c) (l : List UInt8) : ∃ x r, fieldsC c l = x :: r ∧ fieldsC c (b :: l) = (b :: x) :: r := by
  cases hf : fieldsC c l with
  | nil => exact absurd hf (fieldsC_ne c l)
  | cons x r => exact ⟨x, r, rfl, by rw [fieldsC, if_neg h, hf]⟩
theorem fieldsC_free (c : UInt8) : ∀ (x : List UInt8), (∀ b ∈ x, b ≠ c) → fieldsC c x = [x]
  | [], _ => rfl
  | b :: l, h => by rw [fieldsC, if_neg (h b (by simp)), fieldsC_free c l (fun b' hb => h b' (by simp [hb]))]
theorem fieldsC_app (c : UInt8) : ∀ (x : List UInt8) (l : List UInt8), (∀ b ∈ x, b ≠ c) → fieldsC c (x ++ c :: l) = x :: fieldsC c l
  | [], l, _ => by rw [List.nil_append, fieldsC, if_pos rfl]
  | b :: x, l, h => by rw [List.cons_append, fieldsC, if_neg (h b (by simp)), fieldsC_app c x l (fun b' hb => h b' (by simp [hb]))]
theorem fieldsC_len (c : UInt8) : ∀ (l : List UInt8), (fieldsC c l).length = l.count c + 1
  | [] => by simp [fieldsC]
  | b :: l => by
    by_cases h : b = c
    · rw [fieldsC, if_pos h, List.length_cons, fieldsC_len c l, h, List.count_cons_self]
    · obtain ⟨x, r, h1, h2⟩ := fieldsC_cons h l
      have := fieldsC_len c l
      rw [h1] at this
      rw [h2, List.count_cons_of_ne h, ← this]; rfl
theorem fieldsC_mem (c : UInt8) : ∀ (l : List UInt8), ∀ x ∈ fieldsC c l, (∀ b ∈ x, b ≠ c ∧ b ∈ l) ∧ x.length ≤ l.length
  | [], x, hx => by simp [fieldsC] at hx; subst hx; simp
  | b :: l, x, hx => by
    by_cases h : b = c
    · rw [fieldsC, if_pos h] at hx
      rcases List.mem_cons.1 hx with rfl | hx
      · simp
      · have := fieldsC_mem c l x hx
        exact ⟨fun b' hb => ⟨(this.1 b' hb).1, by simp [(this.1 b' hb).2]⟩, by simp; omega⟩
    · obtain ⟨y, r, h1, h2⟩ := fieldsC_cons h l
      rw [h2] at hx
      rcases List.mem_cons.1 hx with rfl | hx
      · have := fieldsC_mem c l y (by rw [h1]; simp)
        refine ⟨fun b' hb => ?_, by simp; omega⟩
        rcases List.mem_cons.1 hb with rfl | hb
        · exact ⟨h, by simp⟩
        · exact ⟨(this.1 b' hb).1, by simp [(this.1 b' hb).2]⟩
      · have := fieldsC_mem c l x (by rw [h1]; simp [hx])
        exact ⟨fun b' hb => ⟨(this.1 b' hb).1, by simp [(this.1 b' hb).2]⟩, by simp; omega⟩
/-- The pieces joined by c. -/
def joinC (c : UInt8) : List (List UInt8) → List UInt8
  | [] => []
  | [x] => x
  | x :: y :: r => x ++ c :: joinC c (y :: r)
theorem join_fields (c : UInt8) : ∀ (l : List UInt8), joinC c (fieldsC c l) = l
  | [] => rfl
  | b :: l => by
    have ih := join_fields c l
    by_cases h : b = c
    · rw [fieldsC, if_pos h, h]
      cases hf : fieldsC c l with
      | nil => exact absurd hf (fieldsC_ne c l)
      | cons x r =>
        rw [hf] at ih
        simp only [joinC, List.nil_append]; rw [ih]
    · obtain ⟨x, r, h1, h2⟩ := fieldsC_cons h l
      rw [h1] at ih
      rw [h2]
      cases r with
      | nil => simp only [joinC] at ih ⊢; rw [ih]
      | cons y r => simp only [joinC, List.cons_append] at ih ⊢; rw [ih]
theorem fields_join (c : UInt8) : ∀ (L : List (List UInt8)), L ≠ [] → (∀ x ∈ L, ∀ b ∈ x, b ≠ c) → fieldsC c (joinC c L) = L
  | [], h, _ => absurd rfl h
  | [x], _, h => fieldsC_free c x (h x (by simp))
  | x :: y :: r, _, h => by
    rw [joinC, fieldsC_app c x _ (h x (by simp)), fields_join c (y :: r) (by simp) (fun z hz => h z (by simp [hz]))]
theorem indexByte_at (c : UInt8) : ∀ (x r : List UInt8), c ∉ x → Lib.indexByte (x ++ c :: r) c = x.length
  | [], r, _ => by simp [Lib.indexByte]
  | b :: x, r, h => by
    have hb : (b == c) = false := by simp; intro e; exact h (by simp [e])
    have ih := indexByte_at c x r (fun hc => h (by simp [hc]))
    rw [List.cons_append, Lib.indexByte, hb, ih]
    have : (((x.length : Nat) : Int) == -1) = false := by simp
    rw [this]
    simp
/-- The library's pieces are these. -/
theorem splitK_one (c : UInt8) : ∀ (l : List UInt8), Lib.splitK [c] 0 (l.count c) l = fieldsC c l := by
  have key : ∀ (n : Nat) (l : List UInt8), l.length ≤ n → Lib.splitK [c] 0 (l.count c) l = fieldsC c l := by
    intro n
    induction n with
    | zero =>
      intro l hl
      have : l = [] := List.eq_nil_of_length_eq_zero (by omega)
      subst this; rfl
    | succ n ih =>
      intro l hl
      by_cases hc : c ∈ l
      · obtain ⟨x, r, rfl, hx⟩ := List.eq_append_cons_of_mem hc
        have h1 : (x ++ c :: r).count c = r.count c + 1 := by
          rw [List.count_append, List.count_eq_zero.2 hx, List.count_cons_self]; omega
        have h2 : Lib.index (x ++ c :: r) [c] = (x.length : Int) := by rw [Lib.index_one, indexByte_at c x r hx]
        have h3 : (((x.length : Nat) : Int) == -1) = false := by simp
        rw [h1, Lib.splitK, h2, h3, fieldsC_app c x r (fun b hb e => hx (e ▸ hb))]
        simp only [Bool.false_eq_true, if_false, Int.toNat_natCast, Nat.add_zero, List.length_singleton]
        rw [List.take_left', show x.length + 1 = (x ++ [c]).length by simp, show x ++ c :: r = (x ++ [c]) ++ r by simp, List.drop_left]
        · rw [ih r (by simp at hl; omega)]
        · rfl
      · have h0 : l.count c = 0 := List.count_eq_zero.2 hc
        rw [h0, fieldsC_free c l (fun b hb e => hc (e ▸ hb))]
        rfl
  exact fun l => key _ l (Nat.le_refl _)
/-- A number of a text. -/
def isDig (b : UInt8) : Bool := decide (48 ≤ b.toNat) && decide (b.toNat ≤ 57)
def numGo (n : Nat) (s : List UInt8) : Nat := s.foldl (fun n b => 10 * n + (b.toNat - 48)) n
def numW (s : List UInt8) : Bool := decide (s ≠ []) && (decide (s.length ≤ 9) && !(decide (1 < s.length) && decide (s.head? = some 48)))
def numB (s : List UInt8) : Bool := numW s && s.all isDig
def numI (s : List UInt8) : Nat := if numB s then numGo 0 s else 0
theorem isDig_iff (b : UInt8) : isDig b = true ↔ 48 ≤ b.toNat ∧ b.toNat ≤ 57 := by simp [isDig]
theorem numGo_app (n : Nat) (s : List UInt8) (b : UInt8) : numGo n (s ++ [b]) = 10 * numGo n s + (b.toNat - 48) := by simp [numGo]
theorem numGo_lt : ∀ (s : List UInt8) (n : Nat), s.all isDig = true → numGo n s < (n + 1) * 10 ^ s.length
  | [], n, _ => by simp [numGo]
  | b :: s, n, h => by
    simp only [List.all_cons, Bool.and_eq_true, isDig_iff] at h
    have ih := numGo_lt s (10 * n + (b.toNat - 48)) h.2
    have e : numGo n (b :: s) = numGo (10 * n + (b.toNat - 48)) s := rfl
    rw [e, List.length_cons, Nat.pow_succ, show (n + 1) * (10 ^ s.length * 10) = ((n + 1) * 10) * 10 ^ s.length by rw [Nat.mul_comm (10 ^ s.length) 10, Nat.mul_assoc]]
    exact Nat.lt_of_lt_of_le ih (Nat.mul_le_mul_right _ (by omega))
theorem numI_lt (s : List UInt8) : numI s < 1000000000 := by
  unfold numI
  split
  · rename_i h
    simp only [numB, numW, Bool.and_eq_true, decide_eq_true_eq] at h
    have h1 := numGo_lt s 0 h.2
    have h2 : 10 ^ s.length ≤ 10 ^ 9 := Nat.pow_le_pow_right (by omega) h.1.2.1
    omega
  · omega
end Go.Proofs.YtoalpdjpljapbaaDoor
