/- One text each: events of kinds that there are have one text just if they are the same (plain). -/
import Derived.Test.YtcffdceadmdecaaDoorTrText2
namespace Go.Proofs.YtcffdceadmdecaaDoor
set_option linter.unusedVariables false
set_option linter.unusedSimpArgs false
set_option linter.unnecessarySimpa false
open Go.Lib

def valL (l : List UInt8) : Nat := l.foldl (fun a c => a * 10 + (c.toNat - 48)) 0
theorem ofNat_toNat (k : Nat) (h : k < 256) : (UInt8.ofNat k).toNat = k := by simp; omega
theorem dec_val (n : Nat) : valL (decDigits n) = n := by
  induction n using Nat.strongRecOn with
  | _ n ih =>
    by_cases h : n < 10
    · rw [decDigits_one h]
      simp only [valL, List.foldl_cons, List.foldl_nil]
      rw [ofNat_toNat _ (by omega)]; omega
    · have e : decDigits n = decDigits (n / 10) ++ [UInt8.ofNat (48 + n % 10)] := by rw [decDigits, dif_neg h]
      rw [e]
      have hi := ih (n / 10) (by omega)
      unfold valL at *
      rw [List.foldl_append, hi]
      simp only [List.foldl_cons, List.foldl_nil]
      rw [ofNat_toNat _ (by omega)]; omega
theorem dec_inj {a b : Nat} (h : decDigits a = decDigits b) : a = b := by
  rw [← dec_val a, ← dec_val b, h]
theorem dec_ge (n : Nat) : ∀ c ∈ decDigits n, 48 ≤ c.toNat ∧ c.toNat ≤ 57 := by
  induction n using Nat.strongRecOn with
  | _ n ih =>
    intro c hc
    by_cases h : n < 10
    · rw [decDigits_one h] at hc
      obtain rfl := List.mem_singleton.1 hc
      rw [ofNat_toNat _ (by omega)]; omega
    · have e : decDigits n = decDigits (n / 10) ++ [UInt8.ofNat (48 + n % 10)] := by rw [decDigits, dif_neg h]
      rw [e] at hc
      rcases List.mem_append.1 hc with hc | hc
      · exact ih (n / 10) (by omega) c hc
      · obtain rfl := List.mem_singleton.1 hc
        rw [ofNat_toNat _ (by omega)]; omega
theorem dec_no (n : Nat) (x : UInt8) (hx : x.toNat < 48 ∨ 57 < x.toNat) : x ∉ decDigits n := fun h => by have := dec_ge n x h; omega
theorem dec_ne (n : Nat) : decDigits n ≠ [] := fun h => by have := decDigits_length n; rw [h] at this; have := nDigits_pos n; simp at *; omega
theorem itoa_no (n : Int) : (32 : UInt8) ∉ itoa n := by
  unfold itoa
  split
  · intro h
    rcases List.mem_cons.1 h with h | h
    · exact absurd h (by decide)
    · exact dec_no _ 32 (.inl (by decide)) h
  · exact dec_no _ 32 (.inl (by decide))
theorem itoa_inj {a b : Int} (h : itoa a = itoa b) : a = b := by
  unfold itoa at h
  have hne : ∀ (n : Nat) (l : List UInt8), decDigits n ≠ 45 :: l := fun n l e => dec_no n 45 (.inl (by decide)) (by rw [e]; simp)
  split at h
  · rename_i ha
    split at h
    · rename_i hb
      injection h with _ h
      have := dec_inj h
      omega
    · exact absurd h.symm (hne _ _)
  · rename_i ha
    split at h
    · exact absurd h (hne _ _)
    · rename_i hb
      have := dec_inj h
      omega
/-- Up to the first x. -/
theorem split_at (x : UInt8) : ∀ (a b s t : List UInt8), x ∉ a → x ∉ b → a ++ x :: s = b ++ x :: t → a = b ∧ s = t
  | [], [], s, t, _, _, h => by simpa using h
  | [], y :: b, s, t, _, hb, h => by
    simp only [List.nil_append, List.cons_append, List.cons.injEq] at h
    exact absurd (by rw [h.1]; simp) hb
  | y :: a, [], s, t, ha, _, h => by
    simp only [List.nil_append, List.cons_append, List.cons.injEq] at h
    exact absurd (by rw [h.1]; simp) ha
  | y :: a, z :: b, s, t, ha, hb, h => by
    simp only [List.cons_append, List.cons.injEq] at h
    have := split_at x a b s t (fun q => ha (by simp [q])) (fun q => hb (by simp [q])) h.2
    exact ⟨by rw [h.1, this.1], this.2⟩
/-- A tail that is empty or begins with x. -/
def Tail (x : UInt8) (s : List UInt8) : Prop := s = [] ∨ ∃ r, s = x :: r
theorem split_tail (x : UInt8) (a b s t : List UInt8) (ha : x ∉ a) (hb : x ∉ b) (hs : Tail x s) (ht : Tail x t) (h : a ++ s = b ++ t) : a = b ∧ s = t := by
  rcases hs with rfl | ⟨s, rfl⟩ <;> rcases ht with rfl | ⟨t, rfl⟩
  · simp at h; exact ⟨h, rfl⟩
  · rw [List.append_nil] at h
    exact absurd (by rw [h]; simp) ha
  · rw [List.append_nil] at h
    exact absurd (by rw [← h]; simp) hb
  · have := split_at x a b s t ha hb h
    exact ⟨this.1, by rw [this.2]⟩
theorem regsL_tail : ∀ (l : List Nat) (i : Nat), Tail 32 (regsL i l)
  | [], _ => .inl rfl
  | u :: l, i => by
    simp only [regsL]
    by_cases h : u = 0
    · rw [if_pos h]; exact regsL_tail l (i + 1)
    · rw [if_neg h]; exact .inr ⟨_, rfl⟩
/-- The first register that is told. -/
theorem regsL_first : ∀ (l : List Nat) (i : Nat), regsL i l = [] ∨ ∃ j u r, i ≤ j ∧ regsL i l = regL j u ++ r ∧ Tail 32 r
  | [], _ => .inl rfl
  | u :: l, i => by
    simp only [regsL]
    by_cases h : u = 0
    · rw [if_pos h, List.nil_append]
      rcases regsL_first l (i + 1) with h | ⟨j, v, r, h1, h2, h3⟩
      · exact .inl h
      · exact .inr ⟨j, v, r, by omega, h2, h3⟩
    · rw [if_neg h]; exact .inr ⟨i, u, _, Nat.le_refl _, rfl, regsL_tail l (i + 1)⟩
theorem regL_split {i j u v : Nat} {s t : List UInt8} (hs : Tail 32 s) (ht : Tail 32 t) (h : regL i u ++ s = regL j v ++ t) : i = j ∧ u = v ∧ s = t := by
  simp only [regL, List.append_assoc, List.cons_append, List.nil_append, List.cons.injEq, true_and] at h
  have h1 := split_at 61 _ _ _ _ (dec_no i 61 (.inr (by decide))) (dec_no j 61 (.inr (by decide))) h
  have h2 := split_tail 32 _ _ s t (dec_no u 32 (.inl (by decide))) (dec_no v 32 (.inl (by decide))) hs ht h1.2
  exact ⟨dec_inj h1.1, dec_inj h2.1, h2.2⟩
theorem regL_ne (i u : Nat) (r : List UInt8) : regL i u ++ r ≠ [] := by simp [regL]
theorem regsL_inj : ∀ (l m : List Nat) (i : Nat), l.length = m.length → regsL i l = regsL i m → l = m
  | [], [], _, _, _ => rfl
  | u :: l, v :: m, i, hl, h => by
    have hl' : l.length = m.length := by simpa using hl
    simp only [regsL] at h
    by_cases hu : u = 0 <;> by_cases hv : v = 0
    · rw [if_pos hu, if_pos hv] at h
      rw [regsL_inj l m (i + 1) hl' h, hu, hv]
    · rw [if_pos hu, if_neg hv, List.nil_append] at h
      rcases regsL_first l (i + 1) with h0 | ⟨j, w, r, h1, h2, h3⟩
      · rw [h0] at h; exact absurd h.symm (regL_ne _ _ _)
      · rw [h2] at h
        have := regL_split h3 (regsL_tail m (i + 1)) h
        omega
    · rw [if_neg hu, if_pos hv, List.nil_append] at h
      rcases regsL_first m (i + 1) with h0 | ⟨j, w, r, h1, h2, h3⟩
      · rw [h0] at h; exact absurd h (regL_ne _ _ _)
      · rw [h2] at h
        have := regL_split (regsL_tail l (i + 1)) h3 h
        omega
    · rw [if_neg hu, if_neg hv] at h
      obtain ⟨_, e1, e2⟩ := regL_split (regsL_tail l (i + 1)) (regsL_tail m (i + 1)) h
      rw [e1, regsL_inj l m (i + 1) hl' e2]
theorem word_no (k : Int) : (32 : UInt8) ∉ wordL k := by
  unfold wordL
  split
  · rename_i h
    obtain ⟨n, rfl⟩ : ∃ n : Nat, k = n := ⟨k.toNat, by omega⟩
    have hn : n < 7 := by omega
    simp only [Int.toNat_natCast]
    match n, hn with
    | 0, _ | 1, _ | 2, _ | 3, _ | 4, _ | 5, _ | 6, _ => decide
    | n + 7, h => omega
  · decide
theorem word_inj (a b : Nat) (ha : 1 ≤ a ∧ a ≤ 6) (hb : 1 ≤ b ∧ b ≤ 6) (h : wordL a = wordL b) : a = b := by
  unfold wordL at h
  rw [if_pos (by omega), if_pos (by omega)] at h
  simp only [Int.toNat_natCast] at h
  have key : ∀ x : Fin 7, ∀ y : Fin 7, wordsL.getD x [] = wordsL.getD y [] → x = y := by decide
  have := key ⟨a, by omega⟩ ⟨b, by omega⟩ h
  exact congrArg Fin.val this
theorem textL_inj (x y : Ev) (hx : 1 ≤ x.k ∧ x.k ≤ 6) (hy : 1 ≤ y.k ∧ y.k ≤ 6) (ox : x.rs.length = 16) (oy : y.rs.length = 16) (h : textL x = textL y) : x = y := by
  simp only [textL, headL, numL, unsL, List.append_assoc, List.cons_append] at h
  obtain ⟨h1, h⟩ := split_at 32 _ _ _ _ (word_no _) (word_no _) h
  obtain ⟨h2, h⟩ := split_at 32 _ _ _ _ (itoa_no _) (itoa_no _) h
  obtain ⟨h3, h⟩ := split_at 32 _ _ _ _ (dec_no _ 32 (.inl (by decide))) (dec_no _ 32 (.inl (by decide))) h
  obtain ⟨h4, h⟩ := split_at 32 _ _ _ _ (dec_no _ 32 (.inl (by decide))) (dec_no _ 32 (.inl (by decide))) h
  obtain ⟨h5, h6⟩ := split_tail 32 _ _ _ _ (dec_no _ 32 (.inl (by decide))) (dec_no _ 32 (.inl (by decide))) (regsL_tail _ _) (regsL_tail _ _) h
  have e6 := regsL_inj _ _ 0 (by rw [ox, oy]) h6
  obtain ⟨k, ck, cd, vl, pc, rs⟩ := x
  obtain ⟨k', ck', cd', vl', pc', rs'⟩ := y
  simp only at *
  obtain ⟨a, rfl⟩ : ∃ a : Nat, k = a := ⟨k.toNat, by omega⟩
  obtain ⟨b, rfl⟩ : ∃ b : Nat, k' = b := ⟨k'.toNat, by omega⟩
  have e1 := word_inj a b (by omega) (by omega) h1
  rw [e1, itoa_inj h2, dec_inj h3, dec_inj h4, dec_inj h5, e6]
#print axioms textL_inj
end Go.Proofs.YtcffdceadmdecaaDoor
