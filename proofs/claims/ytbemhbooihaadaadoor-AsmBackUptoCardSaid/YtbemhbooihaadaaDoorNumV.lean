/- Numbers as digits, there and back: plain lemmas. -/
import Derived.Test.YtbemhbooihaadaaDoorTxV
import Derived.Lib.ItoaNum
import Derived.Lib.ItoaMem
import Derived.Lib.ItoaLen
namespace Go.Proofs.YtbemhbooihaadaaDoor
set_option linter.unusedVariables false
set_option linter.unusedSimpArgs false
set_option linter.unnecessarySimpa false
open Go.RowKit
theorem dd_step (n : Nat) (h : ¬ n < 10) : Lib.decDigits n = Lib.decDigits (n / 10) ++ [UInt8.ofNat (48 + n % 10)] := by
  rw [Lib.decDigits, dif_neg h]
theorem u8_toNat (k : Nat) (h : k < 256) : (UInt8.ofNat k).toNat = k := by
  simp [Nat.mod_eq_of_lt h]
theorem dd_all : ∀ n : Nat, (Lib.decDigits n).all isDig = true := by
  intro n
  induction n using Nat.strongRecOn with
  | _ n ih =>
    by_cases h : n < 10
    · rw [Lib.decDigits_one h]
      simp only [List.all_cons, List.all_nil, Bool.and_true]
      rw [isDig_iff, u8_toNat _ (by omega)]; omega
    · rw [dd_step n h, List.all_append, ih (n / 10) (by omega)]
      simp only [List.all_cons, List.all_nil, Bool.and_true, Bool.true_and]
      rw [isDig_iff, u8_toNat _ (by omega)]; omega
theorem dd_go : ∀ n : Nat, numGo 0 (Lib.decDigits n) = n := by
  intro n
  induction n using Nat.strongRecOn with
  | _ n ih =>
    by_cases h : n < 10
    · rw [Lib.decDigits_one h]
      simp only [numGo, List.foldl_cons, List.foldl_nil]
      rw [u8_toNat _ (by omega)]; omega
    · rw [dd_step n h, numGo_app, ih (n / 10) (by omega), u8_toNat _ (by omega)]; omega
theorem dd_ne (n : Nat) : Lib.decDigits n ≠ [] := by
  intro h
  have := Lib.decDigits_length n
  rw [h] at this
  have := Lib.nDigits_pos n
  simp at *; omega
theorem dd_head : ∀ n : Nat, 0 < n → (Lib.decDigits n).head? ≠ some 48 := by
  intro n
  induction n using Nat.strongRecOn with
  | _ n ih =>
    intro hn
    by_cases h : n < 10
    · rw [Lib.decDigits_one h]
      simp only [List.head?_cons]
      intro e
      injection e with e
      have := congrArg UInt8.toNat e
      rw [u8_toNat _ (by omega)] at this
      simp at this; omega
    · rw [dd_step n h]
      have h2 := ih (n / 10) (by omega) (by omega)
      cases hd : Lib.decDigits (n / 10) with
      | nil => exact absurd hd (dd_ne _)
      | cons x r => rw [hd] at h2; exact h2
theorem dd_len : ∀ (k n : Nat), 1 ≤ k → n < 10 ^ k → (Lib.decDigits n).length ≤ k
  | 0, n, h, _ => by omega
  | k + 1, n, _, hn => by
    by_cases h : n < 10
    · rw [Lib.decDigits_one h]; simp
    · rw [dd_step n h, List.length_append]
      have hk : 1 ≤ k := by
        rcases Nat.eq_zero_or_pos k with h0 | h0
        · subst h0; simp at hn; omega
        · exact h0
      have := dd_len k (n / 10) hk (by rw [Nat.pow_succ] at hn; omega)
      simp; omega
theorem dd_one (n : Nat) (h : 1 < (Lib.decDigits n).length) : 0 < n := by
  rcases Nat.eq_zero_or_pos n with h0 | h0
  · subst h0; rw [Lib.decDigits_one (by omega)] at h; simp at h
  · exact h0
/-- Digits without a zero ahead are those of their number. -/
theorem go_dd : ∀ (m : Nat) (s : List UInt8), s.length = m → s ≠ [] → s.all isDig = true → (1 < s.length → s.head? ≠ some 48) → Lib.decDigits (numGo 0 s) = s := by
  intro m
  induction m with
  | zero => intro s h hne; exact absurd (List.eq_nil_of_length_eq_zero h) hne
  | succ m ih =>
    intro s hl hne hall hhd
    rcases List.eq_nil_or_concat s with h | ⟨t, b, rfl⟩
    · exact absurd h hne
    · rw [List.concat_eq_append] at *
      rw [List.all_append, Bool.and_eq_true] at hall
      obtain ⟨ht, hb⟩ := hall
      simp only [List.all_cons, List.all_nil, Bool.and_true] at hb
      rw [isDig_iff] at hb
      rw [List.length_append] at hl hhd
      simp only [List.length_cons, List.length_nil] at hl hhd
      rw [numGo_app]
      have hbb : UInt8.ofNat (48 + (b.toNat - 48)) = b := by
        rw [← UInt8.toNat_inj, u8_toNat _ (by omega)]; omega
      by_cases hte : t = []
      · subst hte
        have : 10 * numGo 0 [] + (b.toNat - 48) = b.toNat - 48 := by simp [numGo]
        rw [this, Lib.decDigits_one (by omega), hbb]; rfl
      · have hpos : 0 < t.length := List.length_pos_iff.2 hte
        have hth : t.head? ≠ some 48 := by
          have := hhd (by omega)
          cases t with
          | nil => exact absurd rfl hte
          | cons x r => exact this
        have hI := ih t (by omega) hte ht (fun _ => hth)
        have hm : 1 ≤ numGo 0 t := by
          rcases Nat.eq_zero_or_pos (numGo 0 t) with h0 | h0
          · rw [h0, Lib.decDigits_one (by omega)] at hI
            rw [← hI] at hth
            exact absurd rfl hth
          · exact h0
        rw [dd_step _ (by omega)]
        have e1 : (10 * numGo 0 t + (b.toNat - 48)) / 10 = numGo 0 t := by omega
        have e2 : (10 * numGo 0 t + (b.toNat - 48)) % 10 = b.toNat - 48 := by omega
        rw [e1, e2, hI, hbb]
/-- A number of at most nine digits: read, then written. -/
theorem num_dd (n : Nat) (h : n < 1000000000) : numB (Lib.decDigits n) = true ∧ numI (Lib.decDigits n) = n := by
  have hw : numW (Lib.decDigits n) = true := by
    unfold numW
    have h1 := dd_len 9 n (by omega) (by omega)
    rw [decide_eq_true (dd_ne n), decide_eq_true h1]
    by_cases hl : 1 < (Lib.decDigits n).length
    · rw [decide_eq_false (dd_head n (dd_one n hl))]; simp
    · rw [decide_eq_false hl]; rfl
  have hb : numB (Lib.decDigits n) = true := by rw [numB, hw, dd_all]; rfl
  exact ⟨hb, by rw [numI, if_pos hb, dd_go]⟩
theorem dd_num {s : List UInt8} (h : numB s = true) : Lib.decDigits (numI s) = s := by
  rw [numI, if_pos h]
  unfold numB numW at h
  rw [Bool.and_eq_true, Bool.and_eq_true, Bool.and_eq_true, Bool.not_eq_true', Bool.and_eq_false_iff] at h
  obtain ⟨⟨h1, h2, h3⟩, h4⟩ := h
  refine go_dd _ s rfl (of_decide_eq_true h1) h4 (fun hl => ?_)
  rcases h3 with h3 | h3
  · exact absurd hl (of_decide_eq_false h3)
  · exact of_decide_eq_false h3
end Go.Proofs.YtbemhbooihaadaaDoor
