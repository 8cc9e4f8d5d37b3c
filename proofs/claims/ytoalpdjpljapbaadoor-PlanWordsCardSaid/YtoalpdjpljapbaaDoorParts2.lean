/- Package parts: Free. -/
import Derived.Test.YtoalpdjpljapbaaDoorParts
namespace Go.Proofs.YtoalpdjpljapbaaDoor
set_option linter.unusedVariables false
set_option linter.unusedSimpArgs false
set_option linter.unnecessarySimpa false
open Go.RowKit Go.Shelf
set_option maxHeartbeats 400000
set_option maxRecDepth 100000
attribute [local go_sem] Oper.semAt_some wide_fn
attribute [local simp] wide_fn

theorem objAt_own {β : Type} (b : Nat) (t : TypeId) (cs : List Value) : Go.Own (fun (_ : β) W => ObjAt W b t cs) := fun s X Y row hs hg hrow =>
  (hg.block b (ObjAt.lt hs) (fun e => by
    obtain ⟨o, ho, hc⟩ := hrow b e.symm
    rw [show X.heap[b]? = _ from hs] at ho
    cases ho
    cases hc)).trans hs
theorem boxed_drew {W : World} {B : Nat} {t : TypeId} {v : Value} (h : Boxed W B t v) : Boxed W.drew B t v := h
theorem none_no (B tt cap n : Nat) (a : Option Addr) (R : List Rn) (w : World) (h : TSt w B tt a cap n R) : Calls Tryd.prog 84 #[.pointer (some ⟨tt, 0, none⟩)] w fun e w' => e = .returned (.bool false) ∧ w = w' := by
  have c2 := h.obj.cell 2 _ rfl
  clear h
  go_enter Tryd.func84, Tryd.ntmps84
  go_wp2
  go_ret
  exact ⟨rfl, rfl⟩
theorem end_any (f n who : Nat) (w : World) (hf : f ≤ 64) (hn : n ≤ 64) : Calls Tryd.prog 99 #[runV (f, n, who)] w fun e w' => e = .returned (.int .i64 ((f : Int) + n)) ∧ w.alloc (.cells #[.int .i64 f, .int .i64 n, .int .i64 who] 132) = w' := by
  unfold runV
  go_enter Tryd.func99, Tryd.ntmps99
  go_wp2
  go_ret
  exact ⟨rfl, rfl⟩
def freeV (n : Nat) (R : List Rn) : Int := n - (R.map (fun r => r.2.1)).sum
theorem freeV_snoc (n : Nat) (R : List Rn) (r : Rn) : freeV n (R ++ [r]) = freeV n R - r.2.1 := by simp [freeV]; omega
theorem sum_le : ∀ (R : List Rn) (lo n : Nat), lo ≤ n → (∀ r ∈ R, 1 ≤ r.2.1 ∧ lo ≤ r.1 ∧ r.1 + r.2.1 ≤ n) → R.Pairwise (fun r s => r.1 + r.2.1 ≤ s.1) → (R.map (fun r => r.2.1)).sum + lo ≤ n
  | [], lo, n, h, _, _ => by simpa using h
  | r :: R, lo, n, hl, h, hp => by
    rw [List.pairwise_cons] at hp
    have h0 := h r (by simp)
    have ih := sum_le R (r.1 + r.2.1) n h0.2.2 (fun s hs => ⟨(h s (by simp [hs])).1, hp.1 s hs, (h s (by simp [hs])).2.2⟩) hp.2
    simp only [List.map_cons, List.sum_cons]
    omega
theorem Okr.sum {n : Nat} {R : List Rn} (h : Okr n R) : (R.map (fun r => r.2.1)).sum ≤ n := by
  have := sum_le R 0 n (Nat.zero_le _) (fun r hr => ⟨(h.each r hr).1, Nat.zero_le _, (h.each r hr).2.1⟩) h.sorted
  omega
theorem Okr.take {n : Nat} {R : List Rn} (h : Okr n R) (k : Nat) : Okr n (R.take k) := ⟨h.n64, fun r hr => h.each r (List.mem_of_mem_take hr), h.sorted.sublist (List.take_sublist _ _)⟩
theorem freeV_bd {n : Nat} {R : List Rn} (h : Okr n R) : 0 ≤ freeV n R ∧ freeV n R ≤ 64 := by
  have := h.sum; have := h.n64
  unfold freeV
  omega
theorem freeV_any (n : Nat) : ∀ (R : List Rn), (∀ r ∈ R, r.2.1 ≤ 64) → -(64 * (R.length : Int)) ≤ freeV n R ∧ freeV n R ≤ n := by
  intro R h
  have : (R.map (fun r => r.2.1)).sum ≤ 64 * R.length := by
    induction R with
    | nil => simp
    | cons r R ih =>
      have h0 := h r (by simp)
      have := ih (fun s hs => h s (by simp [hs]))
      simp only [List.map_cons, List.sum_cons, List.length_cons]
      omega
  unfold freeV
  omega
end Go.Proofs.YtoalpdjpljapbaaDoor
