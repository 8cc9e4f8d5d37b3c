/- Opening the arguments of a law: integers, strings, slices of integers. -/
import Derived.Test.YtoalpdjpljapbaaDoorBits
namespace Go.Proofs.YtoalpdjpljapbaaDoor
set_option linter.unusedVariables false
set_option linter.unusedSimpArgs false
set_option linter.unnecessarySimpa false
open Go.ChangeShapes Go.WideShapes Go.ChangeAt Go.RowKit

theorem open_rowI {H : Type} {enc : TypeId × Value → H} {P : Program} {W : World} {base : Nat} {t e : TypeId} {k : IntKind} (ht : P.underlying t = some (.slice e)) (he : P.underlying e = some (.int k)) (hc : P.cellsOf e = 1)
    {v : Value} {d : DataW H} {p : List MemPlace} (hok : Value.okWide P W .any base t v) (h : DataW.Trod enc P W 0 (fun _ => true) true t v d p) :
    ∃ xs : List Int, RowI W k v xs ∧ (∀ n ∈ xs, (Lit.int k n).wf = true) ∧ (xs = [] ∨ ∃ a b : List (DataW H), d = .slice a b ∧ xs.length ≤ a.length + b.length) := by
  obtain ⟨a, len, cap, rfl⟩ := okWide_slice ht hok
  obtain ⟨fuel, hf⟩ := h
  rcases open_ints ht he hc hf with ⟨hcs, hx⟩ | ⟨ad, len', cap', zs, hcs, _, hl, hm, hz, hx, hcell, hwz⟩
  · simp [Value.cells] at hcs
    obtain ⟨rfl, rfl, rfl⟩ := hcs
    exact ⟨[], ⟨none, 0, rfl, Nat.le_refl _, by decide, by simp⟩, by simp, .inl rfl⟩
  · simp [Value.cells] at hcs
    obtain ⟨rfl, rfl, rfl⟩ := hcs
    simp only [if_true] at hz
    refine ⟨zs.take len, ⟨some ad, cap, ?_, ?_, hm, fun hn => ?_⟩, fun n hn => hwz n (List.mem_of_mem_take hn), .inr ⟨lits k (zs.take len), lits k (zs.drop len), ?_, ?_⟩⟩
    · simp [hz, Nat.min_eq_left hl]
    · simp [hz]; omega
    · obtain ⟨b, off, spot⟩ := ad
      have hpos : 0 < zs.length := by
        cases zs with
        | nil => simp at hn
        | cons => simp
      have h0 := hcell 0 hpos
      have hspot : spot = none := by simpa [Addr.add] using World.cell?_spot h0
      subst hspot
      refine ⟨b, off, rfl, fun i hi => ?_⟩
      have hi2 : i < zs.length := by simp at hi; omega
      have := hcell i hi2
      rw [show (⟨b, off, none⟩ : Addr).add i = ⟨b, off + i, none⟩ from by unfold Addr.add; split <;> simp_all] at this
      rw [List.getElem_take]
      simpa [hi2] using this
    · exact (Prod.mk.inj hx).1
    · simp [lits]

theorem reach_rowI {H : Type} {P : Program} {ts : List TypeId} {ds : List (DataW H)} (hsz : (DataW.weightsEach P ts ds).all (· ≤ reachBytes) = true) {j : Nat} {t e : TypeId} (ht : P.underlying t = some (.slice e)) {d : DataW H} {xs : List Int}
    (hj : ts[j]? = some t) (hd : ds[j]? = some d) (h : xs = [] ∨ ∃ a b : List (DataW H), d = .slice a b ∧ xs.length ≤ a.length + b.length) : xs.length * P.bytesOf e ≤ 140737488351232 := by
  rcases h with rfl | ⟨a, b, rfl, hl⟩
  · simp
  · have := sized_slice hsz hj hd ht
    simp only [reachBytes] at this
    exact Nat.le_trans (Nat.mul_le_mul_right _ hl) this
theorem reach_string {H : Type} {P : Program} {ts : List TypeId} {ds : List (DataW H)} (hsz : (DataW.weightsEach P ts ds).all (· ≤ reachBytes) = true) {j : Nat} {t : TypeId} {bytes : List UInt8}
    (hj : ts[j]? = some t) (hd : ds[j]? = some (.lit (.string bytes))) : bytes.length ≤ 140737488351232 := sized_string hsz hj hd
end Go.Proofs.YtoalpdjpljapbaaDoor
