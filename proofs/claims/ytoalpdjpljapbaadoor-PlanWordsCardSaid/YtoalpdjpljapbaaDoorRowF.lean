/- An argument that is a slice of structs (whatever their fields), as the cells that it shows: plain lemmas. -/
import Derived.Test.YtoalpdjpljapbaaDoorFlat
import Derived.Test.YtoalpdjpljapbaaDoorSl
namespace Go.Proofs.YtoalpdjpljapbaaDoor
set_option linter.unusedVariables false
set_option linter.unusedSimpArgs false
set_option linter.unnecessarySimpa false
open Go.ChangeShapes Go.WideShapes Go.ChangeAt Go.RowKit

theorem flatten_get {N : Nat} : ∀ (rs : List (List Value)) (i j : Nat), (∀ r ∈ rs, r.length = N) → (hi : i < rs.length) → j < N → rs.flatten[i * N + j]? = (rs[i])[j]?
  | [], i, j, _, hi, _ => by simp at hi
  | r :: rs, 0, j, h, _, hj => by
    have hr : r.length = N := h r (by simp)
    rw [List.flatten_cons, List.getElem?_append_left (by omega)]
    simp
  | r :: rs, i + 1, j, h, hi, hj => by
    have hr : r.length = N := h r (by simp)
    rw [List.flatten_cons, List.getElem?_append_right (by rw [Nat.add_mul]; omega), show (i + 1) * N + j - r.length = i * N + j from by rw [Nat.add_mul]; omega]
    exact flatten_get rs i j (fun r' h' => h r' (by simp [h'])) (by simpa using hi) hj
theorem flatten_len {N : Nat} : ∀ (rs : List (List Value)), (∀ r ∈ rs, r.length = N) → rs.flatten.length = rs.length * N
  | [], _ => by simp
  | r :: rs, h => by
    rw [List.flatten_cons, List.length_append, h r (by simp), flatten_len rs (fun r' h' => h r' (by simp [h'])), List.length_cons, Nat.add_mul]; omega
/-- Cells that read as elements, one by one, are just these elements' cells. -/
theorem rows_of {α : Type} (enc : α → List Value) (Q : α → Prop) (N : Nat) (henc : ∀ a, (enc a).length = N) : ∀ (len : Nat) (xs : List Value), xs.length = len * N → (∀ i, i < len → ∃ a, Q a ∧ ∀ j, j < N → xs[i * N + j]? = (enc a)[j]?) → ∃ l : List α, l.length = len ∧ xs = (l.map enc).flatten ∧ ∀ a ∈ l, Q a
  | 0, xs, hl, _ => ⟨[], rfl, by simpa using hl, by simp⟩
  | len + 1, xs, hl, h => by
    obtain ⟨a, hq, ha⟩ := h 0 (by omega)
    have e : xs = enc a ++ xs.drop N := by
      apply List.ext_getElem?
      intro j
      by_cases hj : j < N
      · rw [List.getElem?_append_left (by rw [henc]; exact hj), ← ha j hj]; simp
      · rw [List.getElem?_append_right (by rw [henc]; omega), henc, List.getElem?_drop]; congr 1; omega
    obtain ⟨l, h1, h2, h3⟩ := rows_of enc Q N henc len (xs.drop N) (by rw [List.length_drop, hl, Nat.add_mul]; omega) (fun i hi => by
      obtain ⟨a', hq', ha'⟩ := h (i + 1) (by omega)
      refine ⟨a', hq', fun j hj => ?_⟩
      rw [← ha' j hj, List.getElem?_drop]; congr 1; rw [Nat.add_mul]; omega)
    exact ⟨a :: l, by simp [h1], by rw [List.map_cons, List.flatten_cons, ← h2]; exact e, by simp only [List.mem_cons, forall_eq_or_imp]; exact ⟨hq, h3⟩⟩
theorem addr_add (a : Addr) (i j : Nat) : (a.add i).add j = a.add (i + j) := by
  unfold Addr.add
  by_cases hi : i = 0 <;> by_cases hj : j = 0 <;> simp [hi, hj, Nat.add_assoc]
theorem open_rowF0 {H : Type} {enc : TypeId × Value → H} {P : Program} {W : World} {t e : TypeId} {n N : Nat} (ht : P.underlying t = some (.slice e)) (hok : flatOk P n e = true) (hC : P.cellsOf e = N) (hN : 0 < N) {v : Value} {d : DataW H} {p : List MemPlace}
    (hv : ∃ a len cap, v = .slice a len cap) (h : DataW.Trod enc P W 0 (fun _ => true) true t v d p) :
    ∃ (a : Option Addr) (len cap : Nat) (xs : List Value), v = .slice a len cap ∧ len ≤ cap ∧ cap ≤ maxLen ∧ Rd W N a len xs ∧
      (∀ i, i < len → ∀ j lt, j < N → (leaves P n e)[j]? = some lt → ∃ (u : Value) (y : DataW H × List MemPlace) (m : Nat), xs[i * N + j]? = some u ∧ DataW.trod enc P W 0 (fun _ => true) true m lt [u] = some y) ∧
      (len = 0 ∨ ∃ A B : List (DataW H), d = .slice A B ∧ len ≤ A.length + B.length) := by
  obtain ⟨a, len, cap, rfl⟩ := hv
  obtain ⟨fuel, hf⟩ := h
  rcases Go.Deep.open_slice ht hf with ⟨hcs, hx⟩ | ⟨ad, len', cap', m, k, D, Pl, hcs, _, hl, hm, hmm, hx, hi⟩
  · simp [Value.cells] at hcs
    obtain ⟨rfl, rfl, rfl⟩ := hcs
    exact ⟨none, 0, 0, [], rfl, Nat.le_refl _, by decide, ⟨by simp, fun _ => rfl, (fun p hp => by cases hp)⟩, fun i hi => absurd hi (by omega), .inl rfl⟩
  · simp [Value.cells] at hcs
    obtain ⟨rfl, rfl, rfl⟩ := hcs
    simp only [if_true] at hmm
    subst hmm
    let f : Nat → List Value := fun i => if hi' : i < m then Classical.choose (hi i hi') else List.replicate N undef
    have hf1 : ∀ i, i < m → W.cells? 0 (ad.add (i * P.cellsOf e)) (P.cellsOf e) = some (f i) ∧ DataW.trod enc P W 0 (fun _ => true) true k e (f i) = some (D i, Pl i) := fun i h' => by
      have := Classical.choose_spec (hi i h')
      simp only [f, dif_pos h']
      exact this
    have hlen : ∀ i, (f i).length = N := fun i => by
      by_cases h' : i < m
      · have := (World.cells?_some (hf1 i h').1).2.1
        rw [hC] at this; exact this
      · simp only [f, dif_neg h', List.length_replicate]
    have hrs : ∀ r ∈ (List.range len).map f, r.length = N := fun r hr => by
      obtain ⟨i, _, rfl⟩ := List.mem_map.1 hr
      exact hlen i
    have hget : ∀ i j, i < len → j < N → ((List.range len).map f).flatten[i * N + j]? = (f i)[j]? := fun i j h1 h2 => by
      rw [flatten_get _ i j hrs (by simpa using h1) h2]; simp
    have hcell : ∀ i j u, i < len → (f i)[j]? = some u → W.cell? (ad.add (i * N + j)) = some u := fun i j u h1 h2 => by
      have hjl : j < N := by have := (List.getElem?_eq_some_iff.1 h2).1; rw [hlen] at this; exact this
      have := (World.cells?_some (hf1 i (by omega)).1).2.2 j (by omega)
      rw [addr_add, hC] at this
      rw [this, h2]
    refine ⟨some ad, len, m, ((List.range len).map f).flatten, rfl, hl, hm, ⟨?_, (fun h0 => by cases h0), fun q hq hne => ?_⟩, fun i h1 j lt hj hlt => ?_, .inr ?_⟩
    · rw [flatten_len _ hrs]; simp
    · injection hq with hq
      subst hq
      have hpos : 0 < len := by
        rcases Nat.eq_zero_or_pos len with h0 | h0
        · subst h0; simp at hne
        · exact h0
      obtain ⟨b, o, spot⟩ := ad
      have h0 : (f 0)[0]? = some ((f 0)[0]'(by rw [hlen]; exact hN)) := List.getElem?_eq_getElem _
      have hc0 := hcell 0 0 _ hpos h0
      have hspot : spot = none := by simpa [Addr.add] using World.cell?_spot hc0
      subst hspot
      have hadd : ∀ x, (⟨b, o, none⟩ : Addr).add x = ⟨b, o + x, none⟩ := fun x => by unfold Addr.add; split <;> simp_all
      have hb : b < W.heap.size := by have := World.block_lt_of_cell? W _ hc0; rw [hadd] at this; exact this
      refine ⟨b, o, rfl, hb, fun x u hu => ?_⟩
      have hxl : x < len * N := by
        have := (List.getElem?_eq_some_iff.1 hu).1
        rw [flatten_len _ hrs] at this; simpa using this
      have e1 : x / N * N + x % N = x := by rw [Nat.mul_comm]; exact Nat.div_add_mod x N
      have e2 : x / N < len := Nat.div_lt_of_lt_mul (by rw [Nat.mul_comm]; exact hxl)
      have e3 : x % N < N := Nat.mod_lt _ hN
      rw [← e1, hget _ _ e2 e3] at hu
      have := hcell _ _ u e2 hu
      rw [e1, hadd] at this
      exact this
    · obtain ⟨u, y, m', g1, g2⟩ := trod_leaves n hok (hf1 i (by omega)).2 j lt hlt
      exact ⟨u, y, m', by rw [hget i j h1 hj]; exact g1, g2⟩
    · refine ⟨_, _, (Prod.mk.inj hx).1, ?_⟩
      simp
theorem open_rowF {H : Type} {enc : TypeId × Value → H} {P : Program} {W : World} {base : Nat} {t e : TypeId} {n N : Nat} (ht : P.underlying t = some (.slice e)) (hok : flatOk P n e = true) (hC : P.cellsOf e = N) (hN : 0 < N) {v : Value} {d : DataW H} {p : List MemPlace}
    (hv : Value.okWide P W .any base t v) (h : DataW.Trod enc P W 0 (fun _ => true) true t v d p) :
    ∃ (a : Option Addr) (len cap : Nat) (xs : List Value), v = .slice a len cap ∧ len ≤ cap ∧ cap ≤ maxLen ∧ Rd W N a len xs ∧
      (∀ i, i < len → ∀ j lt, j < N → (leaves P n e)[j]? = some lt → ∃ (u : Value) (y : DataW H × List MemPlace) (m : Nat), xs[i * N + j]? = some u ∧ DataW.trod enc P W 0 (fun _ => true) true m lt [u] = some y) ∧
      (len = 0 ∨ ∃ A B : List (DataW H), d = .slice A B ∧ len ≤ A.length + B.length) :=
  open_rowF0 ht hok hC hN (okWide_slice ht hv) h
end Go.Proofs.YtoalpdjpljapbaaDoor
