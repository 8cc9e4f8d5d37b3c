/- A value of a struct or an array, taken apart into its cells, whatever the nesting: each cell with the reading of its own type. -/
import Derived.Test.YtoalpdjpljapbaaDoorOpen
import Derived.Deep.Slices
import Derived.Deep.Fields
namespace Go.Proofs.YtoalpdjpljapbaaDoor
set_option linter.unusedVariables false
set_option linter.unusedSimpArgs false
set_option linter.unnecessarySimpa false
open Go.ChangeShapes Go.WideShapes Go.ChangeAt Go.RowKit Go.Deep

/-- The types of the cells of a value of type t. -/
def leaves (P : Program) : Nat → TypeId → List TypeId
  | 0, t => [t]
  | n + 1, t => match P.underlying t with
    | some (.struct fs) => fs.toList.flatMap fun f => leaves P n f.type
    | some (.array k e) => (List.range k).flatMap fun _ => leaves P n e
    | _ => [t]
def fieldsOk (P : Program) (n : Nat) (ok : TypeId → Bool) : Nat → List Field → Bool
  | _, [] => true
  | o, f :: fs => f.offset == o && ok f.type && P.cellsOf f.type == (leaves P n f.type).length && fieldsOk P n ok (o + P.cellsOf f.type) fs
def flatOk (P : Program) : Nat → TypeId → Bool
  | 0, t => match P.underlying t with
    | some (.struct _) | some (.array _ _) => false
    | _ => true
  | n + 1, t => match P.underlying t with
    | some (.struct fs) => fieldsOk P n (flatOk P n) 0 fs.toList
    | some (.array _ e) => flatOk P n e && P.cellsOf e == (leaves P n e).length
    | _ => true

section
variable {H : Type} {enc : TypeId × Value → H} {P : Program} {w : World} {base : Nat} {spare : Nat → Bool} {held : Bool}

theorem fields_at {n : Nat} {ok : TypeId → Bool} : ∀ (fs : List Field) (o j : Nat) (lt : TypeId), fieldsOk P n ok o fs = true → (fs.flatMap fun f => leaves P n f.type)[j]? = some lt →
    ∃ (i : Nat) (f : Field) (r : Nat), fs[i]? = some f ∧ o + j = f.offset + r ∧ r < P.cellsOf f.type ∧ (leaves P n f.type)[r]? = some lt ∧ ok f.type = true
  | [], _, _, _, _, h => by simp at h
  | f :: fs, o, j, lt, hok, h => by
    simp only [fieldsOk, Bool.and_eq_true, beq_iff_eq] at hok
    obtain ⟨⟨⟨h1, h2⟩, h3⟩, h4⟩ := hok
    rw [List.flatMap_cons] at h
    by_cases hj : j < (leaves P n f.type).length
    · rw [List.getElem?_append_left hj] at h
      exact ⟨0, f, j, rfl, by omega, by omega, h, h2⟩
    · rw [List.getElem?_append_right (by omega)] at h
      obtain ⟨i, f', r, g1, g2, g3, g4, g5⟩ := fields_at fs _ _ lt h4 h
      exact ⟨i + 1, f', r, by simpa using g1, by omega, g3, g4, g5⟩

theorem range_at {l : List TypeId} : ∀ (k j : Nat) (lt : TypeId), ((List.range k).flatMap fun _ => l)[j]? = some lt → ∃ i r, i < k ∧ j = i * l.length + r ∧ l[r]? = some lt
  | 0, _, _, h => by simp at h
  | k + 1, j, lt, h => by
    rw [List.range_succ, List.flatMap_append] at h
    have hlen : ((List.range k).flatMap fun _ => l).length = k * l.length := by rw [List.length_flatMap]; simp [List.map_const', List.sum_replicate_nat]
    by_cases hj : j < k * l.length
    · rw [List.getElem?_append_left (by omega)] at h
      obtain ⟨i, r, g1, g2, g3⟩ := range_at k j lt h
      exact ⟨i, r, by omega, g2, g3⟩
    · rw [List.getElem?_append_right (by omega), hlen] at h
      exact ⟨k, j - k * l.length, by omega, by omega, by simpa using h⟩

theorem trod_len {fuel : Nat} {t : TypeId} {cs : List Value} {x : DataW H × List MemPlace} (hn : ∀ fs, P.underlying t ≠ some (.struct fs)) (hn' : ∀ k e, P.underlying t ≠ some (.array k e)) (h : DataW.trod enc P w base spare held fuel t cs = some x) : ∃ v, cs = [v] := by
  cases fuel with
  | zero => simp [DataW.trod] at h
  | succ fuel =>
    unfold DataW.trod at h
    split at h <;> first | exact ⟨_, rfl⟩ | (exfalso; exact absurd ‹_› (hn _)) | (exfalso; exact absurd ‹_› (hn' _ _)) | cases h

theorem trod_leaves : ∀ (n : Nat) {fuel : Nat} {t : TypeId} {cs : List Value} {x : DataW H × List MemPlace}, flatOk P n t = true → DataW.trod enc P w base spare held fuel t cs = some x →
    ∀ (j : Nat) (lt : TypeId), (leaves P n t)[j]? = some lt → ∃ (v : Value) (y : DataW H × List MemPlace) (m : Nat), cs[j]? = some v ∧ DataW.trod enc P w base spare held m lt [v] = some y
  | 0, fuel, t, cs, x, hok, h, j, lt, hj => by
    simp only [flatOk] at hok
    obtain ⟨v, rfl⟩ := trod_len (fun fs e => by rw [e] at hok; cases hok) (fun k e' e => by rw [e] at hok; cases hok) h
    simp only [leaves] at hj
    match j, hj with
    | 0, hj =>
      obtain rfl : t = lt := by simpa using hj
      exact ⟨v, x, fuel, rfl, h⟩
  | n + 1, fuel, t, cs, x, hok, h, j, lt, hj => by
    simp only [flatOk] at hok
    simp only [leaves] at hj
    cases hu : P.underlying t with
    | none =>
      rw [hu] at hok hj
      obtain ⟨v, rfl⟩ := trod_len (fun fs e => by rw [hu] at e; cases e) (fun k e' e => by rw [hu] at e; cases e) h
      match j, hj with
      | 0, hj =>
        obtain rfl : t = lt := by simpa using hj
        exact ⟨v, x, fuel, rfl, h⟩
    | some d =>
      rw [hu] at hok hj
      by_cases hs : ∃ fs, d = .struct fs
      · obtain ⟨fs, rfl⟩ := hs
        obtain ⟨xs, m, rfl, hx, hlen, hxl, hg⟩ := DataW.trod_struct hu h
        obtain ⟨i, f, r, g1, g2, g3, g4, g5⟩ := fields_at fs.toList 0 j lt hok hj
        have g1' : fs[i]? = some f := by simpa using g1
        have hgi := hg i f g1'
        have hi : i < fs.size := (Array.getElem?_eq_some_iff.1 g1').1
        rw [List.getElem?_eq_getElem (by omega : i < xs.length)] at hgi
        obtain ⟨v, y, m', e1, e2⟩ := trod_leaves n g5 hgi r lt g4
        refine ⟨v, y, m', ?_, e2⟩
        rw [List.getElem?_take, if_pos g3, List.getElem?_drop] at e1
        rw [← e1]
        congr 1
        omega
      · by_cases ha : ∃ k e, d = .array k e
        · obtain ⟨k, e, rfl⟩ := ha
          simp only [Bool.and_eq_true, beq_iff_eq] at hok
          obtain ⟨xs, m, rfl, hx, hlen, hxl, hg⟩ := DataW.trod_array hu h
          obtain ⟨i, r, g1, g2, g3⟩ := range_at k j lt hj
          have hgi := hg i g1
          rw [List.getElem?_eq_getElem (by omega : i < xs.length)] at hgi
          obtain ⟨v, y, m', e1, e2⟩ := trod_leaves n hok.1 hgi r lt g3
          refine ⟨v, y, m', ?_, e2⟩
          have hr : r < (leaves P n e).length := (List.getElem?_eq_some_iff.1 g3).1
          rw [List.getElem?_take, if_pos (by omega), List.getElem?_drop, hok.2] at e1
          rw [← e1]
          congr 1
        · obtain ⟨v, rfl⟩ := trod_len (fun fs e => hs ⟨fs, by rw [hu] at e; simpa using e⟩) (fun k e' e => ha ⟨k, e', by rw [hu] at e; simpa using e⟩) h
          have hj' : ([t] : List TypeId)[j]? = some lt := by
            cases d <;> first | exact hj | exact absurd ⟨_, rfl⟩ hs | exact absurd ⟨_, _, rfl⟩ ha
          match j, hj' with
          | 0, hj =>
            obtain rfl : t = lt := by simpa using hj
            exact ⟨v, x, fuel, rfl, h⟩

/-- A cell of an integer type. -/
theorem leaf_int {n fuel : Nat} {t : TypeId} {cs : List Value} {x : DataW H × List MemPlace} (hok : flatOk P n t = true) (h : DataW.trod enc P w base spare held fuel t cs = some x) (j : Nat) {lt : TypeId} {k : IntKind} (hj : (leaves P n t)[j]? = some lt) (hk : P.underlying lt = some (.int k)) :
    ∃ z, cs[j]? = some (.int k z) ∧ (Lit.int k z).wf = true := by
  obtain ⟨v, y, m, e1, e2⟩ := trod_leaves n hok h j lt hj
  obtain ⟨z, h1, _, h3⟩ := DataW.trod_int hk e2
  simp only [List.cons.injEq, and_true] at h1
  exact ⟨z, by rw [e1, h1], h3⟩
theorem leaf_bool {n fuel : Nat} {t : TypeId} {cs : List Value} {x : DataW H × List MemPlace} (hok : flatOk P n t = true) (h : DataW.trod enc P w base spare held fuel t cs = some x) (j : Nat) {lt : TypeId} (hj : (leaves P n t)[j]? = some lt) (hk : P.underlying lt = some .bool) :
    ∃ z, cs[j]? = some (.bool z) := by
  obtain ⟨v, y, m, e1, e2⟩ := trod_leaves n hok h j lt hj
  obtain ⟨z, h1, _⟩ := DataW.trod_bool hk e2
  simp only [List.cons.injEq, and_true] at h1
  exact ⟨z, by rw [e1, h1]⟩

/-- A struct (or an array) of integers of one kind, by value: its numbers. -/
theorem open_agg_ints {n : Nat} {t lt : TypeId} {k : IntKind} {N : Nat} {v : Value} {d : DataW H} {p : List MemPlace} (hagg : ∃ cs : Array Value, v = .agg cs ∧ cs.size = N) (hok : flatOk P n t = true) (hlv : leaves P n t = List.replicate N lt) (hk : P.underlying lt = some (.int k))
    (h : DataW.Trod enc P w base spare held t v d p) : ∃ zs : List Int, v = .agg (zs.map (Value.int k)).toArray ∧ zs.length = N ∧ ∀ z ∈ zs, (Lit.int k z).wf = true := by
  obtain ⟨cs, rfl, hsz⟩ := hagg
  obtain ⟨fuel, hf⟩ := h
  have hj : ∀ j, j < N → ∃ z, cs.toList[j]? = some (.int k z) ∧ (Lit.int k z).wf = true := fun j hj =>
    leaf_int hok hf j (lt := lt) (by rw [hlv]; simp [hj]) hk
  clear hf
  obtain ⟨l⟩ := cs
  simp only at hj
  have key : ∀ (l : List Value), (∀ j, j < l.length → ∃ z, l[j]? = some (.int k z) ∧ (Lit.int k z).wf = true) → ∃ zs : List Int, l = zs.map (Value.int k) ∧ ∀ z ∈ zs, (Lit.int k z).wf = true := by
    intro l
    induction l with
    | nil => intro _; exact ⟨[], rfl, by simp⟩
    | cons c l ih =>
      intro hl
      obtain ⟨z, e1, e2⟩ := hl 0 (by simp)
      obtain ⟨zs, e3, e4⟩ := ih fun j hj => by have := hl (j + 1) (by simpa using hj); simpa using this
      simp at e1
      exact ⟨z :: zs, by rw [e1, e3]; rfl, by simp only [List.mem_cons, forall_eq_or_imp]; exact ⟨e2, e4⟩⟩
  have hl : l.length = N := hsz
  obtain ⟨zs, e3, e4⟩ := key l (fun j h => hj j (by omega))
  exact ⟨zs, by rw [e3], by rw [e3] at hl; simpa using hl, e4⟩
end
end Go.Proofs.YtoalpdjpljapbaaDoor
