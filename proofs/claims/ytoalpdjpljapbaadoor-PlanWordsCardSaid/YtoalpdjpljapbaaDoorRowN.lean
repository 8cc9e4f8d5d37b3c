/- An argument that is a slice of structs of so many ints. -/
import Derived.Test.YtoalpdjpljapbaaDoorRows
import Derived.Test.YtoalpdjpljapbaaDoorRowF
namespace Go.Proofs.YtoalpdjpljapbaaDoor
set_option linter.unusedVariables false
set_option linter.unusedSimpArgs false
set_option linter.unnecessarySimpa false
open Go.ChangeShapes Go.WideShapes Go.ChangeAt Go.RowKit
def ivs (r : List Int) : List Value := r.map (Value.int .i64)
def iF (l : List (List Int)) : List Value := (l.map ivs).flatten
theorem open_rowN0 {H : Type} {enc : TypeId × Value → H} {P : Program} {W : World} {t e lt : TypeId} {n N : Nat} (ht : P.underlying t = some (.slice e)) (hok : flatOk P n e = true) (hC : P.cellsOf e = N) (hN : 0 < N) (hlv : leaves P n e = List.replicate N lt) (hk : P.underlying lt = some (.int .i64)) {v : Value} {d : DataW H} {p : List MemPlace}
    (hv : ∃ a len cap, v = .slice a len cap) (h : DataW.Trod enc P W 0 (fun _ => true) true t v d p) :
    ∃ (a : Option Addr) (cap : Nat) (l : List (List Int)), v = .slice a l.length cap ∧ l.length ≤ cap ∧ cap ≤ maxLen ∧ Rd W N a l.length (iF l) ∧ ∀ r ∈ l, r.length = N := by
  obtain ⟨a, len, cap, xs, rfl, hle, hcm, hrd, hlf, _⟩ := open_rowF0 ht hok hC hN hv h
  obtain ⟨l, rfl, rfl, hq⟩ := rows_of (α := { r : List Int // r.length = N }) (fun r => ivs r.val) (fun _ => True) N (fun r => by simp [ivs, r.property]) len xs hrd.1 (fun i hi => by
    have key : ∀ j, j < N → ∃ z : Int, xs[i * N + j]? = some (.int .i64 z) := fun j hj => by
      obtain ⟨u, y, m, g, t⟩ := hlf i hi j lt hj (by rw [hlv]; simp [hj])
      obtain ⟨z, e, _⟩ := DataW.trod_int hk t
      simp only [List.cons.injEq, and_true] at e
      exact ⟨z, by rw [g, e]⟩
    let f : Nat → Int := fun j => if hj : j < N then Classical.choose (key j hj) else 0
    refine ⟨⟨(List.range N).map f, by simp⟩, trivial, fun j hj => ?_⟩
    have hs := Classical.choose_spec (key j hj)
    rw [hs]
    simp [ivs, hj, f])
  refine ⟨a, cap, l.map (·.val), by rw [List.length_map], by rw [List.length_map]; exact hle, hcm, ?_, fun r hr => ?_⟩
  · rw [List.length_map]
    have : iF (l.map (·.val)) = (l.map fun r => ivs r.val).flatten := by simp [iF, List.map_map, Function.comp_def]
    rw [this]; exact hrd
  · obtain ⟨q, _, rfl⟩ := List.mem_map.1 hr
    exact q.property
theorem open_rowN {H : Type} {enc : TypeId × Value → H} {P : Program} {W : World} {base : Nat} {t e lt : TypeId} {n N : Nat} (ht : P.underlying t = some (.slice e)) (hok : flatOk P n e = true) (hC : P.cellsOf e = N) (hN : 0 < N) (hlv : leaves P n e = List.replicate N lt) (hk : P.underlying lt = some (.int .i64)) {v : Value} {d : DataW H} {p : List MemPlace}
    (hv : Value.okWide P W .any base t v) (h : DataW.Trod enc P W 0 (fun _ => true) true t v d p) :
    ∃ (a : Option Addr) (cap : Nat) (l : List (List Int)), v = .slice a l.length cap ∧ l.length ≤ cap ∧ cap ≤ maxLen ∧ Rd W N a l.length (iF l) ∧ ∀ r ∈ l, r.length = N :=
  open_rowN0 ht hok hC hN hlv hk (okWide_slice ht hv) h
theorem iF_get {N : Nat} (l : List (List Int)) (h : ∀ r ∈ l, r.length = N) (k j : Nat) (x : Int) (hk : k < l.length) (hx : (l[k])[j]? = some x) : (iF l)[k * N + j]? = some (.int .i64 x) := by
  have hj : j < N := by rw [← h _ (List.getElem_mem hk)]; exact (List.getElem?_eq_some_iff.1 hx).1
  rw [iF, flatten_get (N := N) _ k j (fun r hr => by obtain ⟨q, hq, rfl⟩ := List.mem_map.1 hr; simp [ivs, h q hq]) (by simpa using hk) hj]
  simp [ivs, hx]
theorem rowN_at {w : World} {N : Nat} {a : Option Addr} {l : List (List Int)} (h : Rd w N a l.length (iF l)) (hl : ∀ r ∈ l, r.length = N) (hN : 0 < N) (k : Nat) (hk : k < l.length) : ∃ b o, a = some ⟨b, o, none⟩ ∧ b < w.heap.size ∧ ∀ j x, (l[k])[j]? = some x → w.cell? ⟨b, o + k * N + j, none⟩ = some (.int .i64 x) := by
  have ha : a ≠ none := fun h0 => by have := h.2.1 h0; omega
  obtain ⟨p, rfl⟩ := Option.ne_none_iff_exists'.1 ha
  have h0 : (l[k])[0]? = some ((l[k])[0]'(by rw [hl _ (List.getElem_mem hk)]; exact hN)) := List.getElem?_eq_getElem _
  have hne : iF l ≠ [] := fun e => by have := iF_get l hl k 0 _ hk h0; rw [e] at this; simp at this
  obtain ⟨b, o, rfl, hb, h3⟩ := h.2.2 p rfl hne
  refine ⟨b, o, rfl, hb, fun j x hx => ?_⟩
  rw [Nat.add_assoc]
  exact h3 _ _ (iF_get l hl k j x hk hx)
end Go.Proofs.YtoalpdjpljapbaaDoor
