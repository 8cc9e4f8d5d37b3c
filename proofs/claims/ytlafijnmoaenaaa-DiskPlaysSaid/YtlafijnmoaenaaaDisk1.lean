/- Package disk: the map of sectors. -/
import Derived.Maps.OwnSet
import Derived.Maps.Views
import Derived.Test.YtlafijnmoaenaaaParts5
import Derived.Test.YtlafijnmoaenaaaLabF
namespace Go.Proofs.Ytlafijnmoaenaaa
set_option linter.unusedVariables false
set_option linter.unusedSimpArgs false
set_option linter.unnecessarySimpa false
open Go.RowKit Go.Sort
set_option maxHeartbeats 400000
set_option maxRecDepth 100000

/-- Bytes as cells. -/
def bC (l : List Int) : List Value := l.map (Value.int .u8)
theorem bC_len (l : List Int) : (bC l).length = l.length := by simp [bC]
def z16 : List Int := List.replicate 16 0
abbrev Dt := DataW Unit
def ltB (s : List Int) : Dt := .slice (s.map (fun x => .lit (.int .u8 x))) []
theorem map_inj : ∀ {s t : List Int}, s.map (fun x => (DataW.lit (.int .u8 x) : Dt)) = t.map (fun x => (DataW.lit (.int .u8 x) : Dt)) → s = t
  | [], [], _ => rfl
  | [], _ :: _, h => by simp at h
  | _ :: _, [], h => by simp at h
  | x :: s, y :: t, h => by
    rw [List.map_cons, List.map_cons] at h
    injection h with h1 h2
    injection h1 with h1
    injection h1 with _ h1
    rw [h1, map_inj h2]
theorem ltB_inj {s t : List Int} (h : ltB s = ltB t) : s = t := by
  unfold ltB at h
  injection h with h _
  exact map_inj h
def byteOf? : Value → Option Int
  | .int .u8 x => some x
  | _ => none
theorem byteOf_inv {v : Value} {x : Int} (h : byteOf? v = some x) : v = .int .u8 x := by
  unfold byteOf? at h
  split at h
  · injection h with h; rw [h]
  · cases h
theorem mapM_bytes : ∀ (cs : List Value) (s : List Int), cs.mapM byteOf? = some s → cs = bC s
  | [], s, h => by
    simp at h; subst h; rfl
  | c :: cs, s, h => by
    rw [List.mapM_cons] at h
    cases hc : byteOf? c with
    | none => rw [hc] at h; cases h
    | some x =>
      rw [hc] at h
      cases hs : cs.mapM byteOf? with
      | none => rw [hs] at h; cases h
      | some t =>
        rw [hs] at h
        injection h with h
        subst h
        rw [byteOf_inv hc, mapM_bytes cs t hs]
        rfl
theorem mapM_bC : ∀ s : List Int, (bC s).mapM byteOf? = some s
  | [] => rfl
  | x :: s => by
    show (Value.int .u8 x :: bC s).mapM byteOf? = _
    rw [List.mapM_cons, mapM_bC s]
    rfl
/-- How a sector reads. -/
def secR : Value → Option (Dt × List MemPlace)
  | .agg cs => match cs.toList.mapM byteOf? with
    | some s => some (ltB s, [])
    | none => none
  | _ => none
theorem secR_mk (s : List Int) : secR (.agg (bC s).toArray) = some (ltB s, []) := by
  unfold secR
  simp only [mapM_bC]
theorem secR_inv {v : Value} {s : List Int} {ps : List MemPlace} (h : secR v = some (ltB s, ps)) : v = .agg (bC s).toArray := by
  unfold secR at h
  split at h
  · rename_i cs
    cases hm : cs.toList.mapM byteOf? with
    | none => rw [hm] at h; cases h
    | some t =>
      rw [hm] at h
      simp only [Option.some.injEq, Prod.mk.injEq] at h
      have := ltB_inj h.1
      subst this
      have := mapM_bytes _ _ hm
      rw [← this]
  · cases h
theorem key_ok : Go.Maps.Keyed Try.prog 3 := Go.Maps.int_keyed Try.underlying3
theorem key_of (k : Nat) (hk : k < 32) : keyOf Try.prog 3 (.int .i64 k) = some (.int .i64 k) := Go.Maps.keyOf_int_mk Try.underlying3 (by
  have h1 : (k : Int) < 32 := by omega
  have h2 : (0 : Int) ≤ k := by omega
  simp only [Lit.wf, Bool.and_eq_true, decide_eq_true_eq]
  constructor
  · exact Int.le_trans (by decide) h2
  · exact Int.le_trans (Int.le_of_lt h1) (by decide))
/-- A map of sectors: n entries at most; f k stands at k. -/
def MapF (w : World) (b n : Nat) (f : Nat → List Int) : Prop := ∃ D : Dt, w.ownsMap Try.prog 3 secR b n D ∧ ∀ k : Nat, k < 32 → D.atKey (.int .i64 k) (ltB z16) = ltB (f k)
def upd (f : Nat → List Int) (k : Nat) (s : List Int) (j : Nat) : List Int := if j = k then s else f j
namespace MapF
variable {w w' : World} {b n : Nat} {f : Nat → List Int}
theorem made (w : World) : MapF (w.alloc (.map #[] 0)) w.heap.size 0 (fun _ => z16) := ⟨_, World.ownsMap_made w _ _ _, fun _ _ => rfl⟩
theorem lt (h : MapF w b n f) : b < w.heap.size := by obtain ⟨D, h1, _⟩ := h; exact h1.lt
theorem noCells (h : MapF w b n f) : ∃ o : Obj, w.heap[b]? = some o ∧ ∀ cs t p, o ≠ .cells cs t p := by
  obtain ⟨D, ⟨es, clock, h1, _⟩, _⟩ := h
  exact ⟨_, h1, fun _ _ _ => by simp⟩
theorem mod {S : List Nat} (h : MapF w b n f) (hm : Mod S w w') (hb : b ∉ S) : MapF w' b n f := by
  obtain ⟨D, ⟨es, clock, h1, h2⟩, h3⟩ := h
  exact ⟨D, ⟨es, clock, (hm.block b (Array.getElem?_eq_some_iff.1 h1).1 hb).trans h1, h2⟩, h3⟩
theorem below (h : MapF w b n f) (hb : Below w.heap.size w w') : MapF w' b n f := h.mod (Mod.ofBelow (S := []) hb) (by simp)
theorem mono {n' : Nat} (h : MapF w b n f) (hn : n ≤ n') : MapF w b n' f := by
  obtain ⟨D, h1, h2⟩ := h
  exact ⟨D, h1.mono hn, h2⟩
theorem look (h : MapF w b n f) (k : Nat) (hk : k < 32) : (Instr.lookup 26 (.map (some b)) (.int .i64 k) false).run Try.prog w = .ok (.agg (bC (f k)).toArray) w := by
  obtain ⟨D, h1, h2⟩ := h
  have hz : (zeroValue 80).run Try.prog w = .ok (.agg (bC z16).toArray) w := by kernel_rfl
  obtain ⟨v, ps, hrun, hv⟩ := h1.lookup key_ok Try.underlying26 hz (secR_mk z16) (key_of k hk)
  rw [h2 k hk] at hv
  rw [hrun, secR_inv hv]
theorem put_ {D : Dt} (h2 : ∀ k : Nat, k < 32 → D.atKey (.int .i64 k) (ltB z16) = ltB (f k)) (hm : Go.Maps.IsMap D) {k : Nat} {s : List Int} : ∀ j : Nat, j < 32 → (D.put (.int .i64 k) (ltB s)).atKey (.int .i64 j) (ltB z16) = ltB (upd f k s j) := fun j hj => by
  by_cases e : j = k
  · rw [e, Go.Maps.atKey_put_same hm (show WideAt.IsKeyLit (.int .i64 (k : Int)) from trivial)]
    simp [upd]
  · rw [Go.Maps.atKey_put_other (fun h => e (by injection h with _ h; omega)), h2 j hj]
    simp [upd, e]
theorem del_ {D : Dt} (h2 : ∀ k : Nat, k < 32 → D.atKey (.int .i64 k) (ltB z16) = ltB (f k)) {k : Nat} : ∀ j : Nat, j < 32 → (D.del (.int .i64 k)).atKey (.int .i64 j) (ltB z16) = ltB (upd f k z16 j) := fun j hj => by
  by_cases e : j = k
  · subst e
    rw [Go.Maps.atKey_del_same]
    simp [upd]
  · rw [Go.Maps.atKey_del_other (fun h => e (by injection h with _ h; omega)), h2 j hj]
    simp [upd, e]
end MapF
theorem Mod.ofTurned {w w' : World} {b : Nat} (h : w.mapTurned w' b) : Mod [b] w w' := Mod.ofGrown h.grown (fun k e => by injection e with e; simp [e])
end Go.Proofs.Ytlafijnmoaenaaa
