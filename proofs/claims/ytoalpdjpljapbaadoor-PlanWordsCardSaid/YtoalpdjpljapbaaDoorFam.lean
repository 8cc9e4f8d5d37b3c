/- Families of things in memory that lie apart: objects and rows of one's own. Plain lemmas. -/
import Derived.Test.YtoalpdjpljapbaaDoorMore
namespace Go.Proofs.YtoalpdjpljapbaaDoor
set_option linter.unusedVariables false
set_option linter.unusedSimpArgs false
set_option linter.unnecessarySimpa false
open Go.RowKit Go.Sort

/-- A cell of an own row set. -/
theorem Own.put {w : World} {B size n cap g j : Nat} {e : TypeId} {xs : List Value} (h : Own w B e size (some ⟨g, 0, none⟩) n cap xs) (hj : j < n * size) (v : Value) : Own (w.setCell ⟨g, j, none⟩ v) B e size (some ⟨g, 0, none⟩) n cap (xs.set j v) := by
  rcases h with ⟨hl, ⟨h0, _⟩ | ⟨g', c, cur, hv, hb, hg, hr, hm, hs, ht⟩⟩
  · injection h0 with h0; cases h0
  · injection hv with h1 h2 h3
    injection h1 with h1
    injection h1 with h1
    subst h1 h3
    refine ⟨by rw [List.length_set]; exact hl, .inr ⟨g, cap, _, rfl, hb, setCell_block hg j v, hr, hm, by simpa using hs, ?_⟩⟩
    rw [← ht]
    simp only [Array.toList_setIfInBounds, List.take_set]
/-- A thing in memory: an object's block, or a slice's row. -/
inductive It where
  | obj (b : Nat) (t : TypeId) (cs : List Value)
  | row (a : Option Addr) (n cap : Nat) (e : TypeId) (size : Nat) (xs : List Value)
def It.Is (w : World) (B : Nat) : It → Prop
  | .obj b t cs => ObjAt w b t cs ∧ B ≤ b
  | .row a n cap e size xs => Own w B e size a n cap xs
def It.fp : It → List Nat
  | .obj b _ _ => [b]
  | .row a _ _ _ _ _ => blk a
section
variable {w w' : World} {B : Nat} {x y : It} {S : List Nat}
theorem It.Is.ge (h : x.Is w B) : ∀ k ∈ x.fp, B ≤ k ∧ k < w.heap.size := fun k hk => by
  cases x with
  | obj b t cs => simp only [It.fp, List.mem_singleton] at hk; subst hk; exact ⟨h.2, h.1.lt⟩
  | row a n cap e size xs => exact Own.ge h k hk
theorem It.Is.mod (h : x.Is w B) (hm : Mod S w w') (hd : ∀ k ∈ x.fp, k ∉ S) : x.Is w' B := by
  cases x with
  | obj b t cs => exact ⟨h.1.mod hm (hd b (by simp [It.fp])), h.2⟩
  | row a n cap e size xs => exact Own.mod h hm hd
theorem It.Is.mono {B' : Nat} (h : x.Is w B) (hB : B' ≤ B) : x.Is w B' := by
  cases x with
  | obj b t cs => exact ⟨h.1, by have := h.2; omega⟩
  | row a n cap e size xs => exact Own.mono h hB
end
/-- A second act that turns, of what lay there at first, no more. -/
theorem Mod.then {S T : List Nat} {x y z : World} (h : Mod S x y) (k : Mod T y z) (hs : ∀ i ∈ T, i < x.heap.size → i ∈ S) : Mod S x z :=
  ⟨k.os.trans h.os, k.tape.trans h.tape, k.output.trans h.output, Nat.le_trans h.size k.size, fun i hi hn => (k.block i (Nat.lt_of_lt_of_le hi h.size) (fun hm => hn (hs i hm hi))).trans (h.block i hi hn)⟩
def Dj (S T : List Nat) : Prop := ∀ k ∈ S, k ∉ T
theorem Dj.symm {S T : List Nat} (h : Dj S T) : Dj T S := fun k hk hk2 => h k hk2 hk
/-- Things that lie apart, all from B on. -/
def Fam (w : World) (B : Nat) (l : List It) : Prop := (∀ x ∈ l, x.Is w B) ∧ l.Pairwise (fun x y => Dj x.fp y.fp)
/-- The blocks of a family. -/
def fps (l : List It) : List Nat := l.flatMap It.fp
theorem fps_app (l m : List It) : fps (l ++ m) = fps l ++ fps m := by simp [fps]
theorem fps_cons (x : It) (l : List It) : fps (x :: l) = x.fp ++ fps l := by simp [fps]
theorem fps_nil : fps [] = [] := rfl
theorem mem_fps {l : List It} {k : Nat} : k ∈ fps l ↔ ∃ x ∈ l, k ∈ x.fp := by simp [fps]
namespace Fam
variable {w w' : World} {B : Nat} {l m : List It} {S : List Nat}
theorem nil (w : World) (B : Nat) : Fam w B [] := ⟨by simp, List.Pairwise.nil⟩
theorem ge (h : Fam w B l) : ∀ k ∈ fps l, B ≤ k ∧ k < w.heap.size := fun k hk => by
  obtain ⟨x, hx, hk⟩ := mem_fps.1 hk
  exact (h.1 x hx).ge k hk
theorem mod (h : Fam w B l) (hm : Mod S w w') (hd : Dj (fps l) S) : Fam w' B l :=
  ⟨fun x hx => (h.1 x hx).mod hm (fun k hk => hd k (mem_fps.2 ⟨x, hx, hk⟩)), h.2⟩
theorem below (h : Fam w B l) (hb : Below w.heap.size w w') : Fam w' B l := h.mod (Mod.ofBelow (S := []) hb) (fun _ _ => by simp)
theorem mono {B' : Nat} (h : Fam w B l) (hB : B' ≤ B) : Fam w B' l := ⟨fun x hx => (h.1 x hx).mono hB, h.2⟩
theorem app : Fam w B (l ++ m) ↔ Fam w B l ∧ Fam w B m ∧ Dj (fps l) (fps m) := by
  unfold Fam
  rw [List.pairwise_append]
  constructor
  · rintro ⟨h1, h2, h3, h4⟩
    refine ⟨⟨fun x hx => h1 x (by simp [hx]), h2⟩, ⟨fun x hx => h1 x (by simp [hx]), h3⟩, fun k hk hk2 => ?_⟩
    obtain ⟨x, hx, hk⟩ := mem_fps.1 hk
    obtain ⟨y, hy, hk2⟩ := mem_fps.1 hk2
    exact h4 x hx y hy k hk hk2
  · rintro ⟨⟨h1, h2⟩, ⟨h3, h4⟩, h5⟩
    refine ⟨fun x hx => ?_, h2, h4, fun x hx y hy k hk hk2 => h5 k (mem_fps.2 ⟨x, hx, hk⟩) (mem_fps.2 ⟨y, hy, hk2⟩)⟩
    rcases List.mem_append.1 hx with hx | hx
    · exact h1 x hx
    · exact h3 x hx
theorem one (x : It) : Fam w B [x] ↔ x.Is w B := ⟨fun h => h.1 x (by simp), fun h => ⟨by simpa using h, List.pairwise_singleton _ _⟩⟩
theorem comm (h : Fam w B (l ++ m)) : Fam w B (m ++ l) := by
  obtain ⟨h1, h2, h3⟩ := app.1 h
  exact app.2 ⟨h2, h1, h3.symm⟩
/-- A part of the family turns: the others need not know. -/
theorem turn {r l' : List It} (h : Fam w B (l ++ r)) (hl : Fam w' B l') (hm : Mod (fps l) w w') (hat : ∀ k ∈ fps l', k ∈ fps l ∨ w.heap.size ≤ k) : Fam w' B (l' ++ r) := by
  obtain ⟨h1, h2, h3⟩ := app.1 h
  refine app.2 ⟨hl, h2.mod hm h3.symm, fun k hk hk2 => ?_⟩
  rcases hat k hk with h4 | h4
  · exact h3 k h4 hk2
  · have := (h2.ge k hk2).2; omega
/-- The same in the middle. -/
theorem turnMid {a r l' : List It} (h : Fam w B (a ++ (l ++ r))) (hl : Fam w' B l') (hm : Mod (fps l) w w') (hat : ∀ k ∈ fps l', k ∈ fps l ∨ w.heap.size ≤ k) : Fam w' B (a ++ (l' ++ r)) := by
  obtain ⟨h1, h2, h3⟩ := app.1 h
  have hla : Dj (fps a) (fps l) := fun k hk hk2 => h3 k hk (by rw [fps_app]; simp [hk2])
  refine app.2 ⟨h1.mod hm hla, turn h2 hl hm hat, fun k hk hk2 => ?_⟩
  rw [fps_app, List.mem_append] at hk2
  rcases hk2 with hk2 | hk2
  · rcases hat k hk2 with h4 | h4
    · exact hla k hk h4
    · have := (h1.ge k hk).2; omega
  · exact h3 k hk (by rw [fps_app]; simp [hk2])
/-- One thing of a row of things. -/
theorem split {i : Nat} (hi : i < l.length) : l = l.take i ++ ([l[i]] ++ l.drop (i + 1)) := by
  rw [List.singleton_append, ← List.drop_eq_getElem_cons hi, List.take_append_drop]
theorem splitSet {i : Nat} (hi : i < l.length) (x : It) : l.set i x = l.take i ++ ([x] ++ l.drop (i + 1)) := by
  rw [List.set_eq_take_append_cons_drop, if_pos hi]; rfl
theorem put {i : Nat} (h : Fam w B l) (hi : i < l.length) {x : It} (hx : x.Is w' B) (hm : Mod l[i].fp w w') (hat : ∀ k ∈ x.fp, k ∈ l[i].fp ∨ w.heap.size ≤ k) : Fam w' B (l.set i x) := by
  rw [splitSet hi]
  rw [split hi] at h
  exact turnMid h ((one _).2 hx) (by simpa [fps] using hm) (by simpa [fps] using hat)
theorem push (h : Fam w B l) {x : It} (hx : x.Is w' B) (hm : Mod [] w w') (hat : ∀ k ∈ x.fp, w.heap.size ≤ k) : Fam w' B (l ++ [x]) :=
  app.2 ⟨h.mod hm (fun _ _ => by simp), (one _).2 hx, fun k hk hk2 => by
    rw [fps_cons, fps_nil, List.append_nil] at hk2
    have := (h.ge k hk).2; have := hat k hk2; omega⟩
theorem get {i : Nat} (h : Fam w B l) {x : It} (hi : l[i]? = some x) : x.Is w B := h.1 x (List.mem_of_getElem? hi)
theorem apart {i j : Nat} (h : Fam w B l) {x y : It} (hi : l[i]? = some x) (hj : l[j]? = some y) (hij : i ≠ j) : Dj x.fp y.fp := by
  obtain ⟨hi1, rfl⟩ := List.getElem?_eq_some_iff.1 hi
  obtain ⟨hj1, rfl⟩ := List.getElem?_eq_some_iff.1 hj
  rcases Nat.lt_or_ge i j with h1 | h1
  · exact List.pairwise_iff_getElem.1 h.2 i j hi1 hj1 h1
  · exact (List.pairwise_iff_getElem.1 h.2 j i hj1 hi1 (by omega)).symm
end Fam
theorem fps_set {l : List It} {i : Nat} {x : It} {k : Nat} (h : k ∈ fps (l.set i x)) : k ∈ fps l ∨ k ∈ x.fp := by
  obtain ⟨y, hy, hk⟩ := mem_fps.1 h
  rcases List.mem_or_eq_of_mem_set hy with h1 | rfl
  · exact .inl (mem_fps.2 ⟨y, h1, hk⟩)
  · exact .inr hk
theorem fps_mem {l : List It} {i : Nat} {x : It} (hi : l[i]? = some x) {k : Nat} (hk : k ∈ x.fp) : k ∈ fps l := mem_fps.2 ⟨x, List.mem_of_getElem? hi, hk⟩
/-- What an act on a family leaves: the family turned, nothing besides. -/
structure Acts (B : Nat) (l l' : List It) (w w' : World) : Prop where
  fam : Fam w' B l'
  mod : Mod (fps l) w w'
  at_ : ∀ k ∈ fps l', k ∈ fps l ∨ w.heap.size ≤ k
namespace Acts
variable {B : Nat} {l l' l'' r : List It} {w w' w'' : World}
theorem refl (h : Fam w B l) : Acts B l l w w := ⟨h, Mod.refl _ _, fun _ hk => .inl hk⟩
theorem ofBelow (h : Fam w B l) (hb : Below w.heap.size w w') : Acts B l l w w' := ⟨h.below hb, Mod.ofBelow hb, fun _ hk => .inl hk⟩
theorem trans (h : Acts B l l' w w') (k : Acts B l' l'' w' w'') : Acts B l l'' w w'' :=
  ⟨k.fam, ⟨k.mod.os.trans h.mod.os, k.mod.tape.trans h.mod.tape, k.mod.output.trans h.mod.output, Nat.le_trans h.mod.size k.mod.size, fun i hi hn => (k.mod.block i (Nat.lt_of_lt_of_le hi h.mod.size) (fun hm => by
      rcases h.at_ i hm with h1 | h1
      · exact hn h1
      · omega)).trans (h.mod.block i hi hn)⟩, fun x hx => by
    rcases k.at_ x hx with h1 | h1
    · exact h.at_ x h1
    · exact .inr (Nat.le_trans h.mod.size h1)⟩
theorem below (h : Acts B l l' w w') (hf : Fam w B l) (hB : B ≤ w.heap.size) : Below B w w' := h.mod.below (fun k hk => (hf.ge k hk).1) hB
theorem frame (h : Acts B l l' w w') (hf : Fam w B (l ++ r)) : Acts B (l ++ r) (l' ++ r) w w' :=
  ⟨hf.turn h.fam h.mod h.at_, h.mod.mono (fun k _ hk => by rw [fps_app]; simp [hk]), fun k hk => by
    rw [fps_app, List.mem_append] at hk ⊢
    rcases hk with hk | hk
    · exact (h.at_ k hk).imp .inl id
    · exact .inl (.inr hk)⟩
theorem put {i : Nat} (h : Fam w B l) (hi : i < l.length) {x : It} (hx : x.Is w' B) (hm : Mod l[i].fp w w') (hat : ∀ k ∈ x.fp, k ∈ l[i].fp ∨ w.heap.size ≤ k) : Acts B l (l.set i x) w w' :=
  ⟨h.put hi hx hm hat, hm.mono (fun k _ hk => mem_fps.2 ⟨_, List.getElem_mem hi, hk⟩), fun k hk => by
    rcases fps_set hk with h1 | h1
    · exact .inl h1
    · exact (hat k h1).imp (fun h2 => mem_fps.2 ⟨_, List.getElem_mem hi, h2⟩) id⟩
end Acts
end Go.Proofs.YtoalpdjpljapbaaDoor
