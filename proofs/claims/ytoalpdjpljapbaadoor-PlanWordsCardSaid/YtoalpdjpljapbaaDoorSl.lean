/- Slices that a law owns, and worlds of which but few blocks have turned: plain lemmas. -/
import Derived.Test.YtoalpdjpljapbaaDoorObj
import Derived.Deep.AppendLies
import Derived.Deep.RegionLaw
import Derived.StillTailTactics
namespace Go.Proofs.YtoalpdjpljapbaaDoor
set_option linter.unusedVariables false
set_option linter.unusedSimpArgs false
set_option linter.unnecessarySimpa false
open Go.RowKit Go.Sort

/-- w' is w with new blocks, and with writes to the blocks of S alone. -/
structure Mod (S : List Nat) (w w' : World) : Prop where
  os : w'.os = w.os
  tape : w'.tape = w.tape
  output : w'.output = w.output
  size : w.heap.size ≤ w'.heap.size
  block : ∀ k, k < w.heap.size → k ∉ S → w'.heap[k]? = w.heap[k]?
namespace Mod
variable {S T : List Nat} {x y z : World}
theorem refl (S : List Nat) (w : World) : Mod S w w := ⟨rfl, rfl, rfl, Nat.le_refl _, fun _ _ _ => rfl⟩
theorem trans (h : Mod S x y) (k : Mod S y z) : Mod S x z :=
  ⟨k.os.trans h.os, k.tape.trans h.tape, k.output.trans h.output, Nat.le_trans h.size k.size, fun i hi hn => (k.block i (Nat.lt_of_lt_of_le hi h.size) hn).trans (h.block i hi hn)⟩
theorem mono (h : Mod S x y) (hs : ∀ k, k < x.heap.size → k ∈ S → k ∈ T) : Mod T x y := ⟨h.os, h.tape, h.output, h.size, fun i hi hn => h.block i hi (fun hm => hn (hs i hi hm))⟩
theorem ofBelow (h : Below x.heap.size x y) : Mod S x y := ⟨h.os, h.tape, h.output, h.size, fun k hk _ => h.block k hk⟩
theorem ofUpd {b : Nat} (h : Upd b x y) : Mod [b] x y := ⟨h.os, h.tape, h.output, h.size, fun k hk hn => h.block k hk (by simpa using hn)⟩
theorem ofGrown {r : Option Nat} (h : x.grownBy y r) (hs : ∀ k, r = some k → k ∈ S) : Mod S x y := ⟨h.os, h.tape, h.output, h.size, fun k hk hn => h.block k hk (fun e => hn (hs k e.symm))⟩
theorem below (h : Mod S x y) {B : Nat} (hs : ∀ k ∈ S, B ≤ k) (hB : B ≤ x.heap.size) : Below B x y := ⟨h.os, h.tape, h.output, h.size, fun k hk => h.block k (by omega) (fun hm => by have := hs k hm; omega)⟩
theorem drew (h : Mod S x y) : Mod S x y.drew := h.trans ⟨rfl, rfl, rfl, Nat.le_refl _, fun _ _ _ => rfl⟩
theorem drewN (h : Mod S x y) (n : Nat) : Mod S x (y.drewN n) := h.trans ⟨rfl, rfl, rfl, Nat.le_refl _, fun _ _ _ => rfl⟩
theorem alloc (h : Mod S x y) (o : Obj) : Mod S x (y.alloc o) := h.trans (ofBelow ((Below.refl _ _).alloc (Nat.le_refl _) o))
theorem setCell (h : Mod S x y) (a : Addr) (v : Value) (ha : a.block ∈ S ∨ x.heap.size ≤ a.block) : Mod S x (y.setCell a v) :=
  ⟨h.os, h.tape, h.output, by simpa [World.setCell] using h.size, fun k hk hn => (Below.heap_setCell y a v k (by
    rintro rfl
    rcases ha with ha | ha
    · exact hn ha
    · omega)).trans (h.block k hk hn)⟩
end Mod
theorem ObjAt.mod {S : List Nat} {w w' : World} {b : Nat} {t : TypeId} {cs : List Value} (h : ObjAt w b t cs) (hm : Mod S w w') (hb : b ∉ S) : ObjAt w' b t cs := (hm.block b h.lt hb).trans h

/-- The slice value's row: just xs, of type e, in a block of its own from B on. -/
def Own (w : World) (B : Nat) (e : TypeId) (size : Nat) (a : Option Addr) (n cap : Nat) (xs : List Value) : Prop := w.ownsRow B e size (.slice a n cap) n xs
/-- The blocks of a slice's row: none or one. -/
def blk (a : Option Addr) : List Nat := (a.map (·.block)).toList
theorem mem_blk {a : Option Addr} {k : Nat} : k ∈ blk a ↔ ∃ p, a = some p ∧ p.block = k := by cases a <;> simp [blk, eq_comm]
section
variable {w w' : World} {B size n cap : Nat} {e : TypeId} {a : Option Addr} {xs : List Value}
theorem Own.nil (w : World) (B : Nat) (e : TypeId) (size : Nat) : Own w B e size none 0 0 [] := ⟨by simp, .inl ⟨rfl, rfl⟩⟩
theorem Own.len (h : Own w B e size a n cap xs) : xs.length = n * size := h.1
theorem Own.form (h : Own w B e size a n cap xs) : (a = none ∧ n = 0 ∧ cap = 0) ∨ ∃ g, a = some ⟨g, 0, none⟩ ∧ B ≤ g ∧ g < w.heap.size ∧ n ≤ cap ∧ cap ≤ maxLen := by
  rcases h.2 with ⟨hv, h0⟩ | ⟨g, c, cur, hv, hb, hg, hc, hm, _⟩
  · injection hv with h1 h2 h3
    exact .inl ⟨h1, h0, h3⟩
  · injection hv with h1 h2 h3
    refine .inr ⟨g, h1, hb, (Array.getElem?_eq_some_iff.1 hg).1, by omega, by omega⟩
theorem Own.le (h : Own w B e size a n cap xs) : n ≤ cap := by
  rcases h.form with ⟨_, h0, h1⟩ | ⟨_, _, _, _, h, _⟩ <;> omega
theorem Own.capMax (h : Own w B e size a n cap xs) : cap ≤ maxLen := by
  rcases h.form with ⟨_, h0, h1⟩ | ⟨_, _, _, _, _, h⟩
  · rw [h1]; exact Nat.zero_le _
  · exact h
theorem Own.at_ (h : Own w B e size a n cap xs) (hn : 0 < n) : ∃ g, a = some ⟨g, 0, none⟩ ∧ B ≤ g ∧ g < w.heap.size := by
  rcases h.form with ⟨_, h0, _⟩ | ⟨g, h1, h2, h3, _⟩
  · omega
  · exact ⟨g, h1, h2, h3⟩
theorem Own.ge (h : Own w B e size a n cap xs) : ∀ k ∈ blk a, B ≤ k ∧ k < w.heap.size := fun k hk => by
  obtain ⟨p, rfl, rfl⟩ := mem_blk.1 hk
  rcases h.form with ⟨h0, _⟩ | ⟨g, h1, h2, h3, _⟩
  · cases h0
  · injection h1 with h1; subst h1; exact ⟨h2, h3⟩
theorem Own.cell {g : Nat} (h : Own w B e size (some ⟨g, 0, none⟩) n cap xs) (j : Nat) (u : Value) (hu : xs[j]? = some u) : w.cell? ⟨g, j, none⟩ = some u := by
  have hj : j < n * size := by rw [← h.1]; exact (List.getElem?_eq_some_iff.1 hu).1
  exact (World.ownsRow.cellAt h j hj).trans hu
theorem Own.free {g : Nat} (h : Own w B e size (some ⟨g, 0, none⟩) n cap xs) (j : Nat) : w.frozen? ⟨g, j, none⟩ = false := World.ownsRow.frozenAt h j
theorem Own.mod {S : List Nat} (h : Own w B e size a n cap xs) (hm : Mod S w w') (hd : ∀ k ∈ blk a, k ∉ S) : Own w' B e size a n cap xs := by
  refine ⟨h.1, ?_⟩
  rcases h.2 with h0 | ⟨g, c, cur, hv, hb, hg, hr⟩
  · exact .inl h0
  · refine .inr ⟨g, c, cur, hv, hb, (hm.block g (Array.getElem?_eq_some_iff.1 hg).1 (hd g ?_)).trans hg, hr⟩
    injection hv with h1
    exact mem_blk.2 ⟨_, h1, rfl⟩
theorem Own.below (h : Own w B e size a n cap xs) (hb : Below w.heap.size w w') : Own w' B e size a n cap xs := h.mod (Mod.ofBelow (S := []) hb) (by simp)
theorem Own.upd {b : Nat} (h : Own w B e size a n cap xs) (hu : Upd b w w') (hb : b ∉ blk a) : Own w' B e size a n cap xs := h.mod (Mod.ofUpd hu) (fun k hk hm => hb (by simp at hm; rw [← hm]; exact hk))
theorem Own.mono {B' : Nat} (h : Own w B e size a n cap xs) (hB : B' ≤ B) : Own w B' e size a n cap xs := by
  refine ⟨h.1, ?_⟩
  rcases h.2 with h0 | ⟨g, c, cur, hv, hb, hr⟩
  · exact .inl h0
  · exact .inr ⟨g, c, cur, hv, by omega, hr⟩
theorem Own.ne {b : Nat} {t : TypeId} {cs : List Value} (h : Own w B e size a n cap xs) (ho : ObjAt w b t cs) (hne : t ≠ e) : b ∉ blk a := fun hk => by
  obtain ⟨p, rfl, rfl⟩ := mem_blk.1 hk
  rcases h.2 with ⟨hv, _⟩ | ⟨g, c, cur, hv, hb, hg, _⟩
  · cases hv
  · injection hv with h1
    injection h1 with h1
    subst h1
    unfold ObjAt at ho
    rw [hg] at ho
    injection ho with ho
    injection ho with _ h2
    exact hne h2.symm
end
/-- Two rows that lie in blocks of their own. -/
def Sep (a b : Option Addr) : Prop := ∀ k ∈ blk a, k ∉ blk b
theorem Sep.symm {a b : Option Addr} (h : Sep a b) : Sep b a := fun k hk hm => h k hm hk
theorem Sep.none_ (b : Option Addr) : Sep none b := fun k hk => by simp [blk] at hk

/-- What a slice shows: n elements, the cells xs. It may lie wherever it likes. -/
def Rd (w : World) (size : Nat) (a : Option Addr) (n : Nat) (xs : List Value) : Prop := xs.length = n * size ∧ (a = none → n = 0) ∧ ∀ p, a = some p → xs ≠ [] → ∃ b o, p = ⟨b, o, none⟩ ∧ b < w.heap.size ∧ ∀ j u, xs[j]? = some u → w.cell? ⟨b, o + j, none⟩ = some u
section
variable {w w' : World} {B size n cap : Nat} {e : TypeId} {a : Option Addr} {xs : List Value}
theorem Own.rd (h : Own w B e size a n cap xs) : Rd w size a n xs := by
  refine ⟨h.1, fun h0 => ?_, fun p hp hx => ?_⟩
  · rcases h.form with ⟨_, h1, _⟩ | ⟨g, h1, _⟩
    · exact h1
    · rw [h1] at h0; cases h0
  · rcases h.form with ⟨h1, _⟩ | ⟨g, h1, h2, h3, _⟩
    · rw [h1] at hp; cases hp
    · subst h1
      injection hp with hp
      subst hp
      exact ⟨g, 0, rfl, h3, fun j u hu => by rw [Nat.zero_add]; exact h.cell j u hu⟩
theorem Rd.below (h : Rd w size a n xs) (hb : Below w.heap.size w w') : Rd w' size a n xs :=
  ⟨h.1, h.2.1, fun p hp hx => by
    obtain ⟨b, o, h1, h2, h3⟩ := h.2.2 p hp hx
    exact ⟨b, o, h1, Nat.lt_of_lt_of_le h2 hb.size, fun j u hu => (hb.cell (p := ⟨b, o + j, none⟩) h2).trans (h3 j u hu)⟩⟩
theorem Rd.mod {S : List Nat} (h : Rd w size a n xs) (hm : Mod S w w') (hd : ∀ k ∈ blk a, k ∉ S) : Rd w' size a n xs :=
  ⟨h.1, h.2.1, fun p hp hx => by
    obtain ⟨b, o, h1, h2, h3⟩ := h.2.2 p hp hx
    refine ⟨b, o, h1, Nat.lt_of_lt_of_le h2 hm.size, fun j u hu => ?_⟩
    have hb : b ∉ S := hd b (mem_blk.2 ⟨p, hp, by rw [h1]⟩)
    rw [World.cell?_of_block (a := ⟨b, o + j, none⟩) (hm.block b h2 hb)]
    exact h3 j u hu⟩
theorem Rd.upd {b : Nat} (h : Rd w size a n xs) (hu : Upd b w w') (hb : b ∉ blk a) : Rd w' size a n xs := h.mod (Mod.ofUpd hu) (fun k hk hm => hb (by simp at hm; rw [← hm]; exact hk))
theorem Rd.cut (h : Rd w size a n xs) {k c : Nat} (hk : k ≤ n) (hc : n ≤ c) : Rd w size (if c = k then a else a.map (·.add (k * size))) (n - k) (xs.drop (k * size)) := by
  refine ⟨by rw [List.length_drop, h.1, Nat.sub_mul], fun h0 => ?_, fun p hp hx => ?_⟩
  · split at h0
    · omega
    · rw [h.2.1 (by simpa using h0)]; omega
  · have hne : k < n := by
      rcases Nat.lt_or_ge k n with h1 | h1
      · exact h1
      · exact absurd (List.drop_eq_nil_of_le (by rw [h.1]; exact Nat.mul_le_mul_right _ h1)) hx
    rw [if_neg (by omega)] at hp
    obtain ⟨q, hq, hqp⟩ := Option.map_eq_some_iff.1 hp
    have hxn : xs ≠ [] := fun h0 => hx (by rw [h0]; simp)
    obtain ⟨b, o, rfl, h2, h3⟩ := h.2.2 q hq hxn
    refine ⟨b, o + k * size, ?_, h2, fun j u hu => ?_⟩
    · rw [← hqp]; unfold Addr.add; split <;> simp_all
    · rw [List.getElem?_drop] at hu
      rw [Nat.add_assoc]
      exact h3 _ u hu
end

/-- append onto a row of one's own, at a step of a region that draws; the row's place written out. -/
theorem step_own {P : Program} {w : World} {ops : Array Oper} {o : Oper} {a : Act} {K : Act → World → Prop} {Q : Exit → Act → World → Prop} {F : Prop} (hgd : o.guard = none) (s x : Operand) (t : TypeId)
    (ho : o.op = .call { callee := .builtin .append, args := #[s, x], argTypes := #[t, t] })
    (B : Nat) (e : TypeId) (i : TypeInfo) (z : Value) (size bytes : Nat) (ht : P.underlying t = some (.slice e)) (hi : P.info? e = some i) (hz : i.zero = some z)
    (hsize : i.size = size) (hby : i.bytes = bytes) (hzs : z.cells.size = size) (hsz : 0 < size)
    (A : Option Addr) (n cap : Nat) (xs : List Value) (hs : a.eval s = .slice A n cap) (hown : Own w B e size A n cap xs)
    (g : Nat) (news : List Value) (hx : a.eval x = .slice (some ⟨g, 0, none⟩) 1 1) (hnews : w.heap[g]? = some (.cells news.toArray e (0, 0))) (hl : news.length = size) (h1 : ∀ u ∈ news, u.oneCell' = true)
    (h63 : n + 1 ≤ maxLen) (hbytes : (n + 1) * bytes ≤ 140737488355328) (hbase : B ≤ w.heap.size)
    (h : ∀ g' cap' w', Own w' B e size (some ⟨g', 0, none⟩) (n + 1) cap' (xs ++ news) → Mod (blk A) w w' → (g' ∈ blk A ∨ w.heap.size ≤ g') → K (a.put o.dst (.slice (some ⟨g', 0, none⟩) (n + 1) cap')) w') :
    if Region.wanted o (yielded ops a.tmps) = true then Oper.wp P o a w K Q else F := by
  refine step_append_lies w hgd s x t ho B e i z size bytes ht hi hz hsize hby hzs hsz (.slice A n cap) n xs hs hown ⟨g, 0, none⟩ 1 1 news hx (by omega) (World.news_of_block hnews) h1 (by omega) h63 hbytes hbase w.heap.size rfl ?_
  intro g' cap' w' h2 h3 h4 h5
  refine h g' cap' w' h2 (Mod.ofGrown h3 (fun k hk => ?_)) ?_
  · cases A with
    | none => simp [Value.ownBlock] at hk
    | some p => exact mem_blk.2 ⟨p, rfl, by simpa [Value.ownBlock] using hk⟩
  · rcases h4 with h4 | h4
    · left
      cases A with
      | none => simp [Value.ownBlock] at h4
      | some p => exact mem_blk.2 ⟨p, rfl, by simpa [Value.ownBlock] using h4⟩
    · right; omega
theorem wpList_own {P : Program} {w : World} {ops : Array Oper} {rest : List Oper} {o : Oper} {a : Act} {Q : Exit → Act → World → Prop} (hgd : o.guard = none) (s x : Operand) (t : TypeId)
    (ho : o.op = .call { callee := .builtin .append, args := #[s, x], argTypes := #[t, t] })
    (B : Nat) (e : TypeId) (i : TypeInfo) (z : Value) (size bytes : Nat) (ht : P.underlying t = some (.slice e)) (hi : P.info? e = some i) (hz : i.zero = some z)
    (hsize : i.size = size) (hby : i.bytes = bytes) (hzs : z.cells.size = size) (hsz : 0 < size)
    (A : Option Addr) (n cap : Nat) (xs : List Value) (hs : a.eval s = .slice A n cap) (hown : Own w B e size A n cap xs)
    (g : Nat) (news : List Value) (hx : a.eval x = .slice (some ⟨g, 0, none⟩) 1 1) (hnews : w.heap[g]? = some (.cells news.toArray e (0, 0))) (hl : news.length = size) (h1 : ∀ u ∈ news, u.oneCell' = true)
    (h63 : n + 1 ≤ maxLen) (hbytes : (n + 1) * bytes ≤ 140737488355328) (hbase : B ≤ w.heap.size)
    (h : ∀ g' cap' w', Own w' B e size (some ⟨g', 0, none⟩) (n + 1) cap' (xs ++ news) → Mod (blk A) w w' → (g' ∈ blk A ∨ w.heap.size ≤ g') → wpList P ops Q rest (a.put o.dst (.slice (some ⟨g', 0, none⟩) (n + 1) cap')) w') : wpList P ops Q (o :: rest) a w := by
  refine wpList_append_lies w hgd s x t ho B e i z size bytes ht hi hz hsize hby hzs hsz (.slice A n cap) n xs hs hown ⟨g, 0, none⟩ 1 1 news hx (by omega) (World.news_of_block hnews) h1 (by omega) h63 hbytes hbase w.heap.size rfl ?_
  intro g' cap' w' h2 h3 h4 h5
  refine h g' cap' w' h2 (Mod.ofGrown h3 (fun k hk => ?_)) ?_
  · cases A with
    | none => simp [Value.ownBlock] at hk
    | some p => exact mem_blk.2 ⟨p, rfl, by simpa [Value.ownBlock] using hk⟩
  · rcases h4 with h4 | h4
    · left
      cases A with
      | none => simp [Value.ownBlock] at h4
      | some p => exact mem_blk.2 ⟨p, rfl, by simpa [Value.ownBlock] using h4⟩
    · right; omega
theorem own_form {w : World} {B size n : Nat} {e : TypeId} {v : Value} {xs : List Value} (h : w.ownsRow B e size v n xs) : ∃ a c, v = .slice a n c ∧ Own w B e size a n c xs := by
  rcases h.2 with ⟨rfl, rfl⟩ | ⟨g, c, cur, rfl, _⟩
  · exact ⟨none, 0, rfl, h⟩
  · exact ⟨_, c, rfl, h⟩
/-- A new row without elements. -/
theorem own_empty (w : World) (e : TypeId) (size : Nat) : (w.alloc (.cells #[] e)).ownsRow w.heap.size e size (.slice (some ⟨w.heap.size, 0, none⟩) 0 0) 0 [] := ⟨by simp, .inr ⟨w.heap.size, 0, #[], rfl, Nat.le_refl _, new_block _ _ _ rfl, Nat.le_refl _, Nat.zero_le _, by simp, by simp⟩⟩
def ClonePost (E size n : Nat) (xs : List Value) (w : World) (e : Ending) (w' : World) : Prop := ∃ a' c', e = .returned (.slice a' n c') ∧ Own w' w.heap.size E size a' n c' xs ∧ Below w.heap.size w w'
theorem clone_post {E size n : Nat} {xs : List Value} {w w1 : World} {v1 : Value} (hown : w1.ownsRow w.heap.size E size v1 (0 + n) ([] ++ xs)) (hg : (w.alloc (.cells #[] E)).grownBy w1 (some w.heap.size)) : ClonePost E size n xs w (.returned v1) w1 := by
  rw [Nat.zero_add, List.nil_append] at hown
  obtain ⟨a, c, rfl, ho⟩ := own_form hown
  exact ⟨a, c, rfl, ho, ((Below.refl _ _).alloc (Nat.le_refl _) _).grown hg (by simp) (fun k hk => by injection hk with hk; omega)⟩
end Go.Proofs.YtoalpdjpljapbaaDoor
