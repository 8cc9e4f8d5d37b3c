/- Arrays and objects in memory: plain lemmas. -/
import Derived.Test.YtoalpdjpljapbaaDoorOpen
import Derived.Laws.StructEq
import Derived.Deep.MidRow
import Derived.Deep.WholeRow
import Derived.Lib.QuietBelow
namespace Go.Proofs.YtoalpdjpljapbaaDoor
set_option linter.unusedVariables false
set_option linter.unusedSimpArgs false
set_option linter.unnecessarySimpa false
open Go.RowKit Go.Sort
section
variable {P : Program} (w : World)
theorem run_equalIn_array_int (d : Nat) {t e : TypeId} {n : Nat} {k : IntKind} (xs ys : List Int) (ht : P.underlying t = some (.array n e)) (he : P.underlying e = some (.int k)) (hi : (P.info? e).map (·.size) = some 1)
    (hx : xs.length = n) (hy : ys.length = n) :
    (Op.equalIn (d + 2) t (.agg (xs.map (Value.int k)).toArray) (.agg (ys.map (Value.int k)).toArray)).run P w = .ok (xs == ys) w := by
  have hsz : (sizeOf e).run P w = .ok 1 w := by
    cases hq : P.info? e with
    | none => simp [hq] at hi
    | some i => have : i.size = 1 := by simpa [hq] using hi
                simp [sizeOf, typeInfo, hq, this]
  have hagg : (isAgg e).run P w = .ok false w := by
    unfold isAgg
    rw [Sem.run_bind, run_underlying he w]
    rfl
  have hpart : ∀ (zs : List Int) (i : Nat) (h : i < zs.length), (part e (zs.map (Value.int k)).toArray i).run P w = .ok (.int k zs[i]) w := by
    intro zs i h
    simp [part, Sem.run_bind, hagg, h, Sem.run_pure]
  rw [Op.equalIn]
  simp only [Sem.run_bind, run_underlying ht, Result.andThen_ok, hsz, Std.Legacy.Range.forIn_eq_forIn_range', Std.Legacy.Range.size]
  have key : ∀ (m j : Nat), j + m = n → (forIn (List.range' j m) ((none, ()) : Option Bool × Unit) (fun i (_r : Option Bool × Unit) => (do
      if !(← Op.equalIn (d + 1) e (← part e (xs.map (Value.int k)).toArray (i * 1)) (← part e (ys.map (Value.int k)).toArray (i * 1))) then pure (ForInStep.done (some false, ())) else pure (ForInStep.yield (none, ())) : Sem (ForInStep (Option Bool × Unit))))).run P w = .ok (if xs.drop j == ys.drop j then (none, ()) else (some false, ())) w := by
    intro m
    induction m with
    | zero =>
      intro j hj
      rw [List.drop_eq_nil_of_le (by omega), List.drop_eq_nil_of_le (by omega)]
      simp [Sem.run_pure]
    | succ m ih =>
      intro j hj
      have hjx : j < xs.length := by omega
      have hjy : j < ys.length := by omega
      rw [List.range'_succ, List.forIn_cons, List.drop_eq_getElem_cons hjx, List.drop_eq_getElem_cons hjy]
      simp only [Sem.run_bind, Nat.mul_one, hpart _ _ hjx, hpart _ _ hjy, Result.andThen_ok, run_equalIn_int w d e k k _ _ he]
      cases hb : xs[j] == ys[j]
      · have e1 : (xs[j] :: xs.drop (j + 1) == ys[j] :: ys.drop (j + 1)) = false := by rw [List.cons_beq_cons, hb]; rfl
        rw [e1]; simp [Sem.run_pure]
      · simp only [Bool.not_true, Bool.false_eq_true, if_false, Sem.run_pure, Result.andThen_ok]
        have e1 : (xs[j] :: xs.drop (j + 1) == ys[j] :: ys.drop (j + 1)) = (xs.drop (j + 1) == ys.drop (j + 1)) := by rw [List.cons_beq_cons, hb]; rfl
        rw [e1]
        have := ih (j + 1) (by omega)
        simpa only [Sem.run_bind, Nat.mul_one] using this
  have h0 := key n 0 (by omega)
  simp only [List.drop_zero, Sem.run_bind] at h0
  simp only [Nat.sub_zero, Nat.add_sub_cancel, Nat.div_one]
  rw [h0]
  cases xs == ys <;> simp [Sem.run_pure]

/-- '==' on arrays of integers, as the walk meets it. -/
theorem run_eql_array_int {t e : TypeId} {n : Nat} {k : IntKind} (xs ys : List Int) (ht : P.underlying t = some (.array n e)) (he : P.underlying e = some (.int k)) (hi : (P.info? e).map (·.size) = some 1)
    (hx : xs.length = n) (hy : ys.length = n) : (binOp .eql t (.agg (xs.map (Value.int k)).toArray) (.agg (ys.map (Value.int k)).toArray)).run P w = .ok (.bool (xs == ys)) w := by
  rw [run_eql_struct, run_equalIn_array_int w 9998 xs ys ht he hi hx hy]; rfl
theorem run_neq_array_int {t e : TypeId} {n : Nat} {k : IntKind} (xs ys : List Int) (ht : P.underlying t = some (.array n e)) (he : P.underlying e = some (.int k)) (hi : (P.info? e).map (·.size) = some 1)
    (hx : xs.length = n) (hy : ys.length = n) : (binOp .neq t (.agg (xs.map (Value.int k)).toArray) (.agg (ys.map (Value.int k)).toArray)).run P w = .ok (.bool (!(xs == ys))) w := by
  rw [run_neq_struct, run_equalIn_array_int w 9998 xs ys ht he hi hx hy]; rfl
end

/-- w' is w with new blocks, and with writes to block b alone. -/
def Upd (b : Nat) (w w' : World) : Prop := w.grownBy w' (some b)
theorem Upd.refl (b : Nat) (w : World) : Upd b w w := ⟨rfl, rfl, rfl, Nat.le_refl _, fun _ _ _ => rfl⟩
theorem Upd.trans {b : Nat} {x y z : World} (h : Upd b x y) (k : Upd b y z) : Upd b x z :=
  ⟨k.os.trans h.os, k.tape.trans h.tape, k.output.trans h.output, Nat.le_trans h.size k.size, fun i hi hn => (k.block i (Nat.lt_of_lt_of_le hi h.size) hn).trans (h.block i hi hn)⟩
theorem Upd.of_below {b : Nat} {x y : World} (h : Below x.heap.size x y) : Upd b x y := ⟨h.os, h.tape, h.output, h.size, fun k hk _ => h.block k hk⟩
theorem Upd.below {b B : Nat} {x y : World} (h : Upd b x y) (hb : B ≤ b) (hB : B ≤ x.heap.size) : Below B x y := ⟨h.os, h.tape, h.output, h.size, fun k hk => h.block k (by omega) (by simp; omega)⟩
theorem Upd.setCell (w : World) (a : Addr) (v : Value) : Upd a.block w (w.setCell a v) := ⟨rfl, rfl, rfl, by simp [World.setCell], fun k _ hn => Below.heap_setCell _ _ _ _ (by simpa using hn)⟩
theorem Upd.drew {b : Nat} {x y : World} (h : Upd b x y) : Upd b x y.drew := h.trans ⟨rfl, rfl, rfl, Nat.le_refl _, fun _ _ _ => rfl⟩
theorem Upd.drewN {b : Nat} {x y : World} (h : Upd b x y) (n : Nat) : Upd b x (y.drewN n) := h.trans ⟨rfl, rfl, rfl, Nat.le_refl _, fun _ _ _ => rfl⟩
theorem Upd.alloc {b : Nat} {x y : World} (h : Upd b x y) (o : Obj) : Upd b x (y.alloc o) := h.trans (Upd.of_below ((Below.refl _ _).alloc (Nat.le_refl _) o))
theorem Upd.keep {b : Nat} {x y : World} (h : Upd b x y) {k : Nat} {o : Obj} (hk : k ≠ b) (ho : x.heap[k]? = some o) : y.heap[k]? = some o :=
  (h.block k (Array.getElem?_eq_some_iff.1 ho).1 (by simpa using hk)).trans ho
theorem RowI.upd {b : Nat} {w w' : World} {k : IntKind} {v : Value} {xs : List Int} (h : RowI w k v xs) (hu : Upd b w w') (hb : w.heap.size ≤ b ∨ ∀ a c, v = .slice (some a) xs.length c → xs ≠ [] → a.block ≠ b) : RowI w' k v xs := by
  obtain ⟨a, cap, rfl, h1, h2, h3⟩ := h
  refine ⟨a, cap, rfl, h1, h2, fun hn => ?_⟩
  obtain ⟨g, off, rfl, hc⟩ := h3 hn
  refine ⟨g, off, rfl, fun i hi => ?_⟩
  have hlt := World.block_lt_of_cell? w ⟨g, off + i, none⟩ (hc i hi)
  rw [World.cell?_of_block (a := ⟨g, off + i, none⟩) (hu.block g hlt (by
    rcases hb with hb | hb
    · simp; simp at hlt; omega
    · simpa using hb ⟨g, off, none⟩ cap rfl hn))]
  exact hc i hi
theorem free_of_block {w : World} {b : Nat} {cs : Array Value} {t : TypeId} (h : w.heap[b]? = some (.cells cs t (0, 0))) : ∀ j, w.frozen? ⟨b, j, none⟩ = false := fun j => free_at h j
theorem setCell_block {w : World} {b : Nat} {cs : Array Value} {t : TypeId} (h : w.heap[b]? = some (.cells cs t (0, 0))) (j : Nat) (v : Value) : (w.setCell ⟨b, j, none⟩ v).heap[b]? = some (.cells (cs.setIfInBounds j v) t (0, 0)) := by
  simp [World.setCell, Array.getElem?_modify, h]

/-- A whole array or struct stored into the block that was made last. -/
theorem wpList_store_new {P : Program} {ops : Array Oper} {rest : List Oper} {op : Oper} {a : Act} {w : World} {Q : Exit → Act → World → Prop} (hgd : op.guard = none) (ty : TypeId) (x y : Operand) (ho : op.op = .store ty x y)
    (c c' : Array Value) (hx : a.eval x = .pointer (some ⟨w.heap.size, 0, none⟩)) (hy : a.eval y = .agg c') (hi : (P.info? ty).map (·.size) = some c'.size) (hs : c.size = c'.size) (h1 : c'.all (·.oneCell') = true)
    (h : wpList P ops Q rest (a.put op.dst undef) (w.alloc (.cells c' ty))) : wpList P ops Q (op :: rest) a (w.alloc (.cells c ty)) :=
  wpList_plain hgd fun _ hK => by
    unfold Oper.wp execOp
    simp only [ho, hx, hy, run_storeAt_new (P := P) w ty c c' hi hs h1, Sem.run_bind, Result.andThen_ok, Sem.run_pure]
    exact hK _ _ h
/-- The same, the world behind it under a name. -/
theorem wpList_store_newW {P : Program} {ops : Array Oper} {rest : List Oper} {op : Oper} {a : Act} {w W : World} {Q : Exit → Act → World → Prop} (ty : TypeId) (c c' : Array Value) (hW : W = w.alloc (.cells c' ty)) (x y : Operand) (hgd : op.guard = none) (ho : op.op = .store ty x y)
    (hx : a.eval x = .pointer (some ⟨w.heap.size, 0, none⟩)) (hy : a.eval y = .agg c') (hi : (P.info? ty).map (·.size) = some c'.size) (hs : c.size = c'.size) (h1 : c'.all (·.oneCell') = true)
    (h : wpList P ops Q rest (a.put op.dst undef) W) : wpList P ops Q (op :: rest) a (w.alloc (.cells c ty)) := by
  subst hW
  exact wpList_store_new hgd ty x y ho c c' hx hy hi hs h1 h
/-- A whole array or struct stored over a whole block. -/
theorem wpList_store_block {P : Program} {ops : Array Oper} {rest : List Oper} {op : Oper} {a : Act} {w : World} {Q : Exit → Act → World → Prop} (hgd : op.guard = none) (ty : TypeId) (x y : Operand) (ho : op.op = .store ty x y)
    (b : Nat) (t : TypeId) (old c : Array Value) (hx : a.eval x = .pointer (some ⟨b, 0, none⟩)) (hy : a.eval y = .agg c) (hg : w.heap[b]? = some (.cells old t (0, 0))) (hi : (P.info? ty).map (·.size) = some c.size) (hs : old.size = c.size) (h1 : c.all (·.oneCell') = true)
    (h : wpList P ops Q rest (a.put op.dst undef) (w.setRow b c)) : wpList P ops Q (op :: rest) a w :=
  wpList_plain hgd fun _ hK => by
    unfold Oper.wp execOp
    simp only [ho, hx, hy, Instr.storeAt, Instr.sureAddr, Sem.run_bind, Sem.run_pure, Result.andThen_ok, run_storeVar_row w b t ty old c hg hi hs h1]
    exact hK _ _ h
theorem Upd.setRow (w : World) (b : Nat) (c : Array Value) : Upd b w (w.setRow b c) := ⟨rfl, rfl, rfl, by simp, fun k _ hk => setRow_other w b k _ (fun e => hk (by simp [e]))⟩
theorem ints_all (k : IntKind) (r : List Int) : ((r.map (Value.int k)).toArray).all (·.oneCell') = true := all_oneCell_toArray (by intro v hv; simp at hv; obtain ⟨_, _, rfl⟩ := hv; rfl)
end Go.Proofs.YtoalpdjpljapbaaDoor
