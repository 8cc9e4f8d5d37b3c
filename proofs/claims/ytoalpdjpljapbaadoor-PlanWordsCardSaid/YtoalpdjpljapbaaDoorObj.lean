/- Objects in memory, whatever their fields: plain lemmas. -/
import Derived.Test.YtoalpdjpljapbaaDoorMem
import Derived.Deep.RegionHeld3
namespace Go.Proofs.YtoalpdjpljapbaaDoor
set_option linter.unusedVariables false
set_option linter.unusedSimpArgs false
set_option linter.unnecessarySimpa false
open Go.RowKit Go.Sort

/-- Block b is just these cells, of type t, none frozen. -/
def ObjAt (w : World) (b : Nat) (t : TypeId) (cs : List Value) : Prop := w.heap[b]? = some (.cells cs.toArray t (0, 0))
section
variable {w w' : World} {b c : Nat} {t : TypeId} {cs : List Value}
theorem ObjAt.cell (h : ObjAt w b t cs) (i : Nat) (v : Value) (hv : cs[i]? = some v) : w.cell? ⟨b, i, none⟩ = some v := cell_at h i v (by simpa using hv)
theorem ObjAt.free (h : ObjAt w b t cs) (j : Nat) : w.frozen? ⟨b, j, none⟩ = false := free_at h j
theorem ObjAt.lt (h : ObjAt w b t cs) : b < w.heap.size := (Array.getElem?_eq_some_iff.1 h).1
theorem ObjAt.set (h : ObjAt w b t cs) (i : Nat) (v : Value) : ObjAt (w.setCell ⟨b, i, none⟩ v) b t (cs.set i v) := by
  unfold ObjAt
  rw [setCell_block h i]
  simp
theorem ObjAt.setRow (h : ObjAt w b t cs) (cs' : Array Value) : ObjAt (w.setRow b cs') b t cs'.toList := setRow_heap _ _ _ _ _ _ h
theorem ObjAt.below (h : ObjAt w b t cs) (hb : Below w.heap.size w w') : ObjAt w' b t cs := keepB hb h.lt h
theorem ObjAt.belowB {B : Nat} (h : ObjAt w b t cs) (hb : Below B w w') (hB : b < B) : ObjAt w' b t cs := keepB hb hB h
theorem ObjAt.upd (h : ObjAt w b t cs) (hu : Upd c w w') (hc : b ≠ c) : ObjAt w' b t cs := hu.keep hc h
theorem ObjAt.new (w : World) (t : TypeId) (cs : List Value) : ObjAt (w.alloc (.cells cs.toArray t)) w.heap.size t cs := new_block w _ _ rfl
theorem ObjAt.newA (w : World) (t : TypeId) (cs : Array Value) : ObjAt (w.alloc (.cells cs t)) w.heap.size t cs.toList := new_block w _ _ rfl
theorem ObjAt.range (h : ObjAt w b t cs) (o : Nat) (xs : List Value) (hx : ∀ j v, xs[j]? = some v → cs[o + j]? = some v) : w.rangeAt b o xs := fun j v hv => h.cell _ _ (hx j v hv)
theorem ObjAt.ne {t' : TypeId} {cs' : List Value} (h : ObjAt w b t cs) (h' : ObjAt w c t' cs') (hn : t ≠ t') : b ≠ c := by
  rintro rfl
  unfold ObjAt at h h'
  rw [h] at h'
  injection h' with h'
  injection h' with _ ht
  exact hn ht
end
theorem Upd.trans_below {b : Nat} {x y z : World} (h : Upd b x y) (k : Below y.heap.size y z) : Upd b x z := h.trans (Upd.of_below k)
/-- What a call left below what the caller had at first. -/
theorem bupd {b : Nat} {x y z : World} (h : Below x.heap.size x y) (hu : Upd b y z) (hb : x.heap.size ≤ b) : Below x.heap.size x z := h.trans (hu.below hb h.size)
theorem bmore {x y z : World} (h : Below x.heap.size x y) (k : Below y.heap.size y z) : Below x.heap.size x z := h.trans (k.mono h.size)
theorem brg {x y : World} (h : Below x.heap.size x y) (d : Nat) (os : Array Obj) : Below x.heap.size x (grow (redrawn y d) os) := bmore h (below_regrown y d os)
/-- A callee that leaves the world alone, met in a region that draws and holds calls that make memory. -/
theorem regrown_same {P : Program} {f : FuncId} {args : Array Value} {w : World} {d : Nat} {os : Array Obj} {v : Value}
    (h : Calls P f args (grow (redrawn w d) os) fun e w' => e = .returned v ∧ grow (redrawn w d) os = w') : Calls P f args (grow (redrawn w d) os) fun e w'' => e = .returned v ∧ ∃ p : Regrown, w'' = grow (redrawn w p.d) p.os :=
  h.mono fun _ _ ⟨he, hb⟩ => ⟨he, ⟨d, os⟩, hb.symm⟩
theorem quiet_same {P : Program} {f : FuncId} {args : Array Value} {w : World} {n : Nat} {v : Value}
    (h : Calls P f args (w.drewN n) fun e w' => e = .returned v ∧ w.drewN n = w') : Calls P f args (w.drewN n) fun e w'' => e = .returned v ∧ ∃ m, w'' = w.drewN m :=
  h.mono fun _ _ ⟨he, hm⟩ => ⟨he, n, hm.symm⟩
theorem results_row_tmp {P : Program} {fn : Func} {p u : Tmp} {ty : TypeId} (h : fn.results = #[.cell p ty, .tmp u]) (tmps : Array Value) (w : World) (g : Nat) (t : TypeId) (cs : Array Value) (fr : Nat × Nat) (d : TypeDesc)
    (hp : tmps.getD p undef = .pointer (some ⟨g, 0, none⟩)) (hg : w.heap[g]? = some (.cells cs t fr))
    (hu : P.underlying ty = some d) (hd : (match d with | .struct _ | .array _ _ => true | _ => false) = true) (hi : (P.info? ty).map (·.size) = some cs.size) (x : Value) (hx : tmps.getD u undef = x) :
    (results fn tmps).run P w = .ok (.tuple #[.agg cs, x]) w := by
  subst hx
  have hp' : tmps[p]?.getD undef = .pointer (some ⟨g, 0, none⟩) := by simpa using hp
  simp [results, h, hp', asAddr, run_loadVar_row w g t ty cs fr d hg hu hd hi]
/-- A whole array or struct loaded, at a guarded operation. -/
theorem wpList_load_midW {P : Program} {ops : Array Oper} {rest : List Oper} {op : Oper} {a : Act} {w : World} {Q : Exit → Act → World → Prop} (hw : Region.wanted op (yielded ops a.tmps) = true) (ty : TypeId) (x : Operand) (ho : op.op = .load ty x)
    (b o : Nat) (hx : a.eval x = .pointer (some ⟨b, o, none⟩)) (cs : List Value) (d : TypeDesc) (hc : w.rangeAt b o cs)
    (hu : P.underlying ty = some d) (hd : d.isRow = true) (hi : (P.info? ty).map (·.size) = some cs.length)
    (h : wpList P ops Q rest (a.put op.dst (.agg cs.toArray)) w) : wpList P ops Q (op :: rest) a w :=
  BigFrame.wpList_want hw fun _ hK => wp_load_mid ty x ho b o hx cs d hc hu hd hi (hK _ _ h)
end Go.Proofs.YtoalpdjpljapbaaDoor
