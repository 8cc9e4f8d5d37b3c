/- Package plan: the reader's state. -/
import Derived.Test.YtoalpdjpljapbaaDoorPl1
namespace Go.Proofs.YtoalpdjpljapbaaDoor
set_option linter.unusedVariables false
set_option linter.unusedSimpArgs false
set_option linter.unnecessarySimpa false
open Go.RowKit Go.Sort
set_option maxHeartbeats 2000000
set_option maxRecDepth 100000
set_option linter.unusedVariables false
/-- A configuration, plain. -/
structure Pc where
  cats : Int
  g : List (List Int)
  r : List (List Int)
  p : List (List Int)
  n : List (List Int)
  s : List (List Int)
  gate : Int
  quota : Int
def pcOf (c : Cv) : Pc := ⟨c.cats, c.g.l, c.r.l, c.p.l, c.n.l, c.s.l, c.gate, c.quota⟩
/-- The reader at work. -/
structure RD (w : World) (rb : Nat) (c : Cv) (last : Int) (W : World) : Prop where
  bel : Below w.heap.size w W
  new : w.heap.size ≤ rb
  ob : ObjAt W rb 51 [.int .i64 c.cats, .slice c.g.a c.g.l.length c.g.cap, .slice c.r.a c.r.l.length c.r.cap, .slice c.p.a c.p.l.length c.p.cap, .slice c.n.a c.n.l.length c.n.cap, .slice c.s.a c.s.l.length c.s.cap, .int .i64 c.gate, .int .i64 c.quota, .int .i64 last]
  g : Own W w.heap.size 58 3 c.g.a c.g.l.length c.g.cap (iF c.g.l)
  r : Own W w.heap.size 60 3 c.r.a c.r.l.length c.r.cap (iF c.r.l)
  p : Own W w.heap.size 62 2 c.p.a c.p.l.length c.p.cap (iF c.p.l)
  n : Own W w.heap.size 64 2 c.n.a c.n.l.length c.n.cap (iF c.n.l)
  s : Own W w.heap.size 66 2 c.s.a c.s.l.length c.s.cap (iF c.s.l)
  lg : ∀ x ∈ c.g.l, x.length = 3
  lr : ∀ x ∈ c.r.l, x.length = 3
  lp : ∀ x ∈ c.p.l, x.length = 2
  ln : ∀ x ∈ c.n.l, x.length = 2
  ls : ∀ x ∈ c.s.l, x.length = 2
theorem RD.more {w : World} {rb : Nat} {c : Cv} {last : Int} {W W' : World} (h : RD w rb c last W) (hb : Below W.heap.size W W') : RD w rb c last W' :=
  ⟨bmore h.bel hb, h.new, h.ob.below hb, h.g.below hb, h.r.below hb, h.p.below hb, h.n.below hb, h.s.below hb, h.lg, h.lr, h.lp, h.ln, h.ls⟩
theorem RD.cfg {w : World} {rb : Nat} {c : Cv} {last : Int} {W : World} (h : RD w rb c last W) : CfgOk W c :=
  ⟨⟨h.g.rd, h.g.le, h.g.capMax, h.lg⟩, ⟨h.r.rd, h.r.le, h.r.capMax, h.lr⟩, ⟨h.p.rd, h.p.le, h.p.capMax, h.lp⟩, ⟨h.n.rd, h.n.le, h.n.capMax, h.ln⟩, ⟨h.s.rd, h.s.le, h.s.capMax, h.ls⟩⟩
theorem iF_snoc (l : List (List Int)) (x : List Int) : iF (l ++ [x]) = iF l ++ ivs x := by simp [iF]
theorem RD.put {w : World} {rb : Nat} {c : Cv} {last : Int} {W : World} (h : RD w rb c last W) (j : Nat) (v : Value) : Below w.heap.size w (W.setCell ⟨rb, j, none⟩ v) := h.bel.trans ((Upd.setCell W ⟨rb, j, none⟩ v).below h.new h.bel.size)
/-- Fields that are numbers. -/
theorem RD.setLast {w : World} {rb : Nat} {c : Cv} {last : Int} {W : World} (h : RD w rb c last W) (x : Int) : RD w rb c x (W.setCell ⟨rb, 8, none⟩ (.int .i64 x)) := by
  have hu := Upd.setCell W ⟨rb, 8, none⟩ (.int .i64 x)
  exact ⟨h.put 8 _, h.new, h.ob.set 8 _, h.g.upd hu (h.g.ne h.ob (by decide)), h.r.upd hu (h.r.ne h.ob (by decide)), h.p.upd hu (h.p.ne h.ob (by decide)), h.n.upd hu (h.n.ne h.ob (by decide)), h.s.upd hu (h.s.ne h.ob (by decide)), h.lg, h.lr, h.lp, h.ln, h.ls⟩
theorem RD.setCats {w : World} {rb : Nat} {c : Cv} {last : Int} {W : World} (h : RD w rb c last W) (x : Int) : RD w rb { c with cats := x } last (W.setCell ⟨rb, 0, none⟩ (.int .i64 x)) := by
  have hu := Upd.setCell W ⟨rb, 0, none⟩ (.int .i64 x)
  exact ⟨h.put 0 _, h.new, h.ob.set 0 _, h.g.upd hu (h.g.ne h.ob (by decide)), h.r.upd hu (h.r.ne h.ob (by decide)), h.p.upd hu (h.p.ne h.ob (by decide)), h.n.upd hu (h.n.ne h.ob (by decide)), h.s.upd hu (h.s.ne h.ob (by decide)), h.lg, h.lr, h.lp, h.ln, h.ls⟩
theorem RD.setGate {w : World} {rb : Nat} {c : Cv} {last : Int} {W : World} (h : RD w rb c last W) (x y : Int) : RD w rb { c with gate := x, quota := y } last ((W.setCell ⟨rb, 6, none⟩ (.int .i64 x)).setCell ⟨rb, 7, none⟩ (.int .i64 y)) := by
  have hu := (Upd.setCell W ⟨rb, 6, none⟩ (.int .i64 x)).trans (Upd.setCell _ ⟨rb, 7, none⟩ (.int .i64 y))
  exact ⟨h.bel.trans (hu.below h.new h.bel.size), h.new, (h.ob.set 6 _).set 7 _, h.g.upd hu (h.g.ne h.ob (by decide)), h.r.upd hu (h.r.ne h.ob (by decide)), h.p.upd hu (h.p.ne h.ob (by decide)), h.n.upd hu (h.n.ne h.ob (by decide)), h.s.upd hu (h.s.ne h.ob (by decide)), h.lg, h.lr, h.lp, h.ln, h.ls⟩
theorem RD.addG {w : World} {rb : Nat} {c : Cv} {last : Int} {W W1 W2 : World} (h : RD w rb c last W) (hW : Below W.heap.size W W1) {g' c' : Nat} {row : List Int} (ho : Own W2 w.heap.size 58 3 (some ⟨g', 0, none⟩) (c.g.l.length + 1) c' (iF c.g.l ++ ivs row)) (hm : Mod (blk c.g.a) W1 W2) (hrow : row.length = 3) :
    RD w rb { c with g := ⟨some ⟨g', 0, none⟩, c', c.g.l ++ [row]⟩ } last (W2.setCell ⟨rb, 1, none⟩ (.slice (some ⟨g', 0, none⟩) (c.g.l.length + 1) c')) := by
  have h1 := h.more hW
  have hu := Upd.setCell W2 ⟨rb, 1, none⟩ (.slice (some ⟨g', 0, none⟩) (c.g.l.length + 1) c')
  have hob := h1.ob.mod hm (h1.g.ne h1.ob (by decide))
  have hb2 : Below w.heap.size w W2 := h1.bel.trans (hm.below (fun k hk => (h1.g.ge k hk).1) h1.bel.size)
  have hl : (c.g.l ++ [row]).length = c.g.l.length + 1 := by simp
  have ho2 := ho.upd hu (ho.ne hob (by decide))
  have hrows : ∀ x ∈ c.g.l ++ [row], x.length = 3 := fun x hx => by
    rcases List.mem_append.1 hx with hx | hx
    · exact h.lg x hx
    · rw [List.mem_singleton.1 hx]; exact hrow
  refine ⟨hb2.trans (hu.below h.new hb2.size), h.new, ?_, ?_, ((h1.r.mod hm (h1.r.apart h1.g (by decide))).upd hu ((h1.r.mod hm (h1.r.apart h1.g (by decide))).ne hob (by decide))), ((h1.p.mod hm (h1.p.apart h1.g (by decide))).upd hu ((h1.p.mod hm (h1.p.apart h1.g (by decide))).ne hob (by decide))), ((h1.n.mod hm (h1.n.apart h1.g (by decide))).upd hu ((h1.n.mod hm (h1.n.apart h1.g (by decide))).ne hob (by decide))), ((h1.s.mod hm (h1.s.apart h1.g (by decide))).upd hu ((h1.s.mod hm (h1.s.apart h1.g (by decide))).ne hob (by decide))), hrows, h.lr, h.lp, h.ln, h.ls⟩
  · have := hob.set 1 (.slice (some ⟨g', 0, none⟩) (c.g.l.length + 1) c')
    rw [hl]; exact this
  · rw [hl, iF_snoc]; exact ho2
theorem RD.addR {w : World} {rb : Nat} {c : Cv} {last : Int} {W W1 W2 : World} (h : RD w rb c last W) (hW : Below W.heap.size W W1) {g' c' : Nat} {row : List Int} (ho : Own W2 w.heap.size 60 3 (some ⟨g', 0, none⟩) (c.r.l.length + 1) c' (iF c.r.l ++ ivs row)) (hm : Mod (blk c.r.a) W1 W2) (hrow : row.length = 3) :
    RD w rb { c with r := ⟨some ⟨g', 0, none⟩, c', c.r.l ++ [row]⟩ } last (W2.setCell ⟨rb, 2, none⟩ (.slice (some ⟨g', 0, none⟩) (c.r.l.length + 1) c')) := by
  have h1 := h.more hW
  have hu := Upd.setCell W2 ⟨rb, 2, none⟩ (.slice (some ⟨g', 0, none⟩) (c.r.l.length + 1) c')
  have hob := h1.ob.mod hm (h1.r.ne h1.ob (by decide))
  have hb2 : Below w.heap.size w W2 := h1.bel.trans (hm.below (fun k hk => (h1.r.ge k hk).1) h1.bel.size)
  have hl : (c.r.l ++ [row]).length = c.r.l.length + 1 := by simp
  have ho2 := ho.upd hu (ho.ne hob (by decide))
  have hrows : ∀ x ∈ c.r.l ++ [row], x.length = 3 := fun x hx => by
    rcases List.mem_append.1 hx with hx | hx
    · exact h.lr x hx
    · rw [List.mem_singleton.1 hx]; exact hrow
  refine ⟨hb2.trans (hu.below h.new hb2.size), h.new, ?_, ((h1.g.mod hm (h1.g.apart h1.r (by decide))).upd hu ((h1.g.mod hm (h1.g.apart h1.r (by decide))).ne hob (by decide))), ?_, ((h1.p.mod hm (h1.p.apart h1.r (by decide))).upd hu ((h1.p.mod hm (h1.p.apart h1.r (by decide))).ne hob (by decide))), ((h1.n.mod hm (h1.n.apart h1.r (by decide))).upd hu ((h1.n.mod hm (h1.n.apart h1.r (by decide))).ne hob (by decide))), ((h1.s.mod hm (h1.s.apart h1.r (by decide))).upd hu ((h1.s.mod hm (h1.s.apart h1.r (by decide))).ne hob (by decide))), h.lg, hrows, h.lp, h.ln, h.ls⟩
  · have := hob.set 2 (.slice (some ⟨g', 0, none⟩) (c.r.l.length + 1) c')
    rw [hl]; exact this
  · rw [hl, iF_snoc]; exact ho2
theorem RD.addP {w : World} {rb : Nat} {c : Cv} {last : Int} {W W1 W2 : World} (h : RD w rb c last W) (hW : Below W.heap.size W W1) {g' c' : Nat} {row : List Int} (ho : Own W2 w.heap.size 62 2 (some ⟨g', 0, none⟩) (c.p.l.length + 1) c' (iF c.p.l ++ ivs row)) (hm : Mod (blk c.p.a) W1 W2) (hrow : row.length = 2) :
    RD w rb { c with p := ⟨some ⟨g', 0, none⟩, c', c.p.l ++ [row]⟩ } last (W2.setCell ⟨rb, 3, none⟩ (.slice (some ⟨g', 0, none⟩) (c.p.l.length + 1) c')) := by
  have h1 := h.more hW
  have hu := Upd.setCell W2 ⟨rb, 3, none⟩ (.slice (some ⟨g', 0, none⟩) (c.p.l.length + 1) c')
  have hob := h1.ob.mod hm (h1.p.ne h1.ob (by decide))
  have hb2 : Below w.heap.size w W2 := h1.bel.trans (hm.below (fun k hk => (h1.p.ge k hk).1) h1.bel.size)
  have hl : (c.p.l ++ [row]).length = c.p.l.length + 1 := by simp
  have ho2 := ho.upd hu (ho.ne hob (by decide))
  have hrows : ∀ x ∈ c.p.l ++ [row], x.length = 2 := fun x hx => by
    rcases List.mem_append.1 hx with hx | hx
    · exact h.lp x hx
    · rw [List.mem_singleton.1 hx]; exact hrow
  refine ⟨hb2.trans (hu.below h.new hb2.size), h.new, ?_, ((h1.g.mod hm (h1.g.apart h1.p (by decide))).upd hu ((h1.g.mod hm (h1.g.apart h1.p (by decide))).ne hob (by decide))), ((h1.r.mod hm (h1.r.apart h1.p (by decide))).upd hu ((h1.r.mod hm (h1.r.apart h1.p (by decide))).ne hob (by decide))), ?_, ((h1.n.mod hm (h1.n.apart h1.p (by decide))).upd hu ((h1.n.mod hm (h1.n.apart h1.p (by decide))).ne hob (by decide))), ((h1.s.mod hm (h1.s.apart h1.p (by decide))).upd hu ((h1.s.mod hm (h1.s.apart h1.p (by decide))).ne hob (by decide))), h.lg, h.lr, hrows, h.ln, h.ls⟩
  · have := hob.set 3 (.slice (some ⟨g', 0, none⟩) (c.p.l.length + 1) c')
    rw [hl]; exact this
  · rw [hl, iF_snoc]; exact ho2
theorem RD.addN {w : World} {rb : Nat} {c : Cv} {last : Int} {W W1 W2 : World} (h : RD w rb c last W) (hW : Below W.heap.size W W1) {g' c' : Nat} {row : List Int} (ho : Own W2 w.heap.size 64 2 (some ⟨g', 0, none⟩) (c.n.l.length + 1) c' (iF c.n.l ++ ivs row)) (hm : Mod (blk c.n.a) W1 W2) (hrow : row.length = 2) :
    RD w rb { c with n := ⟨some ⟨g', 0, none⟩, c', c.n.l ++ [row]⟩ } last (W2.setCell ⟨rb, 4, none⟩ (.slice (some ⟨g', 0, none⟩) (c.n.l.length + 1) c')) := by
  have h1 := h.more hW
  have hu := Upd.setCell W2 ⟨rb, 4, none⟩ (.slice (some ⟨g', 0, none⟩) (c.n.l.length + 1) c')
  have hob := h1.ob.mod hm (h1.n.ne h1.ob (by decide))
  have hb2 : Below w.heap.size w W2 := h1.bel.trans (hm.below (fun k hk => (h1.n.ge k hk).1) h1.bel.size)
  have hl : (c.n.l ++ [row]).length = c.n.l.length + 1 := by simp
  have ho2 := ho.upd hu (ho.ne hob (by decide))
  have hrows : ∀ x ∈ c.n.l ++ [row], x.length = 2 := fun x hx => by
    rcases List.mem_append.1 hx with hx | hx
    · exact h.ln x hx
    · rw [List.mem_singleton.1 hx]; exact hrow
  refine ⟨hb2.trans (hu.below h.new hb2.size), h.new, ?_, ((h1.g.mod hm (h1.g.apart h1.n (by decide))).upd hu ((h1.g.mod hm (h1.g.apart h1.n (by decide))).ne hob (by decide))), ((h1.r.mod hm (h1.r.apart h1.n (by decide))).upd hu ((h1.r.mod hm (h1.r.apart h1.n (by decide))).ne hob (by decide))), ((h1.p.mod hm (h1.p.apart h1.n (by decide))).upd hu ((h1.p.mod hm (h1.p.apart h1.n (by decide))).ne hob (by decide))), ?_, ((h1.s.mod hm (h1.s.apart h1.n (by decide))).upd hu ((h1.s.mod hm (h1.s.apart h1.n (by decide))).ne hob (by decide))), h.lg, h.lr, h.lp, hrows, h.ls⟩
  · have := hob.set 4 (.slice (some ⟨g', 0, none⟩) (c.n.l.length + 1) c')
    rw [hl]; exact this
  · rw [hl, iF_snoc]; exact ho2
theorem RD.addS {w : World} {rb : Nat} {c : Cv} {last : Int} {W W1 W2 : World} (h : RD w rb c last W) (hW : Below W.heap.size W W1) {g' c' : Nat} {row : List Int} (ho : Own W2 w.heap.size 66 2 (some ⟨g', 0, none⟩) (c.s.l.length + 1) c' (iF c.s.l ++ ivs row)) (hm : Mod (blk c.s.a) W1 W2) (hrow : row.length = 2) :
    RD w rb { c with s := ⟨some ⟨g', 0, none⟩, c', c.s.l ++ [row]⟩ } last (W2.setCell ⟨rb, 5, none⟩ (.slice (some ⟨g', 0, none⟩) (c.s.l.length + 1) c')) := by
  have h1 := h.more hW
  have hu := Upd.setCell W2 ⟨rb, 5, none⟩ (.slice (some ⟨g', 0, none⟩) (c.s.l.length + 1) c')
  have hob := h1.ob.mod hm (h1.s.ne h1.ob (by decide))
  have hb2 : Below w.heap.size w W2 := h1.bel.trans (hm.below (fun k hk => (h1.s.ge k hk).1) h1.bel.size)
  have hl : (c.s.l ++ [row]).length = c.s.l.length + 1 := by simp
  have ho2 := ho.upd hu (ho.ne hob (by decide))
  have hrows : ∀ x ∈ c.s.l ++ [row], x.length = 2 := fun x hx => by
    rcases List.mem_append.1 hx with hx | hx
    · exact h.ls x hx
    · rw [List.mem_singleton.1 hx]; exact hrow
  refine ⟨hb2.trans (hu.below h.new hb2.size), h.new, ?_, ((h1.g.mod hm (h1.g.apart h1.s (by decide))).upd hu ((h1.g.mod hm (h1.g.apart h1.s (by decide))).ne hob (by decide))), ((h1.r.mod hm (h1.r.apart h1.s (by decide))).upd hu ((h1.r.mod hm (h1.r.apart h1.s (by decide))).ne hob (by decide))), ((h1.p.mod hm (h1.p.apart h1.s (by decide))).upd hu ((h1.p.mod hm (h1.p.apart h1.s (by decide))).ne hob (by decide))), ((h1.n.mod hm (h1.n.apart h1.s (by decide))).upd hu ((h1.n.mod hm (h1.n.apart h1.s (by decide))).ne hob (by decide))), ?_, h.lg, h.lr, h.lp, h.ln, hrows⟩
  · have := hob.set 5 (.slice (some ⟨g', 0, none⟩) (c.s.l.length + 1) c')
    rw [hl]; exact this
  · rw [hl, iF_snoc]; exact ho2
/-- The row of a line of rank k; none: it can't be. -/
def rowV (k : Nat) (ws : List (List UInt8)) : Option (List Int) :=
  if k = 1 ∨ k = 2 ∨ k = 3 then match lbF (ws.getD 1 []) with
    | none => none
    | some x => if k = 3 ∧ ws.getD 2 [] = [111, 117, 116] then some [(x : Int), -1] else if nmsB (ws.drop 2) then some ((x : Int) :: nmsL (ws.drop 2)) else none
  else if nmsB (ws.drop 1) then some (nmsL (ws.drop 1)) else none
def setV (c : Pc) (k : Nat) (row : List Int) : Pc := match k with
  | 0 => { c with cats := row.getD 0 0 }
  | 1 => { c with g := c.g ++ [row] }
  | 2 => { c with r := c.r ++ [row] }
  | 3 => { c with p := c.p ++ [row] }
  | 4 => { c with n := c.n ++ [row] }
  | 5 => { c with s := c.s ++ [row] }
  | _ => { c with gate := row.getD 0 0, quota := row.getD 1 0 }
def wordsN : List Nat := [2, 4, 4, 3, 3, 3, 3]
def wordsK (k : Nat) : Nat := wordsN.getD k 0
/-- What a line of rank k leaves. -/
def TkPost (w : World) (rb : Nat) (c : Cv) (last : Int) (k : Nat) (ws : List (List UInt8)) (W : World) (e : Ending) (w' : World) : Prop :=
  match rowV k ws with
  | some row => e = .returned (.bool true) ∧ ∃ c', pcOf c' = setV (pcOf c) k row ∧ RD w rb c' last w'
  | none => e = .returned (.bool false) ∧ Below w.heap.size w w'
end Go.Proofs.YtoalpdjpljapbaaDoor
