/- Package asm: a text as an instruction. -/
import Derived.Test.YtbemhbooihaadaaDoorAs4
namespace Go.Proofs.YtbemhbooihaadaaDoor
set_option linter.unusedVariables false
set_option linter.unusedSimpArgs false
set_option linter.unnecessarySimpa false
open Go.RowKit Go.Sort
set_option maxHeartbeats 2000000
set_option maxRecDepth 100000
set_option linter.unusedVariables false
abbrev Words := List (List UInt8)
def rdB (l : Words) (bad : Bool) : Bool := (bad || l.isEmpty) || !regOk (l.headD [])
def ndB (l : Words) (bad : Bool) : Bool := (bad || l.isEmpty) || !numOk (l.headD [])
structure PS (w : World) (rb g ib : Nat) (l : Words) (bad : Bool) (o : Int) (W : World) : Prop where
  rs : RS w rb g l bad W
  ins : ObjAt W ib 23 [.int .i64 o, .int .i64 0, .int .i64 0, .int .i64 0, .int .i64 0]
  ne : ib ≠ rb
  ng : ib ≠ g
  nw : w.heap.size ≤ ib
def wd0 (l : Words) : List UInt8 := l.headD []
theorem reg_ps {w : World} {rb g ib : Nat} {l : Words} {bad : Bool} {o : Int} {W : World} (h : PS w rb g ib l bad o W) (v : Int) (hv : v = regN (wd0 l)) :
    Calls Tryd.prog 29 #[.pointer (some ⟨rb, 0, none⟩)] W fun e w' => e = .returned (.int .i64 v) ∧ PS w rb g ib l.tail (rdB l bad) o w' :=
  (reg_rs h.rs).mono fun e w' ⟨h1, h2, h3⟩ => ⟨by rw [hv]; exact h1, h2, h.ins.upd h3 h.ne, h.ne, h.ng, h.nw⟩
theorem num_ps {w : World} {rb g ib : Nat} {l : Words} {bad : Bool} {o : Int} {W : World} (h : PS w rb g ib l bad o W) (v : Int) (hv : v = numN (wd0 l)) :
    Calls Tryd.prog 30 #[.pointer (some ⟨rb, 0, none⟩)] W fun e w' => e = .returned (.int .i64 v) ∧ PS w rb g ib l.tail (ndB l bad) o w' :=
  (num_rs h.rs).mono fun e w' ⟨h1, h2, h3⟩ => ⟨by rw [hv]; exact h1, h2, h.ins.upd h3 h.ne, h.ne, h.ng, h.nw⟩
theorem PS.tail {w : World} {rb g ib : Nat} {l : Words} {bad : Bool} {o : Int} {W W' : World} (h : PS w rb g ib l bad o W) (hu : Upd ib W W') :
    (∃ a cap, W'.cell? ⟨rb, 0, none⟩ = some (.slice a l.length cap)) ∧ W'.cell? ⟨rb, 1, none⟩ = some (.bool bad) ∧ Below w.heap.size w W' := by
  obtain ⟨a, o, cap, hobj, _⟩ := h.rs.obj
  have hne := h.ne
  have hobj' := hobj.upd hu (fun e => hne e.symm)
  exact ⟨⟨a, cap, hobj'.cell 0 _ rfl⟩, hobj'.cell 1 _ rfl, h.rs.bel.trans (hu.below h.nw h.rs.bel.size)⟩
theorem ps_start {w w1 w2 : World} {g off : Nat} {r : Words} {cap : Nat} {o : Int} (hb1 : Below w.heap.size w w1) (hb2 : Below w1.heap.size w1 w2) (hg : g < w1.heap.size) (hle : r.length ≤ cap) (hmx : cap ≤ maxLen)
    (hc : ∀ j (hj : j < r.length), w1.cell? ⟨g, off + j, none⟩ = some (.string (ba r[j]))) (hsm : ∀ y ∈ r, y.length ≤ 100000000) :
    PS w w2.heap.size g (w2.heap.size + 1) r false o ((w2.alloc (.cells #[.slice (some ⟨g, off, none⟩) r.length cap, .bool false] 63)).alloc (.cells #[.int .i64 o, .int .i64 0, .int .i64 0, .int .i64 0, .int .i64 0] 23)) := by
  have s1 := hb1.size
  have s2 := hb2.size
  have hB : Below w2.heap.size w2 ((w2.alloc (.cells #[.slice (some ⟨g, off, none⟩) r.length cap, .bool false] 63)).alloc (.cells #[.int .i64 o, .int .i64 0, .int .i64 0, .int .i64 0, .int .i64 0] 23)) :=
    ((Below.refl _ _).alloc (Nat.le_refl _) _).alloc (by simp) _
  have hN := (ObjAt.new w2 63 [.slice (some ⟨g, off, none⟩) r.length cap, .bool false]).below ((Below.refl _ _).alloc (Nat.le_refl _) (.cells #[.int .i64 o, .int .i64 0, .int .i64 0, .int .i64 0, .int .i64 0] 23))
  have hI := ObjAt.new (w2.alloc (.cells #[.slice (some ⟨g, off, none⟩) r.length cap, .bool false] 63)) 23 [.int .i64 o, .int .i64 0, .int .i64 0, .int .i64 0, .int .i64 0]
  rw [World.size_alloc] at hI
  refine ⟨⟨bmore (bmore hb1 hb2) hB, by omega, by omega, ⟨_, off, cap, hN, hle, hmx, fun _ => ⟨rfl, ?_⟩, fun j hj => ?_⟩, hsm⟩, hI, by omega, by omega, by omega⟩
  · simp only [World.size_alloc]; omega
  · rw [hB.cell (show g < w2.heap.size by omega), hb2.cell (show g < w1.heap.size from hg)]
    exact hc j hj
def finB (k : Nat) (l : Words) : Bool := match k with
  | 0 => rdB l.tail.tail (rdB l.tail (rdB l false))
  | 1 => ndB l.tail.tail (rdB l.tail (rdB l false))
  | 2 => ndB l.tail (rdB l false)
  | 3 => ndB l.tail.tail (rdB l.tail (rdB l false))
  | 4 => ndB l.tail (rdB l false)
  | _ => false
def finL (k : Nat) (l : Words) : Words := match k with
  | 0 => l.tail.tail.tail
  | 1 => l.tail.tail.tail
  | 2 => l.tail.tail
  | 3 => l.tail.tail.tail
  | 4 => l.tail.tail
  | _ => l
def wd1 (l : Words) : List UInt8 := wd0 l.tail
def wd2 (l : Words) : List UInt8 := wd0 l.tail.tail
def finD (k : Nat) (l : Words) : Int := match k with | 0 => regN (wd0 l) | 1 => regN (wd0 l) | 2 => regN (wd0 l) | _ => 0
def finA (k : Nat) (l : Words) : Int := match k with | 0 => regN (wd1 l) | 1 => regN (wd1 l) | 3 => regN (wd0 l) | 4 => regN (wd0 l) | _ => 0
def finC (k : Nat) (l : Words) : Int := match k with | 0 => regN (wd2 l) | 3 => regN (wd1 l) | _ => 0
def finN (k : Nat) (l : Words) : Int := match k with | 1 => numN (wd2 l) | 2 => numN (wd1 l) | 3 => numN (wd2 l) | 4 => numN (wd1 l) | _ => 0
def zeroI : List Value := [.int .i64 0, .int .i64 0, .int .i64 0, .int .i64 0, .int .i64 0]
def wantK (k : Nat) : List Nat := match k with | 0 => [0, 1, 2] | 1 => [0, 1, 3] | 2 => [0, 3] | 3 => [1, 2, 3] | 4 => [1, 3] | _ => []
def okP (p : Nat) (s : List UInt8) : Bool := if p < 3 then regOk s else numOk s
def vaP (p : Nat) (s : List UInt8) : Int := if p < 3 then regN s else numN s
def takeP : List Nat → Words → Bool
  | [], [] => true
  | p :: ps, x :: xs => okP p x && takeP ps xs
  | _, _ => false
def valP (q : Nat) : List Nat → Words → Int
  | p :: ps, x :: xs => if p = q then vaP p x else valP q ps xs
  | _, _ => 0
theorem fin_take (k : Nat) (hk : k ≤ 5) (l : Words) : (!finB k l && (finL k l).isEmpty) = takeP (wantK k) l := by
  rcases (by omega : k = 0 ∨ k = 1 ∨ k = 2 ∨ k = 3 ∨ k = 4 ∨ k = 5) with rfl | rfl | rfl | rfl | rfl | rfl
  all_goals
    rcases l with _ | ⟨x, _ | ⟨y, _ | ⟨z, _ | ⟨u, r⟩⟩⟩⟩
    all_goals simp [wd0, finB, finL, rdB, ndB, takeP, wantK, okP, Bool.and_assoc, Bool.and_comm, Bool.and_left_comm]
theorem fin_vals (k : Nat) (hk : k ≤ 5) (l : Words) (h : takeP (wantK k) l = true) : finD k l = valP 0 (wantK k) l ∧ finA k l = valP 1 (wantK k) l ∧ finC k l = valP 2 (wantK k) l ∧ finN k l = valP 3 (wantK k) l := by
  rcases (by omega : k = 0 ∨ k = 1 ∨ k = 2 ∨ k = 3 ∨ k = 4 ∨ k = 5) with rfl | rfl | rfl | rfl | rfl | rfl
  all_goals
    rcases l with _ | ⟨x, _ | ⟨y, _ | ⟨z, _ | ⟨u, r⟩⟩⟩⟩
    all_goals first | (simp [takeP, wantK] at h; done) | (simp [finD, finA, finC, finN, valP, wantK, vaP, wd0, wd1, wd2]; done) | (exfalso; simp [takeP, wantK] at h)
def insP (o : Nat) (l : Words) : Int × Int × Int × Int := (valP 0 (wantK (kindN o)) l, valP 1 (wantK (kindN o)) l, valP 2 (wantK (kindN o)) l, valP 3 (wantK (kindN o)) l)
/-- Whether a text is an instruction's. -/
def parB (s : List UInt8) : Bool := wordsB s && (decide (opV ((fieldsC 32 s).headD []) ≠ 0) && (takeP (wantK (kindN (opV ((fieldsC 32 s).headD [])))) (fieldsC 32 s).tail &&
  Isa.validB (opV ((fieldsC 32 s).headD [])) (insP (opV ((fieldsC 32 s).headD [])) (fieldsC 32 s).tail).1 (insP (opV ((fieldsC 32 s).headD [])) (fieldsC 32 s).tail).2.1 (insP (opV ((fieldsC 32 s).headD [])) (fieldsC 32 s).tail).2.2.1 (insP (opV ((fieldsC 32 s).headD [])) (fieldsC 32 s).tail).2.2.2))
def parO (s : List UInt8) : Int := if parB s then opV ((fieldsC 32 s).headD []) else 0
def parD (s : List UInt8) : Int := if parB s then (insP (opV ((fieldsC 32 s).headD [])) (fieldsC 32 s).tail).1 else 0
def parA (s : List UInt8) : Int := if parB s then (insP (opV ((fieldsC 32 s).headD [])) (fieldsC 32 s).tail).2.1 else 0
def parC (s : List UInt8) : Int := if parB s then (insP (opV ((fieldsC 32 s).headD [])) (fieldsC 32 s).tail).2.2.1 else 0
def parN (s : List UInt8) : Int := if parB s then (insP (opV ((fieldsC 32 s).headD [])) (fieldsC 32 s).tail).2.2.2 else 0
def parE (s : List UInt8) : Int := if parB s then 0 else 6
def parV (s : List UInt8) : Value := .tuple #[(.agg #[.int .i64 (parO s), .int .i64 (parD s), .int .i64 (parA s), .int .i64 (parC s), .int .i64 (parN s)]), .int .i64 (parE s)]
theorem parV_no {s : List UInt8} (h : parB s = false) : parV s = .tuple #[(.agg #[.int .i64 (0), .int .i64 (0), .int .i64 (0), .int .i64 (0), .int .i64 (0)]), .int .i64 6] := by
  simp [parV, parO, parD, parA, parC, parN, parE, h]
end Go.Proofs.YtbemhbooihaadaaDoor
