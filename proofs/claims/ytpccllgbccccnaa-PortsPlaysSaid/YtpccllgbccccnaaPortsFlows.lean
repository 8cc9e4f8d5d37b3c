/- The law PortsFlows: the walk. -/
import Derived.Test.YtpccllgbccccnaaPortsFlowsV
import Derived.Test.YtpccllgbccccnaaPortsOrder
namespace Go.Proofs.Ytpccllgbccccnaa
set_option linter.unusedVariables false
set_option linter.unusedSimpArgs false
set_option linter.unnecessarySimpa false
open Go.RowKit Go.Sort Go.ChangeShapes Go.WideShapes Go.ChangeAt
set_option maxHeartbeats 400000
set_option maxRecDepth 100000

abbrev Actv := Int × Int × Int × ByteArray
def actC (a : Actv) : List Value := [.int .i64 a.1, .int .i64 a.2.1, .int .i64 a.2.2.1, .string a.2.2.2]
def actF (l : List Actv) : List Value := (l.map actC).flatten
theorem actF_len (l : List Actv) : (actF l).length = l.length * 4 := by
  rw [actF, flatten_len (N := 4) _ (by intro r hr; obtain ⟨x, _, rfl⟩ := List.mem_map.1 hr; rfl)]; simp
theorem actF_get (l : List Actv) (k j : Nat) (hk : k < l.length) (hj : j < 4) : (actF l)[k * 4 + j]? = (actC l[k])[j]? := by
  rw [actF, flatten_get (N := 4) _ k j (by intro r hr; obtain ⟨x, _, rfl⟩ := List.mem_map.1 hr; rfl) (by simpa using hk) hj]; simp
theorem open_acts {H : Type} {enc : TypeId × Value → H} {W : World} {base : Nat} {v : Value} {d : DataW H} {p : List MemPlace} (hv : Value.okWide Try.prog W .any base 44 v) (h : DataW.Trod enc Try.prog W 0 (fun _ => true) true 44 v d p) :
    ∃ (a : Option Addr) (cap : Nat) (acts : List Actv), v = .slice a acts.length cap ∧ acts.length ≤ cap ∧ cap ≤ maxLen ∧ Rd W 4 a acts.length (actF acts) ∧ ∀ x ∈ acts, x.2.2.2.size ≤ maxLen := by
  obtain ⟨a, len, cap, xs, rfl, hle, hcm, hrd, hlf, _⟩ := open_rowF (n := 2) (N := 4) Try.underlying44 (by kernel_rfl) (by kernel_rfl) (by omega) hv h
  obtain ⟨acts, rfl, rfl, hq⟩ := rows_of actC (fun x => x.2.2.2.size ≤ maxLen) 4 (fun _ => rfl) len xs hrd.1 (fun i hi => by
    obtain ⟨u0, y0, m0, g0, t0⟩ := hlf i hi 0 3 (by omega) (by kernel_rfl)
    obtain ⟨u1, y1, m1, g1, t1⟩ := hlf i hi 1 3 (by omega) (by kernel_rfl)
    obtain ⟨u2, y2, m2, g2, t2⟩ := hlf i hi 2 3 (by omega) (by kernel_rfl)
    obtain ⟨u3, y3, m3, g3, t3⟩ := hlf i hi 3 9 (by omega) (by kernel_rfl)
    obtain ⟨z0, e0, _⟩ := DataW.trod_int Try.underlying3 t0
    obtain ⟨z1, e1, _⟩ := DataW.trod_int Try.underlying3 t1
    obtain ⟨z2, e2, _⟩ := DataW.trod_int Try.underlying3 t2
    obtain ⟨s3, e3, _, hs⟩ := DataW.trod_string Try.underlying9 t3
    simp only [List.cons.injEq, and_true] at e0 e1 e2 e3
    subst e0 e1 e2 e3
    refine ⟨(z0, z1, z2, s3), hs, fun j hj => ?_⟩
    have : j = 0 ∨ j = 1 ∨ j = 2 ∨ j = 3 := by omega
    rcases this with rfl | rfl | rfl | rfl
    · exact g0
    · exact g1
    · exact g2
    · exact g3)
  exact ⟨a, cap, acts, rfl, hle, hcm, hrd, hq⟩
theorem open_pos {H : Type} {enc : TypeId × Value → H} {W : World} {base : Nat} {v : Value} {d : DataW H} {p : List MemPlace} (hv : Value.okWide Try.prog W .any base 40 v) (h : DataW.Trod enc Try.prog W 0 (fun _ => true) true 40 v d p) :
    ∃ (a : Option Addr) (cap : Nat) (l : List Po), v = .slice a l.length cap ∧ l.length ≤ cap ∧ cap ≤ maxLen ∧ Rd W 2 a l.length (poF l) ∧ True := by
  obtain ⟨a, len, cap, xs, rfl, hle, hcm, hrd, hlf, _⟩ := open_rowF (n := 2) (N := 2) Try.underlying40 (by kernel_rfl) (by kernel_rfl) (by omega) hv h
  obtain ⟨l, rfl, rfl, hq⟩ := rows_of poC (fun _ => True) 2 (fun _ => rfl) len xs hrd.1 (fun i hi => by
    obtain ⟨u0, y0, m0, g0, t0⟩ := hlf i hi 0 3 (by omega) (by kernel_rfl)
    obtain ⟨u1, y1, m1, g1, t1⟩ := hlf i hi 1 3 (by omega) (by kernel_rfl)
    obtain ⟨z0, e0, _⟩ := DataW.trod_int Try.underlying3 t0
    obtain ⟨z1, e1, _⟩ := DataW.trod_int Try.underlying3 t1
    simp only [List.cons.injEq, and_true] at e0 e1
    subst e0 e1
    refine ⟨(z0, z1), trivial, fun j hj => ?_⟩
    have : j = 0 ∨ j = 1 := by omega
    rcases this with rfl | rfl
    · exact g0
    · exact g1)
  exact ⟨a, cap, l, rfl, hle, hcm, hrd, trivial⟩
/-- Two ports' states beside each other. -/
structure FInv (w W : World) (pp : Nat) (gp : Option Addr) (cp : Nat) (ps : List Pt) (qq : Nat) (gq : Option Addr) (cq : Nat) (qs : List Pt) : Prop where
  p : PSt W w.heap.size pp gp cp ps
  q : PSt W w.heap.size qq gq cq qs
  dj : ∀ k ∈ pblk gp ps, k ∉ pblk gq qs
  ne : pp ≠ qq
  hb : Below w.heap.size w W
theorem PSt.obj_not {w : World} {B pp cp : Nat} {gp : Option Addr} {ps : List Pt} (h : PSt w B pp gp cp ps) {qq : Nat} {cs : List Value} (ho : ObjAt w qq 25 cs) : qq ∉ pblk gp ps := fun hk => by
  simp only [pblk, List.mem_append, List.mem_flatMap] at hk
  rcases hk with hk | ⟨q, hq, hk⟩
  · exact h.own.ne ho (by decide) hk
  · obtain ⟨i, hi, rfl⟩ := List.getElem_of_mem hq
    exact (h.rows i hi).ne ho (by decide) hk
namespace FInv
variable {w W W' : World} {pp qq cp cq : Nat} {gp gq : Option Addr} {ps qs : List Pt}
theorem below (h : FInv w W pp gp cp ps qq gq cq qs) (hb : Below W.heap.size W W') : FInv w W' pp gp cp ps qq gq cq qs := ⟨h.p.below hb, h.q.below hb, h.dj, h.ne, bmore h.hb hb⟩
theorem swap (h : FInv w W pp gp cp ps qq gq cq qs) : FInv w W qq gq cq qs pp gp cp ps := ⟨h.q, h.p, fun k hk hk2 => h.dj k hk2 hk, Ne.symm h.ne, h.hb⟩
theorem act (h : FInv w W pp gp cp ps qq gq cq qs) {ps' : List Pt} (hp : PSt W' w.heap.size pp gp cp ps') (hb : ∀ B0, B0 ≤ w.heap.size → Below B0 W W') (hm : Mod (pblk gp ps) W W') (hat : ∀ k ∈ pblk gp ps', k ∈ pblk gp ps ∨ W.heap.size ≤ k) : FInv w W' pp gp cp ps' qq gq cq qs :=
  ⟨hp, h.q.mod hm (h.p.obj_not h.q.obj) (fun k hk hk2 => h.dj k hk2 hk), fun k hk hk2 => by
    rcases hat k hk with h0 | h0
    · exact h.dj k h0 hk2
    · have := (h.q.pblk_lt k hk2).2; omega, h.ne, h.hb.trans (hb _ (Nat.le_refl _))⟩
end FInv
end Go.Proofs.Ytpccllgbccccnaa
