/- Chapter 4: an argument that is a configuration. -/
import Derived.Test.YtmchaaelpbifgaaCfAw
import Derived.Test.YtmchaaelpbifgaaRowN
import Derived.Test.YtmchaaelpbifgaaOpen
namespace Go.Proofs.Ytmchaaelpbifgaa
set_option linter.unusedVariables false
set_option linter.unusedSimpArgs false
set_option linter.unnecessarySimpa false
open Go.ChangeShapes Go.WideShapes Go.ChangeAt Go.RowKit
set_option maxRecDepth 100000
set_option linter.unusedVariables false
theorem open_rowsI {H : Type} {enc : TypeId × Value → H} {W : World} {t e : TypeId} {n N : Nat} (ht : Try.prog.underlying t = some (.slice e)) (hok : flatOk Try.prog n e = true) (hC : Try.prog.cellsOf e = N) (hN : 0 < N) (hlv : leaves Try.prog n e = List.replicate N 3) {u : Value} {y : DataW H × List MemPlace} {m : Nat}
    (h : DataW.trod enc Try.prog W 0 (fun _ => true) true m t [u] = some y) : ∃ s : Sl, u = .slice s.a s.l.length s.cap ∧ SlOk W N s := by
  have hu : ∃ a len cap, u = .slice a len cap := by
    rcases Go.Deep.open_slice ht h with ⟨hcs, _⟩ | ⟨ad, len', cap', m, k, D, Pl, hcs, _⟩
    · simp at hcs; exact ⟨_, _, _, hcs⟩
    · simp at hcs; exact ⟨_, _, _, hcs⟩
  obtain ⟨a, len, cap, rfl⟩ := hu
  have h' : DataW.Trod enc Try.prog W 0 (fun _ => true) true t (.slice a len cap) y.1 y.2 := ⟨m, by simpa [Value.cells] using h⟩
  obtain ⟨a', cap', l, he, hle, hcm, hrd, hl⟩ := open_rowN0 ht hok hC hN hlv Try.underlying3 ⟨_, _, _, rfl⟩ h'
  injection he with h1 h2 h3
  subst h1 h2 h3
  exact ⟨⟨a, cap, l⟩, rfl, hrd, hle, hcm, hl⟩
theorem open_cfg {H : Type} {enc : TypeId × Value → H} {W : World} {base : Nat} {v : Value} {d : DataW H} {p : List MemPlace} (hv : Value.okWide Try.prog W .any base 28 v) (h : DataW.Trod enc Try.prog W 0 (fun _ => true) true 28 v d p) :
    ∃ c : Cv, v = (.agg #[.int .i64 c.cats, .slice c.g.a c.g.l.length c.g.cap, .slice c.r.a c.r.l.length c.r.cap, .slice c.p.a c.p.l.length c.p.cap, .slice c.n.a c.n.l.length c.n.cap, .slice c.s.a c.s.l.length c.s.cap, .int .i64 c.gate, .int .i64 c.quota]) ∧ CfgOk W c := by
  obtain ⟨cs, rfl, sz⟩ := okWide_struct Try.underlying28 hv
  rw [show Try.prog.cellsOf 28 = 8 from by kernel_rfl] at sz
  obtain ⟨fuel, hf⟩ := h
  have key := fun j lt hj => trod_leaves (P := Try.prog) 1 (by kernel_rfl) hf j lt hj
  obtain ⟨u0, y0, m0, g0, t0⟩ := key 0 3 (by kernel_rfl)
  obtain ⟨u1, y1, m1, g1, t1⟩ := key 1 22 (by kernel_rfl)
  obtain ⟨u2, y2, m2, g2, t2⟩ := key 2 23 (by kernel_rfl)
  obtain ⟨u3, y3, m3, g3, t3⟩ := key 3 24 (by kernel_rfl)
  obtain ⟨u4, y4, m4, g4, t4⟩ := key 4 25 (by kernel_rfl)
  obtain ⟨u5, y5, m5, g5, t5⟩ := key 5 26 (by kernel_rfl)
  obtain ⟨u6, y6, m6, g6, t6⟩ := key 6 3 (by kernel_rfl)
  obtain ⟨u7, y7, m7, g7, t7⟩ := key 7 3 (by kernel_rfl)
  obtain ⟨z0, e0, _, _⟩ := DataW.trod_int Try.underlying3 t0
  obtain ⟨z6, e6, _, hw6⟩ := DataW.trod_int Try.underlying3 t6
  obtain ⟨z7, e7, _, _⟩ := DataW.trod_int Try.underlying3 t7
  simp only [List.cons.injEq, and_true] at e0 e6 e7
  subst e0 e6 e7
  obtain ⟨s1, rfl, o1⟩ := open_rowsI (n := 1) (N := 3) Try.underlying22 (by kernel_rfl) (by kernel_rfl) (by omega) (by kernel_rfl) t1
  obtain ⟨s2, rfl, o2⟩ := open_rowsI (n := 1) (N := 3) Try.underlying23 (by kernel_rfl) (by kernel_rfl) (by omega) (by kernel_rfl) t2
  obtain ⟨s3, rfl, o3⟩ := open_rowsI (n := 1) (N := 2) Try.underlying24 (by kernel_rfl) (by kernel_rfl) (by omega) (by kernel_rfl) t3
  obtain ⟨s4, rfl, o4⟩ := open_rowsI (n := 1) (N := 2) Try.underlying25 (by kernel_rfl) (by kernel_rfl) (by omega) (by kernel_rfl) t4
  obtain ⟨s5, rfl, o5⟩ := open_rowsI (n := 1) (N := 2) Try.underlying26 (by kernel_rfl) (by kernel_rfl) (by omega) (by kernel_rfl) t5
  refine ⟨⟨z0, s1, s2, s3, s4, s5, z6, z7⟩, ?_, ⟨o1, o2, o3, o4, o5⟩⟩
  simp only [Value.cells] at g0 g1 g2 g3 g4 g5 g6 g7
  obtain ⟨l⟩ := cs
  simp only at sz g0 g1 g2 g3 g4 g5 g6 g7
  congr 2
  match l, sz with
  | [a, b, c, d, e, f, g, h], _ =>
    simp at g0 g1 g2 g3 g4 g5 g6 g7
    subst g0 g1 g2 g3 g4 g5 g6 g7
    rfl
end Go.Proofs.Ytmchaaelpbifgaa
