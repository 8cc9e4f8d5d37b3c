/- Opening the arguments of disk's laws: ranges. -/
import Derived.Test.YtlafijnmoaenaaaDisk5
import Derived.Test.YtlafijnmoaenaaaOpen
import Derived.Test.YtlafijnmoaenaaaRowF
namespace Go.Proofs.Ytlafijnmoaenaaa
set_option linter.unusedVariables false
set_option linter.unusedSimpArgs false
set_option linter.unnecessarySimpa false
open Go.RowKit Go.ChangeShapes Go.WideShapes Go.ChangeAt
set_option maxHeartbeats 400000
set_option maxRecDepth 100000

theorem open_rgs {H : Type} {enc : TypeId × Value → H} {W : World} {base : Nat} {v : Value} {d : DataW H} {p : List MemPlace} (hv : Value.okWide Try.prog W .any base 39 v) (h : DataW.Trod enc Try.prog W 0 (fun _ => true) true 39 v d p) :
    ∃ (a : Option Addr) (cap : Nat) (l : List Rg), v = .slice a l.length cap ∧ l.length ≤ cap ∧ cap ≤ maxLen ∧ Rd W 3 a l.length (rgF l) ∧ True := by
  obtain ⟨a, len, cap, xs, rfl, hle, hcm, hrd, hlf, _⟩ := open_rowF (n := 2) (N := 3) Try.underlying39 (by kernel_rfl) (by kernel_rfl) (by omega) hv h
  obtain ⟨l, rfl, rfl, hq⟩ := rows_of rgC (fun _ => True) 3 (fun _ => rfl) len xs hrd.1 (fun i hi => by
    obtain ⟨u0, y0, m0, g0, t0⟩ := hlf i hi 0 3 (by omega) (by kernel_rfl)
    obtain ⟨u1, y1, m1, g1, t1⟩ := hlf i hi 1 3 (by omega) (by kernel_rfl)
    obtain ⟨u2, y2, m2, g2, t2⟩ := hlf i hi 2 3 (by omega) (by kernel_rfl)
    obtain ⟨z0, e0, _⟩ := DataW.trod_int Try.underlying3 t0
    obtain ⟨z1, e1, _⟩ := DataW.trod_int Try.underlying3 t1
    obtain ⟨z2, e2, _⟩ := DataW.trod_int Try.underlying3 t2
    simp only [List.cons.injEq, and_true] at e0 e1 e2
    subst e0 e1 e2
    refine ⟨(z0, z1, z2), trivial, fun j hj => ?_⟩
    have : j = 0 ∨ j = 1 ∨ j = 2 := by omega
    rcases this with rfl | rfl | rfl
    · exact g0
    · exact g1
    · exact g2)
  exact ⟨a, cap, l, rfl, hle, hcm, hrd, trivial⟩
end Go.Proofs.Ytlafijnmoaenaaa
