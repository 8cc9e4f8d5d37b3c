/- The acts of chapter 31, as an argument. -/
import Derived.Test.YtnhapfoebiniiaaGatePlays
namespace Go.Proofs.Ytnhapfoebiniiaa
open Go.ChangeShapes Go.WideShapes Go.ChangeAt Go.RowKit
theorem open_acts {H : Type} {enc : TypeId × Value → H} {W : World} {base : Nat} {v : Value} {d : DataW H} {p : List MemPlace} (hv : Value.okWide Try.prog W .any base 22 v) (h : DataW.Trod enc Try.prog W 0 (fun _ => true) true 22 v d p) :
    ∃ (a : Option Addr) (cap : Nat) (acts : List Actv), v = .slice a acts.length cap ∧ acts.length ≤ cap ∧ cap ≤ maxLen ∧ Rd W 4 a acts.length (actF acts) ∧ ∀ x ∈ acts, x.2.2.2.size ≤ maxLen := by
  obtain ⟨a, len, cap, xs, rfl, hle, hcm, hrd, hlf, _⟩ := open_rowF (n := 2) (N := 4) Try.underlying22 (by kernel_rfl) (by kernel_rfl) (by omega) hv h
  obtain ⟨acts, rfl, rfl, hq⟩ := rows_of actC (fun x => x.2.2.2.size ≤ maxLen) 4 (fun _ => rfl) len xs hrd.1 (fun i hi => by
    obtain ⟨u0, y0, m0, g0, t0⟩ := hlf i hi 0 3 (by omega) (by kernel_rfl)
    obtain ⟨u1, y1, m1, g1, t1⟩ := hlf i hi 1 3 (by omega) (by kernel_rfl)
    obtain ⟨u2, y2, m2, g2, t2⟩ := hlf i hi 2 3 (by omega) (by kernel_rfl)
    obtain ⟨u3, y3, m3, g3, t3⟩ := hlf i hi 3 9 (by omega) (by kernel_rfl)
    obtain ⟨z0, e0, _⟩ := DataW.trod_int Try.underlying3 t0
    obtain ⟨z1, e1, _⟩ := DataW.trod_int Try.underlying3 t1
    obtain ⟨z2, e2, _⟩ := DataW.trod_int Try.underlying3 t2
    obtain ⟨s3, e3, _, hs⟩ := DataW.trod_string Try.underlying9 t3
    simp only [List.cons.injEq, and_true] at e0 e1 e2 e3
    subst e0 e1 e2 e3
    refine ⟨(z0, z1, z2, s3), hs, fun j hj => ?_⟩
    have : j = 0 ∨ j = 1 ∨ j = 2 ∨ j = 3 := by omega
    rcases this with rfl | rfl | rfl | rfl
    · exact g0
    · exact g1
    · exact g2
    · exact g3)
  exact ⟨a, cap, acts, rfl, hle, hcm, hrd, hq⟩
end Go.Proofs.Ytnhapfoebiniiaa
