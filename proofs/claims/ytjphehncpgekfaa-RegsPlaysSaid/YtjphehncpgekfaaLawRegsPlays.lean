/- The law hermitagelaw11.RegsPlays: for every input the call returns true, and each argument reads afterwards as it read before. No condition. -/
import Derived.Test.YtjphehncpgekfaaOpen
import Derived.Test.YtjphehncpgekfaaRegsPlays
namespace Go.Proofs.Ytjphehncpgekfaa.regsPlays
open Go.ChangeShapes Go.WideShapes Go.ChangeAt Go.RowKit
open Go.ChangeMaps (open_string shut_string)
set_option linter.unusedVariables false
theorem own : ownKnob Try.prog.godebug = none := by kernel_rfl
theorem laidOut : laidOutB Try.prog = true := by kernel_rfl
theorem readable : (Try.f10.params.toList.all fun t => Try.prog.readableRec t && decide (t < Try.prog.types.size)) = true := by kernel_rfl
set_option maxRecDepth 100000 in
theorem lifted (os : Os) (started : os.Started) (H : Type) (enc : TypeId × Value → H) :
    ReturnsInHanded {} Try.checked os 10 .any (Rows.regsPlaysSpec.pre6 enc Try.prog Try.f10 Rows.regsPlaysRow.domain false) (Rows.regsPlaysSpec.post enc Try.prog Try.f10 false true false false) := by
  refine returnsInHanded_of_change_sized (C := Try.checked) own started (by kernel_rfl) Try.func10
    (ChangeSpec.witness6 (enc := enc) (C := Try.checked) false ⟨#[], #[.slice none 0 0, .slice none 0 0, .slice none 0 0], []⟩ 8 (by kernel_rfl) (by kernel_rfl) (by kernel_rfl) (by kernel_rfl)) ?_
  intro W base args ds gs before hval0 hW _ hsz0 _
  have hval : ∀ (j : Nat) t v, Try.f10.params[j]? = some t → args[j]? = some v → Value.okWide Try.prog W .any base t v := hval0
  have hsz : (DataW.weightsEach Try.prog (Try.f10.params.toList ++ Rows.regsPlaysSpec.plain.varTypes Try.prog) (ds ++ gs)).all (· ≤ reachBytes) = true := hsz0
  have hW' := hW
  obtain ⟨p, q, hA0, hV, rfl, hfz, hnd⟩ := hW
  have hA : DataW.TrodAll enc Try.prog W 0 (fun _ => true) true Try.f10.params.toList args.toList ds p := hA0
  rw [Try.params10] at hA hval hsz
  obtain ⟨v0, vs0, d0, ds0, p0, q0, hargs, rfl, rfl, h0, tr0⟩ := trodAll_cons hA
  obtain ⟨v1, vs1, d1, ds1, p1, q1, rfl, rfl, rfl, h1, tr1⟩ := trodAll_cons tr0
  obtain ⟨v2, vs2, d2, ds2, p2, q2, rfl, rfl, rfl, h2, tr2⟩ := trodAll_cons tr1
  obtain ⟨rfl, rfl, rfl⟩ := trodAll_nil tr2
  obtain rfl : args = #[v0, v1, v2] := by cases args; simp_all
  clear hA0 hval0 hsz0
  obtain ⟨xs0, r0, w0, e0⟩ := open_rowI Try.underlying65 Try.underlying5 (by kernel_rfl) (hval 0 65 v0 rfl rfl) h0
  have z0 := reach_rowI hsz (j := 0) (t := 65) (e := 5) Try.underlying65 rfl rfl e0
  rw [show Try.prog.bytesOf 5 = 1 from by kernel_rfl] at z0
  obtain ⟨xs1, r1, w1, e1⟩ := open_rowI Try.underlying25 Try.underlying3 (by kernel_rfl) (hval 1 25 v1 rfl rfl) h1
  have z1 := reach_rowI hsz (j := 1) (t := 25) (e := 3) Try.underlying25 rfl rfl e1
  rw [show Try.prog.bytesOf 3 = 8 from by kernel_rfl] at z1
  obtain ⟨xs2, r2, w2, e2⟩ := open_rowI Try.underlying26 Try.underlying29 (by kernel_rfl) (hval 2 26 v2 rfl rfl) h2
  have z2 := reach_rowI hsz (j := 2) (t := 26) (e := 29) Try.underlying26 rfl rfl e2
  rw [show Try.prog.bytesOf 29 = 4 from by kernel_rfl] at z2
  refine (plays_walk v0 v1 v2 xs0 xs1 xs2 W r0 (fun x hx => by have := bounds_u8 (w0 x hx); omega) r1 r2).mono fun e W' ⟨he, bel⟩ => ?_
  subst he
  exact ⟨_, rfl, law_post laidOut rfl Try.underlying4 readable rfl hW' (fun h => by subst h; rfl) bel⟩
theorem over : Rows.regsPlaysRow.holds Try.pinned (OpenSpec.ofChange Rows.regsPlaysSpec) :=
  OpenClaim.holds_of_wide 10 Try.f10 rfl rfl rfl rfl rfl rfl rfl ⟨rfl, rfl, rfl, rfl, rfl⟩ rfl rfl rfl rfl rfl (by kernel_rfl) Try.func10 (by kernel_rfl)
    (of_decide_eq_true (by kernel_rfl)) (by unfold Func.isWrapper; first | (rw [if_pos (by decide +kernel)]; kernel_rfl) | (rw [if_neg (by decide +kernel)]; exact ⟨rfl, rfl⟩))
    (fun os started H enc _ => lifted os started H enc)
theorem proved : Rows.RegsPlaysSaid := over
#print axioms proved
end Go.Proofs.Ytjphehncpgekfaa.regsPlays
