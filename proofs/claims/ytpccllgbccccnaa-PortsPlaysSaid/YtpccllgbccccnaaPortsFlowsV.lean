/- The law PortsFlows, plainly: two views that agree at a port go on agreeing there. -/
import Derived.Test.YtpccllgbccccnaaPorts6
namespace Go.Proofs.Ytpccllgbccccnaa
set_option linter.unusedVariables false
set_option linter.unusedSimpArgs false
set_option linter.unnecessarySimpa false

/-- The same labels and guests, and the same at the port n. -/
structure Alike (n : Nat) (vs us : List PV) : Prop where
  frame : vs.map (fun v => (v.lab, v.gst)) = us.map (fun v => (v.lab, v.gst))
  same : vs[n]? = us[n]?
theorem Alike.refl (n : Nat) (vs : List PV) : Alike n vs vs := ⟨rfl, rfl⟩
theorem Alike.at_ {n : Nat} {vs us : List PV} (h : Alike n vs us) : atV vs n = atV us n := by
  rw [atV, atV, if_pos (by omega), if_pos (by omega), Int.toNat_natCast, h.same]
theorem frame_set (vs : List PV) (k : Nat) (v : PV) (L : List ByteArray) (h : vs[k]? = some v) : (vs.set k ⟨v.lab, v.gst, L⟩).map (fun v => (v.lab, v.gst)) = vs.map (fun v => (v.lab, v.gst)) := by
  rw [List.map_set]
  apply List.ext_getElem? fun j => ?_
  rw [List.getElem?_set]
  split
  · rename_i e
    subst e
    split
    · simp [List.getElem?_map, h]
    · rename_i h2
      simp only [List.length_map] at h2
      rw [List.getElem?_eq_none (by simpa using h2)]
  · rfl
theorem Alike.waits {n : Nat} {vs us : List PV} (h : Alike n vs us) : waitsV vs n = waitsV us n := by rw [waitsV, waitsV, inbV, inbV, h.at_]
theorem Alike.out {n : Nat} {vs us : List PV} (h : Alike n vs us) : outV vs n = outV us n := by rw [outV, outV, h.at_]
theorem atV_some {vs : List PV} {t : Int} {v : PV} (h : atV vs t = some v) : 0 ≤ t ∧ vs[t.toNat]? = some v := by
  unfold atV at h
  split at h
  · exact ⟨by assumption, h⟩
  · cases h
theorem inbV_some {vs : List PV} {t : Int} {v : PV} (h : inbV vs t = some v) : atV vs t = some v ∧ v.gst ≠ -1 := by
  obtain ⟨h1, h2⟩ := Option.filter_eq_some_iff.1 h
  exact ⟨h1, by simpa using h2⟩
/-- A change of the port t alone. -/
def Only (t : Int) (vs ws : List PV) : Prop := ws.map (fun v => (v.lab, v.gst)) = vs.map (fun v => (v.lab, v.gst)) ∧ ∀ n : Nat, (n : Int) ≠ t → ws[n]? = vs[n]?
theorem only_set {vs : List PV} {t : Int} {v : PV} (h : atV vs t = some v) (L : List ByteArray) : Only t vs (vs.set t.toNat ⟨v.lab, v.gst, L⟩) := by
  obtain ⟨h0, h1⟩ := atV_some h
  exact ⟨frame_set vs _ v L h1, fun n hn => List.getElem?_set_ne (by omega)⟩
theorem only_refl (t : Int) (vs : List PV) : Only t vs vs := ⟨rfl, fun _ _ => rfl⟩
theorem send_only (vs : List PV) (f t : Int) (s : ByteArray) : Only t vs (sendV vs f t s) := by
  unfold sendV
  split
  · rename_i h
    split
    · exact only_set h _
    · exact only_refl _ _
  · exact only_refl _ _
theorem take_only (vs : List PV) (t : Int) : Only t vs (takeV vs t).2 := by
  unfold takeV
  split
  · exact only_refl _ _
  · rename_i h
    exact only_set (inbV_some h).1 _
  · exact only_refl _ _
theorem arrive_only (vs : List PV) (t : Int) (s : ByteArray) : Only t vs (arriveV vs t s).2 := by
  unfold arriveV
  split
  · exact only_refl _ _
  · rename_i h
    split
    · exact only_refl _ _
    · split
      · exact only_refl _ _
      · exact only_set (inbV_some h).1 _
/-- To another port: the other ports need not know. -/
theorem Alike.left {n : Nat} {vs us ws : List PV} {t : Int} (h : Alike n vs us) (ho : Only t vs ws) (ht : (n : Int) ≠ t) : Alike n ws us := ⟨ho.1.trans h.frame, (ho.2 n ht).trans h.same⟩
theorem Alike.take {n : Nat} {vs us : List PV} (h : Alike n vs us) : (takeV vs n).1 = (takeV us n).1 ∧ Alike n (takeV vs n).2 (takeV us n).2 := by
  have e : inbV vs n = inbV us n := by rw [inbV, inbV, h.at_]
  unfold takeV
  rw [← e]
  split
  · exact ⟨rfl, h⟩
  · rename_i l g s L h1
    have h2 := (inbV_some h1).1
    have h3 := (atV_some h2).2
    have h3' := (atV_some (h.at_ ▸ h2)).2
    refine ⟨rfl, ((frame_set vs _ ⟨l, g, s :: L⟩ L h3).trans h.frame).trans (frame_set us _ ⟨l, g, s :: L⟩ L h3').symm, ?_⟩
    rw [Int.toNat_natCast] at h3 h3' ⊢
    rw [List.getElem?_set_self (List.getElem?_eq_some_iff.1 h3).1, List.getElem?_set_self (List.getElem?_eq_some_iff.1 h3').1]
  · exact ⟨rfl, h⟩
theorem alike_set {n : Nat} {vs us : List PV} {v : PV} (h : Alike n vs us) (hv : atV vs n = some v) (L : List ByteArray) : Alike n (vs.set (n : Int).toNat ⟨v.lab, v.gst, L⟩) (us.set (n : Int).toNat ⟨v.lab, v.gst, L⟩) := by
  have h3 := (atV_some hv).2
  have h3' := (atV_some (h.at_ ▸ hv)).2
  refine ⟨((frame_set vs _ v L h3).trans h.frame).trans (frame_set us _ v L h3').symm, ?_⟩
  rw [Int.toNat_natCast] at h3 h3' ⊢
  rw [List.getElem?_set_self (List.getElem?_eq_some_iff.1 h3).1, List.getElem?_set_self (List.getElem?_eq_some_iff.1 h3').1]
theorem Alike.arrive {n : Nat} {vs us : List PV} (h : Alike n vs us) (s : ByteArray) : Alike n (arriveV vs n s).2 (arriveV us n s).2 := by
  have e : inbV vs n = inbV us n := by rw [inbV, inbV, h.at_]
  unfold arriveV
  rw [← e]
  split
  · exact h
  · rename_i v h1
    split
    · exact h
    · split
      · exact h
      · exact alike_set h (inbV_some h1).1 _
/-- The label of the port f. -/
theorem Alike.lab {n : Nat} {vs us : List PV} (h : Alike n vs us) (f : Int) : (atV vs f).map (fun v => (v.lab, v.gst)) = (atV us f).map (fun v => (v.lab, v.gst)) := by
  unfold atV
  split
  · rw [← List.getElem?_map, ← List.getElem?_map, h.frame]
  · rfl
theorem Alike.send {n : Nat} {vs us : List PV} (h : Alike n vs us) (f : Int) (s : ByteArray) : Alike n (sendV vs f n s) (sendV us f n s) := by
  have hl := h.lab f
  unfold sendV
  rw [← h.at_]
  cases h1 : atV vs f with
  | none =>
    rw [h1] at hl
    cases h2 : atV us f with
    | none => exact h
    | some y => rw [h2] at hl; cases hl
  | some x =>
    rw [h1] at hl
    cases h2 : atV us f with
    | none => rw [h2] at hl; cases hl
    | some y =>
      rw [h2] at hl
      injection hl with hl
      injection hl with hl _
      cases h3 : atV vs n with
      | none => exact h
      | some v =>
        dsimp only at hl ⊢
        rw [hl]
        split
        · exact alike_set h h3 _
        · exact h
/-- From a port whose label does not flow there, or that is none: nothing comes. -/
theorem send_blind (vs : List PV) (f t : Int) (s : ByteArray) (h : ∀ x y, atV vs f = some x → atV vs t = some y → flB x.lab y.lab = false) : sendV vs f t s = vs := by
  unfold sendV
  split
  · rename_i x y h1 h2
    rw [if_neg (fun h3 => by have h4 := h3.2.1; rw [h x y h1 h2] at h4; cases h4)]
  · rfl
end Go.Proofs.Ytpccllgbccccnaa
