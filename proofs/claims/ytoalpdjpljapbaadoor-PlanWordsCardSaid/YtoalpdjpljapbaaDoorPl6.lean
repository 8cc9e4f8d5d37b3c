/- Package plan: a line. -/
import Derived.Test.YtoalpdjpljapbaaDoorPl4
import Derived.Test.YtoalpdjpljapbaaDoorPl5
namespace Go.Proofs.YtoalpdjpljapbaaDoor
set_option linter.unusedVariables false
set_option linter.unusedSimpArgs false
set_option linter.unnecessarySimpa false
open Go.RowKit Go.Sort
set_option maxHeartbeats 4000000
set_option maxRecDepth 100000
set_option linter.unusedVariables false
def WdTab (W : World) : Prop := ∀ k, k < 7 → W.cell? ⟨0, k, none⟩ = some (.int .i64 (wordsK k : Nat))
theorem WdTab.below {w w' : World} (h : WdTab w) (hb : Below w.heap.size w w') : WdTab w' := fun k hk => by
  have hc := h k hk
  rw [hb.cell (p := ⟨0, k, none⟩) (World.block_lt_of_cell? w ⟨0, k, none⟩ hc)]
  exact hc
/-- May a rank come now? -/
def ordB (k : Nat) (b : Bool) (last : Int) : Bool := if b != (decide (k = 0)) then false else if k = 6 ∧ last = 6 then false else decide (last ≤ k)
theorem ordB_no {k : Nat} {b : Bool} {last : Int} (h : b = !(decide (k = 0))) : ordB k b last = false := by
  unfold ordB; subst h; cases decide (k = 0) <;> rfl
theorem ordB_gate {k : Nat} {b : Bool} {last : Int} (h6 : k = 6) (hl : last = 6) : ordB k b last = false := by
  unfold ordB; split
  · rfl
  · rw [if_pos ⟨h6, hl⟩]
theorem ordB_go {k : Nat} {b : Bool} {last : Int} (h : b = decide (k = 0)) (h6 : ¬ (k = 6 ∧ last = 6)) : ordB k b last = decide (last ≤ k) := by
  unfold ordB; rw [if_neg (by rw [h]; simp), if_neg h6]
theorem order_any (rb : Nat) (k : Nat) (b : Bool) (last : Int) (W : World) (h8 : W.cell? ⟨rb, 8, none⟩ = some (.int .i64 last)) : Calls Tryd.prog 39 #[.pointer (some ⟨rb, 0, none⟩), .int .i64 k, .bool b] W fun e w' => e = .returned (.bool (ordB k b last)) ∧ W = w' := by
  have e0 : ((k : Int) == 0) = decide (k = 0) := by rw [Bool.eq_iff_iff]; simp
  have e6 : ((k : Int) == 6) = decide (k = 6) := by rw [Bool.eq_iff_iff]; simp; omega
  have el : (last == 6) = decide (last = 6) := by rw [Bool.eq_iff_iff]; simp
  by_cases h0 : k = 0
  · rw [decide_eq_true h0] at e0
    have e6' : ((k : Int) == 6) = false := by rw [beq_eq_false_iff_ne]; omega
    clear e6
    cases b
    · have HR := Lib.hid (ordB_no (last := last) (show false = !(decide (k = 0)) by rw [decide_eq_true h0]; rfl))
      clear h0
      (go_enter Tryd.func39, Tryd.ntmps39; go_wp2; go_ret; exact ⟨by rw [HR.out]; rfl, rfl⟩)
    · have HR := Lib.hid (ordB_go (last := last) (show true = decide (k = 0) by rw [decide_eq_true h0]) (by omega))
      clear h0
      (go_enter Tryd.func39, Tryd.ntmps39; go_wp2; go_ret; exact ⟨by rw [HR.out]; rfl, rfl⟩)
  · rw [decide_eq_false h0] at e0
    cases b
    · by_cases h6 : k = 6
      · rw [decide_eq_true h6] at e6
        by_cases hl : last = 6
        · rw [decide_eq_true hl] at el
          have HR := Lib.hid (ordB_gate (b := false) h6 hl)
          clear h0 h6 hl
          (go_enter Tryd.func39, Tryd.ntmps39; go_wp2; go_ret; exact ⟨by rw [HR.out]; rfl, rfl⟩)
        · rw [decide_eq_false hl] at el
          have HR := Lib.hid (ordB_go (last := last) (show false = decide (k = 0) by rw [decide_eq_false h0]) (by omega))
          clear h0 h6 hl
          (go_enter Tryd.func39, Tryd.ntmps39; go_wp2; go_ret; exact ⟨by rw [HR.out]; rfl, rfl⟩)
      · rw [decide_eq_false h6] at e6
        have HR := Lib.hid (ordB_go (last := last) (show false = decide (k = 0) by rw [decide_eq_false h0]) (by omega))
        clear h0 h6
        (go_enter Tryd.func39, Tryd.ntmps39; go_wp2; go_ret; exact ⟨by rw [HR.out]; rfl, rfl⟩)
    · have HR := Lib.hid (ordB_no (last := last) (show true = !(decide (k = 0)) by rw [decide_eq_false h0]; rfl))
      clear h0
      (go_enter Tryd.func39, Tryd.ntmps39; go_wp2; go_ret; exact ⟨by rw [HR.out]; rfl, rfl⟩)
def lineV (c : Pc) (last : Int) (b : Bool) (s : List UInt8) : Option (Pc × Int) :=
  if wordsB s = true ∧ rankV ((fieldsC 32 s).headD []) < 7 ∧ ordB (rankV ((fieldsC 32 s).headD [])) b last = true ∧ (fieldsC 32 s).length = wordsK (rankV ((fieldsC 32 s).headD [])) then
    (rowV (rankV ((fieldsC 32 s).headD [])) (fieldsC 32 s)).map fun row => (setV c (rankV ((fieldsC 32 s).headD [])) row, ((rankV ((fieldsC 32 s).headD []) : Nat) : Int))
  else none
def LnPost (w : World) (rb : Nat) (c : Cv) (last : Int) (b : Bool) (s : List UInt8) (e : Ending) (w' : World) : Prop :=
  match lineV (pcOf c) last b s with
  | some r => e = .returned (.bool true) ∧ ∃ c', pcOf c' = r.1 ∧ RD w rb c' r.2 w'
  | none => e = .returned (.bool false) ∧ Below w.heap.size w w'
theorem ln_no {w : World} {rb : Nat} {c : Cv} {last : Int} {b : Bool} {s : List UInt8} {w' : World} (h : lineV (pcOf c) last b s = none) (hb : Below w.heap.size w w') : LnPost w rb c last b s (.returned (.bool false)) w' := by
  unfold LnPost; rw [h]; exact ⟨rfl, hb⟩
/-- What the taking of a line's words leaves is what the line leaves. -/
theorem ln_take {w : World} {rb : Nat} {c : Cv} {last : Int} {b : Bool} {s : List UInt8} {k : Nat} {ws : List (List UInt8)} {W w' : World} {e : Ending} (hws : fieldsC 32 s = ws) (hk : rankV (ws.headD []) = k) (hw : wordsB s = true) (h7 : k < 7) (ho : ordB k b last = true) (hl : ws.length = wordsK k) (h : TkPost w rb c k k ws W e w') : LnPost w rb c last b s e w' := by
  have hv : lineV (pcOf c) last b s = (rowV k ws).map fun row => (setV (pcOf c) k row, (k : Int)) := by
    unfold lineV
    rw [hws, hk, if_pos ⟨hw, h7, ho, hl⟩]
  unfold LnPost
  unfold TkPost at h
  rw [hv]
  cases hr : rowV k ws with
  | none => rw [hr] at h; exact h
  | some row => rw [hr] at h; exact h
theorem tk_shape {w : World} {rb : Nat} {c : Cv} {last : Int} {k : Nat} {ws : List (List UInt8)} {W : World} {e : Ending} {w' : World} (h : TkPost w rb c last k ws W e w') : ∃ b, e = .returned (.bool b) := by
  unfold TkPost at h
  split at h
  · exact ⟨true, h.1⟩
  · exact ⟨false, h.1⟩
theorem line_none (w : World) (rb : Nat) (c : Cv) (last : Int) (b : Bool) (s : List UInt8) (hs : s.length ≤ 100000) (W : World) (h : RD w rb c last W) (hw : wordsB s = false) :
    Calls Tryd.prog 20 #[.pointer (some ⟨rb, 0, none⟩), .string (ba s), .bool b] W (LnPost w rb c last b s) := by
  have HN : Hid (∀ w', Below w.heap.size w w' → LnPost w rb c last b s (.returned (.bool false)) w') := fun w' hb => ln_no (by unfold lineV; rw [hw]; simp) hb
  have HSP := Lib.hid (split_any (ba s) (by rw [ba_size]; omega) W)
  have HQ : Hid (∀ e w', SplitPost (ba s).data.toList W e w' → e = .returned (.tuple #[.slice none 0 0, .bool false]) ∧ Below W.heap.size W w') := fun e w' h => ⟨h.2.1 hw, h.2.2⟩
  have H := Lib.hid h
  clear h hw hs
  go_enter Tryd.func20, Tryd.ntmps20
  go_wp2_with fail
  refine HSP.out.mono ?_; intro e w1 h1
  obtain ⟨rfl, hb1⟩ := HQ.out _ _ h1
  have HB := Lib.hid (bmore H.out.bel hb1)
  clear h1 hb1
  go_wp2_with fail
  go_ret
  exact HN.out _ HB.out
theorem line_cats (w : World) (rb : Nat) (c : Cv) (last : Int) (b : Bool) (s : List UInt8) (hs : s.length ≤ 100000) (W : World) (h : RD w rb c last W) (hT : WdTab w) (hn : FewC c) (hw : wordsB s = true) (hk : rankV ((fieldsC 32 s).headD []) = 0) :
    Calls Tryd.prog 20 #[.pointer (some ⟨rb, 0, none⟩), .string (ba s), .bool b] W (LnPost w rb c last b s) := by
  obtain ⟨L, hL⟩ : ∃ L, L = fieldsC 32 s := ⟨_, rfl⟩
  have hsm : ∀ y ∈ L, y.length ≤ 100000000 := fun y hy => by
    rw [hL] at hy
    have := (fieldsC_mem 32 s y hy).2
    omega
  have hlL : L.length ≤ 100001 := by
    rw [hL, fieldsC_len]
    have := List.count_le_length (a := (32 : UInt8)) (l := s); omega
  have hne : L ≠ [] := by rw [hL]; exact fieldsC_ne 32 _
  have HSP := Lib.hid (split_any (ba s) (by rw [ba_size]; omega) W)
  have HQ : Hid (∀ e w', SplitPost (ba s).data.toList W e w' → (∃ a cap, e = .returned (.tuple #[.slice a L.length cap, .bool true]) ∧ RdW w' a cap L) ∧ Below W.heap.size W w') := fun e w' h => by rw [hL]; exact ⟨h.1 hw, h.2.2⟩
  have HNO : Hid (ordB 0 b last = false → ∀ w', Below w.heap.size w w' → LnPost w rb c last b s (.returned (.bool false)) w') := fun ho w' hb => ln_no (by unfold lineV; rw [hk, if_neg (by rw [ho]; simp)]) hb
  have HNL : Hid (L.length ≠ 2 → ∀ w', Below w.heap.size w w' → LnPost w rb c last b s (.returned (.bool false)) w') := fun hl w' hb => ln_no (by unfold lineV; rw [hk, if_neg (by rw [← hL]; rintro ⟨_, _, _, h⟩; exact hl h)]) hb
  have HTK : Hid (∀ W' e w', ordB 0 b last = true → L.length = 2 → TkPost w rb c 0 0 L W' e w' → LnPost w rb c last b s e w') := fun W' e w' ho hl h => ln_take hL.symm (by rw [hL]; exact hk) hw (by decide) ho hl h
  rw [← hL] at hk
  obtain ⟨x, r, rfl⟩ : ∃ x r, L = x :: r := by cases L with
    | nil => exact absurd rfl hne
    | cons x r => exact ⟨x, r, rfl⟩
  have HRK := fun W => Lib.hid (rankOf_any (ba x) W)
  rw [ba_data, show rankV x = 0 from hk] at HRK
  have H := Lib.hid h
  have h8 := h.ob.cell 8 _ rfl
  have HT := Lib.hid hT
  rw [show (x :: r).length = r.length + 1 from rfl] at HQ
  clear hL hne hk hw h hs hT
  go_enter Tryd.func20, Tryd.ntmps20
  go_wp2_with fail
  refine HSP.out.mono ?_; intro e w1 h1
  obtain ⟨⟨a, cap, rfl, hR⟩, hb1⟩ := HQ.out _ _ h1
  obtain ⟨g, off, rfl, hg, hc⟩ := hR.at_ 0 (by simp)
  have c0 : w1.cell? ⟨g, off, none⟩ = some (.string (ba x)) := hc 0 (by simp)
  have hle := hR.le
  have hmx : cap ≤ 9223372036854775807 := hR.mx
  rw [show (x :: r).length = r.length + 1 from rfl] at hle
  have H1 := Lib.hid (H.out.more hb1)
  have HC := Lib.hid hc
  have t0 : w1.cell? ⟨0, 0, none⟩ = some (.int .i64 2) := (HT.out.below H1.out.bel) 0 (by decide)
  have h8' := H1.out.ob.cell 8 _ rfl
  have ORD := fun W h => Lib.hid (order_any rb 0 b last W h)
  clear h1 hb1 hR hc
  cases ho : ordB 0 b last
  · have HF := Lib.hid (HNO.out ho)
    rw [ho] at ORD
    clear ho
    go_wp2_with (first | (go_at_call 38; refine ((HRK _).out).mono ?_; rintro e w2 ⟨rfl, rfl⟩) | (go_at_call 39; refine ((ORD _ h8').out).mono ?_; rintro e w2 ⟨rfl, rfl⟩))
    go_ret
    exact HF.out _ H1.out.bel
  · rw [ho] at ORD
    by_cases hl : r.length + 1 = 2
    · obtain ⟨v1, rfl⟩ : ∃ v1, r = [v1] := by
        match r, hl with
        | [v1], _ => exact ⟨v1, rfl⟩
      have HTT := fun W' e w' h => Lib.hid (HTK.out W' e w' ho hl h)
      have nl : (((([v1].length : Nat) : Int) + 1) != 2) = false := by rfl
      have f8 := H1.out.ob.free 8
      have HST := Lib.hid (H1.out.setLast 0)
      have HCC : Hid (∀ j (hj : j < 2), (w1.setCell ⟨rb, 8, none⟩ (.int .i64 0)).cell? ⟨g, off + j, none⟩ = some (.string (ba ([x, v1].getD j [])))) := fun j hj => by
        have hcj := HC.out j hj
        have hgr : rb ≠ g := fun e => by
          subst e
          have e8 := H1.out.ob
          unfold ObjAt at e8
          have : w1.cell? ⟨rb, off, none⟩ = some (.string (ba x)) := c0
          simp only [World.cell?, e8] at this
          rcases (by omega : off = 0 ∨ off = 1 ∨ off = 2 ∨ off = 3 ∨ off = 4 ∨ off = 5 ∨ off = 6 ∨ off = 7 ∨ off = 8 ∨ 9 ≤ off) with rfl | rfl | rfl | rfl | rfl | rfl | rfl | rfl | rfl | h9
          all_goals first | (simp at this; done) | (rw [List.getElem?_toArray, List.getElem?_eq_none (by simpa using h9)] at this; simp at this)
        rw [World.cell?_setCell_far _ _ _ _ hgr, hcj, List.getD_eq_getElem?_getD, List.getElem?_eq_getElem hj]; rfl
      have HGG : Hid (g < (w1.setCell ⟨rb, 8, none⟩ (.int .i64 0)).heap.size) := by simpa [World.setCell, Hid] using hg
      have HCN := Lib.hid (plain_cats w rb c 0 x v1 hsm g off cap _ HST.out HGG.out HCC.out (by simp at hle; omega) (by unfold maxLen; omega) hn)
      clear ho hl HTK HNL HNO HC hsm
      go_wp2_with (first | (go_at_call 38; refine ((HRK _).out).mono ?_; rintro e w2 ⟨rfl, rfl⟩) | (go_at_call 39; refine ((ORD _ h8').out).mono ?_; rintro e w2 ⟨rfl, rfl⟩))
      refine HCN.out.mono ?_; intro e w3 h3
      have HLN := HTT _ _ _ h3
      obtain ⟨bb, rfl⟩ := tk_shape h3
      clear h3
      go_wp2_with fail
      go_ret
      exact HLN.out
    · have HF := Lib.hid (HNL.out hl)
      have n1 : (((r.length : Nat) : Int) + 1 == 2) = false := by rw [beq_eq_false_iff_ne]; omega
      have n2 : (((r.length + 1 : Nat) : Int) == 2) = false := by rw [beq_eq_false_iff_ne]; omega
      have n3 : ((((r.length : Nat) : Int) + 1) != 2) = true := by rw [bne_iff_ne]; omega
      have n4 : (((r.length + 1 : Nat) : Int) != 2) = true := by rw [bne_iff_ne]; omega
      clear ho hl
      go_wp2_with (first | (go_at_call 38; refine ((HRK _).out).mono ?_; rintro e w2 ⟨rfl, rfl⟩) | (go_at_call 39; refine ((ORD _ h8').out).mono ?_; rintro e w2 ⟨rfl, rfl⟩))
      go_ret
      exact HF.out _ H1.out.bel
theorem line_guest (w : World) (rb : Nat) (c : Cv) (last : Int) (b : Bool) (s : List UInt8) (hs : s.length ≤ 100000) (W : World) (h : RD w rb c last W) (hT : WdTab w) (hn : FewC c) (hw : wordsB s = true) (hk : rankV ((fieldsC 32 s).headD []) = 1) :
    Calls Tryd.prog 20 #[.pointer (some ⟨rb, 0, none⟩), .string (ba s), .bool b] W (LnPost w rb c last b s) := by
  obtain ⟨L, hL⟩ : ∃ L, L = fieldsC 32 s := ⟨_, rfl⟩
  have hsm : ∀ y ∈ L, y.length ≤ 100000000 := fun y hy => by
    rw [hL] at hy
    have := (fieldsC_mem 32 s y hy).2
    omega
  have hlL : L.length ≤ 100001 := by
    rw [hL, fieldsC_len]
    have := List.count_le_length (a := (32 : UInt8)) (l := s); omega
  have hne : L ≠ [] := by rw [hL]; exact fieldsC_ne 32 _
  have HSP := Lib.hid (split_any (ba s) (by rw [ba_size]; omega) W)
  have HQ : Hid (∀ e w', SplitPost (ba s).data.toList W e w' → (∃ a cap, e = .returned (.tuple #[.slice a L.length cap, .bool true]) ∧ RdW w' a cap L) ∧ Below W.heap.size W w') := fun e w' h => by rw [hL]; exact ⟨h.1 hw, h.2.2⟩
  have HNO : Hid (ordB 1 b last = false → ∀ w', Below w.heap.size w w' → LnPost w rb c last b s (.returned (.bool false)) w') := fun ho w' hb => ln_no (by unfold lineV; rw [hk, if_neg (by rw [ho]; simp)]) hb
  have HNL : Hid (L.length ≠ 4 → ∀ w', Below w.heap.size w w' → LnPost w rb c last b s (.returned (.bool false)) w') := fun hl w' hb => ln_no (by unfold lineV; rw [hk, if_neg (by rw [← hL]; rintro ⟨_, _, _, h⟩; exact hl h)]) hb
  have HTK : Hid (∀ W' e w', ordB 1 b last = true → L.length = 4 → TkPost w rb c 1 1 L W' e w' → LnPost w rb c last b s e w') := fun W' e w' ho hl h => ln_take hL.symm (by rw [hL]; exact hk) hw (by decide) ho hl h
  rw [← hL] at hk
  obtain ⟨x, r, rfl⟩ : ∃ x r, L = x :: r := by cases L with
    | nil => exact absurd rfl hne
    | cons x r => exact ⟨x, r, rfl⟩
  have HRK := fun W => Lib.hid (rankOf_any (ba x) W)
  rw [ba_data, show rankV x = 1 from hk] at HRK
  have H := Lib.hid h
  have h8 := h.ob.cell 8 _ rfl
  have HT := Lib.hid hT
  rw [show (x :: r).length = r.length + 1 from rfl] at HQ
  clear hL hne hk hw h hs hT
  go_enter Tryd.func20, Tryd.ntmps20
  go_wp2_with fail
  refine HSP.out.mono ?_; intro e w1 h1
  obtain ⟨⟨a, cap, rfl, hR⟩, hb1⟩ := HQ.out _ _ h1
  obtain ⟨g, off, rfl, hg, hc⟩ := hR.at_ 0 (by simp)
  have c0 : w1.cell? ⟨g, off, none⟩ = some (.string (ba x)) := hc 0 (by simp)
  have hle := hR.le
  have hmx : cap ≤ 9223372036854775807 := hR.mx
  rw [show (x :: r).length = r.length + 1 from rfl] at hle
  have H1 := Lib.hid (H.out.more hb1)
  have HC := Lib.hid hc
  have t0 : w1.cell? ⟨0, 1, none⟩ = some (.int .i64 4) := (HT.out.below H1.out.bel) 1 (by decide)
  have h8' := H1.out.ob.cell 8 _ rfl
  have ORD := fun W h => Lib.hid (order_any rb 1 b last W h)
  clear h1 hb1 hR hc
  cases ho : ordB 1 b last
  · have HF := Lib.hid (HNO.out ho)
    rw [ho] at ORD
    clear ho
    go_wp2_with (first | (go_at_call 38; refine ((HRK _).out).mono ?_; rintro e w2 ⟨rfl, rfl⟩) | (go_at_call 39; refine ((ORD _ h8').out).mono ?_; rintro e w2 ⟨rfl, rfl⟩))
    go_ret
    exact HF.out _ H1.out.bel
  · rw [ho] at ORD
    by_cases hl : r.length + 1 = 4
    · obtain ⟨v1, v2, v3, rfl⟩ : ∃ v1 v2 v3, r = [v1, v2, v3] := by
        match r, hl with
        | [v1, v2, v3], _ => exact ⟨v1, v2, v3, rfl⟩
      have HTT := fun W' e w' h => Lib.hid (HTK.out W' e w' ho hl h)
      have nl : (((([v1, v2, v3].length : Nat) : Int) + 1) != 4) = false := by rfl
      have f8 := H1.out.ob.free 8
      have HST := Lib.hid (H1.out.setLast 1)
      have HCC : Hid (∀ j (hj : j < 4), (w1.setCell ⟨rb, 8, none⟩ (.int .i64 1)).cell? ⟨g, off + j, none⟩ = some (.string (ba ([x, v1, v2, v3].getD j [])))) := fun j hj => by
        have hcj := HC.out j hj
        have hgr : rb ≠ g := fun e => by
          subst e
          have e8 := H1.out.ob
          unfold ObjAt at e8
          have : w1.cell? ⟨rb, off, none⟩ = some (.string (ba x)) := c0
          simp only [World.cell?, e8] at this
          rcases (by omega : off = 0 ∨ off = 1 ∨ off = 2 ∨ off = 3 ∨ off = 4 ∨ off = 5 ∨ off = 6 ∨ off = 7 ∨ off = 8 ∨ 9 ≤ off) with rfl | rfl | rfl | rfl | rfl | rfl | rfl | rfl | rfl | h9
          all_goals first | (simp at this; done) | (rw [List.getElem?_toArray, List.getElem?_eq_none (by simpa using h9)] at this; simp at this)
        rw [World.cell?_setCell_far _ _ _ _ hgr, hcj, List.getD_eq_getElem?_getD, List.getElem?_eq_getElem hj]; rfl
      have HGG : Hid (g < (w1.setCell ⟨rb, 8, none⟩ (.int .i64 1)).heap.size) := by simpa [World.setCell, Hid] using hg
      have HCN := Lib.hid (labelled_guest w rb c 1 x v1 v2 v3 hsm g off cap _ HST.out HGG.out HCC.out (by simp at hle; omega) (by unfold maxLen; omega) hn)
      clear ho hl HTK HNL HNO HC hsm
      go_wp2_with (first | (go_at_call 38; refine ((HRK _).out).mono ?_; rintro e w2 ⟨rfl, rfl⟩) | (go_at_call 39; refine ((ORD _ h8').out).mono ?_; rintro e w2 ⟨rfl, rfl⟩))
      refine HCN.out.mono ?_; intro e w3 h3
      have HLN := HTT _ _ _ h3
      obtain ⟨bb, rfl⟩ := tk_shape h3
      clear h3
      go_wp2_with fail
      go_ret
      exact HLN.out
    · have HF := Lib.hid (HNL.out hl)
      have n1 : (((r.length : Nat) : Int) + 1 == 4) = false := by rw [beq_eq_false_iff_ne]; omega
      have n2 : (((r.length + 1 : Nat) : Int) == 4) = false := by rw [beq_eq_false_iff_ne]; omega
      have n3 : ((((r.length : Nat) : Int) + 1) != 4) = true := by rw [bne_iff_ne]; omega
      have n4 : (((r.length + 1 : Nat) : Int) != 4) = true := by rw [bne_iff_ne]; omega
      clear ho hl
      go_wp2_with (first | (go_at_call 38; refine ((HRK _).out).mono ?_; rintro e w2 ⟨rfl, rfl⟩) | (go_at_call 39; refine ((ORD _ h8').out).mono ?_; rintro e w2 ⟨rfl, rfl⟩))
      go_ret
      exact HF.out _ H1.out.bel
theorem line_range (w : World) (rb : Nat) (c : Cv) (last : Int) (b : Bool) (s : List UInt8) (hs : s.length ≤ 100000) (W : World) (h : RD w rb c last W) (hT : WdTab w) (hn : FewC c) (hw : wordsB s = true) (hk : rankV ((fieldsC 32 s).headD []) = 2) :
    Calls Tryd.prog 20 #[.pointer (some ⟨rb, 0, none⟩), .string (ba s), .bool b] W (LnPost w rb c last b s) := by
  obtain ⟨L, hL⟩ : ∃ L, L = fieldsC 32 s := ⟨_, rfl⟩
  have hsm : ∀ y ∈ L, y.length ≤ 100000000 := fun y hy => by
    rw [hL] at hy
    have := (fieldsC_mem 32 s y hy).2
    omega
  have hlL : L.length ≤ 100001 := by
    rw [hL, fieldsC_len]
    have := List.count_le_length (a := (32 : UInt8)) (l := s); omega
  have hne : L ≠ [] := by rw [hL]; exact fieldsC_ne 32 _
  have HSP := Lib.hid (split_any (ba s) (by rw [ba_size]; omega) W)
  have HQ : Hid (∀ e w', SplitPost (ba s).data.toList W e w' → (∃ a cap, e = .returned (.tuple #[.slice a L.length cap, .bool true]) ∧ RdW w' a cap L) ∧ Below W.heap.size W w') := fun e w' h => by rw [hL]; exact ⟨h.1 hw, h.2.2⟩
  have HNO : Hid (ordB 2 b last = false → ∀ w', Below w.heap.size w w' → LnPost w rb c last b s (.returned (.bool false)) w') := fun ho w' hb => ln_no (by unfold lineV; rw [hk, if_neg (by rw [ho]; simp)]) hb
  have HNL : Hid (L.length ≠ 4 → ∀ w', Below w.heap.size w w' → LnPost w rb c last b s (.returned (.bool false)) w') := fun hl w' hb => ln_no (by unfold lineV; rw [hk, if_neg (by rw [← hL]; rintro ⟨_, _, _, h⟩; exact hl h)]) hb
  have HTK : Hid (∀ W' e w', ordB 2 b last = true → L.length = 4 → TkPost w rb c 2 2 L W' e w' → LnPost w rb c last b s e w') := fun W' e w' ho hl h => ln_take hL.symm (by rw [hL]; exact hk) hw (by decide) ho hl h
  rw [← hL] at hk
  obtain ⟨x, r, rfl⟩ : ∃ x r, L = x :: r := by cases L with
    | nil => exact absurd rfl hne
    | cons x r => exact ⟨x, r, rfl⟩
  have HRK := fun W => Lib.hid (rankOf_any (ba x) W)
  rw [ba_data, show rankV x = 2 from hk] at HRK
  have H := Lib.hid h
  have h8 := h.ob.cell 8 _ rfl
  have HT := Lib.hid hT
  rw [show (x :: r).length = r.length + 1 from rfl] at HQ
  clear hL hne hk hw h hs hT
  go_enter Tryd.func20, Tryd.ntmps20
  go_wp2_with fail
  refine HSP.out.mono ?_; intro e w1 h1
  obtain ⟨⟨a, cap, rfl, hR⟩, hb1⟩ := HQ.out _ _ h1
  obtain ⟨g, off, rfl, hg, hc⟩ := hR.at_ 0 (by simp)
  have c0 : w1.cell? ⟨g, off, none⟩ = some (.string (ba x)) := hc 0 (by simp)
  have hle := hR.le
  have hmx : cap ≤ 9223372036854775807 := hR.mx
  rw [show (x :: r).length = r.length + 1 from rfl] at hle
  have H1 := Lib.hid (H.out.more hb1)
  have HC := Lib.hid hc
  have t0 : w1.cell? ⟨0, 2, none⟩ = some (.int .i64 4) := (HT.out.below H1.out.bel) 2 (by decide)
  have h8' := H1.out.ob.cell 8 _ rfl
  have ORD := fun W h => Lib.hid (order_any rb 2 b last W h)
  clear h1 hb1 hR hc
  cases ho : ordB 2 b last
  · have HF := Lib.hid (HNO.out ho)
    rw [ho] at ORD
    clear ho
    go_wp2_with (first | (go_at_call 38; refine ((HRK _).out).mono ?_; rintro e w2 ⟨rfl, rfl⟩) | (go_at_call 39; refine ((ORD _ h8').out).mono ?_; rintro e w2 ⟨rfl, rfl⟩))
    go_ret
    exact HF.out _ H1.out.bel
  · rw [ho] at ORD
    by_cases hl : r.length + 1 = 4
    · obtain ⟨v1, v2, v3, rfl⟩ : ∃ v1 v2 v3, r = [v1, v2, v3] := by
        match r, hl with
        | [v1, v2, v3], _ => exact ⟨v1, v2, v3, rfl⟩
      have HTT := fun W' e w' h => Lib.hid (HTK.out W' e w' ho hl h)
      have nl : (((([v1, v2, v3].length : Nat) : Int) + 1) != 4) = false := by rfl
      have f8 := H1.out.ob.free 8
      have HST := Lib.hid (H1.out.setLast 2)
      have HCC : Hid (∀ j (hj : j < 4), (w1.setCell ⟨rb, 8, none⟩ (.int .i64 2)).cell? ⟨g, off + j, none⟩ = some (.string (ba ([x, v1, v2, v3].getD j [])))) := fun j hj => by
        have hcj := HC.out j hj
        have hgr : rb ≠ g := fun e => by
          subst e
          have e8 := H1.out.ob
          unfold ObjAt at e8
          have : w1.cell? ⟨rb, off, none⟩ = some (.string (ba x)) := c0
          simp only [World.cell?, e8] at this
          rcases (by omega : off = 0 ∨ off = 1 ∨ off = 2 ∨ off = 3 ∨ off = 4 ∨ off = 5 ∨ off = 6 ∨ off = 7 ∨ off = 8 ∨ 9 ≤ off) with rfl | rfl | rfl | rfl | rfl | rfl | rfl | rfl | rfl | h9
          all_goals first | (simp at this; done) | (rw [List.getElem?_toArray, List.getElem?_eq_none (by simpa using h9)] at this; simp at this)
        rw [World.cell?_setCell_far _ _ _ _ hgr, hcj, List.getD_eq_getElem?_getD, List.getElem?_eq_getElem hj]; rfl
      have HGG : Hid (g < (w1.setCell ⟨rb, 8, none⟩ (.int .i64 2)).heap.size) := by simpa [World.setCell, Hid] using hg
      have HCN := Lib.hid (labelled_range w rb c 2 x v1 v2 v3 hsm g off cap _ HST.out HGG.out HCC.out (by simp at hle; omega) (by unfold maxLen; omega) hn)
      clear ho hl HTK HNL HNO HC hsm
      go_wp2_with (first | (go_at_call 38; refine ((HRK _).out).mono ?_; rintro e w2 ⟨rfl, rfl⟩) | (go_at_call 39; refine ((ORD _ h8').out).mono ?_; rintro e w2 ⟨rfl, rfl⟩))
      refine HCN.out.mono ?_; intro e w3 h3
      have HLN := HTT _ _ _ h3
      obtain ⟨bb, rfl⟩ := tk_shape h3
      clear h3
      go_wp2_with fail
      go_ret
      exact HLN.out
    · have HF := Lib.hid (HNL.out hl)
      have n1 : (((r.length : Nat) : Int) + 1 == 4) = false := by rw [beq_eq_false_iff_ne]; omega
      have n2 : (((r.length + 1 : Nat) : Int) == 4) = false := by rw [beq_eq_false_iff_ne]; omega
      have n3 : ((((r.length : Nat) : Int) + 1) != 4) = true := by rw [bne_iff_ne]; omega
      have n4 : (((r.length + 1 : Nat) : Int) != 4) = true := by rw [bne_iff_ne]; omega
      clear ho hl
      go_wp2_with (first | (go_at_call 38; refine ((HRK _).out).mono ?_; rintro e w2 ⟨rfl, rfl⟩) | (go_at_call 39; refine ((ORD _ h8').out).mono ?_; rintro e w2 ⟨rfl, rfl⟩))
      go_ret
      exact HF.out _ H1.out.bel
theorem line_port (w : World) (rb : Nat) (c : Cv) (last : Int) (b : Bool) (s : List UInt8) (hs : s.length ≤ 100000) (W : World) (h : RD w rb c last W) (hT : WdTab w) (hn : FewC c) (hw : wordsB s = true) (hk : rankV ((fieldsC 32 s).headD []) = 3) :
    Calls Tryd.prog 20 #[.pointer (some ⟨rb, 0, none⟩), .string (ba s), .bool b] W (LnPost w rb c last b s) := by
  obtain ⟨L, hL⟩ : ∃ L, L = fieldsC 32 s := ⟨_, rfl⟩
  have hsm : ∀ y ∈ L, y.length ≤ 100000000 := fun y hy => by
    rw [hL] at hy
    have := (fieldsC_mem 32 s y hy).2
    omega
  have hlL : L.length ≤ 100001 := by
    rw [hL, fieldsC_len]
    have := List.count_le_length (a := (32 : UInt8)) (l := s); omega
  have hne : L ≠ [] := by rw [hL]; exact fieldsC_ne 32 _
  have HSP := Lib.hid (split_any (ba s) (by rw [ba_size]; omega) W)
  have HQ : Hid (∀ e w', SplitPost (ba s).data.toList W e w' → (∃ a cap, e = .returned (.tuple #[.slice a L.length cap, .bool true]) ∧ RdW w' a cap L) ∧ Below W.heap.size W w') := fun e w' h => by rw [hL]; exact ⟨h.1 hw, h.2.2⟩
  have HNO : Hid (ordB 3 b last = false → ∀ w', Below w.heap.size w w' → LnPost w rb c last b s (.returned (.bool false)) w') := fun ho w' hb => ln_no (by unfold lineV; rw [hk, if_neg (by rw [ho]; simp)]) hb
  have HNL : Hid (L.length ≠ 3 → ∀ w', Below w.heap.size w w' → LnPost w rb c last b s (.returned (.bool false)) w') := fun hl w' hb => ln_no (by unfold lineV; rw [hk, if_neg (by rw [← hL]; rintro ⟨_, _, _, h⟩; exact hl h)]) hb
  have HTK : Hid (∀ W' e w', ordB 3 b last = true → L.length = 3 → TkPost w rb c 3 3 L W' e w' → LnPost w rb c last b s e w') := fun W' e w' ho hl h => ln_take hL.symm (by rw [hL]; exact hk) hw (by decide) ho hl h
  rw [← hL] at hk
  obtain ⟨x, r, rfl⟩ : ∃ x r, L = x :: r := by cases L with
    | nil => exact absurd rfl hne
    | cons x r => exact ⟨x, r, rfl⟩
  have HRK := fun W => Lib.hid (rankOf_any (ba x) W)
  rw [ba_data, show rankV x = 3 from hk] at HRK
  have H := Lib.hid h
  have h8 := h.ob.cell 8 _ rfl
  have HT := Lib.hid hT
  rw [show (x :: r).length = r.length + 1 from rfl] at HQ
  clear hL hne hk hw h hs hT
  go_enter Tryd.func20, Tryd.ntmps20
  go_wp2_with fail
  refine HSP.out.mono ?_; intro e w1 h1
  obtain ⟨⟨a, cap, rfl, hR⟩, hb1⟩ := HQ.out _ _ h1
  obtain ⟨g, off, rfl, hg, hc⟩ := hR.at_ 0 (by simp)
  have c0 : w1.cell? ⟨g, off, none⟩ = some (.string (ba x)) := hc 0 (by simp)
  have hle := hR.le
  have hmx : cap ≤ 9223372036854775807 := hR.mx
  rw [show (x :: r).length = r.length + 1 from rfl] at hle
  have H1 := Lib.hid (H.out.more hb1)
  have HC := Lib.hid hc
  have t0 : w1.cell? ⟨0, 3, none⟩ = some (.int .i64 3) := (HT.out.below H1.out.bel) 3 (by decide)
  have h8' := H1.out.ob.cell 8 _ rfl
  have ORD := fun W h => Lib.hid (order_any rb 3 b last W h)
  clear h1 hb1 hR hc
  cases ho : ordB 3 b last
  · have HF := Lib.hid (HNO.out ho)
    rw [ho] at ORD
    clear ho
    go_wp2_with (first | (go_at_call 38; refine ((HRK _).out).mono ?_; rintro e w2 ⟨rfl, rfl⟩) | (go_at_call 39; refine ((ORD _ h8').out).mono ?_; rintro e w2 ⟨rfl, rfl⟩))
    go_ret
    exact HF.out _ H1.out.bel
  · rw [ho] at ORD
    by_cases hl : r.length + 1 = 3
    · obtain ⟨v1, v2, rfl⟩ : ∃ v1 v2, r = [v1, v2] := by
        match r, hl with
        | [v1, v2], _ => exact ⟨v1, v2, rfl⟩
      have HTT := fun W' e w' h => Lib.hid (HTK.out W' e w' ho hl h)
      have nl : (((([v1, v2].length : Nat) : Int) + 1) != 3) = false := by rfl
      have f8 := H1.out.ob.free 8
      have HST := Lib.hid (H1.out.setLast 3)
      have HCC : Hid (∀ j (hj : j < 3), (w1.setCell ⟨rb, 8, none⟩ (.int .i64 3)).cell? ⟨g, off + j, none⟩ = some (.string (ba ([x, v1, v2].getD j [])))) := fun j hj => by
        have hcj := HC.out j hj
        have hgr : rb ≠ g := fun e => by
          subst e
          have e8 := H1.out.ob
          unfold ObjAt at e8
          have : w1.cell? ⟨rb, off, none⟩ = some (.string (ba x)) := c0
          simp only [World.cell?, e8] at this
          rcases (by omega : off = 0 ∨ off = 1 ∨ off = 2 ∨ off = 3 ∨ off = 4 ∨ off = 5 ∨ off = 6 ∨ off = 7 ∨ off = 8 ∨ 9 ≤ off) with rfl | rfl | rfl | rfl | rfl | rfl | rfl | rfl | rfl | h9
          all_goals first | (simp at this; done) | (rw [List.getElem?_toArray, List.getElem?_eq_none (by simpa using h9)] at this; simp at this)
        rw [World.cell?_setCell_far _ _ _ _ hgr, hcj, List.getD_eq_getElem?_getD, List.getElem?_eq_getElem hj]; rfl
      have HGG : Hid (g < (w1.setCell ⟨rb, 8, none⟩ (.int .i64 3)).heap.size) := by simpa [World.setCell, Hid] using hg
      have HCN := Lib.hid (labelled_port w rb c 3 x v1 v2 hsm g off cap _ HST.out HGG.out HCC.out (by simp at hle; omega) (by unfold maxLen; omega) hn)
      clear ho hl HTK HNL HNO HC hsm
      go_wp2_with (first | (go_at_call 38; refine ((HRK _).out).mono ?_; rintro e w2 ⟨rfl, rfl⟩) | (go_at_call 39; refine ((ORD _ h8').out).mono ?_; rintro e w2 ⟨rfl, rfl⟩))
      refine HCN.out.mono ?_; intro e w3 h3
      have HLN := HTT _ _ _ h3
      obtain ⟨bb, rfl⟩ := tk_shape h3
      clear h3
      go_wp2_with fail
      go_ret
      exact HLN.out
    · have HF := Lib.hid (HNL.out hl)
      have n1 : (((r.length : Nat) : Int) + 1 == 3) = false := by rw [beq_eq_false_iff_ne]; omega
      have n2 : (((r.length + 1 : Nat) : Int) == 3) = false := by rw [beq_eq_false_iff_ne]; omega
      have n3 : ((((r.length : Nat) : Int) + 1) != 3) = true := by rw [bne_iff_ne]; omega
      have n4 : (((r.length + 1 : Nat) : Int) != 3) = true := by rw [bne_iff_ne]; omega
      clear ho hl
      go_wp2_with (first | (go_at_call 38; refine ((HRK _).out).mono ?_; rintro e w2 ⟨rfl, rfl⟩) | (go_at_call 39; refine ((ORD _ h8').out).mono ?_; rintro e w2 ⟨rfl, rfl⟩))
      go_ret
      exact HF.out _ H1.out.bel
theorem line_ring (w : World) (rb : Nat) (c : Cv) (last : Int) (b : Bool) (s : List UInt8) (hs : s.length ≤ 100000) (W : World) (h : RD w rb c last W) (hT : WdTab w) (hn : FewC c) (hw : wordsB s = true) (hk : rankV ((fieldsC 32 s).headD []) = 4) :
    Calls Tryd.prog 20 #[.pointer (some ⟨rb, 0, none⟩), .string (ba s), .bool b] W (LnPost w rb c last b s) := by
  obtain ⟨L, hL⟩ : ∃ L, L = fieldsC 32 s := ⟨_, rfl⟩
  have hsm : ∀ y ∈ L, y.length ≤ 100000000 := fun y hy => by
    rw [hL] at hy
    have := (fieldsC_mem 32 s y hy).2
    omega
  have hlL : L.length ≤ 100001 := by
    rw [hL, fieldsC_len]
    have := List.count_le_length (a := (32 : UInt8)) (l := s); omega
  have hne : L ≠ [] := by rw [hL]; exact fieldsC_ne 32 _
  have HSP := Lib.hid (split_any (ba s) (by rw [ba_size]; omega) W)
  have HQ : Hid (∀ e w', SplitPost (ba s).data.toList W e w' → (∃ a cap, e = .returned (.tuple #[.slice a L.length cap, .bool true]) ∧ RdW w' a cap L) ∧ Below W.heap.size W w') := fun e w' h => by rw [hL]; exact ⟨h.1 hw, h.2.2⟩
  have HNO : Hid (ordB 4 b last = false → ∀ w', Below w.heap.size w w' → LnPost w rb c last b s (.returned (.bool false)) w') := fun ho w' hb => ln_no (by unfold lineV; rw [hk, if_neg (by rw [ho]; simp)]) hb
  have HNL : Hid (L.length ≠ 3 → ∀ w', Below w.heap.size w w' → LnPost w rb c last b s (.returned (.bool false)) w') := fun hl w' hb => ln_no (by unfold lineV; rw [hk, if_neg (by rw [← hL]; rintro ⟨_, _, _, h⟩; exact hl h)]) hb
  have HTK : Hid (∀ W' e w', ordB 4 b last = true → L.length = 3 → TkPost w rb c 4 4 L W' e w' → LnPost w rb c last b s e w') := fun W' e w' ho hl h => ln_take hL.symm (by rw [hL]; exact hk) hw (by decide) ho hl h
  rw [← hL] at hk
  obtain ⟨x, r, rfl⟩ : ∃ x r, L = x :: r := by cases L with
    | nil => exact absurd rfl hne
    | cons x r => exact ⟨x, r, rfl⟩
  have HRK := fun W => Lib.hid (rankOf_any (ba x) W)
  rw [ba_data, show rankV x = 4 from hk] at HRK
  have H := Lib.hid h
  have h8 := h.ob.cell 8 _ rfl
  have HT := Lib.hid hT
  rw [show (x :: r).length = r.length + 1 from rfl] at HQ
  clear hL hne hk hw h hs hT
  go_enter Tryd.func20, Tryd.ntmps20
  go_wp2_with fail
  refine HSP.out.mono ?_; intro e w1 h1
  obtain ⟨⟨a, cap, rfl, hR⟩, hb1⟩ := HQ.out _ _ h1
  obtain ⟨g, off, rfl, hg, hc⟩ := hR.at_ 0 (by simp)
  have c0 : w1.cell? ⟨g, off, none⟩ = some (.string (ba x)) := hc 0 (by simp)
  have hle := hR.le
  have hmx : cap ≤ 9223372036854775807 := hR.mx
  rw [show (x :: r).length = r.length + 1 from rfl] at hle
  have H1 := Lib.hid (H.out.more hb1)
  have HC := Lib.hid hc
  have t0 : w1.cell? ⟨0, 4, none⟩ = some (.int .i64 3) := (HT.out.below H1.out.bel) 4 (by decide)
  have h8' := H1.out.ob.cell 8 _ rfl
  have ORD := fun W h => Lib.hid (order_any rb 4 b last W h)
  clear h1 hb1 hR hc
  cases ho : ordB 4 b last
  · have HF := Lib.hid (HNO.out ho)
    rw [ho] at ORD
    clear ho
    go_wp2_with (first | (go_at_call 38; refine ((HRK _).out).mono ?_; rintro e w2 ⟨rfl, rfl⟩) | (go_at_call 39; refine ((ORD _ h8').out).mono ?_; rintro e w2 ⟨rfl, rfl⟩))
    go_ret
    exact HF.out _ H1.out.bel
  · rw [ho] at ORD
    by_cases hl : r.length + 1 = 3
    · obtain ⟨v1, v2, rfl⟩ : ∃ v1 v2, r = [v1, v2] := by
        match r, hl with
        | [v1, v2], _ => exact ⟨v1, v2, rfl⟩
      have HTT := fun W' e w' h => Lib.hid (HTK.out W' e w' ho hl h)
      have nl : (((([v1, v2].length : Nat) : Int) + 1) != 3) = false := by rfl
      have f8 := H1.out.ob.free 8
      have HST := Lib.hid (H1.out.setLast 4)
      have HCC : Hid (∀ j (hj : j < 3), (w1.setCell ⟨rb, 8, none⟩ (.int .i64 4)).cell? ⟨g, off + j, none⟩ = some (.string (ba ([x, v1, v2].getD j [])))) := fun j hj => by
        have hcj := HC.out j hj
        have hgr : rb ≠ g := fun e => by
          subst e
          have e8 := H1.out.ob
          unfold ObjAt at e8
          have : w1.cell? ⟨rb, off, none⟩ = some (.string (ba x)) := c0
          simp only [World.cell?, e8] at this
          rcases (by omega : off = 0 ∨ off = 1 ∨ off = 2 ∨ off = 3 ∨ off = 4 ∨ off = 5 ∨ off = 6 ∨ off = 7 ∨ off = 8 ∨ 9 ≤ off) with rfl | rfl | rfl | rfl | rfl | rfl | rfl | rfl | rfl | h9
          all_goals first | (simp at this; done) | (rw [List.getElem?_toArray, List.getElem?_eq_none (by simpa using h9)] at this; simp at this)
        rw [World.cell?_setCell_far _ _ _ _ hgr, hcj, List.getD_eq_getElem?_getD, List.getElem?_eq_getElem hj]; rfl
      have HGG : Hid (g < (w1.setCell ⟨rb, 8, none⟩ (.int .i64 4)).heap.size) := by simpa [World.setCell, Hid] using hg
      have HCN := Lib.hid (plain_ring w rb c 4 x v1 v2 hsm g off cap _ HST.out HGG.out HCC.out (by simp at hle; omega) (by unfold maxLen; omega) hn)
      clear ho hl HTK HNL HNO HC hsm
      go_wp2_with (first | (go_at_call 38; refine ((HRK _).out).mono ?_; rintro e w2 ⟨rfl, rfl⟩) | (go_at_call 39; refine ((ORD _ h8').out).mono ?_; rintro e w2 ⟨rfl, rfl⟩))
      refine HCN.out.mono ?_; intro e w3 h3
      have HLN := HTT _ _ _ h3
      obtain ⟨bb, rfl⟩ := tk_shape h3
      clear h3
      go_wp2_with fail
      go_ret
      exact HLN.out
    · have HF := Lib.hid (HNL.out hl)
      have n1 : (((r.length : Nat) : Int) + 1 == 3) = false := by rw [beq_eq_false_iff_ne]; omega
      have n2 : (((r.length + 1 : Nat) : Int) == 3) = false := by rw [beq_eq_false_iff_ne]; omega
      have n3 : ((((r.length : Nat) : Int) + 1) != 3) = true := by rw [bne_iff_ne]; omega
      have n4 : (((r.length + 1 : Nat) : Int) != 3) = true := by rw [bne_iff_ne]; omega
      clear ho hl
      go_wp2_with (first | (go_at_call 38; refine ((HRK _).out).mono ?_; rintro e w2 ⟨rfl, rfl⟩) | (go_at_call 39; refine ((ORD _ h8').out).mono ?_; rintro e w2 ⟨rfl, rfl⟩))
      go_ret
      exact HF.out _ H1.out.bel
theorem line_slot (w : World) (rb : Nat) (c : Cv) (last : Int) (b : Bool) (s : List UInt8) (hs : s.length ≤ 100000) (W : World) (h : RD w rb c last W) (hT : WdTab w) (hn : FewC c) (hw : wordsB s = true) (hk : rankV ((fieldsC 32 s).headD []) = 5) :
    Calls Tryd.prog 20 #[.pointer (some ⟨rb, 0, none⟩), .string (ba s), .bool b] W (LnPost w rb c last b s) := by
  obtain ⟨L, hL⟩ : ∃ L, L = fieldsC 32 s := ⟨_, rfl⟩
  have hsm : ∀ y ∈ L, y.length ≤ 100000000 := fun y hy => by
    rw [hL] at hy
    have := (fieldsC_mem 32 s y hy).2
    omega
  have hlL : L.length ≤ 100001 := by
    rw [hL, fieldsC_len]
    have := List.count_le_length (a := (32 : UInt8)) (l := s); omega
  have hne : L ≠ [] := by rw [hL]; exact fieldsC_ne 32 _
  have HSP := Lib.hid (split_any (ba s) (by rw [ba_size]; omega) W)
  have HQ : Hid (∀ e w', SplitPost (ba s).data.toList W e w' → (∃ a cap, e = .returned (.tuple #[.slice a L.length cap, .bool true]) ∧ RdW w' a cap L) ∧ Below W.heap.size W w') := fun e w' h => by rw [hL]; exact ⟨h.1 hw, h.2.2⟩
  have HNO : Hid (ordB 5 b last = false → ∀ w', Below w.heap.size w w' → LnPost w rb c last b s (.returned (.bool false)) w') := fun ho w' hb => ln_no (by unfold lineV; rw [hk, if_neg (by rw [ho]; simp)]) hb
  have HNL : Hid (L.length ≠ 3 → ∀ w', Below w.heap.size w w' → LnPost w rb c last b s (.returned (.bool false)) w') := fun hl w' hb => ln_no (by unfold lineV; rw [hk, if_neg (by rw [← hL]; rintro ⟨_, _, _, h⟩; exact hl h)]) hb
  have HTK : Hid (∀ W' e w', ordB 5 b last = true → L.length = 3 → TkPost w rb c 5 5 L W' e w' → LnPost w rb c last b s e w') := fun W' e w' ho hl h => ln_take hL.symm (by rw [hL]; exact hk) hw (by decide) ho hl h
  rw [← hL] at hk
  obtain ⟨x, r, rfl⟩ : ∃ x r, L = x :: r := by cases L with
    | nil => exact absurd rfl hne
    | cons x r => exact ⟨x, r, rfl⟩
  have HRK := fun W => Lib.hid (rankOf_any (ba x) W)
  rw [ba_data, show rankV x = 5 from hk] at HRK
  have H := Lib.hid h
  have h8 := h.ob.cell 8 _ rfl
  have HT := Lib.hid hT
  rw [show (x :: r).length = r.length + 1 from rfl] at HQ
  clear hL hne hk hw h hs hT
  go_enter Tryd.func20, Tryd.ntmps20
  go_wp2_with fail
  refine HSP.out.mono ?_; intro e w1 h1
  obtain ⟨⟨a, cap, rfl, hR⟩, hb1⟩ := HQ.out _ _ h1
  obtain ⟨g, off, rfl, hg, hc⟩ := hR.at_ 0 (by simp)
  have c0 : w1.cell? ⟨g, off, none⟩ = some (.string (ba x)) := hc 0 (by simp)
  have hle := hR.le
  have hmx : cap ≤ 9223372036854775807 := hR.mx
  rw [show (x :: r).length = r.length + 1 from rfl] at hle
  have H1 := Lib.hid (H.out.more hb1)
  have HC := Lib.hid hc
  have t0 : w1.cell? ⟨0, 5, none⟩ = some (.int .i64 3) := (HT.out.below H1.out.bel) 5 (by decide)
  have h8' := H1.out.ob.cell 8 _ rfl
  have ORD := fun W h => Lib.hid (order_any rb 5 b last W h)
  clear h1 hb1 hR hc
  cases ho : ordB 5 b last
  · have HF := Lib.hid (HNO.out ho)
    rw [ho] at ORD
    clear ho
    go_wp2_with (first | (go_at_call 38; refine ((HRK _).out).mono ?_; rintro e w2 ⟨rfl, rfl⟩) | (go_at_call 39; refine ((ORD _ h8').out).mono ?_; rintro e w2 ⟨rfl, rfl⟩))
    go_ret
    exact HF.out _ H1.out.bel
  · rw [ho] at ORD
    by_cases hl : r.length + 1 = 3
    · obtain ⟨v1, v2, rfl⟩ : ∃ v1 v2, r = [v1, v2] := by
        match r, hl with
        | [v1, v2], _ => exact ⟨v1, v2, rfl⟩
      have HTT := fun W' e w' h => Lib.hid (HTK.out W' e w' ho hl h)
      have nl : (((([v1, v2].length : Nat) : Int) + 1) != 3) = false := by rfl
      have f8 := H1.out.ob.free 8
      have HST := Lib.hid (H1.out.setLast 5)
      have HCC : Hid (∀ j (hj : j < 3), (w1.setCell ⟨rb, 8, none⟩ (.int .i64 5)).cell? ⟨g, off + j, none⟩ = some (.string (ba ([x, v1, v2].getD j [])))) := fun j hj => by
        have hcj := HC.out j hj
        have hgr : rb ≠ g := fun e => by
          subst e
          have e8 := H1.out.ob
          unfold ObjAt at e8
          have : w1.cell? ⟨rb, off, none⟩ = some (.string (ba x)) := c0
          simp only [World.cell?, e8] at this
          rcases (by omega : off = 0 ∨ off = 1 ∨ off = 2 ∨ off = 3 ∨ off = 4 ∨ off = 5 ∨ off = 6 ∨ off = 7 ∨ off = 8 ∨ 9 ≤ off) with rfl | rfl | rfl | rfl | rfl | rfl | rfl | rfl | rfl | h9
          all_goals first | (simp at this; done) | (rw [List.getElem?_toArray, List.getElem?_eq_none (by simpa using h9)] at this; simp at this)
        rw [World.cell?_setCell_far _ _ _ _ hgr, hcj, List.getD_eq_getElem?_getD, List.getElem?_eq_getElem hj]; rfl
      have HGG : Hid (g < (w1.setCell ⟨rb, 8, none⟩ (.int .i64 5)).heap.size) := by simpa [World.setCell, Hid] using hg
      have HCN := Lib.hid (plain_slot w rb c 5 x v1 v2 hsm g off cap _ HST.out HGG.out HCC.out (by simp at hle; omega) (by unfold maxLen; omega) hn)
      clear ho hl HTK HNL HNO HC hsm
      go_wp2_with (first | (go_at_call 38; refine ((HRK _).out).mono ?_; rintro e w2 ⟨rfl, rfl⟩) | (go_at_call 39; refine ((ORD _ h8').out).mono ?_; rintro e w2 ⟨rfl, rfl⟩))
      refine HCN.out.mono ?_; intro e w3 h3
      have HLN := HTT _ _ _ h3
      obtain ⟨bb, rfl⟩ := tk_shape h3
      clear h3
      go_wp2_with fail
      go_ret
      exact HLN.out
    · have HF := Lib.hid (HNL.out hl)
      have n1 : (((r.length : Nat) : Int) + 1 == 3) = false := by rw [beq_eq_false_iff_ne]; omega
      have n2 : (((r.length + 1 : Nat) : Int) == 3) = false := by rw [beq_eq_false_iff_ne]; omega
      have n3 : ((((r.length : Nat) : Int) + 1) != 3) = true := by rw [bne_iff_ne]; omega
      have n4 : (((r.length + 1 : Nat) : Int) != 3) = true := by rw [bne_iff_ne]; omega
      clear ho hl
      go_wp2_with (first | (go_at_call 38; refine ((HRK _).out).mono ?_; rintro e w2 ⟨rfl, rfl⟩) | (go_at_call 39; refine ((ORD _ h8').out).mono ?_; rintro e w2 ⟨rfl, rfl⟩))
      go_ret
      exact HF.out _ H1.out.bel
theorem line_gate (w : World) (rb : Nat) (c : Cv) (last : Int) (b : Bool) (s : List UInt8) (hs : s.length ≤ 100000) (W : World) (h : RD w rb c last W) (hT : WdTab w) (hn : FewC c) (hw : wordsB s = true) (hk : rankV ((fieldsC 32 s).headD []) = 6) :
    Calls Tryd.prog 20 #[.pointer (some ⟨rb, 0, none⟩), .string (ba s), .bool b] W (LnPost w rb c last b s) := by
  obtain ⟨L, hL⟩ : ∃ L, L = fieldsC 32 s := ⟨_, rfl⟩
  have hsm : ∀ y ∈ L, y.length ≤ 100000000 := fun y hy => by
    rw [hL] at hy
    have := (fieldsC_mem 32 s y hy).2
    omega
  have hlL : L.length ≤ 100001 := by
    rw [hL, fieldsC_len]
    have := List.count_le_length (a := (32 : UInt8)) (l := s); omega
  have hne : L ≠ [] := by rw [hL]; exact fieldsC_ne 32 _
  have HSP := Lib.hid (split_any (ba s) (by rw [ba_size]; omega) W)
  have HQ : Hid (∀ e w', SplitPost (ba s).data.toList W e w' → (∃ a cap, e = .returned (.tuple #[.slice a L.length cap, .bool true]) ∧ RdW w' a cap L) ∧ Below W.heap.size W w') := fun e w' h => by rw [hL]; exact ⟨h.1 hw, h.2.2⟩
  have HNO : Hid (ordB 6 b last = false → ∀ w', Below w.heap.size w w' → LnPost w rb c last b s (.returned (.bool false)) w') := fun ho w' hb => ln_no (by unfold lineV; rw [hk, if_neg (by rw [ho]; simp)]) hb
  have HNL : Hid (L.length ≠ 3 → ∀ w', Below w.heap.size w w' → LnPost w rb c last b s (.returned (.bool false)) w') := fun hl w' hb => ln_no (by unfold lineV; rw [hk, if_neg (by rw [← hL]; rintro ⟨_, _, _, h⟩; exact hl h)]) hb
  have HTK : Hid (∀ W' e w', ordB 6 b last = true → L.length = 3 → TkPost w rb c 6 6 L W' e w' → LnPost w rb c last b s e w') := fun W' e w' ho hl h => ln_take hL.symm (by rw [hL]; exact hk) hw (by decide) ho hl h
  rw [← hL] at hk
  obtain ⟨x, r, rfl⟩ : ∃ x r, L = x :: r := by cases L with
    | nil => exact absurd rfl hne
    | cons x r => exact ⟨x, r, rfl⟩
  have HRK := fun W => Lib.hid (rankOf_any (ba x) W)
  rw [ba_data, show rankV x = 6 from hk] at HRK
  have H := Lib.hid h
  have h8 := h.ob.cell 8 _ rfl
  have HT := Lib.hid hT
  rw [show (x :: r).length = r.length + 1 from rfl] at HQ
  clear hL hne hk hw h hs hT
  go_enter Tryd.func20, Tryd.ntmps20
  go_wp2_with fail
  refine HSP.out.mono ?_; intro e w1 h1
  obtain ⟨⟨a, cap, rfl, hR⟩, hb1⟩ := HQ.out _ _ h1
  obtain ⟨g, off, rfl, hg, hc⟩ := hR.at_ 0 (by simp)
  have c0 : w1.cell? ⟨g, off, none⟩ = some (.string (ba x)) := hc 0 (by simp)
  have hle := hR.le
  have hmx : cap ≤ 9223372036854775807 := hR.mx
  rw [show (x :: r).length = r.length + 1 from rfl] at hle
  have H1 := Lib.hid (H.out.more hb1)
  have HC := Lib.hid hc
  have t0 : w1.cell? ⟨0, 6, none⟩ = some (.int .i64 3) := (HT.out.below H1.out.bel) 6 (by decide)
  have h8' := H1.out.ob.cell 8 _ rfl
  have ORD := fun W h => Lib.hid (order_any rb 6 b last W h)
  clear h1 hb1 hR hc
  cases ho : ordB 6 b last
  · have HF := Lib.hid (HNO.out ho)
    rw [ho] at ORD
    clear ho
    go_wp2_with (first | (go_at_call 38; refine ((HRK _).out).mono ?_; rintro e w2 ⟨rfl, rfl⟩) | (go_at_call 39; refine ((ORD _ h8').out).mono ?_; rintro e w2 ⟨rfl, rfl⟩))
    go_ret
    exact HF.out _ H1.out.bel
  · rw [ho] at ORD
    by_cases hl : r.length + 1 = 3
    · obtain ⟨v1, v2, rfl⟩ : ∃ v1 v2, r = [v1, v2] := by
        match r, hl with
        | [v1, v2], _ => exact ⟨v1, v2, rfl⟩
      have HTT := fun W' e w' h => Lib.hid (HTK.out W' e w' ho hl h)
      have nl : (((([v1, v2].length : Nat) : Int) + 1) != 3) = false := by rfl
      have f8 := H1.out.ob.free 8
      have HST := Lib.hid (H1.out.setLast 6)
      have HCC : Hid (∀ j (hj : j < 3), (w1.setCell ⟨rb, 8, none⟩ (.int .i64 6)).cell? ⟨g, off + j, none⟩ = some (.string (ba ([x, v1, v2].getD j [])))) := fun j hj => by
        have hcj := HC.out j hj
        have hgr : rb ≠ g := fun e => by
          subst e
          have e8 := H1.out.ob
          unfold ObjAt at e8
          have : w1.cell? ⟨rb, off, none⟩ = some (.string (ba x)) := c0
          simp only [World.cell?, e8] at this
          rcases (by omega : off = 0 ∨ off = 1 ∨ off = 2 ∨ off = 3 ∨ off = 4 ∨ off = 5 ∨ off = 6 ∨ off = 7 ∨ off = 8 ∨ 9 ≤ off) with rfl | rfl | rfl | rfl | rfl | rfl | rfl | rfl | rfl | h9
          all_goals first | (simp at this; done) | (rw [List.getElem?_toArray, List.getElem?_eq_none (by simpa using h9)] at this; simp at this)
        rw [World.cell?_setCell_far _ _ _ _ hgr, hcj, List.getD_eq_getElem?_getD, List.getElem?_eq_getElem hj]; rfl
      have HGG : Hid (g < (w1.setCell ⟨rb, 8, none⟩ (.int .i64 6)).heap.size) := by simpa [World.setCell, Hid] using hg
      have HCN := Lib.hid (plain_gate w rb c 6 x v1 v2 hsm g off cap _ HST.out HGG.out HCC.out (by simp at hle; omega) (by unfold maxLen; omega) hn)
      clear ho hl HTK HNL HNO HC hsm
      go_wp2_with (first | (go_at_call 38; refine ((HRK _).out).mono ?_; rintro e w2 ⟨rfl, rfl⟩) | (go_at_call 39; refine ((ORD _ h8').out).mono ?_; rintro e w2 ⟨rfl, rfl⟩))
      refine HCN.out.mono ?_; intro e w3 h3
      have HLN := HTT _ _ _ h3
      obtain ⟨bb, rfl⟩ := tk_shape h3
      clear h3
      go_wp2_with fail
      go_ret
      exact HLN.out
    · have HF := Lib.hid (HNL.out hl)
      have n1 : (((r.length : Nat) : Int) + 1 == 3) = false := by rw [beq_eq_false_iff_ne]; omega
      have n2 : (((r.length + 1 : Nat) : Int) == 3) = false := by rw [beq_eq_false_iff_ne]; omega
      have n3 : ((((r.length : Nat) : Int) + 1) != 3) = true := by rw [bne_iff_ne]; omega
      have n4 : (((r.length + 1 : Nat) : Int) != 3) = true := by rw [bne_iff_ne]; omega
      clear ho hl
      go_wp2_with (first | (go_at_call 38; refine ((HRK _).out).mono ?_; rintro e w2 ⟨rfl, rfl⟩) | (go_at_call 39; refine ((ORD _ h8').out).mono ?_; rintro e w2 ⟨rfl, rfl⟩))
      go_ret
      exact HF.out _ H1.out.bel
theorem line_other (w : World) (rb : Nat) (c : Cv) (last : Int) (b : Bool) (s : List UInt8) (hs : s.length ≤ 100000) (W : World) (h : RD w rb c last W) (hw : wordsB s = true) (hk : rankV ((fieldsC 32 s).headD []) = 7) :
    Calls Tryd.prog 20 #[.pointer (some ⟨rb, 0, none⟩), .string (ba s), .bool b] W (LnPost w rb c last b s) := by
  obtain ⟨L, hL⟩ : ∃ L, L = fieldsC 32 s := ⟨_, rfl⟩
  have hlL : L.length ≤ 100001 := by
    rw [hL, fieldsC_len]
    have := List.count_le_length (a := (32 : UInt8)) (l := s); omega
  have hne : L ≠ [] := by rw [hL]; exact fieldsC_ne 32 _
  have HSP := Lib.hid (split_any (ba s) (by rw [ba_size]; omega) W)
  have HQ : Hid (∀ e w', SplitPost (ba s).data.toList W e w' → (∃ a cap, e = .returned (.tuple #[.slice a L.length cap, .bool true]) ∧ RdW w' a cap L) ∧ Below W.heap.size W w') := fun e w' h => by rw [hL]; exact ⟨h.1 hw, h.2.2⟩
  have HNO : Hid (∀ w', Below w.heap.size w w' → LnPost w rb c last b s (.returned (.bool false)) w') := fun w' hb => ln_no (by unfold lineV; rw [hk, if_neg (by omega)]) hb
  rw [← hL] at hk
  obtain ⟨x, r, rfl⟩ : ∃ x r, L = x :: r := by cases L with
    | nil => exact absurd rfl hne
    | cons x r => exact ⟨x, r, rfl⟩
  have HRK := fun W => Lib.hid (rankOf_any (ba x) W)
  rw [ba_data, show rankV x = 7 from hk] at HRK
  have H := Lib.hid h
  rw [show (x :: r).length = r.length + 1 from rfl] at HQ
  clear hL hne hk hw h hs
  go_enter Tryd.func20, Tryd.ntmps20
  go_wp2_with fail
  refine HSP.out.mono ?_; intro e w1 h1
  obtain ⟨⟨a, cap, rfl, hR⟩, hb1⟩ := HQ.out _ _ h1
  obtain ⟨g, off, rfl, hg, hc⟩ := hR.at_ 0 (by simp)
  have c0 : w1.cell? ⟨g, off, none⟩ = some (.string (ba x)) := hc 0 (by simp)
  have hle := hR.le
  have hmx : cap ≤ 9223372036854775807 := hR.mx
  rw [show (x :: r).length = r.length + 1 from rfl] at hle
  have H1 := Lib.hid (H.out.more hb1)
  clear h1 hb1 hR hc
  go_wp2_with (go_at_call 38; refine ((HRK _).out).mono ?_; rintro e w2 ⟨rfl, rfl⟩)
  go_ret
  exact HNO.out _ H1.out.bel
/-- A line. -/
theorem line_any (w : World) (rb : Nat) (c : Cv) (last : Int) (b : Bool) (s : List UInt8) (hs : s.length ≤ 100000) (W : World) (h : RD w rb c last W) (hT : WdTab w) (hn : FewC c) :
    Calls Tryd.prog 20 #[.pointer (some ⟨rb, 0, none⟩), .string (ba s), .bool b] W (LnPost w rb c last b s) := by
  by_cases hw : wordsB s = true
  · have hle := rankV_le ((fieldsC 32 s).headD [])
    rcases (by omega : rankV ((fieldsC 32 s).headD []) = 0 ∨ rankV ((fieldsC 32 s).headD []) = 1 ∨ rankV ((fieldsC 32 s).headD []) = 2 ∨ rankV ((fieldsC 32 s).headD []) = 3 ∨ rankV ((fieldsC 32 s).headD []) = 4 ∨ rankV ((fieldsC 32 s).headD []) = 5 ∨ rankV ((fieldsC 32 s).headD []) = 6 ∨ rankV ((fieldsC 32 s).headD []) = 7) with hk | hk | hk | hk | hk | hk | hk | hk
    · exact line_cats w rb c last b s hs W h hT hn hw hk
    · exact line_guest w rb c last b s hs W h hT hn hw hk
    · exact line_range w rb c last b s hs W h hT hn hw hk
    · exact line_port w rb c last b s hs W h hT hn hw hk
    · exact line_ring w rb c last b s hs W h hT hn hw hk
    · exact line_slot w rb c last b s hs W h hT hn hw hk
    · exact line_gate w rb c last b s hs W h hT hn hw hk
    · exact line_other w rb c last b s hs W h hw hk
  · exact line_none w rb c last b s hs W h (by simpa using hw)
end Go.Proofs.YtoalpdjpljapbaaDoor
