/- Package asm: Parse walked. -/
import Derived.Test.YtbemhbooihaadaaDoorAs5
import Derived.Deep.Cut
import Derived.Deep.CutBlock
namespace Go.Proofs.YtbemhbooihaadaaDoor
set_option linter.unusedVariables false
set_option linter.unusedSimpArgs false
set_option linter.unnecessarySimpa false
open Go.RowKit Go.Sort
set_option maxHeartbeats 4000000
set_option maxRecDepth 100000
set_option linter.unusedVariables false
def MidP (W0 : World) (rb ib o k : Nat) (r : Words) (wc : World) : Prop :=
  ObjAt wc ib 23 [.int .i64 o, .int .i64 (finD k r), .int .i64 (finA k r), .int .i64 (finC k r), .int .i64 (finN k r)] ∧ (∃ a cap, wc.cell? ⟨rb, 0, none⟩ = some (.slice a (finL k r).length cap)) ∧ wc.cell? ⟨rb, 1, none⟩ = some (.bool (finB k r)) ∧ Below W0.heap.size W0 wc
theorem mid_5 {W0 W : World} {rb g ib o : Nat} {r : Words} (hX : PS W0 rb g ib r false o W) : MidP W0 rb ib o 5 r W := by
  obtain ⟨t0, t1, hB⟩ := hX.tail (Upd.refl _ _)
  exact ⟨hX.ins, t0, t1, hB⟩
theorem mid_0 {W0 W : World} {rb g ib o : Nat} {r : Words} {vd va vc : Int} (hX : PS W0 rb g ib (finL 0 r) (finB 0 r) o W) (hd : vd = regN (wd0 r)) (ha : va = regN (wd1 r)) (hc : vc = regN (wd2 r)) :
    MidP W0 rb ib o 0 r (((W.setCell ⟨ib, 1, none⟩ (.int .i64 vd)).setCell ⟨ib, 2, none⟩ (.int .i64 va)).setCell ⟨ib, 3, none⟩ (.int .i64 vc)) := by
  subst hd ha hc
  obtain ⟨t0, t1, hB⟩ := hX.tail (((Upd.setCell W ⟨ib, 1, none⟩ (.int .i64 (regN (wd0 r)))).trans (Upd.setCell _ ⟨ib, 2, none⟩ (.int .i64 (regN (wd1 r))))).trans (Upd.setCell _ ⟨ib, 3, none⟩ (.int .i64 (regN (wd2 r)))))
  exact ⟨((hX.ins.set 1 _).set 2 _).set 3 _, t0, t1, hB⟩
theorem mid_1 {W0 W : World} {rb g ib o : Nat} {r : Words} {vd va vn : Int} (hX : PS W0 rb g ib (finL 1 r) (finB 1 r) o W) (hd : vd = regN (wd0 r)) (ha : va = regN (wd1 r)) (hc : vn = numN (wd2 r)) :
    MidP W0 rb ib o 1 r (((W.setCell ⟨ib, 1, none⟩ (.int .i64 vd)).setCell ⟨ib, 2, none⟩ (.int .i64 va)).setCell ⟨ib, 4, none⟩ (.int .i64 vn)) := by
  subst hd ha hc
  obtain ⟨t0, t1, hB⟩ := hX.tail (((Upd.setCell W ⟨ib, 1, none⟩ (.int .i64 (regN (wd0 r)))).trans (Upd.setCell _ ⟨ib, 2, none⟩ (.int .i64 (regN (wd1 r))))).trans (Upd.setCell _ ⟨ib, 4, none⟩ (.int .i64 (numN (wd2 r)))))
  exact ⟨((hX.ins.set 1 _).set 2 _).set 4 _, t0, t1, hB⟩
theorem mid_2 {W0 W : World} {rb g ib o : Nat} {r : Words} {vd vn : Int} (hX : PS W0 rb g ib (finL 2 r) (finB 2 r) o W) (hd : vd = regN (wd0 r)) (hc : vn = numN (wd1 r)) :
    MidP W0 rb ib o 2 r ((W.setCell ⟨ib, 1, none⟩ (.int .i64 vd)).setCell ⟨ib, 4, none⟩ (.int .i64 vn)) := by
  subst hd hc
  obtain ⟨t0, t1, hB⟩ := hX.tail ((Upd.setCell W ⟨ib, 1, none⟩ (.int .i64 (regN (wd0 r)))).trans (Upd.setCell _ ⟨ib, 4, none⟩ (.int .i64 (numN (wd1 r)))))
  exact ⟨(hX.ins.set 1 _).set 4 _, t0, t1, hB⟩
theorem mid_3 {W0 W : World} {rb g ib o : Nat} {r : Words} {va vc vn : Int} (hX : PS W0 rb g ib (finL 3 r) (finB 3 r) o W) (hd : va = regN (wd0 r)) (ha : vc = regN (wd1 r)) (hc : vn = numN (wd2 r)) :
    MidP W0 rb ib o 3 r (((W.setCell ⟨ib, 2, none⟩ (.int .i64 va)).setCell ⟨ib, 3, none⟩ (.int .i64 vc)).setCell ⟨ib, 4, none⟩ (.int .i64 vn)) := by
  subst hd ha hc
  obtain ⟨t0, t1, hB⟩ := hX.tail (((Upd.setCell W ⟨ib, 2, none⟩ (.int .i64 (regN (wd0 r)))).trans (Upd.setCell _ ⟨ib, 3, none⟩ (.int .i64 (regN (wd1 r))))).trans (Upd.setCell _ ⟨ib, 4, none⟩ (.int .i64 (numN (wd2 r)))))
  exact ⟨((hX.ins.set 2 _).set 3 _).set 4 _, t0, t1, hB⟩
theorem mid_4 {W0 W : World} {rb g ib o : Nat} {r : Words} {va vn : Int} (hX : PS W0 rb g ib (finL 4 r) (finB 4 r) o W) (hd : va = regN (wd0 r)) (hc : vn = numN (wd1 r)) :
    MidP W0 rb ib o 4 r ((W.setCell ⟨ib, 2, none⟩ (.int .i64 va)).setCell ⟨ib, 4, none⟩ (.int .i64 vn)) := by
  subst hd hc
  obtain ⟨t0, t1, hB⟩ := hX.tail ((Upd.setCell W ⟨ib, 2, none⟩ (.int .i64 (regN (wd0 r)))).trans (Upd.setCell _ ⟨ib, 4, none⟩ (.int .i64 (numN (wd1 r)))))
  exact ⟨(hX.ins.set 2 _).set 4 _, t0, t1, hB⟩
theorem parse_none (s : ByteArray) (hs : s.size ≤ 100000000) (w : World) (hw : wordsB s.data.toList = false) :
    Calls Tryd.prog 10 #[.string s] w fun e w' => e = .returned (parV s.data.toList) ∧ Below w.heap.size w w' := by
  have HE : Hid (parV s.data.toList = .tuple #[(.agg #[.int .i64 (0), .int .i64 (0), .int .i64 (0), .int .i64 (0), .int .i64 (0)]), .int .i64 6]) := parV_no (by simp [parB, hw])
  go_enter Tryd.func10, Tryd.ntmps10
  go_wp2_with fail
  refine (split_any s hs _).mono ?_; rintro e w1 ⟨_, h2, hb⟩; obtain rfl := h2 hw
  have hO : ObjAt w1 w.heap.size 23 zeroI := (ObjAt.new w 23 zeroI).below hb
  have HB : Hid (Below w.heap.size w w1) := bmore ((Below.refl _ _).alloc (Nat.le_refl _) _) hb
  have s6 := hO.lt
  have a0 := (hO).cell 0 _ rfl; have a1 := (hO).cell 1 _ rfl; have a2 := (hO).cell 2 _ rfl; have a3 := (hO).cell 3 _ rfl; have a4 := (hO).cell 4 _ rfl; have g0 := (hO).free 0; have g1 := (hO).free 1; have g2 := (hO).free 2; have g3 := (hO).free 3; have g4 := (hO).free 4
  clear hb h2
  go_wp2_with fail
  (refine bodyPost_ret (v := .tuple #[(.agg #[.int .i64 (0), .int .i64 (0), .int .i64 (0), .int .i64 (0), .int .i64 (0)]), .int .i64 6]) (by simp [results, Tryd.results10, go_sem, a0, a1, a2, a3, a4, s6]) rfl ⟨by rw [HE.out], ?_⟩; exact (((((HB.out.setCell (Nat.le_refl _) _).setCell (Nat.le_refl _) _).setCell (Nat.le_refl _) _).setCell (Nat.le_refl _) _).setCell (Nat.le_refl _) _))
theorem parse_noop (s : ByteArray) (hs : s.size ≤ 100000000) (w : World) (hw : wordsB s.data.toList = true) (hz : opV ((fieldsC 32 s.data.toList).headD []) = 0) :
    Calls Tryd.prog 10 #[.string s] w fun e w' => e = .returned (parV s.data.toList) ∧ Below w.heap.size w w' := by
  have HE : Hid (parV s.data.toList = .tuple #[(.agg #[.int .i64 (0), .int .i64 (0), .int .i64 (0), .int .i64 (0), .int .i64 (0)]), .int .i64 6]) := parV_no (by unfold parB; rw [hz]; simp)
  obtain ⟨L, hL⟩ : ∃ L, L = fieldsC 32 s.data.toList := ⟨_, rfl⟩
  have hne : L ≠ [] := by rw [hL]; exact fieldsC_ne 32 _
  have HSP := Lib.hid (split_any s hs (w.alloc (.cells #[.int .i64 0, .int .i64 0, .int .i64 0, .int .i64 0, .int .i64 0] 23)))
  have HP : Hid (∀ e w', SplitPost s.data.toList (w.alloc (.cells #[.int .i64 0, .int .i64 0, .int .i64 0, .int .i64 0, .int .i64 0] 23)) e w' → (∃ a cap, e = .returned (.tuple #[.slice a L.length cap, .bool true]) ∧ RdW w' a cap L) ∧ Below (w.alloc (.cells #[.int .i64 0, .int .i64 0, .int .i64 0, .int .i64 0, .int .i64 0] 23)).heap.size (w.alloc (.cells #[.int .i64 0, .int .i64 0, .int .i64 0, .int .i64 0, .int .i64 0] 23)) w') := fun e w' h => by rw [hL]; exact ⟨h.1 hw, h.2.2⟩
  rw [← hL] at hz
  obtain ⟨x, r, rfl⟩ : ∃ x r, L = x :: r := by cases L with
    | nil => exact absurd rfl hne
    | cons x r => exact ⟨x, r, rfl⟩
  have HX : Hid (opV x = 0) := hz
  clear hL hne hw hz
  go_enter Tryd.func10, Tryd.ntmps10
  go_wp2_with fail
  refine HSP.out.mono ?_; rintro e w1 h
  obtain ⟨⟨a, cap, rfl, hR⟩, hb⟩ := HP.out _ _ h
  obtain ⟨g, o, rfl, hg, hc⟩ := hR.at_ 0 (by simp)
  have c0 : w1.cell? ⟨g, o, none⟩ = some (.string (ba x)) := hc 0 (by simp)
  have hO : ObjAt w1 w.heap.size 23 zeroI := (ObjAt.new w 23 zeroI).below hb
  have HB1 : Hid (Below w.heap.size w w1) := bmore ((Below.refl _ _).alloc (Nat.le_refl _) _) hb
  have HO1 := Lib.hid hO
  clear hb h hc hR hO HSP HP
  go_wp2_with fail
  refine (opOf_any (ba x) _).mono ?_; rintro e w2 ⟨rfl, hb2⟩
  rw [ba_data, HX.out]
  have hO := HO1.out.below hb2
  have HB : Hid (Below w.heap.size w w2) := bmore HB1.out hb2
  have s6 := hO.lt
  have a0 := (hO).cell 0 _ rfl; have a1 := (hO).cell 1 _ rfl; have a2 := (hO).cell 2 _ rfl; have a3 := (hO).cell 3 _ rfl; have a4 := (hO).cell 4 _ rfl; have g0 := (hO).free 0; have g1 := (hO).free 1; have g2 := (hO).free 2; have g3 := (hO).free 3; have g4 := (hO).free 4
  clear hb2
  go_wp2_with fail
  (refine bodyPost_ret (v := .tuple #[(.agg #[.int .i64 (0), .int .i64 (0), .int .i64 (0), .int .i64 (0), .int .i64 (0)]), .int .i64 6]) (by simp [results, Tryd.results10, go_sem, a0, a1, a2, a3, a4, s6]) rfl ⟨by rw [HE.out], ?_⟩; exact (((((HB.out.setCell (Nat.le_refl _) _).setCell (Nat.le_refl _) _).setCell (Nat.le_refl _) _).setCell (Nat.le_refl _) _).setCell (Nat.le_refl _) _))
theorem par_val {s : List UInt8} {L : Words} {o : Nat} (hL : L = fieldsC 32 s) (ho : o = opV (L.headD [])) (hw : wordsB s = true) (h0 : o ≠ 0) (h41 : o ≤ 41) :
    ((finB (kindN o) L.tail = true ∨ finL (kindN o) L.tail ≠ [] ∨ Isa.validB o (finD (kindN o) L.tail) (finA (kindN o) L.tail) (finC (kindN o) L.tail) (finN (kindN o) L.tail) = false) → parV s = .tuple #[(.agg #[.int .i64 (0), .int .i64 (0), .int .i64 (0), .int .i64 (0), .int .i64 (0)]), .int .i64 6]) ∧
    (finB (kindN o) L.tail = false → finL (kindN o) L.tail = [] → Isa.validB o (finD (kindN o) L.tail) (finA (kindN o) L.tail) (finC (kindN o) L.tail) (finN (kindN o) L.tail) = true →
      parV s = .tuple #[(.agg #[.int .i64 (o), .int .i64 (finD (kindN o) L.tail), .int .i64 (finA (kindN o) L.tail), .int .i64 (finC (kindN o) L.tail), .int .i64 (finN (kindN o) L.tail)]), .int .i64 0]) := by
  have hk := kindN_le ⟨o, by omega⟩
  dsimp only at hk
  have ht := fin_take (kindN o) hk L.tail
  have hv := fin_vals (kindN o) hk L.tail
  have hP : parB s = (takeP (wantK (kindN o)) L.tail && Isa.validB o (insP o L.tail).1 (insP o L.tail).2.1 (insP o L.tail).2.2.1 (insP o L.tail).2.2.2) := by
    unfold parB
    rw [hw, ← hL, ← ho, decide_eq_true h0]
    rfl
  constructor
  · intro h
    apply parV_no
    rw [hP]
    cases hb : takeP (wantK (kindN o)) L.tail with
    | false => rfl
    | true =>
      rw [hb, Bool.and_eq_true] at ht
      obtain ⟨e1, e2⟩ := ht
      obtain ⟨v1, v2, v3, v4⟩ := hv hb
      rcases h with h | h | h
      · rw [h] at e1; cases e1
      · exact absurd (List.isEmpty_iff.1 e2) h
      · unfold insP
        dsimp only
        rw [← v1, ← v2, ← v3, ← v4, h]; rfl
  · intro h1 h2 h3
    rw [h1, h2] at ht
    obtain ⟨v1, v2, v3, v4⟩ := hv ht.symm
    have hT : parB s = true := by
      rw [hP, ← ht]
      unfold insP
      dsimp only
      rw [← v1, ← v2, ← v3, ← v4, h3]; rfl
    unfold parV parO parD parA parC parN parE
    rw [if_pos hT, if_pos hT, if_pos hT, if_pos hT, if_pos hT, if_pos hT, ← hL, ← ho]
    unfold insP
    dsimp only
    rw [← v1, ← v2, ← v3, ← v4]
theorem parse_op (s : ByteArray) (hs : s.size ≤ 100000000) (w : World) (ht : Isa.Tab w) (hw : wordsB s.data.toList = true) (hz : opV ((fieldsC 32 s.data.toList).headD []) ≠ 0) :
    Calls Tryd.prog 10 #[.string s] w fun e w' => e = .returned (parV s.data.toList) ∧ Below w.heap.size w w' := by
  obtain ⟨L, hL⟩ : ∃ L, L = fieldsC 32 s.data.toList := ⟨_, rfl⟩
  have hne : L ≠ [] := by rw [hL]; exact fieldsC_ne 32 _
  have hsm : ∀ y ∈ L, y.length ≤ 100000000 := fun y hy => by
    rw [hL] at hy
    have := (fieldsC_mem 32 s.data.toList y hy).2
    rw [ba_len] at this; omega
  have HSP := Lib.hid (split_any s hs (w.alloc (.cells #[.int .i64 0, .int .i64 0, .int .i64 0, .int .i64 0, .int .i64 0] 23)))
  have HP : Hid (∀ e w', SplitPost s.data.toList (w.alloc (.cells #[.int .i64 0, .int .i64 0, .int .i64 0, .int .i64 0, .int .i64 0] 23)) e w' → (∃ a cap, e = .returned (.tuple #[.slice a L.length cap, .bool true]) ∧ RdW w' a cap L) ∧ Below (w.alloc (.cells #[.int .i64 0, .int .i64 0, .int .i64 0, .int .i64 0, .int .i64 0] 23)).heap.size (w.alloc (.cells #[.int .i64 0, .int .i64 0, .int .i64 0, .int .i64 0, .int .i64 0] 23)) w') := fun e w' h => by rw [hL]; exact ⟨h.1 hw, h.2.2⟩
  rw [← hL] at hz
  obtain ⟨o, ho⟩ : ∃ o, o = opV (L.headD []) := ⟨_, rfl⟩
  rw [← ho] at hz
  have h41 : o ≤ 41 := by rw [ho]; exact opV_le _
  have HV := Lib.hid (par_val hL ho hw hz h41)
  obtain ⟨R, hR⟩ : ∃ R, R = parV s.data.toList := ⟨_, rfl⟩
  rw [← hR] at HV ⊢
  obtain ⟨x, r, rfl⟩ : ∃ x r, L = x :: r := by cases L with
    | nil => exact absurd rfl hne
    | cons x r => exact ⟨x, r, rfl⟩
  have HX : Hid (opV x = o) := ho.symm
  have HO : Hid (1 ≤ o ∧ o < 42) := ⟨by omega, by omega⟩
  have HSM : Hid (∀ y ∈ r, y.length ≤ 100000000) := fun y hy => hsm y (List.mem_cons_of_mem _ hy)
  have HT := Lib.hid ht
  rw [show (x :: r).tail = r from rfl] at HV
  clear hL hne hw hz ho hR hsm ht h41
  go_enter Tryd.func10, Tryd.ntmps10
  go_wp2_with fail
  refine HSP.out.mono ?_; rintro e w1 h
  obtain ⟨⟨a, cap, rfl, hR⟩, hb⟩ := HP.out _ _ h
  obtain ⟨g, off, rfl, hg, hc⟩ := hR.at_ 0 (by simp)
  have c0 : w1.cell? ⟨g, off, none⟩ = some (.string (ba x)) := hc 0 (by simp)
  have hO : ObjAt w1 w.heap.size 23 zeroI := (ObjAt.new w 23 zeroI).below hb
  have HB1 : Hid (Below w.heap.size w w1) := bmore ((Below.refl _ _).alloc (Nat.le_refl _) _) hb
  have HB0 := Lib.hid hb
  have HO1 := Lib.hid hO
  have HR := Lib.hid hR
  have HC := Lib.hid hc
  have HG := Lib.hid hg
  have hlen : (x :: r).length = r.length + 1 := rfl
  have hle := hR.le
  have hmx : cap ≤ 9223372036854775807 := hR.mx
  rw [hlen] at hle ⊢
  clear hb h hc hR hO HSP HP hg hlen
  go_wp2_with fail
  refine (opOf_any (ba x) _).mono ?_; rintro e w2 ⟨rfl, hb2⟩
  rw [ba_data, HX.out, decide_eq_true (show o ≠ 0 from fun h => absurd HO.out.1 (by omega))]
  have hst := fun off' cap' h1 h2 h3 => ps_start (off := off') (r := r) (cap := cap') (o := (o : Int)) HB0.out hb2 HG.out h1 h2 h3 HSM.out
  have HST := Lib.hid hst
  have HB2 := Lib.hid hb2
  clear hst hb2
  go_upto_region 7 with fail
  go_cut [7] from 29 (fun s7 wc => s7 = .pointer (some ⟨w2.heap.size, 0, none⟩) ∧ ∃ off' cap', r.length ≤ cap' ∧ cap' ≤ maxLen ∧ (∀ j (hj : j < r.length), w1.cell? ⟨g, off' + j, none⟩ = some (.string (ba r[j]))) ∧ wc = w2.alloc (.cells #[.slice (some ⟨g, off', none⟩) r.length cap', .bool false] 63))
  case first =>
    go_wp2_with fail
    case inl =>
      subst h
      have hr : r = [] := List.length_eq_zero_iff.1 (by omega)
      go_meet
      case rel => exact ⟨rfl, off, 0, by rw [hr]; simp, by simp, (fun j hj => absurd hj (by rw [hr]; simp)), rfl⟩
    case inr =>
      go_meet
      case rel => exact ⟨rfl, off + 1, cap - 1, by omega, by unfold maxLen; omega, (fun j hj => by rw [show off + 1 + j = off + (j + 1) by omega]; exact HC.out (j + 1) (by simp; omega)), rfl⟩
  case rest =>
    obtain ⟨rfl, off', cap', c1, c2, c3, rfl⟩ := hcut
    have HPS := Lib.hid (HST.out off' cap' c1 c2 c3)
    clear HST HC HR c0 c1 c2 c3 hle hmx
    go_upto_block 0 with (go_at_call 21; refine (kind_any o HO.out.1 HO.out.2 _).mono ?_; rintro e w3 ⟨rfl, rfl⟩)
    have HK : Hid (kindN o = 0 ∨ kindN o = 1 ∨ kindN o = 2 ∨ kindN o = 3 ∨ kindN o = 4 ∨ kindN o = 5) := by have h41 := HO.out.2; have := kindN_le ⟨o, h41⟩; dsimp only at this; unfold Hid; omega
    go_cut [7] from 40 (fun s7 wc => s7 = .pointer (some ⟨w2.heap.size, 0, none⟩) ∧ MidP (w.alloc (.cells #[.int .i64 0, .int .i64 0, .int .i64 0, .int .i64 0, .int .i64 0] 23)) w2.heap.size (w2.heap.size + 1) o (kindN o) r wc)
    case first =>
      rcases HK.out with hK | hK | hK | hK | hK | hK
      · rw [hK]
        have HKN := Lib.hid hK
        clear HK hK
        obtain ⟨vd, hvd⟩ : ∃ v, Hid (v = regN (wd0 r)) := ⟨_, Lib.hid rfl⟩
        obtain ⟨va, hva⟩ : ∃ v, Hid (v = regN (wd1 r)) := ⟨_, Lib.hid rfl⟩
        obtain ⟨vc, hvc⟩ : ∃ v, Hid (v = regN (wd2 r)) := ⟨_, Lib.hid rfl⟩
        go_wp2_with fail; refine (reg_ps HPS.out vd hvd.out).mono ?_; rintro e Wa ⟨rfl, hA⟩
        go_wp2_with fail; refine (reg_ps hA va hva.out).mono ?_; rintro e Wb ⟨rfl, hB⟩
        go_wp2_with fail; refine (reg_ps hB vc hvc.out).mono ?_; rintro e Wc ⟨rfl, hC⟩
        have HM := Lib.hid (mid_0 (r := r) hC hvd.out hva.out hvc.out)
        have i1 := hC.ins.cell 1 _ rfl; have j1 := hC.ins.free 1
        have i2 := hC.ins.cell 2 _ rfl; have j2 := hC.ins.free 2
        have i3 := hC.ins.cell 3 _ rfl; have j3 := hC.ins.free 3
        clear hA hB hC HPS
        go_wp2_with fail
        go_meet
        case rel => rw [HKN.out]; exact ⟨rfl, HM.out⟩
      · rw [hK]
        have HKN := Lib.hid hK
        clear HK hK
        obtain ⟨vd, hvd⟩ : ∃ v, Hid (v = regN (wd0 r)) := ⟨_, Lib.hid rfl⟩
        obtain ⟨va, hva⟩ : ∃ v, Hid (v = regN (wd1 r)) := ⟨_, Lib.hid rfl⟩
        obtain ⟨vn, hvn⟩ : ∃ v, Hid (v = numN (wd2 r)) := ⟨_, Lib.hid rfl⟩
        go_wp2_with fail; refine (reg_ps HPS.out vd hvd.out).mono ?_; rintro e Wa ⟨rfl, hA⟩
        go_wp2_with fail; refine (reg_ps hA va hva.out).mono ?_; rintro e Wb ⟨rfl, hB⟩
        go_wp2_with fail; refine (num_ps hB vn hvn.out).mono ?_; rintro e Wc ⟨rfl, hC⟩
        have HM := Lib.hid (mid_1 (r := r) hC hvd.out hva.out hvn.out)
        have i1 := hC.ins.cell 1 _ rfl; have j1 := hC.ins.free 1
        have i2 := hC.ins.cell 2 _ rfl; have j2 := hC.ins.free 2
        have i4 := hC.ins.cell 4 _ rfl; have j4 := hC.ins.free 4
        clear hA hB hC HPS
        go_wp2_with fail
        go_meet
        case rel => rw [HKN.out]; exact ⟨rfl, HM.out⟩
      · rw [hK]
        have HKN := Lib.hid hK
        clear HK hK
        obtain ⟨vd, hvd⟩ : ∃ v, Hid (v = regN (wd0 r)) := ⟨_, Lib.hid rfl⟩
        obtain ⟨vn, hvn⟩ : ∃ v, Hid (v = numN (wd1 r)) := ⟨_, Lib.hid rfl⟩
        go_wp2_with fail; refine (reg_ps HPS.out vd hvd.out).mono ?_; rintro e Wa ⟨rfl, hA⟩
        go_wp2_with fail; refine (num_ps hA vn hvn.out).mono ?_; rintro e Wb ⟨rfl, hB⟩
        have HM := Lib.hid (mid_2 (r := r) hB hvd.out hvn.out)
        have i1 := hB.ins.cell 1 _ rfl; have j1 := hB.ins.free 1
        have i4 := hB.ins.cell 4 _ rfl; have j4 := hB.ins.free 4
        clear hA hB HPS
        go_wp2_with fail
        go_meet
        case rel => rw [HKN.out]; exact ⟨rfl, HM.out⟩
      · rw [hK]
        have HKN := Lib.hid hK
        clear HK hK
        obtain ⟨va, hva⟩ : ∃ v, Hid (v = regN (wd0 r)) := ⟨_, Lib.hid rfl⟩
        obtain ⟨vc, hvc⟩ : ∃ v, Hid (v = regN (wd1 r)) := ⟨_, Lib.hid rfl⟩
        obtain ⟨vn, hvn⟩ : ∃ v, Hid (v = numN (wd2 r)) := ⟨_, Lib.hid rfl⟩
        go_wp2_with fail; refine (reg_ps HPS.out va hva.out).mono ?_; rintro e Wa ⟨rfl, hA⟩
        go_wp2_with fail; refine (reg_ps hA vc hvc.out).mono ?_; rintro e Wb ⟨rfl, hB⟩
        go_wp2_with fail; refine (num_ps hB vn hvn.out).mono ?_; rintro e Wc ⟨rfl, hC⟩
        have HM := Lib.hid (mid_3 (r := r) hC hva.out hvc.out hvn.out)
        have i2 := hC.ins.cell 2 _ rfl; have j2 := hC.ins.free 2
        have i3 := hC.ins.cell 3 _ rfl; have j3 := hC.ins.free 3
        have i4 := hC.ins.cell 4 _ rfl; have j4 := hC.ins.free 4
        clear hA hB hC HPS
        go_wp2_with fail
        go_meet
        case rel => rw [HKN.out]; exact ⟨rfl, HM.out⟩
      · rw [hK]
        have HKN := Lib.hid hK
        clear HK hK
        obtain ⟨va, hva⟩ : ∃ v, Hid (v = regN (wd0 r)) := ⟨_, Lib.hid rfl⟩
        obtain ⟨vn, hvn⟩ : ∃ v, Hid (v = numN (wd1 r)) := ⟨_, Lib.hid rfl⟩
        go_wp2_with fail; refine (reg_ps HPS.out va hva.out).mono ?_; rintro e Wa ⟨rfl, hA⟩
        go_wp2_with fail; refine (num_ps hA vn hvn.out).mono ?_; rintro e Wb ⟨rfl, hB⟩
        have HM := Lib.hid (mid_4 (r := r) hB hva.out hvn.out)
        have i2 := hB.ins.cell 2 _ rfl; have j2 := hB.ins.free 2
        have i4 := hB.ins.cell 4 _ rfl; have j4 := hB.ins.free 4
        clear hA hB HPS
        go_wp2_with fail
        go_meet
        case rel => rw [HKN.out]; exact ⟨rfl, HM.out⟩
      · rw [hK]
        have HKN := Lib.hid hK
        clear HK hK
        have HM := Lib.hid (mid_5 HPS.out)
        clear HPS
        go_wp2_with fail
        go_meet
        case rel => rw [HKN.out]; exact ⟨rfl, HM.out⟩
    case rest =>
      obtain ⟨rfl, hI, ⟨ta, tc, t0⟩, t1, hBd⟩ := hcut
      obtain ⟨vd, hvd⟩ : ∃ v, v = finD (kindN o) r := ⟨_, rfl⟩
      obtain ⟨va, hva⟩ : ∃ v, v = finA (kindN o) r := ⟨_, rfl⟩
      obtain ⟨vc, hvc⟩ : ∃ v, v = finC (kindN o) r := ⟨_, rfl⟩
      obtain ⟨vn, hvn⟩ : ∃ v, v = finN (kindN o) r := ⟨_, rfl⟩
      rw [← hvd, ← hva, ← hvc, ← hvn] at HV hI
      generalize finL (kindN o) r = lf at HV t0
      generalize finB (kindN o) r = bd at HV t1
      have hO := (ObjAt.new w 23 zeroI).below hBd
      have a0 := (hO).cell 0 _ rfl; have a1 := (hO).cell 1 _ rfl; have a2 := (hO).cell 2 _ rfl; have a3 := (hO).cell 3 _ rfl; have a4 := (hO).cell 4 _ rfl; have g0 := (hO).free 0; have g1 := (hO).free 1; have g2 := (hO).free 2; have g3 := (hO).free 3; have g4 := (hO).free 4
      have HB : Hid (Below w.heap.size w wc) := bmore ((Below.refl _ _).alloc (Nat.le_refl _) _) hBd
      have s6 := hO.lt
      have HTd := Lib.hid (HT.out.below HB.out)
      have HO2 := Lib.hid hO
      have HS := Lib.hid hI
      have k0 := hI.cell 0 _ rfl; have k1 := hI.cell 1 _ rfl; have k2 := hI.cell 2 _ rfl; have k3 := hI.cell 3 _ rfl; have k4 := hI.cell 4 _ rfl
      clear hO hI hBd hvd hva hvc hvn HK HPS HSM HO1
      cases bd
      · cases lf with
        | nil =>
          rw [show ([] : Words).length = 0 from rfl] at t0
          cases hval : Isa.validB o vd va vc vn
          · have HE : Hid (R = .tuple #[(.agg #[.int .i64 (0), .int .i64 (0), .int .i64 (0), .int .i64 (0), .int .i64 (0)]), .int .i64 6]) := HV.out.1 (Or.inr (Or.inr hval))
            clear HV
            have HVB : Hid (Isa.validB o vd va vc vn = false) := hval
            clear hval
            go_wp2_with (go_at_call 12; refine (Isa.valid_any _ _ _ _ _ _ HTd.out).mono ?_; rintro e w5 ⟨rfl, hb5⟩; rw [HVB.out]; have hO := HO2.out.below hb5; have HB : Hid (Below w.heap.size w w5) := bmore HB.out hb5; have s6 := hO.lt; have hS5 := HS.out.below hb5; have k0 := hS5.cell 0 _ rfl; have k1 := hS5.cell 1 _ rfl; have k2 := hS5.cell 2 _ rfl; have k3 := hS5.cell 3 _ rfl; have k4 := hS5.cell 4 _ rfl; have a0 := (hO).cell 0 _ rfl; have a1 := (hO).cell 1 _ rfl; have a2 := (hO).cell 2 _ rfl; have a3 := (hO).cell 3 _ rfl; have a4 := (hO).cell 4 _ rfl; have g0 := (hO).free 0; have g1 := (hO).free 1; have g2 := (hO).free 2; have g3 := (hO).free 3; have g4 := (hO).free 4; clear hO hb5 hS5)
            (refine bodyPost_ret (v := .tuple #[(.agg #[.int .i64 (0), .int .i64 (0), .int .i64 (0), .int .i64 (0), .int .i64 (0)]), .int .i64 6]) (by simp [results, Tryd.results10, go_sem, a0, a1, a2, a3, a4, s6]) rfl ⟨by rw [HE.out], ?_⟩; exact (((((HB.out.setCell (Nat.le_refl _) _).setCell (Nat.le_refl _) _).setCell (Nat.le_refl _) _).setCell (Nat.le_refl _) _).setCell (Nat.le_refl _) _))
          · have HE : Hid (R = .tuple #[(.agg #[.int .i64 (o), .int .i64 (vd), .int .i64 (va), .int .i64 (vc), .int .i64 (vn)]), .int .i64 0]) := HV.out.2 rfl rfl hval
            clear HV
            have HVB : Hid (Isa.validB o vd va vc vn = true) := hval
            clear hval
            go_wp2_with (go_at_call 12; refine (Isa.valid_any _ _ _ _ _ _ HTd.out).mono ?_; rintro e w5 ⟨rfl, hb5⟩; rw [HVB.out]; have hO := HO2.out.below hb5; have HB : Hid (Below w.heap.size w w5) := bmore HB.out hb5; have s6 := hO.lt; have hS5 := HS.out.below hb5; have k0 := hS5.cell 0 _ rfl; have k1 := hS5.cell 1 _ rfl; have k2 := hS5.cell 2 _ rfl; have k3 := hS5.cell 3 _ rfl; have k4 := hS5.cell 4 _ rfl; have a0 := (hO).cell 0 _ rfl; have a1 := (hO).cell 1 _ rfl; have a2 := (hO).cell 2 _ rfl; have a3 := (hO).cell 3 _ rfl; have a4 := (hO).cell 4 _ rfl; have g0 := (hO).free 0; have g1 := (hO).free 1; have g2 := (hO).free 2; have g3 := (hO).free 3; have g4 := (hO).free 4; clear hO hb5 hS5)
            (refine bodyPost_ret (v := .tuple #[(.agg #[.int .i64 (o), .int .i64 (vd), .int .i64 (va), .int .i64 (vc), .int .i64 (vn)]), .int .i64 0]) (by simp [results, Tryd.results10, go_sem, a0, a1, a2, a3, a4, s6]) rfl ⟨by rw [HE.out], ?_⟩; exact (((((HB.out.setCell (Nat.le_refl _) _).setCell (Nat.le_refl _) _).setCell (Nat.le_refl _) _).setCell (Nat.le_refl _) _).setCell (Nat.le_refl _) _))
        | cons y ys =>
          have HE : Hid (R = .tuple #[(.agg #[.int .i64 (0), .int .i64 (0), .int .i64 (0), .int .i64 (0), .int .i64 (0)]), .int .i64 6]) := HV.out.1 (Or.inr (Or.inl (by simp)))
          clear HV
          rw [show (y :: ys).length = ys.length + 1 from rfl] at t0
          have d1 : decide (((ys.length + 1 : Nat) : Int) > 0) = true := decide_eq_true (by omega)
          have d2 : decide (0 < ys.length + 1) = true := decide_eq_true (by omega)
          have d3 : decide ((0 : Int) < (ys.length : Int) + 1) = true := decide_eq_true (by omega)
          go_wp2_with fail
          (refine bodyPost_ret (v := .tuple #[(.agg #[.int .i64 (0), .int .i64 (0), .int .i64 (0), .int .i64 (0), .int .i64 (0)]), .int .i64 6]) (by simp [results, Tryd.results10, go_sem, a0, a1, a2, a3, a4, s6]) rfl ⟨by rw [HE.out], ?_⟩; exact (((((HB.out.setCell (Nat.le_refl _) _).setCell (Nat.le_refl _) _).setCell (Nat.le_refl _) _).setCell (Nat.le_refl _) _).setCell (Nat.le_refl _) _))
      · have HE : Hid (R = .tuple #[(.agg #[.int .i64 (0), .int .i64 (0), .int .i64 (0), .int .i64 (0), .int .i64 (0)]), .int .i64 6]) := HV.out.1 (Or.inl rfl)
        clear HV
        go_wp2_with fail
        (refine bodyPost_ret (v := .tuple #[(.agg #[.int .i64 (0), .int .i64 (0), .int .i64 (0), .int .i64 (0), .int .i64 (0)]), .int .i64 6]) (by simp [results, Tryd.results10, go_sem, a0, a1, a2, a3, a4, s6]) rfl ⟨by rw [HE.out], ?_⟩; exact (((((HB.out.setCell (Nat.le_refl _) _).setCell (Nat.le_refl _) _).setCell (Nat.le_refl _) _).setCell (Nat.le_refl _) _).setCell (Nat.le_refl _) _))
end Go.Proofs.YtbemhbooihaadaaDoor
