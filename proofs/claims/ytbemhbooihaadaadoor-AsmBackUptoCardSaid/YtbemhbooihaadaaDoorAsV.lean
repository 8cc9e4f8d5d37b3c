/- The reference for asm: Parse walked. -/
import Derived.Test.YtbemhbooihaadaaDoorAsU
namespace Go.Proofs.YtbemhbooihaadaaDoor
set_option linter.unusedVariables false
set_option linter.unusedSimpArgs false
set_option linter.unnecessarySimpa false
open Go.RowKit Go.Sort
set_option maxHeartbeats 4000000
set_option maxRecDepth 100000
set_option linter.unusedVariables false
/-- Where the loop over the four places stands. -/
structure RQ (W2 : World) (ib : Nat) (o : Nat) (f0 f1 f2 f3 : Bool) (c0 c1 c2 c3 : Int) (W : World) : Prop where
  bel : Below W2.heap.size W2 W
  ins : ObjAt W ib 23 [.int .i64 o, .int .i64 c0, .int .i64 c1, .int .i64 c2, .int .i64 c3]
  has : ObjAt W (ib + 1) 4 [.bool f0, .bool f1, .bool f2, .bool f3]
  new : W2.heap.size ≤ ib
theorem RQ.put {W2 : World} {ib o : Nat} {f0 f1 f2 f3 : Bool} {c0 c1 c2 c3 : Int} {W : World} (h : RQ W2 ib o f0 f1 f2 f3 c0 c1 c2 c3 W) (k : Nat) (hk : k < 4) (v : Int) : RQ W2 ib o f0 f1 f2 f3 (upC 0 k c0 v) (upC 1 k c1 v) (upC 2 k c2 v) (upC 3 k c3 v) (W.setCell ⟨ib, k + 1, none⟩ (.int .i64 v)) := by
  refine ⟨h.bel.trans ((Upd.setCell W ⟨ib, k + 1, none⟩ _).below h.new h.bel.size), ?_, h.has.upd (Upd.setCell W ⟨ib, k + 1, none⟩ _) (by simp), h.new⟩
  have := h.ins.set (k + 1) (.int .i64 v)
  rcases (by omega : k = 0 ∨ k = 1 ∨ k = 2 ∨ k = 3) with rfl | rfl | rfl | rfl <;> exact this
theorem rq_start {W2 wo : World} (hb : Below W2.heap.size W2 wo) (o : Nat) (f0 f1 f2 f3 : Bool) : RQ W2 wo.heap.size o f0 f1 f2 f3 0 0 0 0 ((wo.alloc (.cells #[.int .i64 o, .int .i64 0, .int .i64 0, .int .i64 0, .int .i64 0] 23)).alloc (.cells #[.bool f0, .bool f1, .bool f2, .bool f3] 4)).drew := by
  refine ⟨?_, (ObjAt.new wo 23 [.int .i64 o, .int .i64 0, .int .i64 0, .int .i64 0, .int .i64 0]).below ((Below.refl _ _).alloc (Nat.le_refl _) _).drew, ?_, hb.size⟩
  · exact ((hb.alloc hb.size _).alloc (by rw [World.size_alloc]; have := hb.size; omega) _).drew
  · have := ObjAt.new (wo.alloc (.cells #[.int .i64 o, .int .i64 0, .int .i64 0, .int .i64 0, .int .i64 0] 23)) 4 [.bool f0, .bool f1, .bool f2, .bool f3]
    rw [World.size_alloc] at this
    exact this
theorem rparse_yes (s : ByteArray) (hs : s.size ≤ 100000000) (w : World) (hw : wordsB s.data.toList = true) :
    Calls Tryd.prog 11 #[.string s] w fun e w' => e = .returned (parV s.data.toList) ∧ Below w.heap.size w w' := by
  obtain ⟨L, hL⟩ : ∃ L, L = fieldsC 32 s.data.toList := ⟨_, rfl⟩
  have hne : L ≠ [] := by rw [hL]; exact fieldsC_ne 32 _
  have hsm : ∀ y ∈ L, y.length ≤ 100000000 := fun y hy => by
    rw [hL] at hy
    have := (fieldsC_mem 32 s.data.toList y hy).2
    rw [ba_len] at this; omega
  have hlen : L.length ≤ s.size + 1 := by
    rw [hL, fieldsC_len]
    have := List.count_le_length (a := (32 : UInt8)) (l := s.data.toList)
    rw [ba_len] at this; omega
  have HSP := Lib.hid (rsplit_any s hs (w.alloc (.cells #[.int .i64 0, .int .i64 0, .int .i64 0, .int .i64 0, .int .i64 0] 23)))
  have HP : Hid (∀ e w', SplitPost s.data.toList (w.alloc (.cells #[.int .i64 0, .int .i64 0, .int .i64 0, .int .i64 0, .int .i64 0] 23)) e w' → (∃ a cap, e = .returned (.tuple #[.slice a L.length cap, .bool true]) ∧ RdW w' a cap L) ∧ Below (w.alloc (.cells #[.int .i64 0, .int .i64 0, .int .i64 0, .int .i64 0, .int .i64 0] 23)).heap.size (w.alloc (.cells #[.int .i64 0, .int .i64 0, .int .i64 0, .int .i64 0, .int .i64 0] 23)) w') := fun e w' h => by rw [hL]; exact ⟨h.1 hw, h.2.2⟩
  obtain ⟨R, hR⟩ : ∃ R, R = parV s.data.toList := ⟨_, rfl⟩
  have HNO : Hid (opV (L.headD []) = 0 → R = .tuple #[(.agg #[.int .i64 (0), .int .i64 (0), .int .i64 (0), .int .i64 (0), .int .i64 (0)]), .int .i64 6]) := fun h => by
    rw [hR]; subst hL; exact parV_no (by unfold parB; rw [h]; simp)
  have HSHORT : Hid (∀ o, o = opV (L.headD []) → takeP (wantK (kindN o)) L.tail = false → R = .tuple #[(.agg #[.int .i64 (0), .int .i64 (0), .int .i64 (0), .int .i64 (0), .int .i64 (0)]), .int .i64 6]) := fun o h1 h2 => by
    rw [hR]; subst hL; exact parV_short h1 h2
  have HEND : Hid (∀ (o : Nat) (c0 c1 c2 c3 : Int), o = opV (L.headD []) → o ≠ 0 → takeP (wantK (kindN o)) L.tail = true → valP 0 (wantK (kindN o)) L.tail = c0 → valP 1 (wantK (kindN o)) L.tail = c1 → valP 2 (wantK (kindN o)) L.tail = c2 → valP 3 (wantK (kindN o)) L.tail = c3 →
      (Isa.validB o c0 c1 c2 c3 = false → R = .tuple #[(.agg #[.int .i64 (0), .int .i64 (0), .int .i64 (0), .int .i64 (0), .int .i64 (0)]), .int .i64 6]) ∧ (Isa.validB o c0 c1 c2 c3 = true → R = .tuple #[(.agg #[.int .i64 (o), .int .i64 (c0), .int .i64 (c1), .int .i64 (c2), .int .i64 (c3)]), .int .i64 0])) := fun o c0 c1 c2 c3 h1 h2 h3 e0 e1 e2 e3 => by
    rw [hR]; subst hL; exact parV_end h1 h2 hw h3 e0 e1 e2 e3
  rw [← hR]
  obtain ⟨x, r, rfl⟩ : ∃ x r, L = x :: r := by cases L with
    | nil => exact absurd rfl hne
    | cons x r => exact ⟨x, r, rfl⟩
  rw [show (x :: r).tail = r from rfl, show (x :: r).headD [] = x from rfl] at HEND
  rw [show (x :: r).tail = r from rfl, show (x :: r).headD [] = x from rfl] at HSHORT
  rw [show (x :: r).headD [] = x from rfl] at HNO
  have HSM : Hid (∀ y ∈ (x :: r), y.length ≤ 100000000) := hsm
  have hlr : r.length ≤ s.size := by rw [List.length_cons] at hlen; omega
  rw [show (x :: r).length = r.length + 1 from rfl] at HP
  clear hL hne hsm hlen hw hR
  go_enter Tryd.func11, Tryd.ntmps11
  go_wp2_with fail
  refine HSP.out.mono ?_; rintro e w1 h
  obtain ⟨⟨a, cap, rfl, hR⟩, hb⟩ := HP.out _ _ h
  obtain ⟨g, off, rfl, hg, hc⟩ := hR.at_ 0 (by simp)
  have HB0 := Lib.hid hb
  have HC := Lib.hid hc
  have hle := hR.le
  have hmx : cap ≤ 9223372036854775807 := hR.mx
  rw [show (x :: r).length = r.length + 1 from rfl] at hle
  clear hb h hc hR HSP HP
  go_wp2_with fail
  refine (rnames_all _).mono ?_; rintro e W2 ⟨rfl, hnm, hb2⟩
  have HNM := Lib.hid hnm
  have HB2 : Hid (Below (w.alloc (.cells #[.int .i64 0, .int .i64 0, .int .i64 0, .int .i64 0, .int .i64 0] 23)).heap.size (w.alloc (.cells #[.int .i64 0, .int .i64 0, .int .i64 0, .int .i64 0, .int .i64 0] 23)) W2) := bmore HB0.out hb2
  have HC2 : Hid (∀ j (hj : j < (x :: r).length), W2.cell? ⟨g, off + j, none⟩ = some (.string (ba (x :: r)[j]))) := fun j hj => by
    rw [hb2.cell (p := ⟨g, off + j, none⟩) hg]; exact HC.out j hj
  have hs2 := hb2.size
  have hn2 : w1.heap.size < W2.heap.size := World.block_lt_of_cell? W2 ⟨w1.heap.size, 0, none⟩ (hnm 0 (by omega))
  have hg2 : g < W2.heap.size := by omega
  have hw0 : w.heap.size < W2.heap.size := by have := HB0.out.size; rw [World.size_alloc] at this; omega
  have HO2 : Hid (ObjAt W2 w.heap.size 23 zeroI) := (ObjAt.new w 23 zeroI).below HB2.out
  clear hnm hb2 HB0 HC hs2
  go_wp2_with fail
  go_loopw [7] (fun op wr => ∃ k : Nat, 1 ≤ k ∧ k ≤ 42 ∧ op = .int .i64 k ∧ Below W2.heap.size W2 wr ∧ ∀ j, 1 ≤ j → j < k → opName j ≠ x) (fun op _ => 42 - (intOf op).toNat)
  case atStart => exact ⟨1, by omega, by omega, rfl, Below.refl _ _, fun j h1 h2 => by omega⟩
  case round =>
    obtain ⟨wo, rfl⟩ : ∃ wo : World, wo = wr := ⟨_, rfl⟩
    obtain ⟨o, hk1, hk, rfl, hbe, hn⟩ := hrel
    have HBE := Lib.hid hbe
    have HN := Lib.hid hn
    clear hbe hn
    by_cases hlt : o ≤ 41
    · have d1 : decide ((o : Int) ≤ 41) = true := decide_eq_true (by omega)
      have d1' : decide (o ≤ 41) = true := decide_eq_true hlt
      have w1' : IntKind.i64.wrap ((o : Int) + 1) = (o : Int) + 1 := by rw [IntKind.wrap_i64]; omega
      have n0 : wo.cell? ⟨w1.heap.size, o, none⟩ = some (.string (ba (opName o))) := by rw [HBE.out.cell (p := ⟨w1.heap.size, o, none⟩) hn2]; exact HNM.out o (by omega)
      have n1 : wo.cell? ⟨g, off, none⟩ = some (.string (ba x)) := by rw [HBE.out.cell (p := ⟨g, off, none⟩) hg2]; exact HC2.out 0 (by simp)
      have hbq := ba_beq (opName o) (ba x)
      rw [ba_data] at hbq
      go_upto_region 8 with fail
      by_cases he : opName o = x
      · have de : ((ba (opName o)).toList == (ba x).toList) = true := by rw [hbq, decide_eq_true he]
        have de' : ((ba (opName o)).toList != (ba x).toList) = false := by rw [bne, de]; rfl
        have HOP : Hid (o = opV x) := (opV_hit hk1 hlt he HN.out).symm
        have hkk : kindN o ≤ 5 := kindN_le ⟨o, by omega⟩
        obtain ⟨e0, e1, e2, e3⟩ := fl_want ⟨o, by omega⟩ hk1
        have HHAS := fun W => Lib.hid (Isa.has_any o hk1 (by omega) W)
        dsimp only at e0 e1 e2 e3
        rw [e0, e1, e2, e3] at HHAS
        have HIV0 := Lib.hid (iv_start (kindN o) hkk r)
        have HBW : Hid (∀ W, Below W2.heap.size W2 W → Below w.heap.size w W) := fun W hW => ((Below.refl _ _).alloc (Nat.le_refl _) _).trans ((HB2.out.trans (hW.mono HB2.out.size)).mono (by simp))
        have HO3 : Hid (∀ W, Below W2.heap.size W2 W → ObjAt W w.heap.size 23 zeroI) := fun W hW => HO2.out.below hW
        obtain ⟨f0, hf0⟩ : ∃ f, Hid (f = decide (0 ∈ wantK (kindN o))) := ⟨_, Lib.hid rfl⟩
        obtain ⟨f1, hf1⟩ : ∃ f, Hid (f = decide (1 ∈ wantK (kindN o))) := ⟨_, Lib.hid rfl⟩
        obtain ⟨f2, hf2⟩ : ∃ f, Hid (f = decide (2 ∈ wantK (kindN o))) := ⟨_, Lib.hid rfl⟩
        obtain ⟨f3, hf3⟩ : ∃ f, Hid (f = decide (3 ∈ wantK (kindN o))) := ⟨_, Lib.hid rfl⟩
        rw [← hf0.out, ← hf1.out, ← hf2.out, ← hf3.out] at HHAS
        have HQ0 := Lib.hid (rq_start HBE.out o f0 f1 f2 f3)
        have HO1 : Hid (1 ≤ o) := hk1
        clear hbq he HN e0 e1 e2 e3
        go_region
        all_goals
          go_wp2_with (go_at_call 23; refine ((HHAS _).out).mono ?_; rintro e w5 ⟨rfl, rfl⟩)
          go_loopw [14, 15] (fun at_v i wr => ∃ (k at_ : Nat) (c0 c1 c2 c3 : Int), k ≤ 4 ∧ i = .int .i64 k ∧ at_v = .int .i64 at_ ∧ RQ W2 wo.heap.size o f0 f1 f2 f3 c0 c1 c2 c3 wr ∧ IV (wantK (kindN o)) r k at_ c0 c1 c2 c3) (fun _ i _ => 4 - (intOf i).toNat)
          case atStart => exact ⟨0, 1, 0, 0, 0, 0, by omega, rfl, rfl, HQ0.out, HIV0.out⟩
          case round =>
          clear HQ0 HIV0
          obtain ⟨wi, rfl⟩ : ∃ wi : World, wi = wr := ⟨_, rfl⟩
          obtain ⟨k, at_, c0, c1, c2, c3, hk4, rfl, rfl, hq, hiv⟩ := hrel
          have HQ := Lib.hid hq
          have HIV := Lib.hid hiv
          have hble := hiv.le
          have hwi := hq.new
          clear hq hiv
          rcases (by omega : k = 0 ∨ k = 1 ∨ k = 2 ∨ k = 3 ∨ k = 4) with rfl | rfl | rfl | rfl | rfl
          · have HFK := hf0
            have h0 := HQ.out.has.cell 0 _ rfl
            cases f0
            · have HIV2 := Lib.hid (iv_skip hkk (by omega) HFK.out.symm HIV.out)
              clear HFK HIV
              go_wp2_with fail
              go_roundw
              case rel => exact ⟨0 + 1, at_, c0, c1, c2, c3, by omega, by go_num, rfl, HQ.out, HIV2.out⟩
              case measure => simp [intOf]
            · by_cases hsh : r.length + 1 ≤ at_
              · have HE := Lib.hid (HSHORT.out o HOP.out (iv_short hkk (by omega) HFK.out.symm HIV.out (by omega)))
                have e1 : decide ((at_ : Int) ≥ (r.length : Int) + 1) = true := decide_eq_true (by omega)
                have e2 : decide ((r.length : Int) + 1 ≤ (at_ : Int)) = true := decide_eq_true (by omega)
                have e3 : decide (r.length + 1 ≤ at_) = true := decide_eq_true hsh
                have hO := HO3.out _ HQ.out.bel
                have HB := Lib.hid (HBW.out _ HQ.out.bel)
                have s6 := hO.lt
                have a0 := (hO).cell 0 _ rfl; have a1 := (hO).cell 1 _ rfl; have a2 := (hO).cell 2 _ rfl; have a3 := (hO).cell 3 _ rfl; have a4 := (hO).cell 4 _ rfl; have g0 := (hO).free 0; have g1 := (hO).free 1; have g2 := (hO).free 2; have g3 := (hO).free 3; have g4 := (hO).free 4
                clear hO hsh HIV HFK
                go_wp2_with fail
                (refine bodyPost_ret (v := .tuple #[(.agg #[.int .i64 (0), .int .i64 (0), .int .i64 (0), .int .i64 (0), .int .i64 (0)]), .int .i64 6]) (by simp [results, Tryd.results11, go_sem, a0, a1, a2, a3, a4, s6]) rfl ⟨by rw [HE.out], ?_⟩; exact (((((HB.out.setCell (Nat.le_refl _) _).setCell (Nat.le_refl _) _).setCell (Nat.le_refl _) _).setCell (Nat.le_refl _) _).setCell (Nat.le_refl _) _))
              · have e1 : decide ((at_ : Int) ≥ (r.length : Int) + 1) = false := decide_eq_false (by omega)
                have e2 : decide ((r.length : Int) + 1 ≤ (at_ : Int)) = false := decide_eq_false (by omega)
                have e3 : decide (r.length + 1 ≤ at_) = false := decide_eq_false hsh
                have hpos := HIV.out.pos
                have hlt2 : at_ - 1 < r.length := by omega
                obtain ⟨y, hy⟩ : ∃ y, Hid (y = r[at_ - 1]) := ⟨_, Lib.hid rfl⟩
                have hcy : wi.cell? ⟨g, off + at_, none⟩ = some (.string (ba y)) := by
                  rw [HQ.out.bel.cell (p := ⟨g, off + at_, none⟩) hg2, HC2.out at_ (by simp; omega), hy.out]
                  congr 3
                  rw [List.getElem_cons, dif_neg (by omega)]
                have HY : Hid (y.length ≤ 100000000) := HSM.out y (by rw [hy.out]; exact List.mem_cons_of_mem _ (List.getElem_mem _))
                have HPA := fun W => Lib.hid (part_any y HY.out (decide (0 < 3)) W)
                obtain ⟨v, hv⟩ : ∃ v, Hid (v = paN (decide (0 < 3)) y) := ⟨_, Lib.hid rfl⟩
                obtain ⟨b, hb⟩ : ∃ b, Hid (b = paB (decide (0 < 3)) y) := ⟨_, Lib.hid rfl⟩
                rw [← hv.out, ← hb.out] at HPA
                have HOK := Lib.hid (pa_ok 0 y)
                clear hsh
                cases b
                · have HE := Lib.hid (HSHORT.out o HOP.out (iv_badw hkk (by omega) HFK.out.symm HIV.out hlt2 (by rw [← hy.out, ← HOK.out.1, ← hb.out])))
                  have hO := HO3.out _ HQ.out.bel
                  have HB := Lib.hid (HBW.out _ HQ.out.bel)
                  have s6 := hO.lt
                  have a0 := (hO).cell 0 _ rfl; have a1 := (hO).cell 1 _ rfl; have a2 := (hO).cell 2 _ rfl; have a3 := (hO).cell 3 _ rfl; have a4 := (hO).cell 4 _ rfl; have g0 := (hO).free 0; have g1 := (hO).free 1; have g2 := (hO).free 2; have g3 := (hO).free 3; have g4 := (hO).free 4
                  clear hO HIV HFK hpos
                  go_wp2_with (go_at_call 32; refine ((HPA _).out).mono ?_; rintro e w6 ⟨rfl, rfl⟩)
                  (refine bodyPost_ret (v := .tuple #[(.agg #[.int .i64 (0), .int .i64 (0), .int .i64 (0), .int .i64 (0), .int .i64 (0)]), .int .i64 6]) (by simp [results, Tryd.results11, go_sem, a0, a1, a2, a3, a4, s6]) rfl ⟨by rw [HE.out], ?_⟩; exact (((((HB.out.setCell (Nat.le_refl _) _).setCell (Nat.le_refl _) _).setCell (Nat.le_refl _) _).setCell (Nat.le_refl _) _).setCell (Nat.le_refl _) _))
                · have hok : okP 0 r[at_ - 1] = true := by rw [← hy.out, ← HOK.out.1, ← hb.out]
                  have hva : v = vaP 0 r[at_ - 1] := by rw [hv.out, HOK.out.2 (by rw [hy.out]; exact hok), hy.out]
                  have HIV2 := Lib.hid (iv_take hkk (by omega) HFK.out.symm HIV.out hlt2 hok v hva)
                  have HQ2 := Lib.hid (HQ.out.put 0 (by omega) v)
                  have j0 := HQ.out.ins.cell (0 + 1) (.int .i64 c0) rfl
                  have j1 := HQ.out.ins.free (0 + 1)
                  have w7 : IntKind.i64.wrap ((at_ : Int) + 1) = (at_ : Int) + 1 := by rw [IntKind.wrap_i64]; omega
                  clear HIV HFK hpos hok hva
                  go_wp2_with (go_at_call 32; refine ((HPA _).out).mono ?_; rintro e w6 ⟨rfl, rfl⟩)
                  go_roundw
                  case rel => exact ⟨0 + 1, at_ + 1, _, _, _, _, by omega, by go_num, by go_num, HQ2.out, HIV2.out⟩
                  case measure => simp [intOf]
          · have HFK := hf1
            have h0 := HQ.out.has.cell 1 _ rfl
            cases f1
            · have HIV2 := Lib.hid (iv_skip hkk (by omega) HFK.out.symm HIV.out)
              clear HFK HIV
              go_wp2_with fail
              go_roundw
              case rel => exact ⟨1 + 1, at_, c0, c1, c2, c3, by omega, by go_num, rfl, HQ.out, HIV2.out⟩
              case measure => simp [intOf]
            · by_cases hsh : r.length + 1 ≤ at_
              · have HE := Lib.hid (HSHORT.out o HOP.out (iv_short hkk (by omega) HFK.out.symm HIV.out (by omega)))
                have e1 : decide ((at_ : Int) ≥ (r.length : Int) + 1) = true := decide_eq_true (by omega)
                have e2 : decide ((r.length : Int) + 1 ≤ (at_ : Int)) = true := decide_eq_true (by omega)
                have e3 : decide (r.length + 1 ≤ at_) = true := decide_eq_true hsh
                have hO := HO3.out _ HQ.out.bel
                have HB := Lib.hid (HBW.out _ HQ.out.bel)
                have s6 := hO.lt
                have a0 := (hO).cell 0 _ rfl; have a1 := (hO).cell 1 _ rfl; have a2 := (hO).cell 2 _ rfl; have a3 := (hO).cell 3 _ rfl; have a4 := (hO).cell 4 _ rfl; have g0 := (hO).free 0; have g1 := (hO).free 1; have g2 := (hO).free 2; have g3 := (hO).free 3; have g4 := (hO).free 4
                clear hO hsh HIV HFK
                go_wp2_with fail
                (refine bodyPost_ret (v := .tuple #[(.agg #[.int .i64 (0), .int .i64 (0), .int .i64 (0), .int .i64 (0), .int .i64 (0)]), .int .i64 6]) (by simp [results, Tryd.results11, go_sem, a0, a1, a2, a3, a4, s6]) rfl ⟨by rw [HE.out], ?_⟩; exact (((((HB.out.setCell (Nat.le_refl _) _).setCell (Nat.le_refl _) _).setCell (Nat.le_refl _) _).setCell (Nat.le_refl _) _).setCell (Nat.le_refl _) _))
              · have e1 : decide ((at_ : Int) ≥ (r.length : Int) + 1) = false := decide_eq_false (by omega)
                have e2 : decide ((r.length : Int) + 1 ≤ (at_ : Int)) = false := decide_eq_false (by omega)
                have e3 : decide (r.length + 1 ≤ at_) = false := decide_eq_false hsh
                have hpos := HIV.out.pos
                have hlt2 : at_ - 1 < r.length := by omega
                obtain ⟨y, hy⟩ : ∃ y, Hid (y = r[at_ - 1]) := ⟨_, Lib.hid rfl⟩
                have hcy : wi.cell? ⟨g, off + at_, none⟩ = some (.string (ba y)) := by
                  rw [HQ.out.bel.cell (p := ⟨g, off + at_, none⟩) hg2, HC2.out at_ (by simp; omega), hy.out]
                  congr 3
                  rw [List.getElem_cons, dif_neg (by omega)]
                have HY : Hid (y.length ≤ 100000000) := HSM.out y (by rw [hy.out]; exact List.mem_cons_of_mem _ (List.getElem_mem _))
                have HPA := fun W => Lib.hid (part_any y HY.out (decide (1 < 3)) W)
                obtain ⟨v, hv⟩ : ∃ v, Hid (v = paN (decide (1 < 3)) y) := ⟨_, Lib.hid rfl⟩
                obtain ⟨b, hb⟩ : ∃ b, Hid (b = paB (decide (1 < 3)) y) := ⟨_, Lib.hid rfl⟩
                rw [← hv.out, ← hb.out] at HPA
                have HOK := Lib.hid (pa_ok 1 y)
                clear hsh
                cases b
                · have HE := Lib.hid (HSHORT.out o HOP.out (iv_badw hkk (by omega) HFK.out.symm HIV.out hlt2 (by rw [← hy.out, ← HOK.out.1, ← hb.out])))
                  have hO := HO3.out _ HQ.out.bel
                  have HB := Lib.hid (HBW.out _ HQ.out.bel)
                  have s6 := hO.lt
                  have a0 := (hO).cell 0 _ rfl; have a1 := (hO).cell 1 _ rfl; have a2 := (hO).cell 2 _ rfl; have a3 := (hO).cell 3 _ rfl; have a4 := (hO).cell 4 _ rfl; have g0 := (hO).free 0; have g1 := (hO).free 1; have g2 := (hO).free 2; have g3 := (hO).free 3; have g4 := (hO).free 4
                  clear hO HIV HFK hpos
                  go_wp2_with (go_at_call 32; refine ((HPA _).out).mono ?_; rintro e w6 ⟨rfl, rfl⟩)
                  (refine bodyPost_ret (v := .tuple #[(.agg #[.int .i64 (0), .int .i64 (0), .int .i64 (0), .int .i64 (0), .int .i64 (0)]), .int .i64 6]) (by simp [results, Tryd.results11, go_sem, a0, a1, a2, a3, a4, s6]) rfl ⟨by rw [HE.out], ?_⟩; exact (((((HB.out.setCell (Nat.le_refl _) _).setCell (Nat.le_refl _) _).setCell (Nat.le_refl _) _).setCell (Nat.le_refl _) _).setCell (Nat.le_refl _) _))
                · have hok : okP 1 r[at_ - 1] = true := by rw [← hy.out, ← HOK.out.1, ← hb.out]
                  have hva : v = vaP 1 r[at_ - 1] := by rw [hv.out, HOK.out.2 (by rw [hy.out]; exact hok), hy.out]
                  have HIV2 := Lib.hid (iv_take hkk (by omega) HFK.out.symm HIV.out hlt2 hok v hva)
                  have HQ2 := Lib.hid (HQ.out.put 1 (by omega) v)
                  have j0 := HQ.out.ins.cell (1 + 1) (.int .i64 c1) rfl
                  have j1 := HQ.out.ins.free (1 + 1)
                  have w7 : IntKind.i64.wrap ((at_ : Int) + 1) = (at_ : Int) + 1 := by rw [IntKind.wrap_i64]; omega
                  clear HIV HFK hpos hok hva
                  go_wp2_with (go_at_call 32; refine ((HPA _).out).mono ?_; rintro e w6 ⟨rfl, rfl⟩)
                  go_roundw
                  case rel => exact ⟨1 + 1, at_ + 1, _, _, _, _, by omega, by go_num, by go_num, HQ2.out, HIV2.out⟩
                  case measure => simp [intOf]
          · have HFK := hf2
            have h0 := HQ.out.has.cell 2 _ rfl
            cases f2
            · have HIV2 := Lib.hid (iv_skip hkk (by omega) HFK.out.symm HIV.out)
              clear HFK HIV
              go_wp2_with fail
              go_roundw
              case rel => exact ⟨2 + 1, at_, c0, c1, c2, c3, by omega, by go_num, rfl, HQ.out, HIV2.out⟩
              case measure => simp [intOf]
            · by_cases hsh : r.length + 1 ≤ at_
              · have HE := Lib.hid (HSHORT.out o HOP.out (iv_short hkk (by omega) HFK.out.symm HIV.out (by omega)))
                have e1 : decide ((at_ : Int) ≥ (r.length : Int) + 1) = true := decide_eq_true (by omega)
                have e2 : decide ((r.length : Int) + 1 ≤ (at_ : Int)) = true := decide_eq_true (by omega)
                have e3 : decide (r.length + 1 ≤ at_) = true := decide_eq_true hsh
                have hO := HO3.out _ HQ.out.bel
                have HB := Lib.hid (HBW.out _ HQ.out.bel)
                have s6 := hO.lt
                have a0 := (hO).cell 0 _ rfl; have a1 := (hO).cell 1 _ rfl; have a2 := (hO).cell 2 _ rfl; have a3 := (hO).cell 3 _ rfl; have a4 := (hO).cell 4 _ rfl; have g0 := (hO).free 0; have g1 := (hO).free 1; have g2 := (hO).free 2; have g3 := (hO).free 3; have g4 := (hO).free 4
                clear hO hsh HIV HFK
                go_wp2_with fail
                (refine bodyPost_ret (v := .tuple #[(.agg #[.int .i64 (0), .int .i64 (0), .int .i64 (0), .int .i64 (0), .int .i64 (0)]), .int .i64 6]) (by simp [results, Tryd.results11, go_sem, a0, a1, a2, a3, a4, s6]) rfl ⟨by rw [HE.out], ?_⟩; exact (((((HB.out.setCell (Nat.le_refl _) _).setCell (Nat.le_refl _) _).setCell (Nat.le_refl _) _).setCell (Nat.le_refl _) _).setCell (Nat.le_refl _) _))
              · have e1 : decide ((at_ : Int) ≥ (r.length : Int) + 1) = false := decide_eq_false (by omega)
                have e2 : decide ((r.length : Int) + 1 ≤ (at_ : Int)) = false := decide_eq_false (by omega)
                have e3 : decide (r.length + 1 ≤ at_) = false := decide_eq_false hsh
                have hpos := HIV.out.pos
                have hlt2 : at_ - 1 < r.length := by omega
                obtain ⟨y, hy⟩ : ∃ y, Hid (y = r[at_ - 1]) := ⟨_, Lib.hid rfl⟩
                have hcy : wi.cell? ⟨g, off + at_, none⟩ = some (.string (ba y)) := by
                  rw [HQ.out.bel.cell (p := ⟨g, off + at_, none⟩) hg2, HC2.out at_ (by simp; omega), hy.out]
                  congr 3
                  rw [List.getElem_cons, dif_neg (by omega)]
                have HY : Hid (y.length ≤ 100000000) := HSM.out y (by rw [hy.out]; exact List.mem_cons_of_mem _ (List.getElem_mem _))
                have HPA := fun W => Lib.hid (part_any y HY.out (decide (2 < 3)) W)
                obtain ⟨v, hv⟩ : ∃ v, Hid (v = paN (decide (2 < 3)) y) := ⟨_, Lib.hid rfl⟩
                obtain ⟨b, hb⟩ : ∃ b, Hid (b = paB (decide (2 < 3)) y) := ⟨_, Lib.hid rfl⟩
                rw [← hv.out, ← hb.out] at HPA
                have HOK := Lib.hid (pa_ok 2 y)
                clear hsh
                cases b
                · have HE := Lib.hid (HSHORT.out o HOP.out (iv_badw hkk (by omega) HFK.out.symm HIV.out hlt2 (by rw [← hy.out, ← HOK.out.1, ← hb.out])))
                  have hO := HO3.out _ HQ.out.bel
                  have HB := Lib.hid (HBW.out _ HQ.out.bel)
                  have s6 := hO.lt
                  have a0 := (hO).cell 0 _ rfl; have a1 := (hO).cell 1 _ rfl; have a2 := (hO).cell 2 _ rfl; have a3 := (hO).cell 3 _ rfl; have a4 := (hO).cell 4 _ rfl; have g0 := (hO).free 0; have g1 := (hO).free 1; have g2 := (hO).free 2; have g3 := (hO).free 3; have g4 := (hO).free 4
                  clear hO HIV HFK hpos
                  go_wp2_with (go_at_call 32; refine ((HPA _).out).mono ?_; rintro e w6 ⟨rfl, rfl⟩)
                  (refine bodyPost_ret (v := .tuple #[(.agg #[.int .i64 (0), .int .i64 (0), .int .i64 (0), .int .i64 (0), .int .i64 (0)]), .int .i64 6]) (by simp [results, Tryd.results11, go_sem, a0, a1, a2, a3, a4, s6]) rfl ⟨by rw [HE.out], ?_⟩; exact (((((HB.out.setCell (Nat.le_refl _) _).setCell (Nat.le_refl _) _).setCell (Nat.le_refl _) _).setCell (Nat.le_refl _) _).setCell (Nat.le_refl _) _))
                · have hok : okP 2 r[at_ - 1] = true := by rw [← hy.out, ← HOK.out.1, ← hb.out]
                  have hva : v = vaP 2 r[at_ - 1] := by rw [hv.out, HOK.out.2 (by rw [hy.out]; exact hok), hy.out]
                  have HIV2 := Lib.hid (iv_take hkk (by omega) HFK.out.symm HIV.out hlt2 hok v hva)
                  have HQ2 := Lib.hid (HQ.out.put 2 (by omega) v)
                  have j0 := HQ.out.ins.cell (2 + 1) (.int .i64 c2) rfl
                  have j1 := HQ.out.ins.free (2 + 1)
                  have w7 : IntKind.i64.wrap ((at_ : Int) + 1) = (at_ : Int) + 1 := by rw [IntKind.wrap_i64]; omega
                  clear HIV HFK hpos hok hva
                  go_wp2_with (go_at_call 32; refine ((HPA _).out).mono ?_; rintro e w6 ⟨rfl, rfl⟩)
                  go_roundw
                  case rel => exact ⟨2 + 1, at_ + 1, _, _, _, _, by omega, by go_num, by go_num, HQ2.out, HIV2.out⟩
                  case measure => simp [intOf]
          · have HFK := hf3
            have h0 := HQ.out.has.cell 3 _ rfl
            cases f3
            · have HIV2 := Lib.hid (iv_skip hkk (by omega) HFK.out.symm HIV.out)
              clear HFK HIV
              go_wp2_with fail
              go_roundw
              case rel => exact ⟨3 + 1, at_, c0, c1, c2, c3, by omega, by go_num, rfl, HQ.out, HIV2.out⟩
              case measure => simp [intOf]
            · by_cases hsh : r.length + 1 ≤ at_
              · have HE := Lib.hid (HSHORT.out o HOP.out (iv_short hkk (by omega) HFK.out.symm HIV.out (by omega)))
                have e1 : decide ((at_ : Int) ≥ (r.length : Int) + 1) = true := decide_eq_true (by omega)
                have e2 : decide ((r.length : Int) + 1 ≤ (at_ : Int)) = true := decide_eq_true (by omega)
                have e3 : decide (r.length + 1 ≤ at_) = true := decide_eq_true hsh
                have hO := HO3.out _ HQ.out.bel
                have HB := Lib.hid (HBW.out _ HQ.out.bel)
                have s6 := hO.lt
                have a0 := (hO).cell 0 _ rfl; have a1 := (hO).cell 1 _ rfl; have a2 := (hO).cell 2 _ rfl; have a3 := (hO).cell 3 _ rfl; have a4 := (hO).cell 4 _ rfl; have g0 := (hO).free 0; have g1 := (hO).free 1; have g2 := (hO).free 2; have g3 := (hO).free 3; have g4 := (hO).free 4
                clear hO hsh HIV HFK
                go_wp2_with fail
                (refine bodyPost_ret (v := .tuple #[(.agg #[.int .i64 (0), .int .i64 (0), .int .i64 (0), .int .i64 (0), .int .i64 (0)]), .int .i64 6]) (by simp [results, Tryd.results11, go_sem, a0, a1, a2, a3, a4, s6]) rfl ⟨by rw [HE.out], ?_⟩; exact (((((HB.out.setCell (Nat.le_refl _) _).setCell (Nat.le_refl _) _).setCell (Nat.le_refl _) _).setCell (Nat.le_refl _) _).setCell (Nat.le_refl _) _))
              · have e1 : decide ((at_ : Int) ≥ (r.length : Int) + 1) = false := decide_eq_false (by omega)
                have e2 : decide ((r.length : Int) + 1 ≤ (at_ : Int)) = false := decide_eq_false (by omega)
                have e3 : decide (r.length + 1 ≤ at_) = false := decide_eq_false hsh
                have hpos := HIV.out.pos
                have hlt2 : at_ - 1 < r.length := by omega
                obtain ⟨y, hy⟩ : ∃ y, Hid (y = r[at_ - 1]) := ⟨_, Lib.hid rfl⟩
                have hcy : wi.cell? ⟨g, off + at_, none⟩ = some (.string (ba y)) := by
                  rw [HQ.out.bel.cell (p := ⟨g, off + at_, none⟩) hg2, HC2.out at_ (by simp; omega), hy.out]
                  congr 3
                  rw [List.getElem_cons, dif_neg (by omega)]
                have HY : Hid (y.length ≤ 100000000) := HSM.out y (by rw [hy.out]; exact List.mem_cons_of_mem _ (List.getElem_mem _))
                have HPA := fun W => Lib.hid (part_any y HY.out (decide (3 < 3)) W)
                obtain ⟨v, hv⟩ : ∃ v, Hid (v = paN (decide (3 < 3)) y) := ⟨_, Lib.hid rfl⟩
                obtain ⟨b, hb⟩ : ∃ b, Hid (b = paB (decide (3 < 3)) y) := ⟨_, Lib.hid rfl⟩
                rw [← hv.out, ← hb.out] at HPA
                have HOK := Lib.hid (pa_ok 3 y)
                clear hsh
                cases b
                · have HE := Lib.hid (HSHORT.out o HOP.out (iv_badw hkk (by omega) HFK.out.symm HIV.out hlt2 (by rw [← hy.out, ← HOK.out.1, ← hb.out])))
                  have hO := HO3.out _ HQ.out.bel
                  have HB := Lib.hid (HBW.out _ HQ.out.bel)
                  have s6 := hO.lt
                  have a0 := (hO).cell 0 _ rfl; have a1 := (hO).cell 1 _ rfl; have a2 := (hO).cell 2 _ rfl; have a3 := (hO).cell 3 _ rfl; have a4 := (hO).cell 4 _ rfl; have g0 := (hO).free 0; have g1 := (hO).free 1; have g2 := (hO).free 2; have g3 := (hO).free 3; have g4 := (hO).free 4
                  clear hO HIV HFK hpos
                  go_wp2_with (go_at_call 32; refine ((HPA _).out).mono ?_; rintro e w6 ⟨rfl, rfl⟩)
                  (refine bodyPost_ret (v := .tuple #[(.agg #[.int .i64 (0), .int .i64 (0), .int .i64 (0), .int .i64 (0), .int .i64 (0)]), .int .i64 6]) (by simp [results, Tryd.results11, go_sem, a0, a1, a2, a3, a4, s6]) rfl ⟨by rw [HE.out], ?_⟩; exact (((((HB.out.setCell (Nat.le_refl _) _).setCell (Nat.le_refl _) _).setCell (Nat.le_refl _) _).setCell (Nat.le_refl _) _).setCell (Nat.le_refl _) _))
                · have hok : okP 3 r[at_ - 1] = true := by rw [← hy.out, ← HOK.out.1, ← hb.out]
                  have hva : v = vaP 3 r[at_ - 1] := by rw [hv.out, HOK.out.2 (by rw [hy.out]; exact hok), hy.out]
                  have HIV2 := Lib.hid (iv_take hkk (by omega) HFK.out.symm HIV.out hlt2 hok v hva)
                  have HQ2 := Lib.hid (HQ.out.put 3 (by omega) v)
                  have j0 := HQ.out.ins.cell (3 + 1) (.int .i64 c3) rfl
                  have j1 := HQ.out.ins.free (3 + 1)
                  have w7 : IntKind.i64.wrap ((at_ : Int) + 1) = (at_ : Int) + 1 := by rw [IntKind.wrap_i64]; omega
                  clear HIV HFK hpos hok hva
                  go_wp2_with (go_at_call 32; refine ((HPA _).out).mono ?_; rintro e w6 ⟨rfl, rfl⟩)
                  go_roundw
                  case rel => exact ⟨3 + 1, at_ + 1, _, _, _, _, by omega, by go_num, by go_num, HQ2.out, HIV2.out⟩
                  case measure => simp [intOf]
          · obtain ⟨t0, v0, v1, v2, v3⟩ := iv_end hkk HIV.out
            have hO := HO3.out _ HQ.out.bel
            have HB := Lib.hid (HBW.out _ HQ.out.bel)
            have s6 := hO.lt
            by_cases hat : at_ = r.length + 1
            · have HEE := Lib.hid (HEND.out o c0 c1 c2 c3 HOP.out (by have := HO1.out; omega) (by rw [t0]; exact decide_eq_true hat) v0 v1 v2 v3)
              have k0 := HQ.out.ins.cell 0 _ rfl; have k1 := HQ.out.ins.cell 1 _ rfl; have k2 := HQ.out.ins.cell 2 _ rfl; have k3 := HQ.out.ins.cell 3 _ rfl; have k4 := HQ.out.ins.cell 4 _ rfl
              have HO4 := Lib.hid hO
              have HB4 := HB
              subst hat
              clear t0 v0 v1 v2 v3 HIV HB hO s6
              cases hval : Isa.validB o c0 c1 c2 c3
              · have HE := Lib.hid (HEE.out.1 hval)
                have HVL := Lib.hid hval
                clear hval HEE
                go_wp2_with (go_at_call 22; refine (Isa.Valid_ref _ _ _ _ _ _).mono ?_; rintro e w8 ⟨rfl, hb8⟩; rw [HVL.out]; have hO := HO4.out.below hb8; have HB : Hid (Below w.heap.size w w8) := bmore HB4.out hb8; have s6 := hO.lt; have a0 := (hO).cell 0 _ rfl; have a1 := (hO).cell 1 _ rfl; have a2 := (hO).cell 2 _ rfl; have a3 := (hO).cell 3 _ rfl; have a4 := (hO).cell 4 _ rfl; have g0 := (hO).free 0; have g1 := (hO).free 1; have g2 := (hO).free 2; have g3 := (hO).free 3; have g4 := (hO).free 4; clear hO hb8)
                (refine bodyPost_ret (v := .tuple #[(.agg #[.int .i64 (0), .int .i64 (0), .int .i64 (0), .int .i64 (0), .int .i64 (0)]), .int .i64 6]) (by simp [results, Tryd.results11, go_sem, a0, a1, a2, a3, a4, s6]) rfl ⟨by rw [HE.out], ?_⟩; exact (((((HB.out.setCell (Nat.le_refl _) _).setCell (Nat.le_refl _) _).setCell (Nat.le_refl _) _).setCell (Nat.le_refl _) _).setCell (Nat.le_refl _) _))
              · have HE := Lib.hid (HEE.out.2 hval)
                have HVL := Lib.hid hval
                clear hval HEE
                go_wp2_with (go_at_call 22; refine (Isa.Valid_ref _ _ _ _ _ _).mono ?_; rintro e w8 ⟨rfl, hb8⟩; rw [HVL.out]; have hO := HO4.out.below hb8; have HB : Hid (Below w.heap.size w w8) := bmore HB4.out hb8; have s6 := hO.lt; have a0 := (hO).cell 0 _ rfl; have a1 := (hO).cell 1 _ rfl; have a2 := (hO).cell 2 _ rfl; have a3 := (hO).cell 3 _ rfl; have a4 := (hO).cell 4 _ rfl; have g0 := (hO).free 0; have g1 := (hO).free 1; have g2 := (hO).free 2; have g3 := (hO).free 3; have g4 := (hO).free 4; have k0 := (HQ.out.ins.below hb8).cell 0 _ rfl; have k1 := (HQ.out.ins.below hb8).cell 1 _ rfl; have k2 := (HQ.out.ins.below hb8).cell 2 _ rfl; have k3 := (HQ.out.ins.below hb8).cell 3 _ rfl; have k4 := (HQ.out.ins.below hb8).cell 4 _ rfl; clear hO hb8)
                (refine bodyPost_ret (v := .tuple #[(.agg #[.int .i64 (o), .int .i64 (c0), .int .i64 (c1), .int .i64 (c2), .int .i64 (c3)]), .int .i64 0]) (by simp [results, Tryd.results11, go_sem, a0, a1, a2, a3, a4, s6]) rfl ⟨by rw [HE.out], ?_⟩; exact (((((HB.out.setCell (Nat.le_refl _) _).setCell (Nat.le_refl _) _).setCell (Nat.le_refl _) _).setCell (Nat.le_refl _) _).setCell (Nat.le_refl _) _))
            · have HE := Lib.hid (HSHORT.out o HOP.out (by rw [t0]; exact decide_eq_false hat))
              have n1 : ((at_ : Int) != (r.length : Int) + 1) = true := by simp; omega
              have a0 := (hO).cell 0 _ rfl; have a1 := (hO).cell 1 _ rfl; have a2 := (hO).cell 2 _ rfl; have a3 := (hO).cell 3 _ rfl; have a4 := (hO).cell 4 _ rfl; have g0 := (hO).free 0; have g1 := (hO).free 1; have g2 := (hO).free 2; have g3 := (hO).free 3; have g4 := (hO).free 4
              clear hO t0 v0 v1 v2 v3 HIV
              go_wp2_with fail
              (refine bodyPost_ret (v := .tuple #[(.agg #[.int .i64 (0), .int .i64 (0), .int .i64 (0), .int .i64 (0), .int .i64 (0)]), .int .i64 6]) (by simp [results, Tryd.results11, go_sem, a0, a1, a2, a3, a4, s6]) rfl ⟨by rw [HE.out], ?_⟩; exact (((((HB.out.setCell (Nat.le_refl _) _).setCell (Nat.le_refl _) _).setCell (Nat.le_refl _) _).setCell (Nat.le_refl _) _).setCell (Nat.le_refl _) _))
      · have de : ((ba (opName o)).toList == (ba x).toList) = false := by rw [hbq, decide_eq_false he]
        have de' : ((ba (opName o)).toList != (ba x).toList) = true := by rw [bne, de]; rfl
        have HN2 : Hid (∀ j, 1 ≤ j → j < o + 1 → opName j ≠ x) := fun j h1 h2 => by
          by_cases e : j = o
          · subst e; exact he
          · exact HN.out j h1 (by omega)
        clear he hbq
        go_region
        all_goals
          go_wp2_with fail
          go_roundw
          case rel => exact ⟨o + 1, by omega, by omega, by go_num, HBE.out.drew, HN2.out⟩
          case measure => simp [intOf]; omega
    · have d1 : decide ((o : Int) ≤ 41) = false := decide_eq_false (by omega)
      have d1' : decide (o ≤ 41) = false := decide_eq_false hlt
      have HE : Hid (R = .tuple #[(.agg #[.int .i64 (0), .int .i64 (0), .int .i64 (0), .int .i64 (0), .int .i64 (0)]), .int .i64 6]) := HNO.out (opV_none (fun j h1 h2 => HN.out j h1 (by omega)))
      have hO := HO2.out.below HBE.out
      have HB : Hid (Below w.heap.size w wo) := ((Below.refl _ _).alloc (Nat.le_refl _) _).trans ((HB2.out.trans (HBE.out.mono HB2.out.size)).mono (by simp))
      have s6 := hO.lt
      have a0 := (hO).cell 0 _ rfl; have a1 := (hO).cell 1 _ rfl; have a2 := (hO).cell 2 _ rfl; have a3 := (hO).cell 3 _ rfl; have a4 := (hO).cell 4 _ rfl; have g0 := (hO).free 0; have g1 := (hO).free 1; have g2 := (hO).free 2; have g3 := (hO).free 3; have g4 := (hO).free 4
      clear hO
      go_wp2_with fail
      (refine bodyPost_ret (v := .tuple #[(.agg #[.int .i64 (0), .int .i64 (0), .int .i64 (0), .int .i64 (0), .int .i64 (0)]), .int .i64 6]) (by simp [results, Tryd.results11, go_sem, a0, a1, a2, a3, a4, s6]) rfl ⟨by rw [HE.out], ?_⟩; exact (((((HB.out.setCell (Nat.le_refl _) _).setCell (Nat.le_refl _) _).setCell (Nat.le_refl _) _).setCell (Nat.le_refl _) _).setCell (Nat.le_refl _) _))
end Go.Proofs.YtbemhbooihaadaaDoor
