/- The reference of plan: Parse of a text whose last line has no end; of any text. -/
import Derived.Test.YtoalpdjpljapbaaDoorGPlanReads8
import Derived.Test.YtoalpdjpljapbaaDoorGPlanReads5
import Derived.Test.YtoalpdjpljapbaaDoorGPlanReads0
import Derived.Test.YtoalpdjpljapbaaDoorRows
import Derived.LaidSub
import Derived.Lib.LaidTab
import Derived.Deep.DeepHandedRow
namespace Go.Proofs.YtoalpdjpljapbaaDoor
set_option linter.unusedVariables false
set_option linter.unusedSimpArgs false
set_option linter.unnecessarySimpa false
open Go.RowKit Go.Sort
set_option maxHeartbeats 4000000
set_option maxRecDepth 100000
set_option linter.unusedVariables false
/-- The search for the last feed, from behind. -/
structure QFa (s : ByteArray) (k : Nat) : Prop where
  pos : 1 ≤ k
  le : k ≤ s.size
  no : ∀ j (hj : j < s.size), k ≤ j → s[j] ≠ 10
def QF (s : ByteArray) (L : List (List UInt8)) (w : World) (lv wv : Value) (k : Nat) (wr : World) : Prop :=
  (lv = .slice none 0 0 ∧ wv = .bool false ∧ QFa s k ∧ wr = w) ∨ ∃ a cap, lv = .slice a L.length cap ∧ wv = .bool true ∧ RdW wr a cap L ∧ Below w.heap.size w wr
theorem extract_take (s : ByteArray) (k : Nat) : (s.extract 0 k).data.toList = s.data.toList.take k := by
  rw [ByteArray.data_extract, Array.toList_extract]; simp
theorem count_take (s : ByteArray) (k : Nat) (h : k < s.size) : (s.data.toList.take (k + 1)).count 10 = (s.data.toList.take k).count 10 + if s[k] = 10 then 1 else 0 := by
  rw [take_all_succ s k h, List.count_append, List.count_singleton]
  simp only [beq_iff_eq]
theorem qf_cut {s : ByteArray} {k : Nat} (h : QFa s k) (hx : s[k - 1]'(by have := h.pos; have := h.le; omega) = 10) : (fieldsC 10 s.data.toList).dropLast = lsL (s.data.toList.take k) ∧ lsB (s.data.toList.take k) = true := by
  have h1 := h.pos
  have h2 := h.le
  have := cut_lines (s := s.data.toList) (t := s.data.toList.take k) (u := s.data.toList.drop k) (List.take_append_drop _ _).symm (Or.inr (by
    rw [List.getLast?_eq_getElem?, List.length_take, ba_len, Nat.min_eq_left h2, List.getElem?_take, if_pos (by omega), List.getElem?_eq_getElem (by rw [ba_len]; omega), ba_get s (k - 1) (by omega), hx])) (fun b hb => by
    obtain ⟨j, hj, rfl⟩ := List.mem_iff_getElem.1 hb
    rw [List.length_drop, ba_len] at hj
    rw [List.getElem_drop, ba_get s (k + j) (by omega)]
    exact h.no (k + j) (by omega) (by omega))
  exact ⟨this.1, this.2.1⟩
theorem qf_none {s : ByteArray} (h : QFa s 1) (hx : s[0]'(by have := h.le; omega) ≠ 10) : (fieldsC 10 s.data.toList).dropLast = lsL (s.data.toList.take 0) ∧ lsB (s.data.toList.take 0) = true := by
  have := cut_lines (s := s.data.toList) (t := []) (u := s.data.toList) rfl (Or.inl rfl) (fun b hb => by
    obtain ⟨j, hj, rfl⟩ := List.mem_iff_getElem.1 hb
    rw [ba_len] at hj
    rw [ba_get s j hj]
    by_cases h0 : j = 0
    · subst h0; exact hx
    · exact h.no j hj (by omega))
  exact ⟨this.1, this.2.1⟩
theorem qf_down {s : ByteArray} {k : Nat} (h : QFa s k) (h1 : k ≠ 1) (hx : s[k - 1]'(by have := h.pos; have := h.le; omega) ≠ 10) : QFa s (k - 1) := by
  have := h.pos
  have := h.le
  refine ⟨by omega, by omega, fun j hj hk => ?_⟩
  by_cases e : j = k - 1
  · subst e; exact hx
  · exact h.no j hj (by omega)
theorem rparse_part (s : ByteArray) (h16 : ¬ 16384 < s.size) (hw : lsB s.data.toList = false) (w : World) : Calls Tryd.prog 8 #[.string s] w (PsPost s.data.toList w) := by
  have HC1 : Hid (∀ k (h : QFa s k) (hx : s[k - 1]'(by have := h.pos; have := h.le; omega) = 10), (fieldsC 10 s.data.toList).dropLast = lsL (s.extract 0 k).data.toList ∧ lsB (s.extract 0 k).data.toList = true) := fun k h hx => by rw [extract_take]; exact qf_cut h hx
  have HC2 : Hid (∀ (h : QFa s 1) (hx : s[0]'(by have := h.le; omega) ≠ 10), (fieldsC 10 s.data.toList).dropLast = lsL (s.extract 0 0).data.toList ∧ lsB (s.extract 0 0).data.toList = true) := fun h hx => by rw [extract_take]; exact qf_none h hx
  obtain ⟨l, hl⟩ : ∃ l, l = s.data.toList := ⟨_, rfl⟩
  have hsl : l.length = s.size := by rw [hl, ba_len]
  have hs0 : s.size ≠ 0 := fun e => by
    have : s.data.toList = [] := List.eq_nil_of_length_eq_zero (by rw [ba_len]; exact e)
    rw [this] at hw; cases hw
  have HLN0 := rlines_any s (by omega)
  have HLT0 := fun (k : Nat) (hk : k ≤ s.size) => rlines_any (s.extract 0 k) (by rw [ByteArray.size_extract]; omega)
  have HCT : Hid (∀ k (h : k < s.size), (l.take (k + 1)).count 10 = (l.take k).count 10 + if s[k] = 10 then 1 else 0) := fun k h => by rw [hl]; exact count_take s k h
  rw [← hl] at hw HLN0 HC1 HC2 ⊢
  obtain ⟨w0, hw0⟩ : ∃ w0, w0 = w.alloc (.cells #[.int .i64 0, .slice none 0 0, .slice none 0 0, .slice none 0 0, .slice none 0 0, .slice none 0 0, .int .i64 0, .int .i64 0] 29) := ⟨_, rfl⟩
  have HO0 : Hid (ObjAt w0 w.heap.size 29 #[.int .i64 0, .slice none 0 0, .slice none 0 0, .slice none 0 0, .slice none 0 0, .slice none 0 0, .int .i64 0, .int .i64 0].toList) := by rw [hw0]; exact ObjAt.new w _ _
  have HB0 : Hid (Below w.heap.size w w0) := by rw [hw0]; exact (Below.refl _ _).alloc (Nat.le_refl _) _
  have HW0 := Lib.hid hw0
  obtain ⟨P, hP⟩ : ∃ P, P = PsPost l w := ⟨_, rfl⟩
  have HZ : Hid (∀ e at_ w', psV l = (pcZ, e, at_) → Below w.heap.size w w' → P (.returned (.tuple #[.agg #[.int .i64 0, .slice none 0 0, .slice none 0 0, .slice none 0 0, .slice none 0 0, .slice none 0 0, .int .i64 0, .int .i64 0], .int .i64 e, .int .i64 at_])) w') := fun e at_ w' h hb => by rw [hP]; exact ps_zero h hb
  rw [← hP]
  clear hP hw0
  have d1 : decide ((s.size : Int) > 16384) = false := decide_eq_false (by omega)
  have d1' : decide (16384 < s.size) = false := decide_eq_false h16
  obtain ⟨L, hL⟩ : ∃ L, L = (fieldsC 10 l).dropLast := ⟨_, rfl⟩
  have hgl : (fieldsC 10 l).getLast? ≠ some [] := by unfold lsB at hw; exact of_decide_eq_false hw
  have hLc : L.length = l.count 10 := by rw [hL, List.length_dropLast, fieldsC_len]; omega
  have hLl : L.length ≤ s.size := by
    rw [hLc, ← hsl]; exact List.count_le_length
  have HSM : Hid (∀ x ∈ L, x.length ≤ 100000) := fun x hx => by
    rw [hL] at hx
    have := (fieldsC_mem 10 l x (List.dropLast_subset _ hx)).2; omega
  rw [← hL] at HC1 HC2
  have HBAD : Hid (∀ k w', k < L.length → stP L k ≠ none → stP L (k + 1) = none → Below w.heap.size w w' → P (.returned (.tuple #[.agg #[.int .i64 0, .slice none 0 0, .slice none 0 0, .slice none 0 0, .slice none 0 0, .slice none 0 0, .int .i64 0, .int .i64 0], .int .i64 6, .int .i64 ((k : Int) + 1)])) w') := fun k w' hk h0 h1 hb =>
    HZ.out _ _ _ (psV_bad (by omega) (by rw [← hL]; exact badP_some hk h0 h1)) hb
  have HNO : Hid (∀ w', stP L L.length ≠ none → Below w.heap.size w w' → P (.returned (.tuple #[.agg #[.int .i64 0, .slice none 0 0, .slice none 0 0, .slice none 0 0, .slice none 0 0, .slice none 0 0, .int .i64 0, .int .i64 0], .int .i64 6, .int .i64 ((L.length : Int) + 1)])) w') := fun w' h0 hb =>
    HZ.out _ _ _ (by
      have := psV_none (s := l) (by omega) (by rw [← hL]; exact badP_none h0) (Or.inr hgl)
      rw [← hL] at this; exact this) hb
  have HLN : Hid (Calls Tryd.prog 16 #[.string s] w0 fun e w' => e = .returned (.tuple #[.slice none 0 0, .bool false]) ∧ Below w0.heap.size w0 w') := (HLN0 w0).mono fun e w' h => ⟨h.2.1 hw, h.2.2⟩
  have HLT : Hid (∀ k (hk : k ≤ s.size) W, L = lsL (s.extract 0 k).data.toList ∧ lsB (s.extract 0 k).data.toList = true → Calls Tryd.prog 16 #[.string (s.extract 0 k)] W fun e w' => ∃ a cap, e = .returned (.tuple #[.slice a L.length cap, .bool true]) ∧ RdW w' a cap L ∧ Below W.heap.size W w') := fun k hk W he => (HLT0 k hk W).mono fun e w' h => by
    obtain ⟨a, cap, h1, h2⟩ := h.1 he.2
    rw [← he.1] at h1 h2
    exact ⟨a, cap, h1, h2, h.2.2⟩
  have HRL : Hid (∀ a cap W, RdW W a cap L → Calls Tryd.prog 21 #[.slice a L.length cap] W (RlPost L W)) := fun a cap W h => rlines_loop a cap L (by omega) HSM.out W h
  have hLm : L.length ≤ 16384 := by omega
  have HLC := Lib.hid hLc
  have HTK : Hid (l.take s.size = l) := List.take_of_length_le (by omega)
  have HT0 : Hid ((l.take 0).count 10 = 0) := by rw [Hid, List.take_zero]; rfl
  have HQ0 : Hid (QFa s s.size) := ⟨by omega, Nat.le_refl _, fun j hj hk => by omega⟩
  clear hL hgl hLc hLl hl hsl hw HLN0 HLT0 HZ HSM hs0
  go_enter Tryd.func8, Tryd.ntmps8
  go_upto_region 1 with fail
  rw [← HW0.out]
  go_wp2_with fail
  refine HLN.out.mono ?_; rintro e w1 ⟨rfl, hb1⟩
  have HB1 := Lib.hid (bmore HB0.out hb1)
  have HO1 := Lib.hid (HO0.out.below hb1)
  clear hb1 HLN
  go_wp2_with fail
  go_loop [7, 8] (fun n i => ∃ k : Nat, k ≤ s.size ∧ i = .int .i64 k ∧ n = .int .i64 ((l.take k).count 10 + 1 : Nat)) (fun _ i => s.size - (intOf i).toNat)
  case atStart => exact ⟨0, by omega, rfl, by rw [HT0.out]; rfl⟩
  case round =>
    obtain ⟨k, hk, rfl, rfl⟩ := hrel
    by_cases hlt : k < s.size
    · have HC := Lib.hid (HCT.out k hlt)
      have hcl : (l.take k).count 10 ≤ k := Nat.le_trans List.count_le_length (by rw [List.length_take]; omega)
      obtain ⟨m, hm⟩ : ∃ m, m = (l.take k).count 10 := ⟨_, rfl⟩
      rw [← hm] at hcl HC
      have HM := Lib.hid hm
      have w1 : IntKind.i64.wrap ((k : Int) + 1) = (k : Int) + 1 := by rw [IntKind.wrap_i64]; omega
      have w2 : IntKind.i64.wrap (((m + 1 : Nat) : Int) + 1) = ((m + 1 : Nat) : Int) + 1 := by rw [IntKind.wrap_i64]; omega
      have w2' : IntKind.i64.wrap ((m : Int) + 1 + 1) = ((m : Int) + 1 + 1) := by rw [IntKind.wrap_i64]; omega
      rw [← hm]
      clear hm
      by_cases h10 : s[k].toNat = 10
      · have hb : s[k] = 10 := by rw [← UInt8.toNat_inj]; exact h10
        have HC2 : Hid ((l.take (k + 1)).count 10 = m + 1) := by rw [Hid, HC.out, if_pos hb]
        have dn : ((s[k].toNat : Int) == 10) = true := by simp [h10]
        clear hb h10 HC
        go_wp2_with fail
        go_round
        case rel => exact ⟨k + 1, by omega, by go_num, by rw [HC2.out]; go_num⟩
        case measure => simp [intOf]; omega
      · have hb : s[k] ≠ 10 := fun e => h10 (by rw [e]; rfl)
        have HC2 : Hid ((l.take (k + 1)).count 10 = m) := by rw [Hid, HC.out, if_neg hb]; rfl
        have dn : ((s[k].toNat : Int) == 10) = false := by rw [beq_eq_false_iff_ne]; omega
        clear hb h10 HC
        go_wp2_with fail
        go_round
        case rel => exact ⟨k + 1, by omega, by go_num, by rw [HC2.out]⟩
        case measure => simp [intOf]; omega
    · obtain rfl : k = s.size := by omega
      rw [HTK.out, ← HLC.out]
      obtain ⟨nn, hnn⟩ : ∃ nn : Int, nn = (L.length : Int) + 1 := ⟨_, rfl⟩
      rw [show ((L.length + 1 : Nat) : Int) = nn from by rw [hnn]; rfl]
      rw [← hnn] at HNO
      clear hnn HCT HT0
      have HQ1 : Hid (QF s L w1 (.slice none 0 0) (.bool false) s.size w1) := Or.inl ⟨rfl, rfl, HQ0.out, rfl⟩
      go_upto_region 12 with fail
      go_loopw [5, 6, 9] (fun lv wv i wr => ∃ k : Nat, k ≤ s.size ∧ i = .int .i64 k ∧ QF s L w1 lv wv k wr) (fun _ _ i _ => (intOf i).toNat)
      case atStart => exact ⟨s.size, Nat.le_refl _, rfl, HQ1.out⟩
      case round =>
        clear HQ1 HQ0
        obtain ⟨k, hk, rfl, hq⟩ := hrel
        rcases hq with ⟨rfl, rfl, hq, rfl⟩ | ⟨a, cap, rfl, rfl, hR, hb⟩
        · have hpos := hq.pos
          have d2 : decide ((k : Int) > 0) = true := decide_eq_true (by omega)
          have d2' : decide (0 < k) = true := decide_eq_true (by omega)
          have w6 : IntKind.i64.wrap ((k : Int) - 1) = ((k - 1 : Nat) : Int) := by rw [IntKind.wrap_i64]; omega
          have hlt : k - 1 < s.size := by omega
          by_cases h10 : s[k - 1].toNat = 10
          · have hx : s[k - 1] = 10 := by rw [← UInt8.toNat_inj]; exact h10
            have HCC := Lib.hid (HC1.out k hq hx)
            have HLK := fun W => Lib.hid (HLT.out k hk W HCC.out)
            have dn : ((s[k - 1].toNat : Int) == 10) = true := by simp [h10]
            have dn2 : ((s[k - 1].toNat : Int) != 10) = false := by simp [h10]
            clear h10 hx hq HCC
            go_wp2_with fail
            refine ((HLK _).out).mono ?_; rintro e w5 ⟨a, cap, rfl, hR, hb⟩
            have HF : Hid (QF s L wr (.slice a L.length cap) (.bool true) (k - 1) w5) := Or.inr ⟨a, cap, rfl, rfl, hR, hb⟩
            clear hR hb
            go_wp2_with fail
            go_roundw
            case rel => exact ⟨k - 1, by omega, rfl, HF.out⟩
            case measure => simp [intOf]; omega
          · have hx : s[k - 1] ≠ 10 := fun e => h10 (by rw [e]; rfl)
            have dn : ((s[k - 1].toNat : Int) == 10) = false := by rw [beq_eq_false_iff_ne]; omega
            have dn2 : ((s[k - 1].toNat : Int) != 10) = true := by rw [bne_iff_ne]; omega
            by_cases h1 : k = 1
            · have HCC : Hid (L = lsL (s.extract 0 0).data.toList ∧ lsB (s.extract 0 0).data.toList = true) := by
                subst h1; exact HC2.out hq hx
              have HLK := fun W => Lib.hid (HLT.out 0 (Nat.zero_le _) W HCC.out)
              have k1 : ((k : Int) == 1) = true := by simp [h1]
              have e00 : s.extract 0 0 = ByteArray.empty := by simp
              rw [e00] at HLK
              clear e00
              clear h10 hx hq HCC h1
              go_wp2_with fail
              refine ((HLK _).out).mono ?_; rintro e w5 ⟨a, cap, rfl, hR, hb⟩
              have HF : Hid (QF s L wr (.slice a L.length cap) (.bool true) (k - 1) w5) := Or.inr ⟨a, cap, rfl, rfl, hR, hb⟩
              clear hR hb
              go_wp2_with fail
              go_roundw
              case rel => exact ⟨k - 1, by omega, rfl, HF.out⟩
              case measure => simp [intOf]; omega
            · have HF : Hid (QF s L wr (.slice none 0 0) (.bool false) (k - 1) wr) := Or.inl ⟨rfl, rfl, qf_down hq h1 hx, rfl⟩
              have k1 : ((k : Int) == 1) = false := by rw [beq_eq_false_iff_ne]; omega
              clear h10 hx hq h1
              go_wp2_with fail
              go_roundw
              case rel => exact ⟨k - 1, by omega, rfl, HF.out⟩
              case measure => simp [intOf]; omega
        · have HR := Lib.hid hR
          have HB4 := Lib.hid (bmore HB1.out hb)
          have HO4 := Lib.hid (HO1.out.below hb)
          obtain ⟨b, hb0⟩ : ∃ b, decide ((k : Int) > 0) = b := ⟨_, rfl⟩
          have hb0' : decide (0 < k) = b := by rw [← hb0, Bool.eq_iff_iff]; simp
          clear hR hb
          cases b
          all_goals
            go_wp2_with fail
            refine (HRL.out _ _ _ HR.out).mono ?_; rintro e w2 ⟨c, at_, rfl, hb2, hc⟩
            obtain ⟨w3, hw3⟩ : ∃ w3, w3 = w2.alloc (.cells #[.int .i64 c.cats, .slice c.g.a c.g.l.length c.g.cap, .slice c.r.a c.r.l.length c.r.cap, .slice c.p.a c.p.l.length c.p.cap, .slice c.n.a c.n.l.length c.n.cap, .slice c.s.a c.s.l.length c.s.cap, .int .i64 c.gate, .int .i64 c.quota] 29) := ⟨_, rfl⟩
            have hb23 : Below w2.heap.size w2 w3 := by rw [hw3]; exact (Below.refl _ _).alloc (Nat.le_refl _) _
            have HB3 := Lib.hid (bmore (bmore HB4.out hb2) hb23)
            have HO3 := Lib.hid ((HO4.out.below hb2).below hb23)
            have HW3 := Lib.hid hw3
            have HC := Lib.hid hc
            clear hb2 hb23 hc hw3 hb0 hb0'
            go_upto_region 21 with fail
            rw [← HW3.out]
            have hO3 := HO3.out
            have s6 := hO3.lt
            have a0 := (hO3).cell 0 _ rfl; have a1 := (hO3).cell 1 _ rfl; have a2 := (hO3).cell 2 _ rfl; have a3 := (hO3).cell 3 _ rfl; have a4 := (hO3).cell 4 _ rfl; have a5 := (hO3).cell 5 _ rfl; have a6 := (hO3).cell 6 _ rfl; have a7 := (hO3).cell 7 _ rfl; have g0 := (hO3).free 0; have g1 := (hO3).free 1; have g2 := (hO3).free 2; have g3 := (hO3).free 3; have g4 := (hO3).free 4; have g5 := (hO3).free 5; have g6 := (hO3).free 6; have g7 := (hO3).free 7
            clear hO3
            rcases HC.out with ⟨rfl, ⟨last, hst⟩, hok⟩ | ⟨j, rfl, hj, h0, h1⟩
            · have HST := Lib.hid hst
              clear hst hok HC
              go_wp2_with fail
              (refine bodyPost_ret (v := .tuple #[.agg #[.int .i64 0, .slice none 0 0, .slice none 0 0, .slice none 0 0, .slice none 0 0, .slice none 0 0, .int .i64 0, .int .i64 0], .int .i64 6, .int .i64 nn]) (by simp [results, Tryd.results8, go_sem, a0, a1, a2, a3, a4, a5, a6, a7, s6]) rfl ?_)
              exact HNO.out _ (by rw [HST.out]; simp) ((((((((HB3.out.setCell (Nat.le_refl _) _).setCell (Nat.le_refl _) _).setCell (Nat.le_refl _) _).setCell (Nat.le_refl _) _).setCell (Nat.le_refl _) _).setCell (Nat.le_refl _) _).setCell (Nat.le_refl _) _).setCell (Nat.le_refl _) _)
            · have H0 := Lib.hid h0
              have H1 := Lib.hid h1
              have w5 : decide ((j : Int) + 1 > 0) = true := decide_eq_true (by omega)
              clear h0 h1 HC
              go_wp2_with fail
              (refine bodyPost_ret (v := .tuple #[.agg #[.int .i64 0, .slice none 0 0, .slice none 0 0, .slice none 0 0, .slice none 0 0, .slice none 0 0, .int .i64 0, .int .i64 0], .int .i64 6, .int .i64 ((j : Int) + 1)]) (by simp [results, Tryd.results8, go_sem, a0, a1, a2, a3, a4, a5, a6, a7, s6]) rfl ?_)
              exact HBAD.out j _ hj H0.out H1.out ((((((((HB3.out.setCell (Nat.le_refl _) _).setCell (Nat.le_refl _) _).setCell (Nat.le_refl _) _).setCell (Nat.le_refl _) _).setCell (Nat.le_refl _) _).setCell (Nat.le_refl _) _).setCell (Nat.le_refl _) _).setCell (Nat.le_refl _) _)
theorem rparse_any (s : ByteArray) (hs : s.size ≤ maxLen) (w : World) : Calls Tryd.prog 8 #[.string s] w (PsPost s.data.toList w) := by
  by_cases h16 : 16384 < s.size
  · exact rparse_long s h16 hs w
  · cases hw : lsB s.data.toList
    · exact rparse_part s h16 hw w
    · exact rparse_whole s h16 hw w
end Go.Proofs.YtoalpdjpljapbaaDoor
/- The law of plan: the same configurations. -/
namespace Go.Proofs.YtoalpdjpljapbaaDoor
set_option linter.unusedVariables false
set_option linter.unusedSimpArgs false
set_option linter.unnecessarySimpa false
open Go.RowKit Go.Sort
set_option maxHeartbeats 4000000
set_option maxRecDepth 100000
set_option linter.unusedVariables false
/-- Two configurations of one content, boxed. -/
structure SM (W W3 : World) (b1 b2 : Nat) (c d : Cv) : Prop where
  bel : Below W.heap.size W W3
  x : ObjAt W3 b1 29 (cfgL c)
  y : ObjAt W3 b2 29 (cfgL d)
  cx : CfgOk W3 c
  cy : CfgOk W3 d
theorem SM.more {W W3 W' : World} {b1 b2 : Nat} {c d : Cv} (h : SM W W3 b1 b2 c d) (hb : Below W3.heap.size W3 W') : SM W W' b1 b2 c d := ⟨bmore h.bel hb, h.x.below hb, h.y.below hb, h.cx.below hb, h.cy.below hb⟩
theorem sm_start (W : World) (c d : Cv) (hc : CfgOk W c) (hd : CfgOk W d) : SM W ((W.alloc (.cells #[.int .i64 c.cats, .slice c.g.a c.g.l.length c.g.cap, .slice c.r.a c.r.l.length c.r.cap, .slice c.p.a c.p.l.length c.p.cap, .slice c.n.a c.n.l.length c.n.cap, .slice c.s.a c.s.l.length c.s.cap, .int .i64 c.gate, .int .i64 c.quota] 29)).alloc (.cells #[.int .i64 d.cats, .slice d.g.a d.g.l.length d.g.cap, .slice d.r.a d.r.l.length d.r.cap, .slice d.p.a d.p.l.length d.p.cap, .slice d.n.a d.n.l.length d.n.cap, .slice d.s.a d.s.l.length d.s.cap, .int .i64 d.gate, .int .i64 d.quota] 29)) W.heap.size (W.heap.size + 1) c d := by
  have s1 : (W.alloc (.cells #[.int .i64 c.cats, .slice c.g.a c.g.l.length c.g.cap, .slice c.r.a c.r.l.length c.r.cap, .slice c.p.a c.p.l.length c.p.cap, .slice c.n.a c.n.l.length c.n.cap, .slice c.s.a c.s.l.length c.s.cap, .int .i64 c.gate, .int .i64 c.quota] 29)).heap.size = W.heap.size + 1 := World.size_alloc _ _
  have hb : Below W.heap.size W ((W.alloc (.cells #[.int .i64 c.cats, .slice c.g.a c.g.l.length c.g.cap, .slice c.r.a c.r.l.length c.r.cap, .slice c.p.a c.p.l.length c.p.cap, .slice c.n.a c.n.l.length c.n.cap, .slice c.s.a c.s.l.length c.s.cap, .int .i64 c.gate, .int .i64 c.quota] 29)).alloc (.cells #[.int .i64 d.cats, .slice d.g.a d.g.l.length d.g.cap, .slice d.r.a d.r.l.length d.r.cap, .slice d.p.a d.p.l.length d.p.cap, .slice d.n.a d.n.l.length d.n.cap, .slice d.s.a d.s.l.length d.s.cap, .int .i64 d.gate, .int .i64 d.quota] 29)) := ((Below.refl _ _).alloc (Nat.le_refl _) _).alloc (by rw [s1]; omega) _
  refine ⟨hb, (ObjAt.new W 29 (cfgL c)).below ((Below.refl _ _).alloc (Nat.le_refl _) _), ?_, hc.below hb, hd.below hb⟩
  have := ObjAt.new (W.alloc (.cells #[.int .i64 c.cats, .slice c.g.a c.g.l.length c.g.cap, .slice c.r.a c.r.l.length c.r.cap, .slice c.p.a c.p.l.length c.p.cap, .slice c.n.a c.n.l.length c.n.cap, .slice c.s.a c.s.l.length c.s.cap, .int .i64 c.gate, .int .i64 c.quota] 29)) 29 (cfgL d)
  rw [s1] at this; exact this
theorem eqG3 (a b c : Int) (w : World) : Sem.run Tryd.prog (Op.equalIn 10000 58 (.agg #[.int .i64 a, .int .i64 b, .int .i64 c]) (.agg #[.int .i64 a, .int .i64 b, .int .i64 c])) w = .ok true w := by go_simp
theorem eqR3 (a b c : Int) (w : World) : Sem.run Tryd.prog (Op.equalIn 10000 60 (.agg #[.int .i64 a, .int .i64 b, .int .i64 c]) (.agg #[.int .i64 a, .int .i64 b, .int .i64 c])) w = .ok true w := by go_simp
theorem eqP2 (a b : Int) (w : World) : Sem.run Tryd.prog (Op.equalIn 10000 62 (.agg #[.int .i64 a, .int .i64 b]) (.agg #[.int .i64 a, .int .i64 b])) w = .ok true w := by go_simp
theorem eqN2 (a b : Int) (w : World) : Sem.run Tryd.prog (Op.equalIn 10000 64 (.agg #[.int .i64 a, .int .i64 b]) (.agg #[.int .i64 a, .int .i64 b])) w = .ok true w := by go_simp
theorem eqS2 (a b : Int) (w : World) : Sem.run Tryd.prog (Op.equalIn 10000 66 (.agg #[.int .i64 a, .int .i64 b]) (.agg #[.int .i64 a, .int .i64 b])) w = .ok true w := by go_simp
theorem same_any (W : World) (c d : Cv) (hc : CfgOk W c) (hd : CfgOk W d) (he : pcOf c = pcOf d) : Calls Tryd.prog 9 #[.agg #[.int .i64 c.cats, .slice c.g.a c.g.l.length c.g.cap, .slice c.r.a c.r.l.length c.r.cap, .slice c.p.a c.p.l.length c.p.cap, .slice c.n.a c.n.l.length c.n.cap, .slice c.s.a c.s.l.length c.s.cap, .int .i64 c.gate, .int .i64 c.quota], .agg #[.int .i64 d.cats, .slice d.g.a d.g.l.length d.g.cap, .slice d.r.a d.r.l.length d.r.cap, .slice d.p.a d.p.l.length d.p.cap, .slice d.n.a d.n.l.length d.n.cap, .slice d.s.a d.s.l.length d.s.cap, .int .i64 d.gate, .int .i64 d.quota]] W fun e w' => e = .returned (.bool true) ∧ Below W.heap.size W w' := by
  obtain ⟨W3, hW3⟩ : ∃ W3, W3 = (W.alloc (.cells #[.int .i64 c.cats, .slice c.g.a c.g.l.length c.g.cap, .slice c.r.a c.r.l.length c.r.cap, .slice c.p.a c.p.l.length c.p.cap, .slice c.n.a c.n.l.length c.n.cap, .slice c.s.a c.s.l.length c.s.cap, .int .i64 c.gate, .int .i64 c.quota] 29)).alloc (.cells #[.int .i64 d.cats, .slice d.g.a d.g.l.length d.g.cap, .slice d.r.a d.r.l.length d.r.cap, .slice d.p.a d.p.l.length d.p.cap, .slice d.n.a d.n.l.length d.n.cap, .slice d.s.a d.s.l.length d.s.cap, .int .i64 d.gate, .int .i64 d.quota] 29) := ⟨_, rfl⟩
  obtain ⟨b1, hb1⟩ : ∃ b, b = W.heap.size := ⟨_, rfl⟩
  obtain ⟨b2, hb2⟩ : ∃ b, b = W.heap.size + 1 := ⟨_, rfl⟩
  have HSM : Hid (SM W W3 b1 b2 c d) := by rw [hW3, hb1, hb2]; exact sm_start W c d hc hd
  have HE1 := Lib.hid hb1
  have HE2 := Lib.hid hb2
  have HW3 := Lib.hid hW3
  clear hW3 hb1 hb2 hc hd
  obtain ⟨x, ⟨a1, c1, l1⟩, ⟨a2, c2, l2⟩, ⟨a3, c3, l3⟩, ⟨a4, c4, l4⟩, ⟨a5, c5, l5⟩, y, z⟩ := c
  obtain ⟨x', ⟨a1', c1', l1'⟩, ⟨a2', c2', l2'⟩, ⟨a3', c3', l3'⟩, ⟨a4', c4', l4'⟩, ⟨a5', c5', l5'⟩, y', z'⟩ := d
  simp only [pcOf, Pc.mk.injEq] at he
  obtain ⟨rfl, rfl, rfl, rfl, rfl, rfl, rfl, rfl⟩ := he
  have m1 : l1.length ≤ 9223372036854775807 := HSM.out.cx.g.mx
  have m2 : l2.length ≤ 9223372036854775807 := HSM.out.cx.r.mx
  have m3 : l3.length ≤ 9223372036854775807 := HSM.out.cx.p.mx
  have m4 : l4.length ≤ 9223372036854775807 := HSM.out.cx.n.mx
  have m5 : l5.length ≤ 9223372036854775807 := HSM.out.cx.s.mx
  have nn1 : ((l1.length : Int) != (l1.length : Int)) = false := by simp
  have nn2 : ((l2.length : Int) != (l2.length : Int)) = false := by simp
  have nn3 : ((l3.length : Int) != (l3.length : Int)) = false := by simp
  have nn4 : ((l4.length : Int) != (l4.length : Int)) = false := by simp
  have nn5 : ((l5.length : Int) != (l5.length : Int)) = false := by simp
  have nx : (x != x) = false := by simp
  have ny : (y != y) = false := by simp
  have nz : (z != z) = false := by simp
  go_enter Tryd.func9, Tryd.ntmps9
  go_upto_region 1 with fail
  rw [← HW3.out]
  try rw [← HE2.out]
  try rw [← HE1.out]
  (have p0 := HSM.out.x.cell 0 _ rfl; have p1 := HSM.out.x.cell 1 _ rfl; have p2 := HSM.out.x.cell 2 _ rfl; have p3 := HSM.out.x.cell 3 _ rfl; have p4 := HSM.out.x.cell 4 _ rfl; have p5 := HSM.out.x.cell 5 _ rfl; have p6 := HSM.out.x.cell 6 _ rfl; have p7 := HSM.out.x.cell 7 _ rfl; have q0 := HSM.out.y.cell 0 _ rfl; have q1 := HSM.out.y.cell 1 _ rfl; have q2 := HSM.out.y.cell 2 _ rfl; have q3 := HSM.out.y.cell 3 _ rfl; have q4 := HSM.out.y.cell 4 _ rfl; have q5 := HSM.out.y.cell 5 _ rfl; have q6 := HSM.out.y.cell 6 _ rfl; have q7 := HSM.out.y.cell 7 _ rfl)
  go_upto_region 4 with fail
  go_loopw [5] (fun i wr => ∃ k : Nat, k ≤ l1.length ∧ i = .int .i64 k ∧ SM W wr b1 b2 ⟨x, ⟨a1, c1, l1⟩, ⟨a2, c2, l2⟩, ⟨a3, c3, l3⟩, ⟨a4, c4, l4⟩, ⟨a5, c5, l5⟩, y, z⟩ ⟨x, ⟨a1', c1', l1⟩, ⟨a2', c2', l2⟩, ⟨a3', c3', l3⟩, ⟨a4', c4', l4⟩, ⟨a5', c5', l5⟩, y, z⟩) (fun i _ => l1.length - (intOf i).toNat)
  case atStart => exact ⟨0, by omega, rfl, HSM.out⟩
  clear HSM p0 p1 p2 p3 p4 p5 p6 p7 q0 q1 q2 q3 q4 q5 q6 q7
  obtain ⟨k, hk, rfl, hsm⟩ := hrel
  have HSM := Lib.hid hsm
  clear hsm
  (have p0 := HSM.out.x.cell 0 _ rfl; have p1 := HSM.out.x.cell 1 _ rfl; have p2 := HSM.out.x.cell 2 _ rfl; have p3 := HSM.out.x.cell 3 _ rfl; have p4 := HSM.out.x.cell 4 _ rfl; have p5 := HSM.out.x.cell 5 _ rfl; have p6 := HSM.out.x.cell 6 _ rfl; have p7 := HSM.out.x.cell 7 _ rfl; have q0 := HSM.out.y.cell 0 _ rfl; have q1 := HSM.out.y.cell 1 _ rfl; have q2 := HSM.out.y.cell 2 _ rfl; have q3 := HSM.out.y.cell 3 _ rfl; have q4 := HSM.out.y.cell 4 _ rfl; have q5 := HSM.out.y.cell 5 _ rfl; have q6 := HSM.out.y.cell 6 _ rfl; have q7 := HSM.out.y.cell 7 _ rfl)
  by_cases hlt : k < l1.length
  case pos =>
    obtain ⟨g1, o1, ha1, hc1⟩ := HSM.out.cx.g.cells (by omega) k hlt
    obtain ⟨g2, o2, ha2, hc2⟩ := HSM.out.cy.g.cells (by omega) k hlt
    obtain ⟨r0, r1, r2, hrow⟩ := row3 hlt HSM.out.cx.g.len
    have e1 : l1.length ≤ _ := HSM.out.cx.g.le
    have e1' : l1.length ≤ _ := HSM.out.cy.g.le
    simp only at ha1 ha2 hc1 hc2 e1 e1'
    subst ha1; subst ha2
    rw [hrow] at hc1 hc2
    have u0 := hc1 _ (Below.refl _ _) 0 _ rfl; have u1 := hc1 _ (Below.refl _ _) 1 _ rfl
    have v0 := hc2 _ (Below.refl _ _) 0 _ rfl; have v1 := hc2 _ (Below.refl _ _) 1 _ rfl
    simp only [Nat.add_zero] at u0 v0
    have u2 := hc1 _ (Below.refl _ _) 2 _ rfl; have v2 := hc2 _ (Below.refl _ _) 2 _ rfl; have heq := eqG3 r0 r1 r2
    have d1 : decide ((k : Int) < (l1.length : Int)) = true := decide_eq_true (by omega)
    have d1' : decide (k < l1.length) = true := decide_eq_true hlt
    have w1 : IntKind.i64.wrap ((k : Int) + 1) = (k : Int) + 1 := by rw [IntKind.wrap_i64]; omega
    clear hc1 hc2 hrow
    go_upto_region 6 with fail
    go_region
    all_goals
      go_wp2_with fail
      go_roundw
      case rel => exact ⟨k + 1, by omega, by go_num, HSM.out.more (by first | exact (Below.refl _ _).drew | exact Below.refl _ _)⟩
      case measure => simp [intOf]; omega
  obtain rfl : k = l1.length := by omega
  have dq : decide ((l1.length : Int) < (l1.length : Int)) = false := decide_eq_false (by omega)
  go_upto_region 9 with fail
  go_loopw [6] (fun i wr => ∃ k : Nat, k ≤ l2.length ∧ i = .int .i64 k ∧ SM W wr b1 b2 ⟨x, ⟨a1, c1, l1⟩, ⟨a2, c2, l2⟩, ⟨a3, c3, l3⟩, ⟨a4, c4, l4⟩, ⟨a5, c5, l5⟩, y, z⟩ ⟨x, ⟨a1', c1', l1⟩, ⟨a2', c2', l2⟩, ⟨a3', c3', l3⟩, ⟨a4', c4', l4⟩, ⟨a5', c5', l5⟩, y, z⟩) (fun i _ => l2.length - (intOf i).toNat)
  case atStart => exact ⟨0, by omega, rfl, HSM.out⟩
  clear HSM p0 p1 p2 p3 p4 p5 p6 p7 q0 q1 q2 q3 q4 q5 q6 q7
  obtain ⟨k, hk, rfl, hsm⟩ := hrel
  have HSM := Lib.hid hsm
  clear hsm
  (have p0 := HSM.out.x.cell 0 _ rfl; have p1 := HSM.out.x.cell 1 _ rfl; have p2 := HSM.out.x.cell 2 _ rfl; have p3 := HSM.out.x.cell 3 _ rfl; have p4 := HSM.out.x.cell 4 _ rfl; have p5 := HSM.out.x.cell 5 _ rfl; have p6 := HSM.out.x.cell 6 _ rfl; have p7 := HSM.out.x.cell 7 _ rfl; have q0 := HSM.out.y.cell 0 _ rfl; have q1 := HSM.out.y.cell 1 _ rfl; have q2 := HSM.out.y.cell 2 _ rfl; have q3 := HSM.out.y.cell 3 _ rfl; have q4 := HSM.out.y.cell 4 _ rfl; have q5 := HSM.out.y.cell 5 _ rfl; have q6 := HSM.out.y.cell 6 _ rfl; have q7 := HSM.out.y.cell 7 _ rfl)
  by_cases hlt : k < l2.length
  case pos =>
    obtain ⟨g1, o1, ha1, hc1⟩ := HSM.out.cx.r.cells (by omega) k hlt
    obtain ⟨g2, o2, ha2, hc2⟩ := HSM.out.cy.r.cells (by omega) k hlt
    obtain ⟨r0, r1, r2, hrow⟩ := row3 hlt HSM.out.cx.r.len
    have e1 : l2.length ≤ _ := HSM.out.cx.r.le
    have e1' : l2.length ≤ _ := HSM.out.cy.r.le
    simp only at ha1 ha2 hc1 hc2 e1 e1'
    subst ha1; subst ha2
    rw [hrow] at hc1 hc2
    have u0 := hc1 _ (Below.refl _ _) 0 _ rfl; have u1 := hc1 _ (Below.refl _ _) 1 _ rfl
    have v0 := hc2 _ (Below.refl _ _) 0 _ rfl; have v1 := hc2 _ (Below.refl _ _) 1 _ rfl
    simp only [Nat.add_zero] at u0 v0
    have u2 := hc1 _ (Below.refl _ _) 2 _ rfl; have v2 := hc2 _ (Below.refl _ _) 2 _ rfl; have heq := eqR3 r0 r1 r2
    have d1 : decide ((k : Int) < (l2.length : Int)) = true := decide_eq_true (by omega)
    have d1' : decide (k < l2.length) = true := decide_eq_true hlt
    have w1 : IntKind.i64.wrap ((k : Int) + 1) = (k : Int) + 1 := by rw [IntKind.wrap_i64]; omega
    clear hc1 hc2 hrow
    go_upto_region 11 with fail
    go_region
    all_goals
      go_wp2_with fail
      go_roundw
      case rel => exact ⟨k + 1, by omega, by go_num, HSM.out.more (by first | exact (Below.refl _ _).drew | exact Below.refl _ _)⟩
      case measure => simp [intOf]; omega
  obtain rfl : k = l2.length := by omega
  have dq : decide ((l2.length : Int) < (l2.length : Int)) = false := decide_eq_false (by omega)
  go_upto_region 14 with fail
  go_loopw [7] (fun i wr => ∃ k : Nat, k ≤ l3.length ∧ i = .int .i64 k ∧ SM W wr b1 b2 ⟨x, ⟨a1, c1, l1⟩, ⟨a2, c2, l2⟩, ⟨a3, c3, l3⟩, ⟨a4, c4, l4⟩, ⟨a5, c5, l5⟩, y, z⟩ ⟨x, ⟨a1', c1', l1⟩, ⟨a2', c2', l2⟩, ⟨a3', c3', l3⟩, ⟨a4', c4', l4⟩, ⟨a5', c5', l5⟩, y, z⟩) (fun i _ => l3.length - (intOf i).toNat)
  case atStart => exact ⟨0, by omega, rfl, HSM.out⟩
  clear HSM p0 p1 p2 p3 p4 p5 p6 p7 q0 q1 q2 q3 q4 q5 q6 q7
  obtain ⟨k, hk, rfl, hsm⟩ := hrel
  have HSM := Lib.hid hsm
  clear hsm
  (have p0 := HSM.out.x.cell 0 _ rfl; have p1 := HSM.out.x.cell 1 _ rfl; have p2 := HSM.out.x.cell 2 _ rfl; have p3 := HSM.out.x.cell 3 _ rfl; have p4 := HSM.out.x.cell 4 _ rfl; have p5 := HSM.out.x.cell 5 _ rfl; have p6 := HSM.out.x.cell 6 _ rfl; have p7 := HSM.out.x.cell 7 _ rfl; have q0 := HSM.out.y.cell 0 _ rfl; have q1 := HSM.out.y.cell 1 _ rfl; have q2 := HSM.out.y.cell 2 _ rfl; have q3 := HSM.out.y.cell 3 _ rfl; have q4 := HSM.out.y.cell 4 _ rfl; have q5 := HSM.out.y.cell 5 _ rfl; have q6 := HSM.out.y.cell 6 _ rfl; have q7 := HSM.out.y.cell 7 _ rfl)
  by_cases hlt : k < l3.length
  case pos =>
    obtain ⟨g1, o1, ha1, hc1⟩ := HSM.out.cx.p.cells (by omega) k hlt
    obtain ⟨g2, o2, ha2, hc2⟩ := HSM.out.cy.p.cells (by omega) k hlt
    obtain ⟨r0, r1, hrow⟩ := row2 hlt HSM.out.cx.p.len
    have e1 : l3.length ≤ _ := HSM.out.cx.p.le
    have e1' : l3.length ≤ _ := HSM.out.cy.p.le
    simp only at ha1 ha2 hc1 hc2 e1 e1'
    subst ha1; subst ha2
    rw [hrow] at hc1 hc2
    have u0 := hc1 _ (Below.refl _ _) 0 _ rfl; have u1 := hc1 _ (Below.refl _ _) 1 _ rfl
    have v0 := hc2 _ (Below.refl _ _) 0 _ rfl; have v1 := hc2 _ (Below.refl _ _) 1 _ rfl
    simp only [Nat.add_zero] at u0 v0
    have heq := eqP2 r0 r1
    have d1 : decide ((k : Int) < (l3.length : Int)) = true := decide_eq_true (by omega)
    have d1' : decide (k < l3.length) = true := decide_eq_true hlt
    have w1 : IntKind.i64.wrap ((k : Int) + 1) = (k : Int) + 1 := by rw [IntKind.wrap_i64]; omega
    clear hc1 hc2 hrow
    go_upto_region 16 with fail
    go_region
    all_goals
      go_wp2_with fail
      go_roundw
      case rel => exact ⟨k + 1, by omega, by go_num, HSM.out.more (by first | exact (Below.refl _ _).drew | exact Below.refl _ _)⟩
      case measure => simp [intOf]; omega
  obtain rfl : k = l3.length := by omega
  have dq : decide ((l3.length : Int) < (l3.length : Int)) = false := decide_eq_false (by omega)
  go_upto_region 19 with fail
  go_loopw [8] (fun i wr => ∃ k : Nat, k ≤ l4.length ∧ i = .int .i64 k ∧ SM W wr b1 b2 ⟨x, ⟨a1, c1, l1⟩, ⟨a2, c2, l2⟩, ⟨a3, c3, l3⟩, ⟨a4, c4, l4⟩, ⟨a5, c5, l5⟩, y, z⟩ ⟨x, ⟨a1', c1', l1⟩, ⟨a2', c2', l2⟩, ⟨a3', c3', l3⟩, ⟨a4', c4', l4⟩, ⟨a5', c5', l5⟩, y, z⟩) (fun i _ => l4.length - (intOf i).toNat)
  case atStart => exact ⟨0, by omega, rfl, HSM.out⟩
  clear HSM p0 p1 p2 p3 p4 p5 p6 p7 q0 q1 q2 q3 q4 q5 q6 q7
  obtain ⟨k, hk, rfl, hsm⟩ := hrel
  have HSM := Lib.hid hsm
  clear hsm
  (have p0 := HSM.out.x.cell 0 _ rfl; have p1 := HSM.out.x.cell 1 _ rfl; have p2 := HSM.out.x.cell 2 _ rfl; have p3 := HSM.out.x.cell 3 _ rfl; have p4 := HSM.out.x.cell 4 _ rfl; have p5 := HSM.out.x.cell 5 _ rfl; have p6 := HSM.out.x.cell 6 _ rfl; have p7 := HSM.out.x.cell 7 _ rfl; have q0 := HSM.out.y.cell 0 _ rfl; have q1 := HSM.out.y.cell 1 _ rfl; have q2 := HSM.out.y.cell 2 _ rfl; have q3 := HSM.out.y.cell 3 _ rfl; have q4 := HSM.out.y.cell 4 _ rfl; have q5 := HSM.out.y.cell 5 _ rfl; have q6 := HSM.out.y.cell 6 _ rfl; have q7 := HSM.out.y.cell 7 _ rfl)
  by_cases hlt : k < l4.length
  case pos =>
    obtain ⟨g1, o1, ha1, hc1⟩ := HSM.out.cx.n.cells (by omega) k hlt
    obtain ⟨g2, o2, ha2, hc2⟩ := HSM.out.cy.n.cells (by omega) k hlt
    obtain ⟨r0, r1, hrow⟩ := row2 hlt HSM.out.cx.n.len
    have e1 : l4.length ≤ _ := HSM.out.cx.n.le
    have e1' : l4.length ≤ _ := HSM.out.cy.n.le
    simp only at ha1 ha2 hc1 hc2 e1 e1'
    subst ha1; subst ha2
    rw [hrow] at hc1 hc2
    have u0 := hc1 _ (Below.refl _ _) 0 _ rfl; have u1 := hc1 _ (Below.refl _ _) 1 _ rfl
    have v0 := hc2 _ (Below.refl _ _) 0 _ rfl; have v1 := hc2 _ (Below.refl _ _) 1 _ rfl
    simp only [Nat.add_zero] at u0 v0
    have heq := eqN2 r0 r1
    have d1 : decide ((k : Int) < (l4.length : Int)) = true := decide_eq_true (by omega)
    have d1' : decide (k < l4.length) = true := decide_eq_true hlt
    have w1 : IntKind.i64.wrap ((k : Int) + 1) = (k : Int) + 1 := by rw [IntKind.wrap_i64]; omega
    clear hc1 hc2 hrow
    go_upto_region 21 with fail
    go_region
    all_goals
      go_wp2_with fail
      go_roundw
      case rel => exact ⟨k + 1, by omega, by go_num, HSM.out.more (by first | exact (Below.refl _ _).drew | exact Below.refl _ _)⟩
      case measure => simp [intOf]; omega
  obtain rfl : k = l4.length := by omega
  have dq : decide ((l4.length : Int) < (l4.length : Int)) = false := decide_eq_false (by omega)
  go_upto_region 24 with fail
  go_loopw [9] (fun i wr => ∃ k : Nat, k ≤ l5.length ∧ i = .int .i64 k ∧ SM W wr b1 b2 ⟨x, ⟨a1, c1, l1⟩, ⟨a2, c2, l2⟩, ⟨a3, c3, l3⟩, ⟨a4, c4, l4⟩, ⟨a5, c5, l5⟩, y, z⟩ ⟨x, ⟨a1', c1', l1⟩, ⟨a2', c2', l2⟩, ⟨a3', c3', l3⟩, ⟨a4', c4', l4⟩, ⟨a5', c5', l5⟩, y, z⟩) (fun i _ => l5.length - (intOf i).toNat)
  case atStart => exact ⟨0, by omega, rfl, HSM.out⟩
  clear HSM p0 p1 p2 p3 p4 p5 p6 p7 q0 q1 q2 q3 q4 q5 q6 q7
  obtain ⟨k, hk, rfl, hsm⟩ := hrel
  have HSM := Lib.hid hsm
  clear hsm
  (have p0 := HSM.out.x.cell 0 _ rfl; have p1 := HSM.out.x.cell 1 _ rfl; have p2 := HSM.out.x.cell 2 _ rfl; have p3 := HSM.out.x.cell 3 _ rfl; have p4 := HSM.out.x.cell 4 _ rfl; have p5 := HSM.out.x.cell 5 _ rfl; have p6 := HSM.out.x.cell 6 _ rfl; have p7 := HSM.out.x.cell 7 _ rfl; have q0 := HSM.out.y.cell 0 _ rfl; have q1 := HSM.out.y.cell 1 _ rfl; have q2 := HSM.out.y.cell 2 _ rfl; have q3 := HSM.out.y.cell 3 _ rfl; have q4 := HSM.out.y.cell 4 _ rfl; have q5 := HSM.out.y.cell 5 _ rfl; have q6 := HSM.out.y.cell 6 _ rfl; have q7 := HSM.out.y.cell 7 _ rfl)
  by_cases hlt : k < l5.length
  case pos =>
    obtain ⟨g1, o1, ha1, hc1⟩ := HSM.out.cx.s.cells (by omega) k hlt
    obtain ⟨g2, o2, ha2, hc2⟩ := HSM.out.cy.s.cells (by omega) k hlt
    obtain ⟨r0, r1, hrow⟩ := row2 hlt HSM.out.cx.s.len
    have e1 : l5.length ≤ _ := HSM.out.cx.s.le
    have e1' : l5.length ≤ _ := HSM.out.cy.s.le
    simp only at ha1 ha2 hc1 hc2 e1 e1'
    subst ha1; subst ha2
    rw [hrow] at hc1 hc2
    have u0 := hc1 _ (Below.refl _ _) 0 _ rfl; have u1 := hc1 _ (Below.refl _ _) 1 _ rfl
    have v0 := hc2 _ (Below.refl _ _) 0 _ rfl; have v1 := hc2 _ (Below.refl _ _) 1 _ rfl
    simp only [Nat.add_zero] at u0 v0
    have heq := eqS2 r0 r1
    have d1 : decide ((k : Int) < (l5.length : Int)) = true := decide_eq_true (by omega)
    have d1' : decide (k < l5.length) = true := decide_eq_true hlt
    have w1 : IntKind.i64.wrap ((k : Int) + 1) = (k : Int) + 1 := by rw [IntKind.wrap_i64]; omega
    clear hc1 hc2 hrow
    go_upto_region 26 with fail
    go_region
    all_goals
      go_wp2_with fail
      go_roundw
      case rel => exact ⟨k + 1, by omega, by go_num, HSM.out.more (by first | exact (Below.refl _ _).drew | exact Below.refl _ _)⟩
      case measure => simp [intOf]; omega
  obtain rfl : k = l5.length := by omega
  have dq : decide ((l5.length : Int) < (l5.length : Int)) = false := decide_eq_false (by omega)
  go_wp2_with fail
  go_ret
  exact ⟨rfl, HSM.out.bel⟩
end Go.Proofs.YtoalpdjpljapbaaDoor
/- The walk of PlanReads. -/
namespace Go.Proofs.YtoalpdjpljapbaaDoor
set_option linter.unusedVariables false
set_option linter.unusedSimpArgs false
set_option linter.unnecessarySimpa false
open Go.RowKit Go.Sort
set_option maxHeartbeats 4000000
set_option maxRecDepth 100000
set_option linter.unusedVariables false
theorem reads_walk (s : ByteArray) (w : World) (hs : s.size ≤ maxLen) (hT : WdTab w) : Calls Tryd.prog 3 #[.string s] w fun e w' => e = .returned (.bool true) ∧ Below w.heap.size w w' := by
  have HAW : Hid (∀ W, Below w.heap.size w W → Calls Tryd.prog 6 #[] W fun e w' => e = .returned (.bool true) ∧ Below W.heap.size W w') := fun W h => awake_any W (hT.below h)
  by_cases h2 : 4000 < s.size
  · have d1 : decide ((s.size : Int) > 4000) = true := decide_eq_true (by omega)
    have d1' : decide (4000 < s.size) = true := decide_eq_true h2
    clear h2 hT
    go_enter Tryd.func3, Tryd.ntmps3
    go_wp2_with (go_at_call 6; refine (HAW.out _ (Below.refl _ _)).mono ?_; rintro e w3 ⟨rfl, hb3⟩)
    go_ret
    exact ⟨rfl, hb3⟩
  · have d1 : decide ((s.size : Int) > 4000) = false := decide_eq_false (by omega)
    have d1' : decide (4000 < s.size) = false := decide_eq_false h2
    obtain ⟨t, ht⟩ : ∃ t, t = s.data.toList := ⟨_, rfl⟩
    have HP1 := Lib.hid (pparse_any s hs w hT)
    have HP2 := fun W => Lib.hid (rparse_any s hs W)
    rw [← ht] at HP1 HP2
    obtain ⟨ev, hev⟩ : ∃ v, Hid (v = (psV t).2.1) := ⟨_, Lib.hid rfl⟩
    obtain ⟨av, hav⟩ : ∃ v, Hid (v = (psV t).2.2) := ⟨_, Lib.hid rfl⟩
    obtain ⟨pv, hpv⟩ : ∃ v, Hid (v = (psV t).1) := ⟨_, Lib.hid rfl⟩
    have HPU : Hid (∀ W e w', PsPost t W e w' → ∃ c : Cv, e = .returned (.tuple #[.agg #[.int .i64 c.cats, .slice c.g.a c.g.l.length c.g.cap, .slice c.r.a c.r.l.length c.r.cap, .slice c.p.a c.p.l.length c.p.cap, .slice c.n.a c.n.l.length c.n.cap, .slice c.s.a c.s.l.length c.s.cap, .int .i64 c.gate, .int .i64 c.quota], .int .i64 ev, .int .i64 av]) ∧ CfgOk w' c ∧ pcOf c = pv ∧ Below W.heap.size W w') := fun W e w' h => by rw [hev.out, hav.out, hpv.out]; exact h
    have ee : (ev == ev) = true := by simp
    have aa : (av == av) = true := by simp
    clear h2 ht hT hev hav hpv
    go_enter Tryd.func3, Tryd.ntmps3
    go_wp2_with fail
    refine HP1.out.mono ?_; intro e w1 h1
    obtain ⟨c, rfl, ok1, p1, b1⟩ := HPU.out _ _ _ h1
    obtain ⟨W1, hW1⟩ : ∃ W1, W1 = w1.alloc (.cells #[.int .i64 c.cats, .slice c.g.a c.g.l.length c.g.cap, .slice c.r.a c.r.l.length c.r.cap, .slice c.p.a c.p.l.length c.p.cap, .slice c.n.a c.n.l.length c.n.cap, .slice c.s.a c.s.l.length c.s.cap, .int .i64 c.gate, .int .i64 c.quota] 29) := ⟨_, rfl⟩
    have hbW1 : Below w1.heap.size w1 W1 := by rw [hW1]; exact (Below.refl _ _).alloc (Nat.le_refl _) _
    have HX1 : Hid (ObjAt W1 w1.heap.size 29 (cfgL c)) := by rw [hW1]; exact ObjAt.new w1 _ _
    have HB1 := Lib.hid (bmore b1 hbW1)
    have HOK1 := Lib.hid (ok1.below hbW1)
    have HPC1 := Lib.hid p1
    have HW1 := Lib.hid hW1
    clear h1 ok1 p1 b1 hbW1 hW1 HP1
    go_upto_region 4 with fail
    rw [← HW1.out]
    generalize w1.heap.size = x1 at HX1 ⊢
    go_wp2_with fail
    refine ((HP2 _).out).mono ?_; intro e w2 h2
    obtain ⟨d, rfl, ok2, p2, b2⟩ := HPU.out _ _ _ h2
    obtain ⟨W2, hW2⟩ : ∃ W2, W2 = w2.alloc (.cells #[.int .i64 d.cats, .slice d.g.a d.g.l.length d.g.cap, .slice d.r.a d.r.l.length d.r.cap, .slice d.p.a d.p.l.length d.p.cap, .slice d.n.a d.n.l.length d.n.cap, .slice d.s.a d.s.l.length d.s.cap, .int .i64 d.gate, .int .i64 d.quota] 29) := ⟨_, rfl⟩
    have hbW2 : Below w2.heap.size w2 W2 := by rw [hW2]; exact (Below.refl _ _).alloc (Nat.le_refl _) _
    have HX2 : Hid (ObjAt W2 w2.heap.size 29 (cfgL d)) := by rw [hW2]; exact ObjAt.new w2 _ _
    have HB2 := Lib.hid (bmore (bmore HB1.out b2) hbW2)
    have HX1b := Lib.hid ((HX1.out.below b2).below hbW2)
    have HOK1b := Lib.hid ((HOK1.out.below b2).below hbW2)
    have HOK2 := Lib.hid (ok2.below hbW2)
    have HPC2 := Lib.hid p2
    have HW2 := Lib.hid hW2
    clear h2 ok2 p2 b2 hbW2 hW2 HP2 HX1 HOK1
    go_upto_region 5 with fail
    rw [← HW2.out]
    generalize w2.heap.size = x2 at HX2 ⊢
    have p0 := (HX1b.out).cell 0 _ rfl; have p1 := (HX1b.out).cell 1 _ rfl; have p2 := (HX1b.out).cell 2 _ rfl; have p3 := (HX1b.out).cell 3 _ rfl; have p4 := (HX1b.out).cell 4 _ rfl; have p5 := (HX1b.out).cell 5 _ rfl; have p6 := (HX1b.out).cell 6 _ rfl; have p7 := (HX1b.out).cell 7 _ rfl
    have q0 := (HX2.out).cell 0 _ rfl; have q1 := (HX2.out).cell 1 _ rfl; have q2 := (HX2.out).cell 2 _ rfl; have q3 := (HX2.out).cell 3 _ rfl; have q4 := (HX2.out).cell 4 _ rfl; have q5 := (HX2.out).cell 5 _ rfl; have q6 := (HX2.out).cell 6 _ rfl; have q7 := (HX2.out).cell 7 _ rfl
    have HSA := Lib.hid (same_any W2 c d HOK1b.out HOK2.out (HPC1.out.trans HPC2.out.symm))
    go_wp2_with (first | (go_at_call 9; refine HSA.out.mono ?_; rintro e w8 ⟨rfl, b8⟩; have HB8 := Lib.hid (bmore HB2.out b8); clear b8) | (go_at_call 6; refine (HAW.out _ HB8.out).mono ?_; rintro e w9 ⟨rfl, b9⟩; have HB9 := Lib.hid (bmore HB8.out b9); clear b9))
    go_ret
    exact ⟨rfl, HB9.out⟩
end Go.Proofs.YtoalpdjpljapbaaDoor
/- The tables that the rows of chapter 05 list. -/
namespace Go.Proofs.YtoalpdjpljapbaaDoor
set_option linter.unusedVariables false
set_option linter.unusedSimpArgs false
set_option linter.unnecessarySimpa false
open Go.ChangeShapes Go.WideShapes Go.ChangeAt Go.RowKit
set_option linter.unusedVariables false
set_option maxRecDepth 100000
def keepN (n : String) (x : String × DataW Unit) : Bool := x.1 == n
def wordsI : List Int := [2, 4, 4, 3, 3, 3, 3]
theorem word_of {W : World} (h : laidMetH Tryd.prog Rows.planWordsRow.laid W) : WdTab W := by
  have h2 : laidMetH Tryd.prog [("hermitage/plan.words", Rows.laid_hermitage_plan_words)] W := h.filter (keepN "hermitage/plan.words")
  have hg : Tryd.prog.globalNamed "hermitage/plan.words" = some 0 := by kernel_rfl
  have h3 : Lib.TabIs Tryd.prog W "hermitage/plan.words" .i64 wordsI := Lib.tabIs_of_head (rest := []) (g := 0) (t := 88) (e := 3) (n := 7) hg (by kernel_rfl) Tryd.underlying88 Tryd.underlying3 (by kernel_rfl) (by kernel_rfl) h2
  intro k hk
  have := h3.cell hg k hk
  rcases (by omega : k = 0 ∨ k = 1 ∨ k = 2 ∨ k = 3 ∨ k = 4 ∨ k = 5 ∨ k = 6) with rfl | rfl | rfl | rfl | rfl | rfl | rfl <;> exact this
def tabAcc : List Int := [128, 191, 160, 191, 128, 159, 144, 191, 128, 143, 0, 0, 0, 0, 0, 0, 0, 0, 0, 0, 0, 0, 0, 0, 0, 0, 0, 0, 0, 0, 0, 0]
noncomputable def layT (g : Nat) (vs : List Value) (h : Array Obj) : Array Obj := h.modify g fun
  | .cells _ t frozen => .cells vs.toArray t frozen
  | o => o
noncomputable def layAll (h : Array Obj) : Array Obj :=
  layT 2 (Go.Pinned.utf8FirstZ.map fun (n : Nat) => Value.int .u8 n) (layT 3 (tabAcc.map (Value.int .u8)) (layT 0 (wordsI.map (Value.int .i64)) h))
end Go.Proofs.YtoalpdjpljapbaaDoor
