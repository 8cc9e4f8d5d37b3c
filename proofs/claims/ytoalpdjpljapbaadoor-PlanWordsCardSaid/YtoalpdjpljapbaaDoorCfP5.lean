/- Package parts: Give, New, Len. -/
import Derived.Test.YtoalpdjpljapbaaDoorCfIns
namespace Go.Proofs.YtoalpdjpljapbaaDoor
set_option linter.unusedVariables false
set_option linter.unusedSimpArgs false
set_option linter.unnecessarySimpa false
open Go.RowKit Go.Sort
set_option maxHeartbeats 400000
set_option maxRecDepth 100000

/-- May these places be asked for? -/
def wellG (n : Nat) (f m who : Int) : Bool := decide (0 ≤ f) && decide (1 ≤ m) && decide (f ≤ n) && decide (m ≤ n - f) && decide (0 ≤ who) && decide (who < 64)
theorem wellG_iff (n : Nat) (f m who : Int) : wellG n f m who = true ↔ 0 ≤ f ∧ 1 ≤ m ∧ f ≤ n ∧ m ≤ n - f ∧ 0 ≤ who ∧ who < 64 := by simp [wellG, and_assoc]
/-- The runs with one more. -/
def addR (R : List Rn) (f m who : Nat) : List Rn := R.take (meetV f m R).1 ++ (f, m, who) :: R.drop (meetV f m R).1
def giveV (n : Nat) (R : List Rn) (f m who : Int) : Int × List Rn :=
  if wellG n f m who then (if (meetV f.toNat m.toNat R).2 then (5, R) else (0, addR R f.toNat m.toNat who.toNat)) else (1, R)
theorem meet_le (f m : Nat) : ∀ R, (meetV f m R).1 ≤ R.length
  | [] => Nat.le_refl _
  | r :: R => by
    have := meet_le f m R
    unfold meetV
    split <;> simp <;> omega
theorem meet_parts (f m : Nat) : ∀ R : List Rn, R.Pairwise (fun r s => r.1 + r.2.1 ≤ s.1) → (∀ r ∈ R, 1 ≤ r.2.1) → (meetV f m R).2 = false → (∀ r ∈ R.take (meetV f m R).1, r.1 + r.2.1 ≤ f) ∧ (∀ r ∈ R.drop (meetV f m R).1, f + m ≤ r.1)
  | [], _, _, _ => ⟨by simp [meetV], by simp [meetV]⟩
  | r :: R, hp, hn, h => by
    rw [List.pairwise_cons] at hp
    have ih := meet_parts f m R hp.2 (fun s hs => hn s (by simp [hs]))
    unfold meetV at h ⊢
    by_cases h0 : r.1 + r.2.1 ≤ f
    · rw [if_pos h0] at h ⊢
      dsimp only at h ⊢
      obtain ⟨i1, i2⟩ := ih h
      refine ⟨fun s hs => ?_, by simpa using i2⟩
      rw [List.take_succ_cons, List.mem_cons] at hs
      rcases hs with rfl | hs
      · exact h0
      · exact i1 s hs
    · rw [if_neg h0] at h ⊢
      simp only [decide_eq_false_iff_not] at h
      refine ⟨by simp, fun s hs => ?_⟩
      rw [List.drop_zero, List.mem_cons] at hs
      rcases hs with rfl | hs
      · omega
      · have := hp.1 s hs
        have := hn r (by simp)
        omega
theorem Okr.add {n : Nat} {R : List Rn} (h : Okr n R) {f m who : Nat} (hm : 1 ≤ m) (hf : f + m ≤ n) (hw : who < 64) (hh : (meetV f m R).2 = false) : Okr n (addR R f m who) := by
  obtain ⟨h1, h2⟩ := meet_parts f m R h.sorted (fun r hr => (h.each r hr).1) hh
  have hs := h.sorted
  rw [← List.take_append_drop (meetV f m R).1 R, List.pairwise_append] at hs
  refine ⟨h.n64, fun r hr => ?_, ?_⟩
  · rw [addR, List.mem_append, List.mem_cons] at hr
    rcases hr with hr | rfl | hr
    · exact h.each r (List.mem_of_mem_take hr)
    · exact ⟨hm, hf, hw⟩
    · exact h.each r (List.mem_of_mem_drop hr)
  · rw [addR, List.pairwise_append, List.pairwise_cons]
    refine ⟨hs.1, ⟨fun s hs' => h2 s hs', hs.2.1⟩, fun r hr s hs' => ?_⟩
    rcases List.mem_cons.1 hs' with rfl | hs'
    · exact h1 r hr
    · exact hs.2.2 r hr s hs'
/-- What an act on a table leaves. -/
def TPost (B tt n : Nat) (a : Option Addr) (r : Value) (R' : List Rn) (w : World) (e : Ending) (w' : World) : Prop :=
  ∃ a' cap', e = .returned r ∧ TSt w' B tt a' cap' n R' ∧ Mod (tt :: blk a) w w' ∧ ∀ k ∈ blk a', k ∈ blk a ∨ w.heap.size ≤ k
set_option maxHeartbeats 1600000 in
theorem give_any (B tt cap n : Nat) (a : Option Addr) (R : List Rn) (f m who : Int) (w : World) (h : TSt w B tt a cap n R) (hB : B ≤ w.heap.size) : Calls Tryd.prog 61 #[.pointer (some ⟨tt, 0, none⟩), .int .i64 f, .int .i64 m, .int .i64 who] w (TPost B tt n a (.int .i64 (giveV n R f m who).1) (giveV n R f m who).2 w) := by
  have H := Lib.hid h
  have HN := Lib.hid (none_no B tt cap n a R w h)
  have c0 := h.obj.cell 0 _ rfl
  have c1 := h.obj.cell 1 _ rfl
  have hn64 := h.ok.n64
  have hfew := h.ok.few
  have HE : Hid (∀ r, TPost B tt n a r R w (.returned r) w) := fun r => ⟨a, cap, rfl, H.out, Mod.refl _ _, fun k hk => .inl hk⟩
  by_cases hw : wellG n f m who = true
  · obtain ⟨w1, w2, w3, w4, w5, w6⟩ := (wellG_iff _ _ _ _).1 hw
    obtain ⟨F, rfl⟩ := Int.eq_ofNat_of_zero_le w1
    obtain ⟨M, rfl⟩ := Int.eq_ofNat_of_zero_le (show 0 ≤ m by omega)
    obtain ⟨V, rfl⟩ := Int.eq_ofNat_of_zero_le w5
    have HG : Hid (giveV n R F M V = if (meetV F M R).2 then (5, R) else (0, addR R F M V)) := by rw [Hid, giveV, if_pos hw]; rfl
    have HM := Lib.hid (meets_any B tt cap n a R F M (by omega) (by omega) w h)
    have hFn : F ≤ n := by omega
    have hMn : M ≤ n - F := by omega
    have hV64 : V < 64 := by omega
    have e1 : decide ((F : Int) < 0) = false := by simp
    have e2 : decide ((M : Int) < 1) = false := by simp; omega
    have e3 : decide ((n : Int) < (F : Int)) = false := by simp; omega
    have e4 : decide ((n : Int) - F < (M : Int)) = false := by simp; omega
    have e5 : decide ((V : Int) < 0) = false := by simp
    have e6 : decide ((64 : Int) ≤ (V : Int)) = false := by simp; omega
    have e7 : decide (n < F) = false := by simp; omega
    have HOK : Hid ((meetV F M R).2 = false → Okr n (addR R F M V)) := fun hh => h.ok.add (by omega) (by omega) (by omega) hh
    have hml := meet_le F M R
    obtain ⟨K, hK⟩ : ∃ K, K = (meetV F M R).1 := ⟨_, rfl⟩
    have HAD : Hid (addR R F M V = R.take K ++ (F, M, V) :: R.drop K) := by rw [Hid, hK]; rfl
    rw [← hK] at HM hml
    clear h hw w1 w2 w3 w4 w5 w6
    cases hh : (meetV F M R).2
    · have HOKR := Lib.hid (HOK.out hh)
      have HGV : Hid (giveV n R F M V = (0, addR R F M V)) := by rw [Hid, HG.out, hh]; rfl
      rw [hh] at HM
      clear hK hh HG HOK
      go_enter Tryd.func61, Tryd.ntmps61
      go_wp2_with fail
      refine HN.out.mono ?_; rintro e w' ⟨rfl, rfl⟩
      go_wp2_with fail
      refine HM.out.mono ?_; rintro e w2 ⟨rfl, hb2⟩
      have h2 := Lib.hid (H.out.below hb2)
      have d0 := h2.out.obj.cell 0 _ rfl
      have HB2 := Lib.hid hb2
      clear hb2 c0 c1
      go_wp2_with fail
      refine (cloneR_any _ _ _ _ _ h2.out.own.rd (rn_one _) (by omega)).mono ?_; rintro e w3 ⟨a3, c3, rfl, hown3, hb3⟩
      have HO3 := Lib.hid hown3
      have HB3 := Lib.hid (bmore HB2.out hb3)
      have h3 := Lib.hid (h2.out.below hb3)
      have hz23 := hb3.size
      clear hown3 hb3 d0
      go_wp2_with fail
      have hlt3 := h3.out.obj.lt
      have HB0 := HB3.out.size
      obtain ⟨W4, hW4⟩ : ∃ W, W = w3.alloc (.cells #[.int .i64 F, .int .i64 M, .int .i64 V] 132) := ⟨_, rfl⟩
      have hal : Below w3.heap.size w3 W4 := by rw [hW4]; exact (Below.refl _ _).alloc (Nat.le_refl _) _
      have hg4 : W4.heap[w3.heap.size]? = some (.cells (rnC (F, M, V)).toArray 132 (0, 0)) := by rw [hW4]; exact new_block w3 _ _ rfl
      have hs4 : W4.heap.size = w3.heap.size + 1 := by rw [hW4]; simp
      rw [← hW4]
      clear hW4
      have h4 := Lib.hid (h3.out.below hal)
      have HO4 := Lib.hid (HO3.out.below hal)
      have hg3 : w3.heap.size ∉ blk a3 := fun hk => by have := (HO3.out.ge _ hk).2; omega
      have HM4 : Hid (Mod [] w W4) := Mod.ofBelow (bmore HB3.out hal)
      have HB2z := HB2.out.size
      refine (insert_any w2.heap.size w3.heap.size c3 K a3 R (F, M, V) W4 HO4.out hg4 hg3 hfew hml (by omega)).mono ?_; rintro e w5 ⟨a5, c5, rfl, hown5, hmod5, hat5⟩
      have ho5 := (h4.out.obj.mod hmod5 (fun hk => by have := (HO3.out.ge _ hk).1; have := H.out.obj.lt; omega))
      have q0 := ho5.cell 0 _ rfl
      have qf := ho5.free 0
      have HP : Hid (TPost B tt n a (.int .i64 0) (R.take K ++ (F, M, V) :: R.drop K) w (.returned (.int .i64 0)) (w5.setCell ⟨tt, 0, none⟩ (.slice a5 (R.length + 1) c5))) := by
        have hlen : (R.take K ++ (F, M, V) :: R.drop K).length = R.length + 1 := by simp; omega
        have hge := hown5.ge
        have hmw : Mod [] w w5 := HM4.out.then hmod5 (fun k hk hl => by have := (HO3.out.ge k hk).1; omega)
        refine ⟨a5, c5, rfl, ⟨by rw [hlen]; exact ho5.set 0 _, ?_, by rw [← HAD.out]; exact HOKR.out⟩, ?_, fun k hk => .inr (by have := (hge k hk).1; omega)⟩
        · rw [hlen]
          exact (hown5.mono (by omega)).upd (Upd.setCell w5 ⟨tt, 0, none⟩ _) (fun hk => by have := (hge tt hk).1; have := H.out.obj.lt; omega)
        · exact (hmw.mono (fun k _ hk => by simp at hk)).setCell ⟨tt, 0, none⟩ _ (.inl (by simp))
      clear hown5 hmod5 hat5 ho5 hg4 hg3 hal h4 HO4 HM4
      go_wp2_with fail
      go_ret
      rw [HGV.out, HAD.out]
      exact HP.out
    · have HGV : Hid (giveV n R F M V = (5, R)) := by rw [Hid, HG.out, hh]; rfl
      rw [hh] at HM
      clear hK hh HG HOK
      go_enter Tryd.func61, Tryd.ntmps61
      go_wp2_with fail
      refine HN.out.mono ?_; rintro e w' ⟨rfl, rfl⟩
      go_wp2_with fail
      refine HM.out.mono ?_; rintro e w2 ⟨rfl, hb2⟩
      go_wp2_with fail
      go_ret
      rw [HGV.out]
      exact ⟨a, cap, rfl, H.out.below hb2, Mod.ofBelow hb2, fun k hk => .inl hk⟩
  · have HG : Hid (giveV n R f m who = (1, R)) := by rw [Hid, giveV, if_neg hw]
    have hw' : ¬ (0 ≤ f ∧ 1 ≤ m ∧ f ≤ n ∧ m ≤ n - f ∧ 0 ≤ who ∧ who < 64) := fun hc => hw ((wellG_iff n f m who).2 hc)
    clear h hw
    by_cases g1 : f < 0
    · have e1 : decide (f < 0) = true := by simpa using g1
      clear hw'
      ((go_enter Tryd.func61, Tryd.ntmps61); (go_wp2_with fail); (refine HN.out.mono ?_; rintro e w' ⟨rfl, rfl⟩); (go_wp2_with fail); go_ret; (rw [HG.out]); exact HE.out _)
    · have e1 : decide (f < 0) = false := by simpa using g1
      by_cases g2 : m < 1
      · have e2 : decide (m < 1) = true := by simpa using g2
        clear hw'
        ((go_enter Tryd.func61, Tryd.ntmps61); (go_wp2_with fail); (refine HN.out.mono ?_; rintro e w' ⟨rfl, rfl⟩); (go_wp2_with fail); go_ret; (rw [HG.out]); exact HE.out _)
      · have e2 : decide (m < 1) = false := by simpa using g2
        by_cases g3 : (n : Int) < f
        · have e3 : decide ((n : Int) < f) = true := by simpa using g3
          clear hw'
          ((go_enter Tryd.func61, Tryd.ntmps61); (go_wp2_with fail); (refine HN.out.mono ?_; rintro e w' ⟨rfl, rfl⟩); (go_wp2_with fail); go_ret; (rw [HG.out]); exact HE.out _)
        · have e3 : decide ((n : Int) < f) = false := by simpa using g3
          by_cases g4 : (n : Int) - f < m
          · have e4 : decide ((n : Int) - f < m) = true := by simpa using g4
            clear hw'
            ((go_enter Tryd.func61, Tryd.ntmps61); (go_wp2_with fail); (refine HN.out.mono ?_; rintro e w' ⟨rfl, rfl⟩); (go_wp2_with fail); go_ret; (rw [HG.out]); exact HE.out _)
          · have e4 : decide ((n : Int) - f < m) = false := by simpa using g4
            by_cases g5 : who < 0
            · have e5 : decide (who < 0) = true := by simpa using g5
              clear hw'
              ((go_enter Tryd.func61, Tryd.ntmps61); (go_wp2_with fail); (refine HN.out.mono ?_; rintro e w' ⟨rfl, rfl⟩); (go_wp2_with fail); go_ret; (rw [HG.out]); exact HE.out _)
            · have e5 : decide (who < 0) = false := by simpa using g5
              have e6 : decide ((64 : Int) ≤ who) = true := by simp; omega
              clear hw'
              ((go_enter Tryd.func61, Tryd.ntmps61); (go_wp2_with fail); (refine HN.out.mono ?_; rintro e w' ⟨rfl, rfl⟩); (go_wp2_with fail); go_ret; (rw [HG.out]); exact HE.out _)
/-- parts.New. -/
theorem tnew_yes (n : Nat) (hn : n ≤ 64) (w : World) : Calls Tryd.prog 59 #[.int .i64 n] w fun e w' => e = .returned (.tuple #[.pointer (some ⟨w.heap.size, 0, none⟩), .int .i64 0]) ∧ TSt w' w.heap.size w.heap.size none 0 n [] ∧ Below w.heap.size w w' := by
  have e1 : decide ((n : Int) < 0) = false := by simp
  have e2 : decide ((64 : Int) < (n : Int)) = false := by simp; omega
  have HP : Hid (TSt (w.alloc (.cells #[.slice none 0 0, .int .i64 n, .bool true] 128)) w.heap.size w.heap.size none 0 n []) := ⟨new_block w _ _ rfl, Own.nil _ _ _ _, Okr.nil hn⟩
  go_enter Tryd.func59, Tryd.ntmps59
  go_wp2
  go_ret2
  exact ⟨rfl, HP.out, (Below.refl _ _).alloc (Nat.le_refl _) _⟩
theorem tnew_no (n : Int) (hn : n < 0 ∨ 64 < n) (w : World) : Calls Tryd.prog 59 #[.int .i64 n] w fun e w' => e = .returned (.tuple #[.pointer none, .int .i64 1]) ∧ w = w' := by
  by_cases h0 : n < 0
  · have e1 : decide (n < 0) = true := by simpa using h0
    clear hn
    go_enter Tryd.func59, Tryd.ntmps59
    go_wp2
    go_ret2
    exact ⟨rfl, rfl⟩
  · have e1 : decide (n < 0) = false := by simpa using h0
    have e2 : decide (64 < n) = true := by simp; omega
    clear hn
    go_enter Tryd.func59, Tryd.ntmps59
    go_wp2
    go_ret2
    exact ⟨rfl, rfl⟩
end Go.Proofs.YtoalpdjpljapbaaDoor
