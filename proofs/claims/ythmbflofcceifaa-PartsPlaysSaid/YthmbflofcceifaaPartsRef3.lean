/- Package hermitageref03: Give; what both tell. -/
import Derived.Test.YthmbflofcceifaaPartsRef2
namespace Go.Proofs.Ythmbflofcceifaa
set_option linter.unusedVariables false
set_option linter.unusedSimpArgs false
set_option linter.unnecessarySimpa false
open Go.RowKit Go.Sort
set_option maxHeartbeats 400000
set_option maxRecDepth 100000

theorem negF_neg {f : Nat → Int} {a : Nat} : ∀ b, (∀ i, a ≤ i → i < a + b → f i < 0) → negF f (a + b) = negF f a + b
  | 0, _ => rfl
  | b + 1, h => by
    have ih := negF_neg b (fun i h1 h2 => h i h1 (by omega))
    rw [← Nat.add_assoc, negF, ih, if_pos (h _ (by omega) (by omega))]
    omega
theorem negF_pos {f : Nat → Int} {a : Nat} : ∀ b, (∀ i, a ≤ i → i < a + b → 0 ≤ f i) → negF f (a + b) = negF f a
  | 0, _ => rfl
  | b + 1, h => by
    have ih := negF_pos b (fun i h1 h2 => h i h1 (by omega))
    have := h (a + b) (by omega) (by omega)
    rw [← Nat.add_assoc, negF, ih, if_neg (by omega)]
    omega
theorem negF_congr {f g : Nat → Int} : ∀ k, (∀ i, i < k → f i = g i) → negF f k = negF g k
  | 0, _ => rfl
  | k + 1, h => by rw [negF, negF, negF_congr k (fun i hi => h i (by omega)), h k (by omega)]
theorem ofF_hit {f : Nat → Int} {who : Int} {a : Nat} (hw : 0 ≤ who) : ∀ b, (∀ i, a ≤ i → i < a + b → f i = who) → ofF f who (a + b) = ofF f who a ++ ofRow a b
  | 0, _ => by simp [ofRow]
  | b + 1, h => by
    have ih := ofF_hit hw b (fun i h1 h2 => h i h1 (by omega))
    rw [← Nat.add_assoc, ofF, ih, if_pos ⟨h _ (by omega) (by omega), hw⟩, ofRow_succ, List.append_assoc]
theorem ofF_miss {f : Nat → Int} {who : Int} {a : Nat} : ∀ b, (∀ i, a ≤ i → i < a + b → ¬ (f i = who ∧ 0 ≤ who)) → ofF f who (a + b) = ofF f who a
  | 0, _ => rfl
  | b + 1, h => by
    have ih := ofF_miss b (fun i h1 h2 => h i h1 (by omega))
    rw [← Nat.add_assoc, ofF, ih, if_neg (h _ (by omega) (by omega)), List.append_nil]
theorem ofF_congr {f g : Nat → Int} {who : Int} : ∀ k, (∀ i, i < k → f i = g i) → ofF f who k = ofF g who k
  | 0, _ => rfl
  | k + 1, h => by rw [ofF, ofF, ofF_congr k (fun i hi => h i (by omega)), h k (by omega)]
/-- The last run of a table, taken off. -/
theorem Okr.pop {n : Nat} {M : List Rn} {r : Rn} (h : Okr n (M ++ [r])) : Okr r.1 M ∧ 1 ≤ r.2.1 ∧ r.1 + r.2.1 ≤ n ∧ (∀ i, i < r.1 → ownV (M ++ [r]) i = ownV M i) ∧ (∀ i, r.1 ≤ i → i < r.1 + r.2.1 → ownV (M ++ [r]) i = r.2.2) ∧ (∀ i, r.1 + r.2.1 ≤ i → ownV (M ++ [r]) i = -1) := by
  have h0 := h.each r (by simp)
  have h64 := h.n64
  have hs := h.sorted
  rw [List.pairwise_append] at hs
  have hM : ∀ q ∈ M, q.1 + q.2.1 ≤ r.1 := fun q hq => hs.2.2 q hq r (by simp)
  refine ⟨⟨by omega, fun q hq => ?_, hs.1⟩, h0.1, h0.2.1, fun i hi => ?_, fun i hi hj => ?_, fun i hi => ?_⟩
  · have := h.each q (by simp [hq])
    have := hM q hq
    omega
  · exact ownV_app0 (fun q hq => by simp at hq; subst hq; omega)
  · rw [ownV_app (fun q hq => by have := hM q hq; omega), ownV_cons, if_pos ⟨hi, hj⟩]
  · refine ownV_off (fun q hq => ?_)
    rw [List.mem_append, List.mem_singleton] at hq
    rcases hq with hq | rfl
    · have := hM q hq; omega
    · omega
theorem neg_free : ∀ (k n : Nat) (R : List Rn), R.length = k → Okr n R → (negF (ownV R) n : Int) = freeV n R
  | 0, n, R, h, _ => by
    obtain rfl : R = [] := List.eq_nil_of_length_eq_zero h
    have := negF_neg (f := ownV []) (a := 0) n (fun i _ _ => by simp [ownV])
    rw [Nat.zero_add] at this
    rw [this]
    simp [negF, freeV]
  | k + 1, n, R, h, hok => by
    rcases List.eq_nil_or_concat R with rfl | ⟨M, r, rfl⟩
    · simp at h
    · rw [List.concat_eq_append] at *
      obtain ⟨p1, p2, p3, p4, p5, p6⟩ := hok.pop
      have ih := neg_free k r.1 M (by simpa using h) p1
      have a1 := negF_neg (f := ownV (M ++ [r])) (a := r.1 + r.2.1) (n - (r.1 + r.2.1)) (fun i hi _ => by rw [p6 i hi]; decide)
      have a2 := negF_pos (f := ownV (M ++ [r])) (a := r.1) r.2.1 (fun i hi hj => by rw [p5 i hi hj]; omega)
      have a3 := negF_congr r.1 (fun i hi => p4 i hi)
      rw [show r.1 + r.2.1 + (n - (r.1 + r.2.1)) = n by omega] at a1
      rw [a1, a2, a3, freeV_snoc]
      unfold freeV at ih ⊢
      omega
theorem of_all (who : Int) : ∀ (k n : Nat) (R : List Rn), R.length = k → Okr n R → ofF (ownV R) who n = ofV who R
  | 0, n, R, h, _ => by
    obtain rfl : R = [] := List.eq_nil_of_length_eq_zero h
    have := ofF_miss (f := ownV []) (who := who) (a := 0) n (fun i _ _ => by simp [ownV]; omega)
    rw [Nat.zero_add] at this
    rw [this]
    rfl
  | k + 1, n, R, h, hok => by
    rcases List.eq_nil_or_concat R with rfl | ⟨M, r, rfl⟩
    · simp at h
    · rw [List.concat_eq_append] at *
      obtain ⟨p1, p2, p3, p4, p5, p6⟩ := hok.pop
      have ih := of_all who k r.1 M (by simpa using h) p1
      have a1 := ofF_miss (f := ownV (M ++ [r])) (who := who) (a := r.1 + r.2.1) (n - (r.1 + r.2.1)) (fun i hi _ => by rw [p6 i hi]; omega)
      have a3 := ofF_congr (who := who) r.1 (fun i hi => p4 i hi)
      rw [show r.1 + r.2.1 + (n - (r.1 + r.2.1)) = n by omega] at a1
      rw [a1, ofV_snoc, stepOf]
      by_cases e : (r.2.2 : Int) = who
      · rw [if_pos e, ofF_hit (by omega) r.2.1 (fun i hi hj => by rw [p5 i hi hj]; exact e), a3, ih]
      · rw [if_neg e, ofF_miss r.2.1 (fun i hi hj => by rw [p5 i hi hj]; exact fun hc => e hc.1), a3, ih]
theorem who_same {n : Nat} {R : List Rn} (hok : Okr n R) (i : Int) : rwhoV (ownV R) n i = whoV R i := by
  unfold rwhoV
  by_cases h : 0 ≤ i ∧ i < n
  · obtain ⟨k, rfl⟩ := Int.eq_ofNat_of_zero_le h.1
    rw [ownV_who]
    simp only [Int.toNat_natCast]
    by_cases h0 : 0 ≤ ownV R k
    · rw [if_pos ⟨h.1, h.2, h0⟩, if_pos h0]
    · rw [if_neg (fun hc => h0 hc.2.2), if_neg h0]
  · rw [who_out hok h, if_neg (fun hc => h ⟨hc.1, hc.2.1⟩)]
def RPost (B rr N : Nat) (a : Option Addr) (r : Value) (f : Nat → Int) (w : World) (e : Ending) (w' : World) : Prop :=
  ∃ a' c', e = .returned r ∧ RT w' B rr a' c' f N ∧ Mod (rr :: blk a) w w' ∧ ∀ k ∈ blk a', k ∈ blk a ∨ w.heap.size ≤ k
set_option maxHeartbeats 3200000 in
theorem rgive_any (B rr c N : Nat) (a : Option Addr) (R : List Rn) (x y z : Int) (w : World) (hok : Okr N R) (h : RT w B rr a c (ownV R) N) (hB : B ≤ w.heap.size) : Calls Try.prog 17 #[.pointer (some ⟨rr, 0, none⟩), .int .i64 x, .int .i64 y, .int .i64 z] w (RPost B rr N a (.int .i64 (giveV N R x y z).1) (ownV (giveV N R x y z).2) w) := by
  obtain ⟨i0, hi0, hz0, hz1, hz2⟩ := info_parts info_int
  have c0 := h.obj.cell 0 _ rfl
  have H := Lib.hid h
  have hn64 := hok.n64
  have hrr := h.obj.lt
  have HE : Hid (∀ r, RPost B rr N a r (ownV R) w (.returned r) w) := fun r => ⟨a, c, rfl, H.out, Mod.refl _ _, fun k hk => .inl hk⟩
  by_cases hw : wellG N x y z = true
  · obtain ⟨w1, w2, w3, w4, w5, w6⟩ := (wellG_iff _ _ _ _).1 hw
    obtain ⟨F, rfl⟩ := Int.eq_ofNat_of_zero_le w1
    obtain ⟨M, rfl⟩ := Int.eq_ofNat_of_zero_le (show 0 ≤ y by omega)
    obtain ⟨V, rfl⟩ := Int.eq_ofNat_of_zero_le w5
    have HG : Hid (giveV N R F M V = if (meetV F M R).2 then (5, R) else (0, addR R F M V)) := by rw [Hid, giveV, if_pos hw]; rfl
    have hM1 : 1 ≤ M := by omega
    have hFM : F + M ≤ N := by omega
    have e1 : decide ((F : Int) < 0) = false := by simp
    have e2 : decide ((M : Int) < 1) = false := by simp; omega
    have e3 : decide ((N : Int) < (F : Int)) = false := by simp; omega
    have e3' : decide (N < F) = false := by simp; omega
    have e4 : decide ((N : Int) - F < (M : Int)) = false := by simp; omega
    have e5 : decide ((V : Int) < 0) = false := by simp
    have e6 : decide ((64 : Int) ≤ (V : Int)) = false := by simp; omega
    have hwr : IntKind.i64.wrap ((N : Int) - F) = (N : Int) - F := IntWalk.i64_in _ (by omega)
    clear w1 w2 w3 w4 w5 w6 hw h
    cases hh : (meetV F M R).2
    · have HGV : Hid (giveV N R F M V = (0, addR R F M V)) := by rw [Hid, HG.out, hh]; rfl
      have HNO : Hid (∀ j, j < M → ownV R (F + j) < 0) := fun j hj => by
        by_cases h1 : 0 ≤ ownV R (F + j)
        · have := (meet_hit (f := F) hok hM1).2 ⟨F + j, by omega, by omega, h1⟩
          rw [hh] at this
          cases this
        · omega
      have HAD := Lib.hid (fun i => ownV_add (who := V) hok hM1 hh i)
      have HL : Hid ((fC (ownV R) N).length = N * 1) := by rw [Hid, fC_len, Nat.mul_one]
      have HEM := Lib.hid (own_empty w 3 1)
      clear hh HG HE
      go_enter Try.func17, Try.ntmps17
      go_wp2_with fail
      go_loopw [9] (fun i wr => ∃ k : Nat, k ≤ M ∧ i = .int .i64 k ∧ w = wr) (fun i _ => M - (intOf i).toNat)
      case atStart => exact ⟨0, Nat.zero_le _, rfl, rfl⟩
      case round =>
        obtain ⟨k, hk, rfl, rfl⟩ := hrel
        by_cases g : k < M
        · have d : decide ((k : Int) < (M : Int)) = true := by simp; omega
          obtain ⟨g', rfl, k0⟩ := H.out.at_ (F + k) (by omega)
          have hb0 : (0 : Int) ≤ (F : Int) + k := by omega
          have hb1 : (F : Int) + k < (N : Int) := by omega
          have hws : IntKind.i64.wrap ((F : Int) + k) = (F : Int) + k := IntWalk.i64_in _ (by omega)
          have hlo := HNO.out k g
          have d2 : decide (0 ≤ ownV R (F + k)) = false := by simp; omega
          generalize ownV R (F + k) = u at k0 d2
          clear hlo
          go_wp2_with fail
          go_roundw
          case rel => exact ⟨k + 1, by omega, by go_num, by first | rfl | trivial⟩
          case measure => simp [intOf]; omega
        · obtain rfl : k = M := by omega
          have d : decide ((k : Int) < (k : Int)) = false := by simp
          obtain ⟨g', rfl, _, hg'⟩ := H.out.own.at_ (by omega)
          have HN2 : Hid (∀ W, Below w.heap.size w W → ∀ j u, (fC (ownV R) N)[j]? = some u → W.cell? ((⟨g', 0, none⟩ : Addr).add j) = some u) := fun W hW j u hu => by
            have e : (⟨g', 0, none⟩ : Addr).add j = ⟨g', j, none⟩ := by unfold Addr.add; split <;> simp_all
            rw [e]; exact (hW.cell (p := ⟨g', j, none⟩) hg').trans (H.out.own.cell j u hu)
          go_wp2_with (at_builtin; (refine wpList_append_own_at _ rfl (.tmp 61) (.tmp 65) _ rfl w.heap.size 3 i0 _ 1 8 Try.underlying22 hi0 hz0 hz1 hz2 rfl (by omega) (.slice (some ⟨w.heap.size, 0, none⟩) 0 0) 0 [] rfl HEM.out ⟨g', 0, none⟩ N c (fC (ownV R) N) rfl HL.out (HN2.out _ ((Below.refl _ _).alloc (Nat.le_refl _) _)) (fC_one _ _) (by simp only [maxLen]; omega) (by omega) (by simp) ?_); intro v1 w1 hown1 hg1 hz hat1)
          obtain ⟨a4, c4, he4, hown4, hb4⟩ := clone_post (n := N) hown1 hg1
          cases he4
          have HO4 := Lib.hid hown4; have HB4 := Lib.hid hb4
          obtain ⟨g4, rfl, hg4, _⟩ := hown4.at_ (by omega)
          have hc4 := hown4.le
          clear hown1 hg1 hz hat1 hown4 hb4
          go_loopw [11] (fun i wr => ∃ j : Nat, j ≤ k ∧ i = .int .i64 j ∧ Own wr w.heap.size 3 1 (some ⟨g4, 0, none⟩) N c4 (fC (fun i => if F ≤ i ∧ i < F + j then (V : Int) else ownV R i) N) ∧ Below w.heap.size w wr) (fun i _ => k - (intOf i).toNat)
          case atStart => exact ⟨0, Nat.zero_le _, rfl, by rw [fC_congr (g := ownV R) (fun i _ => if_neg (by omega))]; exact HO4.out, HB4.out⟩
          case round =>
            clear HO4 HB4
            obtain ⟨j, hj, rfl, ho, hb⟩ := hrel
            have HO := Lib.hid ho; have HB := Lib.hid hb
            clear ho hb
            by_cases gj : j < k
            · have dj : decide ((j : Int) < (k : Int)) = true := by simp; omega
              have k0 := HO.out.cell (F + j) _ (fC_get _ (by omega))
              have kf := HO.out.free (F + j)
              have hb0 : (0 : Int) ≤ (F : Int) + j := by omega
              have hb1 : (F : Int) + j < (N : Int) := by omega
              have hws : IntKind.i64.wrap ((F : Int) + j) = (F : Int) + j := IntWalk.i64_in _ (by omega)
              have hs := Own.put HO.out (j := F + j) (by omega) (.int .i64 (V : Int))
              rw [fC_set, fC_congr (g := fun i => if F ≤ i ∧ i < F + (j + 1) then (V : Int) else ownV R i) (fun i hi => by
                by_cases h1 : i = F + j
                · rw [if_pos h1, if_pos (by omega)]
                · rw [if_neg h1]
                  by_cases h2 : F ≤ i ∧ i < F + j
                  · rw [if_pos h2, if_pos (by omega)]
                  · rw [if_neg h2, if_neg (by omega)])] at hs
              have hb2 := HB.out.setCell (p := ⟨g4, F + j, none⟩) hg4 (.int .i64 (V : Int))
              have HS := Lib.hid hs; have HB2 := Lib.hid hb2
              clear hs hb2
              generalize (if F ≤ F + j ∧ F + j < F + j then (V : Int) else ownV R (F + j)) = u at k0
              go_wp2_with fail
              go_roundw
              case rel => exact ⟨j + 1, by omega, by go_num, HS.out, HB2.out⟩
              case measure => simp [intOf]; omega
            · obtain rfl : j = k := by omega
              have dj : decide ((j : Int) < (j : Int)) = false := by simp
              have q0 := (HB.out.cell (p := ⟨rr, 0, none⟩) hrr).trans c0
              have ho := H.out.obj.below HB.out
              have qf := ho.free 0
              have hrn : rr ∉ blk (some ⟨g4, 0, none⟩) := fun hk => by have := (HO.out.ge rr hk).1; omega
              have HX : Hid (RPost B rr N (some ⟨g', 0, none⟩) (.int .i64 0) (ownV (addR R F j V)) w (.returned (.int .i64 0)) (wr.setCell ⟨rr, 0, none⟩ (.slice (some ⟨g4, 0, none⟩) N c4))) := by
                refine ⟨some ⟨g4, 0, none⟩, c4, rfl, ⟨ho.set 0 _, ?_⟩, (Mod.ofBelow HB.out).setCell ⟨rr, 0, none⟩ _ (.inl (by simp)), fun q hq => .inr ?_⟩
                · rw [fC_congr (g := fun i => if F ≤ i ∧ i < F + j then (V : Int) else ownV R i) (fun i _ => HAD.out i)]
                  exact (HO.out.mono hB).upd (Upd.setCell wr ⟨rr, 0, none⟩ _) hrn
                · exact (HO.out.ge q hq).1
              clear ho
              go_wp2_with fail
              go_ret
              rw [HGV.out]
              exact HX.out
    · have HGV : Hid (giveV N R F M V = (5, R)) := by rw [Hid, HG.out, hh]; rfl
      have HH := Lib.hid ((meet_hit hok hM1).1 hh)
      clear hh HG
      go_enter Try.func17, Try.ntmps17
      go_wp2_with fail
      go_loopw [9] (fun i wr => ∃ k : Nat, k ≤ M ∧ i = .int .i64 k ∧ w = wr ∧ ∀ j, j < k → ownV R (F + j) < 0) (fun i _ => M - (intOf i).toNat)
      case atStart => exact ⟨0, Nat.zero_le _, rfl, rfl, fun j hj => by omega⟩
      case round =>
        obtain ⟨k, hk, rfl, rfl, hlo⟩ := hrel
        have HLO := Lib.hid hlo
        clear hlo
        by_cases g : k < M
        · have d : decide ((k : Int) < (M : Int)) = true := by simp; omega
          obtain ⟨g', rfl, k0⟩ := H.out.at_ (F + k) (by omega)
          have hb0 : (0 : Int) ≤ (F : Int) + k := by omega
          have hb1 : (F : Int) + k < (N : Int) := by omega
          have hws : IntKind.i64.wrap ((F : Int) + k) = (F : Int) + k := IntWalk.i64_in _ (by omega)
          by_cases g2 : 0 ≤ ownV R (F + k)
          · have d2 : decide (0 ≤ ownV R (F + k)) = true := by simpa using g2
            generalize ownV R (F + k) = u at k0 d2
            clear g2 HLO HH
            go_wp2_with fail
            go_ret
            rw [HGV.out]
            exact HE.out _
          · have d2 : decide (0 ≤ ownV R (F + k)) = false := by simpa using g2
            have HL2 : Hid (∀ j, j < k + 1 → ownV R (F + j) < 0) := fun j hj => by
              rcases Nat.lt_or_ge j k with h | h
              · exact HLO.out j h
              · rw [show j = k by omega]; omega
            generalize ownV R (F + k) = u at k0 d2
            clear g2 HLO
            go_wp2_with fail
            go_roundw
            case rel => exact ⟨k + 1, by omega, by go_num, by first | rfl | trivial, HL2.out⟩
            case measure => simp [intOf]; omega
        · obtain rfl : k = M := by omega
          exfalso
          obtain ⟨i, h1, h2, h3⟩ := HH.out
          have := HLO.out (i - F) (by omega)
          rw [show F + (i - F) = i by omega] at this
          omega
  · have HG : Hid (giveV N R x y z = (1, R)) := by rw [Hid, giveV, if_neg hw]
    have hw' : ¬ (0 ≤ x ∧ 1 ≤ y ∧ x ≤ N ∧ y ≤ N - x ∧ 0 ≤ z ∧ z < 64) := fun hc => hw ((wellG_iff N x y z).2 hc)
    clear h hw
    by_cases g1 : x < 0
    · have e1 : decide (x < 0) = true := by simpa using g1
      clear hw'
      ((go_enter Try.func17, Try.ntmps17); (go_wp2_with fail); go_ret; (rw [HG.out]); exact HE.out _)
    · have e1 : decide (x < 0) = false := by simpa using g1
      by_cases g2 : y < 1
      · have e2 : decide (y < 1) = true := by simpa using g2
        clear hw'
        ((go_enter Try.func17, Try.ntmps17); (go_wp2_with fail); go_ret; (rw [HG.out]); exact HE.out _)
      · have e2 : decide (y < 1) = false := by simpa using g2
        by_cases g3 : (N : Int) < x
        · have e3 : decide ((N : Int) < x) = true := by simpa using g3
          clear hw'
          ((go_enter Try.func17, Try.ntmps17); (go_wp2_with fail); go_ret; (rw [HG.out]); exact HE.out _)
        · have e3 : decide ((N : Int) < x) = false := by simpa using g3
          have hwr : IntKind.i64.wrap ((N : Int) - x) = (N : Int) - x := IntWalk.i64_in _ (by omega)
          by_cases g4 : (N : Int) - x < y
          · have e4 : decide ((N : Int) - x < y) = true := by simpa using g4
            clear hw'
            ((go_enter Try.func17, Try.ntmps17); (go_wp2_with fail); go_ret; (rw [HG.out]); exact HE.out _)
          · have e4 : decide ((N : Int) - x < y) = false := by simpa using g4
            by_cases g5 : z < 0
            · have e5 : decide (z < 0) = true := by simpa using g5
              clear hw'
              ((go_enter Try.func17, Try.ntmps17); (go_wp2_with fail); go_ret; (rw [HG.out]); exact HE.out _)
            · have e5 : decide (z < 0) = false := by simpa using g5
              have e6 : decide ((64 : Int) ≤ z) = true := by simp; omega
              clear hw'
              ((go_enter Try.func17, Try.ntmps17); (go_wp2_with fail); go_ret; (rw [HG.out]); exact HE.out _)
end Go.Proofs.Ythmbflofcceifaa
