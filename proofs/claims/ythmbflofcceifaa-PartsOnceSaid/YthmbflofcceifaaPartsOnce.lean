/- The law PartsOnce. -/
import Derived.Test.YthmbflofcceifaaPartsAll
namespace Go.Proofs.Ythmbflofcceifaa
set_option linter.unusedVariables false
set_option linter.unusedSimpArgs false
set_option linter.unnecessarySimpa false
open Go.RowKit Go.Sort
set_option maxHeartbeats 400000
set_option maxRecDepth 100000

theorem giveV_cases (N : Nat) (R : List Rn) (x y z : Int) : (∃ e : Int, e ≠ 0 ∧ giveV N R x y z = (e, R)) ∨ ∃ f m v : Nat, x = f ∧ y = m ∧ z = v ∧ 1 ≤ m ∧ f + m ≤ N ∧ v < 64 ∧ (meetV f m R).2 = false ∧ giveV N R x y z = (0, addR R f m v) := by
  unfold giveV
  by_cases hw : wellG N x y z = true
  · rw [if_pos hw]
    obtain ⟨w1, w2, w3, w4, w5, w6⟩ := (wellG_iff _ _ _ _).1 hw
    obtain ⟨f, rfl⟩ := Int.eq_ofNat_of_zero_le w1
    obtain ⟨m, rfl⟩ := Int.eq_ofNat_of_zero_le (show 0 ≤ y by omega)
    obtain ⟨v, rfl⟩ := Int.eq_ofNat_of_zero_le w5
    simp only [Int.toNat_natCast]
    cases hh : (meetV f m R).2
    · exact .inr ⟨f, m, v, rfl, rfl, rfl, by omega, by omega, by omega, hh, by simp⟩
    · exact .inl ⟨5, by decide, by simp⟩
  · rw [if_neg hw]
    exact .inl ⟨1, by decide, rfl⟩
/-- What a place tells behind a gift. -/
theorem once_told {N : Nat} {R : List Rn} (hok : Okr N R) {f m v : Nat} (hm : 1 ≤ m) (hh : (meetV f m R).2 = false) {q : Rz} (hq : q ∈ runsV N R) (k : Nat) (hk : k < q.2.1) :
    (0 ≤ q.2.2 ∧ ¬ (f ≤ q.1 + k ∧ q.1 + k < f + m) ∧ whoV (addR R f m v) ((q.1 : Int) + k) = (q.2.2, true)) ∨
    (q.2.2 < 0 ∧ (f ≤ q.1 + k ∧ q.1 + k < f + m) ∧ whoV (addR R f m v) ((q.1 : Int) + k) = ((v : Int), true)) ∨
    (q.2.2 < 0 ∧ ¬ (f ≤ q.1 + k ∧ q.1 + k < f + m) ∧ whoV (addR R f m v) ((q.1 : Int) + k) = (0, false)) := by
  have ho : ownV R (q.1 + k) = q.2.2 := ((rle_all (runsV_rle hok)).1 q hq).2.2 _ (by omega) (by omega)
  rw [← Int.natCast_add, ownV_who, ownV_add hok hm hh]
  by_cases hg : f ≤ q.1 + k ∧ q.1 + k < f + m
  · simp only [if_pos hg]
    by_cases hp : 0 ≤ q.2.2
    · exfalso
      have : (meetV f m R).2 = true := (meet_hit hok hm).2 ⟨q.1 + k, hg.1, hg.2, by rw [ho]; exact hp⟩
      rw [this] at hh
      cases hh
    · exact .inr (.inl ⟨by omega, hg, by simp⟩)
  · simp only [if_neg hg, ho]
    by_cases hp : 0 ≤ q.2.2
    · exact .inl ⟨hp, hg, by simp [hp]⟩
    · exact .inr (.inr ⟨by omega, hg, by simp [hp]⟩)
set_option maxHeartbeats 8000000 in
theorem once_walk (nn : Nat) (hnn : nn < 256) (v1 v2 v3 : Value) (fs ms ws : List Int) (w : World) (h1 : RowI w .i64 v1 fs) (h2 : RowI w .i64 v2 ms) (h3 : RowI w .i64 v3 ws) :
    Calls Try.prog 3 #[.int .u8 nn, v1, v2, v3] w fun e w' => e = .returned (.bool true) ∧ Below w.heap.size w w' := by
  obtain ⟨a1, c1, rfl⟩ := h1.form
  obtain ⟨a2, c2, rfl⟩ := h2.form
  obtain ⟨a3, c3, rfl⟩ := h3.form
  have hl1 : fs.length ≤ 9223372036854775807 := by obtain ⟨_, _, e, q1, q2, _⟩ := h1; unfold maxLen at q2; omega
  have hl2 : ms.length ≤ 9223372036854775807 := by obtain ⟨_, _, e, q1, q2, _⟩ := h2; unfold maxLen at q2; omega
  have hl3 : ws.length ≤ 9223372036854775807 := by obtain ⟨_, _, e, q1, q2, _⟩ := h3; unfold maxLen at q2; omega
  have H1 := Lib.hid h1; have H2 := Lib.hid h2; have H3 := Lib.hid h3
  clear h1 h2 h3
  go_enter Try.func3, Try.ntmps3
  go_wp2_with fail
  obtain ⟨N, hN⟩ : ∃ N, N = nn % 65 := ⟨_, rfl⟩
  have hN64 : N ≤ 64 := by omega
  rw [show (nn : Int) % 65 = (N : Int) by omega]
  clear hN
  refine (tnew_yes N hN64 w).mono ?_; rintro e w1 ⟨rfl, ht1, hb1⟩
  have HP0 : Hid (PV w w1 w.heap.size none 0 N []) := ⟨ht1, hb1⟩
  clear ht1 hb1
  obtain ⟨tt, htt⟩ : ∃ tt, tt = w.heap.size := ⟨_, rfl⟩
  rw [← htt]
  have HTT : Hid (w.heap.size ≤ tt) := by rw [Hid, htt]; exact Nat.le_refl _
  rw [show PV w w1 w.heap.size none 0 N [] = PV w w1 tt none 0 N [] by rw [htt]] at HP0
  clear htt
  go_wp2_with fail
  go_loopw [11, 12, 13, 14, 15, 16, 17, 18, 19, 20] (fun i u2 u3 u4 u5 u6 u7 u8 u9 u0 wr => ∃ (k : Nat) (a : Option Addr) (cap : Nat) (R : List Rn), k ≤ 60 ∧ i = .int .i64 k ∧ PV w wr tt a cap N R) (fun i _ _ _ _ _ _ _ _ _ _ => 60 - (intOf i).toNat)
  case atStart => exact ⟨0, none, 0, [], by omega, rfl, HP0.out⟩
  case round =>
    clear HP0
    obtain ⟨k, a, cap, R, hk, rfl, hp⟩ := hrel
    have HP := Lib.hid hp
    clear hp
    by_cases g1 : k < fs.length
    · have e1 : decide ((k : Int) < fs.length) = true := by simp; omega
      by_cases g2 : k < ms.length
      · have e2 : decide ((k : Int) < ms.length) = true := by simp; omega
        by_cases g3 : k < ws.length
        · have e3 : decide ((k : Int) < ws.length) = true := by simp; omega
          by_cases g4 : k < 60
          · have e4 : decide ((k : Int) < 60) = true := by simp; omega
            obtain ⟨b1, o1, rfl, L1, kx⟩ := row_at H1.out k g1
            obtain ⟨b2, o2, rfl, L2, ky⟩ := row_at H2.out k g2
            obtain ⟨b3, o3, rfl, L3, kz⟩ := row_at H3.out k g3
            generalize fs[k] = x at kx
            generalize ms[k] = y at ky
            generalize ws[k] = z at kz
            have KX := Lib.hid kx; have KY := Lib.hid ky; have KZ := Lib.hid kz
            have hlr := (rle_all (runsV_rle HP.out.1.ok)).2
            have HQ := Lib.hid (rle_all (runsV_rle HP.out.1.ok)).1
            have HTOLD := Lib.hid (fun f m v hm hh q hq k hk => once_told HP.out.1.ok (f := f) (m := m) (v := v) hm hh (q := q) hq k hk)
            clear kx ky kz
            go_wp2_with fail
            refine (runs_any _ _ _ _ _ _ _ HP.out.1).mono ?_; rintro e w2 ⟨a5, c5, rfl, hown5, hb2⟩
            have HP2 := Lib.hid (HP.out.below hb2)
            have hl5 := hown5.le
            have HO2 := Lib.hid hown5
            have HSZ := Lib.hid (fun k hk => (HP.out.1.own.ge k hk).2)
            have hts := HP.out.1.obj.lt
            have HTS := Lib.hid hts
            clear hb2 hown5 hts
            go_wp2_with fail
            refine (free_any _ _ _ _ _ _ _ HP2.out.1).mono ?_; rintro e w3 ⟨rfl, hb3⟩
            have HP3 := Lib.hid (HP2.out.below hb3)
            have HO3 := Lib.hid (HO2.out.below hb3)
            clear hb3 HP2 HO2
            go_wp2_with fail
            have kx := KX.out w3 HP3.out.2; have ky := KY.out w3 HP3.out.2; have kz := KZ.out w3 HP3.out.2
            refine wp_region_still_tail 13 (by kernel_rfl) (by kernel_rfl) ?_; simp only [List.take_succ_cons, List.take_zero, List.drop_succ_cons, List.drop_zero]; obtain ⟨W1, hW1⟩ : ∃ x, x = World.drew w3 := ⟨_, rfl⟩; change wpStill _ _ (World.drew w3) (fun a' => wpList _ _ _ _ a' (World.drew w3)) _ _; rw [← hW1]
            have cx : W1.cell? ⟨b1, o1 + k, none⟩ = some (.int .i64 x) := by rw [hW1]; exact kx
            have cy : W1.cell? ⟨b2, o2 + k, none⟩ = some (.int .i64 y) := by rw [hW1]; exact ky
            have cz : W1.cell? ⟨b3, o3 + k, none⟩ = some (.int .i64 z) := by rw [hW1]; exact kz
            have HP4 : Hid (PV w W1 tt a cap N R) := by rw [Hid, hW1]; exact HP3.out.below ((Below.refl _ _).drew)
            have HO4 : Hid (Own W1 wr.heap.size 33 3 a5 (runsV N R).length c5 (rzF (runsV N R))) := by rw [Hid, hW1]; exact HO3.out.below ((Below.refl _ _).drew)
            clear hW1 HP3 HO3 kx ky kz
            repeat still_step
            refine wpStill_nil ?_
            clear cx cy cz
            have hfb := freeV_bd HP.out.1.ok
            go_wp2_with fail
            have HDJ : Hid (∀ j ∈ blk a5, j ∉ tt :: blk a) := fun j hj hm => by
              have h1 := (HO4.out.ge j hj).1
              rcases List.mem_cons.1 hm with rfl | hm
              · have := HTS.out; omega
              · have := HSZ.out j hm; omega
            rcases giveV_cases N R x y z with ⟨ee, hne, hgv⟩ | ⟨f, m, v, hx, hy, hz, hm1, hfm, hv64, hmeet, hgv⟩
            · refine (give_any _ _ _ _ _ _ x y z _ HP4.out.1 HP4.out.2.size).mono ?_; rw [hgv]; rintro e w4 ⟨a', cap', rfl, ht2, hm2, hat2⟩
              have HP5 := Lib.hid (HP4.out.act ht2 HTT.out hm2)
              have HR5 := Lib.hid ((HO4.out.mod hm2 HDJ.out).rd)
              have ne : (ee != 0) = true := by simpa using hne
              clear ht2 hm2 hat2 HP4 HO4 hgv hne HDJ HTOLD HQ hfb
              go_wp2_with fail
              refine (runs_any _ _ _ _ _ _ _ HP5.out.1).mono ?_; rintro e w5 ⟨a6, c6, rfl, hown6, hb6⟩
              have HP6 := Lib.hid (HP5.out.below hb6)
              have HR6 := Lib.hid (HR5.out.below hb6)
              have hl6 := hown6.le
              have HO6 := Lib.hid hown6.rd
              clear hown6 hb6 HP5 HR5
              go_wp2_with fail
              refine (runs_same _ _ _ _ _ _ HR6.out HO6.out (by omega) hl5 hl6).mono ?_; rintro e w6 ⟨rfl, hb7⟩
              have HP7 := Lib.hid (HP6.out.below hb7)
              clear hb7 HP6 HR6 HO6
              go_wp2_with fail
              refine (free_any _ _ _ _ _ _ _ HP7.out.1).mono ?_; rintro e w7 ⟨rfl, hb8⟩
              have HP8 := Lib.hid (HP7.out.below hb8)
              have nf : (freeV N R != freeV N R) = false := by simp
              clear hb8 HP7
              go_wp2_with fail
              go_roundw
              case rel => exact ⟨k + 1, a', cap', R, by omega, by go_num, HP8.out⟩
              case measure => simp [intOf]; omega
            · refine (give_any _ _ _ _ _ _ x y z _ HP4.out.1 HP4.out.2.size).mono ?_; rw [hgv]; rintro e w4 ⟨a', cap', rfl, ht2, hm2, hat2⟩
              have HP5 := Lib.hid (HP4.out.act ht2 HTT.out hm2)
              have HR5 := Lib.hid ((HO4.out.mod hm2 HDJ.out).rd)
              have HT2 := Lib.hid (fun q hq k hk => HTOLD.out f m v hm1 hmeet q hq k hk)
              have hfr := freeV_add N R f m v
              rw [← hy] at hfr
              have HX := Lib.hid hx; have HY := Lib.hid hy; have HZ := Lib.hid hz
              have HMM := Lib.hid hm1; have HFM := Lib.hid hfm; have HV64 := Lib.hid hv64
              have hy4 := KY.out w4 HP5.out.2
              have cy4 := cell_regrown hy4
              have HF := Lib.hid (fun d os => Calls.regrown_of ((free_any _ _ _ _ _ _ _ (HP5.out.1.below (below_regrown _ d os))).mono fun _ _ h => (⟨h.1, h.2⟩ : _ = Ending.returned (.int .i64 (freeV N (addR R f m v))) ∧ _)))
              have hwf : IntKind.i64.wrap (freeV N R - y) = freeV N R - y := IntWalk.i64_in _ (by omega)
              have nf : (freeV N (addR R f m v) != freeV N R - y) = false := by rw [hfr]; simp
              clear hx hy hz hm1 hfm hv64 hmeet
              clear ht2 hm2 hat2 HP4 HO4 hgv HDJ HTOLD hy4 hfb hfr
              generalize freeV N (addR R f m v) = F1 at HF nf
              generalize freeV N R = F0 at hwf nf ⊢
              go_wp2_with fail
              refine wp_region_quiet_below (by kernel_rfl) (by kernel_rfl) ?_; (repeat (go_big_quiet_step ((go_at_call 9; exact HF.out _ _)))); refine wpQuiet_nil ?_; intro _ hw'; obtain ⟨⟨dq, osq⟩, hw''⟩ := hw'; subst hw''; have hbq := below_regrown w4 dq osq; generalize grow (redrawn w4 dq) osq = wq at *
              have HP6 := Lib.hid (HP5.out.below hbq)
              have HR6 := Lib.hid (HR5.out.below hbq)
              clear hbq HF hwf cy4 HP5 HR5
              generalize addR R f m v = R' at *
              generalize runsV N R = L at *
              go_wp2_with fail
              go_loopw [15, 16, 17, 18, 19, 20] (fun j u6 u7 u8 u9 u0 wj => ∃ jj : Nat, jj ≤ L.length ∧ j = .int .i64 jj ∧ PV w wj tt a' cap' N R' ∧ Below wq.heap.size wq wj) (fun j _ _ _ _ _ _ => L.length - (intOf j).toNat)
              case atStart => exact ⟨0, by omega, rfl, HP6.out, Below.refl _ _⟩
              case round =>
                obtain ⟨jj, hj, rfl, hp, hb⟩ := hrel
                have HP := Lib.hid hp; have HB := Lib.hid hb
                clear hp hb HP6
                by_cases gj : jj < L.length
                · have dj : decide ((jj : Int) < L.length) = true := by simp; omega
                  obtain ⟨b, o, rfl, k0, k1, k2⟩ := rz_at HR6.out jj gj
                  have hq := HQ.out L[jj] (List.getElem_mem gj)
                  have HT3 := Lib.hid (HT2.out L[jj] (List.getElem_mem gj))
                  clear HQ HT2
                  generalize L[jj] = q at *
                  obtain ⟨qf, qn, qw⟩ := q
                  dsimp only at *
                  have hqn : qn ≤ 64 := by omega
                  have hqf : qf ≤ 64 := by omega
                  have KC : Hid (∀ W, Below wq.heap.size wq W → PV w W tt a' cap' N R' → W.cell? ⟨b, o + jj * 3, none⟩ = some (.int .i64 qf) ∧ W.cell? ⟨b, o + jj * 3 + 1, none⟩ = some (.int .i64 qn) ∧ W.cell? ⟨b, o + jj * 3 + 2, none⟩ = some (.int .i64 qw) ∧ W.cell? ⟨b1, o1 + k, none⟩ = some (.int .i64 x) ∧ W.cell? ⟨b2, o2 + k, none⟩ = some (.int .i64 y) ∧ W.cell? ⟨b3, o3 + k, none⟩ = some (.int .i64 z)) := fun W hW hP =>
                    ⟨(hW.cell (p := ⟨b, _, none⟩) (World.block_lt_of_cell? wq ⟨b, _, none⟩ k0)).trans k0, (hW.cell (p := ⟨b, _, none⟩) (World.block_lt_of_cell? wq ⟨b, _, none⟩ k1)).trans k1, (hW.cell (p := ⟨b, _, none⟩) (World.block_lt_of_cell? wq ⟨b, _, none⟩ k2)).trans k2, KX.out W hP.2, KY.out W hP.2, KZ.out W hP.2⟩
                  have hb0 : (0 : Int) ≤ jj := by omega
                  have hb1 : (jj : Int) < (L.length : Int) := by omega
                  have hk0 : (0 : Int) ≤ k := by omega
                  have hk1 : (k : Int) < (fs.length : Int) := by omega
                  have hk2 : (k : Int) < (ms.length : Int) := by omega
                  have hk3 : (k : Int) < (ws.length : Int) := by omega
                  clear k0 k1 k2 hq
                  go_wp2_with fail
                  go_loopw [16, 17, 18, 19, 20] (fun u6 u7 u8 u9 u0 wj => ∃ kk : Nat, kk ≤ qn ∧ u6 = .int .i64 kk ∧ PV w wj tt a' cap' N R' ∧ Below wq.heap.size wq wj) (fun u6 _ _ _ _ _ => qn - (intOf u6).toNat)
                  case atStart => exact ⟨0, by omega, rfl, HP.out, HB.out⟩
                  case round =>
                    obtain ⟨kk, hkk, rfl, hp, hb⟩ := hrel
                    have HP := Lib.hid hp; have HB := Lib.hid hb
                    obtain ⟨k0, k1, k2, kx, ky, kz⟩ := KC.out _ hb hp
                    clear hp hb
                    by_cases gk : kk < qn
                    · have dk : decide ((kk : Int) < (qn : Int)) = true := by simp; omega
                      have dk4 : decide ((kk : Int) < 64) = true := by simp; omega
                      have hw0 : IntKind.i64.wrap ((qf : Int) + kk) = (qf : Int) + kk := IntWalk.i64_in _ (by omega)
                      have hTT := HT3.out kk gk
                      have hxx := HX.out; have hyy := HY.out; have hzz := HZ.out; have hff := HFM.out
                      have hwx : IntKind.i64.wrap ((qf : Int) + kk - x) = (qf : Int) + kk - x := IntWalk.i64_in _ (by omega)
                      have nz : (z != z) = false := by simp
                      have nw : (qw != qw) = false := by simp
                      rcases hTT with ⟨hT1, hT2, hTT⟩ | ⟨hT1, hT2, hTT⟩ | ⟨hT1, hT2, hTT⟩
                      · have HV := Lib.hid hTT
                        have p1 : decide (0 ≤ qw) = true := by simpa using hT1
                        have p2 : decide (qw < 0) = false := by simp; omega
                        by_cases gx : f ≤ qf + kk
                        · have d1 : decide (x ≤ (qf : Int) + kk) = true := by rw [decide_eq_true_eq]; omega
                          have d2 : decide ((qf : Int) + kk - x < y) = false := by rw [decide_eq_false_iff_not]; omega
                          clear hT1 hT2 gx hxx hyy hzz hff
                          (
                        clear hTT
                        go_wp2_with fail
                        refine (who_any _ _ _ _ _ _ _ _ HP.out.1).mono ?_; rw [HV.out]; rintro e w6 ⟨rfl, hb6⟩
                        have HP6 := Lib.hid (HP.out.below hb6)
                        have HB6 : Hid (Below wq.heap.size wq w6) := bmore HB.out hb6
                        clear k0 k1 k2 kx ky kz hb6
                        obtain ⟨k0, k1, k2, kx, ky, kz⟩ := KC.out w6 HB6.out HP6.out
                        go_wp2_with fail
                        go_quiet (fail)
                        obtain ⟨W7, hW7⟩ : ∃ W7, W7 = w6.drewN nq := ⟨_, rfl⟩
                        have hbw : Below w6.heap.size w6 W7 := by rw [hW7]; exact below_drewN (Below.refl _ _) nq
                        have HP7 := Lib.hid (HP6.out.below hbw)
                        have HB7 : Hid (Below wq.heap.size wq W7) := bmore HB6.out hbw
                        rw [← hW7]
                        clear hW7 hbw k0 k1 k2 kx ky kz
                        obtain ⟨k0, k1, k2, kx, ky, kz⟩ := KC.out W7 HB7.out HP7.out
                        go_wp2_with fail
                        go_roundw
                        case rel => exact ⟨kk + 1, by omega, by go_num, HP7.out, HB7.out⟩
                        case measure => simp [intOf]; omega
)
                        · have d1 : decide (x ≤ (qf : Int) + kk) = false := by rw [decide_eq_false_iff_not]; omega
                          clear hT1 hT2 gx hxx hyy hzz hff
                          (
                        clear hTT
                        go_wp2_with fail
                        refine (who_any _ _ _ _ _ _ _ _ HP.out.1).mono ?_; rw [HV.out]; rintro e w6 ⟨rfl, hb6⟩
                        have HP6 := Lib.hid (HP.out.below hb6)
                        have HB6 : Hid (Below wq.heap.size wq w6) := bmore HB.out hb6
                        clear k0 k1 k2 kx ky kz hb6
                        obtain ⟨k0, k1, k2, kx, ky, kz⟩ := KC.out w6 HB6.out HP6.out
                        go_wp2_with fail
                        go_quiet (fail)
                        obtain ⟨W7, hW7⟩ : ∃ W7, W7 = w6.drewN nq := ⟨_, rfl⟩
                        have hbw : Below w6.heap.size w6 W7 := by rw [hW7]; exact below_drewN (Below.refl _ _) nq
                        have HP7 := Lib.hid (HP6.out.below hbw)
                        have HB7 : Hid (Below wq.heap.size wq W7) := bmore HB6.out hbw
                        rw [← hW7]
                        clear hW7 hbw k0 k1 k2 kx ky kz
                        obtain ⟨k0, k1, k2, kx, ky, kz⟩ := KC.out W7 HB7.out HP7.out
                        go_wp2_with fail
                        go_roundw
                        case rel => exact ⟨kk + 1, by omega, by go_num, HP7.out, HB7.out⟩
                        case measure => simp [intOf]; omega
)
                      · rw [← hzz] at hTT
                        have HV := Lib.hid hTT
                        have p1 : decide (0 ≤ qw) = false := by simp; omega
                        have p2 : decide (qw < 0) = true := by simpa using hT1
                        have d1 : decide (x ≤ (qf : Int) + kk) = true := by rw [decide_eq_true_eq]; omega
                        have d2 : decide ((qf : Int) + kk - x < y) = true := by rw [decide_eq_true_eq]; omega
                        clear hT1 hT2 hxx hyy hzz hff
                        (
                        clear hTT
                        go_wp2_with fail
                        refine (who_any _ _ _ _ _ _ _ _ HP.out.1).mono ?_; rw [HV.out]; rintro e w6 ⟨rfl, hb6⟩
                        have HP6 := Lib.hid (HP.out.below hb6)
                        have HB6 : Hid (Below wq.heap.size wq w6) := bmore HB.out hb6
                        clear k0 k1 k2 kx ky kz hb6
                        obtain ⟨k0, k1, k2, kx, ky, kz⟩ := KC.out w6 HB6.out HP6.out
                        go_wp2_with fail
                        go_quiet (fail)
                        obtain ⟨W7, hW7⟩ : ∃ W7, W7 = w6.drewN nq := ⟨_, rfl⟩
                        have hbw : Below w6.heap.size w6 W7 := by rw [hW7]; exact below_drewN (Below.refl _ _) nq
                        have HP7 := Lib.hid (HP6.out.below hbw)
                        have HB7 : Hid (Below wq.heap.size wq W7) := bmore HB6.out hbw
                        rw [← hW7]
                        clear hW7 hbw k0 k1 k2 kx ky kz
                        obtain ⟨k0, k1, k2, kx, ky, kz⟩ := KC.out W7 HB7.out HP7.out
                        go_wp2_with fail
                        go_roundw
                        case rel => exact ⟨kk + 1, by omega, by go_num, HP7.out, HB7.out⟩
                        case measure => simp [intOf]; omega
)
                      · have HV := Lib.hid hTT
                        have p1 : decide (0 ≤ qw) = false := by simp; omega
                        have p2 : decide (qw < 0) = true := by simpa using hT1
                        by_cases gx : f ≤ qf + kk
                        · have d1 : decide (x ≤ (qf : Int) + kk) = true := by rw [decide_eq_true_eq]; omega
                          have d2 : decide ((qf : Int) + kk - x < y) = false := by rw [decide_eq_false_iff_not]; omega
                          clear hT1 hT2 gx hxx hyy hzz hff
                          (
                        clear hTT
                        go_wp2_with fail
                        refine (who_any _ _ _ _ _ _ _ _ HP.out.1).mono ?_; rw [HV.out]; rintro e w6 ⟨rfl, hb6⟩
                        have HP6 := Lib.hid (HP.out.below hb6)
                        have HB6 : Hid (Below wq.heap.size wq w6) := bmore HB.out hb6
                        clear k0 k1 k2 kx ky kz hb6
                        obtain ⟨k0, k1, k2, kx, ky, kz⟩ := KC.out w6 HB6.out HP6.out
                        go_wp2_with fail
                        go_quiet (fail)
                        obtain ⟨W7, hW7⟩ : ∃ W7, W7 = w6.drewN nq := ⟨_, rfl⟩
                        have hbw : Below w6.heap.size w6 W7 := by rw [hW7]; exact below_drewN (Below.refl _ _) nq
                        have HP7 := Lib.hid (HP6.out.below hbw)
                        have HB7 : Hid (Below wq.heap.size wq W7) := bmore HB6.out hbw
                        rw [← hW7]
                        clear hW7 hbw k0 k1 k2 kx ky kz
                        obtain ⟨k0, k1, k2, kx, ky, kz⟩ := KC.out W7 HB7.out HP7.out
                        go_wp2_with fail
                        go_roundw
                        case rel => exact ⟨kk + 1, by omega, by go_num, HP7.out, HB7.out⟩
                        case measure => simp [intOf]; omega
)
                        · have d1 : decide (x ≤ (qf : Int) + kk) = false := by rw [decide_eq_false_iff_not]; omega
                          clear hT1 hT2 gx hxx hyy hzz hff
                          (
                        clear hTT
                        go_wp2_with fail
                        refine (who_any _ _ _ _ _ _ _ _ HP.out.1).mono ?_; rw [HV.out]; rintro e w6 ⟨rfl, hb6⟩
                        have HP6 := Lib.hid (HP.out.below hb6)
                        have HB6 : Hid (Below wq.heap.size wq w6) := bmore HB.out hb6
                        clear k0 k1 k2 kx ky kz hb6
                        obtain ⟨k0, k1, k2, kx, ky, kz⟩ := KC.out w6 HB6.out HP6.out
                        go_wp2_with fail
                        go_quiet (fail)
                        obtain ⟨W7, hW7⟩ : ∃ W7, W7 = w6.drewN nq := ⟨_, rfl⟩
                        have hbw : Below w6.heap.size w6 W7 := by rw [hW7]; exact below_drewN (Below.refl _ _) nq
                        have HP7 := Lib.hid (HP6.out.below hbw)
                        have HB7 : Hid (Below wq.heap.size wq W7) := bmore HB6.out hbw
                        rw [← hW7]
                        clear hW7 hbw k0 k1 k2 kx ky kz
                        obtain ⟨k0, k1, k2, kx, ky, kz⟩ := KC.out W7 HB7.out HP7.out
                        go_wp2_with fail
                        go_roundw
                        case rel => exact ⟨kk + 1, by omega, by go_num, HP7.out, HB7.out⟩
                        case measure => simp [intOf]; omega
)
                    · obtain rfl : kk = qn := by omega
                      have dk : decide ((kk : Int) < (kk : Int)) = false := by simp
                      go_wp2_with fail
                      go_roundw
                      case rel => exact ⟨jj + 1, by omega, by go_num, HP.out, HB.out⟩
                      case measure => simp [intOf]; omega
                · have dj : decide ((jj : Int) < L.length) = false := by simp; omega
                  go_wp2_with fail
                  go_roundw
                  case rel => exact ⟨k + 1, a', cap', R', by omega, by go_num, HP.out⟩
                  case measure => simp [intOf]; omega
          · have e4 : decide ((k : Int) < 60) = false := by simp; omega
            (
      go_wp2_with fail
      refine (awake_any _).mono ?_; rintro e wz ⟨rfl, hbz⟩
      go_wp2_with fail
      go_ret
      exact ⟨rfl, bmore HP.out.2 hbz⟩
)
        · have e3 : decide ((k : Int) < ws.length) = false := by simp; omega
          (
      go_wp2_with fail
      refine (awake_any _).mono ?_; rintro e wz ⟨rfl, hbz⟩
      go_wp2_with fail
      go_ret
      exact ⟨rfl, bmore HP.out.2 hbz⟩
)
      · have e2 : decide ((k : Int) < ms.length) = false := by simp; omega
        (
      go_wp2_with fail
      refine (awake_any _).mono ?_; rintro e wz ⟨rfl, hbz⟩
      go_wp2_with fail
      go_ret
      exact ⟨rfl, bmore HP.out.2 hbz⟩
)
    · have e1 : decide ((k : Int) < fs.length) = false := by simp; omega
      (
      go_wp2_with fail
      refine (awake_any _).mono ?_; rintro e wz ⟨rfl, hbz⟩
      go_wp2_with fail
      go_ret
      exact ⟨rfl, bmore HP.out.2 hbz⟩
)
end Go.Proofs.Ythmbflofcceifaa
