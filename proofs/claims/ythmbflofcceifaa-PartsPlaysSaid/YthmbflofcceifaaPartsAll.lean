/- The law PartsAll. -/
import Derived.Test.YthmbflofcceifaaPartsLaws
namespace Go.Proofs.Ythmbflofcceifaa
set_option linter.unusedVariables false
set_option linter.unusedSimpArgs false
set_option linter.unnecessarySimpa false
open Go.RowKit Go.Sort
set_option maxHeartbeats 400000
set_option maxRecDepth 100000

/-- The table between two acts. -/
def PV (w W : World) (tt : Nat) (a : Option Addr) (cap N : Nat) (R : List Rn) : Prop := TSt W w.heap.size tt a cap N R ∧ Below w.heap.size w W
theorem PV.below {w W W' : World} {tt cap N : Nat} {a : Option Addr} {R : List Rn} (h : PV w W tt a cap N R) (hb : Below W.heap.size W W') : PV w W' tt a cap N R := ⟨h.1.below hb, bmore h.2 hb⟩
theorem PV.act {w W W' : World} {tt cap N : Nat} {a a' : Option Addr} {cap' : Nat} {R R' : List Rn} (h : PV w W tt a cap N R) (ht : TSt W' w.heap.size tt a' cap' N R') (htt : w.heap.size ≤ tt) (hm : Mod (tt :: blk a) W W') : PV w W' tt a' cap' N R' :=
  ⟨ht, h.2.trans (hm.below (fun k hk => by
    rcases List.mem_cons.1 hk with rfl | hk
    · exact htt
    · exact (h.1.own.ge k hk).1) h.2.size)⟩
theorem begs_succ (L : List Rz) (j : Nat) (g : j < L.length) : begs L (j + 1) = begs L j + L[j].2.1 := by
  unfold begs
  rw [List.take_succ_eq_append_getElem g, List.map_append, List.sum_append]
  simp
set_option maxHeartbeats 4000000 in
theorem all_walk (nn : Nat) (hnn : nn < 256) (v1 v2 v3 : Value) (fs ms ws : List Int) (w : World) (h1 : RowI w .i64 v1 fs) (h2 : RowI w .i64 v2 ms) (h3 : RowI w .i64 v3 ws) :
    Calls Try.prog 4 #[.int .u8 nn, v1, v2, v3] w fun e w' => e = .returned (.bool true) ∧ Below w.heap.size w w' := by
  obtain ⟨a1, c1, rfl⟩ := h1.form
  obtain ⟨a2, c2, rfl⟩ := h2.form
  obtain ⟨a3, c3, rfl⟩ := h3.form
  have hl1 : fs.length ≤ 9223372036854775807 := by obtain ⟨_, _, e, q1, q2, _⟩ := h1; unfold maxLen at q2; omega
  have hl2 : ms.length ≤ 9223372036854775807 := by obtain ⟨_, _, e, q1, q2, _⟩ := h2; unfold maxLen at q2; omega
  have hl3 : ws.length ≤ 9223372036854775807 := by obtain ⟨_, _, e, q1, q2, _⟩ := h3; unfold maxLen at q2; omega
  have H1 := Lib.hid h1; have H2 := Lib.hid h2; have H3 := Lib.hid h3
  clear h1 h2 h3
  go_enter Try.func4, Try.ntmps4
  go_wp2_with fail
  obtain ⟨N, hN⟩ : ∃ N, N = nn % 65 := ⟨_, rfl⟩
  have hN64 : N ≤ 64 := by omega
  rw [show (nn : Int) % 65 = (N : Int) by omega]
  clear hN
  refine (tnew_yes N hN64 w).mono ?_; rintro e w1 ⟨rfl, ht1, hb1⟩
  have HP0 : Hid (PV w w1 w.heap.size none 0 N []) := ⟨ht1, hb1⟩
  clear ht1 hb1
  obtain ⟨tt, htt⟩ : ∃ tt, tt = w.heap.size := ⟨_, rfl⟩
  rw [← htt]
  have HTT : Hid (w.heap.size ≤ tt) := by rw [Hid, htt]; exact Nat.le_refl _
  rw [show PV w w1 w.heap.size none 0 N [] = PV w w1 tt none 0 N [] by rw [htt]] at HP0
  clear htt
  go_wp2_with fail
  go_loopw [12] (fun i wr => ∃ (k : Nat) (a : Option Addr) (cap : Nat) (R : List Rn), k ≤ 60 ∧ i = .int .i64 k ∧ PV w wr tt a cap N R) (fun i _ => 60 - (intOf i).toNat)
  case atStart => exact ⟨0, none, 0, [], by omega, rfl, HP0.out⟩
  case round =>
    clear HP0
    obtain ⟨k, a, cap, R, hk, rfl, hp⟩ := hrel
    have HP := Lib.hid hp
    clear hp
    by_cases g1 : k < fs.length
    · have e1 : decide ((k : Int) < fs.length) = true := by simp; omega
      by_cases g2 : k < ms.length
      · have e2 : decide ((k : Int) < ms.length) = true := by simp; omega
        by_cases g3 : k < ws.length
        · have e3 : decide ((k : Int) < ws.length) = true := by simp; omega
          by_cases g4 : k < 60
          · have e4 : decide ((k : Int) < 60) = true := by simp; omega
            obtain ⟨b1, o1, rfl, L1, kx⟩ := row_at H1.out k g1
            obtain ⟨b2, o2, rfl, L2, ky⟩ := row_at H2.out k g2
            obtain ⟨b3, o3, rfl, L3, kz⟩ := row_at H3.out k g3
            have kx := kx wr HP.out.2; have ky := ky wr HP.out.2; have kz := kz wr HP.out.2
            generalize fs[k] = x at kx
            generalize ms[k] = y at ky
            generalize ws[k] = z at kz
            go_wp2_with fail
            refine wp_region_still_tail 13 (by kernel_rfl) (by kernel_rfl) ?_; simp only [List.take_succ_cons, List.take_zero, List.drop_succ_cons, List.drop_zero]; obtain ⟨W1, hW1⟩ : ∃ x, x = World.drew wr := ⟨_, rfl⟩; change wpStill _ _ (World.drew wr) (fun a' => wpList _ _ _ _ a' (World.drew wr)) _ _; rw [← hW1]
            have cx : W1.cell? ⟨b1, o1 + k, none⟩ = some (.int .i64 x) := by rw [hW1]; exact kx
            have cy : W1.cell? ⟨b2, o2 + k, none⟩ = some (.int .i64 y) := by rw [hW1]; exact ky
            have cz : W1.cell? ⟨b3, o3 + k, none⟩ = some (.int .i64 z) := by rw [hW1]; exact kz
            have HP1 : Hid (PV w W1 tt a cap N R) := by rw [Hid, hW1]; exact HP.out.below ((Below.refl _ _).drew)
            clear hW1 HP kx ky kz
            repeat still_step
            refine wpStill_nil ?_
            clear cx cy cz
            go_wp2_with fail
            refine (give_any _ _ _ _ _ _ x y z _ HP1.out.1 HP1.out.2.size).mono ?_; rintro e w2 ⟨a', cap', rfl, ht2, hm2, hat2⟩
            have HP2 := Lib.hid (HP1.out.act ht2 HTT.out hm2)
            clear ht2 hm2 hat2 HP1
            go_wp2_with fail
            go_roundw
            case rel => exact ⟨k + 1, a', cap', _, by omega, by go_num, HP2.out⟩
            case measure => simp [intOf]; omega
          · have e4 : decide ((k : Int) < 60) = false := by simp; omega
            (
      have HRL := Lib.hid (runsV_rle HP.out.1.ok)
      have HAL := Lib.hid (rle_all HRL.out).1
      have HBG := Lib.hid (rle_begs HRL.out)
      have hrb := runsV_bd HP.out.1.ok
      have hln := (rle_all HRL.out).2
      have HWH := Lib.hid (fun (i : Nat) => ownV_who R i)
      go_wp2_with fail
      refine (runs_any _ _ _ _ _ _ _ HP.out.1).mono ?_; rintro e w5 ⟨a5, c5, rfl, hown5, hb5⟩
      have HP5 := Lib.hid (HP.out.below hb5)
      have HR5 := Lib.hid hown5.rd
      have hl5 := hown5.le
      generalize runsV N R = L at *
      have hL129 := hrb.1
      clear hb5 hown5 HP hrb HRL
      go_wp2_with fail
      go_loopw [14, 15, 16, 17] (fun at_ i u v wr => ∃ j : Nat, j ≤ L.length ∧ i = .int .i64 j ∧ at_ = .int .i64 (begs L j : Nat) ∧ PV w wr tt a cap N R ∧ Below w5.heap.size w5 wr) (fun at_ i u v _ => L.length - (intOf i).toNat)
      case atStart => exact ⟨0, by omega, rfl, rfl, HP5.out, Below.refl _ _⟩
      case round =>
        obtain ⟨j, hj, rfl, rfl, hp, hb⟩ := hrel
        have HP := Lib.hid hp; have HB := Lib.hid hb
        clear hp hb HP5
        by_cases g : j < L.length
        · have d1 : decide ((j : Int) < L.length) = true := by simp; omega
          obtain ⟨b, o, rfl, k0, k1, k2⟩ := rz_at (HR5.out.below HB.out) j g
          have hq := HAL.out L[j] (List.getElem_mem g)
          have hq0 := HBG.out.2.1 j g
          have hsw := HWH.out (begs L j)
          have how : ownV R (begs L j) = L[j].2.2 := hq.2.2 _ (by omega) (by omega)
          rw [how] at hsw
          have hbs := begs_succ L j g
          by_cases g0 : j = 0
          · subst g0
            have hb1 : (0 : Int) < (L.length : Int) := by omega
            simp only [Nat.zero_mul, Nat.add_zero] at k0 k1 k2
            have HBS := Lib.hid hbs
            have HSW := Lib.hid hsw
            rw [hq0] at k0
            rw [show ((0 : Nat) : Int) = 0 from rfl]
            generalize L[0] = q at *
            obtain ⟨qf, qn, qw⟩ := q
            dsimp only at *
            generalize begs L 0 = at_ at *
            have n0 : ((at_ : Int) != (at_ : Int)) = false := by simp
            have n1 : decide ((qn : Int) < 1) = false := by simp; omega
            have n2 : decide ((N : Int) - at_ < (qn : Int)) = false := by simp; omega
            have ha0 : at_ ≤ N := by omega
            have hwr : IntKind.i64.wrap ((N : Int) - at_) = (N : Int) - at_ := IntWalk.i64_in _ (by omega)
            have hws : IntKind.i64.wrap ((at_ : Int) + qn) = (at_ : Int) + qn := IntWalk.i64_in _ (by omega)
            have ha1 : qn ≤ 64 := by omega
            clear hq hsw how hbs hq0
            (
            have KK : Hid (∀ W, Below wr.heap.size wr W → W.cell? ⟨b, o + 0 * 3 + 1, none⟩ = some (.int .i64 qn) ∧ W.cell? ⟨b, o + 0 * 3 + 2, none⟩ = some (.int .i64 qw)) := fun W hW => ⟨(hW.cell (p := ⟨b, _, none⟩) (World.block_lt_of_cell? wr ⟨b, _, none⟩ k1)).trans k1, (hW.cell (p := ⟨b, _, none⟩) (World.block_lt_of_cell? wr ⟨b, _, none⟩ k2)).trans k2⟩
            clear HAL HBG HWH
            go_wp2_with fail
            go_quiet (fail)
            obtain ⟨W1, hW1⟩ : ∃ W1, W1 = wr.drewN nq := ⟨_, rfl⟩
            have hbw : Below wr.heap.size wr W1 := by rw [hW1]; exact below_drewN (Below.refl _ _) nq
            have HP1 := Lib.hid (HP.out.below hbw)
            have HB1 : Hid (Below w5.heap.size w5 W1) := bmore HB.out hbw
            have HBW := Lib.hid hbw
            rw [← hW1]
            clear hW1 hbw k0 k1 k2 n0 n2 hwr
            go_wp2_with fail
            refine (who_any _ _ _ _ _ _ _ _ HP1.out.1).mono ?_; rw [HSW.out]; rintro e w2 ⟨rfl, hb2⟩
            have HP2 := Lib.hid (HP1.out.below hb2)
            have HB2 : Hid (Below w5.heap.size w5 w2) := bmore HB1.out hb2
            obtain ⟨kk1, kk2⟩ := KK.out w2 (bmore HBW.out hb2)
            try simp only [Nat.zero_mul, Nat.add_zero] at kk1 kk2
            clear hb2 HP1 HB1 HP HB HBW HSW KK
            by_cases hpos : 0 ≤ qw
            · rw [if_pos hpos]
              have m1 : decide (0 ≤ qw) = true := by simpa using hpos
              have m2 : (qw != qw) = false := by simp
              clear hpos
              go_wp2_with fail
              go_roundw
              case rel => exact ⟨0 + 1, by omega, by go_num, by rw [HBS.out]; go_num, HP2.out, HB2.out⟩
              case measure => simp [intOf]; omega
            · rw [if_neg hpos]
              have m1 : decide (0 ≤ qw) = false := by simpa using hpos
              clear hpos
              go_wp2_with fail
              go_roundw
              case rel => exact ⟨0 + 1, by omega, by go_num, by rw [HBS.out]; go_num, HP2.out, HB2.out⟩
              case measure => simp [intOf]; omega
)
          · obtain ⟨p, rfl⟩ : ∃ p, j = p + 1 := ⟨j - 1, by omega⟩
            obtain ⟨b', o', hbb, p0, p1, p2⟩ := rz_at (HR5.out.below HB.out) p (by omega)
            injection hbb with hbb
            injection hbb with hb1 hb2
            subst hb1 hb2
            have hnx := HBG.out.2.2 p g
            have e0 : decide ((0 : Int) < (p : Int) + 1) = true := by (rw [decide_eq_true_eq]; omega)
            have hb2 : (0 : Int) ≤ (p : Int) + 1 := by omega
            have hb3 : (p : Int) < (L.length : Int) := by omega
            have hb0 : (0 : Int) ≤ (p : Int) := by omega
            have hb1 : (p : Int) + 1 < (L.length : Int) := by omega
            have hc0 : ((p + 1 : Nat) : Int) = (p : Int) + 1 := by omega
            rw [hc0]
            have HBS := Lib.hid hbs
            have HSW := Lib.hid hsw
            rw [hq0] at k0
            generalize L[p + 1] = q at *
            generalize L[p] = qp at *
            obtain ⟨qf, qn, qw⟩ := q
            obtain ⟨zf, zn, zw⟩ := qp
            dsimp only at *
            generalize begs L (p + 1) = at_ at *
            have n0 : ((at_ : Int) != (at_ : Int)) = false := by simp
            have n1 : decide ((qn : Int) < 1) = false := by simp; omega
            have n2 : decide ((N : Int) - at_ < (qn : Int)) = false := by simp; omega
            have ha0 : at_ ≤ N := by omega
            have hwr : IntKind.i64.wrap ((N : Int) - at_) = (N : Int) - at_ := IntWalk.i64_in _ (by omega)
            have hws : IntKind.i64.wrap ((at_ : Int) + qn) = (at_ : Int) + qn := IntWalk.i64_in _ (by omega)
            have ha1 : qn ≤ 64 := by omega
            have n3 : (qw == zw) = false := by simpa using hnx
            clear hq hsw how hbs hnx hq0 g0
            (
            have KK : Hid (∀ W, Below wr.heap.size wr W → W.cell? ⟨b, o + (p + 1) * 3 + 1, none⟩ = some (.int .i64 qn) ∧ W.cell? ⟨b, o + (p + 1) * 3 + 2, none⟩ = some (.int .i64 qw)) := fun W hW => ⟨(hW.cell (p := ⟨b, _, none⟩) (World.block_lt_of_cell? wr ⟨b, _, none⟩ k1)).trans k1, (hW.cell (p := ⟨b, _, none⟩) (World.block_lt_of_cell? wr ⟨b, _, none⟩ k2)).trans k2⟩
            clear HAL HBG HWH
            go_wp2_with fail
            go_quiet (fail)
            obtain ⟨W1, hW1⟩ : ∃ W1, W1 = wr.drewN nq := ⟨_, rfl⟩
            have hbw : Below wr.heap.size wr W1 := by rw [hW1]; exact below_drewN (Below.refl _ _) nq
            have HP1 := Lib.hid (HP.out.below hbw)
            have HB1 : Hid (Below w5.heap.size w5 W1) := bmore HB.out hbw
            have HBW := Lib.hid hbw
            rw [← hW1]
            clear hW1 hbw k0 k1 k2 p0 p1 p2 n0 n2 hwr
            go_wp2_with fail
            refine (who_any _ _ _ _ _ _ _ _ HP1.out.1).mono ?_; rw [HSW.out]; rintro e w2 ⟨rfl, hb2⟩
            have HP2 := Lib.hid (HP1.out.below hb2)
            have HB2 : Hid (Below w5.heap.size w5 w2) := bmore HB1.out hb2
            obtain ⟨kk1, kk2⟩ := KK.out w2 (bmore HBW.out hb2)
            try simp only [Nat.zero_mul, Nat.add_zero] at kk1 kk2
            clear hb2 HP1 HB1 HP HB HBW HSW KK
            by_cases hpos : 0 ≤ qw
            · rw [if_pos hpos]
              have m1 : decide (0 ≤ qw) = true := by simpa using hpos
              have m2 : (qw != qw) = false := by simp
              clear hpos
              go_wp2_with fail
              go_roundw
              case rel => exact ⟨(p + 1) + 1, by omega, by go_num, by rw [HBS.out]; go_num, HP2.out, HB2.out⟩
              case measure => simp [intOf]; omega
            · rw [if_neg hpos]
              have m1 : decide (0 ≤ qw) = false := by simpa using hpos
              clear hpos
              go_wp2_with fail
              go_roundw
              case rel => exact ⟨(p + 1) + 1, by omega, by go_num, by rw [HBS.out]; go_num, HP2.out, HB2.out⟩
              case measure => simp [intOf]; omega
)
        · obtain rfl : j = L.length := by omega
          have d1 : decide ((L.length : Int) < L.length) = false := by simp
          rw [HBG.out.1]
          clear HAL HBG HWH
          go_wp2_with fail
          refine (awake_any _).mono ?_; rintro e wz ⟨rfl, hbz⟩
          go_wp2_with fail
          go_ret
          exact ⟨rfl, bmore HP.out.2 hbz⟩
            )
        · have e3 : decide ((k : Int) < ws.length) = false := by simp; omega
          (
      have HRL := Lib.hid (runsV_rle HP.out.1.ok)
      have HAL := Lib.hid (rle_all HRL.out).1
      have HBG := Lib.hid (rle_begs HRL.out)
      have hrb := runsV_bd HP.out.1.ok
      have hln := (rle_all HRL.out).2
      have HWH := Lib.hid (fun (i : Nat) => ownV_who R i)
      go_wp2_with fail
      refine (runs_any _ _ _ _ _ _ _ HP.out.1).mono ?_; rintro e w5 ⟨a5, c5, rfl, hown5, hb5⟩
      have HP5 := Lib.hid (HP.out.below hb5)
      have HR5 := Lib.hid hown5.rd
      have hl5 := hown5.le
      generalize runsV N R = L at *
      have hL129 := hrb.1
      clear hb5 hown5 HP hrb HRL
      go_wp2_with fail
      go_loopw [14, 15, 16, 17] (fun at_ i u v wr => ∃ j : Nat, j ≤ L.length ∧ i = .int .i64 j ∧ at_ = .int .i64 (begs L j : Nat) ∧ PV w wr tt a cap N R ∧ Below w5.heap.size w5 wr) (fun at_ i u v _ => L.length - (intOf i).toNat)
      case atStart => exact ⟨0, by omega, rfl, rfl, HP5.out, Below.refl _ _⟩
      case round =>
        obtain ⟨j, hj, rfl, rfl, hp, hb⟩ := hrel
        have HP := Lib.hid hp; have HB := Lib.hid hb
        clear hp hb HP5
        by_cases g : j < L.length
        · have d1 : decide ((j : Int) < L.length) = true := by simp; omega
          obtain ⟨b, o, rfl, k0, k1, k2⟩ := rz_at (HR5.out.below HB.out) j g
          have hq := HAL.out L[j] (List.getElem_mem g)
          have hq0 := HBG.out.2.1 j g
          have hsw := HWH.out (begs L j)
          have how : ownV R (begs L j) = L[j].2.2 := hq.2.2 _ (by omega) (by omega)
          rw [how] at hsw
          have hbs := begs_succ L j g
          by_cases g0 : j = 0
          · subst g0
            have hb1 : (0 : Int) < (L.length : Int) := by omega
            simp only [Nat.zero_mul, Nat.add_zero] at k0 k1 k2
            have HBS := Lib.hid hbs
            have HSW := Lib.hid hsw
            rw [hq0] at k0
            rw [show ((0 : Nat) : Int) = 0 from rfl]
            generalize L[0] = q at *
            obtain ⟨qf, qn, qw⟩ := q
            dsimp only at *
            generalize begs L 0 = at_ at *
            have n0 : ((at_ : Int) != (at_ : Int)) = false := by simp
            have n1 : decide ((qn : Int) < 1) = false := by simp; omega
            have n2 : decide ((N : Int) - at_ < (qn : Int)) = false := by simp; omega
            have ha0 : at_ ≤ N := by omega
            have hwr : IntKind.i64.wrap ((N : Int) - at_) = (N : Int) - at_ := IntWalk.i64_in _ (by omega)
            have hws : IntKind.i64.wrap ((at_ : Int) + qn) = (at_ : Int) + qn := IntWalk.i64_in _ (by omega)
            have ha1 : qn ≤ 64 := by omega
            clear hq hsw how hbs hq0
            (
            have KK : Hid (∀ W, Below wr.heap.size wr W → W.cell? ⟨b, o + 0 * 3 + 1, none⟩ = some (.int .i64 qn) ∧ W.cell? ⟨b, o + 0 * 3 + 2, none⟩ = some (.int .i64 qw)) := fun W hW => ⟨(hW.cell (p := ⟨b, _, none⟩) (World.block_lt_of_cell? wr ⟨b, _, none⟩ k1)).trans k1, (hW.cell (p := ⟨b, _, none⟩) (World.block_lt_of_cell? wr ⟨b, _, none⟩ k2)).trans k2⟩
            clear HAL HBG HWH
            go_wp2_with fail
            go_quiet (fail)
            obtain ⟨W1, hW1⟩ : ∃ W1, W1 = wr.drewN nq := ⟨_, rfl⟩
            have hbw : Below wr.heap.size wr W1 := by rw [hW1]; exact below_drewN (Below.refl _ _) nq
            have HP1 := Lib.hid (HP.out.below hbw)
            have HB1 : Hid (Below w5.heap.size w5 W1) := bmore HB.out hbw
            have HBW := Lib.hid hbw
            rw [← hW1]
            clear hW1 hbw k0 k1 k2 n0 n2 hwr
            go_wp2_with fail
            refine (who_any _ _ _ _ _ _ _ _ HP1.out.1).mono ?_; rw [HSW.out]; rintro e w2 ⟨rfl, hb2⟩
            have HP2 := Lib.hid (HP1.out.below hb2)
            have HB2 : Hid (Below w5.heap.size w5 w2) := bmore HB1.out hb2
            obtain ⟨kk1, kk2⟩ := KK.out w2 (bmore HBW.out hb2)
            try simp only [Nat.zero_mul, Nat.add_zero] at kk1 kk2
            clear hb2 HP1 HB1 HP HB HBW HSW KK
            by_cases hpos : 0 ≤ qw
            · rw [if_pos hpos]
              have m1 : decide (0 ≤ qw) = true := by simpa using hpos
              have m2 : (qw != qw) = false := by simp
              clear hpos
              go_wp2_with fail
              go_roundw
              case rel => exact ⟨0 + 1, by omega, by go_num, by rw [HBS.out]; go_num, HP2.out, HB2.out⟩
              case measure => simp [intOf]; omega
            · rw [if_neg hpos]
              have m1 : decide (0 ≤ qw) = false := by simpa using hpos
              clear hpos
              go_wp2_with fail
              go_roundw
              case rel => exact ⟨0 + 1, by omega, by go_num, by rw [HBS.out]; go_num, HP2.out, HB2.out⟩
              case measure => simp [intOf]; omega
)
          · obtain ⟨p, rfl⟩ : ∃ p, j = p + 1 := ⟨j - 1, by omega⟩
            obtain ⟨b', o', hbb, p0, p1, p2⟩ := rz_at (HR5.out.below HB.out) p (by omega)
            injection hbb with hbb
            injection hbb with hb1 hb2
            subst hb1 hb2
            have hnx := HBG.out.2.2 p g
            have e0 : decide ((0 : Int) < (p : Int) + 1) = true := by (rw [decide_eq_true_eq]; omega)
            have hb2 : (0 : Int) ≤ (p : Int) + 1 := by omega
            have hb3 : (p : Int) < (L.length : Int) := by omega
            have hb0 : (0 : Int) ≤ (p : Int) := by omega
            have hb1 : (p : Int) + 1 < (L.length : Int) := by omega
            have hc0 : ((p + 1 : Nat) : Int) = (p : Int) + 1 := by omega
            rw [hc0]
            have HBS := Lib.hid hbs
            have HSW := Lib.hid hsw
            rw [hq0] at k0
            generalize L[p + 1] = q at *
            generalize L[p] = qp at *
            obtain ⟨qf, qn, qw⟩ := q
            obtain ⟨zf, zn, zw⟩ := qp
            dsimp only at *
            generalize begs L (p + 1) = at_ at *
            have n0 : ((at_ : Int) != (at_ : Int)) = false := by simp
            have n1 : decide ((qn : Int) < 1) = false := by simp; omega
            have n2 : decide ((N : Int) - at_ < (qn : Int)) = false := by simp; omega
            have ha0 : at_ ≤ N := by omega
            have hwr : IntKind.i64.wrap ((N : Int) - at_) = (N : Int) - at_ := IntWalk.i64_in _ (by omega)
            have hws : IntKind.i64.wrap ((at_ : Int) + qn) = (at_ : Int) + qn := IntWalk.i64_in _ (by omega)
            have ha1 : qn ≤ 64 := by omega
            have n3 : (qw == zw) = false := by simpa using hnx
            clear hq hsw how hbs hnx hq0 g0
            (
            have KK : Hid (∀ W, Below wr.heap.size wr W → W.cell? ⟨b, o + (p + 1) * 3 + 1, none⟩ = some (.int .i64 qn) ∧ W.cell? ⟨b, o + (p + 1) * 3 + 2, none⟩ = some (.int .i64 qw)) := fun W hW => ⟨(hW.cell (p := ⟨b, _, none⟩) (World.block_lt_of_cell? wr ⟨b, _, none⟩ k1)).trans k1, (hW.cell (p := ⟨b, _, none⟩) (World.block_lt_of_cell? wr ⟨b, _, none⟩ k2)).trans k2⟩
            clear HAL HBG HWH
            go_wp2_with fail
            go_quiet (fail)
            obtain ⟨W1, hW1⟩ : ∃ W1, W1 = wr.drewN nq := ⟨_, rfl⟩
            have hbw : Below wr.heap.size wr W1 := by rw [hW1]; exact below_drewN (Below.refl _ _) nq
            have HP1 := Lib.hid (HP.out.below hbw)
            have HB1 : Hid (Below w5.heap.size w5 W1) := bmore HB.out hbw
            have HBW := Lib.hid hbw
            rw [← hW1]
            clear hW1 hbw k0 k1 k2 p0 p1 p2 n0 n2 hwr
            go_wp2_with fail
            refine (who_any _ _ _ _ _ _ _ _ HP1.out.1).mono ?_; rw [HSW.out]; rintro e w2 ⟨rfl, hb2⟩
            have HP2 := Lib.hid (HP1.out.below hb2)
            have HB2 : Hid (Below w5.heap.size w5 w2) := bmore HB1.out hb2
            obtain ⟨kk1, kk2⟩ := KK.out w2 (bmore HBW.out hb2)
            try simp only [Nat.zero_mul, Nat.add_zero] at kk1 kk2
            clear hb2 HP1 HB1 HP HB HBW HSW KK
            by_cases hpos : 0 ≤ qw
            · rw [if_pos hpos]
              have m1 : decide (0 ≤ qw) = true := by simpa using hpos
              have m2 : (qw != qw) = false := by simp
              clear hpos
              go_wp2_with fail
              go_roundw
              case rel => exact ⟨(p + 1) + 1, by omega, by go_num, by rw [HBS.out]; go_num, HP2.out, HB2.out⟩
              case measure => simp [intOf]; omega
            · rw [if_neg hpos]
              have m1 : decide (0 ≤ qw) = false := by simpa using hpos
              clear hpos
              go_wp2_with fail
              go_roundw
              case rel => exact ⟨(p + 1) + 1, by omega, by go_num, by rw [HBS.out]; go_num, HP2.out, HB2.out⟩
              case measure => simp [intOf]; omega
)
        · obtain rfl : j = L.length := by omega
          have d1 : decide ((L.length : Int) < L.length) = false := by simp
          rw [HBG.out.1]
          clear HAL HBG HWH
          go_wp2_with fail
          refine (awake_any _).mono ?_; rintro e wz ⟨rfl, hbz⟩
          go_wp2_with fail
          go_ret
          exact ⟨rfl, bmore HP.out.2 hbz⟩
          )
      · have e2 : decide ((k : Int) < ms.length) = false := by simp; omega
        (
      have HRL := Lib.hid (runsV_rle HP.out.1.ok)
      have HAL := Lib.hid (rle_all HRL.out).1
      have HBG := Lib.hid (rle_begs HRL.out)
      have hrb := runsV_bd HP.out.1.ok
      have hln := (rle_all HRL.out).2
      have HWH := Lib.hid (fun (i : Nat) => ownV_who R i)
      go_wp2_with fail
      refine (runs_any _ _ _ _ _ _ _ HP.out.1).mono ?_; rintro e w5 ⟨a5, c5, rfl, hown5, hb5⟩
      have HP5 := Lib.hid (HP.out.below hb5)
      have HR5 := Lib.hid hown5.rd
      have hl5 := hown5.le
      generalize runsV N R = L at *
      have hL129 := hrb.1
      clear hb5 hown5 HP hrb HRL
      go_wp2_with fail
      go_loopw [14, 15, 16, 17] (fun at_ i u v wr => ∃ j : Nat, j ≤ L.length ∧ i = .int .i64 j ∧ at_ = .int .i64 (begs L j : Nat) ∧ PV w wr tt a cap N R ∧ Below w5.heap.size w5 wr) (fun at_ i u v _ => L.length - (intOf i).toNat)
      case atStart => exact ⟨0, by omega, rfl, rfl, HP5.out, Below.refl _ _⟩
      case round =>
        obtain ⟨j, hj, rfl, rfl, hp, hb⟩ := hrel
        have HP := Lib.hid hp; have HB := Lib.hid hb
        clear hp hb HP5
        by_cases g : j < L.length
        · have d1 : decide ((j : Int) < L.length) = true := by simp; omega
          obtain ⟨b, o, rfl, k0, k1, k2⟩ := rz_at (HR5.out.below HB.out) j g
          have hq := HAL.out L[j] (List.getElem_mem g)
          have hq0 := HBG.out.2.1 j g
          have hsw := HWH.out (begs L j)
          have how : ownV R (begs L j) = L[j].2.2 := hq.2.2 _ (by omega) (by omega)
          rw [how] at hsw
          have hbs := begs_succ L j g
          by_cases g0 : j = 0
          · subst g0
            have hb1 : (0 : Int) < (L.length : Int) := by omega
            simp only [Nat.zero_mul, Nat.add_zero] at k0 k1 k2
            have HBS := Lib.hid hbs
            have HSW := Lib.hid hsw
            rw [hq0] at k0
            rw [show ((0 : Nat) : Int) = 0 from rfl]
            generalize L[0] = q at *
            obtain ⟨qf, qn, qw⟩ := q
            dsimp only at *
            generalize begs L 0 = at_ at *
            have n0 : ((at_ : Int) != (at_ : Int)) = false := by simp
            have n1 : decide ((qn : Int) < 1) = false := by simp; omega
            have n2 : decide ((N : Int) - at_ < (qn : Int)) = false := by simp; omega
            have ha0 : at_ ≤ N := by omega
            have hwr : IntKind.i64.wrap ((N : Int) - at_) = (N : Int) - at_ := IntWalk.i64_in _ (by omega)
            have hws : IntKind.i64.wrap ((at_ : Int) + qn) = (at_ : Int) + qn := IntWalk.i64_in _ (by omega)
            have ha1 : qn ≤ 64 := by omega
            clear hq hsw how hbs hq0
            (
            have KK : Hid (∀ W, Below wr.heap.size wr W → W.cell? ⟨b, o + 0 * 3 + 1, none⟩ = some (.int .i64 qn) ∧ W.cell? ⟨b, o + 0 * 3 + 2, none⟩ = some (.int .i64 qw)) := fun W hW => ⟨(hW.cell (p := ⟨b, _, none⟩) (World.block_lt_of_cell? wr ⟨b, _, none⟩ k1)).trans k1, (hW.cell (p := ⟨b, _, none⟩) (World.block_lt_of_cell? wr ⟨b, _, none⟩ k2)).trans k2⟩
            clear HAL HBG HWH
            go_wp2_with fail
            go_quiet (fail)
            obtain ⟨W1, hW1⟩ : ∃ W1, W1 = wr.drewN nq := ⟨_, rfl⟩
            have hbw : Below wr.heap.size wr W1 := by rw [hW1]; exact below_drewN (Below.refl _ _) nq
            have HP1 := Lib.hid (HP.out.below hbw)
            have HB1 : Hid (Below w5.heap.size w5 W1) := bmore HB.out hbw
            have HBW := Lib.hid hbw
            rw [← hW1]
            clear hW1 hbw k0 k1 k2 n0 n2 hwr
            go_wp2_with fail
            refine (who_any _ _ _ _ _ _ _ _ HP1.out.1).mono ?_; rw [HSW.out]; rintro e w2 ⟨rfl, hb2⟩
            have HP2 := Lib.hid (HP1.out.below hb2)
            have HB2 : Hid (Below w5.heap.size w5 w2) := bmore HB1.out hb2
            obtain ⟨kk1, kk2⟩ := KK.out w2 (bmore HBW.out hb2)
            try simp only [Nat.zero_mul, Nat.add_zero] at kk1 kk2
            clear hb2 HP1 HB1 HP HB HBW HSW KK
            by_cases hpos : 0 ≤ qw
            · rw [if_pos hpos]
              have m1 : decide (0 ≤ qw) = true := by simpa using hpos
              have m2 : (qw != qw) = false := by simp
              clear hpos
              go_wp2_with fail
              go_roundw
              case rel => exact ⟨0 + 1, by omega, by go_num, by rw [HBS.out]; go_num, HP2.out, HB2.out⟩
              case measure => simp [intOf]; omega
            · rw [if_neg hpos]
              have m1 : decide (0 ≤ qw) = false := by simpa using hpos
              clear hpos
              go_wp2_with fail
              go_roundw
              case rel => exact ⟨0 + 1, by omega, by go_num, by rw [HBS.out]; go_num, HP2.out, HB2.out⟩
              case measure => simp [intOf]; omega
)
          · obtain ⟨p, rfl⟩ : ∃ p, j = p + 1 := ⟨j - 1, by omega⟩
            obtain ⟨b', o', hbb, p0, p1, p2⟩ := rz_at (HR5.out.below HB.out) p (by omega)
            injection hbb with hbb
            injection hbb with hb1 hb2
            subst hb1 hb2
            have hnx := HBG.out.2.2 p g
            have e0 : decide ((0 : Int) < (p : Int) + 1) = true := by (rw [decide_eq_true_eq]; omega)
            have hb2 : (0 : Int) ≤ (p : Int) + 1 := by omega
            have hb3 : (p : Int) < (L.length : Int) := by omega
            have hb0 : (0 : Int) ≤ (p : Int) := by omega
            have hb1 : (p : Int) + 1 < (L.length : Int) := by omega
            have hc0 : ((p + 1 : Nat) : Int) = (p : Int) + 1 := by omega
            rw [hc0]
            have HBS := Lib.hid hbs
            have HSW := Lib.hid hsw
            rw [hq0] at k0
            generalize L[p + 1] = q at *
            generalize L[p] = qp at *
            obtain ⟨qf, qn, qw⟩ := q
            obtain ⟨zf, zn, zw⟩ := qp
            dsimp only at *
            generalize begs L (p + 1) = at_ at *
            have n0 : ((at_ : Int) != (at_ : Int)) = false := by simp
            have n1 : decide ((qn : Int) < 1) = false := by simp; omega
            have n2 : decide ((N : Int) - at_ < (qn : Int)) = false := by simp; omega
            have ha0 : at_ ≤ N := by omega
            have hwr : IntKind.i64.wrap ((N : Int) - at_) = (N : Int) - at_ := IntWalk.i64_in _ (by omega)
            have hws : IntKind.i64.wrap ((at_ : Int) + qn) = (at_ : Int) + qn := IntWalk.i64_in _ (by omega)
            have ha1 : qn ≤ 64 := by omega
            have n3 : (qw == zw) = false := by simpa using hnx
            clear hq hsw how hbs hnx hq0 g0
            (
            have KK : Hid (∀ W, Below wr.heap.size wr W → W.cell? ⟨b, o + (p + 1) * 3 + 1, none⟩ = some (.int .i64 qn) ∧ W.cell? ⟨b, o + (p + 1) * 3 + 2, none⟩ = some (.int .i64 qw)) := fun W hW => ⟨(hW.cell (p := ⟨b, _, none⟩) (World.block_lt_of_cell? wr ⟨b, _, none⟩ k1)).trans k1, (hW.cell (p := ⟨b, _, none⟩) (World.block_lt_of_cell? wr ⟨b, _, none⟩ k2)).trans k2⟩
            clear HAL HBG HWH
            go_wp2_with fail
            go_quiet (fail)
            obtain ⟨W1, hW1⟩ : ∃ W1, W1 = wr.drewN nq := ⟨_, rfl⟩
            have hbw : Below wr.heap.size wr W1 := by rw [hW1]; exact below_drewN (Below.refl _ _) nq
            have HP1 := Lib.hid (HP.out.below hbw)
            have HB1 : Hid (Below w5.heap.size w5 W1) := bmore HB.out hbw
            have HBW := Lib.hid hbw
            rw [← hW1]
            clear hW1 hbw k0 k1 k2 p0 p1 p2 n0 n2 hwr
            go_wp2_with fail
            refine (who_any _ _ _ _ _ _ _ _ HP1.out.1).mono ?_; rw [HSW.out]; rintro e w2 ⟨rfl, hb2⟩
            have HP2 := Lib.hid (HP1.out.below hb2)
            have HB2 : Hid (Below w5.heap.size w5 w2) := bmore HB1.out hb2
            obtain ⟨kk1, kk2⟩ := KK.out w2 (bmore HBW.out hb2)
            try simp only [Nat.zero_mul, Nat.add_zero] at kk1 kk2
            clear hb2 HP1 HB1 HP HB HBW HSW KK
            by_cases hpos : 0 ≤ qw
            · rw [if_pos hpos]
              have m1 : decide (0 ≤ qw) = true := by simpa using hpos
              have m2 : (qw != qw) = false := by simp
              clear hpos
              go_wp2_with fail
              go_roundw
              case rel => exact ⟨(p + 1) + 1, by omega, by go_num, by rw [HBS.out]; go_num, HP2.out, HB2.out⟩
              case measure => simp [intOf]; omega
            · rw [if_neg hpos]
              have m1 : decide (0 ≤ qw) = false := by simpa using hpos
              clear hpos
              go_wp2_with fail
              go_roundw
              case rel => exact ⟨(p + 1) + 1, by omega, by go_num, by rw [HBS.out]; go_num, HP2.out, HB2.out⟩
              case measure => simp [intOf]; omega
)
        · obtain rfl : j = L.length := by omega
          have d1 : decide ((L.length : Int) < L.length) = false := by simp
          rw [HBG.out.1]
          clear HAL HBG HWH
          go_wp2_with fail
          refine (awake_any _).mono ?_; rintro e wz ⟨rfl, hbz⟩
          go_wp2_with fail
          go_ret
          exact ⟨rfl, bmore HP.out.2 hbz⟩
        )
    · have e1 : decide ((k : Int) < fs.length) = false := by simp; omega
      (
      have HRL := Lib.hid (runsV_rle HP.out.1.ok)
      have HAL := Lib.hid (rle_all HRL.out).1
      have HBG := Lib.hid (rle_begs HRL.out)
      have hrb := runsV_bd HP.out.1.ok
      have hln := (rle_all HRL.out).2
      have HWH := Lib.hid (fun (i : Nat) => ownV_who R i)
      go_wp2_with fail
      refine (runs_any _ _ _ _ _ _ _ HP.out.1).mono ?_; rintro e w5 ⟨a5, c5, rfl, hown5, hb5⟩
      have HP5 := Lib.hid (HP.out.below hb5)
      have HR5 := Lib.hid hown5.rd
      have hl5 := hown5.le
      generalize runsV N R = L at *
      have hL129 := hrb.1
      clear hb5 hown5 HP hrb HRL
      go_wp2_with fail
      go_loopw [14, 15, 16, 17] (fun at_ i u v wr => ∃ j : Nat, j ≤ L.length ∧ i = .int .i64 j ∧ at_ = .int .i64 (begs L j : Nat) ∧ PV w wr tt a cap N R ∧ Below w5.heap.size w5 wr) (fun at_ i u v _ => L.length - (intOf i).toNat)
      case atStart => exact ⟨0, by omega, rfl, rfl, HP5.out, Below.refl _ _⟩
      case round =>
        obtain ⟨j, hj, rfl, rfl, hp, hb⟩ := hrel
        have HP := Lib.hid hp; have HB := Lib.hid hb
        clear hp hb HP5
        by_cases g : j < L.length
        · have d1 : decide ((j : Int) < L.length) = true := by simp; omega
          obtain ⟨b, o, rfl, k0, k1, k2⟩ := rz_at (HR5.out.below HB.out) j g
          have hq := HAL.out L[j] (List.getElem_mem g)
          have hq0 := HBG.out.2.1 j g
          have hsw := HWH.out (begs L j)
          have how : ownV R (begs L j) = L[j].2.2 := hq.2.2 _ (by omega) (by omega)
          rw [how] at hsw
          have hbs := begs_succ L j g
          by_cases g0 : j = 0
          · subst g0
            have hb1 : (0 : Int) < (L.length : Int) := by omega
            simp only [Nat.zero_mul, Nat.add_zero] at k0 k1 k2
            have HBS := Lib.hid hbs
            have HSW := Lib.hid hsw
            rw [hq0] at k0
            rw [show ((0 : Nat) : Int) = 0 from rfl]
            generalize L[0] = q at *
            obtain ⟨qf, qn, qw⟩ := q
            dsimp only at *
            generalize begs L 0 = at_ at *
            have n0 : ((at_ : Int) != (at_ : Int)) = false := by simp
            have n1 : decide ((qn : Int) < 1) = false := by simp; omega
            have n2 : decide ((N : Int) - at_ < (qn : Int)) = false := by simp; omega
            have ha0 : at_ ≤ N := by omega
            have hwr : IntKind.i64.wrap ((N : Int) - at_) = (N : Int) - at_ := IntWalk.i64_in _ (by omega)
            have hws : IntKind.i64.wrap ((at_ : Int) + qn) = (at_ : Int) + qn := IntWalk.i64_in _ (by omega)
            have ha1 : qn ≤ 64 := by omega
            clear hq hsw how hbs hq0
            (
            have KK : Hid (∀ W, Below wr.heap.size wr W → W.cell? ⟨b, o + 0 * 3 + 1, none⟩ = some (.int .i64 qn) ∧ W.cell? ⟨b, o + 0 * 3 + 2, none⟩ = some (.int .i64 qw)) := fun W hW => ⟨(hW.cell (p := ⟨b, _, none⟩) (World.block_lt_of_cell? wr ⟨b, _, none⟩ k1)).trans k1, (hW.cell (p := ⟨b, _, none⟩) (World.block_lt_of_cell? wr ⟨b, _, none⟩ k2)).trans k2⟩
            clear HAL HBG HWH
            go_wp2_with fail
            go_quiet (fail)
            obtain ⟨W1, hW1⟩ : ∃ W1, W1 = wr.drewN nq := ⟨_, rfl⟩
            have hbw : Below wr.heap.size wr W1 := by rw [hW1]; exact below_drewN (Below.refl _ _) nq
            have HP1 := Lib.hid (HP.out.below hbw)
            have HB1 : Hid (Below w5.heap.size w5 W1) := bmore HB.out hbw
            have HBW := Lib.hid hbw
            rw [← hW1]
            clear hW1 hbw k0 k1 k2 n0 n2 hwr
            go_wp2_with fail
            refine (who_any _ _ _ _ _ _ _ _ HP1.out.1).mono ?_; rw [HSW.out]; rintro e w2 ⟨rfl, hb2⟩
            have HP2 := Lib.hid (HP1.out.below hb2)
            have HB2 : Hid (Below w5.heap.size w5 w2) := bmore HB1.out hb2
            obtain ⟨kk1, kk2⟩ := KK.out w2 (bmore HBW.out hb2)
            try simp only [Nat.zero_mul, Nat.add_zero] at kk1 kk2
            clear hb2 HP1 HB1 HP HB HBW HSW KK
            by_cases hpos : 0 ≤ qw
            · rw [if_pos hpos]
              have m1 : decide (0 ≤ qw) = true := by simpa using hpos
              have m2 : (qw != qw) = false := by simp
              clear hpos
              go_wp2_with fail
              go_roundw
              case rel => exact ⟨0 + 1, by omega, by go_num, by rw [HBS.out]; go_num, HP2.out, HB2.out⟩
              case measure => simp [intOf]; omega
            · rw [if_neg hpos]
              have m1 : decide (0 ≤ qw) = false := by simpa using hpos
              clear hpos
              go_wp2_with fail
              go_roundw
              case rel => exact ⟨0 + 1, by omega, by go_num, by rw [HBS.out]; go_num, HP2.out, HB2.out⟩
              case measure => simp [intOf]; omega
)
          · obtain ⟨p, rfl⟩ : ∃ p, j = p + 1 := ⟨j - 1, by omega⟩
            obtain ⟨b', o', hbb, p0, p1, p2⟩ := rz_at (HR5.out.below HB.out) p (by omega)
            injection hbb with hbb
            injection hbb with hb1 hb2
            subst hb1 hb2
            have hnx := HBG.out.2.2 p g
            have e0 : decide ((0 : Int) < (p : Int) + 1) = true := by (rw [decide_eq_true_eq]; omega)
            have hb2 : (0 : Int) ≤ (p : Int) + 1 := by omega
            have hb3 : (p : Int) < (L.length : Int) := by omega
            have hb0 : (0 : Int) ≤ (p : Int) := by omega
            have hb1 : (p : Int) + 1 < (L.length : Int) := by omega
            have hc0 : ((p + 1 : Nat) : Int) = (p : Int) + 1 := by omega
            rw [hc0]
            have HBS := Lib.hid hbs
            have HSW := Lib.hid hsw
            rw [hq0] at k0
            generalize L[p + 1] = q at *
            generalize L[p] = qp at *
            obtain ⟨qf, qn, qw⟩ := q
            obtain ⟨zf, zn, zw⟩ := qp
            dsimp only at *
            generalize begs L (p + 1) = at_ at *
            have n0 : ((at_ : Int) != (at_ : Int)) = false := by simp
            have n1 : decide ((qn : Int) < 1) = false := by simp; omega
            have n2 : decide ((N : Int) - at_ < (qn : Int)) = false := by simp; omega
            have ha0 : at_ ≤ N := by omega
            have hwr : IntKind.i64.wrap ((N : Int) - at_) = (N : Int) - at_ := IntWalk.i64_in _ (by omega)
            have hws : IntKind.i64.wrap ((at_ : Int) + qn) = (at_ : Int) + qn := IntWalk.i64_in _ (by omega)
            have ha1 : qn ≤ 64 := by omega
            have n3 : (qw == zw) = false := by simpa using hnx
            clear hq hsw how hbs hnx hq0 g0
            (
            have KK : Hid (∀ W, Below wr.heap.size wr W → W.cell? ⟨b, o + (p + 1) * 3 + 1, none⟩ = some (.int .i64 qn) ∧ W.cell? ⟨b, o + (p + 1) * 3 + 2, none⟩ = some (.int .i64 qw)) := fun W hW => ⟨(hW.cell (p := ⟨b, _, none⟩) (World.block_lt_of_cell? wr ⟨b, _, none⟩ k1)).trans k1, (hW.cell (p := ⟨b, _, none⟩) (World.block_lt_of_cell? wr ⟨b, _, none⟩ k2)).trans k2⟩
            clear HAL HBG HWH
            go_wp2_with fail
            go_quiet (fail)
            obtain ⟨W1, hW1⟩ : ∃ W1, W1 = wr.drewN nq := ⟨_, rfl⟩
            have hbw : Below wr.heap.size wr W1 := by rw [hW1]; exact below_drewN (Below.refl _ _) nq
            have HP1 := Lib.hid (HP.out.below hbw)
            have HB1 : Hid (Below w5.heap.size w5 W1) := bmore HB.out hbw
            have HBW := Lib.hid hbw
            rw [← hW1]
            clear hW1 hbw k0 k1 k2 p0 p1 p2 n0 n2 hwr
            go_wp2_with fail
            refine (who_any _ _ _ _ _ _ _ _ HP1.out.1).mono ?_; rw [HSW.out]; rintro e w2 ⟨rfl, hb2⟩
            have HP2 := Lib.hid (HP1.out.below hb2)
            have HB2 : Hid (Below w5.heap.size w5 w2) := bmore HB1.out hb2
            obtain ⟨kk1, kk2⟩ := KK.out w2 (bmore HBW.out hb2)
            try simp only [Nat.zero_mul, Nat.add_zero] at kk1 kk2
            clear hb2 HP1 HB1 HP HB HBW HSW KK
            by_cases hpos : 0 ≤ qw
            · rw [if_pos hpos]
              have m1 : decide (0 ≤ qw) = true := by simpa using hpos
              have m2 : (qw != qw) = false := by simp
              clear hpos
              go_wp2_with fail
              go_roundw
              case rel => exact ⟨(p + 1) + 1, by omega, by go_num, by rw [HBS.out]; go_num, HP2.out, HB2.out⟩
              case measure => simp [intOf]; omega
            · rw [if_neg hpos]
              have m1 : decide (0 ≤ qw) = false := by simpa using hpos
              clear hpos
              go_wp2_with fail
              go_roundw
              case rel => exact ⟨(p + 1) + 1, by omega, by go_num, by rw [HBS.out]; go_num, HP2.out, HB2.out⟩
              case measure => simp [intOf]; omega
)
        · obtain rfl : j = L.length := by omega
          have d1 : decide ((L.length : Int) < L.length) = false := by simp
          rw [HBG.out.1]
          clear HAL HBG HWH
          go_wp2_with fail
          refine (awake_any _).mono ?_; rintro e wz ⟨rfl, hbz⟩
          go_wp2_with fail
          go_ret
          exact ⟨rfl, bmore HP.out.2 hbz⟩
      )
end Go.Proofs.Ythmbflofcceifaa
