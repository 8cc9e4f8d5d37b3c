/- The law DiskPlays: the walk. -/
import Derived.Test.YtlafijnmoaenaaaDiskPlays
import Derived.Deep.RegionHeld3
namespace Go.Proofs.Ytlafijnmoaenaaa
set_option linter.unusedVariables false
set_option linter.unusedSimpArgs false
set_option linter.unnecessarySimpa false
open Go.RowKit Go.Sort
set_option maxHeartbeats 400000
set_option maxRecDepth 100000

set_option maxHeartbeats 8000000 in
theorem plays_walk (ra : Option Addr) (rc : Nat) (l : List Rg) (aa : Option Addr) (ac : Nat) (acts : List Av) (w : World) (hr : Rd w 3 ra l.length (rgF l)) (hle : l.length ≤ rc) (hc : rc ≤ maxLen) (hr1 : Rd w 4 aa acts.length (avF acts)) (hle1 : acts.length ≤ ac) (hc1 : ac ≤ maxLen) (hst : ∀ x ∈ acts, AvOk w x) :
    Calls Try.prog 6 #[.slice ra l.length rc, .slice aa acts.length ac] w fun e w' => e = .returned (.bool true) ∧ Below w.heap.size w w' := by
  have hll : l.length ≤ 9223372036854775807 := by unfold maxLen at hc; omega
  have hal : acts.length ≤ 9223372036854775807 := by unfold maxLen at hc1; omega
  have HR := Lib.hid hr; have HA := Lib.hid hr1; have HST := Lib.hid hst
  clear hr hr1 hst
  by_cases h50 : l.length ≤ 50
  · have d50 : decide ((50 : Int) < (l.length : Int)) = false := by simp; omega
    have d50' : decide (50 < l.length) = false := by simp; omega
    by_cases h8 : l.length ≤ 8
    · have HNEW := Lib.hid (dnew_any ra rc l w HR.out hle hc h8)
      have HRNEW := Lib.hid (fun W hb => rdnew_any ra rc l W (HR.out.below hb) hle hc h8)
      go_enter Try.func6, Try.ntmps6
      go_wp2_with fail
      refine HNEW.out.mono ?_; intro e w1 h1
      rcases h1 with ⟨R, dd, tt, a, cap, la, lc, mb, hn, rfl, hd, hb, hg⟩ | ⟨hn, rfl, hb⟩
      · have HD1 := Lib.hid hd; have HB1 := Lib.hid hb
        have hz1 := hb.size
        clear hd hb hg HNEW
        go_wp2_with fail
        refine (HRNEW.out w1 HB1.out).mono ?_; intro e w2 h2
        rcases h2 with ⟨R2, rr, tr, ra2, rc2, ta, tc, hn2, rfl, hd2, hb2, hge⟩ | ⟨hn2, _⟩
        · rw [hn] at hn2
          injection hn2 with hn2
          subst hn2
          have HI0 : Hid (PDI w w2 dd tt a cap R la lc l mb 0 (fun _ => z16) rr ra2 rc2 tr ta tc) := ⟨HD1.out.below hb2, ⟨hd2.obj, hd2.rows.mono hz1, hd2.t.mono hz1, hd2.ok, hd2.own, hd2.sec⟩, by omega, bmore HB1.out hb2⟩
          clear hd2 hb2 hge HD1 HB1 hn hz1 HRNEW
          go_wp2_with fail
          go_loopw [11, 12, 13, 14, 15, 16, 17, 18, 19, 20, 21, 22, 23, 24] (fun i u2 u3 u4 u5 u6 u7 u8 u9 v0 v1 v2 v3 v4 wr => ∃ (k : Nat) (f : Nat → List Int) (ta : Option Addr) (tc : Nat), k ≤ 60 ∧ i = .int .i64 k ∧ PDI w wr dd tt a cap R la lc l mb k f rr ra2 rc2 tr ta tc) (fun i _ _ _ _ _ _ _ _ _ _ _ _ _ _ => 60 - (intOf i).toNat)
          case atStart => exact ⟨0, _, ta, tc, by omega, rfl, HI0.out⟩
          case round =>
            clear HI0
            obtain ⟨k, f, ta4, tc4, hk, rfl, hi⟩ := hrel
            have HI := Lib.hid hi
            clear hi
            by_cases g1 : k < acts.length
            · have d1 : decide ((k : Int) < acts.length) = true := by simp; omega
              by_cases g2 : k < 60
              · have d2 : decide ((k : Int) < 60) = true := by simp; omega
                obtain ⟨b0, o0, rfl, k0, k1, k2, k3⟩ := av_at (HA.out.below HI.out.hb) k g1
                have hok := HST.out acts[k] (List.getElem_mem g1)
                generalize acts[k] = x at k0 k1 k2 k3 hok
                obtain ⟨kk, xw, xt, ba, bc, bs⟩ := x
                dsimp only at k0 k1 k2 k3
                have hok : RowI w .u8 (.slice ba bs.length bc) bs := hok
                have hbl : bs.length ≤ 9223372036854775807 := by obtain ⟨_, _, e, q1, q2, _⟩ := hok; unfold maxLen at q2; omega
                have HRB := Lib.hid (rowI_rd hok)
                have HNB : Hid (bs.length = 16 → rr ∉ blk ba) := fun h16 hk => by
                  obtain ⟨p, rfl, hp⟩ := mem_blk.1 hk
                  have h0 := HI.out.rge
                  obtain ⟨_, _, e, _, _, q⟩ := hok
                  injection e with e1 e2 e3
                  subst e1
                  obtain ⟨b9, o9, e9, hc9⟩ := q (by rintro rfl; cases h16)
                  injection e9 with e9
                  subst e9
                  have := World.block_lt_of_cell? w ⟨b9, o9 + 0, none⟩ (hc9 0 (by omega))
                  dsimp only at hp this
                  omega
                clear hok
                obtain ⟨W1, hW1⟩ : ∃ W, W = wr.alloc (.cells #[.int .i64 kk, .int .i64 xw, .int .i64 xt, .slice ba bs.length bc] 54) := ⟨_, rfl⟩
                have hal1 : Below wr.heap.size wr W1 := by rw [hW1]; exact (Below.refl _ _).alloc (Nat.le_refl _) _
                have HI1 := Lib.hid (HI.out.below hal1)
                have HX1 : Hid (ObjAt W1 wr.heap.size 54 [.int .i64 kk, .int .i64 xw, .int .i64 xt, .slice ba bs.length bc]) := by rw [Hid, hW1]; exact new_block _ _ _ rfl
                have HW1 := Lib.hid hW1
                have hk0 : (0 : Int) ≤ k := by omega
                have hk1 : (k : Int) < (acts.length : Int) := by omega
                clear hW1 hal1 HI
                have HID : Hid (PDI w W1.drew dd tt a cap R la lc l mb k f rr ra2 rc2 tr ta4 tc4) := HI1.out.below ((Below.refl _ _).drew)
                have HXD : Hid (ObjAt W1.drew wr.heap.size 54 [.int .i64 kk, .int .i64 xw, .int .i64 xt, .slice ba bs.length bc]) := HX1.out
                by_cases e0 : kk = 0
                · subst e0
                  have hsz : (strOfNums bs).size ≤ maxLen := by rw [strOfNums_size]; simp only [maxLen]; omega
                  have HCV := Lib.hid (fun W (hW : Below w.heap.size w W) => conv_rd (HRB.out.below hW) rfl bc)
                  generalize strOfNums bs = s at hsz HCV
                  have HKK : Hid (∀ W, ObjAt W wr.heap.size 54 [.int .i64 0, .int .i64 xw, .int .i64 xt, .slice ba bs.length bc] → Below w.heap.size w W → W.cell? ⟨wr.heap.size, 2, none⟩ = some (.int .i64 xt) ∧ W.cell? ⟨wr.heap.size, 3, none⟩ = some (.slice ba bs.length bc) ∧ (convert 22 9 (.slice ba bs.length bc)).run Try.prog W = .ok (.string s) W) := fun W h1 h2 => ⟨h1.cell 2 _ rfl, h1.cell 3 _ rfl, HCV.out W h2⟩
                  have nv : (fillV R xt != fillV R xt) = false := by simp
                  have HFV : Hid (fillV R xt = fillV R xt) := rfl
                  obtain ⟨x2, x3, cv⟩ := HKK.out W1 HX1.out HI1.out.hb
                  go_wp2_with fail
                  rw [← HW1.out]
                  go_region_held3 (fun W => W.cell? ⟨wr.heap.size, 2, none⟩ = some (.int .i64 xt) ∧ W.cell? ⟨wr.heap.size, 3, none⟩ = some (.slice ba bs.length bc) ∧ (convert 22 9 (.slice ba bs.length bc)).run Try.prog W = .ok (.string s) W) (first | (exact HKK.out _ HX1.out HI1.out.hb) | (exact HKK.out _ HXD.out HID.out.hb) | (exact HKK.out _ HX2.out HM.out.2.2.2) | (exact HKK.out _ HX4.out HI4.out.hb)) (first | (go_at_call 11; refine (fill_any _ _ _ _ _ _ _ _ _ _ _ _ xt s _ HID.out.d (by omega)).mono ?_; rintro e w2 ⟨rfl, hd2, hm2⟩; have HM : Hid (PDI.Mid w w2 dd tt a cap R la lc l mb (k + 1) (fillF R xt s f) f rr ra2 rc2 tr ta4 tc4) := HID.out.mid hd2 hm2; have HX2 := Lib.hid (HXD.out.mod hm2 (by simpa using HID.out.d.notMap HXD.out.isC)); clear hd2 hm2) | (go_at_call 16; refine (rfill_any _ _ _ _ _ _ _ _ _ _ xt s hsz _ HM.out.2.1).mono ?_; rintro e w3 ⟨rfl, hd3, hm3⟩; have HI4 : Hid (PDI w w3 dd tt a cap R la lc l mb (k + 1) (fillF R xt s f) rr ra2 rc2 tr ta4 tc4) := PDI.Mid.full HM.out hd3 hm3; have HX4 := Lib.hid (HX2.out.mod hm3 (by simpa using HX2.out.ne HM.out.2.1.obj (by decide))); clear hd3 hm3))
                  clear HKK HCV x2 x3 cv HM HX2 HID HXD HX1 HI1 HW1 HRB HNB
                  generalize fillF R xt s f = f4 at HI4
                  go_wp2_with fail
                  clear nv
                  (
              have x2 := (HX4.out.cell 2 _ rfl)
              try go_wp2_with fail
              refine (bytes_any _ _ _ _ _ _ _ _ _ _ _ _ xt _ HI4.out.d).mono ?_; rintro e w5 ⟨a5, m5, c5, rfl, hif5, hb5⟩
              have HI5 := Lib.hid (HI4.out.below hb5)
              have HX5 := Lib.hid (HX4.out.below hb5)
              have h16 := HI4.out.r.sec xt.toNat
              clear x2
              have x2 := (HX5.out.cell 2 _ rfl)
              go_wp2_with fail
              refine (rbytes_any _ _ _ _ _ _ _ _ _ _ xt _ HI5.out.r).mono ?_; rintro e w6 ⟨a6, m6, c6, rfl, hif6, hb6⟩
              have HI6 := Lib.hid (HI5.out.below hb6)
              have HX6 := Lib.hid (HX5.out.below hb6)
              clear x2
              have x2 := (HX6.out.cell 2 _ rfl)
              go_wp2_with fail
              refine (range_any _ _ _ _ _ _ _ _ _ _ _ _ xt _ HI6.out.d).mono ?_; rintro e w7 ⟨rfl, hb7⟩
              have HI7 := Lib.hid (HI6.out.below hb7)
              have HX7 := Lib.hid (HX6.out.below hb7)
              have HB57 := Lib.hid (bmore hb6 hb7)
              have HB67 := Lib.hid hb7
              clear x2
              have x2 := (HX7.out.cell 2 _ rfl)
              have r1 := HI7.out.r.obj.cell 1 _ rfl
              have HRW := Lib.hid (fun n => rwho_ _ _ _ _ _ _ _ _ _ _ xt (w7.drewN n) (HI7.out.r.below (below_drewN (Below.refl _ _) n)))
              clear hb5 hb6 hb7 HI5 HI6 HX5 HX6
              obtain ⟨wa, wb, hw⟩ : ∃ wa wb, whoV R xt = (wa, wb) := ⟨_, _, rfl⟩
              rw [hw] at HRW
              rw [hw]
              dsimp only at HRW ⊢
              have na : (wa != wa) = false := by simp
              have nb : (wb != wb) = false := by simp
              clear hw
              go_wp2_with fail
              go_quiet ((go_at_call 20; exact Calls.quiet_of_same ((HRW.out _).mono fun _ _ h => ⟨h.1, h.2.symm⟩)))
              obtain ⟨W8, hW8⟩ : ∃ W8, W8 = w7.drewN nq := ⟨_, rfl⟩
              have hbw : Below w7.heap.size w7 W8 := by rw [hW8]; exact below_drewN (Below.refl _ _) nq
              have HI8 := Lib.hid (HI7.out.below hbw)
              have v5 := bt_conv hif5 h16 (bmore HB57.out hbw)
              have v6 := bt_conv hif6 h16 (bmore HB67.out hbw)
              rw [← hW8]
              clear hW8 hbw x2 r1 HRW hif5 hif6 h16 HI7 HX7 HB57 HB67
              generalize btS (inD xt) _ = Z at v5 v6
              generalize inD xt = zi
              have nz : (zi != zi) = false := by simp
              go_wp2_with fail
              go_roundw
              case rel => exact ⟨k + 1, _, ta4, tc4, by omega, by go_num, HI8.out⟩
              case measure => simp [intOf]; omega
)
                · have t0 : (kk == 0) = false := by simpa using e0
                  by_cases e1 : kk = 1
                  · subst e1
                    have x0 := HX1.out.cell 0 _ rfl; have x1 := HX1.out.cell 1 _ rfl; have x2 := HX1.out.cell 2 _ rfl
                    clear e0
                    go_wp2_with fail
                    rw [← HW1.out]
                    refine (read_any _ _ _ _ _ _ _ _ _ _ _ _ xw xt _ HI1.out.d).mono ?_; rintro e w2 ⟨a2, m2, c2, rfl, hif2, hb2⟩
                    have HI2 := Lib.hid (HI1.out.below hb2)
                    have HX2 := Lib.hid (HX1.out.below hb2)
                    have h16 := HI1.out.r.sec xt.toNat
                    clear x0 x1 x2
                    have x1 := HX2.out.cell 1 _ rfl; have x2 := HX2.out.cell 2 _ rfl
                    go_wp2_with fail
                    refine (rread_any _ _ _ _ _ _ _ _ _ _ xw xt _ HI2.out.r h8).mono ?_; rintro e w3 ⟨a3, m3, c3, rfl, hif3, hb3⟩
                    have HI4 : Hid (PDI w w3 dd tt a cap R la lc l mb (k + 1) f rr ra2 rc2 tr ta4 tc4) := (HI2.out.below hb3).up
                    have HX4 := Lib.hid (HX2.out.below hb3)
                    have v2 := rd_conv hif2 h16 hb3
                    have v3 := rd_conv hif3 h16 (Below.refl _ _)
                    clear x1 x2 hif2 hif3 hb2 hb3 h16 HI2 HX2 HID HXD HX1 HI1 HW1 HRB HNB
                    generalize readE R (l.map (fun x : Rg => x.1)) xw xt = er at v2 v3
                    generalize btS (er == 0) _ = Z at v2 v3
                    have nv : (er != er) = false := by simp
                    have x2 := (HX4.out.cell 2 _ rfl)
                    go_wp2_with fail
                    clear v2 v3 nv x2
                    (
              have x2 := (HX4.out.cell 2 _ rfl)
              try go_wp2_with fail
              refine (bytes_any _ _ _ _ _ _ _ _ _ _ _ _ xt _ HI4.out.d).mono ?_; rintro e w5 ⟨a5, m5, c5, rfl, hif5, hb5⟩
              have HI5 := Lib.hid (HI4.out.below hb5)
              have HX5 := Lib.hid (HX4.out.below hb5)
              have h16 := HI4.out.r.sec xt.toNat
              clear x2
              have x2 := (HX5.out.cell 2 _ rfl)
              go_wp2_with fail
              refine (rbytes_any _ _ _ _ _ _ _ _ _ _ xt _ HI5.out.r).mono ?_; rintro e w6 ⟨a6, m6, c6, rfl, hif6, hb6⟩
              have HI6 := Lib.hid (HI5.out.below hb6)
              have HX6 := Lib.hid (HX5.out.below hb6)
              clear x2
              have x2 := (HX6.out.cell 2 _ rfl)
              go_wp2_with fail
              refine (range_any _ _ _ _ _ _ _ _ _ _ _ _ xt _ HI6.out.d).mono ?_; rintro e w7 ⟨rfl, hb7⟩
              have HI7 := Lib.hid (HI6.out.below hb7)
              have HX7 := Lib.hid (HX6.out.below hb7)
              have HB57 := Lib.hid (bmore hb6 hb7)
              have HB67 := Lib.hid hb7
              clear x2
              have x2 := (HX7.out.cell 2 _ rfl)
              have r1 := HI7.out.r.obj.cell 1 _ rfl
              have HRW := Lib.hid (fun n => rwho_ _ _ _ _ _ _ _ _ _ _ xt (w7.drewN n) (HI7.out.r.below (below_drewN (Below.refl _ _) n)))
              clear hb5 hb6 hb7 HI5 HI6 HX5 HX6
              obtain ⟨wa, wb, hw⟩ : ∃ wa wb, whoV R xt = (wa, wb) := ⟨_, _, rfl⟩
              rw [hw] at HRW
              rw [hw]
              dsimp only at HRW ⊢
              have na : (wa != wa) = false := by simp
              have nb : (wb != wb) = false := by simp
              clear hw
              go_wp2_with fail
              go_quiet ((go_at_call 20; exact Calls.quiet_of_same ((HRW.out _).mono fun _ _ h => ⟨h.1, h.2.symm⟩)))
              obtain ⟨W8, hW8⟩ : ∃ W8, W8 = w7.drewN nq := ⟨_, rfl⟩
              have hbw : Below w7.heap.size w7 W8 := by rw [hW8]; exact below_drewN (Below.refl _ _) nq
              have HI8 := Lib.hid (HI7.out.below hbw)
              have v5 := bt_conv hif5 h16 (bmore HB57.out hbw)
              have v6 := bt_conv hif6 h16 (bmore HB67.out hbw)
              rw [← hW8]
              clear hW8 hbw x2 r1 HRW hif5 hif6 h16 HI7 HX7 HB57 HB67
              generalize btS (inD xt) _ = Z at v5 v6
              generalize inD xt = zi
              have nz : (zi != zi) = false := by simp
              go_wp2_with fail
              go_roundw
              case rel => exact ⟨k + 1, _, ta4, tc4, by omega, by go_num, HI8.out⟩
              case measure => simp [intOf]; omega
)
                  · have t1 : (kk == 1) = false := by simpa using e1
                    clear e0 e1
                    have HKK : Hid (∀ W, ObjAt W wr.heap.size 54 [.int .i64 kk, .int .i64 xw, .int .i64 xt, .slice ba bs.length bc] → W.cell? ⟨wr.heap.size, 1, none⟩ = some (.int .i64 xw) ∧ W.cell? ⟨wr.heap.size, 2, none⟩ = some (.int .i64 xt) ∧ W.cell? ⟨wr.heap.size, 3, none⟩ = some (.slice ba bs.length bc)) := fun W h1 => ⟨h1.cell 1 _ rfl, h1.cell 2 _ rfl, h1.cell 3 _ rfl⟩
                    obtain ⟨we, hwe⟩ : ∃ we, we = writeE R (l.map (fun x : Rg => x.1)) xw xt bs.length := ⟨_, rfl⟩
                    have HWE := Lib.hid hwe
                    have nv : (we != we) = false := by simp
                    clear hwe
                    obtain ⟨x1, x2, x3⟩ := HKK.out W1 HX1.out
                    go_wp2_with fail
                    rw [← HW1.out]
                    go_region_held3 (fun W => W.cell? ⟨wr.heap.size, 1, none⟩ = some (.int .i64 xw) ∧ W.cell? ⟨wr.heap.size, 2, none⟩ = some (.int .i64 xt) ∧ W.cell? ⟨wr.heap.size, 3, none⟩ = some (.slice ba bs.length bc)) (first | (exact HKK.out _ HX1.out) | (exact HKK.out _ HXD.out) | (exact HKK.out _ HX2.out) | (exact HKK.out _ HX4.out)) (first | (go_at_call 10; refine (write_any _ _ _ _ _ _ _ _ _ _ _ _ xw xt _ bs.length _ bs rfl hbl _ HID.out.d (HRB.out.below HID.out.hb) (by omega)).mono ?_; rw [← HWE.out]; rintro e w2 ⟨rfl, hd2, hm2⟩; have HM : Hid (PDI.Mid w w2 dd tt a cap R la lc l mb (k + 1) (writeF R (l.map (fun x : Rg => x.1)) xw xt bs.length bs f) f rr ra2 rc2 tr ta4 tc4) := HID.out.mid hd2 hm2; have HX2 := Lib.hid (HXD.out.mod hm2 (by simpa using HID.out.d.notMap HXD.out.isC)); clear hd2 hm2) | (go_at_call 18; refine (rwrite_any _ _ _ _ _ _ _ _ _ _ xw xt _ bs.length _ bs rfl hbl _ HM.out.2.1 h8 (HRB.out.below HM.out.2.2.2) HNB.out).mono ?_; rw [← HWE.out]; rintro e w3 ⟨rfl, hd3, hm3⟩; have HI4 : Hid (PDI w w3 dd tt a cap R la lc l mb (k + 1) (writeF R (l.map (fun x : Rg => x.1)) xw xt bs.length bs f) rr ra2 rc2 tr ta4 tc4) := PDI.Mid.full HM.out hd3 hm3; have HX4 := Lib.hid (HX2.out.mod hm3 (by simpa using HX2.out.ne HM.out.2.1.obj (by decide))); clear hd3 hm3))
                    clear HKK x1 x2 x3 HM HX2 HID HXD HX1 HI1 HW1 HRB HNB HWE
                    generalize writeF R (l.map (fun x : Rg => x.1)) xw xt bs.length bs f = f4 at HI4
                    go_wp2_with fail
                    clear nv
                    (
              have x2 := (HX4.out.cell 2 _ rfl)
              try go_wp2_with fail
              refine (bytes_any _ _ _ _ _ _ _ _ _ _ _ _ xt _ HI4.out.d).mono ?_; rintro e w5 ⟨a5, m5, c5, rfl, hif5, hb5⟩
              have HI5 := Lib.hid (HI4.out.below hb5)
              have HX5 := Lib.hid (HX4.out.below hb5)
              have h16 := HI4.out.r.sec xt.toNat
              clear x2
              have x2 := (HX5.out.cell 2 _ rfl)
              go_wp2_with fail
              refine (rbytes_any _ _ _ _ _ _ _ _ _ _ xt _ HI5.out.r).mono ?_; rintro e w6 ⟨a6, m6, c6, rfl, hif6, hb6⟩
              have HI6 := Lib.hid (HI5.out.below hb6)
              have HX6 := Lib.hid (HX5.out.below hb6)
              clear x2
              have x2 := (HX6.out.cell 2 _ rfl)
              go_wp2_with fail
              refine (range_any _ _ _ _ _ _ _ _ _ _ _ _ xt _ HI6.out.d).mono ?_; rintro e w7 ⟨rfl, hb7⟩
              have HI7 := Lib.hid (HI6.out.below hb7)
              have HX7 := Lib.hid (HX6.out.below hb7)
              have HB57 := Lib.hid (bmore hb6 hb7)
              have HB67 := Lib.hid hb7
              clear x2
              have x2 := (HX7.out.cell 2 _ rfl)
              have r1 := HI7.out.r.obj.cell 1 _ rfl
              have HRW := Lib.hid (fun n => rwho_ _ _ _ _ _ _ _ _ _ _ xt (w7.drewN n) (HI7.out.r.below (below_drewN (Below.refl _ _) n)))
              clear hb5 hb6 hb7 HI5 HI6 HX5 HX6
              obtain ⟨wa, wb, hw⟩ : ∃ wa wb, whoV R xt = (wa, wb) := ⟨_, _, rfl⟩
              rw [hw] at HRW
              rw [hw]
              dsimp only at HRW ⊢
              have na : (wa != wa) = false := by simp
              have nb : (wb != wb) = false := by simp
              clear hw
              go_wp2_with fail
              go_quiet ((go_at_call 20; exact Calls.quiet_of_same ((HRW.out _).mono fun _ _ h => ⟨h.1, h.2.symm⟩)))
              obtain ⟨W8, hW8⟩ : ∃ W8, W8 = w7.drewN nq := ⟨_, rfl⟩
              have hbw : Below w7.heap.size w7 W8 := by rw [hW8]; exact below_drewN (Below.refl _ _) nq
              have HI8 := Lib.hid (HI7.out.below hbw)
              have v5 := bt_conv hif5 h16 (bmore HB57.out hbw)
              have v6 := bt_conv hif6 h16 (bmore HB67.out hbw)
              rw [← hW8]
              clear hW8 hbw x2 r1 HRW hif5 hif6 h16 HI7 HX7 HB57 HB67
              generalize btS (inD xt) _ = Z at v5 v6
              generalize inD xt = zi
              have nz : (zi != zi) = false := by simp
              go_wp2_with fail
              go_roundw
              case rel => exact ⟨k + 1, _, ta4, tc4, by omega, by go_num, HI8.out⟩
              case measure => simp [intOf]; omega
)
              · have d2 : decide ((k : Int) < 60) = false := by simp; omega
                (
      go_wp2_with fail
      refine (awake_any _).mono ?_; rintro e wz ⟨rfl, hbz⟩
      go_wp2_with fail
      go_ret
      exact ⟨rfl, bmore (HI.out.hb) hbz⟩
)
            · have d1 : decide ((k : Int) < acts.length) = false := by simp; omega
              (
      go_wp2_with fail
      refine (awake_any _).mono ?_; rintro e wz ⟨rfl, hbz⟩
      go_wp2_with fail
      go_ret
      exact ⟨rfl, bmore (HI.out.hb) hbz⟩
)
        · rw [hn] at hn2
          cases hn2
      · have HB1 := Lib.hid hb
        have HN := Lib.hid hn
        clear hb hn HNEW
        go_wp2_with fail
        refine (HRNEW.out w1 HB1.out).mono ?_; intro e w2 h2
        rcases h2 with ⟨R2, _, _, _, _, _, _, hn2, _⟩ | ⟨hn2, rfl, hb2⟩
        · rw [HN.out] at hn2
          cases hn2
        · have HB2 : Hid (Below w.heap.size w w2) := bmore HB1.out hb2
          clear hn2 hb2 HRNEW
          (
      go_wp2_with fail
      refine (awake_any _).mono ?_; rintro e wz ⟨rfl, hbz⟩
      go_wp2_with fail
      go_ret
      exact ⟨rfl, bmore (HB2.out) hbz⟩
)
    · have HNEW := Lib.hid (dnew_long ra l.length rc hll (by omega) w)
      have d8 : decide ((8 : Int) < (l.length : Int)) = true := by simp; omega
      have d8' : decide (8 < l.length) = true := by simp; omega
      have HRNEW : Hid (Calls Try.prog 15 #[.slice ra l.length rc] w fun e w' => e = .returned (.tuple #[.pointer none, .int .i64 14]) ∧ w = w') := by
        clear HNEW
        go_enter Try.func15, Try.ntmps15
        go_wp2
        go_ret2
        exact ⟨rfl, rfl⟩
      go_enter Try.func6, Try.ntmps6
      go_wp2_with fail
      refine HNEW.out.mono ?_; rintro e w' ⟨rfl, rfl⟩
      go_wp2_with fail
      refine HRNEW.out.mono ?_; rintro e w' ⟨rfl, rfl⟩
      (
      go_wp2_with fail
      refine (awake_any _).mono ?_; rintro e wz ⟨rfl, hbz⟩
      go_wp2_with fail
      go_ret
      exact ⟨rfl, bmore (Below.refl _ _) hbz⟩
)
  · have HNEW := Lib.hid (dnew_long ra l.length rc hll (by omega) w)
    have d50 : decide ((50 : Int) < (l.length : Int)) = true := by simp; omega
    have d50' : decide (50 < l.length) = true := by simp; omega
    go_enter Try.func6, Try.ntmps6
    go_wp2_with fail
    refine HNEW.out.mono ?_; rintro e w' ⟨rfl, rfl⟩
    (
      go_wp2_with fail
      refine (awake_any _).mono ?_; rintro e wz ⟨rfl, hbz⟩
      go_wp2_with fail
      go_ret
      exact ⟨rfl, bmore (Below.refl _ _) hbz⟩
)
end Go.Proofs.Ytlafijnmoaenaaa
