/- The law PortsPlays: the ports beside the reference's. -/
import Derived.Test.YtpccllgbccccnaaPortsRef6
import Derived.Test.YtpccllgbccccnaaPortsFlows
namespace Go.Proofs.Ytpccllgbccccnaa
set_option linter.unusedVariables false
set_option linter.unusedSimpArgs false
set_option linter.unnecessarySimpa false
open Go.RowKit Go.Sort
set_option maxHeartbeats 400000
set_option maxRecDepth 100000

/-- The ports, and the reference's, beside each other. -/
structure PInv (w W : World) (pp : Nat) (gp : Option Addr) (cp : Nat) (ps : List Pt) (rr : Nat) (s : RS) : Prop where
  p : PSt W w.heap.size pp gp cp ps
  r : RSt W w.heap.size rr s
  dj : Dj (pp :: pblk gp ps) (fps (s.its rr))
  hb : Below w.heap.size w W
namespace PInv
variable {w W W' : World} {pp cp rr : Nat} {gp : Option Addr} {ps : List Pt} {s : RS}
theorem below (h : PInv w W pp gp cp ps rr s) (hb : Below W.heap.size W W') : PInv w W' pp gp cp ps rr s := ⟨h.p.below hb, h.r.below hb, h.dj, bmore h.hb hb⟩
theorem actP (h : PInv w W pp gp cp ps rr s) {ps' : List Pt} (hp : PSt W' w.heap.size pp gp cp ps') (hb : ∀ B0, B0 ≤ w.heap.size → Below B0 W W') (hm : Mod (pblk gp ps) W W') (hat : ∀ k ∈ pblk gp ps', k ∈ pblk gp ps ∨ W.heap.size ≤ k) : PInv w W' pp gp cp ps' rr s :=
  ⟨hp, ⟨h.r.fam.mod hm (fun k hk hk2 => h.dj k (List.mem_cons_of_mem _ hk2) hk), h.r.li, h.r.lo, h.r.l8⟩, fun k hk hk2 => by
    rcases List.mem_cons.1 hk with rfl | hk
    · exact h.dj k (by simp) hk2
    · rcases hat k hk with h0 | h0
      · exact h.dj k (List.mem_cons_of_mem _ h0) hk2
      · have := (h.r.fam.ge k hk2).2; omega, h.hb.trans (hb _ (Nat.le_refl _))⟩
theorem actR (h : PInv w W pp gp cp ps rr s) {s' : RS} (hr : RSt W' w.heap.size rr s') (ha : Acts w.heap.size (s.its rr) (s'.its rr) W W') : PInv w W' pp gp cp ps rr s' :=
  ⟨h.p.mod ha.mod (h.dj pp (by simp)) (fun k hk => h.dj k (List.mem_cons_of_mem _ hk)), hr, fun k hk hk2 => by
    rcases ha.at_ k hk2 with h0 | h0
    · exact h.dj k hk h0
    · rcases List.mem_cons.1 hk with rfl | hk
      · have := h.p.obj.lt; omega
      · have := (h.p.pblk_lt k hk).2; omega, h.hb.trans (ha.below h.r.fam h.hb.size)⟩
end PInv
theorem act_at {w W : World} {a : Option Addr} {acts : List Actv} (h : Rd w 4 a acts.length (actF acts)) (hb : Below w.heap.size w W) (k : Nat) (hk : k < acts.length) : ∃ b0 o0, a = some ⟨b0, o0, none⟩ ∧ W.cell? ⟨b0, o0 + k * 4, none⟩ = some (.int .i64 acts[k].1) ∧ W.cell? ⟨b0, o0 + k * 4 + 1, none⟩ = some (.int .i64 acts[k].2.1) ∧ W.cell? ⟨b0, o0 + k * 4 + 2, none⟩ = some (.int .i64 acts[k].2.2.1) ∧ W.cell? ⟨b0, o0 + k * 4 + 3, none⟩ = some (.string acts[k].2.2.2) := by
  have hrd := h.below hb
  have hne : actF acts ≠ [] := by intro h0; have := actF_len acts; rw [h0] at this; simp at this; omega
  have ha : a ≠ none := fun h0 => by have := h.2.1 h0; omega
  obtain ⟨p, rfl⟩ := Option.ne_none_iff_exists'.1 ha
  obtain ⟨b0, o0, rfl, _, gc⟩ := hrd.2.2 p rfl hne
  refine ⟨b0, o0, rfl, ?_, ?_, ?_, ?_⟩
  · exact gc (k * 4) _ (by have := actF_get acts k 0 hk (by omega); simpa [actC] using this)
  · have := gc (k * 4 + 1) (.int .i64 acts[k].2.1) (by have := actF_get acts k 1 hk (by omega); simpa [actC] using this)
    rwa [← Nat.add_assoc] at this
  · have := gc (k * 4 + 2) (.int .i64 acts[k].2.2.1) (by have := actF_get acts k 2 hk (by omega); simpa [actC] using this)
    rwa [← Nat.add_assoc] at this
  · have := gc (k * 4 + 3) (.string acts[k].2.2.2) (by have := actF_get acts k 3 hk (by omega); simpa [actC] using this)
    rwa [← Nat.add_assoc] at this
theorem out_le {w : World} {B pp cp : Nat} {gp : Option Addr} (ps : List Pt) (h : PSt w B pp gp cp ps) (n : Int) : (outV (viewP ps) n).length ≤ 64 := by
  unfold outV
  split
  · rename_i v hv
    split
    · have h1 := (atV_some hv).2
      rw [viewP, List.getElem?_map] at h1
      obtain ⟨q, hq, rfl⟩ := Option.map_eq_some_iff.1 h1
      exact h.few q (List.mem_of_getElem? hq)
    · simp
  · simp
set_option maxHeartbeats 8000000 in
theorem plays_walk (a0 : Option Addr) (c0 : Nat) (l : List Po) (a1 : Option Addr) (c1 : Nat) (acts : List Actv) (w : World) (hr : Rd w 2 a0 l.length (poF l)) (hle : l.length ≤ c0) (hc : c0 ≤ maxLen) (hr1 : Rd w 4 a1 acts.length (actF acts)) (hle1 : acts.length ≤ c1) (hc1 : c1 ≤ maxLen) (hst : ∀ x ∈ acts, x.2.2.2.size ≤ maxLen) :
    Calls Try.prog 5 #[.slice a0 l.length c0, .slice a1 acts.length c1] w fun e w' => e = .returned (.bool true) ∧ Below w.heap.size w w' := by
  have hc0 := hc
  unfold maxLen at hc hc1
  have HR := Lib.hid hr; have HR1 := Lib.hid hr1; have HST := Lib.hid hst
  clear hr hr1 hst
  by_cases h50 : l.length ≤ 50
  · have d50 : decide ((50 : Int) < (l.length : Int)) = false := by simp; omega
    by_cases h8 : l.length ≤ 8
    · by_cases hall : l.all (fun x => isB x.1) = true
      · go_enter Try.func5, Try.ntmps5
        go_wp2_with fail
        refine (new_all w.heap.size _ _ l w HR.out hle hc0 h8 (Nat.le_refl _)).mono ?_; intro e w1 h1
        rw [NewAll, if_pos hall] at h1
        obtain ⟨pp, gp, cp, ps, rfl, hp1, hv1, hb1, hl1⟩ := h1
        have HP1 := Lib.hid hp1; have HV1 := Lib.hid hv1; have HB1 := Lib.hid hb1
        clear hp1 hv1 hb1 hl1
        go_wp2_with fail
        refine (rnew_all w1.heap.size _ _ l w1 (HR.out.below HB1.out) hle hc0 h8 (Nat.le_refl _)).mono ?_; intro e w2 h2
        rw [RNewAll, if_pos hall] at h2
        obtain ⟨rr, s, rfl, hp2, hv2, hb2, -⟩ := h2
        have HI0 : Hid (PInv w w2 pp gp cp ps rr s) :=
          ⟨HP1.out.below hb2, ⟨hp2.fam.mono HB1.out.size, hp2.li, hp2.lo, hp2.l8⟩, fun k hk hk2 => by
            have h4 := (hp2.fam.ge k hk2).1
            rcases List.mem_cons.1 hk with rfl | hk
            · have := HP1.out.obj.lt; omega
            · have h3 := (HP1.out.pblk_lt k hk).2
              omega, bmore HB1.out hb2⟩
        have HV2 : Hid (Vw s (viewP ps)) := by rw [Hid, HV1.out]; exact hv2
        clear hp2 hv2 hb2 HP1 HB1 hall HV1
        go_wp2_with fail
        go_loopw [11] (fun i wr => ∃ (k : Nat) (ps : List Pt) (s : RS), k ≤ acts.length ∧ k ≤ 150 ∧ i = .int .i64 k ∧ PInv w wr pp gp cp ps rr s ∧ Vw s (viewP ps)) (fun i _ => 150 - (intOf i).toNat)
        case atStart => exact ⟨0, ps, s, by omega, by omega, rfl, HI0.out, HV2.out⟩
        case round =>
          clear HI0 HV2
          obtain ⟨k, ps, s, hk1, hk2, rfl, hi, hv⟩ := hrel
          have HI := Lib.hid hi; have HV := Lib.hid hv
          clear hi hv
          by_cases g1 : k < acts.length
          · by_cases g2 : k < 150
            · obtain ⟨b0, o0, rfl, k0, k1, k2, k3⟩ := act_at HR1.out HI.out.hb k g1
              have hsx : acts[k].2.2.2.size ≤ maxLen := HST.out _ (List.getElem_mem g1)
              generalize acts[k] = x at k0 k1 k2 k3 hsx
              obtain ⟨kk, xf, xt, xs⟩ := x
              have hb0 : (0 : Int) ≤ k := by omega
              have hb1 : (k : Int) < (acts.length : Int) := by omega
              have hpl := HI.out.p.pblk_lt; have hql := HI.out.r.fam.ge
              have HNP : Hid (wr.heap.size ∉ pblk gp ps) := fun h => by have := (hpl _ h).2; omega
              have HNQ : Hid (wr.heap.size ∉ fps (s.its rr)) := fun h => by have := (hql _ h).2; omega
              clear hpl hql
              obtain ⟨W1, hW1⟩ : ∃ W, W = wr.alloc (.cells #[.int .i64 kk, .int .i64 xf, .int .i64 xt, .string xs] 49) := ⟨_, rfl⟩
              have HI1 : Hid (PInv w W1 pp gp cp ps rr s) := by rw [Hid, hW1]; exact HI.out.below ((Below.refl _ _).alloc (Nat.le_refl _) _)
              have HX : Hid (ObjAt W1 wr.heap.size 49 [.int .i64 kk, .int .i64 xf, .int .i64 xt, .string xs]) := by rw [Hid, hW1]; exact new_block _ _ _ rfl
              have HW1 := Lib.hid hW1
              clear hW1
              by_cases e0 : kk = 0
              · subst e0
                obtain ⟨ra, V1, hA⟩ : ∃ ra V1, arriveV (viewP ps) xt xs = (ra, V1) := ⟨_, _, rfl⟩
                have HA := Lib.hid hA
                have hra : (ra != ra) = false := by simp
                have HXS : Hid (∀ W, Mod (pblk gp ps) W1 W → W.cell? ⟨wr.heap.size, 2, none⟩ = some (.int .i64 xt) ∧ W.cell? ⟨wr.heap.size, 3, none⟩ = some (.string xs)) := fun W hm => ⟨(HX.out.mod hm HNP.out).cell 2 _ rfl, (HX.out.mod hm HNP.out).cell 3 _ rfl⟩
                obtain ⟨x2, x3⟩ := HXS.out W1 (Mod.refl _ _)
                clear hA
                go_wp2_with fail
                rw [← HW1.out]
                clear k0 k1 k2 k3
                go_wp2_with fail
                go_region_held3 (fun w' => w'.cell? ⟨wr.heap.size, 2, none⟩ = some (.int .i64 xt) ∧ w'.cell? ⟨wr.heap.size, 3, none⟩ = some (.string xs)) (first | (exact HXS.out _ (Mod.refl _ _)) | (exact HXS.out _ (Mod.refl _ _).drew) | (exact ⟨HX4.out.cell 2 _ rfl, HX4.out.cell 3 _ rfl⟩) | (exact ⟨HX3.out.cell 2 _ rfl, HX3.out.cell 3 _ rfl⟩)) (first | (go_at_call 9; refine (arrive_any _ _ _ _ _ _ _ _ (show PSt W1.drew _ _ _ _ _ from HI1.out.p.below ((Below.refl _ _).drew)) hsx HI1.out.hb.size).mono ?_; intro e w3 hq3; rw [HA.out] at hq3; obtain ⟨ps3, rfl, hp3, hv3, hb3, hm3, hat3⟩ := hq3; have HI2 := Lib.hid ((HI1.out.below ((Below.refl _ _).drew)).actP hp3 hb3 hm3 hat3); have HX3 := Lib.hid (HX.out.mod ((Mod.refl _ W1).drew.trans hm3) HNP.out); have HV3 := Lib.hid hv3; clear hp3 hv3 hb3 hm3 hat3) | (go_at_call 17; refine (rarrive_any _ _ _ _ _ _ _ HI2.out.r HV.out hsx HI2.out.hb.size).mono ?_; intro e w4 hq4; rw [HA.out] at hq4; obtain ⟨s3, rfl, hr4, hv4, ha4⟩ := hq4; have HI3 := Lib.hid (HI2.out.actR hr4 ha4); have HX4 := Lib.hid (HX3.out.mod ha4.mod HNQ.out); have HVV : Hid (Vw s3 (viewP ps3)) := (by rw [Hid, HV3.out]; exact hv4); clear hr4 hv4 ha4))
                clear HI HV HI1 HX HXS x2 x3 HA hra HI2 HX3 HV3 HW1
                (
              have HSS : Hid (∀ W, Below w4.heap.size w4 W → W.cell? ⟨wr.heap.size, 2, none⟩ = some (.int .i64 xt) ∧ W.cell? ⟨rr, 0, none⟩ = some (.slice s3.pa s3.P.length s3.pc)) := fun W hb => ⟨(HX4.out.below hb).cell 2 _ rfl, (HI3.out.r.obj.below hb).cell 0 _ rfl⟩
              have HID : Hid (PInv w w4.drew pp gp cp ps3 rr s3) := HI3.out.below ((Below.refl _ _).drew)
              have HLN : Hid ((viewP ps3).length = s3.P.length) := HVV.out.len
              have hlo : (outV (viewP ps3) xt).length ≤ 64 := out_le _ HI3.out.p xt
              have HW1' := Lib.hid (waits_any _ _ _ _ xt _ _ HID.out.p)
              have HW2' := Lib.hid (rwaits_any _ _ _ _ xt _ HID.out.r HVV.out)
              have HO1 := Lib.hid (out_any _ _ _ _ xt _ _ HID.out.p)
              have HO2 := Lib.hid (fun W hb => told_any _ _ _ _ xt W (HI3.out.r.below hb) HVV.out)
              generalize waitsV (viewP ps3) xt = wn at HW1' HW2'
              generalize outV (viewP ps3) xt = on at hlo HO1 HO2
              have nn : ((wn : Int) != (wn : Int)) = false := by simp
              have nl : ((s3.P.length : Int) != (s3.P.length : Int)) = false := by simp
              obtain ⟨z2, z0⟩ := HSS.out w4 (Below.refl _ _)
              go_wp2_with fail
              go_region_held3 (fun w' => w'.cell? ⟨wr.heap.size, 2, none⟩ = some (.int .i64 xt) ∧ w'.cell? ⟨rr, 0, none⟩ = some (.slice s3.pa s3.P.length s3.pc)) (first | (exact HSS.out _ (Below.refl _ _)) | (exact HSS.out _ ((Below.refl _ _).drew)) | (exact HSS.out _ hb12.out) | (exact HSS.out _ hb8.out)) (first | (go_at_call 10; refine HW1'.out.mono ?_; rintro e w' ⟨rfl, rfl⟩) | (go_at_call 20; refine HW2'.out.mono ?_; rintro e w' ⟨rfl, rfl⟩) | (go_at_call 11; refine HO1.out.mono ?_; rintro e w8 ⟨a8, c8, rfl, hown8, hb8'⟩; have hb8 : Hid (Below w4.heap.size w4 w8) := bmore ((Below.refl _ _).drew) hb8'; clear hb8'; have HO8 := Lib.hid hown8; have hl8 := hown8.le; clear hown8) | (go_at_call 21; refine (HO2.out w8 hb8.out).mono ?_; rintro e w' ⟨a9, c9, rfl, hl9, hrd9, rfl⟩; have HR9 := Lib.hid hrd9; clear hrd9) | (go_at_call 14; refine (texts_any _ _ _ _ on _ HO8.out.rd HR9.out (by omega) hl8 hl9).mono ?_; rintro e w12 ⟨rfl, hb12'⟩; have hb12 : Hid (Below w4.heap.size w4 w12) := bmore hb8.out hb12'; clear hb12') | (go_at_call 12; refine (len_any _ _ _ _ _ _ (HI3.out.p.below hb12.out)).mono ?_; rw [HLN.out]; rintro e w' ⟨rfl, rfl⟩))
              have HI9 := Lib.hid (HI3.out.below hb12.out)
              have HVL := Lib.hid HVV.out
              clear HSS HID HLN HW1' HW2' HO1 HO2 HI3 HVV hlo nn nl z2 z0 hl8 hl9 HO8 HR9 hb8 hb12
              go_wp2_with fail
              go_roundw
              case rel => exact ⟨k + 1, ps3, s3, by omega, by omega, by go_num, HI9.out, HVL.out⟩
              case measure => simp [intOf]; omega
                )
              · have t0 : (kk == 0) = false := by simpa using e0
                clear e0
                by_cases e1 : kk = 1
                · subst e1
                  obtain ⟨s1, o1, V1, hT⟩ : ∃ s1 o1 V1, takeV (viewP ps) xt = ((s1, o1), V1) := ⟨_, _, _, rfl⟩
                  have HT := Lib.hid hT
                  have no : (o1 != o1) = false := by simp
                  clear hT
                  go_wp2_with fail
                  rw [← HW1.out]
                  clear k0 k1 k2 k3
                  refine (take_any _ _ _ _ _ _ _ HI1.out.p HI1.out.hb.size).mono ?_; intro e w3 hq3
                  rw [HT.out] at hq3
                  obtain ⟨ps3, rfl, hp3, hv3, hb3, hm3, hat3⟩ := hq3
                  have HI2 := Lib.hid (HI1.out.actP hp3 hb3 hm3 hat3)
                  have HX3 := Lib.hid (HX.out.mod hm3 HNP.out)
                  have HV3 := Lib.hid hv3
                  have x2 := HX3.out.cell 2 _ rfl
                  clear hp3 hb3 hm3 hat3 hv3 HI HI1 HX HW1 t0
                  go_wp2_with fail
                  refine (rtake_any _ _ _ _ _ _ HI2.out.r HV.out HI2.out.hb.size).mono ?_; intro e w4 hq4
                  rw [HT.out] at hq4
                  obtain ⟨s3, rfl, hr4, hv4, ha4⟩ := hq4
                  have HI3 := Lib.hid (HI2.out.actR hr4 ha4)
                  have HX4 := Lib.hid (HX3.out.mod ha4.mod HNQ.out)
                  have HVV : Hid (Vw s3 (viewP ps3)) := by (rw [Hid, HV3.out]; exact hv4)
                  clear hr4 hv4 ha4 HI2 HX3 HV HV3 HT x2
                  go_wp2_with fail
                  clear no
                  (
              have HSS : Hid (∀ W, Below w4.heap.size w4 W → W.cell? ⟨wr.heap.size, 2, none⟩ = some (.int .i64 xt) ∧ W.cell? ⟨rr, 0, none⟩ = some (.slice s3.pa s3.P.length s3.pc)) := fun W hb => ⟨(HX4.out.below hb).cell 2 _ rfl, (HI3.out.r.obj.below hb).cell 0 _ rfl⟩
              have HID : Hid (PInv w w4.drew pp gp cp ps3 rr s3) := HI3.out.below ((Below.refl _ _).drew)
              have HLN : Hid ((viewP ps3).length = s3.P.length) := HVV.out.len
              have hlo : (outV (viewP ps3) xt).length ≤ 64 := out_le _ HI3.out.p xt
              have HW1' := Lib.hid (waits_any _ _ _ _ xt _ _ HID.out.p)
              have HW2' := Lib.hid (rwaits_any _ _ _ _ xt _ HID.out.r HVV.out)
              have HO1 := Lib.hid (out_any _ _ _ _ xt _ _ HID.out.p)
              have HO2 := Lib.hid (fun W hb => told_any _ _ _ _ xt W (HI3.out.r.below hb) HVV.out)
              generalize waitsV (viewP ps3) xt = wn at HW1' HW2'
              generalize outV (viewP ps3) xt = on at hlo HO1 HO2
              have nn : ((wn : Int) != (wn : Int)) = false := by simp
              have nl : ((s3.P.length : Int) != (s3.P.length : Int)) = false := by simp
              obtain ⟨z2, z0⟩ := HSS.out w4 (Below.refl _ _)
              go_wp2_with fail
              go_region_held3 (fun w' => w'.cell? ⟨wr.heap.size, 2, none⟩ = some (.int .i64 xt) ∧ w'.cell? ⟨rr, 0, none⟩ = some (.slice s3.pa s3.P.length s3.pc)) (first | (exact HSS.out _ (Below.refl _ _)) | (exact HSS.out _ ((Below.refl _ _).drew)) | (exact HSS.out _ hb12.out) | (exact HSS.out _ hb8.out)) (first | (go_at_call 10; refine HW1'.out.mono ?_; rintro e w' ⟨rfl, rfl⟩) | (go_at_call 20; refine HW2'.out.mono ?_; rintro e w' ⟨rfl, rfl⟩) | (go_at_call 11; refine HO1.out.mono ?_; rintro e w8 ⟨a8, c8, rfl, hown8, hb8'⟩; have hb8 : Hid (Below w4.heap.size w4 w8) := bmore ((Below.refl _ _).drew) hb8'; clear hb8'; have HO8 := Lib.hid hown8; have hl8 := hown8.le; clear hown8) | (go_at_call 21; refine (HO2.out w8 hb8.out).mono ?_; rintro e w' ⟨a9, c9, rfl, hl9, hrd9, rfl⟩; have HR9 := Lib.hid hrd9; clear hrd9) | (go_at_call 14; refine (texts_any _ _ _ _ on _ HO8.out.rd HR9.out (by omega) hl8 hl9).mono ?_; rintro e w12 ⟨rfl, hb12'⟩; have hb12 : Hid (Below w4.heap.size w4 w12) := bmore hb8.out hb12'; clear hb12') | (go_at_call 12; refine (len_any _ _ _ _ _ _ (HI3.out.p.below hb12.out)).mono ?_; rw [HLN.out]; rintro e w' ⟨rfl, rfl⟩))
              have HI9 := Lib.hid (HI3.out.below hb12.out)
              have HVL := Lib.hid HVV.out
              clear HSS HID HLN HW1' HW2' HO1 HO2 HI3 HVV hlo nn nl z2 z0 hl8 hl9 HO8 HR9 hb8 hb12
              go_wp2_with fail
              go_roundw
              case rel => exact ⟨k + 1, ps3, s3, by omega, by omega, by go_num, HI9.out, HVL.out⟩
              case measure => simp [intOf]; omega
                  )
                · have t1 : (kk == 1) = false := by simpa using e1
                  clear e1
                  go_wp2_with fail
                  rw [← HW1.out]
                  clear k0 k1 k2 k3
                  refine (send_any _ _ _ _ _ _ _ _ _ HI1.out.p hsx HI1.out.hb.size).mono ?_; rintro e w3 ⟨ps3, rfl, hp3, hv3, hb3, hm3, hat3⟩
                  have HI2 := Lib.hid (HI1.out.actP hp3 hb3 hm3 hat3)
                  have HX3 := Lib.hid (HX.out.mod hm3 HNP.out)
                  have HV3 := Lib.hid hv3
                  have x1 := HX3.out.cell 1 _ rfl
                  have x2 := HX3.out.cell 2 _ rfl
                  have x3 := HX3.out.cell 3 _ rfl
                  clear hp3 hb3 hm3 hat3 hv3 HI HI1 HX HW1 t0 t1
                  go_wp2_with fail
                  refine (rsend_any _ _ _ _ _ _ _ _ HI2.out.r HV.out hsx HI2.out.hb.size).mono ?_; rintro e w4 ⟨s3, rfl, hr4, hv4, ha4⟩
                  have HI3 := Lib.hid (HI2.out.actR hr4 ha4)
                  have HX4 := Lib.hid (HX3.out.mod ha4.mod HNQ.out)
                  have HVV : Hid (Vw s3 (viewP ps3)) := by (rw [Hid, HV3.out]; exact hv4)
                  clear hr4 hv4 ha4 HI2 HX3 HV HV3 x1 x2 x3
                  (
              have HSS : Hid (∀ W, Below w4.heap.size w4 W → W.cell? ⟨wr.heap.size, 2, none⟩ = some (.int .i64 xt) ∧ W.cell? ⟨rr, 0, none⟩ = some (.slice s3.pa s3.P.length s3.pc)) := fun W hb => ⟨(HX4.out.below hb).cell 2 _ rfl, (HI3.out.r.obj.below hb).cell 0 _ rfl⟩
              have HID : Hid (PInv w w4.drew pp gp cp ps3 rr s3) := HI3.out.below ((Below.refl _ _).drew)
              have HLN : Hid ((viewP ps3).length = s3.P.length) := HVV.out.len
              have hlo : (outV (viewP ps3) xt).length ≤ 64 := out_le _ HI3.out.p xt
              have HW1' := Lib.hid (waits_any _ _ _ _ xt _ _ HID.out.p)
              have HW2' := Lib.hid (rwaits_any _ _ _ _ xt _ HID.out.r HVV.out)
              have HO1 := Lib.hid (out_any _ _ _ _ xt _ _ HID.out.p)
              have HO2 := Lib.hid (fun W hb => told_any _ _ _ _ xt W (HI3.out.r.below hb) HVV.out)
              generalize waitsV (viewP ps3) xt = wn at HW1' HW2'
              generalize outV (viewP ps3) xt = on at hlo HO1 HO2
              have nn : ((wn : Int) != (wn : Int)) = false := by simp
              have nl : ((s3.P.length : Int) != (s3.P.length : Int)) = false := by simp
              obtain ⟨z2, z0⟩ := HSS.out w4 (Below.refl _ _)
              go_wp2_with fail
              go_region_held3 (fun w' => w'.cell? ⟨wr.heap.size, 2, none⟩ = some (.int .i64 xt) ∧ w'.cell? ⟨rr, 0, none⟩ = some (.slice s3.pa s3.P.length s3.pc)) (first | (exact HSS.out _ (Below.refl _ _)) | (exact HSS.out _ ((Below.refl _ _).drew)) | (exact HSS.out _ hb12.out) | (exact HSS.out _ hb8.out)) (first | (go_at_call 10; refine HW1'.out.mono ?_; rintro e w' ⟨rfl, rfl⟩) | (go_at_call 20; refine HW2'.out.mono ?_; rintro e w' ⟨rfl, rfl⟩) | (go_at_call 11; refine HO1.out.mono ?_; rintro e w8 ⟨a8, c8, rfl, hown8, hb8'⟩; have hb8 : Hid (Below w4.heap.size w4 w8) := bmore ((Below.refl _ _).drew) hb8'; clear hb8'; have HO8 := Lib.hid hown8; have hl8 := hown8.le; clear hown8) | (go_at_call 21; refine (HO2.out w8 hb8.out).mono ?_; rintro e w' ⟨a9, c9, rfl, hl9, hrd9, rfl⟩; have HR9 := Lib.hid hrd9; clear hrd9) | (go_at_call 14; refine (texts_any _ _ _ _ on _ HO8.out.rd HR9.out (by omega) hl8 hl9).mono ?_; rintro e w12 ⟨rfl, hb12'⟩; have hb12 : Hid (Below w4.heap.size w4 w12) := bmore hb8.out hb12'; clear hb12') | (go_at_call 12; refine (len_any _ _ _ _ _ _ (HI3.out.p.below hb12.out)).mono ?_; rw [HLN.out]; rintro e w' ⟨rfl, rfl⟩))
              have HI9 := Lib.hid (HI3.out.below hb12.out)
              have HVL := Lib.hid HVV.out
              clear HSS HID HLN HW1' HW2' HO1 HO2 HI3 HVV hlo nn nl z2 z0 hl8 hl9 HO8 HR9 hb8 hb12
              go_wp2_with fail
              go_roundw
              case rel => exact ⟨k + 1, ps3, s3, by omega, by omega, by go_num, HI9.out, HVL.out⟩
              case measure => simp [intOf]; omega
                  )
            · (
      go_wp2_with fail
      refine (awake_any _).mono ?_; rintro e wz ⟨rfl, hbz⟩
      go_wp2_with fail
      go_ret
      exact ⟨rfl, bmore (HI.out.hb) hbz⟩
              )
          · (
      go_wp2_with fail
      refine (awake_any _).mono ?_; rintro e wz ⟨rfl, hbz⟩
      go_wp2_with fail
      go_ret
      exact ⟨rfl, bmore (HI.out.hb) hbz⟩
            )
      · go_enter Try.func5, Try.ntmps5
        go_wp2_with fail
        refine (new_all w.heap.size _ _ l w HR.out hle hc0 h8 (Nat.le_refl _)).mono ?_; intro e w1 h1
        rw [NewAll, if_neg hall] at h1
        obtain ⟨rfl, hb1⟩ := h1
        go_wp2_with fail
        refine (rnew_all w1.heap.size _ _ l w1 (HR.out.below hb1) hle hc0 h8 (Nat.le_refl _)).mono ?_; intro e w2 h2
        rw [RNewAll, if_neg hall] at h2
        obtain ⟨rfl, hb2⟩ := h2
        have hb := bmore hb1 hb2
        clear hall
        (
      go_wp2_with fail
      refine (awake_any _).mono ?_; rintro e wz ⟨rfl, hbz⟩
      go_wp2_with fail
      go_ret
      exact ⟨rfl, bmore (hb) hbz⟩
        )
    · go_enter Try.func5, Try.ntmps5
      go_wp2_with fail
      refine (new_long _ _ _ _ (by omega) (by unfold maxLen; omega)).mono ?_; rintro e w1 ⟨rfl, rfl⟩
      go_wp2_with fail
      refine (rnew_long _ _ _ _ (by omega) (by unfold maxLen; omega)).mono ?_; rintro e w1 ⟨rfl, rfl⟩
      (
      go_wp2_with fail
      refine (awake_any _).mono ?_; rintro e wz ⟨rfl, hbz⟩
      go_wp2_with fail
      go_ret
      exact ⟨rfl, bmore ((Below.refl _ _)) hbz⟩
      )
  · have d50 : decide ((50 : Int) < (l.length : Int)) = true := by simp; omega
    go_enter Try.func5, Try.ntmps5
    go_wp2_with fail
    refine (new_long _ _ _ _ (by omega) (by unfold maxLen; omega)).mono ?_; rintro e w1 ⟨rfl, rfl⟩
    (
      go_wp2_with fail
      refine (awake_any _).mono ?_; rintro e wz ⟨rfl, hbz⟩
      go_wp2_with fail
      go_ret
      exact ⟨rfl, bmore ((Below.refl _ _)) hbz⟩
    )
end Go.Proofs.Ytpccllgbccccnaa
