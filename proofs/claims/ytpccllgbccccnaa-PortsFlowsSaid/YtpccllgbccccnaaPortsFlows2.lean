/- The law PortsFlows: the walk itself. -/
import Derived.Test.YtpccllgbccccnaaPortsFlows
namespace Go.Proofs.Ytpccllgbccccnaa
open Go.RowKit Go.Sort
set_option maxHeartbeats 400000
set_option maxRecDepth 100000

theorem act_at {w W : World} {a : Option Addr} {acts : List Actv} (h : Rd w 4 a acts.length (actF acts)) (hb : Below w.heap.size w W) (k : Nat) (hk : k < acts.length) : ∃ b0 o0, a = some ⟨b0, o0, none⟩ ∧ W.cell? ⟨b0, o0 + k * 4, none⟩ = some (.int .i64 acts[k].1) ∧ W.cell? ⟨b0, o0 + k * 4 + 1, none⟩ = some (.int .i64 acts[k].2.1) ∧ W.cell? ⟨b0, o0 + k * 4 + 2, none⟩ = some (.int .i64 acts[k].2.2.1) ∧ W.cell? ⟨b0, o0 + k * 4 + 3, none⟩ = some (.string acts[k].2.2.2) := by
  have hrd := h.below hb
  have hne : actF acts ≠ [] := by intro h0; have := actF_len acts; rw [h0] at this; simp at this; omega
  have ha : a ≠ none := fun h0 => by have := h.2.1 h0; omega
  obtain ⟨p, rfl⟩ := Option.ne_none_iff_exists'.1 ha
  obtain ⟨b0, o0, rfl, _, gc⟩ := hrd.2.2 p rfl hne
  refine ⟨b0, o0, rfl, ?_, ?_, ?_, ?_⟩
  · exact gc (k * 4) _ (by have := actF_get acts k 0 hk (by omega); simpa [actC] using this)
  · have := gc (k * 4 + 1) (.int .i64 acts[k].2.1) (by have := actF_get acts k 1 hk (by omega); simpa [actC] using this)
    rwa [← Nat.add_assoc] at this
  · have := gc (k * 4 + 2) (.int .i64 acts[k].2.2.1) (by have := actF_get acts k 2 hk (by omega); simpa [actC] using this)
    rwa [← Nat.add_assoc] at this
  · have := gc (k * 4 + 3) (.string acts[k].2.2.2) (by have := actF_get acts k 3 hk (by omega); simpa [actC] using this)
    rwa [← Nat.add_assoc] at this
theorem out_le {w : World} {B pp cp : Nat} {gp : Option Addr} (ps : List Pt) (h : PSt w B pp gp cp ps) (n : Nat) : (outV (viewP ps) n).length ≤ 64 := by
  unfold outV
  split
  · rename_i v hv
    split
    · have h2 := (atV_some hv).2
      simp only [viewP, List.getElem?_map] at h2
      obtain ⟨q, hq, rfl⟩ := Option.map_eq_some_iff.1 h2
      exact h.few q (List.mem_of_getElem? hq)
    · simp
  · simp
set_option maxHeartbeats 8000000 in
theorem flows_walk (a0 : Option Addr) (c0 : Nat) (l : List Po) (a1 : Option Addr) (c1 : Nat) (acts : List Actv) (i : Int) (w : World) (hr : Rd w 2 a0 l.length (poF l)) (hle : l.length ≤ c0) (hc : c0 ≤ maxLen) (hr1 : Rd w 4 a1 acts.length (actF acts)) (hle1 : acts.length ≤ c1) (hc1 : c1 ≤ maxLen) (hst : ∀ x ∈ acts, x.2.2.2.size ≤ maxLen) :
    Calls Try.prog 6 #[.slice a0 l.length c0, .slice a1 acts.length c1, .int .i64 i] w fun e w' => e = .returned (.bool true) ∧ Below w.heap.size w w' := by
  have hc0 := hc
  unfold maxLen at hc hc1
  have HR := Lib.hid hr; have HR1 := Lib.hid hr1; have HST := Lib.hid hst
  clear hr hr1 hst
  by_cases h8 : l.length ≤ 8
  · by_cases hall : l.all (fun x => isB x.1) = true
    · go_enter Try.func6, Try.ntmps6
      go_wp2_with fail
      refine (new_all w.heap.size _ _ l w HR.out hle hc0 h8 (Nat.le_refl _)).mono ?_; intro e w1 h1
      rw [NewAll, if_pos hall] at h1
      obtain ⟨pp, gp, cp, ps, rfl, hp1, hv1, hb1, hl1⟩ := h1
      have HP1 := Lib.hid hp1; have HV1 := Lib.hid hv1; have HB1 := Lib.hid hb1
      clear hp1 hv1 hb1 hl1
      go_wp2_with fail
      refine (new_all w1.heap.size _ _ l w1 (HR.out.below HB1.out) hle hc0 h8 (Nat.le_refl _)).mono ?_; intro e w2 h2
      rw [NewAll, if_pos hall] at h2
      obtain ⟨qq, gq, cq, qs, rfl, hp2, hv2, hb2, hl2⟩ := h2
      have HI0 : Hid (FInv w w2 pp gp cp ps qq gq cq qs) :=
        ⟨HP1.out.below hb2, hp2.mono HB1.out.size, fun k hk hk2 => by
          have h3 := (HP1.out.pblk_lt k hk).2
          have h4 := (hp2.pblk_lt k hk2).1
          omega, by have := HP1.out.obj.lt; omega, bmore HB1.out hb2⟩
      have HV2 : Hid (viewP qs = viewP ps) := hv2.trans HV1.out.symm
      clear hp2 hv2 hb2 hl2 HP1 HB1
      by_cases hi : 0 ≤ i ∧ i < l.length
      · obtain ⟨n, rfl⟩ := Int.eq_ofNat_of_zero_le hi.1
        have hn : n < l.length := by omega
        clear hi hall
        have d1 : decide ((n : Int) < 0) = false := by simp
        have d2 : decide ((l.length : Int) ≤ (n : Int)) = false := by simp; omega
        have d3 : decide (l.length ≤ n) = false := by simp; omega
        go_wp2_with fail
        clear d1 d2 d3
        go_loopw [11] (fun i wr => ∃ (k : Nat) (ps qs : List Pt), k ≤ acts.length ∧ k ≤ 100 ∧ i = .int .i64 k ∧ FInv w wr pp gp cp ps qq gq cq qs ∧ Alike n (viewP ps) (viewP qs) ∧ (viewP ps).map (fun v => (v.lab, v.gst)) = l) (fun i _ => 100 - (intOf i).toNat)
        case atStart => exact ⟨0, ps, qs, by omega, by omega, rfl, HI0.out, by rw [HV2.out]; exact Alike.refl _ _, by rw [HV1.out, List.map_map]; exact List.map_id l⟩
        case round =>
          clear HI0 HV1 HV2
          obtain ⟨k, ps, qs, hk1, hk2, rfl, hi, hal, hlb⟩ := hrel
          have HI := Lib.hid hi; have HA := Lib.hid hal; have HL := Lib.hid hlb
          clear hi hal hlb
          by_cases g1 : k < acts.length
          · by_cases g2 : k < 100
            · obtain ⟨b0, o0, rfl, k0, k1, k2, k3⟩ := act_at HR1.out HI.out.hb k g1
              have hsx : acts[k].2.2.2.size ≤ maxLen := HST.out _ (List.getElem_mem g1)
              generalize acts[k] = x at k0 k1 k2 k3 hsx
              obtain ⟨kk, xf, xt, xs⟩ := x
              have hb0 : (0 : Int) ≤ k := by omega
              have hb1 : (k : Int) < (acts.length : Int) := by omega
              have hpl := HI.out.p.pblk_lt; have hql := HI.out.q.pblk_lt
              have HNP : Hid (wr.heap.size ∉ pblk gp ps) := fun h => by have := (hpl _ h).2; omega
              have HNQ : Hid (wr.heap.size ∉ pblk gq qs) := fun h => by have := (hql _ h).2; omega
              clear hpl hql
              obtain ⟨W1, hW1⟩ : ∃ W, W = wr.alloc (.cells #[.int .i64 kk, .int .i64 xf, .int .i64 xt, .string xs] 49) := ⟨_, rfl⟩
              have HI1 : Hid (FInv w W1 pp gp cp ps qq gq cq qs) := by rw [Hid, hW1]; exact HI.out.below ((Below.refl _ _).alloc (Nat.le_refl _) _)
              have HX : Hid (ObjAt W1 wr.heap.size 49 [.int .i64 kk, .int .i64 xf, .int .i64 xt, .string xs]) := by rw [Hid, hW1]; exact new_block _ _ _ rfl
              have HW1 := Lib.hid hW1
              clear hW1
              by_cases e0 : kk = 0
              · subst e0
                go_wp2_with fail
                rw [← HW1.out]
                clear k0 k1 k2 k3
                refine (arrive_any _ _ _ _ _ _ _ _ HI1.out.p hsx HI1.out.hb.size).mono ?_; rintro e w3 ⟨ps3, rfl, hp3, hv3, hb3, hm3, hat3⟩
                have HI2 := Lib.hid (HI1.out.act hp3 hb3 hm3 hat3)
                have HX2 := HX.out.mod hm3 HNP.out
                have x2 := HX2.cell 2 _ rfl; have x3 := HX2.cell 3 _ rfl
                have HL3 : Hid ((viewP ps3).map (fun v => (v.lab, v.gst)) = l) := by rw [Hid, hv3, (arrive_only _ _ _).1]; exact HL.out
                have HV3 := Lib.hid hv3
                clear hp3 hb3 hm3 hat3 HX2 hv3 HI HI1 HX HW1
                by_cases et : xt = n
                · subst et
                  have tn : ((n : Int) == (n : Int)) = true := by simp
                  go_wp2_with fail
                  refine (arrive_any _ _ _ _ _ _ _ _ HI2.out.q hsx HI2.out.hb.size).mono ?_; rintro e w4 ⟨qs3, rfl, hp4, hv4, hb4, hm4, hat4⟩
                  have HI3 := Lib.hid (HI2.out.swap.act hp4 hb4 hm4 hat4).swap
                  have HA3 : Hid (Alike n (viewP ps3) (viewP qs3)) := by rw [Hid, HV3.out, hv4]; exact HA.out.arrive xs
                  clear hp4 hv4 hb4 hm4 hat4 HI2 x2 x3 tn HV3 HA
                  (
              have HWP := Lib.hid (waits_any _ _ _ _ n _ _ HI3.out.p)
              have HWQ := Lib.hid (waits_any _ _ _ _ n _ _ HI3.out.q)
              rw [← HA3.out.waits] at HWQ
              generalize waitsV (viewP ps3) n = wn at HWP HWQ
              have nn : ((wn : Int) != (wn : Int)) = false := by simp
              go_wp2_with fail
              refine HWP.out.mono ?_; rintro e w' ⟨rfl, rfl⟩
              go_wp2_with fail
              refine HWQ.out.mono ?_; rintro e w' ⟨rfl, rfl⟩
              clear HWP HWQ
              go_wp2_with fail
              refine (out_any _ _ _ _ n _ _ HI3.out.p).mono ?_; rintro e w8 ⟨a8, c8, rfl, hown8, hb8⟩
              have HI8 := Lib.hid (HI3.out.below hb8)
              have HO8 := Lib.hid hown8
              clear hown8 hb8 HI3 nn
              go_wp2_with fail
              refine (out_any _ _ _ _ n _ _ HI8.out.q).mono ?_; intro e w9 hp9
              rw [← HA3.out.out] at hp9
              obtain ⟨a9, c9, rfl, hown9, hb9⟩ := hp9
              have HI9 := Lib.hid (HI8.out.below hb9)
              have HO9 := Lib.hid (HO8.out.below hb9)
              have HO9' := Lib.hid hown9
              have hl9 := hown9.le; have hl8 := HO8.out.le
              have hlo : (outV (viewP ps3) n).length ≤ 64 := out_le _ HI9.out.p n
              clear hown9 hb9 HI8 HO8
              generalize outV (viewP ps3) n = on at HO9 HO9' hl9 hl8 hlo ⊢
              go_wp2_with fail
              refine (texts_any _ _ _ _ on _ HO9.out.rd HO9'.out.rd (by omega) hl8 hl9).mono ?_; rintro e w10 ⟨rfl, hb10⟩
              have HI10 := Lib.hid (HI9.out.below hb10)
              clear hb10 HI9 HO9 HO9' hl8 hl9
              go_wp2_with fail
              go_roundw
              case rel => exact ⟨k + 1, ps3, qs3, by omega, by omega, by go_num, HI10.out, HA3.out, HL3.out⟩
              case measure => simp [intOf]; omega
                  )
                · have tn : (xt == (n : Int)) = false := by simpa using et
                  have HI3 := HI2
                  obtain ⟨qs3, hq3⟩ : ∃ q, q = qs := ⟨_, rfl⟩
                  have HA3 : Hid (Alike n (viewP ps3) (viewP qs3)) := by rw [Hid, HV3.out, hq3]; exact HA.out.left (arrive_only _ _ _) (Ne.symm et)
                  rw [← hq3] at HI3
                  clear HI2 HA HV3 hq3 et
                  (
              have HWP := Lib.hid (waits_any _ _ _ _ n _ _ HI3.out.p)
              have HWQ := Lib.hid (waits_any _ _ _ _ n _ _ HI3.out.q)
              rw [← HA3.out.waits] at HWQ
              generalize waitsV (viewP ps3) n = wn at HWP HWQ
              have nn : ((wn : Int) != (wn : Int)) = false := by simp
              go_wp2_with fail
              refine HWP.out.mono ?_; rintro e w' ⟨rfl, rfl⟩
              go_wp2_with fail
              refine HWQ.out.mono ?_; rintro e w' ⟨rfl, rfl⟩
              clear HWP HWQ
              go_wp2_with fail
              refine (out_any _ _ _ _ n _ _ HI3.out.p).mono ?_; rintro e w8 ⟨a8, c8, rfl, hown8, hb8⟩
              have HI8 := Lib.hid (HI3.out.below hb8)
              have HO8 := Lib.hid hown8
              clear hown8 hb8 HI3 nn
              go_wp2_with fail
              refine (out_any _ _ _ _ n _ _ HI8.out.q).mono ?_; intro e w9 hp9
              rw [← HA3.out.out] at hp9
              obtain ⟨a9, c9, rfl, hown9, hb9⟩ := hp9
              have HI9 := Lib.hid (HI8.out.below hb9)
              have HO9 := Lib.hid (HO8.out.below hb9)
              have HO9' := Lib.hid hown9
              have hl9 := hown9.le; have hl8 := HO8.out.le
              have hlo : (outV (viewP ps3) n).length ≤ 64 := out_le _ HI9.out.p n
              clear hown9 hb9 HI8 HO8
              generalize outV (viewP ps3) n = on at HO9 HO9' hl9 hl8 hlo ⊢
              go_wp2_with fail
              refine (texts_any _ _ _ _ on _ HO9.out.rd HO9'.out.rd (by omega) hl8 hl9).mono ?_; rintro e w10 ⟨rfl, hb10⟩
              have HI10 := Lib.hid (HI9.out.below hb10)
              clear hb10 HI9 HO9 HO9' hl8 hl9
              go_wp2_with fail
              go_roundw
              case rel => exact ⟨k + 1, ps3, qs3, by omega, by omega, by go_num, HI10.out, HA3.out, HL3.out⟩
              case measure => simp [intOf]; omega
                  )
              · have t0 : (kk == 0) = false := by simpa using e0
                clear e0
                by_cases e1 : kk = 1
                · subst e1
                  obtain ⟨s1, o1, V1, hT⟩ : ∃ s1 o1 V1, takeV (viewP ps) xt = ((s1, o1), V1) := ⟨_, _, _, rfl⟩
                  have HT := Lib.hid hT
                  clear hT
                  go_wp2_with fail
                  rw [← HW1.out]
                  clear k0 k1 k2 k3
                  refine (take_any _ _ _ _ _ _ _ HI1.out.p HI1.out.hb.size).mono ?_; intro e w3 hq3
                  rw [HT.out] at hq3
                  obtain ⟨ps3, rfl, hp3, hv3, hb3, hm3, hat3⟩ := hq3
                  have HI2 := Lib.hid (HI1.out.act hp3 hb3 hm3 hat3)
                  have HX2 := HX.out.mod hm3 HNP.out
                  have x2 := HX2.cell 2 _ rfl; have x3 := HX2.cell 3 _ rfl
                  have hto := take_only (viewP ps) xt
                  rw [HT.out] at hto
                  have HTO := Lib.hid hto
                  have HL3 : Hid ((viewP ps3).map (fun v => (v.lab, v.gst)) = l) := by rw [Hid, hv3, HTO.out.1]; exact HL.out
                  have HV3 := Lib.hid hv3
                  clear hp3 hb3 hm3 hat3 HX2 hv3 hto HI HI1 HX HW1 t0
                  by_cases et : xt = n
                  · subst et
                    have tn : ((n : Int) == (n : Int)) = true := by simp
                    have hta := HA.out.take
                    rw [HT.out] at hta
                    obtain ⟨V2, hT2⟩ : ∃ V2, takeV (viewP qs) n = ((s1, o1), V2) := ⟨(takeV (viewP qs) (n : Int)).2, Prod.ext hta.1.symm rfl⟩
                    rw [hT2] at hta
                    have HT2 := Lib.hid hT2
                    have HTA := Lib.hid hta.2
                    clear hta hT2
                    have no : (o1 != o1) = false := by simp
                    go_wp2_with fail
                    refine (take_any _ _ _ _ _ _ _ HI2.out.q HI2.out.hb.size).mono ?_; intro e w4 hq4
                    rw [HT2.out] at hq4
                    obtain ⟨qs3, rfl, hp4, hv4, hb4, hm4, hat4⟩ := hq4
                    have HI3 := Lib.hid (HI2.out.swap.act hp4 hb4 hm4 hat4).swap
                    have HA3 : Hid (Alike n (viewP ps3) (viewP qs3)) := by rw [Hid, HV3.out, hv4]; exact HTA.out
                    clear hp4 hv4 hb4 hm4 hat4 HI2 x2 x3 tn HV3 HA HT HT2 HTA HTO
                    go_wp2_with fail
                    clear no
                    (
              have HWP := Lib.hid (waits_any _ _ _ _ n _ _ HI3.out.p)
              have HWQ := Lib.hid (waits_any _ _ _ _ n _ _ HI3.out.q)
              rw [← HA3.out.waits] at HWQ
              generalize waitsV (viewP ps3) n = wn at HWP HWQ
              have nn : ((wn : Int) != (wn : Int)) = false := by simp
              go_wp2_with fail
              refine HWP.out.mono ?_; rintro e w' ⟨rfl, rfl⟩
              go_wp2_with fail
              refine HWQ.out.mono ?_; rintro e w' ⟨rfl, rfl⟩
              clear HWP HWQ
              go_wp2_with fail
              refine (out_any _ _ _ _ n _ _ HI3.out.p).mono ?_; rintro e w8 ⟨a8, c8, rfl, hown8, hb8⟩
              have HI8 := Lib.hid (HI3.out.below hb8)
              have HO8 := Lib.hid hown8
              clear hown8 hb8 HI3 nn
              go_wp2_with fail
              refine (out_any _ _ _ _ n _ _ HI8.out.q).mono ?_; intro e w9 hp9
              rw [← HA3.out.out] at hp9
              obtain ⟨a9, c9, rfl, hown9, hb9⟩ := hp9
              have HI9 := Lib.hid (HI8.out.below hb9)
              have HO9 := Lib.hid (HO8.out.below hb9)
              have HO9' := Lib.hid hown9
              have hl9 := hown9.le; have hl8 := HO8.out.le
              have hlo : (outV (viewP ps3) n).length ≤ 64 := out_le _ HI9.out.p n
              clear hown9 hb9 HI8 HO8
              generalize outV (viewP ps3) n = on at HO9 HO9' hl9 hl8 hlo ⊢
              go_wp2_with fail
              refine (texts_any _ _ _ _ on _ HO9.out.rd HO9'.out.rd (by omega) hl8 hl9).mono ?_; rintro e w10 ⟨rfl, hb10⟩
              have HI10 := Lib.hid (HI9.out.below hb10)
              clear hb10 HI9 HO9 HO9' hl8 hl9
              go_wp2_with fail
              go_roundw
              case rel => exact ⟨k + 1, ps3, qs3, by omega, by omega, by go_num, HI10.out, HA3.out, HL3.out⟩
              case measure => simp [intOf]; omega
                    )
                  · have tn : (xt == (n : Int)) = false := by simpa using et
                    have HI3 := HI2
                    obtain ⟨qs3, hq3⟩ : ∃ q, q = qs := ⟨_, rfl⟩
                    have HA3 : Hid (Alike n (viewP ps3) (viewP qs3)) := by rw [Hid, HV3.out, hq3]; exact HA.out.left HTO.out (Ne.symm et)
                    rw [← hq3] at HI3
                    clear HI2 HA HV3 hq3 et HT HTO
                    (
              have HWP := Lib.hid (waits_any _ _ _ _ n _ _ HI3.out.p)
              have HWQ := Lib.hid (waits_any _ _ _ _ n _ _ HI3.out.q)
              rw [← HA3.out.waits] at HWQ
              generalize waitsV (viewP ps3) n = wn at HWP HWQ
              have nn : ((wn : Int) != (wn : Int)) = false := by simp
              go_wp2_with fail
              refine HWP.out.mono ?_; rintro e w' ⟨rfl, rfl⟩
              go_wp2_with fail
              refine HWQ.out.mono ?_; rintro e w' ⟨rfl, rfl⟩
              clear HWP HWQ
              go_wp2_with fail
              refine (out_any _ _ _ _ n _ _ HI3.out.p).mono ?_; rintro e w8 ⟨a8, c8, rfl, hown8, hb8⟩
              have HI8 := Lib.hid (HI3.out.below hb8)
              have HO8 := Lib.hid hown8
              clear hown8 hb8 HI3 nn
              go_wp2_with fail
              refine (out_any _ _ _ _ n _ _ HI8.out.q).mono ?_; intro e w9 hp9
              rw [← HA3.out.out] at hp9
              obtain ⟨a9, c9, rfl, hown9, hb9⟩ := hp9
              have HI9 := Lib.hid (HI8.out.below hb9)
              have HO9 := Lib.hid (HO8.out.below hb9)
              have HO9' := Lib.hid hown9
              have hl9 := hown9.le; have hl8 := HO8.out.le
              have hlo : (outV (viewP ps3) n).length ≤ 64 := out_le _ HI9.out.p n
              clear hown9 hb9 HI8 HO8
              generalize outV (viewP ps3) n = on at HO9 HO9' hl9 hl8 hlo ⊢
              go_wp2_with fail
              refine (texts_any _ _ _ _ on _ HO9.out.rd HO9'.out.rd (by omega) hl8 hl9).mono ?_; rintro e w10 ⟨rfl, hb10⟩
              have HI10 := Lib.hid (HI9.out.below hb10)
              clear hb10 HI9 HO9 HO9' hl8 hl9
              go_wp2_with fail
              go_roundw
              case rel => exact ⟨k + 1, ps3, qs3, by omega, by omega, by go_num, HI10.out, HA3.out, HL3.out⟩
              case measure => simp [intOf]; omega
                    )
                · have t1 : (kk == 1) = false := by simpa using e1
                  clear e1
                  go_wp2_with fail
                  rw [← HW1.out]
                  clear k0 k1 k2 k3
                  refine (send_any _ _ _ _ _ _ _ _ _ HI1.out.p hsx HI1.out.hb.size).mono ?_; rintro e w3 ⟨ps3, rfl, hp3, hv3, hb3, hm3, hat3⟩
                  have HI2 := Lib.hid (HI1.out.act hp3 hb3 hm3 hat3)
                  have HX2 := HX.out.mod hm3 HNP.out
                  have x1 := HX2.cell 1 _ rfl; have x2 := HX2.cell 2 _ rfl; have x3 := HX2.cell 3 _ rfl
                  have HL3 : Hid ((viewP ps3).map (fun v => (v.lab, v.gst)) = l) := by rw [Hid, hv3, (send_only _ _ _ _).1]; exact HL.out
                  have HV3 := Lib.hid hv3
                  clear hp3 hb3 hm3 hat3 HX2 hv3 HI HI1 HX HW1 t0 t1
                  by_cases et : xt = n
                  · subst et
                    have tn : ((n : Int) == (n : Int)) = true := by simp
                    by_cases ef0 : 0 ≤ xf
                    · obtain ⟨f, rfl⟩ := Int.eq_ofNat_of_zero_le ef0
                      clear ef0
                      by_cases ef1 : f < l.length
                      · have tf0 : decide ((0 : Int) ≤ (f : Int)) = true := by simp
                        have tf1 : decide ((f : Int) < (l.length : Int)) = true := by simp; omega
                        have tf2 : decide (f < l.length) = true := by simpa using ef1
                        have hne : poF l ≠ [] := by intro h0; have := poF_len l; rw [h0] at this; simp at this; omega
                        have ha : a0 ≠ none := fun h0 => by have := HR.out.2.1 h0; omega
                        obtain ⟨p9, rfl⟩ := Option.ne_none_iff_exists'.1 ha
                        obtain ⟨b9, o9, rfl, _, gc⟩ := (HR.out.below HI2.out.hb).2.2 p9 rfl hne
                        have cf := gc (f * 2) (.int .i64 l[f].1) (by have := poF_get l f 0 ef1 (by omega); simpa [poC] using this)
                        have cn := gc (n * 2) (.int .i64 l[n].1) (by have := poF_get l n 0 hn (by omega); simpa [poC] using this)
                        clear hne ha gc
                        have HLF : Hid (∀ x y, atV (viewP ps) f = some x → atV (viewP ps) n = some y → x.lab = l[f].1 ∧ y.lab = l[n].1) := fun x y h1 h2 => by
                          have g1 := (atV_some h1).2
                          have g2 := (atV_some h2).2
                          rw [Int.toNat_natCast] at g1 g2
                          have g3 : (((viewP ps).map (fun v => (v.lab, v.gst)))[f]?) = some (x.lab, x.gst) := by rw [List.getElem?_map, g1]; rfl
                          have g4 : (((viewP ps).map (fun v => (v.lab, v.gst)))[n]?) = some (y.lab, y.gst) := by rw [List.getElem?_map, g2]; rfl
                          rw [HL.out] at g3 g4
                          rw [List.getElem?_eq_getElem ef1] at g3
                          rw [List.getElem?_eq_getElem hn] at g4
                          injection g3 with g3
                          injection g4 with g4
                          exact ⟨by rw [g3], by rw [g4]⟩
                        have HFL := Lib.hid (fun k => quiet_same (flows_any l[f].1 l[n].1 (w3.drewN k)))
                        generalize l[f].1 = lf at cf HLF HFL
                        generalize l[n].1 = ln at cn HLF HFL
                        have hf0 : (0 : Int) ≤ f := by omega
                        have hf1 : (f : Int) < (l.length : Int) := by omega
                        have hn0 : (0 : Int) ≤ n := by omega
                        have hn1 : (n : Int) < (l.length : Int) := by omega
                        cases hfl : flB lf ln
                        · rw [hfl] at HFL
                          have HFF := Lib.hid hfl
                          clear hfl
                          go_wp2_with fail
                          go_quiet ((go_at_call 22; exact HFL.out _))
                          have HI3 := Lib.hid (HI2.out.below (below_drewN (Below.refl _ _) nq))
                          have hsb := send_blind (viewP ps) f n xs (fun x y h1 h2 => by rw [(HLF.out x y h1 h2).1, (HLF.out x y h1 h2).2]; exact HFF.out)
                          obtain ⟨qs3, hq3⟩ : ∃ q, q = qs := ⟨_, rfl⟩
                          have HA3 : Hid (Alike n (viewP ps3) (viewP qs3)) := by rw [Hid, HV3.out, hsb, hq3]; exact HA.out
                          rw [← hq3] at HI3
                          clear HI2 HA HV3 hq3 hsb x1 x2 x3 cf cn tf0 tf1 tf2 HFL HLF HFF tn
                          (
              have HWP := Lib.hid (waits_any _ _ _ _ n _ _ HI3.out.p)
              have HWQ := Lib.hid (waits_any _ _ _ _ n _ _ HI3.out.q)
              rw [← HA3.out.waits] at HWQ
              generalize waitsV (viewP ps3) n = wn at HWP HWQ
              have nn : ((wn : Int) != (wn : Int)) = false := by simp
              go_wp2_with fail
              refine HWP.out.mono ?_; rintro e w' ⟨rfl, rfl⟩
              go_wp2_with fail
              refine HWQ.out.mono ?_; rintro e w' ⟨rfl, rfl⟩
              clear HWP HWQ
              go_wp2_with fail
              refine (out_any _ _ _ _ n _ _ HI3.out.p).mono ?_; rintro e w8 ⟨a8, c8, rfl, hown8, hb8⟩
              have HI8 := Lib.hid (HI3.out.below hb8)
              have HO8 := Lib.hid hown8
              clear hown8 hb8 HI3 nn
              go_wp2_with fail
              refine (out_any _ _ _ _ n _ _ HI8.out.q).mono ?_; intro e w9 hp9
              rw [← HA3.out.out] at hp9
              obtain ⟨a9, c9, rfl, hown9, hb9⟩ := hp9
              have HI9 := Lib.hid (HI8.out.below hb9)
              have HO9 := Lib.hid (HO8.out.below hb9)
              have HO9' := Lib.hid hown9
              have hl9 := hown9.le; have hl8 := HO8.out.le
              have hlo : (outV (viewP ps3) n).length ≤ 64 := out_le _ HI9.out.p n
              clear hown9 hb9 HI8 HO8
              generalize outV (viewP ps3) n = on at HO9 HO9' hl9 hl8 hlo ⊢
              go_wp2_with fail
              refine (texts_any _ _ _ _ on _ HO9.out.rd HO9'.out.rd (by omega) hl8 hl9).mono ?_; rintro e w10 ⟨rfl, hb10⟩
              have HI10 := Lib.hid (HI9.out.below hb10)
              clear hb10 HI9 HO9 HO9' hl8 hl9
              go_wp2_with fail
              go_roundw
              case rel => exact ⟨k + 1, ps3, qs3, by omega, by omega, by go_num, HI10.out, HA3.out, HL3.out⟩
              case measure => simp [intOf]; omega
                          )
                        · rw [hfl] at HFL
                          clear hfl
                          go_wp2_with fail
                          go_quiet ((go_at_call 22; exact HFL.out _))
                          have HI2' := Lib.hid (HI2.out.below (below_drewN (Below.refl _ _) nq))
                          have y1 : (w3.drewN nq).cell? ⟨wr.heap.size, 1, none⟩ = some (.int .i64 f) := x1
                          have y2 : (w3.drewN nq).cell? ⟨wr.heap.size, 2, none⟩ = some (.int .i64 n) := x2
                          have y3 : (w3.drewN nq).cell? ⟨wr.heap.size, 3, none⟩ = some (.string xs) := x3
                          clear HI2 x1 x2 x3 cf cn tf0 tf1 tf2 HFL HLF
                          go_wp2_with fail
                          refine (send_any _ _ _ _ _ _ _ _ _ HI2'.out.q hsx HI2'.out.hb.size).mono ?_; rintro e w4 ⟨qs3, rfl, hp4, hv4, hb4, hm4, hat4⟩
                          have HI3 := Lib.hid (HI2'.out.swap.act hp4 hb4 hm4 hat4).swap
                          have HA3 : Hid (Alike n (viewP ps3) (viewP qs3)) := by rw [Hid, HV3.out, hv4]; exact HA.out.send f xs
                          clear hp4 hv4 hb4 hm4 hat4 HI2' y1 y2 y3 tn HV3 HA
                          (
              have HWP := Lib.hid (waits_any _ _ _ _ n _ _ HI3.out.p)
              have HWQ := Lib.hid (waits_any _ _ _ _ n _ _ HI3.out.q)
              rw [← HA3.out.waits] at HWQ
              generalize waitsV (viewP ps3) n = wn at HWP HWQ
              have nn : ((wn : Int) != (wn : Int)) = false := by simp
              go_wp2_with fail
              refine HWP.out.mono ?_; rintro e w' ⟨rfl, rfl⟩
              go_wp2_with fail
              refine HWQ.out.mono ?_; rintro e w' ⟨rfl, rfl⟩
              clear HWP HWQ
              go_wp2_with fail
              refine (out_any _ _ _ _ n _ _ HI3.out.p).mono ?_; rintro e w8 ⟨a8, c8, rfl, hown8, hb8⟩
              have HI8 := Lib.hid (HI3.out.below hb8)
              have HO8 := Lib.hid hown8
              clear hown8 hb8 HI3 nn
              go_wp2_with fail
              refine (out_any _ _ _ _ n _ _ HI8.out.q).mono ?_; intro e w9 hp9
              rw [← HA3.out.out] at hp9
              obtain ⟨a9, c9, rfl, hown9, hb9⟩ := hp9
              have HI9 := Lib.hid (HI8.out.below hb9)
              have HO9 := Lib.hid (HO8.out.below hb9)
              have HO9' := Lib.hid hown9
              have hl9 := hown9.le; have hl8 := HO8.out.le
              have hlo : (outV (viewP ps3) n).length ≤ 64 := out_le _ HI9.out.p n
              clear hown9 hb9 HI8 HO8
              generalize outV (viewP ps3) n = on at HO9 HO9' hl9 hl8 hlo ⊢
              go_wp2_with fail
              refine (texts_any _ _ _ _ on _ HO9.out.rd HO9'.out.rd (by omega) hl8 hl9).mono ?_; rintro e w10 ⟨rfl, hb10⟩
              have HI10 := Lib.hid (HI9.out.below hb10)
              clear hb10 HI9 HO9 HO9' hl8 hl9
              go_wp2_with fail
              go_roundw
              case rel => exact ⟨k + 1, ps3, qs3, by omega, by omega, by go_num, HI10.out, HA3.out, HL3.out⟩
              case measure => simp [intOf]; omega
                          )
                      · have tf0 : decide ((0 : Int) ≤ (f : Int)) = true := by simp
                        have tf1 : decide ((f : Int) < (l.length : Int)) = false := by simp; omega
                        have tf2 : decide (f < l.length) = false := by simpa using ef1
                        have hsb : Hid (sendV (viewP ps) f n xs = viewP ps) := send_blind _ _ _ _ (fun x y h1 _ => by
                          have g1 := (atV_some h1).2
                          rw [Int.toNat_natCast] at g1
                          have g2 := (List.getElem?_eq_some_iff.1 g1).1
                          have g3 := congrArg List.length HL.out
                          rw [List.length_map] at g3
                          omega)
                        (
                        go_wp2_with fail
                        go_quiet (fail)
                        have HI3 := Lib.hid (HI2.out.below (below_drewN (Below.refl _ _) nq))
                        obtain ⟨qs3, hq3⟩ : ∃ q, q = qs := ⟨_, rfl⟩
                        have HA3 : Hid (Alike n (viewP ps3) (viewP qs3)) := by rw [Hid, HV3.out, hsb.out, hq3]; exact HA.out
                        rw [← hq3] at HI3
                        clear HI2 HA HV3 hq3 hsb x1 x2 x3 tf0 tf1 tf2 tn
                        (
              have HWP := Lib.hid (waits_any _ _ _ _ n _ _ HI3.out.p)
              have HWQ := Lib.hid (waits_any _ _ _ _ n _ _ HI3.out.q)
              rw [← HA3.out.waits] at HWQ
              generalize waitsV (viewP ps3) n = wn at HWP HWQ
              have nn : ((wn : Int) != (wn : Int)) = false := by simp
              go_wp2_with fail
              refine HWP.out.mono ?_; rintro e w' ⟨rfl, rfl⟩
              go_wp2_with fail
              refine HWQ.out.mono ?_; rintro e w' ⟨rfl, rfl⟩
              clear HWP HWQ
              go_wp2_with fail
              refine (out_any _ _ _ _ n _ _ HI3.out.p).mono ?_; rintro e w8 ⟨a8, c8, rfl, hown8, hb8⟩
              have HI8 := Lib.hid (HI3.out.below hb8)
              have HO8 := Lib.hid hown8
              clear hown8 hb8 HI3 nn
              go_wp2_with fail
              refine (out_any _ _ _ _ n _ _ HI8.out.q).mono ?_; intro e w9 hp9
              rw [← HA3.out.out] at hp9
              obtain ⟨a9, c9, rfl, hown9, hb9⟩ := hp9
              have HI9 := Lib.hid (HI8.out.below hb9)
              have HO9 := Lib.hid (HO8.out.below hb9)
              have HO9' := Lib.hid hown9
              have hl9 := hown9.le; have hl8 := HO8.out.le
              have hlo : (outV (viewP ps3) n).length ≤ 64 := out_le _ HI9.out.p n
              clear hown9 hb9 HI8 HO8
              generalize outV (viewP ps3) n = on at HO9 HO9' hl9 hl8 hlo ⊢
              go_wp2_with fail
              refine (texts_any _ _ _ _ on _ HO9.out.rd HO9'.out.rd (by omega) hl8 hl9).mono ?_; rintro e w10 ⟨rfl, hb10⟩
              have HI10 := Lib.hid (HI9.out.below hb10)
              clear hb10 HI9 HO9 HO9' hl8 hl9
              go_wp2_with fail
              go_roundw
              case rel => exact ⟨k + 1, ps3, qs3, by omega, by omega, by go_num, HI10.out, HA3.out, HL3.out⟩
              case measure => simp [intOf]; omega
                        )
                        )
                    · have tf0 : decide ((0 : Int) ≤ xf) = false := by simpa using ef0
                      have hsb : Hid (sendV (viewP ps) xf n xs = viewP ps) := send_blind _ _ _ _ (fun x y h1 _ => by have := (atV_some h1).1; omega)
                      have tf1 := 0; have tf2 := 0
                      (
                        go_wp2_with fail
                        go_quiet (fail)
                        have HI3 := Lib.hid (HI2.out.below (below_drewN (Below.refl _ _) nq))
                        obtain ⟨qs3, hq3⟩ : ∃ q, q = qs := ⟨_, rfl⟩
                        have HA3 : Hid (Alike n (viewP ps3) (viewP qs3)) := by rw [Hid, HV3.out, hsb.out, hq3]; exact HA.out
                        rw [← hq3] at HI3
                        clear HI2 HA HV3 hq3 hsb x1 x2 x3 tf0 tf1 tf2 tn
                        (
              have HWP := Lib.hid (waits_any _ _ _ _ n _ _ HI3.out.p)
              have HWQ := Lib.hid (waits_any _ _ _ _ n _ _ HI3.out.q)
              rw [← HA3.out.waits] at HWQ
              generalize waitsV (viewP ps3) n = wn at HWP HWQ
              have nn : ((wn : Int) != (wn : Int)) = false := by simp
              go_wp2_with fail
              refine HWP.out.mono ?_; rintro e w' ⟨rfl, rfl⟩
              go_wp2_with fail
              refine HWQ.out.mono ?_; rintro e w' ⟨rfl, rfl⟩
              clear HWP HWQ
              go_wp2_with fail
              refine (out_any _ _ _ _ n _ _ HI3.out.p).mono ?_; rintro e w8 ⟨a8, c8, rfl, hown8, hb8⟩
              have HI8 := Lib.hid (HI3.out.below hb8)
              have HO8 := Lib.hid hown8
              clear hown8 hb8 HI3 nn
              go_wp2_with fail
              refine (out_any _ _ _ _ n _ _ HI8.out.q).mono ?_; intro e w9 hp9
              rw [← HA3.out.out] at hp9
              obtain ⟨a9, c9, rfl, hown9, hb9⟩ := hp9
              have HI9 := Lib.hid (HI8.out.below hb9)
              have HO9 := Lib.hid (HO8.out.below hb9)
              have HO9' := Lib.hid hown9
              have hl9 := hown9.le; have hl8 := HO8.out.le
              have hlo : (outV (viewP ps3) n).length ≤ 64 := out_le _ HI9.out.p n
              clear hown9 hb9 HI8 HO8
              generalize outV (viewP ps3) n = on at HO9 HO9' hl9 hl8 hlo ⊢
              go_wp2_with fail
              refine (texts_any _ _ _ _ on _ HO9.out.rd HO9'.out.rd (by omega) hl8 hl9).mono ?_; rintro e w10 ⟨rfl, hb10⟩
              have HI10 := Lib.hid (HI9.out.below hb10)
              clear hb10 HI9 HO9 HO9' hl8 hl9
              go_wp2_with fail
              go_roundw
              case rel => exact ⟨k + 1, ps3, qs3, by omega, by omega, by go_num, HI10.out, HA3.out, HL3.out⟩
              case measure => simp [intOf]; omega
                        )
                      )
                  · have tn : (xt == (n : Int)) = false := by simpa using et
                    go_wp2_with fail
                    go_quiet (fail)
                    have HI3 := Lib.hid (HI2.out.below (below_drewN (Below.refl _ _) nq))
                    obtain ⟨qs3, hq3⟩ : ∃ q, q = qs := ⟨_, rfl⟩
                    have HA3 : Hid (Alike n (viewP ps3) (viewP qs3)) := by rw [Hid, HV3.out, hq3]; exact HA.out.left (send_only _ _ _ _) (Ne.symm et)
                    rw [← hq3] at HI3
                    clear HI2 HA HV3 hq3 et x1 x2 x3
                    (
              have HWP := Lib.hid (waits_any _ _ _ _ n _ _ HI3.out.p)
              have HWQ := Lib.hid (waits_any _ _ _ _ n _ _ HI3.out.q)
              rw [← HA3.out.waits] at HWQ
              generalize waitsV (viewP ps3) n = wn at HWP HWQ
              have nn : ((wn : Int) != (wn : Int)) = false := by simp
              go_wp2_with fail
              refine HWP.out.mono ?_; rintro e w' ⟨rfl, rfl⟩
              go_wp2_with fail
              refine HWQ.out.mono ?_; rintro e w' ⟨rfl, rfl⟩
              clear HWP HWQ
              go_wp2_with fail
              refine (out_any _ _ _ _ n _ _ HI3.out.p).mono ?_; rintro e w8 ⟨a8, c8, rfl, hown8, hb8⟩
              have HI8 := Lib.hid (HI3.out.below hb8)
              have HO8 := Lib.hid hown8
              clear hown8 hb8 HI3 nn
              go_wp2_with fail
              refine (out_any _ _ _ _ n _ _ HI8.out.q).mono ?_; intro e w9 hp9
              rw [← HA3.out.out] at hp9
              obtain ⟨a9, c9, rfl, hown9, hb9⟩ := hp9
              have HI9 := Lib.hid (HI8.out.below hb9)
              have HO9 := Lib.hid (HO8.out.below hb9)
              have HO9' := Lib.hid hown9
              have hl9 := hown9.le; have hl8 := HO8.out.le
              have hlo : (outV (viewP ps3) n).length ≤ 64 := out_le _ HI9.out.p n
              clear hown9 hb9 HI8 HO8
              generalize outV (viewP ps3) n = on at HO9 HO9' hl9 hl8 hlo ⊢
              go_wp2_with fail
              refine (texts_any _ _ _ _ on _ HO9.out.rd HO9'.out.rd (by omega) hl8 hl9).mono ?_; rintro e w10 ⟨rfl, hb10⟩
              have HI10 := Lib.hid (HI9.out.below hb10)
              clear hb10 HI9 HO9 HO9' hl8 hl9
              go_wp2_with fail
              go_roundw
              case rel => exact ⟨k + 1, ps3, qs3, by omega, by omega, by go_num, HI10.out, HA3.out, HL3.out⟩
              case measure => simp [intOf]; omega
                    )
            · (
      go_wp2_with fail
      refine (awake_any _).mono ?_; rintro e wz ⟨rfl, hbz⟩
      go_wp2_with fail
      go_ret
      exact ⟨rfl, bmore (HI.out.hb) hbz⟩
              )
          · (
      go_wp2_with fail
      refine (awake_any _).mono ?_; rintro e wz ⟨rfl, hbz⟩
      go_wp2_with fail
      go_ret
      exact ⟨rfl, bmore (HI.out.hb) hbz⟩
            )
      · by_cases hi0 : i < 0
        · clear hi hall
          (
      go_wp2_with fail
      refine (awake_any _).mono ?_; rintro e wz ⟨rfl, hbz⟩
      go_wp2_with fail
      go_ret
      exact ⟨rfl, bmore (HI0.out.hb) hbz⟩
          )
        · have hi1 : (l.length : Int) ≤ i := by omega
          clear hi hall
          (
      go_wp2_with fail
      refine (awake_any _).mono ?_; rintro e wz ⟨rfl, hbz⟩
      go_wp2_with fail
      go_ret
      exact ⟨rfl, bmore (HI0.out.hb) hbz⟩
          )
    · go_enter Try.func6, Try.ntmps6
      go_wp2_with fail
      refine (new_all w.heap.size _ _ l w HR.out hle hc0 h8 (Nat.le_refl _)).mono ?_; intro e w1 h1
      rw [NewAll, if_neg hall] at h1
      obtain ⟨rfl, hb1⟩ := h1
      go_wp2_with fail
      refine (new_all w1.heap.size _ _ l w1 (HR.out.below hb1) hle hc0 h8 (Nat.le_refl _)).mono ?_; intro e w2 h2
      rw [NewAll, if_neg hall] at h2
      obtain ⟨rfl, hb2⟩ := h2
      have hb := bmore hb1 hb2
      clear hall
      (
      go_wp2_with fail
      refine (awake_any _).mono ?_; rintro e wz ⟨rfl, hbz⟩
      go_wp2_with fail
      go_ret
      exact ⟨rfl, bmore (hb) hbz⟩
      )
  · go_enter Try.func6, Try.ntmps6
    go_wp2_with fail
    refine (new_long _ _ _ _ (by omega) (by unfold maxLen; omega)).mono ?_; rintro e w1 ⟨rfl, rfl⟩
    go_wp2_with fail
    refine (new_long _ _ _ _ (by omega) (by unfold maxLen; omega)).mono ?_; rintro e w1 ⟨rfl, rfl⟩
    (
      go_wp2_with fail
      refine (awake_any _).mono ?_; rintro e wz ⟨rfl, hbz⟩
      go_wp2_with fail
      go_ret
      exact ⟨rfl, bmore ((Below.refl _ _)) hbz⟩
    )
end Go.Proofs.Ytpccllgbccccnaa
