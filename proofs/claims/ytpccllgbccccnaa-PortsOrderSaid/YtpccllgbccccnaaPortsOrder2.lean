/- The law PortsOrder: the port to the outside; both. -/
import Derived.Test.YtpccllgbccccnaaPortsOrder
namespace Go.Proofs.Ytpccllgbccccnaa
open Go.RowKit Go.Sort Go.ChangeShapes Go.WideShapes Go.ChangeAt
set_option maxHeartbeats 400000
set_option maxRecDepth 100000

set_option maxHeartbeats 4000000 in
theorem order_out (a0 : Option Addr) (c0 : Nat) (l : List ByteArray) (p q : Nat) (hp : p < 256) (hq : q < 256) (w : World) (hr : Rd w 1 a0 l.length (strF l)) (hle : l.length ≤ c0) (hc : c0 ≤ maxLen) (hst : ∀ x ∈ l, x.size ≤ maxLen) :
    Calls Try.prog 4 #[.slice a0 l.length c0, .int .u8 p, .int .u8 q, .bool true] w fun e w' => e = .returned (.bool true) ∧ Below w.heap.size w w' := by
  obtain ⟨i0, hi0, hz0, hz1, hz2⟩ := info_parts info_str
  unfold maxLen at hc
  have HR := Lib.hid hr; have HST := Lib.hid hst
  clear hr hst
  go_enter Try.func4, Try.ntmps4
  go_wp2_with fail
  have hfl := or8 (p % 8) (by omega) (q % 8) (by omega)
  have ep : ((p % 8 : Nat) : Int) = (p : Int) % 8 := by omega
  have eq : ((q % 8 : Nat) : Int) = (q : Int) % 8 := by omega
  rw [ep, eq] at hfl
  obtain ⟨z, hz⟩ : ∃ z, z = bits BinOp.or IntKind.i64 ((p : Int) % 8) ((q : Int) % 8) := ⟨_, rfl⟩
  obtain ⟨x, hx⟩ : ∃ x : Int, x = (p : Int) % 8 := ⟨_, rfl⟩
  rw [← hz] at hfl ⊢
  rw [← hx] at hfl ⊢
  have HFL := Lib.hid hfl.2.1
  have hbz := hfl.1
  have hbx := hfl.2.2
  clear hfl ep eq hz hx
  refine (new_any w.heap.size _ 2 [(x, 0), (z, -1)] _ (new_rd (new_block _ _ _ (by simp)) rfl) (by simp) (by simp [maxLen]) (by simp) (by simp; omega) (by simp [hbx, hbz])).mono ?_; rintro e w1 ⟨pp, gp, cp, ps, rfl, hp1, hv1, hb1, -⟩
  have HV1 : Hid (viewP ps = V2 x z (-1) []) := hv1
  have HB1 : Hid (Below w.heap.size w w1) := bmore (((Below.refl _ _).alloc (Nat.le_refl _) _).alloc (by simp) _) hb1
  have HI1 : Hid (OInv w w1 pp gp cp ps none 0 []) := ⟨hp1, Own.nil _ _ _ _, by simp [blk], HB1.out⟩
  have HM : Hid (mostV (-1) = 64) := rfl
  clear hp1 hv1 hb1 hbz hbx HB1
  go_wp2_with fail
  (
    go_loopw [15, 13] (fun i wt wr => ∃ (k : Nat) (T : List ByteArray) (at_ : Option Addr) (ct : Nat) (ps : List Pt), k ≤ l.length ∧ k ≤ 100 ∧ i = .int .i64 k ∧ wt = .slice at_ T.length ct ∧ T.length ≤ 64 ∧ viewP ps = V2 x z (-1) T ∧ OInv w wr pp gp cp ps at_ ct T) (fun i _ _ => 100 - (intOf i).toNat)
    case atStart => exact ⟨0, [], none, 0, ps, by omega, by omega, rfl, rfl, by simp, HV1.out, HI1.out⟩
    case round =>
      clear HI1 HV1
      obtain ⟨k, T, at_, ct, ps2, hk1, hk2, rfl, rfl, hT, hvw, hi⟩ := hrel
      have HI := Lib.hid hi; have HV := Lib.hid hvw
      clear hi hvw
      have hTe := HI.out.t.le
      by_cases g1 : k < l.length
      · by_cases g2 : k < 100
        · obtain ⟨b0, o0, rfl, gs⟩ := str_at HR.out (by omega)
          have GS := Lib.hid gs
          clear gs
          have k0 := GS.out wr HI.out.hb k g1
          have hsx : l[k].size ≤ maxLen := HST.out _ (List.getElem_mem g1)
          obtain ⟨s, hs⟩ : ∃ s, s = l[k] := ⟨_, rfl⟩
          rw [← hs] at k0 hsx
          have HSS := Lib.hid hs
          clear hs
          have hq0 : (0 : Int) ≤ k := by omega
          have hq1 : (k : Int) < (l.length : Int) := by omega
          go_wp2_with fail
          refine (send_any _ _ _ _ _ _ _ _ _ HI.out.p hsx HI.out.hb.size).mono ?_; rintro e w3 ⟨ps3, rfl, hp3, hv3, hb3, hm3, hat3⟩
          have HI3 := Lib.hid (HI.out.act hp3 hb3 hm3 hat3)
          rw [HV.out, send_V2 _ _ _ _ _ HFL.out] at hv3
          clear hp3 hb3 hm3 hat3 HI HV k0
          have k3 := GS.out w3 HI3.out.hb k g1
          rw [← HSS.out] at k3
          have hsz : s.size < 9223372036854775808 := by unfold maxLen at hsx; omega
          by_cases h32 : s.size ≤ 32
          · have d1 : decide ((s.size : Int) ≤ 32) = true := by simp; omega
            by_cases hfu : T.length < 64
            · rw [if_pos ⟨h32, by rw [HM.out]; omega⟩] at hv3
              have HV3 := Lib.hid hv3
              have d2 : decide ((T.length : Int) < 64) = true := by simp; omega
              have hB3 := HI3.out.hb.size
              clear hv3
              go_wp2_with (at_builtin; (refine wpList_own rfl (.tmp 74) (.tmp 79) 32 rfl w.heap.size 9 i0 _ 1 16 Try.underlying32 hi0 hz0 hz1 hz2 rfl (by omega) at_ T.length ct (strF T) rfl (HI3.out.t.below ((Below.refl _ _).alloc (Nat.le_refl _) _)) w3.heap.size [.string s] rfl (new_block _ _ _ rfl) rfl (by simp [Value.oneCell']) (by simp only [maxLen]; omega) (by omega) (by simp; omega) ?_); intro g4 c4 w4 hown4 hmod4 hat4)
              have HI4 : Hid (OInv w w4 pp gp cp ps3 (some ⟨g4, 0, none⟩) c4 (T ++ [s])) :=
                (HI3.out.below ((Below.refl _ _).alloc (Nat.le_refl _) _)).note (by rw [List.length_append, strF_snoc]; exact hown4) hmod4 hat4
              clear hown4 hmod4 hat4 HI3 k3
              go_roundw
              case rel => exact ⟨k + 1, T ++ [s], some ⟨g4, 0, none⟩, c4, ps3, by omega, by omega, by go_num, by rw [List.length_append]; rfl, by rw [List.length_append]; simp; omega, HV3.out, HI4.out⟩
              case measure => simp [intOf]; omega
            · rw [if_neg (fun h => h.2 (by rw [HM.out]; omega))] at hv3
              have HV3 := Lib.hid hv3
              have d2 : decide ((T.length : Int) < 64) = false := by simp; omega
              clear hv3
              go_wp2_with fail
              go_roundw
              case rel => exact ⟨k + 1, T, at_, ct, ps3, by omega, by omega, by go_num, rfl, hT, HV3.out, HI3.out⟩
              case measure => simp [intOf]; omega
          · rw [if_neg (fun h => h32 h.1)] at hv3
            have HV3 := Lib.hid hv3
            have d1 : decide ((s.size : Int) ≤ 32) = false := by simp; omega
            clear hv3
            go_wp2_with fail
            go_roundw
            case rel => exact ⟨k + 1, T, at_, ct, ps3, by omega, by omega, by go_num, rfl, hT, HV3.out, HI3.out⟩
            case measure => simp [intOf]; omega
        · (
        have hTe0 := HI.out.t.le
        go_wp2_with fail
        refine (out_any _ _ _ _ 1 _ _ HI.out.p).mono ?_; intro e w5 hp5
        rw [HV.out, show outV (V2 x z (-1) T) 1 = T from rfl] at hp5
        obtain ⟨a5, c5, rfl, hown5, hb5⟩ := hp5
        have HI5 := Lib.hid (HI.out.below hb5)
        have hl5 := hown5.le
        have HO5 := Lib.hid hown5
        have HWA := Lib.hid (fun W (h : OInv w W pp gp cp ps2 at_ ct T) => waits_any _ _ _ _ 1 _ _ h.p)
        rw [HV.out, show waitsV (V2 x z (-1) T) 1 = 0 from rfl] at HWA
        clear hb5 hown5
        go_wp2_with fail
        refine (texts_any _ _ _ _ T _ HO5.out.rd HI5.out.t.rd (by omega) hl5 hTe0).mono ?_; rintro e w6 ⟨rfl, hb6⟩
        have HI6 := Lib.hid (HI5.out.below hb6)
        clear hb6
        go_wp2_with fail
        refine (HWA.out _ HI6.out).mono ?_; rintro e w' ⟨rfl, rfl⟩
        go_wp2_with fail
        refine (awake_any _).mono ?_; rintro e wz2 ⟨rfl, hbz⟩
        go_wp2_with fail
        go_ret
        exact ⟨rfl, bmore HI6.out.hb hbz⟩
          )
      · (
        have hTe0 := HI.out.t.le
        go_wp2_with fail
        refine (out_any _ _ _ _ 1 _ _ HI.out.p).mono ?_; intro e w5 hp5
        rw [HV.out, show outV (V2 x z (-1) T) 1 = T from rfl] at hp5
        obtain ⟨a5, c5, rfl, hown5, hb5⟩ := hp5
        have HI5 := Lib.hid (HI.out.below hb5)
        have hl5 := hown5.le
        have HO5 := Lib.hid hown5
        have HWA := Lib.hid (fun W (h : OInv w W pp gp cp ps2 at_ ct T) => waits_any _ _ _ _ 1 _ _ h.p)
        rw [HV.out, show waitsV (V2 x z (-1) T) 1 = 0 from rfl] at HWA
        clear hb5 hown5
        go_wp2_with fail
        refine (texts_any _ _ _ _ T _ HO5.out.rd HI5.out.t.rd (by omega) hl5 hTe0).mono ?_; rintro e w6 ⟨rfl, hb6⟩
        have HI6 := Lib.hid (HI5.out.below hb6)
        clear hb6
        go_wp2_with fail
        refine (HWA.out _ HI6.out).mono ?_; rintro e w' ⟨rfl, rfl⟩
        go_wp2_with fail
        refine (awake_any _).mono ?_; rintro e wz2 ⟨rfl, hbz⟩
        go_wp2_with fail
        go_ret
        exact ⟨rfl, bmore HI6.out.hb hbz⟩
        )
  )
theorem order_walk (a0 : Option Addr) (c0 : Nat) (l : List ByteArray) (p q : Nat) (out : Bool) (hp : p < 256) (hq : q < 256) (w : World) (hr : Rd w 1 a0 l.length (strF l)) (hle : l.length ≤ c0) (hc : c0 ≤ maxLen) (hst : ∀ x ∈ l, x.size ≤ maxLen) :
    Calls Try.prog 4 #[.slice a0 l.length c0, .int .u8 p, .int .u8 q, .bool out] w fun e w' => e = .returned (.bool true) ∧ Below w.heap.size w w' := by
  cases out
  · exact order_in a0 c0 l p q hp hq w hr hle hc hst
  · exact order_out a0 c0 l p q hp hq w hr hle hc hst
end Go.Proofs.Ytpccllgbccccnaa
