/- The law PortsOrder. -/
import Derived.Test.YtpccllgbccccnaaPorts5
import Derived.Test.YtpccllgbccccnaaOpen
namespace Go.Proofs.Ytpccllgbccccnaa
set_option linter.unusedVariables false
set_option linter.unusedSimpArgs false
set_option linter.unnecessarySimpa false
open Go.RowKit Go.Sort Go.ChangeShapes Go.WideShapes Go.ChangeAt
set_option maxHeartbeats 400000
set_option maxRecDepth 100000

theorem flat_str : ∀ l : List ByteArray, (l.map (fun s => [Value.string s])).flatten = strF l
  | [] => rfl
  | x :: l => by rw [List.map_cons, List.flatten_cons, flat_str l]; rfl
theorem open_strs {H : Type} {enc : TypeId × Value → H} {W : World} {base : Nat} {v : Value} {d : DataW H} {p : List MemPlace} (hv : Value.okWide Try.prog W .any base 32 v) (h : DataW.Trod enc Try.prog W 0 (fun _ => true) true 32 v d p) :
    ∃ (a : Option Addr) (cap : Nat) (l : List ByteArray), v = .slice a l.length cap ∧ l.length ≤ cap ∧ cap ≤ maxLen ∧ Rd W 1 a l.length (strF l) ∧ ∀ x ∈ l, x.size ≤ maxLen := by
  obtain ⟨a, len, cap, xs, rfl, hle, hcm, hrd, hlf, _⟩ := open_rowF (n := 0) (N := 1) Try.underlying32 (by kernel_rfl) (by kernel_rfl) (by omega) hv h
  obtain ⟨l, rfl, rfl, hq⟩ := rows_of (fun s => [Value.string s]) (fun x => x.size ≤ maxLen) 1 (fun _ => rfl) len xs hrd.1 (fun i hi => by
    obtain ⟨u0, y0, m0, g0, t0⟩ := hlf i hi 0 9 (by omega) (by kernel_rfl)
    obtain ⟨s0, e0, _, hs⟩ := DataW.trod_string Try.underlying9 t0
    simp only [List.cons.injEq, and_true] at e0
    subst e0
    refine ⟨s0, hs, fun j hj => ?_⟩
    obtain rfl : j = 0 := by omega
    exact g0)
  exact ⟨a, cap, l, rfl, hle, hcm, by rw [← flat_str]; exact hrd, hq⟩
theorem str_at {w : World} {a : Option Addr} {l : List ByteArray} (h : Rd w 1 a l.length (strF l)) (hl : 0 < l.length) : ∃ b0 o0, a = some ⟨b0, o0, none⟩ ∧ ∀ W, Below w.heap.size w W → ∀ k (hk : k < l.length), W.cell? ⟨b0, o0 + k, none⟩ = some (.string l[k]) := by
  have hne : strF l ≠ [] := by intro h0; simp [strF] at h0; subst h0; simp at hl
  have ha : a ≠ none := fun h0 => by have := h.2.1 h0; omega
  obtain ⟨p, rfl⟩ := Option.ne_none_iff_exists'.1 ha
  obtain ⟨b0, o0, rfl, _, gc⟩ := h.2.2 p rfl hne
  refine ⟨b0, o0, rfl, fun W hW k hk => ?_⟩
  obtain ⟨b1, o1, e, _, gc'⟩ := (h.below hW).2.2 _ rfl hne
  injection e with e1 e2
  subst e1 e2
  exact gc' k _ (by simp [strF, hk])
theorem PSt.pblk_lt {w : World} {B pp cp : Nat} {gp : Option Addr} {ps : List Pt} (h : PSt w B pp gp cp ps) : ∀ k ∈ pblk gp ps, B ≤ k ∧ k < w.heap.size := fun k hk => by
  simp only [pblk, List.mem_append, List.mem_flatMap] at hk
  rcases hk with hk | ⟨q, hq, hk⟩
  · exact h.own.ge k hk
  · obtain ⟨i, hi, rfl⟩ := List.getElem_of_mem hq
    exact (h.rows i hi).ge k hk
theorem PSt.mod {S : List Nat} {w w' : World} {B pp cp : Nat} {gp : Option Addr} {ps : List Pt} (h : PSt w B pp gp cp ps) (hm : Mod S w w') (h1 : pp ∉ S) (h2 : ∀ k ∈ pblk gp ps, k ∉ S) : PSt w' B pp gp cp ps :=
  ⟨h.obj.mod hm h1, h.own.mod hm (fun k hk => h2 k (by rw [pblk, List.mem_append]; exact .inl hk)), fun i hi => (h.rows i hi).mod hm (fun k hk => h2 k (pblk_row hi hk)), h.sep, h.len, h.few⟩
/-- Ports, and a row of texts beside them. -/
structure OInv (w W : World) (pp : Nat) (gp : Option Addr) (cp : Nat) (ps : List Pt) (a : Option Addr) (c : Nat) (T : List ByteArray) : Prop where
  p : PSt W w.heap.size pp gp cp ps
  t : Own W w.heap.size 9 1 a T.length c (strF T)
  dj : ∀ k ∈ blk a, k ∉ pblk gp ps
  hb : Below w.heap.size w W
namespace OInv
variable {w W W' : World} {pp cp c : Nat} {gp a : Option Addr} {ps : List Pt} {T : List ByteArray}
theorem below (h : OInv w W pp gp cp ps a c T) (hb : Below W.heap.size W W') : OInv w W' pp gp cp ps a c T := ⟨h.p.below hb, h.t.below hb, h.dj, bmore h.hb hb⟩
theorem act (h : OInv w W pp gp cp ps a c T) {ps' : List Pt} (hp : PSt W' w.heap.size pp gp cp ps') (hb : ∀ B0, B0 ≤ w.heap.size → Below B0 W W') (hm : Mod (pblk gp ps) W W') (hat : ∀ k ∈ pblk gp ps', k ∈ pblk gp ps ∨ W.heap.size ≤ k) : OInv w W' pp gp cp ps' a c T :=
  ⟨hp, h.t.mod hm h.dj, fun k hk hk2 => by
    rcases hat k hk2 with h0 | h0
    · exact h.dj k hk h0
    · have := (h.t.ge k hk).2; omega, h.hb.trans (hb _ (Nat.le_refl _))⟩
theorem note (h : OInv w W pp gp cp ps a c T) {g' c' : Nat} {T' : List ByteArray} (ht : Own W' w.heap.size 9 1 (some ⟨g', 0, none⟩) T'.length c' (strF T')) (hm : Mod (blk a) W W') (hat : g' ∈ blk a ∨ W.heap.size ≤ g') : OInv w W' pp gp cp ps (some ⟨g', 0, none⟩) c' T' :=
  ⟨h.p.mod hm (h.t.ne h.p.obj (by decide)) (fun k hk hk2 => h.dj k hk2 hk), ht, fun k hk hk2 => by
    simp only [blk, Option.map_some, Option.toList_some, List.mem_singleton] at hk
    subst hk
    rcases hat with h0 | h0
    · exact h.dj _ h0 hk2
    · have := (h.p.pblk_lt _ hk2).2; omega, h.hb.trans (hm.below (fun k hk => (h.t.ge k hk).1) h.hb.size)⟩
/-- Another row has grown. -/
theorem other (h : OInv w W pp gp cp ps a c T) {a2 : Option Addr} {c2 : Nat} {T2 : List ByteArray} (h2 : OInv w W pp gp cp ps a2 c2 T2) (hs : Sep a2 a) (hm : Mod (blk a2) W W') : OInv w W' pp gp cp ps a c T :=
  ⟨h.p.mod hm (h2.t.ne h.p.obj (by decide)) (fun k hk hk2 => h2.dj k hk2 hk), h.t.mod hm (fun k hk hk2 => hs k hk2 hk), h.dj, h.hb.trans (hm.below (fun k hk => (h2.t.ge k hk).1) h.hb.size)⟩
end OInv
def V2 (x z g : Int) (T : List ByteArray) : List PV := [⟨x, 0, []⟩, ⟨z, g, T⟩]
theorem send_V2 (x z g : Int) (T : List ByteArray) (s : ByteArray) (h : flB x z = true) : sendV (V2 x z g T) 0 1 s = V2 x z g (if s.size ≤ 32 ∧ ¬ mostV g ≤ T.length then T ++ [s] else T) := by
  have e0 : atV (V2 x z g T) 0 = some ⟨x, 0, []⟩ := rfl
  have e1 : atV (V2 x z g T) 1 = some ⟨z, g, T⟩ := rfl
  rw [sendV, e0, e1]
  dsimp only
  by_cases h1 : s.size ≤ 32 ∧ ¬ mostV g ≤ T.length
  · rw [if_pos ⟨h1.1, h, h1.2⟩, if_pos h1]; rfl
  · rw [if_neg (fun h2 => h1 ⟨h2.1, h2.2.2⟩), if_neg h1]
theorem take_V2 (x z : Int) (s : ByteArray) (T : List ByteArray) : takeV (V2 x z 1 (s :: T)) 1 = ((s, true), V2 x z 1 T) := rfl
theorem take_V2n (x z : Int) : takeV (V2 x z 1 []) 1 = ((⟨#[]⟩, false), V2 x z 1 []) := rfl
theorem or8 : ∀ x < 8, ∀ y < 8, isB (bits BinOp.or IntKind.i64 ((x : Nat) : Int) ((y : Nat) : Int)) = true ∧ flB ((x : Nat) : Int) (bits BinOp.or IntKind.i64 ((x : Nat) : Int) ((y : Nat) : Int)) = true ∧ isB ((x : Nat) : Int) = true := by decide +kernel
set_option maxHeartbeats 4000000 in
theorem order_in (a0 : Option Addr) (c0 : Nat) (l : List ByteArray) (p q : Nat) (hp : p < 256) (hq : q < 256) (w : World) (hr : Rd w 1 a0 l.length (strF l)) (hle : l.length ≤ c0) (hc : c0 ≤ maxLen) (hst : ∀ x ∈ l, x.size ≤ maxLen) :
    Calls Try.prog 4 #[.slice a0 l.length c0, .int .u8 p, .int .u8 q, .bool false] w fun e w' => e = .returned (.bool true) ∧ Below w.heap.size w w' := by
  obtain ⟨i0, hi0, hz0, hz1, hz2⟩ := info_parts info_str
  unfold maxLen at hc
  have HR := Lib.hid hr; have HST := Lib.hid hst
  clear hr hst
  go_enter Try.func4, Try.ntmps4
  go_wp2_with fail
  have hfl := or8 (p % 8) (by omega) (q % 8) (by omega)
  have ep : ((p % 8 : Nat) : Int) = (p : Int) % 8 := by omega
  have eq : ((q % 8 : Nat) : Int) = (q : Int) % 8 := by omega
  rw [ep, eq] at hfl
  obtain ⟨z, hz⟩ : ∃ z, z = bits BinOp.or IntKind.i64 ((p : Int) % 8) ((q : Int) % 8) := ⟨_, rfl⟩
  obtain ⟨x, hx⟩ : ∃ x : Int, x = (p : Int) % 8 := ⟨_, rfl⟩
  rw [← hz] at hfl ⊢
  rw [← hx] at hfl ⊢
  have HFL := Lib.hid hfl.2.1
  have hbz := hfl.1
  have hbx := hfl.2.2
  clear hfl ep eq hz hx
  refine (new_any w.heap.size _ 2 [(x, 0), (z, 1)] _ (new_rd (new_block _ _ _ (by simp)) rfl) (by simp) (by simp [maxLen]) (by simp) (by simp; omega) (by simp [hbx, hbz])).mono ?_; rintro e w1 ⟨pp, gp, cp, ps, rfl, hp1, hv1, hb1, -⟩
  have HV1 : Hid (viewP ps = V2 x z 1 []) := hv1
  have HB1 : Hid (Below w.heap.size w w1) := bmore (((Below.refl _ _).alloc (Nat.le_refl _) _).alloc (by simp) _) hb1
  have HI1 : Hid (OInv w w1 pp gp cp ps none 0 []) := ⟨hp1, Own.nil _ _ _ _, by simp [blk], HB1.out⟩
  have HM : Hid (mostV 1 = 4) := rfl
  clear hp1 hv1 hb1 hbz hbx HB1
  go_wp2_with fail
  (
    go_loopw [15, 13] (fun i wt wr => ∃ (k : Nat) (T : List ByteArray) (at_ : Option Addr) (ct : Nat) (ps : List Pt), k ≤ l.length ∧ k ≤ 100 ∧ i = .int .i64 k ∧ wt = .slice at_ T.length ct ∧ T.length ≤ 4 ∧ viewP ps = V2 x z (1) T ∧ OInv w wr pp gp cp ps at_ ct T) (fun i _ _ => 100 - (intOf i).toNat)
    case atStart => exact ⟨0, [], none, 0, ps, by omega, by omega, rfl, rfl, by simp, HV1.out, HI1.out⟩
    case round =>
      clear HI1 HV1
      obtain ⟨k, T, at_, ct, ps2, hk1, hk2, rfl, rfl, hT, hvw, hi⟩ := hrel
      have HI := Lib.hid hi; have HV := Lib.hid hvw
      clear hi hvw
      have hTe := HI.out.t.le
      by_cases g1 : k < l.length
      · by_cases g2 : k < 100
        · obtain ⟨b0, o0, rfl, gs⟩ := str_at HR.out (by omega)
          have GS := Lib.hid gs
          clear gs
          have k0 := GS.out wr HI.out.hb k g1
          have hsx : l[k].size ≤ maxLen := HST.out _ (List.getElem_mem g1)
          obtain ⟨s, hs⟩ : ∃ s, s = l[k] := ⟨_, rfl⟩
          rw [← hs] at k0 hsx
          have HSS := Lib.hid hs
          clear hs
          have hq0 : (0 : Int) ≤ k := by omega
          have hq1 : (k : Int) < (l.length : Int) := by omega
          go_wp2_with fail
          refine (send_any _ _ _ _ _ _ _ _ _ HI.out.p hsx HI.out.hb.size).mono ?_; rintro e w3 ⟨ps3, rfl, hp3, hv3, hb3, hm3, hat3⟩
          have HI3 := Lib.hid (HI.out.act hp3 hb3 hm3 hat3)
          rw [HV.out, send_V2 _ _ _ _ _ HFL.out] at hv3
          clear hp3 hb3 hm3 hat3 HI HV k0
          have k3 := GS.out w3 HI3.out.hb k g1
          rw [← HSS.out] at k3
          have hsz : s.size < 9223372036854775808 := by unfold maxLen at hsx; omega
          by_cases h32 : s.size ≤ 32
          · have d1 : decide ((s.size : Int) ≤ 32) = true := by simp; omega
            by_cases hfu : T.length < 4
            · rw [if_pos ⟨h32, by rw [HM.out]; omega⟩] at hv3
              have HV3 := Lib.hid hv3
              have d2 : decide ((T.length : Int) < 4) = true := by simp; omega
              have hB3 := HI3.out.hb.size
              clear hv3
              go_wp2_with (at_builtin; (refine wpList_own rfl (.tmp 74) (.tmp 79) 32 rfl w.heap.size 9 i0 _ 1 16 Try.underlying32 hi0 hz0 hz1 hz2 rfl (by omega) at_ T.length ct (strF T) rfl (HI3.out.t.below ((Below.refl _ _).alloc (Nat.le_refl _) _)) w3.heap.size [.string s] rfl (new_block _ _ _ rfl) rfl (by simp [Value.oneCell']) (by simp only [maxLen]; omega) (by omega) (by simp; omega) ?_); intro g4 c4 w4 hown4 hmod4 hat4)
              have HI4 : Hid (OInv w w4 pp gp cp ps3 (some ⟨g4, 0, none⟩) c4 (T ++ [s])) :=
                (HI3.out.below ((Below.refl _ _).alloc (Nat.le_refl _) _)).note (by rw [List.length_append, strF_snoc]; exact hown4) hmod4 hat4
              clear hown4 hmod4 hat4 HI3 k3
              go_roundw
              case rel => exact ⟨k + 1, T ++ [s], some ⟨g4, 0, none⟩, c4, ps3, by omega, by omega, by go_num, by rw [List.length_append]; rfl, by rw [List.length_append]; simp; omega, HV3.out, HI4.out⟩
              case measure => simp [intOf]; omega
            · rw [if_neg (fun h => h.2 (by rw [HM.out]; omega))] at hv3
              have HV3 := Lib.hid hv3
              have d2 : decide ((T.length : Int) < 4) = false := by simp; omega
              clear hv3
              go_wp2_with fail
              go_roundw
              case rel => exact ⟨k + 1, T, at_, ct, ps3, by omega, by omega, by go_num, rfl, hT, HV3.out, HI3.out⟩
              case measure => simp [intOf]; omega
          · rw [if_neg (fun h => h32 h.1)] at hv3
            have HV3 := Lib.hid hv3
            have d1 : decide ((s.size : Int) ≤ 32) = false := by simp; omega
            clear hv3
            go_wp2_with fail
            go_roundw
            case rel => exact ⟨k + 1, T, at_, ct, ps3, by omega, by omega, by go_num, rfl, hT, HV3.out, HI3.out⟩
            case measure => simp [intOf]; omega
        · (
        have hTe0 := HI.out.t.le
        go_wp2_with fail
        have HW0 : Hid (OInv w wr pp gp cp ps2 at_ ct T) := HI.out
        have HT4 := Lib.hid hT
        have HG0 : Hid (OInv w wr pp gp cp ps2 none 0 []) := ⟨HI.out.p, Own.nil _ _ _ _, by simp [blk], HI.out.hb⟩
        have HV0 := Lib.hid HV.out
        have hT4 : T.length ≤ 4 := hT
        have hct := HI.out.t.capMax
        clear HI HV hTe0
        go_loopw [17, 16] (fun i gt wz => ∃ (j : Nat) (ga : Option Addr) (gc : Nat) (ps3 : List Pt), j ≤ 10 ∧ i = .int .i64 j ∧ gt = .slice ga (T.take j).length gc ∧ viewP ps3 = V2 x z 1 (T.drop j) ∧ OInv w wz pp gp cp ps3 at_ ct T ∧ OInv w wz pp gp cp ps3 ga gc (T.take j) ∧ Sep ga at_) (fun i _ _ => 10 - (intOf i).toNat)
        case atStart => exact ⟨0, none, 0, ps2, by omega, rfl, rfl, HV0.out, HW0.out, HG0.out, Sep.none_ _⟩
        case round =>
          clear HW0 HG0 HV0
          obtain ⟨j, ga, gc, ps3, hj, rfl, rfl, hv3, hw3, hg3, hsp⟩ := hrel
          have HV3 := Lib.hid hv3; have HW3 := Lib.hid hw3; have HG3 := Lib.hid hg3; have HS3 := Lib.hid hsp
          have hlt := List.length_take_le j T
          clear hv3 hw3 hg3 hsp
          by_cases g5 : j < 10
          · by_cases g6 : j < T.length
            · have hdr := List.drop_eq_getElem_cons g6
              have htk := Lib.hid (List.take_succ_eq_append_getElem g6)
              have hl1 : (T.take j).length ≤ 4 := by omega
              obtain ⟨G, hG⟩ : ∃ G, G = T.take j := ⟨_, rfl⟩
              rw [← hG] at hl1 HG3 htk ⊢
              rw [hdr] at HV3
              have HGG := Lib.hid hG
              clear hdr hG hlt
              obtain ⟨s, hs⟩ : ∃ s, s = T[j] := ⟨_, rfl⟩
              rw [← hs] at HV3 htk
              clear hs
              obtain ⟨D, hD⟩ : ∃ D, D = T.drop (j + 1) := ⟨_, rfl⟩
              rw [← hD] at HV3
              have HD := Lib.hid hD
              clear hD
              have hgl := HG3.out.t.le
              go_wp2_with fail
              refine (take_any _ _ _ _ _ _ _ HW3.out.p HW3.out.hb.size).mono ?_; intro e w4 hp4
              rw [HV3.out, take_V2] at hp4
              obtain ⟨ps4, rfl, hp4, hv4, hb4, hm4, hat4⟩ := hp4
              have HV4 := Lib.hid hv4
              have HW4 := Lib.hid (HW3.out.act hp4 hb4 hm4 hat4)
              have HG4 := Lib.hid (HG3.out.act hp4 hb4 hm4 hat4)
              have hB4 := HW4.out.hb.size
              clear hp4 hv4 hb4 hm4 hat4 HW3 HG3 HV3
              go_wp2_with (at_builtin; (refine wpList_own rfl (.tmp 104) (.tmp 106) 32 rfl w.heap.size 9 i0 _ 1 16 Try.underlying32 hi0 hz0 hz1 hz2 rfl (by omega) ga G.length gc (strF G) rfl (HG4.out.t.below ((Below.refl _ _).alloc (Nat.le_refl _) _)) w4.heap.size [.string s] rfl (new_block _ _ _ rfl) rfl (by simp [Value.oneCell']) (by simp only [maxLen]; omega) (by omega) (by simp; omega) ?_); intro g6 c6 w6 hown6 hmod6 hat6)
              have HGA := Lib.hid (HG4.out.below ((Below.refl _ _).alloc (Nat.le_refl _) (.cells #[.string s] 9)))
              have HWA := Lib.hid (HW4.out.below ((Below.refl _ _).alloc (Nat.le_refl _) (.cells #[.string s] 9)))
              have HG6 : Hid (OInv w w6 pp gp cp ps4 (some ⟨g6, 0, none⟩) c6 (T.take (j + 1))) := by
                rw [Hid, htk.out]
                exact HGA.out.note (by rw [List.length_append, strF_snoc]; exact hown6) hmod6 hat6
              have HW6 := Lib.hid (HWA.out.other HGA.out HS3.out hmod6)
              have HS6 : Hid (Sep (some ⟨g6, 0, none⟩) at_) := fun k hk hk2 => by
                simp only [blk, Option.map_some, Option.toList_some, List.mem_singleton] at hk
                subst hk
                rcases hat6 with h0 | h0
                · exact HS3.out _ h0 hk2
                · have := (HWA.out.t.ge _ hk2).2; omega
              have hl6 : (T.take (j + 1)).length = G.length + 1 := by rw [htk.out]; simp
              clear hown6 hmod6 hat6 HGA HWA HW4 HG4
              go_roundw
              case rel => exact ⟨j + 1, some ⟨g6, 0, none⟩, c6, ps4, by omega, by go_num, by rw [hl6], by rw [HV4.out, HD.out], HW6.out, HG6.out, HS6.out⟩
              case measure => simp [intOf]; omega
            · have hdr : T.drop j = [] := List.drop_eq_nil_of_le (by omega)
              have hdr2 : T.drop (j + 1) = [] := List.drop_eq_nil_of_le (by omega)
              have htk : T.take j = T := List.take_of_length_le (by omega)
              have htk2 : T.take (j + 1) = T := List.take_of_length_le (by omega)
              rw [hdr] at HV3
              rw [htk] at HG3 ⊢
              have HD2 := Lib.hid hdr2; have HK2 := Lib.hid htk2
              clear hdr hdr2 htk htk2 hlt
              go_wp2_with fail
              refine (take_any _ _ _ _ _ _ _ HW3.out.p HW3.out.hb.size).mono ?_; intro e w4 hp4
              rw [HV3.out, take_V2n] at hp4
              obtain ⟨ps4, rfl, hp4, hv4, hb4, hm4, hat4⟩ := hp4
              have HV4 := Lib.hid hv4
              have HW4 := Lib.hid (HW3.out.act hp4 hb4 hm4 hat4)
              have HG4 := Lib.hid (HG3.out.act hp4 hb4 hm4 hat4)
              clear hp4 hv4 hb4 hm4 hat4 HW3 HG3 HV3
              go_wp2_with fail
              go_roundw
              case rel => exact ⟨j + 1, ga, gc, ps4, by omega, by go_num, by rw [HK2.out], by rw [HV4.out, HD2.out], HW4.out, by rw [HK2.out]; exact HG4.out, HS3.out⟩
              case measure => simp [intOf]; omega
          · obtain rfl : j = 10 := by omega
            have hdr : T.drop 10 = [] := List.drop_eq_nil_of_le (by omega)
            have htk : T.take 10 = T := List.take_of_length_le (by omega)
            rw [hdr] at HV3
            rw [htk] at HG3 ⊢
            have h1 := HG3.out.t.le; have h2 := HW3.out.t.le
            clear hdr htk hlt
            go_wp2_with fail
            refine (texts_any _ _ _ _ T _ HG3.out.t.rd HW3.out.t.rd (by omega) h1 h2).mono ?_; rintro e w5 ⟨rfl, hb5⟩
            have HW5 := Lib.hid (HW3.out.below hb5)
            have HWA := Lib.hid (waits_any _ _ _ _ 1 _ _ HW5.out.p)
            rw [HV3.out, show waitsV (V2 x z 1 []) 1 = 0 from rfl] at HWA
            clear hb5 h1 h2
            go_wp2_with fail
            refine HWA.out.mono ?_; rintro e w' ⟨rfl, rfl⟩
            go_wp2_with fail
            refine (out_any _ _ _ _ 1 _ _ HW5.out.p).mono ?_; intro e w6 hp6
            rw [HV3.out, show outV (V2 x z 1 []) 1 = [] from rfl] at hp6
            obtain ⟨a6, c6, rfl, -, hb6⟩ := hp6
            have HB6 := Lib.hid (bmore HW5.out.hb hb6)
            clear hb6
            have hz0 : (([] : List ByteArray).length : Int) = 0 := rfl
            go_wp2_with fail
            refine (awake_any _).mono ?_; rintro e wz2 ⟨rfl, hbz⟩
            go_wp2_with fail
            go_ret
            exact ⟨rfl, bmore HB6.out hbz⟩
          )
      · (
        have hTe0 := HI.out.t.le
        go_wp2_with fail
        have HW0 : Hid (OInv w wr pp gp cp ps2 at_ ct T) := HI.out
        have HT4 := Lib.hid hT
        have HG0 : Hid (OInv w wr pp gp cp ps2 none 0 []) := ⟨HI.out.p, Own.nil _ _ _ _, by simp [blk], HI.out.hb⟩
        have HV0 := Lib.hid HV.out
        have hT4 : T.length ≤ 4 := hT
        have hct := HI.out.t.capMax
        clear HI HV hTe0
        go_loopw [17, 16] (fun i gt wz => ∃ (j : Nat) (ga : Option Addr) (gc : Nat) (ps3 : List Pt), j ≤ 10 ∧ i = .int .i64 j ∧ gt = .slice ga (T.take j).length gc ∧ viewP ps3 = V2 x z 1 (T.drop j) ∧ OInv w wz pp gp cp ps3 at_ ct T ∧ OInv w wz pp gp cp ps3 ga gc (T.take j) ∧ Sep ga at_) (fun i _ _ => 10 - (intOf i).toNat)
        case atStart => exact ⟨0, none, 0, ps2, by omega, rfl, rfl, HV0.out, HW0.out, HG0.out, Sep.none_ _⟩
        case round =>
          clear HW0 HG0 HV0
          obtain ⟨j, ga, gc, ps3, hj, rfl, rfl, hv3, hw3, hg3, hsp⟩ := hrel
          have HV3 := Lib.hid hv3; have HW3 := Lib.hid hw3; have HG3 := Lib.hid hg3; have HS3 := Lib.hid hsp
          have hlt := List.length_take_le j T
          clear hv3 hw3 hg3 hsp
          by_cases g5 : j < 10
          · by_cases g6 : j < T.length
            · have hdr := List.drop_eq_getElem_cons g6
              have htk := Lib.hid (List.take_succ_eq_append_getElem g6)
              have hl1 : (T.take j).length ≤ 4 := by omega
              obtain ⟨G, hG⟩ : ∃ G, G = T.take j := ⟨_, rfl⟩
              rw [← hG] at hl1 HG3 htk ⊢
              rw [hdr] at HV3
              have HGG := Lib.hid hG
              clear hdr hG hlt
              obtain ⟨s, hs⟩ : ∃ s, s = T[j] := ⟨_, rfl⟩
              rw [← hs] at HV3 htk
              clear hs
              obtain ⟨D, hD⟩ : ∃ D, D = T.drop (j + 1) := ⟨_, rfl⟩
              rw [← hD] at HV3
              have HD := Lib.hid hD
              clear hD
              have hgl := HG3.out.t.le
              go_wp2_with fail
              refine (take_any _ _ _ _ _ _ _ HW3.out.p HW3.out.hb.size).mono ?_; intro e w4 hp4
              rw [HV3.out, take_V2] at hp4
              obtain ⟨ps4, rfl, hp4, hv4, hb4, hm4, hat4⟩ := hp4
              have HV4 := Lib.hid hv4
              have HW4 := Lib.hid (HW3.out.act hp4 hb4 hm4 hat4)
              have HG4 := Lib.hid (HG3.out.act hp4 hb4 hm4 hat4)
              have hB4 := HW4.out.hb.size
              clear hp4 hv4 hb4 hm4 hat4 HW3 HG3 HV3
              go_wp2_with (at_builtin; (refine wpList_own rfl (.tmp 104) (.tmp 106) 32 rfl w.heap.size 9 i0 _ 1 16 Try.underlying32 hi0 hz0 hz1 hz2 rfl (by omega) ga G.length gc (strF G) rfl (HG4.out.t.below ((Below.refl _ _).alloc (Nat.le_refl _) _)) w4.heap.size [.string s] rfl (new_block _ _ _ rfl) rfl (by simp [Value.oneCell']) (by simp only [maxLen]; omega) (by omega) (by simp; omega) ?_); intro g6 c6 w6 hown6 hmod6 hat6)
              have HGA := Lib.hid (HG4.out.below ((Below.refl _ _).alloc (Nat.le_refl _) (.cells #[.string s] 9)))
              have HWA := Lib.hid (HW4.out.below ((Below.refl _ _).alloc (Nat.le_refl _) (.cells #[.string s] 9)))
              have HG6 : Hid (OInv w w6 pp gp cp ps4 (some ⟨g6, 0, none⟩) c6 (T.take (j + 1))) := by
                rw [Hid, htk.out]
                exact HGA.out.note (by rw [List.length_append, strF_snoc]; exact hown6) hmod6 hat6
              have HW6 := Lib.hid (HWA.out.other HGA.out HS3.out hmod6)
              have HS6 : Hid (Sep (some ⟨g6, 0, none⟩) at_) := fun k hk hk2 => by
                simp only [blk, Option.map_some, Option.toList_some, List.mem_singleton] at hk
                subst hk
                rcases hat6 with h0 | h0
                · exact HS3.out _ h0 hk2
                · have := (HWA.out.t.ge _ hk2).2; omega
              have hl6 : (T.take (j + 1)).length = G.length + 1 := by rw [htk.out]; simp
              clear hown6 hmod6 hat6 HGA HWA HW4 HG4
              go_roundw
              case rel => exact ⟨j + 1, some ⟨g6, 0, none⟩, c6, ps4, by omega, by go_num, by rw [hl6], by rw [HV4.out, HD.out], HW6.out, HG6.out, HS6.out⟩
              case measure => simp [intOf]; omega
            · have hdr : T.drop j = [] := List.drop_eq_nil_of_le (by omega)
              have hdr2 : T.drop (j + 1) = [] := List.drop_eq_nil_of_le (by omega)
              have htk : T.take j = T := List.take_of_length_le (by omega)
              have htk2 : T.take (j + 1) = T := List.take_of_length_le (by omega)
              rw [hdr] at HV3
              rw [htk] at HG3 ⊢
              have HD2 := Lib.hid hdr2; have HK2 := Lib.hid htk2
              clear hdr hdr2 htk htk2 hlt
              go_wp2_with fail
              refine (take_any _ _ _ _ _ _ _ HW3.out.p HW3.out.hb.size).mono ?_; intro e w4 hp4
              rw [HV3.out, take_V2n] at hp4
              obtain ⟨ps4, rfl, hp4, hv4, hb4, hm4, hat4⟩ := hp4
              have HV4 := Lib.hid hv4
              have HW4 := Lib.hid (HW3.out.act hp4 hb4 hm4 hat4)
              have HG4 := Lib.hid (HG3.out.act hp4 hb4 hm4 hat4)
              clear hp4 hv4 hb4 hm4 hat4 HW3 HG3 HV3
              go_wp2_with fail
              go_roundw
              case rel => exact ⟨j + 1, ga, gc, ps4, by omega, by go_num, by rw [HK2.out], by rw [HV4.out, HD2.out], HW4.out, by rw [HK2.out]; exact HG4.out, HS3.out⟩
              case measure => simp [intOf]; omega
          · obtain rfl : j = 10 := by omega
            have hdr : T.drop 10 = [] := List.drop_eq_nil_of_le (by omega)
            have htk : T.take 10 = T := List.take_of_length_le (by omega)
            rw [hdr] at HV3
            rw [htk] at HG3 ⊢
            have h1 := HG3.out.t.le; have h2 := HW3.out.t.le
            clear hdr htk hlt
            go_wp2_with fail
            refine (texts_any _ _ _ _ T _ HG3.out.t.rd HW3.out.t.rd (by omega) h1 h2).mono ?_; rintro e w5 ⟨rfl, hb5⟩
            have HW5 := Lib.hid (HW3.out.below hb5)
            have HWA := Lib.hid (waits_any _ _ _ _ 1 _ _ HW5.out.p)
            rw [HV3.out, show waitsV (V2 x z 1 []) 1 = 0 from rfl] at HWA
            clear hb5 h1 h2
            go_wp2_with fail
            refine HWA.out.mono ?_; rintro e w' ⟨rfl, rfl⟩
            go_wp2_with fail
            refine (out_any _ _ _ _ 1 _ _ HW5.out.p).mono ?_; intro e w6 hp6
            rw [HV3.out, show outV (V2 x z 1 []) 1 = [] from rfl] at hp6
            obtain ⟨a6, c6, rfl, -, hb6⟩ := hp6
            have HB6 := Lib.hid (bmore HW5.out.hb hb6)
            clear hb6
            have hz0 : (([] : List ByteArray).length : Int) = 0 := rfl
            go_wp2_with fail
            refine (awake_any _).mono ?_; rintro e wz2 ⟨rfl, hbz⟩
            go_wp2_with fail
            go_ret
            exact ⟨rfl, bmore HB6.out hbz⟩
        )
  )
end Go.Proofs.Ytpccllgbccccnaa
