/- The law GatePlays. -/
import Derived.Test.YtnhapfoebiniiaaGate5
import Derived.Test.YtnhapfoebiniiaaRowF
namespace Go.Proofs.Ytnhapfoebiniiaa
open Go.RowKit Go.Sort
set_option maxHeartbeats 400000
set_option maxRecDepth 100000

/-- An act. -/
abbrev Actv := Int × Int × Int × ByteArray
def actC (x : Actv) : List Value := [.int .i64 x.1, .int .i64 x.2.1, .int .i64 x.2.2.1, .string x.2.2.2]
def actF (l : List Actv) : List Value := (l.map actC).flatten
theorem actF_len (l : List Actv) : (actF l).length = l.length * 4 := by
  rw [actF, flatten_len _ (N := 4) (fun r hr => by obtain ⟨x, _, rfl⟩ := List.mem_map.1 hr; rfl)]; simp
theorem actF_get (l : List Actv) (k j : Nat) (hk : k < l.length) (hj : j < 4) : (actF l)[k * 4 + j]? = (actC l[k])[j]? := by
  rw [actF, flatten_get _ k j (fun r hr => by obtain ⟨x, _, rfl⟩ := List.mem_map.1 hr; rfl) (by simpa using hk) hj]; simp
/-- All that a round holds. -/
structure Inv (w W : World) (bg br : Nat) (ag : Option Addr) (cg : Nat) (ar : Option Addr) (cr : Nat) (R : List Rel) (kf : Nat) (ft us cats who quota : Int) : Prop where
  g : GSt W w.heap.size bg ag cg R kf ft us cats who quota
  r : RSt W w.heap.size br ar cr R ft cats who quota
  sep : Sep ag ar
  ne : bg ≠ br
  hb : Below w.heap.size w W
  lg : w.heap.size ≤ bg
  lr : w.heap.size ≤ br
  kfl : kf ≤ R.length
  now : nowR R ft = R.drop kf
  use : us = sumR (nowR R ft)
  usl : us ≤ quota
  fr : ∀ r ∈ R, r.2.2 ≤ ft
  sz : ∀ r ∈ R, r.1.size ≤ 16
namespace Inv
variable {w W W' W1 W2 : World} {bg br : Nat} {ag : Option Addr} {cg : Nat} {ar : Option Addr} {cr : Nat} {R : List Rel} {kf : Nat} {ft us cats who quota : Int}
theorem below (h : Inv w W bg br ag cg ar cr R kf ft us cats who quota) (hb : Below W.heap.size W W') : Inv w W' bg br ag cg ar cr R kf ft us cats who quota :=
  ⟨h.g.below hb, h.r.below hb, h.sep, h.ne, bmore h.hb hb, h.lg, h.lr, h.kfl, h.now, h.use, h.usl, h.fr, h.sz⟩
theorem szm (h : Inv w W bg br ag cg ar cr R kf ft us cats who quota) : ∀ r ∈ R, r.1.size ≤ maxLen := fun r hr => by have := h.sz r hr; unfold maxLen; omega
/-- The frame ends: first the program's, then the reference's. -/
theorem turn (h : Inv w W bg br ag cg ar cr R kf ft us cats who quota) (hq : 0 ≤ quota) (h1 : GSt W1 w.heap.size bg ag cg R R.length (ft + 1) 0 cats who quota) (hu1 : Upd bg W W1) (h2 : RSt W2 w.heap.size br ar cr R (ft + 1) cats who quota) (hu2 : Upd br W1 W2) : Inv w W2 bg br ag cg ar cr R R.length (ft + 1) 0 cats who quota := by
  have e : nowR R (ft + 1) = [] := by
    rw [nowR, List.filter_eq_nil_iff]
    intro r hr
    have := h.fr r hr
    simp; omega
  have hr1 : RSt W1 w.heap.size br ar cr R ft cats who quota := ⟨h.r.obj.upd hu1 (Ne.symm h.ne), h.r.own.upd hu1 (h.r.own.ne h.g.obj (by decide))⟩
  exact ⟨⟨h1.obj.upd hu2 h.ne, h1.own.upd hu2 (h1.own.ne hr1.obj (by decide))⟩, h2, h.sep, h.ne, bupd (bupd h.hb hu1 h.lg) hu2 h.lr, h.lg, h.lr, Nat.le_refl _, by rw [e]; simp, by rw [e]; rfl, hq, fun r hr => by have := h.fr r hr; omega, h.sz⟩
theorem rest (h : Inv w W bg br ag cg ar cr R kf ft us cats who quota) (hu1 : Upd bg W W1) : RSt W1 w.heap.size br ar cr R ft cats who quota := ⟨h.r.obj.upd hu1 (Ne.symm h.ne), h.r.own.upd hu1 (h.r.own.ne h.g.obj (by decide))⟩
/-- The reference behind the program's Release. -/
theorem restR (h : Inv w W bg br ag cg ar cr R kf ft us cats who quota) (hm : Mod (bg :: blk ag) W W1) : RSt W1 w.heap.size br ar cr R ft cats who quota :=
  h.r.mod hm (by
    simp only [List.mem_cons, not_or]
    exact ⟨Ne.symm h.ne, h.g.own.ne h.r.obj (by decide)⟩) (fun x hx => by
    simp only [List.mem_cons, not_or]
    exact ⟨fun e => h.r.own.ne h.g.obj (by decide) (e ▸ hx), fun hm => h.sep x hm hx⟩)
theorem rel (h : Inv w W bg br ag cg ar cr R kf ft us cats who quota) {g1 c1 g2 c2 : Nat} {l : Int} {s : ByteArray} (hs : s.size ≤ 16) (hq : us + s.size ≤ quota)
    (h1 : GSt W1 w.heap.size bg (some ⟨g1, 0, none⟩) c1 (R ++ [(s, l, ft)]) kf ft (us + s.size) cats who quota) (hm1 : Mod (bg :: blk ag) W W1) (hat1 : g1 ∈ blk ag ∨ W.heap.size ≤ g1)
    (h2 : RSt W2 w.heap.size br (some ⟨g2, 0, none⟩) c2 (R ++ [(s, l, ft)]) ft cats who quota) (hm2 : Mod (br :: blk ar) W1 W2) (hat2 : g2 ∈ blk ar ∨ W1.heap.size ≤ g2) :
    Inv w W2 bg br (some ⟨g1, 0, none⟩) c1 (some ⟨g2, 0, none⟩) c2 (R ++ [(s, l, ft)]) kf ft (us + s.size) cats who quota := by
  have hr1 := h.restR hm1
  have hsp : Sep (some ⟨g1, 0, none⟩) ar := fun x hx hxr => by
    simp only [blk, Option.map_some, Option.toList_some, List.mem_singleton] at hx
    subst hx
    rcases hat1 with h0 | h0
    · exact h.sep _ h0 hxr
    · have := (h.r.own.ge _ hxr).2; omega
  have hg1 : g1 < W1.heap.size := (h1.own.ge g1 (by simp [blk])).2
  have hg1' : g1 ∉ br :: blk ar := by
    simp only [List.mem_cons, not_or]
    exact ⟨fun e => h1.own.ne hr1.obj (by decide) (by rw [← e]; simp [blk]), fun hm => hsp g1 (by simp [blk]) hm⟩
  have hbg : bg ∉ br :: blk ar := by
    simp only [List.mem_cons, not_or]
    exact ⟨h.ne, hr1.own.ne h1.obj (by decide)⟩
  refine ⟨h1.mod hm2 hbg (fun x hx => by simp only [blk, Option.map_some, Option.toList_some, List.mem_singleton] at hx; subst hx; exact hg1'), h2, fun x hx hx2 => ?_, h.ne, ?_, h.lg, h.lr, by rw [List.length_append]; have := h.kfl; omega, ?_, ?_, hq, ?_, ?_⟩
  · simp only [blk, Option.map_some, Option.toList_some, List.mem_singleton] at hx hx2
    rcases hat2 with h0 | h0
    · exact hsp x (by simp [blk, hx]) (by rw [hx2]; exact h0)
    · omega
  · have hb1 : Below w.heap.size W W1 := hm1.below (fun k hk => by
      simp only [List.mem_cons] at hk
      rcases hk with rfl | hk
      · exact h.lg
      · exact (h.g.own.ge k hk).1) h.hb.size
    have hb2 : Below w.heap.size W1 W2 := hm2.below (fun k hk => by
      simp only [List.mem_cons] at hk
      rcases hk with rfl | hk
      · exact h.lr
      · exact (hr1.own.ge k hk).1) (Nat.le_trans h.hb.size hm1.size)
    exact (h.hb.trans hb1).trans hb2
  · rw [nowR, List.filter_append, List.drop_append_of_le_length h.kfl]
    have := h.now
    rw [nowR] at this
    rw [this]
    simp
  · rw [nowR, List.filter_append]
    have e : List.filter (fun r : Rel => r.2.2 == ft) [(s, l, ft)] = [(s, l, ft)] := by simp
    rw [e, sumR_snoc]
    have := h.use
    rw [nowR] at this
    rw [this]; simp
  · intro r hr
    simp only [List.mem_append, List.mem_singleton] at hr
    rcases hr with hr | rfl
    · exact h.fr r hr
    · exact Int.le_refl _
  · intro r hr
    simp only [List.mem_append, List.mem_singleton] at hr
    rcases hr with hr | rfl
    · exact h.sz r hr
    · exact hs
end Inv
set_option maxHeartbeats 3000000 in
theorem plays_walk (cats who quota : Int) (a : Option Addr) (c : Nat) (acts : List Actv) (w : World) (hr : Rd w 4 a acts.length (actF acts)) (hle : acts.length ≤ c) (hc : c ≤ maxLen) (hst : ∀ x ∈ acts, x.2.2.2.size ≤ maxLen) :
    Calls Try.prog 3 #[.int .i64 cats, .int .i64 who, .int .i64 quota, .slice a acts.length c] w fun e w' => e = .returned (.bool true) ∧ Below w.heap.size w w' := by
  unfold maxLen at hc
  have HR := Lib.hid hr; have HST := Lib.hid hst
  clear hr hst
  by_cases hok : okG cats who quota
  · have hq0 : 0 ≤ quota := hok.2.2.2.2.1
    have hq1 : quota ≤ 64 := hok.2.2.2.2.2
    go_enter Try.func3, Try.ntmps3
    go_wp2_with fail
    refine (gnew_yes w.heap.size cats who quota hok w).mono ?_; rintro e w1 ⟨rfl, hg1, hb1⟩
    go_wp2_with fail
    refine (rnew_yes w.heap.size cats who quota hok w1).mono ?_; rintro e w2 ⟨rfl, hr2, hb2⟩
    have HI0 : Hid (Inv w w2 w.heap.size w1.heap.size none 0 none 0 [] 0 0 0 cats who quota) :=
      ⟨hg1.below hb2, hr2, Sep.none_ _, by have := hg1.obj.lt; omega, bmore hb1 hb2, Nat.le_refl _, hb1.size, Nat.le_refl _, rfl, rfl, hq0, by simp, by simp⟩
    generalize w1.heap.size = br at HI0 ⊢
    generalize hbg : w.heap.size = bg at HI0 ⊢
    clear hg1 hb1 hr2 hb2 hok hbg
    go_wp2_with fail
    go_loopw [13] (fun i wr => ∃ (k : Nat) (ag : Option Addr) (cg : Nat) (ar : Option Addr) (cr : Nat) (R : List Rel) (kf : Nat) (ft us : Int), k ≤ acts.length ∧ k ≤ 60 ∧ i = .int .i64 k ∧ R.length ≤ k ∧ 0 ≤ ft ∧ ft ≤ k ∧ Inv w wr bg br ag cg ar cr R kf ft us cats who quota) (fun i _ => 60 - (intOf i).toNat)
    case atStart => exact ⟨0, none, 0, none, 0, [], 0, 0, 0, by omega, by omega, rfl, by simp, by omega, by omega, HI0.out⟩
    case round =>
      clear HI0
      obtain ⟨k, ag, cg, ar, cr, R, kf, ft, us, hk1, hk2, rfl, hRk, hf0, hfk, hi⟩ := hrel
      have HI := Lib.hid hi
      clear hi
      by_cases g1 : k < acts.length
      · by_cases g2 : k < 60
        · obtain ⟨x, hx⟩ : ∃ x, x = acts[k] := ⟨_, rfl⟩
          have hrd := HR.out.below HI.out.hb
          have hne : actF acts ≠ [] := by intro h0; have := actF_len acts; rw [h0] at this; simp at this; omega
          have ha : a ≠ none := fun h0 => by have := HR.out.2.1 h0; omega
          obtain ⟨p, rfl⟩ := Option.ne_none_iff_exists'.1 ha
          obtain ⟨b0, o0, rfl, _, gc⟩ := hrd.2.2 p rfl hne
          have k0 := gc (k * 4) (.int .i64 x.1) (by have := actF_get acts k 0 g1 (by omega); rw [← hx] at this; simpa [actC] using this)
          have k1 := gc (k * 4 + 1) (.int .i64 x.2.1) (by have := actF_get acts k 1 g1 (by omega); rw [← hx] at this; simpa [actC] using this)
          have k2 := gc (k * 4 + 2) (.int .i64 x.2.2.1) (by have := actF_get acts k 2 g1 (by omega); rw [← hx] at this; simpa [actC] using this)
          have k3 := gc (k * 4 + 3) (.string x.2.2.2) (by have := actF_get acts k 3 g1 (by omega); rw [← hx] at this; simpa [actC] using this)
          have hsx : x.2.2.2.size ≤ maxLen := HST.out x (by rw [hx]; exact List.getElem_mem g1)
          simp only [← Nat.add_assoc] at k1 k2 k3
          clear hx gc hne hrd ha
          obtain ⟨kk, xw, xl, xs⟩ := x
          have hb0 : (0 : Int) ≤ k := by omega
          have hb1 : (k : Int) < (acts.length : Int) := by omega
          obtain ⟨W1, hW1⟩ : ∃ W, W = wr.alloc (.cells #[.int .i64 kk, .int .i64 xw, .int .i64 xl, .string xs] 32) := ⟨_, rfl⟩
          have HW1 := Lib.hid hW1
          have HA : Hid (ObjAt W1 wr.heap.size 32 [.int .i64 kk, .int .i64 xw, .int .i64 xl, .string xs]) := by rw [Hid, hW1]; exact new_block _ _ _ rfl
          have HI1 : Hid (Inv w W1 bg br ag cg ar cr R kf ft us cats who quota) := by rw [Hid, hW1]; exact HI.out.below ((Below.refl _ _).alloc (Nat.le_refl _) _)
          clear hW1
          by_cases e0 : kk = 0
          · subst e0
            go_wp2_with fail
            rw [← HW1.out]
            clear k0 k1 k2 k3
            refine (turn_any _ _ _ _ _ _ _ _ _ _ _ _ HI1.out.g (by omega) HI1.out.kfl (by omega) (by omega)).mono ?_; rintro e w3 ⟨a3, c3, rfl, hown3, hg3, hu3⟩
            have hr3 := HI1.out.rest hu3
            obtain ⟨T, hT⟩ : ∃ T, T = R.drop kf := ⟨_, rfl⟩
            have hTl : R.length - kf = T.length := by rw [hT, List.length_drop]
            have hTm : T.length ≤ 1000 := by omega
            have HT := Lib.hid (HI1.out.now.trans hT.symm)
            rw [hTl, ← hT] at hown3
            rw [hTl]
            clear hT hTl
            go_wp2_with fail
            refine (rturn_any _ _ _ _ _ _ _ _ _ _ hr3 (by omega) (by omega) (by omega)).mono ?_; rintro e w4 ⟨a4, c4, rfl, hown4, hr4, hu4⟩
            have HI4 := Lib.hid (HI1.out.turn hq0 hg3 hu3 hr4 hu4)
            rw [HT.out] at hown4 ⊢
            have hown3' := hown3.upd hu4 (hown3.ne hr3.obj (by decide))
            clear hg3 hu3 hr4 hu4 hr3 hown3
            go_wp2_with fail
            refine (same_any _ _ _ _ T _ hown3'.rd hown4.rd (by omega) hown3'.le hown4.le).mono ?_; rintro e W2 ⟨rfl, hb5⟩
            obtain ⟨ag2, cg2, ar2, cr2, R2, kf2, ft2, us2, hR2, hf20, hf2k, hi2⟩ : ∃ ag2 cg2 ar2 cr2 R2 kf2 ft2 us2, R2.length ≤ k + 1 ∧ (0 : Int) ≤ ft2 ∧ ft2 ≤ (k : Int) + 1 ∧ Inv w W2 bg br ag2 cg2 ar2 cr2 R2 kf2 ft2 us2 cats who quota := ⟨_, _, _, _, _, _, _, _, by omega, by omega, by omega, HI4.out.below hb5⟩
            have HI2 := Lib.hid hi2
            clear hi2 hown3' hown4 hb5 HI4 HI1 HA HW1 HI
            (
            have hszs := Lib.hid HI2.out.szm
            have hsum : sumR (nowR R2 ft2) ≤ 100000 := by have := HI2.out.use; have := HI2.out.usl; omega
            have nn : (us2 != (sumR (nowR R2 ft2) : Int)) = false := by have := HI2.out.use; rw [← this]; simp
            have nf : (ft2 != ft2) = false := by simp
            have q3 := HI2.out.r.obj.cell 3 _ rfl; have q4 := HI2.out.r.obj.cell 4 _ rfl
            go_wp2_with fail
            go_region_held3 (fun w' => w'.cell? ⟨br, 3, none⟩ = some (.slice ar2 R2.length cr2) ∧ w'.cell? ⟨br, 4, none⟩ = some (.int .i64 ft2)) (first | (exact ⟨q3, q4⟩) | (exact ⟨HI6.out.r.obj.cell 3 _ rfl, HI6.out.r.obj.cell 4 _ rfl⟩) | (exact ⟨HI5.out.r.obj.cell 3 _ rfl, HI5.out.r.obj.cell 4 _ rfl⟩) | (exact ⟨HI4.out.r.obj.cell 3 _ rfl, HI4.out.r.obj.cell 4 _ rfl⟩)) (first | (go_at_call 16; refine (log_any _ _ _ _ _ _ _ _ _ _ _ _ (show GSt (W2).drew w.heap.size bg ag2 cg2 R2 kf2 ft2 us2 cats who quota from ⟨HI2.out.g.obj, HI2.out.g.own⟩) (by omega)).mono ?_; rintro e w4 ⟨a4, c4, rfl, hown4, hb4⟩; have HI4 := Lib.hid (HI2.out.below (bmore (Below.refl _ _).drew hb4))) | (go_at_call 11; refine (same_any _ _ _ _ R2 _ hown4.rd HI4.out.r.own.rd (by omega) hown4.le HI4.out.r.own.le).mono ?_; rintro e w5 ⟨rfl, hb5⟩; have HI5 := Lib.hid (HI4.out.below hb5)) | (go_at_call 17; refine (used_any _ _ _ _ _ _ _ _ _ _ _ HI5.out.g.obj).mono ?_; rintro e w' ⟨rfl, rfl⟩) | (go_at_call 18; refine (rused_any _ _ _ _ _ _ _ _ _ _ HI5.out.r (by omega) hsum hszs.out).mono ?_; rintro e w6 ⟨rfl, hb6⟩; have HI6 := Lib.hid (HI5.out.below hb6)) | (go_at_call 19; refine (frame_any _ _ _ _ _ _ _ _ _ _ _ HI6.out.g.obj).mono ?_; rintro e w' ⟨rfl, rfl⟩))
            clear q3 q4 nn nf hsum hszs
            go_wp2
            go_roundw
            case rel => exact ⟨k + 1, ag2, cg2, ar2, cr2, R2, kf2, ft2, us2, by omega, by omega, by go_num, hR2, hf20, by omega, HI6.out⟩
            case measure => simp [intOf]; omega
            )
          · have t0 : (kk == 0) = false := by simpa using e0
            clear e0
            have A1 := HA.out.cell 1 _ rfl; have A2 := HA.out.cell 2 _ rfl; have A3 := HA.out.cell 3 _ rfl
            by_cases hm : mayV cats who quota us xw xl xs.size = 0
            · have hmz := mayV_zero hm
              have HM := Lib.hid hm
              have hrl := HI1.out.use
              have HUS := Lib.hid hrl
              have HSZ := Lib.hid HI1.out.szm
              have hul := HI1.out.usl
              have hu0 : 0 ≤ us := by omega
              obtain ⟨-, -, -, hm4, hm5, hm6⟩ := hmz
              clear hm hrl
              go_wp2_with fail
              rw [← HW1.out]
              clear k0 k1 k2 k3
              go_region_held3 (fun w' => w'.cell? ⟨wr.heap.size, 1, none⟩ = some (.int .i64 xw) ∧ w'.cell? ⟨wr.heap.size, 2, none⟩ = some (.int .i64 xl) ∧ w'.cell? ⟨wr.heap.size, 3, none⟩ = some (.string xs)) (first | (exact ⟨A1, A2, A3⟩) | (exact ⟨HA4.out.cell 1 _ rfl, HA4.out.cell 2 _ rfl, HA4.out.cell 3 _ rfl⟩) | (exact ⟨HA3.out.cell 1 _ rfl, HA3.out.cell 2 _ rfl, HA3.out.cell 3 _ rfl⟩)) (first | (go_at_call 14; refine (release_yes _ _ _ _ _ _ _ _ _ _ _ _ _ _ _ (show GSt W1.drew w.heap.size bg ag cg R kf ft us cats who quota from ⟨HI1.out.g.obj, HI1.out.g.own⟩) hq0 hq1 hu0 (by omega) hsx HM.out (by omega) HI1.out.hb.size).mono ?_; rintro e w3 ⟨g3, c3, rfl, hg3, hm3, hat3⟩; have HM3 : Hid (Mod (bg :: blk ag) W1 w3) := ((Mod.refl _ _).drew).trans hm3; have HR3 := Lib.hid (HI1.out.restR HM3.out); have HA3 := Lib.hid (HA.out.mod HM3.out (by simp only [List.mem_cons, not_or]; exact ⟨HA.out.ne HI1.out.g.obj (by decide), HI1.out.g.own.ne HA.out (by decide)⟩)); have HG3 := Lib.hid hg3; have HAT3 : Hid (g3 ∈ blk ag ∨ W1.heap.size ≤ g3) := hat3; clear hg3 hm3 hat3) | (go_at_call 15; refine (rrelease_yes _ _ _ _ _ _ _ _ _ _ _ _ _ _ HR3.out HUS.out (by omega) HSZ.out hq0 hq1 (by omega) HM.out (Nat.le_trans HI1.out.hb.size HM3.out.size)).mono ?_; rintro e w4 ⟨g4, c4, rfl, hg4, hm4', hat4⟩; have HA4 := Lib.hid (HA3.out.mod hm4' (by simp only [List.mem_cons, not_or]; exact ⟨HA3.out.ne HR3.out.obj (by decide), HR3.out.own.ne HA3.out (by decide)⟩)); have HI4 := Lib.hid (HI1.out.rel (by omega) (by omega) HG3.out HM3.out HAT3.out hg4 hm4' hat4); clear hg4 hm4' hat4))
              obtain ⟨ag2, cg2, ar2, cr2, R2, kf2, ft2, us2, hR2, hf20, hf2k, hi2⟩ : ∃ ag2 cg2 ar2 cr2 R2 kf2 ft2 us2, R2.length ≤ k + 1 ∧ (0 : Int) ≤ ft2 ∧ ft2 ≤ (k : Int) + 1 ∧ Inv w w4 bg br ag2 cg2 ar2 cr2 R2 kf2 ft2 us2 cats who quota := ⟨_, _, _, _, _, _, _, _, by rw [List.length_append]; simp; omega, by omega, by omega, HI4.out⟩
              have HI2 := Lib.hid hi2
              clear hi2 HI4 HI1 HA HW1 HI A1 A2 A3 HM HUS HSZ HA3 HA4 HR3 HG3 HAT3 HM3
              (
            have hszs := Lib.hid HI2.out.szm
            have hsum : sumR (nowR R2 ft2) ≤ 100000 := by have := HI2.out.use; have := HI2.out.usl; omega
            have nn : (us2 != (sumR (nowR R2 ft2) : Int)) = false := by have := HI2.out.use; rw [← this]; simp
            have nf : (ft2 != ft2) = false := by simp
            have q3 := HI2.out.r.obj.cell 3 _ rfl; have q4 := HI2.out.r.obj.cell 4 _ rfl
            go_wp2_with fail
            go_region_held3 (fun w' => w'.cell? ⟨br, 3, none⟩ = some (.slice ar2 R2.length cr2) ∧ w'.cell? ⟨br, 4, none⟩ = some (.int .i64 ft2)) (first | (exact ⟨q3, q4⟩) | (exact ⟨HI6.out.r.obj.cell 3 _ rfl, HI6.out.r.obj.cell 4 _ rfl⟩) | (exact ⟨HI5.out.r.obj.cell 3 _ rfl, HI5.out.r.obj.cell 4 _ rfl⟩) | (exact ⟨HI4.out.r.obj.cell 3 _ rfl, HI4.out.r.obj.cell 4 _ rfl⟩)) (first | (go_at_call 16; refine (log_any _ _ _ _ _ _ _ _ _ _ _ _ (show GSt (w4).drew w.heap.size bg ag2 cg2 R2 kf2 ft2 us2 cats who quota from ⟨HI2.out.g.obj, HI2.out.g.own⟩) (by omega)).mono ?_; rintro e w4 ⟨a4, c4, rfl, hown4, hb4⟩; have HI4 := Lib.hid (HI2.out.below (bmore (Below.refl _ _).drew hb4))) | (go_at_call 11; refine (same_any _ _ _ _ R2 _ hown4.rd HI4.out.r.own.rd (by omega) hown4.le HI4.out.r.own.le).mono ?_; rintro e w5 ⟨rfl, hb5⟩; have HI5 := Lib.hid (HI4.out.below hb5)) | (go_at_call 17; refine (used_any _ _ _ _ _ _ _ _ _ _ _ HI5.out.g.obj).mono ?_; rintro e w' ⟨rfl, rfl⟩) | (go_at_call 18; refine (rused_any _ _ _ _ _ _ _ _ _ _ HI5.out.r (by omega) hsum hszs.out).mono ?_; rintro e w6 ⟨rfl, hb6⟩; have HI6 := Lib.hid (HI5.out.below hb6)) | (go_at_call 19; refine (frame_any _ _ _ _ _ _ _ _ _ _ _ HI6.out.g.obj).mono ?_; rintro e w' ⟨rfl, rfl⟩))
            clear q3 q4 nn nf hsum hszs
            go_wp2
            go_roundw
            case rel => exact ⟨k + 1, ag2, cg2, ar2, cr2, R2, kf2, ft2, us2, by omega, by omega, by go_num, hR2, hf20, by omega, HI6.out⟩
            case measure => simp [intOf]; omega
              )
            · have HM := Lib.hid hm
              have HUS := Lib.hid HI1.out.use
              have HSZ := Lib.hid HI1.out.szm
              have hul := HI1.out.usl
              have hu0 : 0 ≤ us := by have := HI1.out.use; omega
              have hmm : (mayV cats who quota us xw xl xs.size != mayV cats who quota us xw xl xs.size) = false := by simp
              clear hm
              go_wp2_with fail
              rw [← HW1.out]
              clear k0 k1 k2 k3
              go_region_held3 (fun w' => w'.cell? ⟨wr.heap.size, 1, none⟩ = some (.int .i64 xw) ∧ w'.cell? ⟨wr.heap.size, 2, none⟩ = some (.int .i64 xl) ∧ w'.cell? ⟨wr.heap.size, 3, none⟩ = some (.string xs)) (first | (exact ⟨A1, A2, A3⟩) | (exact ⟨HA4.out.cell 1 _ rfl, HA4.out.cell 2 _ rfl, HA4.out.cell 3 _ rfl⟩) | (exact ⟨HA3.out.cell 1 _ rfl, HA3.out.cell 2 _ rfl, HA3.out.cell 3 _ rfl⟩)) (first | (go_at_call 14; refine (release_no _ _ _ _ _ _ _ _ _ _ _ _ _ _ _ (show GSt W1.drew w.heap.size bg ag cg R kf ft us cats who quota from ⟨HI1.out.g.obj, HI1.out.g.own⟩) hq0 hq1 hu0 (by omega) hsx HM.out).mono ?_; rintro e w3 ⟨rfl, hb3⟩; have HB3 : Hid (Below W1.heap.size W1 w3) := bmore (Below.refl _ _).drew hb3; have HI3 := Lib.hid (HI1.out.below HB3.out); have HA3 := Lib.hid (HA.out.below HB3.out); clear hb3) | (go_at_call 15; refine (rrelease_no _ _ _ _ _ _ _ _ _ _ _ _ _ _ HI3.out.r HUS.out (by omega) HSZ.out hq0 hq1 (by omega) hsx HM.out).mono ?_; rintro e w4 ⟨rfl, hb4⟩; have HA4 := Lib.hid (HA3.out.below hb4); have HI4 := Lib.hid (HI3.out.below hb4); clear hb4))
              obtain ⟨ag2, cg2, ar2, cr2, R2, kf2, ft2, us2, hR2, hf20, hf2k, hi2⟩ : ∃ ag2 cg2 ar2 cr2 R2 kf2 ft2 us2, R2.length ≤ k + 1 ∧ (0 : Int) ≤ ft2 ∧ ft2 ≤ (k : Int) + 1 ∧ Inv w w4 bg br ag2 cg2 ar2 cr2 R2 kf2 ft2 us2 cats who quota := ⟨_, _, _, _, _, _, _, _, by omega, by omega, by omega, HI4.out⟩
              have HI2 := Lib.hid hi2
              clear hi2 HI4 HI1 HA HW1 HI A1 A2 A3 HM HUS HSZ HA3 HA4 HB3 HI3
              (
            have hszs := Lib.hid HI2.out.szm
            have hsum : sumR (nowR R2 ft2) ≤ 100000 := by have := HI2.out.use; have := HI2.out.usl; omega
            have nn : (us2 != (sumR (nowR R2 ft2) : Int)) = false := by have := HI2.out.use; rw [← this]; simp
            have nf : (ft2 != ft2) = false := by simp
            have q3 := HI2.out.r.obj.cell 3 _ rfl; have q4 := HI2.out.r.obj.cell 4 _ rfl
            go_wp2_with fail
            go_region_held3 (fun w' => w'.cell? ⟨br, 3, none⟩ = some (.slice ar2 R2.length cr2) ∧ w'.cell? ⟨br, 4, none⟩ = some (.int .i64 ft2)) (first | (exact ⟨q3, q4⟩) | (exact ⟨HI6.out.r.obj.cell 3 _ rfl, HI6.out.r.obj.cell 4 _ rfl⟩) | (exact ⟨HI5.out.r.obj.cell 3 _ rfl, HI5.out.r.obj.cell 4 _ rfl⟩) | (exact ⟨HI4.out.r.obj.cell 3 _ rfl, HI4.out.r.obj.cell 4 _ rfl⟩)) (first | (go_at_call 16; refine (log_any _ _ _ _ _ _ _ _ _ _ _ _ (show GSt (w4).drew w.heap.size bg ag2 cg2 R2 kf2 ft2 us2 cats who quota from ⟨HI2.out.g.obj, HI2.out.g.own⟩) (by omega)).mono ?_; rintro e w4 ⟨a4, c4, rfl, hown4, hb4⟩; have HI4 := Lib.hid (HI2.out.below (bmore (Below.refl _ _).drew hb4))) | (go_at_call 11; refine (same_any _ _ _ _ R2 _ hown4.rd HI4.out.r.own.rd (by omega) hown4.le HI4.out.r.own.le).mono ?_; rintro e w5 ⟨rfl, hb5⟩; have HI5 := Lib.hid (HI4.out.below hb5)) | (go_at_call 17; refine (used_any _ _ _ _ _ _ _ _ _ _ _ HI5.out.g.obj).mono ?_; rintro e w' ⟨rfl, rfl⟩) | (go_at_call 18; refine (rused_any _ _ _ _ _ _ _ _ _ _ HI5.out.r (by omega) hsum hszs.out).mono ?_; rintro e w6 ⟨rfl, hb6⟩; have HI6 := Lib.hid (HI5.out.below hb6)) | (go_at_call 19; refine (frame_any _ _ _ _ _ _ _ _ _ _ _ HI6.out.g.obj).mono ?_; rintro e w' ⟨rfl, rfl⟩))
            clear q3 q4 nn nf hsum hszs
            go_wp2
            go_roundw
            case rel => exact ⟨k + 1, ag2, cg2, ar2, cr2, R2, kf2, ft2, us2, by omega, by omega, by go_num, hR2, hf20, by omega, HI6.out⟩
            case measure => simp [intOf]; omega
              )
        · (go_wp2_with fail; refine (awake_any _).mono ?_; rintro e wz ⟨rfl, hbz⟩; go_wp2_with fail; go_ret; exact ⟨rfl, bmore HI.out.hb hbz⟩)
      · (go_wp2_with fail; refine (awake_any _).mono ?_; rintro e wz ⟨rfl, hbz⟩; go_wp2_with fail; go_ret; exact ⟨rfl, bmore HI.out.hb hbz⟩)
  · go_enter Try.func3, Try.ntmps3
    go_wp2_with fail
    refine (gnew_no cats who quota hok w).mono ?_; rintro e w' ⟨rfl, rfl⟩
    go_wp2_with fail
    refine (rnew_no cats who quota hok w).mono ?_; rintro e w' ⟨rfl, rfl⟩
    go_wp2_with fail
    refine (awake_any _).mono ?_; rintro e wz ⟨rfl, hbz⟩
    go_wp2_with fail
    go_ret
    exact ⟨rfl, hbz⟩
end Go.Proofs.Ytnhapfoebiniiaa
