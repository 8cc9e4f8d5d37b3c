/- The law GateQuota: what holds over the rounds, the frames' sums, and the walk. -/
import Derived.Test.YtnhapfoebiniiaaGateWho
import Derived.Test.YtnhapfoebiniiaaMore
namespace Go.Proofs.Ytnhapfoebiniiaa
open Go.RowKit Go.Sort
set_option maxHeartbeats 400000
set_option maxRecDepth 100000

theorem relF_app (x y : List Rel) : relF (x ++ y) = relF x ++ relF y := by simp [relF]
theorem sumR_app (x y : List Rel) : sumR (x ++ y) = sumR x + sumR y := by
  induction x with
  | nil => simp [sumR]
  | cons r x ih => simp only [List.cons_append, sumR, ih]; omega
theorem sum_now_le (R : List Rel) (f : Int) (k : Nat) : sumR (nowR (R.take k) f) ≤ sumR (nowR R f) := by
  have h : nowR R f = nowR (R.take k) f ++ nowR (R.drop k) f := by rw [nowR, nowR, nowR, ← List.filter_append, List.take_append_drop]
  rw [h, sumR_app]; omega
theorem sum_now_yes (R : List Rel) (f : Int) (k : Nat) (hk : k < R.length) (h : R[k].2.2 = f) : sumR (nowR (R.take (k + 1)) f) = sumR (nowR (R.take k) f) + R[k].1.size := by
  rw [now_yes R f k hk h, sumR_snoc]
structure QInv (w W : World) (bg : Nat) (ag : Option Addr) (cg : Nat) (at_ : Option Addr) (ct : Nat) (R : List Rel) (kf : Nat) (ft us who q : Int) : Prop where
  g : GSt W w.heap.size bg ag cg R kf ft us 2 who q
  t : Own W w.heap.size 43 3 at_ kf ct (relF (R.take kf))
  sep : Sep ag at_
  hb : Below w.heap.size w W
  lg : w.heap.size ≤ bg
  kfl : kf ≤ R.length
  use : us = sumR (nowR R ft)
  usl : us ≤ q
  fr : ∀ r ∈ R, r.2.2 ≤ ft
  sz : ∀ r ∈ R, 1 ≤ r.1.size ∧ r.1.size ≤ 16
  quo : ∀ f, (sumR (nowR R f) : Int) ≤ q
  mono : R.Pairwise (fun x y => x.2.2 ≤ y.2.2)
namespace QInv
variable {w W W1 W2 : World} {bg cg ct kf : Nat} {ag at_ : Option Addr} {R : List Rel} {ft us who q : Int}
theorem below (h : QInv w W bg ag cg at_ ct R kf ft us who q) (hb : Below W.heap.size W W1) : QInv w W1 bg ag cg at_ ct R kf ft us who q :=
  ⟨h.g.below hb, h.t.below hb, h.sep, bmore h.hb hb, h.lg, h.kfl, h.use, h.usl, h.fr, h.sz, h.quo, h.mono⟩
theorem none_now (h : QInv w W bg ag cg at_ ct R kf ft us who q) : nowR R (ft + 1) = [] := by
  rw [nowR, List.filter_eq_nil_iff]
  intro r hr
  have := h.fr r hr
  simp; omega
/-- Behind Turn and the append onto what was told. -/
theorem turn (h : QInv w W bg ag cg at_ ct R kf ft us who q) (hq : 0 ≤ q) (h1 : GSt W1 w.heap.size bg ag cg R R.length (ft + 1) 0 2 who q) (hu : Upd bg W W1) {a2 : Option Addr} {c2 : Nat}
    (ht : Own W2 w.heap.size 43 3 a2 (kf + (R.length - kf)) c2 (relF (R.take kf) ++ relF (R.drop kf))) (hm : Mod (blk at_) W1 W2) (hat : ∀ k ∈ blk a2, k ∈ blk at_ ∨ W1.heap.size ≤ k) : QInv w W2 bg ag cg a2 c2 R R.length (ft + 1) 0 who q := by
  have ht1 := h.t.upd hu (h.t.ne h.g.obj (by decide))
  have hk := h.kfl
  rw [← relF_app, List.take_append_drop, show kf + (R.length - kf) = R.length from by omega] at ht
  refine ⟨h1.mod hm (ht1.ne h1.obj (by decide)) (fun x hx hx2 => h.sep x hx hx2), by rw [List.take_length]; exact ht, fun x hx hx2 => ?_, ?_, h.lg, Nat.le_refl _, by rw [h.none_now]; rfl, hq, fun r hr => by have := h.fr r hr; omega, h.sz, h.quo, h.mono⟩
  · rcases hat x hx2 with h0 | h0
    · exact h.sep x hx h0
    · have := (h1.own.ge x hx).2; omega
  · exact (bupd h.hb hu h.lg).trans (hm.below (fun k hk => (ht1.ge k hk).1) (Nat.le_trans h.hb.size hu.size))
theorem rel (h : QInv w W bg ag cg at_ ct R kf ft us who q) {g1 c1 : Nat} {l : Int} {s : ByteArray} (hs1 : 1 ≤ s.size) (hs : s.size ≤ 16) (hq : us + s.size ≤ q)
    (h1 : GSt W1 w.heap.size bg (some ⟨g1, 0, none⟩) c1 (R ++ [(s, l, ft)]) kf ft (us + s.size) 2 who q) (hm1 : Mod (bg :: blk ag) W W1) (hat1 : g1 ∈ blk ag ∨ W.heap.size ≤ g1) :
    QInv w W1 bg (some ⟨g1, 0, none⟩) c1 at_ ct (R ++ [(s, l, ft)]) kf ft (us + s.size) who q := by
  have hnow : ∀ f, sumR (nowR (R ++ [(s, l, ft)]) f) = sumR (nowR R f) + if ft = f then s.size else 0 := fun f => by
    rw [nowR, List.filter_append]
    by_cases e : ft = f
    · rw [if_pos e, show List.filter (fun r : Rel => r.2.2 == f) [(s, l, ft)] = [(s, l, ft)] from by simp [e], sumR_snoc]; rfl
    · rw [if_neg e, show List.filter (fun r : Rel => r.2.2 == f) [(s, l, ft)] = [] from by simp [e], List.append_nil]; rfl
  have hus := h.use
  refine ⟨h1, ?_, fun x hx hx2 => ?_, ?_, h.lg, by rw [List.length_append]; have := h.kfl; omega, ?_, hq, ?_, ?_, fun f => ?_, ?_⟩
  · rw [List.take_append_of_le_length h.kfl]
    exact h.t.mod hm1 (fun k hk => by
      simp only [List.mem_cons, not_or]
      exact ⟨fun e => h.t.ne h.g.obj (by decide) (e ▸ hk), fun hm => h.sep k hm hk⟩)
  · simp only [blk, Option.map_some, Option.toList_some, List.mem_singleton] at hx
    subst hx
    rcases hat1 with h0 | h0
    · exact h.sep _ h0 hx2
    · have := (h.t.ge _ hx2).2; omega
  · exact h.hb.trans (hm1.below (fun k hk => by
      simp only [List.mem_cons] at hk
      rcases hk with rfl | hk
      · exact h.lg
      · exact (h.g.own.ge k hk).1) h.hb.size)
  · rw [hnow, if_pos rfl]; omega
  · intro r hr
    simp only [List.mem_append, List.mem_singleton] at hr
    rcases hr with hr | rfl
    · exact h.fr r hr
    · exact Int.le_refl _
  · intro r hr
    simp only [List.mem_append, List.mem_singleton] at hr
    rcases hr with hr | rfl
    · exact h.sz r hr
    · exact ⟨hs1, hs⟩
  · rw [hnow]
    have := h.quo f
    split
    · rename_i e; subst e; omega
    · omega
  · rw [List.pairwise_append]
    refine ⟨h.mono, by simp, fun x hx y hy => ?_⟩
    simp only [List.mem_singleton] at hy
    subst hy
    exact h.fr x hx
end QInv
set_option maxHeartbeats 4000000 in
theorem quota_walk (who quota : Nat) (hwho : who < 256) (hquota : quota < 256) (a : Option Addr) (c : Nat) (acts : List Actv) (w : World) (hr : Rd w 4 a acts.length (actF acts)) (hle : acts.length ≤ c) (hc : c ≤ maxLen) (hst : ∀ x ∈ acts, x.2.2.2.size ≤ maxLen) :
    Calls Try.prog 4 #[.int .u8 who, .int .u8 quota, .slice a acts.length c] w fun e w' => e = .returned (.bool true) ∧ Below w.heap.size w w' := by
  obtain ⟨i0, hi0, hz0, hz1, hz2⟩ := info_parts info_rel
  unfold maxLen at hc
  have HR := Lib.hid hr; have HST := Lib.hid hst
  clear hr hst
  go_enter Try.func4, Try.ntmps4
  go_wp2_with fail
  obtain ⟨q, hq⟩ : ∃ q : Int, q = (quota : Int) % 65 := ⟨_, rfl⟩
  obtain ⟨v, hv⟩ : ∃ v : Int, v = (who : Int) % 4 := ⟨_, rfl⟩
  rw [← hq, ← hv]
  have hq0 : 0 ≤ q := by omega
  have hq1 : q ≤ 64 := by omega
  have hv0 : 0 ≤ v := by omega
  have hv1 : v < 4 := by omega
  clear hq hv
  refine (gnew_yes w.heap.size 2 v q (by unfold okG; omega) w).mono ?_; rintro e w1 ⟨rfl, hg1, hb1⟩
  obtain ⟨bg, hbg⟩ : ∃ bg, bg = w.heap.size := ⟨_, rfl⟩
  have HI0 : Hid (QInv w w1 bg none 0 none 0 [] 0 0 0 v q) := by
    rw [Hid, hbg]
    exact ⟨hg1, Own.nil _ _ _ _, Sep.none_ _, hb1, Nat.le_refl _, Nat.le_refl _, rfl, hq0, by simp, by simp, fun _ => by simpa [nowR, sumR] using hq0, List.Pairwise.nil⟩
  rw [← hbg]
  clear hg1 hb1 hbg
  go_wp2_with fail
  go_loopw [11, 10] (fun i tl wr => ∃ (k : Nat) (ag : Option Addr) (cg : Nat) (at_ : Option Addr) (ct : Nat) (R : List Rel) (kf : Nat) (ft us : Int), k ≤ acts.length ∧ k ≤ 60 ∧ i = .int .i64 k ∧ tl = .slice at_ kf ct ∧ R.length ≤ k ∧ 0 ≤ ft ∧ ft ≤ k ∧ QInv w wr bg ag cg at_ ct R kf ft us v q) (fun i _ _ => 60 - (intOf i).toNat)
  case atStart => exact ⟨0, none, 0, none, 0, [], 0, 0, 0, by omega, by omega, rfl, rfl, by simp, by omega, by omega, HI0.out⟩
  case round =>
    clear HI0
    obtain ⟨k, ag, cg, at_, ct, R, kf, ft, us, hk1, hk2, rfl, rfl, hRk, hf0, hfk, hi⟩ := hrel
    have HI := Lib.hid hi
    clear hi
    by_cases g1 : k < acts.length
    · by_cases g2 : k < 60
      · go_wp2_with fail
        refine (log_any _ _ _ _ _ _ _ _ _ _ _ _ HI.out.g (by omega)).mono ?_; rintro e w3 ⟨a3, c3, rfl, hown3, hb3⟩
        have HI3 := Lib.hid (HI.out.below hb3)
        clear hown3 hb3 HI
        obtain ⟨b0, o0, rfl, k0, k1, k2, k3⟩ := act_at HR.out HI3.out.hb k g1
        have hsx : acts[k].2.2.2.size ≤ maxLen := HST.out _ (List.getElem_mem g1)
        generalize acts[k] = x at k0 k1 k2 k3 hsx
        obtain ⟨kk, xw, xl, xs⟩ := x
        have hb0 : (0 : Int) ≤ k := by omega
        have hb1 : (k : Int) < (acts.length : Int) := by omega
        by_cases e0 : kk = 0
        · subst e0
          clear k1 k2 k3
          have nn : ((R.length : Int) != (R.length : Int)) = false := by simp
          have hkfl := HI3.out.kfl
          go_wp2_with fail
          refine (turn_any _ _ _ _ _ _ _ _ _ _ _ _ HI3.out.g (by omega) HI3.out.kfl (by omega) (by omega)).mono ?_; rintro e w4 ⟨a4, c4, rfl, hown4, hg4, hu4⟩
          have ht4 := HI3.out.t.upd hu4 (HI3.out.t.ne HI3.out.g.obj (by decide))
          have hB4 : w.heap.size ≤ w4.heap.size := Nat.le_trans HI3.out.hb.size hu4.size
          go_wp2_with (at_builtin; (refine wpList_more rfl (.tmp 54) (.tmp 56) 34 rfl w.heap.size 43 i0 _ 3 32 Try.underlying34 hi0 hz0 hz1 hz2 rfl (by omega) at_ kf ct (relF (R.take kf)) rfl ht4 a4 (R.length - kf) c4 (relF (R.drop kf)) rfl hown4.rd (rel_one _) (by simp only [maxLen]; omega) (by omega) hB4 ?_); intro a5 c5 w5 hown5 hmod5 hat5)
          have hi5 := HI3.out.turn hq0 hg4 hu4 hown5 hmod5 hat5
          have HI5 := Lib.hid hi5
          have hkl : kf + (R.length - kf) = R.length := by omega
          try rw [hkl]
          clear hi5 hown5 hmod5 hat5 ht4 hg4 hu4 hown4 HI3 hB4 k0
          refine (log_any _ _ _ _ _ _ _ _ _ _ _ _ HI5.out.g (by omega)).mono ?_; rintro e w6 ⟨a6, c6, rfl, hown6, hb6⟩
          have HI6 := Lib.hid (HI5.out.below hb6)
          clear hown6 hb6 HI5
          go_wp2_with fail
          refine (used_any _ _ _ _ _ _ _ _ _ _ _ HI6.out.g.obj).mono ?_; rintro e w' ⟨rfl, rfl⟩
          go_wp2_with fail
          go_roundw
          case rel => exact ⟨k + 1, ag, cg, a5, c5, R, R.length, ft + 1, 0, by omega, by omega, by go_num, rfl, by omega, by omega, by omega, HI6.out⟩
          case measure => simp [intOf]; omega
        · have t0 : (kk == 0) = false := by simpa using e0
          clear e0
          by_cases hm : mayV 2 v q us xw xl xs.size = 0
          · have hmz := mayV_zero hm
            have HM := Lib.hid hm
            have hrl := HI3.out.use
            have hul := HI3.out.usl
            have hu0 : 0 ≤ us := by omega
            obtain ⟨-, -, -, hm4, hm5, hm6⟩ := hmz
            clear hm hrl
            go_wp2_with fail
            refine wp_region_still_tail 16 (by kernel_rfl) (by kernel_rfl) ?_; simp only [List.take_succ_cons, List.take_zero, List.drop_succ_cons, List.drop_zero]; obtain ⟨W1, hW1⟩ : ∃ x, x = World.drew w3 := ⟨_, rfl⟩; change wpStill _ _ (World.drew w3) (fun a' => wpList _ _ _ _ a' (World.drew w3)) _ _; rw [← hW1]
            have j1 : W1.cell? ⟨b0, o0 + k * 4 + 1, none⟩ = some (.int .i64 xw) := by rw [hW1]; exact k1
            have j2 : W1.cell? ⟨b0, o0 + k * 4 + 2, none⟩ = some (.int .i64 xl) := by rw [hW1]; exact k2
            have j3 : W1.cell? ⟨b0, o0 + k * 4 + 3, none⟩ = some (.string xs) := by rw [hW1]; exact k3
            have HI4 : Hid (QInv w W1 bg ag cg at_ ct R kf ft us v q) := by rw [Hid, hW1]; exact HI3.out.below (Below.refl _ _).drew
            clear hW1 HI3 k0 k1 k2 k3
            repeat still_step
            refine wpStill_nil ?_
            clear j1 j2 j3
            go_wp2_with fail
            refine (release_yes _ _ _ _ _ _ _ _ _ _ _ _ _ _ _ HI4.out.g hq0 hq1 hu0 (by omega) hsx HM.out (by omega) HI4.out.hb.size).mono ?_; rintro e w5 ⟨g5, c5, rfl, hg5, hm5', hat5⟩
            have hi5 := HI4.out.rel hm4 hm5 hm6 hg5 hm5' hat5
            obtain ⟨R2, hR2⟩ : ∃ R2, R2 = R ++ [(xs, xl, ft)] := ⟨_, rfl⟩
            have hl2 : R2.length = R.length + 1 := by rw [hR2]; simp
            rw [← hR2] at hi5
            obtain ⟨us2, hus2⟩ : ∃ us2, us2 = us + (xs.size : Int) := ⟨_, rfl⟩
            rw [← hus2] at hi5
            have HI5 := Lib.hid hi5
            have n1 : ((R2.length : Int) == (R.length : Int) + 1) = true := by rw [hl2]; simp
            have n2 : decide (q < us2) = false := by simp; omega
            clear hi5 hR2 hg5 hm5' hat5 HI4 HM
            go_wp2_with fail
            refine (log_any _ _ _ _ _ _ _ _ _ _ _ _ HI5.out.g (by omega)).mono ?_; rintro e w6 ⟨a6, c6, rfl, hown6, hb6⟩
            have HI6 := Lib.hid (HI5.out.below hb6)
            clear hown6 hb6 HI5
            go_wp2_with fail
            refine (used_any _ _ _ _ _ _ _ _ _ _ _ HI6.out.g.obj).mono ?_; rintro e w' ⟨rfl, rfl⟩
            go_wp2_with fail
            go_roundw
            case rel => exact ⟨k + 1, some ⟨g5, 0, none⟩, c5, at_, ct, R2, kf, ft, us2, by omega, by omega, by go_num, rfl, by omega, by omega, by omega, HI6.out⟩
            case measure => simp [intOf]; omega
          · have HM := Lib.hid hm
            have hul := HI3.out.usl
            have hu0 : 0 ≤ us := by have := HI3.out.use; omega
            have hkfl := HI3.out.kfl
            clear hm
            go_wp2_with fail
            refine wp_region_still_tail 16 (by kernel_rfl) (by kernel_rfl) ?_; simp only [List.take_succ_cons, List.take_zero, List.drop_succ_cons, List.drop_zero]; obtain ⟨W1, hW1⟩ : ∃ x, x = World.drew w3 := ⟨_, rfl⟩; change wpStill _ _ (World.drew w3) (fun a' => wpList _ _ _ _ a' (World.drew w3)) _ _; rw [← hW1]
            have j1 : W1.cell? ⟨b0, o0 + k * 4 + 1, none⟩ = some (.int .i64 xw) := by rw [hW1]; exact k1
            have j2 : W1.cell? ⟨b0, o0 + k * 4 + 2, none⟩ = some (.int .i64 xl) := by rw [hW1]; exact k2
            have j3 : W1.cell? ⟨b0, o0 + k * 4 + 3, none⟩ = some (.string xs) := by rw [hW1]; exact k3
            have HI4 : Hid (QInv w W1 bg ag cg at_ ct R kf ft us v q) := by rw [Hid, hW1]; exact HI3.out.below (Below.refl _ _).drew
            clear hW1 HI3 k0 k1 k2 k3
            repeat still_step
            refine wpStill_nil ?_
            clear j1 j2 j3
            go_wp2_with fail
            refine (release_no _ _ _ _ _ _ _ _ _ _ _ _ _ _ _ HI4.out.g hq0 hq1 hu0 (by omega) hsx HM.out).mono ?_; rintro e w5 ⟨he, hb5⟩
            have hme := HM.out
            obtain ⟨m, hmm⟩ : ∃ m, m = mayV 2 v q us xw xl xs.size := ⟨_, rfl⟩
            rw [← hmm] at he hme
            subst he
            have HI5 := Lib.hid (HI4.out.below hb5)
            have n1 : ((R.length : Int) == (R.length : Int) + 1) = false := by simp; omega
            have n2 : decide (q < us) = false := by simp; omega
            have n3 : (m == 0) = false := by simpa using hme
            have n4 : (m != 0) = true := by simpa using hme
            have nn : ((R.length : Int) != (R.length : Int)) = false := by simp
            clear hb5 HI4 HM hmm hme
            go_wp2_with fail
            refine (log_any _ _ _ _ _ _ _ _ _ _ _ _ HI5.out.g (by omega)).mono ?_; rintro e w6 ⟨a6, c6, rfl, hown6, hb6⟩
            have HI6 := Lib.hid (HI5.out.below hb6)
            clear hown6 hb6 HI5
            go_wp2_with fail
            refine (log_any _ _ _ _ _ _ _ _ _ _ _ _ HI6.out.g (by omega)).mono ?_; rintro e w7 ⟨a7, c7, rfl, hown7, hb7⟩
            have HI7 := Lib.hid (HI6.out.below hb7)
            clear hown7 hb7 HI6
            go_wp2_with fail
            refine (used_any _ _ _ _ _ _ _ _ _ _ _ HI7.out.g.obj).mono ?_; rintro e w' ⟨rfl, rfl⟩
            go_wp2_with fail
            go_roundw
            case rel => exact ⟨k + 1, ag, cg, at_, ct, R, kf, ft, us, by omega, by omega, by go_num, rfl, by omega, by omega, by omega, HI7.out⟩
            case measure => simp [intOf]; omega
      · (
        have ht0 := HI.out.t
        have hkfl := HI.out.kfl
        go_wp2_with fail
        refine (turn_any _ _ _ _ _ _ _ _ _ _ _ _ HI.out.g (by omega) HI.out.kfl (by omega) (by omega)).mono ?_; rintro e w4 ⟨a4, c4, rfl, hown4, hg4, hu4⟩
        have ht4 := HI.out.t.upd hu4 (HI.out.t.ne HI.out.g.obj (by decide))
        have hB4 : w.heap.size ≤ w4.heap.size := Nat.le_trans HI.out.hb.size hu4.size
        clear ht0
        go_wp2_with (at_builtin; (refine wpList_more rfl (.tmp 111) (.tmp 113) 34 rfl w.heap.size 43 i0 _ 3 32 Try.underlying34 hi0 hz0 hz1 hz2 rfl (by omega) at_ kf ct (relF (R.take kf)) rfl ht4 a4 (R.length - kf) c4 (relF (R.drop kf)) rfl hown4.rd (rel_one _) (by simp only [maxLen]; omega) (by omega) hB4 ?_); intro a5 c5 w5 hown5 hmod5 hat5)
        have hi5 := HI.out.turn hq0 hg4 hu4 hown5 hmod5 hat5
        have HI5 := Lib.hid hi5
        have hkl : kf + (R.length - kf) = R.length := by omega
        try rw [hkl]
        clear hi5 hown5 hmod5 hat5 ht4 hg4 hu4 hown4 HI hB4
        refine (log_any _ _ _ _ _ _ _ _ _ _ _ _ HI5.out.g (by omega)).mono ?_; rintro e w6 ⟨a6, c6, rfl, hown6, hb6⟩
        have HI6 := Lib.hid (HI5.out.below hb6)
        have hrd5 := HI6.out.t
        rw [List.take_length] at hrd5
        go_wp2_with fail
        refine (same_any _ _ _ _ R _ hrd5.rd hown6.rd (by omega) hrd5.le hown6.le).mono ?_; rintro e w7 ⟨rfl, hb7⟩
        have HO := Lib.hid (hown6.below hb7)
        have HB := Lib.hid (bmore HI6.out.hb hb7)
        have HQ := Lib.hid HI6.out.quo; have HSZ := Lib.hid HI6.out.sz; have HMO := Lib.hid HI6.out.mono
        have hR60 : R.length ≤ 60 := by omega
        have hc6 := hown6.le
        have hcm6 := hown6.capMax
        unfold maxLen at hcm6
        obtain ⟨B6, hB6⟩ : ∃ B6, B6 = w5.heap.size := ⟨_, rfl⟩
        have HO : Hid (Own w7 B6 43 3 a6 R.length c6 (relF R)) := by rw [Hid, hB6]; exact HO.out
        clear HI6 hown6 hb6 hb7 hrd5 HI5 hB6
        go_wp2_with fail
        go_loopw [15] (fun i wr => ∃ j : Nat, j ≤ R.length ∧ i = .int .i64 j ∧ Own wr B6 43 3 a6 R.length c6 (relF R) ∧ Below w.heap.size w wr) (fun i _ => 60 - (intOf i).toNat)
        case atStart => exact ⟨0, Nat.zero_le _, rfl, HO.out, HB.out⟩
        case round =>
          clear HO HB
          obtain ⟨j, hj, rfl, ho, hb⟩ := hrel
          have HO := Lib.hid ho; have HB := Lib.hid hb
          clear ho hb
          by_cases g3 : j < R.length
          · obtain ⟨g, rfl, -, -⟩ := HO.out.at_ (by omega)
            obtain ⟨f, hf⟩ : ∃ f, f = R[j].2.2 := ⟨_, rfl⟩
            have HF := Lib.hid hf
            clear hf
            have hq2 := HQ.out f
            have hj0 : (0 : Int) ≤ j := by omega
            have hj1 : (j : Int) < (R.length : Int) := by omega
            go_wp2_with fail
            go_loopw [16, 17] (fun s i w2 => ∃ k : Nat, k ≤ R.length ∧ i = .int .i64 k ∧ s = .int .i64 (sumR (nowR (R.take k) f)) ∧ Own w2 B6 43 3 (some ⟨g, 0, none⟩) R.length c6 (relF R) ∧ Below w.heap.size w w2) (fun _ i _ => 60 - (intOf i).toNat)
            case atStart => exact ⟨0, Nat.zero_le _, rfl, by simp [nowR, sumR], HO.out, HB.out⟩
            case round =>
              clear HO HB
              obtain ⟨k2, hk3, rfl, rfl, ho, hb⟩ := hrel
              have HO := Lib.hid ho; have HB := Lib.hid hb
              clear ho hb
              have hsl := sum_now_le R f k2
              by_cases g4 : k2 < R.length
              · have k0 := HO.out.cell (k2 * 3) (.string R[k2].1) (by have := relF_get R k2 0 g4 (by omega); simpa [relC] using this)
                have k2' := HO.out.cell (k2 * 3 + 2) (.int .i64 R[k2].2.2) (by have := relF_get R k2 2 g4 (by omega); simpa [relC] using this)
                have j2 := HO.out.cell (j * 3 + 2) (.int .i64 f) (by have := relF_get R j 2 g3 (by omega); simpa [relC, HF.out] using this)
                have hb0 : (0 : Int) ≤ k2 := by omega
                have hb1 : (k2 : Int) < (R.length : Int) := by omega
                have hszk := HSZ.out R[k2] (List.getElem_mem g4)
                by_cases gf : R[k2].2.2 = f
                · have tf : (R[k2].2.2 == f) = true := by simpa using gf
                  have HS := Lib.hid (sum_now_yes R f k2 g4 gf)
                  clear gf
                  obtain ⟨S, hS⟩ : ∃ S, S = sumR (nowR (R.take k2) f) := ⟨_, rfl⟩
                  rw [← hS] at HS hsl ⊢
                  clear hS
                  generalize R[k2] = r at k0 k2' tf HS hszk
                  obtain ⟨s, l, fk⟩ := r
                  dsimp only at hszk
                  go_wp2_with fail
                  go_quiet (fail)
                  have HO2 := Lib.hid (HO.out.below (below_drewN (Below.refl _ _) nq))
                  have k0' : (wr.drewN nq).cell? ⟨g, k2 * 3, none⟩ = some (.string s) := k0
                  clear k0 k2' j2
                  go_wp2_with fail
                  go_roundw
                  case rel => exact ⟨k2 + 1, by omega, by go_num, by rw [HS.out]; go_num, HO2.out, below_drewN HB.out _⟩
                  case measure => simp [intOf]; omega
                · have tf : (R[k2].2.2 == f) = false := by simpa using gf
                  have HS := Lib.hid (congrArg sumR (now_not R f k2 g4 gf))
                  clear gf k0
                  generalize R[k2] = r at k2' tf
                  obtain ⟨s, l, fk⟩ := r
                  go_wp2_with fail
                  go_quiet (fail)
                  clear k2' j2
                  go_wp2_with fail
                  go_roundw
                  case rel => exact ⟨k2 + 1, by omega, by go_num, by rw [HS.out], HO.out.below (below_drewN (Below.refl _ _) nq), below_drewN HB.out _⟩
                  case measure => simp [intOf]; omega
              · have hkl2 : k2 = R.length := by omega
                subst hkl2
                rw [List.take_length] at hsl ⊢
                clear hsl
                obtain ⟨S, hS⟩ : ∃ S, S = sumR (nowR R f) := ⟨_, rfl⟩
                rw [← hS] at hq2 ⊢
                clear hS
                have d1 : decide (q < (S : Int)) = false := by simp; omega
                have hszj := HSZ.out R[j] (List.getElem_mem g3)
                have k0 := HO.out.cell (j * 3) (.string R[j].1) (by have := relF_get R j 0 g3 (by omega); simpa [relC] using this)
                have j2 := HO.out.cell (j * 3 + 2) (.int .i64 f) (by have := relF_get R j 2 g3 (by omega); simpa [relC, HF.out] using this)
                have d2 : decide ((R[j].1.size : Int) < 1) = false := by simp; omega
                have d3 : decide ((16 : Int) < (R[j].1.size : Int)) = false := by simp; omega
                rcases Nat.eq_zero_or_pos j with j0 | j0
                · subst j0
                  generalize R[0] = r at k0 d2 d3 hszj
                  obtain ⟨s, l, fk⟩ := r
                  dsimp only at hszj
                  go_wp2_with fail
                  go_quiet (fail)
                  clear k0 j2
                  go_wp2_with fail
                  go_roundw
                  case rel => exact ⟨1, by omega, by go_num, HO.out.below (below_drewN (Below.refl _ _) nq), below_drewN HB.out _⟩
                  case measure => (simp [intOf])
                · obtain ⟨m, rfl⟩ : ∃ m, j = m + 1 := ⟨j - 1, by omega⟩
                  have hmm : R[m].2.2 ≤ R[m + 1].2.2 := (List.pairwise_iff_getElem.1 HMO.out) m (m + 1) (by omega) g3 (by omega)
                  have m2 := HO.out.cell (m * 3 + 2) (.int .i64 R[m].2.2) (by have := relF_get R m 2 (by omega) (by omega); simpa [relC] using this)
                  have d5 : decide (f < R[m].2.2) = false := by rw [HF.out]; simp; omega
                  generalize R[m + 1] = r at k0 d2 d3 hszj
                  generalize R[m] = r2 at m2 d5
                  obtain ⟨s, l, fk⟩ := r
                  obtain ⟨s2, l2, fk2⟩ := r2
                  dsimp only at hszj
                  have i1 : ((m + 1 : Nat) : Int) - 1 = (m : Int) := by omega
                  have i2 : decide (0 < ((m + 1 : Nat) : Int)) = true := by simp
                  have i3 : (0 : Int) ≤ (m : Int) := by omega
                  have i4 : (m : Int) < (R.length : Int) := by omega
                  go_wp2_with fail
                  go_quiet (fail)
                  clear k0 j2 m2
                  go_wp2_with fail
                  go_roundw
                  case rel => exact ⟨m + 1 + 1, by omega, by go_num, HO.out.below (below_drewN (Below.refl _ _) nq), below_drewN HB.out _⟩
                  case measure => simp [intOf]; omega
          · (
          go_wp2_with fail
          refine (awake_any _).mono ?_; rintro e wz ⟨rfl, hbz⟩
          go_wp2_with fail
          go_ret
          exact ⟨rfl, bmore HB.out hbz⟩
            )
        )
    · (
        have ht0 := HI.out.t
        have hkfl := HI.out.kfl
        go_wp2_with fail
        refine (turn_any _ _ _ _ _ _ _ _ _ _ _ _ HI.out.g (by omega) HI.out.kfl (by omega) (by omega)).mono ?_; rintro e w4 ⟨a4, c4, rfl, hown4, hg4, hu4⟩
        have ht4 := HI.out.t.upd hu4 (HI.out.t.ne HI.out.g.obj (by decide))
        have hB4 : w.heap.size ≤ w4.heap.size := Nat.le_trans HI.out.hb.size hu4.size
        clear ht0
        go_wp2_with (at_builtin; (refine wpList_more rfl (.tmp 111) (.tmp 113) 34 rfl w.heap.size 43 i0 _ 3 32 Try.underlying34 hi0 hz0 hz1 hz2 rfl (by omega) at_ kf ct (relF (R.take kf)) rfl ht4 a4 (R.length - kf) c4 (relF (R.drop kf)) rfl hown4.rd (rel_one _) (by simp only [maxLen]; omega) (by omega) hB4 ?_); intro a5 c5 w5 hown5 hmod5 hat5)
        have hi5 := HI.out.turn hq0 hg4 hu4 hown5 hmod5 hat5
        have HI5 := Lib.hid hi5
        have hkl : kf + (R.length - kf) = R.length := by omega
        try rw [hkl]
        clear hi5 hown5 hmod5 hat5 ht4 hg4 hu4 hown4 HI hB4
        refine (log_any _ _ _ _ _ _ _ _ _ _ _ _ HI5.out.g (by omega)).mono ?_; rintro e w6 ⟨a6, c6, rfl, hown6, hb6⟩
        have HI6 := Lib.hid (HI5.out.below hb6)
        have hrd5 := HI6.out.t
        rw [List.take_length] at hrd5
        go_wp2_with fail
        refine (same_any _ _ _ _ R _ hrd5.rd hown6.rd (by omega) hrd5.le hown6.le).mono ?_; rintro e w7 ⟨rfl, hb7⟩
        have HO := Lib.hid (hown6.below hb7)
        have HB := Lib.hid (bmore HI6.out.hb hb7)
        have HQ := Lib.hid HI6.out.quo; have HSZ := Lib.hid HI6.out.sz; have HMO := Lib.hid HI6.out.mono
        have hR60 : R.length ≤ 60 := by omega
        have hc6 := hown6.le
        have hcm6 := hown6.capMax
        unfold maxLen at hcm6
        obtain ⟨B6, hB6⟩ : ∃ B6, B6 = w5.heap.size := ⟨_, rfl⟩
        have HO : Hid (Own w7 B6 43 3 a6 R.length c6 (relF R)) := by rw [Hid, hB6]; exact HO.out
        clear HI6 hown6 hb6 hb7 hrd5 HI5 hB6
        go_wp2_with fail
        go_loopw [15] (fun i wr => ∃ j : Nat, j ≤ R.length ∧ i = .int .i64 j ∧ Own wr B6 43 3 a6 R.length c6 (relF R) ∧ Below w.heap.size w wr) (fun i _ => 60 - (intOf i).toNat)
        case atStart => exact ⟨0, Nat.zero_le _, rfl, HO.out, HB.out⟩
        case round =>
          clear HO HB
          obtain ⟨j, hj, rfl, ho, hb⟩ := hrel
          have HO := Lib.hid ho; have HB := Lib.hid hb
          clear ho hb
          by_cases g3 : j < R.length
          · obtain ⟨g, rfl, -, -⟩ := HO.out.at_ (by omega)
            obtain ⟨f, hf⟩ : ∃ f, f = R[j].2.2 := ⟨_, rfl⟩
            have HF := Lib.hid hf
            clear hf
            have hq2 := HQ.out f
            have hj0 : (0 : Int) ≤ j := by omega
            have hj1 : (j : Int) < (R.length : Int) := by omega
            go_wp2_with fail
            go_loopw [16, 17] (fun s i w2 => ∃ k : Nat, k ≤ R.length ∧ i = .int .i64 k ∧ s = .int .i64 (sumR (nowR (R.take k) f)) ∧ Own w2 B6 43 3 (some ⟨g, 0, none⟩) R.length c6 (relF R) ∧ Below w.heap.size w w2) (fun _ i _ => 60 - (intOf i).toNat)
            case atStart => exact ⟨0, Nat.zero_le _, rfl, by simp [nowR, sumR], HO.out, HB.out⟩
            case round =>
              clear HO HB
              obtain ⟨k2, hk3, rfl, rfl, ho, hb⟩ := hrel
              have HO := Lib.hid ho; have HB := Lib.hid hb
              clear ho hb
              have hsl := sum_now_le R f k2
              by_cases g4 : k2 < R.length
              · have k0 := HO.out.cell (k2 * 3) (.string R[k2].1) (by have := relF_get R k2 0 g4 (by omega); simpa [relC] using this)
                have k2' := HO.out.cell (k2 * 3 + 2) (.int .i64 R[k2].2.2) (by have := relF_get R k2 2 g4 (by omega); simpa [relC] using this)
                have j2 := HO.out.cell (j * 3 + 2) (.int .i64 f) (by have := relF_get R j 2 g3 (by omega); simpa [relC, HF.out] using this)
                have hb0 : (0 : Int) ≤ k2 := by omega
                have hb1 : (k2 : Int) < (R.length : Int) := by omega
                have hszk := HSZ.out R[k2] (List.getElem_mem g4)
                by_cases gf : R[k2].2.2 = f
                · have tf : (R[k2].2.2 == f) = true := by simpa using gf
                  have HS := Lib.hid (sum_now_yes R f k2 g4 gf)
                  clear gf
                  obtain ⟨S, hS⟩ : ∃ S, S = sumR (nowR (R.take k2) f) := ⟨_, rfl⟩
                  rw [← hS] at HS hsl ⊢
                  clear hS
                  generalize R[k2] = r at k0 k2' tf HS hszk
                  obtain ⟨s, l, fk⟩ := r
                  dsimp only at hszk
                  go_wp2_with fail
                  go_quiet (fail)
                  have HO2 := Lib.hid (HO.out.below (below_drewN (Below.refl _ _) nq))
                  have k0' : (wr.drewN nq).cell? ⟨g, k2 * 3, none⟩ = some (.string s) := k0
                  clear k0 k2' j2
                  go_wp2_with fail
                  go_roundw
                  case rel => exact ⟨k2 + 1, by omega, by go_num, by rw [HS.out]; go_num, HO2.out, below_drewN HB.out _⟩
                  case measure => simp [intOf]; omega
                · have tf : (R[k2].2.2 == f) = false := by simpa using gf
                  have HS := Lib.hid (congrArg sumR (now_not R f k2 g4 gf))
                  clear gf k0
                  generalize R[k2] = r at k2' tf
                  obtain ⟨s, l, fk⟩ := r
                  go_wp2_with fail
                  go_quiet (fail)
                  clear k2' j2
                  go_wp2_with fail
                  go_roundw
                  case rel => exact ⟨k2 + 1, by omega, by go_num, by rw [HS.out], HO.out.below (below_drewN (Below.refl _ _) nq), below_drewN HB.out _⟩
                  case measure => simp [intOf]; omega
              · have hkl2 : k2 = R.length := by omega
                subst hkl2
                rw [List.take_length] at hsl ⊢
                clear hsl
                obtain ⟨S, hS⟩ : ∃ S, S = sumR (nowR R f) := ⟨_, rfl⟩
                rw [← hS] at hq2 ⊢
                clear hS
                have d1 : decide (q < (S : Int)) = false := by simp; omega
                have hszj := HSZ.out R[j] (List.getElem_mem g3)
                have k0 := HO.out.cell (j * 3) (.string R[j].1) (by have := relF_get R j 0 g3 (by omega); simpa [relC] using this)
                have j2 := HO.out.cell (j * 3 + 2) (.int .i64 f) (by have := relF_get R j 2 g3 (by omega); simpa [relC, HF.out] using this)
                have d2 : decide ((R[j].1.size : Int) < 1) = false := by simp; omega
                have d3 : decide ((16 : Int) < (R[j].1.size : Int)) = false := by simp; omega
                rcases Nat.eq_zero_or_pos j with j0 | j0
                · subst j0
                  generalize R[0] = r at k0 d2 d3 hszj
                  obtain ⟨s, l, fk⟩ := r
                  dsimp only at hszj
                  go_wp2_with fail
                  go_quiet (fail)
                  clear k0 j2
                  go_wp2_with fail
                  go_roundw
                  case rel => exact ⟨1, by omega, by go_num, HO.out.below (below_drewN (Below.refl _ _) nq), below_drewN HB.out _⟩
                  case measure => (simp [intOf])
                · obtain ⟨m, rfl⟩ : ∃ m, j = m + 1 := ⟨j - 1, by omega⟩
                  have hmm : R[m].2.2 ≤ R[m + 1].2.2 := (List.pairwise_iff_getElem.1 HMO.out) m (m + 1) (by omega) g3 (by omega)
                  have m2 := HO.out.cell (m * 3 + 2) (.int .i64 R[m].2.2) (by have := relF_get R m 2 (by omega) (by omega); simpa [relC] using this)
                  have d5 : decide (f < R[m].2.2) = false := by rw [HF.out]; simp; omega
                  generalize R[m + 1] = r at k0 d2 d3 hszj
                  generalize R[m] = r2 at m2 d5
                  obtain ⟨s, l, fk⟩ := r
                  obtain ⟨s2, l2, fk2⟩ := r2
                  dsimp only at hszj
                  have i1 : ((m + 1 : Nat) : Int) - 1 = (m : Int) := by omega
                  have i2 : decide (0 < ((m + 1 : Nat) : Int)) = true := by simp
                  have i3 : (0 : Int) ≤ (m : Int) := by omega
                  have i4 : (m : Int) < (R.length : Int) := by omega
                  go_wp2_with fail
                  go_quiet (fail)
                  clear k0 j2 m2
                  go_wp2_with fail
                  go_roundw
                  case rel => exact ⟨m + 1 + 1, by omega, by go_num, HO.out.below (below_drewN (Below.refl _ _) nq), below_drewN HB.out _⟩
                  case measure => simp [intOf]; omega
          · (
          go_wp2_with fail
          refine (awake_any _).mono ?_; rintro e wz ⟨rfl, hbz⟩
          go_wp2_with fail
          go_ret
          exact ⟨rfl, bmore HB.out hbz⟩
            )
      )
end Go.Proofs.Ytnhapfoebiniiaa
