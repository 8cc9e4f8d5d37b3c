/- Package hermitageref24: Fill, Read, Write. -/
import Derived.Test.YtlafijnmoaenaaaDRef3
namespace Go.Proofs.Ytlafijnmoaenaaa
set_option linter.unusedVariables false
set_option linter.unusedSimpArgs false
set_option linter.unnecessarySimpa false
open Go.RowKit Go.Sort
set_option maxHeartbeats 400000
set_option maxRecDepth 100000

/-- What an act on the reference's disk leaves. -/
def RDPost (B rr : Nat) (ra : Option Addr) (rc : Nat) (l : List Rg) (tr : Nat) (ta : Option Addr) (tc : Nat) (R : List Rn) (r : Value) (f : Nat → List Int) (w : World) (e : Ending) (w' : World) : Prop :=
  e = .returned r ∧ RDS w' B rr ra rc l tr ta tc R f ∧ Mod [rr] w w'
theorem rwho_ (B rr rc tr tc : Nat) (ra ta : Option Addr) (l : List Rg) (R : List Rn) (f : Nat → List Int) (at_ : Int) (w : World) (h : RDS w B rr ra rc l tr ta tc R f) :
    Calls Try.prog 20 #[.pointer (some ⟨tr, 0, none⟩), .int .i64 at_] w fun e w' => e = .returned (.tuple #[.int .i64 (whoV R at_).1, .bool (whoV R at_).2]) ∧ w = w' := by
  have := rwho_any B tr tc 32 ta (ownV R) at_ w h.t
  rwa [who_same h.ok] at this
def fillF (R : List Rn) (at_ : Int) (s : ByteArray) (f : Nat → List Int) : Nat → List Int := if (whoV R at_).2 then upd f at_.toNat (fitB s) else f
theorem rfill_any (B rr rc tr tc : Nat) (ra ta : Option Addr) (l : List Rg) (R : List Rn) (f : Nat → List Int) (at_ : Int) (s : ByteArray) (hs : s.size ≤ maxLen) (w : World) (h : RDS w B rr ra rc l tr ta tc R f) :
    Calls Try.prog 16 #[.pointer (some ⟨rr, 0, none⟩), .int .i64 at_, .string s] w (RDPost B rr ra rc l tr ta tc R (.int .i64 (fillV R at_)) (fillF R at_ s f) w) := by
  have H := Lib.hid h
  have HW := Lib.hid (rwho_ B rr rc tr tc ra ta l R f at_ w h)
  have c1 := h.obj.cell 1 _ rfl
  have hrl := h.obj.lt
  cases hw : (whoV R at_).2
  · have HV : Hid (fillV R at_ = 3) := by rw [Hid, fillV, hw]; rfl
    have HF : Hid (fillF R at_ s f = f) := by rw [Hid, fillF, hw]; rfl
    rw [hw] at HW
    clear h hw
    go_enter Try.func16, Try.ntmps16
    go_wp2_with fail
    refine HW.out.mono ?_; rintro e w' ⟨rfl, rfl⟩
    go_wp2_with fail
    go_ret
    rw [HV.out, HF.out]
    exact ⟨rfl, H.out, Mod.refl _ _⟩
  · have HV : Hid (fillV R at_ = 0) := by rw [Hid, fillV, hw]; rfl
    obtain ⟨h0, h32⟩ := whoV_lt h.ok hw
    obtain ⟨k, rfl⟩ := Int.eq_ofNat_of_zero_le h0
    have HF : Hid (fillF R k s f = upd f k (fitB s)) := by rw [Hid, fillF, hw]; simp
    rw [hw] at HW
    clear h hw
    go_enter Try.func16, Try.ntmps16
    go_wp2_with fail
    refine HW.out.mono ?_; rintro e w' ⟨rfl, rfl⟩
    go_wp2_with fail
    refine (rfit_any s w hs).mono ?_; rintro e w2 ⟨a2, c2, rfl, hown2, hb2⟩
    have H2 := Lib.hid (H.out.below hb2)
    have HO2 := Lib.hid hown2
    have HB2 := Lib.hid hb2
    clear hown2 hb2
    go_wp2_with fail
    refine (rset_any _ _ _ _ _ _ _ _ _ _ k (by omega) _ _ (fitB s) (fitB_len s) w2 H2.out HO2.out.rd (fun hk => by have := (HO2.out.ge rr hk).1; omega)).mono ?_; rintro e w3 ⟨rfl, hd3, hm3⟩
    have H3 := Lib.hid hd3
    have HM3 : Hid (Mod [rr] w w3) := (Mod.ofBelow HB2.out).trans hm3
    clear hd3 hm3
    go_wp2_with fail
    go_ret
    rw [HV.out, HF.out]
    exact ⟨rfl, H3.out, HM3.out⟩
theorem lab_get {R : List Rn} {l : List Rg} {at_ : Int} (hown : ∀ r ∈ R, r.2.2 < l.length) (hw : (whoV R at_).2 = true) : ∃ j : Nat, ∃ hj : j < l.length, (whoV R at_).1 = j ∧ (l.map (fun x : Rg => x.1)).getD (whoV R at_).1.toNat 0 = l[j].1 := by
  obtain ⟨r, hr, hx, _, _⟩ := who_own (i := at_) (x := (whoV R at_).1) (R := R) (by rw [← hw])
  have := hown r hr
  exact ⟨r.2.2, this, hx, by rw [hx]; simp [this]⟩
theorem rread_any (B rr rc tr tc : Nat) (ra ta : Option Addr) (l : List Rg) (R : List Rn) (f : Nat → List Int) (who at_ : Int) (w : World) (h : RDS w B rr ra rc l tr ta tc R f) (hl : l.length ≤ 8) :
    Calls Try.prog 17 #[.pointer (some ⟨rr, 0, none⟩), .int .i64 who, .int .i64 at_] w (RdPost w.heap.size (readE R (l.map (·.1)) who at_) (f at_.toNat) w) := by
  have H := Lib.hid h
  have HW := Lib.hid (rwho_ B rr rc tr tc ra ta l R f at_ w h)
  have c1 := h.obj.cell 1 _ rfl
  have c0 := h.obj.cell 0 _ rfl
  have hrl := h.obj.lt
  cases hw : (whoV R at_).2
  · have HV : Hid (readE R (l.map (·.1)) who at_ = 3) := by rw [Hid, readE, hw]; rfl
    rw [hw] at HW
    clear h hw
    go_enter Try.func17, Try.ntmps17
    go_wp2_with fail
    refine HW.out.mono ?_; rintro e w' ⟨rfl, rfl⟩
    go_wp2_with fail
    go_ret2
    rw [HV.out]
    exact ⟨none, 0, 0, rfl, by simp, Below.refl _ _⟩
  · obtain ⟨h0, h32⟩ := whoV_lt h.ok hw
    obtain ⟨k, rfl⟩ := Int.eq_ofNat_of_zero_le h0
    obtain ⟨j, hj, hx, hg⟩ := lab_get h.own hw
    obtain ⟨qb, qo, rfl, _, q0, _, _⟩ := rg_at h.rows.rd j hj
    have HV : Hid (readE R (l.map (·.1)) who k = if flB l[j].1 who then 0 else 8) := by rw [Hid, readE, hw, hg]; rfl
    rw [hw, hx] at HW
    have hj0 : (0 : Int) ≤ j := by omega
    have hj1 : (j : Int) < (l.length : Int) := by omega
    have HB := Lib.hid (rbytes_any B rr rc tr tc _ ta l R f k w h)
    have HIN : Hid (inD (k : Int) = true) := by simp [Hid, inD]; omega
    rw [HIN.out] at HB
    generalize l[j].1 = lab at q0 HV
    clear h hw hx hg
    cases hfl : flB lab who
    · rw [hfl] at HV
      have HFL : Hid (flowsR lab who = false) := by rw [Hid, flowsR_eq, hfl]
      go_enter Try.func17, Try.ntmps17
      go_wp2_with fail
      refine HW.out.mono ?_; rintro e w' ⟨rfl, rfl⟩
      go_wp2_with fail
      refine (Flows_ref lab who _).mono ?_; rw [HFL.out]; rintro e w' ⟨rfl, rfl⟩
      go_wp2_with fail
      go_ret2
      rw [HV.out]
      exact ⟨none, 0, 0, rfl, by simp, Below.refl _ _⟩
    · rw [hfl] at HV
      have HFL : Hid (flowsR lab who = true) := by rw [Hid, flowsR_eq, hfl]
      go_enter Try.func17, Try.ntmps17
      go_wp2_with fail
      refine HW.out.mono ?_; rintro e w' ⟨rfl, rfl⟩
      go_wp2_with fail
      refine (Flows_ref lab who _).mono ?_; rw [HFL.out]; rintro e w' ⟨rfl, rfl⟩
      go_wp2_with fail
      refine HB.out.mono ?_; rintro e w2 ⟨a2, m2, c2, rfl, h2, hb2⟩
      first | (rw [if_pos rfl] at h2) | (simp only [if_true] at h2)
      obtain ⟨rfl, hown2⟩ := h2
      have HF : Hid (RdPost w.heap.size 0 (f (k : Int).toNat) w (.returned (.tuple #[.slice a2 16 c2, .int .i64 0])) w2) := ⟨a2, 16, c2, rfl, by rw [if_pos rfl]; exact ⟨rfl, hown2⟩, hb2⟩
      clear hown2 hb2
      go_wp2_with fail
      go_ret2
      rw [HV.out]
      exact HF.out
theorem rwrite_any (B rr rc tr tc : Nat) (ra ta : Option Addr) (l : List Rg) (R : List Rn) (f : Nat → List Int) (who at_ : Int) (ba : Option Addr) (m c : Nat) (s : List Int) (hs : s.length = m) (hm : m ≤ 9223372036854775807) (w : World) (h : RDS w B rr ra rc l tr ta tc R f) (hl : l.length ≤ 8) (hr : Rd w 1 ba m (bC s)) (hd : m = 16 → rr ∉ blk ba) :
    Calls Try.prog 18 #[.pointer (some ⟨rr, 0, none⟩), .int .i64 who, .int .i64 at_, .slice ba m c] w (RDPost B rr ra rc l tr ta tc R (.int .i64 (writeE R (l.map (·.1)) who at_ m)) (writeF R (l.map (·.1)) who at_ m s f) w) := by
  have H := Lib.hid h
  have HW := Lib.hid (rwho_ B rr rc tr tc ra ta l R f at_ w h)
  have c1 := h.obj.cell 1 _ rfl
  have c0 := h.obj.cell 0 _ rfl
  have hrl := h.obj.lt
  have HE : Hid (∀ r, RDPost B rr ra rc l tr ta tc R r f w (.returned r) w) := fun r => ⟨rfl, H.out, Mod.refl _ _⟩
  cases hw : (whoV R at_).2
  · have HV : Hid (writeE R (l.map (·.1)) who at_ m = 3) := by rw [Hid, writeE, hw]; rfl
    rw [hw] at HW
    clear h hw hr
    go_enter Try.func18, Try.ntmps18
    go_wp2_with fail
    refine HW.out.mono ?_; rintro e w' ⟨rfl, rfl⟩
    go_wp2_with fail
    go_ret
    rw [writeF, HV.out]
    exact HE.out _
  · obtain ⟨h0, h32⟩ := whoV_lt h.ok hw
    obtain ⟨k, rfl⟩ := Int.eq_ofNat_of_zero_le h0
    obtain ⟨j, hj, hx, hg⟩ := lab_get h.own hw
    obtain ⟨qb, qo, rfl, _, q0, _, _⟩ := rg_at h.rows.rd j hj
    have HV : Hid (writeE R (l.map (·.1)) who k m = if flB who l[j].1 then (if m = 16 then 0 else 1) else 8) := by rw [Hid, writeE, hw, hg]; rfl
    rw [hw, hx] at HW
    have hj0 : (0 : Int) ≤ j := by omega
    have hj1 : (j : Int) < (l.length : Int) := by omega
    have HR := Lib.hid hr; have HDJ := Lib.hid hd
    generalize l[j].1 = lab at q0 HV
    clear h hw hx hg hr hd
    cases hfl : flB who lab
    · rw [hfl] at HV
      have HFL : Hid (flowsR who lab = false) := by rw [Hid, flowsR_eq, hfl]
      go_enter Try.func18, Try.ntmps18
      go_wp2_with fail
      refine HW.out.mono ?_; rintro e w' ⟨rfl, rfl⟩
      go_wp2_with fail
      refine (Flows_ref who lab _).mono ?_; rw [HFL.out]; rintro e w' ⟨rfl, rfl⟩
      go_wp2_with fail
      go_ret
      rw [writeF, HV.out]
      exact HE.out _
    · rw [hfl] at HV
      have HFL : Hid (flowsR who lab = true) := by rw [Hid, flowsR_eq, hfl]
      by_cases h16 : m = 16
      · subst h16
        have HS := Lib.hid hs
        clear hs hfl
        go_enter Try.func18, Try.ntmps18
        go_wp2_with fail
        refine HW.out.mono ?_; rintro e w' ⟨rfl, rfl⟩
        go_wp2_with fail
        refine (Flows_ref who lab _).mono ?_; rw [HFL.out]; rintro e w' ⟨rfl, rfl⟩
        go_wp2_with fail
        refine (rset_any _ _ _ _ _ _ _ _ _ _ k (by omega) _ _ s HS.out w H.out HR.out (HDJ.out (by first | rfl | trivial))).mono ?_; rintro e w3 ⟨rfl, hd3, hm3⟩
        have H3 := Lib.hid hd3; have HM3 := Lib.hid hm3
        clear hd3 hm3
        go_wp2_with fail
        go_ret
        rw [writeF, HV.out]
        exact ⟨rfl, by simpa using H3.out, HM3.out⟩
      · have ne : ((m : Int) != 16) = true := by simp; omega
        have hv1 : writeE R (l.map (·.1)) who k m = 1 := by have := HV.out; rw [if_pos rfl, if_neg h16] at this; exact this
        have HV1 := Lib.hid hv1
        clear h16 hfl hv1
        go_enter Try.func18, Try.ntmps18
        go_wp2_with fail
        refine HW.out.mono ?_; rintro e w' ⟨rfl, rfl⟩
        go_wp2_with fail
        refine (Flows_ref who lab _).mono ?_; rw [HFL.out]; rintro e w' ⟨rfl, rfl⟩
        go_wp2_with fail
        go_ret
        rw [writeF, HV1.out]
        exact HE.out _
end Go.Proofs.Ytlafijnmoaenaaa
