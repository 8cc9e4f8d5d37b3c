/- Package hermitageref24: New. -/
import Derived.Test.YtlafijnmoaenaaaDRef4
import Derived.Deep.RegionHeld3
namespace Go.Proofs.Ytlafijnmoaenaaa
set_option linter.unusedVariables false
set_option linter.unusedSimpArgs false
set_option linter.unnecessarySimpa false
open Go.RowKit Go.Sort
set_option maxHeartbeats 400000
set_option maxRecDepth 100000

theorem newV_ok : ∀ (l : List Rg) (i : Nat) (R R' : List Rn), newV i R l = some R' → Okr 32 R → (i + l.length ≤ 64) → Okr 32 R'
  | [], _, R, R', h, h0, _ => by injection h with h; subst h; exact h0
  | x :: l, i, R, R', h, h0, hi => by
    unfold newV at h
    split at h
    · refine newV_ok l (i + 1) _ R' h ?_ (by simp at hi; omega)
      unfold giveV
      split
      · rename_i hw
        obtain ⟨w1, w2, w3, w4, w5, w6⟩ := (wellG_iff _ _ _ _).1 hw
        split
        · exact h0
        · rename_i hm
          exact h0.add (by omega) (by omega) (by omega) (by simpa using hm)
      · exact h0
    · cases h
theorem ofgive {R : List Rn} (h0 : Okr 32 R) {x y : Int} {i : Nat} : Okr 32 (giveV 32 R x y i).2 := by
  unfold giveV
  split
  · rename_i hw
    obtain ⟨w1, w2, w3, w4, w5, w6⟩ := (wellG_iff _ _ _ _).1 hw
    split
    · exact h0
    · rename_i hm
      exact h0.add (by omega) (by omega) (by omega) (by simpa using hm)
  · exact h0
def RNewPost (l : List Rg) (w : World) (e : Ending) (w' : World) : Prop :=
  (∃ R rr tr ra rc ta tc, newV 0 [] l = some R ∧ e = .returned (.tuple #[.pointer (some ⟨rr, 0, none⟩), .int .i64 0]) ∧ RDS w' w.heap.size rr ra rc l tr ta tc R (fun _ => z16) ∧ Below w.heap.size w w' ∧ w.heap.size ≤ rr) ∨
  (newV 0 [] l = none ∧ e = .returned (.tuple #[.pointer none, .int .i64 14]) ∧ Below w.heap.size w w')
theorem info_rg : (Try.prog.info? 45).map (fun i => (i.zero, i.size, i.bytes)) = some (some (.agg #[.int .i64 0, .int .i64 0, .int .i64 0]), 3, 24) := by kernel_rfl
theorem rnew_end (l : List Rg) (R : List Rn) (w wr w3 : World) (a4 : Option Addr) (tc c4 tr : Nat) (ta : Option Addr) (hn : newV 0 [] l = newV l.length R (l.drop l.length)) (ht : RT wr w.heap.size tr ta tc (ownV R) 32) (hok : Okr 32 R) (hb : Below w.heap.size w wr)
    (ho : Own w3 wr.heap.size 45 3 a4 l.length c4 (rgF l)) (hb3 : Below wr.heap.size wr w3) :
    RNewPost l w (.returned (.tuple #[.pointer (some ⟨w3.heap.size, 0, none⟩), .int .i64 0])) (w3.alloc (.cells (Value.slice a4 l.length c4 :: .pointer (some ⟨tr, 0, none⟩) :: bC (big (fun _ => z16))).toArray 63)) := by
  have hal : Below w3.heap.size w3 (w3.alloc (.cells (Value.slice a4 l.length c4 :: .pointer (some ⟨tr, 0, none⟩) :: bC (big (fun _ => z16))).toArray 63)) := (Below.refl _ _).alloc (Nat.le_refl _) _
  have hn' : newV 0 [] l = some R := by rw [hn, List.drop_length]; rfl
  have hown := newV_own l 0 [] R hn' (by simp)
  rw [Nat.zero_add] at hown
  have h1 := hb.size; have h2 := hb3.size
  exact .inl ⟨R, w3.heap.size, tr, a4, c4, ta, tc, hn', rfl, ⟨ObjAt.new w3 63 _, (ho.mono (by omega)).below hal, (ht.below hb3).below hal, hok, hown, fun _ => rfl⟩, bmore (bmore hb hb3) hal, by omega⟩
theorem zero_rd (w : World) : (zeroValue 63).run Try.prog w = .ok (.agg (Value.slice none 0 0 :: .pointer none :: bC (big (fun _ => z16))).toArray) w := by kernel_rfl
set_option maxHeartbeats 8000000 in
theorem rdnew_any (ra : Option Addr) (rc : Nat) (l : List Rg) (w : World) (hr : Rd w 3 ra l.length (rgF l)) (hle : l.length ≤ rc) (hc : rc ≤ maxLen) (hl8 : l.length ≤ 8) :
    Calls Try.prog 15 #[.slice ra l.length rc] w (RNewPost l w) := by
  obtain ⟨i0, hi0, hz0, hz1, hz2⟩ := info_parts info_rg
  unfold maxLen at hc
  have HR := Lib.hid hr
  clear hr
  have d8 : decide ((8 : Int) < (l.length : Int)) = false := by simp; omega
  have d8' : decide (8 < l.length) = false := by simp; omega
  go_enter Try.func15, Try.ntmps15
  go_wp2_with fail
  refine (rnew_yes 32 (by omega) w).mono ?_; rintro e w1 ⟨ta0, tc0, rfl, ht1, hb1⟩
  have HT0 : Hid (RT w1 w.heap.size w.heap.size ta0 tc0 (ownV []) 32) := ht1
  have HB0 := Lib.hid hb1
  obtain ⟨tr, htr⟩ : ∃ tr, tr = w.heap.size := ⟨_, rfl⟩
  have HT0 : Hid (RT w1 w.heap.size tr ta0 tc0 (ownV []) 32) := by rw [htr]; exact HT0
  have HGE : Hid (w.heap.size ≤ tr) := by rw [Hid, htr]; exact Nat.le_refl _
  rw [← htr]
  clear ht1 hb1 htr
  go_wp2_with fail
  go_loopw [6] (fun i wr => ∃ (j : Nat) (ta : Option Addr) (tc : Nat) (R : List Rn), j ≤ l.length ∧ i = .int .i64 j ∧ RT wr w.heap.size tr ta tc (ownV R) 32 ∧ Okr 32 R ∧ Below w.heap.size w wr ∧ newV 0 [] l = newV j R (l.drop j)) (fun i _ => l.length - (intOf i).toNat)
  case atStart => exact ⟨0, ta0, tc0, [], Nat.zero_le _, rfl, HT0.out, Okr.nil (by omega), HB0.out, by simp⟩
  case round =>
    clear HT0 HB0
    obtain ⟨j, ta, tc, R, hj, rfl, ht, hok, hb, hnew⟩ := hrel
    have HT := Lib.hid ht; have HB := Lib.hid hb; have HNW := Lib.hid hnew; have HOK := Lib.hid hok
    clear ht hb hnew hok
    by_cases hlt : j < l.length
    · have hd0 : decide ((j : Int) < (l.length : Int)) = true := by simp; omega
      obtain ⟨b0, o0, rfl, hb0w, k0, k1, k2⟩ := rg_at (HR.out.below HB.out) j hlt
      have hdr : l.drop j = l[j] :: l.drop (j + 1) := List.drop_eq_getElem_cons hlt
      have HNX : Hid (newV 0 [] l = if isB l[j].1 && ((giveV 32 R l[j].2.1 l[j].2.2 j).1 == 0) then newV (j + 1) (giveV 32 R l[j].2.1 l[j].2.2 j).2 (l.drop (j + 1)) else none) := by rw [Hid, HNW.out, hdr]; rfl
      have HCC := Lib.hid (fun W (hW : Below w.heap.size w W) => rg_at (HR.out.below hW) j hlt)
      clear hdr
      generalize l[j] = x at *
      obtain ⟨lab, fr, nn⟩ := x
      dsimp only at k0 k1 k2 HNX HCC
      have HKK : Hid (∀ W, Below w.heap.size w W → W.cell? ⟨b0, o0 + j * 3, none⟩ = some (.int .i64 lab) ∧ W.cell? ⟨b0, o0 + j * 3 + 1, none⟩ = some (.int .i64 fr) ∧ W.cell? ⟨b0, o0 + j * 3 + 2, none⟩ = some (.int .i64 nn)) := fun W hW => by
        obtain ⟨b1, o1, e, _, c0, c1, c2⟩ := HCC.out W hW
        injection e with e
        injection e with e1 e2
        subst e1 e2
        exact ⟨c0, c1, c2⟩
      have hj0 : (0 : Int) ≤ j := by omega
      have hj1 : (j : Int) < (l.length : Int) := by omega
      clear HCC
      cases hib : isB lab
      · have HN : Hid (newV 0 [] l = none) := by rw [Hid, HNX.out, hib]; rfl
        have HIS : Hid (∀ W, Calls Try.prog 32 #[.int .i64 lab] W fun e w' => e = .returned (.bool false) ∧ w' = W) := fun W => (Is_ref lab W).mono fun _ _ h => ⟨by rw [h.1, hib], h.2.symm⟩
        clear hib
        go_wp2_with fail
        go_quiet ((go_at_call 32; exact Calls.quiet_of_same (HIS.out _)))
        have HBD : Hid (Below w.heap.size w (wr.drewN nq)) := below_drewN HB.out nq
        go_wp2_with fail
        go_ret2
        exact .inr ⟨HN.out, rfl, HBD.out⟩
      · rw [hib] at HNX
        have HIB := Lib.hid hib
        have HTD : Hid (RT wr.drew w.heap.size tr ta tc (ownV R) 32) := HT.out.below ((Below.refl _ _).drew)
        have HBD : Hid (Below w.heap.size w wr.drew) := HB.out.drew
        obtain ⟨gr, R2, hgv⟩ : ∃ gr R2, giveV 32 R fr nn j = (gr, R2) := ⟨_, _, rfl⟩
        have HOK2 : Hid (Okr 32 R2) := by have := ofgive HOK.out (x := fr) (y := nn) (i := j); rwa [hgv] at this
        have HGV := Lib.hid hgv
        rw [hgv] at HNX
        clear hib hgv
        by_cases hg0 : gr = 0
        · subst hg0
          have HN2 : Hid (newV 0 [] l = newV (j + 1) R2 (l.drop (j + 1))) := by rw [Hid, HNX.out]; rfl
          clear HNX
          go_wp2_with fail
          go_region_held3 (fun w' => w'.cell? ⟨b0, o0 + j * 3, none⟩ = some (.int .i64 lab) ∧ w'.cell? ⟨b0, o0 + j * 3 + 1, none⟩ = some (.int .i64 fr) ∧ w'.cell? ⟨b0, o0 + j * 3 + 2, none⟩ = some (.int .i64 nn)) (first | (exact HKK.out _ HB.out) | (exact HKK.out _ HBD.out) | (exact HKK.out _ HB2.out)) (first | (go_at_call 32; refine (Is_ref lab _).mono ?_; rw [HIB.out]; rintro e w' ⟨rfl, rfl⟩) | (go_at_call 33; refine (rgive_any _ _ _ 32 _ R fr nn j _ HOK.out HTD.out HBD.out.size).mono ?_; rw [HGV.out]; rintro e w2 ⟨ta2, tc2, rfl, ht2, hm2, hat2⟩; have HT2 := Lib.hid ht2; have HB2 : Hid (Below w.heap.size w w2) := HBD.out.trans (hm2.below (fun q hq => by (rcases List.mem_cons.1 hq with rfl | hq; exact HGE.out; exact (HTD.out.own.ge q hq).1)) HBD.out.size); clear ht2 hm2 hat2))
          go_wp2_with fail
          go_roundw
          case rel => exact ⟨j + 1, ta2, tc2, R2, by omega, by go_num, HT2.out, HOK2.out, HB2.out, HN2.out⟩
          case measure => simp [intOf]; omega
        · have hne : (gr != 0) = true := by simpa using hg0
          have hne2 : (gr == 0) = false := by simpa using hg0
          have HN : Hid (newV 0 [] l = none) := by rw [Hid, HNX.out, hne2]; rfl
          clear hg0 hne2 HNX
          go_wp2_with fail
          go_region_held3 (fun w' => w'.cell? ⟨b0, o0 + j * 3, none⟩ = some (.int .i64 lab) ∧ w'.cell? ⟨b0, o0 + j * 3 + 1, none⟩ = some (.int .i64 fr) ∧ w'.cell? ⟨b0, o0 + j * 3 + 2, none⟩ = some (.int .i64 nn)) (first | (exact HKK.out _ HB.out) | (exact HKK.out _ HBD.out) | (exact HKK.out _ HB2.out)) (first | (go_at_call 32; refine (Is_ref lab _).mono ?_; rw [HIB.out]; rintro e w' ⟨rfl, rfl⟩) | (go_at_call 33; refine (rgive_any _ _ _ 32 _ R fr nn j _ HOK.out HTD.out HBD.out.size).mono ?_; rw [HGV.out]; rintro e w2 ⟨ta2, tc2, rfl, ht2, hm2, hat2⟩; have HB2 : Hid (Below w.heap.size w w2) := HBD.out.trans (hm2.below (fun q hq => by (rcases List.mem_cons.1 hq with rfl | hq; exact HGE.out; exact (HTD.out.own.ge q hq).1)) HBD.out.size); clear ht2 hm2 hat2))
          go_wp2_with fail
          go_ret2
          exact .inr ⟨HN.out, rfl, HB2.out⟩
    · obtain rfl : j = l.length := by omega
      have hd0 : decide ((l.length : Int) < (l.length : Int)) = false := by simp
      have hrb := HB.out.size
      by_cases hl0 : l = []
      · subst hl0
        have HW := fun W3 h1 h2 => rnew_end [] R w wr W3 (some ⟨wr.heap.size, 0, none⟩) tc 0 tr _ HNW.out HT.out HOK.out HB.out h1 h2
        have HOE := Lib.hid (own_empty wr 45 3)
        have HBE : Hid (Below wr.heap.size wr (wr.alloc (.cells #[] 45))) := (Below.refl _ _).alloc (Nat.le_refl _) _
        have hzr := zero_rd (wr.alloc (.cells #[] 45))
        cases ra
        · go_wp2_with fail
          go_ret2
          have HW2 := HW _ HOE.out HBE.out
          rw [World.size_alloc] at HW2
          exact HW2
        · go_wp2_with fail
          go_ret2
          have HW2 := HW _ HOE.out HBE.out
          rw [World.size_alloc] at HW2
          exact HW2
      · have hpos : 0 < l.length := List.length_pos_iff.2 hl0
        obtain ⟨b0, o0, rfl, hb0w, _, _, _⟩ := rg_at (HR.out.below HB.out) 0 hpos
        have HL : Hid ((rgF l).length = l.length * 3) := rgF_len l
        have HOE := Lib.hid (own_empty wr 45 3)
        have HN2 : Hid (∀ W, Below wr.heap.size wr W → ∀ j u, (rgF l)[j]? = some u → W.cell? ((⟨b0, o0, none⟩ : Addr).add j) = some u) := fun W hW j u hu => by
          obtain ⟨b1, o1, e, hb1, hc1⟩ := (HR.out.below HB.out).2.2 _ rfl (by intro h0; rw [h0] at hu; simp at hu)
          injection e with e1 e2
          subst e1 e2
          have e : (⟨b0, o0, none⟩ : Addr).add j = ⟨b0, o0 + j, none⟩ := by unfold Addr.add; split <;> simp_all
          rw [e]; exact (hW.cell (p := ⟨b0, o0 + j, none⟩) hb1).trans (hc1 j u hu)
        have H1 : Hid (∀ u ∈ rgF l, u.oneCell' = true) := fun u hu => by
          obtain ⟨r, hr, hu⟩ := List.mem_flatten.1 hu
          obtain ⟨x, _, rfl⟩ := List.mem_map.1 hr
          simp [rgC] at hu
          rcases hu with rfl | rfl | rfl <;> rfl
        clear hl0
        go_wp2_with (at_builtin; (refine wpList_append_own_at _ rfl (.tmp 43) (.tmp 44) _ rfl wr.heap.size 45 i0 _ 3 24 Try.underlying39 hi0 hz0 hz1 hz2 rfl (by omega) (.slice (some ⟨wr.heap.size, 0, none⟩) 0 0) 0 [] rfl HOE.out ⟨b0, o0, none⟩ l.length rc (rgF l) rfl HL.out (HN2.out _ ((Below.refl _ _).alloc (Nat.le_refl _) _)) H1.out (by simp only [maxLen]; omega) (by omega) (by simp) ?_); intro v1 w3 hown1 hg1 hz hat1; obtain ⟨a4, c4, he4, hown4, hb4⟩ := clone_post (n := l.length) hown1 hg1; cases he4; have hzr := zero_rd w3; have HO4 := Lib.hid hown4; have HB4 := Lib.hid hb4; clear hown1 hg1 hz hat1 hown4 hb4)
        have HW := rnew_end l R w wr w3 a4 tc c4 tr _ HNW.out HT.out HOK.out HB.out HO4.out HB4.out
        go_ret2
        exact HW
end Go.Proofs.Ytlafijnmoaenaaa
