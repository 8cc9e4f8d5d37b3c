/- The walk of Arrive; ports.New where it refuses. -/
import Derived.Test.YtpccllgbccccnaaPorts5
namespace Go.Proofs.Ytpccllgbccccnaa
set_option linter.unusedVariables false
set_option linter.unusedSimpArgs false
set_option linter.unnecessarySimpa false
open Go.RowKit Go.Sort
set_option maxHeartbeats 400000
set_option maxRecDepth 100000

def arriveV (vs : List PV) (t : Int) (s : ByteArray) : Int × List PV := match inbV vs t with
  | none => (3, vs)
  | some v => if 32 < s.size then (10, vs) else if mostV v.gst ≤ v.L.length then (2, vs) else (0, vs.set t.toNat ⟨v.lab, v.gst, v.L ++ [s]⟩)
set_option maxHeartbeats 1600000 in
theorem arrive_any (B pp cp : Nat) (gp : Option Addr) (i : Int) (s : ByteArray) (ps : List Pt) (w : World) (h : PSt w B pp gp cp ps) (hs : s.size ≤ maxLen) (hB : B ≤ w.heap.size) :
    Calls Try.prog 9 #[.pointer (some ⟨pp, 0, none⟩), .int .i64 i, .string s] w (PPost B pp gp cp ps (.int .i64 (arriveV (viewP ps) i s).1) (arriveV (viewP ps) i s).2 w) := by
  unfold maxLen at hs
  have H := Lib.hid h
  have c1 := h.obj.cell 1 _ rfl
  cases hi : inbV (viewP ps) i with
  | none =>
    have H1 := Lib.hid (inbox_no B pp cp gp i ps w h hi)
    have hv : Hid (arriveV (viewP ps) i s = (3, viewP ps)) := by rw [Hid, arriveV, hi]
    clear h hi
    go_enter Try.func9, Try.ntmps9
    go_wp2_with fail
    refine H1.out.mono ?_; rintro e w' ⟨rfl, rfl⟩
    go_wp2_with fail
    go_ret
    rw [hv.out]
    exact H.out.post (Below.refl _ _) hB
  | some v =>
    obtain ⟨n, rfl, hn, hg, rfl⟩ := inb_some ps i v hi
    obtain ⟨g, rfl⟩ := h.at_ hn
    have H1 := Lib.hid (inbox_in B pp g cp n ps w h hn hg)
    have hl := h.few _ (List.getElem_mem hn)
    have hv : Hid (arriveV (viewP ps) n s = if 32 < s.size then (10, viewP ps) else if mostV ps[n].gst ≤ ps[n].L.length then (2, viewP ps) else (0, (viewP ps).set n ⟨ps[n].lab, ps[n].gst, ps[n].L ++ [s]⟩)) := by rw [Hid, arriveV, hi]; rfl
    clear hi hg
    by_cases h32 : 32 < s.size
    · have d1 : decide ((32 : Int) < (s.size : Int)) = true := by simp; omega
      clear h
      go_enter Try.func9, Try.ntmps9
      go_wp2_with fail
      refine H1.out.mono ?_; rintro e w' ⟨rfl, rfl⟩
      go_wp2_with fail
      go_ret
      rw [hv.out, if_pos h32]
      exact H.out.post (Below.refl _ _) hB
    · have d1 : decide ((32 : Int) < (s.size : Int)) = false := by simp; omega
      have HF := Lib.hid (full_any g (n * 3) _ _ _ _ w (h.get hn).2.1 (h.get hn).2.2 (by omega))
      clear h
      by_cases hfu : mostV ps[n].gst ≤ ps[n].L.length
      · rw [show decide (mostV ps[n].gst ≤ ps[n].L.length) = true from by simpa using hfu] at HF
        go_enter Try.func9, Try.ntmps9
        go_wp2_with fail
        refine H1.out.mono ?_; rintro e w' ⟨rfl, rfl⟩
        go_wp2_with fail
        refine HF.out.mono ?_; rintro e w5 ⟨rfl, hb5⟩
        go_wp2_with fail
        go_ret
        rw [hv.out, if_neg h32, if_pos hfu]
        exact H.out.post hb5 hB
      · rw [show decide (mostV ps[n].gst ≤ ps[n].L.length) = false from by simpa using hfu] at HF
        go_enter Try.func9, Try.ntmps9
        go_wp2_with fail
        refine H1.out.mono ?_; rintro e w' ⟨rfl, rfl⟩
        go_wp2_with fail
        refine HF.out.mono ?_; rintro e w5 ⟨rfl, hb5⟩
        have HB5 := Lib.hid hb5
        have h5 := Lib.hid (H.out.below hb5)
        clear hb5
        go_wp2_with fail
        refine (put_yes _ _ B _ _ _ _ _ _ _ _ _ h5.out.own (ptF_get ps n 1 hn (by omega)) (ptF_get ps n 2 hn (by omega)) (h5.out.rows n hn) (by omega) hfu (Nat.le_trans hB HB5.out.size)).mono ?_; intro e w7 hp7
        obtain ⟨rfl, hp8⟩ := h5.out.post_put (r' := .int .i64 0) HB5.out hB hn hp7 (by have := most_le ps[n].gst; simp; omega)
        have HP8 := Lib.hid hp8
        clear hp7 hp8
        go_wp2_with fail
        go_ret
        rw [hv.out, if_neg h32, if_neg hfu]
        exact HP8.out
def NewAll (B : Nat) (l : List Po) (w : World) (e : Ending) (w' : World) : Prop :=
  if l.all (fun x => isB x.1) = true then NewPost B l w e w' else e = .returned (.tuple #[.pointer none, .int .i64 15]) ∧ Below w.heap.size w w'
theorem new_long (a : Option Addr) (n c : Nat) (w : World) (hn : 8 < n) (hc : n ≤ maxLen) :
    Calls Try.prog 13 #[.slice a n c] w fun e w' => e = .returned (.tuple #[.pointer none, .int .i64 15]) ∧ w = w' := by
  unfold maxLen at hc
  have d1 : decide ((8 : Int) < (n : Int)) = true := by simp; omega
  go_enter Try.func13, Try.ntmps13
  go_wp2
  go_ret2
  exact ⟨rfl, rfl⟩
set_option maxHeartbeats 1600000 in
theorem new_all (B : Nat) (a : Option Addr) (c : Nat) (l : List Po) (w : World) (hr : Rd w 2 a l.length (poF l)) (hle : l.length ≤ c) (hc : c ≤ maxLen) (hl8 : l.length ≤ 8) (hB : B ≤ w.heap.size) :
    Calls Try.prog 13 #[.slice a l.length c] w (NewAll B l w) := by
  obtain ⟨i0, hi0, hz0, hz1, hz2⟩ := info_parts info_port
  unfold maxLen at hc
  have HR := Lib.hid hr
  clear hr
  go_enter Try.func13, Try.ntmps13
  go_wp2_with fail
  have hal : Below w.heap.size w (w.alloc (.cells #[.slice none 0 0, .bool true] 25)) := (Below.refl _ _).alloc (Nat.le_refl _) _
  have HP0 : Hid (PSt (w.alloc (.cells #[.slice none 0 0, .bool true] 25)) w.heap.size w.heap.size none 0 []) :=
    ⟨new_block w _ _ rfl, Own.nil _ _ _ _, fun i hi => absurd hi (by simp), fun i j hi => absurd hi (by simp), by simp, by simp⟩
  have HB0 := Lib.hid hal
  clear hal
  obtain ⟨pp, hpp⟩ : ∃ pp, pp = w.heap.size := ⟨_, rfl⟩
  have HP0 : Hid (PSt (w.alloc (.cells #[.slice none 0 0, .bool true] 25)) w.heap.size pp none 0 []) := by rw [Hid, hpp]; exact HP0.out
  have HPP : Hid (w.heap.size ≤ pp) := by rw [Hid, hpp]; exact Nat.le_refl _
  rw [← hpp]
  clear hpp
  go_loopw [14] (fun i wr => ∃ (k : Nat) (gp : Option Addr) (cp : Nat) (ps : List Pt), k ≤ l.length ∧ i = .int .i64 k ∧ ps.length = k ∧ viewP ps = (l.take k).map poV ∧ (l.take k).all (fun x => isB x.1) = true ∧ PSt wr w.heap.size pp gp cp ps ∧ Below w.heap.size w wr) (fun i _ => l.length - (intOf i).toNat)
  case atStart => exact ⟨0, none, 0, [], Nat.zero_le _, rfl, rfl, rfl, rfl, HP0.out, HB0.out⟩
  case round =>
    clear HP0 HB0
    obtain ⟨k, gp, cp, ps, hk, rfl, hpl, hvw, hal0, hp, hb⟩ := hrel
    have HAL0 := Lib.hid hal0
    clear hal0
    have HP := Lib.hid hp; have HB := Lib.hid hb; have HV := Lib.hid hvw
    clear hp hb hvw
    by_cases hlt : k < l.length
    · have hne : poF l ≠ [] := by intro h0; have := poF_len l; rw [h0] at this; simp at this; omega
      have ha : a ≠ none := fun h0 => by have := HR.out.2.1 h0; omega
      obtain ⟨p, rfl⟩ := Option.ne_none_iff_exists'.1 ha
      obtain ⟨b0, o0, rfl, _, gc⟩ := (HR.out.below HB.out).2.2 p rfl hne
      have hxc := count_neg l[k].1
      have hrow : wr.rangeAt b0 (o0 + k * 2) (poC l[k]) := fun j v hv => by
        have hj : j < 2 := (List.getElem?_eq_some_iff.1 hv).1
        have := gc (k * 2 + j) v (by rw [poF_get l k j hlt hj]; exact hv)
        rwa [← Nat.add_assoc] at this
      have HT : Hid (l.take (k + 1) = l.take k ++ [l[k]]) := List.take_succ_eq_append_getElem hlt
      have HM : Hid (l[k] ∈ l) := List.getElem_mem hlt
      clear hne ha gc
      generalize l[k] = x at hxc hrow HT HM
      obtain ⟨lab, gst⟩ := x
      have hrow : wr.rangeAt b0 (o0 + k * 2) [.int .i64 lab, .int .i64 gst] := hrow
      have k0 := hrow 0 _ rfl
      have k1 := hrow 1 _ rfl
      rw [Nat.add_zero] at k0
      clear hrow
      have hb0 : (0 : Int) ≤ k := by omega
      have hb1 : (k : Int) < (l.length : Int) := by omega
      cases hE : isB lab
      · have d1 : decide (countI lab < 0) = true := by
          have : countI lab < 0 := hxc.2 hE
          simpa using this
        have HE := Lib.hid hE
        clear hxc hE
        go_wp2_with (go_at_call 28; refine (count_any _ _).mono ?_; rintro e w' ⟨rfl, rfl⟩)
        go_ret2
        rw [NewAll, if_neg (by
          simp only [List.all_eq_true]
          intro h0
          have h1 := h0 _ HM.out
          rw [HE.out] at h1
          cases h1)]
        exact ⟨rfl, bmore HB.out ((Below.refl _ _).alloc (Nat.le_refl _) _)⟩
      · have d1 : decide (countI lab < 0) = false := by
          have : ¬ countI lab < 0 := fun h => by rw [hxc.1 h] at hE; cases hE
          simpa using this
        have HE := Lib.hid hE
        clear hxc hE
        go_wp2_with (go_at_call 28; refine (count_any _ _).mono ?_; rintro e w' ⟨rfl, rfl⟩)
        obtain ⟨W1, hW1⟩ : ∃ W, W = wr.alloc (.cells #[.int .i64 lab, .int .i64 gst] 37) := ⟨_, rfl⟩
        rw [← hW1]
        have hal : Below wr.heap.size wr W1 := by rw [hW1]; exact (Below.refl _ _).alloc (Nat.le_refl _) _
        have HP1 := Lib.hid (HP.out.below hal)
        have HB1 := Lib.hid (bmore HB.out hal)
        have HX : ObjAt W1 wr.heap.size 37 [.int .i64 lab, .int .i64 gst] := by rw [hW1]; exact new_block _ _ _ rfl
        have x0 := HX.cell 0 _ rfl
        have x1 := HX.cell 1 _ rfl
        have c0 := HP1.out.obj.cell 0 _ rfl
        have hlt0 := HP1.out.obj.lt
        have hBW : w.heap.size ≤ W1.heap.size := HB1.out.size
        have HO1 : Hid (Own W1 w.heap.size 60 3 gp k cp (ptF ps)) := by have := HP1.out.own; rw [hpl] at this; exact this
        have HAL : Hid (Below W1.heap.size W1 ((W1.alloc (.cells #[.int .i64 lab, .int .i64 gst, .slice none 0 0] 60)).drew)) := ((Below.refl _ _).alloc (Nat.le_refl _) _).drew
        clear hW1 hal k0 k1 HX HP HB d1
        go_region_law (refine step_own rfl (.tmp 26) (.tmp 29) 23 rfl w.heap.size 60 i0 _ 3 40 Try.underlying23 hi0 hz0 hz1 hz2 rfl (by omega) gp k cp (ptF ps) rfl (HO1.out.below HAL.out) W1.heap.size [.int .i64 lab, .int .i64 gst, .slice none 0 0] rfl (new_block _ _ _ rfl) rfl (by simp [Value.oneCell']) (by simp only [maxLen]; omega) (by omega) (by simp; omega) ?_; intro g' cap' w1 hown hmod hat; have h1 := (HP1.out.obj.below HAL.out).mod hmod (HP1.out.own.ne HP1.out.obj (by decide)); have d0 := h1.cell 0 _ rfl; have e0 := h1.free 0)
        all_goals
          have HP2 := Lib.hid ((HP1.out.below HAL.out).push (lab := lab) (gst := gst) hpl (by omega) hown hmod)
          have HB2 : Hid (Below w.heap.size w (w1.setCell ⟨pp, 0, none⟩ (.slice (some ⟨g', 0, none⟩) (k + 1) cap'))) :=
            bupd ((bmore HB1.out HAL.out).trans (hmod.below (fun k hk => (HP1.out.own.ge k hk).1) (by simp; omega))) (Upd.setCell w1 ⟨pp, 0, none⟩ _) HPP.out
          clear hown hmod hat x0 x1 c0
          go_wp2_with fail
          go_roundw
          case rel => exact ⟨k + 1, some ⟨g', 0, none⟩, cap', ps ++ [⟨lab, gst, none, 0, []⟩], by omega, by go_num, by simp [hpl], by rw [HT.out, List.map_append, ← HV.out]; simp [viewP, Pt.v, poV], by rw [HT.out, List.all_append, HAL0.out]; simpa using HE.out, HP2.out, HB2.out⟩
          case measure => simp [intOf]; omega
    · have hkl : k = l.length := by omega
      go_wp2_with fail
      go_ret2
      have HA := HAL0.out
      rw [hkl, List.take_length] at HA
      rw [NewAll, if_pos HA]
      refine ⟨pp, gp, cp, ps, rfl, HP.out.mono hB, ?_, HB.out, HPP.out⟩
      rw [HV.out, hkl, List.take_length]
end Go.Proofs.Ytpccllgbccccnaa
