/- The reference's ports: Arrive and Take, walked. -/
import Derived.Test.YtpccllgbccccnaaPortsRef3
namespace Go.Proofs.Ytpccllgbccccnaa
set_option linter.unusedVariables false
set_option linter.unusedSimpArgs false
set_option linter.unnecessarySimpa false
open Go.RowKit Go.Sort
set_option maxHeartbeats 400000
set_option maxRecDepth 100000

theorem inbV_in {s : RS} {vs : List PV} {n : Nat} {v : PV} (h : vs[n]? = some v) : inbV vs (n : Int) = if v.gst = -1 then none else some v := by
  rw [inbV, Vw.atV_in (s := s) h]
  by_cases e : v.gst = -1 <;> simp [Option.filter, e]
set_option maxHeartbeats 4000000 in
theorem rarrive_any (B rr : Nat) (s : RS) (vs : List PV) (t : Int) (txt : ByteArray) (w : World) (h : RSt w B rr s) (hv : Vw s vs) (hs : txt.size ≤ maxLen) (hB : B ≤ w.heap.size) : Calls Try.prog 17 #[.pointer (some ⟨rr, 0, none⟩), .int .i64 t, .string txt] w (RPost B rr s (.int .i64 (arriveV vs t txt).1) (arriveV vs t txt).2 w) := by
  obtain ⟨i0, hi0, hz0, hz1, hz2⟩ := info_parts info_str
  unfold maxLen at hs
  have H := Lib.hid h; have HV := Lib.hid hv
  have h8 := h.l8
  have H1 := Lib.hid (ris B rr s t w h)
  by_cases ht : isI s.P.length t = true
  · rw [ht] at H1
    obtain ⟨ht0, hm⟩ := (isI_iff _ _).1 ht
    obtain ⟨m, rfl⟩ := Int.eq_ofNat_of_zero_le ht0
    have hm : m < s.P.length := by omega
    obtain ⟨g1, g2, g3, e1, e2, e3⟩ := h.reads hm
    obtain ⟨L, hL1, hL2, hL3⟩ := hv.get h.li h.lo hm
    have hiI : m < s.I.length := by rw [h.li]; exact hm
    have hiO : m < s.O.length := by rw [h.lo]; exact hm
    have hAV := inbV_in (s := s) hL1
    have hL2 : s.P[m].2 = -1 → (s.I[m]'hiI).L = [] ∧ (s.O[m]'hiO).L = L ∧ L.length ≤ 64 := hL2
    have hL3 : s.P[m].2 ≠ -1 → (s.I[m]'hiI).L = L ∧ (s.O[m]'hiO).L = [] ∧ L.length ≤ 4 := hL3
    have htb0 : (0 : Int) ≤ m := by omega
    have htb1 : (m : Int) < (s.P.length : Int) := by omega
    have HE1 := Lib.hid e1; have HE2 := Lib.hid e2; have HE3 := Lib.hid e3
    have HLI := Lib.hid h.li; have HLO := Lib.hid h.lo
    obtain ⟨W, hW⟩ : ∃ W, W = w := ⟨_, rfl⟩
    have HR : Hid (RSt W B rr s) := by rw [Hid, hW]; exact h
    have hbW : Hid (Below w.heap.size w W) := by rw [Hid, hW]; exact Below.refl _ _
    rw [← hW] at H1
    obtain ⟨-, y1, yI, yO⟩ := HR.out.cells HE1.out HE2.out HE3.out hm hiI hiO
    obtain ⟨z0, z1, z2⟩ := HR.out.objC HE1.out HE2.out HE3.out
    have gl2 : g2 < W.heap.size := World.block_lt_of_cell? W ⟨g2, m, none⟩ yI
    have gl3 : g3 < W.heap.size := World.block_lt_of_cell? W ⟨g3, m, none⟩ yO
    have gl0 : rr < W.heap.size := HR.out.obj.lt
    have hgoal : ∀ Q : Ending → World → Prop, Calls Try.prog 17 #[.pointer (some ⟨rr, 0, none⟩), .int .i64 m, .string txt] W Q → Calls Try.prog 17 #[.pointer (some ⟨rr, 0, none⟩), .int .i64 m, .string txt] w Q := fun Q hQ => by rw [← hW]; exact hQ
    refine hgoal _ ?_
    clear hgoal hW hv ht0 e1 e2 e3 hL1 ht
    by_cases hg : s.P[m].2 = -1
    · have hgt : (s.P[m].2 == -1) = true := by simpa using hg
      rw [if_pos hg] at hAV
      have HSV : Hid (arriveV vs m txt = (3, vs)) := by rw [Hid, arriveV, hAV]
      clear hg hAV hL2 hL3
      (go_enter Try.func17, Try.ntmps17); (go_wp2_with fail); refine H1.out.mono ?_; rintro e w' ⟨rfl, rfl⟩
      go_wp2_with fail
      go_ret
      rw [HSV.out]
      exact H.out.post HV.out hbW.out
    · rw [if_neg hg] at hAV
      have HG := Lib.hid hg
      have hgt : (s.P[m].2 == -1) = false := by simpa using hg
      have HLm : Hid ((s.I[m]'hiI).L = L) := (hL3 hg).1
      have hL64 := (hL3 hg).2.2
      have hmv : mostV s.P[m].2 = 4 := by rw [mostV, if_neg hg]
      have hS1 : arriveV vs m txt = if 32 < txt.size then (10, vs) else if mostV s.P[m].2 ≤ L.length then (2, vs) else (0, vs.set m ⟨s.P[m].1, s.P[m].2, L ++ [txt]⟩) := by rw [arriveV, hAV]; rfl
      rw [hmv] at hS1
      clear hg hmv hL2 hL3 hAV
      by_cases h32 : txt.size ≤ 32
      · have d1 : decide ((32 : Int) < (txt.size : Int)) = false := by simp; omega
        rw [if_neg (by omega)] at hS1
        by_cases hfu : L.length < 4
        · rw [if_neg (by omega)] at hS1
          have HSV := Lib.hid hS1
          have dk : decide ((4 : Int) ≤ (L.length : Int)) = false := by simp; omega
          clear hS1
          (go_enter Try.func17, Try.ntmps17); (go_wp2_with fail); refine H1.out.mono ?_; rintro e w' ⟨rfl, rfl⟩
          (
            have hcN := HR.out.rowI hiI
            obtain ⟨a0, ha0⟩ : ∃ a, a = s.I[m].a := ⟨_, rfl⟩
            obtain ⟨cc, hcc⟩ : ∃ c, c = s.I[m].cap := ⟨_, rfl⟩
            rw [← ha0, ← hcc, HLm.out] at hcN yI
            have HC := Lib.hid hcN
            have HA0 := Lib.hid ha0
            have HRest : Hid (∀ (W' : World), Mod (blk a0) W W' → _) := Lib.hid (fun (W' : World) (h1 : Mod (blk a0) W W') => HR.out.restI hiI (by rw [← ha0]; exact h1))
            have HX : Hid ((hdF s.I)[m]? = some (.slice a0 L.length cc)) := by rw [Hid, hdF_get s.I m hiI, ← ha0, ← hcc, HLm.out]
            have hfr := (HR.out.free HE2.out HE3.out m).1
            have hBW : B ≤ W.heap.size := Nat.le_trans hB hbW.out.size
            have HAL : Hid (Below W.heap.size W ((W.alloc (.cells #[.string txt] 9)).drew)) := ((Below.refl _ _).alloc (Nat.le_refl _) _).drew
            have dl : decide ((L.length : Int) < 4) = true := by simp; omega
            have hLM : L.length < 4 := by omega
            clear hcN ha0 hcc
            go_wp2_with fail
            go_region_law (refine step_own rfl (.tmp 45) (.tmp 47) 32 rfl B 9 i0 _ 1 16 Try.underlying32 hi0 hz0 hz1 hz2 rfl (by omega) a0 L.length cc (strF L) rfl (HC.out.below HAL.out) W.heap.size [.string txt] rfl (new_block _ _ _ rfl) rfl (by simp [Value.oneCell']) (by simp only [maxLen]; omega) (by omega) (by simp; omega) ?_; intro g' cap' w1 hown hmod hat; have hq := HRest.out w1 ((Mod.ofBelow HAL.out).trans hmod); rw [HE1.out, HE2.out, HE3.out] at hq; have q0 := hq.1.cell 0 _ rfl; have q1 := hq.1.cell 1 _ rfl; have q2 := hq.1.cell 2 _ rfl; have qx := hq.2.cell _ _ HX.out; have qf := hq.2.free m; rw [HLI.out] at q1; rw [HLO.out] at q2)
            all_goals
              have HAT : Hid (∀ q ∈ blk (some (⟨g', 0, none⟩ : Addr)), q ∈ blk s.I[m].a ∨ W.heap.size ≤ q) := fun q hq => by
                simp only [blk, Option.map_some, Option.toList_some, List.mem_singleton] at hq
                subst hq
                rw [← HA0.out]
                refine hat.imp id (fun h => ?_)
                simp at h; omega
              have HOW : Hid (Own w1 B 9 1 (some ⟨g', 0, none⟩) (L ++ [txt]).length cap' (strF (L ++ [txt]))) := by rw [Hid, List.length_append, strF_snoc]; exact hown
              have HM : Hid (Mod (blk s.I[m].a) W w1) := by rw [Hid, ← HA0.out]; exact (Mod.ofBelow HAL.out).trans hmod
              have hp := HR.out.putI (r := .int .i64 0) hbW.out H.out HV.out hm HG.out hiI (by first | exact HE2.out | exact HE3.out) HOW.out (by simp; omega) HM.out HAT.out
              rw [List.length_append] at hp
              have HPP := Lib.hid hp
              clear hp hown hmod hat hq q0 q1 q2 qx qf
              go_wp2_with fail
              go_ret
              rw [HSV.out]
              exact HPP.out
          )
        · rw [if_pos (by omega)] at hS1
          have HSV := Lib.hid hS1
          rw [HLm.out] at yI
          have dl : decide ((4 : Int) ≤ (L.length : Int)) = true := by simp; omega
          clear hS1
          (go_enter Try.func17, Try.ntmps17); (go_wp2_with fail); refine H1.out.mono ?_; rintro e w' ⟨rfl, rfl⟩
          go_wp2_with fail
          go_ret
          rw [HSV.out]
          exact H.out.post HV.out hbW.out
      · have d1 : decide ((32 : Int) < (txt.size : Int)) = true := by simp; omega
        rw [if_pos (by omega)] at hS1
        have HSV := Lib.hid hS1
        clear hS1
        (go_enter Try.func17, Try.ntmps17); (go_wp2_with fail); refine H1.out.mono ?_; rintro e w' ⟨rfl, rfl⟩
        go_wp2_with fail
        go_ret
        rw [HSV.out]
        exact H.out.post HV.out hbW.out
  · have ht' : isI s.P.length t = false := by simpa using ht
    rw [ht'] at H1
    have HSV : Hid (arriveV vs t txt = (3, vs)) := by rw [Hid, arriveV, inbV, hv.atV_out ht']; rfl
    have HRD := Lib.hid (H.out.post (r := .int .i64 3) HV.out (Below.refl _ w))
    clear h hv ht ht' H HV
    (go_enter Try.func17, Try.ntmps17); (go_wp2_with fail); refine H1.out.mono ?_; rintro e w' ⟨rfl, rfl⟩
    go_wp2_with fail
    go_ret
    rw [HSV.out]
    exact HRD.out
end Go.Proofs.Ytpccllgbccccnaa
