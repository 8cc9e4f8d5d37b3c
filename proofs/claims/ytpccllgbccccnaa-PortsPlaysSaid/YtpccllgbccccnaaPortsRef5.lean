/- The reference's ports: Take, walked. -/
import Derived.Test.YtpccllgbccccnaaPortsRef4
namespace Go.Proofs.Ytpccllgbccccnaa
set_option linter.unusedVariables false
set_option linter.unusedSimpArgs false
set_option linter.unnecessarySimpa false
open Go.RowKit Go.Sort
set_option maxHeartbeats 400000
set_option maxRecDepth 100000

theorem new_empty (W : World) : Own ((W.alloc (.cells #[] 9)).drew) W.heap.size 9 1 (some ⟨W.heap.size, 0, none⟩) 0 0 [] :=
  (show Own (W.alloc (.cells #[] 9)) W.heap.size 9 1 (some ⟨W.heap.size, 0, none⟩) 0 0 [] from own_empty W 9 1).below ((Below.refl _ _).drew)
set_option maxHeartbeats 4000000 in
theorem rtake_any (B rr : Nat) (s : RS) (vs : List PV) (t : Int) (w : World) (h : RSt w B rr s) (hv : Vw s vs) (hB : B ≤ w.heap.size) : Calls Try.prog 18 #[.pointer (some ⟨rr, 0, none⟩), .int .i64 t] w (RPost B rr s (.tuple #[.string (takeV vs t).1.1, .bool (takeV vs t).1.2]) (takeV vs t).2 w) := by
  obtain ⟨i0, hi0, hz0, hz1, hz2⟩ := info_parts info_str
  have H := Lib.hid h; have HV := Lib.hid hv
  have h8 := h.l8
  have H1 := Lib.hid (ris B rr s t w h)
  by_cases ht : isI s.P.length t = true
  · rw [ht] at H1
    obtain ⟨ht0, hm⟩ := (isI_iff _ _).1 ht
    obtain ⟨m, rfl⟩ := Int.eq_ofNat_of_zero_le ht0
    have hm : m < s.P.length := by omega
    obtain ⟨g1, g2, g3, e1, e2, e3⟩ := h.reads hm
    obtain ⟨L, hL1, hL2, hL3⟩ := hv.get h.li h.lo hm
    have hiI : m < s.I.length := by rw [h.li]; exact hm
    have hiO : m < s.O.length := by rw [h.lo]; exact hm
    have hAV := inbV_in (s := s) hL1
    have hL2 : s.P[m].2 = -1 → (s.I[m]'hiI).L = [] ∧ (s.O[m]'hiO).L = L ∧ L.length ≤ 64 := hL2
    have hL3 : s.P[m].2 ≠ -1 → (s.I[m]'hiI).L = L ∧ (s.O[m]'hiO).L = [] ∧ L.length ≤ 4 := hL3
    have htb0 : (0 : Int) ≤ m := by omega
    have htb1 : (m : Int) < (s.P.length : Int) := by omega
    have HE1 := Lib.hid e1; have HE2 := Lib.hid e2; have HE3 := Lib.hid e3
    have HLI := Lib.hid h.li; have HLO := Lib.hid h.lo
    obtain ⟨W, hW⟩ : ∃ W, W = w := ⟨_, rfl⟩
    have HR : Hid (RSt W B rr s) := by rw [Hid, hW]; exact h
    have hbW : Hid (Below w.heap.size w W) := by rw [Hid, hW]; exact Below.refl _ _
    rw [← hW] at H1
    obtain ⟨-, -, yI, yO⟩ := HR.out.cells HE1.out HE2.out HE3.out hm hiI hiO
    obtain ⟨z0, z1, z2⟩ := HR.out.objC HE1.out HE2.out HE3.out
    have gl2 : g2 < W.heap.size := World.block_lt_of_cell? W ⟨g2, m, none⟩ yI
    have gl0 : rr < W.heap.size := HR.out.obj.lt
    have hgoal : ∀ Q : Ending → World → Prop, Calls Try.prog 18 #[.pointer (some ⟨rr, 0, none⟩), .int .i64 m] W Q → Calls Try.prog 18 #[.pointer (some ⟨rr, 0, none⟩), .int .i64 m] w Q := fun Q hQ => by rw [← hW]; exact hQ
    refine hgoal _ ?_
    have hTV : takeV vs m = match inbV vs m with
      | some ⟨_, _, []⟩ => ((⟨#[]⟩, false), vs)
      | some ⟨l, g, s :: L⟩ => ((s, true), vs.set m ⟨l, g, L⟩)
      | none => ((⟨#[]⟩, false), vs) := rfl
    rw [hAV] at hTV
    dsimp only at hTV
    clear hgoal hW hv ht0 e1 e2 e3 hL1 ht hAV yO
    by_cases hg : s.P[m].2 = -1
    · have hLm : (s.I[m]'hiI).L = [] := (hL2 hg).1
      rw [if_pos hg] at hTV
      rw [hLm] at yI
      have HSV := Lib.hid hTV
      clear hg hL2 hL3 hLm hTV
      (go_enter Try.func18, Try.ntmps18); (go_wp2_with fail); refine H1.out.mono ?_; rintro e w' ⟨rfl, rfl⟩
      go_wp2_with fail
      go_ret2
      rw [HSV.out]
      exact H.out.post HV.out hbW.out
    · rw [if_neg hg] at hTV
      have HG := Lib.hid hg
      have hLm : (s.I[m]'hiI).L = L := (hL3 hg).1
      have hL64 := (hL3 hg).2.2
      clear hg hL2 hL3
      cases L with
      | nil =>
        have HSV := Lib.hid hTV
        rw [hLm] at yI
        clear hLm hTV
        (go_enter Try.func18, Try.ntmps18); (go_wp2_with fail); refine H1.out.mono ?_; rintro e w' ⟨rfl, rfl⟩
        go_wp2_with fail
        go_ret2
        rw [HSV.out]
        exact H.out.post HV.out hbW.out
      | cons x L =>
        have HSV := Lib.hid hTV
        have hrow := HR.out.rowI hiI
        obtain ⟨cc, hcc⟩ : ∃ c, c = s.I[m].cap := ⟨_, rfl⟩
        obtain ⟨ga, hga, _, _⟩ := hrow.at_ (by rw [hLm]; simp)
        have HGA := Lib.hid hga
        have HX : Hid ((hdF s.I)[m]? = some (.slice (some ⟨ga, 0, none⟩) (L.length + 1) cc)) := by rw [Hid, hdF_get s.I m hiI, hga, ← hcc, hLm]; rfl
        rw [hga, ← hcc, hLm] at hrow yI
        have k0 := hrow.cell 0 (.string x) rfl
        have hcap : L.length + 1 ≤ cc := hrow.le
        have hlen : L.length ≤ 3 := by simp at hL64; omega
        have hr1 := hrow.rd.cut (k := 1) (c := cc) (by simp) hcap
        rw [show (x :: L).length - 1 = L.length from rfl, show (strF (x :: L)).drop (1 * 1) = strF L from rfl] at hr1
        have yI : W.cell? ⟨g2, m, none⟩ = some (.slice (some ⟨ga, 0, none⟩) (L.length + 1) cc) := yI
        have HRest : Hid (∀ (W' : World), Mod [] W W' → _) := Lib.hid (fun (W' : World) (h1 : Mod [] W W') => HR.out.restI hiI (h1.mono (fun k _ hk => by simp at hk)))
        have hfr := (HR.out.free HE2.out HE3.out m).1
        have hBW : B ≤ W.heap.size := Nat.le_trans hB hbW.out.size
        have HAL : Hid (Below W.heap.size W ((W.alloc (.cells #[] 9)).drew)) := ((Below.refl _ _).alloc (Nat.le_refl _) _).drew
        clear hTV hLm hL64 hga hrow hcc
        by_cases hc1 : cc = 1
        · obtain rfl : L = [] := List.eq_nil_of_length_eq_zero (by omega)
          subst hc1
          rw [if_pos rfl] at hr1
          have HRow := Lib.hid hr1
          clear hr1
          (
          (go_enter Try.func18, Try.ntmps18); (go_wp2_with fail); refine H1.out.mono ?_; rintro e w' ⟨rfl, rfl⟩
          go_wp2_with fail
          go_region_law (refine step_more rfl (.tmp 36) (.tmp 44) 32 rfl W.heap.size 9 i0 _ 1 16 Try.underlying32 hi0 hz0 hz1 hz2 rfl (by omega) (some ⟨W.heap.size, 0, none⟩) 0 0 [] rfl (new_empty W) _ (([] : List ByteArray)).length _ (strF (([] : List ByteArray))) rfl (HRow.out.below HAL.out) (str_one _) (by simp only [maxLen]; omega) (by omega) (by simp) ?_; intro a' cap' w1 hown hmod hat; have hq := HRest.out w1 ((Mod.ofBelow HAL.out).then hmod (fun k hk hk2 => by simp [blk] at hk; omega)); rw [HE1.out, HE2.out, HE3.out] at hq; have q0 := hq.1.cell 0 _ rfl; have q1 := hq.1.cell 1 _ rfl; have q2 := hq.1.cell 2 _ rfl; have qx := hq.2.cell _ _ HX.out; have qf := hq.2.free m; rw [HLI.out] at q1; rw [HLO.out] at q2)
          all_goals
            have HAT : Hid (∀ q ∈ blk a', q ∈ blk s.I[m].a ∨ W.heap.size ≤ q) := fun q hq => .inr (hown.ge q hq).1
            have HOW : Hid (Own w1 B 9 1 a' (([] : List ByteArray)).length cap' (strF (([] : List ByteArray)))) := by
              have := hown.mono hBW
              rw [Nat.zero_add, List.nil_append] at this
              exact this
            have HM : Hid (Mod (blk s.I[m].a) W w1) := (Mod.ofBelow HAL.out).then hmod (fun k hk hk2 => by simp [blk] at hk; omega)
            have hp := HR.out.putI (r := .tuple #[.string x, .bool true]) hbW.out H.out HV.out hm HG.out hiI HE2.out HOW.out (by first | omega | simp) HM.out HAT.out
            have HPP := Lib.hid hp
            clear hp hown hmod hat hq q0 q1 q2 qx qf
            go_wp2_with fail
            go_ret2
            rw [HSV.out]
            exact HPP.out
          )
        · rw [if_neg hc1] at hr1
          have HRow := Lib.hid hr1
          have hl1 : (1 : Int) ≤ (L.length : Int) + 1 := by omega
          clear hr1
          (
          (go_enter Try.func18, Try.ntmps18); (go_wp2_with fail); refine H1.out.mono ?_; rintro e w' ⟨rfl, rfl⟩
          go_wp2_with fail
          go_region_law (refine step_more rfl (.tmp 36) (.tmp 44) 32 rfl W.heap.size 9 i0 _ 1 16 Try.underlying32 hi0 hz0 hz1 hz2 rfl (by omega) (some ⟨W.heap.size, 0, none⟩) 0 0 [] rfl (new_empty W) _ (L).length _ (strF (L)) rfl (HRow.out.below HAL.out) (str_one _) (by simp only [maxLen]; omega) (by omega) (by simp) ?_; intro a' cap' w1 hown hmod hat; have hq := HRest.out w1 ((Mod.ofBelow HAL.out).then hmod (fun k hk hk2 => by simp [blk] at hk; omega)); rw [HE1.out, HE2.out, HE3.out] at hq; have q0 := hq.1.cell 0 _ rfl; have q1 := hq.1.cell 1 _ rfl; have q2 := hq.1.cell 2 _ rfl; have qx := hq.2.cell _ _ HX.out; have qf := hq.2.free m; rw [HLI.out] at q1; rw [HLO.out] at q2)
          all_goals
            have HAT : Hid (∀ q ∈ blk a', q ∈ blk s.I[m].a ∨ W.heap.size ≤ q) := fun q hq => .inr (hown.ge q hq).1
            have HOW : Hid (Own w1 B 9 1 a' (L).length cap' (strF (L))) := by
              have := hown.mono hBW
              rw [Nat.zero_add, List.nil_append] at this
              exact this
            have HM : Hid (Mod (blk s.I[m].a) W w1) := (Mod.ofBelow HAL.out).then hmod (fun k hk hk2 => by simp [blk] at hk; omega)
            have hp := HR.out.putI (r := .tuple #[.string x, .bool true]) hbW.out H.out HV.out hm HG.out hiI HE2.out HOW.out (by first | omega | simp) HM.out HAT.out
            have HPP := Lib.hid hp
            clear hp hown hmod hat hq q0 q1 q2 qx qf
            go_wp2_with fail
            go_ret2
            rw [HSV.out]
            exact HPP.out
          )
  · have ht' : isI s.P.length t = false := by simpa using ht
    rw [ht'] at H1
    have HSV : Hid (takeV vs t = ((⟨#[]⟩, false), vs)) := by rw [Hid, takeV, inbV, hv.atV_out ht']; rfl
    have HRD := Lib.hid (H.out.post (r := .tuple #[.string ⟨#[]⟩, .bool false]) HV.out (Below.refl _ w))
    clear h hv ht ht' H HV
    (go_enter Try.func18, Try.ntmps18); (go_wp2_with fail); refine H1.out.mono ?_; rintro e w' ⟨rfl, rfl⟩
    go_wp2_with fail
    go_ret2
    rw [HSV.out]
    exact HRD.out
end Go.Proofs.Ytpccllgbccccnaa
