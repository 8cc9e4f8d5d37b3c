/- The reference's ports: Waits, Told, Send, walked. -/
import Derived.Test.YtpccllgbccccnaaPortsRef2
namespace Go.Proofs.Ytpccllgbccccnaa
set_option linter.unusedVariables false
set_option linter.unusedSimpArgs false
set_option linter.unnecessarySimpa false
open Go.RowKit Go.Sort
set_option maxHeartbeats 400000
set_option maxRecDepth 100000

theorem rwaits_any (B rr : Nat) (s : RS) (vs : List PV) (i : Int) (w : World) (h : RSt w B rr s) (hv : Vw s vs) : Calls Try.prog 20 #[.pointer (some ⟨rr, 0, none⟩), .int .i64 i] w fun e w' => e = .returned (.int .i64 (waitsV vs i)) ∧ w = w' := by
  have H1 := Lib.hid (ris B rr s i w h)
  by_cases hi : isI s.P.length i = true
  · rw [hi] at H1
    obtain ⟨h0, hn⟩ := (isI_iff _ _).1 hi
    obtain ⟨n, rfl⟩ := Int.eq_ofNat_of_zero_le h0
    have hn : n < s.P.length := by omega
    obtain ⟨g1, g2, g3, e1, e2, e3⟩ := h.reads hn
    have hin : n < s.I.length := by rw [h.li]; exact hn
    have c2 := (h.cells e1 e2 e3 hn hin (by rw [h.lo]; exact hn)).2.2.1
    have o1 := (h.objC e1 e2 e3).2.1
    have h8 := h.l8
    obtain ⟨L, hL1, hL2, hL3⟩ := hv.get h.li h.lo hn
    have HW : Hid (waitsV vs n = s.I[n].L.length ∧ s.I[n].L.length ≤ 64) := by
      rw [Hid, waitsV, inbV, Vw.atV_in (s := s) hL1]
      by_cases hg : s.P[n].2 = -1
      · simp [Option.filter, hg, (hL2 hg).1]
      · have := hL3 hg
        simp [Option.filter, hg, this.1]; omega
    have hb0 : (0 : Int) ≤ n := by omega
    have hb1 : (n : Int) < (s.P.length : Int) := by omega
    clear h hv hi h0 e1 e2 e3 hL1 hL2 hL3
    have hle := HW.out.2
    generalize s.I[n].L.length = m at c2 HW hle
    generalize s.P.length = N at o1 h8 hb1 hn
    go_enter Try.func20, Try.ntmps20
    go_wp2_with fail
    refine H1.out.mono ?_; rintro e w' ⟨rfl, rfl⟩
    go_wp2_with fail
    go_ret
    rw [HW.out.1]
    exact ⟨rfl, rfl⟩
  · have hi' : isI s.P.length i = false := by simpa using hi
    rw [hi'] at H1
    have HW : Hid (waitsV vs i = 0) := by rw [Hid, waitsV, inbV, hv.atV_out hi']; rfl
    clear h hv hi hi'
    go_enter Try.func20, Try.ntmps20
    go_wp2_with fail
    refine H1.out.mono ?_; rintro e w' ⟨rfl, rfl⟩
    go_wp2_with fail
    go_ret
    exact ⟨by rw [HW.out]; rfl, rfl⟩
theorem rflows_any (a b : Int) (w : World) : Calls Try.prog 31 #[.int .i64 a, .int .i64 b] w fun e w' => e = .returned (.bool (flB a b)) ∧ w = w' := by
  have := Flows_ref a b w
  rwa [flowsR_eq] at this
/-- What Told hands out: it shows the texts; it is the row itself. -/
def ToldPost (L : List ByteArray) (w : World) (e : Ending) (w' : World) : Prop := ∃ a c, e = .returned (.slice a L.length c) ∧ L.length ≤ c ∧ Rd w 1 a L.length (strF L) ∧ w = w'
theorem told_any (B rr : Nat) (s : RS) (vs : List PV) (i : Int) (w : World) (h : RSt w B rr s) (hv : Vw s vs) : Calls Try.prog 21 #[.pointer (some ⟨rr, 0, none⟩), .int .i64 i] w (ToldPost (outV vs i) w) := by
  have H1 := Lib.hid (ris B rr s i w h)
  by_cases hi : isI s.P.length i = true
  · rw [hi] at H1
    obtain ⟨h0, hn⟩ := (isI_iff _ _).1 hi
    obtain ⟨n, rfl⟩ := Int.eq_ofNat_of_zero_le h0
    have hn : n < s.P.length := by omega
    obtain ⟨g1, g2, g3, e1, e2, e3⟩ := h.reads hn
    have hon : n < s.O.length := by rw [h.lo]; exact hn
    have c2 := (h.cells e1 e2 e3 hn (by rw [h.li]; exact hn) hon).2.2.2
    have o1 := (h.objC e1 e2 e3).2.2
    have h8 := h.l8
    have HR := Lib.hid (h.rowO hon)
    obtain ⟨L, hL1, hL2, hL3⟩ := hv.get h.li h.lo hn
    have HW : Hid (outV vs n = s.O[n].L) := by
      rw [Hid, outV, Vw.atV_in (s := s) hL1]
      by_cases hg : s.P[n].2 = -1
      · simp [hg, (hL2 hg).2.1]
      · simp [hg, (hL3 hg).2.1]
    have hb0 : (0 : Int) ≤ n := by omega
    have hb1 : (n : Int) < (s.P.length : Int) := by omega
    clear h hv hi h0 e1 e2 e3 hL1 hL2 hL3
    generalize s.P.length = N at o1 h8 hb1 hn
    go_enter Try.func21, Try.ntmps21
    go_wp2_with fail
    refine H1.out.mono ?_; rintro e w' ⟨rfl, rfl⟩
    go_wp2_with fail
    go_ret
    rw [HW.out]
    exact ⟨_, _, rfl, HR.out.le, HR.out.rd, rfl⟩
  · have hi' : isI s.P.length i = false := by simpa using hi
    rw [hi'] at H1
    have HW : Hid (outV vs i = []) := by rw [Hid, outV, hv.atV_out hi']
    clear h hv hi hi'
    go_enter Try.func21, Try.ntmps21
    go_wp2_with fail
    refine H1.out.mono ?_; rintro e w' ⟨rfl, rfl⟩
    go_wp2_with fail
    go_ret
    rw [HW.out]
    exact ⟨none, 0, rfl, Nat.le_refl _, (Own.nil w 0 9 1).rd, rfl⟩
theorem RSt.free {w : World} {B rr g2 g3 : Nat} {s : RS} (h : RSt w B rr s) (h2 : s.ia = some ⟨g2, 0, none⟩) (h3 : s.oa = some ⟨g3, 0, none⟩) (j : Nat) : w.frozen? ⟨g2, j, none⟩ = false ∧ w.frozen? ⟨g3, j, none⟩ = false := by
  have hq := h.i; rw [h2] at hq
  have hr := h.o; rw [h3] at hr
  exact ⟨hq.free j, hr.free j⟩
/-- Where a row has turned: the rest of the state. -/
theorem RSt.restO {W W' : World} {B rr : Nat} {s : RS} (h : RSt W B rr s) {n : Nat} (hn : n < s.O.length) (hm : Mod (blk s.O[n].a) W W') : ObjAt W' rr 53 [.slice s.pa s.P.length s.pc, .slice s.ia s.I.length s.ic, .slice s.oa s.O.length s.oc] ∧ Own W' B 32 1 s.oa s.O.length s.oc (hdF s.O) :=
  ⟨h.obj.mod hm (h.fam.apart (i := 0) rfl (getO s rr hn) (by omega) rr (by simp [It.fp, RS.objI])), h.o.mod hm (h.fam.apart (i := 3) rfl (getO s rr hn) (by omega))⟩
theorem RSt.restI {W W' : World} {B rr : Nat} {s : RS} (h : RSt W B rr s) {n : Nat} (hn : n < s.I.length) (hm : Mod (blk s.I[n].a) W W') : ObjAt W' rr 53 [.slice s.pa s.P.length s.pc, .slice s.ia s.I.length s.ic, .slice s.oa s.O.length s.oc] ∧ Own W' B 32 1 s.ia s.I.length s.ic (hdF s.I) :=
  ⟨h.obj.mod hm (h.fam.apart (i := 0) rfl (getI s rr hn) (by omega) rr (by simp [It.fp, RS.objI])), h.i.mod hm (h.fam.apart (i := 2) rfl (getI s rr hn) (by omega))⟩
set_option maxHeartbeats 4000000 in
theorem rsend_any (B rr : Nat) (s : RS) (vs : List PV) (f t : Int) (txt : ByteArray) (w : World) (h : RSt w B rr s) (hv : Vw s vs) (hs : txt.size ≤ maxLen) (hB : B ≤ w.heap.size) : Calls Try.prog 19 #[.pointer (some ⟨rr, 0, none⟩), .int .i64 f, .int .i64 t, .string txt] w (RPost B rr s (.tuple #[]) (sendV vs f t txt) w) := by
  obtain ⟨i0, hi0, hz0, hz1, hz2⟩ := info_parts info_str
  unfold maxLen at hs
  have H := Lib.hid h; have HV := Lib.hid hv
  have HI := Lib.hid (fun (i : Int) k => quiet_same (ris B rr s i (w.drewN k) (h.below (below_drewN (Below.refl _ _) k))))
  have h8 := h.l8
  by_cases hf : isI s.P.length f = true
  · by_cases ht : isI s.P.length t = true
    · obtain ⟨hf0, hn⟩ := (isI_iff _ _).1 hf
      obtain ⟨n, rfl⟩ := Int.eq_ofNat_of_zero_le hf0
      have hn : n < s.P.length := by omega
      obtain ⟨ht0, hm⟩ := (isI_iff _ _).1 ht
      obtain ⟨m, rfl⟩ := Int.eq_ofNat_of_zero_le ht0
      have hm : m < s.P.length := by omega
      obtain ⟨g1, g2, g3, e1, e2, e3⟩ := h.reads hn
      obtain ⟨L0, hL0, hL0'⟩ := hv.get h.li h.lo hn
      clear hL0'
      obtain ⟨L, hL1, hL2, hL3⟩ := hv.get h.li h.lo hm
      have hSV : sendV vs n m txt = if txt.size ≤ 32 ∧ flB s.P[n].1 s.P[m].1 = true ∧ ¬ mostV s.P[m].2 ≤ L.length then vs.set m ⟨s.P[m].1, s.P[m].2, L ++ [txt]⟩ else vs := by
        rw [sendV, Vw.atV_in (s := s) hL0, Vw.atV_in (s := s) hL1]; rfl
      have hiI : m < s.I.length := by rw [h.li]; exact hm
      have hiO : m < s.O.length := by rw [h.lo]; exact hm
      have hfb0 : (0 : Int) ≤ n := by omega
      have hfb1 : (n : Int) < (s.P.length : Int) := by omega
      have htb0 : (0 : Int) ≤ m := by omega
      have htb1 : (m : Int) < (s.P.length : Int) := by omega
      by_cases h32 : txt.size ≤ 32
      · have d1 : decide ((32 : Int) < (txt.size : Int)) = false := by simp; omega
        have c1 := (h.cells e1 e2 e3 hn (by rw [h.li]; exact hn) (by rw [h.lo]; exact hn)).1
        have c2 := (h.cells e1 e2 e3 hm hiI hiO).1
        have o1 := (h.objC e1 e2 e3).1
        have HF := Lib.hid (fun k => quiet_same (rflows_any s.P[n].1 s.P[m].1 (w.drewN k)))
        cases hfl : flB s.P[n].1 s.P[m].1
        · rw [hfl] at HF hSV
          rw [if_neg (by simp)] at hSV
          have HSV := Lib.hid hSV
          have HRD := Lib.hid (fun k => H.out.post (r := .tuple #[]) HV.out (below_drewN (Below.refl _ w) k))
          generalize s.P[n].1 = ln at c1 HF hfl
          clear h hv hSV hL0 hL1 hL2 hL3 e1 e2 e3 hf0 ht0 hfl H HV
          go_enter Try.func19, Try.ntmps19
          go_wp2_with fail
          go_quiet ((first | (go_at_call 30; exact HI.out _ _) | (go_at_call 31; exact HF.out _)))
          go_wp2_with fail
          go_end0
          rw [HSV.out]
          exact HRD.out _
        · rw [hfl] at HF hSV
          have HE1 := Lib.hid e1; have HE2 := Lib.hid e2; have HE3 := Lib.hid e3
          have HLI := Lib.hid h.li; have HLO := Lib.hid h.lo
          have HL2 : Hid (s.P[m].2 = -1 → (s.I[m]'hiI).L = [] ∧ (s.O[m]'hiO).L = L ∧ L.length ≤ 64) := hL2
          have HL3 : Hid (s.P[m].2 ≠ -1 → (s.I[m]'hiI).L = L ∧ (s.O[m]'hiO).L = [] ∧ L.length ≤ 4) := hL3
          have HS0 := Lib.hid hSV
          generalize s.P[n].1 = ln at c1 HF hfl
          clear h hv hSV hL0 hL1 hL2 hL3 e1 e2 e3 hf0 ht0 hfl
          go_enter Try.func19, Try.ntmps19
          go_wp2_with fail
          go_quiet ((first | (go_at_call 30; exact HI.out _ _) | (go_at_call 31; exact HF.out _)))
          obtain ⟨W, hW⟩ : ∃ W, W = w.drewN nq := ⟨_, rfl⟩
          have HR : Hid (RSt W B rr s) := by rw [Hid, hW]; exact H.out.below (below_drewN (Below.refl _ _) nq)
          have hbW : Hid (Below w.heap.size w W) := by rw [Hid, hW]; exact below_drewN (Below.refl _ _) nq
          rw [← hW]
          obtain ⟨-, y1, yI, yO⟩ := HR.out.cells HE1.out HE2.out HE3.out hm hiI hiO
          obtain ⟨z0, z1, z2⟩ := HR.out.objC HE1.out HE2.out HE3.out
          have gl2 : g2 < W.heap.size := World.block_lt_of_cell? W ⟨g2, m, none⟩ yI
          have gl3 : g3 < W.heap.size := World.block_lt_of_cell? W ⟨g3, m, none⟩ yO
          have gl0 : rr < W.heap.size := HR.out.obj.lt
          clear hW c1 c2 o1 HI HF hf ht d1
          by_cases hg : s.P[m].2 = -1
          · have HG := Lib.hid hg
            have hgt : (s.P[m].2 == -1) = true := by simpa using hg
            have HLm := Lib.hid (HL2.out hg).2.1
            have hL64 := (HL2.out hg).2.2
            have hmv : mostV s.P[m].2 = 64 := by rw [mostV, if_pos hg]
            have hS1 := HS0.out
            rw [hmv] at hS1
            clear hg hmv HL2 HL3 HS0
            by_cases hfu : L.length < 64
            · rw [if_pos ⟨h32, trivial, by omega⟩] at hS1
              have HSV := Lib.hid hS1
              clear hS1
              (
            have hcN := HR.out.rowO hiO
            obtain ⟨a0, ha0⟩ : ∃ a, a = s.O[m].a := ⟨_, rfl⟩
            obtain ⟨cc, hcc⟩ : ∃ c, c = s.O[m].cap := ⟨_, rfl⟩
            rw [← ha0, ← hcc, HLm.out] at hcN yO
            have HC := Lib.hid hcN
            have HA0 := Lib.hid ha0
            have HRest : Hid (∀ (W' : World), Mod (blk a0) W W' → _) := Lib.hid (fun (W' : World) (h1 : Mod (blk a0) W W') => HR.out.restO hiO (by rw [← ha0]; exact h1))
            have HX : Hid ((hdF s.O)[m]? = some (.slice a0 L.length cc)) := by rw [Hid, hdF_get s.O m hiO, ← ha0, ← hcc, HLm.out]
            have hfr := (HR.out.free HE2.out HE3.out m).2
            have hBW : B ≤ W.heap.size := Nat.le_trans hB hbW.out.size
            have HAL : Hid (Below W.heap.size W ((W.alloc (.cells #[.string txt] 9)).drew)) := ((Below.refl _ _).alloc (Nat.le_refl _) _).drew
            have dl : decide ((L.length : Int) < 64) = true := by simp; omega
            have hLM : L.length < 64 := by omega
            clear hcN ha0 hcc
            go_wp2_with fail
            go_region_law (refine step_own rfl (.tmp 72) (.tmp 74) 32 rfl B 9 i0 _ 1 16 Try.underlying32 hi0 hz0 hz1 hz2 rfl (by omega) a0 L.length cc (strF L) rfl (HC.out.below HAL.out) W.heap.size [.string txt] rfl (new_block _ _ _ rfl) rfl (by simp [Value.oneCell']) (by simp only [maxLen]; omega) (by omega) (by simp; omega) ?_; intro g' cap' w1 hown hmod hat; have hq := HRest.out w1 ((Mod.ofBelow HAL.out).trans hmod); rw [HE1.out, HE2.out, HE3.out] at hq; have q0 := hq.1.cell 0 _ rfl; have q1 := hq.1.cell 1 _ rfl; have q2 := hq.1.cell 2 _ rfl; have qx := hq.2.cell _ _ HX.out; have qf := hq.2.free m; rw [HLI.out] at q1; rw [HLO.out] at q2)
            all_goals
              have HAT : Hid (∀ q ∈ blk (some (⟨g', 0, none⟩ : Addr)), q ∈ blk s.O[m].a ∨ W.heap.size ≤ q) := fun q hq => by
                simp only [blk, Option.map_some, Option.toList_some, List.mem_singleton] at hq
                subst hq
                rw [← HA0.out]
                refine hat.imp id (fun h => ?_)
                simp at h; omega
              have HOW : Hid (Own w1 B 9 1 (some ⟨g', 0, none⟩) (L ++ [txt]).length cap' (strF (L ++ [txt]))) := by rw [Hid, List.length_append, strF_snoc]; exact hown
              have HM : Hid (Mod (blk s.O[m].a) W w1) := by rw [Hid, ← HA0.out]; exact (Mod.ofBelow HAL.out).trans hmod
              have hp := HR.out.putO (r := .tuple #[]) hbW.out H.out HV.out hm HG.out hiO (by first | exact HE2.out | exact HE3.out) HOW.out (by simp; omega) HM.out HAT.out
              rw [List.length_append] at hp
              have HPP := Lib.hid hp
              clear hp hown hmod hat hq q0 q1 q2 qx qf
              go_wp2_with fail
              go_end0
              rw [HSV.out]
              exact HPP.out
              )
            · rw [if_neg (fun h => h.2.2 (by omega))] at hS1
              have HSV := Lib.hid hS1
              rw [HLm.out] at yO
              have dl : decide ((L.length : Int) < 64) = false := by simp; omega
              clear hS1
              go_wp2_with fail
              go_end0
              rw [HSV.out]
              exact H.out.post HV.out hbW.out
          · have HG := Lib.hid hg
            have hgt : (s.P[m].2 == -1) = false := by simpa using hg
            have HLm := Lib.hid (HL3.out hg).1
            have hL64 := (HL3.out hg).2.2
            have hmv : mostV s.P[m].2 = 4 := by rw [mostV, if_neg hg]
            have hS1 := HS0.out
            rw [hmv] at hS1
            clear hg hmv HL2 HL3 HS0
            by_cases hfu : L.length < 4
            · rw [if_pos ⟨h32, trivial, by omega⟩] at hS1
              have HSV := Lib.hid hS1
              clear hS1
              (
            have hcN := HR.out.rowI hiI
            obtain ⟨a0, ha0⟩ : ∃ a, a = s.I[m].a := ⟨_, rfl⟩
            obtain ⟨cc, hcc⟩ : ∃ c, c = s.I[m].cap := ⟨_, rfl⟩
            rw [← ha0, ← hcc, HLm.out] at hcN yI
            have HC := Lib.hid hcN
            have HA0 := Lib.hid ha0
            have HRest : Hid (∀ (W' : World), Mod (blk a0) W W' → _) := Lib.hid (fun (W' : World) (h1 : Mod (blk a0) W W') => HR.out.restI hiI (by rw [← ha0]; exact h1))
            have HX : Hid ((hdF s.I)[m]? = some (.slice a0 L.length cc)) := by rw [Hid, hdF_get s.I m hiI, ← ha0, ← hcc, HLm.out]
            have hfr := (HR.out.free HE2.out HE3.out m).1
            have hBW : B ≤ W.heap.size := Nat.le_trans hB hbW.out.size
            have HAL : Hid (Below W.heap.size W ((W.alloc (.cells #[.string txt] 9)).drew)) := ((Below.refl _ _).alloc (Nat.le_refl _) _).drew
            have dl : decide ((L.length : Int) < 4) = true := by simp; omega
            have hLM : L.length < 4 := by omega
            clear hcN ha0 hcc
            go_wp2_with fail
            go_region_law (refine step_own rfl (.tmp 97) (.tmp 99) 32 rfl B 9 i0 _ 1 16 Try.underlying32 hi0 hz0 hz1 hz2 rfl (by omega) a0 L.length cc (strF L) rfl (HC.out.below HAL.out) W.heap.size [.string txt] rfl (new_block _ _ _ rfl) rfl (by simp [Value.oneCell']) (by simp only [maxLen]; omega) (by omega) (by simp; omega) ?_; intro g' cap' w1 hown hmod hat; have hq := HRest.out w1 ((Mod.ofBelow HAL.out).trans hmod); rw [HE1.out, HE2.out, HE3.out] at hq; have q0 := hq.1.cell 0 _ rfl; have q1 := hq.1.cell 1 _ rfl; have q2 := hq.1.cell 2 _ rfl; have qx := hq.2.cell _ _ HX.out; have qf := hq.2.free m; rw [HLI.out] at q1; rw [HLO.out] at q2)
            all_goals
              have HAT : Hid (∀ q ∈ blk (some (⟨g', 0, none⟩ : Addr)), q ∈ blk s.I[m].a ∨ W.heap.size ≤ q) := fun q hq => by
                simp only [blk, Option.map_some, Option.toList_some, List.mem_singleton] at hq
                subst hq
                rw [← HA0.out]
                refine hat.imp id (fun h => ?_)
                simp at h; omega
              have HOW : Hid (Own w1 B 9 1 (some ⟨g', 0, none⟩) (L ++ [txt]).length cap' (strF (L ++ [txt]))) := by rw [Hid, List.length_append, strF_snoc]; exact hown
              have HM : Hid (Mod (blk s.I[m].a) W w1) := by rw [Hid, ← HA0.out]; exact (Mod.ofBelow HAL.out).trans hmod
              have hp := HR.out.putI (r := .tuple #[]) hbW.out H.out HV.out hm HG.out hiI (by first | exact HE2.out | exact HE3.out) HOW.out (by simp; omega) HM.out HAT.out
              rw [List.length_append] at hp
              have HPP := Lib.hid hp
              clear hp hown hmod hat hq q0 q1 q2 qx qf
              go_wp2_with fail
              go_end0
              rw [HSV.out]
              exact HPP.out
              )
            · rw [if_neg (fun h => h.2.2 (by omega))] at hS1
              have HSV := Lib.hid hS1
              rw [HLm.out] at yI
              have dl : decide ((L.length : Int) < 4) = false := by simp; omega
              clear hS1
              go_wp2_with fail
              go_end0
              rw [HSV.out]
              exact H.out.post HV.out hbW.out
      · have d1 : decide ((32 : Int) < (txt.size : Int)) = true := by simp; omega
        rw [if_neg (fun h => h32 h.1)] at hSV
        have HSV := Lib.hid hSV
        have HRD := Lib.hid (fun k => H.out.post (r := .tuple #[]) HV.out (below_drewN (Below.refl _ w) k))
        clear h hv hSV hL0 hL1 hL2 hL3 e1 e2 e3 hf0 ht0 H HV h32
        go_enter Try.func19, Try.ntmps19
        go_wp2_with fail
        go_quiet ((first | (go_at_call 30; exact HI.out _ _)))
        go_wp2_with fail
        go_end0
        rw [HSV.out]
        exact HRD.out _
    · have ht' : isI s.P.length t = false := by simpa using ht
      have HSV : Hid (sendV vs f t txt = vs) := by
        rw [Hid, sendV, hv.atV_out ht']
        cases atV vs f <;> rfl
      have HRD := Lib.hid (fun k => H.out.post (r := .tuple #[]) HV.out (below_drewN (Below.refl _ w) k))
      clear h hv ht H HV
      go_enter Try.func19, Try.ntmps19
      go_wp2_with fail
      go_quiet ((first | (go_at_call 30; exact HI.out _ _)))
      go_wp2_with fail
      go_end0
      rw [HSV.out]
      exact HRD.out _
  · have hf' : isI s.P.length f = false := by simpa using hf
    have HSV : Hid (sendV vs f t txt = vs) := by rw [Hid, sendV, hv.atV_out hf']
    have HRD := Lib.hid (fun k => H.out.post (r := .tuple #[]) HV.out (below_drewN (Below.refl _ w) k))
    clear h hv hf H HV
    go_enter Try.func19, Try.ntmps19
    go_wp2_with fail
    go_quiet ((first | (go_at_call 30; exact HI.out _ _)))
    go_wp2_with fail
    go_end0
    rw [HSV.out]
    exact HRD.out _
end Go.Proofs.Ytpccllgbccccnaa
