/- The law ConfigApart: the walk. -/
import Derived.Test.YtmchaaelpbifgaaCfOpen
namespace Go.Proofs.Ytmchaaelpbifgaa
set_option linter.unusedVariables false
set_option linter.unusedSimpArgs false
set_option linter.unnecessarySimpa false
open Go.RowKit Go.Sort
set_option maxHeartbeats 8000000
set_option maxRecDepth 100000
set_option linter.unusedVariables false
variable {W W' w : World} {c : Cv} {b N : Nat} {s : Sl}
theorem eqO1 (a b c d : Int) (w : World) : Sem.run Try.prog (Op.equalIn 10000 47 (.agg #[.int .i64 a, .int .i64 b]) (.agg #[.int .i64 c, .int .i64 d])) w = .ok (a == c && b == d) w := by
  by_cases h1 : a = c
  · subst h1
    by_cases h2 : b = d
    · subst h2; go_simp
    · have e : (b == d) = false := by simp [h2]
      rw [e]; go_simp
  · have e : (a == c) = false := by simp [h1]
    rw [e]; go_simp
def SS (c : Cv) (i : Nat) : Int := sumG (c.g.l.take i)
theorem SS_mono (h : GOk c) : ∀ {i j : Nat}, i ≤ j → j ≤ c.g.l.length → SS c i ≤ SS c j := by
  intro i j hij
  induction j with
  | zero => intro _; rw [show i = 0 by omega]; exact Int.le_refl _
  | succ j ih =>
    intro hj
    by_cases e : i = j + 1
    · rw [e]; exact Int.le_refl _
    · have h1 := ih (by omega) (by omega)
      have h2 := sumG_take c.g.l j (by omega)
      have h3 := h.row _ (List.getElem_mem (show j < c.g.l.length by omega))
      unfold GRow at h3
      unfold SS at *
      omega
theorem SS_succ (h : GOk c) {i : Nat} (hi : i < c.g.l.length) : SS c (i + 1) = SS c i + (at_ c.g.l i 1 + at_ c.g.l i 2) ∧ 1 ≤ at_ c.g.l i 1 ∧ 0 ≤ at_ c.g.l i 2 := by
  have h2 := sumG_take c.g.l i hi
  have h3 := h.row _ (List.getElem_mem hi)
  unfold GRow at h3
  unfold SS
  rw [at_eq hi, at_eq hi]
  omega
theorem SS_all : SS c c.g.l.length = sumG c.g.l := by rw [SS, List.take_length]
theorem SS_0 : SS c 0 = 0 := by simp [SS, sumG]
theorem own_guest (hr : rightV c = true) {i : Nat} (hi : i < c.g.l.length) {f : Int} (h1 : SS c i ≤ f) (h2 : f < SS c (i + 1)) : ownV2 c f = (1, (i : Int)) := by
  have h := rt_of hr
  have h0 : 0 ≤ f := by have := SS_mono h.gok (Nat.zero_le i) (by omega); rw [SS_0] at this; omega
  have h3 : f < needV c := by have := SS_mono h.gok (show i + 1 ≤ c.g.l.length by omega) (Nat.le_refl _); rw [SS_all] at this; unfold needV; omega
  have hf : (List.range c.g.l.length).find? (fun i => decide (f < sumG (c.g.l.take (i + 1)))) = some i := by
    rw [List.find?_range_eq_some]
    refine ⟨by simpa [SS] using h2, List.mem_range.2 hi, fun j hj => ?_⟩
    have := SS_mono h.gok (show j + 1 ≤ i by omega) (by omega)
    unfold SS at *
    simp; omega
  rw [ownV2, hr, if_pos (by simp [h0, h3]), hf]
theorem own_not (hr : rightV c = true) {i : Nat} (hi : i < c.g.l.length) {f : Int} (h1 : ¬ (SS c i ≤ f ∧ f < SS c (i + 1))) : ownV2 c f ≠ (1, (i : Int)) := by
  have h := rt_of hr
  intro h2
  unfold ownV2 at h2
  split at h2
  · rename_i hc
    cases hf : (List.range c.g.l.length).find? (fun i => decide (f < sumG (c.g.l.take (i + 1)))) with
    | none => rw [hf] at h2; simp at h2
    | some j =>
      rw [hf] at h2
      have hji : j = i := by
        have : (j : Int) = i := by simpa using h2
        omega
      subst hji
      rw [List.find?_range_eq_some] at hf
      obtain ⟨a1, _, a3⟩ := hf
      apply h1
      refine ⟨?_, by simpa [SS] using a1⟩
      by_cases hj0 : j = 0
      · subst hj0; rw [SS_0]; simp at hc; omega
      · have := a3 (j - 1) (by omega)
        rw [show j - 1 + 1 = j by omega] at this
        simpa [SS] using this
  · simp at h2
theorem own_ring (hr : rightV c = true) {j : Nat} (hj : j < c.n.l.length) : ownV2 c (sumG c.g.l + j) = (2, (j : Int)) := by
  have h := rt_of hr
  have h0 := sumG_bound c.g.l h.gok.row
  have hf : (List.range c.g.l.length).find? (fun i => decide (sumG c.g.l + j < sumG (c.g.l.take (i + 1)))) = none := by
    rw [List.find?_eq_none]
    intro i hi
    have hi := List.mem_range.1 hi
    have := SS_mono h.gok (show i + 1 ≤ c.g.l.length by omega) (Nat.le_refl _)
    rw [SS_all] at this
    unfold SS at this
    simp; omega
  have h1 : sumG c.g.l + j < needV c := by unfold needV; omega
  have h2 : 0 ≤ sumG c.g.l + j := by omega
  rw [ownV2, hr, if_pos (by simp [h1, h2]), hf]
  simp only [Prod.mk.injEq, true_and]; omega
theorem own_out {f : Int} (hf : f < 0 ∨ needV c ≤ f) : ownV2 c f = (0, 0) := by
  rw [ownV2, if_neg (by simp; omega)]
/-- How many frames below f are guest i's. -/
def cnt (c : Cv) (i : Nat) (f : Int) : Int := min f (SS c (i + 1)) - min f (SS c i)
theorem cnt_hit {i : Nat} {f : Int} (h1 : SS c i ≤ f) (h2 : f < SS c (i + 1)) : cnt c i (f + 1) = cnt c i f + 1 := by unfold cnt; omega
theorem cnt_miss {i : Nat} {f : Int} (hm : SS c i ≤ SS c (i + 1)) (h1 : ¬ (SS c i ≤ f ∧ f < SS c (i + 1))) : cnt c i (f + 1) = cnt c i f := by unfold cnt; omega
theorem cnt_bd {i : Nat} {f : Int} (h0 : 0 ≤ f) (hS : 0 ≤ SS c i) (hm : SS c i ≤ SS c (i + 1)) : 0 ≤ cnt c i f ∧ cnt c i f ≤ f := by unfold cnt; omega
theorem cnt_end {i : Nat} {f : Int} (h1 : SS c (i + 1) ≤ f) (hm : SS c i ≤ SS c (i + 1)) : cnt c i f = SS c (i + 1) - SS c i := by unfold cnt; omega
theorem apart_walk (c : Cv) (w : World) (h : CfgOk w c) : Calls Try.prog 5 #[(.agg #[.int .i64 c.cats, .slice c.g.a c.g.l.length c.g.cap, .slice c.r.a c.r.l.length c.r.cap, .slice c.p.a c.p.l.length c.p.cap, .slice c.n.a c.n.l.length c.n.cap, .slice c.s.a c.s.l.length c.s.cap, .int .i64 c.gate, .int .i64 c.quota])] w fun e w' => e = .returned (.bool true) ∧ Below w.heap.size w w' := by
  obtain ⟨z, hz⟩ : ∃ z, z = chkV c := ⟨_, rfl⟩
  have CHK : Hid (∀ W, CfgOk W c → Calls Try.prog 7 #[(.agg #[.int .i64 c.cats, .slice c.g.a c.g.l.length c.g.cap, .slice c.r.a c.r.l.length c.r.cap, .slice c.p.a c.p.l.length c.p.cap, .slice c.n.a c.n.l.length c.n.cap, .slice c.s.a c.s.l.length c.s.cap, .int .i64 c.gate, .int .i64 c.quota])] W fun e w' => e = .returned (.tuple #[.int .i64 z.1, .int .i64 z.2]) ∧ Below W.heap.size W w') := fun W hc => by rw [hz]; exact check_any c _ hc
  have HZ := Lib.hid hz
  clear hz
  by_cases h0 : z.1 = 0
  · have d0 : (z.1 != 0) = false := by simp [h0]
    have hr : rightV c = true := by rw [rightV, ← HZ.out, h0]; rfl
    have HR := Lib.hid hr
    have RT := Lib.hid (rt_of hr)
    obtain ⟨N, hN⟩ : ∃ N : Nat, needV c = N := ⟨(needV c).toNat, by
      have := sumG_bound c.g.l (rt_of hr).gok.row; unfold needV; omega⟩
    have FRA : Hid (∀ W, CfgOk W c → Calls Try.prog 11 #[(.agg #[.int .i64 c.cats, .slice c.g.a c.g.l.length c.g.cap, .slice c.r.a c.r.l.length c.r.cap, .slice c.p.a c.p.l.length c.p.cap, .slice c.n.a c.n.l.length c.n.cap, .slice c.s.a c.s.l.length c.s.cap, .int .i64 c.gate, .int .i64 c.quota])] W fun e w' => e = .returned (.int .i64 N) ∧ Below W.heap.size W w') := fun W hc => by
      have := frames_any c _ hc; rw [framesV, hr, if_pos rfl, hN] at this; exact this
    have OWN : Hid (∀ f W, CfgOk W c → Calls Try.prog 12 #[(.agg #[.int .i64 c.cats, .slice c.g.a c.g.l.length c.g.cap, .slice c.r.a c.r.l.length c.r.cap, .slice c.p.a c.p.l.length c.p.cap, .slice c.n.a c.n.l.length c.n.cap, .slice c.s.a c.s.l.length c.s.cap, .int .i64 c.gate, .int .i64 c.quota]), .int .i64 f] W fun e w' => e = .returned (.agg #[.int .i64 (ownV2 c f).1, .int .i64 (ownV2 c f).2]) ∧ Below W.heap.size W w') := fun f W hc => owner_any c f _ hc
    have hq1 : ∀ w, Sem.run Try.prog (Op.equalIn 10000 47 (.agg #[.int .i64 (ownV2 c N).1, .int .i64 (ownV2 c N).2]) (.agg #[.int .i64 0, .int .i64 0])) w = .ok true w := fun w => by rw [eqO1, own_out (Or.inr (by omega))]; rfl
    have hq2 : ∀ w, Sem.run Try.prog (Op.equalIn 10000 47 (.agg #[.int .i64 (ownV2 c (-1)).1, .int .i64 (ownV2 c (-1)).2]) (.agg #[.int .i64 0, .int .i64 0])) w = .ok true w := fun w => by rw [eqO1, own_out (Or.inl (by omega))]; rfl
    have HN := Lib.hid hN
    have hl1 := RT.out.g1
    have hl4 := RT.out.g.1
    have hn4 := RT.out.n.1
    have hN1 : 1 ≤ N := by
      have h1 := (SS_succ RT.out.gok (i := 0) (by omega))
      have h2 := SS_mono RT.out.gok (show 1 ≤ c.g.l.length by omega) (Nat.le_refl _)
      rw [SS_all] at h2; rw [SS_0] at h1; unfold needV at hN; simp only [Nat.zero_add] at h1; omega
    have hN32 : N ≤ 32 := by have := RT.out.need; omega
    have d1 : decide ((N : Int) < 1) = false := by simp; omega
    have d2 : decide ((N : Int) > 32) = false := by simp; omega
    clear h0 HZ hr hN
    ((have h0 := CX.new h; go_enter Try.func5, Try.ntmps5; go_upto_region 1 with fail; generalize w.alloc (.cells #[.int .i64 c.cats, .slice c.g.a c.g.l.length c.g.cap, .slice c.r.a c.r.l.length c.r.cap, .slice c.p.a c.p.l.length c.p.cap, .slice c.n.a c.n.l.length c.n.cap, .slice c.s.a c.s.l.length c.s.cap, .int .i64 c.gate, .int .i64 c.quota] 28) = W1 at h0 ⊢; generalize w.heap.size = b0 at h0 ⊢; have H0 := Lib.hid h0; clear h0 h); have XK := H0; clear H0; (have q0 := XK.out.ob.cell 0 _ rfl; have q1 := XK.out.ob.cell 1 _ rfl; have q2 := XK.out.ob.cell 2 _ rfl; have q3 := XK.out.ob.cell 3 _ rfl; have q4 := XK.out.ob.cell 4 _ rfl; have q5 := XK.out.ob.cell 5 _ rfl; have q6 := XK.out.ob.cell 6 _ rfl; have q7 := XK.out.ob.cell 7 _ rfl))
    go_upto_region 5 with (first | (go_at_call 7; refine (CHK.out _ XK.out.ok).mono ?_; rintro e Wc ⟨rfl, hb⟩; replace XK := Lib.hid (XK.out.below hb); clear hb; (replace q0 := XK.out.ob.cell 0 _ rfl; replace q1 := XK.out.ob.cell 1 _ rfl; replace q2 := XK.out.ob.cell 2 _ rfl; replace q3 := XK.out.ob.cell 3 _ rfl; replace q4 := XK.out.ob.cell 4 _ rfl; replace q5 := XK.out.ob.cell 5 _ rfl; replace q6 := XK.out.ob.cell 6 _ rfl; replace q7 := XK.out.ob.cell 7 _ rfl)) | (go_at_call 11; refine (FRA.out _ XK.out.ok).mono ?_; rintro e Wc ⟨rfl, hb⟩; replace XK := Lib.hid (XK.out.below hb); clear hb; (replace q0 := XK.out.ob.cell 0 _ rfl; replace q1 := XK.out.ob.cell 1 _ rfl; replace q2 := XK.out.ob.cell 2 _ rfl; replace q3 := XK.out.ob.cell 3 _ rfl; replace q4 := XK.out.ob.cell 4 _ rfl; replace q5 := XK.out.ob.cell 5 _ rfl; replace q6 := XK.out.ob.cell 6 _ rfl; replace q7 := XK.out.ob.cell 7 _ rfl)))
    go_upto_region 7 with (go_at_call 12; refine (OWN.out _ _ XK.out.ok).mono ?_; rintro e Wc ⟨rfl, hb⟩; replace XK := Lib.hid (XK.out.below hb); clear hb; (replace q0 := XK.out.ob.cell 0 _ rfl; replace q1 := XK.out.ob.cell 1 _ rfl; replace q2 := XK.out.ob.cell 2 _ rfl; replace q3 := XK.out.ob.cell 3 _ rfl; replace q4 := XK.out.ob.cell 4 _ rfl; replace q5 := XK.out.ob.cell 5 _ rfl; replace q6 := XK.out.ob.cell 6 _ rfl; replace q7 := XK.out.ob.cell 7 _ rfl))
    clear q0 q1 q2 q3 q4 q5 q6 q7 hq1 hq2
    go_upto_region 9 with fail
    go_loopw [6, 7] (fun g6 z wr => ∃ k : Nat, k ≤ c.g.l.length ∧ z = .int .i64 k ∧ g6 = .int .i64 (SS c k) ∧ CX w wr b0 c) (fun _ z _ => c.g.l.length - (intOf z).toNat)
    case atStart => exact ⟨0, by omega, rfl, by rw [SS_0], XK.out⟩
    case round =>
      clear XK CHK FRA
      obtain ⟨k, hk, rfl, rfl, hxk⟩ := hrel
      have XK := Lib.hid hxk
      clear hxk
      (have q0 := XK.out.ob.cell 0 _ rfl; have q1 := XK.out.ob.cell 1 _ rfl; have q2 := XK.out.ob.cell 2 _ rfl; have q3 := XK.out.ob.cell 3 _ rfl; have q4 := XK.out.ob.cell 4 _ rfl; have q5 := XK.out.ob.cell 5 _ rfl; have q6 := XK.out.ob.cell 6 _ rfl; have q7 := XK.out.ob.cell 7 _ rfl)
      by_cases hkl : k < c.g.l.length
      · have dk : decide ((k : Int) < (c.g.l.length : Int)) = true := by simp; omega
        have dk4 : decide ((k : Int) < 4) = true := by simp; omega
        have kz : (0 : Int) ≤ (k : Int) := by omega
        have kl : (k : Int) < (c.g.l.length : Int) := by omega
        have w1 : IntKind.i64.wrap ((k : Int) + 1) = (k : Int) + 1 := by rw [IntKind.wrap_i64]; omega
        have hs := SS_succ RT.out.gok hkl
        have hsz := SS_mono RT.out.gok (Nat.zero_le k) (by omega)
        have hsN := SS_mono RT.out.gok (show k + 1 ≤ c.g.l.length by omega) (Nat.le_refl _)
        rw [SS_0] at hsz
        rw [SS_all] at hsN
        have HSS : Hid (SS c (k + 1) = SS c k + (at_ c.g.l k 1 + at_ c.g.l k 2) ∧ 1 ≤ at_ c.g.l k 1 ∧ 0 ≤ at_ c.g.l k 2 ∧ 0 ≤ SS c k ∧ SS c (k + 1) ≤ N ∧ (N : Int) ≤ 32) := ⟨hs.1, hs.2.1, hs.2.2, hsz, by have := HN.out; unfold needV at this; omega, by omega⟩
        clear hs hsz hsN
        obtain ⟨sk, hsk⟩ : ∃ x, x = SS c k := ⟨_, rfl⟩
        rw [← hsk]
        have HSK := Lib.hid hsk
        clear hsk
        go_upto_region 13 with fail
        clear q0 q1 q2 q3 q4 q5 q6 q7
        go_loopw [8, 9] (fun g8 z wr => ∃ f : Nat, f ≤ N ∧ z = .int .i64 f ∧ g8 = .int .i64 (cnt c k f) ∧ CX w wr b0 c) (fun _ z _ => N - (intOf z).toNat)
        case atStart => exact ⟨0, by omega, rfl, by have := HSS.out; rw [show cnt c k ((0 : Nat) : Int) = 0 by unfold cnt; omega], XK.out⟩
        case round =>
          clear XK
          obtain ⟨f, hf, rfl, rfl, hxk⟩ := hrel
          have XK := Lib.hid hxk
          clear hxk
          (have q0 := XK.out.ob.cell 0 _ rfl; have q1 := XK.out.ob.cell 1 _ rfl; have q2 := XK.out.ob.cell 2 _ rfl; have q3 := XK.out.ob.cell 3 _ rfl; have q4 := XK.out.ob.cell 4 _ rfl; have q5 := XK.out.ob.cell 5 _ rfl; have q6 := XK.out.ob.cell 6 _ rfl; have q7 := XK.out.ob.cell 7 _ rfl)
          by_cases hfN : f < N
          · have df : decide ((f : Int) < (N : Int)) = true := by simp; omega
            have w2 : IntKind.i64.wrap ((f : Int) + 1) = (f : Int) + 1 := by rw [IntKind.wrap_i64]; omega
            have hcb := cnt_bd (c := c) (i := k) (f := f) (by omega) HSS.out.2.2.2.1 (by have := HSS.out; omega)
            by_cases hin : SS c k ≤ f ∧ f < SS c (k + 1)
            · have hq : ∀ w, Sem.run Try.prog (Op.equalIn 10000 47 (.agg #[.int .i64 (ownV2 c f).1, .int .i64 (ownV2 c f).2]) (.agg #[.int .i64 1, .int .i64 k])) w = .ok true w := fun w => by rw [eqO1, own_guest HR.out hkl hin.1 hin.2]; simp
              have hc1 : Hid (cnt c k ((f + 1 : Nat) : Int) = cnt c k f + 1) := by rw [Hid, Int.natCast_succ]; exact cnt_hit hin.1 hin.2
              generalize cnt c k f = q at hc1 hcb ⊢
              have w3 : IntKind.i64.wrap (q + 1) = q + 1 := by rw [IntKind.wrap_i64]; omega
              clear hin hcb
              go_wp2_with (go_at_call 12; refine (OWN.out _ _ XK.out.ok).mono ?_; rintro e Wc ⟨rfl, hb⟩; replace XK := Lib.hid (XK.out.below hb); clear hb; (replace q0 := XK.out.ob.cell 0 _ rfl; replace q1 := XK.out.ob.cell 1 _ rfl; replace q2 := XK.out.ob.cell 2 _ rfl; replace q3 := XK.out.ob.cell 3 _ rfl; replace q4 := XK.out.ob.cell 4 _ rfl; replace q5 := XK.out.ob.cell 5 _ rfl; replace q6 := XK.out.ob.cell 6 _ rfl; replace q7 := XK.out.ob.cell 7 _ rfl))
              go_roundw
              case rel => exact ⟨f + 1, by omega, by go_num, by rw [hc1.out], XK.out⟩
              case measure => simp [intOf]; omega
            · have hq : ∀ w, Sem.run Try.prog (Op.equalIn 10000 47 (.agg #[.int .i64 (ownV2 c f).1, .int .i64 (ownV2 c f).2]) (.agg #[.int .i64 1, .int .i64 k])) w = .ok false w := fun w => by
                have hne := own_not HR.out hkl hin
                rw [eqO1]
                congr 1
                rw [Bool.and_eq_false_iff]
                by_cases e1 : (ownV2 c f).1 = 1
                · right; simp only [beq_eq_false_iff_ne, ne_eq]; intro e2; exact hne (by rw [← e1, ← e2])
                · left; simpa using e1
              have hc1 : Hid (cnt c k ((f + 1 : Nat) : Int) = cnt c k f) := by rw [Hid, Int.natCast_succ]; exact cnt_miss (by have := HSS.out; omega) hin
              generalize cnt c k f = q at hc1 hcb ⊢
              clear hin hcb
              go_wp2_with (go_at_call 12; refine (OWN.out _ _ XK.out.ok).mono ?_; rintro e Wc ⟨rfl, hb⟩; replace XK := Lib.hid (XK.out.below hb); clear hb; (replace q0 := XK.out.ob.cell 0 _ rfl; replace q1 := XK.out.ob.cell 1 _ rfl; replace q2 := XK.out.ob.cell 2 _ rfl; replace q3 := XK.out.ob.cell 3 _ rfl; replace q4 := XK.out.ob.cell 4 _ rfl; replace q5 := XK.out.ob.cell 5 _ rfl; replace q6 := XK.out.ob.cell 6 _ rfl; replace q7 := XK.out.ob.cell 7 _ rfl))
              go_roundw
              case rel => exact ⟨f + 1, by omega, by go_num, by rw [hc1.out], XK.out⟩
              case measure => simp [intOf]; omega
          · have df : decide ((f : Int) < (N : Int)) = false := by simp; omega
            obtain rfl : f = N := by omega
            have hcn : cnt c k f = at_ c.g.l k 1 + at_ c.g.l k 2 := by have := HSS.out; rw [cnt_end (by omega) (by omega)]; omega
            rw [hcn]
            clear hcn
            go_upto_region 17 with fail
            obtain ⟨bx, ox, hax, hcx⟩ := XK.out.ok.g.cells (by omega) k hkl
            obtain ⟨lb, pg, sp, hrow⟩ := row3 hkl XK.out.ok.g.len
            have e1 : at_ c.g.l k 1 = pg := by rw [at_eq hkl, hrow]; rfl
            have e2 : at_ c.g.l k 2 = sp := by rw [at_eq hkl, hrow]; rfl
            rw [e1, e2] at HSS ⊢
            rw [hrow] at hcx
            have c1 := cell_regrown (hcx _ (Below.refl _ _) 1 _ rfl); have c2 := cell_regrown (hcx _ (Below.refl _ _) 2 _ rfl)
            have w4 : IntKind.i64.wrap (pg + sp) = pg + sp := by have := HSS.out; rw [IntKind.wrap_i64]; omega
            have w5 : IntKind.i64.wrap (sk + (pg + sp)) = sk + (pg + sp) := by have := HSS.out; have := HSK.out; rw [IntKind.wrap_i64]; omega
            have dq : (pg + sp != pg + sp) = false := by simp
            have hfv : firstV c k = sk := by rw [firstV, HR.out, (isG_iff c k).2 ⟨by omega, by omega⟩, HSK.out, Int.toNat_natCast]; rfl
            have HFI : Hid (∀ d os, Calls Try.prog 13 #[(.agg #[.int .i64 c.cats, .slice c.g.a c.g.l.length c.g.cap, .slice c.r.a c.r.l.length c.r.cap, .slice c.p.a c.p.l.length c.p.cap, .slice c.n.a c.n.l.length c.n.cap, .slice c.s.a c.s.l.length c.s.cap, .int .i64 c.gate, .int .i64 c.quota]), .int .i64 k] (grow (redrawn wr d) os) fun e w'' => e = .returned (.int .i64 sk) ∧ ∃ p : Regrown, w'' = grow (redrawn wr p.d) p.os) := fun d os => Calls.regrown_of (by rw [← hfv]; exact first_any c k _ (XK.out.ok.below (below_regrown wr d os)))
            have HOW : Hid (∀ d os, Calls Try.prog 12 #[(.agg #[.int .i64 c.cats, .slice c.g.a c.g.l.length c.g.cap, .slice c.r.a c.r.l.length c.r.cap, .slice c.p.a c.p.l.length c.p.cap, .slice c.n.a c.n.l.length c.n.cap, .slice c.s.a c.s.l.length c.s.cap, .int .i64 c.gate, .int .i64 c.quota]), .int .i64 sk] (grow (redrawn wr d) os) fun e w'' => e = .returned (.agg #[.int .i64 1, .int .i64 k]) ∧ ∃ p : Regrown, w'' = grow (redrawn wr p.d) p.os) := fun d os => Calls.regrown_of (by
              have := owner_any c sk _ (XK.out.ok.below (below_regrown wr d os))
              rw [own_guest HR.out hkl (by rw [HSK.out]; exact Int.le_refl _) (by have := HSS.out; rw [HSK.out]; omega)] at this
              exact this)
            have hq3 : ∀ w, Sem.run Try.prog (Op.equalIn 10000 47 (.agg #[.int .i64 1, .int .i64 k]) (.agg #[.int .i64 1, .int .i64 k])) w = .ok true w := fun w => by rw [eqO1]; simp
            clear q0 q1 q2 q3 q4 q5 q6 q7
            (have q0 := cell_regrown (XK.out.ob.cell 0 _ rfl); have q1 := cell_regrown (XK.out.ob.cell 1 _ rfl); have q2 := cell_regrown (XK.out.ob.cell 2 _ rfl); have q3 := cell_regrown (XK.out.ob.cell 3 _ rfl); have q4 := cell_regrown (XK.out.ob.cell 4 _ rfl); have q5 := cell_regrown (XK.out.ob.cell 5 _ rfl); have q6 := cell_regrown (XK.out.ob.cell 6 _ rfl); have q7 := cell_regrown (XK.out.ob.cell 7 _ rfl))
            rw [hax] at q1 HFI HOW
            clear hax hcx hrow hfv e1 e2
            refine wp_region_quiet_below (by kernel_rfl) (by kernel_rfl) ?_; (repeat (go_big_quiet_step ((first | (go_at_call 13; exact HFI.out _ _) | (go_at_call 12; exact HOW.out _ _))))); refine wpQuiet_nil ?_; intro _ hw'; obtain ⟨⟨dqq, osq⟩, hw''⟩ := hw'; subst hw''; have hbq := below_regrown wr dqq osq; generalize grow (redrawn wr dqq) osq = wq at *
            go_wp2_with fail
            go_roundw
            case rel => exact ⟨k + 1, by omega, by go_num, by have := HSS.out; rw [this.1, ← HSK.out], XK.out.below hbq⟩
            case measure => simp [intOf]; omega
      · have dk : decide ((k : Int) < (c.g.l.length : Int)) = false := by simp; omega
        obtain rfl : k = c.g.l.length := by omega
        rw [SS_all]
        clear hkl
        go_upto_region 21 with fail
        clear q0 q1 q2 q3 q4 q5 q6 q7 dk
        go_loopw [10] (fun z wr => ∃ j : Nat, j ≤ c.n.l.length ∧ z = .int .i64 j ∧ CX w wr b0 c) (fun z _ => c.n.l.length - (intOf z).toNat)
        case atStart => exact ⟨0, by omega, rfl, XK.out⟩
        case round =>
          clear XK
          obtain ⟨j, hj, rfl, hxk⟩ := hrel
          have XK := Lib.hid hxk
          clear hxk
          by_cases hjl : j < c.n.l.length
          · have dk : decide ((j : Int) < (c.n.l.length : Int)) = true := by simp; omega
            have dk4 : decide ((j : Int) < 4) = true := by simp; omega
            have w1 : IntKind.i64.wrap ((j : Int) + 1) = (j : Int) + 1 := by rw [IntKind.wrap_i64]; omega
            have hrv : ringfV c j = sumG c.g.l + j := by rw [ringfV, HR.out, if_pos (by simp; omega)]
            have HRI : Hid (∀ d os, Calls Try.prog 14 #[(.agg #[.int .i64 c.cats, .slice c.g.a c.g.l.length c.g.cap, .slice c.r.a c.r.l.length c.r.cap, .slice c.p.a c.p.l.length c.p.cap, .slice c.n.a c.n.l.length c.n.cap, .slice c.s.a c.s.l.length c.s.cap, .int .i64 c.gate, .int .i64 c.quota]), .int .i64 j] (grow (redrawn wr d) os) fun e w'' => e = .returned (.int .i64 (sumG c.g.l + j)) ∧ ∃ p : Regrown, w'' = grow (redrawn wr p.d) p.os) := fun d os => Calls.regrown_of (by rw [← hrv]; exact ringf_any c j _ (XK.out.ok.below (below_regrown wr d os)))
            have HOW : Hid (∀ d os, Calls Try.prog 12 #[(.agg #[.int .i64 c.cats, .slice c.g.a c.g.l.length c.g.cap, .slice c.r.a c.r.l.length c.r.cap, .slice c.p.a c.p.l.length c.p.cap, .slice c.n.a c.n.l.length c.n.cap, .slice c.s.a c.s.l.length c.s.cap, .int .i64 c.gate, .int .i64 c.quota]), .int .i64 (sumG c.g.l + j)] (grow (redrawn wr d) os) fun e w'' => e = .returned (.agg #[.int .i64 2, .int .i64 j]) ∧ ∃ p : Regrown, w'' = grow (redrawn wr p.d) p.os) := fun d os => Calls.regrown_of (by
              have := owner_any c (sumG c.g.l + j) _ (XK.out.ok.below (below_regrown wr d os))
              rw [own_ring HR.out hjl] at this
              exact this)
            have hq3 : ∀ w, Sem.run Try.prog (Op.equalIn 10000 47 (.agg #[.int .i64 2, .int .i64 j]) (.agg #[.int .i64 2, .int .i64 j])) w = .ok true w := fun w => by rw [eqO1]; simp
            clear hrv
            (have q0 := XK.out.ob.cell 0 _ rfl; have q1 := XK.out.ob.cell 1 _ rfl; have q2 := XK.out.ob.cell 2 _ rfl; have q3 := XK.out.ob.cell 3 _ rfl; have q4 := XK.out.ob.cell 4 _ rfl; have q5 := XK.out.ob.cell 5 _ rfl; have q6 := XK.out.ob.cell 6 _ rfl; have q7 := XK.out.ob.cell 7 _ rfl)
            go_upto_region 23 with fail
            clear q0 q1 q2 q3 q4 q5 q6 q7
            (have q0 := cell_regrown (XK.out.ob.cell 0 _ rfl); have q1 := cell_regrown (XK.out.ob.cell 1 _ rfl); have q2 := cell_regrown (XK.out.ob.cell 2 _ rfl); have q3 := cell_regrown (XK.out.ob.cell 3 _ rfl); have q4 := cell_regrown (XK.out.ob.cell 4 _ rfl); have q5 := cell_regrown (XK.out.ob.cell 5 _ rfl); have q6 := cell_regrown (XK.out.ob.cell 6 _ rfl); have q7 := cell_regrown (XK.out.ob.cell 7 _ rfl))
            refine wp_region_quiet_below (by kernel_rfl) (by kernel_rfl) ?_; (repeat (go_big_quiet_step ((first | (go_at_call 14; exact HRI.out _ _) | (go_at_call 12; exact HOW.out _ _))))); refine wpQuiet_nil ?_; intro _ hw'; obtain ⟨⟨dqq, osq⟩, hw''⟩ := hw'; subst hw''; have hbq := below_regrown wr dqq osq; generalize grow (redrawn wr dqq) osq = wq at *
            go_wp2_with fail
            go_roundw
            case rel => exact ⟨j + 1, by omega, by go_num, XK.out.below hbq⟩
            case measure => simp [intOf]; omega
          · have dk : decide ((j : Int) < (c.n.l.length : Int)) = false := by simp; omega
            have hs : sumG c.g.l + c.n.l.length = N := by have := HN.out; unfold needV at this; omega
            have w5 : IntKind.i64.wrap (sumG c.g.l + c.n.l.length) = N := by rw [hs, IntKind.wrap_i64]; omega
            have dN : ((N : Int) == (N : Int)) = true := by simp
            clear hs
            (have q0 := XK.out.ob.cell 0 _ rfl; have q1 := XK.out.ob.cell 1 _ rfl; have q2 := XK.out.ob.cell 2 _ rfl; have q3 := XK.out.ob.cell 3 _ rfl; have q4 := XK.out.ob.cell 4 _ rfl; have q5 := XK.out.ob.cell 5 _ rfl; have q6 := XK.out.ob.cell 6 _ rfl; have q7 := XK.out.ob.cell 7 _ rfl)
            go_wp2_with (go_at_call 8; refine (awake_any _).mono ?_; rintro e wa ⟨rfl, hb⟩; replace XK := Lib.hid (XK.out.below hb); clear hb)
            go_ret
            exact ⟨rfl, XK.out.bel⟩
  · have d0 : (z.1 != 0) = true := by simp [h0]
    have hr : rightV c = false := by rw [rightV, ← HZ.out]; simp [h0]
    have FRA : Hid (∀ W, CfgOk W c → Calls Try.prog 11 #[(.agg #[.int .i64 c.cats, .slice c.g.a c.g.l.length c.g.cap, .slice c.r.a c.r.l.length c.r.cap, .slice c.p.a c.p.l.length c.p.cap, .slice c.n.a c.n.l.length c.n.cap, .slice c.s.a c.s.l.length c.s.cap, .int .i64 c.gate, .int .i64 c.quota])] W fun e w' => e = .returned (.int .i64 0) ∧ Below W.heap.size W w') := fun W hc => by
      have := frames_any c _ hc; rw [framesV, hr] at this; exact this
    have OWN : Hid (∀ W, CfgOk W c → Calls Try.prog 12 #[(.agg #[.int .i64 c.cats, .slice c.g.a c.g.l.length c.g.cap, .slice c.r.a c.r.l.length c.r.cap, .slice c.p.a c.p.l.length c.p.cap, .slice c.n.a c.n.l.length c.n.cap, .slice c.s.a c.s.l.length c.s.cap, .int .i64 c.gate, .int .i64 c.quota]), .int .i64 0] W fun e w' => e = .returned (.agg #[.int .i64 0, .int .i64 0]) ∧ Below W.heap.size W w') := fun W hc => by
      have := owner_any c 0 _ hc; rw [ownV2, hr] at this; exact this
    have FIR : Hid (∀ W, CfgOk W c → Calls Try.prog 13 #[(.agg #[.int .i64 c.cats, .slice c.g.a c.g.l.length c.g.cap, .slice c.r.a c.r.l.length c.r.cap, .slice c.p.a c.p.l.length c.p.cap, .slice c.n.a c.n.l.length c.n.cap, .slice c.s.a c.s.l.length c.s.cap, .int .i64 c.gate, .int .i64 c.quota]), .int .i64 0] W fun e w' => e = .returned (.int .i64 (-1)) ∧ Below W.heap.size W w') := fun W hc => by
      have := first_any c 0 _ hc; rw [firstV, hr] at this; exact this
    have hq3 : ∀ w, Sem.run Try.prog (Op.equalIn 10000 47 (.agg #[.int .i64 0, .int .i64 0]) (.agg #[.int .i64 0, .int .i64 0])) w = .ok true w := fun w => by rw [eqO1]; simp
    clear h0 HZ hr
    ((have h0 := CX.new h; go_enter Try.func5, Try.ntmps5; go_upto_region 1 with fail; generalize w.alloc (.cells #[.int .i64 c.cats, .slice c.g.a c.g.l.length c.g.cap, .slice c.r.a c.r.l.length c.r.cap, .slice c.p.a c.p.l.length c.p.cap, .slice c.n.a c.n.l.length c.n.cap, .slice c.s.a c.s.l.length c.s.cap, .int .i64 c.gate, .int .i64 c.quota] 28) = W1 at h0 ⊢; generalize w.heap.size = b0 at h0 ⊢; have H0 := Lib.hid h0; clear h0 h); have XK := H0; clear H0; (have q0 := XK.out.ob.cell 0 _ rfl; have q1 := XK.out.ob.cell 1 _ rfl; have q2 := XK.out.ob.cell 2 _ rfl; have q3 := XK.out.ob.cell 3 _ rfl; have q4 := XK.out.ob.cell 4 _ rfl; have q5 := XK.out.ob.cell 5 _ rfl; have q6 := XK.out.ob.cell 6 _ rfl; have q7 := XK.out.ob.cell 7 _ rfl))
    go_wp2_with (first | (go_at_call 7; refine (CHK.out _ XK.out.ok).mono ?_; rintro e Wc ⟨rfl, hb⟩; replace XK := Lib.hid (XK.out.below hb); clear hb; (replace q0 := XK.out.ob.cell 0 _ rfl; replace q1 := XK.out.ob.cell 1 _ rfl; replace q2 := XK.out.ob.cell 2 _ rfl; replace q3 := XK.out.ob.cell 3 _ rfl; replace q4 := XK.out.ob.cell 4 _ rfl; replace q5 := XK.out.ob.cell 5 _ rfl; replace q6 := XK.out.ob.cell 6 _ rfl; replace q7 := XK.out.ob.cell 7 _ rfl)) | (go_at_call 11; refine (FRA.out _ XK.out.ok).mono ?_; rintro e Wc ⟨rfl, hb⟩; replace XK := Lib.hid (XK.out.below hb); clear hb; (replace q0 := XK.out.ob.cell 0 _ rfl; replace q1 := XK.out.ob.cell 1 _ rfl; replace q2 := XK.out.ob.cell 2 _ rfl; replace q3 := XK.out.ob.cell 3 _ rfl; replace q4 := XK.out.ob.cell 4 _ rfl; replace q5 := XK.out.ob.cell 5 _ rfl; replace q6 := XK.out.ob.cell 6 _ rfl; replace q7 := XK.out.ob.cell 7 _ rfl)) | (go_at_call 12; refine (OWN.out _ XK.out.ok).mono ?_; rintro e Wc ⟨rfl, hb⟩; replace XK := Lib.hid (XK.out.below hb); clear hb; (replace q0 := XK.out.ob.cell 0 _ rfl; replace q1 := XK.out.ob.cell 1 _ rfl; replace q2 := XK.out.ob.cell 2 _ rfl; replace q3 := XK.out.ob.cell 3 _ rfl; replace q4 := XK.out.ob.cell 4 _ rfl; replace q5 := XK.out.ob.cell 5 _ rfl; replace q6 := XK.out.ob.cell 6 _ rfl; replace q7 := XK.out.ob.cell 7 _ rfl)) | (go_at_call 13; refine (FIR.out _ XK.out.ok).mono ?_; rintro e Wc ⟨rfl, hb⟩; replace XK := Lib.hid (XK.out.below hb); clear hb; (replace q0 := XK.out.ob.cell 0 _ rfl; replace q1 := XK.out.ob.cell 1 _ rfl; replace q2 := XK.out.ob.cell 2 _ rfl; replace q3 := XK.out.ob.cell 3 _ rfl; replace q4 := XK.out.ob.cell 4 _ rfl; replace q5 := XK.out.ob.cell 5 _ rfl; replace q6 := XK.out.ob.cell 6 _ rfl; replace q7 := XK.out.ob.cell 7 _ rfl)) | (go_at_call 8; refine (awake_any _).mono ?_; rintro e wa ⟨rfl, hb⟩; replace XK := Lib.hid (XK.out.below hb); clear hb))
    (go_ret; exact ⟨rfl, XK.out.bel⟩)
end Go.Proofs.Ytmchaaelpbifgaa
