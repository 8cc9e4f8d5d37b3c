/- The walk of the law CoreKernel. -/
import Derived.Test.YtiohfdhmkikckaaDoorCLaw
namespace Go.Proofs.YtiohfdhmkikckaaDoor
set_option linter.unusedVariables false
set_option linter.unusedSimpArgs false
set_option linter.unnecessarySimpa false
open Go.RowKit
set_option maxHeartbeats 4000000
set_option maxRecDepth 100000
set_option linter.unusedVariables false
theorem kernel_walk (v : Value) (xs : List Int) (hv : ∀ x ∈ xs, 0 ≤ x ∧ x < 4294967296) (pc op d a bb n : Int) (w : World) (h : RowI w .u32 v xs) (ht : Isa.Tab w) : Calls Tryd.prog 4 #[v, .int .u32 pc, (.agg #[.int .i64 (op), .int .i64 (d), .int .i64 (a), .int .i64 (bb), .int .i64 (n)])] w fun e w' => e = .returned (.bool true) ∧ Below w.heap.size w w' := by
  obtain ⟨i, hi⟩ : ∃ i : In, i = ⟨op, d, a, bb, n, 1⟩ := ⟨_, rfl⟩
  have HI := Lib.hid hi
  have HN : Hid (ObjAt (w.alloc (.cells #[.int .i64 (op), .int .i64 (d), .int .i64 (a), .int .i64 (bb), .int .i64 (n)] 23)) w.heap.size 23 (insL i)) := by rw [hi]; exact ObjAt.new w _ _
  have B0 : Hid (Below w.heap.size w (w.alloc (.cells #[.int .i64 (op), .int .i64 (d), .int .i64 (a), .int .i64 (bb), .int .i64 (n)] 23))) := (Below.refl _ _).alloc (Nat.le_refl _) _
  have HM0 : Hid (w.heap.size < (w.alloc (.cells #[.int .i64 (op), .int .i64 (d), .int .i64 (a), .int .i64 (bb), .int .i64 (n)] 23)).heap.size) := HN.out.lt
  have H0 := Lib.hid (h.below B0.out)
  obtain ⟨R, hR⟩ : ∃ R, R = rV xs := ⟨_, rfl⟩
  have MADE : Hid (∀ W st, RowI W .u32 v xs → Calls Tryd.prog 10 #[v, .int .u32 pc, .int .u32 st] W fun x W' => ∃ b c g e, x = .returned (.tuple #[.pointer (some ⟨b, 0, none⟩), .pointer (some ⟨c, 0, none⟩), .pointer (some ⟨g, 0, none⟩), .pointer (some ⟨e, 0, none⟩)]) ∧ Four W W' b c g e R pc pc (k3 st) (k3 st)) := fun W st hr => by rw [hR]; exact made_any v xs hv pc st W hr
  have HT := Lib.hid ht
  obtain ⟨a0, c0, rfl, _, _, _⟩ := h
  clear hv ht hR
  go_enter Tryd.func4, Tryd.ntmps4
  go_upto_region 1 with fail
  generalize w.alloc (.cells #[.int .i64 (op), .int .i64 (d), .int .i64 (a), .int .i64 (bb), .int .i64 (n)] 23) = W0 at HN B0 H0 HM0 ⊢
  obtain ⟨m, hm⟩ : ∃ m, m = w.heap.size := ⟨_, rfl⟩
  rw [← hm] at HN HM0 ⊢
  have HMM := Lib.hid hm
  clear hm
  go_upto_region 2 with (go_at_call 10; refine (MADE.out _ 0 H0.out).mono ?_; rintro x W1 ⟨b, c, g, e, rfl, h4⟩; have F1 := Lib.hid h4; clear h4)
  go_upto_region 3 with (go_at_call 10; refine (MADE.out _ 4 (H0.out.below F1.out.bel)).mono ?_; rintro x W2 ⟨b', c', g', e', rfl, h4⟩; have F2 := Lib.hid h4; clear h4)
  go_upto_region 5 with fail
  have hK : KW w W2 m b c b' c' i R pc (k3 0) R pc (k3 4) := by
    have F1' := F1.out.below F2.out.bel
    have l1 := F1.out.lb; have l2 := F1.out.lc; have l3 := F2.out.lb; have l4 := F2.out.lc; have l5 := F1.out.bel.size; have l6 := B0.out.size; have l7 := F1.out.f.lt; have l8 := F1.out.k.lt; have l9 := HM0.out; have l10 := HMM.out
    exact ⟨(HN.out.below F1.out.bel).below F2.out.bel, F1'.f, F1'.k, F2.out.f, F2.out.k, bmore (bmore B0.out F1.out.bel) F2.out.bel, by omega, by omega, by omega, by omega, by omega, by omega⟩
  have K2 := Lib.hid hK
  have OK := Lib.hid F1.out.ok
  have hl := F1.out.f.1
  have HL := Lib.hid hl
  clear hK F1 F2 HN B0 HM0 H0 MADE
  go_upto_region 6 with (first | (go_at_call 11; refine (Regs.all_any b R true pc _ K2.out.f).mono ?_; rintro x W3 ⟨rfl, hb⟩; have K3 := Lib.hid (K2.out.below hb); clear hb) | (refine wpList_store_new rfl 31 (.tmp 15) (.tmp 45) rfl _ _ rfl rfl (by rw [Regs.info_arr]; simp [HL.out]) (by simp [HL.out]) (ints_all _ _) ?_))
  have OLD : Hid (ObjAt (W3.alloc (.cells (R.map (Value.int .u32)).toArray 31)) W3.heap.size 31 (R.map (Value.int .u32))) := ObjAt.new W3 _ _
  have K4 := Lib.hid (K3.out.below ((Below.refl _ _).alloc (Nat.le_refl _) (.cells (R.map (Value.int .u32)).toArray 31)))
  generalize W3.alloc (.cells (R.map (Value.int .u32)).toArray 31) = W4 at OLD K4 ⊢
  generalize W3.heap.size = q at OLD ⊢
  clear K2 K3 hl
  obtain ⟨va, hva⟩ : ∃ z, z = Isa.validB i.op i.d i.a i.b i.n := ⟨_, rfl⟩
  obtain ⟨ke, hke⟩ : ∃ z, z = Isa.kernB i.op := ⟨_, rfl⟩
  obtain ⟨er, her⟩ : ∃ z : Int, z = if va then 0 else 6 := ⟨_, rfl⟩
  obtain ⟨o1, ho1⟩ : ∃ o, o = excO R pc (k3 0) 2 i := ⟨_, rfl⟩
  obtain ⟨o2, ho2⟩ : ∃ o, o = excO R pc (k3 4) 2 i := ⟨_, rfl⟩
  have hclk : i.clk = 1 := by rw [hi]
  have EXA : Hid (∀ W, KW w W m b c b' c' i R pc (k3 0) R pc (k3 4) → Calls Tryd.prog 9 #[(.agg #[.int .i64 (i.op), .int .i64 (i.d), .int .i64 (i.a), .int .i64 (i.b), .int .i64 (i.n)]), .pointer (some ⟨b, 0, none⟩), .pointer (some ⟨c, 0, none⟩), .int .i64 1] W (fun x W' => x = .returned (.tuple #[.agg o1.ef.toArray, .int .i64 er]) ∧ KW w W' m b c b' c' i o1.r o1.pc o1.cr R pc (k3 4) ∧ Mod [b, c] W W')) := fun W hk => by
    have h := exec_any (i := i) OK.out W hk.f hk.k (hk.tab HT.out)
    rw [hclk, ← ho1] at h
    refine h.mono fun x W' ⟨h1, h2, h3, h4⟩ => ⟨?_, hk.one h2 h3 h4, h4⟩
    rw [h1, ho1, excO_er, her, hva]
  have EXB : Hid (∀ W, KW w W m b c b' c' i o1.r o1.pc o1.cr R pc (k3 4) → Calls Tryd.prog 9 #[(.agg #[.int .i64 (i.op), .int .i64 (i.d), .int .i64 (i.a), .int .i64 (i.b), .int .i64 (i.n)]), .pointer (some ⟨b', 0, none⟩), .pointer (some ⟨c', 0, none⟩), .int .i64 1] W (fun x W' => x = .returned (.tuple #[.agg o2.ef.toArray, .int .i64 er]) ∧ KW w W' m b c b' c' i o1.r o1.pc o1.cr o2.r o2.pc o2.cr ∧ Mod [b', c'] W W')) := fun W hk => by
    have h := exec_any (i := i) OK.out W hk.f' hk.k' (hk.tab HT.out)
    rw [hclk, ← ho2] at h
    refine h.mono fun x W' ⟨h1, h2, h3, h4⟩ => ⟨?_, hk.two h2 h3 h4, h4⟩
    rw [h1, ho2, excO_er, her, hva]
  obtain ⟨_, _, _, _, _, _, _, _, _, hef1⟩ : IsEff o1.ef := by rw [ho1]; exact excO_ef _ _ _ _ _
  have EFL : Hid (o1.ef.length = 9) := by rw [hef1]; rfl
  have EFO : Hid (o1.ef.toArray.all (·.oneCell') = true) := by rw [hef1]; exact eff_all _ _ _ _ _ _ _ _ _
  have IE1 : Hid (IsEff o1.ef) := by rw [ho1]; exact excO_ef _ _ _ _ _
  have EFL2 : Hid (o2.ef.length = 9) := by
    obtain ⟨_, _, _, _, _, _, _, _, _, he⟩ : IsEff o2.ef := by rw [ho2]; exact excO_ef _ _ _ _ _
    rw [he]; rfl
  have EFO2 : Hid (o2.ef.toArray.all (·.oneCell') = true) := by
    obtain ⟨_, _, _, _, _, _, _, _, _, he⟩ : IsEff o2.ef := by rw [ho2]; exact excO_ef _ _ _ _ _
    rw [he]; exact eff_all _ _ _ _ _ _ _ _ _
  have HVA := Lib.hid hva; have HKE := Lib.hid hke; have HER := Lib.hid her; have HO1 := Lib.hid ho1; have HO2 := Lib.hid ho2
  clear hef1 hva hke her ho1 ho2 hclk hi
  (have q0 := K4.out.ei.cell 0 _ rfl; have q1 := K4.out.ei.cell 1 _ rfl; have q2 := K4.out.ei.cell 2 _ rfl; have q3 := K4.out.ei.cell 3 _ rfl; have q4 := K4.out.ei.cell 4 _ rfl)
  go_upto_region 7 with (first | (go_at_call 9; refine (EXA.out _ K4.out).mono ?_; rintro x W5 ⟨rfl, hk, hm⟩; have K5 := Lib.hid hk; have OLD5 := Lib.hid (OLD.out.mod hm (by have n1 := (FileAtO K4.out.f).ne OLD.out (by decide); have n2 := K4.out.k.2.ne OLD.out (by decide); simp; omega)); clear hk hm) | (refine wpList_store_new rfl 40 (.tmp 16) (.tmp 51) rfl _ _ rfl rfl (by rw [info_eff]; simp [EFL.out]) (by simp [EFL.out]) EFO.out ?_))
  clear q0 q1 q2 q3 q4 K4 OLD
  have X6 : Hid (ObjAt (W5.alloc (.cells o1.ef.toArray 40)) W5.heap.size 40 o1.ef) := ObjAt.new W5 _ _
  have K6 := Lib.hid (K5.out.below ((Below.refl _ _).alloc (Nat.le_refl _) (.cells o1.ef.toArray 40)))
  have OLD6 := Lib.hid (OLD5.out.below ((Below.refl _ _).alloc (Nat.le_refl _) (.cells o1.ef.toArray 40)))
  generalize W5.alloc (.cells o1.ef.toArray 40) = W6 at X6 K6 OLD6 ⊢
  generalize W5.heap.size = px at X6 ⊢
  clear K5 OLD5
  (have q0 := K6.out.ei.cell 0 _ rfl; have q1 := K6.out.ei.cell 1 _ rfl; have q2 := K6.out.ei.cell 2 _ rfl; have q3 := K6.out.ei.cell 3 _ rfl; have q4 := K6.out.ei.cell 4 _ rfl)
  go_upto_region 8 with (first | (go_at_call 9; refine (EXB.out _ K6.out).mono ?_; rintro x W7 ⟨rfl, hk, hm⟩; have K7 := Lib.hid hk; have OLD7 := Lib.hid (OLD6.out.mod hm (by have n1 := (FileAtO K6.out.f').ne OLD6.out (by decide); have n2 := K6.out.k'.2.ne OLD6.out (by decide); simp; omega)); have X7 := Lib.hid (X6.out.mod hm (by have n1 := (FileAtO K6.out.f').ne X6.out (by decide); have n2 := K6.out.k'.2.ne X6.out (by decide); simp; omega)); clear hk hm) | (refine wpList_store_new rfl 40 (.tmp 18) (.tmp 58) rfl _ _ rfl rfl (by rw [info_eff]; simp [EFL2.out]) (by simp [EFL2.out]) EFO2.out ?_))
  clear q0 q1 q2 q3 q4 K6 OLD6 X6
  have Y8 : Hid (ObjAt (W7.alloc (.cells o2.ef.toArray 40)) W7.heap.size 40 o2.ef) := ObjAt.new W7 _ _
  have K8 := Lib.hid (K7.out.below ((Below.refl _ _).alloc (Nat.le_refl _) (.cells o2.ef.toArray 40)))
  have OLD8 := Lib.hid (OLD7.out.below ((Below.refl _ _).alloc (Nat.le_refl _) (.cells o2.ef.toArray 40)))
  have X8 := Lib.hid (X7.out.below ((Below.refl _ _).alloc (Nat.le_refl _) (.cells o2.ef.toArray 40)))
  generalize W7.alloc (.cells o2.ef.toArray 40) = W8 at X8 Y8 K8 OLD8 ⊢
  generalize W7.heap.size = py at Y8 ⊢
  clear K7 OLD7 X7
  go_upto_region 10 with fail
  have harr := arr16 o1.r K8.out.f.1
  have HARR := Lib.hid harr
  have HL1 := Lib.hid K8.out.f.1
  clear harr
  cases va with
  | false =>
    have he0 : er = 6 := HER.out
    have HEQ : Hid (o1.ef = o2.ef ∧ o1.r = o2.r ∧ o1.pc = o2.pc) := by
      rw [Hid, HO1.out, HO2.out]; exact ks1 (by rw [← HVA.out]; simp)
    subst he0
    go_upto_region 13 with fail
    have YE : Hid (ObjAt W8 py 40 o1.ef) := by rw [HEQ.out.1]; exact Y8.out
    have heq := eqEff IE1.out
    have harr := HARR.out
    have RX : Hid (W8.rangeAt px 0 o1.ef) := X8.out.range 0 _ (fun j v h => by rw [Nat.zero_add]; exact h)
    have RY : Hid (W8.rangeAt py 0 o1.ef) := YE.out.range 0 _ (fun j v h => by rw [Nat.zero_add]; exact h)
    have ALLG : Hid (∀ (z : Nat) (W : World), (z = b ∨ z = b') → Below W8.heap.size W8 W → Calls Tryd.prog 11 #[.pointer (some ⟨z, 0, none⟩)] W (Regs.AllPost o1.r W)) := fun z W hz hb => by
      rcases hz with rfl | rfl
      · exact Regs.all_any _ o1.r true o1.pc _ (K8.out.below hb).f
      · rw [HEQ.out.2.1]; exact Regs.all_any _ o2.r true o2.pc _ (K8.out.below hb).f'
    have PCG : Hid (∀ (z : Nat) (W : World), (z = b ∨ z = b') → Below W8.heap.size W8 W → Calls Tryd.prog 14 #[.pointer (some ⟨z, 0, none⟩)] W fun x W' => x = .returned (.int .u32 o1.pc) ∧ W = W') := fun z W hz hb => by
      rcases hz with rfl | rfl
      · exact Regs.pc_any _ o1.r true o1.pc _ (K8.out.below hb).f
      · rw [HEQ.out.2.2]; exact Regs.pc_any _ o2.r true o2.pc _ (K8.out.below hb).f'
    have BL : Hid (Below W8.heap.size W8 W8) := Below.refl _ _
    go_wp2_with (first | (refine wpList_load_mid rfl 40 (.tmp 16) rfl px 0 rfl o1.ef _ RX.out Tryd.underlying40 rfl (by rw [info_eff, EFL.out]) ?_) | (refine wpList_load_mid rfl 40 (.tmp 18) rfl py 0 rfl o1.ef _ RY.out Tryd.underlying40 rfl (by rw [info_eff, EFL.out]) ?_) | (go_at_call 11; refine (ALLG.out _ _ (by first | exact Or.inl rfl | exact Or.inr rfl) BL.out).mono ?_; rintro x Wn ⟨rfl, hb⟩; replace BL := Lib.hid (bmore BL.out hb); clear hb) | (go_at_call 14; refine (PCG.out _ _ (by first | exact Or.inl rfl | exact Or.inr rfl) BL.out).mono ?_; rintro x Wr ⟨rfl, rfl⟩) | (go_at_call 15; refine (awake_any _ ((K8.out.below BL.out).tab HT.out)).mono ?_; rintro x W11 ⟨rfl, hb⟩; replace BL := Lib.hid (bmore BL.out hb); clear hb))
    go_ret
    exact ⟨rfl, (K8.out.below BL.out).bel⟩
  | true =>
    have he0 : er = 0 := HER.out
    subst he0
    have KER := Lib.hid (fun W => Isa.kernel_any i.op W)
    rw [← HKE.out] at KER
    (have q0 := K8.out.ei.cell 0 _ rfl; have q1 := K8.out.ei.cell 1 _ rfl; have q2 := K8.out.ei.cell 2 _ rfl; have q3 := K8.out.ei.cell 3 _ rfl; have q4 := K8.out.ei.cell 4 _ rfl)
    cases ke with
    | false =>
      have HEQ : Hid (o1.ef = o2.ef ∧ o1.r = o2.r ∧ o1.pc = o2.pc) := by
        rw [Hid, HO1.out, HO2.out]; exact ks1 (by rw [← HKE.out]; simp)
      go_upto_region 13 with (go_at_call 12; refine (KER.out _).mono ?_; rintro y Wq ⟨rfl, rfl⟩)
      clear q0 q1 q2 q3 q4
      have YE : Hid (ObjAt W8 py 40 o1.ef) := by rw [HEQ.out.1]; exact Y8.out
      have heq := eqEff IE1.out
      have harr := HARR.out
      have RX : Hid (W8.rangeAt px 0 o1.ef) := X8.out.range 0 _ (fun j v h => by rw [Nat.zero_add]; exact h)
      have RY : Hid (W8.rangeAt py 0 o1.ef) := YE.out.range 0 _ (fun j v h => by rw [Nat.zero_add]; exact h)
      have ALLG : Hid (∀ (z : Nat) (W : World), (z = b ∨ z = b') → Below W8.heap.size W8 W → Calls Tryd.prog 11 #[.pointer (some ⟨z, 0, none⟩)] W (Regs.AllPost o1.r W)) := fun z W hz hb => by
        rcases hz with rfl | rfl
        · exact Regs.all_any _ o1.r true o1.pc _ (K8.out.below hb).f
        · rw [HEQ.out.2.1]; exact Regs.all_any _ o2.r true o2.pc _ (K8.out.below hb).f'
      have PCG : Hid (∀ (z : Nat) (W : World), (z = b ∨ z = b') → Below W8.heap.size W8 W → Calls Tryd.prog 14 #[.pointer (some ⟨z, 0, none⟩)] W fun x W' => x = .returned (.int .u32 o1.pc) ∧ W = W') := fun z W hz hb => by
        rcases hz with rfl | rfl
        · exact Regs.pc_any _ o1.r true o1.pc _ (K8.out.below hb).f
        · rw [HEQ.out.2.2]; exact Regs.pc_any _ o2.r true o2.pc _ (K8.out.below hb).f'
      have BL : Hid (Below W8.heap.size W8 W8) := Below.refl _ _
      go_wp2_with (first | (refine wpList_load_mid rfl 40 (.tmp 16) rfl px 0 rfl o1.ef _ RX.out Tryd.underlying40 rfl (by rw [info_eff, EFL.out]) ?_) | (refine wpList_load_mid rfl 40 (.tmp 18) rfl py 0 rfl o1.ef _ RY.out Tryd.underlying40 rfl (by rw [info_eff, EFL.out]) ?_) | (go_at_call 11; refine (ALLG.out _ _ (by first | exact Or.inl rfl | exact Or.inr rfl) BL.out).mono ?_; rintro x Wn ⟨rfl, hb⟩; replace BL := Lib.hid (bmore BL.out hb); clear hb) | (go_at_call 14; refine (PCG.out _ _ (by first | exact Or.inl rfl | exact Or.inr rfl) BL.out).mono ?_; rintro x Wr ⟨rfl, rfl⟩) | (go_at_call 15; refine (awake_any _ ((K8.out.below BL.out).tab HT.out)).mono ?_; rintro x W11 ⟨rfl, hb⟩; replace BL := Lib.hid (bmore BL.out hb); clear hb))
      go_ret
      exact ⟨rfl, (K8.out.below BL.out).bel⟩
    | true =>
      obtain ⟨wv, hwv⟩ : ∃ z, z = wordV i := ⟨_, rfl⟩
      have ho := ks0 (r := R) (pc := pc) HVA.out.symm HKE.out.symm
      rw [← HO1.out, ← hwv] at ho
      obtain ⟨e2, he2⟩ : ∃ z, z = Isa.encE i.op i.d i.a i.b i.n := ⟨_, rfl⟩
      have ENC := Lib.hid (fun W => Isa.Encode_ref i.op i.d i.a i.b i.n W)
      rw [show Isa.encW i.op i.d i.a i.b i.n = wv from hwv.symm, ← he2] at ENC
      subst ho
      clear hwv he2
      go_upto_region 11 with (go_at_call 12; refine (KER.out _).mono ?_; rintro y Wq ⟨rfl, rfl⟩)
      go_upto_region 12 with (go_at_call 13; refine (ENC.out _).mono ?_; rintro y W9 ⟨rfl, hb⟩; have K9 := Lib.hid (K8.out.below hb); have X9 := Lib.hid (X8.out.below hb); have OLD9 := Lib.hid (OLD8.out.below hb); clear hb)
      clear q0 q1 q2 q3 q4 K8 X8 Y8 OLD8
      have hd0 : Hid (Below W9.heap.size W9 W9.drew) := (Below.refl _ _).drew
      have HS : Hid (∀ W, Below W9.heap.size W9 W → W.rangeAt px 0 (trapL 7 wv) ∧ W.rangeAt q 0 (R.map (Value.int .u32))) := fun W hb => ⟨(X9.out.below hb).range 0 _ (fun j v h => by rw [Nat.zero_add]; exact h), (OLD9.out.below hb).range 0 _ (fun j v h => by rw [Nat.zero_add]; exact h)⟩
      have heq : ∀ w, Sem.run Tryd.prog (Op.equalIn 10000 40 (.agg (trapL 7 wv).toArray) (.agg #[.int .i64 3, .int .u32 0, .int .u32 0, .int .i64 0, .bool false, .int .i64 0, .int .u32 0, .int .u32 7, .int .u32 wv])) w = .ok true w := eqE 3 0 0 0 false 0 0 7 wv
      have harr := HARR.out
      refine wp_region_held_drew (S := fun W' => W'.rangeAt px 0 (trapL 7 wv) ∧ W'.rangeAt q 0 (R.map (Value.int .u32))) (by kernel_rfl) (HS.out _ hd0.out) (fun hHeld => ?_)
      (refine wpAnyH_take (i := 0) (v := .agg ((trapL 7 wv)).toArray) rfl (by kernel_rfl) (by kernel_rfl) (by kernel_rfl) (fun _ _ _ h => h) (yieldsIf_load_mid (by rfl) 40 (.tmp 16) rfl px 0 rfl ((trapL 7 wv)) _ (fun w h => h.1) Tryd.underlying40 rfl (by rw [info_eff, EFL.out])) (by assumption) ?_; try simp only [Act.put, List.getElem_toArray, List.getElem_cons_succ, List.getElem_cons_zero, List.setIfInBounds_toArray, List.set_cons_zero, List.set_cons_succ])
      (refine wpAnyH_take (i := 1) (v := (.int .u32 wv)) rfl (by kernel_rfl) (by kernel_rfl) (by kernel_rfl) (fun _ _ _ h => h) (Or.inl ⟨by rfl, (by intro w hSw; go_simp)⟩) (by assumption) ?_; try simp only [Act.put, List.getElem_toArray, List.getElem_cons_succ, List.getElem_cons_zero, List.setIfInBounds_toArray, List.set_cons_zero, List.set_cons_succ])
      (refine wpAnyH_take (i := 2) (v := (.agg #[.int .i64 3, .int .u32 0, .int .u32 0, .int .i64 0, .bool false, .int .i64 0, .int .u32 0, .int .u32 7, .int .u32 wv])) rfl (by kernel_rfl) (by kernel_rfl) (by kernel_rfl) (fun _ _ _ h => h) (Or.inl ⟨by rfl, (by intro w hSw; go_simp)⟩) (by assumption) ?_; try simp only [Act.put, List.getElem_toArray, List.getElem_cons_succ, List.getElem_cons_zero, List.setIfInBounds_toArray, List.set_cons_zero, List.set_cons_succ])
      (refine wpAnyH_take (i := 3) (v := (.bool true)) rfl (by kernel_rfl) (by kernel_rfl) (by kernel_rfl) (fun _ _ _ h => h) (Or.inl ⟨by rfl, (by intro w hSw; go_simp)⟩) (by assumption) ?_; try simp only [Act.put, List.getElem_toArray, List.getElem_cons_succ, List.getElem_cons_zero, List.setIfInBounds_toArray, List.set_cons_zero, List.set_cons_succ])
      (refine wpAnyH_take (i := 4) (v := (.bool true)) rfl (by kernel_rfl) (by kernel_rfl) (by kernel_rfl) (fun _ _ _ h => h) (Or.inl ⟨by rfl, (by intro w hSw; go_simp)⟩) (by assumption) ?_; try simp only [Act.put, List.getElem_toArray, List.getElem_cons_succ, List.getElem_cons_zero, List.setIfInBounds_toArray, List.set_cons_zero, List.set_cons_succ])
      (refine wpAnyH_take (i := 5) (v := (.pointer (some ⟨b, 0, none⟩))) rfl (by kernel_rfl) (by kernel_rfl) (by kernel_rfl) (fun _ _ _ h => h) (Or.inl ⟨by rfl, (by intro w hSw; go_simp)⟩) (by assumption) ?_; try simp only [Act.put, List.getElem_toArray, List.getElem_cons_succ, List.getElem_cons_zero, List.setIfInBounds_toArray, List.set_cons_zero, List.set_cons_succ])
      (refine wpAnyH_take (i := 7) (v := .agg ((R.map (Value.int .u32))).toArray) rfl (by kernel_rfl) (by kernel_rfl) (by kernel_rfl) (fun _ _ _ h => h) (yieldsIf_load_mid (by rfl) 31 (.tmp 15) rfl q 0 rfl ((R.map (Value.int .u32))) _ (fun w h => h.2) Tryd.underlying31 rfl (by rw [Regs.info_arr]; simp [HL.out])) (by assumption) ?_; try simp only [Act.put, List.getElem_toArray, List.getElem_cons_succ, List.getElem_cons_zero, List.setIfInBounds_toArray, List.set_cons_zero, List.set_cons_succ])
      (refine wpAnyH_ready (rs := [6]) (by kernel_rfl) (by simp) ?_; refine AllReadyH.cons rfl (fun K hK => ?_) AllReadyH.nil; go_simp; refine (Regs.all_any b R true pc _ (K9.out.below hd0.out).f).mono ?_; rintro x Wn ⟨rfl, hbx⟩; have hd1 := Lib.hid (hd0.out.trans (hbx.mono hd0.out.size)); clear hbx; dsimp only; refine hK.out _ _ (HS.out _ hd1.out) (fun hHeld => ?_); clear hK K; try simp only [Act.put, List.getElem_toArray, List.getElem_cons_succ, List.getElem_cons_zero, List.setIfInBounds_toArray, List.set_cons_zero, List.set_cons_succ])
      (refine wpAnyH_take (i := 8) (v := (.bool true)) rfl (by kernel_rfl) (by kernel_rfl) (by kernel_rfl) (fun _ _ _ h => h) (Or.inl ⟨by rfl, (by intro w hSw; go_simp)⟩) (by assumption) ?_; try simp only [Act.put, List.getElem_toArray, List.getElem_cons_succ, List.getElem_cons_zero, List.setIfInBounds_toArray, List.set_cons_zero, List.set_cons_succ])
      (refine wpAnyH_take (i := 9) (v := (.bool true)) rfl (by kernel_rfl) (by kernel_rfl) (by kernel_rfl) (fun _ _ _ h => h) (Or.inl ⟨by rfl, (by intro w hSw; go_simp)⟩) (by assumption) ?_; try simp only [Act.put, List.getElem_toArray, List.getElem_cons_succ, List.getElem_cons_zero, List.setIfInBounds_toArray, List.set_cons_zero, List.set_cons_succ])
      (refine wpAnyH_take (i := 10) (v := (.bool true)) rfl (by kernel_rfl) (by kernel_rfl) (by kernel_rfl) (fun _ _ _ h => h) (Or.inl ⟨by rfl, (by intro w hSw; go_simp)⟩) (by assumption) ?_; try simp only [Act.put, List.getElem_toArray, List.getElem_cons_succ, List.getElem_cons_zero, List.setIfInBounds_toArray, List.set_cons_zero, List.set_cons_succ])
      (refine wpAnyH_take (i := 11) (v := (.pointer (some ⟨b, 0, none⟩))) rfl (by kernel_rfl) (by kernel_rfl) (by kernel_rfl) (fun _ _ _ h => h) (Or.inl ⟨by rfl, (by intro w hSw; go_simp)⟩) (by assumption) ?_; try simp only [Act.put, List.getElem_toArray, List.getElem_cons_succ, List.getElem_cons_zero, List.setIfInBounds_toArray, List.set_cons_zero, List.set_cons_succ])
      (refine wpAnyH_take (i := 13) (v := (.int .u32 pc)) rfl (by kernel_rfl) (by kernel_rfl) (by kernel_rfl) (fun _ _ _ h => h) (Or.inl ⟨by rfl, (by intro w hSw; go_simp)⟩) (by assumption) ?_; try simp only [Act.put, List.getElem_toArray, List.getElem_cons_succ, List.getElem_cons_zero, List.setIfInBounds_toArray, List.set_cons_zero, List.set_cons_succ])
      (refine wpAnyH_ready (rs := [12]) (by kernel_rfl) (by simp) ?_; refine AllReadyH.cons rfl (fun K hK => ?_) AllReadyH.nil; go_simp; refine (Regs.pc_any b R true pc _ (K9.out.below hd1.out).f).mono ?_; rintro x Wn ⟨rfl, rfl⟩; dsimp only; refine hK.out _ _ (HS.out _ hd1.out) (fun hHeld => ?_); clear hK K; try simp only [Act.put, List.getElem_toArray, List.getElem_cons_succ, List.getElem_cons_zero, List.setIfInBounds_toArray, List.set_cons_zero, List.set_cons_succ])
      (refine wpAnyH_take (i := 14) (v := (.bool true)) rfl (by kernel_rfl) (by kernel_rfl) (by kernel_rfl) (fun _ _ _ h => h) (Or.inl ⟨by rfl, (by intro w hSw; go_simp)⟩) (by assumption) ?_; try simp only [Act.put, List.getElem_toArray, List.getElem_cons_succ, List.getElem_cons_zero, List.setIfInBounds_toArray, List.set_cons_zero, List.set_cons_succ])
      (refine wpAnyH_take (i := 15) (v := (.bool true)) rfl (by kernel_rfl) (by kernel_rfl) (by kernel_rfl) (fun _ _ _ h => h) (Or.inl ⟨by rfl, (by intro w hSw; go_simp)⟩) (by assumption) ?_; try simp only [Act.put, List.getElem_toArray, List.getElem_cons_succ, List.getElem_cons_zero, List.setIfInBounds_toArray, List.set_cons_zero, List.set_cons_succ])
      (refine wpAnyH_take (i := 16) (v := (.bool true)) rfl (by kernel_rfl) (by kernel_rfl) (by kernel_rfl) (fun _ _ _ h => h) (Or.inl ⟨by rfl, (by intro w hSw; go_simp)⟩) (by assumption) ?_; try simp only [Act.put, List.getElem_toArray, List.getElem_cons_succ, List.getElem_cons_zero, List.setIfInBounds_toArray, List.set_cons_zero, List.set_cons_succ])
      (refine wpAnyH_ready (rs := [17]) (by kernel_rfl) (by simp) ?_; refine AllReadyH.cons rfl (fun K hK => ?_) AllReadyH.nil; go_simp; refine (awake_any _ ((K9.out.below hd1.out).tab HT.out)).mono ?_; rintro x Wn ⟨rfl, hbx⟩; have hd2 := Lib.hid (hd1.out.trans (hbx.mono hd1.out.size)); clear hbx; dsimp only; refine hK.out _ _ (HS.out _ hd2.out) (fun hHeld => ?_); clear hK K; try simp only [Act.put, List.getElem_toArray, List.getElem_cons_succ, List.getElem_cons_zero, List.setIfInBounds_toArray, List.set_cons_zero, List.set_cons_succ])
      (refine wpAnyH_take (i := 18) (v := (.bool true)) rfl (by kernel_rfl) (by kernel_rfl) (by kernel_rfl) (fun _ _ _ h => h) (Or.inl ⟨by rfl, (by intro w hSw; go_simp)⟩) (by assumption) ?_; try simp only [Act.put, List.getElem_toArray, List.getElem_cons_succ, List.getElem_cons_zero, List.setIfInBounds_toArray, List.set_cons_zero, List.set_cons_succ])
      (refine wpAnyH_take (i := 19) (v := (.bool true)) rfl (by kernel_rfl) (by kernel_rfl) (by kernel_rfl) (fun _ _ _ h => h) (Or.inl ⟨by rfl, (by intro w hSw; go_simp)⟩) (by assumption) ?_; try simp only [Act.put, List.getElem_toArray, List.getElem_cons_succ, List.getElem_cons_zero, List.setIfInBounds_toArray, List.set_cons_zero, List.set_cons_succ])
      refine wpAnyH_done (by kernel_rfl) ?_ _
      go_wp2_with fail
      go_ret
      exact ⟨rfl, (K9.out.below hd2.out).bel⟩
#print axioms kernel_walk
end Go.Proofs.YtiohfdhmkikckaaDoor
