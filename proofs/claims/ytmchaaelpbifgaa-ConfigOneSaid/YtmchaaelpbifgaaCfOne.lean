/- The law ConfigOne: the walk. -/
import Derived.Test.YtmchaaelpbifgaaCfOpen
namespace Go.Proofs.Ytmchaaelpbifgaa
set_option linter.unusedVariables false
set_option linter.unusedSimpArgs false
set_option linter.unnecessarySimpa false
open Go.RowKit Go.Sort
set_option maxHeartbeats 8000000
set_option maxRecDepth 100000
set_option linter.unusedVariables false
variable {W W' w : World} {c c' : Cv} {b N : Nat} {s : Sl}
theorem gBad_congr (h1 : c'.g.l = c.g.l) (h2 : c'.cats = c.cats) : gBad c' = gBad c := funext fun i => by simp only [gBad, h1, h2]
theorem gFst_congr (h1 : c'.g.l = c.g.l) (h2 : c'.cats = c.cats) : gFst c' = gFst c := by rw [gFst, gFst, gBad_congr h1 h2, h1]
theorem isG_congr (h1 : c'.g.l = c.g.l) (i : Int) : isG c' i = isG c i := by rw [isG, isG, h1]
theorem labG_congr (h1 : c'.g.l = c.g.l) (i : Int) : labG c' i = labG c i := by rw [labG, labG, h1]
theorem stRg_congr (h : c'.r.l = c.r.l) : ∀ i, stRg c' i = stRg c i
  | 0 => rfl
  | i + 1 => by rw [stRg, stRg, stRg_congr h i, h]
theorem rFst_congr (h : c'.r.l = c.r.l) (h2 : c'.cats = c.cats) : rFst c' = rFst c := by
  have : rBad c' = rBad c := funext fun i => by simp only [rBad, h, h2, stRg_congr h]
  rw [rFst, rFst, this, h]
theorem pFst_congr (h : c'.p.l = c.p.l) (h1 : c'.g.l = c.g.l) (h2 : c'.cats = c.cats) : pFst c' = pFst c := by
  have : pBad c' = pBad c := funext fun i => by simp only [pBad, takenB, h, h2, isG_congr h1, labG_congr h1]
  rw [pFst, pFst, this, h]
theorem nFst_congr (h : c'.n.l = c.n.l) (h1 : c'.g.l = c.g.l) : nFst c' = nFst c := by
  have : nBad c' = nBad c := funext fun i => by simp only [nBad, h, isG_congr h1, labG_congr h1]
  rw [nFst, nFst, this, h]
theorem at_set {l : List (List Int)} {i : Nat} (hi : i < l.length) (r : List Int) (j q : Nat) : at_ (l.set i r) j q = if j = i then r.getD q 0 else at_ l j q := by
  have h0 : (l.set i r).getD j [] = if j = i then r else l.getD j [] := by
    simp only [List.getD_eq_getElem?_getD, List.getElem?_set]
    by_cases e : i = j
    · subst e; simp [hi]
    · rw [if_neg e, if_neg (Ne.symm e)]
  unfold at_
  rw [h0]
  split <;> rfl
def noPage (c : Cv) (a : Option Addr) (cap i : Nat) : Cv := { c with g := ⟨a, cap, c.g.l.set i [at_ c.g.l i 0, 0, at_ c.g.l i 2]⟩ }
def noBudget (c : Cv) (a : Option Addr) (cap i : Nat) : Cv := { c with s := ⟨a, cap, c.s.l.set i [at_ c.s.l i 0, 0]⟩ }
def backRing (c : Cv) (a : Option Addr) (cap i : Nat) : Cv := { c with n := ⟨a, cap, c.n.l.set i [at_ c.n.l i 0, at_ c.n.l i 0]⟩ }
theorem noPage_chk (h : Rt c) {i : Nat} (hi : i < c.g.l.length) (a : Option Addr) (cap : Nat) : chkV (noPage c a cap i) = (13, (i : Int)) := by
  have hg : gFst (noPage c a cap i) = ((i : Int), true) := by
    have hl : (noPage c a cap i).g.l.length = c.g.l.length := by simp [noPage]
    have h4 := h.g.1
    rw [gFst, hl, if_neg (by omega)]
    refine fstV_hit hi (fun j hj => ?_) ?_
    · have h2 := h.g.2 j (by omega)
      rw [gBad] at h2 ⊢
      simp only [noPage, at_set hi, if_neg (show ¬ j = i by omega)]
      exact h2
    · rw [gBad]
      simp only [noPage, at_set hi, if_pos rfl]
      simp
  have hc := h.cats
  rw [chkV, if_neg (by simp only [noPage]; omega), rule_hit (k := 0) (by omega) (fun j hj => by omega) (by rw [ruleV, hg])]
  simp only [ruleV, hg]; rfl
theorem noBudget_chk (h : Rt c) {i : Nat} (hi : i < c.s.l.length) (a : Option Addr) (cap : Nat) : chkV (noBudget c a cap i) = (17, (i : Int)) := by
  have hg : sFst (noBudget c a cap i) = ((i : Int), true) := by
    have hl : (noBudget c a cap i).s.l.length = c.s.l.length := by simp [noBudget]
    have h4 := h.sl
    rw [sFst, hl, if_neg (by omega)]
    refine fstV_hit hi (fun j hj => ?_) ?_
    · have h2 := h.sl.2.2 j (by omega)
      rw [sBad] at h2 ⊢
      simp only [noBudget, at_set hi, if_neg (show ¬ j = i by omega), isG] at h2 ⊢
      exact h2
    · rw [sBad]
      simp only [noBudget, at_set hi, if_pos rfl]
      simp
  have hc := h.cats
  rw [chkV, if_neg (by simp only [noBudget]; omega), rule_hit (k := 4) (by omega) (fun j hj => by
    rcases (show j = 0 ∨ j = 1 ∨ j = 2 ∨ j = 3 by omega) with rfl | rfl | rfl | rfl
    · have := h.rule 0 (by omega); simp only [ruleV] at this ⊢; rw [gFst_congr (c' := noBudget c a cap i) (c := c) rfl rfl]; exact this
    · have := h.rule 1 (by omega); simp only [ruleV] at this ⊢; rw [rFst_congr (c' := noBudget c a cap i) (c := c) rfl rfl]; exact this
    · have := h.rule 2 (by omega); simp only [ruleV] at this ⊢; rw [pFst_congr (c' := noBudget c a cap i) (c := c) rfl rfl rfl]; exact this
    · have := h.rule 3 (by omega); simp only [ruleV] at this ⊢; rw [nFst_congr (c' := noBudget c a cap i) (c := c) rfl rfl]; exact this) (by rw [ruleV, hg])]
  simp only [ruleV, hg]; rfl
theorem backRing_chk (h : Rt c) {i : Nat} (hi : i < c.n.l.length) (a : Option Addr) (cap : Nat) : chkV (backRing c a cap i) = (16, (i : Int)) := by
  have hg : nFst (backRing c a cap i) = ((i : Int), true) := by
    have hl : (backRing c a cap i).n.l.length = c.n.l.length := by simp [backRing]
    have h4 := h.n
    rw [nFst, hl, if_neg (by omega)]
    refine fstV_hit hi (fun j hj => ?_) ?_
    · have h2 := h.n.2 j (by omega)
      rw [nBad] at h2 ⊢
      simp only [backRing, at_set hi, if_neg (show ¬ j = i by omega), isG, labG] at h2 ⊢
      exact h2
    · rw [nBad]
      simp only [backRing, at_set hi, if_pos rfl]
      simp
  have hc := h.cats
  rw [chkV, if_neg (by simp only [backRing]; omega), rule_hit (k := 3) (by omega) (fun j hj => by
    rcases (show j = 0 ∨ j = 1 ∨ j = 2 by omega) with rfl | rfl | rfl
    · have := h.rule 0 (by omega); simp only [ruleV] at this ⊢; rw [gFst_congr (c' := backRing c a cap i) (c := c) rfl rfl]; exact this
    · have := h.rule 1 (by omega); simp only [ruleV] at this ⊢; rw [rFst_congr (c' := backRing c a cap i) (c := c) rfl rfl]; exact this
    · have := h.rule 2 (by omega); simp only [ruleV] at this ⊢; rw [pFst_congr (c' := backRing c a cap i) (c := c) rfl rfl rfl]; exact this) (by rw [ruleV, hg])]
  simp only [ruleV, hg]; rfl
/-- One number of one row put. -/
theorem iF_set {N : Nat} : ∀ (l : List (List Int)) (h : ∀ r ∈ l, r.length = N) (k j : Nat) (x : Int), k < l.length → j < N → (iF l).set (k * N + j) (.int .i64 x) = iF (l.set k ((l.getD k []).set j x))
  | [], _, _, _, _, hk, _ => by simp at hk
  | r :: l, h, 0, j, x, _, hj => by
    have hr := h r (by simp)
    simp only [iF, List.map_cons, List.flatten_cons, Nat.zero_mul, Nat.zero_add, List.set_cons_zero, List.getD_cons_zero]
    rw [List.set_append_left _ _ (by simp [ivs, hr, hj])]
    simp [ivs, List.map_set]
  | r :: l, h, k + 1, j, x, hk, hj => by
    have hr := h r (by simp)
    have ih := iF_set l (fun r' hr' => h r' (by simp [hr'])) k j x (by simpa using hk) hj
    simp only [iF, List.map_cons, List.flatten_cons, List.set_cons_succ, List.getD_cons_succ] at ih ⊢
    rw [List.set_append_right _ _ (by simp [ivs, hr, Nat.add_mul]; omega)]
    congr 1
    rw [← ih]
    congr 1
    simp [ivs, hr, Nat.add_mul]; omega
theorem iF_one (l : List (List Int)) : ∀ u ∈ iF l, u.oneCell' = true := by
  intro u hu
  simp only [iF, List.mem_flatten, List.mem_map] at hu
  obtain ⟨_, ⟨r, _, rfl⟩, hu⟩ := hu
  obtain ⟨x, _, rfl⟩ := List.mem_map.1 hu
  rfl
theorem info_gu : (Try.prog.info? 34).map (fun i => (i.zero, i.size, i.bytes)) = some (some (.agg #[.int .i64 0, .int .i64 0, .int .i64 0]), 3, 24) := by kernel_rfl
theorem info_sl : (Try.prog.info? 36).map (fun i => (i.zero, i.size, i.bytes)) = some (some (.agg #[.int .i64 0, .int .i64 0]), 2, 16) := by kernel_rfl
theorem info_ri : (Try.prog.info? 38).map (fun i => (i.zero, i.size, i.bytes)) = some (some (.agg #[.int .i64 0, .int .i64 0]), 2, 16) := by kernel_rfl
/-- A copy of the configuration is laid; its place for index is named. -/
theorem set_page {l : List (List Int)} {i : Nat} (hi : i < l.length) (h : ∀ r ∈ l, r.length = 3) : (l.getD i []).set 1 0 = [at_ l i 0, 0, at_ l i 2] := by
  obtain ⟨x, y, z, hr⟩ := row3 hi h
  have e : l.getD i [] = [x, y, z] := by rw [← hr]; simp [List.getD_eq_getElem?_getD, hi]
  rw [at_, at_, e]; rfl
theorem set_two {l : List (List Int)} {i : Nat} (v : Int) (hi : i < l.length) (h : ∀ r ∈ l, r.length = 2) : (l.getD i []).set 1 v = [at_ l i 0, v] := by
  obtain ⟨x, y, hr⟩ := row2 hi h
  have e : l.getD i [] = [x, y] := by rw [← hr]; simp [List.getD_eq_getElem?_getD, hi]
  rw [at_, e]; rfl
theorem at_some {N : Nat} {l : List (List Int)} {i : Nat} (hi : i < l.length) (h : ∀ r ∈ l, r.length = N) {q : Nat} (hq : q < N) : (l[i])[q]? = some (l[i].getD q 0) := by
  have := h _ (List.getElem_mem hi)
  rw [List.getD_eq_getElem?_getD, List.getElem?_eq_getElem (by omega)]; rfl
theorem one_walk (c : Cv) (u : Nat) (hu : u < 256) (w : World) (h : CfgOk w c) : Calls Try.prog 3 #[(.agg #[.int .i64 c.cats, .slice c.g.a c.g.l.length c.g.cap, .slice c.r.a c.r.l.length c.r.cap, .slice c.p.a c.p.l.length c.p.cap, .slice c.n.a c.n.l.length c.n.cap, .slice c.s.a c.s.l.length c.s.cap, .int .i64 c.gate, .int .i64 c.quota]), .int .u8 u] w fun e w' => e = .returned (.bool true) ∧ Below w.heap.size w w' := by
  obtain ⟨ig, hig, hzg, hzg1, hzg2⟩ := info_parts info_gu
  obtain ⟨is, his, hzs, hzs1, hzs2⟩ := info_parts info_sl
  obtain ⟨ir, hir, hzr, hzr1, hzr2⟩ := info_parts info_ri
  obtain ⟨z, hz⟩ : ∃ z, z = chkV c := ⟨_, rfl⟩
  have CHK : Hid (∀ W, CfgOk W c → Calls Try.prog 7 #[(.agg #[.int .i64 c.cats, .slice c.g.a c.g.l.length c.g.cap, .slice c.r.a c.r.l.length c.r.cap, .slice c.p.a c.p.l.length c.p.cap, .slice c.n.a c.n.l.length c.n.cap, .slice c.s.a c.s.l.length c.s.cap, .int .i64 c.gate, .int .i64 c.quota])] W fun e w' => e = .returned (.tuple #[.int .i64 z.1, .int .i64 z.2]) ∧ Below W.heap.size W w') := fun W hc => by rw [hz]; exact check_any c _ hc
  have HZ := Lib.hid hz
  clear hz
  by_cases h0 : z.1 = 0
  · have d0 : (z.1 != 0) = false := by simp [h0]
    have RT := Lib.hid (rt_of (c := c) (by rw [rightV, ← HZ.out, h0]; rfl))
    have hg1 := RT.out.g1
    have hg4 := RT.out.g.1
    have hs1 := RT.out.sl.1
    have hs8 := RT.out.sl.2.1
    have d1 : ((c.g.l.length : Int) == 0) = false := by rw [beq_eq_false_iff_ne]; omega
    have d2 : ((c.s.l.length : Int) == 0) = false := by rw [beq_eq_false_iff_ne]; omega
    have d1' : (c.g.l.length == 0) = false := by rw [beq_eq_false_iff_ne]; omega
    have d2' : (c.s.l.length == 0) = false := by rw [beq_eq_false_iff_ne]; omega
    have n1 : (c.g.l.length : Int) ≠ 0 := by omega
    have n2 : (c.s.l.length : Int) ≠ 0 := by omega
    have n1' : c.g.l.length ≠ 0 := by omega
    have n2' : c.s.l.length ≠ 0 := by omega
    have HC := Lib.hid h
    clear h0 HZ
    ((have h0 := CX.new h; go_enter Try.func3, Try.ntmps3; go_upto_region 1 with fail; generalize w.alloc (.cells #[.int .i64 c.cats, .slice c.g.a c.g.l.length c.g.cap, .slice c.r.a c.r.l.length c.r.cap, .slice c.p.a c.p.l.length c.p.cap, .slice c.n.a c.n.l.length c.n.cap, .slice c.s.a c.s.l.length c.s.cap, .int .i64 c.gate, .int .i64 c.quota] 28) = W1 at h0 ⊢; generalize w.heap.size = b0 at h0 ⊢; have H0 := Lib.hid h0; clear h0 h); have XK := H0; clear H0; (have q0 := XK.out.ob.cell 0 _ rfl; have q1 := XK.out.ob.cell 1 _ rfl; have q2 := XK.out.ob.cell 2 _ rfl; have q3 := XK.out.ob.cell 3 _ rfl; have q4 := XK.out.ob.cell 4 _ rfl; have q5 := XK.out.ob.cell 5 _ rfl; have q6 := XK.out.ob.cell 6 _ rfl; have q7 := XK.out.ob.cell 7 _ rfl))
    go_upto_region 8 with (go_at_call 7; refine (CHK.out _ XK.out.ok).mono ?_; rintro e Wc ⟨rfl, hb⟩; replace XK := Lib.hid (XK.out.below hb); clear hb; (replace q0 := XK.out.ob.cell 0 _ rfl; replace q1 := XK.out.ob.cell 1 _ rfl; replace q2 := XK.out.ob.cell 2 _ rfl; replace q3 := XK.out.ob.cell 3 _ rfl; replace q4 := XK.out.ob.cell 4 _ rfl; replace q5 := XK.out.ob.cell 5 _ rfl; replace q6 := XK.out.ob.cell 6 _ rfl; replace q7 := XK.out.ob.cell 7 _ rfl))
    (
    have hmod : (u : Int) % (c.g.l.length : Int) = ((u % c.g.l.length : Nat) : Int) := by simp
    rw [hmod]
    clear hmod
    have hi : u % c.g.l.length < c.g.l.length := Nat.mod_lt _ (by omega)
    generalize u % c.g.l.length = i at hi ⊢
    have XB : Hid (ObjAt (Wc.alloc (.cells #[.int .i64 c.cats, .slice c.g.a c.g.l.length c.g.cap, .slice c.r.a c.r.l.length c.r.cap, .slice c.p.a c.p.l.length c.p.cap, .slice c.n.a c.n.l.length c.n.cap, .slice c.s.a c.s.l.length c.s.cap, .int .i64 c.gate, .int .i64 c.quota] 28)) Wc.heap.size 28 (cfgL c)) := ObjAt.new Wc _ (cfgL c)
    have X1 : Hid (CX w (Wc.alloc (.cells #[.int .i64 c.cats, .slice c.g.a c.g.l.length c.g.cap, .slice c.r.a c.r.l.length c.r.cap, .slice c.p.a c.p.l.length c.p.cap, .slice c.n.a c.n.l.length c.n.cap, .slice c.s.a c.s.l.length c.s.cap, .int .i64 c.gate, .int .i64 c.quota] 28)) b0 c) := XK.out.below ((Below.refl _ _).alloc (Nat.le_refl _) _)
    have XGE : Hid (w.heap.size ≤ Wc.heap.size ∧ b0 < Wc.heap.size) := ⟨XK.out.bel.size, XK.out.ob.lt⟩
    generalize Wc.alloc (.cells #[.int .i64 c.cats, .slice c.g.a c.g.l.length c.g.cap, .slice c.r.a c.r.l.length c.r.cap, .slice c.p.a c.p.l.length c.p.cap, .slice c.n.a c.n.l.length c.n.cap, .slice c.s.a c.s.l.length c.s.cap, .int .i64 c.gate, .int .i64 c.quota] 28) = W1 at XB X1 ⊢
    generalize Wc.heap.size = xb at XB XGE ⊢
    clear XK q0 q1 q2 q3 q4 q5 q6 q7
    (have q0 := X1.out.ob.cell 0 _ rfl; have q1 := X1.out.ob.cell 1 _ rfl; have q2 := X1.out.ob.cell 2 _ rfl; have q3 := X1.out.ob.cell 3 _ rfl; have q4 := X1.out.ob.cell 4 _ rfl; have q5 := X1.out.ob.cell 5 _ rfl; have q6 := X1.out.ob.cell 6 _ rfl; have q7 := X1.out.ob.cell 7 _ rfl)
)
    (
    obtain ⟨gx, go, hga, hjunk⟩ := X1.out.ok.g.cells (by omega) i hi
    clear hjunk
    have HRD := Lib.hid X1.out.ok.g.rd
    rw [hga] at q1 HRD
    have HN : Hid (∀ W', Below W1.heap.size W1 W' → ∀ j v, (iF c.g.l)[j]? = some v → W'.cell? ((⟨gx, go, none⟩ : Addr).add j) = some v) := fun W' hW j v hu => by
      obtain ⟨b, o, he, hb, hc⟩ := HRD.out.2.2 _ rfl (by intro h0; rw [h0] at hu; simp at hu)
      cases he
      have e : (⟨gx, go, none⟩ : Addr).add j = ⟨gx, go + j, none⟩ := by unfold Addr.add; split <;> simp_all
      rw [e]; exact (hW.cell (p := ⟨gx, go + j, none⟩) hb).trans (hc j v hu)
    have HL : Hid ((iF c.g.l).length = c.g.l.length * 3) := HRD.out.1
    have HE := Lib.hid (own_empty W1 34 3)
    have qa : (W1.alloc (.cells #[] 34)).cell? ⟨b0, 1, none⟩ = some (.slice (some ⟨gx, go, none⟩) c.g.l.length c.g.cap) := by rw [((Below.refl W1.heap.size W1).alloc (Nat.le_refl _) _).cell (p := ⟨b0, 1, none⟩) X1.out.ob.lt]; exact q1
    have hxlt := XB.out.lt
    have hmx : c.g.l.length ≤ 100000 := by omega
    clear hga
    go_upto_region 9 with (at_builtin; (refine wpList_append_own_at _ rfl (.tmp 44) (.tmp 46) _ rfl W1.heap.size 34 ig _ 3 24 Try.underlying22 hig hzg hzg1 hzg2 rfl (by omega) (.slice (some ⟨W1.heap.size, 0, none⟩) 0 0) 0 [] rfl HE.out ⟨gx, go, none⟩ c.g.l.length c.g.cap (iF c.g.l) rfl HL.out (HN.out _ ((Below.refl _ _).alloc (Nat.le_refl _) _)) (iF_one _) (by simp only [maxLen]; omega) (by omega) (by simp) ?_); intro v1 w1 hown1 hg1 hz hat1; obtain ⟨a4, c4, he4, hown4, hb4⟩ := clone_post (n := c.g.l.length) hown1 hg1; cases he4; have HB4 := Lib.hid hb4; have XB2 := Lib.hid (XB.out.below hb4); have OW2 := Lib.hid hown4; have x0 := XB2.out.cell 1 _ rfl; have xf := XB2.out.free 1; clear hown1 hg1 hz hat1 hown4 hb4)
    obtain ⟨g4, hg4e, hg4, hg4lt⟩ := OW2.out.at_ (by omega)
    subst hg4e
    have XB3 : Hid (ObjAt (w1.setCell ⟨xb, 1, none⟩ (.slice (some ⟨g4, 0, none⟩) c.g.l.length c4)) xb 28 ((cfgL c).set 1 (.slice (some ⟨g4, 0, none⟩) c.g.l.length c4))) := XB2.out.set 1 _
    have OW3 : Hid (Own (w1.setCell ⟨xb, 1, none⟩ (.slice (some ⟨g4, 0, none⟩) c.g.l.length c4)) W1.heap.size 34 3 (some ⟨g4, 0, none⟩) c.g.l.length c4 (iF c.g.l)) := OW2.out.upd (Upd.setCell w1 ⟨xb, 1, none⟩ _) (fun hk => by have := (OW2.out.ge xb hk).1; omega)
    have BL3 : Hid (Below w.heap.size w (w1.setCell ⟨xb, 1, none⟩ (.slice (some ⟨g4, 0, none⟩) c.g.l.length c4))) := (X1.out.bel.trans (HB4.out.mono X1.out.bel.size)).setCell (p := ⟨xb, 1, none⟩) XGE.out.1 _
    have OB3 : Hid (ObjAt (w1.setCell ⟨xb, 1, none⟩ (.slice (some ⟨g4, 0, none⟩) c.g.l.length c4)) b0 28 (cfgL c)) := (X1.out.ob.below HB4.out).upd (Upd.setCell w1 ⟨xb, 1, none⟩ _) (by have := XGE.out.2; show b0 ≠ xb; omega)
    have G4 : Hid (b0 < g4 ∧ xb < g4 ∧ w.heap.size ≤ g4) := ⟨by have := XGE.out.2; omega, by omega, by have := X1.out.bel.size; omega⟩
    generalize w1.setCell ⟨xb, 1, none⟩ (.slice (some ⟨g4, 0, none⟩) c.g.l.length c4) = W3 at XB3 OW3 BL3 OB3 ⊢
    clear qa x0 xf XB2 OW2 HB4 hg4 hg4lt HRD HN HL HE hmx hxlt q0 q1 q2 q3 q4 q5 q6 q7
    have iz : (0 : Int) ≤ (i : Int) := by omega
    have il : (i : Int) < (c.g.l.length : Int) := by omega
    have x0 := XB3.out.cell 1 _ rfl
    have k0 := OW3.out.cell (i * 3 + 1) _ (iF_get c.g.l X1.out.ok.g.len i 1 (at_ c.g.l i 1) hi (by rw [at_eq hi]; exact at_some hi X1.out.ok.g.len (by omega)))
    have kf := OW3.out.free (i * 3 + 1)
)
    go_upto_region 10 with fail
    (
    have XB4 : Hid (ObjAt (W3.setCell ⟨g4, i * 3 + 1, none⟩ (.int .i64 (0))) xb 28 ((cfgL c).set 1 (.slice (some ⟨g4, 0, none⟩) c.g.l.length c4))) := XB3.out.upd (Upd.setCell W3 ⟨g4, i * 3 + 1, none⟩ _) (by have := G4.out; show xb ≠ g4; omega)
    have OB4 : Hid (ObjAt (W3.setCell ⟨g4, i * 3 + 1, none⟩ (.int .i64 (0))) b0 28 (cfgL c)) := OB3.out.upd (Upd.setCell W3 ⟨g4, i * 3 + 1, none⟩ _) (by have := G4.out; show b0 ≠ g4; omega)
    have BL4 : Hid (Below w.heap.size w (W3.setCell ⟨g4, i * 3 + 1, none⟩ (.int .i64 (0)))) := BL3.out.setCell (p := ⟨g4, i * 3 + 1, none⟩) G4.out.2.2 _
    have OW4 := Own.put OW3.out (j := i * 3 + 1) (by have := Nat.mul_le_mul_right 3 (show i + 1 ≤ c.g.l.length by omega); rw [Nat.add_mul] at this; omega) (.int .i64 (0))
    rw [iF_set c.g.l X1.out.ok.g.len i 1 (0) hi (by omega)] at OW4
    have SL4 : Hid (SlOk (W3.setCell ⟨g4, i * 3 + 1, none⟩ (.int .i64 (0))) 3 ⟨some ⟨g4, 0, none⟩, c4, c.g.l.set i [at_ c.g.l i 0, 0, at_ c.g.l i 2]⟩) := ⟨by
        have := OW4.rd
        rw [List.length_set]
        rw [← (show (c.g.l.getD i []).set 1 0 = [at_ c.g.l i 0, 0, at_ c.g.l i 2] from set_page hi X1.out.ok.g.len)]; exact this, by rw [List.length_set]; exact OW4.le, OW4.capMax, fun r hr => by
        rcases List.mem_or_eq_of_mem_set hr with h1 | h1
        · exact X1.out.ok.g.len r h1
        · rw [h1]; rfl⟩
    generalize W3.setCell ⟨g4, i * 3 + 1, none⟩ (.int .i64 (0)) = W4 at XB4 OB4 BL4 SL4 ⊢
    clear OW4 OW3 XB3 OB3 BL3 x0 k0 kf
    have XK : Hid (CX w W4 b0 c) := ⟨OB4.out, HC.out.below BL4.out, BL4.out⟩
    have XX : Hid (CX w W4 xb (noPage c (some ⟨g4, 0, none⟩) c4 i)) := ⟨by
      have := XB4.out
      have hl : (c.g.l.set i [at_ c.g.l i 0, 0, at_ c.g.l i 2]).length = c.g.l.length := List.length_set
      unfold cfgL at this ⊢
      simp only [noPage, hl]
      exact this, by
      have := XK.out.ok
      exact ⟨SL4.out, this.r, this.p, this.n, this.s⟩, BL4.out⟩
    clear OB4 SL4 X1
)
    (
    have CHX : Hid (Calls Try.prog 7 #[.agg #[.int .i64 c.cats, .slice (some ⟨g4, 0, none⟩) c.g.l.length c4, .slice c.r.a c.r.l.length c.r.cap, .slice c.p.a c.p.l.length c.p.cap, .slice c.n.a c.n.l.length c.n.cap, .slice c.s.a c.s.l.length c.s.cap, .int .i64 c.gate, .int .i64 c.quota]] W4 fun e w' => e = .returned (.tuple #[.int .i64 13, .int .i64 i]) ∧ Below W4.heap.size W4 w') := by
      have h1 := check_any (noPage c (some ⟨g4, 0, none⟩) c4 i) W4 XX.out.ok
      rw [noPage_chk RT.out hi] at h1
      simp only [noPage, List.length_set] at h1
      exact h1
    have y0 := XB4.out.cell 0 _ rfl; have y1 := XB4.out.cell 1 _ rfl; have y2 := XB4.out.cell 2 _ rfl; have y3 := XB4.out.cell 3 _ rfl; have y4 := XB4.out.cell 4 _ rfl; have y5 := XB4.out.cell 5 _ rfl; have y6 := XB4.out.cell 6 _ rfl; have y7 := XB4.out.cell 7 _ rfl
    go_upto_region 11 with (go_at_call 7; refine CHX.out.mono ?_; rintro e W5 ⟨rfl, hb⟩; replace XK := Lib.hid (XK.out.below hb); clear hb)
    clear CHX y0 y1 y2 y3 y4 y5 y6 y7 XX XB4 BL4 G4 XGE iz il hi
)
    (have q0 := XK.out.ob.cell 0 _ rfl; have q1 := XK.out.ob.cell 1 _ rfl; have q2 := XK.out.ob.cell 2 _ rfl; have q3 := XK.out.ob.cell 3 _ rfl; have q4 := XK.out.ob.cell 4 _ rfl; have q5 := XK.out.ob.cell 5 _ rfl; have q6 := XK.out.ob.cell 6 _ rfl; have q7 := XK.out.ob.cell 7 _ rfl)
    go_upto_region 13 with fail
    (
    have hmod : (u : Int) % (c.s.l.length : Int) = ((u % c.s.l.length : Nat) : Int) := by simp
    rw [hmod]
    clear hmod
    have hi : u % c.s.l.length < c.s.l.length := Nat.mod_lt _ (by omega)
    generalize u % c.s.l.length = i at hi ⊢
    have XB : Hid (ObjAt (W5.alloc (.cells #[.int .i64 c.cats, .slice c.g.a c.g.l.length c.g.cap, .slice c.r.a c.r.l.length c.r.cap, .slice c.p.a c.p.l.length c.p.cap, .slice c.n.a c.n.l.length c.n.cap, .slice c.s.a c.s.l.length c.s.cap, .int .i64 c.gate, .int .i64 c.quota] 28)) W5.heap.size 28 (cfgL c)) := ObjAt.new W5 _ (cfgL c)
    have X1 : Hid (CX w (W5.alloc (.cells #[.int .i64 c.cats, .slice c.g.a c.g.l.length c.g.cap, .slice c.r.a c.r.l.length c.r.cap, .slice c.p.a c.p.l.length c.p.cap, .slice c.n.a c.n.l.length c.n.cap, .slice c.s.a c.s.l.length c.s.cap, .int .i64 c.gate, .int .i64 c.quota] 28)) b0 c) := XK.out.below ((Below.refl _ _).alloc (Nat.le_refl _) _)
    have XGE : Hid (w.heap.size ≤ W5.heap.size ∧ b0 < W5.heap.size) := ⟨XK.out.bel.size, XK.out.ob.lt⟩
    generalize W5.alloc (.cells #[.int .i64 c.cats, .slice c.g.a c.g.l.length c.g.cap, .slice c.r.a c.r.l.length c.r.cap, .slice c.p.a c.p.l.length c.p.cap, .slice c.n.a c.n.l.length c.n.cap, .slice c.s.a c.s.l.length c.s.cap, .int .i64 c.gate, .int .i64 c.quota] 28) = W1 at XB X1 ⊢
    generalize W5.heap.size = xb at XB XGE ⊢
    clear XK q0 q1 q2 q3 q4 q5 q6 q7
    (have q0 := X1.out.ob.cell 0 _ rfl; have q1 := X1.out.ob.cell 1 _ rfl; have q2 := X1.out.ob.cell 2 _ rfl; have q3 := X1.out.ob.cell 3 _ rfl; have q4 := X1.out.ob.cell 4 _ rfl; have q5 := X1.out.ob.cell 5 _ rfl; have q6 := X1.out.ob.cell 6 _ rfl; have q7 := X1.out.ob.cell 7 _ rfl)
)
    (
    obtain ⟨gx, go, hga, hjunk⟩ := X1.out.ok.s.cells (by omega) i hi
    clear hjunk
    have HRD := Lib.hid X1.out.ok.s.rd
    rw [hga] at q5 HRD
    have HN : Hid (∀ W', Below W1.heap.size W1 W' → ∀ j v, (iF c.s.l)[j]? = some v → W'.cell? ((⟨gx, go, none⟩ : Addr).add j) = some v) := fun W' hW j v hu => by
      obtain ⟨b, o, he, hb, hc⟩ := HRD.out.2.2 _ rfl (by intro h0; rw [h0] at hu; simp at hu)
      cases he
      have e : (⟨gx, go, none⟩ : Addr).add j = ⟨gx, go + j, none⟩ := by unfold Addr.add; split <;> simp_all
      rw [e]; exact (hW.cell (p := ⟨gx, go + j, none⟩) hb).trans (hc j v hu)
    have HL : Hid ((iF c.s.l).length = c.s.l.length * 2) := HRD.out.1
    have HE := Lib.hid (own_empty W1 36 2)
    have qa : (W1.alloc (.cells #[] 36)).cell? ⟨b0, 5, none⟩ = some (.slice (some ⟨gx, go, none⟩) c.s.l.length c.s.cap) := by rw [((Below.refl W1.heap.size W1).alloc (Nat.le_refl _) _).cell (p := ⟨b0, 5, none⟩) X1.out.ob.lt]; exact q5
    have hxlt := XB.out.lt
    have hmx : c.s.l.length ≤ 100000 := by omega
    clear hga
    go_upto_region 14 with (at_builtin; (refine wpList_append_own_at _ rfl (.tmp 66) (.tmp 68) _ rfl W1.heap.size 36 is _ 2 16 Try.underlying26 his hzs hzs1 hzs2 rfl (by omega) (.slice (some ⟨W1.heap.size, 0, none⟩) 0 0) 0 [] rfl HE.out ⟨gx, go, none⟩ c.s.l.length c.s.cap (iF c.s.l) rfl HL.out (HN.out _ ((Below.refl _ _).alloc (Nat.le_refl _) _)) (iF_one _) (by simp only [maxLen]; omega) (by omega) (by simp) ?_); intro v1 w1 hown1 hg1 hz hat1; obtain ⟨a4, c4, he4, hown4, hb4⟩ := clone_post (n := c.s.l.length) hown1 hg1; cases he4; have HB4 := Lib.hid hb4; have XB2 := Lib.hid (XB.out.below hb4); have OW2 := Lib.hid hown4; have x0 := XB2.out.cell 5 _ rfl; have xf := XB2.out.free 5; clear hown1 hg1 hz hat1 hown4 hb4)
    obtain ⟨g4, hg4e, hg4, hg4lt⟩ := OW2.out.at_ (by omega)
    subst hg4e
    have XB3 : Hid (ObjAt (w1.setCell ⟨xb, 5, none⟩ (.slice (some ⟨g4, 0, none⟩) c.s.l.length c4)) xb 28 ((cfgL c).set 5 (.slice (some ⟨g4, 0, none⟩) c.s.l.length c4))) := XB2.out.set 5 _
    have OW3 : Hid (Own (w1.setCell ⟨xb, 5, none⟩ (.slice (some ⟨g4, 0, none⟩) c.s.l.length c4)) W1.heap.size 36 2 (some ⟨g4, 0, none⟩) c.s.l.length c4 (iF c.s.l)) := OW2.out.upd (Upd.setCell w1 ⟨xb, 5, none⟩ _) (fun hk => by have := (OW2.out.ge xb hk).1; omega)
    have BL3 : Hid (Below w.heap.size w (w1.setCell ⟨xb, 5, none⟩ (.slice (some ⟨g4, 0, none⟩) c.s.l.length c4))) := (X1.out.bel.trans (HB4.out.mono X1.out.bel.size)).setCell (p := ⟨xb, 5, none⟩) XGE.out.1 _
    have OB3 : Hid (ObjAt (w1.setCell ⟨xb, 5, none⟩ (.slice (some ⟨g4, 0, none⟩) c.s.l.length c4)) b0 28 (cfgL c)) := (X1.out.ob.below HB4.out).upd (Upd.setCell w1 ⟨xb, 5, none⟩ _) (by have := XGE.out.2; show b0 ≠ xb; omega)
    have G4 : Hid (b0 < g4 ∧ xb < g4 ∧ w.heap.size ≤ g4) := ⟨by have := XGE.out.2; omega, by omega, by have := X1.out.bel.size; omega⟩
    generalize w1.setCell ⟨xb, 5, none⟩ (.slice (some ⟨g4, 0, none⟩) c.s.l.length c4) = W3 at XB3 OW3 BL3 OB3 ⊢
    clear qa x0 xf XB2 OW2 HB4 hg4 hg4lt HRD HN HL HE hmx hxlt q0 q1 q2 q3 q4 q5 q6 q7
    have iz : (0 : Int) ≤ (i : Int) := by omega
    have il : (i : Int) < (c.s.l.length : Int) := by omega
    have x0 := XB3.out.cell 5 _ rfl
    have k0 := OW3.out.cell (i * 2 + 1) _ (iF_get c.s.l X1.out.ok.s.len i 1 (at_ c.s.l i 1) hi (by rw [at_eq hi]; exact at_some hi X1.out.ok.s.len (by omega)))
    have kf := OW3.out.free (i * 2 + 1)
)
    go_upto_region 15 with fail
    (
    have XB4 : Hid (ObjAt (W3.setCell ⟨g4, i * 2 + 1, none⟩ (.int .i64 (0))) xb 28 ((cfgL c).set 5 (.slice (some ⟨g4, 0, none⟩) c.s.l.length c4))) := XB3.out.upd (Upd.setCell W3 ⟨g4, i * 2 + 1, none⟩ _) (by have := G4.out; show xb ≠ g4; omega)
    have OB4 : Hid (ObjAt (W3.setCell ⟨g4, i * 2 + 1, none⟩ (.int .i64 (0))) b0 28 (cfgL c)) := OB3.out.upd (Upd.setCell W3 ⟨g4, i * 2 + 1, none⟩ _) (by have := G4.out; show b0 ≠ g4; omega)
    have BL4 : Hid (Below w.heap.size w (W3.setCell ⟨g4, i * 2 + 1, none⟩ (.int .i64 (0)))) := BL3.out.setCell (p := ⟨g4, i * 2 + 1, none⟩) G4.out.2.2 _
    have OW4 := Own.put OW3.out (j := i * 2 + 1) (by have := Nat.mul_le_mul_right 2 (show i + 1 ≤ c.s.l.length by omega); rw [Nat.add_mul] at this; omega) (.int .i64 (0))
    rw [iF_set c.s.l X1.out.ok.s.len i 1 (0) hi (by omega)] at OW4
    have SL4 : Hid (SlOk (W3.setCell ⟨g4, i * 2 + 1, none⟩ (.int .i64 (0))) 2 ⟨some ⟨g4, 0, none⟩, c4, c.s.l.set i [at_ c.s.l i 0, 0]⟩) := ⟨by
        have := OW4.rd
        rw [List.length_set]
        rw [← (show (c.s.l.getD i []).set 1 0 = [at_ c.s.l i 0, 0] from set_two 0 hi X1.out.ok.s.len)]; exact this, by rw [List.length_set]; exact OW4.le, OW4.capMax, fun r hr => by
        rcases List.mem_or_eq_of_mem_set hr with h1 | h1
        · exact X1.out.ok.s.len r h1
        · rw [h1]; rfl⟩
    generalize W3.setCell ⟨g4, i * 2 + 1, none⟩ (.int .i64 (0)) = W4 at XB4 OB4 BL4 SL4 ⊢
    clear OW4 OW3 XB3 OB3 BL3 x0 k0 kf
    have XK : Hid (CX w W4 b0 c) := ⟨OB4.out, HC.out.below BL4.out, BL4.out⟩
    have XX : Hid (CX w W4 xb (noBudget c (some ⟨g4, 0, none⟩) c4 i)) := ⟨by
      have := XB4.out
      have hl : (c.s.l.set i [at_ c.s.l i 0, 0]).length = c.s.l.length := List.length_set
      unfold cfgL at this ⊢
      simp only [noBudget, hl]
      exact this, by
      have := XK.out.ok
      exact ⟨this.g, this.r, this.p, this.n, SL4.out⟩, BL4.out⟩
    clear OB4 SL4 X1
)
    (
    have CHX : Hid (Calls Try.prog 7 #[.agg #[.int .i64 c.cats, .slice c.g.a c.g.l.length c.g.cap, .slice c.r.a c.r.l.length c.r.cap, .slice c.p.a c.p.l.length c.p.cap, .slice c.n.a c.n.l.length c.n.cap, .slice (some ⟨g4, 0, none⟩) c.s.l.length c4, .int .i64 c.gate, .int .i64 c.quota]] W4 fun e w' => e = .returned (.tuple #[.int .i64 17, .int .i64 i]) ∧ Below W4.heap.size W4 w') := by
      have h1 := check_any (noBudget c (some ⟨g4, 0, none⟩) c4 i) W4 XX.out.ok
      rw [noBudget_chk RT.out hi] at h1
      simp only [noBudget, List.length_set] at h1
      exact h1
    have y0 := XB4.out.cell 0 _ rfl; have y1 := XB4.out.cell 1 _ rfl; have y2 := XB4.out.cell 2 _ rfl; have y3 := XB4.out.cell 3 _ rfl; have y4 := XB4.out.cell 4 _ rfl; have y5 := XB4.out.cell 5 _ rfl; have y6 := XB4.out.cell 6 _ rfl; have y7 := XB4.out.cell 7 _ rfl
    go_upto_region 16 with (go_at_call 7; refine CHX.out.mono ?_; rintro e W5 ⟨rfl, hb⟩; replace XK := Lib.hid (XK.out.below hb); clear hb)
    clear CHX y0 y1 y2 y3 y4 y5 y6 y7 XX XB4 BL4 G4 XGE iz il hi
)
    (have q0 := XK.out.ob.cell 0 _ rfl; have q1 := XK.out.ob.cell 1 _ rfl; have q2 := XK.out.ob.cell 2 _ rfl; have q3 := XK.out.ob.cell 3 _ rfl; have q4 := XK.out.ob.cell 4 _ rfl; have q5 := XK.out.ob.cell 5 _ rfl; have q6 := XK.out.ob.cell 6 _ rfl; have q7 := XK.out.ob.cell 7 _ rfl)
    by_cases hn0 : 0 < c.n.l.length
    · have dn : decide ((c.n.l.length : Int) > 0) = true := decide_eq_true (by omega)
      have dn' : decide (0 < c.n.l.length) = true := decide_eq_true (by omega)
      have n3 : (c.n.l.length : Int) ≠ 0 := by omega
      have n3' : c.n.l.length ≠ 0 := by omega
      have hn4 := RT.out.n.1
      go_upto_region 21 with fail
      (
    have hmod : (u : Int) % (c.n.l.length : Int) = ((u % c.n.l.length : Nat) : Int) := by simp
    rw [hmod]
    clear hmod
    have hi : u % c.n.l.length < c.n.l.length := Nat.mod_lt _ (by omega)
    generalize u % c.n.l.length = i at hi ⊢
    have XB : Hid (ObjAt (W5.alloc (.cells #[.int .i64 c.cats, .slice c.g.a c.g.l.length c.g.cap, .slice c.r.a c.r.l.length c.r.cap, .slice c.p.a c.p.l.length c.p.cap, .slice c.n.a c.n.l.length c.n.cap, .slice c.s.a c.s.l.length c.s.cap, .int .i64 c.gate, .int .i64 c.quota] 28)) W5.heap.size 28 (cfgL c)) := ObjAt.new W5 _ (cfgL c)
    have X1 : Hid (CX w (W5.alloc (.cells #[.int .i64 c.cats, .slice c.g.a c.g.l.length c.g.cap, .slice c.r.a c.r.l.length c.r.cap, .slice c.p.a c.p.l.length c.p.cap, .slice c.n.a c.n.l.length c.n.cap, .slice c.s.a c.s.l.length c.s.cap, .int .i64 c.gate, .int .i64 c.quota] 28)) b0 c) := XK.out.below ((Below.refl _ _).alloc (Nat.le_refl _) _)
    have XGE : Hid (w.heap.size ≤ W5.heap.size ∧ b0 < W5.heap.size) := ⟨XK.out.bel.size, XK.out.ob.lt⟩
    generalize W5.alloc (.cells #[.int .i64 c.cats, .slice c.g.a c.g.l.length c.g.cap, .slice c.r.a c.r.l.length c.r.cap, .slice c.p.a c.p.l.length c.p.cap, .slice c.n.a c.n.l.length c.n.cap, .slice c.s.a c.s.l.length c.s.cap, .int .i64 c.gate, .int .i64 c.quota] 28) = W1 at XB X1 ⊢
    generalize W5.heap.size = xb at XB XGE ⊢
    clear XK q0 q1 q2 q3 q4 q5 q6 q7
    (have q0 := X1.out.ob.cell 0 _ rfl; have q1 := X1.out.ob.cell 1 _ rfl; have q2 := X1.out.ob.cell 2 _ rfl; have q3 := X1.out.ob.cell 3 _ rfl; have q4 := X1.out.ob.cell 4 _ rfl; have q5 := X1.out.ob.cell 5 _ rfl; have q6 := X1.out.ob.cell 6 _ rfl; have q7 := X1.out.ob.cell 7 _ rfl)
)
      (
    obtain ⟨gx, go, hga, hjunk⟩ := X1.out.ok.n.cells (by omega) i hi
    clear hjunk
    have HRD := Lib.hid X1.out.ok.n.rd
    rw [hga] at q4 HRD
    have HN : Hid (∀ W', Below W1.heap.size W1 W' → ∀ j v, (iF c.n.l)[j]? = some v → W'.cell? ((⟨gx, go, none⟩ : Addr).add j) = some v) := fun W' hW j v hu => by
      obtain ⟨b, o, he, hb, hc⟩ := HRD.out.2.2 _ rfl (by intro h0; rw [h0] at hu; simp at hu)
      cases he
      have e : (⟨gx, go, none⟩ : Addr).add j = ⟨gx, go + j, none⟩ := by unfold Addr.add; split <;> simp_all
      rw [e]; exact (hW.cell (p := ⟨gx, go + j, none⟩) hb).trans (hc j v hu)
    have HL : Hid ((iF c.n.l).length = c.n.l.length * 2) := HRD.out.1
    have HE := Lib.hid (own_empty W1 38 2)
    have qa : (W1.alloc (.cells #[] 38)).cell? ⟨b0, 4, none⟩ = some (.slice (some ⟨gx, go, none⟩) c.n.l.length c.n.cap) := by rw [((Below.refl W1.heap.size W1).alloc (Nat.le_refl _) _).cell (p := ⟨b0, 4, none⟩) X1.out.ob.lt]; exact q4
    have hxlt := XB.out.lt
    have hmx : c.n.l.length ≤ 100000 := by omega
    clear hga
    go_upto_region 22 with (at_builtin; (refine wpList_append_own_at _ rfl (.tmp 108) (.tmp 110) _ rfl W1.heap.size 38 ir _ 2 16 Try.underlying25 hir hzr hzr1 hzr2 rfl (by omega) (.slice (some ⟨W1.heap.size, 0, none⟩) 0 0) 0 [] rfl HE.out ⟨gx, go, none⟩ c.n.l.length c.n.cap (iF c.n.l) rfl HL.out (HN.out _ ((Below.refl _ _).alloc (Nat.le_refl _) _)) (iF_one _) (by simp only [maxLen]; omega) (by omega) (by simp) ?_); intro v1 w1 hown1 hg1 hz hat1; obtain ⟨a4, c4, he4, hown4, hb4⟩ := clone_post (n := c.n.l.length) hown1 hg1; cases he4; have HB4 := Lib.hid hb4; have XB2 := Lib.hid (XB.out.below hb4); have OW2 := Lib.hid hown4; have x0 := XB2.out.cell 4 _ rfl; have xf := XB2.out.free 4; clear hown1 hg1 hz hat1 hown4 hb4)
    obtain ⟨g4, hg4e, hg4, hg4lt⟩ := OW2.out.at_ (by omega)
    subst hg4e
    have XB3 : Hid (ObjAt (w1.setCell ⟨xb, 4, none⟩ (.slice (some ⟨g4, 0, none⟩) c.n.l.length c4)) xb 28 ((cfgL c).set 4 (.slice (some ⟨g4, 0, none⟩) c.n.l.length c4))) := XB2.out.set 4 _
    have OW3 : Hid (Own (w1.setCell ⟨xb, 4, none⟩ (.slice (some ⟨g4, 0, none⟩) c.n.l.length c4)) W1.heap.size 38 2 (some ⟨g4, 0, none⟩) c.n.l.length c4 (iF c.n.l)) := OW2.out.upd (Upd.setCell w1 ⟨xb, 4, none⟩ _) (fun hk => by have := (OW2.out.ge xb hk).1; omega)
    have BL3 : Hid (Below w.heap.size w (w1.setCell ⟨xb, 4, none⟩ (.slice (some ⟨g4, 0, none⟩) c.n.l.length c4))) := (X1.out.bel.trans (HB4.out.mono X1.out.bel.size)).setCell (p := ⟨xb, 4, none⟩) XGE.out.1 _
    have OB3 : Hid (ObjAt (w1.setCell ⟨xb, 4, none⟩ (.slice (some ⟨g4, 0, none⟩) c.n.l.length c4)) b0 28 (cfgL c)) := (X1.out.ob.below HB4.out).upd (Upd.setCell w1 ⟨xb, 4, none⟩ _) (by have := XGE.out.2; show b0 ≠ xb; omega)
    have G4 : Hid (b0 < g4 ∧ xb < g4 ∧ w.heap.size ≤ g4) := ⟨by have := XGE.out.2; omega, by omega, by have := X1.out.bel.size; omega⟩
    generalize w1.setCell ⟨xb, 4, none⟩ (.slice (some ⟨g4, 0, none⟩) c.n.l.length c4) = W3 at XB3 OW3 BL3 OB3 ⊢
    clear qa x0 xf XB2 OW2 HB4 hg4 hg4lt HRD HN HL HE hmx hxlt q0 q1 q2 q3 q4 q5 q6 q7
    have iz : (0 : Int) ≤ (i : Int) := by omega
    have il : (i : Int) < (c.n.l.length : Int) := by omega
    have x0 := XB3.out.cell 4 _ rfl
    have k0 := OW3.out.cell (i * 2 + 1) _ (iF_get c.n.l X1.out.ok.n.len i 1 (at_ c.n.l i 1) hi (by rw [at_eq hi]; exact at_some hi X1.out.ok.n.len (by omega)))
    have kf := OW3.out.free (i * 2 + 1)
)
      have k1 := OW3.out.cell (i * 2) _ (by have := iF_get c.n.l X1.out.ok.n.len i 0 (at_ c.n.l i 0) hi (by rw [at_eq hi]; exact at_some hi X1.out.ok.n.len (by omega)); rwa [Nat.add_zero] at this)
      go_region
      have hdr : (W3.setCell ⟨g4, i * 2 + 1, none⟩ (.int .i64 (at_ c.n.l i 0))).drew = W3.drew.setCell ⟨g4, i * 2 + 1, none⟩ (.int .i64 (at_ c.n.l i 0)) := rfl
      rw [hdr]
      clear hdr k1 k0 kf x0
      have k0 := 0; have kf := 0; have x0 := 0
      replace XB3 := Lib.hid (XB3.out.below (Below.refl _ _).drew)
      replace OB3 := Lib.hid (OB3.out.below (Below.refl _ _).drew)
      replace OW3 := Lib.hid (OW3.out.below (Below.refl _ _).drew)
      replace BL3 := Lib.hid (BL3.out.drew)
      generalize W3.drew = W3 at XB3 OW3 BL3 OB3 ⊢
      (
    have XB4 : Hid (ObjAt (W3.setCell ⟨g4, i * 2 + 1, none⟩ (.int .i64 (at_ c.n.l i 0))) xb 28 ((cfgL c).set 4 (.slice (some ⟨g4, 0, none⟩) c.n.l.length c4))) := XB3.out.upd (Upd.setCell W3 ⟨g4, i * 2 + 1, none⟩ _) (by have := G4.out; show xb ≠ g4; omega)
    have OB4 : Hid (ObjAt (W3.setCell ⟨g4, i * 2 + 1, none⟩ (.int .i64 (at_ c.n.l i 0))) b0 28 (cfgL c)) := OB3.out.upd (Upd.setCell W3 ⟨g4, i * 2 + 1, none⟩ _) (by have := G4.out; show b0 ≠ g4; omega)
    have BL4 : Hid (Below w.heap.size w (W3.setCell ⟨g4, i * 2 + 1, none⟩ (.int .i64 (at_ c.n.l i 0)))) := BL3.out.setCell (p := ⟨g4, i * 2 + 1, none⟩) G4.out.2.2 _
    have OW4 := Own.put OW3.out (j := i * 2 + 1) (by have := Nat.mul_le_mul_right 2 (show i + 1 ≤ c.n.l.length by omega); rw [Nat.add_mul] at this; omega) (.int .i64 (at_ c.n.l i 0))
    rw [iF_set c.n.l X1.out.ok.n.len i 1 (at_ c.n.l i 0) hi (by omega)] at OW4
    have SL4 : Hid (SlOk (W3.setCell ⟨g4, i * 2 + 1, none⟩ (.int .i64 (at_ c.n.l i 0))) 2 ⟨some ⟨g4, 0, none⟩, c4, c.n.l.set i [at_ c.n.l i 0, at_ c.n.l i 0]⟩) := ⟨by
        have := OW4.rd
        rw [List.length_set]
        rw [← (show (c.n.l.getD i []).set 1 (at_ c.n.l i 0) = [at_ c.n.l i 0, at_ c.n.l i 0] from set_two _ hi X1.out.ok.n.len)]; exact this, by rw [List.length_set]; exact OW4.le, OW4.capMax, fun r hr => by
        rcases List.mem_or_eq_of_mem_set hr with h1 | h1
        · exact X1.out.ok.n.len r h1
        · rw [h1]; rfl⟩
    generalize W3.setCell ⟨g4, i * 2 + 1, none⟩ (.int .i64 (at_ c.n.l i 0)) = W4 at XB4 OB4 BL4 SL4 ⊢
    clear OW4 OW3 XB3 OB3 BL3 x0 k0 kf
    have XK : Hid (CX w W4 b0 c) := ⟨OB4.out, HC.out.below BL4.out, BL4.out⟩
    have XX : Hid (CX w W4 xb (backRing c (some ⟨g4, 0, none⟩) c4 i)) := ⟨by
      have := XB4.out
      have hl : (c.n.l.set i [at_ c.n.l i 0, at_ c.n.l i 0]).length = c.n.l.length := List.length_set
      unfold cfgL at this ⊢
      simp only [backRing, hl]
      exact this, by
      have := XK.out.ok
      exact ⟨this.g, this.r, this.p, SL4.out, this.s⟩, BL4.out⟩
    clear OB4 SL4 X1
)
      (
    have CHX : Hid (Calls Try.prog 7 #[.agg #[.int .i64 c.cats, .slice c.g.a c.g.l.length c.g.cap, .slice c.r.a c.r.l.length c.r.cap, .slice c.p.a c.p.l.length c.p.cap, .slice (some ⟨g4, 0, none⟩) c.n.l.length c4, .slice c.s.a c.s.l.length c.s.cap, .int .i64 c.gate, .int .i64 c.quota]] W4 fun e w' => e = .returned (.tuple #[.int .i64 16, .int .i64 i]) ∧ Below W4.heap.size W4 w') := by
      have h1 := check_any (backRing c (some ⟨g4, 0, none⟩) c4 i) W4 XX.out.ok
      rw [backRing_chk RT.out hi] at h1
      simp only [backRing, List.length_set] at h1
      exact h1
    have y0 := XB4.out.cell 0 _ rfl; have y1 := XB4.out.cell 1 _ rfl; have y2 := XB4.out.cell 2 _ rfl; have y3 := XB4.out.cell 3 _ rfl; have y4 := XB4.out.cell 4 _ rfl; have y5 := XB4.out.cell 5 _ rfl; have y6 := XB4.out.cell 6 _ rfl; have y7 := XB4.out.cell 7 _ rfl
    go_upto_region 24 with (go_at_call 7; refine CHX.out.mono ?_; rintro e W5 ⟨rfl, hb⟩; replace XK := Lib.hid (XK.out.below hb); clear hb)
    clear CHX y0 y1 y2 y3 y4 y5 y6 y7 XX XB4 BL4 G4 XGE iz il hi
)
      go_wp2_with (go_at_call 8; refine (awake_any _).mono ?_; rintro e wa ⟨rfl, hb⟩; replace XK := Lib.hid (XK.out.below hb); clear hb)
      (go_ret; exact ⟨rfl, XK.out.bel⟩)
    · have dn : decide ((c.n.l.length : Int) > 0) = false := decide_eq_false (by omega)
      have dn' : decide (0 < c.n.l.length) = false := decide_eq_false (by omega)
      go_wp2_with (go_at_call 8; refine (awake_any _).mono ?_; rintro e wa ⟨rfl, hb⟩; replace XK := Lib.hid (XK.out.below hb); clear hb)
      (go_ret; exact ⟨rfl, XK.out.bel⟩)
  · have d0 : (z.1 != 0) = true := by simp [h0]
    clear h0 HZ
    ((have h0 := CX.new h; go_enter Try.func3, Try.ntmps3; go_upto_region 1 with fail; generalize w.alloc (.cells #[.int .i64 c.cats, .slice c.g.a c.g.l.length c.g.cap, .slice c.r.a c.r.l.length c.r.cap, .slice c.p.a c.p.l.length c.p.cap, .slice c.n.a c.n.l.length c.n.cap, .slice c.s.a c.s.l.length c.s.cap, .int .i64 c.gate, .int .i64 c.quota] 28) = W1 at h0 ⊢; generalize w.heap.size = b0 at h0 ⊢; have H0 := Lib.hid h0; clear h0 h); have XK := H0; clear H0; (have q0 := XK.out.ob.cell 0 _ rfl; have q1 := XK.out.ob.cell 1 _ rfl; have q2 := XK.out.ob.cell 2 _ rfl; have q3 := XK.out.ob.cell 3 _ rfl; have q4 := XK.out.ob.cell 4 _ rfl; have q5 := XK.out.ob.cell 5 _ rfl; have q6 := XK.out.ob.cell 6 _ rfl; have q7 := XK.out.ob.cell 7 _ rfl))
    go_wp2_with (first | (go_at_call 7; refine (CHK.out _ XK.out.ok).mono ?_; rintro e Wc ⟨rfl, hb⟩; replace XK := Lib.hid (XK.out.below hb); clear hb; (replace q0 := XK.out.ob.cell 0 _ rfl; replace q1 := XK.out.ob.cell 1 _ rfl; replace q2 := XK.out.ob.cell 2 _ rfl; replace q3 := XK.out.ob.cell 3 _ rfl; replace q4 := XK.out.ob.cell 4 _ rfl; replace q5 := XK.out.ob.cell 5 _ rfl; replace q6 := XK.out.ob.cell 6 _ rfl; replace q7 := XK.out.ob.cell 7 _ rfl)) | (go_at_call 8; refine (awake_any _).mono ?_; rintro e wa ⟨rfl, hb⟩; replace XK := Lib.hid (XK.out.below hb); clear hb))
    (go_ret; exact ⟨rfl, XK.out.bel⟩)
end Go.Proofs.Ytmchaaelpbifgaa
