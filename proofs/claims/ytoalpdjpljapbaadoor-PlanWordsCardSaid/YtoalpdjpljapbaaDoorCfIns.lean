/- slices.Insert of one run into a row of runs of one's own; slices.Clone of runs. -/
import Derived.Test.YtoalpdjpljapbaaDoorCfP4
import Derived.Lib.Overlaps
import Derived.Lib.AppendZerosOnto
import Derived.Laws.CopyRow
namespace Go.Proofs.YtoalpdjpljapbaaDoor
set_option linter.unusedVariables false
set_option linter.unusedSimpArgs false
set_option linter.unnecessarySimpa false
open Go.RowKit Go.Sort
set_option maxHeartbeats 400000
set_option maxRecDepth 100000

theorem info_run : (Tryd.prog.info? 132).map (fun i => (i.zero, i.size, i.bytes)) = some (some (.agg #[.int .i64 0, .int .i64 0, .int .i64 0]), 3, 24) := by kernel_rfl
theorem rn_one (l : List Rn) : ∀ u ∈ rnF l, u.oneCell' = true := by
  intro u hu
  simp only [rnF, List.mem_flatten, List.mem_map] at hu
  obtain ⟨_, ⟨r, _, rfl⟩, hu⟩ := hu
  simp only [rnC, List.mem_cons, List.not_mem_nil, or_false] at hu
  rcases hu with rfl | rfl | rfl <;> rfl
theorem cloneR_any (a : Option Addr) (n c : Nat) (xs : List Value) (w : World) (h : Rd w 3 a n xs) (h1 : ∀ u ∈ xs, u.oneCell' = true) (hn : n ≤ 100000) : Calls Tryd.prog 87 #[.slice a n c] w (ClonePost 132 3 n xs w) := by
  obtain ⟨i0, hi0, hz0, hz1, hz2⟩ := info_parts info_run
  cases a with
  | none =>
    obtain rfl : n = 0 := h.2.1 rfl
    obtain rfl : xs = [] := List.eq_nil_of_length_eq_zero (by simpa using h.1)
    clear h h1
    have hnil : ∀ w : World, Sem.run Tryd.prog (binOp .eql 126 (.slice none 0 c) (.slice none 0 0)) w = .ok (.bool true) w := fun _ => by kernel_rfl
    go_enter Tryd.func87, Tryd.ntmps87
    go_wp2_with fail
    go_ret
    exact ⟨none, 0, rfl, Own.nil _ _ _ _, Below.refl _ _⟩
  | some ad =>
    have H := Lib.hid h
    have HL := Lib.hid h.1
    have H1 := Lib.hid h1
    clear h h1
    have HN : Hid (∀ (W : World), Below w.heap.size w W → ∀ j u, xs[j]? = some u → W.cell? (ad.add j) = some u) := fun W hW j u hu => by
      obtain ⟨b, o, rfl, hb, hc⟩ := H.out.2.2 ad rfl (by intro h0; subst h0; simp at hu)
      have e : (⟨b, o, none⟩ : Addr).add j = ⟨b, o + j, none⟩ := by unfold Addr.add; split <;> simp_all
      rw [e]; exact (hW.cell (p := ⟨b, o + j, none⟩) hb).trans (hc j u hu)
    have HE := Lib.hid (own_empty w 132 3)
    have hnil : ∀ w : World, Sem.run Tryd.prog (binOp .eql 126 (.slice (some ad) n c) (.slice none 0 0)) w = .ok (.bool false) w := fun _ => by kernel_rfl
    go_enter Tryd.func87, Tryd.ntmps87
    go_wp2_with (at_builtin; (refine wpList_append_own_at _ rfl (.tmp 5) (.tmp 6) _ rfl w.heap.size 132 i0 _ 3 24 Tryd.underlying126 hi0 hz0 hz1 hz2 rfl (by omega) (.slice (some ⟨w.heap.size, 0, none⟩) 0 0) 0 [] rfl HE.out ad n c xs rfl HL.out (HN.out _ ((Below.refl _ _).alloc (Nat.le_refl _) _)) H1.out (by simp only [maxLen]; omega) (by omega) (by simp) ?_); intro v1 w1 hown1 hg1 hz hat1)
    go_ret
    exact clone_post hown1 hg1

/-- copy over a row that is known whole, elements of several cells. -/
theorem run_copy_rows {P : Program} (w : World) (dT sT ty elem : TypeId) (size g o dLen dCap : Nat) (a : Addr) (sLen sCap : Nat) (cur : Array Value) (t : TypeId) (cs : List Value) (k : Nat)
    (hu : P.underlying dT = some (.slice elem)) (hs : (P.info? elem).map (·.size) = some size)
    (hg : w.heap[g]? = some (.cells cur t (0, 0))) (hk : k = Nat.min sLen dLen) (hn : cs.length = k * size)
    (hsrc : ∀ j v, cs[j]? = some v → w.cell? (a.add j) = some v) (hfit : o + cs.length ≤ cur.size) (h1 : ∀ v ∈ cs, v.oneCell' = true) :
    (Builtin.copy_ #[dT, sT] ty #[.slice (some ⟨g, o, none⟩) dLen dCap, .slice (some a) sLen sCap]).run P w =
      .ok (goInt k) (w.setRow g (cur.toList.take o ++ cs ++ cur.toList.drop (o + cs.length)).toArray) := by
  have hl := run_loadCells_list (P := P) w a cs hsrc
  have hst := run_storeCells_at P g o t cs 0 cur w hg (by simpa using hfit) h1
  cases hq : P.info? elem with
  | none => simp [hq] at hs
  | some i =>
    have hi : i.size = size := by simpa [hq] using hs
    rw [hn] at hl
    simp [Builtin.copy_, run_underlying hu, Builtin.lenOf, Builtin.firstCells, sizeOf, typeInfo, hq, hi, ← hk, hl, hst]
theorem wpList_copy_run {P : Program} {w w' : World} {ops : Array Oper} {rest : List Oper} {o : Oper} {a : Act} {Q : Exit → Act → World → Prop} (hgd : o.guard = none) (d s : Operand) (dT sT : TypeId)
    (ho : o.op = .call { callee := .builtin .copy, args := #[d, s], argTypes := #[dT, sT] }) (vd vs : Value) (hd : a.eval d = vd) (hs : a.eval s = vs) {v : Value}
    (hrun : (Builtin.copy_ #[dT, sT] o.type #[vd, vs]).run P w = .ok v w') (h : wpList P ops Q rest (a.put o.dst v) w') : wpList P ops Q (o :: rest) a w := by
  refine wpList_plain hgd fun K hK => ?_
  unfold Oper.wp execOp
  simp only [ho, resolve, invoke, builtin, Sem.run_bind, Sem.run_pure, Result.andThen_ok, List.map_toArray, List.map_cons, List.map_nil, hd, hs, hrun]
  exact hK _ _ h
theorem step_copy_run {P : Program} {w w' : World} {ops : Array Oper} {o : Oper} {a : Act} {K : Act → World → Prop} {Q : Exit → Act → World → Prop} {E : Prop} (hgd : o.guard = none) (d s : Operand) (dT sT : TypeId)
    (ho : o.op = .call { callee := .builtin .copy, args := #[d, s], argTypes := #[dT, sT] }) (vd vs : Value) (hd : a.eval d = vd) (hs : a.eval s = vs) {v : Value}
    (hrun : (Builtin.copy_ #[dT, sT] o.type #[vd, vs]).run P w = .ok v w') (h : K (a.put o.dst v) w') : if Region.wanted o (yielded ops a.tmps) = true then Oper.wp P o a w K Q else E := by
  have hw : Region.wanted o (yielded ops a.tmps) = true := by simp [Region.wanted, hgd]
  rw [if_pos hw]
  unfold Oper.wp execOp
  simp only [ho, resolve, invoke, builtin, Sem.run_bind, Sem.run_pure, Result.andThen_ok, List.map_toArray, List.map_cons, List.map_nil, hd, hs, hrun]
  exact h
/-- What inserting leaves. -/
def InsPost (B : Nat) (a : Option Addr) (R : List Rn) (i : Nat) (x : Rn) (w : World) (e : Ending) (w' : World) : Prop :=
  ∃ a' c', e = .returned (.slice a' (R.length + 1) c') ∧ Own w' B 132 3 a' (R.length + 1) c' (rnF (R.take i ++ x :: R.drop i)) ∧ Mod (blk a) w w' ∧ ∀ k ∈ blk a', k ∈ blk a ∨ w.heap.size ≤ k
theorem ins_end (B g c : Nat) (a : Option Addr) (R : List Rn) (x : Rn) (w : World) (hown : Own w B 132 3 a R.length c (rnF R)) (hg : w.heap[g]? = some (.cells (rnC x).toArray 132 (0, 0))) (hn : R.length ≤ 64) (hB : B ≤ w.heap.size) :
    Calls Tryd.prog 86 #[.slice a R.length c, .int .i64 R.length, .slice (some ⟨g, 0, none⟩) 1 1] w (InsPost B a R R.length x w) := by
  obtain ⟨i0, hi0, hz0, hz1, hz2⟩ := info_parts info_run
  have HO := Lib.hid hown
  have hle := hown.le
  have HR : Hid (Rd w 3 (some ⟨g, 0, none⟩) 1 (rnC x)) := ⟨rfl, (fun h => by cases h), fun p hp _ => by
    injection hp with hp
    subst hp
    exact ⟨g, 0, rfl, (Array.getElem?_eq_some_iff.1 hg).1, fun j u hu => by rw [Nat.zero_add]; exact cell_at hg j u (by simpa using hu)⟩⟩
  have h1 : Hid (∀ u ∈ rnC x, u.oneCell' = true) := fun u hu => rn_one [x] u (by simpa [rnF] using hu)
  clear hown hg
  have hsl : (R.length : Int) ≤ (R.length : Int) := Int.le_refl _
  go_enter Tryd.func86, Tryd.ntmps86
  go_wp2_with (at_builtin; (refine wpList_more rfl (.tmp 23) (.tmp 24) 126 rfl B 132 i0 _ 3 24 Tryd.underlying126 hi0 hz0 hz1 hz2 rfl (by omega) a R.length c (rnF R) rfl HO.out (some ⟨g, 0, none⟩) 1 1 (rnC x) rfl HR.out h1.out (by simp only [maxLen]; omega) (by omega) hB ?_); intro a' c' w1 hown1 hmod1 hat1)
  all_goals
    go_ret
    refine ⟨a', c', rfl, ?_, hmod1, hat1⟩
    rw [List.take_length, List.drop_length, show R ++ [x] = R ++ [x] from rfl, rnF_app]
    simpa [rnF] using hown1
theorem rnF_take (R : List Rn) (i : Nat) : (rnF R).take (i * 3) = rnF (R.take i) := by
  induction R generalizing i with
  | nil => simp [rnF]
  | cons r R ih =>
    cases i with
    | zero => simp [rnF]
    | succ i =>
      have e : ∀ (r : Rn) (l : List Rn), rnF (r :: l) = rnC r ++ rnF l := fun _ _ => by simp [rnF]
      rw [List.take_succ_cons, e, e, ← ih i, show (i + 1) * 3 = (rnC r).length + i * 3 by simp [rnC]; omega, List.take_append, List.take_of_length_le (by omega)]
      simp
theorem rnF_drop (R : List Rn) (i : Nat) : (rnF R).drop (i * 3) = rnF (R.drop i) := by
  induction R generalizing i with
  | nil => simp [rnF]
  | cons r R ih =>
    cases i with
    | zero => simp [rnF]
    | succ i =>
      have e : ∀ (r : Rn) (l : List Rn), rnF (r :: l) = rnC r ++ rnF l := fun _ _ => by simp [rnF]
      rw [List.drop_succ_cons, e, ← ih i, show (i + 1) * 3 = (rnC r).length + i * 3 by simp [rnC]; omega, List.drop_append, List.drop_of_length_le (by omega)]
      simp
/-- The row with a run put in, and whatever stands behind it. -/
def insL (R : List Rn) (i : Nat) (x : Rn) : List Value := rnF (R.take i) ++ (rnC x ++ rnF (R.drop i))
theorem insL_eq (R : List Rn) (i : Nat) (x : Rn) : insL R i x = rnF (R.take i ++ x :: R.drop i) := by simp [insL, rnF]
def lay (L : List Value) (o : Nat) (cs : List Value) : List Value := L.take o ++ cs ++ L.drop (o + cs.length)
theorem lay2 (L : List Value) (i : Nat) (D y rest : List Value) (h : (i + 1) * 3 ≤ L.length) (hy : y.length = 3) : lay (lay L ((i + 1) * 3) D) (i * 3) y = (L.take (i * 3) ++ (y ++ D)) ++ L.drop ((i + 1) * 3 + D.length) := by
  have h1 : (L.take ((i + 1) * 3)).length = (i + 1) * 3 := by rw [List.length_take]; omega
  unfold lay
  rw [List.append_assoc (L.take _), List.take_append_of_le_length (by omega), List.take_take, Nat.min_eq_left (by omega), hy, show i * 3 + 3 = (L.take ((i + 1) * 3)).length + 0 by omega, List.drop_append, List.drop_of_length_le (by omega)]
  simp
theorem lay_len (L : List Value) (o : Nat) (cs : List Value) (h : o + cs.length ≤ L.length) : (lay L o cs).length = L.length := by simp [lay]; omega
set_option maxHeartbeats 2000000 in
theorem ins_room (B g b c i : Nat) (R : List Rn) (x : Rn) (w : World) (hown : Own w B 132 3 (some ⟨b, 0, none⟩) R.length c (rnF R)) (hg : w.heap[g]? = some (.cells (rnC x).toArray 132 (0, 0))) (hgb : g ≠ b) (hn : R.length ≤ 64) (hi : i < R.length) (hroom : R.length + 1 ≤ c) (hB : B ≤ w.heap.size) :
    Calls Tryd.prog 86 #[.slice (some ⟨b, 0, none⟩) R.length c, .int .i64 i, .slice (some ⟨g, 0, none⟩) 1 1] w (InsPost B (some ⟨b, 0, none⟩) R i x w) := by
  obtain ⟨i0, hi0, hz0, hz1, hz2⟩ := info_parts info_run
  have hcap := hown.capMax
  rcases hown with ⟨hlen, ⟨h0, _⟩ | ⟨b', c', cur, hv, hBb, hg0, hr, hm, hs, ht⟩⟩
  · injection h0 with h0; cases h0
  injection hv with e1 e2 e3
  injection e1 with e1
  injection e1 with e1
  subst e1 e3
  have HG := Lib.hid hg; have HG0 := Lib.hid hg0; have HT := Lib.hid ht; have HS := Lib.hid hs
  unfold maxLen at hcap
  clear hg hg0 ht hs hlen
  have hz1' := hz1
  have hne1 : ((i : Int) == (R.length : Int)) = false := by simp; omega
  have hd1 : decide ((c : Int) < (R.length : Int) + 1) = false := by simp; omega
  have hb1 : (0 : Int) ≤ (i : Int) + 1 := by omega
  have hb2 : (i : Int) + 1 ≤ (R.length : Int) + 1 := by omega
  have hb3 : (i : Int) ≤ (R.length : Int) + 1 := by omega
  have hb4 : (i : Int) ≤ (R.length : Int) := by omega
  have hb5 : (R.length : Int) + 1 ≤ (c : Int) := by omega
  have hc1 : ¬ (c = i + 1) := by omega
  have hc2 : ¬ (c = i) := by omega
  have htn : ((i : Int) + 1).toNat = i + 1 := by omega
  have hov : ∀ lb cb, (callFunc 100 #[.slice (some ⟨g, 0, none⟩) 1 1, .slice (some ⟨b, (i + 1) * 3, none⟩) lb cb]).run Tryd.prog w = .ok (.value (.bool false)) w := fun lb cb => by
    rw [run_callFunc_extern Tryd.func100 (by kernel_rfl) (by kernel_rfl) (by kernel_rfl) (e := Extern.SlicesOverlaps.overlaps #[126, 126] #[4]) (by kernel_rfl),
      Lib.run_overlaps_apart w 126 4 132 Tryd.underlying126 3 (fun w => by simp [sizeOf, typeInfo, hi0, hz1']) ⟨g, 0, none⟩ ⟨b, (i + 1) * 3, none⟩ 1 1 lb cb hgb 132 132 3 (c * 3) (by simp [World.shape?, HG.out, rnC]) (by simp [World.shape?, HG0.out, HS.out]) (by omega) (free_at HG.out _) (free_at HG.out _)]
    rfl
  have hsz : (Tryd.prog.info? 132).map (·.size) = some 3 := by rw [hi0]; simp [hz1']
  have hfit : cur.toList.length = c * 3 := by simpa using HS.out
  have hrow : (rnF (R.drop i)).length = (R.length - i) * 3 := by rw [rnF_len, List.length_drop]
  have hcell : ∀ j v, (rnF (R.drop i))[j]? = some v → w.cell? ⟨b, i * 3 + j, none⟩ = some v := fun j v hj => by
    rw [← rnF_drop, List.getElem?_drop] at hj
    refine cell_at HG0.out _ v ?_
    rw [← HT.out, List.getElem?_take] at hj
    split at hj
    · simpa using hj
    · cases hj
  obtain ⟨X1, hX1⟩ : ∃ X, X = lay cur.toList ((i + 1) * 3) (rnF (R.drop i)) := ⟨_, rfl⟩
  obtain ⟨X2, hX2⟩ : ∃ X, X = lay X1 (i * 3) (rnC x) := ⟨_, rfl⟩
  have hl1 : X1.length = c * 3 := by rw [hX1, lay_len _ _ _ (by rw [hrow, hfit]; omega), hfit]
  have hl2 : X2.length = c * 3 := by rw [hX2, lay_len _ _ _ (by rw [hl1]; simp [rnC]; omega), hl1]
  have hgw : g < w.heap.size := (Array.getElem?_eq_some_iff.1 HG.out).1
  have hbw : b < w.heap.size := (Array.getElem?_eq_some_iff.1 HG0.out).1
  obtain ⟨W1, hW1⟩ : ∃ W, W = w.drew.setRow b X1.toArray := ⟨_, rfl⟩
  obtain ⟨W2, hW2⟩ : ∃ W, W = W1.setRow b X2.toArray := ⟨_, rfl⟩
  have hg1 : W1.heap[b]? = some (.cells X1.toArray 132 (0, 0)) := by rw [hW1]; exact setRow_heap _ _ _ _ _ _ HG0.out
  have hgg : W1.heap[g]? = some (.cells (rnC x).toArray 132 (0, 0)) := by rw [hW1]; exact (setRow_other w.drew b g _ hgb).trans HG.out
  have hg2 : W2.heap[b]? = some (.cells X2.toArray 132 (0, 0)) := by rw [hW2]; exact setRow_heap _ _ _ _ _ _ hg1
  have hU : Upd b w W2 := by
    have h1 : Upd b w W1 := by rw [hW1]; exact ((Upd.refl b w).drew).trans (Upd.setRow _ _ _)
    rw [hW2]
    exact h1.trans (Upd.setRow _ _ _)
  have hcp1 : ∀ ty dl dc sl sc, dl = R.length - i → sl = R.length + 1 - i → (Builtin.copy_ #[126, 126] ty #[.slice (some ⟨b, (i + 1) * 3, none⟩) dl dc, .slice (some ⟨b, i * 3, none⟩) sl sc]).run Tryd.prog w.drew = .ok (goInt (R.length - i : Nat)) W1 := fun ty dl dc sl sc h1 h2 => by
    rw [hW1, hX1, lay]
    exact run_copy_rows w.drew _ _ ty 132 3 b ((i + 1) * 3) dl dc ⟨b, i * 3, none⟩ sl sc cur 132 (rnF (R.drop i)) (R.length - i) Tryd.underlying126 hsz HG0.out (by simp only [Nat.min_def]; split <;> omega) hrow
      (fun j v hj => by rw [Addr.add_lit]; exact hcell j v hj) (by rw [hrow]; have := HS.out; omega) (rn_one _)
  have hcp2 : ∀ ty dl dc, dl = R.length + 1 - i → (Builtin.copy_ #[126, 126] ty #[.slice (some ⟨b, i * 3, none⟩) dl dc, .slice (some ⟨g, 0, none⟩) 1 1]).run Tryd.prog W1 = .ok (goInt (1 : Nat)) W2 := fun ty dl dc h1 => by
    rw [hW2, hX2, lay]
    have := run_copy_rows (P := Tryd.prog) W1 126 126 ty 132 3 b (i * 3) dl dc ⟨g, 0, none⟩ 1 1 X1.toArray 132 (rnC x) 1 Tryd.underlying126 hsz hg1 (by simp only [Nat.min_def]; split <;> omega) rfl
      (fun j v hj => by rw [Addr.add_lit, Nat.zero_add]; exact cell_at hgg j v (by simpa using hj)) (by simp [rnC, hl1]; omega) (fun u hu => rn_one [x] u (by simpa [rnF] using hu))
    simpa using this
  have HX : Hid (X2.take ((R.length + 1) * 3) = rnF (R.take i ++ x :: R.drop i)) := by
    have h0 : cur.toList.take (i * 3) = rnF (R.take i) := by
      rw [← rnF_take, ← HT.out, List.take_take, Nat.min_eq_left (by omega)]
    rw [Hid, hX2, hX1, lay2 _ _ _ _ [] (by rw [hfit]; omega) rfl, h0, ← insL_eq, insL, show (R.length + 1) * 3 = (rnF (R.take i) ++ (rnC x ++ rnF (R.drop i))).length by simp [rnF_len, hrow, rnC]; omega, List.take_left']
    rfl
  have HCP1 := Lib.hid hcp1; have HCP2 := Lib.hid hcp2; have HG2 := Lib.hid hg2; have HU := Lib.hid hU; have HL2 := Lib.hid hl2
  clear hcp1 hcp2 hg2 hU hl1 hl2 hX1 hX2 hW1 hW2 hg1 hgg hcell hrow hfit hsz
  go_enter Tryd.func86, Tryd.ntmps86
  go_wp2_with (simp only [hov])
  have hw1 : IntKind.i64.wrap ((i : Int) + 1) = (i : Int) + 1 := IntWalk.i64_in _ (by omega)
  go_region_law (refine step_copy_run rfl (.tmp 73) (.tmp 76) 126 126 rfl _ _ (by simp [Act.eval, Act.put]; exact ⟨rfl, rfl⟩) (by simp [Act.eval, Act.put]; exact ⟨rfl, rfl⟩) (HCP1.out _ _ _ _ _ (by simp) (by simp)) ?_)
  all_goals
    go_wp2_with (((with_reducible refine wpList_copy_run ?_ (.tmp 80) (.tmp 81) 126 126 ?_ (.slice (some ⟨b, i * 3, none⟩) (R.length + 1 - i) (c - i)) (.slice (some ⟨g, 0, none⟩) 1 1) ?_ ?_ (HCP2.out _ _ _ rfl) ?_)); exact rfl; exact rfl; exact rfl; exact rfl; go_frame)
    go_ret
    refine ⟨some ⟨b, 0, none⟩, c, rfl, ⟨by rw [rnF_len]; simp; omega, .inr ⟨b, c, X2.toArray, rfl, hBb, HG2.out, by omega, by unfold maxLen; omega, by simpa using HL2.out, by rw [← HX.out]⟩⟩, Mod.ofUpd HU.out, fun k hk => .inl hk⟩
theorem lay3 (L : List Value) (i : Nat) (D y : List Value) (h : (i + 1) * 3 ≤ L.length) (hy : y.length = 3) : ∃ rest, lay (lay L (i * 3) y) ((i + 1) * 3) D = (L.take (i * 3) ++ (y ++ D)) ++ rest := by
  have h1 : (L.take (i * 3)).length = i * 3 := by rw [List.length_take]; omega
  refine ⟨(lay L (i * 3) y).drop ((i + 1) * 3 + D.length), ?_⟩
  have h2 : (lay L (i * 3) y).take ((i + 1) * 3) = L.take (i * 3) ++ y := by
    unfold lay
    rw [List.take_append_of_le_length (by rw [List.length_append, h1]; omega), List.take_of_length_le (by rw [List.length_append, h1]; omega)]
  unfold lay at h2 ⊢
  rw [h2]
  simp
set_option maxHeartbeats 2000000 in
theorem ins_grow (B g b c i : Nat) (R : List Rn) (x : Rn) (w : World) (hown : Own w B 132 3 (some ⟨b, 0, none⟩) R.length c (rnF R)) (hg : w.heap[g]? = some (.cells (rnC x).toArray 132 (0, 0))) (hn : R.length ≤ 64) (hi : i < R.length) (hroom : c < R.length + 1) (hB : B ≤ w.heap.size) :
    Calls Tryd.prog 86 #[.slice (some ⟨b, 0, none⟩) R.length c, .int .i64 i, .slice (some ⟨g, 0, none⟩) 1 1] w (InsPost B (some ⟨b, 0, none⟩) R i x w) := by
  obtain ⟨i0, hi0, hz0, hz1, hz2⟩ := info_parts info_run
  have hle := hown.le
  obtain rfl : c = R.length := by omega
  have hgw : g < w.heap.size := (Array.getElem?_eq_some_iff.1 hg).1
  have hbw : b < w.heap.size := (hown.ge b (by simp [blk])).2
  obtain ⟨G, hG⟩ : ∃ G, G = grownCap w (R.length + 1) R.length 132 := ⟨_, rfl⟩
  obtain ⟨z, hz⟩ : ∃ z : Value, z = .agg #[.int .i64 0, .int .i64 0, .int .i64 0] := ⟨_, rfl⟩
  have hzs : z.cells.size = 3 := by rw [hz]; rfl
  obtain ⟨ROW, hROW⟩ : ∃ ROW : Array Value, ROW = (rnF (R.take i)).toArray ++ Builtin.zeroCells z.cells (R.length + 1 - i) ++ Builtin.zeroCells z.cells (G - (R.length + 1)) := ⟨_, rfl⟩
  obtain ⟨W1, hW1⟩ : ∃ W1, W1 = w.drew.alloc (.cells ROW 132) := ⟨_, rfl⟩
  have hGn : R.length + 1 ≤ G := by rw [hG]; exact grownCap_ge w _ _ _
  have hG63 : G ≤ 9223372036854775807 := by
    have := grownCap_le_maxLen w (R.length + 1) R.length 132 (by unfold maxLen; omega)
    rw [← hG] at this
    unfold maxLen at this
    omega
  have hti : (rnF (R.take i)).length = i * 3 := by rw [rnF_len, List.length_take, Nat.min_eq_left (by omega)]
  have hold : (Builtin.firstCells i0.size i (.slice (some ⟨b, 0, none⟩) i R.length)).run Tryd.prog w.drew = .ok (rnF (R.take i)).toArray w.drew := by
    rw [hz1]
    exact run_firstCells_some w.drew 3 i ⟨b, 0, none⟩ i R.length (rnF (R.take i)) (by rw [hti]) (fun j v hj => by
      rw [Addr.add_lit, Nat.zero_add]
      rw [← rnF_take, List.getElem?_take] at hj
      split at hj
      · exact hown.cell j v hj
      · cases hj)
  have hrz : ∀ ty, (Builtin.append_ #[126, 3] ty #[.slice (some ⟨b, 0, none⟩) i R.length, .int .i64 ((R.length : Int) + 1 - (i : Int))]).run Tryd.prog w = .ok (.slice (some ⟨w.heap.size, 0, none⟩) (R.length + 1) G) W1 := fun ty => by
    have h := Lib.run_append_grow_zeros w 126 3 ty 132 i0 z .i64 .i64 Tryd.underlying126 Tryd.underlying3 hi0 (by rw [hz]; exact hz0) (some ⟨b, 0, none⟩) i R.length (rnF (R.take i)) hold (R.length + 1 - i) (by omega) (by omega) (by omega) (by omega) (by rw [hz2]; omega) (by rw [hz2, show i + (R.length + 1 - i) = R.length + 1 by omega]; exact growslice_fits (by omega) (by omega))
    rw [show i + (R.length + 1 - i) = R.length + 1 by omega, ← hG] at h
    rw [show (R.length : Int) + 1 - (i : Int) = ((R.length + 1 - i : Nat) : Int) by omega, hW1, hROW]
    exact h
  have hRl : ROW.size = G * 3 := by
    rw [hROW]
    simp [Builtin.zeroCells, hzs, hti]
    omega
  have hRt : ROW.toList.take (i * 3) = rnF (R.take i) := by
    rw [hROW, Array.toList_append, Array.toList_append, List.append_assoc, List.take_append_of_le_length (by simp [hti]), List.take_of_length_le (by simp [hti])]
  have hN0 : W1.heap[w.heap.size]? = some (.cells ROW 132 (0, 0)) := by rw [hW1]; exact new_block w.drew _ _ rfl
  have hgg : W1.heap[g]? = some (.cells (rnC x).toArray 132 (0, 0)) := by rw [hW1]; exact (Below.heap_alloc w.drew _ g hgw).trans hg
  have hrow : (rnF (R.drop i)).length = (R.length - i) * 3 := by rw [rnF_len, List.length_drop]
  have hsz : (Tryd.prog.info? 132).map (·.size) = some 3 := by rw [hi0]; simp [hz1]
  obtain ⟨X1, hX1⟩ : ∃ X, X = lay ROW.toList (i * 3) (rnC x) := ⟨_, rfl⟩
  obtain ⟨X2, hX2⟩ : ∃ X, X = lay X1 ((i + 1) * 3) (rnF (R.drop i)) := ⟨_, rfl⟩
  have hl1 : X1.length = G * 3 := by rw [hX1, lay_len _ _ _ (by simp [hRl, rnC]; omega)]; simpa using hRl
  have hl2 : X2.length = G * 3 := by rw [hX2, lay_len _ _ _ (by rw [hl1, hrow]; omega), hl1]
  obtain ⟨W2, hW2⟩ : ∃ W, W = W1.setRow w.heap.size X1.toArray := ⟨_, rfl⟩
  obtain ⟨W3, hW3⟩ : ∃ W, W = W2.drew.setRow w.heap.size X2.toArray := ⟨_, rfl⟩
  have hN1 : W2.heap[w.heap.size]? = some (.cells X1.toArray 132 (0, 0)) := by rw [hW2]; exact setRow_heap _ _ _ _ _ _ hN0
  have hN2 : W3.heap[w.heap.size]? = some (.cells X2.toArray 132 (0, 0)) := by rw [hW3]; exact setRow_heap W2.drew _ _ _ _ _ hN1
  have hb1 : W2.heap[b]? = w.heap[b]? := by rw [hW2, setRow_other _ _ _ _ (by omega), hW1]; exact Below.heap_alloc w.drew _ b hbw
  have hM : Mod [] w W3 := by
    have h1 : Mod [] w W1 := by rw [hW1]; exact ((Mod.refl _ w).drew).alloc _
    have h2 : Mod [] w W2 := h1.then (by rw [hW2]; exact Mod.ofUpd (Upd.setRow W1 w.heap.size _)) (fun k hk hl => by simp at hk; omega)
    exact h2.drew.then (by rw [hW3]; exact Mod.ofUpd (Upd.setRow W2.drew w.heap.size _)) (fun k hk hl => by simp at hk; omega)
  have hcp1 : ∀ ty dl dc, dl = R.length + 1 - i → (Builtin.copy_ #[126, 126] ty #[.slice (some ⟨w.heap.size, i * 3, none⟩) dl dc, .slice (some ⟨g, 0, none⟩) 1 1]).run Tryd.prog W1 = .ok (goInt (1 : Nat)) W2 := fun ty dl dc h1 => by
    rw [hW2, hX1, lay]
    exact run_copy_rows (P := Tryd.prog) W1 126 126 ty 132 3 w.heap.size (i * 3) dl dc ⟨g, 0, none⟩ 1 1 ROW 132 (rnC x) 1 Tryd.underlying126 hsz hN0 (by simp only [Nat.min_def]; split <;> omega) rfl
      (fun j v hj => by rw [Addr.add_lit, Nat.zero_add]; exact cell_at hgg j v (by simpa using hj)) (by simp [rnC, hRl]; omega) (fun u hu => rn_one [x] u (by simpa [rnF] using hu))
  have hcp2 : ∀ ty dl dc sl sc, dl = R.length - i → sl = R.length - i → (Builtin.copy_ #[126, 126] ty #[.slice (some ⟨w.heap.size, (i + 1) * 3, none⟩) dl dc, .slice (some ⟨b, i * 3, none⟩) sl sc]).run Tryd.prog W2.drew = .ok (goInt (R.length - i : Nat)) W3 := fun ty dl dc sl sc h1 h2 => by
    rw [hW3, hX2, lay]
    have := run_copy_rows (P := Tryd.prog) W2.drew 126 126 ty 132 3 w.heap.size ((i + 1) * 3) dl dc ⟨b, i * 3, none⟩ sl sc X1.toArray 132 (rnF (R.drop i)) (R.length - i) Tryd.underlying126 hsz hN1 (by simp only [Nat.min_def]; split <;> omega) hrow
      (fun j v hj => by
        rw [Addr.add_lit]
        rw [← rnF_drop, List.getElem?_drop] at hj
        exact (World.cell?_of_block (a := ⟨b, i * 3 + j, none⟩) (show W2.drew.heap[b]? = w.heap[b]? from hb1)).trans (hown.cell _ v hj)) (by rw [hrow]; simp [hl1]; omega) (rn_one _)
    simpa using this
  have HX : Hid (X2.take ((R.length + 1) * 3) = rnF (R.take i ++ x :: R.drop i)) := by
    obtain ⟨rest, hr⟩ := lay3 ROW.toList i (rnF (R.drop i)) (rnC x) (by simp [hRl]; omega) rfl
    rw [Hid, hX2, hX1, hr, hRt, ← insL_eq, insL, show (R.length + 1) * 3 = (rnF (R.take i) ++ (rnC x ++ rnF (R.drop i))).length by simp [hti, hrow, rnC]; omega, List.take_left']
    rfl
  have HRZ := Lib.hid hrz; have HCP1 := Lib.hid hcp1; have HCP2 := Lib.hid hcp2; have HN2 := Lib.hid hN2; have HM := Lib.hid hM; have HL2 := Lib.hid hl2
  have hne1 : ((i : Int) == (R.length : Int)) = false := by simp; omega
  have hd1 : decide ((R.length : Int) < (R.length : Int) + 1) = true := by simp; omega
  have hb1' : (0 : Int) ≤ (i : Int) + 1 := by omega
  have hb2 : (i : Int) + 1 ≤ (R.length : Int) + 1 := by omega
  have hb3 : (i : Int) ≤ (R.length : Int) + 1 := by omega
  have hb4 : (i : Int) ≤ (R.length : Int) := by omega
  have hGi : ¬ (G = i) := by omega
  have hGim : ¬ (G = i + 1) := by omega
  have hci : ¬ (R.length = i) := by omega
  have htn : ((i : Int) + 1).toNat = i + 1 := by omega
  clear hrz hcp1 hcp2 hN2 hM hl1 hl2 hX1 hX2 hW1 hW2 hW3 hN0 hN1 hb1 hgg hrow hsz hRt hRl hold hti hROW hz hzs hG hown hg
  go_enter Tryd.func86, Tryd.ntmps86
  go_wp2_with (first | (at_builtin; refine Lib.wpList_append_run _ rfl _ _ _ _ rfl _ _ rfl rfl _ _ (HRZ.out _) ?_) | (((with_reducible refine wpList_copy_run ?_ (.tmp 43) (.tmp 44) 126 126 ?_ (.slice (some ⟨w.heap.size, i * 3, none⟩) (R.length + 1 - i) (G - i)) (.slice (some ⟨g, 0, none⟩) 1 1) ?_ ?_ (HCP1.out _ _ _ rfl) ?_)); exact rfl; exact rfl; exact rfl; exact rfl; go_frame))
  have hw1 : IntKind.i64.wrap ((i : Int) + 1) = (i : Int) + 1 := IntWalk.i64_in _ (by omega)
  go_region_law (refine step_copy_run rfl (.tmp 50) (.tmp 53) 126 126 rfl _ _ (by simp [Act.eval, Act.put]; exact ⟨rfl, rfl⟩) (by simp [Act.eval, Act.put]; exact ⟨rfl, rfl⟩) (HCP2.out _ _ _ _ _ (by simp) (by simp)) ?_)
  all_goals
    clear hw1
    go_wp2_with fail
    go_ret
    refine ⟨some ⟨w.heap.size, 0, none⟩, G, rfl, ⟨by rw [rnF_len]; simp; omega, .inr ⟨w.heap.size, G, X2.toArray, rfl, hB, HN2.out, by omega, by unfold maxLen; omega, by simpa using HL2.out, by rw [← HX.out]⟩⟩, HM.out.mono (fun k _ hk => by simp at hk), fun k hk => .inr (by simp [blk] at hk; omega)⟩
theorem insert_any (B g c i : Nat) (a : Option Addr) (R : List Rn) (x : Rn) (w : World) (hown : Own w B 132 3 a R.length c (rnF R)) (hg : w.heap[g]? = some (.cells (rnC x).toArray 132 (0, 0))) (hgb : g ∉ blk a) (hn : R.length ≤ 64) (hi : i ≤ R.length) (hB : B ≤ w.heap.size) :
    Calls Tryd.prog 86 #[.slice a R.length c, .int .i64 i, .slice (some ⟨g, 0, none⟩) 1 1] w (InsPost B a R i x w) := by
  rcases Nat.lt_or_ge i R.length with h1 | h1
  · obtain ⟨b, rfl, _, _⟩ := hown.at_ (by omega)
    rcases Nat.lt_or_ge c (R.length + 1) with h2 | h2
    · exact ins_grow B g b c i R x w hown hg hn h1 h2 hB
    · exact ins_room B g b c i R x w hown hg (fun e => hgb (by simp [blk, e])) hn h1 h2 hB
  · obtain rfl : i = R.length := by omega
    exact ins_end B g c a R x w hown hg hn hB
end Go.Proofs.YtoalpdjpljapbaaDoor
