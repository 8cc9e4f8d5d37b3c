/- Package parts: joined, and the closure of Runs. -/
import Derived.Test.YthmbflofcceifaaParts5
import Derived.RegionTactic
namespace Go.Proofs.Ythmbflofcceifaa
set_option linter.unusedVariables false
set_option linter.unusedSimpArgs false
set_option linter.unnecessarySimpa false
open Go.RowKit Go.Sort
set_option maxHeartbeats 400000
set_option maxRecDepth 100000

/-- A run that may be nobody's. -/
abbrev Rz := Nat × Nat × Int
def rzC (r : Rz) : List Value := [.int .i64 r.1, .int .i64 r.2.1, .int .i64 r.2.2]
def rzF (l : List Rz) : List Value := (l.map rzC).flatten
def rzV (r : Rz) : Value := .agg #[.int .i64 r.1, .int .i64 r.2.1, .int .i64 r.2.2]
theorem rzF_len (l : List Rz) : (rzF l).length = l.length * 3 := by
  rw [rzF, flatten_len (N := 3) _ (by intro r hr; obtain ⟨x, _, rfl⟩ := List.mem_map.1 hr; rfl)]; simp
theorem rzF_get (l : List Rz) (k j : Nat) (hk : k < l.length) (hj : j < 3) : (rzF l)[k * 3 + j]? = (rzC l[k])[j]? := by
  rw [rzF, flatten_get (N := 3) _ k j (by intro r hr; obtain ⟨x, _, rfl⟩ := List.mem_map.1 hr; rfl) (by simpa using hk) hj]; simp
theorem rzF_snoc (l : List Rz) (r : Rz) : rzF (l ++ [r]) = rzF l ++ rzC r := by simp [rzF]
/-- A run put behind others: it grows the last one, if that is the same one's. -/
def joinV (L : List Rz) (r : Rz) : List Rz := match L.getLast? with
  | some q => if q.2.2 = r.2.2 then L.dropLast ++ [(q.1, q.2.1 + r.2.1, q.2.2)] else L ++ [r]
  | none => [r]
theorem joinV_nil (r : Rz) : joinV [] r = [r] := rfl
theorem joinV_snoc (M : List Rz) (q r : Rz) : joinV (M ++ [q]) r = if q.2.2 = r.2.2 then M ++ [(q.1, q.2.1 + r.2.1, q.2.2)] else M ++ [q] ++ [r] := by
  simp only [joinV, List.getLast?_append, List.getLast?_singleton, Option.some_or, List.dropLast_concat]
theorem rzF_grow (M : List Rz) (q : Rz) (n : Nat) : (rzF (M ++ [q])).set (M.length * 3 + 1) (.int .i64 n) = rzF (M ++ [(q.1, n, q.2.2)]) := by
  rw [rzF_snoc, rzF_snoc, ← rzF_len, List.set_append_right _ _ (by omega)]
  simp [rzC]
/-- What joined leaves. -/
def JPost (B : Nat) (a : Option Addr) (L' : List Rz) (w : World) (e : Ending) (w' : World) : Prop :=
  ∃ a' c', e = .returned (.slice a' L'.length c') ∧ Own w' B 33 3 a' L'.length c' (rzF L') ∧ Mod (blk a) w w' ∧ ∀ k ∈ blk a', k ∈ blk a ∨ w.heap.size ≤ k
set_option maxHeartbeats 1600000 in
theorem joined_any (B c : Nat) (a : Option Addr) (L : List Rz) (f m : Nat) (v : Int) (w : World) (hown : Own w B 33 3 a L.length c (rzF L)) (hn : L.length ≤ 1000) (hN : ∀ q ∈ L, q.2.1 ≤ 1000000) (hm : m ≤ 1000000) (hB : B ≤ w.heap.size) :
    Calls Try.prog 25 #[.slice a L.length c, rzV (f, m, v)] w (JPost B a (joinV L (f, m, v)) w) := by
  obtain ⟨i0, hi0, hz0, hz1, hz2⟩ := info_parts info_run
  have HO := Lib.hid hown
  have hle := hown.le
  unfold rzV
  rcases List.eq_nil_or_concat L with rfl | ⟨M, q, rfl⟩
  · have HJ : Hid (joinV [] (f, m, v) = [] ++ [(f, m, v)]) := rfl
    clear hown hN
    go_enter Try.func25, Try.ntmps25
    go_wp2_with fail
    go_quiet (fail)
    (
    obtain ⟨W1, hW1⟩ : ∃ W1, W1 = (w.alloc (.cells #[.int .i64 f, .int .i64 m, .int .i64 v] 33)).drewN nq := ⟨_, rfl⟩
    have hb1 : Below w.heap.size w W1 := by rw [hW1]; exact below_drewN ((Below.refl _ _).alloc (Nat.le_refl _) _) nq
    have HO1 : Hid (Own W1 B 33 3 (a) (0) c ([])) := HO.out.below hb1
    have HX : ObjAt W1 w.heap.size 33 [.int .i64 f, .int .i64 m, .int .i64 v] := by rw [hW1]; exact new_block w _ _ rfl
    have x0 := HX.cell 0 _ rfl; have x1 := HX.cell 1 _ rfl; have x2 := HX.cell 2 _ rfl
    have hz := hb1.size
    rw [← hW1]
    clear hW1 HX
    go_wp2_with (at_builtin; (refine wpList_own rfl (.tmp 32) (.tmp 34) 27 rfl B 33 i0 _ 3 24 Try.underlying27 hi0 hz0 hz1 hz2 rfl (by omega) (a) (0) c ([]) rfl (HO1.out.below ((Below.refl _ _).alloc (Nat.le_refl _) _)) W1.heap.size (rzC (f, m, v)) rfl (new_block _ _ _ rfl) rfl (by simp [rzC, Value.oneCell']) (by simp only [maxLen]; omega) (by omega) (by simp; omega) ?_); intro g' c' w1 hown1 hmod1 hat1)
    go_ret
    have hm1 := ((Mod.ofBelow hb1).alloc (S := blk (a)) (.cells #[.int .i64 f, .int .i64 m, .int .i64 v] 33)).trans hmod1
    rw [HJ.out]
    refine ⟨some ⟨g', 0, none⟩, c', by simp, by (have e := hown1; rw [rzF_snoc]; simp only [List.length_append, List.length_cons, List.length_nil, Nat.zero_add] at e ⊢; exact e), hm1, fun k hk => ?_⟩
    simp only [blk, Option.map_some, Option.toList_some, List.mem_singleton] at hk
    subst hk
    exact hat1.imp id (fun h => by simp at h; omega)
)
  · rw [List.concat_eq_append] at *
    have hMl : (M ++ [q]).length = M.length + 1 := by simp
    have hq1 := hN q (by simp)
    obtain ⟨b, rfl, _, hbw⟩ := hown.at_ (by omega)
    have hk : M.length < (M ++ [q]).length := by omega
    have k1 := hown.cell (M.length * 3 + 1) (.int .i64 q.2.1) (by have := rzF_get (M ++ [q]) M.length 1 hk (by omega); simpa [rzC] using this)
    have k2 := hown.cell (M.length * 3 + 2) (.int .i64 q.2.2) (by have := rzF_get (M ++ [q]) M.length 2 hk (by omega); simpa [rzC] using this)
    have kf := hown.free (M.length * 3 + 1)
    have hJ := joinV_snoc M q (f, m, v)
    dsimp only at hJ
    have HN := Lib.hid hMl
    have hc1 : M.length + 1 ≤ c := by omega
    have hM1 : M.length + 1 ≤ 1000 := by omega
    rw [hMl]
    obtain ⟨qf, qm, qv⟩ := q
    dsimp only at hq1 k1 k2 hJ
    clear hown hN hle hn hk hMl
    have hb0 : (0 : Int) ≤ (M.length : Int) := by omega
    have hb1 : (M.length : Int) < (M.length : Int) + 1 := by omega
    by_cases e : qv = v
    · subst e
      rw [if_pos rfl] at hJ
      have HJ := Lib.hid hJ
      have e1 : (qv == qv) = true := by simp
      clear hJ
      go_enter Try.func25, Try.ntmps25
      go_wp2_with fail
      go_quiet (fail)
      obtain ⟨W1, hW1⟩ : ∃ W1, W1 = (w.alloc (.cells #[.int .i64 f, .int .i64 m, .int .i64 qv] 33)).drewN nq := ⟨_, rfl⟩
      have hb1' : Below w.heap.size w W1 := by rw [hW1]; exact below_drewN ((Below.refl _ _).alloc (Nat.le_refl _) _) nq
      have HO1 : Hid (Own W1 B 33 3 (some ⟨b, 0, none⟩) (M ++ [(qf, qm, qv)]).length c (rzF (M ++ [(qf, qm, qv)]))) := HO.out.below hb1'
      have HX : ObjAt W1 w.heap.size 33 [.int .i64 f, .int .i64 m, .int .i64 qv] := by rw [hW1]; exact new_block w _ _ rfl
      have x1 := HX.cell 1 _ rfl
      have l1 : W1.cell? ⟨b, M.length * 3 + 1, none⟩ = some (.int .i64 qm) := (hb1'.cell (p := ⟨b, M.length * 3 + 1, none⟩) hbw).trans k1
      have lf := HO1.out.free (M.length * 3 + 1)
      have HB1 := Lib.hid hb1'
      rw [← hW1]
      clear hW1 HX k1 k2 kf hb1'
      go_wp2_with fail
      go_region
      all_goals
        go_wp2_with fail
        go_ret
        rw [HJ.out]
        have hs := Own.put HO1.out (j := M.length * 3 + 1) (by rw [HN.out]; omega) (.int .i64 ((qm + m : Nat) : Int))
        rw [rzF_grow, HN.out] at hs
        have hw1 : Int.ofNat (qm + m) = (qm : Int) + m := by simp
        have hs2 : Own ((W1.setCell ⟨b, M.length * 3 + 1, none⟩ (.int .i64 ((qm : Int) + m))).drew) B 33 3 (some ⟨b, 0, none⟩) (M.length + 1) c (rzF (M ++ [(qf, qm + m, qv)])) := by
          rw [← Int.natCast_add]
          exact Own.below hs ((Below.refl _ _).drew)
        refine ⟨some ⟨b, 0, none⟩, c, by simp, by rw [List.length_append]; exact hs2, ?_, fun k hk => .inl hk⟩
        exact ((Mod.ofBelow HB1.out).setCell ⟨b, M.length * 3 + 1, none⟩ _ (.inl (by simp [blk]))).drew
    · rw [if_neg e] at hJ
      have HJ := Lib.hid hJ
      have e1 : (qv == v) = false := by simpa using e
      have HO : Hid (Own w B 33 3 (some ⟨b, 0, none⟩) (M.length + 1) c (rzF (M ++ [(qf, qm, qv)]))) := by have := HO.out; rwa [HN.out] at this
      clear hJ e
      go_enter Try.func25, Try.ntmps25
      go_wp2_with fail
      go_quiet (fail)
      clear k1 k2 kf
      have hb2 : M.length + 1 ≤ 1000 := hM1
      (
    obtain ⟨W1, hW1⟩ : ∃ W1, W1 = (w.alloc (.cells #[.int .i64 f, .int .i64 m, .int .i64 v] 33)).drewN nq := ⟨_, rfl⟩
    have hb1 : Below w.heap.size w W1 := by rw [hW1]; exact below_drewN ((Below.refl _ _).alloc (Nat.le_refl _) _) nq
    have HO1 : Hid (Own W1 B 33 3 ((some ⟨b, 0, none⟩)) ((M.length + 1)) c ((rzF (M ++ [(qf, qm, qv)])))) := HO.out.below hb1
    have HX : ObjAt W1 w.heap.size 33 [.int .i64 f, .int .i64 m, .int .i64 v] := by rw [hW1]; exact new_block w _ _ rfl
    have x0 := HX.cell 0 _ rfl; have x1 := HX.cell 1 _ rfl; have x2 := HX.cell 2 _ rfl
    have hz := hb1.size
    rw [← hW1]
    clear hW1 HX
    go_wp2_with (at_builtin; (refine wpList_own rfl (.tmp 32) (.tmp 34) 27 rfl B 33 i0 _ 3 24 Try.underlying27 hi0 hz0 hz1 hz2 rfl (by omega) ((some ⟨b, 0, none⟩)) ((M.length + 1)) c ((rzF (M ++ [(qf, qm, qv)]))) rfl (HO1.out.below ((Below.refl _ _).alloc (Nat.le_refl _) _)) W1.heap.size (rzC (f, m, v)) rfl (new_block _ _ _ rfl) rfl (by simp [rzC, Value.oneCell']) (by simp only [maxLen]; omega) (by omega) (by simp; omega) ?_); intro g' c' w1 hown1 hmod1 hat1)
    go_ret
    have hm1 := ((Mod.ofBelow hb1).alloc (S := blk ((some ⟨b, 0, none⟩))) (.cells #[.int .i64 f, .int .i64 m, .int .i64 v] 33)).trans hmod1
    rw [HJ.out]
    refine ⟨some ⟨g', 0, none⟩, c', by simp, by (have e := hown1; rw [rzF_snoc]; simp only [List.length_append, List.length_cons, List.length_nil, Nat.zero_add] at e ⊢; exact e), hm1, fun k hk => ?_⟩
    simp only [blk, Option.map_some, Option.toList_some, List.mem_singleton] at hk
    subst hk
    exact hat1.imp id (fun h => by simp at h; omega)
)
end Go.Proofs.Ythmbflofcceifaa
