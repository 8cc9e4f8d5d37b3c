/- Package hermitagelaw03: runs, awake; reading of rows. -/
import Derived.Test.YthmbflofcceifaaParts8
import Derived.Lib.QuietBelow
import Derived.BigQuiet
namespace Go.Proofs.Ythmbflofcceifaa
set_option linter.unusedVariables false
set_option linter.unusedSimpArgs false
set_option linter.unnecessarySimpa false
open Go.RowKit Go.Sort
set_option maxHeartbeats 400000
set_option maxRecDepth 100000

theorem row_at {w : World} {k : IntKind} {a : Option Addr} {c : Nat} {xs : List Int} (h : RowI w k (.slice a xs.length c) xs) (n : Nat) (hn : n < xs.length) : ∃ b o, a = some ⟨b, o, none⟩ ∧ b < w.heap.size ∧ ∀ W, Below w.heap.size w W → W.cell? ⟨b, o + n, none⟩ = some (.int k xs[n]) := by
  obtain ⟨_, _, e, _, _, q⟩ := h
  injection e with e1 e2 e3
  subst e1
  obtain ⟨b, o, rfl, hc⟩ := q (by intro h; simp [h] at hn)
  have h1 := hc n hn
  have hb := World.block_lt_of_cell? w ⟨b, o + n, none⟩ h1
  exact ⟨b, o, rfl, hb, fun W hW => (hW.cell (p := ⟨b, o + n, none⟩) hb).trans h1⟩
theorem rz_at {w : World} {a : Option Addr} {L : List Rz} (h : Rd w 3 a L.length (rzF L)) (k : Nat) (hk : k < L.length) : ∃ b o, a = some ⟨b, o, none⟩ ∧ w.cell? ⟨b, o + k * 3, none⟩ = some (.int .i64 L[k].1) ∧ w.cell? ⟨b, o + k * 3 + 1, none⟩ = some (.int .i64 L[k].2.1) ∧ w.cell? ⟨b, o + k * 3 + 2, none⟩ = some (.int .i64 L[k].2.2) := by
  have hne : rzF L ≠ [] := by intro h0; have := rzF_len L; rw [h0] at this; simp at this; omega
  have ha : a ≠ none := fun h0 => by have := h.2.1 h0; omega
  obtain ⟨p, rfl⟩ := Option.ne_none_iff_exists'.1 ha
  obtain ⟨b, o, rfl, _, h3⟩ := h.2.2 p rfl hne
  refine ⟨b, o, rfl, ?_, ?_, ?_⟩
  · exact h3 (k * 3) _ (by have := rzF_get L k 0 hk (by omega); simpa [rzC] using this)
  · have := h3 (k * 3 + 1) (.int .i64 L[k].2.1) (by have := rzF_get L k 1 hk (by omega); simpa [rzC] using this)
    rwa [← Nat.add_assoc] at this
  · have := h3 (k * 3 + 2) (.int .i64 L[k].2.2) (by have := rzF_get L k 2 hk (by omega); simpa [rzC] using this)
    rwa [← Nat.add_assoc] at this
theorem eqR (a b c : Int) (w : World) : Sem.run Try.prog (Op.equalIn 10000 33 (.agg #[.int .i64 a, .int .i64 b, .int .i64 c]) (.agg #[.int .i64 a, .int .i64 b, .int .i64 c])) w = .ok true w := by
  go_simp
theorem runs_same (a a' : Option Addr) (c c' : Nat) (L : List Rz) (w : World) (h : Rd w 3 a L.length (rzF L)) (h' : Rd w 3 a' L.length (rzF L)) (hl : L.length ≤ 100000) (hc : L.length ≤ c) (hc' : L.length ≤ c') :
    Calls Try.prog 11 #[.slice a L.length c, .slice a' L.length c'] w fun e w' => e = .returned (.bool true) ∧ Below w.heap.size w w' := by
  have hne : ((L.length : Int) != L.length) = false := by simp
  have H := Lib.hid h; have H' := Lib.hid h'
  clear h h'
  go_enter Try.func11, Try.ntmps11
  go_wp2
  go_loopw [5] (fun i wr => ∃ k : Nat, k ≤ L.length ∧ i = .int .i64 k ∧ Below w.heap.size w wr) (fun i _ => L.length - (intOf i).toNat)
  case atStart => exact ⟨0, by omega, rfl, Below.refl _ _⟩
  case round =>
    obtain ⟨k, hk, rfl, hb⟩ := hrel
    by_cases hlt : k < L.length
    · obtain ⟨b, o, rfl, k0, k1, k2⟩ := rz_at (H.out.below hb) k hlt
      obtain ⟨b', o', rfl, q0, q1, q2⟩ := rz_at (H'.out.below hb) k hlt
      generalize L[k] = x at k0 k1 k2 q0 q1 q2
      obtain ⟨xf, xn, xw⟩ := x
      dsimp only at k0 k1 k2 q0 q1 q2
      have hq := fun w => eqR xf xn xw w
      have hlt2 : decide ((k : Int) < L.length) = true := by simp; omega
      have HB := Lib.hid hb
      clear hb
      go_wp2_with fail
      go_quiet (fail)
      go_wp2
      go_roundw
      case rel => exact ⟨k + 1, by omega, by go_num, below_drewN HB.out _⟩
      case measure => simp [intOf]; omega
    · have hlt2 : decide ((k : Int) < L.length) = false := by simp; omega
      have HB := Lib.hid hb
      clear hb
      go_wp2
      go_ret
      exact ⟨rfl, HB.out⟩
theorem aw_give : giveV 5 [] 1 2 7 = (0, [(1, 2, 7)]) := by decide
theorem aw_free : freeV 5 [(1, 2, 7)] = 3 := by decide
theorem aw_runs : (runsV 5 [(1, 2, 7)]).length = 3 := by decide
theorem awake_any (w : World) : Calls Try.prog 13 #[] w fun e w' => e = .returned (.bool true) ∧ Below w.heap.size w w' := by
  go_enter Try.func13, Try.ntmps13
  go_wp2_with fail
  refine (tnew_yes 5 (by omega) w).mono ?_; rintro e w1 ⟨rfl, ht1, hb1⟩
  have HT1 := Lib.hid ht1; have HB1 := Lib.hid hb1
  have hz1 := hb1.size
  clear ht1 hb1
  go_wp2_with fail
  refine (give_any _ _ _ _ _ _ 1 2 7 _ HT1.out hz1).mono ?_; rw [aw_give]; rintro e w2 ⟨a2, cap2, rfl, ht2, hm2, hat2⟩
  have HT2 := Lib.hid ht2
  have HB2 : Hid (Below w.heap.size w w2) := HB1.out.trans (hm2.below (fun k hk => by
    rcases List.mem_cons.1 hk with rfl | hk
    · exact Nat.le_refl _
    · exact (HT1.out.own.ge k hk).1) hz1)
  clear ht2 hm2 hat2 HT1 HB1
  go_wp2_with fail
  refine (free_any _ _ _ _ _ _ _ HT2.out).mono ?_; rw [aw_free]; rintro e w3 ⟨rfl, hb3⟩
  have HT3 := Lib.hid (HT2.out.below hb3)
  have HB3 : Hid (Below w.heap.size w w3) := bmore HB2.out hb3
  clear hb3 HT2 HB2
  go_wp2_with fail
  refine (runs_any _ _ _ _ _ _ _ HT3.out).mono ?_; rintro e w4 ⟨a4, c4, rfl, hown4, hb4⟩
  rw [aw_runs] at hown4
  rw [aw_runs]
  have HB4 : Hid (Below w.heap.size w w4) := bmore HB3.out hb4
  clear hb4 HT3 HB3 hown4
  go_wp2_with fail
  go_ret
  exact ⟨rfl, HB4.out⟩
end Go.Proofs.Ythmbflofcceifaa
