/- The reference's gate; the same releases; awake. -/
import Derived.Test.YtnhapfoebiniiaaGate3
namespace Go.Proofs.Ytnhapfoebiniiaa
open Go.RowKit Go.Sort
set_option maxHeartbeats 400000
set_option maxRecDepth 100000

/-- How many bytes. -/
def sumR : List Rel → Nat
  | [] => 0
  | r :: l => r.1.size + sumR l
theorem sumR_snoc (l : List Rel) (r : Rel) : sumR (l ++ [r]) = sumR l + r.1.size := by
  induction l with
  | nil => simp [sumR]
  | cons x l ih => simp only [List.cons_append, sumR, ih]; omega
theorem sumR_take (l : List Rel) (k : Nat) (h : k < l.length) : sumR (l.take (k + 1)) = sumR (l.take k) + l[k].1.size := by
  rw [List.take_succ_eq_append_getElem h, sumR_snoc]
theorem sumR_take_le : ∀ (l : List Rel) (k : Nat), sumR (l.take k) ≤ sumR l
  | [], k => by simp [sumR]
  | r :: l, 0 => by simp [sumR]
  | r :: l, k + 1 => by simp only [List.take_succ_cons, sumR]; have := sumR_take_le l k; omega
def UsedPost (n : Nat) (w : World) (e : Ending) (w' : World) : Prop := e = .returned (.int .i64 n) ∧ Below w.heap.size w w'
theorem rused_any (B b : Nat) (a : Option Addr) (cap : Nat) (R : List Rel) (N cats who quota : Int) (w : World) (h : RSt w B b a cap R N cats who quota) (hn : R.length ≤ 1000) (hs : sumR (nowR R N) ≤ 100000) (hs1 : ∀ r ∈ R, r.1.size ≤ maxLen) : Calls Try.prog 18 #[.pointer (some ⟨b, 0, none⟩)] w (UsedPost (sumR (nowR R N)) w) := by
  have H := Lib.hid h
  clear h
  have hlen := now_le R N
  have HX : Hid (∀ r ∈ nowR R N, r.1.size ≤ maxLen) := fun r hr => hs1 r ((List.mem_filter.1 hr).1)
  clear hs1
  generalize hT : nowR R N = T at hlen hs HX ⊢
  have HT := Lib.hid hT
  clear hT
  go_enter Try.func18, Try.ntmps18
  go_wp2_with fail
  refine (now_any _ _ _ _ _ _ _ _ _ _ H.out hn).mono ?_; rintro e w1 ⟨a', c', rfl, hown, hb⟩
  rw [HT.out] at hown ⊢
  have hle := hown.le
  go_wp2_with fail
  go_loop [3, 5] (fun n i => ∃ k : Nat, k ≤ T.length ∧ i = .int .i64 k ∧ n = .int .i64 (sumR (T.take k))) (fun _ i => T.length - (intOf i).toNat)
  case atStart => exact ⟨0, Nat.zero_le _, rfl, by simp [sumR]⟩
  case round =>
    obtain ⟨k, hk, rfl, rfl⟩ := hrel
    have hst := sumR_take_le T k
    by_cases hlt : k < T.length
    · obtain ⟨g, rfl, _, hg⟩ := hown.at_ (by omega)
      have k0 := hown.cell (k * 3) (.string T[k].1) (by have := relF_get T k 0 hlt (by omega); simpa [relC] using this)
      have HS := Lib.hid (sumR_take T k hlt)
      have hsz := HX.out T[k] (List.getElem_mem hlt)
      have hst2 := sumR_take_le T (k + 1)
      rw [HS.out] at hst2
      unfold maxLen at hsz
      generalize T[k] = r at k0 HS hsz hst2
      obtain ⟨s, l, f⟩ := r
      obtain ⟨q, hq⟩ : ∃ q, q = sumR (T.take k) := ⟨_, rfl⟩
      rw [← hq] at HS hst hst2 ⊢
      clear hq
      have HS : Hid (sumR (T.take (k + 1)) = q + s.size) := HS
      dsimp only at hst2 hsz
      have hb0 : (0 : Int) ≤ k := by omega
      have hb1 : (k : Int) < (T.length : Int) := by omega
      go_wp2_with fail
      go_round
      case rel => exact ⟨k + 1, by omega, by go_num, by rw [HS.out]; go_num⟩
      case measure => simp [intOf]; omega
    · have hkl : k = T.length := by omega
      subst hkl
      rw [List.take_length]
      go_wp2_with fail
      go_ret
      exact ⟨rfl, hb⟩
theorem rturn_any (B b : Nat) (a : Option Addr) (cap : Nat) (R : List Rel) (N cats who quota : Int) (w : World) (h : RSt w B b a cap R N cats who quota) (hn : R.length ≤ 1000) (hN0 : 0 ≤ N) (hN1 : N ≤ 1000) : Calls Try.prog 13 #[.pointer (some ⟨b, 0, none⟩)] w fun e w' => ∃ a' c', e = .returned (.slice a' (nowR R N).length c') ∧ Own w' w.heap.size 43 3 a' (nowR R N).length c' (relF (nowR R N)) ∧ RSt w' B b a cap R (N + 1) cats who quota ∧ Upd b w w' := by
  have H := Lib.hid h
  clear h
  go_enter Try.func13, Try.ntmps13
  go_wp2_with fail
  refine (now_any _ _ _ _ _ _ _ _ _ _ H.out hn).mono ?_; rintro e w1 ⟨a', c', rfl, hown, hb⟩
  have h1 := H.out.below hb
  have c4 := h1.obj.cell 4 _ rfl; have f4 := h1.obj.free 4
  go_wp2_with fail
  go_ret
  exact ⟨a', c', rfl, hown.upd (Upd.setCell w1 ⟨b, 4, none⟩ _) (hown.ne h1.obj (by decide)), ⟨h1.obj.set 4 _, h1.own.upd (Upd.setCell w1 ⟨b, 4, none⟩ _) (h1.own.ne h1.obj (by decide))⟩, (Upd.of_below hb).trans (Upd.setCell w1 ⟨b, 4, none⟩ _)⟩
theorem eqR (s : ByteArray) (l f : Int) (w : World) : Sem.run Try.prog (Op.equalIn 10000 43 (.agg #[.string s, .int .i64 l, .int .i64 f]) (.agg #[.string s, .int .i64 l, .int .i64 f])) w = .ok true w := by
  go_simp
theorem same_any (a1 a2 : Option Addr) (c1 c2 : Nat) (R : List Rel) (w : World) (h1 : Rd w 3 a1 R.length (relF R)) (h2 : Rd w 3 a2 R.length (relF R)) (hn : R.length ≤ 100000) (hc1 : R.length ≤ c1) (hc2 : R.length ≤ c2) : Calls Try.prog 11 #[.slice a1 R.length c1, .slice a2 R.length c2] w fun e w' => e = .returned (.bool true) ∧ Below w.heap.size w w' := by
  have H1 := Lib.hid h1; have H2 := Lib.hid h2
  clear h1 h2
  have nn : ((R.length : Int) != (R.length : Int)) = false := by simp
  go_enter Try.func11, Try.ntmps11
  go_wp2_with fail
  go_loopw [5] (fun i wr => ∃ k : Nat, k ≤ R.length ∧ i = .int .i64 k ∧ Below w.heap.size w wr) (fun i _ => R.length - (intOf i).toNat)
  case atStart => exact ⟨0, Nat.zero_le _, rfl, Below.refl _ _⟩
  case round =>
    obtain ⟨k, hk, rfl, hb⟩ := hrel
    by_cases hlt : k < R.length
    · have hne : relF R ≠ [] := by intro h0; have := relF_len R; rw [h0] at this; simp at this; omega
      have h1 := H1.out.below hb; have h2 := H2.out.below hb
      cases a1 with
      | none => have := H1.out.2.1 rfl; omega
      | some p1 =>
        cases a2 with
        | none => have := H2.out.2.1 rfl; omega
        | some p2 =>
          obtain ⟨b1, o1, rfl, _, g1⟩ := h1.2.2 p1 rfl hne
          obtain ⟨b2, o2, rfl, _, g2⟩ := h2.2.2 p2 rfl hne
          have k0 := g1 (k * 3) (.string R[k].1) (by have := relF_get R k 0 hlt (by omega); simpa [relC] using this)
          have k1 := g1 (k * 3 + 1) (.int .i64 R[k].2.1) (by have := relF_get R k 1 hlt (by omega); simpa [relC] using this)
          have k2 := g1 (k * 3 + 2) (.int .i64 R[k].2.2) (by have := relF_get R k 2 hlt (by omega); simpa [relC] using this)
          have j0 := g2 (k * 3) (.string R[k].1) (by have := relF_get R k 0 hlt (by omega); simpa [relC] using this)
          have j1 := g2 (k * 3 + 1) (.int .i64 R[k].2.1) (by have := relF_get R k 1 hlt (by omega); simpa [relC] using this)
          have j2 := g2 (k * 3 + 2) (.int .i64 R[k].2.2) (by have := relF_get R k 2 hlt (by omega); simpa [relC] using this)
          clear g1 g2 h1 h2 hne
          generalize R[k] = r at k0 k1 k2 j0 j1 j2
          obtain ⟨s, l, f⟩ := r
          have qR := fun w => eqR s l f w
          have hb0 : (0 : Int) ≤ k := by omega
          have hb1 : (k : Int) < (R.length : Int) := by omega
          simp only [← Nat.add_assoc] at k1 k2 j1 j2
          go_wp2_with fail
          go_quiet (fail)
          clear k0 k1 k2 j0 j1 j2 qR
          go_wp2
          go_roundw
          case rel => exact ⟨k + 1, by omega, by go_num, below_drewN hb _⟩
          case measure => simp [intOf]; omega
    · have hkl : k = R.length := by omega
      subst hkl
      go_wp2_with fail
      go_ret
      exact ⟨rfl, hb⟩
end Go.Proofs.Ytnhapfoebiniiaa
