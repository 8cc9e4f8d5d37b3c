/- Package parts: the runs of a table, as a plain law. -/
import Derived.Test.YthmbflofcceifaaParts7
namespace Go.Proofs.Ythmbflofcceifaa
set_option linter.unusedVariables false
set_option linter.unusedSimpArgs false
set_option linter.unnecessarySimpa false
set_option maxHeartbeats 400000

/-- Whose a place is; nobody: -1. -/
def ownV (R : List Rn) (i : Nat) : Int := match R.find? (hits i) with
  | some r => r.2.2
  | none => -1
theorem hits_nat (i : Nat) (r : Rn) : hits i r = (decide (r.1 ≤ i) && decide (i < r.1 + r.2.1)) := by
  unfold hits
  congr 1
  · exact decide_eq_decide.2 (by omega)
  · exact decide_eq_decide.2 (by omega)
theorem ownV_who (R : List Rn) (i : Nat) : whoV R i = if 0 ≤ ownV R i then (ownV R i, true) else (0, false) := by
  unfold whoV ownV
  cases R.find? (hits i) with
  | none => simp
  | some r => simp
/-- f told by runs, up to hi: one behind the other, neighbours of two owners. -/
inductive Rle (f : Nat → Int) : List Rz → Nat → Prop
  | nil : Rle f [] 0
  | snoc {L : List Rz} {lo N : Nat} {v : Int} : Rle f L lo → 1 ≤ N → (∀ i, lo ≤ i → i < lo + N → f i = v) → (∀ q, L.getLast? = some q → q.2.2 ≠ v) → Rle f (L ++ [(lo, N, v)]) (lo + N)
theorem rle_inv {f : Nat → Int} {L : List Rz} {hi : Nat} (h : Rle f L hi) : (L = [] ∧ hi = 0) ∨ ∃ M lo N v, L = M ++ [(lo, N, v)] ∧ hi = lo + N ∧ Rle f M lo ∧ 1 ≤ N ∧ (∀ i, lo ≤ i → i < lo + N → f i = v) ∧ ∀ q, M.getLast? = some q → q.2.2 ≠ v := by
  cases h with
  | nil => exact .inl ⟨rfl, rfl⟩
  | snoc h1 h2 h3 h4 => exact .inr ⟨_, _, _, _, rfl, rfl, h1, h2, h3, h4⟩
theorem Rle.join {f : Nat → Int} {L : List Rz} {lo N : Nat} {v : Int} (h : Rle f L lo) (hN : 1 ≤ N) (hf : ∀ i, lo ≤ i → i < lo + N → f i = v) : Rle f (joinV L (lo, N, v)) (lo + N) := by
  rcases rle_inv h with ⟨rfl, rfl⟩ | ⟨M, l0, N0, v0, rfl, rfl, h1, h2, h3, h4⟩
  · exact Rle.snoc h hN hf (by simp)
  · rw [joinV_snoc]
    dsimp only
    by_cases e : v0 = v
    · subst e
      rw [if_pos rfl, Nat.add_assoc]
      refine Rle.snoc h1 (by omega) (fun i hi hj => ?_) h4
      rcases Nat.lt_or_ge i (l0 + N0) with hc | hc
      · exact h3 i hi hc
      · exact hf i hc (by omega)
    · rw [if_neg e]
      exact Rle.snoc h hN hf (fun q hq => by simp at hq; rw [← hq]; exact e)
theorem rle_last {f : Nat → Int} {L : List Rz} {hi : Nat} (h : Rle f L hi) (h0 : 0 < hi) : ∃ q, L.getLast? = some q ∧ q.2.2 = f (hi - 1) := by
  rcases rle_inv h with ⟨rfl, rfl⟩ | ⟨M, l0, N0, v0, rfl, rfl, h1, h2, h3, h4⟩
  · omega
  · exact ⟨(l0, N0, v0), by simp, (h3 (l0 + N0 - 1) (by omega) (by omega)).symm⟩
theorem rle_uniq {f : Nat → Int} {L : List Rz} {hi : Nat} (h : Rle f L hi) : ∀ {L' : List Rz}, Rle f L' hi → L = L' := by
  induction h with
  | nil =>
    intro L' h'
    rcases rle_inv h' with ⟨rfl, _⟩ | ⟨M, l0, N0, v0, rfl, e, h1, h2, h3, h4⟩
    · rfl
    · omega
  | @snoc L lo N v g1 g2 g3 g4 ih =>
    intro L' h'
    rcases rle_inv h' with ⟨rfl, e⟩ | ⟨M, l0, N0, v0, rfl, e, h1, h2, h3, h4⟩
    · omega
    · have ev : v = v0 := by
        have a := g3 (lo + N - 1) (by omega) (by omega)
        have b := h3 (lo + N - 1) (by omega) (by omega)
        rw [← a, b]
      subst ev
      have el : lo = l0 := by
        rcases Nat.lt_trichotomy lo l0 with hc | hc | hc
        · obtain ⟨q, hq, hv⟩ := rle_last h1 (by omega)
          exact absurd (hv.trans (g3 (l0 - 1) (by omega) (by omega))) (h4 q hq)
        · exact hc
        · obtain ⟨q, hq, hv⟩ := rle_last g1 (by omega)
          exact absurd (hv.trans (h3 (lo - 1) (by omega) (by omega))) (g4 q hq)
      subst el
      have eN : N = N0 := by omega
      subst eN
      rw [ih h1]
/-- A round of Runs. -/
def stepV (s : List Rz × Nat) (r : Rn) : List Rz × Nat := (joinV (gapV s.1 s.2 r.1) (r.1, r.2.1, r.2.2), r.1 + r.2.1)
def runsP (R : List Rn) : List Rz × Nat := R.foldl stepV ([], 0)
theorem runsP_snoc (R : List Rn) (r : Rn) : runsP (R ++ [r]) = stepV (runsP R) r := by simp [runsP]
/-- What Runs answers. -/
def runsV (n : Nat) (R : List Rn) : List Rz := gapV (runsP R).1 (runsP R).2 n
theorem joinV_len (L : List Rz) (r : Rz) : (joinV L r).length ≤ L.length + 1 := by
  unfold joinV
  cases h : L.getLast? with
  | none => simp
  | some q =>
    simp only
    split
    · have : L ≠ [] := by rintro rfl; simp at h
      have := List.length_pos_iff.2 this
      simp
    · simp
theorem joinV_big {L : List Rz} {r : Rz} {k m : Nat} (h : ∀ q ∈ L, q.2.1 ≤ k) (hr : r.2.1 ≤ m) : ∀ q ∈ joinV L r, q.2.1 ≤ k + m := by
  rcases List.eq_nil_or_concat L with rfl | ⟨M, p, rfl⟩
  · intro q hq; rw [joinV_nil] at hq; simp at hq; subst hq; omega
  · rw [List.concat_eq_append] at *
    rw [joinV_snoc]
    intro q hq
    split at hq
    · simp only [List.mem_append, List.mem_singleton] at hq
      rcases hq with hq | rfl
      · have := h q (by simp [hq]); omega
      · have := h p (by simp); dsimp only; omega
    · simp only [List.mem_append, List.mem_singleton] at hq
      rcases hq with hq | rfl
      · have := h q (by simpa using hq); omega
      · omega
theorem gapV_len (L : List Rz) (a t : Nat) : (gapV L a t).length ≤ L.length + 1 := by
  unfold gapV
  split
  · exact joinV_len _ _
  · omega
theorem gapV_big {L : List Rz} {a t k : Nat} (h : ∀ q ∈ L, q.2.1 ≤ k) (ht : t ≤ 64) : ∀ q ∈ gapV L a t, q.2.1 ≤ k + 64 := by
  unfold gapV
  split
  · exact joinV_big h (by dsimp only; omega)
  · intro q hq; have := h q hq; omega
theorem runsP_bd : ∀ (k : Nat) (R : List Rn), R.length = k → (∀ r ∈ R, r.1 ≤ 64 ∧ r.2.1 ≤ 64) → (runsP R).1.length ≤ 2 * k ∧ (∀ q ∈ (runsP R).1, q.2.1 ≤ 128 * k) ∧ (runsP R).2 ≤ 128
  | 0, R, h, _ => by
    obtain rfl : R = [] := List.eq_nil_of_length_eq_zero h
    simp [runsP]
  | k + 1, R, h, hr => by
    rcases List.eq_nil_or_concat R with rfl | ⟨M, r, rfl⟩
    · simp at h
    · rw [List.concat_eq_append] at *
      obtain ⟨i1, i2, i3⟩ := runsP_bd k M (by simpa using h) (fun s hs => hr s (by simp [hs]))
      have h0 := hr r (by simp)
      rw [runsP_snoc]
      unfold stepV
      refine ⟨?_, ?_, by dsimp only; omega⟩
      · have a := joinV_len (gapV (runsP M).1 (runsP M).2 r.1) (r.1, r.2.1, (r.2.2 : Int))
        have b := gapV_len (runsP M).1 (runsP M).2 r.1
        dsimp only
        omega
      · intro q hq
        have := joinV_big (gapV_big (a := (runsP M).2) i2 h0.1) (r := (r.1, r.2.1, (r.2.2 : Int))) h0.2 q hq
        omega
theorem gapV_rle {f : Nat → Int} {L : List Rz} {lo to : Nat} (h : Rle f L lo) (hl : lo ≤ to) (hf : ∀ i, lo ≤ i → i < to → f i = -1) : Rle f (gapV L lo to) to := by
  unfold gapV
  by_cases e : lo < to
  · rw [if_pos e]
    have := Rle.join (N := to - lo) h (by omega) (fun i hi hj => hf i hi (by omega))
    rwa [show lo + (to - lo) = to by omega] at this
  · rw [if_neg e]
    obtain rfl : lo = to := by omega
    exact h
theorem ownV_off {R : List Rn} {i : Nat} (h : ∀ r ∈ R, ¬ (r.1 ≤ i ∧ i < r.1 + r.2.1)) : ownV R i = -1 := by
  have : R.find? (hits i) = none := by
    rw [List.find?_eq_none]
    intro r hr
    have := h r hr
    rw [hits_nat]
    simpa using fun h1 => by omega
  rw [ownV, this]
theorem ownV_app {R S : List Rn} {i : Nat} (h : ∀ r ∈ R, ¬ (r.1 ≤ i ∧ i < r.1 + r.2.1)) : ownV (R ++ S) i = ownV S i := by
  have : R.find? (hits i) = none := by
    rw [List.find?_eq_none]
    intro r hr
    have := h r hr
    rw [hits_nat]
    simpa using fun h1 => by omega
  unfold ownV
  rw [List.find?_append, this, Option.none_or]
theorem ownV_app0 {R S : List Rn} {i : Nat} (h : ∀ r ∈ S, ¬ (r.1 ≤ i ∧ i < r.1 + r.2.1)) : ownV (R ++ S) i = ownV R i := by
  have : S.find? (hits i) = none := by
    rw [List.find?_eq_none]
    intro r hr
    have := h r hr
    rw [hits_nat]
    simpa using fun h1 => by omega
  unfold ownV
  rw [List.find?_append, this, Option.or_none]
theorem ownV_cons (r : Rn) (R : List Rn) (i : Nat) : ownV (r :: R) i = if r.1 ≤ i ∧ i < r.1 + r.2.1 then (r.2.2 : Int) else ownV R i := by
  unfold ownV
  rw [List.find?_cons, hits_nat]
  by_cases h : r.1 ≤ i ∧ i < r.1 + r.2.1
  · rw [if_pos h]; simp [h.1, h.2]
  · rw [if_neg h]
    have : (decide (r.1 ≤ i) && decide (i < r.1 + r.2.1)) = false := by simpa using fun h1 => by omega
    rw [this]
/-- What the first runs tell. -/
theorem runsP_rle {n : Nat} : ∀ (k : Nat) (R S : List Rn), R.length = k → Okr n (R ++ S) → Rle (ownV (R ++ S)) (runsP R).1 (runsP R).2 ∧ (∀ r ∈ S, (runsP R).2 ≤ r.1) ∧ (runsP R).2 ≤ n ∧ ∀ r ∈ R, r.1 + r.2.1 ≤ (runsP R).2
  | 0, R, S, h, _ => by
    obtain rfl : R = [] := List.eq_nil_of_length_eq_zero h
    exact ⟨Rle.nil, fun _ _ => Nat.zero_le _, Nat.zero_le _, by simp⟩
  | k + 1, R, S, h, hok => by
    rcases List.eq_nil_or_concat R with rfl | ⟨M, r, rfl⟩
    · simp at h
    · rw [List.concat_eq_append] at *
      rw [List.append_assoc] at hok ⊢
      obtain ⟨i1, i2, i3, i4⟩ := runsP_rle k M ([r] ++ S) (by simpa using h) hok
      have h0 := hok.each r (by simp)
      have hr := i2 r (by simp)
      have hs := hok.sorted
      rw [List.pairwise_append] at hs
      obtain ⟨s1, s2, s3⟩ := hs
      rw [List.singleton_append, List.pairwise_cons] at s2
      have off : ∀ i, (runsP M).2 ≤ i → ∀ q ∈ M, ¬ (q.1 ≤ i ∧ i < q.1 + q.2.1) := fun i hi q hq => by have := i4 q hq; omega
      rw [runsP_snoc]
      unfold stepV
      refine ⟨?_, fun q hq => s2.1 q hq, h0.2.1, fun q hq => ?_⟩
      · refine Rle.join (gapV_rle i1 hr (fun i hi hj => ?_)) h0.1 (fun i hi hj => ?_)
        · rw [ownV_app (off i hi)]
          refine ownV_off (fun q hq => ?_)
          rw [List.singleton_append, List.mem_cons] at hq
          rcases hq with rfl | hq
          · omega
          · have := s2.1 q hq; omega
        · rw [ownV_app (off i (by omega)), List.singleton_append, ownV_cons, if_pos ⟨hi, hj⟩]
      · rw [List.mem_append, List.mem_singleton] at hq
        rcases hq with hq | rfl
        · have := i4 q hq
          dsimp only; omega
        · exact Nat.le_refl _
theorem runsV_rle {n : Nat} {R : List Rn} (h : Okr n R) : Rle (ownV R) (runsV n R) n := by
  have := runsP_rle R.length R [] rfl (by simpa using h)
  rw [List.append_nil] at this
  obtain ⟨h1, _, h3, h4⟩ := this
  exact gapV_rle h1 h3 (fun i hi hj => ownV_off (fun r hr => by have := h4 r hr; omega))
theorem runsV_bd {n : Nat} {R : List Rn} (h : Okr n R) : (runsV n R).length ≤ 129 ∧ ∀ q ∈ runsV n R, q.2.1 ≤ 8256 := by
  have h64 := h.n64
  have := h.few
  obtain ⟨h1, h2, h3⟩ := runsP_bd R.length R rfl (fun r hr => by have := h.each r hr; omega)
  refine ⟨?_, fun q hq => ?_⟩
  · have := gapV_len (runsP R).1 (runsP R).2 n
    unfold runsV
    omega
  · have := gapV_big (a := (runsP R).2) h2 h64 q hq
    omega
/-- Rle, told by numbers. -/
theorem rle_all {f : Nat → Int} {L : List Rz} {hi : Nat} (h : Rle f L hi) : (∀ q ∈ L, 1 ≤ q.2.1 ∧ q.1 + q.2.1 ≤ hi ∧ ∀ i, q.1 ≤ i → i < q.1 + q.2.1 → f i = q.2.2) ∧ L.length ≤ hi := by
  induction h with
  | nil => simp
  | @snoc L lo N v g1 g2 g3 g4 ih =>
    refine ⟨fun q hq => ?_, by have := ih.2; simp; omega⟩
    rw [List.mem_append, List.mem_singleton] at hq
    rcases hq with hq | rfl
    · obtain ⟨a, b, c⟩ := ih.1 q hq
      exact ⟨a, by omega, c⟩
    · exact ⟨g2, Nat.le_refl _, g3⟩
/-- Where the k-th run begins. -/
def begs (L : List Rz) (k : Nat) : Nat := ((L.take k).map (fun q => q.2.1)).sum
theorem rle_begs {f : Nat → Int} {L : List Rz} {hi : Nat} (h : Rle f L hi) : begs L L.length = hi ∧ (∀ k (hk : k < L.length), L[k].1 = begs L k) ∧ ∀ k (hk : k + 1 < L.length), L[k + 1].2.2 ≠ L[k].2.2 := by
  induction h with
  | nil => exact ⟨rfl, by simp, by simp⟩
  | @snoc L lo N v g1 g2 g3 g4 ih =>
    obtain ⟨i1, i2, i3⟩ := ih
    have ht : ∀ k, k ≤ L.length → begs (L ++ [(lo, N, v)]) k = begs L k := fun k hk => by
      unfold begs
      rw [List.take_append_of_le_length hk]
    refine ⟨?_, fun k hk => ?_, fun k hk => ?_⟩
    · rw [← i1]
      unfold begs
      rw [List.take_length, List.take_length]
      simp
    · simp only [List.length_append, List.length_cons, List.length_nil] at hk
      rcases Nat.lt_or_ge k L.length with hc | hc
      · rw [List.getElem_append_left hc, ht k (by omega), i2 k hc]
      · obtain rfl : k = L.length := by omega
        rw [ht _ (Nat.le_refl _), i1]
        simp
    · simp only [List.length_append, List.length_cons, List.length_nil] at hk
      rcases Nat.lt_or_ge (k + 1) L.length with hc | hc
      · rw [List.getElem_append_left hc, List.getElem_append_left (by omega)]
        exact i3 k hc
      · have hLk : L.length = k + 1 := by omega
        rw [List.getElem_append_left (show k < L.length by omega)]
        have hl : L.getLast? = some L[k] := by
          rw [List.getLast?_eq_getElem?, List.getElem?_eq_some_iff]
          exact ⟨by omega, by congr 1; omega⟩
        have := g4 _ hl
        rw [List.getElem_append_right (by omega)]
        simpa using Ne.symm this
/-- What Give leaves. -/
theorem ownV_add {n : Nat} {R : List Rn} (hok : Okr n R) {f m who : Nat} (hm : 1 ≤ m) (hh : (meetV f m R).2 = false) (i : Nat) : ownV (addR R f m who) i = if f ≤ i ∧ i < f + m then (who : Int) else ownV R i := by
  obtain ⟨h1, h2⟩ := meet_parts f m R hok.sorted (fun r hr => (hok.each r hr).1) hh
  have hR : ownV R i = ownV (R.take (meetV f m R).1 ++ R.drop (meetV f m R).1) i := by rw [List.take_append_drop]
  rw [hR]
  unfold addR
  by_cases hi : f ≤ i
  · rw [ownV_app (fun r hr => by have := h1 r hr; omega), ownV_cons, ownV_app (fun r hr => by have := h1 r hr; omega)]
  · rw [if_neg (by omega), ownV_app0 (S := (f, m, who) :: _) (fun r hr => by
      rcases List.mem_cons.1 hr with rfl | hr
      · dsimp only; omega
      · have := h2 r hr; omega), ownV_app0 (fun r hr => by have := h2 r hr; omega)]
theorem meet_hit {n : Nat} {R : List Rn} (hok : Okr n R) {f m : Nat} (hm : 1 ≤ m) : (meetV f m R).2 = true ↔ ∃ i, f ≤ i ∧ i < f + m ∧ 0 ≤ ownV R i := by
  constructor
  · intro h
    have key : ∀ S : List Rn, (meetV f m S).2 = true → (∀ r ∈ S, 1 ≤ r.2.1) → ∃ i, f ≤ i ∧ i < f + m ∧ 0 ≤ ownV S i := by
      intro S
      induction S with
      | nil => intro h; simp [meetV] at h
      | cons r S ih =>
        intro h hn
        unfold meetV at h
        by_cases e : r.1 + r.2.1 ≤ f
        · rw [if_pos e] at h
          obtain ⟨i, a, b, c⟩ := ih h (fun s hs => hn s (by simp [hs]))
          exact ⟨i, a, b, by rw [ownV_cons, if_neg (by omega)]; exact c⟩
        · rw [if_neg e] at h
          simp only [decide_eq_true_eq] at h
          have := hn r (by simp)
          refine ⟨max f r.1, by omega, by omega, ?_⟩
          rw [ownV_cons, if_pos ⟨by omega, by omega⟩]
          omega
    exact key R h (fun r hr => (hok.each r hr).1)
  · rintro ⟨i, h1, h2, h3⟩
    cases hh : (meetV f m R).2
    · obtain ⟨a, b⟩ := meet_parts f m R hok.sorted (fun r hr => (hok.each r hr).1) hh
      have : ownV R i = -1 := ownV_off (fun r hr => by
        rw [← List.take_append_drop (meetV f m R).1 R, List.mem_append] at hr
        rcases hr with hr | hr
        · have := a r hr; omega
        · have := b r hr; omega)
      omega
    · rfl
theorem freeV_add (n : Nat) (R : List Rn) (f m who : Nat) : freeV n (addR R f m who) = freeV n R - m := by
  have : ((R.map (fun r => r.2.1)).sum : Nat) = ((R.take (meetV f m R).1 ++ R.drop (meetV f m R).1).map (fun r => r.2.1)).sum := by rw [List.take_append_drop]
  unfold freeV addR
  rw [this]
  simp only [List.map_append, List.map_cons, List.sum_append, List.sum_cons]
  omega
end Go.Proofs.Ythmbflofcceifaa
