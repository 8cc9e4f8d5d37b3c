/- The walks of the five laws of chapter 01. -/
import Derived.Test.YtjphehncpgekfaaLabel6
namespace Go.Proofs.Ytjphehncpgekfaa
open Go.RowKit
set_option maxHeartbeats 400000
set_option maxRecDepth 100000

theorem flB_iff (a b : Nat) (ha : a < 256) (hb : b < 256) : flB a b = true ↔ ∀ c, c < 8 → a.testBit c = true → b.testBit c = true := by
  rw [← flowsR_eq]
  have h1 : isB (a : Int) = true := (isB_iff _).2 (by omega)
  have h2 : isB (b : Int) = true := (isB_iff _).2 (by omega)
  simp [flowsR, h1, h2, flR]
theorem flB_refl (a : Nat) (ha : a < 256) : flB a a = true := (flB_iff a a ha ha).2 fun _ _ h => h
theorem flB_anti (a b : Nat) (ha : a < 256) (hb : b < 256) (h1 : flB a b = true) (h2 : flB b a = true) : a = b := by
  rw [flB_iff a b ha hb] at h1
  rw [flB_iff b a hb ha] at h2
  refine eq_of_bits8 a b ha hb fun c hc => ?_
  have g1 := h1 c hc
  have g2 := h2 c hc
  cases hx : a.testBit c <;> cases hy : b.testBit c <;> simp_all
theorem flB_trans (a b c : Nat) (ha : a < 256) (hb : b < 256) (hc : c < 256) (h1 : flB a b = true) (h2 : flB b c = true) : flB a c = true := by
  rw [flB_iff a b ha hb] at h1
  rw [flB_iff b c hb hc] at h2
  exact (flB_iff a c ha hc).2 fun i hi h => h2 i hi (h1 i hi h)

theorem order_walk (a b c : Nat) (ha : a < 256) (hb : b < 256) (hc : c < 256) (w : World) :
    Calls Try.prog 3 #[.int .u8 a, .int .u8 b, .int .u8 c] w fun e w' => e = .returned (.bool true) ∧ Below w.heap.size w w' := by
  have f0 := flB_refl a ha
  cases f1 : flB a b <;> cases f2 : flB b a <;> cases f3 : flB b c <;> cases f4 : flB a c
  all_goals
    first
      | (exfalso; refine absurd (flB_trans a b c ha hb hc f1 f3) ?_; rw [f4]; exact Bool.false_ne_true)
      | (have hneq : ((a : Int) != b) = false := by
           have := flB_anti a b ha hb f1 f2
           simp; omega
         go_enter Try.func3, Try.ntmps3
         go_wp2_with (first | (go_at_call 16; refine (flows_any _ _ _).mono ?_; rintro e w' ⟨rfl, rfl⟩) | (go_at_call 17; refine (awake_any _).mono ?_; rintro e w1 ⟨rfl, hb1⟩))
         go_ret
         exact ⟨rfl, hb1⟩)
      | (go_enter Try.func3, Try.ntmps3
         go_wp2_with (first | (go_at_call 16; refine (flows_any _ _ _).mono ?_; rintro e w' ⟨rfl, rfl⟩) | (go_at_call 17; refine (awake_any _).mono ?_; rintro e w1 ⟨rfl, hb1⟩))
         go_ret
         exact ⟨rfl, hb1⟩)

theorem parseGo_text (s : List UInt8) : ∀ (x l : Nat), x < 256 → parseGo x s = some l → l < 256 := by
  induction s with
  | nil => intro x l hx h; simp only [parseGo] at h; split at h <;> simp_all
  | cons b bs ih =>
    intro x l hx h
    rw [parseGo_cons] at h
    split at h
    · cases h
    · rename_i hc
      simp only [not_or, Nat.not_lt, Nat.not_le, ne_eq, Decidable.not_not] at hc
      refine ih _ l ?_ h
      rw [← or_pow x _ hc.2.2]
      exact Nat.or_lt_two_pow (n := 8) hx (Nat.pow_lt_pow_right (by decide) (by omega))
theorem testBit_lt_div (x c i : Nat) (h : x / 2 ^ c = 0) (hi : c ≤ i) : x.testBit i = false := by
  apply Nat.testBit_lt_two_pow
  rcases Nat.div_eq_zero_iff.1 h with h1 | h1
  · have := Nat.pow_pos (a := 2) (n := c) (by decide); omega
  · exact Nat.lt_of_lt_of_le h1 (Nat.pow_le_pow_right (by decide) hi)
/-- What the reader has read is the text of what it has. -/
theorem parseGo_back (s : List UInt8) : ∀ (x l : Nat), x < 256 → parseGo x s = some l → (lett l 8).map (fun n => UInt8.ofNat n.toNat) = (lett x 8).map (fun n => UInt8.ofNat n.toNat) ++ s := by
  induction s with
  | nil => intro x l _ h; simp only [parseGo] at h; split at h <;> simp_all
  | cons b bs ih =>
    intro x l hx h
    rw [parseGo_cons] at h
    split at h
    · cases h
    · rename_i hc
      simp only [not_or, Nat.not_lt, Nat.not_le, ne_eq, Decidable.not_not] at hc
      obtain ⟨h1, h2, h3⟩ := hc
      have hlt : x + 2 ^ (b.toNat - 97) < 256 := by
        rw [← or_pow x _ h3]
        exact Nat.or_lt_two_pow (n := 8) hx (Nat.pow_lt_pow_right (by decide) (by omega))
      rw [ih _ l hlt h, ← or_pow x _ h3]
      obtain ⟨c, hc⟩ : ∃ c, c = b.toNat - 97 := ⟨_, rfl⟩
      have hb : b = UInt8.ofNat (97 + c) := by
        rw [hc, show 97 + (b.toNat - 97) = b.toNat from by omega]; simp
      rw [← hc] at h3 ⊢
      have key : lett (x ||| 2 ^ c) 8 = lett x 8 ++ [97 + (c : Int)] := by
        simp only [lett]
        have e : (List.range 8).filter (fun i => (x ||| 2 ^ c).testBit i) = (List.range 8).filter (fun i => x.testBit i) ++ [c] := by
          have hsplit : List.range 8 = List.range c ++ c :: List.map (fun i => c + 1 + i) (List.range (8 - (c + 1))) := by
            rw [show (8 : Nat) = (c + 1) + (8 - (c + 1)) from by omega, List.range_add, List.range_succ]
            simp
          rw [hsplit]
          simp only [List.filter_append, List.filter_cons]
          have hcc : (x ||| 2 ^ c).testBit c = true := by simp [Nat.testBit_or, Nat.testBit_two_pow]
          have hxc : x.testBit c = false := testBit_lt_div x c c h3 (Nat.le_refl _)
          have hlo : (List.range c).filter (fun i => (x ||| 2 ^ c).testBit i) = (List.range c).filter (fun i => x.testBit i) := by
            apply List.filter_congr
            intro i hi
            have : c ≠ i := by simp at hi; omega
            simp [Nat.testBit_or, Nat.testBit_two_pow, this]
          have hhi : ∀ (y : Nat), y = x ∨ y = x ||| 2 ^ c → (List.map (fun i => c + 1 + i) (List.range (8 - (c + 1)))).filter (fun i => y.testBit i) = [] := by
            intro y hy
            rw [List.filter_eq_nil_iff]
            intro i hi
            simp only [List.mem_map, List.mem_range] at hi
            obtain ⟨j, _, rfl⟩ := hi
            have g := testBit_lt_div x c (c + 1 + j) h3 (by omega)
            rcases hy with rfl | rfl
            · simp [g]
            · have : c ≠ c + 1 + j := by omega
              simp [Nat.testBit_or, Nat.testBit_two_pow, g, this]
          rw [hlo, hhi _ (.inr rfl), hhi _ (.inl rfl), hcc, hxc]
          simp
        rw [e, List.map_append]
        rfl
      rw [key, hb]
      simp only [List.map_append, List.map_cons, List.map_nil, List.append_assoc, List.cons_append, List.nil_append]
      congr 3

theorem lett_nil : lett 0 8 = [] := by decide +kernel
theorem parseF_text (s : List UInt8) (l : Nat) (h : parseF s = some l) : l < 256 ∧ textL l = s := by
  unfold parseF at h
  split at h
  · rename_i h1
    simp only [Option.some.injEq] at h
    subst h
    exact ⟨by decide, by rw [h1]; rfl⟩
  · have h1 := parseGo_text s 0 l (by decide) h
    refine ⟨h1, ?_⟩
    have h2 := parseGo_back s 0 l (by decide) h
    rw [lett_nil] at h2
    have h0 : l ≠ 0 := by
      rintro rfl
      rw [lett_nil] at h2
      simp at h2
      subst h2
      simp [parseGo] at h
    rw [textL, if_neg h0]
    simpa using h2

theorem findL_some (s : List UInt8) (l : Nat) (hl : l < 256) (h : textL l = s) : ∀ (f k : Nat), k ≤ l → l < k + f → findL s f k = some l
  | 0, k, h1, h2 => by omega
  | f + 1, k, h1, h2 => by
    rw [findL]
    split
    · rename_i hk
      have e1 := parse_text ⟨l, hl⟩
      have e2 := parse_text ⟨k, by omega⟩
      simp only at e1 e2
      rw [h] at e1
      rw [hk, e1] at e2
      exact e2.symm
    · rename_i hk
      have : k ≠ l := by rintro rfl; exact hk h
      exact findL_some s l hl h f (k + 1) (by omega) (by omega)
theorem findL_none (s : List UInt8) (hn : ∀ l, l < 256 → textL l ≠ s) : ∀ (f k : Nat), k + f ≤ 256 → findL s f k = none
  | 0, _, _ => rfl
  | f + 1, k, h => by
    rw [findL, if_neg (hn k (by omega))]
    exact findL_none s hn f (k + 1) (by omega)
/-- The program's reader and the reference's answer the same. -/
theorem parse_eq (s : List UInt8) : parseF s = findP s := by
  cases h : parseF s with
  | some l =>
    obtain ⟨h1, h2⟩ := parseF_text s l h
    exact (findL_some s l h1 h2 256 0 (by omega) (by omega)).symm
  | none =>
    refine (findL_none s (fun l hl ht => ?_) 256 0 (by omega)).symm
    have := parse_text ⟨l, hl⟩
    simp only at this
    rw [ht, h] at this
    cases this

theorem texts_walk (l : Int) (s : ByteArray) (hs : s.size ≤ maxLen) (w : World) :
    Calls Try.prog 5 #[.int .i64 l, .string s] w fun e w' => e = .returned (.bool true) ∧ Below w.heap.size w w' := by
  have h1 : findV s.data.toList = parseV s.data.toList := by rw [findV, parseV, parse_eq]
  have h2 : findE s.data.toList = parseE s.data.toList := by rw [findE, parseE, parse_eq]
  have H1 := Lib.hid h1; have H2 := Lib.hid h2
  clear h1 h2
  go_enter Try.func5, Try.ntmps5
  go_wp2_with fail
  refine (text_any _ _).mono ?_; rintro e w1 ⟨rfl, hb1⟩
  go_wp2_with fail
  refine (Text_ref _ _).mono ?_; rintro e w2 ⟨rfl, hb2⟩
  go_wp2_with fail
  refine (parse_any _ hs _).mono ?_; rintro e w2' ⟨rfl, rfl⟩
  go_wp2_with fail
  refine (Parse_ref _ _).mono ?_; rw [H1.out, H2.out]; rintro e w3 ⟨rfl, hb3⟩
  go_wp2_with fail
  refine (awake_any _).mono ?_; rintro e w4 ⟨rfl, hb4⟩
  go_wp2_with fail
  go_ret
  exact ⟨rfl, (hb1.trans (hb2.mono hb1.size)).trans ((hb3.mono (Nat.le_trans hb1.size hb2.size)).trans (hb4.mono (Nat.le_trans hb1.size (Nat.le_trans hb2.size hb3.size))))⟩

theorem textS_parse (a : Nat) (ha : a < 256) : parseF (textS a).data.toList = some a := by
  rw [(textS_nat a ha).1]
  exact parse_text ⟨a, ha⟩
theorem textS_inj (a b : Nat) (ha : a < 256) (hb : b < 256) : ((textS a).toList == (textS b).toList) = ((a : Int) == (b : Int)) := by
  rw [ByteArray.toList_eq, ByteArray.toList_eq, Bool.eq_iff_iff]
  simp only [beq_iff_eq]
  constructor
  · intro h
    have h1 := textS_parse a ha
    have h2 := textS_parse b hb
    rw [h, h2] at h1
    simp only [Option.some.injEq] at h1
    omega
  · intro h
    have : a = b := by omega
    rw [this]

theorem textS_size (a : Nat) (ha : a < 256) : (textS a).size ≤ 8 := by
  rw [(textS_nat a ha).1]
  have : ∀ l : Fin 256, (textL l.val).length ≤ 8 := by decide +kernel
  exact this ⟨a, ha⟩

theorem back_walk (a b : Nat) (ha : a < 256) (hb : b < 256) (w : World) :
    Calls Try.prog 6 #[.int .u8 a, .int .u8 b] w fun e w' => e = .returned (.bool true) ∧ Below w.heap.size w w' := by
  have hv : parseV (textS a).data.toList = a := by rw [parseV, textS_parse a ha]; rfl
  have he : parseE (textS a).data.toList = 0 := by rw [parseE, textS_parse a ha]; rfl
  have hea : textE a = 0 := (textS_nat a ha).2
  have heb : textE b = 0 := (textS_nat b hb).2
  have HI := Lib.hid (textS_inj a b ha hb)
  have hsz := textS_size a ha
  have hs : (textS a).size ≤ maxLen := by unfold maxLen; omega
  have HV := Lib.hid hv; have HE := Lib.hid he; have HA := Lib.hid hea; have HB := Lib.hid heb
  clear hv he hea heb hsz
  cases hab : ((a : Int) == b)
  all_goals
    go_enter Try.func6, Try.ntmps6
    go_wp2_with fail
    refine (text_any _ _).mono ?_; rw [HA.out]; rintro e w1 ⟨rfl, hb1⟩
    go_wp2_with fail
    refine (text_any _ _).mono ?_; rw [HB.out]; rintro e w2 ⟨rfl, hb2⟩
    go_wp2_with fail
    refine (parse_any _ hs _).mono ?_; rw [HV.out, HE.out]; rintro e w2' ⟨rfl, rfl⟩
    have hI := HI.out
    rw [hab] at hI
    go_wp2_with fail
    refine (awake_any _).mono ?_; rintro e w4 ⟨rfl, hb4⟩
    go_wp2_with fail
    go_ret
    exact ⟨rfl, (hb1.trans (hb2.mono hb1.size)).trans (hb4.mono (Nat.le_trans hb1.size hb2.size))⟩

theorem flB_join (x y z : Nat) (hx : x < 256) (hy : y < 256) (hz : z < 256) : flB ((x ||| y : Nat) : Int) z = (flB x z && flB y z) := by
  have hj : x ||| y < 256 := Nat.or_lt_two_pow (n := 8) hx hy
  rw [Bool.eq_iff_iff, Bool.and_eq_true, flB_iff _ _ hj hz, flB_iff _ _ hx hz, flB_iff _ _ hy hz]
  simp only [Nat.testBit_or, Bool.or_eq_true]
  exact ⟨fun h => ⟨fun c hc g => h c hc (.inl g), fun c hc g => h c hc (.inr g)⟩, fun h c hc g => g.elim (h.1 c hc) (h.2 c hc)⟩
theorem flB_meet (x y z : Nat) (hx : x < 256) (hy : y < 256) (hz : z < 256) : flB z ((x &&& y : Nat) : Int) = (flB z x && flB z y) := by
  have hj : x &&& y < 256 := Nat.lt_of_le_of_lt Nat.and_le_left hx
  rw [Bool.eq_iff_iff, Bool.and_eq_true, flB_iff _ _ hz hj, flB_iff _ _ hz hx, flB_iff _ _ hz hy]
  simp only [Nat.testBit_and, Bool.and_eq_true]
  exact ⟨fun h => ⟨fun c hc g => (h c hc g).1, fun c hc g => (h c hc g).2⟩, fun h c hc g => ⟨h.1 c hc g, h.2 c hc g⟩⟩
theorem count_sum (x y : Nat) (hx : x < 256) (hy : y < 256) : countI ((x ||| y : Nat) : Int) + countI ((x &&& y : Nat) : Int) = countI x + countI y := by
  have hj : x ||| y < 256 := Nat.or_lt_two_pow (n := 8) hx hy
  have hm : x &&& y < 256 := Nat.lt_of_le_of_lt Nat.and_le_left hx
  have hc : ∀ l : Nat, l < 256 → countI (l : Int) = (cntR l 8 : Nat) := by
    intro l hl
    have h1 : isB (l : Int) = true := (isB_iff _).2 (by omega)
    have := cntR_countN ⟨l, hl⟩
    simp only [countI, h1, if_true, Int.toNat_natCast]
    simp only at this
    rw [this]
  rw [hc _ hj, hc _ hm, hc _ hx, hc _ hy]
  have key : ∀ k, cntR (x ||| y) k + cntR (x &&& y) k = cntR x k + cntR y k := by
    intro k
    induction k with
    | zero => simp [cntR]
    | succ k ih =>
      rw [cntR_succ, cntR_succ, cntR_succ, cntR_succ, Nat.testBit_or, Nat.testBit_and]
      cases x.testBit k <;> cases y.testBit k <;> simp <;> omega
  have := key 8
  omega
theorem join_minus (x y : Nat) : andN x y ||| (x &&& y) = x := by
  apply Nat.eq_of_testBit_eq
  intro i
  rw [Nat.testBit_or, andN_testBit, Nat.testBit_and]
  cases x.testBit i <;> cases y.testBit i <;> rfl

theorem countI_le (l : Int) (h : isB l = true) : 0 ≤ countI l ∧ countI l ≤ 256 := by
  have h1 := (isB_iff l).1 h
  have := countN_le l.toNat l.toNat
  simp only [countI, h, if_true]
  omega
theorem foldN_two_or (x y : Nat) (hx : x < 256) (hy : y < 256) : foldN (· ||| ·) 0 [(x : Int), (y : Int)] = ((x ||| y : Nat) : Int) := by
  have h1 : isB (x : Int) = true := (isB_iff _).2 (by omega)
  have h2 : isB (y : Int) = true := (isB_iff _).2 (by omega)
  simp [foldN, h1, h2]
theorem and255 (x : Nat) (hx : x < 256) : 255 &&& x = x := by
  rw [Nat.and_comm, show 255 = 2 ^ 8 - 1 from rfl, Nat.and_two_pow_sub_one_eq_mod, Nat.mod_eq_of_lt hx]
theorem foldN_two_and (x y : Nat) (hx : x < 256) (hy : y < 256) : foldN (· &&& ·) 255 [(x : Int), (y : Int)] = ((x &&& y : Nat) : Int) := by
  have h1 : isB (x : Int) = true := (isB_iff _).2 (by omega)
  have h2 : isB (y : Int) = true := (isB_iff _).2 (by omega)
  simp [foldN, h1, h2, and255 x hx]

theorem rowI_two (w : World) (x y : Int) (t : TypeId) (n : Nat) (hn : w.heap.size = n) : RowI (w.alloc (.cells #[.int .i64 x, .int .i64 y] t)) .i64 (.slice (some ⟨n, 0, none⟩) 2 2) [x, y] := by
  subst hn
  refine ⟨_, 2, rfl, by simp, by decide, fun _ => ⟨w.heap.size, 0, rfl, fun i hi => ?_⟩⟩
  have hi2 : i < 2 := hi
  have h := heap_alloc_new w (.cells #[.int .i64 x, .int .i64 y] t)
  match i, hi2 with
  | 0, _ => simp only [World.cell?]; rw [h]; rfl
  | 1, _ => simp only [World.cell?]; rw [h]; rfl

end Go.Proofs.Ytjphehncpgekfaa
