/- The walks of package label: each function by its contract. -/
import Derived.Test.YtjphehncpgekfaaBits
import Derived.Test.YtjphehncpgekfaaRows
namespace Go.Proofs.Ytjphehncpgekfaa
open Go.RowKit
set_option maxHeartbeats 400000

def isB (l : Int) : Bool := decide (0 ≤ l) && decide (l ≤ 255)
theorem isB_iff (l : Int) : isB l = true ↔ 0 ≤ l ∧ l ≤ 255 := by simp [isB]
theorem isB_iff' (l : Int) : isB l = false ↔ ¬ (0 ≤ l ∧ l ≤ 255) := by rw [← isB_iff]; simp
def flB (a b : Int) : Bool := isB a && isB b && (andN a.toNat b.toNat == 0)

theorem is_any (l : Int) (w : World) :
    Calls Try.prog 54 #[.int .i64 l] w fun e w' => e = .returned (.bool (isB l)) ∧ w = w' := by
  by_cases h : 0 ≤ l
  · have h1 : decide (0 ≤ l) = true := by simpa using h
    go_enter Try.func54, Try.ntmps54
    go_wp2
    go_ret
    simp [isB, h]
  · have h1 : decide (0 ≤ l) = false := by simpa using h
    go_enter Try.func54, Try.ntmps54
    go_wp2
    go_ret
    simp [isB]; omega

theorem flows_any (a b : Int) (w : World) :
    Calls Try.prog 16 #[.int .i64 a, .int .i64 b] w fun e w' => e = .returned (.bool (flB a b)) ∧ w = w' := by
  by_cases ha : isB a = true
  · by_cases hb : isB b = true
    · go_enter Try.func16, Try.ntmps16
      go_wp2_with (go_at_call 54; refine (is_any _ _).mono ?_; rintro e w' ⟨rfl, rfl⟩)
      go_ret
      obtain ⟨ha1, ha2⟩ := (isB_iff a).1 ha
      obtain ⟨hb1, hb2⟩ := (isB_iff b).1 hb
      obtain ⟨m, rfl⟩ := Int.eq_ofNat_of_zero_le ha1
      obtain ⟨n, rfl⟩ := Int.eq_ofNat_of_zero_le hb1
      rw [i64_andNot m n (by omega) (by omega)]
      refine ⟨ret_bool ?_, rfl⟩
      rw [Bool.eq_iff_iff]
      simp only [flB, ha, hb, Int.toNat_natCast, Bool.true_and, beq_iff_eq]
      omega
    · simp only [Bool.not_eq_true] at hb
      go_enter Try.func16, Try.ntmps16
      go_wp2_with (go_at_call 54; refine (is_any _ _).mono ?_; rintro e w' ⟨rfl, rfl⟩)
      go_ret
      simp [flB, ha, hb]
  · simp only [Bool.not_eq_true] at ha
    go_enter Try.func16, Try.ntmps16
    go_wp2_with (go_at_call 54; refine (is_any _ _).mono ?_; rintro e w' ⟨rfl, rfl⟩)
    go_ret
    simp [flB, ha]

def minusI (a b : Int) : Int := if isB a && isB b then ((andN a.toNat b.toNat : Nat) : Int) else -1

theorem minus_any (a b : Int) (w : World) :
    Calls Try.prog 34 #[.int .i64 a, .int .i64 b] w fun e w' => e = .returned (.int .i64 (minusI a b)) ∧ w = w' := by
  by_cases ha : isB a = true
  · by_cases hb : isB b = true
    · go_enter Try.func34, Try.ntmps34
      go_wp2_with (go_at_call 54; refine (is_any _ _).mono ?_; rintro e w' ⟨rfl, rfl⟩)
      go_ret
      obtain ⟨ha1, ha2⟩ := (isB_iff a).1 ha
      obtain ⟨hb1, hb2⟩ := (isB_iff b).1 hb
      obtain ⟨m, rfl⟩ := Int.eq_ofNat_of_zero_le ha1
      obtain ⟨n, rfl⟩ := Int.eq_ofNat_of_zero_le hb1
      rw [i64_andNot m n (by omega) (by omega)]
      simp [minusI, ha, hb]
    · simp only [Bool.not_eq_true] at hb
      go_enter Try.func34, Try.ntmps34
      go_wp2_with (go_at_call 54; refine (is_any _ _).mono ?_; rintro e w' ⟨rfl, rfl⟩)
      go_ret
      simp [minusI, ha, hb]
  · simp only [Bool.not_eq_true] at ha
    go_enter Try.func34, Try.ntmps34
    go_wp2_with (go_at_call 54; refine (is_any _ _).mono ?_; rintro e w' ⟨rfl, rfl⟩)
    go_ret
    simp [minusI, ha]

/-- The fold over a slice, as 'label.fold' goes. -/
def foldN (g : Nat → Nat → Nat) : Nat → List Int → Int
  | out, [] => out
  | out, x :: xs => if isB x then foldN g (g out x.toNat) xs else -1

theorem join1_any (a b : Nat) (ha : a < 256) (hb : b < 256) (w : World) :
    Calls Try.prog 63 #[.int .i64 a, .int .i64 b] w fun e w' => e = .returned (.int .i64 ((a ||| b : Nat) : Int)) ∧ w = w' := by
  go_enter Try.func63, Try.ntmps63
  go_wp2
  go_ret
  rw [i64_or a b (by omega) (by omega)]
  exact ⟨rfl, rfl⟩

theorem meet1_any (a b : Nat) (ha : a < 256) (hb : b < 256) (w : World) :
    Calls Try.prog 64 #[.int .i64 a, .int .i64 b] w fun e w' => e = .returned (.int .i64 ((a &&& b : Nat) : Int)) ∧ w = w' := by
  go_enter Try.func64, Try.ntmps64
  go_wp2
  go_ret
  rw [i64_and a b (by omega) (by omega)]
  exact ⟨rfl, rfl⟩

theorem foldN_drop (g : Nat → Nat → Nat) (acc : Nat) (xs : List Int) (k : Nat) (h : k < xs.length) : foldN g acc (xs.drop k) = if isB xs[k] then foldN g (g acc xs[k].toNat) (xs.drop (k + 1)) else -1 := by
  rw [List.drop_eq_getElem_cons h]; rfl

theorem fold_join (from_ : Nat) (hf : from_ < 256) (v : Value) (xs : List Int) (w : World) (hr : RowI w .i64 v xs) :
    Calls Try.prog 62 #[.int .i64 from_, v, .func (.func 63) #[] #[]] w fun e w' => e = .returned (.int .i64 (foldN (· ||| ·) from_ xs)) ∧ w = w' := by
  obtain ⟨a, cap, rfl, hc1, hc2, hcell⟩ := hr
  unfold maxLen at hc2
  go_enter Try.func62, Try.ntmps62
  go_wp2
  go_loop [7, 13] (fun o i => ∃ (k acc : Nat), k ≤ xs.length ∧ i = .int .i64 k ∧ acc < 256 ∧ o = .int .i64 acc ∧ foldN (· ||| ·) from_ xs = foldN (· ||| ·) acc (xs.drop k)) (fun _ i => xs.length - (intOf i).toNat)
  case atStart => exact ⟨0, from_, Nat.zero_le _, rfl, hf, rfl, by simp⟩
  case round =>
    obtain ⟨k, acc, hk, rfl, hacc, rfl, heq⟩ := hrel
    have HE := Lib.hid heq; clear heq
    by_cases hlt : k < xs.length
    · obtain ⟨b, off, rfl, hc⟩ := hcell (by intro h; simp [h] at hlt)
      have hck := hc k hlt
      have HD := Lib.hid (foldN_drop (· ||| ·) acc xs k hlt)
      clear hc
      by_cases hb : isB xs[k] = true
      · obtain ⟨x, hx⟩ : ∃ x : Nat, xs[k] = x := ⟨xs[k].toNat, by have := (isB_iff _).1 hb; omega⟩
        have hx2 : x ≤ 255 := by have := (isB_iff _).1 hb; omega
        have HX := Lib.hid hx
        rw [hx] at hck
        have HB := Lib.hid hb
        clear hx hb
        have hgt : decide ((x : Int) > 255) = false := by simp; omega
        go_wp2_with (go_at_call 63; refine (join1_any _ _ hacc (by omega) _).mono ?_; rintro e w' ⟨rfl, rfl⟩)
        go_round
        case rel => exact ⟨k + 1, _, by omega, by go_num, Nat.or_lt_two_pow (n := 8) hacc (by omega), rfl, by rw [HE.out, HD.out, if_pos HB.out, HX.out]; rfl⟩
        case measure => simp [intOf]; omega
      · have HB := Lib.hid hb
        have hb2 := (isB_iff' _).1 (by simpa using hb)
        clear hb
        generalize hx : xs[k] = x at hck hb2
        have HX := Lib.hid hx; clear hx
        by_cases hneg : x < 0
        · have h1 : decide (x < 0) = true := by simpa using hneg
          go_wp2
          go_ret
          exact ⟨ret_int (by rw [HE.out, HD.out, if_neg HB.out]), rfl⟩
        · have h1 : decide (x < 0) = false := by simpa using hneg
          have h2 : decide (255 < x) = true := by simp; omega
          go_wp2
          go_ret
          exact ⟨ret_int (by rw [HE.out, HD.out, if_neg HB.out]), rfl⟩
    · have hke : xs.drop k = [] := List.drop_eq_nil_of_le (by omega)
      have HK := Lib.hid hke; clear hke
      go_wp2
      go_ret
      exact ⟨ret_int (by rw [HE.out, HK.out]; rfl), rfl⟩
theorem fold_meet (from_ : Nat) (hf : from_ < 256) (v : Value) (xs : List Int) (w : World) (hr : RowI w .i64 v xs) :
    Calls Try.prog 62 #[.int .i64 from_, v, .func (.func 64) #[] #[]] w fun e w' => e = .returned (.int .i64 (foldN (· &&& ·) from_ xs)) ∧ w = w' := by
  obtain ⟨a, cap, rfl, hc1, hc2, hcell⟩ := hr
  unfold maxLen at hc2
  go_enter Try.func62, Try.ntmps62
  go_wp2
  go_loop [7, 13] (fun o i => ∃ (k acc : Nat), k ≤ xs.length ∧ i = .int .i64 k ∧ acc < 256 ∧ o = .int .i64 acc ∧ foldN (· &&& ·) from_ xs = foldN (· &&& ·) acc (xs.drop k)) (fun _ i => xs.length - (intOf i).toNat)
  case atStart => exact ⟨0, from_, Nat.zero_le _, rfl, hf, rfl, by simp⟩
  case round =>
    obtain ⟨k, acc, hk, rfl, hacc, rfl, heq⟩ := hrel
    have HE := Lib.hid heq; clear heq
    by_cases hlt : k < xs.length
    · obtain ⟨b, off, rfl, hc⟩ := hcell (by intro h; simp [h] at hlt)
      have hck := hc k hlt
      have HD := Lib.hid (foldN_drop (· &&& ·) acc xs k hlt)
      clear hc
      by_cases hb : isB xs[k] = true
      · obtain ⟨x, hx⟩ : ∃ x : Nat, xs[k] = x := ⟨xs[k].toNat, by have := (isB_iff _).1 hb; omega⟩
        have hx2 : x ≤ 255 := by have := (isB_iff _).1 hb; omega
        have HX := Lib.hid hx
        rw [hx] at hck
        have HB := Lib.hid hb
        clear hx hb
        have hgt : decide ((x : Int) > 255) = false := by simp; omega
        go_wp2_with (go_at_call 64; refine (meet1_any _ _ hacc (by omega) _).mono ?_; rintro e w' ⟨rfl, rfl⟩)
        go_round
        case rel => exact ⟨k + 1, _, by omega, by go_num, Nat.lt_of_le_of_lt Nat.and_le_left hacc, rfl, by rw [HE.out, HD.out, if_pos HB.out, HX.out]; rfl⟩
        case measure => simp [intOf]; omega
      · have HB := Lib.hid hb
        have hb2 := (isB_iff' _).1 (by simpa using hb)
        clear hb
        generalize hx : xs[k] = x at hck hb2
        have HX := Lib.hid hx; clear hx
        by_cases hneg : x < 0
        · have h1 : decide (x < 0) = true := by simpa using hneg
          go_wp2
          go_ret
          exact ⟨ret_int (by rw [HE.out, HD.out, if_neg HB.out]), rfl⟩
        · have h1 : decide (x < 0) = false := by simpa using hneg
          have h2 : decide (255 < x) = true := by simp; omega
          go_wp2
          go_ret
          exact ⟨ret_int (by rw [HE.out, HD.out, if_neg HB.out]), rfl⟩
    · have hke : xs.drop k = [] := List.drop_eq_nil_of_le (by omega)
      have HK := Lib.hid hke; clear hke
      go_wp2
      go_ret
      exact ⟨ret_int (by rw [HE.out, HK.out]; rfl), rfl⟩

theorem join_any (v : Value) (xs : List Int) (w : World) (hr : RowI w .i64 v xs) :
    Calls Try.prog 31 #[v] w fun e w' => e = .returned (.int .i64 (foldN (· ||| ·) 0 xs)) ∧ w = w' := by
  go_enter Try.func31, Try.ntmps31
  go_wp2_with (go_at_call 62; refine (fold_join 0 (by decide) _ _ _ hr).mono ?_; rintro e w' ⟨rfl, rfl⟩)
  go_ret
  exact ⟨rfl, rfl⟩
theorem meet_any (v : Value) (xs : List Int) (w : World) (hr : RowI w .i64 v xs) :
    Calls Try.prog 32 #[v] w fun e w' => e = .returned (.int .i64 (foldN (· &&& ·) 255 xs)) ∧ w = w' := by
  go_enter Try.func32, Try.ntmps32
  go_wp2_with (go_at_call 62; refine (fold_meet 255 (by decide) _ _ _ hr).mono ?_; rintro e w' ⟨rfl, rfl⟩)
  go_ret
  exact ⟨rfl, rfl⟩

def countN : Nat → Nat → Nat
  | 0, _ => 0
  | f + 1, l => if l = 0 then 0 else 1 + countN f (l &&& (l - 1))
def countI (l : Int) : Int := if isB l then countN l.toNat l.toNat else -1

theorem and_pred_lt (l : Nat) (h : l ≠ 0) : l &&& (l - 1) < l := Nat.lt_of_le_of_lt Nat.and_le_right (by omega)
theorem countN_le : ∀ (f l : Nat), countN f l ≤ f
  | 0, _ => Nat.le_refl _
  | f + 1, l => by
    simp only [countN]
    split
    · omega
    · have := countN_le f (l &&& (l - 1)); omega
theorem countN_fuel : ∀ (f g l : Nat), l ≤ f → l ≤ g → countN f l = countN g l
  | 0, 0, _, _, _ => rfl
  | 0, g + 1, l, h, _ => by obtain rfl : l = 0 := by omega
                            simp [countN]
  | f + 1, 0, l, _, h => by obtain rfl : l = 0 := by omega
                            simp [countN]
  | f + 1, g + 1, l, h1, h2 => by
    simp only [countN]
    split
    · rfl
    · rename_i h
      have := and_pred_lt l h
      rw [countN_fuel f g _ (by omega) (by omega)]

theorem count_any (l : Int) (w : World) :
    Calls Try.prog 33 #[.int .i64 l] w fun e w' => e = .returned (.int .i64 (countI l)) ∧ w = w' := by
  by_cases hl : isB l = true
  · obtain ⟨h1, h2⟩ := (isB_iff l).1 hl
    obtain ⟨m, rfl⟩ := Int.eq_ofNat_of_zero_le h1
    go_enter Try.func33, Try.ntmps33
    go_wp2_with (go_at_call 54; refine (is_any _ _).mono ?_; rintro e w' ⟨rfl, rfl⟩)
    go_loop [0, 3] (fun x n => ∃ (k l : Nat), x = .int .i64 l ∧ l ≤ m ∧ n = .int .i64 k ∧ k ≤ m - l ∧ countN m m = k + countN l l) (fun x _ => (intOf x).toNat)
    case atStart => exact ⟨0, m, rfl, Nat.le_refl _, rfl, by omega, by omega⟩
    case round =>
      obtain ⟨k, x, rfl, hx, rfl, hk, he⟩ := hrel
      have HE := Lib.hid he; clear he
      by_cases h0 : x = 0
      · subst h0
        go_wp2
        go_ret
        exact ⟨ret_int (by simp only [countI, hl]; simp [HE.out, countN]), rfl⟩
      · have hne : ((x : Int) != 0) = true := by simp; omega
        have hlt := and_pred_lt x h0
        have hb : bits BinOp.and IntKind.i64 (x : Int) ((x : Int) - 1) = ((x &&& (x - 1) : Nat) : Int) := by rw [show ((x : Int) - 1) = ((x - 1 : Nat) : Int) from by omega]; exact i64_and x (x - 1) (by omega) (by omega)
        have H1 : Hid (countN x x = 1 + countN (x &&& (x - 1)) (x &&& (x - 1))) := by
          cases x with
          | zero => omega
          | succ y => simp only [Hid, countN, if_neg h0]; rw [countN_fuel y ((y + 1) &&& (y + 1 - 1)) _ (by omega) (Nat.le_refl _)]
        go_wp2
        go_round
        case rel => exact ⟨k + 1, x &&& (x - 1), rfl, by omega, by go_num, by omega, by rw [HE.out, H1.out]; omega⟩
        case measure => simp [intOf]; omega
  · simp only [Bool.not_eq_true] at hl
    go_enter Try.func33, Try.ntmps33
    go_wp2_with (go_at_call 54; refine (is_any _ _).mono ?_; rintro e w' ⟨rfl, rfl⟩)
    go_ret
    simp [countI, hl]

def validB (l cats : Int) : Bool := decide (0 ≤ cats) && decide (cats ≤ 8) && decide (0 ≤ l) && decide (l < 2 ^ cats.toNat)

theorem valid_any (l cats : Int) (w : World) :
    Calls Try.prog 41 #[.int .i64 l, .int .i64 cats] w fun e w' => e = .returned (.bool (validB l cats)) ∧ w = w' := by
  by_cases h1 : cats < 0
  · go_enter Try.func41, Try.ntmps41
    go_wp2_with (go_at_call 54; refine (is_any _ _).mono ?_; rintro e w' ⟨rfl, rfl⟩)
    go_ret
    exact ⟨ret_bool (by simp [validB]; omega), rfl⟩
  · by_cases h2 : 8 < cats
    · go_enter Try.func41, Try.ntmps41
      go_wp2_with (go_at_call 54; refine (is_any _ _).mono ?_; rintro e w' ⟨rfl, rfl⟩)
      go_ret
      exact ⟨ret_bool (by simp [validB]; omega), rfl⟩
    · obtain ⟨c, rfl⟩ := Int.eq_ofNat_of_zero_le (show 0 ≤ cats by omega)
      have hp : (2 : Nat) ^ c ≤ 2 ^ 8 := Nat.pow_le_pow_right (by decide) (by omega)
      have hp2 : 0 < (2 : Nat) ^ c := Nat.pow_pos (by decide)
      by_cases hl : isB l = true
      · obtain ⟨l1, l2⟩ := (isB_iff l).1 hl
        obtain ⟨m, rfl⟩ := Int.eq_ofNat_of_zero_le l1
        have e : ((m : Int) < 2 ^ c) ↔ m < 2 ^ c := by rw [show (2 : Int) ^ c = ((2 ^ c : Nat) : Int) from by simp]; omega
        have e2 : ((m : Int) / 2 ^ c == 0) = decide (m < 2 ^ c) := by
          rw [show (m : Int) / 2 ^ c = ((m / 2 ^ c : Nat) : Int) from by simp, Bool.eq_iff_iff]
          simp only [beq_iff_eq, decide_eq_true_eq]
          rw [← Nat.div_eq_zero_iff_lt hp2]
          omega
        have E := Lib.hid e; have E2 := Lib.hid e2
        clear e e2 hp hp2
        go_enter Try.func41, Try.ntmps41
        go_wp2_with (go_at_call 54; refine (is_any _ _).mono ?_; rintro e w' ⟨rfl, rfl⟩)
        go_ret
        refine ⟨ret_bool (E2.out.trans ?_), rfl⟩
        rw [Bool.eq_iff_iff]
        simp only [validB, Int.toNat_natCast, Bool.and_eq_true, decide_eq_true_eq, E.out]
        omega
      · simp only [Bool.not_eq_true] at hl
        have hl2 := (isB_iff' l).1 hl
        have H2 := Lib.hid hl2
        have HP := Lib.hid hp
        clear hl2 hp hp2
        go_enter Try.func41, Try.ntmps41
        go_wp2_with (go_at_call 54; refine (is_any _ _).mono ?_; rintro e w' ⟨rfl, rfl⟩)
        go_ret
        refine ⟨ret_bool ?_, rfl⟩
        have h3 := H2.out
        have h4 := HP.out
        by_cases h5 : 0 ≤ l
        · have h6 : ¬ l < ((2 ^ c : Nat) : Int) := by simp only [Nat.reducePow] at h4; omega
          simp only [Int.natCast_pow, Int.cast_ofNat_Int] at h6
          simp [validB, h6]
        · simp [validB, h5]

/-- The letters of the categories below k. -/
def lett (l k : Nat) : List Int := List.map (fun (c : Nat) => 97 + (c : Int)) ((List.range k).filter (fun c => l.testBit c))
theorem lett_succ (l k : Nat) : lett l (k + 1) = lett l k ++ (if l.testBit k then [97 + (k : Int)] else []) := by
  simp only [lett, List.range_succ, List.filter_append, List.map_append]
  congr 1
  cases h : l.testBit k <;> simp [List.filter, h]
theorem lett_len (l k : Nat) : (lett l k).length ≤ k := by
  simp only [lett, List.length_map]
  exact Nat.le_trans (List.length_filter_le _ _) (by simp)

theorem info_u8 : (Try.prog.info? 5).map (fun i => (i.zero, i.size, i.bytes)) = some (some (.int .u8 0), 1, 1) := by kernel_rfl

/-- What 'letters' leaves. -/
def LetPost (l : Nat) (w : World) (e : Ending) (w' : World) : Prop := ∃ v, e = .returned v ∧ w'.ownsRow w.heap.size 5 1 v (lett l 8).length ((lett l 8).map (Value.int .u8)) ∧ Below w.heap.size w w'

set_option maxRecDepth 100000 in
theorem letters_any (l : Nat) (hl : l < 256) (w : World) :
    Calls Try.prog 57 #[.int .i64 l] w (LetPost l w) := by
  obtain ⟨i0, hi, hz0, hz1, hz2⟩ := info_parts info_u8
  go_enter Try.func57, Try.ntmps57
  go_wp2
  go_loopw [3, 5] (fun v i wr => ∃ k : Nat, k ≤ 8 ∧ i = .int .i64 k ∧ wr.ownsRow w.heap.size 5 1 v (lett l k).length ((lett l k).map (Value.int .u8)) ∧ Below w.heap.size w wr) (fun _ i _ => 8 - (intOf i).toNat)
  case atStart => exact ⟨0, by omega, rfl, (World.ownsRow_nil w _ _ _ : _), Below.refl _ _⟩
  case round =>
    obtain ⟨k, hk, rfl, hown, hb⟩ := hrel
    have hlen := lett_len l k
    by_cases hlt : k < 8
    · have HL := Lib.hid (lett_succ l k)
      have hbe := bit_eq l k (by omega)
      by_cases hbit : l.testBit k = true
      · rw [hbit] at hbe
        have HB := Lib.hid hbit; clear hbit
        go_wp2_with (at_builtin; refine wpList_append_own _ rfl _ _ 65 rfl w.heap.size 5 i0 (.int .u8 0) 1 1 Try.underlying65 hi hz0 hz1 hz2 rfl (by decide) _ _ _ rfl (hown.alloc _) ⟨wr.heap.size, 0, none⟩ 1 1 [.int .u8 (97 + (k : Int))] rfl rfl (cell_one_new _ _ _) ?c2 ?c3 ?c4 ?c5 ?_)
        case c2 => intro u hu; simp at hu; subst hu; rfl
        case c3 => unfold maxLen; omega
        case c4 => omega
        case c5 => have := hb.size; simp; omega
        intro v' w1 hown1 hgrow _
        have R1 : w1.ownsRow w.heap.size 5 1 v' (lett l (k + 1)).length ((lett l (k + 1)).map (Value.int .u8)) := by
          rw [HL.out, if_pos HB.out]
          simpa using hown1
        have hb1 : Below w.heap.size w w1 := (hb.alloc hb.size _).grown hgrow (by have := hb.size; simp; omega) (fun j hj => (hown.lt j hj).1)
        clear hown1 hgrow hown
        go_wp2
        go_roundw
        case rel => exact ⟨k + 1, by omega, by go_num, R1, hb1⟩
        case measure => simp [intOf]; omega
      · simp only [Bool.not_eq_true] at hbit
        rw [hbit] at hbe
        go_wp2
        go_roundw
        case rel => exact ⟨k + 1, by omega, by go_num, (by rw [HL.out, hbit]; simpa using hown), hb⟩
        case measure => simp [intOf]; omega
    · obtain rfl : k = 8 := by omega
      go_wp2
      go_ret
      exact ⟨_, rfl, hown, hb⟩

theorem foldl_push (ns : List Int) : ∀ (s : ByteArray), (ns.foldl (fun r n => r.push (UInt8.ofNat n.toNat)) s) = ⟨(s.data.toList ++ ns.map (fun n => UInt8.ofNat n.toNat)).toArray⟩ := by
  induction ns with
  | nil => intro s; simp
  | cons n ns ih => intro s; rw [List.foldl_cons, ih]; simp [ByteArray.push]

/-- The text of a list of bytes. -/
def bstr (l : List Int) : ByteArray := ⟨(l.map (fun n => UInt8.ofNat n.toNat)).toArray⟩

theorem run_own_string {P : Program} (w : World) (src dst e : TypeId) (base n : Nat) (v : Value) (xs : List Int)
    (hs : P.underlying src = some (.slice e)) (he : P.underlying e = some (.int .u8)) (hd : P.underlying dst = some .string)
    (hown : w.ownsRow base e 1 v n (xs.map (Value.int .u8))) :
    (convert src dst v).run P w = .ok (.string (bstr xs)) w := by
  have hn : n = xs.length := by have := hown.1; simp at this; omega
  have hcells := fun g (hg : v.ownBlock = some g) => hown.cells hg
  rcases hown.2 with ⟨rfl, h0⟩ | ⟨g, cap, cur, rfl, hb, hg, hnc, hcm, hcs, htake⟩
  · have hx : xs = [] := List.eq_nil_of_length_eq_zero (by omega)
    subst hx
    rw [run_convert_bytes_string w src dst e none 0 0 hs he hd]
    rfl
  · rw [run_convert_bytes_string w src dst e _ n cap hs he hd]
    rw [run_bytesToString w ⟨g, 0, none⟩ n cap xs ?_, foldl_push]
    · rfl
    · rw [hn]
      have := run_loadCells_list (P := P) w ⟨g, 0, none⟩ (xs.map (Value.int .u8)) (hcells g rfl)
      simpa using this

def textS (l : Int) : ByteArray := if isB l then (if l = 0 then ⟨#[45]⟩ else bstr (lett l.toNat 8)) else ⟨#[]⟩
def textE (l : Int) : Int := if isB l then 0 else 1
theorem text_any (l : Int) (w : World) :
    Calls Try.prog 22 #[.int .i64 l] w fun e w' => e = .returned (.tuple #[.string (textS l), .int .i64 (textE l)]) ∧ Below w.heap.size w w' := by
  by_cases hl : isB l = true
  · by_cases h0 : l = 0
    · subst h0
      go_enter Try.func22, Try.ntmps22
      go_wp2_with (go_at_call 54; refine (is_any _ _).mono ?_; rintro e w' ⟨rfl, rfl⟩)
      go_ret2
      exact ⟨by simp [textS, textE, hl], Below.refl _ _⟩
    · obtain ⟨l1, l2⟩ := (isB_iff l).1 hl
      obtain ⟨m, rfl⟩ := Int.eq_ofNat_of_zero_le l1
      have hz : ((m : Int) == 0) = false := by simpa using h0
      have hm : m ≠ 0 := by omega
      go_enter Try.func22, Try.ntmps22
      go_wp2_with (first | (go_at_call 54; refine (is_any _ _).mono ?_; rintro e w' ⟨rfl, rfl⟩) | (go_at_call 57; refine (letters_any m (by omega) _).mono ?_; rintro e w1 ⟨v, rfl, hown, hb⟩; have hcv := run_own_string (P := Try.prog) w1 65 9 5 _ _ v _ Try.underlying65 Try.underlying5 Try.underlying9 hown))
      go_ret2
      exact ⟨by simp [textS, textE, hl, hm], hb⟩
  · simp only [Bool.not_eq_true] at hl
    go_enter Try.func22, Try.ntmps22
    go_wp2_with (go_at_call 54; refine (is_any _ _).mono ?_; rintro e w' ⟨rfl, rfl⟩)
    go_ret2
    exact ⟨by simp [textS, textE, hl], Below.refl _ _⟩
end Go.Proofs.Ytjphehncpgekfaa
