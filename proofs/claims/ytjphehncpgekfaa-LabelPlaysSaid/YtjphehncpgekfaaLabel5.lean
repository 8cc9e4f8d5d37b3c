/- The walks of Text, Parse, Under of the reference, of label.Under; ints; awake. -/
import Derived.Test.YtjphehncpgekfaaLabel4
namespace Go.Proofs.Ytjphehncpgekfaa
open Go.RowKit
set_option maxHeartbeats 400000
set_option maxRecDepth 100000

theorem Text_ref (l : Int) (w : World) :
    Calls Try.prog 23 #[.int .i64 l] w fun e w' => e = .returned (.tuple #[.string (textS l), .int .i64 (textE l)]) ∧ Below w.heap.size w w' := by
  by_cases hl : isB l = true
  · by_cases h0 : l = 0
    · subst h0
      go_enter Try.func23, Try.ntmps23
      go_wp2_with (go_at_call 58; refine (Is_any _ _).mono ?_; rintro e w' ⟨rfl, rfl⟩)
      go_ret2
      exact ⟨by simp [textS, textE, hl], Below.refl _ _⟩
    · obtain ⟨l1, l2⟩ := (isB_iff l).1 hl
      obtain ⟨m, rfl⟩ := Int.eq_ofNat_of_zero_le l1
      have hz : ((m : Int) == 0) = false := by simpa using h0
      have hm : m ≠ 0 := by omega
      obtain ⟨i0, hi, hz0, hz1, hz2⟩ := info_parts info_u8
      go_enter Try.func23, Try.ntmps23
      go_wp2_with (go_at_call 58; refine (Is_any _ _).mono ?_; rintro e w' ⟨rfl, rfl⟩)
      go_loopw [4, 5] (fun v i wr => ∃ k : Nat, k ≤ 8 ∧ i = .int .i64 k ∧ wr.ownsRow w.heap.size 5 1 v (lett m k).length ((lett m k).map (Value.int .u8)) ∧ Below w.heap.size w wr) (fun _ i _ => 8 - (intOf i).toNat)
      case atStart => exact ⟨0, by omega, rfl, (World.ownsRow_nil w _ _ _ : _), Below.refl _ _⟩
      case round =>
        obtain ⟨k, hk, rfl, hown, hb⟩ := hrel
        have hlen := lett_len m k
        by_cases hlt : k < 8
        · have HL := Lib.hid (lett_succ m k)
          by_cases hbit : m.testBit k = true
          · have HB := Lib.hid hbit
            go_wp2_with (first | (go_at_call 59; refine (has_any m k (by omega) (by omega) _).mono ?_; rintro e w' ⟨rfl, rfl⟩) | (at_builtin; refine wpList_append_own _ rfl _ _ 65 rfl w.heap.size 5 i0 (.int .u8 0) 1 1 Try.underlying65 hi hz0 hz1 hz2 rfl (by decide) _ _ _ rfl (hown.alloc _) ⟨wr.heap.size, 0, none⟩ 1 1 [.int .u8 (97 + (k : Int))] rfl rfl (cell_one_new _ _ _) ?c2 ?c3 ?c4 ?c5 ?_))
            case c2 => intro u hu; simp at hu; subst hu; rfl
            case c3 => unfold maxLen; omega
            case c4 => omega
            case c5 => have := hb.size; simp; omega
            intro v' w1 hown1 hgrow _
            have R1 : w1.ownsRow w.heap.size 5 1 v' (lett m (k + 1)).length ((lett m (k + 1)).map (Value.int .u8)) := by
              rw [HL.out, if_pos HB.out]
              simpa using hown1
            have hb1 : Below w.heap.size w w1 := (hb.alloc hb.size _).grown hgrow (by have := hb.size; simp; omega) (fun j hj => (hown.lt j hj).1)
            clear hown1 hgrow hown
            go_wp2
            go_roundw
            case rel => exact ⟨k + 1, by omega, by go_num, R1, hb1⟩
            case measure => simp [intOf]; omega
          · simp only [Bool.not_eq_true] at hbit
            go_wp2_with (go_at_call 59; refine (has_any m k (by omega) (by omega) _).mono ?_; rintro e w' ⟨rfl, rfl⟩)
            go_roundw
            case rel => exact ⟨k + 1, by omega, by go_num, (by rw [HL.out, hbit]; simpa using hown), hb⟩
            case measure => simp [intOf]; omega
        · obtain rfl : k = 8 := by omega
          have hcv := fun v (hv : wr.ownsRow w.heap.size 5 1 v (lett m 8).length ((lett m 8).map (Value.int .u8))) => run_own_string (P := Try.prog) wr 65 9 5 _ _ v _ Try.underlying65 Try.underlying5 Try.underlying9 hv
          have hcv2 := hcv _ hown
          clear hcv
          go_wp2
          go_ret2
          exact ⟨by simp [textS, textE, hl, hm], hb⟩
  · simp only [Bool.not_eq_true] at hl
    go_enter Try.func23, Try.ntmps23
    go_wp2_with (go_at_call 58; refine (Is_any _ _).mono ?_; rintro e w' ⟨rfl, rfl⟩)
    go_ret2
    exact ⟨by simp [textS, textE, hl], Below.refl _ _⟩

/-- The text of a label, as bytes. -/
def textL (l : Nat) : List UInt8 := if l = 0 then [45] else (lett l 8).map (fun n => UInt8.ofNat n.toNat)
theorem textS_nat (l : Nat) (h : l < 256) : textS l = ⟨(textL l).toArray⟩ ∧ textE l = 0 := by
  have : isB (l : Int) = true := (isB_iff _).2 (by omega)
  by_cases h0 : l = 0
  · subst h0; exact ⟨rfl, rfl⟩
  · simp [textS, textE, this, h0, textL, bstr]

def findL (s : List UInt8) : Nat → Nat → Option Nat
  | 0, _ => none
  | f + 1, l => if textL l = s then some l else findL s f (l + 1)
def findP (s : List UInt8) : Option Nat := findL s 256 0

def findV (s : List UInt8) : Int := ((findP s).getD 0 : Nat)
def findE (s : List UInt8) : Int := if (findP s).isSome then 0 else 6

theorem parse_text : ∀ l : Fin 256, parseF (textL l.val) = some l.val := by decide +kernel

theorem Parse_ref (s : ByteArray) (w : World) :
    Calls Try.prog 25 #[.string s] w fun e w' => e = .returned (.tuple #[.int .i64 (findV s.data.toList), .int .i64 (findE s.data.toList)]) ∧ Below w.heap.size w w' := by
  go_enter Try.func25, Try.ntmps25
  go_wp2
  go_loopw [4] (fun l wr => ∃ k : Nat, k ≤ 256 ∧ l = .int .i64 k ∧ findP s.data.toList = findL s.data.toList (256 - k) k ∧ Below w.heap.size w wr) (fun l _ => 256 - (intOf l).toNat)
  case atStart => exact ⟨0, by omega, rfl, rfl, Below.refl _ _⟩
  case round =>
    obtain ⟨k, hk, rfl, he, hb⟩ := hrel
    have HE := Lib.hid he; clear he
    by_cases hlt : k < 256
    · have HF : Hid (findP s.data.toList = if textL k = s.data.toList then some k else findL s.data.toList (256 - (k + 1)) (k + 1)) := by
        rw [Hid, HE.out, show 256 - k = (256 - (k + 1)) + 1 from by omega]; rfl
      by_cases ht : textL k = s.data.toList
      · have HN : Hid (findP s.data.toList = some k) := by rw [Hid, HF.out, if_pos ht]
        have hq : (textL k == s.toList) = true := by rw [ByteArray.toList_eq, ← ht]; simp
        have HT := Lib.hid (textS_nat k hlt)
        clear ht HF HE
        go_wp2_with (go_at_call 23; refine (Text_ref k _).mono ?_; rw [HT.out.1, HT.out.2]; rintro e w1 ⟨rfl, hb1⟩)
        go_ret2
        exact ⟨ret_two (by rw [findV, HN.out]; rfl) (by rw [findE, HN.out]; rfl), hb.trans (hb1.mono hb.size)⟩
      · have HN : Hid (findP s.data.toList = findL s.data.toList (256 - (k + 1)) (k + 1)) := by rw [Hid, HF.out, if_neg ht]
        have hq : (textL k == s.toList) = false := by rw [ByteArray.toList_eq]; simpa using ht
        have HT := Lib.hid (textS_nat k hlt)
        clear ht HF HE
        go_wp2_with (go_at_call 23; refine (Text_ref k _).mono ?_; rw [HT.out.1, HT.out.2]; rintro e w1 ⟨rfl, hb1⟩)
        go_roundw
        case rel => exact ⟨k + 1, by omega, by go_num, HN.out, hb.trans (hb1.mono hb.size)⟩
        case measure => simp [intOf]; omega
    · obtain rfl : k = 256 := by omega
      go_wp2
      go_ret2
      exact ⟨ret_two (by rw [findV, HE.out]; rfl) (by rw [findE, HE.out]; rfl), hb⟩

theorem ownsRow_form {w : World} {base : Nat} {e : TypeId} {size : Nat} {v : Value} {n : Nat} {xs : List Value} (h : w.ownsRow base e size v n xs) : ∃ a c, v = .slice a n c := by
  rcases h.2 with ⟨rfl, rfl⟩ | ⟨g, cap, cur, rfl, _⟩
  · exact ⟨none, 0, rfl⟩
  · exact ⟨_, cap, rfl⟩
theorem ownsRow_rowI {w : World} {base : Nat} {e : TypeId} {v : Value} {k : IntKind} {xs : List Int} (h : w.ownsRow base e 1 v xs.length (xs.map (Value.int k))) : RowI w k v xs := by
  have hc := fun g (hg : v.ownBlock = some g) => h.cells hg
  rcases h.2 with ⟨rfl, h0⟩ | ⟨g, cap, cur, rfl, hb, hg, hnc, hcm, hcs, htake⟩
  · have hx : xs = [] := List.eq_nil_of_length_eq_zero (by omega)
    subst hx
    exact ⟨none, 0, rfl, Nat.le_refl _, by decide, by simp⟩
  · refine ⟨_, cap, rfl, hnc, hcm, fun _ => ⟨g, 0, rfl, fun i hi => ?_⟩⟩
    have := hc g rfl i (.int k xs[i]) (by simp [hi])
    rw [← this]
    congr 1
    unfold Addr.add; split <;> simp_all

/-- The places below k whose label flows to top. -/
def undI (top : Int) (xs : List Int) (k : Nat) : List Int := List.map (fun (c : Nat) => (c : Int)) ((List.range k).filter (fun i => flB (xs.getD i 0) top))
theorem undI_succ (top : Int) (xs : List Int) (k : Nat) (hk : k < xs.length) : undI top xs (k + 1) = undI top xs k ++ (if flB xs[k] top then [(k : Int)] else []) := by
  simp only [undI, List.range_succ, List.filter_append, List.map_append]
  congr 1
  have : xs.getD k 0 = xs[k] := by simp [hk]
  cases h : flB xs[k] top <;> simp [List.filter, h, hk]
theorem undI_len (top : Int) (xs : List Int) (k : Nat) : (undI top xs k).length ≤ k := by
  simp only [undI, List.length_map]
  exact Nat.le_trans (List.length_filter_le _ _) (by simp)
theorem info_int : (Try.prog.info? 3).map (fun i => (i.zero, i.size, i.bytes)) = some (some (.int .i64 0), 1, 8) := by kernel_rfl

def UndPost (top : Int) (xs : List Int) (w : World) (e : Ending) (w' : World) : Prop := ∃ v, e = .returned v ∧ RowI w' .i64 v (undI top xs xs.length) ∧ Below w.heap.size w w'
theorem flowsR_eq (a b : Int) : flowsR a b = flB a b := by
  cases ha : isB a
  · simp [flowsR, flB, ha]
  · cases hb : isB b
    · simp [flowsR, flB, ha, hb]
    · have h1 := (isB_iff a).1 ha
      have h2 := (isB_iff b).1 hb
      simp only [flowsR, flB, ha, hb, Bool.true_and]
      have ha2 : a.toNat < 256 := by omega
      have hb2 : b.toNat < 256 := by omega
      generalize a.toNat = m at *
      generalize b.toNat = n at *
      rw [Bool.eq_iff_iff]
      simp only [flR, decide_eq_true_eq, beq_iff_eq]
      have hd : andN m n < 256 := Nat.xor_lt_two_pow (n := 8) (by omega) (Nat.lt_of_le_of_lt Nat.and_le_left (by omega))
      constructor
      · intro h
        refine eq_of_bits8 _ _ hd (by decide) fun c hc => ?_
        rw [andN_testBit, Nat.zero_testBit]
        cases hx : m.testBit c
        · rfl
        · rw [h c hc hx]; rfl
      · intro h c hc hx
        have := andN_testBit m n c
        rw [h, Nat.zero_testBit, hx] at this
        simpa using this.symm

theorem Under_ref (top : Int) (v : Value) (xs : List Int) (w : World) (hr : RowI w .i64 v xs) (hreach : xs.length * 8 ≤ 140737488351232) :
    Calls Try.prog 50 #[.int .i64 top, v] w (UndPost top xs w) := by
  have hlow := hr.low
  obtain ⟨a, cap, rfl, hc1, hc2, hcell⟩ := hr
  unfold maxLen at hc2
  obtain ⟨i0, hi, hz0, hz1, hz2⟩ := info_parts info_int
  have HH := Lib.hid hlow; clear hlow
  go_enter Try.func50, Try.ntmps50
  go_wp2
  go_loopw [5, 6] (fun v i wr => ∃ k : Nat, k ≤ xs.length ∧ i = .int .i64 k ∧ wr.ownsRow w.heap.size 3 1 v (undI top xs k).length ((undI top xs k).map (Value.int .i64)) ∧ Below w.heap.size w wr) (fun _ i _ => xs.length - (intOf i).toNat)
  case atStart => exact ⟨0, by omega, rfl, (World.ownsRow_nil w _ _ _ : _), Below.refl _ _⟩
  case round =>
    obtain ⟨k, hk, rfl, hown, hb⟩ := hrel
    have hlen := undI_len top xs k
    by_cases hlt : k < xs.length
    · obtain ⟨b, off, rfl, hc⟩ := hcell (by intro h; simp [h] at hlt)
      have hbl := HH.out (by intro h; simp [h] at hlt) b off cap rfl
      have hck := (hb.cell (p := ⟨b, off + k, none⟩) hbl).trans (hc k hlt)
      have HL := Lib.hid (undI_succ top xs k hlt)
      have HF := Lib.hid (flowsR_eq xs[k] top)
      clear hc
      generalize xs[k] = x at hck HL HF
      by_cases hbit : flB x top = true
      · have HB := Lib.hid hbit
        have hfr : flowsR x top = true := by rw [HF.out, hbit]
        clear hbit
        go_wp2_with (first | (go_at_call 43; refine (Flows_ref _ _ _).mono ?_; rintro e w' ⟨rfl, rfl⟩) | (at_builtin; refine wpList_append_own _ rfl _ _ 25 rfl w.heap.size 3 i0 (.int .i64 0) 1 8 Try.underlying25 hi hz0 hz1 hz2 rfl (by decide) _ _ _ rfl (hown.alloc _) ⟨wr.heap.size, 0, none⟩ 1 1 [.int .i64 (k : Int)] rfl rfl (cell_one_new _ _ _) ?c2 ?c3 ?c4 ?c5 ?_))
        case c2 => intro u hu; simp at hu; subst hu; rfl
        case c3 => unfold maxLen; omega
        case c4 => omega
        case c5 => have := hb.size; simp; omega
        intro v' w1 hown1 hgrow _
        have R1 : w1.ownsRow w.heap.size 3 1 v' (undI top xs (k + 1)).length ((undI top xs (k + 1)).map (Value.int .i64)) := by
          rw [HL.out, if_pos HB.out]
          simpa using hown1
        have hb1 : Below w.heap.size w w1 := (hb.alloc hb.size _).grown hgrow (by have := hb.size; simp; omega) (fun j hj => (hown.lt j hj).1)
        clear hown1 hgrow hown
        go_wp2
        go_roundw
        case rel => exact ⟨k + 1, by omega, by go_num, R1, hb1⟩
        case measure => simp [intOf]; omega
      · simp only [Bool.not_eq_true] at hbit
        have HB := Lib.hid hbit
        have hfr : flowsR x top = false := by rw [HF.out, hbit]
        clear hbit
        go_wp2_with (go_at_call 43; refine (Flows_ref _ _ _).mono ?_; rintro e w' ⟨rfl, rfl⟩)
        go_roundw
        case rel => exact ⟨k + 1, by omega, by go_num, (by rw [HL.out, HB.out]; simpa using hown), hb⟩
        case measure => simp [intOf]; omega
    · obtain rfl : k = xs.length := by omega
      go_wp2
      go_ret
      exact ⟨_, rfl, ownsRow_rowI hown, hb⟩
end Go.Proofs.Ytjphehncpgekfaa
