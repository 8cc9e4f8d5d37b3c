/- Package label and its reference: texts. -/
import Derived.Test.YtoalpdjpljapbaaDoorCfLab
import Derived.Test.YtoalpdjpljapbaaDoorTx2
namespace Go.Proofs.YtoalpdjpljapbaaDoor
set_option linter.unusedVariables false
set_option linter.unusedSimpArgs false
set_option linter.unnecessarySimpa false
open Go.RowKit
set_option maxHeartbeats 400000
set_option maxRecDepth 100000

/-- The letters of the categories below k. -/
def lett (l k : Nat) : List Int := List.map (fun (c : Nat) => 97 + (c : Int)) ((List.range k).filter (fun c => l.testBit c))
theorem lett_succ (l k : Nat) : lett l (k + 1) = lett l k ++ (if l.testBit k then [97 + (k : Int)] else []) := by
  simp only [lett, List.range_succ, List.filter_append, List.map_append]
  congr 1
  cases h : l.testBit k <;> simp [List.filter, h]
theorem lett_len (l k : Nat) : (lett l k).length ≤ k := by
  simp only [lett, List.length_map]
  exact Nat.le_trans (List.length_filter_le _ _) (by simp)

theorem info_u8 : (Tryd.prog.info? 5).map (fun i => (i.zero, i.size, i.bytes)) = some (some (.int .u8 0), 1, 1) := by kernel_rfl

/-- What 'letters' leaves. -/
def LetPost (l : Nat) (w : World) (e : Ending) (w' : World) : Prop := ∃ v, e = .returned v ∧ w'.ownsRow w.heap.size 5 1 v (lett l 8).length ((lett l 8).map (Value.int .u8)) ∧ Below w.heap.size w w'

set_option maxRecDepth 100000 in
theorem letters_any (l : Nat) (hl : l < 256) (w : World) :
    Calls Tryd.prog 83 #[.int .i64 l] w (LetPost l w) := by
  obtain ⟨i0, hi, hz0, hz1, hz2⟩ := info_parts info_u8
  go_enter Tryd.func83, Tryd.ntmps83
  go_wp2
  go_loopw [3, 5] (fun v i wr => ∃ k : Nat, k ≤ 8 ∧ i = .int .i64 k ∧ wr.ownsRow w.heap.size 5 1 v (lett l k).length ((lett l k).map (Value.int .u8)) ∧ Below w.heap.size w wr) (fun _ i _ => 8 - (intOf i).toNat)
  case atStart => exact ⟨0, by omega, rfl, (World.ownsRow_nil w _ _ _ : _), Below.refl _ _⟩
  case round =>
    obtain ⟨k, hk, rfl, hown, hb⟩ := hrel
    have hlen := lett_len l k
    by_cases hlt : k < 8
    · have HL := Lib.hid (lett_succ l k)
      have hbe := bit_eq l k (by omega)
      by_cases hbit : l.testBit k = true
      · rw [hbit] at hbe
        have HB := Lib.hid hbit; clear hbit
        go_wp2_with (at_builtin; refine wpList_append_own _ rfl _ _ 67 rfl w.heap.size 5 i0 (.int .u8 0) 1 1 Tryd.underlying67 hi hz0 hz1 hz2 rfl (by decide) _ _ _ rfl (hown.alloc _) ⟨wr.heap.size, 0, none⟩ 1 1 [.int .u8 (97 + (k : Int))] rfl rfl (cell_one_new _ _ _) ?c2 ?c3 ?c4 ?c5 ?_)
        case c2 => intro u hu; simp at hu; subst hu; rfl
        case c3 => unfold maxLen; omega
        case c4 => omega
        case c5 => have := hb.size; simp; omega
        intro v' w1 hown1 hgrow _
        have R1 : w1.ownsRow w.heap.size 5 1 v' (lett l (k + 1)).length ((lett l (k + 1)).map (Value.int .u8)) := by
          rw [HL.out, if_pos HB.out]
          simpa using hown1
        have hb1 : Below w.heap.size w w1 := (hb.alloc hb.size _).grown hgrow (by have := hb.size; simp; omega) (fun j hj => (hown.lt j hj).1)
        clear hown1 hgrow hown
        go_wp2
        go_roundw
        case rel => exact ⟨k + 1, by omega, by go_num, R1, hb1⟩
        case measure => simp [intOf]; omega
      · simp only [Bool.not_eq_true] at hbit
        rw [hbit] at hbe
        go_wp2
        go_roundw
        case rel => exact ⟨k + 1, by omega, by go_num, (by rw [HL.out, hbit]; simpa using hown), hb⟩
        case measure => simp [intOf]; omega
    · obtain rfl : k = 8 := by omega
      go_wp2
      go_ret
      exact ⟨_, rfl, hown, hb⟩

theorem foldl_push (ns : List Int) : ∀ (s : ByteArray), (ns.foldl (fun r n => r.push (UInt8.ofNat n.toNat)) s) = ⟨(s.data.toList ++ ns.map (fun n => UInt8.ofNat n.toNat)).toArray⟩ := by
  induction ns with
  | nil => intro s; simp
  | cons n ns ih => intro s; rw [List.foldl_cons, ih]; simp [ByteArray.push]

/-- The text of a list of bytes. -/
def bstr (l : List Int) : ByteArray := ⟨(l.map (fun n => UInt8.ofNat n.toNat)).toArray⟩

theorem run_own_string {P : Program} (w : World) (src dst e : TypeId) (base n : Nat) (v : Value) (xs : List Int)
    (hs : P.underlying src = some (.slice e)) (he : P.underlying e = some (.int .u8)) (hd : P.underlying dst = some .string)
    (hown : w.ownsRow base e 1 v n (xs.map (Value.int .u8))) :
    (convert src dst v).run P w = .ok (.string (bstr xs)) w := by
  have hn : n = xs.length := by have := hown.1; simp at this; omega
  have hcells := fun g (hg : v.ownBlock = some g) => hown.cells hg
  rcases hown.2 with ⟨rfl, h0⟩ | ⟨g, cap, cur, rfl, hb, hg, hnc, hcm, hcs, htake⟩
  · have hx : xs = [] := List.eq_nil_of_length_eq_zero (by omega)
    subst hx
    rw [run_convert_bytes_string w src dst e none 0 0 hs he hd]
    rfl
  · rw [run_convert_bytes_string w src dst e _ n cap hs he hd]
    rw [run_bytesToString w ⟨g, 0, none⟩ n cap xs ?_, foldl_push]
    · rfl
    · rw [hn]
      have := run_loadCells_list (P := P) w ⟨g, 0, none⟩ (xs.map (Value.int .u8)) (hcells g rfl)
      simpa using this

def lbS (l : Int) : ByteArray := if isB l then (if l = 0 then ⟨#[45]⟩ else bstr (lett l.toNat 8)) else ⟨#[]⟩
def lbE (l : Int) : Int := if isB l then 0 else 1
theorem ltext_any (l : Int) (w : World) :
    Calls Tryd.prog 55 #[.int .i64 l] w fun e w' => e = .returned (.tuple #[.string (lbS l), .int .i64 (lbE l)]) ∧ Below w.heap.size w w' := by
  by_cases hl : isB l = true
  · by_cases h0 : l = 0
    · subst h0
      go_enter Tryd.func55, Tryd.ntmps55
      go_wp2_with (go_at_call 82; refine (is_any _ _).mono ?_; rintro e w' ⟨rfl, rfl⟩)
      go_ret2
      exact ⟨by simp [lbS, lbE, hl], Below.refl _ _⟩
    · obtain ⟨l1, l2⟩ := (isB_iff l).1 hl
      obtain ⟨m, rfl⟩ := Int.eq_ofNat_of_zero_le l1
      have hz : ((m : Int) == 0) = false := by simpa using h0
      have hm : m ≠ 0 := by omega
      go_enter Tryd.func55, Tryd.ntmps55
      go_wp2_with (first | (go_at_call 82; refine (is_any _ _).mono ?_; rintro e w' ⟨rfl, rfl⟩) | (go_at_call 83; refine (letters_any m (by omega) _).mono ?_; rintro e w1 ⟨v, rfl, hown, hb⟩; have hcv := run_own_string (P := Tryd.prog) w1 67 9 5 _ _ v _ Tryd.underlying67 Tryd.underlying5 Tryd.underlying9 hown))
      go_ret2
      exact ⟨by simp [lbS, lbE, hl, hm], hb⟩
  · simp only [Bool.not_eq_true] at hl
    go_enter Tryd.func55, Tryd.ntmps55
    go_wp2_with (go_at_call 82; refine (is_any _ _).mono ?_; rintro e w' ⟨rfl, rfl⟩)
    go_ret2
    exact ⟨by simp [lbS, lbE, hl], Below.refl _ _⟩
def parseGo : Nat → List UInt8 → Option Nat
  | l, [] => if l = 0 then none else some l
  | l, b :: bs => if b.toNat < 97 ∨ 105 ≤ b.toNat ∨ l / 2 ^ (b.toNat - 97) ≠ 0 then none else parseGo (l + 2 ^ (b.toNat - 97)) bs
def lbF (s : List UInt8) : Option Nat := if s = [45] then some 0 else parseGo 0 s
def lbPV (s : List UInt8) : Int := ((lbF s).getD 0 : Nat)
def lbPE (s : List UInt8) : Int := if (lbF s).isSome then 0 else 6

theorem or_pow (l c : Nat) (h : l / 2 ^ c = 0) : l ||| 2 ^ c = l + 2 ^ c := by
  have hl : l < 2 ^ c := by
    rcases Nat.div_eq_zero_iff.1 h with h1 | h1
    · have := Nat.pow_pos (a := 2) (n := c) (by decide); omega
    · exact h1
  have h2 := Nat.two_pow_add_eq_or_of_lt hl 1
  rw [Nat.mul_one] at h2
  rw [Nat.or_comm, Nat.add_comm]
  exact h2.symm

theorem parseGo_cons (x : Nat) (b : UInt8) (bs : List UInt8) : parseGo x (b :: bs) = if b.toNat < 97 ∨ 105 ≤ b.toNat ∨ x / 2 ^ (b.toNat - 97) ≠ 0 then none else parseGo (x + 2 ^ (b.toNat - 97)) bs := rfl

theorem lparse_any (s : ByteArray) (hs : s.size ≤ maxLen) (w : World) :
    Calls Tryd.prog 71 #[.string s] w fun e w' => e = .returned (.tuple #[.int .i64 (lbPV s.data.toList), .int .i64 (lbPE s.data.toList)]) ∧ w = w' := by
  unfold maxLen at hs
  by_cases h0 : (s.toList == [45]) = true
  · have e0 : s.data.toList = [45] := by rw [ByteArray.toList_eq] at h0; simpa using h0
    have E0 := Lib.hid e0; clear e0
    go_enter Tryd.func71, Tryd.ntmps71
    go_wp2
    go_ret2
    exact ⟨ret_two (by rw [lbPV, E0.out]; rfl) (by rw [lbPE, E0.out]; rfl), rfl⟩
  · simp only [Bool.not_eq_true] at h0
    have e0 : ¬ s.data.toList = [45] := by rw [ByteArray.toList_eq] at h0; simpa using h0
    have E0 := Lib.hid e0; clear e0
    go_enter Tryd.func71, Tryd.ntmps71
    go_wp2
    go_loop [4, 11] (fun l i => ∃ k x : Nat, k ≤ s.size ∧ i = .int .i64 k ∧ l = .int .i64 x ∧ x < 256 ∧ lbF s.data.toList = parseGo x (s.data.toList.drop k)) (fun _ i => s.size - (intOf i).toNat)
    case atStart => exact ⟨0, 0, by omega, rfl, rfl, by omega, by rw [lbF, if_neg E0.out]; rfl⟩
    case round =>
      obtain ⟨k, x, hk, rfl, rfl, hx, he⟩ := hrel
      have HE := Lib.hid he; clear he
      by_cases hlt : k < s.size
      · have hb : s[k].toNat < 256 := s[k].toNat_lt
        have HD : Hid (lbF s.data.toList = if s[k].toNat < 97 ∨ 105 ≤ s[k].toNat ∨ x / 2 ^ (s[k].toNat - 97) ≠ 0 then none else parseGo (x + 2 ^ (s[k].toNat - 97)) (s.data.toList.drop (k + 1))) := by
          have : s.data.toList.drop k = s[k] :: s.data.toList.drop (k + 1) := List.drop_eq_getElem_cons (by simpa using hlt)
          rw [Hid, HE.out, this, parseGo_cons]
        by_cases h1 : s[k].toNat < 97
        · have HN : Hid (lbF s.data.toList = none) := by rw [Hid, HD.out, if_pos (.inl h1)]
          go_wp2
          go_ret2
          exact ⟨ret_two (by rw [lbPV, HN.out]; rfl) (by rw [lbPE, HN.out]; rfl), rfl⟩
        · by_cases h2 : 105 ≤ s[k].toNat
          · have HN : Hid (lbF s.data.toList = none) := by rw [Hid, HD.out, if_pos (.inr (.inl h2))]
            go_wp2
            go_ret2
            exact ⟨ret_two (by rw [lbPV, HN.out]; rfl) (by rw [lbPE, HN.out]; rfl), rfl⟩
          · by_cases h3 : x / 2 ^ (s[k].toNat - 97) = 0
            · have HN : Hid (lbF s.data.toList = parseGo (x + 2 ^ (s[k].toNat - 97)) (s.data.toList.drop (k + 1))) := by rw [Hid, HD.out, if_neg (by omega)]
              have hp : 2 ^ (s[k].toNat - 97) ≤ 2 ^ 7 := Nat.pow_le_pow_right (by decide) (by omega)
              have ho := or_pow x _ h3
              have hl : x ||| 2 ^ (s[k].toNat - 97) < 2 ^ 8 := Nat.or_lt_two_pow hx (Nat.pow_lt_pow_right (by decide) (by omega))
              have H1 : Hid (bits BinOp.or IntKind.i64 (x : Int) (wrap64 (2 ^ (s[k].toNat - 97))) = ((x + 2 ^ (s[k].toNat - 97) : Nat) : Int)) := by
                have e : wrap64 (2 ^ (s[k].toNat - 97)) = ((2 ^ (s[k].toNat - 97) : Nat) : Int) := by
                  rw [IntWalk.wrap64_in]
                  · simp
                  · have e2 : (2 : Int) ^ (s[k].toNat - 97) = ((2 ^ (s[k].toNat - 97) : Nat) : Int) := by simp
                    rw [e2]; omega
                rw [Hid, e, i64_or _ _ (by omega) (by omega), ho]
              have hv : x + 2 ^ (s[k].toNat - 97) < 256 := by omega
              have HV := Lib.hid hv
              have hz : ((x : Int) / 2 ^ (s[k].toNat - 97) != 0) = false := by
                rw [show (x : Int) / 2 ^ (s[k].toNat - 97) = ((x / 2 ^ (s[k].toNat - 97) : Nat) : Int) from by simp, h3]; rfl
              clear h3 hp ho hl hv HD
              go_wp2
              go_round
              case rel => exact ⟨k + 1, _, by omega, by go_num, by rw [H1.out], HV.out, HN.out⟩
              case measure => simp [intOf]; omega
            · have HN : Hid (lbF s.data.toList = none) := by rw [Hid, HD.out, if_pos (.inr (.inr h3))]
              have hz : ((x : Int) / 2 ^ (s[k].toNat - 97) != 0) = true := by
                rw [show (x : Int) / 2 ^ (s[k].toNat - 97) = ((x / 2 ^ (s[k].toNat - 97) : Nat) : Int) from by simp]
                simp only [bne_iff_ne, ne_eq]; omega
              clear h3 HD
              go_wp2
              go_ret2
              exact ⟨ret_two (by rw [lbPV, HN.out]; rfl) (by rw [lbPE, HN.out]; rfl), rfl⟩
      · have HN : Hid (lbF s.data.toList = if x = 0 then none else some x) := by
          rw [Hid, HE.out, List.drop_eq_nil_of_le (by simp; omega)]; rfl
        by_cases hx0 : x = 0
        · have hz : ((x : Int) == 0) = true := by simp; omega
          have HN2 : Hid (lbF s.data.toList = none) := by rw [Hid, HN.out, if_pos hx0]
          clear hx0 HN
          go_wp2
          go_ret2
          exact ⟨ret_two (by rw [lbPV, HN2.out]; rfl) (by rw [lbPE, HN2.out]; rfl), rfl⟩
        · have hz : ((x : Int) == 0) = false := by simp; omega
          have HN2 : Hid (lbF s.data.toList = some x) := by rw [Hid, HN.out, if_neg hx0]
          clear hx0 HN
          go_wp2
          go_ret2
          exact ⟨ret_two (by rw [lbPV, HN2.out]; rfl) (by rw [lbPE, HN2.out]; rfl), rfl⟩

/-- The text of a label, as bytes. -/
def lbL (l : Nat) : List UInt8 := if l = 0 then [45] else (lett l 8).map (fun n => UInt8.ofNat n.toNat)
theorem lbS_nat (l : Nat) (h : l < 256) : lbS l = ⟨(lbL l).toArray⟩ ∧ lbE l = 0 := by
  have : isB (l : Int) = true := (isB_iff _).2 (by omega)
  by_cases h0 : l = 0
  · subst h0; exact ⟨rfl, rfl⟩
  · simp [lbS, lbE, this, h0, lbL, bstr]

/-- Those of the first k bits that are in a alone. -/
def low (a k : Nat) : Nat := a % 2 ^ k
theorem low_succ (a k : Nat) : low a (k + 1) = low a k + if a.testBit k then 2 ^ k else 0 := by
  simp only [low, Nat.mod_pow_succ]
  have := testBit_div a k
  cases h : a.testBit k
  · rw [h] at this; simp at this; rw [this]; simp
  · rw [h] at this; simp at this; rw [this]; simp
theorem LText_ref (l : Int) (w : World) :
    Calls Tryd.prog 107 #[.int .i64 l] w fun e w' => e = .returned (.tuple #[.string (lbS l), .int .i64 (lbE l)]) ∧ Below w.heap.size w w' := by
  by_cases hl : isB l = true
  · by_cases h0 : l = 0
    · subst h0
      go_enter Tryd.func107, Tryd.ntmps107
      go_wp2_with (go_at_call 94; refine (Is_any _ _).mono ?_; rintro e w' ⟨rfl, rfl⟩)
      go_ret2
      exact ⟨by simp [lbS, lbE, hl], Below.refl _ _⟩
    · obtain ⟨l1, l2⟩ := (isB_iff l).1 hl
      obtain ⟨m, rfl⟩ := Int.eq_ofNat_of_zero_le l1
      have hz : ((m : Int) == 0) = false := by simpa using h0
      have hm : m ≠ 0 := by omega
      obtain ⟨i0, hi, hz0, hz1, hz2⟩ := info_parts info_u8
      go_enter Tryd.func107, Tryd.ntmps107
      go_wp2_with (go_at_call 94; refine (Is_any _ _).mono ?_; rintro e w' ⟨rfl, rfl⟩)
      go_loopw [4, 5] (fun v i wr => ∃ k : Nat, k ≤ 8 ∧ i = .int .i64 k ∧ wr.ownsRow w.heap.size 5 1 v (lett m k).length ((lett m k).map (Value.int .u8)) ∧ Below w.heap.size w wr) (fun _ i _ => 8 - (intOf i).toNat)
      case atStart => exact ⟨0, by omega, rfl, (World.ownsRow_nil w _ _ _ : _), Below.refl _ _⟩
      case round =>
        obtain ⟨k, hk, rfl, hown, hb⟩ := hrel
        have hlen := lett_len m k
        by_cases hlt : k < 8
        · have HL := Lib.hid (lett_succ m k)
          by_cases hbit : m.testBit k = true
          · have HB := Lib.hid hbit
            go_wp2_with (first | (go_at_call 95; refine (has_any m k (by omega) (by omega) _).mono ?_; rintro e w' ⟨rfl, rfl⟩) | (at_builtin; refine wpList_append_own _ rfl _ _ 67 rfl w.heap.size 5 i0 (.int .u8 0) 1 1 Tryd.underlying67 hi hz0 hz1 hz2 rfl (by decide) _ _ _ rfl (hown.alloc _) ⟨wr.heap.size, 0, none⟩ 1 1 [.int .u8 (97 + (k : Int))] rfl rfl (cell_one_new _ _ _) ?c2 ?c3 ?c4 ?c5 ?_))
            case c2 => intro u hu; simp at hu; subst hu; rfl
            case c3 => unfold maxLen; omega
            case c4 => omega
            case c5 => have := hb.size; simp; omega
            intro v' w1 hown1 hgrow _
            have R1 : w1.ownsRow w.heap.size 5 1 v' (lett m (k + 1)).length ((lett m (k + 1)).map (Value.int .u8)) := by
              rw [HL.out, if_pos HB.out]
              simpa using hown1
            have hb1 : Below w.heap.size w w1 := (hb.alloc hb.size _).grown hgrow (by have := hb.size; simp; omega) (fun j hj => (hown.lt j hj).1)
            clear hown1 hgrow hown
            go_wp2
            go_roundw
            case rel => exact ⟨k + 1, by omega, by go_num, R1, hb1⟩
            case measure => simp [intOf]; omega
          · simp only [Bool.not_eq_true] at hbit
            go_wp2_with (go_at_call 95; refine (has_any m k (by omega) (by omega) _).mono ?_; rintro e w' ⟨rfl, rfl⟩)
            go_roundw
            case rel => exact ⟨k + 1, by omega, by go_num, (by rw [HL.out, hbit]; simpa using hown), hb⟩
            case measure => simp [intOf]; omega
        · obtain rfl : k = 8 := by omega
          have hcv := fun v (hv : wr.ownsRow w.heap.size 5 1 v (lett m 8).length ((lett m 8).map (Value.int .u8))) => run_own_string (P := Tryd.prog) wr 67 9 5 _ _ v _ Tryd.underlying67 Tryd.underlying5 Tryd.underlying9 hv
          have hcv2 := hcv _ hown
          clear hcv
          go_wp2
          go_ret2
          exact ⟨by simp [lbS, lbE, hl, hm], hb⟩
  · simp only [Bool.not_eq_true] at hl
    go_enter Tryd.func107, Tryd.ntmps107
    go_wp2_with (go_at_call 94; refine (Is_any _ _).mono ?_; rintro e w' ⟨rfl, rfl⟩)
    go_ret2
    exact ⟨by simp [lbS, lbE, hl], Below.refl _ _⟩

def findL (s : List UInt8) : Nat → Nat → Option Nat
  | 0, _ => none
  | f + 1, l => if lbL l = s then some l else findL s f (l + 1)
def findP (s : List UInt8) : Option Nat := findL s 256 0

def findV (s : List UInt8) : Int := ((findP s).getD 0 : Nat)
def findE (s : List UInt8) : Int := if (findP s).isSome then 0 else 6

theorem lparse_text : ∀ l : Fin 256, lbF (lbL l.val) = some l.val := by decide +kernel

theorem LParse_ref (s : ByteArray) (w : World) :
    Calls Tryd.prog 92 #[.string s] w fun e w' => e = .returned (.tuple #[.int .i64 (findV s.data.toList), .int .i64 (findE s.data.toList)]) ∧ Below w.heap.size w w' := by
  go_enter Tryd.func92, Tryd.ntmps92
  go_wp2
  go_loopw [4] (fun l wr => ∃ k : Nat, k ≤ 256 ∧ l = .int .i64 k ∧ findP s.data.toList = findL s.data.toList (256 - k) k ∧ Below w.heap.size w wr) (fun l _ => 256 - (intOf l).toNat)
  case atStart => exact ⟨0, by omega, rfl, rfl, Below.refl _ _⟩
  case round =>
    obtain ⟨k, hk, rfl, he, hb⟩ := hrel
    have HE := Lib.hid he; clear he
    by_cases hlt : k < 256
    · have HF : Hid (findP s.data.toList = if lbL k = s.data.toList then some k else findL s.data.toList (256 - (k + 1)) (k + 1)) := by
        rw [Hid, HE.out, show 256 - k = (256 - (k + 1)) + 1 from by omega]; rfl
      by_cases ht : lbL k = s.data.toList
      · have HN : Hid (findP s.data.toList = some k) := by rw [Hid, HF.out, if_pos ht]
        have hq : (lbL k == s.toList) = true := by rw [ByteArray.toList_eq, ← ht]; simp
        have HT := Lib.hid (lbS_nat k hlt)
        clear ht HF HE
        go_wp2_with (go_at_call 107; refine (LText_ref k _).mono ?_; rw [HT.out.1, HT.out.2]; rintro e w1 ⟨rfl, hb1⟩)
        go_ret2
        exact ⟨ret_two (by rw [findV, HN.out]; rfl) (by rw [findE, HN.out]; rfl), hb.trans (hb1.mono hb.size)⟩
      · have HN : Hid (findP s.data.toList = findL s.data.toList (256 - (k + 1)) (k + 1)) := by rw [Hid, HF.out, if_neg ht]
        have hq : (lbL k == s.toList) = false := by rw [ByteArray.toList_eq]; simpa using ht
        have HT := Lib.hid (lbS_nat k hlt)
        clear ht HF HE
        go_wp2_with (go_at_call 107; refine (LText_ref k _).mono ?_; rw [HT.out.1, HT.out.2]; rintro e w1 ⟨rfl, hb1⟩)
        go_roundw
        case rel => exact ⟨k + 1, by omega, by go_num, HN.out, hb.trans (hb1.mono hb.size)⟩
        case measure => simp [intOf]; omega
    · obtain rfl : k = 256 := by omega
      go_wp2
      go_ret2
      exact ⟨ret_two (by rw [findV, HE.out]; rfl) (by rw [findE, HE.out]; rfl), hb⟩

theorem parseGo_text (s : List UInt8) : ∀ (x l : Nat), x < 256 → parseGo x s = some l → l < 256 := by
  induction s with
  | nil => intro x l hx h; simp only [parseGo] at h; split at h <;> simp_all
  | cons b bs ih =>
    intro x l hx h
    rw [parseGo_cons] at h
    split at h
    · cases h
    · rename_i hc
      simp only [not_or, Nat.not_lt, Nat.not_le, ne_eq, Decidable.not_not] at hc
      refine ih _ l ?_ h
      rw [← or_pow x _ hc.2.2]
      exact Nat.or_lt_two_pow (n := 8) hx (Nat.pow_lt_pow_right (by decide) (by omega))
theorem testBit_lt_div (x c i : Nat) (h : x / 2 ^ c = 0) (hi : c ≤ i) : x.testBit i = false := by
  apply Nat.testBit_lt_two_pow
  rcases Nat.div_eq_zero_iff.1 h with h1 | h1
  · have := Nat.pow_pos (a := 2) (n := c) (by decide); omega
  · exact Nat.lt_of_lt_of_le h1 (Nat.pow_le_pow_right (by decide) hi)
/-- What the reader has read is the text of what it has. -/
theorem parseGo_back (s : List UInt8) : ∀ (x l : Nat), x < 256 → parseGo x s = some l → (lett l 8).map (fun n => UInt8.ofNat n.toNat) = (lett x 8).map (fun n => UInt8.ofNat n.toNat) ++ s := by
  induction s with
  | nil => intro x l _ h; simp only [parseGo] at h; split at h <;> simp_all
  | cons b bs ih =>
    intro x l hx h
    rw [parseGo_cons] at h
    split at h
    · cases h
    · rename_i hc
      simp only [not_or, Nat.not_lt, Nat.not_le, ne_eq, Decidable.not_not] at hc
      obtain ⟨h1, h2, h3⟩ := hc
      have hlt : x + 2 ^ (b.toNat - 97) < 256 := by
        rw [← or_pow x _ h3]
        exact Nat.or_lt_two_pow (n := 8) hx (Nat.pow_lt_pow_right (by decide) (by omega))
      rw [ih _ l hlt h, ← or_pow x _ h3]
      obtain ⟨c, hc⟩ : ∃ c, c = b.toNat - 97 := ⟨_, rfl⟩
      have hb : b = UInt8.ofNat (97 + c) := by
        rw [hc, show 97 + (b.toNat - 97) = b.toNat from by omega]; simp
      rw [← hc] at h3 ⊢
      have key : lett (x ||| 2 ^ c) 8 = lett x 8 ++ [97 + (c : Int)] := by
        simp only [lett]
        have e : (List.range 8).filter (fun i => (x ||| 2 ^ c).testBit i) = (List.range 8).filter (fun i => x.testBit i) ++ [c] := by
          have hsplit : List.range 8 = List.range c ++ c :: List.map (fun i => c + 1 + i) (List.range (8 - (c + 1))) := by
            rw [show (8 : Nat) = (c + 1) + (8 - (c + 1)) from by omega, List.range_add, List.range_succ]
            simp
          rw [hsplit]
          simp only [List.filter_append, List.filter_cons]
          have hcc : (x ||| 2 ^ c).testBit c = true := by simp [Nat.testBit_or, Nat.testBit_two_pow]
          have hxc : x.testBit c = false := testBit_lt_div x c c h3 (Nat.le_refl _)
          have hlo : (List.range c).filter (fun i => (x ||| 2 ^ c).testBit i) = (List.range c).filter (fun i => x.testBit i) := by
            apply List.filter_congr
            intro i hi
            have : c ≠ i := by simp at hi; omega
            simp [Nat.testBit_or, Nat.testBit_two_pow, this]
          have hhi : ∀ (y : Nat), y = x ∨ y = x ||| 2 ^ c → (List.map (fun i => c + 1 + i) (List.range (8 - (c + 1)))).filter (fun i => y.testBit i) = [] := by
            intro y hy
            rw [List.filter_eq_nil_iff]
            intro i hi
            simp only [List.mem_map, List.mem_range] at hi
            obtain ⟨j, _, rfl⟩ := hi
            have g := testBit_lt_div x c (c + 1 + j) h3 (by omega)
            rcases hy with rfl | rfl
            · simp [g]
            · have : c ≠ c + 1 + j := by omega
              simp [Nat.testBit_or, Nat.testBit_two_pow, g, this]
          rw [hlo, hhi _ (.inr rfl), hhi _ (.inl rfl), hcc, hxc]
          simp
        rw [e, List.map_append]
        rfl
      rw [key, hb]
      simp only [List.map_append, List.map_cons, List.map_nil, List.append_assoc, List.cons_append, List.nil_append]
      congr 3

theorem lett_nil : lett 0 8 = [] := by decide +kernel
theorem lparseF_text (s : List UInt8) (l : Nat) (h : lbF s = some l) : l < 256 ∧ lbL l = s := by
  unfold lbF at h
  split at h
  · rename_i h1
    simp only [Option.some.injEq] at h
    subst h
    exact ⟨by decide, by rw [h1]; rfl⟩
  · have h1 := parseGo_text s 0 l (by decide) h
    refine ⟨h1, ?_⟩
    have h2 := parseGo_back s 0 l (by decide) h
    rw [lett_nil] at h2
    have h0 : l ≠ 0 := by
      rintro rfl
      rw [lett_nil] at h2
      simp at h2
      subst h2
      simp [parseGo] at h
    rw [lbL, if_neg h0]
    simpa using h2

theorem findL_some (s : List UInt8) (l : Nat) (hl : l < 256) (h : lbL l = s) : ∀ (f k : Nat), k ≤ l → l < k + f → findL s f k = some l
  | 0, k, h1, h2 => by omega
  | f + 1, k, h1, h2 => by
    rw [findL]
    split
    · rename_i hk
      have e1 := lparse_text ⟨l, hl⟩
      have e2 := lparse_text ⟨k, by omega⟩
      simp only at e1 e2
      rw [h] at e1
      rw [hk, e1] at e2
      exact e2.symm
    · rename_i hk
      have : k ≠ l := by rintro rfl; exact hk h
      exact findL_some s l hl h f (k + 1) (by omega) (by omega)
theorem findL_none (s : List UInt8) (hn : ∀ l, l < 256 → lbL l ≠ s) : ∀ (f k : Nat), k + f ≤ 256 → findL s f k = none
  | 0, _, _ => rfl
  | f + 1, k, h => by
    rw [findL, if_neg (hn k (by omega))]
    exact findL_none s hn f (k + 1) (by omega)
/-- The program's reader and the reference's answer the same. -/
theorem lparse_eq (s : List UInt8) : lbF s = findP s := by
  cases h : lbF s with
  | some l =>
    obtain ⟨h1, h2⟩ := lparseF_text s l h
    exact (findL_some s l h1 h2 256 0 (by omega) (by omega)).symm
  | none =>
    refine (findL_none s (fun l hl ht => ?_) 256 0 (by omega)).symm
    have := lparse_text ⟨l, hl⟩
    simp only at this
    rw [ht, h] at this
    cases this
end Go.Proofs.YtoalpdjpljapbaaDoor
