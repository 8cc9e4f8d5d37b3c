/- Package plan and its reference: Number. -/
import Derived.Test.YtoalpdjpljapbaaDoorTxV
import Derived.Test.YtoalpdjpljapbaaDoorTxS
import Derived.Laws.RangeAny
namespace Go.Proofs.YtoalpdjpljapbaaDoor
set_option linter.unusedVariables false
set_option linter.unusedSimpArgs false
set_option linter.unnecessarySimpa false
open Go.RowKit Go.Sort
set_option maxHeartbeats 1000000
set_option maxRecDepth 100000
set_option linter.unusedVariables false
theorem ba_len (s : ByteArray) : s.data.toList.length = s.size := by rw [Array.length_toList]; rfl
theorem ba_get (s : ByteArray) (k : Nat) (h : k < s.size) : s.data.toList[k]'(by rw [ba_len]; exact h) = s[k] := rfl
theorem take_all_succ (s : ByteArray) (k : Nat) (h : k < s.size) : s.data.toList.take (k + 1) = s.data.toList.take k ++ [s[k]] := by
  rw [List.take_add_one, List.getElem?_eq_getElem (by rw [ba_len]; exact h), ba_get s k h]; rfl
theorem numB_all (s : ByteArray) (k : Nat) (h : k < s.size) (hd : isDig s[k] = false) : numB s.data.toList = false := by
  have : s.data.toList.all isDig = false := by
    rw [List.all_eq_false]
    exact ⟨s[k], by rw [← ba_get s k h]; exact List.getElem_mem _, by simp [hd]⟩
  rw [numB, this, Bool.and_false]
theorem numI_bad {l : List UInt8} (h : numB l = false) : numI l = 0 := by rw [numI, h]; rfl
theorem numI_good {l : List UInt8} (h : numB l = true) : numI l = numGo 0 l := by rw [numI, h]; rfl
theorem toList_empty (s : ByteArray) : s.toList.isEmpty = decide (s.size = 0) := by
  rw [ByteArray.toList_eq, ← ba_len]
  cases s.data.toList <;> simp
theorem byte_lt (b : UInt8) : b.toNat < 256 := b.toNat_lt
theorem head_get (s : ByteArray) (h : 0 < s.size) : s.data.toList.head? = some s[0] := by
  rw [List.head?_eq_getElem?, List.getElem?_eq_getElem (by rw [ba_len]; exact h)]; rfl
theorem u8_48 (b : UInt8) : b = 48 ↔ b.toNat = 48 := ⟨fun h => by rw [h]; rfl, fun h => by rw [← UInt8.toNat_inj]; exact h⟩
theorem numW_well (s : ByteArray) (h0 : s.size ≠ 0) (h1 : s.size ≤ 9) (h2 : s.size ≤ 1 ∨ (s[0]'(by omega)).toNat ≠ 48) : numW s.data.toList = true := by
  have hne : s.data.toList ≠ [] := fun e => h0 (by rw [← ba_len, e]; rfl)
  rw [numW, ba_len, head_get s (by omega)]
  simp only [hne, ne_eq, not_false_eq_true, decide_true, Bool.true_and, h1]
  rw [Bool.not_eq_true', Bool.and_eq_false_iff, decide_eq_false_iff_not, decide_eq_false_iff_not]
  rcases h2 with h2 | h2
  · left; omega
  · right; intro e; injection e with e; exact h2 ((u8_48 _).1 e)
theorem numW_zero (s : ByteArray) (h1 : 1 < s.size) (h2 : (s[0]'(by omega)).toNat = 48) : numB s.data.toList = false := by
  rw [numB, numW, ba_len, head_get s (by omega), (u8_48 _).2 h2]
  simp [h1]
theorem numGo_step (s : ByteArray) (k : Nat) (h : k < s.size) : numGo 0 (s.data.toList.take (k + 1)) = 10 * numGo 0 (s.data.toList.take k) + (s[k].toNat - 48) := by
  rw [take_all_succ s k h, numGo_app]
theorem numGo_small (s : ByteArray) (k : Nat) (h : k ≤ 9) (hd : ∀ j (hj : j < s.size), j < k → isDig s[j] = true) : numGo 0 (s.data.toList.take k) < 1000000000 := by
  have ha : (s.data.toList.take k).all isDig = true := by
    rw [List.all_eq_true]
    intro b hb
    obtain ⟨j, hj, rfl⟩ := List.mem_iff_getElem.1 hb
    rw [List.length_take, ba_len] at hj
    rw [List.getElem_take]
    exact hd j (by omega) (by omega)
  have h1 := numGo_lt _ 0 ha
  have h2 : 10 ^ (s.data.toList.take k).length ≤ 10 ^ 9 := Nat.pow_le_pow_right (by omega) (by rw [List.length_take]; omega)
  omega
theorem num_done (s : ByteArray) (hw : numW s.data.toList = true) (hd : ∀ j (hj : j < s.size), isDig s[j] = true) : numB s.data.toList = true ∧ numI s.data.toList = numGo 0 (s.data.toList.take s.size) := by
  have hb : numB s.data.toList = true := by
    rw [numB, hw, Bool.true_and, List.all_eq_true]
    intro b hb
    obtain ⟨j, hj, rfl⟩ := List.mem_iff_getElem.1 hb
    exact hd j (by rw [ba_len] at hj; exact hj)
  exact ⟨hb, by rw [numI_good hb, List.take_of_length_le (by rw [ba_len]; omega)]⟩
theorem rnumber_any (s : ByteArray) (hs : s.size ≤ maxLen) (w : World) : Calls Tryd.prog 14 #[.string s] w fun e w' => e = .returned (.tuple #[.int .i64 (numI s.data.toList), .bool (numB s.data.toList)]) ∧ w = w' := by
  unfold maxLen at hs
  by_cases h0 : s.size = 0
  · have d0 : ((s.size : Int) == 0) = true := by simp [h0]
    (have hnb : numB s.data.toList = false := (by (rw [numB, numW, show s.data.toList = [] from List.eq_nil_of_length_eq_zero (by rw [ba_len]; exact h0)]; rfl)); have HNI := Lib.hid (numI_bad hnb); have HNB := Lib.hid hnb; clear hnb)
    clear h0
    go_enter Tryd.func14, Tryd.ntmps14
    go_wp2
    go_ret2
    exact ⟨by rw [HNI.out, HNB.out]; rfl, rfl⟩
  · have d0 : ((s.size : Int) == 0) = false := by simp [h0]
    by_cases h1 : 9 < s.size
    · have d1 : decide ((s.size : Int) > 9) = true := decide_eq_true (by omega)
      have d1' : decide (9 < s.size) = true := decide_eq_true h1
      (have hnb : numB s.data.toList = false := (by (rw [numB, numW, ba_len, show decide (s.size ≤ 9) = false from decide_eq_false (by omega)]; simp)); have HNI := Lib.hid (numI_bad hnb); have HNB := Lib.hid hnb; clear hnb)
      clear h0 h1
      go_enter Tryd.func14, Tryd.ntmps14
      go_wp2
      go_ret2
      exact ⟨by rw [HNI.out, HNB.out]; rfl, rfl⟩
    · have d1 : decide ((s.size : Int) > 9) = false := decide_eq_false (by omega)
      have d1' : decide (9 < s.size) = false := decide_eq_false h1
      have hsz : 0 < s.size := by omega
      have hb0 := byte_lt s[0]
      by_cases h2 : 1 < s.size ∧ s[0].toNat = 48
      · have d2 : decide ((s.size : Int) > 1) = true := decide_eq_true (by omega)
        have d2' : decide (1 < s.size) = true := decide_eq_true h2.1
        have d3 : ((s[0].toNat : Int) == 48) = true := by simp [h2.2]
        (have hnb : numB s.data.toList = false := (by (exact numW_zero s h2.1 h2.2)); have HNI := Lib.hid (numI_bad hnb); have HNB := Lib.hid hnb; clear hnb)
        clear h0 h1 h2 hb0
        go_enter Tryd.func14, Tryd.ntmps14
        go_wp2
        go_ret2
        exact ⟨by rw [HNI.out, HNB.out]; rfl, rfl⟩
      · have HW := Lib.hid (numW_well s h0 (by omega) (by omega))
        have HS9 : Hid (s.size ≤ 9) := by rw [Hid]; omega
        have key : ∀ (goal : Prop), (((s[0].toNat : Int) == 48) = true → decide ((s.size : Int) > 1) = false → decide (1 < s.size) = false → goal) → (((s[0].toNat : Int) == 48) = false → goal) → goal := fun goal ha hb => by
          by_cases e : s[0].toNat = 48
          · exact ha (by simp [e]) (decide_eq_false (by omega)) (decide_eq_false (by omega))
          · exact hb (by simp; omega)
        refine key _ (fun d3 d2 d2' => ?_) (fun d3 => ?_)
        all_goals
          clear h0 h1 h2 hb0 key
          go_enter Tryd.func14, Tryd.ntmps14
          go_wp2
          go_loop [4, 5] (fun x i => ∃ k : Nat, k ≤ s.size ∧ i = .int .i64 k ∧ x = .int .i64 (numGo 0 (s.data.toList.take k)) ∧ ∀ j (hj : j < s.size), j < k → isDig s[j] = true) (fun _ i => s.size - (intOf i).toNat)
          case atStart => exact ⟨0, by omega, rfl, rfl, fun j _ hj => by omega⟩
          case round =>
            obtain ⟨k, hk, rfl, rfl, hd⟩ := hrel
            have HD := Lib.hid hd
            clear hd
            by_cases hlt : k < s.size
            · have hb : s[k].toNat < 256 := s[k].toNat_lt
              by_cases hdig : isDig s[k] = true
              · have hg := (isDig_iff _).1 hdig
                have e1 : decide ((s[k].toNat : Int) < 48) = false := decide_eq_false (by omega)
                have e2 : decide ((s[k].toNat : Int) > 57) = false := decide_eq_false (by omega)
                have hgs := numGo_step s k hlt
                have hsm := numGo_small s k (by have := HS9.out; omega) HD.out
                have HD2 : Hid (∀ j (hj : j < s.size), j < k + 1 → isDig s[j] = true) := fun j hj hjk => by
                  by_cases e : j = k
                  · subst e; exact hdig
                  · exact HD.out j hj (by omega)
                have HGS := Lib.hid hgs
                clear hgs hdig
                generalize numGo 0 (s.data.toList.take k) = q at hsm HGS ⊢
                have w1 : IntKind.i64.wrap (10 * (q : Int)) = 10 * (q : Int) := by rw [IntKind.wrap_i64]; omega
                have w2 : IntKind.u8.wrap ((s[k].toNat : Int) - 48) = (s[k].toNat : Int) - 48 := by rw [IntKind.wrap_u8]; omega
                have w3 : IntKind.i64.wrap (10 * (q : Int) + ((s[k].toNat : Int) - 48)) = 10 * (q : Int) + ((s[k].toNat : Int) - 48) := by rw [IntKind.wrap_i64]; omega
                have w4 : IntKind.i64.wrap ((k : Int) + 1) = (k : Int) + 1 := by rw [IntKind.wrap_i64]; omega
                go_wp2
                go_round
                case rel => exact ⟨k + 1, by omega, by go_num, by rw [HGS.out]; congr 1; omega, HD2.out⟩
                case measure => simp [intOf]; omega
              · have hdf : isDig s[k] = false := by simpa using hdig
                (have hnb : numB s.data.toList = false := (by (exact numB_all s k hlt hdf)); have HNI := Lib.hid (numI_bad hnb); have HNB := Lib.hid hnb; clear hnb)
                by_cases h3 : s[k].toNat < 48
                · have e1 : decide ((s[k].toNat : Int) < 48) = true := decide_eq_true (by omega)
                  clear hdig hdf h3
                  go_wp2
                  go_ret2
                  exact ⟨by rw [HNI.out, HNB.out]; rfl, rfl⟩
                · have e1 : decide ((s[k].toNat : Int) < 48) = false := decide_eq_false (by omega)
                  have e2 : decide ((s[k].toNat : Int) > 57) = true := decide_eq_true (by
                    have := (not_congr (isDig_iff s[k])).1 hdig; omega)
                  clear hdig hdf h3
                  go_wp2
                  go_ret2
                  exact ⟨by rw [HNI.out, HNB.out]; rfl, rfl⟩
            · obtain rfl : k = s.size := by omega
              obtain ⟨hq1, hq2⟩ := num_done s HW.out (fun j hj => HD.out j hj hj)
              have HQ1 := Lib.hid hq1; have HQ2 := Lib.hid hq2
              clear hq1 hq2
              generalize numGo 0 (s.data.toList.take s.size) = q at HQ2 ⊢
              go_wp2
              go_ret2
              exact ⟨by rw [HQ1.out, HQ2.out]; rfl, rfl⟩
theorem isB_empty0 (s : ByteArray) (h : s.size = 0) : s.toList.isEmpty = true := by rw [toList_empty, h]; rfl
theorem number_any (s : ByteArray) (hs : s.size ≤ maxLen) (w : World) : Calls Tryd.prog 13 #[.string s] w fun e w' => e = .returned (.tuple #[.int .i64 (numI s.data.toList), .bool (numB s.data.toList)]) ∧ Below w.heap.size w w' := by
  unfold maxLen at hs
  by_cases h0 : s.size = 0
  · have d0 : s.toList.isEmpty = true := isB_empty0 s h0
    (have hnb : numB s.data.toList = false := (by (rw [numB, numW, show s.data.toList = [] from List.eq_nil_of_length_eq_zero (by rw [ba_len]; exact h0)]; rfl)); have HNI := Lib.hid (numI_bad hnb); have HNB := Lib.hid hnb; clear hnb)
    clear h0
    go_enter Tryd.func13, Tryd.ntmps13
    go_wp2
    go_ret2
    exact ⟨by rw [HNI.out, HNB.out]; rfl, Below.refl _ _⟩
  · have d0 : s.toList.isEmpty = false := by rw [toList_empty]; exact decide_eq_false h0
    by_cases h1 : 9 < s.size
    · have d1 : decide ((s.size : Int) > 9) = true := decide_eq_true (by omega)
      have d1' : decide (9 < s.size) = true := decide_eq_true h1
      (have hnb : numB s.data.toList = false := (by (rw [numB, numW, ba_len, show decide (s.size ≤ 9) = false from decide_eq_false (by omega)]; simp)); have HNI := Lib.hid (numI_bad hnb); have HNB := Lib.hid hnb; clear hnb)
      clear h0 h1
      go_enter Tryd.func13, Tryd.ntmps13
      go_wp2
      go_ret2
      exact ⟨by rw [HNI.out, HNB.out]; rfl, Below.refl _ _⟩
    · have d1 : decide ((s.size : Int) > 9) = false := decide_eq_false (by omega)
      have d1' : decide (9 < s.size) = false := decide_eq_false h1
      have hsz : 0 < s.size := by omega
      have hb0 := byte_lt s[0]
      by_cases h2 : 1 < s.size ∧ s[0].toNat = 48
      · have d2 : decide ((s.size : Int) > 1) = true := decide_eq_true (by omega)
        have d2' : decide (1 < s.size) = true := decide_eq_true h2.1
        have d3 : ((s[0].toNat : Int) == 48) = true := by simp [h2.2]
        (have hnb : numB s.data.toList = false := (by (exact numW_zero s h2.1 h2.2)); have HNI := Lib.hid (numI_bad hnb); have HNB := Lib.hid hnb; clear hnb)
        clear h0 h1 h2 hb0
        go_enter Tryd.func13, Tryd.ntmps13
        go_wp2
        go_ret2
        exact ⟨by rw [HNI.out, HNB.out]; rfl, Below.refl _ _⟩
      · have HW := Lib.hid (numW_well s h0 (by omega) (by omega))
        have HS9 : Hid (s.size ≤ 9) := by rw [Hid]; omega
        have HBL : Hid (∀ p, Below w.heap.size w (w.iter s p)) := fun p => (Below.refl _ _).alloc (Nat.le_refl _) _
        have key : ∀ (goal : Prop), (((s[0].toNat : Int) == 48) = false → decide ((s.size : Int) > 1) = true → decide (1 < s.size) = true → goal) → (decide ((s.size : Int) > 1) = false → decide (1 < s.size) = false → goal) → goal := fun goal ha hb => by
          by_cases e : 1 < s.size
          · exact ha (by simp; omega) (decide_eq_true (by omega)) (decide_eq_true (by omega))
          · exact hb (decide_eq_false (by omega)) (decide_eq_false (by omega))
        refine key _ (fun d3 d2 d2' => ?_) (fun d2 d2' => ?_)
        all_goals
          clear h0 h1 h2 hb0 key
          go_enter Tryd.func13, Tryd.ntmps13
          go_wp2
          go_loopw [4] (fun x wr => ∃ k : Nat, k ≤ s.size ∧ wr = w.iter s k ∧ x = .int .i64 (numGo 0 (s.data.toList.take k)) ∧ ∀ j (hj : j < s.size), j < k → isDig s[j] = true) (fun _ wr => s.size - wr.iterPos w.heap.size)
          case atStart => exact ⟨0, by omega, rfl, rfl, fun j _ hj => by omega⟩
          case round =>
            obtain ⟨k, hk, rfl, rfl, hd⟩ := hrel
            have HD := Lib.hid hd
            clear hd
            by_cases hlt : k < s.size
            · have hb : s[k].toNat < 256 := s[k].toNat_lt
              by_cases hdig : isDig s[k] = true
              · have hg := (isDig_iff _).1 hdig
                have hnx := fun ty => run_next_ascii (P := Tryd.prog) w s k ty hlt (by omega)
                have e1 : decide ((s[k].toNat : Int) < 48) = false := decide_eq_false (by omega)
                have e2 : decide ((s[k].toNat : Int) > 57) = false := decide_eq_false (by omega)
                have hgs := numGo_step s k hlt
                have hsm := numGo_small s k (by have := HS9.out; omega) HD.out
                have HD2 : Hid (∀ j (hj : j < s.size), j < k + 1 → isDig s[j] = true) := fun j hj hjk => by
                  by_cases e : j = k
                  · subst e; exact hdig
                  · exact HD.out j hj (by omega)
                have HGS := Lib.hid hgs
                clear hgs hdig
                generalize numGo 0 (s.data.toList.take k) = q at hsm HGS ⊢
                have w1 : IntKind.i64.wrap (10 * (q : Int)) = 10 * (q : Int) := by rw [IntKind.wrap_i64]; omega
                have w2 : IntKind.i32.wrap ((s[k].toNat : Int) - 48) = (s[k].toNat : Int) - 48 := by rw [IntKind.wrap_i32]; omega
                have w2' : IntKind.i64.wrap ((s[k].toNat : Int) - 48) = (s[k].toNat : Int) - 48 := by rw [IntKind.wrap_i64]; omega
                have w3 : IntKind.i64.wrap (10 * (q : Int) + ((s[k].toNat : Int) - 48)) = 10 * (q : Int) + ((s[k].toNat : Int) - 48) := by rw [IntKind.wrap_i64]; omega
                go_wp2
                go_roundw
                case rel => exact ⟨k + 1, by omega, rfl, by rw [HGS.out]; congr 1; omega, HD2.out⟩
                case measure => simp; omega
              · have hdf : isDig s[k] = false := by simpa using hdig
                (have hnb : numB s.data.toList = false := (by (exact numB_all s k hlt hdf)); have HNI := Lib.hid (numI_bad hnb); have HNB := Lib.hid hnb; clear hnb)
                have hnd := (not_congr (isDig_iff s[k])).1 hdig
                by_cases h3 : s[k].toNat < 128
                · have hnx := fun ty => run_next_ascii (P := Tryd.prog) w s k ty hlt h3
                  by_cases h4 : s[k].toNat < 48
                  · have e1 : decide ((s[k].toNat : Int) < 48) = true := decide_eq_true (by omega)
                    clear hdig hdf h3 h4 hnd
                    go_wp2
                    go_ret2
                    exact ⟨by rw [HNI.out, HNB.out]; rfl, HBL.out _⟩
                  · have e1 : decide ((s[k].toNat : Int) < 48) = false := decide_eq_false (by omega)
                    have e2 : decide ((s[k].toNat : Int) > 57) = true := decide_eq_true (by omega)
                    clear hdig hdf h3 h4 hnd
                    go_wp2
                    go_ret2
                    exact ⟨by rw [HNI.out, HNB.out]; rfl, HBL.out _⟩
                · have hnx := fun ty => run_next_any (P := Tryd.prog) w s k ty hlt
                  have hhi := decode_high s k hlt (by omega)
                  generalize (Utf8.decode s k).2 = dw at hnx
                  generalize (Utf8.decode s k).1 = dc at hnx hhi
                  have e1 : decide ((dc : Int) < 48) = false := decide_eq_false (by omega)
                  have e2 : decide ((dc : Int) > 57) = true := decide_eq_true (by omega)
                  have e1' : decide (dc < 48) = false := decide_eq_false (by omega)
                  have e2' : decide (57 < dc) = true := decide_eq_true (by omega)
                  clear hdig hdf h3 hnd hhi
                  go_wp2
                  go_ret2
                  exact ⟨by rw [HNI.out, HNB.out]; rfl, HBL.out _⟩
            · obtain rfl : k = s.size := by omega
              have hnx := fun ty => run_next_end (P := Tryd.prog) w s s.size ty (by omega)
              obtain ⟨hq1, hq2⟩ := num_done s HW.out (fun j hj => HD.out j hj hj)
              have HQ1 := Lib.hid hq1; have HQ2 := Lib.hid hq2
              clear hq1 hq2
              generalize numGo 0 (s.data.toList.take s.size) = q at HQ2 ⊢
              go_wp2
              go_ret2
              exact ⟨by rw [HQ1.out, HQ2.out]; rfl, HBL.out _⟩
end Go.Proofs.YtoalpdjpljapbaaDoor
