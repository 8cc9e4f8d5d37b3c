/- Package plan and its reference: Number. -/
import Derived.Test.YtoklonmiejdgmaaGreatDoorGScriptHex0
import Derived.Laws.RangeAny
import Derived.StillTailTactics
import Derived.Shelf.Strings.BuilderK
import Derived.Lib.FrozenHead2
import Derived.Lib.OthersKept
import Derived.WalkSmall
import Derived.Laws.MakeOwn
import Derived.Test.YtoklonmiejdgmaaGreatDoorRows
namespace Go.Proofs.YtoklonmiejdgmaaGreatDoor
set_option linter.unusedVariables false
set_option linter.unusedSimpArgs false
set_option linter.unnecessarySimpa false
open Go.RowKit Go.Sort
set_option maxHeartbeats 1000000
set_option maxRecDepth 100000
set_option linter.unusedVariables false
theorem ba_len (s : ByteArray) : s.data.toList.length = s.size := by rw [Array.length_toList]; rfl
theorem ba_get (s : ByteArray) (k : Nat) (h : k < s.size) : s.data.toList[k]'(by rw [ba_len]; exact h) = s[k] := rfl
theorem take_all_succ (s : ByteArray) (k : Nat) (h : k < s.size) : s.data.toList.take (k + 1) = s.data.toList.take k ++ [s[k]] := by
  rw [List.take_add_one, List.getElem?_eq_getElem (by rw [ba_len]; exact h), ba_get s k h]; rfl
theorem numB_all (s : ByteArray) (k : Nat) (h : k < s.size) (hd : isDig s[k] = false) : numB s.data.toList = false := by
  have : s.data.toList.all isDig = false := by
    rw [List.all_eq_false]
    exact ⟨s[k], by rw [← ba_get s k h]; exact List.getElem_mem _, by simp [hd]⟩
  rw [numB, this, Bool.and_false]
theorem numI_bad {l : List UInt8} (h : numB l = false) : numI l = 0 := by rw [numI, h]; rfl
theorem numI_good {l : List UInt8} (h : numB l = true) : numI l = numGo 0 l := by rw [numI, h]; rfl
theorem toList_empty (s : ByteArray) : s.toList.isEmpty = decide (s.size = 0) := by
  rw [ByteArray.toList_eq, ← ba_len]
  cases s.data.toList <;> simp
theorem byte_lt (b : UInt8) : b.toNat < 256 := b.toNat_lt
theorem head_get (s : ByteArray) (h : 0 < s.size) : s.data.toList.head? = some s[0] := by
  rw [List.head?_eq_getElem?, List.getElem?_eq_getElem (by rw [ba_len]; exact h)]; rfl
theorem u8_48 (b : UInt8) : b = 48 ↔ b.toNat = 48 := ⟨fun h => by rw [h]; rfl, fun h => by rw [← UInt8.toNat_inj]; exact h⟩
theorem numW_well (s : ByteArray) (h0 : s.size ≠ 0) (h1 : s.size ≤ 9) (h2 : s.size ≤ 1 ∨ (s[0]'(by omega)).toNat ≠ 48) : numW s.data.toList = true := by
  have hne : s.data.toList ≠ [] := fun e => h0 (by rw [← ba_len, e]; rfl)
  rw [numW, ba_len, head_get s (by omega)]
  simp only [hne, ne_eq, not_false_eq_true, decide_true, Bool.true_and, h1]
  rw [Bool.not_eq_true', Bool.and_eq_false_iff, decide_eq_false_iff_not, decide_eq_false_iff_not]
  rcases h2 with h2 | h2
  · left; omega
  · right; intro e; injection e with e; exact h2 ((u8_48 _).1 e)
theorem numW_zero (s : ByteArray) (h1 : 1 < s.size) (h2 : (s[0]'(by omega)).toNat = 48) : numB s.data.toList = false := by
  rw [numB, numW, ba_len, head_get s (by omega), (u8_48 _).2 h2]
  simp [h1]
theorem numGo_step (s : ByteArray) (k : Nat) (h : k < s.size) : numGo 0 (s.data.toList.take (k + 1)) = 10 * numGo 0 (s.data.toList.take k) + (s[k].toNat - 48) := by
  rw [take_all_succ s k h, numGo_app]
theorem numGo_small (s : ByteArray) (k : Nat) (h : k ≤ 9) (hd : ∀ j (hj : j < s.size), j < k → isDig s[j] = true) : numGo 0 (s.data.toList.take k) < 1000000000 := by
  have ha : (s.data.toList.take k).all isDig = true := by
    rw [List.all_eq_true]
    intro b hb
    obtain ⟨j, hj, rfl⟩ := List.mem_iff_getElem.1 hb
    rw [List.length_take, ba_len] at hj
    rw [List.getElem_take]
    exact hd j (by omega) (by omega)
  have h1 := numGo_lt _ 0 ha
  have h2 : 10 ^ (s.data.toList.take k).length ≤ 10 ^ 9 := Nat.pow_le_pow_right (by omega) (by rw [List.length_take]; omega)
  omega
theorem num_done (s : ByteArray) (hw : numW s.data.toList = true) (hd : ∀ j (hj : j < s.size), isDig s[j] = true) : numB s.data.toList = true ∧ numI s.data.toList = numGo 0 (s.data.toList.take s.size) := by
  have hb : numB s.data.toList = true := by
    rw [numB, hw, Bool.true_and, List.all_eq_true]
    intro b hb
    obtain ⟨j, hj, rfl⟩ := List.mem_iff_getElem.1 hb
    exact hd j (by rw [ba_len] at hj; exact hj)
  exact ⟨hb, by rw [numI_good hb, List.take_of_length_le (by rw [ba_len]; omega)]⟩
theorem rnumber_any (s : ByteArray) (hs : s.size ≤ maxLen) (w : World) : Calls Tryz.prog 108 #[.string s] w fun e w' => e = .returned (.tuple #[.int .i64 (numI s.data.toList), .bool (numB s.data.toList)]) ∧ w = w' := by
  unfold maxLen at hs
  by_cases h0 : s.size = 0
  · have d0 : ((s.size : Int) == 0) = true := by simp [h0]
    (have hnb : numB s.data.toList = false := (by (rw [numB, numW, show s.data.toList = [] from List.eq_nil_of_length_eq_zero (by rw [ba_len]; exact h0)]; rfl)); have HNI := Lib.hid (numI_bad hnb); have HNB := Lib.hid hnb; clear hnb)
    clear h0
    go_enter Tryz.func108, Tryz.ntmps108
    go_wp2
    go_ret2
    exact ⟨by rw [HNI.out, HNB.out]; rfl, rfl⟩
  · have d0 : ((s.size : Int) == 0) = false := by simp [h0]
    by_cases h1 : 9 < s.size
    · have d1 : decide ((s.size : Int) > 9) = true := decide_eq_true (by omega)
      have d1' : decide (9 < s.size) = true := decide_eq_true h1
      (have hnb : numB s.data.toList = false := (by (rw [numB, numW, ba_len, show decide (s.size ≤ 9) = false from decide_eq_false (by omega)]; simp)); have HNI := Lib.hid (numI_bad hnb); have HNB := Lib.hid hnb; clear hnb)
      clear h0 h1
      go_enter Tryz.func108, Tryz.ntmps108
      go_wp2
      go_ret2
      exact ⟨by rw [HNI.out, HNB.out]; rfl, rfl⟩
    · have d1 : decide ((s.size : Int) > 9) = false := decide_eq_false (by omega)
      have d1' : decide (9 < s.size) = false := decide_eq_false h1
      have hsz : 0 < s.size := by omega
      have hb0 := byte_lt s[0]
      by_cases h2 : 1 < s.size ∧ s[0].toNat = 48
      · have d2 : decide ((s.size : Int) > 1) = true := decide_eq_true (by omega)
        have d2' : decide (1 < s.size) = true := decide_eq_true h2.1
        have d3 : ((s[0].toNat : Int) == 48) = true := by simp [h2.2]
        (have hnb : numB s.data.toList = false := (by (exact numW_zero s h2.1 h2.2)); have HNI := Lib.hid (numI_bad hnb); have HNB := Lib.hid hnb; clear hnb)
        clear h0 h1 h2 hb0
        go_enter Tryz.func108, Tryz.ntmps108
        go_wp2
        go_ret2
        exact ⟨by rw [HNI.out, HNB.out]; rfl, rfl⟩
      · have HW := Lib.hid (numW_well s h0 (by omega) (by omega))
        have HS9 : Hid (s.size ≤ 9) := by rw [Hid]; omega
        have key : ∀ (goal : Prop), (((s[0].toNat : Int) == 48) = true → decide ((s.size : Int) > 1) = false → decide (1 < s.size) = false → goal) → (((s[0].toNat : Int) == 48) = false → goal) → goal := fun goal ha hb => by
          by_cases e : s[0].toNat = 48
          · exact ha (by simp [e]) (decide_eq_false (by omega)) (decide_eq_false (by omega))
          · exact hb (by simp; omega)
        refine key _ (fun d3 d2 d2' => ?_) (fun d3 => ?_)
        all_goals
          clear h0 h1 h2 hb0 key
          go_enter Tryz.func108, Tryz.ntmps108
          go_wp2
          go_loop [4, 5] (fun x i => ∃ k : Nat, k ≤ s.size ∧ i = .int .i64 k ∧ x = .int .i64 (numGo 0 (s.data.toList.take k)) ∧ ∀ j (hj : j < s.size), j < k → isDig s[j] = true) (fun _ i => s.size - (intOf i).toNat)
          case atStart => exact ⟨0, by omega, rfl, rfl, fun j _ hj => by omega⟩
          case round =>
            obtain ⟨k, hk, rfl, rfl, hd⟩ := hrel
            have HD := Lib.hid hd
            clear hd
            by_cases hlt : k < s.size
            · have hb : s[k].toNat < 256 := s[k].toNat_lt
              by_cases hdig : isDig s[k] = true
              · have hg := (isDig_iff _).1 hdig
                have e1 : decide ((s[k].toNat : Int) < 48) = false := decide_eq_false (by omega)
                have e2 : decide ((s[k].toNat : Int) > 57) = false := decide_eq_false (by omega)
                have hgs := numGo_step s k hlt
                have hsm := numGo_small s k (by have := HS9.out; omega) HD.out
                have HD2 : Hid (∀ j (hj : j < s.size), j < k + 1 → isDig s[j] = true) := fun j hj hjk => by
                  by_cases e : j = k
                  · subst e; exact hdig
                  · exact HD.out j hj (by omega)
                have HGS := Lib.hid hgs
                clear hgs hdig
                generalize numGo 0 (s.data.toList.take k) = q at hsm HGS ⊢
                have w1 : IntKind.i64.wrap (10 * (q : Int)) = 10 * (q : Int) := by rw [IntKind.wrap_i64]; omega
                have w2 : IntKind.u8.wrap ((s[k].toNat : Int) - 48) = (s[k].toNat : Int) - 48 := by rw [IntKind.wrap_u8]; omega
                have w3 : IntKind.i64.wrap (10 * (q : Int) + ((s[k].toNat : Int) - 48)) = 10 * (q : Int) + ((s[k].toNat : Int) - 48) := by rw [IntKind.wrap_i64]; omega
                have w4 : IntKind.i64.wrap ((k : Int) + 1) = (k : Int) + 1 := by rw [IntKind.wrap_i64]; omega
                go_wp2
                go_round
                case rel => exact ⟨k + 1, by omega, by go_num, by rw [HGS.out]; congr 1; omega, HD2.out⟩
                case measure => simp [intOf]; omega
              · have hdf : isDig s[k] = false := by simpa using hdig
                (have hnb : numB s.data.toList = false := (by (exact numB_all s k hlt hdf)); have HNI := Lib.hid (numI_bad hnb); have HNB := Lib.hid hnb; clear hnb)
                by_cases h3 : s[k].toNat < 48
                · have e1 : decide ((s[k].toNat : Int) < 48) = true := decide_eq_true (by omega)
                  clear hdig hdf h3
                  go_wp2
                  go_ret2
                  exact ⟨by rw [HNI.out, HNB.out]; rfl, rfl⟩
                · have e1 : decide ((s[k].toNat : Int) < 48) = false := decide_eq_false (by omega)
                  have e2 : decide ((s[k].toNat : Int) > 57) = true := decide_eq_true (by
                    have := (not_congr (isDig_iff s[k])).1 hdig; omega)
                  clear hdig hdf h3
                  go_wp2
                  go_ret2
                  exact ⟨by rw [HNI.out, HNB.out]; rfl, rfl⟩
            · obtain rfl : k = s.size := by omega
              obtain ⟨hq1, hq2⟩ := num_done s HW.out (fun j hj => HD.out j hj hj)
              have HQ1 := Lib.hid hq1; have HQ2 := Lib.hid hq2
              clear hq1 hq2
              generalize numGo 0 (s.data.toList.take s.size) = q at HQ2 ⊢
              go_wp2
              go_ret2
              exact ⟨by rw [HQ1.out, HQ2.out]; rfl, rfl⟩
theorem isB_empty0 (s : ByteArray) (h : s.size = 0) : s.toList.isEmpty = true := by rw [toList_empty, h]; rfl
theorem number_any (s : ByteArray) (hs : s.size ≤ maxLen) (w : World) : Calls Tryz.prog 142 #[.string s] w fun e w' => e = .returned (.tuple #[.int .i64 (numI s.data.toList), .bool (numB s.data.toList)]) ∧ Below w.heap.size w w' := by
  unfold maxLen at hs
  by_cases h0 : s.size = 0
  · have d0 : s.toList.isEmpty = true := isB_empty0 s h0
    (have hnb : numB s.data.toList = false := (by (rw [numB, numW, show s.data.toList = [] from List.eq_nil_of_length_eq_zero (by rw [ba_len]; exact h0)]; rfl)); have HNI := Lib.hid (numI_bad hnb); have HNB := Lib.hid hnb; clear hnb)
    clear h0
    go_enter Tryz.func142, Tryz.ntmps142
    go_wp2
    go_ret2
    exact ⟨by rw [HNI.out, HNB.out]; rfl, Below.refl _ _⟩
  · have d0 : s.toList.isEmpty = false := by rw [toList_empty]; exact decide_eq_false h0
    by_cases h1 : 9 < s.size
    · have d1 : decide ((s.size : Int) > 9) = true := decide_eq_true (by omega)
      have d1' : decide (9 < s.size) = true := decide_eq_true h1
      (have hnb : numB s.data.toList = false := (by (rw [numB, numW, ba_len, show decide (s.size ≤ 9) = false from decide_eq_false (by omega)]; simp)); have HNI := Lib.hid (numI_bad hnb); have HNB := Lib.hid hnb; clear hnb)
      clear h0 h1
      go_enter Tryz.func142, Tryz.ntmps142
      go_wp2
      go_ret2
      exact ⟨by rw [HNI.out, HNB.out]; rfl, Below.refl _ _⟩
    · have d1 : decide ((s.size : Int) > 9) = false := decide_eq_false (by omega)
      have d1' : decide (9 < s.size) = false := decide_eq_false h1
      have hsz : 0 < s.size := by omega
      have hb0 := byte_lt s[0]
      by_cases h2 : 1 < s.size ∧ s[0].toNat = 48
      · have d2 : decide ((s.size : Int) > 1) = true := decide_eq_true (by omega)
        have d2' : decide (1 < s.size) = true := decide_eq_true h2.1
        have d3 : ((s[0].toNat : Int) == 48) = true := by simp [h2.2]
        (have hnb : numB s.data.toList = false := (by (exact numW_zero s h2.1 h2.2)); have HNI := Lib.hid (numI_bad hnb); have HNB := Lib.hid hnb; clear hnb)
        clear h0 h1 h2 hb0
        go_enter Tryz.func142, Tryz.ntmps142
        go_wp2
        go_ret2
        exact ⟨by rw [HNI.out, HNB.out]; rfl, Below.refl _ _⟩
      · have HW := Lib.hid (numW_well s h0 (by omega) (by omega))
        have HS9 : Hid (s.size ≤ 9) := by rw [Hid]; omega
        have HBL : Hid (∀ p, Below w.heap.size w (w.iter s p)) := fun p => (Below.refl _ _).alloc (Nat.le_refl _) _
        have key : ∀ (goal : Prop), (((s[0].toNat : Int) == 48) = false → decide ((s.size : Int) > 1) = true → decide (1 < s.size) = true → goal) → (decide ((s.size : Int) > 1) = false → decide (1 < s.size) = false → goal) → goal := fun goal ha hb => by
          by_cases e : 1 < s.size
          · exact ha (by simp; omega) (decide_eq_true (by omega)) (decide_eq_true (by omega))
          · exact hb (decide_eq_false (by omega)) (decide_eq_false (by omega))
        refine key _ (fun d3 d2 d2' => ?_) (fun d2 d2' => ?_)
        all_goals
          clear h0 h1 h2 hb0 key
          go_enter Tryz.func142, Tryz.ntmps142
          go_wp2
          go_loopw [4] (fun x wr => ∃ k : Nat, k ≤ s.size ∧ wr = w.iter s k ∧ x = .int .i64 (numGo 0 (s.data.toList.take k)) ∧ ∀ j (hj : j < s.size), j < k → isDig s[j] = true) (fun _ wr => s.size - wr.iterPos w.heap.size)
          case atStart => exact ⟨0, by omega, rfl, rfl, fun j _ hj => by omega⟩
          case round =>
            obtain ⟨k, hk, rfl, rfl, hd⟩ := hrel
            have HD := Lib.hid hd
            clear hd
            by_cases hlt : k < s.size
            · have hb : s[k].toNat < 256 := s[k].toNat_lt
              by_cases hdig : isDig s[k] = true
              · have hg := (isDig_iff _).1 hdig
                have hnx := fun ty => run_next_ascii (P := Tryz.prog) w s k ty hlt (by omega)
                have e1 : decide ((s[k].toNat : Int) < 48) = false := decide_eq_false (by omega)
                have e2 : decide ((s[k].toNat : Int) > 57) = false := decide_eq_false (by omega)
                have hgs := numGo_step s k hlt
                have hsm := numGo_small s k (by have := HS9.out; omega) HD.out
                have HD2 : Hid (∀ j (hj : j < s.size), j < k + 1 → isDig s[j] = true) := fun j hj hjk => by
                  by_cases e : j = k
                  · subst e; exact hdig
                  · exact HD.out j hj (by omega)
                have HGS := Lib.hid hgs
                clear hgs hdig
                generalize numGo 0 (s.data.toList.take k) = q at hsm HGS ⊢
                have w1 : IntKind.i64.wrap (10 * (q : Int)) = 10 * (q : Int) := by rw [IntKind.wrap_i64]; omega
                have w2 : IntKind.i32.wrap ((s[k].toNat : Int) - 48) = (s[k].toNat : Int) - 48 := by rw [IntKind.wrap_i32]; omega
                have w2' : IntKind.i64.wrap ((s[k].toNat : Int) - 48) = (s[k].toNat : Int) - 48 := by rw [IntKind.wrap_i64]; omega
                have w3 : IntKind.i64.wrap (10 * (q : Int) + ((s[k].toNat : Int) - 48)) = 10 * (q : Int) + ((s[k].toNat : Int) - 48) := by rw [IntKind.wrap_i64]; omega
                go_wp2
                go_roundw
                case rel => exact ⟨k + 1, by omega, rfl, by rw [HGS.out]; congr 1; omega, HD2.out⟩
                case measure => simp; omega
              · have hdf : isDig s[k] = false := by simpa using hdig
                (have hnb : numB s.data.toList = false := (by (exact numB_all s k hlt hdf)); have HNI := Lib.hid (numI_bad hnb); have HNB := Lib.hid hnb; clear hnb)
                have hnd := (not_congr (isDig_iff s[k])).1 hdig
                by_cases h3 : s[k].toNat < 128
                · have hnx := fun ty => run_next_ascii (P := Tryz.prog) w s k ty hlt h3
                  by_cases h4 : s[k].toNat < 48
                  · have e1 : decide ((s[k].toNat : Int) < 48) = true := decide_eq_true (by omega)
                    clear hdig hdf h3 h4 hnd
                    go_wp2
                    go_ret2
                    exact ⟨by rw [HNI.out, HNB.out]; rfl, HBL.out _⟩
                  · have e1 : decide ((s[k].toNat : Int) < 48) = false := decide_eq_false (by omega)
                    have e2 : decide ((s[k].toNat : Int) > 57) = true := decide_eq_true (by omega)
                    clear hdig hdf h3 h4 hnd
                    go_wp2
                    go_ret2
                    exact ⟨by rw [HNI.out, HNB.out]; rfl, HBL.out _⟩
                · have hnx := fun ty => run_next_any (P := Tryz.prog) w s k ty hlt
                  have hhi := decode_high s k hlt (by omega)
                  generalize (Utf8.decode s k).2 = dw at hnx
                  generalize (Utf8.decode s k).1 = dc at hnx hhi
                  have e1 : decide ((dc : Int) < 48) = false := decide_eq_false (by omega)
                  have e2 : decide ((dc : Int) > 57) = true := decide_eq_true (by omega)
                  have e1' : decide (dc < 48) = false := decide_eq_false (by omega)
                  have e2' : decide (57 < dc) = true := decide_eq_true (by omega)
                  clear hdig hdf h3 hnd hhi
                  go_wp2
                  go_ret2
                  exact ⟨by rw [HNI.out, HNB.out]; rfl, HBL.out _⟩
            · obtain rfl : k = s.size := by omega
              have hnx := fun ty => run_next_end (P := Tryz.prog) w s s.size ty (by omega)
              obtain ⟨hq1, hq2⟩ := num_done s HW.out (fun j hj => HD.out j hj hj)
              have HQ1 := Lib.hid hq1; have HQ2 := Lib.hid hq2
              clear hq1 hq2
              generalize numGo 0 (s.data.toList.take s.size) = q at HQ2 ⊢
              go_wp2
              go_ret2
              exact ⟨by rw [HQ1.out, HQ2.out]; rfl, HBL.out _⟩
end Go.Proofs.YtoklonmiejdgmaaGreatDoor
/- append(xs, ys...): onto a row of one's own, whatever the second slice shows. -/
namespace Go.Proofs.YtoklonmiejdgmaaGreatDoor
set_option linter.unusedVariables false
set_option linter.unusedSimpArgs false
set_option linter.unnecessarySimpa false
open Go.RowKit Go.Sort
theorem wpList_more {P : Program} {w : World} {ops : Array Oper} {rest : List Oper} {o : Oper} {a : Act} {Q : Exit → Act → World → Prop} (hgd : o.guard = none) (s x : Operand) (t : TypeId)
    (ho : o.op = .call { callee := .builtin .append, args := #[s, x], argTypes := #[t, t] })
    (B : Nat) (e : TypeId) (i : TypeInfo) (z : Value) (size bytes : Nat) (ht : P.underlying t = some (.slice e)) (hi : P.info? e = some i) (hz : i.zero = some z)
    (hsize : i.size = size) (hby : i.bytes = bytes) (hzs : z.cells.size = size) (hsz : 0 < size)
    (A : Option Addr) (n cap : Nat) (xs : List Value) (hs : a.eval s = .slice A n cap) (hown : Own w B e size A n cap xs)
    (A2 : Option Addr) (m c : Nat) (ys : List Value) (hx : a.eval x = .slice A2 m c) (hr : Rd w size A2 m ys) (h1 : ∀ u ∈ ys, u.oneCell' = true)
    (h63 : n + m ≤ maxLen) (hbytes : (n + m) * bytes ≤ 140737488355328) (hbase : B ≤ w.heap.size)
    (h : ∀ a' c' w', Own w' B e size a' (n + m) c' (xs ++ ys) → Mod (blk A) w w' → (∀ k ∈ blk a', k ∈ blk A ∨ w.heap.size ≤ k) → wpList P ops Q rest (a.put o.dst (.slice a' (n + m) c')) w') : wpList P ops Q (o :: rest) a w := by
  cases A2 with
  | none =>
    obtain rfl : m = 0 := hr.2.1 rfl
    obtain rfl : ys = [] := List.eq_nil_of_length_eq_zero (by simpa using hr.1)
    have hle := hown.le
    refine wpList_plain hgd fun _ hK => ?_
    have hrun : (Builtin.append_ #[t, t] o.type #[.slice A n cap, .slice none 0 c]).run P w = .ok (.slice A n cap) w := by
      cases A <;> simp [Builtin.append_, run_underlying ht, sizeOf, typeInfo, hi, Builtin.lenOf, Builtin.firstCells, storeCells, hle]
    unfold Oper.wp execOp
    simp only [ho, resolve, invoke, builtin, Sem.run_bind, Sem.run_pure, Result.andThen_ok, List.map_toArray, List.map_cons, List.map_nil, hs, hx, hrun]
    exact hK _ _ (h _ _ _ (by rw [List.append_nil]; exact hown) (Mod.refl _ _) (fun k hk => .inl hk))
  | some ad =>
    have hn : ∀ j u, ys[j]? = some u → w.cell? (ad.add j) = some u := fun j u hu => by
      obtain ⟨b, o', rfl, hb, hc⟩ := hr.2.2 ad rfl (by intro h0; subst h0; simp at hu)
      have e : (⟨b, o', none⟩ : Addr).add j = ⟨b, o' + j, none⟩ := by unfold Addr.add; split <;> simp_all
      rw [e]; exact hc j u hu
    refine wpList_append_own_at w hgd s x t ho B e i z size bytes ht hi hz hsize hby hzs hsz _ n xs hs hown ad m c ys hx hr.1 hn h1 h63 hbytes hbase ?_
    intro v' w' h2 h3 h4 h5
    obtain ⟨a', c', rfl, ho'⟩ := own_form h2
    have hown_blk : ∀ (p : Option Addr) (n c k : Nat), k ∈ blk p → (Value.slice p n c).ownBlock = some k := fun p n c k hk => by
      obtain ⟨q, rfl, rfl⟩ := mem_blk.1 hk
      rfl
    refine h a' c' w' ho' (Mod.ofGrown h3 (fun k hk => ?_)) (fun k hk => ?_)
    · cases A with
      | none => simp [Value.ownBlock] at hk
      | some p => exact mem_blk.2 ⟨p, rfl, by simpa [Value.ownBlock] using hk⟩
    · rw [hown_blk a' _ _ k hk] at h5
      rcases h5 with h5 | h5
      · left
        cases A with
        | none => simp [Value.ownBlock] at h5
        | some p => exact mem_blk.2 ⟨p, rfl, by simpa [Value.ownBlock] using h5.symm⟩
      · right
        injection h5 with h5
        omega
end Go.Proofs.YtoklonmiejdgmaaGreatDoor
/- Package plan and its reference: Split. -/
namespace Go.Proofs.YtoklonmiejdgmaaGreatDoor
set_option linter.unusedVariables false
set_option linter.unusedSimpArgs false
set_option linter.unnecessarySimpa false
open Go.RowKit Go.Sort
set_option maxHeartbeats 2000000
set_option maxRecDepth 100000
set_option linter.unusedVariables false
theorem Own.apart {w : World} {B B' size size' n n' cap cap' : Nat} {e e' : TypeId} {a a' : Option Addr} {xs xs' : List Value} (h : Own w B e size a n cap xs) (h' : Own w B' e' size' a' n' cap' xs') (hn : e ≠ e') : Sep a a' := fun k hk hk' => by
  obtain ⟨p, rfl, rfl⟩ := mem_blk.1 hk
  obtain ⟨q, rfl, hq⟩ := mem_blk.1 hk'
  rcases h.2 with ⟨h0, _⟩ | ⟨g, c, cur, hv, hb, hg, _⟩
  · cases h0
  · rcases h'.2 with ⟨h0, _⟩ | ⟨g', c', cur', hv', hb', hg', _⟩
    · cases h0
    · injection hv with hv1
      injection hv1 with hv1
      injection hv' with hv1'
      injection hv1' with hv1'
      subst hv1 hv1'
      simp only at hq
      subst hq
      rw [hg] at hg'
      injection hg' with hg'
      injection hg' with _ ht
      exact hn ht
def ba (l : List UInt8) : ByteArray := ⟨l.toArray⟩
theorem ba_data (l : List UInt8) : (ba l).data.toList = l := rfl
theorem ba_of (s : ByteArray) : ba s.data.toList = s := rfl
theorem ba_size (l : List UInt8) : (ba l).size = l.length := by rw [← ba_len]; rfl
theorem ba_inj {a b : List UInt8} (h : ba a = ba b) : a = b := by have := congrArg (fun s : ByteArray => s.data.toList) h; exact this
def strC (l : List (List UInt8)) : List Value := l.map fun x => Value.string (ba x)
def bC (l : List UInt8) : List Value := l.map fun b => Value.int .u8 (b.toNat : Int)
theorem strC_len (l : List (List UInt8)) : (strC l).length = l.length := by simp [strC]
theorem bC_len (l : List UInt8) : (bC l).length = l.length := by simp [bC]
theorem strC_one (l : List (List UInt8)) : ∀ u ∈ strC l, u.oneCell' = true := by
  intro u hu
  obtain ⟨x, _, rfl⟩ := List.mem_map.1 hu
  rfl
theorem strC_get (l : List (List UInt8)) (k : Nat) (h : k < l.length) : (strC l)[k]? = some (.string (ba l[k])) := by simp [strC, h]
/-- A row of texts that may be read. -/
structure RdW (w : World) (a : Option Addr) (cap : Nat) (l : List (List UInt8)) : Prop where
  rd : Rd w 1 a l.length (strC l)
  le : l.length ≤ cap
  mx : cap ≤ maxLen
theorem RdW.below {w w' : World} {a : Option Addr} {cap : Nat} {l : List (List UInt8)} (h : RdW w a cap l) (hb : Below w.heap.size w w') : RdW w' a cap l := ⟨h.rd.below hb, h.le, h.mx⟩
theorem RdW.at_ {w : World} {a : Option Addr} {cap : Nat} {l : List (List UInt8)} (h : RdW w a cap l) (k : Nat) (hk : k < l.length) : ∃ b o, a = some ⟨b, o, none⟩ ∧ b < w.heap.size ∧ ∀ j (hj : j < l.length), w.cell? ⟨b, o + j, none⟩ = some (.string (ba l[j])) := by
  have ha : a ≠ none := fun h0 => by have := h.rd.2.1 h0; omega
  obtain ⟨p, rfl⟩ := Option.ne_none_iff_exists'.1 ha
  obtain ⟨b, o, rfl, hb, hc⟩ := h.rd.2.2 p rfl (fun h0 => by have := strC_len l; rw [h0] at this; simp at this; omega)
  exact ⟨b, o, rfl, hb, fun j hj => hc j _ (strC_get l j hj)⟩
theorem split_list (s : ByteArray) (c : UInt8) : (Lib.splitB ⟨#[c]⟩ 0 (Lib.countB s ⟨#[c]⟩) s) = (fieldsC c s.data.toList).map ba := by
  have h1 : Lib.countB s ⟨#[c]⟩ = s.data.toList.count c := Lib.count_one c _
  have h2 := Lib.splitB_data ⟨#[c]⟩ 0 (Lib.countB s ⟨#[c]⟩) s
  rw [h1] at h2 ⊢
  have h3 : Lib.splitK (⟨#[c]⟩ : ByteArray).data.toList 0 (s.data.toList.count c) s.data.toList = fieldsC c s.data.toList := splitK_one c _
  rw [h3] at h2
  rw [← h2, List.map_map]
  exact (List.map_id' _).symm
theorem split1L (s : ByteArray) (c : UInt8) (w : World) (hs : s.size < 4294967281) : Calls Tryz.prog 48 #[.string s, .string ⟨#[c]⟩] w fun e w' =>
    e = .returned (.slice (some ⟨w.heap.size, 0, none⟩) (fieldsC c s.data.toList).length (fieldsC c s.data.toList).length) ∧ w' = w.alloc (.cells (strC (fieldsC c s.data.toList)).toArray 9) := by
  have h := split1 s c w hs
  have h1 : Lib.countB s ⟨#[c]⟩ + 1 = (fieldsC c s.data.toList).length := by rw [fieldsC_len]; exact congrArg (· + 1) (Lib.count_one c _)
  rw [h1, split_list, List.map_map] at h
  exact h
def wordsB (s : List UInt8) : Bool := !(fieldsC 32 s).any List.isEmpty
theorem ba_isEmpty (x : List UInt8) : (ba x).toList.isEmpty = x.isEmpty := by rw [ByteArray.toList_eq, ba_data]
theorem wordsB_no {s : List UInt8} {k : Nat} (h : k < (fieldsC 32 s).length) (he : (fieldsC 32 s)[k].isEmpty = true) : wordsB s = false := by
  rw [wordsB, Bool.not_eq_false', List.any_eq_true]
  exact ⟨_, List.getElem_mem h, he⟩
theorem wordsB_yes {s : List UInt8} (h : ∀ k (hk : k < (fieldsC 32 s).length), (fieldsC 32 s)[k].isEmpty = false) : wordsB s = true := by
  rw [wordsB, Bool.not_eq_true', List.any_eq_false]
  intro x hx
  obtain ⟨k, hk, rfl⟩ := List.mem_iff_getElem.1 hx
  simp [h k hk]
def SplitPost (s : List UInt8) (w : World) (e : Ending) (w' : World) : Prop :=
  (wordsB s = true → ∃ a cap, e = .returned (.tuple #[.slice a (fieldsC 32 s).length cap, .bool true]) ∧ RdW w' a cap (fieldsC 32 s)) ∧ (wordsB s = false → e = .returned (.tuple #[.slice none 0 0, .bool false])) ∧ Below w.heap.size w w'
theorem SplitPost.yes {s : List UInt8} {w w' : World} {e : Ending} {a : Option Addr} {cap : Nat} (h : wordsB s = true) (he : e = .returned (.tuple #[.slice a (fieldsC 32 s).length cap, .bool true])) (hr : RdW w' a cap (fieldsC 32 s)) (hb : Below w.heap.size w w') : SplitPost s w e w' :=
  ⟨fun _ => ⟨a, cap, he, hr⟩, fun h0 => (by rw [h] at h0; cases h0), hb⟩
theorem SplitPost.no {s : List UInt8} {w w' : World} {e : Ending} (h : wordsB s = false) (he : e = .returned (.tuple #[.slice none 0 0, .bool false])) (hb : Below w.heap.size w w') : SplitPost s w e w' :=
  ⟨fun h0 => (by rw [h] at h0; cases h0), fun _ => he, hb⟩
theorem split_any (s : ByteArray) (hs : s.size ≤ 100000000) (w : World) : Calls Tryz.prog 52 #[.string s] w (SplitPost s.data.toList w) := by
  have HS := Lib.hid (split1L s 32 w (by omega))
  have hlen := fieldsC_len 32 s.data.toList
  have hcl : s.data.toList.count 32 ≤ s.size := by rw [← ba_len]; exact List.count_le_length
  have NB : Hid (ObjAt (w.alloc (.cells (strC (fieldsC 32 s.data.toList)).toArray 9)) w.heap.size 9 (strC (fieldsC 32 s.data.toList))) := ObjAt.new w _ _
  have BL : Hid (Below w.heap.size w (w.alloc (.cells (strC (fieldsC 32 s.data.toList)).toArray 9))) := (Below.refl _ _).alloc (Nat.le_refl _) _
  obtain ⟨L, hL⟩ : ∃ L, L = fieldsC 32 s.data.toList := ⟨_, rfl⟩
  have HPY : Hid (∀ e w' a cap, (∀ k (hk : k < L.length), L[k].isEmpty = false) → e = Ending.returned (.tuple #[.slice a L.length cap, .bool true]) → RdW w' a cap L → Below w.heap.size w w' → SplitPost s.data.toList w e w') := fun e w' a cap h1 h2 h3 h4 => by
    subst hL; exact SplitPost.yes (wordsB_yes h1) h2 h3 h4
  have HPN : Hid (∀ e w' k (hk : k < L.length), L[k].isEmpty = true → e = Ending.returned (.tuple #[.slice none 0 0, .bool false]) → Below w.heap.size w w' → SplitPost s.data.toList w e w') := fun e w' k hk h1 h2 h4 => by
    subst hL; exact SplitPost.no (wordsB_no hk h1) h2 h4
  rw [← hL] at HS NB BL hlen
  have HL1 : Hid (L.length ≤ 100000001) := by rw [Hid]; omega
  clear hL hlen hcl
  go_enter Tryz.func52, Tryz.ntmps52
  go_wp2_with (go_at_call 48; refine HS.out.mono ?_; rintro e w' ⟨rfl, hw⟩; rw [hw])
  clear HS
  generalize w.alloc (.cells (strC L).toArray 9) = W at NB BL ⊢
  have hmx : L.length ≤ 100000001 := HL1.out
  go_loop [11] (fun i => ∃ k : Nat, k ≤ L.length ∧ i = .int .i64 k ∧ ∀ j (hj : j < L.length), j < k → L[j].isEmpty = false) (fun i => L.length - (intOf i).toNat)
  case atStart => exact ⟨0, by omega, rfl, fun j _ hj => by omega⟩
  case round =>
    obtain ⟨k, hk, rfl, hd⟩ := hrel
    have HD := Lib.hid hd
    clear hd
    by_cases hlt : k < L.length
    · have d1 : decide ((k : Int) < (L.length : Int)) = true := decide_eq_true (by omega)
      have d1' : decide (k < L.length) = true := decide_eq_true hlt
      have w1 : IntKind.i64.wrap ((k : Int) + 1) = (k : Int) + 1 := by rw [IntKind.wrap_i64]; omega
      have c0 := NB.out.cell k _ (strC_get L k hlt)
      obtain ⟨x, hx⟩ : ∃ x, x = L[k] := ⟨_, rfl⟩
      rw [← hx] at c0
      cases he : x.isEmpty with
      | true =>
        have de : (ba x).toList.isEmpty = true := by rw [ba_isEmpty, he]
        have HE : Hid (L[k].isEmpty = true) := by rw [Hid, ← hx, he]
        clear he hx
        go_wp2
        go_ret2
        exact HPN.out _ _ k hlt HE.out rfl BL.out
      | false =>
        have de : (ba x).toList.isEmpty = false := by rw [ba_isEmpty, he]
        have HD2 : Hid (∀ j (hj : j < L.length), j < k + 1 → L[j].isEmpty = false) := fun j hj hjk => by
          by_cases e : j = k
          · subst e; rw [← hx, he]
          · exact HD.out j hj (by omega)
        clear he hx
        go_wp2
        go_round
        case rel => exact ⟨k + 1, by omega, by go_num, HD2.out⟩
        case measure => simp [intOf]; omega
    · have d1 : decide ((k : Int) < (L.length : Int)) = false := decide_eq_false (by omega)
      have d1' : decide (k < L.length) = false := decide_eq_false hlt
      obtain rfl : k = L.length := by omega
      go_wp2
      go_ret2
      refine HPY.out _ _ _ _ (fun j hj => HD.out j hj hj) rfl ⟨⟨by rw [strC_len, Nat.mul_one], (fun h0 => by cases h0), fun p hp _ => ?_⟩, Nat.le_refl _, by have := HL1.out; unfold maxLen; omega⟩ BL.out
      injection hp with hp
      subst hp
      exact ⟨w.heap.size, 0, rfl, NB.out.lt, fun j u hu => by rw [Nat.zero_add]; exact NB.out.cell j u hu⟩
end Go.Proofs.YtoklonmiejdgmaaGreatDoor
/- Package script and its reference: digits of bytes, there and back: plain. -/
namespace Go.Proofs.YtoklonmiejdgmaaGreatDoor
set_option linter.unusedVariables false
set_option linter.unusedSimpArgs false
set_option linter.unnecessarySimpa false
open Go.RowKit Go.Sort
set_option maxHeartbeats 2000000
set_option maxRecDepth 100000
set_option linter.unusedVariables false
def hexL : List UInt8 := [48, 49, 50, 51, 52, 53, 54, 55, 56, 57, 97, 98, 99, 100, 101, 102]
def hexD (n : Nat) : UInt8 := hexL.getD n 0
def hxB (b : UInt8) : List UInt8 := [hexD (b.toNat / 16), hexD (b.toNat % 16)]
/-- Bytes in digits. -/
def hexV (s : List UInt8) : List UInt8 := if s = [] then [45] else s.flatMap hxB
/-- A digit's value. -/
def hvB (b : UInt8) : Bool := (decide (48 ≤ b.toNat) && decide (b.toNat ≤ 57)) || (decide (97 ≤ b.toNat) && decide (b.toNat ≤ 102))
def hvN (b : UInt8) : Nat := if b.toNat ≤ 57 then b.toNat - 48 else b.toNat - 87
def unPair : List UInt8 → List UInt8
  | a :: b :: r => UInt8.ofNat (16 * hvN a + hvN b) :: unPair r
  | _ => []
def unB (s : List UInt8) : Bool := decide (s = [45]) || (decide (s ≠ []) && (decide (s.length % 2 = 0) && s.all hvB))
def unV (s : List UInt8) : List UInt8 := if s = [45] then [] else if unB s then unPair s else []
theorem hexD_ok : ∀ n : Fin 16, hvB (hexD n.val) = true ∧ hvN (hexD n.val) = n.val := by decide +kernel
theorem hexD_all : ∀ b : Fin 256, hvB (UInt8.ofNat b.val) = true → hexD (hvN (UInt8.ofNat b.val)) = UInt8.ofNat b.val ∧ hvN (UInt8.ofNat b.val) < 16 := by decide +kernel
theorem hexD_back {b : UInt8} (h : hvB b = true) : hexD (hvN b) = b ∧ hvN b < 16 := by
  have := hexD_all ⟨b.toNat, b.toNat_lt⟩
  simp only [UInt8.ofNat_toNat] at this
  exact this h
theorem hxB_pair (b : UInt8) (r : List UInt8) : unPair (hxB b ++ r) = b :: unPair r := by
  have hb := b.toNat_lt
  have h1 := (hexD_ok ⟨b.toNat / 16, by omega⟩).2
  have h2 := (hexD_ok ⟨b.toNat % 16, by omega⟩).2
  simp only at h1 h2
  show unPair (hexD (b.toNat / 16) :: hexD (b.toNat % 16) :: r) = _
  rw [unPair, h1, h2, show 16 * (b.toNat / 16) + b.toNat % 16 = b.toNat by omega, UInt8.ofNat_toNat]
theorem flat_pair : ∀ s : List UInt8, unPair (s.flatMap hxB) = s
  | [] => rfl
  | b :: s => by rw [List.flatMap_cons, hxB_pair, flat_pair s]
theorem flat_len : ∀ s : List UInt8, (s.flatMap hxB).length = 2 * s.length
  | [] => rfl
  | b :: s => by rw [List.flatMap_cons, List.length_append, flat_len s]; simp [hxB]; omega
theorem flat_all (s : List UInt8) : (s.flatMap hxB).all hvB = true := by
  rw [List.all_eq_true]
  intro x hx
  obtain ⟨b, _, hb⟩ := List.mem_flatMap.1 hx
  have hb' := b.toNat_lt
  simp only [hxB, List.mem_cons, List.not_mem_nil, or_false] at hb
  rcases hb with rfl | rfl
  · exact (hexD_ok ⟨b.toNat / 16, by omega⟩).1
  · exact (hexD_ok ⟨b.toNat % 16, by omega⟩).1
theorem hex_ne (s : List UInt8) : hexV s ≠ [] := by
  unfold hexV
  split
  · simp
  · rename_i h
    cases s with
    | nil => exact absurd rfl h
    | cons b s => simp [hxB]
theorem flat_45 (s : List UInt8) : s.flatMap hxB ≠ [45] := fun e => by
  have := congrArg List.length e
  rw [flat_len] at this
  simp at this; omega
/-- Bytes' digits are read as these bytes. -/
theorem un_hex (s : List UInt8) : unB (hexV s) = true ∧ unV (hexV s) = s := by
  unfold hexV
  split
  · rename_i h; subst h; exact ⟨rfl, rfl⟩
  · rename_i h
    have h1 : unB (s.flatMap hxB) = true := by
      have hne : s.flatMap hxB ≠ [] := fun e => by
        have := congrArg List.length e
        rw [flat_len] at this
        exact h (List.eq_nil_of_length_eq_zero (by simp at this; omega))
      unfold unB
      rw [decide_eq_true hne, flat_all, flat_len, decide_eq_true (show 2 * s.length % 2 = 0 by omega)]; simp
    refine ⟨h1, ?_⟩
    unfold unV
    rw [if_neg (flat_45 s), if_pos h1, flat_pair]
theorem pair_back : ∀ (n : Nat) (s : List UInt8), s.length = 2 * n → s.all hvB = true → (unPair s).flatMap hxB = s
  | 0, s, h, _ => by rw [show s = [] from List.eq_nil_of_length_eq_zero (by omega)]; rfl
  | n + 1, s, h, ha => by
    match s, h with
    | a :: b :: r, h =>
      simp only [List.all_cons, Bool.and_eq_true] at ha
      obtain ⟨h1, h2⟩ := hexD_back ha.1
      obtain ⟨h3, h4⟩ := hexD_back ha.2.1
      have hr : r.length = 2 * n := by simp at h; omega
      rw [unPair, List.flatMap_cons, pair_back n r hr ha.2.2]
      have e : (UInt8.ofNat (16 * hvN a + hvN b)).toNat = 16 * hvN a + hvN b := by simp; omega
      unfold hxB
      rw [e, show (16 * hvN a + hvN b) / 16 = hvN a by omega, show (16 * hvN a + hvN b) % 16 = hvN b by omega, h1, h3]; rfl
theorem pair_len : ∀ (n : Nat) (s : List UInt8), s.length = 2 * n → (unPair s).length = n
  | 0, s, h => by rw [show s = [] from List.eq_nil_of_length_eq_zero (by omega)]; rfl
  | n + 1, s, h => by
    match s, h with
    | a :: b :: r, h => rw [unPair, List.length_cons, pair_len n r (by simp at h; omega)]
/-- A text that is digits is those of its bytes. -/
theorem hex_un {s : List UInt8} (h : unB s = true) : hexV (unV s) = s := by
  unfold unV
  by_cases h45 : s = [45]
  · rw [if_pos h45, h45]; rfl
  · rw [if_neg h45, if_pos h]
    unfold unB at h
    rw [decide_eq_false h45, Bool.false_or, Bool.and_eq_true, Bool.and_eq_true, decide_eq_true_eq, decide_eq_true_eq] at h
    obtain ⟨h1, h2, h3⟩ := h
    have hl : s.length = 2 * (s.length / 2) := by omega
    have hne : unPair s ≠ [] := fun e => by
      have h0 : (unPair s).length = 0 := by rw [e]; rfl
      rw [pair_len _ s hl] at h0
      have h4 : s.length ≠ 0 := fun e => h1 (List.eq_nil_of_length_eq_zero e)
      omega
    unfold hexV
    rw [if_neg hne, pair_back _ s hl h3]
theorem unPair_snoc : ∀ (n : Nat) (s : List UInt8) (a b : UInt8), s.length = 2 * n → unPair (s ++ [a, b]) = unPair s ++ [UInt8.ofNat (16 * hvN a + hvN b)]
  | 0, s, a, b, h => by rw [show s = [] from List.eq_nil_of_length_eq_zero (by omega)]; rfl
  | n + 1, s, a, b, h => by
    match s, h with
    | x :: y :: r, h =>
      rw [List.cons_append, List.cons_append, unPair, unPair, unPair_snoc n r a b (by simp at h; omega)]; rfl
end Go.Proofs.YtoklonmiejdgmaaGreatDoor
/- The library's builder text at this seat: laid by the kit's tool (lay-shelf, lay-plain), cut to what the proofs use. -/
/- (no text: the library contracts lie in TxLib) -/
/- The reference's Split. -/
namespace Go.Proofs.YtoklonmiejdgmaaGreatDoor
set_option linter.unusedVariables false
set_option linter.unusedSimpArgs false
set_option linter.unnecessarySimpa false
open Go.RowKit Go.Sort
set_option maxHeartbeats 2000000
set_option maxRecDepth 100000
set_option linter.unusedVariables false
theorem info_byte : (Tryz.prog.info? 5).map (fun i => (i.zero, i.size, i.bytes)) = some (some (.int .u8 0), 1, 1) := by kernel_rfl
theorem foldl_pushN (ns : List UInt8) : ∀ (s : ByteArray), ((ns.map fun b => ((b.toNat : Nat) : Int)).foldl (fun r n => r.push (UInt8.ofNat n.toNat)) s) = ⟨(s.data.toList ++ ns).toArray⟩ := by
  induction ns with
  | nil => intro s; simp
  | cons n ns ih =>
    intro s
    rw [List.map_cons, List.foldl_cons, ih]
    simp [ByteArray.push]
theorem run_own_str (w : World) (B n : Nat) (a : Option Addr) (cap : Nat) (l : List UInt8) (hown : Own w B 5 1 a n cap (bC l)) :
    (convert 76 9 (.slice a n cap)).run Tryz.prog w = .ok (.string (ba l)) w := by
  have hn : n = l.length := by have := hown.len; rw [bC_len] at this; omega
  rcases hown.form with ⟨rfl, h0, _⟩ | ⟨g, rfl, _⟩
  · have hx : l = [] := List.eq_nil_of_length_eq_zero (by omega)
    subst hx
    subst h0
    rw [run_convert_bytes_string w 76 9 5 none 0 cap Tryz.underlying76 Tryz.underlying5 Tryz.underlying9]
    rfl
  · rw [run_convert_bytes_string w 76 9 5 _ n cap Tryz.underlying76 Tryz.underlying5 Tryz.underlying9]
    rw [run_bytesToString w ⟨g, 0, none⟩ n cap (l.map fun b => ((b.toNat : Nat) : Int)) ?_, foldl_pushN]
    · rfl
    · rw [hn]
      have hc : ∀ j u, (bC l)[j]? = some u → w.cell? ((⟨g, 0, none⟩ : Addr).add j) = some u := fun j u hu => by
        have e : (⟨g, 0, none⟩ : Addr).add j = ⟨g, j, none⟩ := by unfold Addr.add; split <;> simp_all
        rw [e]; exact hown.cell j u hu
      have := run_loadCells_list (P := Tryz.prog) w ⟨g, 0, none⟩ (bC l) hc
      rw [bC_len] at this
      rw [this]
      simp [bC, List.map_map, Function.comp_def]
/-- Two rows of one's own, of texts and of bytes, beside each other. -/
structure SP (w W : World) (ao : Option Addr) (co : Nat) (done : List (List UInt8)) (ab : Option Addr) (cb : Nat) (cur : List UInt8) : Prop where
  o : Own W w.heap.size 9 1 ao done.length co (strC done)
  b : Own W w.heap.size 5 1 ab cur.length cb (bC cur)
  bel : Below w.heap.size w W
theorem SP.below {w W W' : World} {ao ab : Option Addr} {co cb : Nat} {done : List (List UInt8)} {cur : List UInt8} (h : SP w W ao co done ab cb cur) (hb : Below W.heap.size W W') : SP w W' ao co done ab cb cur := ⟨h.o.below hb, h.b.below hb, h.bel.trans (hb.mono h.bel.size)⟩
theorem bC_snoc (l : List UInt8) (b : UInt8) : bC (l ++ [b]) = bC l ++ [.int .u8 (b.toNat : Int)] := by simp [bC]
theorem strC_snoc (l : List (List UInt8)) (x : List UInt8) : strC (l ++ [x]) = strC l ++ [.string (ba x)] := by simp [strC]
theorem own_rdW {w : World} {B : Nat} {a : Option Addr} {cap : Nat} {l : List (List UInt8)} (h : Own w B 9 1 a l.length cap (strC l)) : RdW w a cap l := ⟨h.rd, h.le, h.capMax⟩
theorem rsplit_any (s : ByteArray) (hs : s.size ≤ 100000000) (w : World) : Calls Tryz.prog 57 #[.string s] w (SplitPost s.data.toList w) := by
  obtain ⟨ib, hib, hzb, hzb1, hzb2⟩ := info_parts info_byte
  obtain ⟨is, his, hzs, hzs1, hzs2⟩ := info_parts info_str
  obtain ⟨F, hF⟩ : ∃ F, F = fieldsC 32 s.data.toList := ⟨_, rfl⟩
  have HPY : Hid (∀ e w' a cap, (∀ x ∈ F, x.isEmpty = false) → e = Ending.returned (.tuple #[.slice a F.length cap, .bool true]) → RdW w' a cap F → Below w.heap.size w w' → SplitPost s.data.toList w e w') := fun e w' a cap h1 h2 h3 h4 => by
    subst hF; exact SplitPost.yes (wordsB_yes (fun k hk => h1 _ (List.getElem_mem hk))) h2 h3 h4
  have HPN : Hid (∀ e w', (∃ x ∈ F, x.isEmpty = true) → e = Ending.returned (.tuple #[.slice none 0 0, .bool false]) → Below w.heap.size w w' → SplitPost s.data.toList w e w') := fun e w' h1 h2 h4 => by
    subst hF
    obtain ⟨x, hx, h1⟩ := h1
    obtain ⟨k, hk, rfl⟩ := List.mem_iff_getElem.1 hx
    exact SplitPost.no (wordsB_no hk h1) h2 h4
  have HS0 : Hid (SP w w none 0 [] none 0 []) := ⟨Own.nil _ _ _ _, Own.nil _ _ _ _, Below.refl _ _⟩
  have HF := Lib.hid hF
  clear hF
  go_enter Tryz.func57, Tryz.ntmps57
  go_wp2
  go_loopw [4, 5, 6] (fun o v i wr => ∃ (k : Nat) (done : List (List UInt8)) (cur : List UInt8) (ao ab : Option Addr) (co cb : Nat), k ≤ s.size ∧ i = .int .i64 k ∧ o = .slice ao done.length co ∧ v = .slice ab cur.length cb ∧ SP w wr ao co done ab cb cur ∧ done.length ≤ k ∧ cur.length ≤ k ∧ (∀ x ∈ done, x.isEmpty = false) ∧ (∀ b ∈ cur, b ≠ 32) ∧ F = done ++ fieldsC 32 (cur ++ s.data.toList.drop k)) (fun _ _ i _ => s.size - (intOf i).toNat)
  case atStart => exact ⟨0, [], [], none, none, 0, 0, by omega, rfl, rfl, rfl, HS0.out, Nat.le_refl _, Nat.le_refl _, by simp, by simp, HF.out⟩
  case round =>
    clear HS0
    obtain ⟨k, done, cur, ao, ab, co, cb, hk, rfl, rfl, rfl, hsp, hdl, hcl, hdn, hcn, hrel⟩ := hrel
    have SPH := Lib.hid hsp
    have HDN := Lib.hid hdn
    have HCN := Lib.hid hcn
    have HREL := Lib.hid hrel
    have hsz := hsp.bel.size
    clear hsp hdn hcn hrel
    by_cases hlt : k < s.size
    · have d1 : decide ((k : Int) < (s.size : Int)) = true := decide_eq_true (by omega)
      have d1' : decide (k < s.size) = true := decide_eq_true hlt
      have w1 : IntKind.i64.wrap ((k : Int) + 1) = (k : Int) + 1 := by rw [IntKind.wrap_i64]; omega
      have hdrop : s.data.toList.drop k = s[k] :: s.data.toList.drop (k + 1) := List.drop_eq_getElem_cons (by rw [ba_len]; exact hlt)
      by_cases h32 : s[k].toNat = 32
      · have hb32 : s[k] = 32 := by rw [← UInt8.toNat_inj]; exact h32
        have dn : ((s[k].toNat : Int) != 32) = false := by simp [h32]
        have HR2 : Hid (F = (done ++ [cur]) ++ fieldsC 32 ([] ++ s.data.toList.drop (k + 1))) := by
          rw [Hid, HREL.out, hdrop, hb32, fieldsC_app 32 cur _ HCN.out, List.append_assoc]; rfl
        by_cases hc0 : cur.length = 0
        · have dc : ((cur.length : Int) == 0) = true := by simp [hc0]
          have HEM : Hid (∃ x ∈ F, x.isEmpty = true) := ⟨cur, by rw [HR2.out]; simp, by rw [List.isEmpty_iff]; exact List.eq_nil_of_length_eq_zero hc0⟩
          clear hc0 hdrop hb32 h32
          go_wp2
          go_ret2
          exact HPN.out _ _ HEM.out rfl SPH.out.bel
        · have dc : ((cur.length : Int) == 0) = false := by rw [beq_eq_false_iff_ne]; omega
          have dc' : (cur.length == 0) = false := by rw [beq_eq_false_iff_ne]; omega
          have HCE : Hid (cur.isEmpty = false) := by rw [Hid]; cases cur with | nil => simp at hc0 | cons => rfl
          have hconv := run_own_str wr _ _ _ _ _ SPH.out.b
          clear hc0 hdrop hb32 h32
          go_wp2_with (at_builtin; (refine wpList_own rfl (.tmp 26) (.tmp 29) 54 rfl w.heap.size 9 is _ 1 16 Tryz.underlying54 his hzs hzs1 hzs2 rfl (by omega) ao done.length co (strC done) rfl ((SPH.out.below ((Below.refl _ _).alloc (Nat.le_refl _) _)).o) wr.heap.size [.string (ba cur)] rfl (new_block _ _ _ rfl) rfl (by simp [Value.oneCell']) (by simp only [maxLen]; omega) (by omega) (by simp; omega) ?_); intro g' c' w2 hown1 hmod1 _; have HO := Lib.hid hown1; have HM : Hid (Mod (blk ao) wr w2) := ((Mod.ofBelow ((Below.refl wr.heap.size wr).alloc (Nat.le_refl _) _)).trans hmod1); clear hown1 hmod1)
          have SP2 : Hid (SP w w2 (some ⟨g', 0, none⟩) c' (done ++ [cur]) none 0 []) := ⟨by rw [strC_snoc, List.length_append]; exact HO.out, Own.nil _ _ _ _, SPH.out.bel.trans (HM.out.below (fun j hj => (SPH.out.o.ge j hj).1) hsz)⟩
          go_roundw
          case rel => exact ⟨k + 1, done ++ [cur], [], some ⟨g', 0, none⟩, none, c', 0, by omega, by go_num, by rw [List.length_append]; rfl, rfl, SP2.out, by simp; omega, by simp, fun x hx => by
            rcases List.mem_append.1 hx with h | h
            · exact HDN.out x h
            · rw [List.mem_singleton.1 h]; exact HCE.out, by simp, HR2.out⟩
          case measure => simp [intOf]; omega
      · have hb32 : s[k] ≠ 32 := fun e => h32 (by rw [e]; rfl)
        have dn : ((s[k].toNat : Int) != 32) = true := by simp; omega
        have HR2 : Hid (F = done ++ fieldsC 32 ((cur ++ [s[k]]) ++ s.data.toList.drop (k + 1))) := by
          rw [Hid, HREL.out, hdrop, List.append_assoc]; rfl
        have HB2 : Hid (∀ b ∈ cur ++ [s[k]], b ≠ 32) := fun b hb => by
          rcases List.mem_append.1 hb with h | h
          · exact HCN.out b h
          · rw [List.mem_singleton.1 h]; exact hb32
        have hx : s[k].toNat < 256 := s[k].toNat_lt
        clear hdrop hb32 h32
        go_wp2_with (at_builtin; (refine wpList_own rfl (.tmp 17) (.tmp 21) 76 rfl w.heap.size 5 ib _ 1 1 Tryz.underlying76 hib hzb hzb1 hzb2 rfl (by omega) ab cur.length cb (bC cur) rfl ((SPH.out.below ((Below.refl _ _).alloc (Nat.le_refl _) _)).b) wr.heap.size [.int .u8 (s[k].toNat : Int)] rfl (new_block _ _ _ rfl) rfl (by simp [Value.oneCell']) (by simp only [maxLen]; omega) (by omega) (by simp; omega) ?_); intro g' c' w2 hown1 hmod1 _; have HO := Lib.hid hown1; have HM : Hid (Mod (blk ab) wr w2) := ((Mod.ofBelow ((Below.refl wr.heap.size wr).alloc (Nat.le_refl _) _)).trans hmod1); clear hown1 hmod1)
        have SP2 : Hid (SP w w2 ao co done (some ⟨g', 0, none⟩) c' (cur ++ [s[k]])) := ⟨SPH.out.o.mod HM.out (SPH.out.o.apart SPH.out.b (by decide)), by rw [bC_snoc, List.length_append]; exact HO.out, SPH.out.bel.trans (HM.out.below (fun j hj => (SPH.out.b.ge j hj).1) hsz)⟩
        go_roundw
        case rel => exact ⟨k + 1, done, cur ++ [s[k]], ao, some ⟨g', 0, none⟩, co, c', by omega, by go_num, rfl, by rw [List.length_append]; rfl, SP2.out, by omega, by simp; omega, HDN.out, HB2.out, HR2.out⟩
        case measure => simp [intOf]; omega
    · have d1 : decide ((k : Int) < (s.size : Int)) = false := decide_eq_false (by omega)
      have d1' : decide (k < s.size) = false := decide_eq_false hlt
      have HR2 : Hid (F = done ++ [cur]) := by
        rw [Hid, HREL.out, List.drop_eq_nil_of_le (by rw [ba_len]; omega), List.append_nil, fieldsC_free 32 cur HCN.out]
      by_cases hc0 : cur.length = 0
      · have dc : ((cur.length : Int) == 0) = true := by simp [hc0]
        have HEM : Hid (∃ x ∈ F, x.isEmpty = true) := ⟨cur, by rw [HR2.out]; simp, by rw [List.isEmpty_iff]; exact List.eq_nil_of_length_eq_zero hc0⟩
        clear hc0
        go_wp2
        go_ret2
        exact HPN.out _ _ HEM.out rfl SPH.out.bel
      · have dc : ((cur.length : Int) == 0) = false := by rw [beq_eq_false_iff_ne]; omega
        have dc' : (cur.length == 0) = false := by rw [beq_eq_false_iff_ne]; omega
        have HCE : Hid (cur.isEmpty = false) := by rw [Hid]; cases cur with | nil => simp at hc0 | cons => rfl
        have hconv := run_own_str wr _ _ _ _ _ SPH.out.b
        clear hc0
        go_wp2_with (at_builtin; (refine wpList_own rfl (.tmp 34) (.tmp 37) 54 rfl w.heap.size 9 is _ 1 16 Tryz.underlying54 his hzs hzs1 hzs2 rfl (by omega) ao done.length co (strC done) rfl ((SPH.out.below ((Below.refl _ _).alloc (Nat.le_refl _) _)).o) wr.heap.size [.string (ba cur)] rfl (new_block _ _ _ rfl) rfl (by simp [Value.oneCell']) (by simp only [maxLen]; omega) (by omega) (by simp; omega) ?_); intro g' c' w2 hown1 hmod1 _; have HO := Lib.hid hown1; have HM : Hid (Mod (blk ao) wr w2) := ((Mod.ofBelow ((Below.refl wr.heap.size wr).alloc (Nat.le_refl _) _)).trans hmod1); clear hown1 hmod1)
        go_ret2
        have hle : F.length = done.length + 1 := by rw [HR2.out]; simp
        refine HPY.out _ _ (some ⟨g', 0, none⟩) c' (fun x hx => ?_) (by rw [hle]; rfl) (own_rdW (B := w.heap.size) (by rw [hle, HR2.out, strC_snoc]; exact HO.out)) (SPH.out.bel.trans (HM.out.below (fun j hj => (SPH.out.o.ge j hj).1) hsz))
        rw [HR2.out] at hx
        rcases List.mem_append.1 hx with h | h
        · exact HDN.out x h
        · rw [List.mem_singleton.1 h]; exact HCE.out
theorem ba_append (a b : List UInt8) : (⟨a.toArray⟩ : ByteArray) ++ ⟨b.toArray⟩ = ⟨(a ++ b).toArray⟩ := by
  apply ByteArray.ext
  rw [ByteArray.data_append]; simp
theorem ba_size' (a : List UInt8) : (⟨a.toArray⟩ : ByteArray).size = a.length := ba_size a
end Go.Proofs.YtoklonmiejdgmaaGreatDoor
/- strings.Builder: what its methods leave (after the shelf's worked contracts). -/
namespace Go.Proofs.YtoklonmiejdgmaaGreatDoor
set_option linter.unusedVariables false
set_option linter.unusedSimpArgs false
set_option linter.unnecessarySimpa false
open Go.RowKit Go.Sort
set_option maxHeartbeats 2000000
set_option maxRecDepth 100000
set_option linter.unusedVariables false
theorem bld_size : (Tryz.prog.info? 78).map (·.size) = some 2 := by kernel_rfl
theorem bld_und : Tryz.prog.underlying 75 = some (.pointer 78) := by kernel_rfl
theorem uptr_und : Tryz.prog.underlying 169 = some .unsafePointer := by kernel_rfl
theorem copy_used (b : Nat) (w : World) (h0 : w.cell? ⟨b, 0, none⟩ = some (.pointer (some ⟨b, 0, none⟩))) :
    Calls Tryz.prog 64 #[.pointer (some ⟨b, 0, none⟩)] w fun e w' => e = .returned (.tuple #[]) ∧ w' = w := by
  obtain ⟨j, hj, _⟩ := Option.map_eq_some_iff.1 bld_size
  go_enter Tryz.func64, Tryz.ntmps64
  go_wp2
  rw [Lib.run_neq_ptr_same w _ bld_und hj]
  go_wp2
  go_end0
  exact ⟨rfl, rfl⟩
theorem copy_fresh (b : Nat) (w : World) (h0 : w.cell? ⟨b, 0, none⟩ = some (.pointer none)) (hsh : w.shape? b = some (78, 2)) (hfz : w.frozen? ⟨b, 0, none⟩ = false) :
    Calls Tryz.prog 64 #[.pointer (some ⟨b, 0, none⟩)] w fun e w' => e = .returned (.tuple #[]) ∧ w' = w.setCell ⟨b, 0, none⟩ (.pointer (some ⟨b, 0, none⟩)) := by
  obtain ⟨j, hj, hjs⟩ := Option.map_eq_some_iff.1 bld_size
  have hlies : liesAt Tryz.prog Tryz.prog.depth 78 (2 / Tryz.prog.cellsOf 78) 0 78 1 = true := by kernel_rfl
  go_enter Tryz.func64, Tryz.ntmps64
  go_wp2
  rw [Lib.run_to_unsafe w ⟨b, 0, none⟩ bld_und uptr_und hj (by rw [hjs]; decide) hsh (Nat.zero_lt_succ 1)]
  simp only [Result.andThen]
  rw [Oper.upon_value]
  go_wp2
  rw [run_callFunc_extern Tryz.func109 (by kernel_rfl) (by kernel_rfl) (by kernel_rfl) (e := Extern.AbiNoEscape.same) (by kernel_rfl)]
  rw [Lib.run_noEscape]
  simp only [Result.andThen]
  rw [Oper.upon_value]
  go_wp2
  rw [Lib.run_from_unsafe w ⟨b, 0, none⟩ uptr_und bld_und hj hsh hlies]
  simp only [Result.andThen]
  rw [Oper.upon_value]
  go_wp2
  go_end0
  exact ⟨rfl, rfl⟩
/-- A builder in block b, of the call's own, that holds the bytes l. -/
def BIs (w : World) (B b : Nat) (l : List UInt8) : Prop := Lib.IsBuilderF 78 5 B b (Lib.byteCells l) w
theorem copy_any (B b : Nat) (bs : List Value) (w : World) (h : Lib.IsBuilderF 78 5 B b bs w) :
    Calls Tryz.prog 64 #[.pointer (some ⟨b, 0, none⟩)] w fun e w' => e = .returned (.tuple #[]) ∧ (Lib.BuilderAtF 78 5 B b (.pointer (some ⟨b, 0, none⟩)) bs w' ∧ Below B w w' ∧ Lib.OthersKept 5 (some b) w w') := by
  rcases h with h | h
  · refine (copy_fresh b w h.cell0 h.shape h.frozen0).mono ?_
    rintro e w' ⟨rfl, rfl⟩
    exact ⟨rfl, h.used _, (Below.refl B w).setCell (p := ⟨b, 0, none⟩) h.1 _, (Lib.OthersKept.refl _ _ w).setCell ⟨b, 0, none⟩ rfl _⟩
  · refine (copy_used b w h.cell0).mono ?_
    rintro e w' ⟨rfl, rfl⟩
    exact ⟨rfl, h, Below.refl B _, Lib.OthersKept.refl _ _ _⟩
theorem write_any (B b : Nat) (bs : List Value) (s : ByteArray) (w : World) (h : Lib.IsBuilderF 78 5 B b bs w) (hlen : bs.length + s.size ≤ 140737488355328) (hBw : B ≤ w.heap.size) :
    Calls Tryz.prog 37 #[.pointer (some ⟨b, 0, none⟩), .string s] w fun e w' => e = .returned (.tuple #[.int .i64 s.size, .nilIface]) ∧ (Lib.BuilderAtF 78 5 B b (.pointer (some ⟨b, 0, none⟩)) (bs ++ Lib.strCells s) w' ∧ Below B w w' ∧ Lib.OthersKept 5 (some b) w w') := by
  obtain ⟨i0, hi, hz0, hz1, hz2⟩ := info_parts info_byte
  go_enter Tryz.func37, Tryz.ntmps37
  go_wp2_with (go_at_call 64; refine (copy_any B b bs _ h).mono ?_)
  rintro e w1 ⟨rfl, h1, hb1, hk1⟩
  obtain ⟨hB, v, hbk, hown, hne⟩ := h1
  have c0 : w1.cell? ⟨b, 0, none⟩ = some (.pointer (some ⟨b, 0, none⟩)) := by rw [Lib.cell_of_heap hbk]; rfl
  have c1 : w1.cell? ⟨b, 1, none⟩ = some v := by rw [Lib.cell_of_heap hbk]; rfl
  go_wp2_with (at_builtin; refine Lib.wpList_append_own_stringF _ rfl _ _ 76 9 rfl B 5 i0 Tryz.underlying76 Tryz.underlying9 hi hz0 hz1 hz2 _ _ _ rfl hown s rfl ?c3 ?c4 ?c5 ?_)
  case c3 => unfold maxLen; omega
  case c4 => omega
  case c5 => have := hb1.size; omega
  intro v' w2 hown' hgrow _
  have hlt : b < w1.heap.size := by
    rcases Nat.lt_or_ge b w1.heap.size with h' | h'
    · exact h'
    · simp [Array.getElem?_eq_none h'] at hbk
  have hb2 : w2.heap[b]? = some (.cells #[.pointer (some ⟨b, 0, none⟩), v] 78 (0, 0)) := by
    rw [hgrow.block b hlt (fun e => hne e.symm)]
    exact hbk
  have d0 : w2.cell? ⟨b, 0, none⟩ = some (.pointer (some ⟨b, 0, none⟩)) := by rw [Lib.cell_of_heap hb2]; rfl
  have d1 : w2.cell? ⟨b, 1, none⟩ = some v := by rw [Lib.cell_of_heap hb2]; rfl
  have f1 : w2.frozen? ⟨b, 1, none⟩ = false := Lib.frozen_of_heap hb2 1
  obtain ⟨ao, n', cap, rfl⟩ : ∃ ao n' cap, v' = .slice ao n' cap := by
    rcases hown'.2 with ⟨hv, _⟩ | ⟨g, cap, cur, fz, hv, _⟩
    · exact ⟨_, _, _, hv⟩
    · exact ⟨_, _, _, hv⟩
  go_wp2
  go_ret2
  refine ⟨rfl, ?_, ?_, (hk1.grown hgrow (Lib.ownsRowF_kind hown)).setCell ⟨b, 1, none⟩ rfl _⟩
  · exact Lib.BuilderAtF.put (T := 78) (e := 5) hB hb2 (bs' := bs ++ Lib.strCells s) (by simpa [Lib.strCells_length] using hown') (by decide)
  · exact (hb1.grown hgrow (by have := hb1.size; omega) (fun k hk => (hown.lt k hk).1)).setCell (p := ⟨b, 1, none⟩) hB _
theorem byteCells_app (l m : List UInt8) : Lib.byteCells l ++ Lib.strCells (ba m) = Lib.byteCells (l ++ m) := by
  simp [Lib.byteCells, Lib.strCells, ba]
/-- WriteString, in lists of bytes. -/
theorem bwrite (B b : Nat) (l m : List UInt8) (w : World) (h : BIs w B b l) (hlen : l.length + m.length ≤ 140737488355328) (hBw : B ≤ w.heap.size) :
    Calls Tryz.prog 37 #[.pointer (some ⟨b, 0, none⟩), .string (ba m)] w fun e w' => e = .returned (.tuple #[.int .i64 (ba m).size, .nilIface]) ∧ BIs w' B b (l ++ m) ∧ Below B w w' ∧ Lib.OthersKept 5 (some b) w w' := by
  refine (write_any B b (Lib.byteCells l) (ba m) w h (by rw [Lib.byteCells_length, ba_size]; exact hlen) hBw).mono ?_
  rintro e w' ⟨h1, h2, h3, h4⟩
  exact ⟨h1, .inr (by rw [byteCells_app] at h2; exact h2), h3, h4⟩
theorem bstring (B b : Nat) (l : List UInt8) (w : World) (h : BIs w B b l) (hBw : B ≤ w.heap.size) :
    Calls Tryz.prog 32 #[.pointer (some ⟨b, 0, none⟩)] w fun e w' => e = .returned (.string (ba l)) ∧ BIs w' B b l ∧ Below B w w' ∧ Lib.OthersKept 5 (some b) w w' :=
  Tryz.Builder_String_any_k B b l w h hBw
theorem bAt_below {B b : Nat} {p : Value} {bs : List Value} {w w' : World} (h : Lib.BuilderAtF 78 5 B b p bs w) (hb : Below w.heap.size w w') : Lib.BuilderAtF 78 5 B b p bs w' := by
  obtain ⟨h1, v, h2, ⟨h3, h4⟩, h5⟩ := h
  refine ⟨h1, v, keepB hb (Array.getElem?_eq_some_iff.1 h2).1 h2, ⟨h3, ?_⟩, h5⟩
  rcases h4 with h4 | ⟨g, c, cur, fz, hv, hg, hc, hr⟩
  · exact .inl h4
  · exact .inr ⟨g, c, cur, fz, hv, hg, keepB hb (Array.getElem?_eq_some_iff.1 hc).1 hc, hr⟩
theorem BIs.below {w w' : World} {B b : Nat} {l : List UInt8} (h : BIs w B b l) (hb : Below w.heap.size w w') : BIs w' B b l := h.elim (fun x => .inl (bAt_below x hb)) (fun x => .inr (bAt_below x hb))
theorem BIs.fresh (w : World) : BIs (w.alloc (.cells #[.pointer none, .slice none 0 0] 78)) w.heap.size w.heap.size [] :=
  .inl ⟨Nat.le_refl _, .slice none 0 0, new_block w _ _ rfl, ⟨by simp [Lib.byteCells], .inl ⟨rfl, rfl⟩⟩, by simp [Value.ownBlock]⟩
end Go.Proofs.YtoklonmiejdgmaaGreatDoor
/- Package script: Hex, value, Unhex. -/
namespace Go.Proofs.YtoklonmiejdgmaaGreatDoor
set_option linter.unusedVariables false
set_option linter.unusedSimpArgs false
set_option linter.unnecessarySimpa false
open Go.RowKit Go.Sort
set_option maxHeartbeats 4000000
set_option maxRecDepth 100000
set_option linter.unusedVariables false
theorem wbyte_any (B b : Nat) (bs : List Value) (c : Int) (w : World) (h : Lib.IsBuilderF 78 5 B b bs w) (hlen : bs.length + 1 ≤ 140737488355328) (hBw : B ≤ w.heap.size) :
    Calls Tryz.prog 31 #[.pointer (some ⟨b, 0, none⟩), .int .u8 c] w fun e w' => e = .returned .nilIface ∧ (Lib.BuilderAtF 78 5 B b (.pointer (some ⟨b, 0, none⟩)) (bs ++ [.int .u8 c]) w' ∧ Below B w w' ∧ Lib.OthersKept 5 (some b) w w') := by
  obtain ⟨i0, hi, hz0, hz1, hz2⟩ := info_parts info_byte
  go_enter Tryz.func31, Tryz.ntmps31
  go_wp2_with (go_at_call 64; refine (copy_any B b bs _ h).mono ?_)
  rintro e w1 ⟨rfl, h1, hb1, hk1⟩
  obtain ⟨hB, v, hbk, hown, hne⟩ := h1
  have c0 : w1.cell? ⟨b, 0, none⟩ = some (.pointer (some ⟨b, 0, none⟩)) := by rw [Lib.cell_of_heap hbk]; rfl
  have c1 : w1.cell? ⟨b, 1, none⟩ = some v := by rw [Lib.cell_of_heap hbk]; rfl
  go_wp2_with (at_builtin; refine wpList_append_ownF _ rfl _ _ 76 rfl B 5 i0 (.int .u8 0) 1 1 Tryz.underlying76 hi hz0 hz1 hz2 rfl (by decide) _ _ _ rfl (hown.alloc _) ⟨w1.heap.size, 0, none⟩ 1 1 [.int .u8 c] rfl rfl ?c1 ?c2 ?c3 ?c4 ?c5 ?_)
  case c1 =>
    intro j u hj
    match j, hj with
    | 0, hj => simp at hj; subst hj; simp [Addr.add]
  case c2 => intro u hu; simp at hu; subst hu; rfl
  case c3 => unfold maxLen; omega
  case c4 => omega
  case c5 => have := hb1.size; simp; omega
  intro v' w2 hown' hgrow _
  have hlt : b < w1.heap.size := by
    rcases Nat.lt_or_ge b w1.heap.size with h' | h'
    · exact h'
    · simp [Array.getElem?_eq_none h'] at hbk
  have hb2 : w2.heap[b]? = some (.cells #[.pointer (some ⟨b, 0, none⟩), v] 78 (0, 0)) := by
    rw [hgrow.block b (by simp; omega) (fun e => hne e.symm), Lib.alloc_old w1 _ b hlt]
    exact hbk
  have d0 : w2.cell? ⟨b, 0, none⟩ = some (.pointer (some ⟨b, 0, none⟩)) := by rw [Lib.cell_of_heap hb2]; rfl
  have d1 : w2.cell? ⟨b, 1, none⟩ = some v := by rw [Lib.cell_of_heap hb2]; rfl
  have f1 : w2.frozen? ⟨b, 1, none⟩ = false := Lib.frozen_of_heap hb2 1
  obtain ⟨g, cap, rfl⟩ : ∃ g cap, v' = .slice (some ⟨g, 0, none⟩) (bs.length + 1) cap := by
    rcases hown'.2 with ⟨_, h0⟩ | ⟨g, cap, cur, fz, hv, _⟩
    · omega
    · exact ⟨g, cap, hv⟩
  go_wp2
  go_ret
  refine ⟨rfl, ?_, ?_, ((hk1.alloc _).grown hgrow (Lib.ownsRowF_kind (hown.alloc _))).setCell ⟨b, 1, none⟩ rfl _⟩
  · exact Lib.BuilderAtF.put (T := 78) (e := 5) hB hb2 (bs' := bs ++ [.int .u8 c]) (by simpa using hown') (by decide)
  · exact ((hb1.alloc (by have := hb1.size; omega) _).grown hgrow (by have := hb1.size; simp; omega) (fun k hk => (hown.lt k hk).1)).setCell (p := ⟨b, 1, none⟩) hB _
theorem bwbyte (B b : Nat) (l : List UInt8) (x : UInt8) (w : World) (h : BIs w B b l) (hlen : l.length + 1 ≤ 140737488355328) (hBw : B ≤ w.heap.size) :
    Calls Tryz.prog 31 #[.pointer (some ⟨b, 0, none⟩), .int .u8 (x.toNat : Int)] w fun e w' => e = .returned .nilIface ∧ BIs w' B b (l ++ [x]) ∧ Below B w w' := by
  refine (wbyte_any B b (Lib.byteCells l) x.toNat w h (by rw [Lib.byteCells_length]; exact hlen) hBw).mono ?_
  rintro e w' ⟨h1, h2, h3, h4⟩
  exact ⟨h1, .inr (by rw [show Lib.byteCells (l ++ [x]) = Lib.byteCells l ++ [.int .u8 (x.toNat : Int)] from by simp [Lib.byteCells]]; exact h2), h3⟩
theorem hexS_at : ∀ n : Fin 16, (⟨#[48, 49, 50, 51, 52, 53, 54, 55, 56, 57, 97, 98, 99, 100, 101, 102]⟩ : ByteArray)[n.val]? = some (hexD n.val) := by decide +kernel
theorem hexN_at (n : Nat) (h : n < 16) : ∃ hh : n < (⟨#[48, 49, 50, 51, 52, 53, 54, 55, 56, 57, 97, 98, 99, 100, 101, 102]⟩ : ByteArray).size, (⟨#[48, 49, 50, 51, 52, 53, 54, 55, 56, 57, 97, 98, 99, 100, 101, 102]⟩ : ByteArray)[n] = hexD n := by
  have := hexS_at ⟨n, h⟩
  refine ⟨h, ?_⟩
  rw [getElem?_pos _ n h] at this
  exact Option.some.inj this
theorem flat_take (s : ByteArray) (k : Nat) (h : k < s.size) : (s.data.toList.take (k + 1)).flatMap hxB = (s.data.toList.take k).flatMap hxB ++ [hexD (s[k].toNat / 16), hexD (s[k].toNat % 16)] := by
  rw [take_all_succ s k h, List.flatMap_append]; simp [hxB]
def hexS : ByteArray := ⟨#[48, 49, 50, 51, 52, 53, 54, 55, 56, 57, 97, 98, 99, 100, 101, 102]⟩
theorem hex_any (s : ByteArray) (hs : s.size ≤ 1000000000) (w : World) : Calls Tryz.prog 12 #[.string s] w fun e w' => e = .returned (.string (ba (hexV s.data.toList))) ∧ Below w.heap.size w w' := by
  have ie := toList_empty s
  obtain ⟨H, hH⟩ : ∃ H : ByteArray, H = ⟨#[48, 49, 50, 51, 52, 53, 54, 55, 56, 57, 97, 98, 99, 100, 101, 102]⟩ := ⟨_, rfl⟩
  have hsH : 16 ≤ H.size := by rw [hH]; decide
  have HGET : Hid (∀ n (h : n < 16), H[n]'(Nat.lt_of_lt_of_le h hsH) = hexD n) := fun n h => by
    obtain ⟨h1, h2⟩ := hexN_at n h
    subst hH; exact h2
  have HH := Lib.hid hH
  by_cases h0 : s.size = 0
  · rw [decide_eq_true h0] at ie
    clear hH
    have HV : Hid (hexV s.data.toList = [45]) := by
      have : s.data.toList = [] := List.eq_nil_of_length_eq_zero (by rw [ba_len]; exact h0)
      rw [Hid, this]; rfl
    clear h0
    go_enter Tryz.func12, Tryz.ntmps12
    go_wp2_with fail
    go_ret
    exact ⟨by rw [HV.out]; rfl, Below.refl _ _⟩
  · rw [decide_eq_false h0] at ie
    have HV : Hid (hexV s.data.toList = (s.data.toList.take s.size).flatMap hxB) := by
      have hne : s.data.toList ≠ [] := fun e => h0 (by rw [← ba_len, e]; rfl)
      rw [Hid, List.take_of_length_le (by rw [ba_len]; omega), hexV, if_neg hne]
    have HNE : Hid ((s.data.toList.take s.size).flatMap hxB ≠ []) := by
      rw [← HV.out]; exact hex_ne _
    have HFR := Lib.hid (BIs.fresh w)
    have HB0 : Hid (Below w.heap.size w (w.alloc (.cells #[.pointer none, .slice none 0 0] 78))) := (Below.refl _ _).alloc (Nat.le_refl _) _
    have HFT : Hid (∀ k (h : k < s.size), (s.data.toList.take (k + 1)).flatMap hxB = (s.data.toList.take k).flatMap hxB ++ [hexD (s[k].toNat / 16), hexD (s[k].toNat % 16)]) := fun k h => flat_take s k h
    have HLT : Hid (∀ k, k ≤ s.size → ((s.data.toList.take k).flatMap hxB).length = 2 * k) := fun k hk => by rw [flat_len, List.length_take, ba_len, Nat.min_eq_left hk]
    clear h0 hH
    go_enter Tryz.func12, Tryz.ntmps12
    rw [← HH.out]
    go_upto_region 4 with fail
    generalize w.alloc (.cells #[.pointer none, .slice none 0 0] 78) = W1 at HFR HB0 ⊢
    obtain ⟨b, hb⟩ : ∃ b, b = w.heap.size := ⟨_, rfl⟩
    rw [← hb] at HFR ⊢
    have HW := Lib.hid hb
    clear hb
    go_upto_region 5 with fail
    go_loopw [9] (fun i wr => ∃ k : Nat, k ≤ s.size ∧ i = .int .i64 k ∧ BIs wr b b ((s.data.toList.take k).flatMap hxB) ∧ Below w.heap.size w wr) (fun i _ => s.size - (intOf i).toNat)
    case atStart => exact ⟨0, by omega, rfl, HFR.out, HB0.out⟩
    case round =>
      clear HFR HB0
      obtain ⟨k, hk, rfl, hbi, hbe⟩ := hrel
      have HBI := Lib.hid hbi
      have HBE := Lib.hid hbe
      have hsz : b ≤ wr.heap.size := by rw [HW.out]; exact hbe.size
      clear hbi hbe
      by_cases hlt : k < s.size
      · have hby := s[k].toNat_lt
        have HF := Lib.hid (HFT.out k hlt)
        have HL := Lib.hid (HLT.out k hk)
        obtain ⟨t, ht⟩ : ∃ t, t = (s.data.toList.take k).flatMap hxB := ⟨_, rfl⟩
        rw [← ht] at HF HL HBI
        have d1 : decide ((k : Int) < (s.size : Int)) = true := decide_eq_true (by omega)
        have d1' : decide (k < s.size) = true := decide_eq_true hlt
        have w1 : IntKind.i64.wrap ((k : Int) + 1) = (k : Int) + 1 := by rw [IntKind.wrap_i64]; omega
        go_wp2_with fail
        refine (bwbyte b b t (H[s[k].toNat / 16]'(by omega)) wr HBI.out (by have := HL.out; omega) hsz).mono ?_; rintro e w2 ⟨rfl, h2, h3⟩
        have HB2 := Lib.hid h2
        have HBE2 := Lib.hid (HBE.out.trans (by rw [← HW.out]; exact h3))
        have hsz2 : b ≤ w2.heap.size := by rw [HW.out]; exact HBE2.out.size
        clear h2 h3
        go_wp2_with fail
        refine (bwbyte b b _ (H[s[k].toNat % 16]'(by omega)) w2 HB2.out (by rw [List.length_append, HL.out]; simp; omega) hsz2).mono ?_; rintro e w3 ⟨rfl, h2, h3⟩
        have HB3 : Hid (BIs w3 b b ((s.data.toList.take (k + 1)).flatMap hxB)) := by
          rw [Hid, HF.out, ← HGET.out _ (by omega : s[k].toNat / 16 < 16), ← HGET.out _ (by omega : s[k].toNat % 16 < 16)]
          rw [List.append_assoc] at h2; exact h2
        have HBE3 := Lib.hid (HBE2.out.trans (by rw [← HW.out]; exact h3))
        clear h2 h3
        go_wp2_with fail
        go_roundw
        case rel => exact ⟨k + 1, by omega, by go_num, HB3.out, HBE3.out⟩
        case measure => simp [intOf]; omega
      · obtain rfl : k = s.size := by omega
        have d1 : decide ((s.size : Int) < (s.size : Int)) = false := decide_eq_false (by omega)
        rw [← HV.out] at HBI
        go_wp2_with (go_at_call 32; refine (bstring _ _ _ _ HBI.out hsz).mono ?_; rintro e w3 ⟨rfl, _, h3, _⟩)
        go_ret
        exact ⟨rfl, HBE.out.trans (by rw [← HW.out]; exact h3)⟩
end Go.Proofs.YtoklonmiejdgmaaGreatDoor
/- Package script: value, Unhex. -/
namespace Go.Proofs.YtoklonmiejdgmaaGreatDoor
set_option linter.unusedVariables false
set_option linter.unusedSimpArgs false
set_option linter.unnecessarySimpa false
open Go.RowKit Go.Sort
set_option maxHeartbeats 4000000
set_option maxRecDepth 100000
set_option linter.unusedVariables false
theorem value_yes (x : Nat) (h : (48 ≤ x ∧ x ≤ 57) ∨ (97 ≤ x ∧ x ≤ 102)) (w : World) : Calls Tryz.prog 33 #[.int .i32 (x : Int)] w fun e w' => e = .returned (.tuple #[.int .i64 ((if x ≤ 57 then x - 48 else x - 87 : Nat) : Int), .bool true]) ∧ w = w' := by
  by_cases h1 : x ≤ 57
  · rw [if_pos h1]
    have e1 : decide ((x : Int) ≥ 48) = true := decide_eq_true (by omega)
    have e2 : decide ((x : Int) ≤ 57) = true := decide_eq_true (by omega)
    have e2' : decide (x ≤ 57) = true := decide_eq_true h1
    have e1' : decide (48 ≤ x) = true := decide_eq_true (by omega)
    have w1 : IntKind.i32.wrap ((x : Int) - 48) = (x : Int) - 48 := by rw [IntKind.wrap_i32]; omega
    have w2 : IntKind.i64.wrap ((x : Int) - 48) = (x : Int) - 48 := by rw [IntKind.wrap_i64]; omega
    have hx : ((x - 48 : Nat) : Int) = (x : Int) - 48 := by omega
    have HX := Lib.hid hx
    rw [HX.out]
    clear h h1 hx
    go_enter Tryz.func33, Tryz.ntmps33
    go_wp2_with fail
    (go_ret2; exact ⟨rfl, rfl⟩)
  · have h2 : 97 ≤ x ∧ x ≤ 102 := by omega
    rw [if_neg h1]
    have e1 : decide ((x : Int) ≥ 48) = true := decide_eq_true (by omega)
    have e2 : decide ((x : Int) ≤ 57) = false := decide_eq_false (by omega)
    have e2' : decide (x ≤ 57) = false := decide_eq_false h1
    have e1' : decide (48 ≤ x) = true := decide_eq_true (by omega)
    have e3 : decide ((x : Int) ≥ 97) = true := decide_eq_true (by omega)
    have e3' : decide (97 ≤ x) = true := decide_eq_true (by omega)
    have e4 : decide ((x : Int) ≤ 102) = true := decide_eq_true (by omega)
    have e4' : decide (x ≤ 102) = true := decide_eq_true (by omega)
    have w1 : IntKind.i32.wrap ((x : Int) - 97) = (x : Int) - 97 := by rw [IntKind.wrap_i32]; omega
    have w2 : IntKind.i64.wrap ((x : Int) - 97) = (x : Int) - 97 := by rw [IntKind.wrap_i64]; omega
    have w3 : IntKind.i64.wrap ((x : Int) - 97 + 10) = (x : Int) - 97 + 10 := by rw [IntKind.wrap_i64]; omega
    have hx : ((x - 87 : Nat) : Int) = (x : Int) - 97 + 10 := by omega
    have HX := Lib.hid hx
    rw [HX.out]
    clear h h1 hx h2
    go_enter Tryz.func33, Tryz.ntmps33
    go_wp2_with fail
    (go_ret2; exact ⟨rfl, rfl⟩)
theorem value_no (x : Nat) (h : ¬ ((48 ≤ x ∧ x ≤ 57) ∨ (97 ≤ x ∧ x ≤ 102))) (w : World) : Calls Tryz.prog 33 #[.int .i32 (x : Int)] w fun e w' => e = .returned (.tuple #[.int .i64 0, .bool false]) ∧ w = w' := by
  obtain ⟨p1, hp1⟩ : ∃ p, p = decide (48 ≤ x) := ⟨_, rfl⟩
  obtain ⟨p2, hp2⟩ : ∃ p, p = decide (x ≤ 57) := ⟨_, rfl⟩
  obtain ⟨p3, hp3⟩ : ∃ p, p = decide (97 ≤ x) := ⟨_, rfl⟩
  obtain ⟨p4, hp4⟩ : ∃ p, p = decide (x ≤ 102) := ⟨_, rfl⟩
  have e1 : decide ((x : Int) ≥ 48) = p1 := by rw [hp1, decide_eq_decide]; omega
  have e2 : decide ((x : Int) ≤ 57) = p2 := by rw [hp2, decide_eq_decide]; omega
  have e3 : decide ((x : Int) ≥ 97) = p3 := by rw [hp3, decide_eq_decide]; omega
  have e4 : decide ((x : Int) ≤ 102) = p4 := by rw [hp4, decide_eq_decide]; omega
  have f1 := hp1.symm
  have f2 := hp2.symm
  have f3 := hp3.symm
  have f4 := hp4.symm
  have k1 : (p1 && p2) = false := by
    rw [hp1, hp2, Bool.and_eq_false_iff, decide_eq_false_iff_not, decide_eq_false_iff_not]; omega
  have k2 : (p3 && p4) = false := by
    rw [hp3, hp4, Bool.and_eq_false_iff, decide_eq_false_iff_not, decide_eq_false_iff_not]; omega
  clear hp1 hp2 hp3 hp4 h
  have K1 := Lib.hid k1
  have K2 := Lib.hid k2
  clear k1 k2
  cases p1 <;> cases p2 <;> cases p3 <;> cases p4
  all_goals first
    | (exact absurd K1.out (by decide))
    | (exact absurd K2.out (by decide))
    | (go_enter Tryz.func33, Tryz.ntmps33
       go_wp2_with fail
       go_ret2
       exact ⟨rfl, rfl⟩)
end Go.Proofs.YtoklonmiejdgmaaGreatDoor
/- Package script: Unhex. -/
namespace Go.Proofs.YtoklonmiejdgmaaGreatDoor
set_option linter.unusedVariables false
set_option linter.unusedSimpArgs false
set_option linter.unnecessarySimpa false
open Go.RowKit Go.Sort
set_option maxHeartbeats 4000000
set_option maxRecDepth 100000
set_option linter.unusedVariables false
theorem own_cells {w : World} {B g n : Nat} {e : TypeId} {cs : List Value} (ho : ObjAt w g e cs) (hl : cs.length = n) (hB : B ≤ g) (hn : n ≤ maxLen) : Own w B e 1 (some ⟨g, 0, none⟩) n n cs :=
  ⟨by omega, .inr ⟨g, n, cs.toArray, rfl, hB, ho, Nat.le_refl _, hn, by simpa using hl, by simp [← hl]⟩⟩
/-- The row of bytes behind k digits. -/
def cellU (s : List UInt8) (k j : Nat) : Nat := if 2 * j + 1 < k then 16 * hvN (s.getD (2 * j) 0) + hvN (s.getD (2 * j + 1) 0) else if 2 * j < k then hvN (s.getD (2 * j) 0) else 0
def rowU (s : List UInt8) (k n : Nat) : List UInt8 := (List.range n).map fun j => UInt8.ofNat (cellU s k j)
theorem rowU_len (s : List UInt8) (k n : Nat) : (rowU s k n).length = n := by simp [rowU]
theorem hvN_lt {b : UInt8} (h : hvB b = true) : hvN b < 16 := (hexD_back h).2
theorem unPair_get : ∀ (n : Nat) (s : List UInt8), s.length = 2 * n → ∀ j, j < n → (unPair s)[j]? = some (UInt8.ofNat (16 * hvN (s.getD (2 * j) 0) + hvN (s.getD (2 * j + 1) 0)))
  | 0, s, h, j, hj => by omega
  | n + 1, s, h, j, hj => by
    match s, h with
    | a :: b :: r, h =>
      rw [unPair]
      match j with
      | 0 => rfl
      | j + 1 =>
        have := unPair_get n r (by simp at h; omega) j (by omega)
        rw [List.getElem?_cons_succ, this]
        rw [show 2 * (j + 1) = 2 * j + 1 + 1 by omega, show 2 * j + 1 + 1 + 1 = (2 * j + 1) + 1 + 1 by omega]
        simp only [List.getD_cons_succ]
theorem rowU_full {s : List UInt8} {n : Nat} (h : s.length = 2 * n) : rowU s (2 * n) n = unPair s := by
  apply List.ext_getElem?
  intro j
  by_cases hj : j < n
  · rw [unPair_get n s h j hj, rowU, List.getElem?_map, List.getElem?_range hj]
    simp only [Option.map_some, cellU]
    rw [if_pos (by omega)]
  · rw [List.getElem?_eq_none (by rw [rowU_len]; omega), List.getElem?_eq_none (by rw [pair_len n s h]; omega)]
theorem cellU_step {s : List UInt8} {k : Nat} (hk : k < s.length) (hall : ∀ j (hj : j < s.length), j < k + 1 → hvB s[j] = true) :
    cellU s k (k / 2) < 16 ∧ cellU s (k + 1) (k / 2) = cellU s k (k / 2) * 16 + hvN s[k] ∧ ∀ j, j ≠ k / 2 → cellU s (k + 1) j = cellU s k j := by
  have hg : ∀ j (hj : j < s.length), s.getD j 0 = s[j] := fun j hj => by rw [List.getD_eq_getElem?_getD, List.getElem?_eq_getElem hj]; rfl
  refine ⟨?_, ?_, fun j hj => ?_⟩
  · unfold cellU
    rw [if_neg (by omega)]
    split
    · rename_i h
      rw [hg _ (by omega)]
      exact hvN_lt (hall _ (by omega) (by omega))
    · omega
  · unfold cellU
    rw [if_neg (show ¬ 2 * (k / 2) + 1 < k by omega)]
    by_cases he : k % 2 = 0
    · rw [if_neg (by omega), if_pos (by omega), if_neg (by omega), hg _ (by omega)]
      have : 2 * (k / 2) = k := by omega
      simp only [this]; omega
    · rw [if_pos (by omega), if_pos (by omega), hg _ (by omega), hg _ (by omega)]
      have : 2 * (k / 2) + 1 = k := by omega
      simp only [this]; omega
  · unfold cellU
    by_cases h1 : 2 * j + 1 < k
    · rw [if_pos h1, if_pos (by omega)]
    · rw [if_neg h1, if_neg (by omega)]
      by_cases h2 : 2 * j < k
      · rw [if_pos h2, if_pos (by omega)]
      · rw [if_neg h2, if_neg (by omega)]
theorem rowU_step {s : List UInt8} {k n : Nat} (hk : k < s.length) (hall : ∀ j (hj : j < s.length), j < k + 1 → hvB s[j] = true) : rowU s (k + 1) n = (rowU s k n).set (k / 2) (UInt8.ofNat (cellU s k (k / 2) * 16 + hvN s[k])) := by
  obtain ⟨_, h2, h3⟩ := cellU_step hk hall
  apply List.ext_getElem?
  intro j
  rw [List.getElem?_set]
  by_cases hj : k / 2 = j
  · subst hj
    rw [if_pos rfl]
    by_cases hn : k / 2 < n
    · rw [if_pos (by rw [rowU_len]; exact hn), rowU, List.getElem?_map, List.getElem?_range hn]
      simp only [Option.map_some]; rw [h2]
    · rw [if_neg (by rw [rowU_len]; exact hn), List.getElem?_eq_none (by rw [rowU_len]; omega)]
  · rw [if_neg hj]
    unfold rowU
    rw [List.getElem?_map, List.getElem?_map]
    by_cases hn : j < n
    · rw [List.getElem?_range hn]
      simp only [Option.map_some]; rw [h3 j (Ne.symm hj)]
    · rw [List.getElem?_eq_none (by simp; omega)]; rfl
theorem bC_set (l : List UInt8) (i : Nat) (x : UInt8) : (bC l).set i (.int .u8 (x.toNat : Int)) = bC (l.set i x) := by
  unfold bC; rw [List.map_set]
theorem bC_zero (n : Nat) : madeCells (Value.int .u8 0).cells (n * 1) = (bC (rowU [] 0 n)).toArray := by
  apply Array.ext'
  simp only [madeCells, bC, rowU, Nat.mul_one, Array.toList_map, Array.toList_range, List.map_map]
  apply List.map_congr_left
  intro j hj
  simp [cellU, Value.cells, Nat.mod_one]
theorem rowU_zero (s : List UInt8) (n : Nat) : rowU [] 0 n = rowU s 0 n := by
  unfold rowU cellU; simp
theorem info_u8q : (Tryz.prog.info? 5).map (fun i => (i.zero, i.size, i.bytes)) = some (some (.int .u8 0), 1, 1) := by kernel_rfl
theorem make_u8 (n : Nat) (hn : n ≤ 1000000) (w : World) : (Instr.makeSlice 76 (.int .i64 (n : Int)) (.int .i64 (n : Int))).run Tryz.prog w = .ok (.slice (some ⟨w.heap.size, 0, none⟩) n n) (w.alloc (.cells (bC (rowU [] 0 n)).toArray 5)) := by
  obtain ⟨i0, hi0, hz0, hz1, hz2⟩ := info_parts info_u8q
  have h := run_makeSlice w 76 5 i0 (.int .u8 0) Tryz.underlying76 hi0 hz0 .i64 .i64 (n : Int) (n : Int) (by omega) (by omega) (by rw [hz1, Int.toNat_natCast]; omega) (by rw [hz2]; omega) (by omega)
  rw [hz1, Int.toNat_natCast, bC_zero] at h
  exact h
theorem unB_empty : unB [] = false := rfl
theorem unB_odd {l : List UInt8} (h : l ≠ [45]) (ho : l.length % 2 ≠ 0) : unB l = false := by
  unfold unB; rw [decide_eq_false h, decide_eq_false ho]; simp
theorem unB_bad {l : List UInt8} {k : Nat} (h : l ≠ [45]) (hk : k < l.length) (hb : hvB l[k] = false) : unB l = false := by
  unfold unB
  have : l.all hvB = false := by rw [List.all_eq_false]; exact ⟨l[k], List.getElem_mem hk, by simp [hb]⟩
  rw [decide_eq_false h, this]; simp
theorem unB_good {l : List UInt8} (hne : l ≠ []) (he : l.length % 2 = 0) (hall : ∀ j (hj : j < l.length), hvB l[j] = true) : unB l = true := by
  unfold unB
  have : l.all hvB = true := by
    rw [List.all_eq_true]; intro x hx
    obtain ⟨j, hj, rfl⟩ := List.mem_iff_getElem.1 hx
    exact hall j hj
  rw [this, decide_eq_true hne, decide_eq_true he]; simp
theorem unV_bad {l : List UInt8} (h : unB l = false) : unV l = [] := by
  unfold unV; split
  · rfl
  · rw [if_neg (by rw [h]; simp)]
theorem unV_good {l : List UInt8} (h45 : l ≠ [45]) (h : unB l = true) : unV l = unPair l := by
  unfold unV; rw [if_neg h45, if_pos h]
def UnPost (l : List UInt8) (w : World) (e : Ending) (w' : World) : Prop := e = .returned (.tuple #[.string (ba (unV l)), .bool (unB l)]) ∧ Below w.heap.size w w'
/-- Unhex at work. -/
structure UH (w : World) (s : ByteArray) (n g it k : Nat) (W : World) : Prop where
  bel : Below w.heap.size w W
  row : ObjAt W g 5 (bC (rowU s.data.toList k n))
  it_ : W.heap[it]? = some (.stringIter s k)
  ok : ∀ j (hj : j < s.data.toList.length), j < k → hvB s.data.toList[j] = true
theorem hv_iff (b : UInt8) : hvB b = true ↔ (48 ≤ b.toNat ∧ b.toNat ≤ 57) ∨ (97 ≤ b.toNat ∧ b.toNat ≤ 102) := by simp [hvB]
theorem unhex_any (s : ByteArray) (hs : s.size ≤ 1000000) (w : World) : Calls Tryz.prog 13 #[.string s] w (UnPost s.data.toList w) := by
  have ie := toList_empty s
  have e45 : (s.toList == [45]) = decide (s.data.toList = [45]) := by rw [ByteArray.toList_eq, Bool.eq_iff_iff]; simp
  by_cases h45 : s.data.toList = [45]
  · rw [decide_eq_true h45] at e45
    have HP : Hid (∀ w', Below w.heap.size w w' → UnPost s.data.toList w (.returned (.tuple #[.string ⟨#[]⟩, .bool true])) w') := fun w' hb => ⟨by rw [h45]; rfl, hb⟩
    clear h45 ie
    go_enter Tryz.func13, Tryz.ntmps13
    go_wp2_with fail
    go_ret2
    exact HP.out _ (Below.refl _ _)
  · rw [decide_eq_false h45] at e45
    have HBAD : Hid (∀ w', unB s.data.toList = false → Below w.heap.size w w' → UnPost s.data.toList w (.returned (.tuple #[.string ⟨#[]⟩, .bool false])) w') := fun w' h hb => ⟨by rw [h, unV_bad h]; rfl, hb⟩
    by_cases h0 : s.size = 0
    · rw [decide_eq_true h0] at ie
      have HB := Lib.hid (HBAD.out w (by rw [show s.data.toList = [] from List.eq_nil_of_length_eq_zero (by rw [ba_len]; exact h0)]; rfl) (Below.refl _ _))
      clear h0 h45 HBAD
      go_enter Tryz.func13, Tryz.ntmps13
      go_wp2_with fail
      go_ret2
      exact HB.out
    · rw [decide_eq_false h0] at ie
      have hne : s.data.toList ≠ [] := fun e => h0 (by rw [← ba_len, e]; rfl)
      by_cases ho : s.size % 2 = 0
      · obtain ⟨n, hn⟩ : ∃ n, s.size = 2 * n := ⟨s.size / 2, by omega⟩
        have m1 : (s.size : Int).tmod 2 = 0 := by rw [Int.tmod_eq_emod_of_nonneg (by omega)]; omega
        have m2 : ((s.size : Int) % 2 != 0) = false := by rw [bne_eq_false_iff_eq]; omega
        have m3 : (s.size : Int) / 2 = (n : Int) := by omega
        have HMK := Lib.hid (make_u8 n (by omega) w)
        obtain ⟨W1, hW1⟩ : ∃ W1, W1 = w.alloc (.cells (bC (rowU [] 0 n)).toArray 5) := ⟨_, rfl⟩
        have hmk := HMK.out
        rw [← hW1] at hmk
        have hb1 : Below w.heap.size w W1 := by rw [hW1]; exact (Below.refl _ _).alloc (Nat.le_refl _) _
        have HO1 : Hid (ObjAt W1 w.heap.size 5 (bC (rowU s.data.toList 0 n))) := by rw [hW1, ← rowU_zero s.data.toList n]; exact ObjAt.new w _ _
        have hs1 : W1.heap.size = w.heap.size + 1 := by rw [hW1]; exact World.size_alloc _ _
        have hbi : Below W1.heap.size W1 (W1.iter s 0) := (Below.refl _ _).alloc (Nat.le_refl _) _
        have HU0 : Hid (UH w s n w.heap.size W1.heap.size 0 (W1.iter s 0)) := ⟨bmore hb1 hbi, HO1.out.below hbi, World.iter_heap W1 s 0, fun j _ hj => by omega⟩
        have HGOOD : Hid (∀ w', (∀ j (hj : j < s.data.toList.length), hvB s.data.toList[j] = true) → Below w.heap.size w w' → UnPost s.data.toList w (.returned (.tuple #[.string (ba (unPair s.data.toList)), .bool true])) w') := fun w' h hb => by
          have hg := unB_good hne (by rw [ba_len]; exact ho) h
          exact ⟨by rw [hg, unV_good h45 hg], hb⟩
        have HBD : Hid (∀ k (hk : k < s.data.toList.length) w', hvB s.data.toList[k] = false → Below w.heap.size w w' → UnPost s.data.toList w (.returned (.tuple #[.string ⟨#[]⟩, .bool false])) w') := fun k hk w' h hb => HBAD.out w' (unB_bad h45 hk h) hb
        have HFU : Hid (rowU s.data.toList s.size n = unPair s.data.toList) := by rw [Hid, hn]; exact rowU_full (by rw [ba_len, hn])
        have HN := Lib.hid hn
        have HW1 := Lib.hid hW1
        have HS1 := Lib.hid hs1
        obtain ⟨it, hit⟩ : ∃ it, it = W1.heap.size := ⟨_, rfl⟩
        have HIT := Lib.hid hit
        rw [← hit] at HU0
        have hsz : n ≤ 500000 := by omega
        clear h0 h45 HBAD ho hne hn hW1 hs1 hbi hb1 hit
        go_enter Tryz.func13, Tryz.ntmps13
        go_upto_region 7 with fail
        rw [← HIT.out]
        go_loopw [5] (fun _ wr => ∃ k : Nat, k ≤ s.size ∧ UH w s n w.heap.size it k wr) (fun _ wr => s.size - wr.iterPos it)
        case atStart => exact ⟨0, by omega, HU0.out⟩
        case round =>
          clear HU0
          obtain ⟨k, hk, hu⟩ := hrel
          have HU := Lib.hid hu
          have hip := iterPos_of hu.it_
          clear hu
          by_cases hlt : k < s.size
          · have hb := s[k].toNat_lt
            have hkl : k < s.data.toList.length := by rw [ba_len]; exact hlt
            have hgk : s.data.toList[k] = s[k] := rfl
            by_cases hdig : hvB s[k] = true
            · have hd := (hv_iff _).1 hdig
              have hok : ∀ j (hj : j < s.data.toList.length), j < k + 1 → hvB s.data.toList[j] = true := fun j hj hjk => by
                by_cases e : j = k
                · subst e; exact hdig
                · exact HU.out.ok j hj (by omega)
              obtain ⟨s1, s2, s3⟩ := cellU_step hkl hok
              have hst := rowU_step (n := n) hkl hok
              rw [hgk] at s2 hst
              obtain ⟨old, hold⟩ : ∃ o, o = cellU s.data.toList k (k / 2) := ⟨_, rfl⟩
              rw [← hold] at s1 s2 hst
              obtain ⟨hv, hhv⟩ : ∃ h, h = hvN s[k] := ⟨_, rfl⟩
              have hv16 : hv < 16 := by rw [hhv]; exact hvN_lt hdig
              rw [← hhv] at s2 hst
              have hk2 : k / 2 < n := by have := HN.out; omega
              have hcell : (bC (rowU s.data.toList k n))[k / 2]? = some (.int .u8 (old : Int)) := by
                unfold bC rowU
                rw [List.getElem?_map, List.getElem?_map, List.getElem?_range hk2]
                simp only [Option.map_some]
                rw [← hold]; congr 2; simp; omega
              obtain ⟨W2, hW2⟩ : ∃ W2, W2 = wr.iterAt it s (k + 1) := ⟨_, rfl⟩
              have hnx := fun ty => Lib.run_next_ascii_at (P := Tryz.prog) wr it s k ty HU.out.it_ hlt (by omega)
              rw [← hW2] at hnx
              have hne2 : w.heap.size ≠ it := by rw [HIT.out, HS1.out]; omega
              have HR2 : Hid (ObjAt W2 w.heap.size 5 (bC (rowU s.data.toList k n))) := by
                rw [Hid, hW2]; exact (Lib.iterAt_other wr it w.heap.size s (k + 1) hne2).trans HU.out.row
              have HI2 : Hid (W2.heap[it]? = some (.stringIter s (k + 1))) := by rw [Hid, hW2]; exact Lib.iterAt_heap wr it s k (k + 1) HU.out.it_
              have HB2 : Hid (Below w.heap.size w W2) := by rw [Hid, hW2]; exact Lib.below_iterAt HU.out.bel (by rw [HIT.out, HS1.out]; omega) s (k + 1)
              have cc := HR2.out.cell (k / 2) _ hcell
              have ff := HR2.out.free (k / 2)
              have HVAL := fun W => Lib.hid (value_yes s[k].toNat hd W)
              have hif : (if s[k].toNat ≤ 57 then s[k].toNat - 48 else s[k].toNat - 87) = hv := by rw [hhv]; rfl
              rw [hif] at HVAL
              have q2 : (k : Int) / 2 < (n : Int) := by omega
              have q3 : (0 : Int) ≤ (k : Int) / 2 := by omega
              have x1 : IntKind.u8.wrap ((old : Int) * 16) = (old : Int) * 16 := by rw [IntKind.wrap_u8]; omega
              have x2 : IntKind.u8.wrap (hv : Int) = (hv : Int) := by rw [IntKind.wrap_u8]; omega
              have x3 : IntKind.u8.wrap ((old : Int) * 16 + (hv : Int)) = (old : Int) * 16 + (hv : Int) := by rw [IntKind.wrap_u8]; omega
              have HNEW : Hid ((bC (rowU s.data.toList k n)).set (k / 2) (.int .u8 ((old : Int) * 16 + (hv : Int))) = bC (rowU s.data.toList (k + 1) n)) := by
                rw [Hid, hst, ← bC_set]; congr 2; simp; omega
              have HOK := Lib.hid hok
              clear hok hst s2 s3 hold hhv hcell hW2 hif hd hdig hgk
              go_wp2_with (go_at_call 33; refine ((HVAL _).out).mono ?_; rintro e Wv ⟨rfl, rfl⟩)
              have HU3 : Hid (UH w s n w.heap.size it (k + 1) (W2.setCell ⟨w.heap.size, k / 2, none⟩ (.int .u8 ((old : Int) * 16 + (hv : Int))))) :=
                ⟨HB2.out.trans ((Upd.setCell W2 ⟨w.heap.size, k / 2, none⟩ _).below (Nat.le_refl _) HB2.out.size), by rw [← HNEW.out]; exact HR2.out.set (k / 2) _, ((Upd.setCell W2 ⟨w.heap.size, k / 2, none⟩ _).block it (Array.getElem?_eq_some_iff.1 HI2.out).1 (by intro e; injection e with e; exact hne2 e.symm)).trans HI2.out, HOK.out⟩
              go_roundw
              case rel => exact ⟨k + 1, by omega, HU3.out⟩
              case measure =>
                rw [iterPos_of HU3.out.it_]
                omega
            · have hdf : hvB s[k] = false := by simpa using hdig
              have hnd := (not_congr (hv_iff s[k])).1 hdig
              have HFIN : Hid (∀ w', Below w.heap.size w w' → UnPost s.data.toList w (.returned (.tuple #[.string ⟨#[]⟩, .bool false])) w') := fun w' hb => HBD.out k hkl w' hdf hb
              have hitn : w.heap.size ≤ it := by rw [HIT.out, HS1.out]; omega
              have HIT2 := Lib.hid hitn
              by_cases h3 : s[k].toNat < 128
              · have hnx := fun ty => Lib.run_next_ascii_at (P := Tryz.prog) wr it s k ty HU.out.it_ hlt h3
                have HVAL := fun W => Lib.hid (value_no s[k].toNat hnd W)
                have HB2 : Hid (Below w.heap.size w (wr.iterAt it s (k + 1))) := Lib.below_iterAt HU.out.bel hitn s (k + 1)
                generalize wr.iterAt it s (k + 1) = W2 at hnx HB2
                clear hdig hdf hnd h3 hgk hip hitn
                go_wp2_with (go_at_call 33; refine ((HVAL _).out).mono ?_; rintro e Wv ⟨rfl, rfl⟩)
                go_ret2
                exact HFIN.out _ HB2.out
              · have hnx := fun ty => Lib.run_next_any_at (P := Tryz.prog) wr it s k ty HU.out.it_ hlt
                have hhi := decode_high s k hlt (by omega)
                have HB2 : Hid (Below w.heap.size w (wr.iterAt it s (k + (Utf8.decode s k).2))) := Lib.below_iterAt HU.out.bel hitn s _
                generalize wr.iterAt it s (k + (Utf8.decode s k).2) = W2 at hnx HB2
                generalize (Utf8.decode s k).1 = dc' at hnx hhi
                have HVAL := fun W => Lib.hid (value_no dc' (by omega) W)
                clear hdig hdf hnd h3 hhi hgk hip hitn
                go_wp2_with (go_at_call 33; refine ((HVAL _).out).mono ?_; rintro e Wv ⟨rfl, rfl⟩)
                go_ret2
                exact HFIN.out _ HB2.out
          · obtain rfl : k = s.size := by omega
            have hnx := fun ty => Lib.run_next_end_at (P := Tryz.prog) wr it s s.size ty HU.out.it_ (by omega)
            have HROW : Hid (ObjAt wr w.heap.size 5 (bC (unPair s.data.toList))) := by rw [Hid, ← HFU.out]; exact HU.out.row
            have hlu : (unPair s.data.toList).length = n := pair_len n _ (by rw [ba_len, HN.out])
            have hconv := run_own_str wr w.heap.size n (some ⟨w.heap.size, 0, none⟩) n (unPair s.data.toList) (own_cells HROW.out (by rw [bC_len, hlu]) (Nat.le_refl _) (by unfold maxLen; omega))
            have HFIN := Lib.hid (HGOOD.out wr (fun j hj => HU.out.ok j hj (by rw [ba_len] at hj; exact hj)) HU.out.bel)
            clear hlu hip
            go_wp2_with fail
            go_ret2
            exact HFIN.out
      · have m2 : ((s.size : Int) % 2 != 0) = true := by rw [bne_iff_ne]; omega
        have HB := Lib.hid (HBAD.out w (unB_odd h45 (by rw [ba_len]; exact ho)) (Below.refl _ _))
        clear h0 h45 HBAD ho hne
        go_enter Tryz.func13, Tryz.ntmps13
        go_wp2_with fail
        go_ret2
        exact HB.out
end Go.Proofs.YtoklonmiejdgmaaGreatDoor
/- Labels for chapter 4. -/
namespace Go.Proofs.YtoklonmiejdgmaaGreatDoor
set_option linter.unusedVariables false
set_option linter.unusedSimpArgs false
set_option linter.unnecessarySimpa false
open Go.RowKit
set_option maxHeartbeats 400000
set_option maxRecDepth 100000

def isB (l : Int) : Bool := decide (0 ≤ l) && decide (l ≤ 255)
theorem isB_iff (l : Int) : isB l = true ↔ 0 ≤ l ∧ l ≤ 255 := by simp [isB]
theorem isB_iff' (l : Int) : isB l = false ↔ ¬ (0 ≤ l ∧ l ≤ 255) := by rw [← isB_iff]; simp
def flB (a b : Int) : Bool := isB a && isB b && (andN a.toNat b.toNat == 0)

theorem is_any (l : Int) (w : World) :
    Calls Tryz.prog 154 #[.int .i64 l] w fun e w' => e = .returned (.bool (isB l)) ∧ w = w' := by
  by_cases h : 0 ≤ l
  · have h1 : decide (0 ≤ l) = true := by simpa using h
    go_enter Tryz.func154, Tryz.ntmps154
    go_wp2
    go_ret
    simp [isB, h]
  · have h1 : decide (0 ≤ l) = false := by simpa using h
    go_enter Tryz.func154, Tryz.ntmps154
    go_wp2
    go_ret
    simp [isB]; omega

theorem flows_any (a b : Int) (w : World) :
    Calls Tryz.prog 136 #[.int .i64 a, .int .i64 b] w fun e w' => e = .returned (.bool (flB a b)) ∧ w = w' := by
  by_cases ha : isB a = true
  · by_cases hb : isB b = true
    · go_enter Tryz.func136, Tryz.ntmps136
      go_wp2_with (go_at_call 154; refine (is_any _ _).mono ?_; rintro e w' ⟨rfl, rfl⟩)
      go_ret
      obtain ⟨ha1, ha2⟩ := (isB_iff a).1 ha
      obtain ⟨hb1, hb2⟩ := (isB_iff b).1 hb
      obtain ⟨m, rfl⟩ := Int.eq_ofNat_of_zero_le ha1
      obtain ⟨n, rfl⟩ := Int.eq_ofNat_of_zero_le hb1
      rw [i64_andNot m n (by omega) (by omega)]
      refine ⟨ret_bool ?_, rfl⟩
      rw [Bool.eq_iff_iff]
      simp only [flB, ha, hb, Int.toNat_natCast, Bool.true_and, beq_iff_eq]
      omega
    · simp only [Bool.not_eq_true] at hb
      go_enter Tryz.func136, Tryz.ntmps136
      go_wp2_with (go_at_call 154; refine (is_any _ _).mono ?_; rintro e w' ⟨rfl, rfl⟩)
      go_ret
      simp [flB, ha, hb]
  · simp only [Bool.not_eq_true] at ha
    go_enter Tryz.func136, Tryz.ntmps136
    go_wp2_with (go_at_call 154; refine (is_any _ _).mono ?_; rintro e w' ⟨rfl, rfl⟩)
    go_ret
    simp [flB, ha]

def validB (l cats : Int) : Bool := decide (0 ≤ cats) && decide (cats ≤ 8) && decide (0 ≤ l) && decide (l < 2 ^ cats.toNat)

theorem valid_any (l cats : Int) (w : World) :
    Calls Tryz.prog 128 #[.int .i64 l, .int .i64 cats] w fun e w' => e = .returned (.bool (validB l cats)) ∧ w = w' := by
  by_cases h1 : cats < 0
  · go_enter Tryz.func128, Tryz.ntmps128
    go_wp2_with (go_at_call 154; refine (is_any _ _).mono ?_; rintro e w' ⟨rfl, rfl⟩)
    go_ret
    exact ⟨ret_bool (by simp [validB]; omega), rfl⟩
  · by_cases h2 : 8 < cats
    · go_enter Tryz.func128, Tryz.ntmps128
      go_wp2_with (go_at_call 154; refine (is_any _ _).mono ?_; rintro e w' ⟨rfl, rfl⟩)
      go_ret
      exact ⟨ret_bool (by simp [validB]; omega), rfl⟩
    · obtain ⟨c, rfl⟩ := Int.eq_ofNat_of_zero_le (show 0 ≤ cats by omega)
      have hp : (2 : Nat) ^ c ≤ 2 ^ 8 := Nat.pow_le_pow_right (by decide) (by omega)
      have hp2 : 0 < (2 : Nat) ^ c := Nat.pow_pos (by decide)
      by_cases hl : isB l = true
      · obtain ⟨l1, l2⟩ := (isB_iff l).1 hl
        obtain ⟨m, rfl⟩ := Int.eq_ofNat_of_zero_le l1
        have e : ((m : Int) < 2 ^ c) ↔ m < 2 ^ c := by rw [show (2 : Int) ^ c = ((2 ^ c : Nat) : Int) from by simp]; omega
        have e2 : ((m : Int) / 2 ^ c == 0) = decide (m < 2 ^ c) := by
          rw [show (m : Int) / 2 ^ c = ((m / 2 ^ c : Nat) : Int) from by simp, Bool.eq_iff_iff]
          simp only [beq_iff_eq, decide_eq_true_eq]
          rw [← Nat.div_eq_zero_iff_lt hp2]
          omega
        have E := Lib.hid e; have E2 := Lib.hid e2
        clear e e2 hp hp2
        go_enter Tryz.func128, Tryz.ntmps128
        go_wp2_with (go_at_call 154; refine (is_any _ _).mono ?_; rintro e w' ⟨rfl, rfl⟩)
        go_ret
        refine ⟨ret_bool (E2.out.trans ?_), rfl⟩
        rw [Bool.eq_iff_iff]
        simp only [validB, Int.toNat_natCast, Bool.and_eq_true, decide_eq_true_eq, E.out]
        omega
      · simp only [Bool.not_eq_true] at hl
        have hl2 := (isB_iff' l).1 hl
        have H2 := Lib.hid hl2
        have HP := Lib.hid hp
        clear hl2 hp hp2
        go_enter Tryz.func128, Tryz.ntmps128
        go_wp2_with (go_at_call 154; refine (is_any _ _).mono ?_; rintro e w' ⟨rfl, rfl⟩)
        go_ret
        refine ⟨ret_bool ?_, rfl⟩
        have h3 := H2.out
        have h4 := HP.out
        by_cases h5 : 0 ≤ l
        · have h6 : ¬ l < ((2 ^ c : Nat) : Int) := by simp only [Nat.reducePow] at h4; omega
          simp only [Int.natCast_pow, Int.cast_ofNat_Int] at h6
          simp [validB, h6]
        · simp [validB, h5]

theorem Is_any (l : Int) (w : World) :
    Calls Tryz.prog 160 #[.int .i64 l] w fun e w' => e = .returned (.bool (isB l)) ∧ w = w' := by
  by_cases h : 0 ≤ l
  · have h1 : decide (0 ≤ l) = true := by simpa using h
    go_enter Tryz.func160, Tryz.ntmps160
    go_wp2
    go_ret
    refine ⟨ret_bool ?_, rfl⟩
    rw [Bool.eq_iff_iff]; simp [isB, h]; omega
  · have h1 : decide (0 ≤ l) = false := by simpa using h
    go_enter Tryz.func160, Tryz.ntmps160
    go_wp2
    go_ret
    simp [isB]; omega

theorem has_any (l c : Nat) (hl : l < 9223372036854775808) (hc : c < 64) (w : World) :
    Calls Tryz.prog 161 #[.int .i64 l, .int .i64 c] w fun e w' => e = .returned (.bool (l.testBit c)) ∧ w = w' := by
  go_enter Tryz.func161, Tryz.ntmps161
  go_wp2
  go_ret
  exact ⟨ret_bool (bit_eq l c hl), rfl⟩

def flR (a b : Nat) (k : Nat) : Bool := decide (∀ c, c < k → a.testBit c = true → b.testBit c = true)
def flowsR (a b : Int) : Bool := isB a && isB b && flR a.toNat b.toNat 8
theorem flR_succ (a b k : Nat) : flR a b (k + 1) = (flR a b k && !(a.testBit k && !b.testBit k)) := by
  rw [Bool.eq_iff_iff]
  simp only [flR, decide_eq_true_eq, Bool.and_eq_true, Bool.not_eq_true', Bool.and_eq_false_iff, Bool.not_eq_false']
  constructor
  · intro h
    refine ⟨fun c hc => h c (by omega), ?_⟩
    cases e : a.testBit k
    · exact .inl rfl
    · exact .inr (h k (by omega) e)
  · rintro ⟨h1, h2⟩ c hc ha
    by_cases e : c = k
    · subst e; rcases h2 with h2 | h2
      · rw [h2] at ha; cases ha
      · exact h2
    · exact h1 c (by omega) ha

theorem flR_lt (a b n k : Nat) (h : k ≤ n) (hf : flR a b k = false) : flR a b n = false := by
  simp only [flR, decide_eq_false_iff_not] at hf ⊢
  exact fun hn => hf fun c hc => hn c (by omega)

theorem Flows_ref (a b : Int) (w : World) :
    Calls Tryz.prog 150 #[.int .i64 a, .int .i64 b] w fun e w' => e = .returned (.bool (flowsR a b)) ∧ w = w' := by
  by_cases ha : isB a = true
  · by_cases hb : isB b = true
    · obtain ⟨a1, a2⟩ := (isB_iff a).1 ha
      obtain ⟨b1, b2⟩ := (isB_iff b).1 hb
      obtain ⟨m, rfl⟩ := Int.eq_ofNat_of_zero_le a1
      obtain ⟨n, rfl⟩ := Int.eq_ofNat_of_zero_le b1
      have hE : flowsR (m : Int) (n : Int) = flR m n 8 := by simp [flowsR, ha, hb]
      have HE := Lib.hid hE; clear hE
      go_enter Tryz.func150, Tryz.ntmps150
      go_wp2_with (go_at_call 160; refine (Is_any _ _).mono ?_; rintro e w' ⟨rfl, rfl⟩)
      go_loop [5] (fun i => ∃ k : Nat, k ≤ 8 ∧ i = .int .i64 k ∧ flR m n k = true) (fun i => 8 - (intOf i).toNat)
      case atStart => exact ⟨0, by omega, rfl, by simp [flR]⟩
      case round =>
        obtain ⟨k, hk, rfl, hf⟩ := hrel
        have HF := Lib.hid hf; clear hf
        by_cases hlt : k < 8
        · have HS := Lib.hid (flR_succ m n k)
          cases hx : m.testBit k <;> cases hy : n.testBit k
          all_goals
            go_wp2_with (go_at_call 161; refine (has_any _ k (by omega) (by omega) _).mono ?_; rintro e w' ⟨rfl, rfl⟩)
            first
              | (go_round
                 case rel => exact ⟨k + 1, by omega, by go_num, by rw [HS.out, HF.out, hx, hy]; rfl⟩
                 case measure => simp [intOf]; omega)
              | (go_ret
                 exact ⟨ret_bool (by rw [HE.out]; have := flR_lt m n 8 (k + 1) (by omega) (by rw [HS.out, hx, hy]; simp); simp [this]), rfl⟩)
        · obtain rfl : k = 8 := by omega
          go_wp2_with fail
          go_ret
          exact ⟨ret_bool (by rw [HE.out, HF.out]), rfl⟩
    · simp only [Bool.not_eq_true] at hb
      go_enter Tryz.func150, Tryz.ntmps150
      go_wp2_with (go_at_call 160; refine (Is_any _ _).mono ?_; rintro e w' ⟨rfl, rfl⟩)
      go_ret
      simp [flowsR, ha, hb]
  · simp only [Bool.not_eq_true] at ha
    go_enter Tryz.func150, Tryz.ntmps150
    go_wp2_with (go_at_call 160; refine (Is_any _ _).mono ?_; rintro e w' ⟨rfl, rfl⟩)
    go_ret
    simp [flowsR, ha]

theorem flowsR_eq (a b : Int) : flowsR a b = flB a b := by
  cases ha : isB a
  · simp [flowsR, flB, ha]
  · cases hb : isB b
    · simp [flowsR, flB, ha, hb]
    · have h1 := (isB_iff a).1 ha
      have h2 := (isB_iff b).1 hb
      simp only [flowsR, flB, ha, hb, Bool.true_and]
      have ha2 : a.toNat < 256 := by omega
      have hb2 : b.toNat < 256 := by omega
      generalize a.toNat = m at *
      generalize b.toNat = n at *
      rw [Bool.eq_iff_iff]
      simp only [flR, decide_eq_true_eq, beq_iff_eq]
      have hd : andN m n < 256 := Nat.xor_lt_two_pow (n := 8) (by omega) (Nat.lt_of_le_of_lt Nat.and_le_left (by omega))
      constructor
      · intro h
        refine eq_of_bits8 _ _ hd (by decide) fun c hc => ?_
        rw [andN_testBit, Nat.zero_testBit]
        cases hx : m.testBit c
        · rfl
        · rw [h c hc hx]; rfl
      · intro h c hc hx
        have := andN_testBit m n c
        rw [h, Nat.zero_testBit, hx] at this
        simpa using this.symm
def validR (l cats : Int) : Bool := decide (0 ≤ cats) && decide (cats ≤ 8) && decide (0 ≤ l) && decide (l < 2 ^ cats.toNat)
theorem Valid_ref (l cats : Int) (w : World) :
    Calls Tryz.prog 147 #[.int .i64 l, .int .i64 cats] w fun e w' => e = .returned (.bool (validB l cats)) ∧ w = w' := by
  by_cases h1 : cats < 0
  · go_enter Tryz.func147, Tryz.ntmps147
    go_wp2
    go_ret
    exact ⟨ret_bool (by simp [validB]; omega), rfl⟩
  · by_cases h2 : 8 < cats
    · have h3 : decide (cats ≤ 8) = false := by simp; omega
      go_enter Tryz.func147, Tryz.ntmps147
      go_wp2
      go_ret
      exact ⟨ret_bool (by simp [validB]; omega), rfl⟩
    · obtain ⟨c, rfl⟩ := Int.eq_ofNat_of_zero_le (show 0 ≤ cats by omega)
      have hp : (2 : Nat) ^ c ≤ 2 ^ 8 := Nat.pow_le_pow_right (by decide) (by omega)
      have e : wrap64 (2 ^ c) = 2 ^ c := by
        have e2 : (2 : Int) ^ c = ((2 ^ c : Nat) : Int) := by simp
        simp only [Nat.reducePow] at hp
        rw [e2, IntWalk.wrap64_in]
        generalize 2 ^ c = z at hp ⊢
        omega
      clear hp
      by_cases hl : 0 ≤ l
      · have hl2 : decide (0 ≤ l) = true := by simpa using hl
        go_enter Tryz.func147, Tryz.ntmps147
        go_wp2
        go_ret
        exact ⟨ret_bool (by simp [validB, hl]; omega), rfl⟩
      · have hl2 : decide (0 ≤ l) = false := by simpa using hl
        go_enter Tryz.func147, Tryz.ntmps147
        go_wp2
        go_ret
        exact ⟨ret_bool (by simp [validB]; omega), rfl⟩
end Go.Proofs.YtoklonmiejdgmaaGreatDoor
