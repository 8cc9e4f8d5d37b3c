/- The walks of package isa. -/
import Derived.Test.YtjphehncpgekfaaDoorFlat
import Derived.Test.YtjphehncpgekfaaDoorRows
namespace Go.Proofs.YtjphehncpgekfaaDoor
open Go.RowKit
set_option maxHeartbeats 400000
set_option maxRecDepth 100000

def hasL : List Int := [0, 7, 7, 7, 7, 7, 7, 7, 7, 7, 7, 7, 7, 7, 11, 11, 11, 11, 11, 11, 11, 11, 9, 11, 11, 11, 14, 14, 14, 14, 14, 14, 9, 11, 0, 0, 0, 9, 10, 0, 0, 0]
def hasI (op : Nat) : Int := hasL.getD op 0
/-- The table lies in memory. -/
def Tab (w : World) : Prop := ∀ i, i < 42 → w.cell? ⟨0, i, none⟩ = some (.int .i64 (hasI i))
theorem Tab.below {w w' : World} (h : Tab w) (hb : Below w.heap.size w w') : Tab w' := fun i hi => by
  rw [hb.cell (p := ⟨0, i, none⟩) (World.block_lt_of_cell? w _ (h i hi))]
  exact h i hi

def realB (op : Int) : Bool := decide (1 ≤ op) && decide (op ≤ 41)
theorem real_any (op : Int) (w : World) : Calls Tryd.prog 18 #[.int .i64 op] w fun e w' => e = .returned (.bool (realB op)) ∧ w = w' := by
  by_cases h : 1 ≤ op
  · have h1 : decide (1 ≤ op) = true := by simpa using h
    go_enter Tryd.func18, Tryd.ntmps18
    go_wp2
    go_ret
    exact ⟨ret_bool (by simp [realB, h]), rfl⟩
  · have h1 : decide (1 ≤ op) = false := by simpa using h
    go_enter Tryd.func18, Tryd.ntmps18
    go_wp2
    go_ret
    exact ⟨ret_bool (by simp [realB]; omega), rfl⟩

def regB (may : Bool) (n : Int) : Bool := if may then decide (0 ≤ n) && decide (n < 16) else n == 0
theorem register_any (may : Bool) (n : Int) (w : World) : Calls Tryd.prog 19 #[.bool may, .int .i64 n] w fun e w' => e = .returned (.bool (regB may n)) ∧ w = w' := by
  cases may
  · go_enter Tryd.func19, Tryd.ntmps19
    go_wp2
    go_ret
    exact ⟨ret_bool (by simp [regB]), rfl⟩
  · by_cases h : 0 ≤ n
    · have h1 : decide (0 ≤ n) = true := by simpa using h
      go_enter Tryd.func19, Tryd.ntmps19
      go_wp2
      go_ret
      exact ⟨ret_bool (by simp [regB, h]), rfl⟩
    · have h1 : decide (0 ≤ n) = false := by simpa using h
      go_enter Tryd.func19, Tryd.ntmps19
      go_wp2
      go_ret
      exact ⟨ret_bool (by simp [regB]; omega), rfl⟩

def immB (op : Nat) (n : Int) : Bool :=
  if op = 18 ∨ op = 19 ∨ op = 20 then decide (0 ≤ n) && decide (n ≤ 31)
  else if op = 37 ∨ op = 38 then decide (0 ≤ n) && decide (n < 9)
  else if bits BinOp.and IntKind.i64 (hasI op) 8 == 0 then n == 0 else decide (-8192 ≤ n) && decide (n ≤ 8191)
theorem imm_any (op : Nat) (n : Int) (hop : op < 42) (w : World) (ht : Tab w) : Calls Tryd.prog 20 #[.int .i64 op, .int .i64 n] w fun e w' => e = .returned (.bool (immB op n)) ∧ w = w' := by
  have hc := ht op hop
  clear ht
  by_cases h1 : op = 18 ∨ op = 19 ∨ op = 20
  · have e1 : immB op n = (decide (0 ≤ n) && decide (n ≤ 31)) := by rw [immB, if_pos h1]
    have E := Lib.hid e1; clear e1
    by_cases hn : 0 ≤ n
    · have h2 : decide (0 ≤ n) = true := by simpa using hn
      rcases h1 with rfl | rfl | rfl
      all_goals
        go_enter Tryd.func20, Tryd.ntmps20
        go_wp2
        go_ret
        exact ⟨ret_bool (by rw [E.out]; simp [hn]), rfl⟩
    · have h2 : decide (0 ≤ n) = false := by simpa using hn
      rcases h1 with rfl | rfl | rfl
      all_goals
        go_enter Tryd.func20, Tryd.ntmps20
        go_wp2
        go_ret
        exact ⟨ret_bool (by rw [E.out]; simp; omega), rfl⟩
  · by_cases h2 : op = 37 ∨ op = 38
    · have e1 : immB op n = (decide (0 ≤ n) && decide (n < 9)) := by rw [immB, if_neg h1, if_pos h2]
      have E := Lib.hid e1; clear e1
      by_cases hn : 0 ≤ n
      · have h3 : decide (0 ≤ n) = true := by simpa using hn
        rcases h2 with rfl | rfl
        all_goals
          go_enter Tryd.func20, Tryd.ntmps20
          go_wp2
          go_ret
          exact ⟨ret_bool (by rw [E.out]; simp [hn]), rfl⟩
      · have h3 : decide (0 ≤ n) = false := by simpa using hn
        rcases h2 with rfl | rfl
        all_goals
          go_enter Tryd.func20, Tryd.ntmps20
          go_wp2
          go_ret
          exact ⟨ret_bool (by rw [E.out]; simp; omega), rfl⟩
    · have g1 : ((op : Int) == 18) = false := by simp; omega
      have g2 : ((op : Int) == 19) = false := by simp; omega
      have g3 : ((op : Int) == 20) = false := by simp; omega
      have g4 : ((op : Int) == 37) = false := by simp; omega
      have g5 : ((op : Int) == 38) = false := by simp; omega
      cases hb : bits BinOp.and IntKind.i64 (hasI op) 8 == 0
      · have e1 : immB op n = (decide (-8192 ≤ n) && decide (n ≤ 8191)) := by rw [immB, if_neg h1, if_neg h2, hb]; rfl
        have E := Lib.hid e1; clear e1 h1 h2
        by_cases hn : -8192 ≤ n
        · have h3 : decide (-8192 ≤ n) = true := by simpa using hn
          go_enter Tryd.func20, Tryd.ntmps20
          go_wp2
          go_ret
          exact ⟨ret_bool (by rw [E.out]; simp [hn]), rfl⟩
        · have h3 : decide (-8192 ≤ n) = false := by simpa using hn
          go_enter Tryd.func20, Tryd.ntmps20
          go_wp2
          go_ret
          exact ⟨ret_bool (by rw [E.out]; simp; omega), rfl⟩
      · have e1 : immB op n = (n == 0) := by rw [immB, if_neg h1, if_neg h2, hb]; rfl
        have E := Lib.hid e1; clear e1 h1 h2
        go_enter Tryd.func20, Tryd.ntmps20
        go_wp2
        go_ret
        exact ⟨ret_bool (by rw [E.out]), rfl⟩
end Go.Proofs.YtjphehncpgekfaaDoor
