/- Package hermitageref03: the reference's table. -/
import Derived.Test.YthmbflofcceifaaParts9
import Derived.Test.YthmbflofcceifaaPartsLaws
namespace Go.Proofs.Ythmbflofcceifaa
set_option linter.unusedVariables false
set_option linter.unusedSimpArgs false
set_option linter.unnecessarySimpa false
open Go.RowKit Go.Sort
set_option maxHeartbeats 400000
set_option maxRecDepth 100000

def fC (f : Nat → Int) (n : Nat) : List Value := (List.range n).map (fun i => Value.int .i64 (f i))
theorem fC_len (f : Nat → Int) (n : Nat) : (fC f n).length = n := by simp [fC]
theorem fC_get (f : Nat → Int) {n i : Nat} (h : i < n) : (fC f n)[i]? = some (.int .i64 (f i)) := by simp [fC, h]
theorem fC_succ (f : Nat → Int) (n : Nat) : fC f (n + 1) = fC f n ++ [.int .i64 (f n)] := by simp [fC, List.range_succ]
theorem fC_congr {f g : Nat → Int} {n : Nat} (h : ∀ i, i < n → f i = g i) : fC f n = fC g n := by
  refine List.map_congr_left (fun i hi => ?_)
  rw [h i (by simpa using hi)]
theorem fC_set (f : Nat → Int) (n j : Nat) (v : Int) : (fC f n).set j (.int .i64 v) = fC (fun i => if i = j then v else f i) n := by
  apply List.ext_getElem?
  intro i
  rw [List.getElem?_set]
  by_cases hi : i < n
  · rw [fC_get (fun i => if i = j then v else f i) hi]
    by_cases e : j = i
    · subst e; simp [fC_len, hi]
    · rw [if_neg e, fC_get _ hi, if_neg (Ne.symm e)]
  · have h1 : (fC f n)[i]? = none := by simp [fC]; omega
    have h2 : (fC (fun i => if i = j then v else f i) n)[i]? = none := by simp [fC]; omega
    rw [h2]
    by_cases e : j = i
    · subst e; simp [fC_len, hi]
    · rw [if_neg e, h1]
theorem fC_one (f : Nat → Int) (n : Nat) : ∀ u ∈ fC f n, u.oneCell' = true := by
  intro u hu
  obtain ⟨i, _, rfl⟩ := List.mem_map.1 hu
  rfl
/-- The reference's table: whose each place is. -/
structure RT (w : World) (B rr : Nat) (a : Option Addr) (c : Nat) (f : Nat → Int) (n : Nat) : Prop where
  obj : ObjAt w rr 47 [.slice a n c]
  own : Own w B 3 1 a n c (fC f n)
namespace RT
variable {w w' : World} {B rr c n : Nat} {a : Option Addr} {f : Nat → Int}
theorem below (h : RT w B rr a c f n) (hb : Below w.heap.size w w') : RT w' B rr a c f n := ⟨h.obj.below hb, h.own.below hb⟩
theorem mono {B' : Nat} (h : RT w B rr a c f n) (hB : B' ≤ B) : RT w B' rr a c f n := ⟨h.obj, h.own.mono hB⟩
theorem mod {S : List Nat} (h : RT w B rr a c f n) (hm : Mod S w w') (h1 : rr ∉ S) (h2 : ∀ k ∈ blk a, k ∉ S) : RT w' B rr a c f n := ⟨h.obj.mod hm h1, h.own.mod hm h2⟩
theorem at_ (h : RT w B rr a c f n) (i : Nat) (hi : i < n) : ∃ g, a = some ⟨g, 0, none⟩ ∧ w.cell? ⟨g, i, none⟩ = some (.int .i64 (f i)) := by
  obtain ⟨g, rfl, _, _⟩ := h.own.at_ (by omega)
  exact ⟨g, rfl, h.own.cell i _ (fC_get f hi)⟩
end RT
set_option maxHeartbeats 1600000 in
theorem rnew_yes (N : Nat) (hN : N ≤ 64) (w : World) : Calls Try.prog 16 #[.int .i64 N] w fun e w' => ∃ a c, e = .returned (.tuple #[.pointer (some ⟨w.heap.size, 0, none⟩), .int .i64 0]) ∧ RT w' w.heap.size w.heap.size a c (fun _ => -1) N ∧ Below w.heap.size w w' := by
  obtain ⟨i0, hi0, hz0, hz1, hz2⟩ := info_parts info_int
  have e1 : decide ((N : Int) < 0) = false := by simp
  have e2 : decide ((64 : Int) < (N : Int)) = false := by simp; omega
  have HR0 : Hid (RT (w.alloc (.cells #[.slice none 0 0] 47)) w.heap.size w.heap.size none 0 (fun _ => -1) 0) := ⟨new_block w _ _ rfl, Own.nil _ _ _ _⟩
  go_enter Try.func16, Try.ntmps16
  go_wp2_with fail
  go_loopw [5] (fun i wr => ∃ (k : Nat) (a : Option Addr) (c : Nat), k ≤ N ∧ i = .int .i64 k ∧ RT wr w.heap.size w.heap.size a c (fun _ => -1) k ∧ Below w.heap.size w wr) (fun i _ => N - (intOf i).toNat)
  case atStart => exact ⟨0, none, 0, Nat.zero_le _, rfl, HR0.out, (Below.refl _ _).alloc (Nat.le_refl _) _⟩
  case round =>
    clear HR0
    obtain ⟨k, a, c, hk, rfl, hr, hb⟩ := hrel
    have HR := Lib.hid hr; have HB := Lib.hid hb
    have c0 := hr.obj.cell 0 _ rfl
    have hbz := hb.size
    clear hr hb
    by_cases g : k < N
    · have d : decide ((k : Int) < (N : Int)) = true := by simp; omega
      go_wp2_with (at_builtin; (refine wpList_own rfl (.tmp 23) (.tmp 24) 22 rfl w.heap.size 3 i0 _ 1 8 Try.underlying22 hi0 hz0 hz1 hz2 rfl (by omega) a k c (fC (fun _ => -1) k) rfl ((HR.out.below ((Below.refl _ _).alloc (Nat.le_refl _) _)).own) wr.heap.size [.int .i64 (-1)] rfl (new_block _ _ _ rfl) rfl (by simp [Value.oneCell']) (by simp only [maxLen]; omega) (by omega) (by simp; omega) ?_); intro g' c' w1 hown1 hmod1 _; have HM1 : Hid (Mod (blk a) wr w1) := ((Mod.ofBelow ((Below.refl wr.heap.size wr).alloc (Nat.le_refl _) _)).trans hmod1); have HO1 := Lib.hid hown1; have ho1 := HR.out.obj.mod HM1.out (HR.out.own.ne HR.out.obj (by decide)); have q0 := ho1.cell 0 _ rfl; have qf := ho1.free 0; have HOB := Lib.hid ho1; clear hown1 hmod1 ho1)
      have h1 : w.heap.size ∉ blk (some ⟨g', 0, none⟩) := HO1.out.ne HOB.out (by decide)
      have hb2 : Below w.heap.size w (w1.setCell ⟨w.heap.size, 0, none⟩ (.slice (some ⟨g', 0, none⟩) (k + 1) c')) := HB.out.trans ((HM1.out.below (B := w.heap.size) (fun j hj => (HR.out.own.ge j hj).1) hbz).setCell (p := ⟨w.heap.size, 0, none⟩) (Nat.le_refl _) _)
      have hr2 : RT (w1.setCell ⟨w.heap.size, 0, none⟩ (.slice (some ⟨g', 0, none⟩) (k + 1) c')) w.heap.size w.heap.size (some ⟨g', 0, none⟩) c' (fun _ => -1) (k + 1) := ⟨HOB.out.set 0 _, by rw [fC_succ]; exact HO1.out.upd (Upd.setCell w1 ⟨w.heap.size, 0, none⟩ _) h1⟩
      go_roundw
      case rel => exact ⟨k + 1, _, c', by omega, by go_num, hr2, hb2⟩
      case measure => simp [intOf]; omega
    · obtain rfl : k = N := by omega
      have d : decide ((k : Int) < (k : Int)) = false := by simp
      go_wp2_with fail
      go_ret2
      exact ⟨a, c, rfl, HR.out, HB.out⟩
theorem rnew_no (n : Int) (hn : n < 0 ∨ 64 < n) (w : World) : Calls Try.prog 16 #[.int .i64 n] w fun e w' => e = .returned (.tuple #[.pointer none, .int .i64 1]) ∧ w = w' := by
  by_cases h0 : n < 0
  · have e1 : decide (n < 0) = true := by simpa using h0
    clear hn
    go_enter Try.func16, Try.ntmps16
    go_wp2
    go_ret2
    exact ⟨rfl, rfl⟩
  · have e1 : decide (n < 0) = false := by simpa using h0
    have e2 : decide (64 < n) = true := by simp; omega
    clear hn
    go_enter Try.func16, Try.ntmps16
    go_wp2
    go_ret2
    exact ⟨rfl, rfl⟩
def rwhoV (f : Nat → Int) (n : Nat) (i : Int) : Int × Bool := if 0 ≤ i ∧ i < n ∧ 0 ≤ f i.toNat then (f i.toNat, true) else (0, false)
theorem rwho_any (B rr c n : Nat) (a : Option Addr) (f : Nat → Int) (i : Int) (w : World) (h : RT w B rr a c f n) : Calls Try.prog 18 #[.pointer (some ⟨rr, 0, none⟩), .int .i64 i] w fun e w' => e = .returned (.tuple #[.int .i64 (rwhoV f n i).1, .bool (rwhoV f n i).2]) ∧ w = w' := by
  have c0 := h.obj.cell 0 _ rfl
  have H := Lib.hid h
  clear h
  by_cases g0 : i < 0
  · have e0 : decide (i < 0) = true := by simpa using g0
    have HV : Hid (rwhoV f n i = (0, false)) := by rw [Hid, rwhoV, if_neg (by omega)]
    clear g0
    go_enter Try.func18, Try.ntmps18
    go_wp2_with fail
    go_ret2
    rw [HV.out]
    exact ⟨rfl, rfl⟩
  · have e0 : decide (i < 0) = false := by simpa using g0
    obtain ⟨k, rfl⟩ := Int.eq_ofNat_of_zero_le (show 0 ≤ i by omega)
    by_cases g1 : k < n
    · have e1 : decide ((n : Int) ≤ (k : Int)) = false := by simp; omega
      obtain ⟨g, rfl, k0⟩ := H.out.at_ k g1
      have hb0 : (0 : Int) ≤ k := by omega
      have hb1 : (k : Int) < (n : Int) := by omega
      by_cases g2 : 0 ≤ f k
      · have e2 : decide (f k < 0) = false := by simp; omega
        have HV : Hid (rwhoV f n k = (f k, true)) := by rw [Hid, rwhoV, if_pos ⟨by omega, by omega, by simpa using g2⟩]; rfl
        generalize f k = x at k0 e2 HV
        clear g2 g0
        go_enter Try.func18, Try.ntmps18
        go_wp2_with fail
        go_ret2
        rw [HV.out]
        exact ⟨rfl, rfl⟩
      · have e2 : decide (f k < 0) = true := by simp; omega
        have HV : Hid (rwhoV f n k = (0, false)) := by rw [Hid, rwhoV, if_neg (by simp; omega)]
        generalize f k = x at k0 e2
        clear g2 g0
        go_enter Try.func18, Try.ntmps18
        go_wp2_with fail
        go_ret2
        rw [HV.out]
        exact ⟨rfl, rfl⟩
    · have e1 : decide ((n : Int) ≤ (k : Int)) = true := by simp; omega
      have HV : Hid (rwhoV f n k = (0, false)) := by rw [Hid, rwhoV, if_neg (by omega)]
      clear g0
      go_enter Try.func18, Try.ntmps18
      go_wp2_with fail
      go_ret2
      rw [HV.out]
      exact ⟨rfl, rfl⟩
/-- How many of the first are nobody's. -/
def negF (f : Nat → Int) : Nat → Nat
  | 0 => 0
  | k + 1 => negF f k + if f k < 0 then 1 else 0
theorem negF_le (f : Nat → Int) : ∀ k, negF f k ≤ k
  | 0 => Nat.le_refl _
  | k + 1 => by have := negF_le f k; unfold negF; split <;> omega
theorem rfree_any (B rr c n : Nat) (a : Option Addr) (f : Nat → Int) (w : World) (h : RT w B rr a c f n) (hn : n ≤ 64) : Calls Try.prog 19 #[.pointer (some ⟨rr, 0, none⟩)] w fun e w' => e = .returned (.int .i64 (negF f n)) ∧ w = w' := by
  have c0 := h.obj.cell 0 _ rfl
  have H := Lib.hid h
  clear h
  go_enter Try.func19, Try.ntmps19
  go_wp2_with fail
  go_loopw [3, 4] (fun s i wr => ∃ k : Nat, k ≤ n ∧ i = .int .i64 k ∧ s = .int .i64 (negF f k : Nat) ∧ w = wr) (fun _ i _ => n - (intOf i).toNat)
  case atStart => exact ⟨0, Nat.zero_le _, rfl, rfl, rfl⟩
  case round =>
    obtain ⟨k, hk, rfl, rfl, rfl⟩ := hrel
    by_cases g : k < n
    · have d : decide ((k : Int) < (n : Int)) = true := by simp; omega
      obtain ⟨g', rfl, k0⟩ := H.out.at_ k g
      have hb0 : (0 : Int) ≤ k := by omega
      have hb1 : (k : Int) < (n : Int) := by omega
      have hnl := negF_le f k
      by_cases g2 : f k < 0
      · have HN : Hid (negF f (k + 1) = negF f k + 1) := by rw [Hid, negF, if_pos g2]
        have e2 : decide (f k < 0) = true := by simpa using g2
        generalize f k = x at k0 e2
        generalize negF f k = z at *
        clear g2
        go_wp2_with fail
        go_roundw
        case rel => exact ⟨k + 1, by omega, by go_num, by rw [HN.out]; go_num, by first | rfl | trivial⟩
        case measure => simp [intOf]; omega
      · have HN : Hid (negF f (k + 1) = negF f k) := by rw [Hid, negF, if_neg g2]; rfl
        have e2 : decide (f k < 0) = false := by simpa using g2
        generalize f k = x at k0 e2
        generalize negF f k = z at *
        clear g2
        go_wp2_with fail
        go_roundw
        case rel => exact ⟨k + 1, by omega, by go_num, by rw [HN.out], by first | rfl | trivial⟩
        case measure => simp [intOf]; omega
    · obtain rfl : k = n := by omega
      have d : decide ((k : Int) < (k : Int)) = false := by simp
      go_wp2_with fail
      go_ret
      exact ⟨rfl, rfl⟩
end Go.Proofs.Ythmbflofcceifaa
