/- The walk of AsmPrograms. -/
import Derived.Test.YtbemhbooihaadaaDoorAsY
namespace Go.Proofs.YtbemhbooihaadaaDoor
set_option linter.unusedVariables false
set_option linter.unusedSimpArgs false
set_option linter.unnecessarySimpa false
open Go.RowKit Go.Sort
set_option maxHeartbeats 2000000
set_option maxRecDepth 100000
set_option linter.unusedVariables false
theorem row_rd {W : World} {v : Value} {xs : List Int} (h : RowI W .u32 v xs) (hb : ∀ x ∈ xs, 0 ≤ x ∧ x < 4294967296) :
    ∃ (a : Option Addr) (cap : Nat) (l : List Nat), v = .slice a l.length cap ∧ Rd W 1 a l.length (wC l) ∧ (∀ x ∈ l, x < 4294967296) ∧ l.length ≤ maxLen := by
  obtain ⟨a, cap, rfl, h1, h2, h3⟩ := h
  have hx : wC (xs.map Int.toNat) = xs.map (Value.int .u32) := by
    unfold wC
    rw [List.map_map]
    apply List.map_congr_left
    intro x hx
    have := hb x hx
    simp only [Function.comp]
    rw [Int.toNat_of_nonneg this.1]
  refine ⟨a, cap, xs.map Int.toNat, by rw [List.length_map], ⟨?_, ?_, ?_⟩, ?_, by rw [List.length_map]; omega⟩
  · rw [wC_len]; omega
  · intro ha
    rw [List.length_map]
    cases xs with
    | nil => rfl
    | cons x r => obtain ⟨g, o, hg, _⟩ := h3 (by simp); rw [hg] at ha; cases ha
  · intro p hp hne
    have hne' : xs ≠ [] := fun e => hne (by rw [hx, e]; rfl)
    obtain ⟨g, o, hg, hc⟩ := h3 hne'
    have h0 : 0 < xs.length := List.length_pos_iff.2 hne'
    rw [hg] at hp
    injection hp with hp
    subst hp
    refine ⟨g, o, rfl, World.block_lt_of_cell? W ⟨g, o + 0, none⟩ (hc 0 h0), fun j u hu => ?_⟩
    rw [hx, List.getElem?_map, Option.map_eq_some_iff] at hu
    obtain ⟨x, hx1, rfl⟩ := hu
    obtain ⟨hj, rfl⟩ := List.getElem?_eq_some_iff.1 hx1
    exact hc j hj
  · intro x hx
    obtain ⟨y, hy, rfl⟩ := List.mem_map.1 hx
    have := hb y hy
    omega
theorem programs_walk (s : ByteArray) (a : Option Addr) (cap : Nat) (l : List Nat) (w : World) (hs : s.size ≤ maxLen) (hl : ∀ x ∈ l, x < 4294967296) (hr : Rd w 1 a l.length (wC l)) (hcap : l.length ≤ maxLen) (ht : Isa.Tab w) (hP : PowIs w) :
    Calls Tryd.prog 5 #[.string s, .slice a l.length cap] w fun e w' => e = .returned (.bool true) ∧ Below w.heap.size w w' := by
  unfold maxLen at hs hcap
  have HT0 : Hid (∀ W, Below w.heap.size w W → Isa.Tab W) := fun W h => ht.below h
  have HP0 : Hid (∀ W, Below w.heap.size w W → PowIs W) := fun W h => hP.below h
  have HAW : Hid (∀ W, Below w.heap.size w W → Calls Tryd.prog 9 #[] W fun e w' => e = .returned (.bool true) ∧ Below W.heap.size W w') := fun W h => awake_any W (hP.below h) (ht.below h)
  have HLA : Hid (∀ W, Below w.heap.size w W → Calls Tryd.prog 15 #[.slice a l.length cap] W fun e w' => e = .returned (.tuple #[.string (ba (lsV l)), .int .i64 (lsE l)]) ∧ Below W.heap.size W w') := fun W h => list_asm a cap l hl W (hr.below h) (by unfold maxLen; omega) (hP.below h) (ht.below h)
  have HLR : Hid (∀ W, Below w.heap.size w W → Calls Tryd.prog 16 #[.slice a l.length cap] W fun e w' => e = .returned (.tuple #[.string (ba (lsV l)), .int .i64 (lsE l)]) ∧ Below W.heap.size W w') := fun W h => list_ref a cap l hl W (hr.below h) (by unfold maxLen; omega)
  clear ht hP hl hr
  by_cases h3 : 3000 < s.size
  · have d1 : decide ((s.size : Int) > 3000) = true := decide_eq_true (by omega)
    have d1' : decide (3000 < s.size) = true := decide_eq_true h3
    clear h3
    go_enter Tryd.func5, Tryd.ntmps5
    go_wp2_with (go_at_call 9; refine (HAW.out _ (Below.refl _ _)).mono ?_; rintro e w3 ⟨rfl, hb3⟩)
    go_ret
    exact ⟨rfl, hb3⟩
  · have d1 : decide ((s.size : Int) > 3000) = false := decide_eq_false (by omega)
    have d1' : decide (3000 < s.size) = false := decide_eq_false h3
    by_cases h2 : 200 < l.length
    · have d2 : decide ((l.length : Int) > 200) = true := decide_eq_true (by omega)
      have d2' : decide (200 < l.length) = true := decide_eq_true h2
      clear h3 h2
      go_enter Tryd.func5, Tryd.ntmps5
      go_wp2_with (go_at_call 9; refine (HAW.out _ (Below.refl _ _)).mono ?_; rintro e w3 ⟨rfl, hb3⟩)
      go_ret
      exact ⟨rfl, hb3⟩
    · have d2 : decide ((l.length : Int) > 200) = false := decide_eq_false (by omega)
      have d2' : decide (200 < l.length) = false := decide_eq_false h2
      have HPA := fun W h => Lib.hid (program_any s (by omega) W h)
      have HPR := fun W => Lib.hid (rprogram_any s (by omega) W)
      obtain ⟨p, hp⟩ : ∃ p, Hid (p = pgL s.data.toList) := ⟨_, Lib.hid rfl⟩
      obtain ⟨n, hn⟩ : ∃ n, Hid (n = p.length) := ⟨_, Lib.hid rfl⟩
      obtain ⟨pe, hpe⟩ : ∃ p, Hid (p = pgE s.data.toList) := ⟨_, Lib.hid rfl⟩
      obtain ⟨pa, hpa⟩ : ∃ p, Hid (p = pgAt s.data.toList) := ⟨_, Lib.hid rfl⟩
      have HPO : Hid (∀ W e w', PgPost s.data.toList W e w' → ∃ a cap, e = .returned (.tuple #[.slice a n cap, .int .i64 pe, .int .i64 pa]) ∧ Rd w' 1 a n (uC p) ∧ Below W.heap.size W w') := fun W e w' h => by rw [hn.out, hpe.out, hpa.out, hp.out]; exact h
      have HNM : Hid (n ≤ maxLen) := by
        rw [Hid, hn.out, hp.out, pgL]
        split
        · simp
        · rename_i hlg
          have hlg' : pgLong s.data.toList = false := by simpa using hlg
          unfold pgLong at hlg'
          rw [Bool.or_eq_false_iff, decide_eq_false_iff_not, decide_eq_false_iff_not] at hlg'
          split
          · simp
          · rw [List.length_map]; unfold maxLen; omega
      have HWS : Hid (∀ W a1 c1 a2 c2, Rd W 1 a1 n (uC p) → Rd W 1 a2 n (uC p) → Calls Tryd.prog 17 #[.slice a1 n c1, .slice a2 n c2] W fun e w' => e = .returned (.bool true) ∧ Below W.heap.size W w') := fun W a1 c1 a2 c2 h1 h2 => words_same p n hn.out HNM.out a1 a2 c1 c2 W h1 h2
      obtain ⟨lv, hlv⟩ : ∃ x, Hid (x = ba (lsV l)) := ⟨_, Lib.hid rfl⟩
      obtain ⟨le, hle⟩ : ∃ x, Hid (x = lsE l) := ⟨_, Lib.hid rfl⟩
      rw [← hlv.out, ← hle.out] at HLA HLR
      clear h3 h2 HNM
      go_enter Tryd.func5, Tryd.ntmps5
      go_wp2_with fail
      refine ((HPA _ (HT0.out _ (Below.refl _ _))).out).mono ?_; intro e w1 h1
      obtain ⟨a1, c1, rfl, r1, b1⟩ := HPO.out _ _ _ h1
      have HB1 := Lib.hid b1
      have HR1 := Lib.hid r1
      clear h1 b1 r1
      go_wp2_with fail
      refine ((HPR _).out).mono ?_; intro e w2 h2
      obtain ⟨a2, c2, rfl, r2, b2⟩ := HPO.out _ _ _ h2
      have HB2 := Lib.hid (bmore HB1.out b2)
      have HR2 := Lib.hid r2
      have HR1 := Lib.hid (HR1.out.below b2)
      clear h2 b2 r2
      go_wp2_with fail
      refine (HLA.out _ HB2.out).mono ?_; rintro e w3 ⟨rfl, b3⟩
      have HB3 := Lib.hid (bmore HB2.out b3)
      have HR1 := Lib.hid (HR1.out.below b3)
      have HR2 := Lib.hid (HR2.out.below b3)
      clear b3
      go_wp2_with fail
      refine (HLR.out _ HB3.out).mono ?_; rintro e w4 ⟨rfl, b4⟩
      have HB4 := Lib.hid (bmore HB3.out b4)
      have HR1 := Lib.hid (HR1.out.below b4)
      have HR2 := Lib.hid (HR2.out.below b4)
      clear b4
      go_wp2_with (first | (go_at_call 17; refine (HWS.out _ _ _ _ _ HR1.out HR2.out).mono ?_; rintro e w5 ⟨rfl, b5⟩; have HB5 := Lib.hid (bmore HB4.out b5); clear b5) | (go_at_call 9; refine (HAW.out _ HB5.out).mono ?_; rintro e w6 ⟨rfl, b6⟩))
      go_ret
      exact ⟨rfl, bmore HB5.out b6⟩
theorem programs_law (s : ByteArray) (v : Value) (xs : List Int) (w : World) (hs : s.size ≤ maxLen) (h : RowI w .u32 v xs) (hb : ∀ x ∈ xs, 0 ≤ x ∧ x < 4294967296) (ht : Isa.Tab w) (hP : PowIs w) :
    Calls Tryd.prog 5 #[.string s, v] w fun e w' => e = .returned (.bool true) ∧ Below w.heap.size w w' := by
  obtain ⟨a, cap, l, rfl, hr, hl, hm⟩ := row_rd h hb
  exact programs_walk s a cap l w hs hl hr hm ht hP
end Go.Proofs.YtbemhbooihaadaaDoor
