/- The laws of chapter 10: awake, words; AsmTexts, AsmPrograms. -/
import Derived.Test.YtbemhbooihaadaaDoorAsX
import Derived.Test.YtbemhbooihaadaaDoorAsT
namespace Go.Proofs.YtbemhbooihaadaaDoor
set_option linter.unusedVariables false
set_option linter.unusedSimpArgs false
set_option linter.unnecessarySimpa false
open Go.RowKit Go.Sort
set_option maxHeartbeats 2000000
set_option maxRecDepth 100000
set_option linter.unusedVariables false
theorem rd_at {w : World} {size n : Nat} {a : Option Addr} {xs : List Value} (h : Rd w size a n xs) (hx : xs ≠ []) (hn : 0 < n) : ∃ g o, a = some ⟨g, o, none⟩ ∧ g < w.heap.size ∧ ∀ j u, xs[j]? = some u → w.cell? ⟨g, o + j, none⟩ = some u := by
  cases a with
  | none => have := h.2.1 rfl; omega
  | some p =>
    obtain ⟨b, o, rfl, h2, h3⟩ := h.2.2 p rfl hx
    exact ⟨b, o, rfl, h2, h3⟩
theorem uC_get (l : List Int) (k : Nat) (h : k < l.length) : (uC l)[k]? = some (.int .u32 l[k]) := by simp [uC, h]
theorem awakeT : textV 14 1 2 0 (-1) = [97, 100, 100, 105, 32, 114, 49, 32, 114, 50, 32, 45, 49] ∧ textE 14 1 2 0 (-1) = 0 := by decide +kernel
theorem awakeP : pgL [104, 97, 108, 116, 10] = [40] ∧ pgE [104, 97, 108, 116, 10] = 0 ∧ pgAt [104, 97, 108, 116, 10] = 0 := by decide +kernel
theorem awake_any (w : World) (hP : PowIs w) (ht : Isa.Tab w) : Calls Tryd.prog 9 #[] w fun e w' => e = .returned (.bool true) ∧ Below w.heap.size w w' := by
  have HT := Lib.hid ht
  have HA : Hid (∀ W, PowIs W → Isa.Tab W → Calls Tryd.prog 7 #[(.agg #[.int .i64 (14), .int .i64 (1), .int .i64 (2), .int .i64 (0), .int .i64 ((-1))])] W fun e w' => e = .returned (.tuple #[.string ⟨#[97, 100, 100, 105, 32, 114, 49, 32, 114, 50, 32, 45, 49]⟩, .int .i64 0]) ∧ Below W.heap.size W w') := fun W h1 h2 => by
    have := text_asm 14 1 2 0 (-1) W h1 h2
    rw [awakeT.1, awakeT.2] at this
    exact this
  have HB : Hid (∀ W, Isa.Tab W → Calls Tryd.prog 13 #[.string ⟨#[104, 97, 108, 116, 10]⟩] W fun e w' => ∃ g o cap, e = .returned (.tuple #[.slice (some ⟨g, o, none⟩) 1 cap, .int .i64 0, .int .i64 0]) ∧ w'.cell? ⟨g, o, none⟩ = some (.int .u32 40) ∧ Below W.heap.size W w') := fun W h => by
    refine (program_any ⟨#[104, 97, 108, 116, 10]⟩ (by decide) W h).mono ?_
    rintro e w' ⟨a, cap, h1, h2, h3⟩
    have e1 : pgL (⟨#[104, 97, 108, 116, 10]⟩ : ByteArray).data.toList = [40] := awakeP.1
    have e2 : pgE (⟨#[104, 97, 108, 116, 10]⟩ : ByteArray).data.toList = 0 := awakeP.2.1
    have e3 : pgAt (⟨#[104, 97, 108, 116, 10]⟩ : ByteArray).data.toList = 0 := awakeP.2.2
    rw [e1, e2, e3] at h1
    rw [e1] at h2
    obtain ⟨g, o, rfl, h4, h5⟩ := rd_at h2 (by simp [uC]) (by simp)
    exact ⟨g, o, cap, h1, h5 0 _ rfl, h3⟩
  have HP := Lib.hid hP
  clear hP ht
  go_enter Tryd.func9, Tryd.ntmps9
  go_wp2_with fail
  refine (HA.out _ HP.out HT.out).mono ?_; rintro e w1 ⟨rfl, hb1⟩
  have HT1 := Lib.hid (HT.out.below hb1)
  go_wp2_with fail
  refine (HB.out _ HT1.out).mono ?_; rintro e w2 ⟨g, o, cap, rfl, hc, hb2⟩
  have HB2 := Lib.hid (bmore hb1 hb2)
  clear hb1 hb2
  go_wp2_with fail
  go_ret
  exact ⟨rfl, HB2.out⟩
theorem words_same (l : List Int) (n : Nat) (hn : n = l.length) (hm : n ≤ maxLen) (a1 a2 : Option Addr) (c1 c2 : Nat) (w : World) (h1 : Rd w 1 a1 n (uC l)) (h2 : Rd w 1 a2 n (uC l)) :
    Calls Tryd.prog 17 #[.slice a1 n c1, .slice a2 n c2] w fun e w' => e = .returned (.bool true) ∧ Below w.heap.size w w' := by
  unfold maxLen at hm
  have H1 := Lib.hid h1
  have H2 := Lib.hid h2
  have HN := Lib.hid hn
  have nn : ((n : Int) != (n : Int)) = false := by simp
  clear h1 h2 hn
  go_enter Tryd.func17, Tryd.ntmps17
  go_wp2_with fail
  go_loopw [5] (fun i wr => ∃ k : Nat, k ≤ n ∧ i = .int .i64 k ∧ Below w.heap.size w wr) (fun i _ => n - (intOf i).toNat)
  case atStart => exact ⟨0, by omega, rfl, Below.refl _ _⟩
  case round =>
    obtain ⟨k, hk, rfl, hbe⟩ := hrel
    have HBE := Lib.hid hbe
    clear hbe
    by_cases hlt : k < n
    · have hl0 : k < l.length := by rw [← HN.out]; exact hlt
      have hne : uC l ≠ [] := fun e => by have := uC_len l; rw [e] at this; simp at this; rw [← this] at hl0; simp at hl0
      obtain ⟨g1, o1, rfl, hg1, hc1⟩ := rd_at H1.out hne (by omega)
      obtain ⟨g2, o2, rfl, hg2, hc2⟩ := rd_at H2.out hne (by omega)
      obtain ⟨x, hx⟩ : ∃ x, x = l[k] := ⟨_, rfl⟩
      have n1 : wr.cell? ⟨g1, o1 + k, none⟩ = some (.int .u32 x) := by rw [HBE.out.cell (p := ⟨g1, o1 + k, none⟩) hg1, hc1 k _ (uC_get l k hl0), hx]
      have n2 : wr.cell? ⟨g2, o2 + k, none⟩ = some (.int .u32 x) := by rw [HBE.out.cell (p := ⟨g2, o2 + k, none⟩) hg2, hc2 k _ (uC_get l k hl0), hx]
      have d1 : decide ((k : Int) < (n : Int)) = true := decide_eq_true (by omega)
      have d1' : decide (k < n) = true := decide_eq_true hlt
      have w1 : IntKind.i64.wrap ((k : Int) + 1) = (k : Int) + 1 := by rw [IntKind.wrap_i64]; omega
      have nx : (x != x) = false := by simp
      clear hc1 hc2 hx hne hl0
      go_wp2_with fail
      go_region
      all_goals
        go_wp2_with fail
        go_roundw
        case rel => exact ⟨k + 1, by omega, by go_num, HBE.out.drew⟩
        case measure => simp [intOf]; omega
    · obtain rfl : k = n := by omega
      have d1 : decide ((k : Int) < (k : Int)) = false := decide_eq_false (by omega)
      go_wp2_with fail
      go_ret
      exact ⟨rfl, HBE.out⟩
theorem eqI (a b c d e : Int) (w : World) : Sem.run Tryd.prog (Op.equalIn 10000 23 (.agg #[.int .i64 (a), .int .i64 (b), .int .i64 (c), .int .i64 (d), .int .i64 (e)]) (.agg #[.int .i64 (a), .int .i64 (b), .int .i64 (c), .int .i64 (d), .int .i64 (e)])) w = .ok true w := by
  go_simp
theorem parV_shape (s : List UInt8) : ∃ o d a c n er : Int, parV s = .tuple #[(.agg #[.int .i64 (o), .int .i64 (d), .int .i64 (a), .int .i64 (c), .int .i64 (n)]), .int .i64 er] := ⟨_, _, _, _, _, _, rfl⟩
theorem texts_walk (op d a b n : Int) (s : ByteArray) (w : World) (hs : s.size ≤ maxLen) (ht : Isa.Tab w) (hP : PowIs w) :
    Calls Tryd.prog 3 #[(.agg #[.int .i64 (op), .int .i64 (d), .int .i64 (a), .int .i64 (b), .int .i64 (n)]), .string s] w fun e w' => e = .returned (.bool true) ∧ Below w.heap.size w w' := by
  unfold maxLen at hs
  have HT0 : Hid (∀ W, Below w.heap.size w W → Isa.Tab W) := fun W h => ht.below h
  have HP0 : Hid (∀ W, Below w.heap.size w W → PowIs W) := fun W h => hP.below h
  obtain ⟨W0, hW0⟩ : ∃ W, W = w.alloc (.cells #[.int .i64 op, .int .i64 d, .int .i64 a, .int .i64 b, .int .i64 n] 23) := ⟨_, rfl⟩
  have HB0 : Hid (Below w.heap.size w (w.alloc (.cells #[.int .i64 op, .int .i64 d, .int .i64 a, .int .i64 b, .int .i64 n] 23))) := (Below.refl _ _).alloc (Nat.le_refl _) _
  have HI0 : Hid (ObjAt (w.alloc (.cells #[.int .i64 op, .int .i64 d, .int .i64 a, .int .i64 b, .int .i64 n] 23)) w.heap.size 23 [.int .i64 op, .int .i64 d, .int .i64 a, .int .i64 b, .int .i64 n]) := ObjAt.new w 23 [.int .i64 op, .int .i64 d, .int .i64 a, .int .i64 b, .int .i64 n]
  obtain ⟨tv, htv⟩ : ∃ tv, Hid (tv = ba (textV op d a b n)) := ⟨_, Lib.hid rfl⟩
  obtain ⟨te, hte⟩ : ∃ te, Hid (te = textE op d a b n) := ⟨_, Lib.hid rfl⟩
  have HTA : Hid (∀ W, Below w.heap.size w W → Calls Tryd.prog 7 #[(.agg #[.int .i64 (op), .int .i64 (d), .int .i64 (a), .int .i64 (b), .int .i64 (n)])] W fun e w' => e = .returned (.tuple #[.string tv, .int .i64 te]) ∧ Below W.heap.size W w') := fun W h => by rw [htv.out, hte.out]; exact text_asm op d a b n W (hP.below h) (ht.below h)
  have HTR : Hid (∀ W, Calls Tryd.prog 8 #[(.agg #[.int .i64 (op), .int .i64 (d), .int .i64 (a), .int .i64 (b), .int .i64 (n)])] W fun e w' => e = .returned (.tuple #[.string tv, .int .i64 te]) ∧ Below W.heap.size W w') := fun W => by rw [htv.out, hte.out]; exact rtext_any op d a b n W
  clear ht hP hW0
  go_enter Tryd.func3, Tryd.ntmps3
  go_wp2_with fail
  refine (HTA.out _ HB0.out).mono ?_; rintro e w1 ⟨rfl, hb1⟩
  have HB1 := Lib.hid (bmore HB0.out hb1)
  have HI1 := Lib.hid (HI0.out.below hb1)
  have i0 := HI1.out.cell 0 _ rfl; have i1 := HI1.out.cell 1 _ rfl; have i2 := HI1.out.cell 2 _ rfl; have i3 := HI1.out.cell 3 _ rfl; have i4 := HI1.out.cell 4 _ rfl
  clear hb1
  go_wp2_with fail
  refine (HTR.out _).mono ?_; rintro e w2 ⟨rfl, hb2⟩
  have HB2 := Lib.hid (bmore HB1.out hb2)
  clear hb2 i0 i1 i2 i3 i4
  by_cases h5 : 500 < s.size
  · have d1 : decide ((s.size : Int) > 500) = true := decide_eq_true (by omega)
    have d1' : decide (500 < s.size) = true := decide_eq_true h5
    clear h5
    go_wp2_with (go_at_call 9; refine (awake_any _ (HP0.out _ HB2.out) (HT0.out _ HB2.out)).mono ?_; rintro e w3 ⟨rfl, hb3⟩)
    go_ret
    exact ⟨rfl, bmore HB2.out hb3⟩
  · have d1 : decide ((s.size : Int) > 500) = false := decide_eq_false (by omega)
    have d1' : decide (500 < s.size) = false := decide_eq_false h5
    have HPA := fun W h => Lib.hid (parse_any s (by omega) W h)
    have HPR := fun W => Lib.hid (rparse_any s (by omega) W)
    obtain ⟨o', d', a', c', n', er, hpv⟩ := parV_shape s.data.toList
    have HPV := Lib.hid hpv
    clear hpv h5
    rw [HPV.out] at HPA HPR
    have heq : ∀ w, Sem.run Tryd.prog (Op.equalIn 10000 23 (.agg #[.int .i64 (o'), .int .i64 (d'), .int .i64 (a'), .int .i64 (c'), .int .i64 (n')]) (.agg #[.int .i64 (o'), .int .i64 (d'), .int .i64 (a'), .int .i64 (c'), .int .i64 (n')])) w = .ok true w := fun w => eqI o' d' a' c' n' w
    have HEQ := Lib.hid heq
    clear heq
    go_wp2_with fail
    refine ((HPA _ (HT0.out _ HB2.out)).out).mono ?_; rintro e w3 ⟨rfl, hb3⟩
    have HB3 : Hid (∀ o, Below w.heap.size w (w3.alloc o)) := fun o => (bmore HB2.out hb3).alloc (bmore HB2.out hb3).size _
    have HI3 : Hid (ObjAt (w3.alloc (.cells #[.int .i64 o', .int .i64 d', .int .i64 a', .int .i64 c', .int .i64 n'] 23)) w3.heap.size 23 [.int .i64 o', .int .i64 d', .int .i64 a', .int .i64 c', .int .i64 n']) := ObjAt.new w3 23 [.int .i64 o', .int .i64 d', .int .i64 a', .int .i64 c', .int .i64 n']
    clear hb3
    go_wp2_with fail
    refine ((HPR _).out).mono ?_; rintro e w4 ⟨rfl, hb4⟩
    have HI4 := Lib.hid ((HI3.out.below hb4).below ((Below.refl _ _).alloc (Nat.le_refl _) (.cells #[.int .i64 o', .int .i64 d', .int .i64 a', .int .i64 c', .int .i64 n'] 23)))
    have j0 := HI4.out.cell 0 _ rfl; have j1 := HI4.out.cell 1 _ rfl; have j2 := HI4.out.cell 2 _ rfl; have j3 := HI4.out.cell 3 _ rfl; have j4 := HI4.out.cell 4 _ rfl
    have HB4 : Hid (∀ o, Below w.heap.size w (w4.alloc o)) := fun o => (bmore (HB3.out _) hb4).alloc (bmore (HB3.out _) hb4).size _
    have heq := HEQ.out
    clear hb4
    go_wp2_with (go_at_call 9; refine (awake_any _ (HP0.out _ (HB4.out _)) (HT0.out _ (HB4.out _))).mono ?_; rintro e w5 ⟨rfl, hb5⟩)
    go_ret
    exact ⟨rfl, bmore (HB4.out _) hb5⟩
end Go.Proofs.YtbemhbooihaadaaDoor
