/- The walk of PlanWords. -/
import Derived.Test.YtoalpdjpljapbaaDoorPl8
namespace Go.Proofs.YtoalpdjpljapbaaDoor
set_option linter.unusedVariables false
set_option linter.unusedSimpArgs false
set_option linter.unnecessarySimpa false
open Go.RowKit Go.Sort
set_option maxHeartbeats 2000000
set_option maxRecDepth 100000
set_option linter.unusedVariables false
def awkT : List UInt8 := [99, 97, 116, 115, 32, 49, 10, 103, 117, 101, 115, 116, 32, 97, 32, 52, 32, 48, 10, 115, 108, 111, 116, 32, 48, 32, 53, 10]
theorem awkP : ((psV awkT).1.g.length, (psV awkT).1.gate, (psV awkT).2.1, (psV awkT).2.2) = (1, -1, 0, 0) := by decide +kernel
theorem awake_any (w : World) (hT : WdTab w) : Calls Tryd.prog 6 #[] w fun e w' => e = .returned (.bool true) ∧ Below w.heap.size w w' := by
  have HA : Hid (Calls Tryd.prog 7 #[.string ⟨#[99, 97, 116, 115, 32, 49, 10, 103, 117, 101, 115, 116, 32, 97, 32, 52, 32, 48, 10, 115, 108, 111, 116, 32, 48, 32, 53, 10]⟩] w fun e w' => ∃ c : Cv, e = .returned (.tuple #[(.agg #[.int .i64 c.cats, .slice c.g.a c.g.l.length c.g.cap, .slice c.r.a c.r.l.length c.r.cap, .slice c.p.a c.p.l.length c.p.cap, .slice c.n.a c.n.l.length c.n.cap, .slice c.s.a c.s.l.length c.s.cap, .int .i64 c.gate, .int .i64 c.quota]), .int .i64 0, .int .i64 0]) ∧ c.g.l.length = 1 ∧ c.gate = -1 ∧ Below w.heap.size w w') := by
    refine (pparse_any ⟨#[99, 97, 116, 115, 32, 49, 10, 103, 117, 101, 115, 116, 32, 97, 32, 52, 32, 48, 10, 115, 108, 111, 116, 32, 48, 32, 53, 10]⟩ (by decide) w hT).mono ?_
    rintro e w' ⟨c, h1, _, h3, h4⟩
    have hp := awkP
    rw [Prod.mk.injEq, Prod.mk.injEq, Prod.mk.injEq] at hp
    obtain ⟨p1, p2, p3, p4⟩ := hp
    have e0 : (⟨#[99, 97, 116, 115, 32, 49, 10, 103, 117, 101, 115, 116, 32, 97, 32, 52, 32, 48, 10, 115, 108, 111, 116, 32, 48, 32, 53, 10]⟩ : ByteArray).data.toList = awkT := rfl
    rw [e0] at h1 h3
    rw [p3, p4] at h1
    rw [← h3] at p1 p2
    exact ⟨c, h1, p1, p2, h4⟩
  clear hT
  go_enter Tryd.func6, Tryd.ntmps6
  go_wp2_with fail
  refine HA.out.mono ?_; rintro e w1 ⟨c, rfl, hl, hg, hb⟩
  have HB := Lib.hid hb
  rw [hl, hg]
  clear hb hl hg
  go_wp2_with fail
  go_ret
  exact ⟨rfl, HB.out.alloc HB.out.size _⟩
theorem texts_same (l : List (List UInt8)) (a1 a2 : Option Addr) (c1 c2 : Nat) (w : World) (h1 : RdW w a1 c1 l) (h2 : RdW w a2 c2 l) :
    Calls Tryd.prog 12 #[.slice a1 l.length c1, .slice a2 l.length c2] w fun e w' => e = .returned (.bool true) ∧ Below w.heap.size w w' := by
  have hm : l.length ≤ 9223372036854775807 := Nat.le_trans h1.le h1.mx
  have H1 := Lib.hid h1
  have H2 := Lib.hid h2
  have nn : ((l.length : Int) != (l.length : Int)) = false := by simp
  clear h1 h2
  go_enter Tryd.func12, Tryd.ntmps12
  go_wp2_with fail
  go_loopw [5] (fun i wr => ∃ k : Nat, k ≤ l.length ∧ i = .int .i64 k ∧ Below w.heap.size w wr) (fun i _ => l.length - (intOf i).toNat)
  case atStart => exact ⟨0, by omega, rfl, Below.refl _ _⟩
  case round =>
    obtain ⟨k, hk, rfl, hbe⟩ := hrel
    have HBE := Lib.hid hbe
    clear hbe
    by_cases hlt : k < l.length
    · obtain ⟨g1, o1, rfl, hg1, hc1⟩ := H1.out.at_ k hlt
      obtain ⟨g2, o2, rfl, hg2, hc2⟩ := H2.out.at_ k hlt
      obtain ⟨x, hx⟩ : ∃ x, x = ba l[k] := ⟨_, rfl⟩
      have n1 : wr.cell? ⟨g1, o1 + k, none⟩ = some (.string x) := by rw [HBE.out.cell (p := ⟨g1, o1 + k, none⟩) hg1, hc1 k hlt, hx]
      have n2 : wr.cell? ⟨g2, o2 + k, none⟩ = some (.string x) := by rw [HBE.out.cell (p := ⟨g2, o2 + k, none⟩) hg2, hc2 k hlt, hx]
      have d1 : decide ((k : Int) < (l.length : Int)) = true := decide_eq_true (by omega)
      have d1' : decide (k < l.length) = true := decide_eq_true hlt
      have w1 : IntKind.i64.wrap ((k : Int) + 1) = (k : Int) + 1 := by rw [IntKind.wrap_i64]; omega
      have nx : (x.toList != x.toList) = false := by simp
      have le1 : l.length ≤ c1 := H1.out.le
      have le2 : l.length ≤ c2 := H2.out.le
      clear hc1 hc2 hx
      go_wp2_with fail
      go_region
      all_goals
        go_wp2_with fail
        go_roundw
        case rel => exact ⟨k + 1, by omega, by go_num, HBE.out.drew⟩
        case measure => simp [intOf]; omega
    · obtain rfl : k = l.length := by omega
      have d1 : decide ((l.length : Int) < (l.length : Int)) = false := decide_eq_false (by omega)
      go_wp2_with fail
      go_ret
      exact ⟨rfl, HBE.out⟩
def spL (s : List UInt8) : List (List UInt8) := if wordsB s then fieldsC 32 s else []
theorem rdW_nil (w : World) : RdW w none 0 [] := own_rdW (Own.nil w w.heap.size 9 1)
theorem split_uni {s : List UInt8} {w w' : World} {e : Ending} (h : SplitPost s w e w') : ∃ a cap, e = .returned (.tuple #[.slice a (spL s).length cap, .bool (wordsB s)]) ∧ RdW w' a cap (spL s) ∧ Below w.heap.size w w' := by
  unfold spL
  cases hw : wordsB s
  · exact ⟨none, 0, by rw [h.2.1 hw]; rfl, rdW_nil w', h.2.2⟩
  · obtain ⟨a, cap, h1, h2⟩ := h.1 hw
    exact ⟨a, cap, by rw [h1]; rfl, by simpa using h2, h.2.2⟩
def lnsL (s : List UInt8) : List (List UInt8) := if lsB s then lsL s else []
theorem lines_uni {s : List UInt8} {w w' : World} {e : Ending} (h : LsPost s w e w') : ∃ a cap, e = .returned (.tuple #[.slice a (lnsL s).length cap, .bool (lsB s)]) ∧ RdW w' a cap (lnsL s) ∧ Below w.heap.size w w' := by
  unfold lnsL
  cases hw : lsB s
  · exact ⟨none, 0, by rw [h.2.1 hw]; rfl, rdW_nil w', h.2.2⟩
  · obtain ⟨a, cap, h1, h2⟩ := h.1 hw
    exact ⟨a, cap, by rw [h1]; rfl, by simpa using h2, h.2.2⟩
theorem words_walk (s : ByteArray) (w : World) (hs : s.size ≤ maxLen) (hT : WdTab w) : Calls Tryd.prog 4 #[.string s] w fun e w' => e = .returned (.bool true) ∧ Below w.heap.size w w' := by
  have HAW : Hid (∀ W, Below w.heap.size w W → Calls Tryd.prog 6 #[] W fun e w' => e = .returned (.bool true) ∧ Below W.heap.size W w') := fun W h => awake_any W (hT.below h)
  clear hT
  by_cases h2 : 2000 < s.size
  · have d1 : decide ((s.size : Int) > 2000) = true := decide_eq_true (by omega)
    have d1' : decide (2000 < s.size) = true := decide_eq_true h2
    clear h2
    go_enter Tryd.func4, Tryd.ntmps4
    go_wp2_with (go_at_call 6; refine (HAW.out _ (Below.refl _ _)).mono ?_; rintro e w3 ⟨rfl, hb3⟩)
    go_ret
    exact ⟨rfl, hb3⟩
  · have d1 : decide ((s.size : Int) > 2000) = false := decide_eq_false (by omega)
    have d1' : decide (2000 < s.size) = false := decide_eq_false h2
    have HS1 := fun W => Lib.hid (split_any s (by omega) W)
    have HS2 := fun W => Lib.hid (rsplit_any s (by omega) W)
    have HN1 := fun W => Lib.hid (number_any s hs W)
    have HN2 := fun W => Lib.hid (rnumber_any s hs W)
    have HL1 := fun W => Lib.hid (lines_any s (by omega) W)
    have HL2 := fun W => Lib.hid (rlines_any s (by omega) W)
    obtain ⟨t, ht⟩ : ∃ t, t = s.data.toList := ⟨_, rfl⟩
    rw [← ht] at HS1 HS2 HN1 HN2 HL1 HL2
    obtain ⟨S, hS⟩ : ∃ S, Hid (S = spL t) := ⟨_, Lib.hid rfl⟩
    obtain ⟨L, hL⟩ : ∃ L, Hid (L = lnsL t) := ⟨_, Lib.hid rfl⟩
    obtain ⟨sb, hsb⟩ : ∃ S, Hid (S = wordsB t) := ⟨_, Lib.hid rfl⟩
    obtain ⟨lb, hlb⟩ : ∃ L, Hid (L = lsB t) := ⟨_, Lib.hid rfl⟩
    obtain ⟨n, hn⟩ : ∃ S, Hid (S = numI t) := ⟨_, Lib.hid rfl⟩
    obtain ⟨b, hb⟩ : ∃ L, Hid (L = numB t) := ⟨_, Lib.hid rfl⟩
    rw [← hn.out, ← hb.out] at HN1 HN2
    have HSU : Hid (∀ W e w', SplitPost t W e w' → ∃ a cap, e = .returned (.tuple #[.slice a S.length cap, .bool sb]) ∧ RdW w' a cap S ∧ Below W.heap.size W w') := fun W e w' h => by rw [hS.out, hsb.out]; exact split_uni h
    have HLU : Hid (∀ W e w', LsPost t W e w' → ∃ a cap, e = .returned (.tuple #[.slice a L.length cap, .bool lb]) ∧ RdW w' a cap L ∧ Below W.heap.size W w') := fun W e w' h => by rw [hL.out, hlb.out]; exact lines_uni h
    have sbn : (sb != sb) = false := by simp
    have lbn : (lb == lb) = true := by simp
    have bn : (b != b) = false := by simp
    have nn : ((n : Int) != (n : Int)) = false := by simp
    clear h2 ht
    go_enter Tryd.func4, Tryd.ntmps4
    go_wp2_with fail
    refine ((HS1 _).out).mono ?_; intro e w1 h1
    obtain ⟨a1, c1, rfl, r1, b1⟩ := HSU.out _ _ _ h1
    have HB1 := Lib.hid b1
    have HR1 := Lib.hid r1
    clear h1 b1 r1
    go_wp2_with fail
    refine ((HS2 _).out).mono ?_; intro e w2 h2
    obtain ⟨a2, c2, rfl, r2, b2⟩ := HSU.out _ _ _ h2
    have HB2 := Lib.hid (bmore HB1.out b2)
    have HR2 := Lib.hid r2
    have HR1 := Lib.hid (HR1.out.below b2)
    clear h2 b2 r2
    go_wp2_with (go_at_call 12; refine (texts_same _ _ _ _ _ _ HR1.out HR2.out).mono ?_; rintro e w3 ⟨rfl, b3⟩; have HB3 := Lib.hid (bmore HB2.out b3); clear b3)
    refine ((HN1 _).out).mono ?_; rintro e w4 ⟨rfl, b4⟩
    have HB4 := Lib.hid (bmore HB3.out b4)
    clear b4
    go_wp2_with fail
    refine ((HN2 _).out).mono ?_; rintro e w5 ⟨rfl, rfl⟩
    go_wp2_with fail
    refine ((HL1 _).out).mono ?_; intro e w6 h6
    obtain ⟨a6, c6, rfl, r6, b6⟩ := HLU.out _ _ _ h6
    have HB6 := Lib.hid (bmore HB4.out b6)
    have HR6 := Lib.hid r6
    clear h6 b6 r6
    go_wp2_with fail
    refine ((HL2 _).out).mono ?_; intro e w7 h7
    obtain ⟨a7, c7, rfl, r7, b7⟩ := HLU.out _ _ _ h7
    have HB7 := Lib.hid (bmore HB6.out b7)
    have HR7 := Lib.hid r7
    have HR6 := Lib.hid (HR6.out.below b7)
    clear h7 b7 r7
    go_wp2_with (first | (go_at_call 12; refine (texts_same _ _ _ _ _ _ HR6.out HR7.out).mono ?_; rintro e w8 ⟨rfl, b8⟩; have HB8 := Lib.hid (bmore HB7.out b8); clear b8) | (go_at_call 6; refine (HAW.out _ HB8.out).mono ?_; rintro e w9 ⟨rfl, b9⟩; have HB9 := Lib.hid (bmore HB8.out b9); clear b9))
    go_ret
    exact ⟨rfl, HB9.out⟩
end Go.Proofs.YtoalpdjpljapbaaDoor
