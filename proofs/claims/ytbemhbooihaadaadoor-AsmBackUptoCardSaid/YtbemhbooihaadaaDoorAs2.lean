/- Package asm: a text on its way. -/
import Derived.Test.YtbemhbooihaadaaDoorAs1
namespace Go.Proofs.YtbemhbooihaadaaDoor
set_option linter.unusedVariables false
set_option linter.unusedSimpArgs false
set_option linter.unnecessarySimpa false
open Go.RowKit Go.Sort
set_option maxHeartbeats 2000000
set_option maxRecDepth 100000
set_option linter.unusedVariables false
theorem upd_bel {b B : Nat} {x y z : World} (h : Upd b x y) (hb : Below y.heap.size y z) : Upd b x z := h.trans (Upd.of_below hb)
def wregL (n : Int) : List UInt8 := [32, 114] ++ Lib.itoa n
def wnumL (n : Int) : List UInt8 := [32] ++ Lib.itoa n
theorem wreg_any (b : Nat) (l : List UInt8) (n : Int) (h0 : -9223372036854775808 ≤ n) (h1 : n ≤ 9223372036854775807) (w : World) (hP : PowIs w) (h : ObjAt w b 49 [.string (ba l)]) (hlen : l.length ≤ 100000) :
    Calls Tryd.prog 19 #[.pointer (some ⟨b, 0, none⟩), .int .i64 n] w fun e w' => e = .returned (.tuple #[]) ∧ ObjAt w' b 49 [.string (ba (l ++ wregL n))] ∧ Upd b w w' := by
  obtain ⟨t, ht⟩ : ∃ t : ByteArray, t = ba (Lib.itoa n) := ⟨_, rfl⟩
  obtain ⟨s, hs⟩ : ∃ s : ByteArray, s = ba l := ⟨_, rfl⟩
  obtain ⟨r, hr⟩ : ∃ r : ByteArray, r = ba (l ++ wregL n) := ⟨_, rfl⟩
  have hcat : s ++ ((⟨#[32, 114]⟩ : ByteArray) ++ t) = r := by rw [hs, ht, hr]; unfold ba; rw [show (⟨#[32, 114]⟩ : ByteArray) = ⟨(#[32, 114] : Array UInt8).toList.toArray⟩ from rfl, ba_append, ba_append]; rfl
  have hz := Lib.itoa_length_le n h0 h1
  have z1 : t.size ≤ 30 := by rw [ht, ba_size]; omega
  have z2 : s.size ≤ 100000 := by rw [hs, ba_size]; omega
  have q1 : ¬ 9223372036854775807 < 2 + t.size := by omega
  have q2 : ¬ 9223372036854775807 < s.size + (2 + t.size) := by omega
  have ITO : Hid (∀ W, Below w.heap.size w W → Calls Tryd.prog 44 #[.int .i64 n] W fun e w' => e = .returned (.string t) ∧ Below W.heap.size W w') := fun W hb => by rw [ht]; exact itoa_b n h0 h1 W (hP.below hb)
  rw [← hs] at h
  rw [← hr]
  have H := Lib.hid h
  have HCAT := Lib.hid hcat
  have HS : Hid (∀ W', Below w.heap.size w W' → W'.cell? ⟨b, 0, none⟩ = some (.string s) ∧ W'.frozen? ⟨b, 0, none⟩ = false) := fun W' hb => ⟨(H.out.below hb).cell 0 _ rfl, (H.out.below hb).free 0⟩
  clear hP h ht hs hr hz hlen hcat
  go_enter Tryd.func19, Tryd.ntmps19
  go_wp2
  have hc0 := (HS.out _ (Below.refl _ _)).1
  have hf0 := (HS.out _ (Below.refl _ _)).2
  have hc1 : ∀ W, Below w.heap.size w W → W.cell? ⟨b, 0, none⟩ = some (.string s) := fun W h => (HS.out W h).1
  have hf1 : ∀ W, Below w.heap.size w W → W.frozen? ⟨b, 0, none⟩ = false := fun W h => (HS.out W h).2
  go_region_with (go_at_call 44; refine (ITO.out _ (Below.refl _ _).drew).mono ?_; rintro e W1 ⟨rfl, hb1⟩; have z0 := hc1 W1 ((Below.refl _ _).drew.trans hb1); have y0 := hf1 W1 ((Below.refl _ _).drew.trans hb1))
  all_goals
    rw [HCAT.out]
    have HB1 : Hid (Below w.heap.size w W1) := (Below.refl _ _).drew.trans hb1
    have HW2 : Hid (ObjAt (W1.setCell ⟨b, 0, none⟩ (.string r)) b 49 [.string r]) := (H.out.below HB1.out).set 0 _
    have HU2 : Hid (Upd b w (W1.setCell ⟨b, 0, none⟩ (.string r))) := (Upd.of_below HB1.out).trans (Upd.setCell W1 ⟨b, 0, none⟩ _)
    go_end0
    exact ⟨rfl, HW2.out, HU2.out⟩
theorem wnum_any (b : Nat) (l : List UInt8) (n : Int) (h0 : -9223372036854775808 ≤ n) (h1 : n ≤ 9223372036854775807) (w : World) (hP : PowIs w) (h : ObjAt w b 49 [.string (ba l)]) (hlen : l.length ≤ 100000) :
    Calls Tryd.prog 20 #[.pointer (some ⟨b, 0, none⟩), .int .i64 n] w fun e w' => e = .returned (.tuple #[]) ∧ ObjAt w' b 49 [.string (ba (l ++ wnumL n))] ∧ Upd b w w' := by
  obtain ⟨t, ht⟩ : ∃ t : ByteArray, t = ba (Lib.itoa n) := ⟨_, rfl⟩
  obtain ⟨s, hs⟩ : ∃ s : ByteArray, s = ba l := ⟨_, rfl⟩
  obtain ⟨r, hr⟩ : ∃ r : ByteArray, r = ba (l ++ wnumL n) := ⟨_, rfl⟩
  have hcat : s ++ ((⟨#[32]⟩ : ByteArray) ++ t) = r := by rw [hs, ht, hr]; unfold ba; rw [show (⟨#[32]⟩ : ByteArray) = ⟨(#[32] : Array UInt8).toList.toArray⟩ from rfl, ba_append, ba_append]; rfl
  have hz := Lib.itoa_length_le n h0 h1
  have z1 : t.size ≤ 30 := by rw [ht, ba_size]; omega
  have z2 : s.size ≤ 100000 := by rw [hs, ba_size]; omega
  have q1 : ¬ 9223372036854775807 < 1 + t.size := by omega
  have q2 : ¬ 9223372036854775807 < s.size + (1 + t.size) := by omega
  have ITO : Hid (∀ W, Below w.heap.size w W → Calls Tryd.prog 44 #[.int .i64 n] W fun e w' => e = .returned (.string t) ∧ Below W.heap.size W w') := fun W hb => by rw [ht]; exact itoa_b n h0 h1 W (hP.below hb)
  rw [← hs] at h
  rw [← hr]
  have H := Lib.hid h
  have HCAT := Lib.hid hcat
  have HS : Hid (∀ W', Below w.heap.size w W' → W'.cell? ⟨b, 0, none⟩ = some (.string s) ∧ W'.frozen? ⟨b, 0, none⟩ = false) := fun W' hb => ⟨(H.out.below hb).cell 0 _ rfl, (H.out.below hb).free 0⟩
  clear hP h ht hs hr hz hlen hcat
  go_enter Tryd.func20, Tryd.ntmps20
  go_wp2
  have hc0 := (HS.out _ (Below.refl _ _)).1
  have hf0 := (HS.out _ (Below.refl _ _)).2
  have hc1 : ∀ W, Below w.heap.size w W → W.cell? ⟨b, 0, none⟩ = some (.string s) := fun W h => (HS.out W h).1
  have hf1 : ∀ W, Below w.heap.size w W → W.frozen? ⟨b, 0, none⟩ = false := fun W h => (HS.out W h).2
  go_region_with (go_at_call 44; refine (ITO.out _ (Below.refl _ _).drew).mono ?_; rintro e W1 ⟨rfl, hb1⟩; have z0 := hc1 W1 ((Below.refl _ _).drew.trans hb1); have y0 := hf1 W1 ((Below.refl _ _).drew.trans hb1))
  all_goals
    rw [HCAT.out]
    have HB1 : Hid (Below w.heap.size w W1) := (Below.refl _ _).drew.trans hb1
    have HW2 : Hid (ObjAt (W1.setCell ⟨b, 0, none⟩ (.string r)) b 49 [.string r]) := (H.out.below HB1.out).set 0 _
    have HU2 : Hid (Upd b w (W1.setCell ⟨b, 0, none⟩ (.string r))) := (Upd.of_below HB1.out).trans (Upd.setCell W1 ⟨b, 0, none⟩ _)
    go_end0
    exact ⟨rfl, HW2.out, HU2.out⟩
end Go.Proofs.YtbemhbooihaadaaDoor
