/- Packages hermitageref01, hermitageref02, hermitageref24: Is, Fit; the reference's disk: set, Bytes. -/
import Derived.Test.YtlafijnmoaenaaaDRef
import Derived.Test.YtlafijnmoaenaaaDisk6
namespace Go.Proofs.Ytlafijnmoaenaaa
set_option linter.unusedVariables false
set_option linter.unusedSimpArgs false
set_option linter.unnecessarySimpa false
open Go.RowKit Go.Sort
set_option maxHeartbeats 400000
set_option maxRecDepth 100000

theorem Is_ref (l : Int) (w : World) : Calls Try.prog 32 #[.int .i64 l] w fun e w' => e = .returned (.bool (isB l)) ∧ w = w' := by
  by_cases h : 0 ≤ l
  · have h1 : decide (0 ≤ l) = true := by simpa using h
    by_cases h2 : l < 256
    · have h3 : decide (l < 256) = true := by simpa using h2
      have HV : Hid (isB l = true) := (isB_iff l).2 ⟨h, by omega⟩
      clear h h2
      go_enter Try.func32, Try.ntmps32
      go_wp2
      go_ret
      rw [HV.out]
      exact ⟨rfl, rfl⟩
    · have h3 : decide (l < 256) = false := by simpa using h2
      have HV : Hid (isB l = false) := (isB_iff' l).2 (by omega)
      clear h h2
      go_enter Try.func32, Try.ntmps32
      go_wp2
      go_ret
      rw [HV.out]
      exact ⟨rfl, rfl⟩
  · have h1 : decide (0 ≤ l) = false := by simpa using h
    have HV : Hid (isB l = false) := (isB_iff' l).2 (by omega)
    clear h
    go_enter Try.func32, Try.ntmps32
    go_wp2
    go_ret
    rw [HV.out]
    exact ⟨rfl, rfl⟩
/-- A text's sixteen bytes, one by one. -/
theorem bytesI_len (s : ByteArray) : (bytesI s).length = s.size := by simp [bytesI]
theorem fitB_hit (s : ByteArray) (k : Nat) (hk : k < 16) (h : k < s.size) : (fitB s).take (k + 1) = (fitB s).take k ++ [(s[k].toNat : Int)] := by
  have hl := fitB_len s
  have e1 := bytesI_len s
  rw [List.take_succ_eq_append_getElem (by omega)]
  congr 1
  congr 1
  unfold fitB
  rw [List.getElem_take, List.getElem_append_left (by omega)]
  simp [bytesI]
  rfl
theorem fitB_miss (s : ByteArray) (k : Nat) (hk : k < 16) (h : ¬ k < s.size) : (fitB s).take (k + 1) = (fitB s).take k ++ [0] := by
  have hl := fitB_len s
  have e1 := bytesI_len s
  rw [List.take_succ_eq_append_getElem (by omega)]
  congr 1
  congr 1
  unfold fitB
  rw [List.getElem_take, List.getElem_append_right (by omega)]
  have e : z16 = List.replicate 16 0 := rfl
  simp only [e, List.getElem_replicate]
set_option maxHeartbeats 1600000 in
theorem rfit_any (s : ByteArray) (w : World) (hs : s.size ≤ maxLen) : Calls Try.prog 35 #[.string s, .int .i64 16] w (BPost w.heap.size 16 (fitB s) w) := by
  obtain ⟨i0, hi0, hz0, hz1, hz2⟩ := info_parts info_u8p
  have HO0 : Hid (Own w w.heap.size 5 1 none 0 0 (bC [])) := Own.nil _ _ _ _
  unfold maxLen at hs
  go_enter Try.func35, Try.ntmps35
  go_wp2_with fail
  go_loopw [5, 6, 7] (fun o i u wr => ∃ (k : Nat) (a : Option Addr) (c : Nat), k ≤ 16 ∧ i = .int .i64 k ∧ o = .slice a k c ∧ Own wr w.heap.size 5 1 a k c (bC ((fitB s).take k)) ∧ Below w.heap.size w wr) (fun o i u _ => 16 - (intOf i).toNat)
  case atStart => exact ⟨0, none, 0, Nat.zero_le _, rfl, rfl, HO0.out, Below.refl _ _⟩
  case round =>
    clear HO0
    obtain ⟨k, a, c, hk, rfl, rfl, ho, hb⟩ := hrel
    have HO := Lib.hid ho; have HB := Lib.hid hb
    have hbz := hb.size
    clear ho hb
    by_cases g : k < 16
    · have d1 : decide ((k : Int) < 16) = true := by simp; omega
      have d2 : decide ((k : Int) < 16384) = true := by simp; omega
      by_cases g2 : k < s.size
      · have d3 : decide ((k : Int) < (s.size : Int)) = true := by simp; omega
        have HS := Lib.hid (fitB_hit s k g g2)
        (
        go_wp2_with (at_builtin; (refine wpList_own rfl (.tmp 24) (.tmp 26) 22 rfl w.heap.size 5 i0 _ 1 1 Try.underlying22 hi0 hz0 hz1 hz2 rfl (by omega) a k c (bC ((fitB s).take k)) rfl (HO.out.below ((Below.refl _ _).alloc (Nat.le_refl _) _)) wr.heap.size [.int .u8 ((s[k].toNat : Int))] rfl (new_block _ _ _ rfl) rfl (by simp [Value.oneCell']) (by simp only [maxLen]; omega) (by omega) (by simp; omega) ?_); intro g' c' w3 hown3 hmod3 _; have HM3 : Hid (Mod (blk a) wr w3) := ((Mod.ofBelow ((Below.refl wr.heap.size wr).alloc (Nat.le_refl _) _)).trans hmod3); have HO3 := Lib.hid hown3; clear hown3 hmod3)
        have HB3 : Hid (Below w.heap.size w w3) := HB.out.trans (HM3.out.below (fun q hq => (HO.out.ge q hq).1) HB.out.size)
        have HO4 : Hid (Own w3 w.heap.size 5 1 (some ⟨g', 0, none⟩) (k + 1) c' (bC ((fitB s).take (k + 1)))) := by rw [Hid, HS.out]; simpa [bC] using HO3.out
        go_roundw
        case rel => exact ⟨k + 1, some ⟨g', 0, none⟩, c', by omega, by go_num, rfl, HO4.out, HB3.out⟩
        case measure => simp [intOf]; omega
)
      · have d3 : decide ((k : Int) < (s.size : Int)) = false := by simp; omega
        have HS := Lib.hid (fitB_miss s k g g2)
        (
        go_wp2_with (at_builtin; (refine wpList_own rfl (.tmp 24) (.tmp 26) 22 rfl w.heap.size 5 i0 _ 1 1 Try.underlying22 hi0 hz0 hz1 hz2 rfl (by omega) a k c (bC ((fitB s).take k)) rfl (HO.out.below ((Below.refl _ _).alloc (Nat.le_refl _) _)) wr.heap.size [.int .u8 (0)] rfl (new_block _ _ _ rfl) rfl (by simp [Value.oneCell']) (by simp only [maxLen]; omega) (by omega) (by simp; omega) ?_); intro g' c' w3 hown3 hmod3 _; have HM3 : Hid (Mod (blk a) wr w3) := ((Mod.ofBelow ((Below.refl wr.heap.size wr).alloc (Nat.le_refl _) _)).trans hmod3); have HO3 := Lib.hid hown3; clear hown3 hmod3)
        have HB3 : Hid (Below w.heap.size w w3) := HB.out.trans (HM3.out.below (fun q hq => (HO.out.ge q hq).1) HB.out.size)
        have HO4 : Hid (Own w3 w.heap.size 5 1 (some ⟨g', 0, none⟩) (k + 1) c' (bC ((fitB s).take (k + 1)))) := by rw [Hid, HS.out]; simpa [bC] using HO3.out
        go_roundw
        case rel => exact ⟨k + 1, some ⟨g', 0, none⟩, c', by omega, by go_num, rfl, HO4.out, HB3.out⟩
        case measure => simp [intOf]; omega
)
    · obtain rfl : k = 16 := by omega
      have d1 : decide (((16 : Nat) : Int) < 16) = false := by decide
      go_wp2_with fail
      go_ret
      have := HO.out
      rw [List.take_of_length_le (by rw [fitB_len]; exact Nat.le_refl _)] at this
      exact ⟨a, c, rfl, this, HB.out⟩
end Go.Proofs.Ytlafijnmoaenaaa
