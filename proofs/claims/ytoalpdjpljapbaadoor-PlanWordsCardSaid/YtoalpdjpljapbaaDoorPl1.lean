/- Package plan: names, ranks, letters, lines, numbers. -/
import Derived.Test.YtoalpdjpljapbaaDoorPlLab
import Derived.Test.YtoalpdjpljapbaaDoorTx3
import Derived.Test.YtoalpdjpljapbaaDoorCf1
namespace Go.Proofs.YtoalpdjpljapbaaDoor
set_option linter.unusedVariables false
set_option linter.unusedSimpArgs false
set_option linter.unnecessarySimpa false
open Go.RowKit Go.Sort
set_option maxHeartbeats 2000000
set_option maxRecDepth 100000
set_option linter.unusedVariables false
def rkNames : List (List UInt8) := [[99, 97, 116, 115], [103, 117, 101, 115, 116], [114, 97, 110, 103, 101], [112, 111, 114, 116], [114, 105, 110, 103], [115, 108, 111, 116], [103, 97, 116, 101]]
def rkName (k : Nat) : List UInt8 := rkNames.getD k []
theorem name_0 (w : World) : Calls Tryd.prog 53 #[.int .i64 0] w fun e w' => e = .returned (.string (ba (rkName 0))) ∧ w = w' := by
  go_enter Tryd.func53, Tryd.ntmps53
  go_wp2
  go_ret
  exact ⟨rfl, rfl⟩
theorem name_1 (w : World) : Calls Tryd.prog 53 #[.int .i64 1] w fun e w' => e = .returned (.string (ba (rkName 1))) ∧ w = w' := by
  go_enter Tryd.func53, Tryd.ntmps53
  go_wp2
  go_ret
  exact ⟨rfl, rfl⟩
theorem name_2 (w : World) : Calls Tryd.prog 53 #[.int .i64 2] w fun e w' => e = .returned (.string (ba (rkName 2))) ∧ w = w' := by
  go_enter Tryd.func53, Tryd.ntmps53
  go_wp2
  go_ret
  exact ⟨rfl, rfl⟩
theorem name_3 (w : World) : Calls Tryd.prog 53 #[.int .i64 3] w fun e w' => e = .returned (.string (ba (rkName 3))) ∧ w = w' := by
  go_enter Tryd.func53, Tryd.ntmps53
  go_wp2
  go_ret
  exact ⟨rfl, rfl⟩
theorem name_4 (w : World) : Calls Tryd.prog 53 #[.int .i64 4] w fun e w' => e = .returned (.string (ba (rkName 4))) ∧ w = w' := by
  go_enter Tryd.func53, Tryd.ntmps53
  go_wp2
  go_ret
  exact ⟨rfl, rfl⟩
theorem name_5 (w : World) : Calls Tryd.prog 53 #[.int .i64 5] w fun e w' => e = .returned (.string (ba (rkName 5))) ∧ w = w' := by
  go_enter Tryd.func53, Tryd.ntmps53
  go_wp2
  go_ret
  exact ⟨rfl, rfl⟩
theorem name_6 (w : World) : Calls Tryd.prog 53 #[.int .i64 6] w fun e w' => e = .returned (.string (ba (rkName 6))) ∧ w = w' := by
  go_enter Tryd.func53, Tryd.ntmps53
  go_wp2
  go_ret
  exact ⟨rfl, rfl⟩
theorem pname_any (k : Nat) (h : k < 7) (w : World) : Calls Tryd.prog 53 #[.int .i64 k] w fun e w' => e = .returned (.string (ba (rkName k))) ∧ w = w' := by
  rcases (by omega : k = 0 ∨ k = 1 ∨ k = 2 ∨ k = 3 ∨ k = 4 ∨ k = 5 ∨ k = 6) with rfl | rfl | rfl | rfl | rfl | rfl | rfl
  · exact name_0 w
  · exact name_1 w
  · exact name_2 w
  · exact name_3 w
  · exact name_4 w
  · exact name_5 w
  · exact name_6 w
/-- The rank of a first word; 7: none has it. -/
def rankV (s : List UInt8) : Nat := match (List.range 7).find? (fun k => decide (rkName k = s)) with
  | some k => k
  | none => 7
theorem rankV_le (s : List UInt8) : rankV s ≤ 7 := by
  unfold rankV
  split
  · rename_i i h
    have := List.mem_range.1 (List.mem_of_find?_eq_some h); omega
  · omega
theorem rankV_hit {s : List UInt8} {k : Nat} (hk : k < 7) (h : rkName k = s) (hn : ∀ j, j < k → rkName j ≠ s) : rankV s = k := by
  have : (List.range 7).find? (fun k => decide (rkName k = s)) = some k := by
    rw [List.find?_range_eq_some]
    exact ⟨by simp [h], List.mem_range.2 hk, fun j hj => by simpa using hn j hj⟩
  rw [rankV, this]
theorem rankV_none {s : List UInt8} (hn : ∀ j, j < 7 → rkName j ≠ s) : rankV s = 7 := by
  have : (List.range 7).find? (fun k => decide (rkName k = s)) = none := by
    rw [List.find?_eq_none]
    intro j hj
    simpa using hn j (List.mem_range.1 hj)
  rw [rankV, this]
theorem rankV_some {s : List UInt8} (h : rankV s < 7) : rkName (rankV s) = s := by
  unfold rankV at h ⊢
  split
  · rename_i i hf
    have := List.find?_some hf
    simpa using this
  · rename_i hf; rw [hf] at h; exact absurd h (by show ¬ (7 < 7); omega)
theorem bs_beq (a : List UInt8) (s : ByteArray) : ((ba a).toList == s.toList) = decide (a = s.data.toList) := by
  rw [ByteArray.toList_eq, ByteArray.toList_eq, ba_data]
  by_cases h : a = s.data.toList <;> simp [h]
theorem rankOf_any (s : ByteArray) (w : World) : Calls Tryd.prog 38 #[.string s] w fun e w' => e = .returned (.tuple #[.int .i64 (if rankV s.data.toList < 7 then rankV s.data.toList else 0 : Nat), .bool (decide (rankV s.data.toList < 7))]) ∧ w = w' := by
  obtain ⟨x, hx⟩ : ∃ x, x = rankV s.data.toList := ⟨_, rfl⟩
  rw [← hx]
  have HX := Lib.hid hx
  clear hx
  go_enter Tryd.func38, Tryd.ntmps38
  go_wp2
  go_loop [5] (fun i => ∃ k : Nat, k ≤ 7 ∧ i = .int .i64 k ∧ ∀ j, j < k → rkName j ≠ s.data.toList) (fun i => 7 - (intOf i).toNat)
  case atStart => exact ⟨0, by omega, rfl, fun j hj => by omega⟩
  case round =>
    obtain ⟨k, hk, rfl, hn⟩ := hrel
    have HN := Lib.hid hn
    clear hn
    by_cases hlt : k < 7
    · have d1 : decide ((k : Int) < 7) = true := decide_eq_true (by omega)
      have d1' : decide (k < 7) = true := decide_eq_true hlt
      have w1 : IntKind.i64.wrap ((k : Int) + 1) = (k : Int) + 1 := by rw [IntKind.wrap_i64]; omega
      have NAM : Hid (∀ w, Calls Tryd.prog 53 #[.int .i64 k] w fun e w' => e = .returned (.string (ba (rkName k))) ∧ w = w') := fun w => pname_any k hlt w
      have hbq := bs_beq (rkName k) s
      by_cases he : rkName k = s.data.toList
      · have hx : x = k := by rw [HX.out]; exact rankV_hit hlt he HN.out
        have de : ((ba (rkName k)).toList == s.toList) = true := by rw [hbq, decide_eq_true he]
        subst hx
        clear he hbq
        go_wp2_with (go_at_call 53; refine (NAM.out _).mono ?_; rintro e w1 ⟨rfl, rfl⟩)
        go_ret2
        exact ⟨rfl, rfl⟩
      · have de : ((ba (rkName k)).toList == s.toList) = false := by rw [hbq, decide_eq_false he]
        have HN2 : Hid (∀ j, j < k + 1 → rkName j ≠ s.data.toList) := fun j hj => by
          by_cases e : j = k
          · subst e; exact he
          · exact HN.out j (by omega)
        clear he hbq
        go_wp2_with (go_at_call 53; refine (NAM.out _).mono ?_; rintro e w1 ⟨rfl, rfl⟩)
        go_round
        case rel => exact ⟨k + 1, by omega, by go_num, HN2.out⟩
        case measure => simp [intOf]; omega
    · have d1 : decide ((k : Int) < 7) = false := decide_eq_false (by omega)
      have d1' : decide (k < 7) = false := decide_eq_false hlt
      have hx : x = 7 := by rw [HX.out]; exact rankV_none (fun j hj => HN.out j (by omega))
      subst hx
      go_wp2
      go_ret2
      exact ⟨rfl, rfl⟩
theorem letters_str (l : Int) (w : World) : Calls Tryd.prog 25 #[.int .i64 l] w fun e w' => e = .returned (.string (lbS l)) ∧ Below w.heap.size w w' := by
  go_enter Tryd.func25, Tryd.ntmps25
  go_wp2_with (go_at_call 55; refine (ltext_any _ _).mono ?_; rintro e w1 ⟨rfl, hb1⟩)
  go_ret
  exact ⟨rfl, hb1⟩
/-- Words as numbers. -/
def nmsB (l : List (List UInt8)) : Bool := l.all numB
def nmsL (l : List (List UInt8)) : List Int := l.map fun x => ((numI x : Nat) : Int)
def zC (l : List Int) : List Value := l.map fun (x : Int) => Value.int .i64 x
theorem zC_len (l : List Int) : (zC l).length = l.length := by simp [zC]
theorem zC_snoc (l : List Int) (x : Int) : zC (l ++ [x]) = zC l ++ [.int .i64 x] := by simp [zC]
theorem zC_get (l : List Int) (k : Nat) (h : k < l.length) : (zC l)[k]? = some (.int .i64 l[k]) := by simp [zC, h]
theorem info_in : (Tryd.prog.info? 3).map (fun i => (i.zero, i.size, i.bytes)) = some (some (.int .i64 0), 1, 8) := by kernel_rfl
theorem nmsB_bad {l : List (List UInt8)} {k : Nat} (h : k < l.length) (hb : numB l[k] = false) : nmsB l = false := by
  unfold nmsB; rw [List.all_eq_false]
  exact ⟨l[k], List.getElem_mem h, by simp [hb]⟩
theorem nmsB_all {l : List (List UInt8)} (h : ∀ k (hk : k < l.length), numB l[k] = true) : nmsB l = true := by
  unfold nmsB; rw [List.all_eq_true]
  intro x hx
  obtain ⟨k, hk, rfl⟩ := List.mem_iff_getElem.1 hx
  exact h k hk
/-- What numbers hands back. -/
def NmPost (l : List (List UInt8)) (w : World) (e : Ending) (w' : World) : Prop :=
  (nmsB l = true → ∃ a cap, e = .returned (.tuple #[.slice a l.length cap, .bool true]) ∧ Own w' w.heap.size 3 1 a l.length cap (zC (nmsL l))) ∧ (nmsB l = false → e = .returned (.tuple #[.slice none 0 0, .bool false])) ∧ Below w.heap.size w w'
theorem numbers_any (a : Option Addr) (cap : Nat) (l : List (List UInt8)) (hsm : ∀ x ∈ l, x.length ≤ 100000000) (hl : l.length ≤ 1000000000) (w : World) (h : Rd w 1 a l.length (strC l)) : Calls Tryd.prog 72 #[.slice a l.length cap] w (NmPost l w) := by
  obtain ⟨ii, hii, hzi, hzi1, hzi2⟩ := info_parts info_in
  have HGET : Hid (∀ k, (hk : k < l.length) → ∃ g o, a = some ⟨g, o, none⟩ ∧ g < w.heap.size ∧ w.cell? ⟨g, o + k, none⟩ = some (.string (ba l[k]))) := fun k hk => by
    have ha : a ≠ none := fun h0 => by have := h.2.1 h0; omega
    obtain ⟨p, rfl⟩ := Option.ne_none_iff_exists'.1 ha
    obtain ⟨b, o, rfl, hb, hc⟩ := h.2.2 p rfl (fun h0 => by have := strC_len l; rw [h0] at this; simp at this; omega)
    exact ⟨b, o, rfl, hb, hc k _ (strC_get l k hk)⟩
  have HBAD : Hid (∀ w', nmsB l = false → Below w.heap.size w w' → NmPost l w (.returned (.tuple #[.slice none 0 0, .bool false])) w') := fun w' h1 h2 => ⟨fun h => (by rw [h1] at h; cases h), fun _ => rfl, h2⟩
  have HGOOD : Hid (∀ w' a' c', nmsB l = true → Own w' w.heap.size 3 1 a' l.length c' (zC (nmsL l)) → Below w.heap.size w w' → NmPost l w (.returned (.tuple #[.slice a' l.length c', .bool true])) w') := fun w' a' c' h1 h2 h3 => ⟨fun _ => ⟨a', c', rfl, h2⟩, fun h => (by rw [h1] at h; cases h), h3⟩
  have HSM := Lib.hid hsm
  have HO0 : Hid (Own w w.heap.size 3 1 none 0 0 (zC (nmsL (l.take 0)))) := Own.nil _ _ _ _
  clear h hsm
  go_enter Tryd.func72, Tryd.ntmps72
  go_wp2
  go_loopw [4, 11] (fun o i wr => ∃ (k : Nat) (ao : Option Addr) (co : Nat), k ≤ l.length ∧ i = .int .i64 k ∧ o = .slice ao k co ∧ Own wr w.heap.size 3 1 ao k co (zC (nmsL (l.take k))) ∧ Below w.heap.size w wr ∧ ∀ j (hj : j < l.length), j < k → numB l[j] = true) (fun _ i _ => l.length - (intOf i).toNat)
  case atStart => exact ⟨0, none, 0, by omega, rfl, rfl, HO0.out, Below.refl _ _, fun j _ hj => by omega⟩
  case round =>
    clear HO0
    obtain ⟨k, ao, co, hk, rfl, rfl, ho, hbe, hn⟩ := hrel
    have HO := Lib.hid ho
    have HB := Lib.hid hbe
    have HN := Lib.hid hn
    have hsz := hbe.size
    clear ho hbe hn
    by_cases hlt : k < l.length
    · obtain ⟨g, o, ha, hg, hc⟩ := HGET.out k hlt
      obtain ⟨x, hx⟩ : ∃ x, Hid (x = l[k]) := ⟨_, Lib.hid rfl⟩
      have hcr : wr.cell? ⟨g, o + k, none⟩ = some (.string (ba x)) := by rw [HB.out.cell (p := ⟨g, o + k, none⟩) hg, hc, hx.out]
      have hxl : x.length ≤ 100000000 := by rw [hx.out]; exact HSM.out _ (List.getElem_mem hlt)
      have HNUM := fun W => Lib.hid (number_any (ba x) (by rw [ba_size]; unfold maxLen; omega) W)
      rw [ba_data] at HNUM
      subst ha
      clear hc
      cases hb : numB x
      · have HBD := Lib.hid (nmsB_bad hlt (by rw [← hx.out]; exact hb))
        rw [hb] at HNUM
        clear hb
        go_wp2_with (go_at_call 13; refine ((HNUM _).out).mono ?_; rintro e w1 ⟨rfl, hb1⟩)
        go_ret2
        exact HBAD.out _ HBD.out (bmore HB.out hb1)
      · have HN2 : Hid (∀ j (hj : j < l.length), j < k + 1 → numB l[j] = true) := fun j hj hjk => by
          by_cases e : j = k
          · subst e; rw [← hx.out]; exact hb
          · exact HN.out j hj (by omega)
        rw [hb] at HNUM
        have HV : Hid (zC (nmsL (l.take (k + 1))) = zC (nmsL (l.take k)) ++ [.int .i64 (numI x : Nat)]) := by
          rw [Hid, List.take_succ_eq_append_getElem hlt, nmsL, List.map_append, List.map_cons, List.map_nil, zC_snoc, hx.out]; rfl
        have hlx := numI_lt x
        clear hb
        generalize numI x = v at HNUM HV hlx
        go_wp2_with fail
        refine ((HNUM _).out).mono ?_; rintro e w3 ⟨rfl, hb3⟩
        have HB3 := Lib.hid (bmore HB.out hb3)
        have HO3 := Lib.hid (HO.out.below hb3)
        have hs3 := HB3.out.size
        clear hb3
        go_wp2_with (at_builtin; (refine wpList_own rfl (.tmp 22) (.tmp 24) 96 rfl w.heap.size 3 ii _ 1 8 Tryd.underlying96 hii hzi hzi1 hzi2 rfl (by omega) ao k co (zC (nmsL (l.take k))) rfl (HO3.out.below ((Below.refl _ _).alloc (Nat.le_refl _) _)) w3.heap.size [.int .i64 (v : Nat)] rfl (new_block _ _ _ rfl) rfl (by simp [Value.oneCell']) (by simp only [maxLen]; omega) (by omega) (by simp; omega) ?_); intro g' c' w4 hown1 hmod1 _; have HO4 := Lib.hid hown1; have HM : Hid (Mod (blk ao) w3 w4) := ((Mod.ofBelow ((Below.refl w3.heap.size w3).alloc (Nat.le_refl _) _)).trans hmod1); clear hown1 hmod1)
        have HO5 : Hid (Own w4 w.heap.size 3 1 (some ⟨g', 0, none⟩) (k + 1) c' (zC (nmsL (l.take (k + 1))))) := by rw [HV.out]; exact HO4.out
        have HB4 : Hid (Below w.heap.size w w4) := HB3.out.trans (HM.out.below (fun j hj => (HO3.out.ge j hj).1) hs3)
        go_roundw
        case rel => exact ⟨k + 1, some ⟨g', 0, none⟩, c', by omega, by go_num, by go_num, HO5.out, HB4.out, HN2.out⟩
        case measure => simp [intOf]; omega
    · obtain rfl : k = l.length := by omega
      rw [List.take_length] at HO
      have HT := Lib.hid (nmsB_all (fun j hj => HN.out j hj hj))
      have HFIN := Lib.hid (HGOOD.out wr ao co HT.out HO.out HB.out)
      go_wp2_with fail
      go_ret2
      exact HFIN.out
end Go.Proofs.YtoalpdjpljapbaaDoor
