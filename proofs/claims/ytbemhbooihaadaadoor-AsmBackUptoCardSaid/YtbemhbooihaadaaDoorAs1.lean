/- Package asm: names of operations. -/
import Derived.Test.YtbemhbooihaadaaDoorTx4
import Derived.Test.YtbemhbooihaadaaDoorAsIsa
namespace Go.Proofs.YtbemhbooihaadaaDoor
set_option linter.unusedVariables false
set_option linter.unusedSimpArgs false
set_option linter.unnecessarySimpa false
open Go.RowKit Go.Sort
set_option maxHeartbeats 2000000
set_option maxRecDepth 100000
set_option linter.unusedVariables false
def opNames : List (List UInt8) := [[], [97, 100, 100], [115, 117, 98], [97, 110, 100], [111, 114], [120, 111, 114], [115, 104, 108], [115, 104, 114], [115, 97, 114], [115, 108, 116], [115, 108, 116, 117], [109, 117, 108], [100, 105, 118, 117], [114, 101, 109, 117], [97, 100, 100, 105], [97, 110, 100, 105], [111, 114, 105], [120, 111, 114, 105], [115, 104, 108, 105], [115, 104, 114, 105], [115, 97, 114, 105], [115, 108, 116, 105], [108, 117, 105], [108, 119], [108, 98], [108, 98, 117], [115, 119], [115, 98], [98, 101, 113], [98, 110, 101], [98, 108, 116], [98, 108, 116, 117], [106, 97, 108], [106, 97, 108, 114], [99, 97, 108, 108], [104, 99, 97, 108, 108], [114, 101, 116], [99, 115, 114, 114], [99, 115, 114, 119], [105, 110, 118], [104, 97, 108, 116], [98, 114, 107]]
def opName (o : Nat) : List UInt8 := opNames.getD o []
def allL : List UInt8 := ([97, 100, 100, 32, 115, 117, 98, 32, 97, 110, 100, 32, 111, 114, 32, 120, 111, 114, 32, 115, 104, 108, 32, 115, 104, 114, 32, 115, 97, 114, 32, 115, 108, 116, 32, 115, 108, 116, 117, 32, 109, 117, 108, 32].append [100, 105, 118, 117, 32, 114, 101, 109, 117, 32, 97, 100, 100, 105, 32, 97, 110, 100, 105, 32, 111, 114, 105, 32, 120, 111, 114, 105, 32, 115, 104, 108, 105, 32, 115, 104, 114, 105, 32, 115, 97, 114, 105, 32]).append ([115, 108, 116, 105, 32, 108, 117, 105, 32, 108, 119, 32, 108, 98, 32, 108, 98, 117, 32, 115, 119, 32, 115, 98, 32, 98, 101, 113, 32, 98, 110, 101, 32, 98, 108, 116, 32, 98, 108, 116, 117, 32, 106, 97].append [108, 32, 106, 97, 108, 114, 32, 99, 97, 108, 108, 32, 104, 99, 97, 108, 108, 32, 114, 101, 116, 32, 99, 115, 114, 114, 32, 99, 115, 114, 119, 32, 105, 110, 118, 32, 104, 97, 108, 116, 32, 98, 114, 107])
def nameGo (op : Nat) : List UInt8 → Nat → Nat → Nat → Nat × Option Nat
  | [], _, f, _ => (f, none)
  | b :: l, p, f, k => if b ≠ 32 then nameGo op l (p + 1) f k else if k = op then (f, some p) else nameGo op l (p + 1) (p + 1) (k + 1)
def nameCut (r : Nat × Option Nat) : List UInt8 := match r with
  | (f, some t) => (allL.drop f).take (t - f)
  | (f, none) => allL.drop f
theorem name_all : ∀ o : Fin 42, 1 ≤ o.val → nameCut (nameGo o.val allL 0 0 1) = opName o.val := by decide +kernel
theorem all_ascii : ∀ i : Fin 176, (allL.getD i.val 0).toNat < 128 := by decide +kernel
theorem ba_extract (s : ByteArray) (a b : Nat) : s.extract a b = ba ((s.data.toList.drop a).take (b - a)) := by
  apply ByteArray.ext
  show (s.extract a b).data = ((s.data.toList.drop a).take (b - a)).toArray
  apply Array.toList_inj.1
  simp [ByteArray.data_extract, Array.toList_extract, List.extract_eq_take_drop]
theorem name_any (o : Nat) (h1 : 1 ≤ o) (h2 : o < 42) (w : World) : Calls Tryd.prog 18 #[.int .i64 o] w fun e w' => e = .returned (.string (ba (opName o))) ∧ Below w.heap.size w w' := by
  go_enter Tryd.func18, Tryd.ntmps18
  generalize hal : (⟨(([97, 100, 100, 32, 115, 117, 98, 32, 97, 110, 100, 32, 111, 114, 32, 120, 111, 114, 32, 115, 104, 108, 32, 115, 104, 114, 32, 115, 97, 114, 32, 115, 108, 116, 32, 115, 108, 116, 117, 32, 109, 117, 108, 32].append [100, 105, 118, 117, 32, 114, 101, 109, 117, 32, 97, 100, 100, 105, 32, 97, 110, 100, 105, 32, 111, 114, 105, 32, 120, 111, 114, 105, 32, 115, 104, 108, 105, 32, 115, 104, 114, 105, 32, 115, 97, 114, 105, 32]).append ([115, 108, 116, 105, 32, 108, 117, 105, 32, 108, 119, 32, 108, 98, 32, 108, 98, 117, 32, 115, 119, 32, 115, 98, 32, 98, 101, 113, 32, 98, 110, 101, 32, 98, 108, 116, 32, 98, 108, 116, 117, 32, 106, 97].append [108, 32, 106, 97, 108, 114, 32, 99, 97, 108, 108, 32, 104, 99, 97, 108, 108, 32, 114, 101, 116, 32, 99, 115, 114, 114, 32, 99, 115, 114, 119, 32, 105, 110, 118, 32, 104, 97, 108, 116, 32, 98, 114, 107])).toArray⟩ : ByteArray) = al
  have hAL : al.data.toList = allL := by rw [← hal]; rfl
  have hsz : al.size = 176 := by rw [← ba_len, hAL]; decide +kernel
  have HAL := Lib.hid hAL
  have hbyte : ∀ (k : Nat) (hk : k < al.size), al[k].toNat < 128 := fun k hk => by
    have h := all_ascii ⟨k, by omega⟩
    have e : allL.getD k 0 = al[k] := by rw [← hAL, List.getD_eq_getElem?_getD, List.getElem?_eq_getElem (by rw [ba_len]; exact hk)]; rfl
    rw [e] at h; exact h
  have HBY := Lib.hid hbyte
  have HSZ := Lib.hid hsz
  clear hal hAL hbyte hsz
  have HNA := Lib.hid (name_all ⟨o, h2⟩ h1)
  have HBL : Hid (∀ p, Below w.heap.size w (w.iter al p)) := fun p => (Below.refl _ _).alloc (Nat.le_refl _) _
  go_wp2
  go_loopw [3, 4] (fun f kk wr => ∃ p f' k : Nat, p ≤ al.size ∧ f' ≤ p ∧ wr = w.iter al p ∧ f = .int .i64 f' ∧ kk = .int .i64 k ∧ k ≤ p + 1 ∧ nameGo o (allL.drop p) p f' k = nameGo o allL 0 0 1) (fun _ _ wr => al.size - wr.iterPos w.heap.size)
  case atStart => exact ⟨0, 0, 1, by omega, by omega, rfl, rfl, rfl, by omega, rfl⟩
  case round =>
    obtain ⟨p, f, k, hp, hf, rfl, rfl, rfl, hkp, hn⟩ := hrel
    have HN := Lib.hid hn
    clear hn
    by_cases hlt : p < al.size
    · have hnx := fun ty => run_next_ascii (P := Tryd.prog) w al p ty hlt (HBY.out p hlt)
      have hdrop : allL.drop p = al[p] :: allL.drop (p + 1) := by
        rw [← HAL.out]
        exact List.drop_eq_getElem_cons (by rw [ba_len]; exact hlt)
      have w1 : IntKind.i64.wrap ((p : Int) + 1) = (p : Int) + 1 := by have := HSZ.out; rw [IntKind.wrap_i64]; omega
      have w2 : IntKind.i64.wrap ((k : Int) + 1) = (k : Int) + 1 := by have := HSZ.out; rw [IntKind.wrap_i64]; omega
      by_cases h32 : al[p].toNat = 32
      · have hb32 : al[p] = 32 := by rw [← UInt8.toNat_inj]; exact h32
        have dn : ((al[p].toNat : Int) != 32) = false := by simp [h32]
        by_cases hko : k = o
        · have dk : ((k : Int) == (o : Int)) = true := by simp [hko]
          have hr : nameGo o allL 0 0 1 = (f, some p) := by rw [← HN.out, hdrop, nameGo, if_neg (by simp [hb32]), if_pos hko]
          have hres : al.extract f p = ba (opName o) := by
            rw [ba_extract, HAL.out, ← HNA.out, hr]; rfl
          clear hdrop hb32 h32 hko hr
          go_wp2
          go_ret
          exact ⟨rfl, HBL.out _⟩
        · have dk : ((k : Int) == (o : Int)) = false := by rw [beq_eq_false_iff_ne]; omega
          have HN2 : Hid (nameGo o (allL.drop (p + 1)) (p + 1) (p + 1) (k + 1) = nameGo o allL 0 0 1) := by rw [Hid, ← HN.out, hdrop, nameGo, if_neg (by simp [hb32]), if_neg hko]
          clear hdrop hb32 h32 hko
          go_wp2
          go_roundw
          case rel => exact ⟨p + 1, p + 1, k + 1, by omega, by omega, rfl, by go_num, by go_num, by omega, HN2.out⟩
          case measure => simp; omega
      · have hb32 : al[p] ≠ 32 := fun e => h32 (by rw [e]; rfl)
        have dn : ((al[p].toNat : Int) != 32) = true := by simp; omega
        have HN2 : Hid (nameGo o (allL.drop (p + 1)) (p + 1) f k = nameGo o allL 0 0 1) := by rw [Hid, ← HN.out, hdrop, nameGo, if_pos hb32]
        clear hdrop hb32 h32
        go_wp2
        go_roundw
        case rel => exact ⟨p + 1, f, k, by omega, by omega, rfl, rfl, rfl, by omega, HN2.out⟩
        case measure => simp; omega
    · obtain rfl : p = al.size := by omega
      have hnx := fun ty => run_next_end (P := Tryd.prog) w al al.size ty (by omega)
      have hr : nameGo o allL 0 0 1 = (f, none) := by
        rw [← HN.out, List.drop_eq_nil_of_le (by rw [← HAL.out, ba_len]; exact Nat.le_refl _)]; rfl
      have hres : al.extract f al.size = ba (opName o) := by
        rw [ba_extract, HAL.out, ← HNA.out, hr]
        show _ = ba (allL.drop f)
        rw [List.take_of_length_le]
        rw [List.length_drop, ← HAL.out, ba_len]; omega
      clear hr
      go_wp2
      go_ret
      exact ⟨rfl, HBL.out _⟩
theorem opNames_len : opNames.length = 42 := by decide
theorem name_inj : ∀ a b : Fin 42, 1 ≤ a.val → 1 ≤ b.val → opName a.val = opName b.val → a = b := by decide +kernel
/-- The operation of a name; 0: none has it. -/
def opV (s : List UInt8) : Nat := match (List.range 41).find? (fun i => decide (opName (i + 1) = s)) with
  | some i => i + 1
  | none => 0
theorem opV_le (s : List UInt8) : opV s ≤ 41 := by
  unfold opV
  split
  · rename_i i h
    have := List.mem_range.1 (List.mem_of_find?_eq_some h); omega
  · omega
theorem opV_hit {s : List UInt8} {o : Nat} (h1 : 1 ≤ o) (h2 : o ≤ 41) (h : opName o = s) (hn : ∀ j, 1 ≤ j → j < o → opName j ≠ s) : opV s = o := by
  have : (List.range 41).find? (fun i => decide (opName (i + 1) = s)) = some (o - 1) := by
    rw [List.find?_range_eq_some]
    refine ⟨by rw [show o - 1 + 1 = o by omega]; simp [h], List.mem_range.2 (by omega), fun j hj => ?_⟩
    simpa using hn (j + 1) (by omega) (by omega)
  rw [opV, this]; show o - 1 + 1 = o; omega
theorem opV_none {s : List UInt8} (hn : ∀ j, 1 ≤ j → j ≤ 41 → opName j ≠ s) : opV s = 0 := by
  have : (List.range 41).find? (fun i => decide (opName (i + 1) = s)) = none := by
    rw [List.find?_eq_none]
    intro j hj
    have := List.mem_range.1 hj
    simpa using hn (j + 1) (by omega) (by omega)
  rw [opV, this]
theorem opV_some {s : List UInt8} (h : opV s ≠ 0) : opName (opV s) = s := by
  unfold opV at h ⊢
  split
  · rename_i i hf
    have := List.find?_some hf
    simpa using this
  · rename_i hf; rw [hf] at h; exact absurd rfl h
theorem opV_name {o : Nat} (h1 : 1 ≤ o) (h2 : o ≤ 41) : opV (opName o) = o :=
  opV_hit h1 h2 rfl (fun j h3 h4 he => by have := name_inj ⟨j, by omega⟩ ⟨o, by omega⟩ h3 h1 he; have := congrArg Fin.val this; simp at this; omega)
theorem ba_beq (a : List UInt8) (s : ByteArray) : ((ba a).toList == s.toList) = decide (a = s.data.toList) := by
  rw [ByteArray.toList_eq, ByteArray.toList_eq, ba_data]
  by_cases h : a = s.data.toList <;> simp [h]
theorem opOf_any (s : ByteArray) (w : World) : Calls Tryd.prog 28 #[.string s] w fun e w' => e = .returned (.tuple #[.int .i64 (opV s.data.toList), .bool (decide (opV s.data.toList ≠ 0))]) ∧ Below w.heap.size w w' := by
  obtain ⟨x, hx⟩ : ∃ x, x = opV s.data.toList := ⟨_, rfl⟩
  rw [← hx]
  have HX := Lib.hid hx
  clear hx
  go_enter Tryd.func28, Tryd.ntmps28
  go_wp2
  go_loopw [4] (fun i wr => ∃ k : Nat, 1 ≤ k ∧ k ≤ 42 ∧ i = .int .i64 k ∧ Below w.heap.size w wr ∧ ∀ j, 1 ≤ j → j < k → opName j ≠ s.data.toList) (fun i _ => 42 - (intOf i).toNat)
  case atStart => exact ⟨1, by omega, by omega, rfl, Below.refl _ _, fun j h1 h2 => by omega⟩
  case round =>
    obtain ⟨k, hk1, hk, rfl, hb, hn⟩ := hrel
    have HB := Lib.hid hb
    have HN := Lib.hid hn
    clear hb hn
    by_cases hlt : k ≤ 41
    · have d1 : decide ((k : Int) ≤ 41) = true := decide_eq_true (by omega)
      have d1' : decide (k ≤ 41) = true := decide_eq_true hlt
      have w1 : IntKind.i64.wrap ((k : Int) + 1) = (k : Int) + 1 := by rw [IntKind.wrap_i64]; omega
      have NAM : Hid (∀ w, Calls Tryd.prog 18 #[.int .i64 k] w fun e w' => e = .returned (.string (ba (opName k))) ∧ Below w.heap.size w w') := fun w => name_any k hk1 (by omega) w
      have hbq := ba_beq (opName k) s
      by_cases he : opName k = s.data.toList
      · have hx : x = k := by rw [HX.out]; exact opV_hit hk1 hlt he HN.out
        have de : ((ba (opName k)).toList == s.toList) = true := by rw [hbq, decide_eq_true he]
        have dz : decide (k ≠ 0) = true := decide_eq_true (by omega)
        subst hx
        clear he hbq
        go_wp2_with (go_at_call 18; refine (NAM.out _).mono ?_; rintro e w1 ⟨rfl, hb⟩; have HB1 := Lib.hid (HB.out.trans (hb.mono HB.out.size)); clear hb)
        go_ret2
        exact ⟨by rw [dz]; rfl, HB1.out⟩
      · have de : ((ba (opName k)).toList == s.toList) = false := by rw [hbq, decide_eq_false he]
        have HN2 : Hid (∀ j, 1 ≤ j → j < k + 1 → opName j ≠ s.data.toList) := fun j h1 h2 => by
          by_cases e : j = k
          · subst e; exact he
          · exact HN.out j h1 (by omega)
        clear he hbq
        go_wp2_with (go_at_call 18; refine (NAM.out _).mono ?_; rintro e w1 ⟨rfl, hb⟩; have HB1 := Lib.hid (HB.out.trans (hb.mono HB.out.size)); clear hb)
        go_roundw
        case rel => exact ⟨k + 1, by omega, by omega, by go_num, HB1.out, HN2.out⟩
        case measure => simp [intOf]; omega
    · have d1 : decide ((k : Int) ≤ 41) = false := decide_eq_false (by omega)
      have d1' : decide (k ≤ 41) = false := decide_eq_false hlt
      have hx : x = 0 := by rw [HX.out]; exact opV_none (fun j h1 h2 => HN.out j h1 (by omega))
      subst hx
      go_wp2
      go_ret2
      exact ⟨rfl, HB.out⟩
end Go.Proofs.YtbemhbooihaadaaDoor
