/- Package plan and its reference: Split. -/
import Derived.Test.YtoalpdjpljapbaaDoorTx1
import Derived.Test.YtoalpdjpljapbaaDoorMore
import Derived.StillTailTactics
namespace Go.Proofs.YtoalpdjpljapbaaDoor
set_option linter.unusedVariables false
set_option linter.unusedSimpArgs false
set_option linter.unnecessarySimpa false
open Go.RowKit Go.Sort
set_option maxHeartbeats 2000000
set_option maxRecDepth 100000
set_option linter.unusedVariables false
theorem Own.apart {w : World} {B B' size size' n n' cap cap' : Nat} {e e' : TypeId} {a a' : Option Addr} {xs xs' : List Value} (h : Own w B e size a n cap xs) (h' : Own w B' e' size' a' n' cap' xs') (hn : e ≠ e') : Sep a a' := fun k hk hk' => by
  obtain ⟨p, rfl, rfl⟩ := mem_blk.1 hk
  obtain ⟨q, rfl, hq⟩ := mem_blk.1 hk'
  rcases h.2 with ⟨h0, _⟩ | ⟨g, c, cur, hv, hb, hg, _⟩
  · cases h0
  · rcases h'.2 with ⟨h0, _⟩ | ⟨g', c', cur', hv', hb', hg', _⟩
    · cases h0
    · injection hv with hv1
      injection hv1 with hv1
      injection hv' with hv1'
      injection hv1' with hv1'
      subst hv1 hv1'
      simp only at hq
      subst hq
      rw [hg] at hg'
      injection hg' with hg'
      injection hg' with _ ht
      exact hn ht
def ba (l : List UInt8) : ByteArray := ⟨l.toArray⟩
theorem ba_data (l : List UInt8) : (ba l).data.toList = l := rfl
theorem ba_of (s : ByteArray) : ba s.data.toList = s := rfl
theorem ba_size (l : List UInt8) : (ba l).size = l.length := by rw [← ba_len]; rfl
theorem ba_inj {a b : List UInt8} (h : ba a = ba b) : a = b := by have := congrArg (fun s : ByteArray => s.data.toList) h; exact this
def strC (l : List (List UInt8)) : List Value := l.map fun x => Value.string (ba x)
def bC (l : List UInt8) : List Value := l.map fun b => Value.int .u8 (b.toNat : Int)
theorem strC_len (l : List (List UInt8)) : (strC l).length = l.length := by simp [strC]
theorem bC_len (l : List UInt8) : (bC l).length = l.length := by simp [bC]
theorem strC_one (l : List (List UInt8)) : ∀ u ∈ strC l, u.oneCell' = true := by
  intro u hu
  obtain ⟨x, _, rfl⟩ := List.mem_map.1 hu
  rfl
theorem strC_get (l : List (List UInt8)) (k : Nat) (h : k < l.length) : (strC l)[k]? = some (.string (ba l[k])) := by simp [strC, h]
/-- A row of texts that may be read. -/
structure RdW (w : World) (a : Option Addr) (cap : Nat) (l : List (List UInt8)) : Prop where
  rd : Rd w 1 a l.length (strC l)
  le : l.length ≤ cap
  mx : cap ≤ maxLen
theorem RdW.below {w w' : World} {a : Option Addr} {cap : Nat} {l : List (List UInt8)} (h : RdW w a cap l) (hb : Below w.heap.size w w') : RdW w' a cap l := ⟨h.rd.below hb, h.le, h.mx⟩
theorem RdW.at_ {w : World} {a : Option Addr} {cap : Nat} {l : List (List UInt8)} (h : RdW w a cap l) (k : Nat) (hk : k < l.length) : ∃ b o, a = some ⟨b, o, none⟩ ∧ b < w.heap.size ∧ ∀ j (hj : j < l.length), w.cell? ⟨b, o + j, none⟩ = some (.string (ba l[j])) := by
  have ha : a ≠ none := fun h0 => by have := h.rd.2.1 h0; omega
  obtain ⟨p, rfl⟩ := Option.ne_none_iff_exists'.1 ha
  obtain ⟨b, o, rfl, hb, hc⟩ := h.rd.2.2 p rfl (fun h0 => by have := strC_len l; rw [h0] at this; simp at this; omega)
  exact ⟨b, o, rfl, hb, fun j hj => hc j _ (strC_get l j hj)⟩
theorem split_list (s : ByteArray) (c : UInt8) : (Lib.splitB ⟨#[c]⟩ 0 (Lib.countB s ⟨#[c]⟩) s) = (fieldsC c s.data.toList).map ba := by
  have h1 : Lib.countB s ⟨#[c]⟩ = s.data.toList.count c := Lib.count_one c _
  have h2 := Lib.splitB_data ⟨#[c]⟩ 0 (Lib.countB s ⟨#[c]⟩) s
  rw [h1] at h2 ⊢
  have h3 : Lib.splitK (⟨#[c]⟩ : ByteArray).data.toList 0 (s.data.toList.count c) s.data.toList = fieldsC c s.data.toList := splitK_one c _
  rw [h3] at h2
  rw [← h2, List.map_map]
  exact (List.map_id' _).symm
theorem split1L (s : ByteArray) (c : UInt8) (w : World) (hs : s.size < 4294967281) : Calls Tryd.prog 19 #[.string s, .string ⟨#[c]⟩] w fun e w' =>
    e = .returned (.slice (some ⟨w.heap.size, 0, none⟩) (fieldsC c s.data.toList).length (fieldsC c s.data.toList).length) ∧ w' = w.alloc (.cells (strC (fieldsC c s.data.toList)).toArray 9) := by
  have h := split1 s c w hs
  have h1 : Lib.countB s ⟨#[c]⟩ + 1 = (fieldsC c s.data.toList).length := by rw [fieldsC_len]; exact congrArg (· + 1) (Lib.count_one c _)
  rw [h1, split_list, List.map_map] at h
  exact h
def wordsB (s : List UInt8) : Bool := !(fieldsC 32 s).any List.isEmpty
theorem ba_isEmpty (x : List UInt8) : (ba x).toList.isEmpty = x.isEmpty := by rw [ByteArray.toList_eq, ba_data]
theorem wordsB_no {s : List UInt8} {k : Nat} (h : k < (fieldsC 32 s).length) (he : (fieldsC 32 s)[k].isEmpty = true) : wordsB s = false := by
  rw [wordsB, Bool.not_eq_false', List.any_eq_true]
  exact ⟨_, List.getElem_mem h, he⟩
theorem wordsB_yes {s : List UInt8} (h : ∀ k (hk : k < (fieldsC 32 s).length), (fieldsC 32 s)[k].isEmpty = false) : wordsB s = true := by
  rw [wordsB, Bool.not_eq_true', List.any_eq_false]
  intro x hx
  obtain ⟨k, hk, rfl⟩ := List.mem_iff_getElem.1 hx
  simp [h k hk]
def SplitPost (s : List UInt8) (w : World) (e : Ending) (w' : World) : Prop :=
  (wordsB s = true → ∃ a cap, e = .returned (.tuple #[.slice a (fieldsC 32 s).length cap, .bool true]) ∧ RdW w' a cap (fieldsC 32 s)) ∧ (wordsB s = false → e = .returned (.tuple #[.slice none 0 0, .bool false])) ∧ Below w.heap.size w w'
theorem SplitPost.yes {s : List UInt8} {w w' : World} {e : Ending} {a : Option Addr} {cap : Nat} (h : wordsB s = true) (he : e = .returned (.tuple #[.slice a (fieldsC 32 s).length cap, .bool true])) (hr : RdW w' a cap (fieldsC 32 s)) (hb : Below w.heap.size w w') : SplitPost s w e w' :=
  ⟨fun _ => ⟨a, cap, he, hr⟩, fun h0 => (by rw [h] at h0; cases h0), hb⟩
theorem SplitPost.no {s : List UInt8} {w w' : World} {e : Ending} (h : wordsB s = false) (he : e = .returned (.tuple #[.slice none 0 0, .bool false])) (hb : Below w.heap.size w w') : SplitPost s w e w' :=
  ⟨fun h0 => (by rw [h] at h0; cases h0), fun _ => he, hb⟩
theorem split_any (s : ByteArray) (hs : s.size ≤ 100000000) (w : World) : Calls Tryd.prog 10 #[.string s] w (SplitPost s.data.toList w) := by
  have HS := Lib.hid (split1L s 32 w (by omega))
  have hlen := fieldsC_len 32 s.data.toList
  have hcl : s.data.toList.count 32 ≤ s.size := by rw [← ba_len]; exact List.count_le_length
  have NB : Hid (ObjAt (w.alloc (.cells (strC (fieldsC 32 s.data.toList)).toArray 9)) w.heap.size 9 (strC (fieldsC 32 s.data.toList))) := ObjAt.new w _ _
  have BL : Hid (Below w.heap.size w (w.alloc (.cells (strC (fieldsC 32 s.data.toList)).toArray 9))) := (Below.refl _ _).alloc (Nat.le_refl _) _
  obtain ⟨L, hL⟩ : ∃ L, L = fieldsC 32 s.data.toList := ⟨_, rfl⟩
  have HPY : Hid (∀ e w' a cap, (∀ k (hk : k < L.length), L[k].isEmpty = false) → e = Ending.returned (.tuple #[.slice a L.length cap, .bool true]) → RdW w' a cap L → Below w.heap.size w w' → SplitPost s.data.toList w e w') := fun e w' a cap h1 h2 h3 h4 => by
    subst hL; exact SplitPost.yes (wordsB_yes h1) h2 h3 h4
  have HPN : Hid (∀ e w' k (hk : k < L.length), L[k].isEmpty = true → e = Ending.returned (.tuple #[.slice none 0 0, .bool false]) → Below w.heap.size w w' → SplitPost s.data.toList w e w') := fun e w' k hk h1 h2 h4 => by
    subst hL; exact SplitPost.no (wordsB_no hk h1) h2 h4
  rw [← hL] at HS NB BL hlen
  have HL1 : Hid (L.length ≤ 100000001) := by rw [Hid]; omega
  clear hL hlen hcl
  go_enter Tryd.func10, Tryd.ntmps10
  go_wp2_with (go_at_call 19; refine HS.out.mono ?_; rintro e w' ⟨rfl, hw⟩; rw [hw])
  clear HS
  generalize w.alloc (.cells (strC L).toArray 9) = W at NB BL ⊢
  have hmx : L.length ≤ 100000001 := HL1.out
  go_loop [11] (fun i => ∃ k : Nat, k ≤ L.length ∧ i = .int .i64 k ∧ ∀ j (hj : j < L.length), j < k → L[j].isEmpty = false) (fun i => L.length - (intOf i).toNat)
  case atStart => exact ⟨0, by omega, rfl, fun j _ hj => by omega⟩
  case round =>
    obtain ⟨k, hk, rfl, hd⟩ := hrel
    have HD := Lib.hid hd
    clear hd
    by_cases hlt : k < L.length
    · have d1 : decide ((k : Int) < (L.length : Int)) = true := decide_eq_true (by omega)
      have d1' : decide (k < L.length) = true := decide_eq_true hlt
      have w1 : IntKind.i64.wrap ((k : Int) + 1) = (k : Int) + 1 := by rw [IntKind.wrap_i64]; omega
      have c0 := NB.out.cell k _ (strC_get L k hlt)
      obtain ⟨x, hx⟩ : ∃ x, x = L[k] := ⟨_, rfl⟩
      rw [← hx] at c0
      cases he : x.isEmpty with
      | true =>
        have de : (ba x).toList.isEmpty = true := by rw [ba_isEmpty, he]
        have HE : Hid (L[k].isEmpty = true) := by rw [Hid, ← hx, he]
        clear he hx
        go_wp2
        go_ret2
        exact HPN.out _ _ k hlt HE.out rfl BL.out
      | false =>
        have de : (ba x).toList.isEmpty = false := by rw [ba_isEmpty, he]
        have HD2 : Hid (∀ j (hj : j < L.length), j < k + 1 → L[j].isEmpty = false) := fun j hj hjk => by
          by_cases e : j = k
          · subst e; rw [← hx, he]
          · exact HD.out j hj (by omega)
        clear he hx
        go_wp2
        go_round
        case rel => exact ⟨k + 1, by omega, by go_num, HD2.out⟩
        case measure => simp [intOf]; omega
    · have d1 : decide ((k : Int) < (L.length : Int)) = false := decide_eq_false (by omega)
      have d1' : decide (k < L.length) = false := decide_eq_false hlt
      obtain rfl : k = L.length := by omega
      go_wp2
      go_ret2
      refine HPY.out _ _ _ _ (fun j hj => HD.out j hj hj) rfl ⟨⟨by rw [strC_len, Nat.mul_one], (fun h0 => by cases h0), fun p hp _ => ?_⟩, Nat.le_refl _, by have := HL1.out; unfold maxLen; omega⟩ BL.out
      injection hp with hp
      subst hp
      exact ⟨w.heap.size, 0, rfl, NB.out.lt, fun j u hu => by rw [Nat.zero_add]; exact NB.out.cell j u hu⟩
end Go.Proofs.YtoalpdjpljapbaaDoor
