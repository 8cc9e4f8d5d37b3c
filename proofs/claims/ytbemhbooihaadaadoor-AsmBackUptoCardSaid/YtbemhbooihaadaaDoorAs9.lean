/- Package asm: List. -/
import Derived.Test.YtbemhbooihaadaaDoorAs8
namespace Go.Proofs.YtbemhbooihaadaaDoor
set_option linter.unusedVariables false
set_option linter.unusedSimpArgs false
set_option linter.unnecessarySimpa false
open Go.RowKit Go.Sort
set_option maxHeartbeats 2000000
set_option maxRecDepth 100000
set_option linter.unusedVariables false
/-- Words as cells. -/
def wC (l : List Nat) : List Value := l.map fun (x : Nat) => Value.int .u32 (x : Int)
theorem wC_len (l : List Nat) : (wC l).length = l.length := by simp [wC]
theorem wC_get (l : List Nat) (k : Nat) (h : k < l.length) : (wC l)[k]? = some (.int .u32 (l[k] : Int)) := by simp [wC, h]
def listL (l : List Nat) : List UInt8 := (l.map fun x => lineL x ++ [10]).flatten
theorem listL_snoc (l : List Nat) (x : Nat) : listL (l ++ [x]) = listL l ++ (lineL x ++ [10]) := by simp [listL]
theorem listL_len (l : List Nat) (h : ∀ x ∈ l, x < 4294967296) : (listL l).length ≤ 201 * l.length := by
  induction l with
  | nil => simp [listL]
  | cons x r ih =>
    have h1 := line_len x (h x (List.mem_cons_self ..))
    have h2 := ih (fun y hy => h y (List.mem_cons_of_mem _ hy))
    unfold listL at h2 ⊢
    rw [List.map_cons, List.flatten_cons, List.length_append, List.length_append, List.length_cons, List.length_cons, List.length_nil]
    omega
/-- What List hands back. -/
def lsV (l : List Nat) : List UInt8 := if 512 < l.length then [] else listL l
def lsE (l : List Nat) : Int := if 512 < l.length then 10 else 0
theorem rd_get {w : World} {a : Option Addr} {n : Nat} {l : List Nat} (h : Rd w 1 a n (wC l)) (hn : 0 < l.length) : ∃ g o, a = some ⟨g, o, none⟩ ∧ g < w.heap.size ∧ ∀ j (hj : j < l.length), w.cell? ⟨g, o + j, none⟩ = some (.int .u32 (l[j] : Int)) := by
  have hl := h.1
  rw [wC_len] at hl
  cases a with
  | none => have := h.2.1 rfl; omega
  | some p =>
    obtain ⟨g, o, rfl, h2, h3⟩ := h.2.2 p rfl (by intro e; have := congrArg List.length e; rw [wC_len] at this; simp at this; rw [this] at hn; simp at hn)
    exact ⟨g, o, rfl, h2, fun j hj => h3 j _ (wC_get l j hj)⟩
theorem list_asm (a : Option Addr) (cap : Nat) (l : List Nat) (hl : ∀ x ∈ l, x < 4294967296) (w : World) (h : Rd w 1 a l.length (wC l)) (hcap : l.length ≤ maxLen) (hP : PowIs w) (ht : Isa.Tab w) :
    Calls Tryd.prog 15 #[.slice a l.length cap] w fun e w' => e = .returned (.tuple #[.string (ba (lsV l)), .int .i64 (lsE l)]) ∧ Below w.heap.size w w' := by
  unfold maxLen at hcap
  by_cases h512 : 512 < l.length
  · have d1 : decide ((l.length : Int) > 512) = true := decide_eq_true (by omega)
    have d1' : decide (512 < l.length) = true := decide_eq_true h512
    have HV : Hid (lsV l = [] ∧ lsE l = 10) := ⟨by rw [lsV, if_pos h512], by rw [lsE, if_pos h512]⟩
    clear h512
    go_enter Tryd.func15, Tryd.ntmps15
    go_wp2
    go_ret2
    exact ⟨by rw [HV.out.1, HV.out.2]; rfl, Below.refl _ _⟩
  · have d1 : decide ((l.length : Int) > 512) = false := decide_eq_false (by omega)
    have d1' : decide (512 < l.length) = false := decide_eq_false h512
    have HV : Hid (lsV l = listL l ∧ lsE l = 0) := ⟨by rw [lsV, if_neg h512], by rw [lsE, if_neg h512]⟩
    have HGET : Hid (∀ k, (hk : k < l.length) → ∃ g o, a = some ⟨g, o, none⟩ ∧ g < w.heap.size ∧ w.cell? ⟨g, o + k, none⟩ = some (.int .u32 (l[k] : Int))) := fun k hk => by
      obtain ⟨g, o, h1, h2, h3⟩ := rd_get h (by omega)
      exact ⟨g, o, h1, h2, h3 k hk⟩
    have HL := Lib.hid hl
    have HP := Lib.hid hP
    have HT := Lib.hid ht
    have hl512 : l.length ≤ 512 := by omega
    clear hl hP ht h h512
    have HB0 := Lib.hid (BIs.fresh w)
    go_enter Tryd.func15, Tryd.ntmps15
    go_wp2
    go_loopw [12] (fun i wr => ∃ k : Nat, k ≤ l.length ∧ i = .int .i64 k ∧ BIs wr w.heap.size w.heap.size (listL (l.take k)) ∧ Below w.heap.size w wr) (fun i _ => l.length - (intOf i).toNat)
    case atStart => exact ⟨0, by omega, rfl, HB0.out, (Below.refl _ _).alloc (Nat.le_refl _) _⟩
    case round =>
      clear HB0
      obtain ⟨k, hk, rfl, hbi, hbe⟩ := hrel
      have HBI := Lib.hid hbi
      have HBE := Lib.hid hbe
      clear hbi hbe
      by_cases hlt : k < l.length
      · obtain ⟨g, o, ha, hg, hc⟩ := HGET.out k hlt
        obtain ⟨x, hx⟩ : ∃ x, x = l[k] := ⟨_, rfl⟩
        have hxl : x < 4294967296 := by rw [hx]; exact HL.out _ (List.getElem_mem hlt)
        have htk : l.take (k + 1) = l.take k ++ [x] := by rw [hx]; exact List.take_succ_eq_append_getElem hlt
        have HNEW : Hid (listL (l.take (k + 1)) = listL (l.take k) ++ (lineL x ++ [10])) := by rw [Hid, htk, listL_snoc]
        have hlen := listL_len (l.take k) (fun y hy => HL.out y (List.mem_of_mem_take hy))
        have hlen2 := line_len x hxl
        rw [List.length_take] at hlen
        have hcr : wr.cell? ⟨g, o + k, none⟩ = some (.int .u32 (x : Int)) := by rw [HBE.out.cell (p := ⟨g, o + k, none⟩) hg, hc, hx]
        obtain ⟨t, hT⟩ : ∃ t : ByteArray, Hid (t = ba (lineL x)) := ⟨_, Lib.hid rfl⟩
        have z1 : t.size ≤ 200 := by rw [hT.out, ba_size]; exact hlen2
        have q1 : ¬ 9223372036854775807 < t.size + 1 := by omega
        have HLI : Hid (∀ W, Below w.heap.size w W → Calls Tryd.prog 41 #[.int .u32 x] W fun e w' => e = .returned (.string t) ∧ Below W.heap.size W w') := fun W hb => by rw [hT.out]; exact line_any x hxl W (HP.out.below hb) (HT.out.below hb)
        have HCT : Hid (t ++ (⟨#[10]⟩ : ByteArray) = ba (lineL x ++ [10])) := by rw [hT.out]; unfold ba; rw [show (⟨#[10]⟩ : ByteArray) = ⟨[10].toArray⟩ from rfl, ba_append]; rfl
        have HLE : Hid ((listL (l.take k)).length + (lineL x ++ [10]).length ≤ 140737488355328) := by rw [Hid, List.length_append]; simp; omega
        subst ha
        clear hx htk hc hlen hlen2
        go_wp2_with fail
        refine (HLI.out _ HBE.out).mono ?_; rintro e w1 ⟨rfl, hb1⟩
        have HB1 := Lib.hid (bmore HBE.out hb1)
        have HBI1 : Hid (BIs w1 w.heap.size w.heap.size (listL (l.take k))) := HBI.out.below hb1
        clear hb1
        go_wp2_with fail
        rw [HCT.out]
        refine (bwrite _ _ _ _ _ HBI1.out HLE.out HB1.out.size).mono ?_; rintro e w2 ⟨rfl, h2, h3, h4⟩
        have HBI2 : Hid (BIs w2 w.heap.size w.heap.size (listL (l.take (k + 1)))) := by rw [HNEW.out]; exact h2
        have HB2 : Hid (Below w.heap.size w w2) := HB1.out.trans h3
        clear h2 h3 h4
        go_wp2_with fail
        go_roundw
        case rel => exact ⟨k + 1, by omega, by go_num, HBI2.out, HB2.out⟩
        case measure => simp [intOf]; omega
      · obtain rfl : k = l.length := by omega
        have HBI2 : Hid (BIs wr w.heap.size w.heap.size (listL l)) := by have := HBI.out; rw [List.take_length] at this; exact this
        go_wp2_with fail
        refine (bstring _ _ _ _ HBI2.out HBE.out.size).mono ?_; rintro e w2 ⟨rfl, h2, h3, h4⟩
        have HB2 : Hid (Below w.heap.size w w2) := HBE.out.trans h3
        clear h2 h3 h4
        go_wp2_with fail
        go_ret2
        exact ⟨by rw [HV.out.1, HV.out.2]; rfl, HB2.out⟩
end Go.Proofs.YtbemhbooihaadaaDoor
