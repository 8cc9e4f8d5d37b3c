/- An event's text: what trace.Text answers. -/
import Derived.Test.YtcffdceadmdecaaDoorTrText1
import Derived.Test.YtcffdceadmdecaaDoorSl
import Derived.Test.YtcffdceadmdecaaDoorObj
import Derived.Deep.Cut
namespace Go.Proofs.YtcffdceadmdecaaDoor
set_option linter.unusedVariables false
set_option linter.unusedSimpArgs false
set_option linter.unnecessarySimpa false
open Go.RowKit Go.Sort
set_option maxHeartbeats 1000000
set_option maxRecDepth 100000
set_option linter.unusedVariables false

structure Ev where
  k : Int
  clock : Int
  code : Nat
  val : Nat
  pc : Nat
  rs : List Nat
deriving DecidableEq
def u32C (l : List Nat) : List Value := l.map fun n : Nat => .int .u32 (n : Int)
def Ev.cells (e : Ev) : List Value := .int .i64 e.k :: .int .i64 e.clock :: .int .u32 (e.code : Int) :: .int .u32 (e.val : Int) :: .int .u32 (e.pc : Int) :: u32C e.rs
structure Ev.Ok (e : Ev) : Prop where
  k : -9223372036854775808 ≤ e.k ∧ e.k ≤ 9223372036854775807
  clock : -9223372036854775808 ≤ e.clock ∧ e.clock ≤ 9223372036854775807
  code : e.code < 4294967296
  val : e.val < 4294967296
  pc : e.pc < 4294967296
  len : e.rs.length = 16
  rs : ∀ r ∈ e.rs, r < 4294967296
theorem cells_len {e : Ev} (h : e.Ok) : e.cells.length = 21 := by simp [Ev.cells, u32C, h.len]

def regsL : Nat → List Nat → List UInt8
  | _, [] => []
  | i, u :: us => (if u = 0 then [] else regL i u) ++ regsL (i + 1) us
def headL (e : Ev) : List UInt8 := wordL e.k ++ numL e.clock
def textL (e : Ev) : List UInt8 := headL e ++ unsL e.code ++ unsL e.val ++ unsL e.pc ++ regsL 0 e.rs

theorem regsL_snoc : ∀ (l : List Nat) (i u : Nat), regsL i (l ++ [u]) = regsL i l ++ (if u = 0 then [] else regL (i + l.length) u)
  | [], i, u => by simp [regsL]
  | a :: l, i, u => by
    simp only [List.cons_append, regsL, regsL_snoc l (i + 1) u, List.append_assoc, List.length_cons]
    congr 2
    rw [show i + 1 + l.length = i + (l.length + 1) from by omega]

theorem ObjAt.kept {w w' : World} {b c : Nat} {t : TypeId} {cs : List Value} (h : ObjAt w b t cs) (hk : Kept c w w') (hc : b ≠ c) (ht : t ≠ 5) : ObjAt w' b t cs :=
  hk b _ h (fun e => hc (by injection e)) (fun c' fz e => by injection e with e1 e2 e3; exact ht e2)

theorem unsL_len (n : Nat) (h : n < 4294967296) : (unsL n).length ≤ 21 := by
  have hz : (Lib.decDigits n).length ≤ 20 := by rw [Lib.decDigits_length]; exact Lib.nDigits_le20 n (by omega)
  simp [unsL]; omega
theorem regL_len (i n : Nat) (hi : i < 16) (h : n < 4294967296) : (regL i n).length ≤ 60 := by
  have hz : (Lib.decDigits n).length ≤ 20 := by rw [Lib.decDigits_length]; exact Lib.nDigits_le20 n (by omega)
  have hy : (Lib.decDigits i).length ≤ 20 := by rw [Lib.decDigits_length]; exact Lib.nDigits_le20 i (by omega)
  simp [regL]; omega
theorem regsL_len : ∀ (l : List Nat) (i : Nat), i + l.length ≤ 16 → (∀ r ∈ l, r < 4294967296) → (regsL i l).length ≤ 60 * l.length
  | [], i, _, _ => by simp [regsL]
  | u :: l, i, hi, h => by
    have h1 := regsL_len l (i + 1) (by simp at hi; omega) (fun r hr => h r (by simp [hr]))
    have h2 := regL_len i u (by simp at hi; omega) (h u (by simp))
    simp only [regsL, List.length_append, List.length_cons]
    by_cases h0 : u = 0
    · rw [if_pos h0]; simp; omega
    · rw [if_neg h0]; omega
theorem wordL_len (k : Int) : (wordL k).length ≤ 5 := by
  unfold wordL
  split
  · rename_i h
    obtain ⟨n, rfl⟩ : ∃ n : Nat, k = n := ⟨k.toNat, by omega⟩
    have hn : n < 7 := by omega
    simp only [Int.toNat_natCast]
    match n, hn with
    | 0, _ | 1, _ | 2, _ | 3, _ | 4, _ | 5, _ | 6, _ => decide
    | n + 7, h => omega
  · simp
theorem headL_len (e : Ev) (ok : e.Ok) : (headL e).length ≤ 30 := by
  have h1 := wordL_len e.k
  have h2 := Lib.itoa_length_le e.clock ok.clock.1 ok.clock.2
  simp [headL, numL]; omega

/-- Where the text is under way. -/
structure TX (w : World) (e : Ev) (l : List UInt8) (W : World) : Prop where
  ev : ObjAt W w.heap.size 25 e.cells
  line : LineI w.heap.size (w.heap.size + 1) (Lib.byteCells l) W
  bel : Below w.heap.size w W
theorem TX.wrote {w W W' : World} {e : Ev} {l m : List UInt8} {x : Ending} (h : TX w e l W) (hw : Wrote w.heap.size (w.heap.size + 1) l m W x W') : x = .returned (.tuple #[]) ∧ TX w e (l ++ m) W' :=
  ⟨hw.1, h.ev.kept hw.2.2.2 (by omega) (by decide), hw.2.1, h.bel.trans hw.2.2.1⟩
theorem TX.wrote_end {w W W' : World} {e : Ev} {l m : List UInt8} {x : Ending} (h : TX w e l W) (hw : Wrote w.heap.size (w.heap.size + 1) l m W x W') : x = .returned (.tuple #[]) ∧ TX w e (l ++ m) W' := h.wrote hw
theorem tx_put {w W : World} {e : Ev} {l : List UInt8} (m : List UInt8) (h : TX w e l W) (hl : l.length + m.length ≤ 100000) :
    Calls Tryd.prog 18 #[.pointer (some ⟨w.heap.size + 1, 0, none⟩), .string ⟨m.toArray⟩] W fun x W' => x = .returned (.tuple #[]) ∧ TX w e (l ++ m) W' :=
  (put_any _ _ l m W h.line (by omega) h.bel.size).mono fun _ _ hw => h.wrote hw
theorem tx_num {w W : World} {e : Ev} {l : List UInt8} (n : Int) (h0 : -9223372036854775808 ≤ n) (h1 : n ≤ 9223372036854775807) (hP : PowIs w) (h : TX w e l W) (hl : l.length ≤ 100000) :
    Calls Tryd.prog 20 #[.pointer (some ⟨w.heap.size + 1, 0, none⟩), .int .i64 n] W fun x W' => x = .returned (.tuple #[]) ∧ TX w e (l ++ numL n) W' :=
  (number_any _ _ l n h0 h1 W (hP.below h.bel) h.line (by omega) h.bel.size).mono fun _ _ hw => h.wrote hw
theorem tx_uns {w W : World} {e : Ev} {l : List UInt8} (n : Nat) (h1 : n < 4294967296) (hP : PowIs w) (h : TX w e l W) (hl : l.length ≤ 100000) :
    Calls Tryd.prog 21 #[.pointer (some ⟨w.heap.size + 1, 0, none⟩), .int .u32 n] W fun x W' => x = .returned (.tuple #[]) ∧ TX w e (l ++ unsL n) W' :=
  (uns_any _ _ l n h1 W (hP.below h.bel) h.line (by omega) h.bel.size).mono fun _ _ hw => h.wrote hw
theorem tx_reg {w W : World} {e : Ev} {l : List UInt8} (i n : Nat) (hi : i < 16) (h1 : n < 4294967296) (hP : PowIs w) (h : TX w e l W) (hl : l.length ≤ 100000) :
    Calls Tryd.prog 22 #[.pointer (some ⟨w.heap.size + 1, 0, none⟩), .int .i64 i, .int .u32 n] W fun x W' => x = .returned (.tuple #[]) ∧ TX w e (l ++ regL i n) W' :=
  (reg_any _ _ l i n hi h1 W (hP.below h.bel) h.line (by omega) h.bel.size).mono fun _ _ hw => h.wrote hw
theorem tx_new (w : World) (e : Ev) : TX w e [] ((w.alloc (.cells e.cells.toArray 25)).alloc (.cells #[.pointer none, .slice none 0 0] 51)) := by
  have hs : (w.alloc (.cells e.cells.toArray 25)).heap.size = w.heap.size + 1 := by unfold World.alloc; exact Array.size_push _
  have hb : ((w.alloc (.cells e.cells.toArray 25)).alloc (.cells #[.pointer none, .slice none 0 0] 51)).heap[w.heap.size + 1]? = some (.cells #[.pointer none, .slice none 0 0] 51 (0, 0)) := new_block _ _ _ hs
  refine ⟨?_, .inl ⟨by omega, _, hb, ⟨by simp [Lib.byteCells], .inl ⟨rfl, by simp [Lib.byteCells]⟩⟩, by simp [Value.ownBlock]⟩, ?_⟩
  · exact (ObjAt.new w 25 e.cells).below ((Below.refl _ _).alloc (Nat.le_refl _) _)
  · exact ((Below.refl _ w).alloc (Nat.le_refl _) _).alloc (by omega) _

def mid (e : Ev) (k : Nat) : List UInt8 := headL e ++ ([unsL e.code, unsL e.val, unsL e.pc].take k).flatten
theorem mid_len (e : Ev) (ok : e.Ok) (k : Nat) (hk : k ≤ 3) : (mid e k).length ≤ 100 := by
  have h0 := headL_len e ok
  have h1 := unsL_len _ ok.code
  have h2 := unsL_len _ ok.val
  have h3 := unsL_len _ ok.pc
  match k, hk with
  | 0, _ | 1, _ | 2, _ | 3, _ => simp only [mid, List.take_zero, List.take_succ_cons, List.flatten_cons, List.flatten_nil, List.length_append, List.length_nil]; omega
def fin (e : Ev) (k : Nat) : List UInt8 := mid e 3 ++ regsL 0 (e.rs.take k)
theorem fin_len (e : Ev) (ok : e.Ok) (k : Nat) : (fin e k).length ≤ 2000 := by
  have h0 := mid_len e ok 3 (by omega)
  have h1 := regsL_len (e.rs.take k) 0 (by rw [List.length_take, ok.len]; omega) (fun r hr => ok.rs r (List.mem_of_mem_take hr))
  have h2 : (e.rs.take k).length ≤ 16 := by rw [List.length_take, ok.len]; omega
  simp [fin] at *; omega
theorem fin_step (e : Ev) (k : Nat) (h : k < e.rs.length) : fin e (k + 1) = fin e k ++ (if e.rs[k] = 0 then [] else regL k e.rs[k]) := by
  simp only [fin]
  rw [List.take_add_one, List.getElem?_eq_getElem h, Option.toList_some, regsL_snoc, List.append_assoc, Nat.zero_add, List.length_take, Nat.min_eq_left (by omega)]
theorem fin_text (e : Ev) (ok : e.Ok) : fin e 16 = textL e := by
  simp only [fin, mid, textL]
  rw [List.take_of_length_le (l := e.rs) (by rw [ok.len]; omega)]
  simp

theorem run_index16 (cs : List Nat) (i : Nat) (hi : i < 16) (r : Nat) (hl : cs.length = 16) (hr : cs[i]? = some r) (w : World) : (Instr.index 23 (.agg (u32C cs).toArray) (.int .i64 (i : Int))).run Tryd.prog w = .ok (.int .u32 (r : Int)) w := by
  have hx : (u32C cs)[i]? = some (.int .u32 (r : Int)) := by simp [u32C, hr]
  have hx' : (u32C cs).toArray[i]? = some (.int .u32 (r : Int)) := by simpa using hx
  have hn : (0 ≤ (i : Int) ∧ (i : Int) < ((16 : Nat) : Int)) := by omega
  simp [Instr.index, run_underlying Tryd.underlying23, asIntOf, hn, go_sem, hx, hx']
  intro h; omega
theorem run_index3 (a b c i : Nat) (hi : i < 3) (w : World) : (Instr.index 56 (.agg #[.int .u32 (a : Int), .int .u32 (b : Int), .int .u32 (c : Int)]) (.int .i64 (i : Int))).run Tryd.prog w = .ok (.int .u32 (([a, b, c].getD i 0 : Nat) : Int)) w := by
  obtain rfl | rfl | rfl : i = 0 ∨ i = 1 ∨ i = 2 := by omega
  · kernel_rfl
  · kernel_rfl
  · kernel_rfl
theorem mid_step (e : Ev) (k : Nat) (hk : k < 3) : mid e (k + 1) = mid e k ++ unsL ([e.code, e.val, e.pc].getD k 0) := by
  match k, hk with
  | 0, _ | 1, _ | 2, _ => simp [mid]
theorem info_r16 : ((Tryd.prog).info? 23).map (·.size) = some 16 := by kernel_rfl
theorem text_ev (e : Ev) (ok : e.Ok) (w : World) (hW : WordsIs w) (hP : PowIs w) : Calls Tryd.prog 7 #[.agg e.cells.toArray] w fun x w' => x = .returned (.string ⟨(textL e).toArray⟩) ∧ Below w.heap.size w w' := by
  have hl := cells_len ok
  have hN := Lib.hid (tx_new w e)
  have okh := Lib.hid ok
  have bk := ok.k; have bc := ok.clock
  have lw := wordL_len e.k
  have lh := headL_len e ok
  go_enter Tryd.func7, Tryd.ntmps7
  go_upto_region 2 with (fail)
  clear hl
  generalize (w.alloc (.cells e.cells.toArray 25)).alloc (.cells #[.pointer none, .slice none 0 0] 51) = W1 at hN ⊢
  have h1 := hN.out
  have q0 := h1.ev.cell 0 _ rfl
  go_wp2_with (first | (go_at_call 19; refine (word_any e.k _ (hW.below h1.bel)).mono ?_; rintro x W1' ⟨rfl, rfl⟩) | (go_at_call 18; refine (tx_put (wordL e.k) h1 (by simp; omega)).mono ?_; rintro x W2 ⟨rfl, h2⟩; have q1 := h2.ev.cell 1 _ rfl) | (go_at_call 20; refine (tx_num e.clock bc.1 bc.2 hP h2 (by simp; omega)).mono ?_; rintro x W3 ⟨rfl, h3⟩; have q2 := h3.ev.cell 2 _ rfl; have q3 := h3.ev.cell 3 _ rfl; have q4 := h3.ev.cell 4 _ rfl))
  go_loopw [29] (fun i wr => ∃ k : Nat, k ≤ 3 ∧ i = .int .i64 k ∧ TX w e (mid e k) wr) (fun i _ => 3 - (intOf i).toNat)
  case atStart => exact ⟨0, by omega, rfl, by simpa [mid, headL] using h3⟩
  case round =>
    clear h1 h2 h3 q0 q1 q2 q3 q4 hN
    obtain ⟨k, hk, rfl, h⟩ := hrel
    have hml := mid_len e ok k hk
    by_cases hk3 : k < 3
    · have hc := ok.code; have hv := ok.val; have hp := ok.pc
      have ix := run_index3 e.code e.val e.pc k hk3
      have hst := Lib.hid (mid_step e k hk3)
      have hr : [e.code, e.val, e.pc].getD k 0 < 4294967296 := by
        match k, hk3 with
        | 0, _ | 1, _ | 2, _ => assumption
      have d1 : decide ((k : Int) < 3) = true := by simp; omega
      generalize [e.code, e.val, e.pc].getD k 0 = r at ix hst hr
      clear hc hv hp
      go_wp2_with (go_at_call 21; refine (tx_uns r hr hP h (by omega)).mono ?_; rintro x W4 ⟨rfl, h4⟩)
      go_roundw
      case rel => exact ⟨k + 1, by omega, by go_num, by rw [hst.out]; exact h4⟩
      case measure => simp [intOf]; omega
    · obtain rfl : k = 3 := by omega
      have hrow : wr.rangeAt w.heap.size 5 (u32C e.rs) := h.ev.range 5 _ (fun j v hj => by simpa [Ev.cells, Nat.add_comm] using hj)
      have HL : Hid ((u32C e.rs).length = 16) := Lib.hid (by simp [u32C, ok.len])
      have HR := Lib.hid hrow
      clear hrow
      go_wp2_with (refine wpList_load_mid rfl 23 (.tmp 36) rfl w.heap.size 5 rfl (u32C e.rs) _ HR.out Tryd.underlying23 rfl (by rw [info_r16, HL.out]) ?_)
      go_loopw [38] (fun i wr => ∃ k : Nat, k ≤ 16 ∧ i = .int .i64 k ∧ TX w e (fin e k) wr) (fun i _ => 16 - (intOf i).toNat)
      case atStart => exact ⟨0, by omega, rfl, by simpa [fin, regsL] using h⟩
      case round =>
        clear h HR
        obtain ⟨k, hk, rfl, h⟩ := hrel
        have hfl := fin_len e ok k
        by_cases hk3 : k < 16
        · have hkl : k < e.rs.length := by rw [ok.len]; exact hk3
          have hr := ok.rs _ (List.getElem_mem hkl)
          have hst := Lib.hid (fin_step e k hkl)
          have hx := run_index16 e.rs k hk3 e.rs[k] ok.len (List.getElem?_eq_getElem hkl)
          generalize e.rs[k] = r at hr hst hx
          have d1 : decide ((k : Int) < 16) = true := by simp; omega
          by_cases hz : r = 0
          · have d2 : ((r : Int) != 0) = false := by subst hz; rfl
            go_wp2_with fail
            go_roundw
            case rel => exact ⟨k + 1, by omega, by go_num, by rw [hst.out, if_pos hz, List.append_nil]; exact h⟩
            case measure => simp [intOf]; omega
          · have d2 : ((r : Int) != 0) = true := by simp; omega
            go_wp2_with (go_at_call 22; refine (tx_reg k r hk3 hr hP h (by omega)).mono ?_; rintro x W4 ⟨rfl, h4⟩)
            go_roundw
            case rel => exact ⟨k + 1, by omega, by go_num, by rw [hst.out, if_neg hz]; exact h4⟩
            case measure => simp [intOf]; omega
        · obtain rfl : k = 16 := by omega
          have ht := fin_text e ok
          have hne : fin e 16 ≠ [] := fun h0 => by have := congrArg List.length h0; simp [fin, mid, headL, numL] at this
          go_wp2_with (go_at_call 23; refine (text_any _ _ (fin e 16) _ h.line hne).mono ?_; rintro x W4 ⟨rfl, h4⟩)
          go_ret
          exact ⟨rfl, h.bel.trans h4⟩
#print axioms text_ev
end Go.Proofs.YtcffdceadmdecaaDoor
