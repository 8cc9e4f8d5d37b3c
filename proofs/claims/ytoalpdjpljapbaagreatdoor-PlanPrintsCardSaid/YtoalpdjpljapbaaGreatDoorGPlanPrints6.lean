/- strings.Builder: what its methods leave (after the shelf's worked contracts). -/
import Derived.Test.YtoalpdjpljapbaaGreatDoorGPlanPrints5
import Derived.Test.YtoalpdjpljapbaaGreatDoorGPlanPrints1
import Derived.Shelf.Strings.BuilderK
import Derived.Deep.RegionHeld3
import Derived.Test.YtoalpdjpljapbaaGreatDoorGPlanPrints2
namespace Go.Proofs.YtoalpdjpljapbaaGreatDoor
set_option linter.unusedVariables false
set_option linter.unusedSimpArgs false
set_option linter.unnecessarySimpa false
open Go.RowKit Go.Sort
set_option maxHeartbeats 2000000
set_option maxRecDepth 100000
set_option linter.unusedVariables false
theorem bld_size : (Tryz.prog.info? 42).map (·.size) = some 2 := by kernel_rfl
theorem bld_und : Tryz.prog.underlying 39 = some (.pointer 42) := by kernel_rfl
theorem uptr_und : Tryz.prog.underlying 116 = some .unsafePointer := by kernel_rfl
theorem copy_used (b : Nat) (w : World) (h0 : w.cell? ⟨b, 0, none⟩ = some (.pointer (some ⟨b, 0, none⟩))) :
    Calls Tryz.prog 52 #[.pointer (some ⟨b, 0, none⟩)] w fun e w' => e = .returned (.tuple #[]) ∧ w' = w := by
  obtain ⟨j, hj, _⟩ := Option.map_eq_some_iff.1 bld_size
  go_enter Tryz.func52, Tryz.ntmps52
  go_wp2
  rw [Lib.run_neq_ptr_same w _ bld_und hj]
  go_wp2
  go_end0
  exact ⟨rfl, rfl⟩
theorem copy_fresh (b : Nat) (w : World) (h0 : w.cell? ⟨b, 0, none⟩ = some (.pointer none)) (hsh : w.shape? b = some (42, 2)) (hfz : w.frozen? ⟨b, 0, none⟩ = false) :
    Calls Tryz.prog 52 #[.pointer (some ⟨b, 0, none⟩)] w fun e w' => e = .returned (.tuple #[]) ∧ w' = w.setCell ⟨b, 0, none⟩ (.pointer (some ⟨b, 0, none⟩)) := by
  obtain ⟨j, hj, hjs⟩ := Option.map_eq_some_iff.1 bld_size
  have hlies : liesAt Tryz.prog Tryz.prog.depth 42 (2 / Tryz.prog.cellsOf 42) 0 42 1 = true := by kernel_rfl
  go_enter Tryz.func52, Tryz.ntmps52
  go_wp2
  rw [Lib.run_to_unsafe w ⟨b, 0, none⟩ bld_und uptr_und hj (by rw [hjs]; decide) hsh (Nat.zero_lt_succ 1)]
  simp only [Result.andThen]
  rw [Oper.upon_value]
  go_wp2
  rw [run_callFunc_extern Tryz.func72 (by kernel_rfl) (by kernel_rfl) (by kernel_rfl) (e := Extern.AbiNoEscape.same) (by kernel_rfl)]
  rw [Lib.run_noEscape]
  simp only [Result.andThen]
  rw [Oper.upon_value]
  go_wp2
  rw [Lib.run_from_unsafe w ⟨b, 0, none⟩ uptr_und bld_und hj hsh hlies]
  simp only [Result.andThen]
  rw [Oper.upon_value]
  go_wp2
  go_end0
  exact ⟨rfl, rfl⟩
/-- A builder in block b, of the call's own, that holds the bytes l. -/
def BIs (w : World) (B b : Nat) (l : List UInt8) : Prop := Lib.IsBuilderF 42 5 B b (Lib.byteCells l) w
theorem copy_any (B b : Nat) (bs : List Value) (w : World) (h : Lib.IsBuilderF 42 5 B b bs w) :
    Calls Tryz.prog 52 #[.pointer (some ⟨b, 0, none⟩)] w fun e w' => e = .returned (.tuple #[]) ∧ (Lib.BuilderAtF 42 5 B b (.pointer (some ⟨b, 0, none⟩)) bs w' ∧ Below B w w' ∧ Lib.OthersKept 5 (some b) w w') := by
  rcases h with h | h
  · refine (copy_fresh b w h.cell0 h.shape h.frozen0).mono ?_
    rintro e w' ⟨rfl, rfl⟩
    exact ⟨rfl, h.used _, (Below.refl B w).setCell (p := ⟨b, 0, none⟩) h.1 _, (Lib.OthersKept.refl _ _ w).setCell ⟨b, 0, none⟩ rfl _⟩
  · refine (copy_used b w h.cell0).mono ?_
    rintro e w' ⟨rfl, rfl⟩
    exact ⟨rfl, h, Below.refl B _, Lib.OthersKept.refl _ _ _⟩
theorem write_any (B b : Nat) (bs : List Value) (s : ByteArray) (w : World) (h : Lib.IsBuilderF 42 5 B b bs w) (hlen : bs.length + s.size ≤ 140737488355328) (hBw : B ≤ w.heap.size) :
    Calls Tryz.prog 26 #[.pointer (some ⟨b, 0, none⟩), .string s] w fun e w' => e = .returned (.tuple #[.int .i64 s.size, .nilIface]) ∧ (Lib.BuilderAtF 42 5 B b (.pointer (some ⟨b, 0, none⟩)) (bs ++ Lib.strCells s) w' ∧ Below B w w' ∧ Lib.OthersKept 5 (some b) w w') := by
  obtain ⟨i0, hi, hz0, hz1, hz2⟩ := info_parts info_byte
  go_enter Tryz.func26, Tryz.ntmps26
  go_wp2_with (go_at_call 52; refine (copy_any B b bs _ h).mono ?_)
  rintro e w1 ⟨rfl, h1, hb1, hk1⟩
  obtain ⟨hB, v, hbk, hown, hne⟩ := h1
  have c0 : w1.cell? ⟨b, 0, none⟩ = some (.pointer (some ⟨b, 0, none⟩)) := by rw [Lib.cell_of_heap hbk]; rfl
  have c1 : w1.cell? ⟨b, 1, none⟩ = some v := by rw [Lib.cell_of_heap hbk]; rfl
  go_wp2_with (at_builtin; refine Lib.wpList_append_own_stringF _ rfl _ _ 40 9 rfl B 5 i0 Tryz.underlying40 Tryz.underlying9 hi hz0 hz1 hz2 _ _ _ rfl hown s rfl ?c3 ?c4 ?c5 ?_)
  case c3 => unfold maxLen; omega
  case c4 => omega
  case c5 => have := hb1.size; omega
  intro v' w2 hown' hgrow _
  have hlt : b < w1.heap.size := by
    rcases Nat.lt_or_ge b w1.heap.size with h' | h'
    · exact h'
    · simp [Array.getElem?_eq_none h'] at hbk
  have hb2 : w2.heap[b]? = some (.cells #[.pointer (some ⟨b, 0, none⟩), v] 42 (0, 0)) := by
    rw [hgrow.block b hlt (fun e => hne e.symm)]
    exact hbk
  have d0 : w2.cell? ⟨b, 0, none⟩ = some (.pointer (some ⟨b, 0, none⟩)) := by rw [Lib.cell_of_heap hb2]; rfl
  have d1 : w2.cell? ⟨b, 1, none⟩ = some v := by rw [Lib.cell_of_heap hb2]; rfl
  have f1 : w2.frozen? ⟨b, 1, none⟩ = false := Lib.frozen_of_heap hb2 1
  obtain ⟨ao, n', cap, rfl⟩ : ∃ ao n' cap, v' = .slice ao n' cap := by
    rcases hown'.2 with ⟨hv, _⟩ | ⟨g, cap, cur, fz, hv, _⟩
    · exact ⟨_, _, _, hv⟩
    · exact ⟨_, _, _, hv⟩
  go_wp2
  go_ret2
  refine ⟨rfl, ?_, ?_, (hk1.grown hgrow (Lib.ownsRowF_kind hown)).setCell ⟨b, 1, none⟩ rfl _⟩
  · exact Lib.BuilderAtF.put (T := 42) (e := 5) hB hb2 (bs' := bs ++ Lib.strCells s) (by simpa [Lib.strCells_length] using hown') (by decide)
  · exact (hb1.grown hgrow (by have := hb1.size; omega) (fun k hk => (hown.lt k hk).1)).setCell (p := ⟨b, 1, none⟩) hB _
theorem byteCells_app (l m : List UInt8) : Lib.byteCells l ++ Lib.strCells (ba m) = Lib.byteCells (l ++ m) := by
  simp [Lib.byteCells, Lib.strCells, ba]
/-- WriteString, in lists of bytes. -/
theorem bwrite (B b : Nat) (l m : List UInt8) (w : World) (h : BIs w B b l) (hlen : l.length + m.length ≤ 140737488355328) (hBw : B ≤ w.heap.size) :
    Calls Tryz.prog 26 #[.pointer (some ⟨b, 0, none⟩), .string (ba m)] w fun e w' => e = .returned (.tuple #[.int .i64 (ba m).size, .nilIface]) ∧ BIs w' B b (l ++ m) ∧ Below B w w' ∧ Lib.OthersKept 5 (some b) w w' := by
  refine (write_any B b (Lib.byteCells l) (ba m) w h (by rw [Lib.byteCells_length, ba_size]; exact hlen) hBw).mono ?_
  rintro e w' ⟨h1, h2, h3, h4⟩
  exact ⟨h1, .inr (by rw [byteCells_app] at h2; exact h2), h3, h4⟩
theorem bstring (B b : Nat) (l : List UInt8) (w : World) (h : BIs w B b l) (hBw : B ≤ w.heap.size) :
    Calls Tryz.prog 11 #[.pointer (some ⟨b, 0, none⟩)] w fun e w' => e = .returned (.string (ba l)) ∧ BIs w' B b l ∧ Below B w w' ∧ Lib.OthersKept 5 (some b) w w' :=
  Tryz.Builder_String_any_k B b l w h hBw
theorem bAt_below {B b : Nat} {p : Value} {bs : List Value} {w w' : World} (h : Lib.BuilderAtF 42 5 B b p bs w) (hb : Below w.heap.size w w') : Lib.BuilderAtF 42 5 B b p bs w' := by
  obtain ⟨h1, v, h2, ⟨h3, h4⟩, h5⟩ := h
  refine ⟨h1, v, keepB hb (Array.getElem?_eq_some_iff.1 h2).1 h2, ⟨h3, ?_⟩, h5⟩
  rcases h4 with h4 | ⟨g, c, cur, fz, hv, hg, hc, hr⟩
  · exact .inl h4
  · exact .inr ⟨g, c, cur, fz, hv, hg, keepB hb (Array.getElem?_eq_some_iff.1 hc).1 hc, hr⟩
theorem BIs.below {w w' : World} {B b : Nat} {l : List UInt8} (h : BIs w B b l) (hb : Below w.heap.size w w') : BIs w' B b l := h.elim (fun x => .inl (bAt_below x hb)) (fun x => .inr (bAt_below x hb))
theorem BIs.fresh (w : World) : BIs (w.alloc (.cells #[.pointer none, .slice none 0 0] 42)) w.heap.size w.heap.size [] :=
  .inl ⟨Nat.le_refl _, .slice none 0 0, new_block w _ _ rfl, ⟨by simp [Lib.byteCells], .inl ⟨rfl, rfl⟩⟩, by simp [Value.ownBlock]⟩
end Go.Proofs.YtoalpdjpljapbaaGreatDoor
/- A page: a struct with a strings.Builder alone; what the builder's methods leave (after the shelf's worked contracts). -/
namespace Go.Proofs.YtoalpdjpljapbaaGreatDoor
set_option linter.unusedVariables false
set_option linter.unusedSimpArgs false
set_option linter.unnecessarySimpa false
open Go.RowKit Go.Sort
set_option maxHeartbeats 2000000
set_option maxRecDepth 100000
set_option linter.unusedVariables false
theorem pcopy_fresh (b : Nat) (w : World) (h0 : w.cell? ⟨b, 0, none⟩ = some (.pointer none)) (hsh : w.shape? b = some (44, 2)) (hfz : w.frozen? ⟨b, 0, none⟩ = false) :
    Calls Tryz.prog 52 #[.pointer (some ⟨b, 0, none⟩)] w fun e w' => e = .returned (.tuple #[]) ∧ w' = w.setCell ⟨b, 0, none⟩ (.pointer (some ⟨b, 0, none⟩)) := by
  obtain ⟨j, hj, hjs⟩ := Option.map_eq_some_iff.1 bld_size
  have hlies : liesAt Tryz.prog Tryz.prog.depth 44 (2 / Tryz.prog.cellsOf 44) 0 42 1 = true := by kernel_rfl
  go_enter Tryz.func52, Tryz.ntmps52
  go_wp2
  rw [Lib.run_to_unsafe w ⟨b, 0, none⟩ bld_und uptr_und hj (by rw [hjs]; decide) hsh (Nat.zero_lt_succ 1)]
  simp only [Result.andThen]
  rw [Oper.upon_value]
  go_wp2
  rw [run_callFunc_extern Tryz.func72 (by kernel_rfl) (by kernel_rfl) (by kernel_rfl) (e := Extern.AbiNoEscape.same) (by kernel_rfl)]
  rw [Lib.run_noEscape]
  simp only [Result.andThen]
  rw [Oper.upon_value]
  go_wp2
  rw [Lib.run_from_unsafe w ⟨b, 0, none⟩ uptr_und bld_und hj hsh hlies]
  simp only [Result.andThen]
  rw [Oper.upon_value]
  go_wp2
  go_end0
  exact ⟨rfl, rfl⟩
/-- A page in block b, of the call's own, that holds the bytes l. -/
def PgIs (w : World) (B b : Nat) (l : List UInt8) : Prop := Lib.IsBuilderF 44 5 B b (Lib.byteCells l) w
theorem pcopy_any (B b : Nat) (bs : List Value) (w : World) (h : Lib.IsBuilderF 44 5 B b bs w) :
    Calls Tryz.prog 52 #[.pointer (some ⟨b, 0, none⟩)] w fun e w' => e = .returned (.tuple #[]) ∧ (Lib.BuilderAtF 44 5 B b (.pointer (some ⟨b, 0, none⟩)) bs w' ∧ Below B w w' ∧ Lib.OthersKept 5 (some b) w w') := by
  rcases h with h | h
  · refine (pcopy_fresh b w h.cell0 h.shape h.frozen0).mono ?_
    rintro e w' ⟨rfl, rfl⟩
    exact ⟨rfl, h.used _, (Below.refl B w).setCell (p := ⟨b, 0, none⟩) h.1 _, (Lib.OthersKept.refl _ _ w).setCell ⟨b, 0, none⟩ rfl _⟩
  · refine (copy_used b w h.cell0).mono ?_
    rintro e w' ⟨rfl, rfl⟩
    exact ⟨rfl, h, Below.refl B _, Lib.OthersKept.refl _ _ _⟩
theorem pwrite_any (B b : Nat) (bs : List Value) (s : ByteArray) (w : World) (h : Lib.IsBuilderF 44 5 B b bs w) (hlen : bs.length + s.size ≤ 140737488355328) (hBw : B ≤ w.heap.size) :
    Calls Tryz.prog 26 #[.pointer (some ⟨b, 0, none⟩), .string s] w fun e w' => e = .returned (.tuple #[.int .i64 s.size, .nilIface]) ∧ (Lib.BuilderAtF 44 5 B b (.pointer (some ⟨b, 0, none⟩)) (bs ++ Lib.strCells s) w' ∧ Below B w w' ∧ Lib.OthersKept 5 (some b) w w') := by
  obtain ⟨i0, hi, hz0, hz1, hz2⟩ := info_parts info_byte
  go_enter Tryz.func26, Tryz.ntmps26
  go_wp2_with (go_at_call 52; refine (pcopy_any B b bs _ h).mono ?_)
  rintro e w1 ⟨rfl, h1, hb1, hk1⟩
  obtain ⟨hB, v, hbk, hown, hne⟩ := h1
  have c0 : w1.cell? ⟨b, 0, none⟩ = some (.pointer (some ⟨b, 0, none⟩)) := by rw [Lib.cell_of_heap hbk]; rfl
  have c1 : w1.cell? ⟨b, 1, none⟩ = some v := by rw [Lib.cell_of_heap hbk]; rfl
  go_wp2_with (at_builtin; refine Lib.wpList_append_own_stringF _ rfl _ _ 40 9 rfl B 5 i0 Tryz.underlying40 Tryz.underlying9 hi hz0 hz1 hz2 _ _ _ rfl hown s rfl ?c3 ?c4 ?c5 ?_)
  case c3 => unfold maxLen; omega
  case c4 => omega
  case c5 => have := hb1.size; omega
  intro v' w2 hown' hgrow _
  have hlt : b < w1.heap.size := by
    rcases Nat.lt_or_ge b w1.heap.size with h' | h'
    · exact h'
    · simp [Array.getElem?_eq_none h'] at hbk
  have hb2 : w2.heap[b]? = some (.cells #[.pointer (some ⟨b, 0, none⟩), v] 44 (0, 0)) := by
    rw [hgrow.block b hlt (fun e => hne e.symm)]
    exact hbk
  have d0 : w2.cell? ⟨b, 0, none⟩ = some (.pointer (some ⟨b, 0, none⟩)) := by rw [Lib.cell_of_heap hb2]; rfl
  have d1 : w2.cell? ⟨b, 1, none⟩ = some v := by rw [Lib.cell_of_heap hb2]; rfl
  have f1 : w2.frozen? ⟨b, 1, none⟩ = false := Lib.frozen_of_heap hb2 1
  obtain ⟨ao, n', cap, rfl⟩ : ∃ ao n' cap, v' = .slice ao n' cap := by
    rcases hown'.2 with ⟨hv, _⟩ | ⟨g, cap, cur, fz, hv, _⟩
    · exact ⟨_, _, _, hv⟩
    · exact ⟨_, _, _, hv⟩
  go_wp2
  go_ret2
  refine ⟨rfl, ?_, ?_, (hk1.grown hgrow (Lib.ownsRowF_kind hown)).setCell ⟨b, 1, none⟩ rfl _⟩
  · exact Lib.BuilderAtF.put (T := 44) (e := 5) hB hb2 (bs' := bs ++ Lib.strCells s) (by simpa [Lib.strCells_length] using hown') (by decide)
  · exact (hb1.grown hgrow (by have := hb1.size; omega) (fun k hk => (hown.lt k hk).1)).setCell (p := ⟨b, 1, none⟩) hB _
/-- WriteString, in lists of bytes. -/
theorem pgwrite (B b : Nat) (l m : List UInt8) (w : World) (h : PgIs w B b l) (hlen : l.length + m.length ≤ 140737488355328) (hBw : B ≤ w.heap.size) :
    Calls Tryz.prog 26 #[.pointer (some ⟨b, 0, none⟩), .string (ba m)] w fun e w' => e = .returned (.tuple #[.int .i64 (ba m).size, .nilIface]) ∧ PgIs w' B b (l ++ m) ∧ Below B w w' ∧ Lib.OthersKept 5 (some b) w w' := by
  refine (pwrite_any B b (Lib.byteCells l) (ba m) w h (by rw [Lib.byteCells_length, ba_size]; exact hlen) hBw).mono ?_
  rintro e w' ⟨h1, h2, h3, h4⟩
  exact ⟨h1, .inr (by rw [byteCells_app] at h2; exact h2), h3, h4⟩
theorem pAt_below {B b : Nat} {p : Value} {bs : List Value} {w w' : World} (h : Lib.BuilderAtF 44 5 B b p bs w) (hb : Below w.heap.size w w') : Lib.BuilderAtF 44 5 B b p bs w' := by
  obtain ⟨h1, v, h2, ⟨h3, h4⟩, h5⟩ := h
  refine ⟨h1, v, keepB hb (Array.getElem?_eq_some_iff.1 h2).1 h2, ⟨h3, ?_⟩, h5⟩
  rcases h4 with h4 | ⟨g, c, cur, fz, hv, hg, hc, hr⟩
  · exact .inl h4
  · exact .inr ⟨g, c, cur, fz, hv, hg, keepB hb (Array.getElem?_eq_some_iff.1 hc).1 hc, hr⟩
theorem PgIs.below {w w' : World} {B b : Nat} {l : List UInt8} (h : PgIs w B b l) (hb : Below w.heap.size w w') : PgIs w' B b l := h.elim (fun x => .inl (pAt_below x hb)) (fun x => .inr (pAt_below x hb))
theorem PgIs.fresh (w : World) : PgIs (w.alloc (.cells #[.pointer none, .slice none 0 0] 44)) w.heap.size w.heap.size [] :=
  .inl ⟨Nat.le_refl _, .slice none 0 0, new_block w _ _ rfl, ⟨by simp [Lib.byteCells], .inl ⟨rfl, rfl⟩⟩, by simp [Value.ownBlock]⟩
theorem cells_byte : Tryz.prog.cellsOf 5 = 1 := by kernel_rfl
theorem bptr_und : Tryz.prog.underlying 77 = some (.pointer 5) := by kernel_rfl
theorem pgstring (B b : Nat) (l : List UInt8) (w : World) (h : PgIs w B b l) (h0 : l ≠ []) :
    Calls Tryz.prog 11 #[.pointer (some ⟨b, 0, none⟩)] w fun e w' => e = .returned (.string (ba l)) ∧ PgIs w' B b l ∧ Below B w w' ∧ Lib.OthersKept 5 (some b) w w' := by
  obtain ⟨p, hp, hAt⟩ : ∃ p, (p = .pointer none ∨ p = .pointer (some ⟨b, 0, none⟩)) ∧ Lib.BuilderAtF 44 5 B b p (Lib.byteCells l) w := by
    rcases h with h | h
    · exact ⟨_, .inl rfl, h⟩
    · exact ⟨_, .inr rfl, h⟩
  obtain ⟨hB, v, hbk, hown, hne⟩ := hAt
  have hl0 : l.length ≠ 0 := by simpa using h0
  rw [Lib.byteCells_length] at hown
  obtain ⟨g, cap, cur, fz, rfl, hbg, hg, hfz, hnc, hcm, hcs, htake⟩ : ∃ g cap cur fz, v = .slice (some ⟨g, 0, none⟩) l.length cap ∧ B ≤ g ∧ w.heap[g]? = some (.cells cur 5 fz) ∧ fz.2 ≤ l.length * 1 ∧ l.length ≤ cap ∧ cap ≤ maxLen ∧ cur.size = cap * 1 ∧ cur.toList.take (l.length * 1) = Lib.byteCells l := by
    rcases hown.2 with ⟨_, hz⟩ | ⟨g, cap, cur, fz, hv, r⟩
    · exact absurd hz hl0
    · exact ⟨g, cap, cur, fz, hv, r⟩
  have c1 : w.drew.cell? ⟨b, 1, none⟩ = some (.slice (some ⟨g, 0, none⟩) l.length cap) := by
    have : w.drew.heap[b]? = some (.cells #[p, .slice (some ⟨g, 0, none⟩) l.length cap] 44 (0, 0)) := hbk
    rw [Lib.cell_of_heap this]; rfl
  have hSD : (Builtin.unsafeSliceData_ #[40] 77 #[.slice (some ⟨g, 0, none⟩) l.length cap]).run Tryz.prog w.drew = .ok (.pointer (some ⟨g, 0, none⟩)) w.drew :=
    Lib.run_unsafeSliceData_row _ _ _ _ _ _ (by omega)
  have hUS : (Builtin.unsafeString_ #[77, 3] 9 #[.pointer (some ⟨g, 0, none⟩), .int .i64 l.length]).run Tryz.prog w.drew = .ok (.string (ba l)) (w.drew.freeze ⟨g, 0, none⟩ l.length) := by
    refine Lib.run_unsafeString_row w.drew 77 3 9 5 bptr_und cells_byte g cur.size (by have hg' : w.drew.heap[g]? = some (.cells cur 5 fz) := hg; simp [World.shape?, hg']) l h0 (by omega) (by unfold maxLen at hcm; omega) ?_
    intro j x hx
    have := hown.cells (g := g) rfl j (.int .u8 x.toNat) (by simp [Lib.byteCells, hx])
    exact this
  have hkeep : Lib.IsBuilderF 44 5 B b (Lib.byteCells l) (w.drew.freeze ⟨g, 0, none⟩ l.length) := by
    have hA : Lib.BuilderAtF 44 5 B b p (Lib.byteCells l) w.drew := ⟨hB, _, hbk, by rw [Lib.byteCells_length]; exact hown, hne⟩
    have hF := hA.froze (g := g) (cap := cap) (by rw [Lib.byteCells_length]; exact c1)
    rw [Lib.byteCells_length] at hF
    rcases hp with rfl | rfl
    · exact .inl hF
    · exact .inr hF
  have HK := Lib.hid hkeep
  have HG := Lib.hid hg
  clear hkeep hg hfz hcs htake hown hbk hp h0 hl0
  go_enter Tryz.func11, Tryz.ntmps11
  go_wp2
  go_region
  all_goals (go_wp2; go_ret; exact ⟨rfl, HK.out, Lib.below_freeze (Below.drew (Below.refl B w)) (p := ⟨g, 0, none⟩) hbg _, ((Lib.OthersKept.refl _ _ w).drew).freeze ⟨g, 0, none⟩ _ ⟨cur, fz, HG.out⟩⟩)
end Go.Proofs.YtoalpdjpljapbaaGreatDoor
/- Package plan: a page's lines. -/
namespace Go.Proofs.YtoalpdjpljapbaaGreatDoor
set_option linter.unusedVariables false
set_option linter.unusedSimpArgs false
set_option linter.unnecessarySimpa false
open Go.RowKit Go.Sort
set_option maxHeartbeats 4000000
set_option maxRecDepth 100000
set_option linter.unusedVariables false
/-- A page at work: it lies in block b, of the call's own. -/
structure PG (w : World) (b : Nat) (t : List UInt8) (W : World) : Prop where
  bel : Below w.heap.size w W
  pow : PowIs w
  pg : PgIs W w.heap.size b t
def Kept (b : Nat) (W W' : World) : Prop := Lib.OthersKept 5 (some b) W W'
theorem Kept.refl (b : Nat) (W : World) : Kept b W W := Lib.OthersKept.refl _ _ _
theorem Kept.trans {b : Nat} {x y z : World} (h : Kept b x y) (k : Kept b y z) : Kept b x z := Lib.OthersKept.trans h k
theorem Kept.ofBelow {b : Nat} {x y : World} (h : Below x.heap.size x y) : Kept b x y := fun k o hk _ _ => keepB h (Array.getElem?_eq_some_iff.1 hk).1 hk
theorem Kept.obj {b g : Nat} {x y : World} {t : TypeId} {cs : List Value} (h : Kept b x y) (ho : ObjAt x g t cs) (hg : g ≠ b) (ht : t ≠ 5) : ObjAt y g t cs :=
  h g _ ho (by simpa using hg) (fun c fz e => by injection e with _ e2; exact ht e2)
theorem PG.more {w W W' : World} {b : Nat} {t : List UInt8} (h : PG w b t W) (hb : Below W.heap.size W W') : PG w b t W' := ⟨bmore h.bel hb, h.pow, h.pg.below hb⟩
theorem PG.powW {w W : World} {b : Nat} {t : List UInt8} (h : PG w b t W) : PowIs W := h.pow.below h.bel
theorem pg_write {w W : World} {b : Nat} {t : List UInt8} (h : PG w b t W) (m : List UInt8) (hl : t.length + m.length ≤ 140737488355328) :
    Calls Tryz.prog 26 #[.pointer (some ⟨b, 0, none⟩), .string (ba m)] W fun e w' => e = .returned (.tuple #[.int .i64 (ba m).size, .nilIface]) ∧ PG w b (t ++ m) w' ∧ Kept b W w' := by
  refine (pgwrite _ _ _ m W h.pg hl h.bel.size).mono ?_
  rintro e w' ⟨h1, h2, h3, h4⟩
  exact ⟨h1, ⟨h.bel.trans h3, h.pow, h2⟩, h4⟩
theorem itoa_dc (n : Int) (h0 : 0 ≤ n) (h1 : n ≤ 1000000000) (w : World) (hP : PowIs w) : Calls Tryz.prog 28 #[.int .i64 n] w fun e w' => e = .returned (.string (ba (dc n))) ∧ Below w.heap.size w w' := by
  refine (itoa_b n (by omega) (by omega) w hP).mono ?_
  rintro e w' ⟨h2, h3⟩
  have : Lib.itoa n = dc n := by unfold Lib.itoa dc; rw [if_neg (by omega)]
  rw [this] at h2
  exact ⟨h2, h3⟩
theorem sp_ba (x : List UInt8) : (⟨#[32]⟩ : ByteArray) ++ ba x = ba (32 :: x) := by
  unfold ba
  rw [show (32 :: x : List UInt8) = [32] ++ x from rfl, ba_append]
/-- The numbers behind a line's words: a row of the caller's. -/
def NumsAt (W : World) (b : Nat) (a : Option Addr) (l : List Int) : Prop := (a = none ∧ l = []) ∨ ∃ g, a = some ⟨g, 0, none⟩ ∧ g ≠ b ∧ ObjAt W g 3 (zC l)
theorem NumsAt.kept {W W' : World} {b : Nat} {a : Option Addr} {l : List Int} (h : NumsAt W b a l) (hk : Kept b W W') : NumsAt W' b a l :=
  h.imp id fun ⟨g, h1, h2, h3⟩ => ⟨g, h1, h2, hk.obj h3 h2 (by decide)⟩
theorem NumsAt.at_ {W : World} {b : Nat} {a : Option Addr} {l : List Int} (h : NumsAt W b a l) (k : Nat) (hk : k < l.length) : ∃ g, a = some ⟨g, 0, none⟩ ∧ W.cell? ⟨g, k, none⟩ = some (.int .i64 l[k]) := by
  rcases h with ⟨_, h⟩ | ⟨g, h1, _, h3⟩
  · rw [h] at hk; cases hk
  · exact ⟨g, h1, h3.cell k _ (zC_get l k hk)⟩
def nmT (l : List Int) : List UInt8 := l.flatMap fun n => 32 :: dc n
theorem nmT_succ (l : List Int) (k : Nat) (hk : k < l.length) : nmT (l.take (k + 1)) = nmT (l.take k) ++ (32 :: dc l[k]) := by
  rw [nmT, List.take_succ_eq_append_getElem hk, List.flatMap_append]; simp [nmT]
theorem nmT_len (l : List Int) (h : ∀ n ∈ l, n < 1000000000) : (nmT l).length ≤ 10 * l.length := by
  induction l with
  | nil => simp [nmT]
  | cons x l ih =>
    have h1 := dc_len (h x (by simp))
    have h2 := ih (fun n hn => h n (by simp [hn]))
    simp only [nmT, List.flatMap_cons, List.length_append, List.length_cons] at h2 ⊢
    omega
def LinePost (w : World) (b : Nat) (t : List UInt8) (W : World) (e : Ending) (w' : World) : Prop := e = .returned (.tuple #[]) ∧ PG w b t w' ∧ Kept b W w'
theorem pline_any (k : Nat) (hk : k < 7) (ahead : List UInt8) (a : Option Addr) (cap : Nat) (l : List Int) (w : World) (b : Nat) (t : List UInt8) (W : World) (hg : PG w b t W) (hn : NumsAt W b a l) (hl : ∀ n ∈ l, 0 ≤ n ∧ n < 1000000000) (hll : l.length ≤ cap ∧ l.length ≤ 100) (ht : t.length ≤ 1000000) (ha : ahead.length ≤ 1000) :
    Calls Tryz.prog 8 #[.pointer (some ⟨b, 0, none⟩), .int .i64 k, .string (ba ahead), .slice a l.length cap] W (LinePost w b (t ++ lnW k ahead l) W) := by
  have HN := Lib.hid hn
  have HL := Lib.hid hl
  obtain ⟨hl1, hl2⟩ := hll
  have hkn : (rkName k).length ≤ 5 := by rcases (by omega : k = 0 ∨ k = 1 ∨ k = 2 ∨ k = 3 ∨ k = 4 ∨ k = 5 ∨ k = 6) with rfl | rfl | rfl | rfl | rfl | rfl | rfl <;> decide
  have HNAM := fun W => Lib.hid (pname_any k hk W)
  have HG0 : Hid (PG w b t W.drew) := hg.more (Below.refl _ _).drew
  have HK0 : Hid (Kept b W W.drew) := Kept.ofBelow (Below.refl _ _).drew
  have HTL0 : Hid (t.length + (rkName k).length ≤ 140737488355328) := by rw [Hid]; omega
  have bx := ba_isEmpty ahead
  cases hxe : ahead.isEmpty
  · have hne : ahead ≠ [] := fun e => by rw [e] at hxe; cases hxe
    obtain ⟨t1, ht1⟩ : ∃ t1, t1 = (t ++ rkName k) ++ (32 :: ahead) := ⟨_, rfl⟩
    have HT : Hid (t1 ++ (nmT l ++ [10]) = t ++ lnW k ahead l) := by
      rw [Hid, ht1, lnW, if_neg hne]; simp [nmT]
    have HT1 := Lib.hid ht1
    have htl : t1.length ≤ 1002000 := by rw [ht1]; simp only [List.length_append, List.length_cons]; omega
    have HST : Hid ((⟨#[32]⟩ : ByteArray) ++ ba ahead = ba (32 :: ahead)) := sp_ba _
    have hds : (ba ahead).size ≤ 1000 := by rw [ba_size]; exact ha
    have HTL1 : Hid ((t ++ rkName k).length + (32 :: ahead).length ≤ 140737488355328) := by rw [Hid, List.length_append, List.length_cons]; omega
    rw [hxe] at bx
    clear hxe hne ht1 hg hn hl
    go_enter Tryz.func8, Tryz.ntmps8
    go_wp2_with fail
    go_region_held3 (fun _ => True) (trivial) (first | (go_at_call 27; refine ((HNAM _).out).mono ?_; rintro e W4 ⟨rfl, rfl⟩) | (go_at_call 26; refine (pg_write HG0.out _ HTL0.out).mono ?_; rintro e W5 ⟨rfl, h5, h6⟩; have HG1a := Lib.hid h5; have HK1a : Hid (Kept b W W5) := HK0.out.trans h6; clear h5 h6))
    go_wp2_with (go_at_call 26; rw [HST.out]; refine (pg_write HG1a.out _ HTL1.out).mono ?_; rintro e W6 ⟨rfl, h5, h6⟩; rw [← HT1.out] at h5; have HG1 := Lib.hid h5; have HK1 : Hid (Kept b W W6) := HK1a.out.trans h6; clear h5 h6)
    go_upto_region 4 with fail
    go_loopw [26] (fun i wr => ∃ j : Nat, j ≤ l.length ∧ i = .int .i64 j ∧ PG w b (t1 ++ nmT (l.take j)) wr ∧ Kept b W wr) (fun i _ => l.length - (intOf i).toNat)
    case atStart => exact ⟨0, by omega, rfl, by rw [List.take_zero, show nmT [] = [] from rfl, List.append_nil]; exact HG1.out, HK1.out⟩
    clear HG1 HK1
    obtain ⟨j, hj, rfl, hg, hk⟩ := hrel
    have HG2 := Lib.hid hg
    have HK2 := Lib.hid hk
    clear hg hk
    by_cases hlt : j < l.length
    case pos =>
      obtain ⟨g, rfl, hc⟩ := (HN.out.kept HK2.out).at_ j hlt
      obtain ⟨x, hx⟩ : ∃ x, Hid (x = l[j]) := ⟨_, Lib.hid rfl⟩
      rw [← hx.out] at hc
      have hx0 : 0 ≤ x ∧ x < 1000000000 := by rw [hx.out]; exact HL.out _ (List.getElem_mem hlt)
      obtain ⟨hx1, hx2⟩ := hx0
      have d1 : decide ((j : Int) < (l.length : Int)) = true := decide_eq_true (by omega)
      have d1' : decide (j < l.length) = true := decide_eq_true hlt
      have w1 : IntKind.i64.wrap ((j : Int) + 1) = (j : Int) + 1 := by rw [IntKind.wrap_i64]; omega
      have HST : Hid ((⟨#[32]⟩ : ByteArray) ++ ba (dc x) = ba (32 :: dc x)) := sp_ba _
      have hds : (ba (dc x)).size ≤ 9 := by rw [ba_size]; exact dc_len hx2
      have hnot : ¬ 9223372036854775807 < 1 + (ba (dc x)).size := by omega
      have HNT : Hid (nmT (l.take (j + 1)) = nmT (l.take j) ++ (32 :: dc x)) := by rw [Hid, nmT_succ l j hlt, hx.out]
      have HTL : Hid ((t1 ++ nmT (l.take j)).length + (32 :: dc x).length ≤ 140737488355328) := by
        have h1 := nmT_len (l.take j) (fun n hn => (HL.out n (List.mem_of_mem_take hn)).2)
        have h2 := dc_len hx2
        rw [List.length_take] at h1
        rw [Hid, List.length_append, List.length_cons]; omega
      have HG3 : Hid (PG w b (t1 ++ nmT (l.take j)) wr.drew) := HG2.out.more (Below.refl _ _).drew
      have HK3 : Hid (Kept b W wr.drew) := HK2.out.trans (Kept.ofBelow (Below.refl _ _).drew)
      go_upto_region 6 with fail
      go_region_held3 (fun _ => True) (trivial) (first | (go_at_call 28; refine (itoa_dc x hx1 (by omega) _ HG3.out.powW).mono ?_; rintro e W4 ⟨rfl, hb4⟩; have HG4 := Lib.hid (HG3.out.more hb4); have HK4 : Hid (Kept b W W4) := HK3.out.trans (Kept.ofBelow hb4); clear hb4) | (go_at_call 26; rw [HST.out]; refine (pg_write HG4.out _ HTL.out).mono ?_; rintro e W5 ⟨rfl, h5, h6⟩; have HG5 := Lib.hid h5; have HK5 : Hid (Kept b W W5) := HK4.out.trans h6; clear h5 h6))
      all_goals
        go_wp2_with fail
        go_roundw
        case rel => exact ⟨j + 1, by omega, by go_num, by rw [HNT.out, ← List.append_assoc]; exact HG5.out, HK5.out⟩
        case measure => simp [intOf]; omega
    obtain rfl : j = l.length := by omega
    rw [List.take_length] at HG2
    have d1 : decide ((l.length : Int) < (l.length : Int)) = false := decide_eq_false (by omega)
    have HTL : Hid ((t1 ++ nmT l).length + [(10 : UInt8)].length ≤ 140737488355328) := by
      have h1 := nmT_len l (fun n hn => (HL.out n hn).2)
      rw [Hid, List.length_append]; simp; omega
    go_wp2_with (go_at_call 26; refine (pg_write HG2.out [10] HTL.out).mono ?_; rintro e W5 ⟨rfl, h5, h6⟩; have HG5 := Lib.hid h5; have HK5 : Hid (Kept b W W5) := HK2.out.trans h6; clear h5 h6)
    go_end0
    exact ⟨rfl, by rw [List.append_assoc, HT.out] at HG5; exact HG5.out, HK5.out⟩
  · obtain rfl : ahead = [] := List.isEmpty_iff.1 hxe
    obtain ⟨t1, ht1⟩ : ∃ t1, t1 = t ++ rkName k := ⟨_, rfl⟩
    have HT : Hid (t1 ++ (nmT l ++ [10]) = t ++ lnW k [] l) := by
      rw [Hid, ht1, lnW, if_pos rfl]; simp [nmT]
    have htl : t1.length ≤ 1002000 := by rw [ht1]; simp only [List.length_append]; omega
    have HT1 := Lib.hid ht1
    clear hxe ht1 hg hn hl
    go_enter Tryz.func8, Tryz.ntmps8
    go_wp2_with fail
    go_region_held3 (fun _ => True) (trivial) (first | (go_at_call 27; refine ((HNAM _).out).mono ?_; rintro e W4 ⟨rfl, rfl⟩) | (go_at_call 26; refine (pg_write HG0.out _ HTL0.out).mono ?_; rintro e W5 ⟨rfl, h5, h6⟩; rw [← HT1.out] at h5; have HG1 := Lib.hid h5; have HK1 : Hid (Kept b W W5) := HK0.out.trans h6; clear h5 h6))
    go_upto_region 4 with fail
    go_loopw [26] (fun i wr => ∃ j : Nat, j ≤ l.length ∧ i = .int .i64 j ∧ PG w b (t1 ++ nmT (l.take j)) wr ∧ Kept b W wr) (fun i _ => l.length - (intOf i).toNat)
    case atStart => exact ⟨0, by omega, rfl, by rw [List.take_zero, show nmT [] = [] from rfl, List.append_nil]; exact HG1.out, HK1.out⟩
    clear HG1 HK1
    obtain ⟨j, hj, rfl, hg, hk⟩ := hrel
    have HG2 := Lib.hid hg
    have HK2 := Lib.hid hk
    clear hg hk
    by_cases hlt : j < l.length
    case pos =>
      obtain ⟨g, rfl, hc⟩ := (HN.out.kept HK2.out).at_ j hlt
      obtain ⟨x, hx⟩ : ∃ x, Hid (x = l[j]) := ⟨_, Lib.hid rfl⟩
      rw [← hx.out] at hc
      have hx0 : 0 ≤ x ∧ x < 1000000000 := by rw [hx.out]; exact HL.out _ (List.getElem_mem hlt)
      obtain ⟨hx1, hx2⟩ := hx0
      have d1 : decide ((j : Int) < (l.length : Int)) = true := decide_eq_true (by omega)
      have d1' : decide (j < l.length) = true := decide_eq_true hlt
      have w1 : IntKind.i64.wrap ((j : Int) + 1) = (j : Int) + 1 := by rw [IntKind.wrap_i64]; omega
      have HST : Hid ((⟨#[32]⟩ : ByteArray) ++ ba (dc x) = ba (32 :: dc x)) := sp_ba _
      have hds : (ba (dc x)).size ≤ 9 := by rw [ba_size]; exact dc_len hx2
      have hnot : ¬ 9223372036854775807 < 1 + (ba (dc x)).size := by omega
      have HNT : Hid (nmT (l.take (j + 1)) = nmT (l.take j) ++ (32 :: dc x)) := by rw [Hid, nmT_succ l j hlt, hx.out]
      have HTL : Hid ((t1 ++ nmT (l.take j)).length + (32 :: dc x).length ≤ 140737488355328) := by
        have h1 := nmT_len (l.take j) (fun n hn => (HL.out n (List.mem_of_mem_take hn)).2)
        have h2 := dc_len hx2
        rw [List.length_take] at h1
        rw [Hid, List.length_append, List.length_cons]; omega
      have HG3 : Hid (PG w b (t1 ++ nmT (l.take j)) wr.drew) := HG2.out.more (Below.refl _ _).drew
      have HK3 : Hid (Kept b W wr.drew) := HK2.out.trans (Kept.ofBelow (Below.refl _ _).drew)
      go_upto_region 6 with fail
      go_region_held3 (fun _ => True) (trivial) (first | (go_at_call 28; refine (itoa_dc x hx1 (by omega) _ HG3.out.powW).mono ?_; rintro e W4 ⟨rfl, hb4⟩; have HG4 := Lib.hid (HG3.out.more hb4); have HK4 : Hid (Kept b W W4) := HK3.out.trans (Kept.ofBelow hb4); clear hb4) | (go_at_call 26; rw [HST.out]; refine (pg_write HG4.out _ HTL.out).mono ?_; rintro e W5 ⟨rfl, h5, h6⟩; have HG5 := Lib.hid h5; have HK5 : Hid (Kept b W W5) := HK4.out.trans h6; clear h5 h6))
      all_goals
        go_wp2_with fail
        go_roundw
        case rel => exact ⟨j + 1, by omega, by go_num, by rw [HNT.out, ← List.append_assoc]; exact HG5.out, HK5.out⟩
        case measure => simp [intOf]; omega
    obtain rfl : j = l.length := by omega
    rw [List.take_length] at HG2
    have d1 : decide ((l.length : Int) < (l.length : Int)) = false := decide_eq_false (by omega)
    have HTL : Hid ((t1 ++ nmT l).length + [(10 : UInt8)].length ≤ 140737488355328) := by
      have h1 := nmT_len l (fun n hn => (HL.out n hn).2)
      rw [Hid, List.length_append]; simp; omega
    go_wp2_with (go_at_call 26; refine (pg_write HG2.out [10] HTL.out).mono ?_; rintro e W5 ⟨rfl, h5, h6⟩; have HG5 := Lib.hid h5; have HK5 : Hid (Kept b W W5) := HK2.out.trans h6; clear h5 h6)
    go_end0
    exact ⟨rfl, by rw [List.append_assoc, HT.out] at HG5; exact HG5.out, HK5.out⟩
end Go.Proofs.YtoalpdjpljapbaaGreatDoor
/- Package plan: Print. -/
namespace Go.Proofs.YtoalpdjpljapbaaGreatDoor
set_option linter.unusedVariables false
set_option linter.unusedSimpArgs false
set_option linter.unnecessarySimpa false
open Go.RowKit Go.Sort
set_option maxHeartbeats 4000000
set_option maxRecDepth 100000
set_option linter.unusedVariables false
theorem PG.ne {w W : World} {b g : Nat} {t : List UInt8} {T : TypeId} {cs : List Value} (h : PG w b t W) (ho : ObjAt W g T cs) (hT : T ≠ 44) : g ≠ b := by
  rintro rfl
  unfold ObjAt at ho
  have key : ∀ p, Lib.BuilderAtF 44 5 w.heap.size g p (Lib.byteCells t) W → False := fun p hp => by
    obtain ⟨_, v, h2, _⟩ := hp
    rw [ho] at h2
    injection h2 with h2
    injection h2 with _ h3
    exact hT h3
  exact h.pg.elim (key _) (key _)
theorem lnW_len (k : Nat) (hk : k < 7) (ahead : List UInt8) (l : List Int) (h : ∀ n ∈ l, n < 1000000000) : (lnW k ahead l).length ≤ 7 + ahead.length + 10 * l.length := by
  have hkn : (rkName k).length ≤ 5 := by rcases (by omega : k = 0 ∨ k = 1 ∨ k = 2 ∨ k = 3 ∨ k = 4 ∨ k = 5 ∨ k = 6) with rfl | rfl | rfl | rfl | rfl | rfl | rfl <;> decide
  have h1 := nmT_len l h
  unfold nmT at h1
  unfold lnW
  simp only [List.length_append, List.length_singleton]
  have h3 : (if ahead = [] then [] else 32 :: ahead).length ≤ 1 + ahead.length := by
    split
    · exact Nat.zero_le _
    · rw [List.length_cons]; omega
  omega
def NumOk (x : Int) : Prop := 0 ≤ x ∧ x < 1000000000
theorem pline0 (k : Nat) (hk : k < 7) (ahead : List UInt8) {w : World} {b : Nat} {t : List UInt8} (ht : t.length ≤ 1000000) (ha : ahead.length ≤ 1000) (W : World) (hg : PG w b t W) :
    Calls Tryz.prog 8 #[.pointer (some ⟨b, 0, none⟩), .int .i64 k, .string (ba ahead), .slice none 0 0] W (LinePost w b (t ++ lnW k ahead []) W) :=
  pline_any k hk ahead none 0 [] w b t W hg (Or.inl ⟨rfl, rfl⟩) (by simp) ⟨Nat.le_refl _, by simp⟩ ht ha
theorem pline1 (k : Nat) (hk : k < 7) (ahead : List UInt8) (x : Int) (hx : NumOk x) {w : World} {b : Nat} {t : List UInt8} (ht : t.length ≤ 1000000) (ha : ahead.length ≤ 1000) (W : World) (g : Nat) (hg : PG w b t W) (ho : ObjAt W g 3 [.int .i64 x]) :
    Calls Tryz.prog 8 #[.pointer (some ⟨b, 0, none⟩), .int .i64 k, .string (ba ahead), .slice (some ⟨g, 0, none⟩) 1 1] W (LinePost w b (t ++ lnW k ahead [x]) W) :=
  pline_any k hk ahead (some ⟨g, 0, none⟩) 1 [x] w b t W hg (Or.inr ⟨g, rfl, hg.ne ho (by decide), ho⟩) (by intro n hn; rw [List.mem_singleton.1 hn]; exact hx) ⟨Nat.le_refl _, by simp⟩ ht ha
theorem pline2 (k : Nat) (hk : k < 7) (ahead : List UInt8) (x y : Int) (hx : NumOk x) (hy : NumOk y) {w : World} {b : Nat} {t : List UInt8} (ht : t.length ≤ 1000000) (ha : ahead.length ≤ 1000) (W : World) (g : Nat) (hg : PG w b t W) (ho : ObjAt W g 3 [.int .i64 x, .int .i64 y]) :
    Calls Tryz.prog 8 #[.pointer (some ⟨b, 0, none⟩), .int .i64 k, .string (ba ahead), .slice (some ⟨g, 0, none⟩) 2 2] W (LinePost w b (t ++ lnW k ahead [x, y]) W) :=
  pline_any k hk ahead (some ⟨g, 0, none⟩) 2 [x, y] w b t W hg (Or.inr ⟨g, rfl, hg.ne ho (by decide), ho⟩) (by intro n hn; simp at hn; rcases hn with rfl | rfl <;> assumption) ⟨Nat.le_refl _, by simp⟩ ht ha
theorem out_ba (x : List UInt8) : ba x ++ (⟨#[32]⟩ : ByteArray) ++ (⟨#[111, 117, 116]⟩ : ByteArray) = ba (x ++ 32 :: outT) := by
  unfold ba
  rw [show (⟨#[32]⟩ : ByteArray) = ⟨[32].toArray⟩ from rfl, show (⟨#[111, 117, 116]⟩ : ByteArray) = ⟨outT.toArray⟩ from rfl, ba_append, ba_append, List.append_assoc]; rfl
theorem pport_any (lb gu : Int) (hlb : 0 ≤ lb ∧ lb < 256) (hgu : gu = -1 ∨ NumOk gu) (w : World) (b : Nat) (t : List UInt8) (W : World) (hg : PG w b t W) (ht : t.length ≤ 1000000) :
    Calls Tryz.prog 10 #[.pointer (some ⟨b, 0, none⟩), .agg #[.int .i64 lb, .int .i64 gu]] W (LinePost w b (t ++ (lineT (3, [lb, gu]) ++ [10])) W) := by
  have HLB := Lib.hid (lbS_lbT hlb)
  have hll := (lbT_ok hlb).2.1
  obtain ⟨W1, hW1⟩ : ∃ W1, W1 = W.alloc (.cells #[.int .i64 lb, .int .i64 gu] 52) := ⟨_, rfl⟩
  obtain ⟨rr, hrr⟩ : ∃ r, r = W.heap.size := ⟨_, rfl⟩
  have hb1 : Below W.heap.size W W1 := by rw [hW1]; exact ((Below.refl _ _).alloc (Nat.le_refl _) _)
  have R1 : Hid (ObjAt W1 rr 52 [.int .i64 lb, .int .i64 gu]) := by rw [hW1, hrr]; exact ObjAt.new W _ _
  have HG1 := Lib.hid (hg.more hb1)
  have HK1 : Hid (Kept b W W1) := Kept.ofBelow hb1
  have HW1 := Lib.hid hW1
  have HRR := Lib.hid hrr
  clear hb1 hW1 hrr hg
  by_cases h1 : gu = -1
  · subst h1
    have HV : Hid (t ++ lnW 3 (lbT lb ++ 32 :: outT) [] = t ++ (lineT (3, [lb, -1]) ++ [10])) := by rw [Hid, lnW_out hlb]
    rw [← HV.out]
    have HLINE := fun W => Lib.hid (pline0 3 (by decide) (lbT lb ++ 32 :: outT) (w := w) (b := b) (t := t) ht (by rw [List.length_append, List.length_cons]; have : outT.length = 3 := rfl; omega) W)
    have HOUT := Lib.hid (out_ba (lbT lb))
    have hs1 : (ba (lbT lb)).size ≤ 8 := by rw [ba_size]; exact hll
    have hs2 : (ba (lbT lb) ++ (⟨#[32]⟩ : ByteArray)).size ≤ 9 := by rw [ByteArray.size_append, ba_size]; show _ + 1 ≤ _; omega
    clear hgu hll ht hlb
    go_enter Tryz.func10, Tryz.ntmps10
    go_upto_region 1 with fail
    rw [← HW1.out, ← HRR.out]
    have c0 := R1.out.cell 0 _ rfl
    have c1 := R1.out.cell 1 _ rfl
    go_wp2_with fail
    refine (letters_str lb _).mono ?_; rintro e W2 ⟨rfl, hb2⟩
    rw [HLB.out]
    have HG2 := Lib.hid (HG1.out.more hb2)
    have HK2 : Hid (Kept b W W2) := HK1.out.trans (Kept.ofBelow hb2)
    clear hb2 c0 c1
    go_wp2_with (go_at_call 8; rw [HOUT.out]; refine ((HLINE _).out HG2.out).mono ?_; rintro e W3 ⟨rfl, h3, h4⟩; have HG3 := Lib.hid h3; have HK3 : Hid (Kept b W W3) := HK2.out.trans h4; clear h3 h4)
    go_end0
    exact ⟨rfl, HG3.out, HK3.out⟩
  · have n1 : (gu == -1) = false := by rw [beq_eq_false_iff_ne]; exact h1
    have hgn : NumOk gu := hgu.resolve_left h1
    have HV : Hid (t ++ lnW 3 (lbT lb) [gu] = t ++ (lineT (3, [lb, gu]) ++ [10])) := by rw [Hid, lnW_3 hlb h1]
    rw [← HV.out]
    have HLINE := fun W g => Lib.hid (pline1 3 (by decide) (lbT lb) gu hgn (w := w) (b := b) (t := t) ht (by omega) W g)
    have R1d : Hid (ObjAt W1.drew rr 52 [.int .i64 lb, .int .i64 gu]) := R1.out.below (Below.refl _ _).drew
    have HG1d : Hid (PG w b t W1.drew) := HG1.out.more (Below.refl _ _).drew
    have HK1d : Hid (Kept b W W1.drew) := HK1.out.trans (Kept.ofBelow (Below.refl _ _).drew)
    clear hgu hll ht hlb h1 hgn
    go_enter Tryz.func10, Tryz.ntmps10
    go_upto_region 1 with fail
    rw [← HW1.out, ← HRR.out]
    have c0 := R1.out.cell 0 _ rfl
    have c1 := R1.out.cell 1 _ rfl
    go_upto_region 3 with fail
    go_region_held3 (fun W' => W'.cell? ⟨rr, 0, none⟩ = some (.int .i64 lb) ∧ W'.cell? ⟨rr, 1, none⟩ = some (.int .i64 gu)) (first | exact ⟨(R1d.out).cell 0 _ rfl, (R1d.out).cell 1 _ rfl⟩ | exact ⟨(R7.out).cell 0 _ rfl, (R7.out).cell 1 _ rfl⟩ | exact ⟨(R6.out).cell 0 _ rfl, (R6.out).cell 1 _ rfl⟩ | exact ⟨(R1d.out.below ((Below.refl _ _).alloc (Nat.le_refl _) _)).cell 0 _ rfl, (R1d.out.below ((Below.refl _ _).alloc (Nat.le_refl _) _)).cell 1 _ rfl⟩ | exact ⟨(R6.out.below ((Below.refl _ _).alloc (Nat.le_refl _) _)).cell 0 _ rfl, (R6.out.below ((Below.refl _ _).alloc (Nat.le_refl _) _)).cell 1 _ rfl⟩) (first | (go_at_call 9; refine (letters_str lb _).mono ?_; rintro e W6 ⟨rfl, hb6⟩; rw [HLB.out]; have HG6 : Hid (PG w b t W6) := (by first | exact HG1d.out.more hb6 | exact (HG1d.out.more ((Below.refl _ _).alloc (Nat.le_refl _) _)).more hb6); have R6 : Hid (ObjAt W6 rr 52 [.int .i64 lb, .int .i64 gu]) := (by first | exact R1d.out.below hb6 | exact (R1d.out.below ((Below.refl _ _).alloc (Nat.le_refl _) _)).below hb6); have HK6 : Hid (Kept b W W6) := (by first | exact HK1d.out.trans (Kept.ofBelow hb6) | exact (HK1d.out.trans (Kept.ofBelow ((Below.refl _ _).alloc (Nat.le_refl _) _))).trans (Kept.ofBelow hb6)); have HB6 := Lib.hid hb6; clear hb6) | (go_at_call 8; refine ((HLINE _ _).out (by first | exact HG6.out | exact HG6.out.more ((Below.refl _ _).alloc (Nat.le_refl _) _)) (by first | exact ObjAt.new _ _ _ | exact (ObjAt.new W1.drew 3 [.int .i64 gu]).below HB6.out)).mono ?_; rintro e W7 ⟨rfl, h7, h8⟩; have HG7 := Lib.hid h7; have HK7 : Hid (Kept b W W7) := (by first | exact HK6.out.trans h8 | exact (HK6.out.trans (Kept.ofBelow ((Below.refl _ _).alloc (Nat.le_refl _) _))).trans h8); have R7 : Hid (ObjAt W7 rr 52 [.int .i64 lb, .int .i64 gu]) := (by first | exact h8.obj R6.out (HG6.out.ne R6.out (by decide)) (by decide) | exact h8.obj (R6.out.below ((Below.refl _ _).alloc (Nat.le_refl _) _)) (HG6.out.ne R6.out (by decide)) (by decide)); clear h7 h8))
    all_goals
      go_wp2_with fail
      go_end0
      exact ⟨rfl, HG7.out, HK7.out⟩
end Go.Proofs.YtoalpdjpljapbaaGreatDoor
/- Package plan: Print of a configuration. -/
namespace Go.Proofs.YtoalpdjpljapbaaGreatDoor
set_option linter.unusedVariables false
set_option linter.unusedSimpArgs false
set_option linter.unnecessarySimpa false
open Go.RowKit Go.Sort
set_option maxHeartbeats 8000000
set_option maxRecDepth 100000
set_option linter.unusedVariables false
/-- What Print hands back. -/
def PrPost (c : Cv) (w : World) (e : Ending) (w' : World) : Prop :=
  ((chkV c).1 ≠ 0 → e = .returned (.tuple #[.string ⟨#[]⟩, .int .i64 (chkV c).1])) ∧ ((chkV c).1 = 0 → e = .returned (.tuple #[.string (ba (prT (pcOf c))), .int .i64 0])) ∧ Below w.heap.size w w'
theorem pprint_no (c : Cv) (w : World) (h : CfgOk w c) (h0 : (chkV c).1 ≠ 0) : Calls Tryz.prog 4 #[(.agg #[.int .i64 c.cats, .slice c.g.a c.g.l.length c.g.cap, .slice c.r.a c.r.l.length c.r.cap, .slice c.p.a c.p.l.length c.p.cap, .slice c.n.a c.n.l.length c.n.cap, .slice c.s.a c.s.l.length c.s.cap, .int .i64 c.gate, .int .i64 c.quota])] w (PrPost c w) := by
  obtain ⟨e0, he0⟩ : ∃ v, Hid (v = (chkV c).1) := ⟨_, Lib.hid rfl⟩
  obtain ⟨e1, he1⟩ : ∃ v, Hid (v = (chkV c).2) := ⟨_, Lib.hid rfl⟩
  have CHK : Hid (∀ W, CfgOk W c → Calls Tryz.prog 7 #[(.agg #[.int .i64 c.cats, .slice c.g.a c.g.l.length c.g.cap, .slice c.r.a c.r.l.length c.r.cap, .slice c.p.a c.p.l.length c.p.cap, .slice c.n.a c.n.l.length c.n.cap, .slice c.s.a c.s.l.length c.s.cap, .int .i64 c.gate, .int .i64 c.quota])] W fun e w' => e = .returned (.tuple #[.int .i64 e0, .int .i64 e1]) ∧ Below W.heap.size W w') := fun W hc => by rw [he0.out, he1.out]; exact check_any c W hc
  have hz : e0 ≠ 0 := by rw [he0.out]; exact h0
  have HP : Hid (∀ w', Below w.heap.size w w' → PrPost c w (.returned (.tuple #[.string ⟨#[]⟩, .int .i64 e0])) w') := fun w' hb => ⟨fun _ => by rw [he0.out], fun h => absurd h h0, hb⟩
  have n1 : (e0 == 0) = false := by rw [beq_eq_false_iff_ne]; exact hz
  have n2 : (e0 != 0) = true := by rw [bne_iff_ne]; exact hz
  clear h0 hz
  (have h0 := CX.new h; go_enter Tryz.func4, Tryz.ntmps4; go_upto_region 1 with fail; generalize w.alloc (.cells #[.int .i64 c.cats, .slice c.g.a c.g.l.length c.g.cap, .slice c.r.a c.r.l.length c.r.cap, .slice c.p.a c.p.l.length c.p.cap, .slice c.n.a c.n.l.length c.n.cap, .slice c.s.a c.s.l.length c.s.cap, .int .i64 c.gate, .int .i64 c.quota] 28) = W1 at h0 ⊢; generalize w.heap.size = b0 at h0 ⊢; have H0 := Lib.hid h0; clear h0 h)
  (have q0 := H0.out.ob.cell 0 _ rfl; have q1 := H0.out.ob.cell 1 _ rfl; have q2 := H0.out.ob.cell 2 _ rfl; have q3 := H0.out.ob.cell 3 _ rfl; have q4 := H0.out.ob.cell 4 _ rfl; have q5 := H0.out.ob.cell 5 _ rfl; have q6 := H0.out.ob.cell 6 _ rfl; have q7 := H0.out.ob.cell 7 _ rfl)
  go_wp2_with (go_at_call 7; refine (CHK.out _ H0.out.ok).mono ?_; rintro e W2 ⟨rfl, hb⟩; have H2 := Lib.hid (H0.out.below hb); clear hb)
  go_ret2
  exact HP.out _ H2.out.bel
def tg (k : Nat) (l : List (List Int)) (j : Nat) : List UInt8 := textT (tag k (l.take j))
theorem tg_0 (k : Nat) (l : List (List Int)) : tg k l 0 = [] := by simp [tg, tag, textT]
theorem tg_succ (k : Nat) (l : List (List Int)) (j : Nat) (hj : j < l.length) : tg k l (j + 1) = tg k l j ++ (lineT (k, l[j]) ++ [10]) := by
  unfold tg tag
  rw [List.take_succ_eq_append_getElem hj, List.map_append, textT_app]
  simp [textT]
theorem tg_all (k : Nat) (l : List (List Int)) : tg k l l.length = textT (tag k l) := by unfold tg; rw [List.take_length]
theorem port_len {x y : Int} (h : 0 ≤ x ∧ x < 256) (hy : y = -1 ∨ 0 ≤ y ∧ y < 4) : (lineT (3, [x, y]) ++ [10]).length ≤ 40 := by
  have h2 := (lbT_ok h).2.1
  rcases hy with rfl | hy
  · rw [← lnW_out h]
    have := lnW_len 3 (by decide) (lbT x ++ 32 :: outT) [] (by simp)
    simp only [List.length_append, List.length_cons, List.length_nil] at this
    have : outT.length = 3 := rfl
    omega
  · rw [← lnW_3 h (by omega)]
    have := lnW_len 3 (by decide) (lbT x) [y] (by intro n hn; rw [List.mem_singleton.1 hn]; omega)
    simp only [List.length_cons, List.length_nil] at this
    omega
theorem pprint_yes (c : Cv) (w : World) (h : CfgOk w c) (h0 : (chkV c).1 = 0) (hP : PowIs w) : Calls Tryz.prog 4 #[(.agg #[.int .i64 c.cats, .slice c.g.a c.g.l.length c.g.cap, .slice c.r.a c.r.l.length c.r.cap, .slice c.p.a c.p.l.length c.p.cap, .slice c.n.a c.n.l.length c.n.cap, .slice c.s.a c.s.l.length c.s.cap, .int .i64 c.gate, .int .i64 c.quota])] w (PrPost c w) := by
  obtain ⟨e1, he1⟩ : ∃ v, Hid (v = (chkV c).2) := ⟨_, Lib.hid rfl⟩
  have CHK : Hid (∀ W, CfgOk W c → Calls Tryz.prog 7 #[(.agg #[.int .i64 c.cats, .slice c.g.a c.g.l.length c.g.cap, .slice c.r.a c.r.l.length c.r.cap, .slice c.p.a c.p.l.length c.p.cap, .slice c.n.a c.n.l.length c.n.cap, .slice c.s.a c.s.l.length c.s.cap, .int .i64 c.gate, .int .i64 c.quota])] W fun e w' => e = .returned (.tuple #[.int .i64 0, .int .i64 e1]) ∧ Below W.heap.size W w') := fun W hc => by rw [he1.out, ← h0]; exact check_any c W hc
  have HF : Hid (FitP (pcOf c)) := fit_of h0
  have HP : Hid (∀ T w', T = prT (pcOf c) → Below w.heap.size w w' → PrPost c w (.returned (.tuple #[.string (ba T), .int .i64 0])) w') := fun T w' e hb => ⟨fun h => absurd h0 h, fun _ => by rw [e], hb⟩
  obtain ⟨gl1, gl2⟩ : c.g.l.length ≤ 4 ∧ c.r.l.length ≤ 8 := ⟨HF.out.gl, HF.out.rl⟩
  obtain ⟨gl3, gl4, gl5⟩ : c.p.l.length ≤ 8 ∧ c.n.l.length ≤ 4 ∧ c.s.l.length ≤ 8 := ⟨HF.out.pl, HF.out.nl, HF.out.sl⟩
  have e1 : c.g.l.length ≤ c.g.cap := h.g.le
  have e2 : c.r.l.length ≤ c.r.cap := h.r.le
  have e3 : c.p.l.length ≤ c.p.cap := h.p.le
  have e4 : c.n.l.length ≤ c.n.cap := h.n.le
  have e5 : c.s.l.length ≤ c.s.cap := h.s.le
  obtain ⟨fc1, fc2⟩ : 0 ≤ c.cats ∧ c.cats ≤ 8 := HF.out.cats
  have HPW := Lib.hid hP
  clear h0 hP
  (have h0 := CX.new h; go_enter Tryz.func4, Tryz.ntmps4; go_upto_region 1 with fail; generalize w.alloc (.cells #[.int .i64 c.cats, .slice c.g.a c.g.l.length c.g.cap, .slice c.r.a c.r.l.length c.r.cap, .slice c.p.a c.p.l.length c.p.cap, .slice c.n.a c.n.l.length c.n.cap, .slice c.s.a c.s.l.length c.s.cap, .int .i64 c.gate, .int .i64 c.quota] 28) = W1 at h0 ⊢; generalize w.heap.size = b0 at h0 ⊢; have H0 := Lib.hid h0; clear h0 h)
  (have q0 := H0.out.ob.cell 0 _ rfl; have q1 := H0.out.ob.cell 1 _ rfl; have q2 := H0.out.ob.cell 2 _ rfl; have q3 := H0.out.ob.cell 3 _ rfl; have q4 := H0.out.ob.cell 4 _ rfl; have q5 := H0.out.ob.cell 5 _ rfl; have q6 := H0.out.ob.cell 6 _ rfl; have q7 := H0.out.ob.cell 7 _ rfl)
  go_wp2_with fail
  refine (CHK.out _ H0.out.ok).mono ?_; rintro e W2 ⟨rfl, hb⟩
  have H2 := Lib.hid (H0.out.below hb)
  clear hb q0 q1 q2 q3 q4 q5 q6 q7
  go_upto_region 5 with fail
  have HG0 : Hid (PG W2 W2.heap.size [] (W2.alloc (.cells #[.pointer none, .slice none 0 0] 44))) := ⟨((Below.refl _ _).alloc (Nat.le_refl _) _), HPW.out.below H2.out.bel, PgIs.fresh W2⟩
  generalize W2.alloc (.cells #[.pointer none, .slice none 0 0] 44) = W3 at HG0 ⊢
  obtain ⟨b, hb⟩ : ∃ b, b = W2.heap.size := ⟨_, rfl⟩
  rw [← hb] at HG0 ⊢
  clear hb
  have HX := Lib.hid (H2.out.below HG0.out.bel)
  (have q0 := HX.out.ob.cell 0 _ rfl; have q1 := HX.out.ob.cell 1 _ rfl; have q2 := HX.out.ob.cell 2 _ rfl; have q3 := HX.out.ob.cell 3 _ rfl; have q4 := HX.out.ob.cell 4 _ rfl; have q5 := HX.out.ob.cell 5 _ rfl; have q6 := HX.out.ob.cell 6 _ rfl; have q7 := HX.out.ob.cell 7 _ rfl)
  go_wp2_with fail
  refine (pline1 0 (by decide) [] c.cats ⟨fc1, by omega⟩ (w := W2) (b := b) (t := []) (by simp) (by simp) _ _ (HG0.out.more ((Below.refl _ _).alloc (Nat.le_refl _) _)) (ObjAt.new _ _ _)).mono ?_; rintro e W4 ⟨rfl, h7, h8⟩
  obtain ⟨t1, ht1⟩ : ∃ t1, t1 = [] ++ lnW 0 [] [c.cats] := ⟨_, rfl⟩
  rw [← ht1] at h7
  have HG := Lib.hid h7
  have hlt1 : t1.length ≤ 60 := by
    have h1 := lnW_len 0 (by decide) [] [c.cats] (by intro n hn; rw [List.mem_singleton.1 hn]; omega)
    simp only [List.length_cons, List.length_nil] at h1
    rw [ht1, List.nil_append]; omega
  have HVt1 : Hid (t1 = textT [(0, [c.cats])]) := by rw [Hid, ht1, List.nil_append, lnW_0, textT_one]
  replace HX := Lib.hid (H2.out.below HG.out.bel)
  clear h7 h8 ht1 q0 q1 q2 q3 q4 q5 q6 q7
  (have q0 := HX.out.ob.cell 0 _ rfl; have q1 := HX.out.ob.cell 1 _ rfl; have q2 := HX.out.ob.cell 2 _ rfl; have q3 := HX.out.ob.cell 3 _ rfl; have q4 := HX.out.ob.cell 4 _ rfl; have q5 := HX.out.ob.cell 5 _ rfl; have q6 := HX.out.ob.cell 6 _ rfl; have q7 := HX.out.ob.cell 7 _ rfl)
  go_upto_region 7 with fail
  clear q0 q1 q2 q3 q4 q5 q6 q7
  go_loopw [35] (fun i wr => ∃ j : Nat, j ≤ c.g.l.length ∧ i = .int .i64 j ∧ PG W2 b (t1 ++ tg 1 c.g.l j) wr ∧ (t1 ++ tg 1 c.g.l j).length ≤ (t1).length + 60 * j) (fun i _ => c.g.l.length - (intOf i).toNat)
  case atStart => exact ⟨0, by omega, rfl, by rw [tg_0, List.append_nil]; exact HG.out, by rw [tg_0, List.append_nil]; omega⟩
  clear HG
  obtain ⟨j, hj, rfl, hg, htl⟩ := hrel
  have HG := Lib.hid hg
  have HX := Lib.hid (H2.out.below hg.bel)
  have HTL := Lib.hid htl
  clear hg htl
  by_cases hlt : j < c.g.l.length
  case pos =>
    obtain ⟨bx, ox, hax, hcx⟩ := H2.out.ok.g.cells (by omega) j hlt
    obtain ⟨lb, x, y, hrow⟩ := row3 hlt H2.out.ok.g.len
    have hfit := HF.out.g _ (List.getElem_mem hlt)
    rw [hrow] at hcx hfit
    simp only [List.getD_cons_zero, List.getD_cons_succ] at hfit
    obtain ⟨f1, f2, f3⟩ := hfit
    have c0 := hcx _ HG.out.bel 0 _ rfl; have c1 := hcx _ HG.out.bel 1 _ rfl; have c2 := hcx _ HG.out.bel 2 _ rfl
    simp only [Nat.add_zero] at c0
    have d1 : decide ((j : Int) < (c.g.l.length : Int)) = true := decide_eq_true (by omega)
    have d1' : decide (j < c.g.l.length) = true := decide_eq_true hlt
    have w1 : IntKind.i64.wrap ((j : Int) + 1) = (j : Int) + 1 := by rw [IntKind.wrap_i64]; omega
    have kz : (0 : Int) ≤ (j : Int) := by omega
    have kl : (j : Int) < (c.g.l.length : Int) := by omega
    have HLB := Lib.hid (lbS_lbT f1)
    have htl : (t1 ++ tg 1 c.g.l j).length ≤ 1000000 := by have := HTL.out; omega
    have HLINE := fun W g => Lib.hid (pline2 1 (by decide) (lbT lb) x y ⟨f2.1, by omega⟩ ⟨f3.1, by omega⟩ (w := W2) (b := b) (t := t1 ++ tg 1 c.g.l j) htl (by have := (lbT_ok f1).2.1; omega) W g)
    have HV : Hid ((t1 ++ tg 1 c.g.l j) ++ lnW 1 (lbT lb) [x, y] = t1 ++ tg 1 c.g.l (j + 1)) := by rw [Hid, lnW_1 f1, tg_succ 1 c.g.l j hlt, hrow, List.append_assoc]
    have HVL : Hid ((t1 ++ tg 1 c.g.l (j + 1)).length ≤ (t1).length + 60 * (j + 1)) := by
      rw [← HV.out, Hid, List.length_append]
      have h1 := lnW_len 1 (by decide) (lbT lb) [x, y] (by intro n hn; simp at hn; rcases hn with rfl | rfl <;> omega)
      have h2 := (lbT_ok f1).2.1
      have h3 := HTL.out
      simp only [List.length_cons, List.length_nil] at h1
      omega
    have HAX := Lib.hid hax
    rw [hax]
    clear hcx hrow htl f1 f2 f3 hax
    go_upto_region 9 with fail
    clear c0 c1 c2
    have R1 : Hid (ObjAt (wr.alloc (.cells #[.int .i64 lb, .int .i64 x, .int .i64 y] 47)) wr.heap.size 47 [.int .i64 lb, .int .i64 x, .int .i64 y]) := ObjAt.new wr _ _
    have HG1 : Hid (PG W2 b (t1 ++ tg 1 c.g.l j) (wr.alloc (.cells #[.int .i64 lb, .int .i64 x, .int .i64 y] 47))) := HG.out.more ((Below.refl _ _).alloc (Nat.le_refl _) _)
    generalize wr.alloc (.cells #[.int .i64 lb, .int .i64 x, .int .i64 y] 47) = W4 at R1 HG1 ⊢
    generalize wr.heap.size = rr at R1 ⊢
    have R1d : Hid (ObjAt W4.drew rr 47 [.int .i64 lb, .int .i64 x, .int .i64 y]) := R1.out.below (Below.refl _ _).drew
    have HG1d : Hid (PG W2 b (t1 ++ tg 1 c.g.l j) W4.drew) := HG1.out.more (Below.refl _ _).drew
    go_region_held3 (fun W' => W'.cell? ⟨rr, 0, none⟩ = some (.int .i64 lb) ∧ W'.cell? ⟨rr, 1, none⟩ = some (.int .i64 x) ∧ W'.cell? ⟨rr, 2, none⟩ = some (.int .i64 y)) (first | exact ⟨(R1d.out).cell 0 _ rfl, (R1d.out).cell 1 _ rfl, (R1d.out).cell 2 _ rfl⟩ | exact ⟨(R7.out).cell 0 _ rfl, (R7.out).cell 1 _ rfl, (R7.out).cell 2 _ rfl⟩ | exact ⟨(R6.out).cell 0 _ rfl, (R6.out).cell 1 _ rfl, (R6.out).cell 2 _ rfl⟩ | exact ⟨(R1d.out.below ((Below.refl _ _).alloc (Nat.le_refl _) _)).cell 0 _ rfl, (R1d.out.below ((Below.refl _ _).alloc (Nat.le_refl _) _)).cell 1 _ rfl, (R1d.out.below ((Below.refl _ _).alloc (Nat.le_refl _) _)).cell 2 _ rfl⟩ | exact ⟨(R6.out.below ((Below.refl _ _).alloc (Nat.le_refl _) _)).cell 0 _ rfl, (R6.out.below ((Below.refl _ _).alloc (Nat.le_refl _) _)).cell 1 _ rfl, (R6.out.below ((Below.refl _ _).alloc (Nat.le_refl _) _)).cell 2 _ rfl⟩) (first | (go_at_call 9; refine (letters_str lb _).mono ?_; rintro e W6 ⟨rfl, hb6⟩; rw [HLB.out]; have HG6 : Hid (PG W2 b (t1 ++ tg 1 c.g.l j) W6) := (by first | exact HG1d.out.more hb6 | exact (HG1d.out.more ((Below.refl _ _).alloc (Nat.le_refl _) _)).more hb6); have R6 : Hid (ObjAt W6 rr 47 [.int .i64 lb, .int .i64 x, .int .i64 y]) := (by first | exact R1d.out.below hb6 | exact (R1d.out.below ((Below.refl _ _).alloc (Nat.le_refl _) _)).below hb6); have HB6 := Lib.hid hb6; clear hb6) | (go_at_call 8; refine ((HLINE _ _).out (by first | exact HG6.out | exact HG6.out.more ((Below.refl _ _).alloc (Nat.le_refl _) _)) (by first | exact ObjAt.new _ _ _ | exact (ObjAt.new W4.drew 3 [.int .i64 x, .int .i64 y]).below HB6.out)).mono ?_; rintro e W7 ⟨rfl, h7, h8⟩; have HG7 := Lib.hid h7; have R7 : Hid (ObjAt W7 rr 47 [.int .i64 lb, .int .i64 x, .int .i64 y]) := (by first | exact h8.obj R6.out (HG6.out.ne R6.out (by decide)) (by decide) | exact h8.obj (R6.out.below ((Below.refl _ _).alloc (Nat.le_refl _) _)) (HG6.out.ne R6.out (by decide)) (by decide)); clear h7 h8))
    all_goals
      go_wp2_with fail
      go_roundw
      case rel => exact ⟨j + 1, by omega, by go_num, by rw [← HV.out]; exact HG7.out, HVL.out⟩
      case measure => simp [intOf]; omega
  obtain rfl : j = c.g.l.length := by omega
  have dq : decide ((c.g.l.length : Int) < (c.g.l.length : Int)) = false := decide_eq_false (by omega)
  have HTL2 := Lib.hid HTL.out
  obtain ⟨t2, ht2⟩ : ∃ tz, tz = t1 ++ tg 1 c.g.l c.g.l.length := ⟨_, rfl⟩
  rw [← ht2] at HG HTL2
  rw [tg_all] at ht2
  have HVt2 := Lib.hid ht2
  have hlt2 : t2.length ≤ 400 := by have := HTL2.out; omega
  clear HTL HTL2 ht2
  (have q0 := HX.out.ob.cell 0 _ rfl; have q1 := HX.out.ob.cell 1 _ rfl; have q2 := HX.out.ob.cell 2 _ rfl; have q3 := HX.out.ob.cell 3 _ rfl; have q4 := HX.out.ob.cell 4 _ rfl; have q5 := HX.out.ob.cell 5 _ rfl; have q6 := HX.out.ob.cell 6 _ rfl; have q7 := HX.out.ob.cell 7 _ rfl)
  go_upto_region 12 with fail
  clear q0 q1 q2 q3 q4 q5 q6 q7
  go_loopw [53] (fun i wr => ∃ j : Nat, j ≤ c.r.l.length ∧ i = .int .i64 j ∧ PG W2 b (t2 ++ tg 2 c.r.l j) wr ∧ (t2 ++ tg 2 c.r.l j).length ≤ (t2).length + 60 * j) (fun i _ => c.r.l.length - (intOf i).toNat)
  case atStart => exact ⟨0, by omega, rfl, by rw [tg_0, List.append_nil]; exact HG.out, by rw [tg_0, List.append_nil]; omega⟩
  clear HG
  obtain ⟨j, hj, rfl, hg, htl⟩ := hrel
  have HG := Lib.hid hg
  have HX := Lib.hid (H2.out.below hg.bel)
  have HTL := Lib.hid htl
  clear hg htl
  by_cases hlt : j < c.r.l.length
  case pos =>
    obtain ⟨bx, ox, hax, hcx⟩ := H2.out.ok.r.cells (by omega) j hlt
    obtain ⟨lb, x, y, hrow⟩ := row3 hlt H2.out.ok.r.len
    have hfit := HF.out.r _ (List.getElem_mem hlt)
    rw [hrow] at hcx hfit
    simp only [List.getD_cons_zero, List.getD_cons_succ] at hfit
    obtain ⟨f1, f2, f3⟩ := hfit
    have c0 := hcx _ HG.out.bel 0 _ rfl; have c1 := hcx _ HG.out.bel 1 _ rfl; have c2 := hcx _ HG.out.bel 2 _ rfl
    simp only [Nat.add_zero] at c0
    have d1 : decide ((j : Int) < (c.r.l.length : Int)) = true := decide_eq_true (by omega)
    have d1' : decide (j < c.r.l.length) = true := decide_eq_true hlt
    have w1 : IntKind.i64.wrap ((j : Int) + 1) = (j : Int) + 1 := by rw [IntKind.wrap_i64]; omega
    have kz : (0 : Int) ≤ (j : Int) := by omega
    have kl : (j : Int) < (c.r.l.length : Int) := by omega
    have HLB := Lib.hid (lbS_lbT f1)
    have htl : (t2 ++ tg 2 c.r.l j).length ≤ 1000000 := by have := HTL.out; omega
    have HLINE := fun W g => Lib.hid (pline2 2 (by decide) (lbT lb) x y ⟨f2.1, by omega⟩ ⟨f3.1, by omega⟩ (w := W2) (b := b) (t := t2 ++ tg 2 c.r.l j) htl (by have := (lbT_ok f1).2.1; omega) W g)
    have HV : Hid ((t2 ++ tg 2 c.r.l j) ++ lnW 2 (lbT lb) [x, y] = t2 ++ tg 2 c.r.l (j + 1)) := by rw [Hid, lnW_2 f1, tg_succ 2 c.r.l j hlt, hrow, List.append_assoc]
    have HVL : Hid ((t2 ++ tg 2 c.r.l (j + 1)).length ≤ (t2).length + 60 * (j + 1)) := by
      rw [← HV.out, Hid, List.length_append]
      have h1 := lnW_len 2 (by decide) (lbT lb) [x, y] (by intro n hn; simp at hn; rcases hn with rfl | rfl <;> omega)
      have h2 := (lbT_ok f1).2.1
      have h3 := HTL.out
      simp only [List.length_cons, List.length_nil] at h1
      omega
    have HAX := Lib.hid hax
    rw [hax]
    clear hcx hrow htl f1 f2 f3 hax
    go_upto_region 14 with fail
    clear c0 c1 c2
    have R1 : Hid (ObjAt (wr.alloc (.cells #[.int .i64 lb, .int .i64 x, .int .i64 y] 50)) wr.heap.size 50 [.int .i64 lb, .int .i64 x, .int .i64 y]) := ObjAt.new wr _ _
    have HG1 : Hid (PG W2 b (t2 ++ tg 2 c.r.l j) (wr.alloc (.cells #[.int .i64 lb, .int .i64 x, .int .i64 y] 50))) := HG.out.more ((Below.refl _ _).alloc (Nat.le_refl _) _)
    generalize wr.alloc (.cells #[.int .i64 lb, .int .i64 x, .int .i64 y] 50) = W4 at R1 HG1 ⊢
    generalize wr.heap.size = rr at R1 ⊢
    have R1d : Hid (ObjAt W4.drew rr 50 [.int .i64 lb, .int .i64 x, .int .i64 y]) := R1.out.below (Below.refl _ _).drew
    have HG1d : Hid (PG W2 b (t2 ++ tg 2 c.r.l j) W4.drew) := HG1.out.more (Below.refl _ _).drew
    go_region_held3 (fun W' => W'.cell? ⟨rr, 0, none⟩ = some (.int .i64 lb) ∧ W'.cell? ⟨rr, 1, none⟩ = some (.int .i64 x) ∧ W'.cell? ⟨rr, 2, none⟩ = some (.int .i64 y)) (first | exact ⟨(R1d.out).cell 0 _ rfl, (R1d.out).cell 1 _ rfl, (R1d.out).cell 2 _ rfl⟩ | exact ⟨(R7.out).cell 0 _ rfl, (R7.out).cell 1 _ rfl, (R7.out).cell 2 _ rfl⟩ | exact ⟨(R6.out).cell 0 _ rfl, (R6.out).cell 1 _ rfl, (R6.out).cell 2 _ rfl⟩ | exact ⟨(R1d.out.below ((Below.refl _ _).alloc (Nat.le_refl _) _)).cell 0 _ rfl, (R1d.out.below ((Below.refl _ _).alloc (Nat.le_refl _) _)).cell 1 _ rfl, (R1d.out.below ((Below.refl _ _).alloc (Nat.le_refl _) _)).cell 2 _ rfl⟩ | exact ⟨(R6.out.below ((Below.refl _ _).alloc (Nat.le_refl _) _)).cell 0 _ rfl, (R6.out.below ((Below.refl _ _).alloc (Nat.le_refl _) _)).cell 1 _ rfl, (R6.out.below ((Below.refl _ _).alloc (Nat.le_refl _) _)).cell 2 _ rfl⟩) (first | (go_at_call 9; refine (letters_str lb _).mono ?_; rintro e W6 ⟨rfl, hb6⟩; rw [HLB.out]; have HG6 : Hid (PG W2 b (t2 ++ tg 2 c.r.l j) W6) := (by first | exact HG1d.out.more hb6 | exact (HG1d.out.more ((Below.refl _ _).alloc (Nat.le_refl _) _)).more hb6); have R6 : Hid (ObjAt W6 rr 50 [.int .i64 lb, .int .i64 x, .int .i64 y]) := (by first | exact R1d.out.below hb6 | exact (R1d.out.below ((Below.refl _ _).alloc (Nat.le_refl _) _)).below hb6); have HB6 := Lib.hid hb6; clear hb6) | (go_at_call 8; refine ((HLINE _ _).out (by first | exact HG6.out | exact HG6.out.more ((Below.refl _ _).alloc (Nat.le_refl _) _)) (by first | exact ObjAt.new _ _ _ | exact (ObjAt.new W4.drew 3 [.int .i64 x, .int .i64 y]).below HB6.out)).mono ?_; rintro e W7 ⟨rfl, h7, h8⟩; have HG7 := Lib.hid h7; have R7 : Hid (ObjAt W7 rr 50 [.int .i64 lb, .int .i64 x, .int .i64 y]) := (by first | exact h8.obj R6.out (HG6.out.ne R6.out (by decide)) (by decide) | exact h8.obj (R6.out.below ((Below.refl _ _).alloc (Nat.le_refl _) _)) (HG6.out.ne R6.out (by decide)) (by decide)); clear h7 h8))
    all_goals
      go_wp2_with fail
      go_roundw
      case rel => exact ⟨j + 1, by omega, by go_num, by rw [← HV.out]; exact HG7.out, HVL.out⟩
      case measure => simp [intOf]; omega
  obtain rfl : j = c.r.l.length := by omega
  have dq : decide ((c.r.l.length : Int) < (c.r.l.length : Int)) = false := decide_eq_false (by omega)
  have HTL2 := Lib.hid HTL.out
  obtain ⟨t3, ht2⟩ : ∃ tz, tz = t2 ++ tg 2 c.r.l c.r.l.length := ⟨_, rfl⟩
  rw [← ht2] at HG HTL2
  rw [tg_all] at ht2
  have HVt3 := Lib.hid ht2
  have hlt3 : t3.length ≤ 900 := by have := HTL2.out; omega
  clear HTL HTL2 ht2
  (have q0 := HX.out.ob.cell 0 _ rfl; have q1 := HX.out.ob.cell 1 _ rfl; have q2 := HX.out.ob.cell 2 _ rfl; have q3 := HX.out.ob.cell 3 _ rfl; have q4 := HX.out.ob.cell 4 _ rfl; have q5 := HX.out.ob.cell 5 _ rfl; have q6 := HX.out.ob.cell 6 _ rfl; have q7 := HX.out.ob.cell 7 _ rfl)
  go_upto_region 17 with fail
  clear q0 q1 q2 q3 q4 q5 q6 q7
  go_loopw [71] (fun i wr => ∃ j : Nat, j ≤ c.p.l.length ∧ i = .int .i64 j ∧ PG W2 b (t3 ++ tg 3 c.p.l j) wr ∧ (t3 ++ tg 3 c.p.l j).length ≤ (t3).length + 60 * j) (fun i _ => c.p.l.length - (intOf i).toNat)
  case atStart => exact ⟨0, by omega, rfl, by rw [tg_0, List.append_nil]; exact HG.out, by rw [tg_0, List.append_nil]; omega⟩
  clear HG
  obtain ⟨j, hj, rfl, hg, htl⟩ := hrel
  have HG := Lib.hid hg
  have HX := Lib.hid (H2.out.below hg.bel)
  have HTL := Lib.hid htl
  clear hg htl
  by_cases hlt : j < c.p.l.length
  case pos =>
    obtain ⟨bx, ox, hax, hcx⟩ := H2.out.ok.p.cells (by omega) j hlt
    obtain ⟨x, y, hrow⟩ := row2 hlt H2.out.ok.p.len
    have hfit := HF.out.p _ (List.getElem_mem hlt)
    rw [hrow] at hcx hfit
    simp only [List.getD_cons_zero, List.getD_cons_succ] at hfit
    obtain ⟨f2, f3⟩ := hfit
    have c0 := hcx _ HG.out.bel 0 _ rfl; have c1 := hcx _ HG.out.bel 1 _ rfl
    simp only [Nat.add_zero] at c0
    have d1 : decide ((j : Int) < (c.p.l.length : Int)) = true := decide_eq_true (by omega)
    have d1' : decide (j < c.p.l.length) = true := decide_eq_true hlt
    have w1 : IntKind.i64.wrap ((j : Int) + 1) = (j : Int) + 1 := by rw [IntKind.wrap_i64]; omega
    have kz : (0 : Int) ≤ (j : Int) := by omega
    have kl : (j : Int) < (c.p.l.length : Int) := by omega
    have htl : (t3 ++ tg 3 c.p.l j).length ≤ 1000000 := by have := HTL.out; omega
    have HLINE := fun W => Lib.hid (fun hg => pport_any x y f2 (f3.imp id fun h => ⟨h.1, by omega⟩) W2 b (t3 ++ tg 3 c.p.l j) W hg htl)
    have HV : Hid ((t3 ++ tg 3 c.p.l j) ++ (lineT (3, [x, y]) ++ [10]) = t3 ++ tg 3 c.p.l (j + 1)) := by rw [Hid, tg_succ 3 c.p.l j hlt, hrow, List.append_assoc]
    have HVL : Hid ((t3 ++ tg 3 c.p.l (j + 1)).length ≤ (t3).length + 60 * (j + 1)) := by
      rw [← HV.out, Hid, List.length_append]
      have h1 := port_len f2 f3
      have h3 := HTL.out
      omega
    have HAX := Lib.hid hax
    rw [hax]
    clear hcx hrow htl f2 f3 hax
    go_upto_region 19 with fail
    clear c0 c1
    have R1 : Hid (ObjAt (wr.alloc (.cells #[.int .i64 x, .int .i64 y] 52)) wr.heap.size 52 [.int .i64 x, .int .i64 y]) := ObjAt.new wr _ _
    have HG1 : Hid (PG W2 b (t3 ++ tg 3 c.p.l j) (wr.alloc (.cells #[.int .i64 x, .int .i64 y] 52))) := HG.out.more ((Below.refl _ _).alloc (Nat.le_refl _) _)
    generalize wr.alloc (.cells #[.int .i64 x, .int .i64 y] 52) = W4 at R1 HG1 ⊢
    generalize wr.heap.size = rr at R1 ⊢
    have c0 := R1.out.cell 0 _ rfl
    have c1 := R1.out.cell 1 _ rfl
    go_wp2_with (go_at_call 10; refine ((HLINE _).out HG1.out).mono ?_; rintro e W7 ⟨rfl, h7, h8⟩; have HG7 := Lib.hid h7; clear h7 h8 c0 c1)
    go_roundw
    case rel => exact ⟨j + 1, by omega, by go_num, by rw [← HV.out]; exact HG7.out, HVL.out⟩
    case measure => simp [intOf]; omega
  obtain rfl : j = c.p.l.length := by omega
  have dq : decide ((c.p.l.length : Int) < (c.p.l.length : Int)) = false := decide_eq_false (by omega)
  have HTL2 := Lib.hid HTL.out
  obtain ⟨t4, ht2⟩ : ∃ tz, tz = t3 ++ tg 3 c.p.l c.p.l.length := ⟨_, rfl⟩
  rw [← ht2] at HG HTL2
  rw [tg_all] at ht2
  have HVt4 := Lib.hid ht2
  have hlt4 : t4.length ≤ 1400 := by have := HTL2.out; omega
  clear HTL HTL2 ht2
  (have q0 := HX.out.ob.cell 0 _ rfl; have q1 := HX.out.ob.cell 1 _ rfl; have q2 := HX.out.ob.cell 2 _ rfl; have q3 := HX.out.ob.cell 3 _ rfl; have q4 := HX.out.ob.cell 4 _ rfl; have q5 := HX.out.ob.cell 5 _ rfl; have q6 := HX.out.ob.cell 6 _ rfl; have q7 := HX.out.ob.cell 7 _ rfl)
  go_upto_region 22 with fail
  clear q0 q1 q2 q3 q4 q5 q6 q7
  go_loopw [82] (fun i wr => ∃ j : Nat, j ≤ c.n.l.length ∧ i = .int .i64 j ∧ PG W2 b (t4 ++ tg 4 c.n.l j) wr ∧ (t4 ++ tg 4 c.n.l j).length ≤ (t4).length + 60 * j) (fun i _ => c.n.l.length - (intOf i).toNat)
  case atStart => exact ⟨0, by omega, rfl, by rw [tg_0, List.append_nil]; exact HG.out, by rw [tg_0, List.append_nil]; omega⟩
  clear HG
  obtain ⟨j, hj, rfl, hg, htl⟩ := hrel
  have HG := Lib.hid hg
  have HX := Lib.hid (H2.out.below hg.bel)
  have HTL := Lib.hid htl
  clear hg htl
  by_cases hlt : j < c.n.l.length
  case pos =>
    obtain ⟨bx, ox, hax, hcx⟩ := H2.out.ok.n.cells (by omega) j hlt
    obtain ⟨x, y, hrow⟩ := row2 hlt H2.out.ok.n.len
    have hfit := HF.out.n _ (List.getElem_mem hlt)
    rw [hrow] at hcx hfit
    simp only [List.getD_cons_zero, List.getD_cons_succ] at hfit
    obtain ⟨f2, f3⟩ := hfit
    have c0 := hcx _ HG.out.bel 0 _ rfl; have c1 := hcx _ HG.out.bel 1 _ rfl
    simp only [Nat.add_zero] at c0
    have d1 : decide ((j : Int) < (c.n.l.length : Int)) = true := decide_eq_true (by omega)
    have d1' : decide (j < c.n.l.length) = true := decide_eq_true hlt
    have w1 : IntKind.i64.wrap ((j : Int) + 1) = (j : Int) + 1 := by rw [IntKind.wrap_i64]; omega
    have kz : (0 : Int) ≤ (j : Int) := by omega
    have kl : (j : Int) < (c.n.l.length : Int) := by omega
    have htl : (t4 ++ tg 4 c.n.l j).length ≤ 1000000 := by have := HTL.out; omega
    have HLINE := fun W g => Lib.hid (pline2 4 (by decide) [] x y ⟨f2.1, by omega⟩ ⟨f3.1, by omega⟩ (w := W2) (b := b) (t := t4 ++ tg 4 c.n.l j) htl (by simp) W g)
    have HV : Hid ((t4 ++ tg 4 c.n.l j) ++ lnW 4 [] [x, y] = t4 ++ tg 4 c.n.l (j + 1)) := by rw [Hid, lnW_k, tg_succ 4 c.n.l j hlt, hrow, List.append_assoc]
    have HVL : Hid ((t4 ++ tg 4 c.n.l (j + 1)).length ≤ (t4).length + 60 * (j + 1)) := by
      rw [← HV.out, Hid, List.length_append]
      have h1 := lnW_len 4 (by decide) [] [x, y] (by intro n hn; simp at hn; rcases hn with rfl | rfl <;> omega)
      have h3 := HTL.out
      simp only [List.length_cons, List.length_nil] at h1
      omega
    have HAX := Lib.hid hax
    rw [hax]
    clear hcx hrow htl f2 f3 hax
    go_upto_region 24 with fail
    clear c0 c1
    have R1 : Hid (ObjAt (wr.alloc (.cells #[.int .i64 x, .int .i64 y] 55)) wr.heap.size 55 [.int .i64 x, .int .i64 y]) := ObjAt.new wr _ _
    have HG1 : Hid (PG W2 b (t4 ++ tg 4 c.n.l j) (wr.alloc (.cells #[.int .i64 x, .int .i64 y] 55))) := HG.out.more ((Below.refl _ _).alloc (Nat.le_refl _) _)
    generalize wr.alloc (.cells #[.int .i64 x, .int .i64 y] 55) = W4 at R1 HG1 ⊢
    generalize wr.heap.size = rr at R1 ⊢
    have c0 := R1.out.cell 0 _ rfl
    have c1 := R1.out.cell 1 _ rfl
    go_wp2_with (go_at_call 8; refine ((HLINE _ _).out (HG1.out.more ((Below.refl _ _).alloc (Nat.le_refl _) _)) (ObjAt.new _ _ _)).mono ?_; rintro e W7 ⟨rfl, h7, h8⟩; have HG7 := Lib.hid h7; clear h7 h8 c0 c1)
    go_roundw
    case rel => exact ⟨j + 1, by omega, by go_num, by rw [← HV.out]; exact HG7.out, HVL.out⟩
    case measure => simp [intOf]; omega
  obtain rfl : j = c.n.l.length := by omega
  have dq : decide ((c.n.l.length : Int) < (c.n.l.length : Int)) = false := decide_eq_false (by omega)
  have HTL2 := Lib.hid HTL.out
  obtain ⟨t5, ht2⟩ : ∃ tz, tz = t4 ++ tg 4 c.n.l c.n.l.length := ⟨_, rfl⟩
  rw [← ht2] at HG HTL2
  rw [tg_all] at ht2
  have HVt5 := Lib.hid ht2
  have hlt5 : t5.length ≤ 1700 := by have := HTL2.out; omega
  clear HTL HTL2 ht2
  (have q0 := HX.out.ob.cell 0 _ rfl; have q1 := HX.out.ob.cell 1 _ rfl; have q2 := HX.out.ob.cell 2 _ rfl; have q3 := HX.out.ob.cell 3 _ rfl; have q4 := HX.out.ob.cell 4 _ rfl; have q5 := HX.out.ob.cell 5 _ rfl; have q6 := HX.out.ob.cell 6 _ rfl; have q7 := HX.out.ob.cell 7 _ rfl)
  go_upto_region 27 with fail
  clear q0 q1 q2 q3 q4 q5 q6 q7
  go_loopw [97] (fun i wr => ∃ j : Nat, j ≤ c.s.l.length ∧ i = .int .i64 j ∧ PG W2 b (t5 ++ tg 5 c.s.l j) wr ∧ (t5 ++ tg 5 c.s.l j).length ≤ (t5).length + 60 * j) (fun i _ => c.s.l.length - (intOf i).toNat)
  case atStart => exact ⟨0, by omega, rfl, by rw [tg_0, List.append_nil]; exact HG.out, by rw [tg_0, List.append_nil]; omega⟩
  clear HG
  obtain ⟨j, hj, rfl, hg, htl⟩ := hrel
  have HG := Lib.hid hg
  have HX := Lib.hid (H2.out.below hg.bel)
  have HTL := Lib.hid htl
  clear hg htl
  by_cases hlt : j < c.s.l.length
  case pos =>
    obtain ⟨bx, ox, hax, hcx⟩ := H2.out.ok.s.cells (by omega) j hlt
    obtain ⟨x, y, hrow⟩ := row2 hlt H2.out.ok.s.len
    have hfit := HF.out.s _ (List.getElem_mem hlt)
    rw [hrow] at hcx hfit
    simp only [List.getD_cons_zero, List.getD_cons_succ] at hfit
    obtain ⟨f2, f3⟩ := hfit
    have c0 := hcx _ HG.out.bel 0 _ rfl; have c1 := hcx _ HG.out.bel 1 _ rfl
    simp only [Nat.add_zero] at c0
    have d1 : decide ((j : Int) < (c.s.l.length : Int)) = true := decide_eq_true (by omega)
    have d1' : decide (j < c.s.l.length) = true := decide_eq_true hlt
    have w1 : IntKind.i64.wrap ((j : Int) + 1) = (j : Int) + 1 := by rw [IntKind.wrap_i64]; omega
    have kz : (0 : Int) ≤ (j : Int) := by omega
    have kl : (j : Int) < (c.s.l.length : Int) := by omega
    have htl : (t5 ++ tg 5 c.s.l j).length ≤ 1000000 := by have := HTL.out; omega
    have HLINE := fun W g => Lib.hid (pline2 5 (by decide) [] x y ⟨f2.1, by omega⟩ ⟨f3.1, by omega⟩ (w := W2) (b := b) (t := t5 ++ tg 5 c.s.l j) htl (by simp) W g)
    have HV : Hid ((t5 ++ tg 5 c.s.l j) ++ lnW 5 [] [x, y] = t5 ++ tg 5 c.s.l (j + 1)) := by rw [Hid, lnW_k, tg_succ 5 c.s.l j hlt, hrow, List.append_assoc]
    have HVL : Hid ((t5 ++ tg 5 c.s.l (j + 1)).length ≤ (t5).length + 60 * (j + 1)) := by
      rw [← HV.out, Hid, List.length_append]
      have h1 := lnW_len 5 (by decide) [] [x, y] (by intro n hn; simp at hn; rcases hn with rfl | rfl <;> omega)
      have h3 := HTL.out
      simp only [List.length_cons, List.length_nil] at h1
      omega
    have HAX := Lib.hid hax
    rw [hax]
    clear hcx hrow htl f2 f3 hax
    go_upto_region 29 with fail
    clear c0 c1
    have R1 : Hid (ObjAt (wr.alloc (.cells #[.int .i64 x, .int .i64 y] 57)) wr.heap.size 57 [.int .i64 x, .int .i64 y]) := ObjAt.new wr _ _
    have HG1 : Hid (PG W2 b (t5 ++ tg 5 c.s.l j) (wr.alloc (.cells #[.int .i64 x, .int .i64 y] 57))) := HG.out.more ((Below.refl _ _).alloc (Nat.le_refl _) _)
    generalize wr.alloc (.cells #[.int .i64 x, .int .i64 y] 57) = W4 at R1 HG1 ⊢
    generalize wr.heap.size = rr at R1 ⊢
    have c0 := R1.out.cell 0 _ rfl
    have c1 := R1.out.cell 1 _ rfl
    go_wp2_with (go_at_call 8; refine ((HLINE _ _).out (HG1.out.more ((Below.refl _ _).alloc (Nat.le_refl _) _)) (ObjAt.new _ _ _)).mono ?_; rintro e W7 ⟨rfl, h7, h8⟩; have HG7 := Lib.hid h7; clear h7 h8 c0 c1)
    go_roundw
    case rel => exact ⟨j + 1, by omega, by go_num, by rw [← HV.out]; exact HG7.out, HVL.out⟩
    case measure => simp [intOf]; omega
  obtain rfl : j = c.s.l.length := by omega
  have dq : decide ((c.s.l.length : Int) < (c.s.l.length : Int)) = false := decide_eq_false (by omega)
  have HTL2 := Lib.hid HTL.out
  obtain ⟨t6, ht2⟩ : ∃ tz, tz = t5 ++ tg 5 c.s.l c.s.l.length := ⟨_, rfl⟩
  rw [← ht2] at HG HTL2
  rw [tg_all] at ht2
  have HVt6 := Lib.hid ht2
  have hlt6 : t6.length ≤ 2200 := by have := HTL2.out; omega
  clear HTL HTL2 ht2
  (have q0 := HX.out.ob.cell 0 _ rfl; have q1 := HX.out.ob.cell 1 _ rfl; have q2 := HX.out.ob.cell 2 _ rfl; have q3 := HX.out.ob.cell 3 _ rfl; have q4 := HX.out.ob.cell 4 _ rfl; have q5 := HX.out.ob.cell 5 _ rfl; have q6 := HX.out.ob.cell 6 _ rfl; have q7 := HX.out.ob.cell 7 _ rfl)
  go_upto_region 31 with fail
  clear q0 q1 q2 q3 q4 q5 q6 q7
  have HVA : Hid (t6 ++ textT (gateR (pcOf c)) = prT (pcOf c)) := by
    rw [Hid, HVt6.out, HVt5.out, HVt4.out, HVt3.out, HVt2.out, HVt1.out]
    unfold prT rowsP
    rw [show ((0, [(pcOf c).cats]) :: (tag 1 (pcOf c).g ++ (tag 2 (pcOf c).r ++ (tag 3 (pcOf c).p ++ (tag 4 (pcOf c).n ++ (tag 5 (pcOf c).s ++ gateR (pcOf c))))))) = [(0, [(pcOf c).cats])] ++ (tag 1 (pcOf c).g ++ (tag 2 (pcOf c).r ++ (tag 3 (pcOf c).p ++ (tag 4 (pcOf c).n ++ (tag 5 (pcOf c).s ++ gateR (pcOf c)))))) from rfl]
    simp only [textT_app, List.append_assoc]
    rfl
  have HNE : Hid (t6 ≠ []) := fun e => by
    have h1 := HVt6.out; have h2 := HVt5.out; have h3 := HVt4.out; have h4 := HVt3.out; have h5 := HVt2.out; have h6 := HVt1.out
    rw [h2, h3, h4, h5, h6, textT_one] at h1
    rw [e] at h1
    have := congrArg List.length h1
    simp at this
  (have q0 := HX.out.ob.cell 0 _ rfl; have q1 := HX.out.ob.cell 1 _ rfl; have q2 := HX.out.ob.cell 2 _ rfl; have q3 := HX.out.ob.cell 3 _ rfl; have q4 := HX.out.ob.cell 4 _ rfl; have q5 := HX.out.ob.cell 5 _ rfl; have q6 := HX.out.ob.cell 6 _ rfl; have q7 := HX.out.ob.cell 7 _ rfl)
  by_cases hgt : c.gate = -1
  · have n1 : (c.gate != -1) = false := by simp [hgt]
    have HGR : Hid (t6 = prT (pcOf c)) := by
      have := HVA.out
      rw [show gateR (pcOf c) = [] from by unfold gateR; rw [if_pos (show (pcOf c).gate = -1 from hgt)]] at this
      rw [Hid, ← this]; simp [textT]
    clear hgt
    go_wp2_with (go_at_call 11; refine (pgstring _ _ _ _ HG.out.pg HNE.out).mono ?_; rintro e W8 ⟨rfl, _, h3, _⟩; have HB8 := Lib.hid (HG.out.bel.trans h3); clear h3)
    go_ret2
    exact HP.out t6 _ HGR.out (H2.out.bel.trans (HB8.out.mono H2.out.bel.size))
  · have n1 : (c.gate != -1) = true := by rw [bne_iff_ne]; exact hgt
    have hfg := HF.out.gate.resolve_left (fun h => hgt h.1)
    obtain ⟨⟨f1, f2⟩, f3, f4⟩ : (0 ≤ c.gate ∧ c.gate < 4) ∧ 0 ≤ c.quota ∧ c.quota ≤ 64 := hfg
    have HLINE := fun W g => Lib.hid (pline2 6 (by decide) [] c.gate c.quota ⟨f1, by omega⟩ ⟨f3, by omega⟩ (w := W2) (b := b) (t := t6) (by omega) (by simp) W g)
    have HGR : Hid (t6 ++ lnW 6 [] [c.gate, c.quota] = prT (pcOf c)) := by
      have := HVA.out
      rw [show gateR (pcOf c) = [(6, [c.gate, c.quota])] from by unfold gateR; rw [if_neg (show ¬ (pcOf c).gate = -1 from hgt)]; rfl, textT_one] at this
      rw [Hid, ← this, show lnW 6 [] [c.gate, c.quota] = lineT (6, [c.gate, c.quota]) ++ [10] from lnW_k 2 _ _]
    clear hgt f1 f2 f3 f4
    go_wp2_with fail
    refine ((HLINE _ _).out (HG.out.more ((Below.refl _ _).alloc (Nat.le_refl _) _)) (ObjAt.new _ _ _)).mono ?_; rintro e W7 ⟨rfl, h7, h8⟩
    have HG7 := Lib.hid h7
    clear h7 h8 q0 q1 q2 q3 q4 q5 q6 q7
    go_wp2_with (go_at_call 11; refine (pgstring _ _ _ _ HG7.out.pg (by simp [HNE.out])).mono ?_; rintro e W8 ⟨rfl, _, h3, _⟩; have HB8 := Lib.hid (HG7.out.bel.trans h3); clear h3)
    go_ret2
    exact HP.out _ _ HGR.out (H2.out.bel.trans (HB8.out.mono H2.out.bel.size))
theorem pprint_any (c : Cv) (w : World) (h : CfgOk w c) (hP : PowIs w) : Calls Tryz.prog 4 #[(.agg #[.int .i64 c.cats, .slice c.g.a c.g.l.length c.g.cap, .slice c.r.a c.r.l.length c.r.cap, .slice c.p.a c.p.l.length c.p.cap, .slice c.n.a c.n.l.length c.n.cap, .slice c.s.a c.s.l.length c.s.cap, .int .i64 c.gate, .int .i64 c.quota])] w (PrPost c w) := by
  by_cases h0 : (chkV c).1 = 0
  · exact pprint_yes c w h h0 hP
  · exact pprint_no c w h h0
end Go.Proofs.YtoalpdjpljapbaaGreatDoor
/- Package hermitageref03 (for disk): New, Who, Give. Lines of XPartsV, XPartsRef and XPartsRef3. -/
namespace Go.Proofs.YtoalpdjpljapbaaGreatDoor
set_option linter.unusedVariables false
set_option linter.unusedSimpArgs false
set_option linter.unnecessarySimpa false
open Go.RowKit Go.Sort
set_option maxHeartbeats 400000
set_option maxRecDepth 100000

/-- Whose a place is; nobody: -1. -/
theorem info_int : (Tryz.prog.info? 3).map (fun i => (i.zero, i.size, i.bytes)) = some (some (.int .i64 0), 1, 8) := by kernel_rfl
def ownV (R : List Rn) (i : Nat) : Int := match R.find? (hits i) with
  | some r => r.2.2
  | none => -1
theorem hits_nat (i : Nat) (r : Rn) : hits i r = (decide (r.1 ≤ i) && decide (i < r.1 + r.2.1)) := by
  unfold hits
  congr 1
  · exact decide_eq_decide.2 (by omega)
  · exact decide_eq_decide.2 (by omega)
theorem ownV_who (R : List Rn) (i : Nat) : whoV R i = if 0 ≤ ownV R i then (ownV R i, true) else (0, false) := by
  unfold whoV ownV
  cases R.find? (hits i) with
  | none => simp
  | some r => simp
theorem ownV_off {R : List Rn} {i : Nat} (h : ∀ r ∈ R, ¬ (r.1 ≤ i ∧ i < r.1 + r.2.1)) : ownV R i = -1 := by
  have : R.find? (hits i) = none := by
    rw [List.find?_eq_none]
    intro r hr
    have := h r hr
    rw [hits_nat]
    simpa using fun h1 => by omega
  rw [ownV, this]
theorem ownV_app {R S : List Rn} {i : Nat} (h : ∀ r ∈ R, ¬ (r.1 ≤ i ∧ i < r.1 + r.2.1)) : ownV (R ++ S) i = ownV S i := by
  have : R.find? (hits i) = none := by
    rw [List.find?_eq_none]
    intro r hr
    have := h r hr
    rw [hits_nat]
    simpa using fun h1 => by omega
  unfold ownV
  rw [List.find?_append, this, Option.none_or]
theorem ownV_app0 {R S : List Rn} {i : Nat} (h : ∀ r ∈ S, ¬ (r.1 ≤ i ∧ i < r.1 + r.2.1)) : ownV (R ++ S) i = ownV R i := by
  have : S.find? (hits i) = none := by
    rw [List.find?_eq_none]
    intro r hr
    have := h r hr
    rw [hits_nat]
    simpa using fun h1 => by omega
  unfold ownV
  rw [List.find?_append, this, Option.or_none]
theorem ownV_cons (r : Rn) (R : List Rn) (i : Nat) : ownV (r :: R) i = if r.1 ≤ i ∧ i < r.1 + r.2.1 then (r.2.2 : Int) else ownV R i := by
  unfold ownV
  rw [List.find?_cons, hits_nat]
  by_cases h : r.1 ≤ i ∧ i < r.1 + r.2.1
  · rw [if_pos h]; simp [h.1, h.2]
  · rw [if_neg h]
    have : (decide (r.1 ≤ i) && decide (i < r.1 + r.2.1)) = false := by simpa using fun h1 => by omega
    rw [this]
/-- What Give leaves. -/
theorem ownV_add {n : Nat} {R : List Rn} (hok : Okr n R) {f m who : Nat} (hm : 1 ≤ m) (hh : (meetV f m R).2 = false) (i : Nat) : ownV (addR R f m who) i = if f ≤ i ∧ i < f + m then (who : Int) else ownV R i := by
  obtain ⟨h1, h2⟩ := meet_parts f m R hok.sorted (fun r hr => (hok.each r hr).1) hh
  have hR : ownV R i = ownV (R.take (meetV f m R).1 ++ R.drop (meetV f m R).1) i := by rw [List.take_append_drop]
  rw [hR]
  unfold addR
  by_cases hi : f ≤ i
  · rw [ownV_app (fun r hr => by have := h1 r hr; omega), ownV_cons, ownV_app (fun r hr => by have := h1 r hr; omega)]
  · rw [if_neg (by omega), ownV_app0 (S := (f, m, who) :: _) (fun r hr => by
      rcases List.mem_cons.1 hr with rfl | hr
      · dsimp only; omega
      · have := h2 r hr; omega), ownV_app0 (fun r hr => by have := h2 r hr; omega)]
theorem meet_hit {n : Nat} {R : List Rn} (hok : Okr n R) {f m : Nat} (hm : 1 ≤ m) : (meetV f m R).2 = true ↔ ∃ i, f ≤ i ∧ i < f + m ∧ 0 ≤ ownV R i := by
  constructor
  · intro h
    have key : ∀ S : List Rn, (meetV f m S).2 = true → (∀ r ∈ S, 1 ≤ r.2.1) → ∃ i, f ≤ i ∧ i < f + m ∧ 0 ≤ ownV S i := by
      intro S
      induction S with
      | nil => intro h; simp [meetV] at h
      | cons r S ih =>
        intro h hn
        unfold meetV at h
        by_cases e : r.1 + r.2.1 ≤ f
        · rw [if_pos e] at h
          obtain ⟨i, a, b, c⟩ := ih h (fun s hs => hn s (by simp [hs]))
          exact ⟨i, a, b, by rw [ownV_cons, if_neg (by omega)]; exact c⟩
        · rw [if_neg e] at h
          simp only [decide_eq_true_eq] at h
          have := hn r (by simp)
          refine ⟨max f r.1, by omega, by omega, ?_⟩
          rw [ownV_cons, if_pos ⟨by omega, by omega⟩]
          omega
    exact key R h (fun r hr => (hok.each r hr).1)
  · rintro ⟨i, h1, h2, h3⟩
    cases hh : (meetV f m R).2
    · obtain ⟨a, b⟩ := meet_parts f m R hok.sorted (fun r hr => (hok.each r hr).1) hh
      have : ownV R i = -1 := ownV_off (fun r hr => by
        rw [← List.take_append_drop (meetV f m R).1 R, List.mem_append] at hr
        rcases hr with hr | hr
        · have := a r hr; omega
        · have := b r hr; omega)
      omega
    · rfl
def fC (f : Nat → Int) (n : Nat) : List Value := (List.range n).map (fun i => Value.int .i64 (f i))
theorem fC_len (f : Nat → Int) (n : Nat) : (fC f n).length = n := by simp [fC]
theorem fC_get (f : Nat → Int) {n i : Nat} (h : i < n) : (fC f n)[i]? = some (.int .i64 (f i)) := by simp [fC, h]
theorem fC_succ (f : Nat → Int) (n : Nat) : fC f (n + 1) = fC f n ++ [.int .i64 (f n)] := by simp [fC, List.range_succ]
theorem fC_congr {f g : Nat → Int} {n : Nat} (h : ∀ i, i < n → f i = g i) : fC f n = fC g n := by
  refine List.map_congr_left (fun i hi => ?_)
  rw [h i (by simpa using hi)]
theorem fC_set (f : Nat → Int) (n j : Nat) (v : Int) : (fC f n).set j (.int .i64 v) = fC (fun i => if i = j then v else f i) n := by
  apply List.ext_getElem?
  intro i
  rw [List.getElem?_set]
  by_cases hi : i < n
  · rw [fC_get (fun i => if i = j then v else f i) hi]
    by_cases e : j = i
    · subst e; simp [fC_len, hi]
    · rw [if_neg e, fC_get _ hi, if_neg (Ne.symm e)]
  · have h1 : (fC f n)[i]? = none := by simp [fC]; omega
    have h2 : (fC (fun i => if i = j then v else f i) n)[i]? = none := by simp [fC]; omega
    rw [h2]
    by_cases e : j = i
    · subst e; simp [fC_len, hi]
    · rw [if_neg e, h1]
theorem fC_one (f : Nat → Int) (n : Nat) : ∀ u ∈ fC f n, u.oneCell' = true := by
  intro u hu
  obtain ⟨i, _, rfl⟩ := List.mem_map.1 hu
  rfl
/-- The reference's table: whose each place is. -/
structure RT (w : World) (B rr : Nat) (a : Option Addr) (c : Nat) (f : Nat → Int) (n : Nat) : Prop where
  obj : ObjAt w rr 126 [.slice a n c]
  own : Own w B 3 1 a n c (fC f n)
namespace RT
variable {w w' : World} {B rr c n : Nat} {a : Option Addr} {f : Nat → Int}
theorem below (h : RT w B rr a c f n) (hb : Below w.heap.size w w') : RT w' B rr a c f n := ⟨h.obj.below hb, h.own.below hb⟩
theorem mono {B' : Nat} (h : RT w B rr a c f n) (hB : B' ≤ B) : RT w B' rr a c f n := ⟨h.obj, h.own.mono hB⟩
theorem mod {S : List Nat} (h : RT w B rr a c f n) (hm : Mod S w w') (h1 : rr ∉ S) (h2 : ∀ k ∈ blk a, k ∉ S) : RT w' B rr a c f n := ⟨h.obj.mod hm h1, h.own.mod hm h2⟩
theorem at_ (h : RT w B rr a c f n) (i : Nat) (hi : i < n) : ∃ g, a = some ⟨g, 0, none⟩ ∧ w.cell? ⟨g, i, none⟩ = some (.int .i64 (f i)) := by
  obtain ⟨g, rfl, _, _⟩ := h.own.at_ (by omega)
  exact ⟨g, rfl, h.own.cell i _ (fC_get f hi)⟩
end RT
set_option maxHeartbeats 1600000 in
theorem rnew_yes (N : Nat) (hN : N ≤ 64) (w : World) : Calls Tryz.prog 63 #[.int .i64 N] w fun e w' => ∃ a c, e = .returned (.tuple #[.pointer (some ⟨w.heap.size, 0, none⟩), .int .i64 0]) ∧ RT w' w.heap.size w.heap.size a c (fun _ => -1) N ∧ Below w.heap.size w w' := by
  obtain ⟨i0, hi0, hz0, hz1, hz2⟩ := info_parts info_int
  have e1 : decide ((N : Int) < 0) = false := by simp
  have e2 : decide ((64 : Int) < (N : Int)) = false := by simp; omega
  have HR0 : Hid (RT (w.alloc (.cells #[.slice none 0 0] 126)) w.heap.size w.heap.size none 0 (fun _ => -1) 0) := ⟨new_block w _ _ rfl, Own.nil _ _ _ _⟩
  go_enter Tryz.func63, Tryz.ntmps63
  go_wp2_with fail
  go_loopw [5] (fun i wr => ∃ (k : Nat) (a : Option Addr) (c : Nat), k ≤ N ∧ i = .int .i64 k ∧ RT wr w.heap.size w.heap.size a c (fun _ => -1) k ∧ Below w.heap.size w wr) (fun i _ => N - (intOf i).toNat)
  case atStart => exact ⟨0, none, 0, Nat.zero_le _, rfl, HR0.out, (Below.refl _ _).alloc (Nat.le_refl _) _⟩
  case round =>
    clear HR0
    obtain ⟨k, a, c, hk, rfl, hr, hb⟩ := hrel
    have HR := Lib.hid hr; have HB := Lib.hid hb
    have c0 := hr.obj.cell 0 _ rfl
    have hbz := hb.size
    clear hr hb
    by_cases g : k < N
    · have d : decide ((k : Int) < (N : Int)) = true := by simp; omega
      go_wp2_with (at_builtin; (refine wpList_own rfl (.tmp 23) (.tmp 24) 71 rfl w.heap.size 3 i0 _ 1 8 Tryz.underlying71 hi0 hz0 hz1 hz2 rfl (by omega) a k c (fC (fun _ => -1) k) rfl ((HR.out.below ((Below.refl _ _).alloc (Nat.le_refl _) _)).own) wr.heap.size [.int .i64 (-1)] rfl (new_block _ _ _ rfl) rfl (by simp [Value.oneCell']) (by simp only [maxLen]; omega) (by omega) (by simp; omega) ?_); intro g' c' w1 hown1 hmod1 _; have HM1 : Hid (Mod (blk a) wr w1) := ((Mod.ofBelow ((Below.refl wr.heap.size wr).alloc (Nat.le_refl _) _)).trans hmod1); have HO1 := Lib.hid hown1; have ho1 := HR.out.obj.mod HM1.out (HR.out.own.ne HR.out.obj (by decide)); have q0 := ho1.cell 0 _ rfl; have qf := ho1.free 0; have HOB := Lib.hid ho1; clear hown1 hmod1 ho1)
      have h1 : w.heap.size ∉ blk (some ⟨g', 0, none⟩) := HO1.out.ne HOB.out (by decide)
      have hb2 : Below w.heap.size w (w1.setCell ⟨w.heap.size, 0, none⟩ (.slice (some ⟨g', 0, none⟩) (k + 1) c')) := HB.out.trans ((HM1.out.below (B := w.heap.size) (fun j hj => (HR.out.own.ge j hj).1) hbz).setCell (p := ⟨w.heap.size, 0, none⟩) (Nat.le_refl _) _)
      have hr2 : RT (w1.setCell ⟨w.heap.size, 0, none⟩ (.slice (some ⟨g', 0, none⟩) (k + 1) c')) w.heap.size w.heap.size (some ⟨g', 0, none⟩) c' (fun _ => -1) (k + 1) := ⟨HOB.out.set 0 _, by rw [fC_succ]; exact HO1.out.upd (Upd.setCell w1 ⟨w.heap.size, 0, none⟩ _) h1⟩
      go_roundw
      case rel => exact ⟨k + 1, _, c', by omega, by go_num, hr2, hb2⟩
      case measure => simp [intOf]; omega
    · obtain rfl : k = N := by omega
      have d : decide ((k : Int) < (k : Int)) = false := by simp
      go_wp2_with fail
      go_ret2
      exact ⟨a, c, rfl, HR.out, HB.out⟩
theorem rnew_no (n : Int) (hn : n < 0 ∨ 64 < n) (w : World) : Calls Tryz.prog 63 #[.int .i64 n] w fun e w' => e = .returned (.tuple #[.pointer none, .int .i64 1]) ∧ w = w' := by
  by_cases h0 : n < 0
  · have e1 : decide (n < 0) = true := by simpa using h0
    clear hn
    go_enter Tryz.func63, Tryz.ntmps63
    go_wp2
    go_ret2
    exact ⟨rfl, rfl⟩
  · have e1 : decide (n < 0) = false := by simpa using h0
    have e2 : decide (64 < n) = true := by simp; omega
    clear hn
    go_enter Tryz.func63, Tryz.ntmps63
    go_wp2
    go_ret2
    exact ⟨rfl, rfl⟩
def RPost (B rr N : Nat) (a : Option Addr) (r : Value) (f : Nat → Int) (w : World) (e : Ending) (w' : World) : Prop :=
  ∃ a' c', e = .returned r ∧ RT w' B rr a' c' f N ∧ Mod (rr :: blk a) w w' ∧ ∀ k ∈ blk a', k ∈ blk a ∨ w.heap.size ≤ k
set_option maxHeartbeats 3200000 in
theorem rgive_any (B rr c N : Nat) (a : Option Addr) (R : List Rn) (x y z : Int) (w : World) (hok : Okr N R) (h : RT w B rr a c (ownV R) N) (hB : B ≤ w.heap.size) : Calls Tryz.prog 64 #[.pointer (some ⟨rr, 0, none⟩), .int .i64 x, .int .i64 y, .int .i64 z] w (RPost B rr N a (.int .i64 (giveV N R x y z).1) (ownV (giveV N R x y z).2) w) := by
  obtain ⟨i0, hi0, hz0, hz1, hz2⟩ := info_parts info_int
  have c0 := h.obj.cell 0 _ rfl
  have H := Lib.hid h
  have hn64 := hok.n64
  have hrr := h.obj.lt
  have HE : Hid (∀ r, RPost B rr N a r (ownV R) w (.returned r) w) := fun r => ⟨a, c, rfl, H.out, Mod.refl _ _, fun k hk => .inl hk⟩
  by_cases hw : wellG N x y z = true
  · obtain ⟨w1, w2, w3, w4, w5, w6⟩ := (wellG_iff _ _ _ _).1 hw
    obtain ⟨F, rfl⟩ := Int.eq_ofNat_of_zero_le w1
    obtain ⟨M, rfl⟩ := Int.eq_ofNat_of_zero_le (show 0 ≤ y by omega)
    obtain ⟨V, rfl⟩ := Int.eq_ofNat_of_zero_le w5
    have HG : Hid (giveV N R F M V = if (meetV F M R).2 then (5, R) else (0, addR R F M V)) := by rw [Hid, giveV, if_pos hw]; rfl
    have hM1 : 1 ≤ M := by omega
    have hFM : F + M ≤ N := by omega
    have e1 : decide ((F : Int) < 0) = false := by simp
    have e2 : decide ((M : Int) < 1) = false := by simp; omega
    have e3 : decide ((N : Int) < (F : Int)) = false := by simp; omega
    have e3' : decide (N < F) = false := by simp; omega
    have e4 : decide ((N : Int) - F < (M : Int)) = false := by simp; omega
    have e5 : decide ((V : Int) < 0) = false := by simp
    have e6 : decide ((64 : Int) ≤ (V : Int)) = false := by simp; omega
    have hwr : IntKind.i64.wrap ((N : Int) - F) = (N : Int) - F := IntWalk.i64_in _ (by omega)
    clear w1 w2 w3 w4 w5 w6 hw h
    cases hh : (meetV F M R).2
    · have HGV : Hid (giveV N R F M V = (0, addR R F M V)) := by rw [Hid, HG.out, hh]; rfl
      have HNO : Hid (∀ j, j < M → ownV R (F + j) < 0) := fun j hj => by
        by_cases h1 : 0 ≤ ownV R (F + j)
        · have := (meet_hit (f := F) hok hM1).2 ⟨F + j, by omega, by omega, h1⟩
          rw [hh] at this
          cases this
        · omega
      have HAD := Lib.hid (fun i => ownV_add (who := V) hok hM1 hh i)
      have HL : Hid ((fC (ownV R) N).length = N * 1) := by rw [Hid, fC_len, Nat.mul_one]
      have HEM := Lib.hid (own_empty w 3 1)
      clear hh HG HE
      go_enter Tryz.func64, Tryz.ntmps64
      go_wp2_with fail
      go_loopw [9] (fun i wr => ∃ k : Nat, k ≤ M ∧ i = .int .i64 k ∧ w = wr) (fun i _ => M - (intOf i).toNat)
      case atStart => exact ⟨0, Nat.zero_le _, rfl, rfl⟩
      case round =>
        obtain ⟨k, hk, rfl, rfl⟩ := hrel
        by_cases g : k < M
        · have d : decide ((k : Int) < (M : Int)) = true := by simp; omega
          obtain ⟨g', rfl, k0⟩ := H.out.at_ (F + k) (by omega)
          have hb0 : (0 : Int) ≤ (F : Int) + k := by omega
          have hb1 : (F : Int) + k < (N : Int) := by omega
          have hws : IntKind.i64.wrap ((F : Int) + k) = (F : Int) + k := IntWalk.i64_in _ (by omega)
          have hlo := HNO.out k g
          have d2 : decide (0 ≤ ownV R (F + k)) = false := by simp; omega
          generalize ownV R (F + k) = u at k0 d2
          clear hlo
          go_wp2_with fail
          go_roundw
          case rel => exact ⟨k + 1, by omega, by go_num, by first | rfl | trivial⟩
          case measure => simp [intOf]; omega
        · obtain rfl : k = M := by omega
          have d : decide ((k : Int) < (k : Int)) = false := by simp
          obtain ⟨g', rfl, _, hg'⟩ := H.out.own.at_ (by omega)
          have HN2 : Hid (∀ W, Below w.heap.size w W → ∀ j u, (fC (ownV R) N)[j]? = some u → W.cell? ((⟨g', 0, none⟩ : Addr).add j) = some u) := fun W hW j u hu => by
            have e : (⟨g', 0, none⟩ : Addr).add j = ⟨g', j, none⟩ := by unfold Addr.add; split <;> simp_all
            rw [e]; exact (hW.cell (p := ⟨g', j, none⟩) hg').trans (H.out.own.cell j u hu)
          go_wp2_with (at_builtin; (refine wpList_append_own_at _ rfl (.tmp 61) (.tmp 65) _ rfl w.heap.size 3 i0 _ 1 8 Tryz.underlying71 hi0 hz0 hz1 hz2 rfl (by omega) (.slice (some ⟨w.heap.size, 0, none⟩) 0 0) 0 [] rfl HEM.out ⟨g', 0, none⟩ N c (fC (ownV R) N) rfl HL.out (HN2.out _ ((Below.refl _ _).alloc (Nat.le_refl _) _)) (fC_one _ _) (by simp only [maxLen]; omega) (by omega) (by simp) ?_); intro v1 w1 hown1 hg1 hz hat1)
          obtain ⟨a4, c4, he4, hown4, hb4⟩ := clone_post (n := N) hown1 hg1
          cases he4
          have HO4 := Lib.hid hown4; have HB4 := Lib.hid hb4
          obtain ⟨g4, rfl, hg4, _⟩ := hown4.at_ (by omega)
          have hc4 := hown4.le
          clear hown1 hg1 hz hat1 hown4 hb4
          go_loopw [11] (fun i wr => ∃ j : Nat, j ≤ k ∧ i = .int .i64 j ∧ Own wr w.heap.size 3 1 (some ⟨g4, 0, none⟩) N c4 (fC (fun i => if F ≤ i ∧ i < F + j then (V : Int) else ownV R i) N) ∧ Below w.heap.size w wr) (fun i _ => k - (intOf i).toNat)
          case atStart => exact ⟨0, Nat.zero_le _, rfl, by rw [fC_congr (g := ownV R) (fun i _ => if_neg (by omega))]; exact HO4.out, HB4.out⟩
          case round =>
            clear HO4 HB4
            obtain ⟨j, hj, rfl, ho, hb⟩ := hrel
            have HO := Lib.hid ho; have HB := Lib.hid hb
            clear ho hb
            by_cases gj : j < k
            · have dj : decide ((j : Int) < (k : Int)) = true := by simp; omega
              have k0 := HO.out.cell (F + j) _ (fC_get _ (by omega))
              have kf := HO.out.free (F + j)
              have hb0 : (0 : Int) ≤ (F : Int) + j := by omega
              have hb1 : (F : Int) + j < (N : Int) := by omega
              have hws : IntKind.i64.wrap ((F : Int) + j) = (F : Int) + j := IntWalk.i64_in _ (by omega)
              have hs := Own.put HO.out (j := F + j) (by omega) (.int .i64 (V : Int))
              rw [fC_set, fC_congr (g := fun i => if F ≤ i ∧ i < F + (j + 1) then (V : Int) else ownV R i) (fun i hi => by
                by_cases h1 : i = F + j
                · rw [if_pos h1, if_pos (by omega)]
                · rw [if_neg h1]
                  by_cases h2 : F ≤ i ∧ i < F + j
                  · rw [if_pos h2, if_pos (by omega)]
                  · rw [if_neg h2, if_neg (by omega)])] at hs
              have hb2 := HB.out.setCell (p := ⟨g4, F + j, none⟩) hg4 (.int .i64 (V : Int))
              have HS := Lib.hid hs; have HB2 := Lib.hid hb2
              clear hs hb2
              generalize (if F ≤ F + j ∧ F + j < F + j then (V : Int) else ownV R (F + j)) = u at k0
              go_wp2_with fail
              go_roundw
              case rel => exact ⟨j + 1, by omega, by go_num, HS.out, HB2.out⟩
              case measure => simp [intOf]; omega
            · obtain rfl : j = k := by omega
              have dj : decide ((j : Int) < (j : Int)) = false := by simp
              have q0 := (HB.out.cell (p := ⟨rr, 0, none⟩) hrr).trans c0
              have ho := H.out.obj.below HB.out
              have qf := ho.free 0
              have hrn : rr ∉ blk (some ⟨g4, 0, none⟩) := fun hk => by have := (HO.out.ge rr hk).1; omega
              have HX : Hid (RPost B rr N (some ⟨g', 0, none⟩) (.int .i64 0) (ownV (addR R F j V)) w (.returned (.int .i64 0)) (wr.setCell ⟨rr, 0, none⟩ (.slice (some ⟨g4, 0, none⟩) N c4))) := by
                refine ⟨some ⟨g4, 0, none⟩, c4, rfl, ⟨ho.set 0 _, ?_⟩, (Mod.ofBelow HB.out).setCell ⟨rr, 0, none⟩ _ (.inl (by simp)), fun q hq => .inr ?_⟩
                · rw [fC_congr (g := fun i => if F ≤ i ∧ i < F + j then (V : Int) else ownV R i) (fun i _ => HAD.out i)]
                  exact (HO.out.mono hB).upd (Upd.setCell wr ⟨rr, 0, none⟩ _) hrn
                · exact (HO.out.ge q hq).1
              clear ho
              go_wp2_with fail
              go_ret
              rw [HGV.out]
              exact HX.out
    · have HGV : Hid (giveV N R F M V = (5, R)) := by rw [Hid, HG.out, hh]; rfl
      have HH := Lib.hid ((meet_hit hok hM1).1 hh)
      clear hh HG
      go_enter Tryz.func64, Tryz.ntmps64
      go_wp2_with fail
      go_loopw [9] (fun i wr => ∃ k : Nat, k ≤ M ∧ i = .int .i64 k ∧ w = wr ∧ ∀ j, j < k → ownV R (F + j) < 0) (fun i _ => M - (intOf i).toNat)
      case atStart => exact ⟨0, Nat.zero_le _, rfl, rfl, fun j hj => by omega⟩
      case round =>
        obtain ⟨k, hk, rfl, rfl, hlo⟩ := hrel
        have HLO := Lib.hid hlo
        clear hlo
        by_cases g : k < M
        · have d : decide ((k : Int) < (M : Int)) = true := by simp; omega
          obtain ⟨g', rfl, k0⟩ := H.out.at_ (F + k) (by omega)
          have hb0 : (0 : Int) ≤ (F : Int) + k := by omega
          have hb1 : (F : Int) + k < (N : Int) := by omega
          have hws : IntKind.i64.wrap ((F : Int) + k) = (F : Int) + k := IntWalk.i64_in _ (by omega)
          by_cases g2 : 0 ≤ ownV R (F + k)
          · have d2 : decide (0 ≤ ownV R (F + k)) = true := by simpa using g2
            generalize ownV R (F + k) = u at k0 d2
            clear g2 HLO HH
            go_wp2_with fail
            go_ret
            rw [HGV.out]
            exact HE.out _
          · have d2 : decide (0 ≤ ownV R (F + k)) = false := by simpa using g2
            have HL2 : Hid (∀ j, j < k + 1 → ownV R (F + j) < 0) := fun j hj => by
              rcases Nat.lt_or_ge j k with h | h
              · exact HLO.out j h
              · rw [show j = k by omega]; omega
            generalize ownV R (F + k) = u at k0 d2
            clear g2 HLO
            go_wp2_with fail
            go_roundw
            case rel => exact ⟨k + 1, by omega, by go_num, by first | rfl | trivial, HL2.out⟩
            case measure => simp [intOf]; omega
        · obtain rfl : k = M := by omega
          exfalso
          obtain ⟨i, h1, h2, h3⟩ := HH.out
          have := HLO.out (i - F) (by omega)
          rw [show F + (i - F) = i by omega] at this
          omega
  · have HG : Hid (giveV N R x y z = (1, R)) := by rw [Hid, giveV, if_neg hw]
    have hw' : ¬ (0 ≤ x ∧ 1 ≤ y ∧ x ≤ N ∧ y ≤ N - x ∧ 0 ≤ z ∧ z < 64) := fun hc => hw ((wellG_iff N x y z).2 hc)
    clear h hw
    by_cases g1 : x < 0
    · have e1 : decide (x < 0) = true := by simpa using g1
      clear hw'
      ((go_enter Tryz.func64, Tryz.ntmps64); (go_wp2_with fail); go_ret; (rw [HG.out]); exact HE.out _)
    · have e1 : decide (x < 0) = false := by simpa using g1
      by_cases g2 : y < 1
      · have e2 : decide (y < 1) = true := by simpa using g2
        clear hw'
        ((go_enter Tryz.func64, Tryz.ntmps64); (go_wp2_with fail); go_ret; (rw [HG.out]); exact HE.out _)
      · have e2 : decide (y < 1) = false := by simpa using g2
        by_cases g3 : (N : Int) < x
        · have e3 : decide ((N : Int) < x) = true := by simpa using g3
          clear hw'
          ((go_enter Tryz.func64, Tryz.ntmps64); (go_wp2_with fail); go_ret; (rw [HG.out]); exact HE.out _)
        · have e3 : decide ((N : Int) < x) = false := by simpa using g3
          have hwr : IntKind.i64.wrap ((N : Int) - x) = (N : Int) - x := IntWalk.i64_in _ (by omega)
          by_cases g4 : (N : Int) - x < y
          · have e4 : decide ((N : Int) - x < y) = true := by simpa using g4
            clear hw'
            ((go_enter Tryz.func64, Tryz.ntmps64); (go_wp2_with fail); go_ret; (rw [HG.out]); exact HE.out _)
          · have e4 : decide ((N : Int) - x < y) = false := by simpa using g4
            by_cases g5 : z < 0
            · have e5 : decide (z < 0) = true := by simpa using g5
              clear hw'
              ((go_enter Tryz.func64, Tryz.ntmps64); (go_wp2_with fail); go_ret; (rw [HG.out]); exact HE.out _)
            · have e5 : decide (z < 0) = false := by simpa using g5
              have e6 : decide ((64 : Int) ≤ z) = true := by simp; omega
              clear hw'
              ((go_enter Tryz.func64, Tryz.ntmps64); (go_wp2_with fail); go_ret; (rw [HG.out]); exact HE.out _)
end Go.Proofs.YtoalpdjpljapbaaGreatDoor
