/- strings.Builder: what its methods leave (after the shelf's worked contracts). -/
import Derived.Test.YtoklonmiejdgmaaGreatDoorGScriptPrints0
import Derived.Shelf.Strings.BuilderK
import Derived.Test.YtoklonmiejdgmaaGreatDoorRows
import Derived.RangeFuncNested
import Derived.RangeFuncBound
import Derived.RangeFuncCalls
import Derived.RangeFuncLeaves
import Derived.Shelf.Abstract
import Derived.Shelf.RegionOpen
import Derived.WalkKit
import Derived.OwnWalkIn
import Derived.TacticsInMore
import Derived.LoopNIn
import Derived.LoopIn
import Derived.Sort.QuietIn
import Derived.Scope
import Derived.ControlIn
namespace Go.Proofs.YtoklonmiejdgmaaGreatDoor
set_option linter.unusedVariables false
set_option linter.unusedSimpArgs false
set_option linter.unnecessarySimpa false
open Go.RowKit Go.Sort
set_option maxHeartbeats 2000000
set_option maxRecDepth 100000
set_option linter.unusedVariables false
theorem bld_size : (Tryz.prog.info? 78).map (·.size) = some 2:=by kernel_rfl
theorem bld_und : Tryz.prog.underlying 75 = some (.pointer 78):=by kernel_rfl
theorem uptr_und : Tryz.prog.underlying 169 = some .unsafePointer:=by kernel_rfl
theorem copy_used (b : Nat) (w : World) (h0 : w.cell? ⟨b,0,none⟩ = some (.pointer (some ⟨b,0,none⟩))) :
  Calls Tryz.prog 64 #[.pointer (some ⟨b,0,none⟩)] w fun e w'=>e = .returned (.tuple #[]) ∧ w' = w:=by
 obtain ⟨j,hj,_⟩:=Option.map_eq_some_iff.1 bld_size
 go_enter Tryz.func64,Tryz.ntmps64
 go_wp2
 rw [Lib.run_neq_ptr_same w _ bld_und hj]
 go_wp2
 go_end0
 exact ⟨rfl,rfl⟩
theorem copy_fresh (b : Nat) (w : World) (h0 : w.cell? ⟨b,0,none⟩ = some (.pointer none)) (hsh : w.shape? b = some (78,2)) (hfz : w.frozen? ⟨b,0,none⟩ = false) :
  Calls Tryz.prog 64 #[.pointer (some ⟨b,0,none⟩)] w fun e w'=>e = .returned (.tuple #[]) ∧ w' = w.setCell ⟨b,0,none⟩ (.pointer (some ⟨b,0,none⟩)):=by
 obtain ⟨j,hj,hjs⟩:=Option.map_eq_some_iff.1 bld_size
 have hlies : liesAt Tryz.prog Tryz.prog.depth 78 (2 / Tryz.prog.cellsOf 78) 0 78 1 = true:=by kernel_rfl
 go_enter Tryz.func64,Tryz.ntmps64
 go_wp2
 rw [Lib.run_to_unsafe w ⟨b,0,none⟩ bld_und uptr_und hj (by rw [hjs];decide) hsh (Nat.zero_lt_succ 1)]
 simp only [Result.andThen]
 rw [Oper.upon_value]
 go_wp2
 rw [run_callFunc_extern Tryz.func109 (by kernel_rfl) (by kernel_rfl) (by kernel_rfl) (e:=Extern.AbiNoEscape.same) (by kernel_rfl)]
 rw [Lib.run_noEscape]
 simp only [Result.andThen]
 rw [Oper.upon_value]
 go_wp2
 rw [Lib.run_from_unsafe w ⟨b,0,none⟩ uptr_und bld_und hj hsh hlies]
 simp only [Result.andThen]
 rw [Oper.upon_value]
 go_wp2
 go_end0
 exact ⟨rfl,rfl⟩
/-- A builder in block b, of the call's own, that holds the bytes l. -/
def BIs (w : World) (B b : Nat) (l : List UInt8) : Prop:=Lib.IsBuilderF 78 5 B b (Lib.byteCells l) w
theorem copy_any (B b : Nat) (bs : List Value) (w : World) (h : Lib.IsBuilderF 78 5 B b bs w) :
  Calls Tryz.prog 64 #[.pointer (some ⟨b,0,none⟩)] w fun e w'=>e = .returned (.tuple #[]) ∧ (Lib.BuilderAtF 78 5 B b (.pointer (some ⟨b,0,none⟩)) bs w' ∧ Below B w w' ∧ Lib.OthersKept 5 (some b) w w'):=by
 rcases h with h | h
 ·refine (copy_fresh b w h.cell0 h.shape h.frozen0).mono ?_
  rintro e w' ⟨rfl,rfl⟩
  exact ⟨rfl,h.used _,(Below.refl B w).setCell (p:=⟨b,0,none⟩) h.1 _,(Lib.OthersKept.refl _ _ w).setCell ⟨b,0,none⟩ rfl _⟩
 ·refine (copy_used b w h.cell0).mono ?_
  rintro e w' ⟨rfl,rfl⟩
  exact ⟨rfl,h,Below.refl B _,Lib.OthersKept.refl _ _ _⟩
theorem write_any (B b : Nat) (bs : List Value) (s : ByteArray) (w : World) (h : Lib.IsBuilderF 78 5 B b bs w) (hlen : bs.length + s.size ≤ 140737488355328) (hBw : B ≤ w.heap.size) :
  Calls Tryz.prog 37 #[.pointer (some ⟨b,0,none⟩),.string s] w fun e w'=>e = .returned (.tuple #[.int .i64 s.size,.nilIface]) ∧ (Lib.BuilderAtF 78 5 B b (.pointer (some ⟨b,0,none⟩)) (bs ++ Lib.strCells s) w' ∧ Below B w w' ∧ Lib.OthersKept 5 (some b) w w'):=by
 obtain ⟨i0,hi,hz0,hz1,hz2⟩:=info_parts info_byte
 go_enter Tryz.func37,Tryz.ntmps37
 go_wp2_with (go_at_call 64;refine (copy_any B b bs _ h).mono ?_)
 rintro e w1 ⟨rfl,h1,hb1,hk1⟩
 obtain ⟨hB,v,hbk,hown,hne⟩:=h1
 have c0 : w1.cell? ⟨b,0,none⟩ = some (.pointer (some ⟨b,0,none⟩)):=by rw [Lib.cell_of_heap hbk];rfl
 have c1 : w1.cell? ⟨b,1,none⟩ = some v:=by rw [Lib.cell_of_heap hbk];rfl
 go_wp2_with (at_builtin;refine Lib.wpList_append_own_stringF _ rfl _ _ 76 9 rfl B 5 i0 Tryz.underlying76 Tryz.underlying9 hi hz0 hz1 hz2 _ _ _ rfl hown s rfl ?c3 ?c4 ?c5 ?_)
 case c3=>unfold maxLen;omega
 case c4=>omega
 case c5=>have:=hb1.size;omega
 intro v' w2 hown' hgrow _
 have hlt : b < w1.heap.size:=by
  rcases Nat.lt_or_ge b w1.heap.size with h' | h'
  ·exact h'
  ·simp [Array.getElem?_eq_none h'] at hbk
 have hb2 : w2.heap[b]? = some (.cells #[.pointer (some ⟨b,0,none⟩),v] 78 (0,0)):=by
  rw [hgrow.block b hlt (fun e=>hne e.symm)]
  exact hbk
 have d0 : w2.cell? ⟨b,0,none⟩ = some (.pointer (some ⟨b,0,none⟩)):=by rw [Lib.cell_of_heap hb2];rfl
 have d1 : w2.cell? ⟨b,1,none⟩ = some v:=by rw [Lib.cell_of_heap hb2];rfl
 have f1 : w2.frozen? ⟨b,1,none⟩ = false:=Lib.frozen_of_heap hb2 1
 obtain ⟨ao,n',cap,rfl⟩ : ∃ ao n' cap,v' = .slice ao n' cap:=by
  rcases hown'.2 with ⟨hv,_⟩ | ⟨g,cap,cur,fz,hv,_⟩
  ·exact ⟨_,_,_,hv⟩
  ·exact ⟨_,_,_,hv⟩
 go_wp2
 go_ret2
 refine ⟨rfl,?_,?_,(hk1.grown hgrow (Lib.ownsRowF_kind hown)).setCell ⟨b,1,none⟩ rfl _⟩
 ·exact Lib.BuilderAtF.put (T:=78) (e:=5) hB hb2 (bs':=bs ++ Lib.strCells s) (by simpa [Lib.strCells_length] using hown') (by decide)
 ·exact (hb1.grown hgrow (by have:=hb1.size;omega) (fun k hk=>(hown.lt k hk).1)).setCell (p:=⟨b,1,none⟩) hB _
theorem byteCells_app (l m : List UInt8) : Lib.byteCells l ++ Lib.strCells (ba m) = Lib.byteCells (l ++ m):=by
 simp [Lib.byteCells,Lib.strCells,ba]
/-- WriteString, in lists of bytes. -/
theorem bwrite (B b : Nat) (l m : List UInt8) (w : World) (h : BIs w B b l) (hlen : l.length + m.length ≤ 140737488355328) (hBw : B ≤ w.heap.size) :
  Calls Tryz.prog 37 #[.pointer (some ⟨b,0,none⟩),.string (ba m)] w fun e w'=>e = .returned (.tuple #[.int .i64 (ba m).size,.nilIface]) ∧ BIs w' B b (l ++ m) ∧ Below B w w' ∧ Lib.OthersKept 5 (some b) w w':=by
 refine (write_any B b (Lib.byteCells l) (ba m) w h (by rw [Lib.byteCells_length,ba_size];exact hlen) hBw).mono ?_
 rintro e w' ⟨h1,h2,h3,h4⟩
 exact ⟨h1,.inr (by rw [byteCells_app] at h2;exact h2),h3,h4⟩
theorem bstring (B b : Nat) (l : List UInt8) (w : World) (h : BIs w B b l) (hBw : B ≤ w.heap.size) :
  Calls Tryz.prog 32 #[.pointer (some ⟨b,0,none⟩)] w fun e w'=>e = .returned (.string (ba l)) ∧ BIs w' B b l ∧ Below B w w' ∧ Lib.OthersKept 5 (some b) w w':=
 Tryz.Builder_String_any_k B b l w h hBw
theorem bAt_below {B b : Nat} {p : Value} {bs : List Value} {w w' : World} (h : Lib.BuilderAtF 78 5 B b p bs w) (hb : Below w.heap.size w w') : Lib.BuilderAtF 78 5 B b p bs w':=by
 obtain ⟨h1,v,h2,⟨h3,h4⟩,h5⟩:=h
 refine ⟨h1,v,keepB hb (Array.getElem?_eq_some_iff.1 h2).1 h2,⟨h3,?_⟩,h5⟩
 rcases h4 with h4 | ⟨g,c,cur,fz,hv,hg,hc,hr⟩
 ·exact .inl h4
 ·exact .inr ⟨g,c,cur,fz,hv,hg,keepB hb (Array.getElem?_eq_some_iff.1 hc).1 hc,hr⟩
theorem BIs.below {w w' : World} {B b : Nat} {l : List UInt8} (h : BIs w B b l) (hb : Below w.heap.size w w') : BIs w' B b l:=h.elim (fun x=>.inl (bAt_below x hb)) (fun x=>.inr (bAt_below x hb))
theorem BIs.fresh (w : World) : BIs (w.alloc (.cells #[.pointer none,.slice none 0 0] 78)) w.heap.size w.heap.size []:=
 .inl ⟨Nat.le_refl _,.slice none 0 0,new_block w _ _ rfl,⟨by simp [Lib.byteCells],.inl ⟨rfl,rfl⟩⟩,by simp [Value.ownBlock]⟩
end Go.Proofs.YtoklonmiejdgmaaGreatDoor
/- The page of script: a struct with a strings.Builder alone; what the builder's methods leave (after the shelf's worked contracts). -/
namespace Go.Proofs.YtoklonmiejdgmaaGreatDoor.Sp
set_option linter.unusedVariables false
set_option linter.unusedSimpArgs false
set_option linter.unnecessarySimpa false
open Go.RowKit Go.Sort
set_option maxHeartbeats 2000000
set_option maxRecDepth 100000
set_option linter.unusedVariables false
theorem pcopy_fresh (b : Nat) (w : World) (h0 : w.cell? ⟨b,0,none⟩ = some (.pointer none)) (hsh : w.shape? b = some (90,2)) (hfz : w.frozen? ⟨b,0,none⟩ = false) :
  Calls Tryz.prog 64 #[.pointer (some ⟨b,0,none⟩)] w fun e w'=>e = .returned (.tuple #[]) ∧ w' = w.setCell ⟨b,0,none⟩ (.pointer (some ⟨b,0,none⟩)):=by
 obtain ⟨j,hj,hjs⟩:=Option.map_eq_some_iff.1 bld_size
 have hlies : liesAt Tryz.prog Tryz.prog.depth 90 (2 / Tryz.prog.cellsOf 90) 0 78 1 = true:=by kernel_rfl
 go_enter Tryz.func64,Tryz.ntmps64
 go_wp2
 rw [Lib.run_to_unsafe w ⟨b,0,none⟩ bld_und uptr_und hj (by rw [hjs];decide) hsh (Nat.zero_lt_succ 1)]
 simp only [Result.andThen]
 rw [Oper.upon_value]
 go_wp2
 rw [run_callFunc_extern Tryz.func109 (by kernel_rfl) (by kernel_rfl) (by kernel_rfl) (e:=Extern.AbiNoEscape.same) (by kernel_rfl)]
 rw [Lib.run_noEscape]
 simp only [Result.andThen]
 rw [Oper.upon_value]
 go_wp2
 rw [Lib.run_from_unsafe w ⟨b,0,none⟩ uptr_und bld_und hj hsh hlies]
 simp only [Result.andThen]
 rw [Oper.upon_value]
 go_wp2
 go_end0
 exact ⟨rfl,rfl⟩
/-- A page in block b, of the call's own, that holds the bytes l. -/
def PgIs (w : World) (B b : Nat) (l : List UInt8) : Prop:=Lib.IsBuilderF 90 5 B b (Lib.byteCells l) w
theorem pcopy_any (B b : Nat) (bs : List Value) (w : World) (h : Lib.IsBuilderF 90 5 B b bs w) :
  Calls Tryz.prog 64 #[.pointer (some ⟨b,0,none⟩)] w fun e w'=>e = .returned (.tuple #[]) ∧ (Lib.BuilderAtF 90 5 B b (.pointer (some ⟨b,0,none⟩)) bs w' ∧ Below B w w' ∧ Lib.OthersKept 5 (some b) w w'):=by
 rcases h with h | h
 ·refine (pcopy_fresh b w h.cell0 h.shape h.frozen0).mono ?_
  rintro e w' ⟨rfl,rfl⟩
  exact ⟨rfl,h.used _,(Below.refl B w).setCell (p:=⟨b,0,none⟩) h.1 _,(Lib.OthersKept.refl _ _ w).setCell ⟨b,0,none⟩ rfl _⟩
 ·refine (copy_used b w h.cell0).mono ?_
  rintro e w' ⟨rfl,rfl⟩
  exact ⟨rfl,h,Below.refl B _,Lib.OthersKept.refl _ _ _⟩
theorem pwrite_any (B b : Nat) (bs : List Value) (s : ByteArray) (w : World) (h : Lib.IsBuilderF 90 5 B b bs w) (hlen : bs.length + s.size ≤ 140737488355328) (hBw : B ≤ w.heap.size) :
  Calls Tryz.prog 37 #[.pointer (some ⟨b,0,none⟩),.string s] w fun e w'=>e = .returned (.tuple #[.int .i64 s.size,.nilIface]) ∧ (Lib.BuilderAtF 90 5 B b (.pointer (some ⟨b,0,none⟩)) (bs ++ Lib.strCells s) w' ∧ Below B w w' ∧ Lib.OthersKept 5 (some b) w w'):=by
 obtain ⟨i0,hi,hz0,hz1,hz2⟩:=info_parts info_byte
 go_enter Tryz.func37,Tryz.ntmps37
 go_wp2_with (go_at_call 64;refine (pcopy_any B b bs _ h).mono ?_)
 rintro e w1 ⟨rfl,h1,hb1,hk1⟩
 obtain ⟨hB,v,hbk,hown,hne⟩:=h1
 have c0 : w1.cell? ⟨b,0,none⟩ = some (.pointer (some ⟨b,0,none⟩)):=by rw [Lib.cell_of_heap hbk];rfl
 have c1 : w1.cell? ⟨b,1,none⟩ = some v:=by rw [Lib.cell_of_heap hbk];rfl
 go_wp2_with (at_builtin;refine Lib.wpList_append_own_stringF _ rfl _ _ 76 9 rfl B 5 i0 Tryz.underlying76 Tryz.underlying9 hi hz0 hz1 hz2 _ _ _ rfl hown s rfl ?c3 ?c4 ?c5 ?_)
 case c3=>unfold maxLen;omega
 case c4=>omega
 case c5=>have:=hb1.size;omega
 intro v' w2 hown' hgrow _
 have hlt : b < w1.heap.size:=by
  rcases Nat.lt_or_ge b w1.heap.size with h' | h'
  ·exact h'
  ·simp [Array.getElem?_eq_none h'] at hbk
 have hb2 : w2.heap[b]? = some (.cells #[.pointer (some ⟨b,0,none⟩),v] 90 (0,0)):=by
  rw [hgrow.block b hlt (fun e=>hne e.symm)]
  exact hbk
 have d0 : w2.cell? ⟨b,0,none⟩ = some (.pointer (some ⟨b,0,none⟩)):=by rw [Lib.cell_of_heap hb2];rfl
 have d1 : w2.cell? ⟨b,1,none⟩ = some v:=by rw [Lib.cell_of_heap hb2];rfl
 have f1 : w2.frozen? ⟨b,1,none⟩ = false:=Lib.frozen_of_heap hb2 1
 obtain ⟨ao,n',cap,rfl⟩ : ∃ ao n' cap,v' = .slice ao n' cap:=by
  rcases hown'.2 with ⟨hv,_⟩ | ⟨g,cap,cur,fz,hv,_⟩
  ·exact ⟨_,_,_,hv⟩
  ·exact ⟨_,_,_,hv⟩
 go_wp2
 go_ret2
 refine ⟨rfl,?_,?_,(hk1.grown hgrow (Lib.ownsRowF_kind hown)).setCell ⟨b,1,none⟩ rfl _⟩
 ·exact Lib.BuilderAtF.put (T:=90) (e:=5) hB hb2 (bs':=bs ++ Lib.strCells s) (by simpa [Lib.strCells_length] using hown') (by decide)
 ·exact (hb1.grown hgrow (by have:=hb1.size;omega) (fun k hk=>(hown.lt k hk).1)).setCell (p:=⟨b,1,none⟩) hB _
/-- WriteString, in lists of bytes. -/
theorem pgwrite (B b : Nat) (l m : List UInt8) (w : World) (h : PgIs w B b l) (hlen : l.length + m.length ≤ 140737488355328) (hBw : B ≤ w.heap.size) :
  Calls Tryz.prog 37 #[.pointer (some ⟨b,0,none⟩),.string (ba m)] w fun e w'=>e = .returned (.tuple #[.int .i64 (ba m).size,.nilIface]) ∧ PgIs w' B b (l ++ m) ∧ Below B w w' ∧ Lib.OthersKept 5 (some b) w w':=by
 refine (pwrite_any B b (Lib.byteCells l) (ba m) w h (by rw [Lib.byteCells_length,ba_size];exact hlen) hBw).mono ?_
 rintro e w' ⟨h1,h2,h3,h4⟩
 exact ⟨h1,.inr (by rw [byteCells_app] at h2;exact h2),h3,h4⟩
theorem pAt_below {B b : Nat} {p : Value} {bs : List Value} {w w' : World} (h : Lib.BuilderAtF 90 5 B b p bs w) (hb : Below w.heap.size w w') : Lib.BuilderAtF 90 5 B b p bs w':=by
 obtain ⟨h1,v,h2,⟨h3,h4⟩,h5⟩:=h
 refine ⟨h1,v,keepB hb (Array.getElem?_eq_some_iff.1 h2).1 h2,⟨h3,?_⟩,h5⟩
 rcases h4 with h4 | ⟨g,c,cur,fz,hv,hg,hc,hr⟩
 ·exact .inl h4
 ·exact .inr ⟨g,c,cur,fz,hv,hg,keepB hb (Array.getElem?_eq_some_iff.1 hc).1 hc,hr⟩
theorem PgIs.below {w w' : World} {B b : Nat} {l : List UInt8} (h : PgIs w B b l) (hb : Below w.heap.size w w') : PgIs w' B b l:=h.elim (fun x=>.inl (pAt_below x hb)) (fun x=>.inr (pAt_below x hb))
theorem PgIs.fresh (w : World) : PgIs (w.alloc (.cells #[.pointer none,.slice none 0 0] 90)) w.heap.size w.heap.size []:=
 .inl ⟨Nat.le_refl _,.slice none 0 0,new_block w _ _ rfl,⟨by simp [Lib.byteCells],.inl ⟨rfl,rfl⟩⟩,by simp [Value.ownBlock]⟩
theorem cells_byte : Tryz.prog.cellsOf 5 = 1:=by kernel_rfl
theorem bptr_und : Tryz.prog.underlying 124 = some (.pointer 5):=by kernel_rfl
theorem pgstring (B b : Nat) (l : List UInt8) (w : World) (h : PgIs w B b l) (h0 : l ≠ []) :
  Calls Tryz.prog 32 #[.pointer (some ⟨b,0,none⟩)] w fun e w'=>e = .returned (.string (ba l)) ∧ PgIs w' B b l ∧ Below B w w' ∧ Lib.OthersKept 5 (some b) w w':=by
 obtain ⟨p,hp,hAt⟩ : ∃ p,(p = .pointer none ∨ p = .pointer (some ⟨b,0,none⟩)) ∧ Lib.BuilderAtF 90 5 B b p (Lib.byteCells l) w:=by
  rcases h with h | h
  ·exact ⟨_,.inl rfl,h⟩
  ·exact ⟨_,.inr rfl,h⟩
 obtain ⟨hB,v,hbk,hown,hne⟩:=hAt
 have hl0 : l.length ≠ 0:=by simpa using h0
 rw [Lib.byteCells_length] at hown
 obtain ⟨g,cap,cur,fz,rfl,hbg,hg,hfz,hnc,hcm,hcs,htake⟩ : ∃ g cap cur fz,v = .slice (some ⟨g,0,none⟩) l.length cap ∧ B ≤ g ∧ w.heap[g]? = some (.cells cur 5 fz) ∧ fz.2 ≤ l.length * 1 ∧ l.length ≤ cap ∧ cap ≤ maxLen ∧ cur.size = cap * 1 ∧ cur.toList.take (l.length * 1) = Lib.byteCells l:=by
  rcases hown.2 with ⟨_,hz⟩ | ⟨g,cap,cur,fz,hv,r⟩
  ·exact absurd hz hl0
  ·exact ⟨g,cap,cur,fz,hv,r⟩
 have c1 : w.drew.cell? ⟨b,1,none⟩ = some (.slice (some ⟨g,0,none⟩) l.length cap):=by
  have : w.drew.heap[b]? = some (.cells #[p,.slice (some ⟨g,0,none⟩) l.length cap] 90 (0,0)):=hbk
  rw [Lib.cell_of_heap this];rfl
 have hSD : (Builtin.unsafeSliceData_ #[76] 124 #[.slice (some ⟨g,0,none⟩) l.length cap]).run Tryz.prog w.drew = .ok (.pointer (some ⟨g,0,none⟩)) w.drew:=
  Lib.run_unsafeSliceData_row _ _ _ _ _ _ (by omega)
 have hUS : (Builtin.unsafeString_ #[124,3] 9 #[.pointer (some ⟨g,0,none⟩),.int .i64 l.length]).run Tryz.prog w.drew = .ok (.string (ba l)) (w.drew.freeze ⟨g,0,none⟩ l.length):=by
  refine Lib.run_unsafeString_row w.drew 124 3 9 5 bptr_und cells_byte g cur.size (by have hg' : w.drew.heap[g]? = some (.cells cur 5 fz):=hg;simp [World.shape?,hg']) l h0 (by omega) (by unfold maxLen at hcm;omega) ?_
  intro j x hx
  have:=hown.cells (g:=g) rfl j (.int .u8 x.toNat) (by simp [Lib.byteCells,hx])
  exact this
 have hkeep : Lib.IsBuilderF 90 5 B b (Lib.byteCells l) (w.drew.freeze ⟨g,0,none⟩ l.length):=by
  have hA : Lib.BuilderAtF 90 5 B b p (Lib.byteCells l) w.drew:=⟨hB,_,hbk,by rw [Lib.byteCells_length];exact hown,hne⟩
  have hF:=hA.froze (g:=g) (cap:=cap) (by rw [Lib.byteCells_length];exact c1)
  rw [Lib.byteCells_length] at hF
  rcases hp with rfl | rfl
  ·exact .inl hF
  ·exact .inr hF
 have HK:=Lib.hid hkeep
 have HG:=Lib.hid hg
 clear hkeep hg hfz hcs htake hown hbk hp h0 hl0
 go_enter Tryz.func32,Tryz.ntmps32
 go_wp2
 go_region
 all_goals (go_wp2;go_ret;exact ⟨rfl,HK.out,Lib.below_freeze (Below.drew (Below.refl B w)) (p:=⟨g,0,none⟩) hbg _,((Lib.OthersKept.refl _ _ w).drew).freeze ⟨g,0,none⟩ _ ⟨cur,fz,HG.out⟩⟩)
end Go.Proofs.YtoklonmiejdgmaaGreatDoor.Sp
/- Labels for chapter 4. -/
namespace Go.Proofs.YtoklonmiejdgmaaGreatDoor
set_option linter.unusedVariables false
set_option linter.unusedSimpArgs false
set_option linter.unnecessarySimpa false
open Go.RowKit
set_option maxHeartbeats 400000
set_option maxRecDepth 100000
def isB (l : Int) : Bool:=decide (0 ≤ l) && decide (l ≤ 255)
theorem isB_iff (l : Int) : isB l = true ↔ 0 ≤ l ∧ l ≤ 255:=by simp [isB]
theorem isB_iff' (l : Int) : isB l = false ↔ ¬ (0 ≤ l ∧ l ≤ 255):=by rw [← isB_iff];simp
def flB (a b : Int) : Bool:=isB a && isB b && (andN a.toNat b.toNat == 0)
theorem is_any (l : Int) (w : World) :
  Calls Tryz.prog 154 #[.int .i64 l] w fun e w'=>e = .returned (.bool (isB l)) ∧ w = w':=by
 by_cases h : 0 ≤ l
 ·have h1 : decide (0 ≤ l) = true:=by simpa using h
  go_enter Tryz.func154,Tryz.ntmps154
  go_wp2
  go_ret
  simp [isB,h]
 ·have h1 : decide (0 ≤ l) = false:=by simpa using h
  go_enter Tryz.func154,Tryz.ntmps154
  go_wp2
  go_ret
  simp [isB];omega
theorem flows_any (a b : Int) (w : World) :
  Calls Tryz.prog 136 #[.int .i64 a,.int .i64 b] w fun e w'=>e = .returned (.bool (flB a b)) ∧ w = w':=by
 by_cases ha : isB a = true
 ·by_cases hb : isB b = true
  ·go_enter Tryz.func136,Tryz.ntmps136
   go_wp2_with (go_at_call 154;refine (is_any _ _).mono ?_;rintro e w' ⟨rfl,rfl⟩)
   go_ret
   obtain ⟨ha1,ha2⟩:=(isB_iff a).1 ha
   obtain ⟨hb1,hb2⟩:=(isB_iff b).1 hb
   obtain ⟨m,rfl⟩:=Int.eq_ofNat_of_zero_le ha1
   obtain ⟨n,rfl⟩:=Int.eq_ofNat_of_zero_le hb1
   rw [i64_andNot m n (by omega) (by omega)]
   refine ⟨ret_bool ?_,rfl⟩
   rw [Bool.eq_iff_iff]
   simp only [flB,ha,hb,Int.toNat_natCast,Bool.true_and,beq_iff_eq]
   omega
  ·simp only [Bool.not_eq_true] at hb
   go_enter Tryz.func136,Tryz.ntmps136
   go_wp2_with (go_at_call 154;refine (is_any _ _).mono ?_;rintro e w' ⟨rfl,rfl⟩)
   go_ret
   simp [flB,ha,hb]
 ·simp only [Bool.not_eq_true] at ha
  go_enter Tryz.func136,Tryz.ntmps136
  go_wp2_with (go_at_call 154;refine (is_any _ _).mono ?_;rintro e w' ⟨rfl,rfl⟩)
  go_ret
  simp [flB,ha]
def validB (l cats : Int) : Bool:=decide (0 ≤ cats) && decide (cats ≤ 8) && decide (0 ≤ l) && decide (l < 2 ^ cats.toNat)
theorem valid_any (l cats : Int) (w : World) :
  Calls Tryz.prog 128 #[.int .i64 l,.int .i64 cats] w fun e w'=>e = .returned (.bool (validB l cats)) ∧ w = w':=by
 by_cases h1 : cats < 0
 ·go_enter Tryz.func128,Tryz.ntmps128
  go_wp2_with (go_at_call 154;refine (is_any _ _).mono ?_;rintro e w' ⟨rfl,rfl⟩)
  go_ret
  exact ⟨ret_bool (by simp [validB];omega),rfl⟩
 ·by_cases h2 : 8 < cats
  ·go_enter Tryz.func128,Tryz.ntmps128
   go_wp2_with (go_at_call 154;refine (is_any _ _).mono ?_;rintro e w' ⟨rfl,rfl⟩)
   go_ret
   exact ⟨ret_bool (by simp [validB];omega),rfl⟩
  ·obtain ⟨c,rfl⟩:=Int.eq_ofNat_of_zero_le (show 0 ≤ cats by omega)
   have hp : (2 : Nat) ^ c ≤ 2 ^ 8:=Nat.pow_le_pow_right (by decide) (by omega)
   have hp2 : 0 < (2 : Nat) ^ c:=Nat.pow_pos (by decide)
   by_cases hl : isB l = true
   ·obtain ⟨l1,l2⟩:=(isB_iff l).1 hl
    obtain ⟨m,rfl⟩:=Int.eq_ofNat_of_zero_le l1
    have e : ((m : Int) < 2 ^ c) ↔ m < 2 ^ c:=by rw [show (2 : Int) ^ c = ((2 ^ c : Nat) : Int) from by simp];omega
    have e2 : ((m : Int) / 2 ^ c == 0) = decide (m < 2 ^ c):=by
     rw [show (m : Int) / 2 ^ c = ((m / 2 ^ c : Nat) : Int) from by simp,Bool.eq_iff_iff]
     simp only [beq_iff_eq,decide_eq_true_eq]
     rw [← Nat.div_eq_zero_iff_lt hp2]
     omega
    have E:=Lib.hid e;have E2:=Lib.hid e2
    clear e e2 hp hp2
    go_enter Tryz.func128,Tryz.ntmps128
    go_wp2_with (go_at_call 154;refine (is_any _ _).mono ?_;rintro e w' ⟨rfl,rfl⟩)
    go_ret
    refine ⟨ret_bool (E2.out.trans ?_),rfl⟩
    rw [Bool.eq_iff_iff]
    simp only [validB,Int.toNat_natCast,Bool.and_eq_true,decide_eq_true_eq,E.out]
    omega
   ·simp only [Bool.not_eq_true] at hl
    have hl2:=(isB_iff' l).1 hl
    have H2:=Lib.hid hl2
    have HP:=Lib.hid hp
    clear hl2 hp hp2
    go_enter Tryz.func128,Tryz.ntmps128
    go_wp2_with (go_at_call 154;refine (is_any _ _).mono ?_;rintro e w' ⟨rfl,rfl⟩)
    go_ret
    refine ⟨ret_bool ?_,rfl⟩
    have h3:=H2.out
    have h4:=HP.out
    by_cases h5 : 0 ≤ l
    ·have h6 : ¬ l < ((2 ^ c : Nat) : Int):=by simp only [Nat.reducePow] at h4;omega
     simp only [Int.natCast_pow,Int.cast_ofNat_Int] at h6
     simp [validB,h6]
    ·simp [validB,h5]
theorem Is_any (l : Int) (w : World) :
  Calls Tryz.prog 160 #[.int .i64 l] w fun e w'=>e = .returned (.bool (isB l)) ∧ w = w':=by
 by_cases h : 0 ≤ l
 ·have h1 : decide (0 ≤ l) = true:=by simpa using h
  go_enter Tryz.func160,Tryz.ntmps160
  go_wp2
  go_ret
  refine ⟨ret_bool ?_,rfl⟩
  rw [Bool.eq_iff_iff];simp [isB,h];omega
 ·have h1 : decide (0 ≤ l) = false:=by simpa using h
  go_enter Tryz.func160,Tryz.ntmps160
  go_wp2
  go_ret
  simp [isB];omega
theorem has_any (l c : Nat) (hl : l < 9223372036854775808) (hc : c < 64) (w : World) :
  Calls Tryz.prog 161 #[.int .i64 l,.int .i64 c] w fun e w'=>e = .returned (.bool (l.testBit c)) ∧ w = w':=by
 go_enter Tryz.func161,Tryz.ntmps161
 go_wp2
 go_ret
 exact ⟨ret_bool (bit_eq l c hl),rfl⟩
def flR (a b : Nat) (k : Nat) : Bool:=decide (∀ c,c < k → a.testBit c = true → b.testBit c = true)
def flowsR (a b : Int) : Bool:=isB a && isB b && flR a.toNat b.toNat 8
theorem flR_succ (a b k : Nat) : flR a b (k + 1) = (flR a b k && !(a.testBit k && !b.testBit k)):=by
 rw [Bool.eq_iff_iff]
 simp only [flR,decide_eq_true_eq,Bool.and_eq_true,Bool.not_eq_true',Bool.and_eq_false_iff,Bool.not_eq_false']
 constructor
 ·intro h
  refine ⟨fun c hc=>h c (by omega),?_⟩
  cases e : a.testBit k
  ·exact .inl rfl
  ·exact .inr (h k (by omega) e)
 ·rintro ⟨h1,h2⟩ c hc ha
  by_cases e : c = k
  ·subst e;rcases h2 with h2 | h2
   ·rw [h2] at ha;cases ha
   ·exact h2
  ·exact h1 c (by omega) ha
theorem flR_lt (a b n k : Nat) (h : k ≤ n) (hf : flR a b k = false) : flR a b n = false:=by
 simp only [flR,decide_eq_false_iff_not] at hf ⊢
 exact fun hn=>hf fun c hc=>hn c (by omega)
theorem Flows_ref (a b : Int) (w : World) :
    Calls Tryz.prog 150 #[.int .i64 a,.int .i64 b] w fun e w'=>e = .returned (.bool (flowsR a b)) ∧ w = w':=by
  by_cases ha : isB a = true
  · by_cases hb : isB b = true
    · obtain ⟨a1,a2⟩:=(isB_iff a).1 ha
      obtain ⟨b1,b2⟩:=(isB_iff b).1 hb
      obtain ⟨m,rfl⟩:=Int.eq_ofNat_of_zero_le a1
      obtain ⟨n,rfl⟩:=Int.eq_ofNat_of_zero_le b1
      have hE : flowsR (m : Int) (n : Int) = flR m n 8:=by simp [flowsR,ha,hb]
      have HE:=Lib.hid hE;clear hE
      go_enter Tryz.func150,Tryz.ntmps150
      go_wp2_with (go_at_call 160;refine (Is_any _ _).mono ?_;rintro e w' ⟨rfl,rfl⟩)
      go_loop [5] (fun i=>∃ k : Nat,k ≤ 8 ∧ i = .int .i64 k ∧ flR m n k = true) (fun i=>8 - (intOf i).toNat)
      case atStart=>exact ⟨0,by omega,rfl,by simp [flR]⟩
      case round=>
        obtain ⟨k,hk,rfl,hf⟩:=hrel
        have HF:=Lib.hid hf;clear hf
        by_cases hlt : k < 8
        · have HS:=Lib.hid (flR_succ m n k)
          cases hx : m.testBit k <;> cases hy : n.testBit k
          all_goals
            go_wp2_with (go_at_call 161;refine (has_any _ k (by omega) (by omega) _).mono ?_;rintro e w' ⟨rfl,rfl⟩)
            first
              | (go_round
                 case rel=>exact ⟨k + 1,by omega,by go_num,by rw [HS.out,HF.out,hx,hy];rfl⟩
                 case measure=>simp [intOf];omega)
              | (go_ret
                 exact ⟨ret_bool (by rw [HE.out];have:=flR_lt m n 8 (k + 1) (by omega) (by rw [HS.out,hx,hy];simp);simp [this]),rfl⟩)
        · obtain rfl : k = 8:=by omega
          go_wp2_with fail
          go_ret
          exact ⟨ret_bool (by rw [HE.out,HF.out]),rfl⟩
    · simp only [Bool.not_eq_true] at hb
      go_enter Tryz.func150,Tryz.ntmps150
      go_wp2_with (go_at_call 160;refine (Is_any _ _).mono ?_;rintro e w' ⟨rfl,rfl⟩)
      go_ret
      simp [flowsR,ha,hb]
  · simp only [Bool.not_eq_true] at ha
    go_enter Tryz.func150,Tryz.ntmps150
    go_wp2_with (go_at_call 160;refine (Is_any _ _).mono ?_;rintro e w' ⟨rfl,rfl⟩)
    go_ret
    simp [flowsR,ha]
theorem flowsR_eq (a b : Int) : flowsR a b = flB a b:=by
 cases ha : isB a
 ·simp [flowsR,flB,ha]
 ·cases hb : isB b
  ·simp [flowsR,flB,ha,hb]
  ·have h1:=(isB_iff a).1 ha
   have h2:=(isB_iff b).1 hb
   simp only [flowsR,flB,ha,hb,Bool.true_and]
   have ha2 : a.toNat < 256:=by omega
   have hb2 : b.toNat < 256:=by omega
   generalize a.toNat = m at *
   generalize b.toNat = n at *
   rw [Bool.eq_iff_iff]
   simp only [flR,decide_eq_true_eq,beq_iff_eq]
   have hd : andN m n < 256:=Nat.xor_lt_two_pow (n:=8) (by omega) (Nat.lt_of_le_of_lt Nat.and_le_left (by omega))
   constructor
   ·intro h
    refine eq_of_bits8 _ _ hd (by decide) fun c hc=>?_
    rw [andN_testBit,Nat.zero_testBit]
    cases hx : m.testBit c
    ·rfl
    ·rw [h c hc hx];rfl
   ·intro h c hc hx
    have:=andN_testBit m n c
    rw [h,Nat.zero_testBit,hx] at this
    simpa using this.symm
theorem Valid_ref (l cats : Int) (w : World) :
  Calls Tryz.prog 147 #[.int .i64 l,.int .i64 cats] w fun e w'=>e = .returned (.bool (validB l cats)) ∧ w = w':=by
 by_cases h1 : cats < 0
 ·go_enter Tryz.func147,Tryz.ntmps147
  go_wp2
  go_ret
  exact ⟨ret_bool (by simp [validB];omega),rfl⟩
 ·by_cases h2 : 8 < cats
  ·have h3 : decide (cats ≤ 8) = false:=by simp;omega
   go_enter Tryz.func147,Tryz.ntmps147
   go_wp2
   go_ret
   exact ⟨ret_bool (by simp [validB];omega),rfl⟩
  ·obtain ⟨c,rfl⟩:=Int.eq_ofNat_of_zero_le (show 0 ≤ cats by omega)
   have hp : (2 : Nat) ^ c ≤ 2 ^ 8:=Nat.pow_le_pow_right (by decide) (by omega)
   have e : wrap64 (2 ^ c) = 2 ^ c:=by
    have e2 : (2 : Int) ^ c = ((2 ^ c : Nat) : Int):=by simp
    simp only [Nat.reducePow] at hp
    rw [e2,IntWalk.wrap64_in]
    generalize 2 ^ c = z at hp ⊢
    omega
   clear hp
   by_cases hl : 0 ≤ l
   ·have hl2 : decide (0 ≤ l) = true:=by simpa using hl
    go_enter Tryz.func147,Tryz.ntmps147
    go_wp2
    go_ret
    exact ⟨ret_bool (by simp [validB,hl];omega),rfl⟩
   ·have hl2 : decide (0 ≤ l) = false:=by simpa using hl
    go_enter Tryz.func147,Tryz.ntmps147
    go_wp2
    go_ret
    exact ⟨ret_bool (by simp [validB];omega),rfl⟩
end Go.Proofs.YtoklonmiejdgmaaGreatDoor
/- Package label and its reference: texts. -/
namespace Go.Proofs.YtoklonmiejdgmaaGreatDoor
set_option linter.unusedVariables false
set_option linter.unusedSimpArgs false
set_option linter.unnecessarySimpa false
open Go.RowKit
set_option maxHeartbeats 400000
set_option maxRecDepth 100000
/-- The letters of the categories below k. -/
def lett (l k : Nat) : List Int:=List.map (fun (c : Nat)=>97 + (c : Int)) ((List.range k).filter (fun c=>l.testBit c))
theorem lett_succ (l k : Nat) : lett l (k + 1) = lett l k ++ (if l.testBit k then [97 + (k : Int)] else []):=by
 simp only [lett,List.range_succ,List.filter_append,List.map_append]
 congr 1
 cases h : l.testBit k <;> simp [List.filter,h]
theorem lett_len (l k : Nat) : (lett l k).length ≤ k:=by
 simp only [lett,List.length_map]
 exact Nat.le_trans (List.length_filter_le _ _) (by simp)
theorem info_u8 : (Tryz.prog.info? 5).map (fun i=>(i.zero,i.size,i.bytes)) = some (some (.int .u8 0),1,1):=by kernel_rfl
/-- What 'letters' leaves. -/
def LetPost (l : Nat) (w : World) (e : Ending) (w' : World) : Prop:=∃ v,e = .returned v ∧ w'.ownsRow w.heap.size 5 1 v (lett l 8).length ((lett l 8).map (Value.int .u8)) ∧ Below w.heap.size w w'
set_option maxRecDepth 100000 in
theorem letters_any (l : Nat) (hl : l < 256) (w : World) :
  Calls Tryz.prog 155 #[.int .i64 l] w (LetPost l w):=by
 obtain ⟨i0,hi,hz0,hz1,hz2⟩:=info_parts info_u8
 go_enter Tryz.func155,Tryz.ntmps155
 go_wp2
 go_loopw [3,5] (fun v i wr=>∃ k : Nat,k ≤ 8 ∧ i = .int .i64 k ∧ wr.ownsRow w.heap.size 5 1 v (lett l k).length ((lett l k).map (Value.int .u8)) ∧ Below w.heap.size w wr) (fun _ i _=>8 - (intOf i).toNat)
 case atStart=>exact ⟨0,by omega,rfl,(World.ownsRow_nil w _ _ _ : _),Below.refl _ _⟩
 case round=>
  obtain ⟨k,hk,rfl,hown,hb⟩:=hrel
  have hlen:=lett_len l k
  by_cases hlt : k < 8
  ·have HL:=Lib.hid (lett_succ l k)
   have hbe:=bit_eq l k (by omega)
   by_cases hbit : l.testBit k = true
   ·rw [hbit] at hbe
    have HB:=Lib.hid hbit;clear hbit
    go_wp2_with (at_builtin;refine wpList_append_own _ rfl _ _ 76 rfl w.heap.size 5 i0 (.int .u8 0) 1 1 Tryz.underlying76 hi hz0 hz1 hz2 rfl (by decide) _ _ _ rfl (hown.alloc _) ⟨wr.heap.size,0,none⟩ 1 1 [.int .u8 (97 + (k : Int))] rfl rfl (cell_one_new _ _ _) ?c2 ?c3 ?c4 ?c5 ?_)
    case c2=>intro u hu;simp at hu;subst hu;rfl
    case c3=>unfold maxLen;omega
    case c4=>omega
    case c5=>have:=hb.size;simp;omega
    intro v' w1 hown1 hgrow _
    have R1 : w1.ownsRow w.heap.size 5 1 v' (lett l (k + 1)).length ((lett l (k + 1)).map (Value.int .u8)):=by
     rw [HL.out,if_pos HB.out]
     simpa using hown1
    have hb1 : Below w.heap.size w w1:=(hb.alloc hb.size _).grown hgrow (by have:=hb.size;simp;omega) (fun j hj=>(hown.lt j hj).1)
    clear hown1 hgrow hown
    go_wp2
    go_roundw
    case rel=>exact ⟨k + 1,by omega,by go_num,R1,hb1⟩
    case measure=>simp [intOf];omega
   ·simp only [Bool.not_eq_true] at hbit
    rw [hbit] at hbe
    go_wp2
    go_roundw
    case rel=>exact ⟨k + 1,by omega,by go_num,(by rw [HL.out,hbit];simpa using hown),hb⟩
    case measure=>simp [intOf];omega
  ·obtain rfl : k = 8:=by omega
   go_wp2
   go_ret
   exact ⟨_,rfl,hown,hb⟩
theorem foldl_push (ns : List Int) : ∀ (s : ByteArray),(ns.foldl (fun r n=>r.push (UInt8.ofNat n.toNat)) s) = ⟨(s.data.toList ++ ns.map (fun n=>UInt8.ofNat n.toNat)).toArray⟩:=by
 induction ns with
 | nil=>intro s;simp
 | cons n ns ih=>intro s;rw [List.foldl_cons,ih];simp [ByteArray.push]
/-- The text of a list of bytes. -/
def bstr (l : List Int) : ByteArray:=⟨(l.map (fun n=>UInt8.ofNat n.toNat)).toArray⟩
theorem run_own_string {P : Program} (w : World) (src dst e : TypeId) (base n : Nat) (v : Value) (xs : List Int)
  (hs : P.underlying src = some (.slice e)) (he : P.underlying e = some (.int .u8)) (hd : P.underlying dst = some .string)
  (hown : w.ownsRow base e 1 v n (xs.map (Value.int .u8))) :
  (convert src dst v).run P w = .ok (.string (bstr xs)) w:=by
 have hn : n = xs.length:=by have:=hown.1;simp at this;omega
 have hcells:=fun g (hg : v.ownBlock = some g)=>hown.cells hg
 rcases hown.2 with ⟨rfl,h0⟩ | ⟨g,cap,cur,rfl,hb,hg,hnc,hcm,hcs,htake⟩
 ·have hx : xs = []:=List.eq_nil_of_length_eq_zero (by omega)
  subst hx
  rw [run_convert_bytes_string w src dst e none 0 0 hs he hd]
  rfl
 ·rw [run_convert_bytes_string w src dst e _ n cap hs he hd]
  rw [run_bytesToString w ⟨g,0,none⟩ n cap xs ?_,foldl_push]
  ·rfl
  ·rw [hn]
   have:=run_loadCells_list (P:=P) w ⟨g,0,none⟩ (xs.map (Value.int .u8)) (hcells g rfl)
   simpa using this
def lbS (l : Int) : ByteArray:=if isB l then (if l = 0 then ⟨#[45]⟩ else bstr (lett l.toNat 8)) else ⟨#[]⟩
def lbE (l : Int) : Int:=if isB l then 0 else 1
theorem ltext_any (l : Int) (w : World) :
  Calls Tryz.prog 111 #[.int .i64 l] w fun e w'=>e = .returned (.tuple #[.string (lbS l),.int .i64 (lbE l)]) ∧ Below w.heap.size w w':=by
 by_cases hl : isB l = true
 ·by_cases h0 : l = 0
  ·subst h0
   go_enter Tryz.func111,Tryz.ntmps111
   go_wp2_with (go_at_call 154;refine (is_any _ _).mono ?_;rintro e w' ⟨rfl,rfl⟩)
   go_ret2
   exact ⟨by simp [lbS,lbE,hl],Below.refl _ _⟩
  ·obtain ⟨l1,l2⟩:=(isB_iff l).1 hl
   obtain ⟨m,rfl⟩:=Int.eq_ofNat_of_zero_le l1
   have hz : ((m : Int) == 0) = false:=by simpa using h0
   have hm : m ≠ 0:=by omega
   go_enter Tryz.func111,Tryz.ntmps111
   go_wp2_with (first | (go_at_call 154;refine (is_any _ _).mono ?_;rintro e w' ⟨rfl,rfl⟩) | (go_at_call 155;refine (letters_any m (by omega) _).mono ?_;rintro e w1 ⟨v,rfl,hown,hb⟩;have hcv:=run_own_string (P:=Tryz.prog) w1 76 9 5 _ _ v _ Tryz.underlying76 Tryz.underlying5 Tryz.underlying9 hown))
   go_ret2
   exact ⟨by simp [lbS,lbE,hl,hm],hb⟩
 ·simp only [Bool.not_eq_true] at hl
  go_enter Tryz.func111,Tryz.ntmps111
  go_wp2_with (go_at_call 154;refine (is_any _ _).mono ?_;rintro e w' ⟨rfl,rfl⟩)
  go_ret2
  exact ⟨by simp [lbS,lbE,hl],Below.refl _ _⟩
def parseGo : Nat → List UInt8 → Option Nat
 | l,[]=>if l = 0 then none else some l
 | l,b :: bs=>if b.toNat < 97 ∨ 105 ≤ b.toNat ∨ l / 2 ^ (b.toNat - 97) ≠ 0 then none else parseGo (l + 2 ^ (b.toNat - 97)) bs
def lbF (s : List UInt8) : Option Nat:=if s = [45] then some 0 else parseGo 0 s
def lbPV (s : List UInt8) : Int:=((lbF s).getD 0 : Nat)
def lbPE (s : List UInt8) : Int:=if (lbF s).isSome then 0 else 6
theorem or_pow (l c : Nat) (h : l / 2 ^ c = 0) : l ||| 2 ^ c = l + 2 ^ c:=by
 have hl : l < 2 ^ c:=by
  rcases Nat.div_eq_zero_iff.1 h with h1 | h1
  ·have:=Nat.pow_pos (a:=2) (n:=c) (by decide);omega
  ·exact h1
 have h2:=Nat.two_pow_add_eq_or_of_lt hl 1
 rw [Nat.mul_one] at h2
 rw [Nat.or_comm,Nat.add_comm]
 exact h2.symm
theorem parseGo_cons (x : Nat) (b : UInt8) (bs : List UInt8) : parseGo x (b :: bs) = if b.toNat < 97 ∨ 105 ≤ b.toNat ∨ x / 2 ^ (b.toNat - 97) ≠ 0 then none else parseGo (x + 2 ^ (b.toNat - 97)) bs:=rfl
theorem lparse_any (s : ByteArray) (hs : s.size ≤ maxLen) (w : World) :
  Calls Tryz.prog 124 #[.string s] w fun e w'=>e = .returned (.tuple #[.int .i64 (lbPV s.data.toList),.int .i64 (lbPE s.data.toList)]) ∧ w = w':=by
 unfold maxLen at hs
 by_cases h0 : (s.toList == [45]) = true
 ·have e0 : s.data.toList = [45]:=by rw [ByteArray.toList_eq] at h0;simpa using h0
  have E0:=Lib.hid e0;clear e0
  go_enter Tryz.func124,Tryz.ntmps124
  go_wp2
  go_ret2
  exact ⟨ret_two (by rw [lbPV,E0.out];rfl) (by rw [lbPE,E0.out];rfl),rfl⟩
 ·simp only [Bool.not_eq_true] at h0
  have e0 : ¬ s.data.toList = [45]:=by rw [ByteArray.toList_eq] at h0;simpa using h0
  have E0:=Lib.hid e0;clear e0
  go_enter Tryz.func124,Tryz.ntmps124
  go_wp2
  go_loop [4,11] (fun l i=>∃ k x : Nat,k ≤ s.size ∧ i = .int .i64 k ∧ l = .int .i64 x ∧ x < 256 ∧ lbF s.data.toList = parseGo x (s.data.toList.drop k)) (fun _ i=>s.size - (intOf i).toNat)
  case atStart=>exact ⟨0,0,by omega,rfl,rfl,by omega,by rw [lbF,if_neg E0.out];rfl⟩
  case round=>
   obtain ⟨k,x,hk,rfl,rfl,hx,he⟩:=hrel
   have HE:=Lib.hid he;clear he
   by_cases hlt : k < s.size
   ·have hb : s[k].toNat < 256:=s[k].toNat_lt
    have HD : Hid (lbF s.data.toList = if s[k].toNat < 97 ∨ 105 ≤ s[k].toNat ∨ x / 2 ^ (s[k].toNat - 97) ≠ 0 then none else parseGo (x + 2 ^ (s[k].toNat - 97)) (s.data.toList.drop (k + 1))):=by
     have : s.data.toList.drop k = s[k] :: s.data.toList.drop (k + 1):=List.drop_eq_getElem_cons (by simpa using hlt)
     rw [Hid,HE.out,this,parseGo_cons]
    by_cases h1 : s[k].toNat < 97
    ·have HN : Hid (lbF s.data.toList = none):=by rw [Hid,HD.out,if_pos (.inl h1)]
     go_wp2
     go_ret2
     exact ⟨ret_two (by rw [lbPV,HN.out];rfl) (by rw [lbPE,HN.out];rfl),rfl⟩
    ·by_cases h2 : 105 ≤ s[k].toNat
     ·have HN : Hid (lbF s.data.toList = none):=by rw [Hid,HD.out,if_pos (.inr (.inl h2))]
      go_wp2
      go_ret2
      exact ⟨ret_two (by rw [lbPV,HN.out];rfl) (by rw [lbPE,HN.out];rfl),rfl⟩
     ·by_cases h3 : x / 2 ^ (s[k].toNat - 97) = 0
      ·have HN : Hid (lbF s.data.toList = parseGo (x + 2 ^ (s[k].toNat - 97)) (s.data.toList.drop (k + 1))):=by rw [Hid,HD.out,if_neg (by omega)]
       have hp : 2 ^ (s[k].toNat - 97) ≤ 2 ^ 7:=Nat.pow_le_pow_right (by decide) (by omega)
       have ho:=or_pow x _ h3
       have hl : x ||| 2 ^ (s[k].toNat - 97) < 2 ^ 8:=Nat.or_lt_two_pow hx (Nat.pow_lt_pow_right (by decide) (by omega))
       have H1 : Hid (bits BinOp.or IntKind.i64 (x : Int) (wrap64 (2 ^ (s[k].toNat - 97))) = ((x + 2 ^ (s[k].toNat - 97) : Nat) : Int)):=by
        have e : wrap64 (2 ^ (s[k].toNat - 97)) = ((2 ^ (s[k].toNat - 97) : Nat) : Int):=by
         rw [IntWalk.wrap64_in]
         ·simp
         ·have e2 : (2 : Int) ^ (s[k].toNat - 97) = ((2 ^ (s[k].toNat - 97) : Nat) : Int):=by simp
          rw [e2];omega
        rw [Hid,e,i64_or _ _ (by omega) (by omega),ho]
       have hv : x + 2 ^ (s[k].toNat - 97) < 256:=by omega
       have HV:=Lib.hid hv
       have hz : ((x : Int) / 2 ^ (s[k].toNat - 97) != 0) = false:=by
        rw [show (x : Int) / 2 ^ (s[k].toNat - 97) = ((x / 2 ^ (s[k].toNat - 97) : Nat) : Int) from by simp,h3];rfl
       clear h3 hp ho hl hv HD
       go_wp2
       go_round
       case rel=>exact ⟨k + 1,_,by omega,by go_num,by rw [H1.out],HV.out,HN.out⟩
       case measure=>simp [intOf];omega
      ·have HN : Hid (lbF s.data.toList = none):=by rw [Hid,HD.out,if_pos (.inr (.inr h3))]
       have hz : ((x : Int) / 2 ^ (s[k].toNat - 97) != 0) = true:=by
        rw [show (x : Int) / 2 ^ (s[k].toNat - 97) = ((x / 2 ^ (s[k].toNat - 97) : Nat) : Int) from by simp]
        simp only [bne_iff_ne,ne_eq];omega
       clear h3 HD
       go_wp2
       go_ret2
       exact ⟨ret_two (by rw [lbPV,HN.out];rfl) (by rw [lbPE,HN.out];rfl),rfl⟩
   ·have HN : Hid (lbF s.data.toList = if x = 0 then none else some x):=by
     rw [Hid,HE.out,List.drop_eq_nil_of_le (by simp;omega)];rfl
    by_cases hx0 : x = 0
    ·have hz : ((x : Int) == 0) = true:=by simp;omega
     have HN2 : Hid (lbF s.data.toList = none):=by rw [Hid,HN.out,if_pos hx0]
     clear hx0 HN
     go_wp2
     go_ret2
     exact ⟨ret_two (by rw [lbPV,HN2.out];rfl) (by rw [lbPE,HN2.out];rfl),rfl⟩
    ·have hz : ((x : Int) == 0) = false:=by simp;omega
     have HN2 : Hid (lbF s.data.toList = some x):=by rw [Hid,HN.out,if_neg hx0]
     clear hx0 HN
     go_wp2
     go_ret2
     exact ⟨ret_two (by rw [lbPV,HN2.out];rfl) (by rw [lbPE,HN2.out];rfl),rfl⟩
/-- The text of a label, as bytes. -/
def lbL (l : Nat) : List UInt8:=if l = 0 then [45] else (lett l 8).map (fun n=>UInt8.ofNat n.toNat)
theorem lbS_nat (l : Nat) (h : l < 256) : lbS l = ⟨(lbL l).toArray⟩ ∧ lbE l = 0:=by
 have : isB (l : Int) = true:=(isB_iff _).2 (by omega)
 by_cases h0 : l = 0
 ·subst h0;exact ⟨rfl,rfl⟩
 ·simp [lbS,lbE,this,h0,lbL,bstr]
theorem LText_ref (l : Int) (w : World) :
  Calls Tryz.prog 114 #[.int .i64 l] w fun e w'=>e = .returned (.tuple #[.string (lbS l),.int .i64 (lbE l)]) ∧ Below w.heap.size w w':=by
 by_cases hl : isB l = true
 ·by_cases h0 : l = 0
  ·subst h0
   go_enter Tryz.func114,Tryz.ntmps114
   go_wp2_with (go_at_call 160;refine (Is_any _ _).mono ?_;rintro e w' ⟨rfl,rfl⟩)
   go_ret2
   exact ⟨by simp [lbS,lbE,hl],Below.refl _ _⟩
  ·obtain ⟨l1,l2⟩:=(isB_iff l).1 hl
   obtain ⟨m,rfl⟩:=Int.eq_ofNat_of_zero_le l1
   have hz : ((m : Int) == 0) = false:=by simpa using h0
   have hm : m ≠ 0:=by omega
   obtain ⟨i0,hi,hz0,hz1,hz2⟩:=info_parts info_u8
   go_enter Tryz.func114,Tryz.ntmps114
   go_wp2_with (go_at_call 160;refine (Is_any _ _).mono ?_;rintro e w' ⟨rfl,rfl⟩)
   go_loopw [4,5] (fun v i wr=>∃ k : Nat,k ≤ 8 ∧ i = .int .i64 k ∧ wr.ownsRow w.heap.size 5 1 v (lett m k).length ((lett m k).map (Value.int .u8)) ∧ Below w.heap.size w wr) (fun _ i _=>8 - (intOf i).toNat)
   case atStart=>exact ⟨0,by omega,rfl,(World.ownsRow_nil w _ _ _ : _),Below.refl _ _⟩
   case round=>
    obtain ⟨k,hk,rfl,hown,hb⟩:=hrel
    have hlen:=lett_len m k
    by_cases hlt : k < 8
    ·have HL:=Lib.hid (lett_succ m k)
     by_cases hbit : m.testBit k = true
     ·have HB:=Lib.hid hbit
      go_wp2_with (first | (go_at_call 161;refine (has_any m k (by omega) (by omega) _).mono ?_;rintro e w' ⟨rfl,rfl⟩) | (at_builtin;refine wpList_append_own _ rfl _ _ 76 rfl w.heap.size 5 i0 (.int .u8 0) 1 1 Tryz.underlying76 hi hz0 hz1 hz2 rfl (by decide) _ _ _ rfl (hown.alloc _) ⟨wr.heap.size,0,none⟩ 1 1 [.int .u8 (97 + (k : Int))] rfl rfl (cell_one_new _ _ _) ?c2 ?c3 ?c4 ?c5 ?_))
      case c2=>intro u hu;simp at hu;subst hu;rfl
      case c3=>unfold maxLen;omega
      case c4=>omega
      case c5=>have:=hb.size;simp;omega
      intro v' w1 hown1 hgrow _
      have R1 : w1.ownsRow w.heap.size 5 1 v' (lett m (k + 1)).length ((lett m (k + 1)).map (Value.int .u8)):=by
       rw [HL.out,if_pos HB.out]
       simpa using hown1
      have hb1 : Below w.heap.size w w1:=(hb.alloc hb.size _).grown hgrow (by have:=hb.size;simp;omega) (fun j hj=>(hown.lt j hj).1)
      clear hown1 hgrow hown
      go_wp2
      go_roundw
      case rel=>exact ⟨k + 1,by omega,by go_num,R1,hb1⟩
      case measure=>simp [intOf];omega
     ·simp only [Bool.not_eq_true] at hbit
      go_wp2_with (go_at_call 161;refine (has_any m k (by omega) (by omega) _).mono ?_;rintro e w' ⟨rfl,rfl⟩)
      go_roundw
      case rel=>exact ⟨k + 1,by omega,by go_num,(by rw [HL.out,hbit];simpa using hown),hb⟩
      case measure=>simp [intOf];omega
    ·obtain rfl : k = 8:=by omega
     have hcv:=fun v (hv : wr.ownsRow w.heap.size 5 1 v (lett m 8).length ((lett m 8).map (Value.int .u8)))=>run_own_string (P:=Tryz.prog) wr 76 9 5 _ _ v _ Tryz.underlying76 Tryz.underlying5 Tryz.underlying9 hv
     have hcv2:=hcv _ hown
     clear hcv
     go_wp2
     go_ret2
     exact ⟨by simp [lbS,lbE,hl,hm],hb⟩
 ·simp only [Bool.not_eq_true] at hl
  go_enter Tryz.func114,Tryz.ntmps114
  go_wp2_with (go_at_call 160;refine (Is_any _ _).mono ?_;rintro e w' ⟨rfl,rfl⟩)
  go_ret2
  exact ⟨by simp [lbS,lbE,hl],Below.refl _ _⟩
theorem lparse_text : ∀ l : Fin 256,lbF (lbL l.val) = some l.val:=by decide +kernel
theorem parseGo_text (s : List UInt8) : ∀ (x l : Nat),x < 256 → parseGo x s = some l → l < 256:=by
 induction s with
 | nil=>intro x l hx h;simp only [parseGo] at h;split at h <;> simp_all
 | cons b bs ih=>
  intro x l hx h
  rw [parseGo_cons] at h
  split at h
  ·cases h
  ·rename_i hc
   simp only [not_or,Nat.not_lt,Nat.not_le,ne_eq,Decidable.not_not] at hc
   refine ih _ l ?_ h
   rw [← or_pow x _ hc.2.2]
   exact Nat.or_lt_two_pow (n:=8) hx (Nat.pow_lt_pow_right (by decide) (by omega))
theorem testBit_lt_div (x c i : Nat) (h : x / 2 ^ c = 0) (hi : c ≤ i) : x.testBit i = false:=by
 apply Nat.testBit_lt_two_pow
 rcases Nat.div_eq_zero_iff.1 h with h1 | h1
 ·have:=Nat.pow_pos (a:=2) (n:=c) (by decide);omega
 ·exact Nat.lt_of_lt_of_le h1 (Nat.pow_le_pow_right (by decide) hi)
/-- What the reader has read is the text of what it has. -/
theorem parseGo_back (s : List UInt8) : ∀ (x l : Nat),x < 256 → parseGo x s = some l → (lett l 8).map (fun n=>UInt8.ofNat n.toNat) = (lett x 8).map (fun n=>UInt8.ofNat n.toNat) ++ s:=by
 induction s with
 | nil=>intro x l _ h;simp only [parseGo] at h;split at h <;> simp_all
 | cons b bs ih=>
  intro x l hx h
  rw [parseGo_cons] at h
  split at h
  ·cases h
  ·rename_i hc
   simp only [not_or,Nat.not_lt,Nat.not_le,ne_eq,Decidable.not_not] at hc
   obtain ⟨h1,h2,h3⟩:=hc
   have hlt : x + 2 ^ (b.toNat - 97) < 256:=by
    rw [← or_pow x _ h3]
    exact Nat.or_lt_two_pow (n:=8) hx (Nat.pow_lt_pow_right (by decide) (by omega))
   rw [ih _ l hlt h,← or_pow x _ h3]
   obtain ⟨c,hc⟩ : ∃ c,c = b.toNat - 97:=⟨_,rfl⟩
   have hb : b = UInt8.ofNat (97 + c):=by
    rw [hc,show 97 + (b.toNat - 97) = b.toNat from by omega];simp
   rw [← hc] at h3 ⊢
   have key : lett (x ||| 2 ^ c) 8 = lett x 8 ++ [97 + (c : Int)]:=by
    simp only [lett]
    have e : (List.range 8).filter (fun i=>(x ||| 2 ^ c).testBit i) = (List.range 8).filter (fun i=>x.testBit i) ++ [c]:=by
     have hsplit : List.range 8 = List.range c ++ c :: List.map (fun i=>c + 1 + i) (List.range (8 - (c + 1))):=by
      rw [show (8 : Nat) = (c + 1) + (8 - (c + 1)) from by omega,List.range_add,List.range_succ]
      simp
     rw [hsplit]
     simp only [List.filter_append,List.filter_cons]
     have hcc : (x ||| 2 ^ c).testBit c = true:=by simp [Nat.testBit_or,Nat.testBit_two_pow]
     have hxc : x.testBit c = false:=testBit_lt_div x c c h3 (Nat.le_refl _)
     have hlo : (List.range c).filter (fun i=>(x ||| 2 ^ c).testBit i) = (List.range c).filter (fun i=>x.testBit i):=by
      apply List.filter_congr
      intro i hi
      have : c ≠ i:=by simp at hi;omega
      simp [Nat.testBit_or,Nat.testBit_two_pow,this]
     have hhi : ∀ (y : Nat),y = x ∨ y = x ||| 2 ^ c → (List.map (fun i=>c + 1 + i) (List.range (8 - (c + 1)))).filter (fun i=>y.testBit i) = []:=by
      intro y hy
      rw [List.filter_eq_nil_iff]
      intro i hi
      simp only [List.mem_map,List.mem_range] at hi
      obtain ⟨j,_,rfl⟩:=hi
      have g:=testBit_lt_div x c (c + 1 + j) h3 (by omega)
      rcases hy with rfl | rfl
      ·simp [g]
      ·have : c ≠ c + 1 + j:=by omega
       simp [Nat.testBit_or,Nat.testBit_two_pow,g,this]
     rw [hlo,hhi _ (.inr rfl),hhi _ (.inl rfl),hcc,hxc]
     simp
    rw [e,List.map_append]
    rfl
   rw [key,hb]
   simp only [List.map_append,List.map_cons,List.map_nil,List.append_assoc,List.cons_append,List.nil_append]
   congr 3
theorem lett_nil : lett 0 8 = []:=by decide +kernel
theorem lparseF_text (s : List UInt8) (l : Nat) (h : lbF s = some l) : l < 256 ∧ lbL l = s:=by
 unfold lbF at h
 split at h
 ·rename_i h1
  simp only [Option.some.injEq] at h
  subst h
  exact ⟨by decide,by rw [h1];rfl⟩
 ·have h1:=parseGo_text s 0 l (by decide) h
  refine ⟨h1,?_⟩
  have h2:=parseGo_back s 0 l (by decide) h
  rw [lett_nil] at h2
  have h0 : l ≠ 0:=by
   rintro rfl
   rw [lett_nil] at h2
   simp at h2
   subst h2
   simp [parseGo] at h
  rw [lbL,if_neg h0]
  simpa using h2
end Go.Proofs.YtoklonmiejdgmaaGreatDoor
/- An argument that is a slice of structs of so many ints. -/
namespace Go.Proofs.YtoklonmiejdgmaaGreatDoor
set_option linter.unusedVariables false
set_option linter.unusedSimpArgs false
set_option linter.unnecessarySimpa false
open Go.ChangeShapes Go.WideShapes Go.ChangeAt Go.RowKit
def ivs (r : List Int) : List Value:=r.map (Value.int .i64)
def iF (l : List (List Int)) : List Value:=(l.map ivs).flatten
theorem open_rowN0 {H : Type} {enc : TypeId × Value → H} {P : Program} {W : World} {t e lt : TypeId} {n N : Nat} (ht : P.underlying t = some (.slice e)) (hok : flatOk P n e = true) (hC : P.cellsOf e = N) (hN : 0 < N) (hlv : leaves P n e = List.replicate N lt) (hk : P.underlying lt = some (.int .i64)) {v : Value} {d : DataW H} {p : List MemPlace}
  (hv : ∃ a len cap,v = .slice a len cap) (h : DataW.Trod enc P W 0 (fun _=>true) true t v d p) :
  ∃ (a : Option Addr) (cap : Nat) (l : List (List Int)),v = .slice a l.length cap ∧ l.length ≤ cap ∧ cap ≤ maxLen ∧ Rd W N a l.length (iF l) ∧ ∀ r ∈ l,r.length = N:=by
 obtain ⟨a,len,cap,xs,rfl,hle,hcm,hrd,hlf,_⟩:=open_rowF0 ht hok hC hN hv h
 obtain ⟨l,rfl,rfl,hq⟩:=rows_of (α:={ r : List Int // r.length = N }) (fun r=>ivs r.val) (fun _=>True) N (fun r=>by simp [ivs,r.property]) len xs hrd.1 (fun i hi=>by
  have key : ∀ j,j < N → ∃ z : Int,xs[i * N + j]? = some (.int .i64 z):=fun j hj=>by
   obtain ⟨u,y,m,g,t⟩:=hlf i hi j lt hj (by rw [hlv];simp [hj])
   obtain ⟨z,e,_⟩:=DataW.trod_int hk t
   simp only [List.cons.injEq,and_true] at e
   exact ⟨z,by rw [g,e]⟩
  let f : Nat → Int:=fun j=>if hj : j < N then Classical.choose (key j hj) else 0
  refine ⟨⟨(List.range N).map f,by simp⟩,trivial,fun j hj=>?_⟩
  have hs:=Classical.choose_spec (key j hj)
  rw [hs]
  simp [ivs,hj,f])
 refine ⟨a,cap,l.map (·.val),by rw [List.length_map],by rw [List.length_map];exact hle,hcm,?_,fun r hr=>?_⟩
 ·rw [List.length_map]
  have : iF (l.map (·.val)) = (l.map fun r=>ivs r.val).flatten:=by simp [iF,List.map_map,Function.comp_def]
  rw [this];exact hrd
 ·obtain ⟨q,_,rfl⟩:=List.mem_map.1 hr
  exact q.property
theorem iF_get {N : Nat} (l : List (List Int)) (h : ∀ r ∈ l,r.length = N) (k j : Nat) (x : Int) (hk : k < l.length) (hx : (l[k])[j]? = some x) : (iF l)[k * N + j]? = some (.int .i64 x):=by
 have hj : j < N:=by rw [← h _ (List.getElem_mem hk)];exact (List.getElem?_eq_some_iff.1 hx).1
 rw [iF,flatten_get (N:=N) _ k j (fun r hr=>by obtain ⟨q,hq,rfl⟩:=List.mem_map.1 hr;simp [ivs,h q hq]) (by simpa using hk) hj]
 simp [ivs,hx]
theorem rowN_at {w : World} {N : Nat} {a : Option Addr} {l : List (List Int)} (h : Rd w N a l.length (iF l)) (hl : ∀ r ∈ l,r.length = N) (hN : 0 < N) (k : Nat) (hk : k < l.length) : ∃ b o,a = some ⟨b,o,none⟩ ∧ b < w.heap.size ∧ ∀ j x,(l[k])[j]? = some x → w.cell? ⟨b,o + k * N + j,none⟩ = some (.int .i64 x):=by
 have ha : a ≠ none:=fun h0=>by have:=h.2.1 h0;omega
 obtain ⟨p,rfl⟩:=Option.ne_none_iff_exists'.1 ha
 have h0 : (l[k])[0]? = some ((l[k])[0]'(by rw [hl _ (List.getElem_mem hk)];exact hN)):=List.getElem?_eq_getElem _
 have hne : iF l ≠ []:=fun e=>by have:=iF_get l hl k 0 _ hk h0;rw [e] at this;simp at this
 obtain ⟨b,o,rfl,hb,h3⟩:=h.2.2 p rfl hne
 refine ⟨b,o,rfl,hb,fun j x hx=>?_⟩
 rw [Nat.add_assoc]
 exact h3 _ _ (iF_get l hl k j x hk hx)
end Go.Proofs.YtoklonmiejdgmaaGreatDoor
/- Families of things in memory that lie apart: objects and rows of one's own. Plain lemmas. -/
namespace Go.Proofs.YtoklonmiejdgmaaGreatDoor
set_option linter.unusedVariables false
set_option linter.unusedSimpArgs false
set_option linter.unnecessarySimpa false
open Go.RowKit Go.Sort
/-- A cell of an own row set. -/
theorem Own.put {w : World} {B size n cap g j : Nat} {e : TypeId} {xs : List Value} (h : Own w B e size (some ⟨g,0,none⟩) n cap xs) (hj : j < n * size) (v : Value) : Own (w.setCell ⟨g,j,none⟩ v) B e size (some ⟨g,0,none⟩) n cap (xs.set j v):=by
 rcases h with ⟨hl,⟨h0,_⟩ | ⟨g',c,cur,hv,hb,hg,hr,hm,hs,ht⟩⟩
 ·injection h0 with h0;cases h0
 ·injection hv with h1 h2 h3
  injection h1 with h1
  injection h1 with h1
  subst h1 h3
  refine ⟨by rw [List.length_set];exact hl,.inr ⟨g,cap,_,rfl,hb,setCell_block hg j v,hr,hm,by simpa using hs,?_⟩⟩
  rw [← ht]
  simp only [Array.toList_setIfInBounds,List.take_set]
/-- A thing in memory: an object's block, or a slice's row. -/
inductive It where
 | obj (b : Nat) (t : TypeId) (cs : List Value)
 | row (a : Option Addr) (n cap : Nat) (e : TypeId) (size : Nat) (xs : List Value)
def It.Is (w : World) (B : Nat) : It → Prop
 | .obj b t cs=>ObjAt w b t cs ∧ B ≤ b
 | .row a n cap e size xs=>Own w B e size a n cap xs
def It.fp : It → List Nat
 | .obj b _ _=>[b]
 | .row a _ _ _ _ _=>blk a
section
variable {w w' : World} {B : Nat} {x y : It} {S : List Nat}
theorem It.Is.mod (h : x.Is w B) (hm : Mod S w w') (hd : ∀ k ∈ x.fp,k ∉ S) : x.Is w' B:=by
 cases x with
 | obj b t cs=>exact ⟨h.1.mod hm (hd b (by simp [It.fp])),h.2⟩
 | row a n cap e size xs=>exact Own.mod h hm hd
end
/-- A second act that turns, of what lay there at first, no more. -/
theorem Mod.then {S T : List Nat} {x y z : World} (h : Mod S x y) (k : Mod T y z) (hs : ∀ i ∈ T,i < x.heap.size → i ∈ S) : Mod S x z:=
 ⟨k.os.trans h.os,k.tape.trans h.tape,k.output.trans h.output,Nat.le_trans h.size k.size,fun i hi hn=>(k.block i (Nat.lt_of_lt_of_le hi h.size) (fun hm=>hn (hs i hm hi))).trans (h.block i hi hn)⟩
def Dj (S T : List Nat) : Prop:=∀ k ∈ S,k ∉ T
/-- Things that lie apart, all from B on. -/
def Fam (w : World) (B : Nat) (l : List It) : Prop:=(∀ x ∈ l,x.Is w B) ∧ l.Pairwise (fun x y=>Dj x.fp y.fp)
/-- The blocks of a family. -/
def fps (l : List It) : List Nat:=l.flatMap It.fp
theorem mem_fps {l : List It} {k : Nat} : k ∈ fps l ↔ ∃ x ∈ l,k ∈ x.fp:=by simp [fps]
namespace Fam
variable {w w' : World} {B : Nat} {l m : List It} {S : List Nat}
theorem mod (h : Fam w B l) (hm : Mod S w w') (hd : Dj (fps l) S) : Fam w' B l:=
 ⟨fun x hx=>(h.1 x hx).mod hm (fun k hk=>hd k (mem_fps.2 ⟨x,hx,hk⟩)),h.2⟩
end Fam
/-- What an act on a family leaves: the family turned, nothing besides. -/
structure Acts (B : Nat) (l l' : List It) (w w' : World) : Prop where
 fam : Fam w' B l'
 mod : Mod (fps l) w w'
 at_ : ∀ k ∈ fps l',k ∈ fps l ∨ w.heap.size ≤ k
namespace Acts
variable {B : Nat} {l l' l'' r : List It} {w w' w'' : World}
theorem trans (h : Acts B l l' w w') (k : Acts B l' l'' w' w'') : Acts B l l'' w w'':=
 ⟨k.fam,⟨k.mod.os.trans h.mod.os,k.mod.tape.trans h.mod.tape,k.mod.output.trans h.mod.output,Nat.le_trans h.mod.size k.mod.size,fun i hi hn=>(k.mod.block i (Nat.lt_of_lt_of_le hi h.mod.size) (fun hm=>by
   rcases h.at_ i hm with h1 | h1
   ·exact hn h1
   ·omega)).trans (h.mod.block i hi hn)⟩,fun x hx=>by
  rcases k.at_ x hx with h1 | h1
  ·exact h.at_ x h1
  ·exact .inr (Nat.le_trans h.mod.size h1)⟩
end Acts
end Go.Proofs.YtoklonmiejdgmaaGreatDoor
/- Package parts: the table's state; the iterator over its runs. -/
namespace Go.Proofs.YtoklonmiejdgmaaGreatDoor
set_option linter.unusedVariables false
set_option linter.unusedSimpArgs false
set_option linter.unnecessarySimpa false
open Go.RowKit Go.Shelf
set_option maxHeartbeats 400000
set_option maxRecDepth 100000
attribute [local go_sem] Oper.semAt_some
theorem wide_fn (f : FuncId) : Fence.wide.fn f = True:=rfl
/-- A run: where it begins, how many places, whose. -/
abbrev Rn:=Nat × Nat × Nat
def rnC (r : Rn) : List Value:=[.int .i64 r.1,.int .i64 r.2.1,.int .i64 r.2.2]
def rnF (l : List Rn) : List Value:=(l.map rnC).flatten
theorem rnF_len (l : List Rn) : (rnF l).length = l.length * 3:=by
 rw [rnF,flatten_len (N:=3) _ (by intro r hr;obtain ⟨x,_,rfl⟩:=List.mem_map.1 hr;rfl)];simp
theorem rnF_get (l : List Rn) (k j : Nat) (hk : k < l.length) (hj : j < 3) : (rnF l)[k * 3 + j]? = (rnC l[k])[j]?:=by
 rw [rnF,flatten_get (N:=3) _ k j (by intro r hr;obtain ⟨x,_,rfl⟩:=List.mem_map.1 hr;rfl) (by simpa using hk) hj];simp
theorem rnF_app (l m : List Rn) : rnF (l ++ m) = rnF l ++ rnF m:=by simp [rnF]
/-- The runs of a table of n places: in order, apart, inside. -/
structure Okr (n : Nat) (R : List Rn) : Prop where
 n64 : n ≤ 64
 each : ∀ r ∈ R,1 ≤ r.2.1 ∧ r.1 + r.2.1 ≤ n ∧ r.2.2 < 64
 sorted : R.Pairwise (fun r s=>r.1 + r.2.1 ≤ s.1)
theorem runs_few : ∀ (R : List Rn) (lo n : Nat),(∀ r ∈ R,1 ≤ r.2.1 ∧ lo ≤ r.1 ∧ r.1 + r.2.1 ≤ n) → R.Pairwise (fun r s=>r.1 + r.2.1 ≤ s.1) → R = [] ∨ R.length + lo ≤ n
 | [],_,_,_,_=>.inl rfl
 | r :: R,lo,n,h,hp=>by
  rw [List.pairwise_cons] at hp
  have h0:=h r (by simp)
  have ih:=runs_few R (r.1 + r.2.1) n (fun s hs=>⟨(h s (by simp [hs])).1,hp.1 s hs,(h s (by simp [hs])).2.2⟩) hp.2
  right
  rcases ih with rfl | ih
  ·simp;omega
  ·simp;omega
theorem Okr.few {n : Nat} {R : List Rn} (h : Okr n R) : R.length ≤ 64:=by
 have h64:=h.n64
 rcases runs_few R 0 n (fun r hr=>⟨(h.each r hr).1,by omega,(h.each r hr).2.1⟩) h.sorted with rfl | h1
 ·simp
 ·omega
theorem Okr.nil {n : Nat} (h : n ≤ 64) : Okr n []:=⟨h,by simp,List.Pairwise.nil⟩
/-- A table in memory. -/
structure TSt (w : World) (B tt : Nat) (a : Option Addr) (cap n : Nat) (R : List Rn) : Prop where
 obj : ObjAt w tt 223 [.slice a R.length cap,.int .i64 n,.bool true]
 own : Own w B 227 3 a R.length cap (rnF R)
 ok : Okr n R
namespace TSt
variable {w w' : World} {B tt cap n : Nat} {a : Option Addr} {R : List Rn}
theorem below (h : TSt w B tt a cap n R) (hb : Below w.heap.size w w') : TSt w' B tt a cap n R:=⟨h.obj.below hb,h.own.below hb,h.ok⟩
theorem mono {B' : Nat} (h : TSt w B tt a cap n R) (hB : B' ≤ B) : TSt w B' tt a cap n R:=⟨h.obj,h.own.mono hB,h.ok⟩
theorem mod {S : List Nat} (h : TSt w B tt a cap n R) (hm : Mod S w w') (h1 : tt ∉ S) (h2 : ∀ k ∈ blk a,k ∉ S) : TSt w' B tt a cap n R:=⟨h.obj.mod hm h1,h.own.mod hm h2,h.ok⟩
end TSt
theorem ObjAt.belowAt {w w' : World} {b n0 : Nat} {t : TypeId} {cs : List Value} (h : ObjAt w b t cs) (hb : Below n0 w w') (hlt : b < n0) : ObjAt w' b t cs:=(hb.block b hlt).trans h
/-- What the iterator's walk reads: the table's object and its row, in blocks below n0. -/
structure TRd (w : World) (n0 tt : Nat) (a : Option Addr) (cap n : Nat) (R : List Rn) : Prop where
 obj : ObjAt w tt 223 [.slice a R.length cap,.int .i64 n,.bool true]
 rd : Rd w 3 a R.length (rnF R)
 lt : tt < n0
 blk : ∀ k ∈ blk a,k < n0
theorem TSt.rdt {w : World} {B tt cap n : Nat} {a : Option Addr} {R : List Rn} (h : TSt w B tt a cap n R) : TRd w w.heap.size tt a cap n R:=⟨h.obj,h.own.rd,h.obj.lt,fun k hk=>(h.own.ge k hk).2⟩
theorem TRd.below {w w' : World} {n0 tt cap n : Nat} {a : Option Addr} {R : List Rn} (h : TRd w n0 tt a cap n R) (hb : Below n0 w w') : TRd w' n0 tt a cap n R:=
 ⟨h.obj.belowAt hb h.lt,⟨h.rd.1,h.rd.2.1,fun p hp hx=>by
  obtain ⟨b,o,h1,h2,h3⟩:=h.rd.2.2 p hp hx
  have hlt : b < n0:=h.blk b (mem_blk.2 ⟨p,hp,by rw [h1]⟩)
  have hsz:=hb.size
  refine ⟨b,o,h1,by omega,fun j u hu=>?_⟩
  exact (hb.cell (p:=⟨b,o + j,none⟩) hlt).trans (h3 j u hu)⟩,h.lt,h.blk⟩
theorem TRd.at_ {w : World} {n0 tt cap n : Nat} {a : Option Addr} {R : List Rn} (h : TRd w n0 tt a cap n R) (hn : 0 < R.length) : ∃ b o,a = some ⟨b,o,none⟩ ∧ b < n0:=by
 have ha : a ≠ none:=fun h0=>by have:=h.rd.2.1 h0;omega
 obtain ⟨p,rfl⟩:=Option.ne_none_iff_exists'.1 ha
 have hne : rnF R ≠ []:=by intro h0;have:=rnF_len R;rw [h0] at this;simp at this;omega
 obtain ⟨b,o,rfl,h2,h3⟩:=h.rd.2.2 p rfl hne
 exact ⟨b,o,rfl,h.blk b (mem_blk.2 ⟨_,rfl,rfl⟩)⟩
theorem TRd.cells {w : World} {n0 tt cap n b o : Nat} {R : List Rn} (h : TRd w n0 tt (some ⟨b,o,none⟩) cap n R) (k : Nat) (hk : k < R.length) :
  w.cell? ⟨b,o + k * 3,none⟩ = some (.int .i64 R[k].1) ∧ w.cell? ⟨b,o + k * 3 + 1,none⟩ = some (.int .i64 R[k].2.1) ∧ w.cell? ⟨b,o + k * 3 + 2,none⟩ = some (.int .i64 R[k].2.2):=by
 have hne : rnF R ≠ []:=by intro h0;have:=rnF_len R;rw [h0] at this;simp at this;omega
 obtain ⟨b',o',e,_,h3⟩:=h.rd.2.2 _ rfl hne
 injection e with e1 e2
 subst e1 e2
 refine ⟨?_,?_,?_⟩
 ·exact h3 (k * 3) _ (by have:=rnF_get R k 0 hk (by omega);simpa [rnC] using this)
 ·have:=h3 (k * 3 + 1) (.int .i64 R[k].2.1) (by have:=rnF_get R k 1 hk (by omega);simpa [rnC] using this)
  rwa [← Nat.add_assoc] at this
 ·have:=h3 (k * 3 + 2) (.int .i64 R[k].2.2) (by have:=rnF_get R k 2 hk (by omega);simpa [rnC] using this)
  rwa [← Nat.add_assoc] at this
/-- What the iterator hands over. -/
def runV (r : Rn) : Value:=.agg #[.int .i64 r.1,.int .i64 r.2.1,.int .i64 r.2.2]
/-- Whatever a round is handed: numbers up to 64. -/
def cl (n : Nat) : Nat:=min n 64
theorem cl_le (n : Nat) : cl n ≤ 64:=Nat.min_le_right _ _
theorem cl_eq {n : Nat} (h : n ≤ 64) : cl n = n:=Nat.min_eq_left h
def clR (r : Rn) : Rn:=(cl r.1,cl r.2.1,cl r.2.2)
def encR (x : Nat × Rn) : Array Value:=#[.int .i64 (cl x.1 : Nat),runV (clR x.2)]
/-- The runs that came. -/
def came (pre : List (Nat × Rn)) : List Rn:=pre.map (fun x=>clR x.2)
theorem came_snoc (pre : List (Nat × Rn)) (x : Nat × Rn) : came (pre ++ [x]) = came pre ++ [clR x.2]:=by simp [came]
theorem Okr.cl {n : Nat} {R : List Rn} (h : Okr n R) {r : Rn} (hr : r ∈ R) : clR r = r:=by
 have h0:=h.each r hr
 have h64:=h.n64
 unfold clR
 rw [cl_eq (by omega),cl_eq (by omega),cl_eq (by omega)]
/-- The runs, numbered. -/
def numbered (R : List Rn) (k : Nat) : List (Nat × Rn):=((List.range R.length).zip R).take k
theorem numbered_len (R : List Rn) {k : Nat} (h : k ≤ R.length) : (numbered R k).length = k:=by simp [numbered];omega
theorem numbered_succ (R : List Rn) {k : Nat} (h : k < R.length) : numbered R (k + 1) = numbered R k ++ [(k,R[k])]:=by
 unfold numbered
 rw [List.take_succ_eq_append_getElem (by simpa using h)]
 simp
theorem numbered_snd (R : List Rn) (k : Nat) : (numbered R k).map Prod.snd = R.take k:=by
 unfold numbered
 rw [List.map_take,List.map_snd_zip (by simp)]
theorem came_numbered {n : Nat} {R : List Rn} (h : Okr n R) (k : Nat) : came (numbered R k) = R.take k:=by
 rw [← numbered_snd]
 unfold came
 refine List.map_congr_left (fun x hx=>?_)
 have : x.2 ∈ R:=by
  have h1 : x.2 ∈ (numbered R k).map Prod.snd:=List.mem_map_of_mem hx
  rw [numbered_snd] at h1
  exact List.mem_of_mem_take h1
 exact h.cl this
theorem all1_in (F : Fence) (n : Nat) (hF : F.fn 205) (hro : F.round = none) (hn : 1 ≤ n) (l Bn n0 tt cap N : Nat) (a : Option Addr) (R : List Rn) (hok : Okr N R) (J Jx : List (Nat × Rn) → World → Prop) (B0 : Nat) (hJ : AbidesFrom B0 J)
  (hY : ∀ pre x W,J pre W → pre.length < R.length → YieldAt F (n - 1) Tryz.prog l (encR x) W fun e W'=>
   (e = .returned (.bool true) ∧ J (pre ++ [x]) W' ∧ Below n0 W W') ∨ (e = .returned (.bool false) ∧ Jx (pre ++ [x]) W'))
  (W : World) (hn0 : n0 ≤ W.heap.size) (hBn : W.cell? ⟨Bn,0,none⟩ = some (.pointer (some ⟨tt,0,none⟩))) (hT : TRd W n0 tt a cap N R) (h0 : J [] W) :
  CallsIn F n Tryz.prog 205 #[.func (.yield l) #[] #[],.pointer (some ⟨Bn,0,none⟩)] W fun e W'=>(∃ v,e = .returned v) ∧
   ((∃ ys,ys = numbered R R.length ∧ J ys W') ∨ (∃ pre,(∃ k,k ≤ R.length ∧ pre = numbered R k) ∧ Jx pre W')):=by
 have c0:=hT.obj.cell 0 _ rfl
 have h64:=hok.few
 refine callsIn_of_wp Tryz.func205 rfl hF ?_ hro
 simp only [Tryz.ntmps205,List.size_toArray,List.length_cons,List.length_nil,Nat.reduceAdd,Nat.reduceSub,Array.replicate_succ,Array.replicate_zero,List.push_toArray,List.append_toArray,List.nil_append,List.cons_append]
 gi_wp2
 gi_loopw [10] (fun i wr=>∃ k : Nat,k ≤ R.length ∧ i = .int .i64 k ∧ J (numbered R k) wr ∧ Below n0 W wr)
  (fun i _=>R.length - (intOf i).toNat)
 case atStart=>exact ⟨0,Nat.zero_le _,rfl,h0,Below.refl _ _⟩
 case round=>
  obtain ⟨k,hk,rfl,hJs,hnx⟩:=hrel
  by_cases hlt : k < R.length
  ·have hTr:=hT.below hnx
   obtain ⟨b,o,rfl,hb⟩:=hTr.at_ (by omega)
   obtain ⟨k0,k1,k2⟩:=hTr.cells k hlt
   have HS : Hid (numbered R (k + 1) = numbered R k ++ [(k,R[k])]):=numbered_succ R hlt
   have hlen:=numbered_len R (Nat.le_of_lt hlt)
   have hJ2 : J (numbered R k) (wr.alloc (.cells #[.int .i64 R[k].1,.int .i64 R[k].2.1,.int .i64 R[k].2.2] 227)):=hJ _ _ _ none hJs (World.grownBy_alloc _ _ none) (fun r h=>by cases h)
   obtain ⟨fn,tmps,assign,body,hy,hR⟩:=hY _ (k,R[k]) _ hJ2 (by rw [hlen];exact hlt)
   dsimp only [encR] at hy
   rw [hok.cl (List.getElem_mem hlt),cl_eq (show k ≤ 64 by omega)] at hy
   dsimp only [runV] at hy
   have hsz:=hnx.size
   have HB:=Lib.hid hnx
   clear hTr hJs hJ2 hnx hT h0 hY
   generalize R[k] = x at k0 k1 k2 hy hR HS
   have hk0 : (0 : Int) ≤ k:=by omega
   have hk1 : (k : Int) < (R.length : Int):=by omega
   gi_wp2
   refine hR.mono ?_
   rintro e W3 (⟨rfl,hJ3,hk3⟩ | ⟨rfl,hJx3⟩)
   ·gi_wp2
    go_roundw
    case rel=>exact ⟨k + 1,by omega,by simp,by rw [HS.out];exact hJ3,((HB.out.alloc (by omega) _).trans hk3)⟩
    case measure=>simp [intOf];omega
   ·gi_wp2
    refine bodyPost_ret (results_none rfl _ _ _) rfl ?_
    exact ⟨⟨_,rfl⟩,.inr ⟨_,⟨k + 1,by omega,HS.out.symm⟩,hJx3⟩⟩
  ·obtain rfl : k = R.length:=by omega
   gi_wp2
   go_end0
   exact ⟨⟨_,rfl⟩,.inl ⟨_,rfl,hJs⟩⟩
/-- t.all(): the table's pointer is boxed; the function value captures the box. -/
theorem all_in (F : Fence) (n : Nat) (hF : F.fn 187) (hro : F.round = none) (p : Option Addr) (w : World) :
  CallsIn F n Tryz.prog 187 #[.pointer p] w fun e w'=>e = .returned (.func (.func 205) #[] #[.pointer (some ⟨w.heap.size,0,none⟩)]) ∧ w' = w.alloc (.cells #[.pointer p] 188):=by
 refine callsIn_of_wp Tryz.func187 rfl hF ?_ hro
 simp only [Tryz.ntmps187,List.size_toArray,List.length_cons,List.length_nil,Nat.reduceAdd,Nat.reduceSub,Array.replicate_succ,Array.replicate_zero,List.push_toArray,List.append_toArray,List.nil_append,List.cons_append]
 gi_wp2
 go_ret
 exact ⟨rfl,rfl⟩
/-- The iterator: all runs, in order, numbered; or some of the first. -/
theorem all_stops (F : Fence) (n : Nat) (hF : F.fn 205) (hro : F.round = none) (hn : 1 ≤ n) (Bn n0 tt cap N : Nat) (a : Option Addr) (R : List Rn) (hok : Okr N R) (w : World) (hBn : Bn < w.heap.size) (hn0 : n0 ≤ w.heap.size)
  (hc : w.cell? ⟨Bn,0,none⟩ = some (.pointer (some ⟨tt,0,none⟩))) (hT : TRd w n0 tt a cap N R) :
  SeqStopsK F n Tryz.prog 205 #[.pointer (some ⟨Bn,0,none⟩)] encR (Below n0) (fun ys=>ys = numbered R R.length) (fun pre=>∃ k,k ≤ R.length ∧ pre = numbered R k) R.length w:=fun l J Jx W hW hJ _ hY h0=>
 all1_in F n hF hro hn l Bn n0 tt cap N a R hok J Jx _ hJ hY W (Nat.le_trans hn0 hW.size) ((hW.cell (p:=⟨Bn,0,none⟩) hBn).trans hc) (hT.below (hW.mono hn0)) h0
end Go.Proofs.YtoklonmiejdgmaaGreatDoor
/- Package parts: Free. -/
namespace Go.Proofs.YtoklonmiejdgmaaGreatDoor
set_option linter.unusedVariables false
set_option linter.unusedSimpArgs false
set_option linter.unnecessarySimpa false
open Go.RowKit Go.Shelf
set_option maxHeartbeats 400000
set_option maxRecDepth 100000
attribute [local go_sem] Oper.semAt_some wide_fn
attribute [local simp] wide_fn
theorem objAt_own {β : Type} (b : Nat) (t : TypeId) (cs : List Value) : Go.Own (fun (_ : β) W=>ObjAt W b t cs):=fun s X Y row hs hg hrow=>
 (hg.block b (ObjAt.lt hs) (fun e=>by
  obtain ⟨o,ho,hc⟩:=hrow b e.symm
  rw [show X.heap[b]? = _ from hs] at ho
  cases ho
  cases hc)).trans hs
theorem boxed_drew {W : World} {B : Nat} {t : TypeId} {v : Value} (h : Boxed W B t v) : Boxed W.drew B t v:=h
theorem none_no (B tt cap n : Nat) (a : Option Addr) (R : List Rn) (w : World) (h : TSt w B tt a cap n R) : Calls Tryz.prog 166 #[.pointer (some ⟨tt,0,none⟩)] w fun e w'=>e = .returned (.bool false) ∧ w = w':=by
 have c2:=h.obj.cell 2 _ rfl
 clear h
 go_enter Tryz.func166,Tryz.ntmps166
 go_wp2
 go_ret
 exact ⟨rfl,rfl⟩
theorem end_any (f n who : Nat) (w : World) (hf : f ≤ 64) (hn : n ≤ 64) : Calls Tryz.prog 188 #[runV (f,n,who)] w fun e w'=>e = .returned (.int .i64 ((f : Int) + n)) ∧ w.alloc (.cells #[.int .i64 f,.int .i64 n,.int .i64 who] 227) = w':=by
 unfold runV
 go_enter Tryz.func188,Tryz.ntmps188
 go_wp2
 go_ret
 exact ⟨rfl,rfl⟩
end Go.Proofs.YtoklonmiejdgmaaGreatDoor
/- Package parts: Who. -/
namespace Go.Proofs.YtoklonmiejdgmaaGreatDoor
set_option linter.unusedVariables false
set_option linter.unusedSimpArgs false
set_option linter.unnecessarySimpa false
open Go.RowKit Go.Shelf
set_option maxHeartbeats 400000
set_option maxRecDepth 100000
attribute [local go_sem] Oper.semAt_some wide_fn
attribute [local simp] wide_fn
def hits (i : Int) (r : Rn) : Bool:=decide ((r.1 : Int) ≤ i) && decide (i < (r.1 : Int) + r.2.1)
end Go.Proofs.YtoklonmiejdgmaaGreatDoor
/- A scope that no goto enters or leaves, inside a fence. -/
namespace Go.Proofs.YtoklonmiejdgmaaGreatDoor
set_option linter.unusedVariables false
set_option linter.unusedSimpArgs false
set_option linter.unnecessarySimpa false
open Go
section
variable {F : Fence} {n : Nat} {P : Program} {b : Frame} {a : Act} {k : List Item} {cs : List Frame} {w : World} {Q : Exit → Act → World → Prop}
theorem stepR_scope {c : Code} : step P (lone (b.atR a (.code (.scope c) :: k)) cs w) = .next (lone (b.atR a (.code c :: .inScope c :: k)) cs w):=
 step_lone_go (by simp [stepG,stepG.exec,Frame.atR])
theorem stepR_inScope {c : Code} : step P (lone (b.atR a (.inScope c :: k)) cs w) = .next (lone (b.atR a k) cs w):=
 step_lone_go (by simp [stepG,stepG.exec,Frame.atR])
theorem wpIn_scope {c : Code} (h : c.wpIn F n P (Exit.noGoto Q) a w) : (Code.scope c).wpIn F n P Q a w:=by
 intro b k cs hro hb hr
 have h0 : (lone (b.atR a (.code (.scope c) :: k)) cs w).fenced P F:=fenced_calm hb hr rfl
 obtain ⟨e,a1,w1,hq,harr⟩:=h b (.inScope c :: k) cs hro hb hr
 cases e with
 | normal=>exact ⟨.normal,a1,w1,hq,.head h0 stepR_scope (StepsIn.trans harr (.one (fenced_calm hb hr rfl) stepR_inScope))⟩
 | exit id=>
  have hx : exitTo id (.inScope c :: k) = exitTo id k:=by simp [exitTo]
  exact ⟨.exit id,a1,w1,hq,fun k' hk=>.head h0 stepR_scope (harr.1 k' (by rw [hx];exact hk)),
   fun hr' hk=>let ⟨k1,h1,h2⟩:=harr.2 hr' (by rw [hx];exact hk);⟨k1,h1,.head h0 stepR_scope h2⟩⟩
 | goto l=>exact hq.elim
 | ret=>exact ⟨_,a1,w1,hq,.of_steps (.one h0 stepR_scope) harr⟩
 | panic ch=>exact ⟨_,a1,w1,hq,.of_steps (.one h0 stepR_scope) harr⟩
 | outgrown=>exact ⟨_,a1,w1,hq,.of_steps (.one h0 stepR_scope) harr⟩
end
end Go.Proofs.YtoklonmiejdgmaaGreatDoor
/- Package parts: meets. -/
namespace Go.Proofs.YtoklonmiejdgmaaGreatDoor
set_option linter.unusedVariables false
set_option linter.unusedSimpArgs false
set_option linter.unnecessarySimpa false
open Go.RowKit Go.Shelf
set_option maxHeartbeats 400000
set_option maxRecDepth 100000
attribute [local go_sem] Oper.semAt_some wide_fn
attribute [local simp] wide_fn
def meetV (f m : Nat) : List Rn → Nat × Bool
 | []=>(0,false)
 | r :: R=>if r.1 + r.2.1 ≤ f then ((meetV f m R).1 + 1,(meetV f m R).2) else (0,decide (r.1 < f + m))
def passed (f : Nat) (R : List Rn) : Bool:=R.all (fun r=>decide (r.1 + r.2.1 ≤ f))
theorem meet_pass (f m : Nat) : ∀ R,passed f R = true → meetV f m R = (R.length,false)
 | [],_=>rfl
 | r :: R,h=>by
  simp only [passed,List.all_cons,Bool.and_eq_true,decide_eq_true_eq] at h
  have ih:=meet_pass f m R h.2
  simp only [meetV,if_pos h.1,ih,List.length_cons]
theorem meet_stop (f m : Nat) (r : Rn) (S : List Rn) (h2 : ¬ r.1 + r.2.1 ≤ f) : ∀ R,passed f R = true → meetV f m (R ++ r :: S) = (R.length,decide (r.1 < f + m))
 | [],_=>by simp [meetV,h2]
 | q :: R,h=>by
  simp only [passed,List.all_cons,Bool.and_eq_true,decide_eq_true_eq] at h
  have ih:=meet_stop f m r S h2 R h.2
  simp only [List.cons_append,meetV,if_pos h.1,ih,List.length_cons]
theorem passed_snoc (f : Nat) (R : List Rn) (r : Rn) : passed f (R ++ [r]) = (passed f R && decide (r.1 + r.2.1 ≤ f)):=by simp [passed]
/-- Where a round has left the loop. -/
def Left (f m at_ : Nat) (hit : Bool) (pre : List (Nat × Rn)) : Prop:=∃ pre0 x,pre = pre0 ++ [x] ∧ passed f (came pre0) = true ∧ ¬ (clR x.2).1 + (clR x.2).2.1 ≤ f ∧ at_ = cl x.1 ∧ hit = decide ((clR x.2).1 < f + m)
theorem numbered_last {R : List Rn} {k : Nat} (hk : k ≤ R.length) {pre0 : List (Nat × Rn)} {x : Nat × Rn} (h : numbered R k = pre0 ++ [x]) : ∃ j,k = j + 1 ∧ ∃ hj : j < R.length,pre0 = numbered R j ∧ x = (j,R[j]):=by
 have hl:=numbered_len R hk
 rw [h,List.length_append] at hl
 simp only [List.length_cons,List.length_nil] at hl
 obtain ⟨j,rfl⟩ : ∃ j,k = j + 1:=⟨k - 1,by omega⟩
 have hs:=numbered_succ R (k:=j) (by omega)
 rw [h] at hs
 have:=List.append_inj' hs (by simp)
 refine ⟨j,rfl,by omega,this.1,?_⟩
 have h2:=this.2
 simpa using h2
theorem left_meet {n : Nat} {R : List Rn} (hok : Okr n R) {f m at_ k : Nat} {hit : Bool} (hk : k ≤ R.length) (h : Left f m at_ hit (numbered R k)) : meetV f m R = (at_,hit):=by
 obtain ⟨pre0,x,h1,h2,h3,h4,h5⟩:=h
 obtain ⟨j,rfl,hj,rfl,rfl⟩:=numbered_last hk h1
 have hfew:=hok.few
 rw [came_numbered hok] at h2
 dsimp only at h3 h4 h5
 rw [hok.cl (List.getElem_mem hj)] at h3 h5
 rw [cl_eq (by omega)] at h4
 have:=meet_stop f m R[j] (R.drop (j + 1)) h3 (R.take j) h2
 rw [← List.drop_eq_getElem_cons hj,List.take_append_drop,List.length_take,Nat.min_eq_left (by omega)] at this
 rw [this,h4,h5]
set_option maxHeartbeats 8000000 in
theorem meets_any (B tt cap n : Nat) (a : Option Addr) (R : List Rn) (f m : Nat) (hf : f ≤ 64) (hm : m ≤ 64) (w : World) (h : TSt w B tt a cap n R) : Calls Tryz.prog 167 #[.pointer (some ⟨tt,0,none⟩),.int .i64 f,.int .i64 m] w fun e w'=>e = .returned (.tuple #[.int .i64 (meetV f m R).1,.bool (meetV f m R).2]) ∧ Below w.heap.size w w':=by
 have H:=Lib.hid h
 have htt:=h.obj.lt
 have hfew:=h.ok.few
 have c0:=h.obj.cell 0 _ rfl
 clear h
 refine (callsIn_wide (n:=9)).1 ?_
 refine callsIn_of_wp_marks Tryz.func167 rfl trivial ?_ rfl
 simp only [Tryz.ntmps167,List.size_toArray,List.length_cons,List.length_nil,Nat.reduceAdd,Nat.reduceSub,Array.replicate_succ,Array.replicate_zero,List.push_toArray,List.append_toArray,List.nil_append,List.cons_append]
 gi_wp2
 refine wpIn_scope ?_
 gi_wp2
 refine wpIn_label ?_
 gi_wp2_with (gi_at_call 187;refine (all_in Fence.wide _ trivial rfl _ _).mono ?_;rintro e w' ⟨rfl,rfl⟩)
 obtain ⟨b,hb⟩ : ∃ b,b = w.heap.size:=⟨_,rfl⟩
 obtain ⟨W0,hW0⟩ : ∃ W0,W0 = ((((w.alloc (.cells #[.int .i64 f] 3)).alloc (.cells #[.int .i64 m] 3)).alloc (.cells #[.int .i64 R.length] 3)).alloc (.cells #[.bool false] 4)).alloc (.cells #[.pointer (some ⟨tt,0,none⟩)] 188):=⟨_,rfl⟩
 have hBF : Boxed W0 b 3 (.int .i64 f):=by rw [hW0,hb];exact ((((Boxed.new w _ _).alloc _).alloc _).alloc _).alloc _
 have hBM : Boxed W0 (b + 1) 3 (.int .i64 m):=by
  rw [hW0,hb]
  have:=(((Boxed.new (w.alloc (.cells #[.int .i64 f] 3)) 3 (.int .i64 m)).alloc (.cells #[.int .i64 R.length] 3)).alloc (.cells #[.bool false] 4)).alloc (.cells #[.pointer (some ⟨tt,0,none⟩)] 188)
  simpa only [World.size_alloc] using this
 have hBA : Boxed W0 (b + 1 + 1) 3 (.int .i64 R.length):=by
  rw [hW0,hb]
  have:=((Boxed.new ((w.alloc (.cells #[.int .i64 f] 3)).alloc (.cells #[.int .i64 m] 3)) 3 (.int .i64 R.length)).alloc (.cells #[.bool false] 4)).alloc (.cells #[.pointer (some ⟨tt,0,none⟩)] 188)
  simpa only [World.size_alloc] using this
 have hBH : Boxed W0 (b + 1 + 1 + 1) 4 (.bool false):=by
  rw [hW0,hb]
  have:=(Boxed.new (((w.alloc (.cells #[.int .i64 f] 3)).alloc (.cells #[.int .i64 m] 3)).alloc (.cells #[.int .i64 R.length] 3)) 4 (.bool false)).alloc (.cells #[.pointer (some ⟨tt,0,none⟩)] 188)
  simpa only [World.size_alloc] using this
 have hBT : Boxed W0 (b + 1 + 1 + 1 + 1) 188 (.pointer (some ⟨tt,0,none⟩)):=by
  rw [hW0,hb]
  have:=Boxed.new ((((w.alloc (.cells #[.int .i64 f] 3)).alloc (.cells #[.int .i64 m] 3)).alloc (.cells #[.int .i64 R.length] 3)).alloc (.cells #[.bool false] 4)) 188 (.pointer (some ⟨tt,0,none⟩))
  simpa only [World.size_alloc] using this
 have hsz : W0.heap.size = b + 5:=by rw [hW0,hb];simp
 have hB0 : Below w.heap.size w W0:=by rw [hW0];exact ((((((Below.refl _ w).alloc (Nat.le_refl _) _).alloc (by simp) _).alloc (by simp;omega) _).alloc (by simp;omega) _).alloc (by simp;omega) _)
 rw [← hW0,← hb]
 rw [← hb] at htt hB0
 have HTR:=Lib.hid (H.out.rdt)
 rw [← hb] at HTR
 have HWB : Hid (w.heap.size = b):=hb.symm
 clear hW0 c0 hb
 refine wpIn_rangeFunc_ownH (F:=Fence.wide) rfl (by omega) (gf:=205) (lb:=#[.pointer (some ⟨b + 1 + 1 + 1 + 1,0,none⟩)]) rfl trivial (enters_of Tryz.func205 (by kernel_rfl) rfl)
  (all_stops Fence.wide _ trivial rfl (by omega) (b + 1 + 1 + 1 + 1) b tt cap n a R H.out.ok W0 (by omega) (by omega) hBT.cell (HTR.out.below hB0)) belowK_t (belowK_b (by omega)) (Below.refl _ _) (fun _=>rfl)
  (fun pre W=>((Boxed W b 3 (.int .i64 f) ∧ Boxed W (b + 1) 3 (.int .i64 m)) ∧ (Boxed W (b + 1 + 1) 3 (.int .i64 R.length) ∧ Boxed W (b + 1 + 1 + 1) 4 (.bool false)) ∧ passed f (came pre) = true) ∧ Below b w W)
  (fun c pre W=>∃ (at_ : Nat) (hit : Bool),(Boxed W (b + 1 + 1) 3 (.int .i64 at_) ∧ Boxed W (b + 1 + 1 + 1) 4 (.bool hit)) ∧ ((c = .exit 0 ∧ Left f m at_ hit pre) ∧ Below b w W))
  (OwnFrom.and (OwnFrom.and (OwnFrom.and (Go.Own.from (boxed_own _ _ _) _) (Go.Own.from (boxed_own _ _ _) _)) (OwnFrom.and (OwnFrom.and (Go.Own.from (boxed_own _ _ _) _) (Go.Own.from (boxed_own _ _ _) _)) (ownFrom_pure _ _))) (ownFrom_below (by rw [HWB.out];exact Nat.le_refl _) (by omega)))
  (fun c s X Y row hs hg hr=>by
   obtain ⟨at_,hit,⟨h1,h2⟩,h3,h4⟩:=hs
   exact ⟨at_,hit,⟨(Go.Own.from (boxed_own _ _ (fun (_ : Unit)=>Value.int .i64 at_)) _) () X Y row h1 hg hr,(Go.Own.from (boxed_own _ _ (fun (_ : Unit)=>Value.bool hit)) _) () X Y row h2 hg hr⟩,h3,(ownFrom_below (β:=Unit) (by rw [HWB.out];exact Nat.le_refl _) (by omega)) () X Y row h4 hg hr⟩)
  ⟨⟨⟨hBF,hBM⟩,⟨hBA,hBH⟩,rfl⟩,hB0⟩
  (fun x a' W=>∃ Bx,b + 1 + 1 + 1 < Bx ∧ ObjAt W Bx 227 (rnC (clR x.2)) ∧ a' = { tmps:=#[.pointer (some ⟨tt,0,none⟩),.int .i64 f,.int .i64 m,undef,.pointer (some ⟨b,0,none⟩),.pointer (some ⟨b + 1,0,none⟩),.int .i64 0,.bool false,.pointer (some ⟨b + 1 + 1,0,none⟩),.pointer (some ⟨b + 1 + 1 + 1,0,none⟩),.int .i64 (cl x.1 : Nat),.pointer (some ⟨Bx,0,none⟩),.pointer (some ⟨tt,0,none⟩),.pointer (some ⟨tt,0,none⟩),.pointer (some ⟨tt,0,none⟩),.slice a R.length cap,.int .i64 R.length,.pointer (some ⟨tt,0,none⟩),.func (.func 205) #[] #[.pointer (some ⟨b + 1 + 1 + 1 + 1,0,none⟩)],.int .i64 (cl x.1 : Nat),runV (clR x.2),undef,undef,undef,undef,undef,undef,undef,undef,undef,undef,undef,undef,undef,undef,undef],defers:=[] })
  (fun x a' _ X Y row hs hg hr=>by obtain ⟨Bx,h1,h2,h3⟩:=hs;exact ⟨Bx,h1,objAt_own Bx 227 (rnC (clR x.2)) () X Y row h2 hg (fun r e=>(hr r e).2),h3⟩)
  ?assign ?body ?done ?stop
 case assign=>
  rintro l pre x W K ⟨⟨⟨h1,h2⟩,⟨h3,h4⟩,h5⟩,hB1⟩ hK
  have hbz : b ≤ W.heap.size:=Nat.le_of_lt h1.lt
  obtain ⟨ix,fr,mr,who⟩:=x
  simp only [encR,runV,clR]
  gi_wp2
  exact hK _ _ ((KeepsOthers.alloc _ _).from _) ((Below.refl _ W).alloc hbz _) ⟨⟨⟨h1.alloc _,h2.alloc _⟩,⟨h3.alloc _,h4.alloc _⟩,h5⟩,hB1.alloc hbz _⟩ ⟨W.heap.size,h4.lt,ObjAt.new W _ (rnC (clR (fr,mr,who))),rfl⟩
 case body=>
  rintro l pre x a' W hl hr ⟨⟨⟨h1,h2⟩,⟨h3,h4⟩,h5⟩,hB1⟩ ⟨Bx,hBx,bX,rfl⟩ hlt
  have hps:=passed_snoc f (came pre) (clR x.2)
  rw [← came_snoc,h5,Bool.true_and] at hps
  have HLF : Hid (¬ (clR x.2).1 + (clR x.2).2.1 ≤ f → ∀ hit,hit = decide ((clR x.2).1 < f + m) → Left f m (cl x.1) hit (pre ++ [x])):=fun hn hit he=>⟨pre,x,rfl,h5,hn,rfl,he⟩
  have hq0 : (clR x.2).1 ≤ 64:=cl_le _
  have hq1 : (clR x.2).2.1 ≤ 64:=cl_le _
  have hqi : cl x.1 ≤ 64:=cl_le _
  generalize clR x.2 = y at bX hps hq0 hq1 HLF
  generalize cl x.1 = ix at hqi HLF
  obtain ⟨fr,mr,who⟩:=y
  have HPS:=Lib.hid hps
  have x0:=bX.cell 0 _ rfl;have x1:=bX.cell 1 _ rfl;have x2:=bX.cell 2 _ rfl
  have k1:=h1.cell;have k2:=h2.cell;have k3:=h3.cell;have k4:=h4.cell
  have f3:=h3.frozen;have f4:=h4.frozen
  have hlB:=bX.lt
  have hl1 : b < W.heap.size:=h1.lt
  have hl2 : b + 1 < W.heap.size:=h2.lt
  have hl3 : b + 1 + 1 < W.heap.size:=h3.lt
  have hl4 : b + 1 + 1 + 1 < W.heap.size:=h4.lt
  have hmx : Tryz.prog.follows .mixedOrders = true:=by kernel_rfl
  dsimp only at hps hq0 hq1 HLF HPS
  clear hps
  by_cases g0 : fr + mr ≤ f
  ·have t0 : decide ((fr : Int) + mr ≤ f) = true:=by simp;omega
   obtain ⟨X,hX⟩ : ∃ X,X = (W.alloc (.cells #[.int .i64 fr,.int .i64 mr,.int .i64 who] 227)).drew:=⟨_,rfl⟩
   have FIN : Hid (KeepsFrom W0.heap.size W X ∧ Below b W X ∧ (((Boxed X b 3 (.int .i64 f) ∧ Boxed X (b + 1) 3 (.int .i64 m)) ∧ (Boxed X (b + 1 + 1) 3 (.int .i64 R.length) ∧ Boxed X (b + 1 + 1 + 1) 4 (.bool false)) ∧ passed f (came (pre ++ [x])) = true) ∧ Below b w X)):=by
    rw [hX]
    exact ⟨KeepsOthers.from (by (repeat (first | exact KeepsOthers.refl _ | refine KeepsOthers.trans ?_ (KeepsOthers.drew _) | refine KeepsOthers.trans ?_ (KeepsOthers.setCell _ _ _) | refine KeepsOthers.trans ?_ (KeepsOthers.alloc _ _)))) _,by (repeat (first | exact Below.refl _ _ | assumption | refine Below.drew ?_ | (refine Below.setCell ?_ ?_ _;rotate_left;(first | omega | (simp;done) | (simp;omega));rotate_left) | (refine Below.alloc ?_ ?_ _;rotate_left;(first | omega | (simp;done) | (simp;omega));rotate_left))),⟨⟨by (repeat (first | assumption | refine boxed_drew ?_ | refine Boxed.alloc ?_ _ | (refine Boxed.other ?_ ?_ _;rotate_left;(first | omega | (simp;done) | (simp;omega))) | exact Boxed.set _ (by (repeat (first | assumption | refine boxed_drew ?_ | refine Boxed.alloc ?_ _ | (refine Boxed.other ?_ ?_ _;rotate_left;(first | omega | (simp;done) | (simp;omega)))))))),by (repeat (first | assumption | refine boxed_drew ?_ | refine Boxed.alloc ?_ _ | (refine Boxed.other ?_ ?_ _;rotate_left;(first | omega | (simp;done) | (simp;omega))) | exact Boxed.set _ (by (repeat (first | assumption | refine boxed_drew ?_ | refine Boxed.alloc ?_ _ | (refine Boxed.other ?_ ?_ _;rotate_left;(first | omega | (simp;done) | (simp;omega))))))))⟩,⟨by (repeat (first | assumption | refine boxed_drew ?_ | refine Boxed.alloc ?_ _ | (refine Boxed.other ?_ ?_ _;rotate_left;(first | omega | (simp;done) | (simp;omega))) | exact Boxed.set _ (by (repeat (first | assumption | refine boxed_drew ?_ | refine Boxed.alloc ?_ _ | (refine Boxed.other ?_ ?_ _;rotate_left;(first | omega | (simp;done) | (simp;omega)))))))),by (repeat (first | assumption | refine boxed_drew ?_ | refine Boxed.alloc ?_ _ | (refine Boxed.other ?_ ?_ _;rotate_left;(first | omega | (simp;done) | (simp;omega))) | exact Boxed.set _ (by (repeat (first | assumption | refine boxed_drew ?_ | refine Boxed.alloc ?_ _ | (refine Boxed.other ?_ ?_ _;rotate_left;(first | omega | (simp;done) | (simp;omega))))))))⟩,by rw [HPS.out];simpa using g0⟩,by (repeat (first | exact Below.refl _ _ | assumption | refine Below.drew ?_ | (refine Below.setCell ?_ ?_ _;rotate_left;(first | omega | (simp;done) | (simp;omega));rotate_left) | (refine Below.alloc ?_ ?_ _;rotate_left;(first | omega | (simp;done) | (simp;omega));rotate_left)))⟩
   rw [hX] at FIN
   clear hX HLF HPS g0
   gi_wp2
   gi_region_with_o (gi_at_call 188;refine (CallsIn.inRound l (callsIn_wide.2 (end_any fr mr who _ hq0 hq1))).mono ?_;rintro e w' ⟨rfl,rfl⟩)
   all_goals gi_wp2
   all_goals exact FIN.out
  ·have t0 : decide ((fr : Int) + mr ≤ f) = false:=by simp;omega
   by_cases g1 : fr < f + m
   ·have t1 : decide ((fr : Int) < (f : Int) + m) = true:=by simp;omega
    have HL2:=Lib.hid (HLF.out g0 true (by simpa using g1))
    obtain ⟨X,hX⟩ : ∃ X,X = (((W.setCell ⟨b + 1 + 1 + 1,0,none⟩ (.bool true)).setCell ⟨b + 1 + 1,0,none⟩ (.int .i64 ix)).alloc (.cells #[.int .i64 fr,.int .i64 mr,.int .i64 who] 227)).drew:=⟨_,rfl⟩
    have FIN : Hid (KeepsFrom W0.heap.size W X ∧ (Boxed X (b + 1 + 1) 3 (.int .i64 ix) ∧ Boxed X (b + 1 + 1 + 1) 4 (.bool true)) ∧ Below b w X):=by
     rw [hX]
     exact ⟨KeepsOthers.from (by (repeat (first | exact KeepsOthers.refl _ | refine KeepsOthers.trans ?_ (KeepsOthers.drew _) | refine KeepsOthers.trans ?_ (KeepsOthers.setCell _ _ _) | refine KeepsOthers.trans ?_ (KeepsOthers.alloc _ _)))) _,⟨boxed_drew (((h3.other (by omega) _).set _).alloc _),boxed_drew (((h4.set _).other (by omega) _).alloc _)⟩,by (repeat (first | exact Below.refl _ _ | assumption | refine Below.drew ?_ | (refine Below.setCell ?_ ?_ _;rotate_left;(first | omega | (simp;done) | (simp;omega));rotate_left) | (refine Below.alloc ?_ ?_ _;rotate_left;(first | omega | (simp;done) | (simp;omega));rotate_left)))⟩
    rw [hX] at FIN
    clear hX HLF HPS g0 g1
    gi_wp2
    gi_region_with_o (gi_at_call 188;refine (CallsIn.inRound l (callsIn_wide.2 (end_any fr mr who _ hq0 hq1))).mono ?_;rintro e w' ⟨rfl,rfl⟩)
    all_goals gi_wp2
    all_goals exact ⟨FIN.out.1,_,_,FIN.out.2.1,⟨rfl,HL2.out⟩,FIN.out.2.2⟩
   ·have t1 : decide ((fr : Int) < (f : Int) + m) = false:=by simp;omega
    have HL2:=Lib.hid (HLF.out g0 false (by simpa using g1))
    obtain ⟨X,hX⟩ : ∃ X,X = ((W.setCell ⟨b + 1 + 1,0,none⟩ (.int .i64 ix)).alloc (.cells #[.int .i64 fr,.int .i64 mr,.int .i64 who] 227)).drew:=⟨_,rfl⟩
    have FIN : Hid (KeepsFrom W0.heap.size W X ∧ (Boxed X (b + 1 + 1) 3 (.int .i64 ix) ∧ Boxed X (b + 1 + 1 + 1) 4 (.bool false)) ∧ Below b w X):=by
     rw [hX]
     exact ⟨KeepsOthers.from (by (repeat (first | exact KeepsOthers.refl _ | refine KeepsOthers.trans ?_ (KeepsOthers.drew _) | refine KeepsOthers.trans ?_ (KeepsOthers.setCell _ _ _) | refine KeepsOthers.trans ?_ (KeepsOthers.alloc _ _)))) _,⟨boxed_drew ((h3.set _).alloc _),boxed_drew ((h4.other (by omega) _).alloc _)⟩,by (repeat (first | exact Below.refl _ _ | assumption | refine Below.drew ?_ | (refine Below.setCell ?_ ?_ _;rotate_left;(first | omega | (simp;done) | (simp;omega));rotate_left) | (refine Below.alloc ?_ ?_ _;rotate_left;(first | omega | (simp;done) | (simp;omega));rotate_left)))⟩
    rw [hX] at FIN
    clear hX HLF HPS g0 g1
    gi_wp2
    gi_region_with_o (gi_at_call 188;refine (CallsIn.inRound l (callsIn_wide.2 (end_any fr mr who _ hq0 hq1))).mono ?_;rintro e w' ⟨rfl,rfl⟩)
    all_goals gi_wp2
    all_goals exact ⟨FIN.out.1,_,_,FIN.out.2.1,⟨rfl,HL2.out⟩,FIN.out.2.2⟩
 case done=>
  rintro D ys W hD rfl ⟨⟨⟨h1,h2⟩,⟨h3,h4⟩,h5⟩,hB1⟩ hK
  rw [came_numbered H.out.ok,List.take_length] at h5
  have HV:=Lib.hid (meet_pass f m R h5)
  have k3:=h3.cell;have k4:=h4.cell
  have HK:=Lib.hid hK
  clear h5
  gi_wp2
  gi_quiet (fail)
  gi_wp2
  have hK2 : (W.drewN nq).heap[D]? = some (.deferred (some [])):=hK
  refine ⟨by simp,.inl ⟨_,_,rfl,run_takeDeferred hK2,?_⟩⟩
  refine ⟨.tuple #[.int .i64 R.length,.bool false],by simp [results,Tryz.f167,go_sem],by rw [HV.out],?_⟩
  rw [HWB.out]
  exact (below_drewN hB1 nq).trans (belowK_b (w:=w) (by rw [HWB.out];exact Nat.le_refl _) _ D _ _ (by rw [HWB.out];omega) hK2 rfl rfl)
 case stop=>
  rintro D c pre W hD ⟨k,hk,rfl⟩ ⟨at_,hit,⟨h3,h4⟩,⟨rfl,hf⟩,hB1⟩ hK
  have HV:=Lib.hid (left_meet H.out.ok hk hf)
  have k3:=h3.cell;have k4:=h4.cell
  clear hf
  gi_wp2
  gi_quiet (fail)
  gi_wp2
  have hK2 : (W.drewN nq).heap[D]? = some (.deferred (some [])):=hK
  refine ⟨by simp,.inl ⟨_,_,rfl,run_takeDeferred hK2,?_⟩⟩
  refine ⟨.tuple #[.int .i64 at_,.bool hit],by simp [results,Tryz.f167,go_sem],by rw [HV.out],?_⟩
  rw [HWB.out]
  exact (below_drewN hB1 nq).trans (belowK_b (w:=w) (by rw [HWB.out];exact Nat.le_refl _) _ D _ _ (by rw [HWB.out];omega) hK2 rfl rfl)
end Go.Proofs.YtoklonmiejdgmaaGreatDoor
