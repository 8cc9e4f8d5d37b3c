/- The page of script: a struct with a strings.Builder alone; what the builder's methods leave (after the shelf's worked contracts). -/
import Derived.Test.YtoklonmiejdgmaaGreatDoorGScriptBack0
import Derived.Test.YtoklonmiejdgmaaGreatDoorRows
import Derived.RangeFuncNested
import Derived.RangeFuncBound
import Derived.RangeFuncCalls
import Derived.RangeFuncLeaves
import Derived.Shelf.Abstract
import Derived.Shelf.RegionOpen
import Derived.WalkKit
import Derived.OwnWalkIn
import Derived.TacticsInMore
import Derived.LoopNIn
import Derived.LoopIn
import Derived.Sort.QuietIn
import Derived.Scope
import Derived.ControlIn
import Derived.Lib.Overlaps
import Derived.Lib.AppendZerosOnto
import Derived.Laws.CopyRow
namespace Go.Proofs.YtoklonmiejdgmaaGreatDoor.Sp
set_option linter.unusedVariables false
set_option linter.unusedSimpArgs false
set_option linter.unnecessarySimpa false
open Go.RowKit Go.Sort
set_option maxHeartbeats 2000000
set_option maxRecDepth 100000
set_option linter.unusedVariables false
theorem pcopy_fresh (b : Nat) (w : World) (h0 : w.cell? ⟨b,0,none⟩ = some (.pointer none)) (hsh : w.shape? b = some (90,2)) (hfz : w.frozen? ⟨b,0,none⟩ = false) :
  Calls Tryz.prog 64 #[.pointer (some ⟨b,0,none⟩)] w fun e w'=>e = .returned (.tuple #[]) ∧ w' = w.setCell ⟨b,0,none⟩ (.pointer (some ⟨b,0,none⟩)):=by
 obtain ⟨j,hj,hjs⟩:=Option.map_eq_some_iff.1 bld_size
 have hlies : liesAt Tryz.prog Tryz.prog.depth 90 (2 / Tryz.prog.cellsOf 90) 0 78 1 = true:=by kernel_rfl
 go_enter Tryz.func64,Tryz.ntmps64
 go_wp2
 rw [Lib.run_to_unsafe w ⟨b,0,none⟩ bld_und uptr_und hj (by rw [hjs];decide) hsh (Nat.zero_lt_succ 1)]
 simp only [Result.andThen]
 rw [Oper.upon_value]
 go_wp2
 rw [run_callFunc_extern Tryz.func109 (by kernel_rfl) (by kernel_rfl) (by kernel_rfl) (e:=Extern.AbiNoEscape.same) (by kernel_rfl)]
 rw [Lib.run_noEscape]
 simp only [Result.andThen]
 rw [Oper.upon_value]
 go_wp2
 rw [Lib.run_from_unsafe w ⟨b,0,none⟩ uptr_und bld_und hj hsh hlies]
 simp only [Result.andThen]
 rw [Oper.upon_value]
 go_wp2
 go_end0
 exact ⟨rfl,rfl⟩
/-- A page in block b, of the call's own, that holds the bytes l. -/
def PgIs (w : World) (B b : Nat) (l : List UInt8) : Prop:=Lib.IsBuilderF 90 5 B b (Lib.byteCells l) w
theorem pcopy_any (B b : Nat) (bs : List Value) (w : World) (h : Lib.IsBuilderF 90 5 B b bs w) :
  Calls Tryz.prog 64 #[.pointer (some ⟨b,0,none⟩)] w fun e w'=>e = .returned (.tuple #[]) ∧ (Lib.BuilderAtF 90 5 B b (.pointer (some ⟨b,0,none⟩)) bs w' ∧ Below B w w' ∧ Lib.OthersKept 5 (some b) w w'):=by
 rcases h with h | h
 ·refine (pcopy_fresh b w h.cell0 h.shape h.frozen0).mono ?_
  rintro e w' ⟨rfl,rfl⟩
  exact ⟨rfl,h.used _,(Below.refl B w).setCell (p:=⟨b,0,none⟩) h.1 _,(Lib.OthersKept.refl _ _ w).setCell ⟨b,0,none⟩ rfl _⟩
 ·refine (copy_used b w h.cell0).mono ?_
  rintro e w' ⟨rfl,rfl⟩
  exact ⟨rfl,h,Below.refl B _,Lib.OthersKept.refl _ _ _⟩
theorem pwrite_any (B b : Nat) (bs : List Value) (s : ByteArray) (w : World) (h : Lib.IsBuilderF 90 5 B b bs w) (hlen : bs.length + s.size ≤ 140737488355328) (hBw : B ≤ w.heap.size) :
  Calls Tryz.prog 37 #[.pointer (some ⟨b,0,none⟩),.string s] w fun e w'=>e = .returned (.tuple #[.int .i64 s.size,.nilIface]) ∧ (Lib.BuilderAtF 90 5 B b (.pointer (some ⟨b,0,none⟩)) (bs ++ Lib.strCells s) w' ∧ Below B w w' ∧ Lib.OthersKept 5 (some b) w w'):=by
 obtain ⟨i0,hi,hz0,hz1,hz2⟩:=info_parts info_byte
 go_enter Tryz.func37,Tryz.ntmps37
 go_wp2_with (go_at_call 64;refine (pcopy_any B b bs _ h).mono ?_)
 rintro e w1 ⟨rfl,h1,hb1,hk1⟩
 obtain ⟨hB,v,hbk,hown,hne⟩:=h1
 have c0 : w1.cell? ⟨b,0,none⟩ = some (.pointer (some ⟨b,0,none⟩)):=by rw [Lib.cell_of_heap hbk];rfl
 have c1 : w1.cell? ⟨b,1,none⟩ = some v:=by rw [Lib.cell_of_heap hbk];rfl
 go_wp2_with (at_builtin;refine Lib.wpList_append_own_stringF _ rfl _ _ 76 9 rfl B 5 i0 Tryz.underlying76 Tryz.underlying9 hi hz0 hz1 hz2 _ _ _ rfl hown s rfl ?c3 ?c4 ?c5 ?_)
 case c3=>unfold maxLen;omega
 case c4=>omega
 case c5=>have:=hb1.size;omega
 intro v' w2 hown' hgrow _
 have hlt : b < w1.heap.size:=by
  rcases Nat.lt_or_ge b w1.heap.size with h' | h'
  ·exact h'
  ·simp [Array.getElem?_eq_none h'] at hbk
 have hb2 : w2.heap[b]? = some (.cells #[.pointer (some ⟨b,0,none⟩),v] 90 (0,0)):=by
  rw [hgrow.block b hlt (fun e=>hne e.symm)]
  exact hbk
 have d0 : w2.cell? ⟨b,0,none⟩ = some (.pointer (some ⟨b,0,none⟩)):=by rw [Lib.cell_of_heap hb2];rfl
 have d1 : w2.cell? ⟨b,1,none⟩ = some v:=by rw [Lib.cell_of_heap hb2];rfl
 have f1 : w2.frozen? ⟨b,1,none⟩ = false:=Lib.frozen_of_heap hb2 1
 obtain ⟨ao,n',cap,rfl⟩ : ∃ ao n' cap,v' = .slice ao n' cap:=by
  rcases hown'.2 with ⟨hv,_⟩ | ⟨g,cap,cur,fz,hv,_⟩
  ·exact ⟨_,_,_,hv⟩
  ·exact ⟨_,_,_,hv⟩
 go_wp2
 go_ret2
 refine ⟨rfl,?_,?_,(hk1.grown hgrow (Lib.ownsRowF_kind hown)).setCell ⟨b,1,none⟩ rfl _⟩
 ·exact Lib.BuilderAtF.put (T:=90) (e:=5) hB hb2 (bs':=bs ++ Lib.strCells s) (by simpa [Lib.strCells_length] using hown') (by decide)
 ·exact (hb1.grown hgrow (by have:=hb1.size;omega) (fun k hk=>(hown.lt k hk).1)).setCell (p:=⟨b,1,none⟩) hB _
/-- WriteString, in lists of bytes. -/
theorem pgwrite (B b : Nat) (l m : List UInt8) (w : World) (h : PgIs w B b l) (hlen : l.length + m.length ≤ 140737488355328) (hBw : B ≤ w.heap.size) :
  Calls Tryz.prog 37 #[.pointer (some ⟨b,0,none⟩),.string (ba m)] w fun e w'=>e = .returned (.tuple #[.int .i64 (ba m).size,.nilIface]) ∧ PgIs w' B b (l ++ m) ∧ Below B w w' ∧ Lib.OthersKept 5 (some b) w w':=by
 refine (pwrite_any B b (Lib.byteCells l) (ba m) w h (by rw [Lib.byteCells_length,ba_size];exact hlen) hBw).mono ?_
 rintro e w' ⟨h1,h2,h3,h4⟩
 exact ⟨h1,.inr (by rw [byteCells_app] at h2;exact h2),h3,h4⟩
theorem pAt_below {B b : Nat} {p : Value} {bs : List Value} {w w' : World} (h : Lib.BuilderAtF 90 5 B b p bs w) (hb : Below w.heap.size w w') : Lib.BuilderAtF 90 5 B b p bs w':=by
 obtain ⟨h1,v,h2,⟨h3,h4⟩,h5⟩:=h
 refine ⟨h1,v,keepB hb (Array.getElem?_eq_some_iff.1 h2).1 h2,⟨h3,?_⟩,h5⟩
 rcases h4 with h4 | ⟨g,c,cur,fz,hv,hg,hc,hr⟩
 ·exact .inl h4
 ·exact .inr ⟨g,c,cur,fz,hv,hg,keepB hb (Array.getElem?_eq_some_iff.1 hc).1 hc,hr⟩
theorem PgIs.below {w w' : World} {B b : Nat} {l : List UInt8} (h : PgIs w B b l) (hb : Below w.heap.size w w') : PgIs w' B b l:=h.elim (fun x=>.inl (pAt_below x hb)) (fun x=>.inr (pAt_below x hb))
theorem PgIs.fresh (w : World) : PgIs (w.alloc (.cells #[.pointer none,.slice none 0 0] 90)) w.heap.size w.heap.size []:=
 .inl ⟨Nat.le_refl _,.slice none 0 0,new_block w _ _ rfl,⟨by simp [Lib.byteCells],.inl ⟨rfl,rfl⟩⟩,by simp [Value.ownBlock]⟩
theorem cells_byte : Tryz.prog.cellsOf 5 = 1:=by kernel_rfl
theorem bptr_und : Tryz.prog.underlying 124 = some (.pointer 5):=by kernel_rfl
theorem pgstring (B b : Nat) (l : List UInt8) (w : World) (h : PgIs w B b l) (h0 : l ≠ []) :
  Calls Tryz.prog 32 #[.pointer (some ⟨b,0,none⟩)] w fun e w'=>e = .returned (.string (ba l)) ∧ PgIs w' B b l ∧ Below B w w' ∧ Lib.OthersKept 5 (some b) w w':=by
 obtain ⟨p,hp,hAt⟩ : ∃ p,(p = .pointer none ∨ p = .pointer (some ⟨b,0,none⟩)) ∧ Lib.BuilderAtF 90 5 B b p (Lib.byteCells l) w:=by
  rcases h with h | h
  ·exact ⟨_,.inl rfl,h⟩
  ·exact ⟨_,.inr rfl,h⟩
 obtain ⟨hB,v,hbk,hown,hne⟩:=hAt
 have hl0 : l.length ≠ 0:=by simpa using h0
 rw [Lib.byteCells_length] at hown
 obtain ⟨g,cap,cur,fz,rfl,hbg,hg,hfz,hnc,hcm,hcs,htake⟩ : ∃ g cap cur fz,v = .slice (some ⟨g,0,none⟩) l.length cap ∧ B ≤ g ∧ w.heap[g]? = some (.cells cur 5 fz) ∧ fz.2 ≤ l.length * 1 ∧ l.length ≤ cap ∧ cap ≤ maxLen ∧ cur.size = cap * 1 ∧ cur.toList.take (l.length * 1) = Lib.byteCells l:=by
  rcases hown.2 with ⟨_,hz⟩ | ⟨g,cap,cur,fz,hv,r⟩
  ·exact absurd hz hl0
  ·exact ⟨g,cap,cur,fz,hv,r⟩
 have c1 : w.drew.cell? ⟨b,1,none⟩ = some (.slice (some ⟨g,0,none⟩) l.length cap):=by
  have : w.drew.heap[b]? = some (.cells #[p,.slice (some ⟨g,0,none⟩) l.length cap] 90 (0,0)):=hbk
  rw [Lib.cell_of_heap this];rfl
 have hSD : (Builtin.unsafeSliceData_ #[76] 124 #[.slice (some ⟨g,0,none⟩) l.length cap]).run Tryz.prog w.drew = .ok (.pointer (some ⟨g,0,none⟩)) w.drew:=
  Lib.run_unsafeSliceData_row _ _ _ _ _ _ (by omega)
 have hUS : (Builtin.unsafeString_ #[124,3] 9 #[.pointer (some ⟨g,0,none⟩),.int .i64 l.length]).run Tryz.prog w.drew = .ok (.string (ba l)) (w.drew.freeze ⟨g,0,none⟩ l.length):=by
  refine Lib.run_unsafeString_row w.drew 124 3 9 5 bptr_und cells_byte g cur.size (by have hg' : w.drew.heap[g]? = some (.cells cur 5 fz):=hg;simp [World.shape?,hg']) l h0 (by omega) (by unfold maxLen at hcm;omega) ?_
  intro j x hx
  have:=hown.cells (g:=g) rfl j (.int .u8 x.toNat) (by simp [Lib.byteCells,hx])
  exact this
 have hkeep : Lib.IsBuilderF 90 5 B b (Lib.byteCells l) (w.drew.freeze ⟨g,0,none⟩ l.length):=by
  have hA : Lib.BuilderAtF 90 5 B b p (Lib.byteCells l) w.drew:=⟨hB,_,hbk,by rw [Lib.byteCells_length];exact hown,hne⟩
  have hF:=hA.froze (g:=g) (cap:=cap) (by rw [Lib.byteCells_length];exact c1)
  rw [Lib.byteCells_length] at hF
  rcases hp with rfl | rfl
  ·exact .inl hF
  ·exact .inr hF
 have HK:=Lib.hid hkeep
 have HG:=Lib.hid hg
 clear hkeep hg hfz hcs htake hown hbk hp h0 hl0
 go_enter Tryz.func32,Tryz.ntmps32
 go_wp2
 go_region
 all_goals (go_wp2;go_ret;exact ⟨rfl,HK.out,Lib.below_freeze (Below.drew (Below.refl B w)) (p:=⟨g,0,none⟩) hbg _,((Lib.OthersKept.refl _ _ w).drew).freeze ⟨g,0,none⟩ _ ⟨cur,fz,HG.out⟩⟩)
end Go.Proofs.YtoklonmiejdgmaaGreatDoor.Sp
/- Labels for chapter 4. -/
namespace Go.Proofs.YtoklonmiejdgmaaGreatDoor
set_option linter.unusedVariables false
set_option linter.unusedSimpArgs false
set_option linter.unnecessarySimpa false
open Go.RowKit
set_option maxHeartbeats 400000
set_option maxRecDepth 100000
def isB (l : Int) : Bool:=decide (0 ≤ l) && decide (l ≤ 255)
theorem isB_iff (l : Int) : isB l = true ↔ 0 ≤ l ∧ l ≤ 255:=by simp [isB]
theorem isB_iff' (l : Int) : isB l = false ↔ ¬ (0 ≤ l ∧ l ≤ 255):=by rw [← isB_iff];simp
def flB (a b : Int) : Bool:=isB a && isB b && (andN a.toNat b.toNat == 0)
theorem is_any (l : Int) (w : World) :
  Calls Tryz.prog 154 #[.int .i64 l] w fun e w'=>e = .returned (.bool (isB l)) ∧ w = w':=by
 by_cases h : 0 ≤ l
 ·have h1 : decide (0 ≤ l) = true:=by simpa using h
  go_enter Tryz.func154,Tryz.ntmps154
  go_wp2
  go_ret
  simp [isB,h]
 ·have h1 : decide (0 ≤ l) = false:=by simpa using h
  go_enter Tryz.func154,Tryz.ntmps154
  go_wp2
  go_ret
  simp [isB];omega
theorem flows_any (a b : Int) (w : World) :
  Calls Tryz.prog 136 #[.int .i64 a,.int .i64 b] w fun e w'=>e = .returned (.bool (flB a b)) ∧ w = w':=by
 by_cases ha : isB a = true
 ·by_cases hb : isB b = true
  ·go_enter Tryz.func136,Tryz.ntmps136
   go_wp2_with (go_at_call 154;refine (is_any _ _).mono ?_;rintro e w' ⟨rfl,rfl⟩)
   go_ret
   obtain ⟨ha1,ha2⟩:=(isB_iff a).1 ha
   obtain ⟨hb1,hb2⟩:=(isB_iff b).1 hb
   obtain ⟨m,rfl⟩:=Int.eq_ofNat_of_zero_le ha1
   obtain ⟨n,rfl⟩:=Int.eq_ofNat_of_zero_le hb1
   rw [i64_andNot m n (by omega) (by omega)]
   refine ⟨ret_bool ?_,rfl⟩
   rw [Bool.eq_iff_iff]
   simp only [flB,ha,hb,Int.toNat_natCast,Bool.true_and,beq_iff_eq]
   omega
  ·simp only [Bool.not_eq_true] at hb
   go_enter Tryz.func136,Tryz.ntmps136
   go_wp2_with (go_at_call 154;refine (is_any _ _).mono ?_;rintro e w' ⟨rfl,rfl⟩)
   go_ret
   simp [flB,ha,hb]
 ·simp only [Bool.not_eq_true] at ha
  go_enter Tryz.func136,Tryz.ntmps136
  go_wp2_with (go_at_call 154;refine (is_any _ _).mono ?_;rintro e w' ⟨rfl,rfl⟩)
  go_ret
  simp [flB,ha]
def validB (l cats : Int) : Bool:=decide (0 ≤ cats) && decide (cats ≤ 8) && decide (0 ≤ l) && decide (l < 2 ^ cats.toNat)
theorem valid_any (l cats : Int) (w : World) :
  Calls Tryz.prog 128 #[.int .i64 l,.int .i64 cats] w fun e w'=>e = .returned (.bool (validB l cats)) ∧ w = w':=by
 by_cases h1 : cats < 0
 ·go_enter Tryz.func128,Tryz.ntmps128
  go_wp2_with (go_at_call 154;refine (is_any _ _).mono ?_;rintro e w' ⟨rfl,rfl⟩)
  go_ret
  exact ⟨ret_bool (by simp [validB];omega),rfl⟩
 ·by_cases h2 : 8 < cats
  ·go_enter Tryz.func128,Tryz.ntmps128
   go_wp2_with (go_at_call 154;refine (is_any _ _).mono ?_;rintro e w' ⟨rfl,rfl⟩)
   go_ret
   exact ⟨ret_bool (by simp [validB];omega),rfl⟩
  ·obtain ⟨c,rfl⟩:=Int.eq_ofNat_of_zero_le (show 0 ≤ cats by omega)
   have hp : (2 : Nat) ^ c ≤ 2 ^ 8:=Nat.pow_le_pow_right (by decide) (by omega)
   have hp2 : 0 < (2 : Nat) ^ c:=Nat.pow_pos (by decide)
   by_cases hl : isB l = true
   ·obtain ⟨l1,l2⟩:=(isB_iff l).1 hl
    obtain ⟨m,rfl⟩:=Int.eq_ofNat_of_zero_le l1
    have e : ((m : Int) < 2 ^ c) ↔ m < 2 ^ c:=by rw [show (2 : Int) ^ c = ((2 ^ c : Nat) : Int) from by simp];omega
    have e2 : ((m : Int) / 2 ^ c == 0) = decide (m < 2 ^ c):=by
     rw [show (m : Int) / 2 ^ c = ((m / 2 ^ c : Nat) : Int) from by simp,Bool.eq_iff_iff]
     simp only [beq_iff_eq,decide_eq_true_eq]
     rw [← Nat.div_eq_zero_iff_lt hp2]
     omega
    have E:=Lib.hid e;have E2:=Lib.hid e2
    clear e e2 hp hp2
    go_enter Tryz.func128,Tryz.ntmps128
    go_wp2_with (go_at_call 154;refine (is_any _ _).mono ?_;rintro e w' ⟨rfl,rfl⟩)
    go_ret
    refine ⟨ret_bool (E2.out.trans ?_),rfl⟩
    rw [Bool.eq_iff_iff]
    simp only [validB,Int.toNat_natCast,Bool.and_eq_true,decide_eq_true_eq,E.out]
    omega
   ·simp only [Bool.not_eq_true] at hl
    have hl2:=(isB_iff' l).1 hl
    have H2:=Lib.hid hl2
    have HP:=Lib.hid hp
    clear hl2 hp hp2
    go_enter Tryz.func128,Tryz.ntmps128
    go_wp2_with (go_at_call 154;refine (is_any _ _).mono ?_;rintro e w' ⟨rfl,rfl⟩)
    go_ret
    refine ⟨ret_bool ?_,rfl⟩
    have h3:=H2.out
    have h4:=HP.out
    by_cases h5 : 0 ≤ l
    ·have h6 : ¬ l < ((2 ^ c : Nat) : Int):=by simp only [Nat.reducePow] at h4;omega
     simp only [Int.natCast_pow,Int.cast_ofNat_Int] at h6
     simp [validB,h6]
    ·simp [validB,h5]
end Go.Proofs.YtoklonmiejdgmaaGreatDoor
/- Package label and its reference: texts. -/
namespace Go.Proofs.YtoklonmiejdgmaaGreatDoor
set_option linter.unusedVariables false
set_option linter.unusedSimpArgs false
set_option linter.unnecessarySimpa false
open Go.RowKit
set_option maxHeartbeats 400000
set_option maxRecDepth 100000
/-- The letters of the categories below k. -/
def lett (l k : Nat) : List Int:=List.map (fun (c : Nat)=>97 + (c : Int)) ((List.range k).filter (fun c=>l.testBit c))
theorem lett_succ (l k : Nat) : lett l (k + 1) = lett l k ++ (if l.testBit k then [97 + (k : Int)] else []):=by
 simp only [lett,List.range_succ,List.filter_append,List.map_append]
 congr 1
 cases h : l.testBit k <;> simp [List.filter,h]
theorem lett_len (l k : Nat) : (lett l k).length ≤ k:=by
 simp only [lett,List.length_map]
 exact Nat.le_trans (List.length_filter_le _ _) (by simp)
theorem info_u8 : (Tryz.prog.info? 5).map (fun i=>(i.zero,i.size,i.bytes)) = some (some (.int .u8 0),1,1):=by kernel_rfl
/-- What 'letters' leaves. -/
def LetPost (l : Nat) (w : World) (e : Ending) (w' : World) : Prop:=∃ v,e = .returned v ∧ w'.ownsRow w.heap.size 5 1 v (lett l 8).length ((lett l 8).map (Value.int .u8)) ∧ Below w.heap.size w w'
set_option maxRecDepth 100000 in
theorem letters_any (l : Nat) (hl : l < 256) (w : World) :
  Calls Tryz.prog 155 #[.int .i64 l] w (LetPost l w):=by
 obtain ⟨i0,hi,hz0,hz1,hz2⟩:=info_parts info_u8
 go_enter Tryz.func155,Tryz.ntmps155
 go_wp2
 go_loopw [3,5] (fun v i wr=>∃ k : Nat,k ≤ 8 ∧ i = .int .i64 k ∧ wr.ownsRow w.heap.size 5 1 v (lett l k).length ((lett l k).map (Value.int .u8)) ∧ Below w.heap.size w wr) (fun _ i _=>8 - (intOf i).toNat)
 case atStart=>exact ⟨0,by omega,rfl,(World.ownsRow_nil w _ _ _ : _),Below.refl _ _⟩
 case round=>
  obtain ⟨k,hk,rfl,hown,hb⟩:=hrel
  have hlen:=lett_len l k
  by_cases hlt : k < 8
  ·have HL:=Lib.hid (lett_succ l k)
   have hbe:=bit_eq l k (by omega)
   by_cases hbit : l.testBit k = true
   ·rw [hbit] at hbe
    have HB:=Lib.hid hbit;clear hbit
    go_wp2_with (at_builtin;refine wpList_append_own _ rfl _ _ 76 rfl w.heap.size 5 i0 (.int .u8 0) 1 1 Tryz.underlying76 hi hz0 hz1 hz2 rfl (by decide) _ _ _ rfl (hown.alloc _) ⟨wr.heap.size,0,none⟩ 1 1 [.int .u8 (97 + (k : Int))] rfl rfl (cell_one_new _ _ _) ?c2 ?c3 ?c4 ?c5 ?_)
    case c2=>intro u hu;simp at hu;subst hu;rfl
    case c3=>unfold maxLen;omega
    case c4=>omega
    case c5=>have:=hb.size;simp;omega
    intro v' w1 hown1 hgrow _
    have R1 : w1.ownsRow w.heap.size 5 1 v' (lett l (k + 1)).length ((lett l (k + 1)).map (Value.int .u8)):=by
     rw [HL.out,if_pos HB.out]
     simpa using hown1
    have hb1 : Below w.heap.size w w1:=(hb.alloc hb.size _).grown hgrow (by have:=hb.size;simp;omega) (fun j hj=>(hown.lt j hj).1)
    clear hown1 hgrow hown
    go_wp2
    go_roundw
    case rel=>exact ⟨k + 1,by omega,by go_num,R1,hb1⟩
    case measure=>simp [intOf];omega
   ·simp only [Bool.not_eq_true] at hbit
    rw [hbit] at hbe
    go_wp2
    go_roundw
    case rel=>exact ⟨k + 1,by omega,by go_num,(by rw [HL.out,hbit];simpa using hown),hb⟩
    case measure=>simp [intOf];omega
  ·obtain rfl : k = 8:=by omega
   go_wp2
   go_ret
   exact ⟨_,rfl,hown,hb⟩
theorem foldl_push (ns : List Int) : ∀ (s : ByteArray),(ns.foldl (fun r n=>r.push (UInt8.ofNat n.toNat)) s) = ⟨(s.data.toList ++ ns.map (fun n=>UInt8.ofNat n.toNat)).toArray⟩:=by
 induction ns with
 | nil=>intro s;simp
 | cons n ns ih=>intro s;rw [List.foldl_cons,ih];simp [ByteArray.push]
/-- The text of a list of bytes. -/
def bstr (l : List Int) : ByteArray:=⟨(l.map (fun n=>UInt8.ofNat n.toNat)).toArray⟩
theorem run_own_string {P : Program} (w : World) (src dst e : TypeId) (base n : Nat) (v : Value) (xs : List Int)
  (hs : P.underlying src = some (.slice e)) (he : P.underlying e = some (.int .u8)) (hd : P.underlying dst = some .string)
  (hown : w.ownsRow base e 1 v n (xs.map (Value.int .u8))) :
  (convert src dst v).run P w = .ok (.string (bstr xs)) w:=by
 have hn : n = xs.length:=by have:=hown.1;simp at this;omega
 have hcells:=fun g (hg : v.ownBlock = some g)=>hown.cells hg
 rcases hown.2 with ⟨rfl,h0⟩ | ⟨g,cap,cur,rfl,hb,hg,hnc,hcm,hcs,htake⟩
 ·have hx : xs = []:=List.eq_nil_of_length_eq_zero (by omega)
  subst hx
  rw [run_convert_bytes_string w src dst e none 0 0 hs he hd]
  rfl
 ·rw [run_convert_bytes_string w src dst e _ n cap hs he hd]
  rw [run_bytesToString w ⟨g,0,none⟩ n cap xs ?_,foldl_push]
  ·rfl
  ·rw [hn]
   have:=run_loadCells_list (P:=P) w ⟨g,0,none⟩ (xs.map (Value.int .u8)) (hcells g rfl)
   simpa using this
def lbS (l : Int) : ByteArray:=if isB l then (if l = 0 then ⟨#[45]⟩ else bstr (lett l.toNat 8)) else ⟨#[]⟩
def lbE (l : Int) : Int:=if isB l then 0 else 1
theorem ltext_any (l : Int) (w : World) :
  Calls Tryz.prog 111 #[.int .i64 l] w fun e w'=>e = .returned (.tuple #[.string (lbS l),.int .i64 (lbE l)]) ∧ Below w.heap.size w w':=by
 by_cases hl : isB l = true
 ·by_cases h0 : l = 0
  ·subst h0
   go_enter Tryz.func111,Tryz.ntmps111
   go_wp2_with (go_at_call 154;refine (is_any _ _).mono ?_;rintro e w' ⟨rfl,rfl⟩)
   go_ret2
   exact ⟨by simp [lbS,lbE,hl],Below.refl _ _⟩
  ·obtain ⟨l1,l2⟩:=(isB_iff l).1 hl
   obtain ⟨m,rfl⟩:=Int.eq_ofNat_of_zero_le l1
   have hz : ((m : Int) == 0) = false:=by simpa using h0
   have hm : m ≠ 0:=by omega
   go_enter Tryz.func111,Tryz.ntmps111
   go_wp2_with (first | (go_at_call 154;refine (is_any _ _).mono ?_;rintro e w' ⟨rfl,rfl⟩) | (go_at_call 155;refine (letters_any m (by omega) _).mono ?_;rintro e w1 ⟨v,rfl,hown,hb⟩;have hcv:=run_own_string (P:=Tryz.prog) w1 76 9 5 _ _ v _ Tryz.underlying76 Tryz.underlying5 Tryz.underlying9 hown))
   go_ret2
   exact ⟨by simp [lbS,lbE,hl,hm],hb⟩
 ·simp only [Bool.not_eq_true] at hl
  go_enter Tryz.func111,Tryz.ntmps111
  go_wp2_with (go_at_call 154;refine (is_any _ _).mono ?_;rintro e w' ⟨rfl,rfl⟩)
  go_ret2
  exact ⟨by simp [lbS,lbE,hl],Below.refl _ _⟩
def parseGo : Nat → List UInt8 → Option Nat
 | l,[]=>if l = 0 then none else some l
 | l,b :: bs=>if b.toNat < 97 ∨ 105 ≤ b.toNat ∨ l / 2 ^ (b.toNat - 97) ≠ 0 then none else parseGo (l + 2 ^ (b.toNat - 97)) bs
def lbF (s : List UInt8) : Option Nat:=if s = [45] then some 0 else parseGo 0 s
def lbPV (s : List UInt8) : Int:=((lbF s).getD 0 : Nat)
def lbPE (s : List UInt8) : Int:=if (lbF s).isSome then 0 else 6
theorem or_pow (l c : Nat) (h : l / 2 ^ c = 0) : l ||| 2 ^ c = l + 2 ^ c:=by
 have hl : l < 2 ^ c:=by
  rcases Nat.div_eq_zero_iff.1 h with h1 | h1
  ·have:=Nat.pow_pos (a:=2) (n:=c) (by decide);omega
  ·exact h1
 have h2:=Nat.two_pow_add_eq_or_of_lt hl 1
 rw [Nat.mul_one] at h2
 rw [Nat.or_comm,Nat.add_comm]
 exact h2.symm
theorem parseGo_cons (x : Nat) (b : UInt8) (bs : List UInt8) : parseGo x (b :: bs) = if b.toNat < 97 ∨ 105 ≤ b.toNat ∨ x / 2 ^ (b.toNat - 97) ≠ 0 then none else parseGo (x + 2 ^ (b.toNat - 97)) bs:=rfl
theorem lparse_any (s : ByteArray) (hs : s.size ≤ maxLen) (w : World) :
  Calls Tryz.prog 124 #[.string s] w fun e w'=>e = .returned (.tuple #[.int .i64 (lbPV s.data.toList),.int .i64 (lbPE s.data.toList)]) ∧ w = w':=by
 unfold maxLen at hs
 by_cases h0 : (s.toList == [45]) = true
 ·have e0 : s.data.toList = [45]:=by rw [ByteArray.toList_eq] at h0;simpa using h0
  have E0:=Lib.hid e0;clear e0
  go_enter Tryz.func124,Tryz.ntmps124
  go_wp2
  go_ret2
  exact ⟨ret_two (by rw [lbPV,E0.out];rfl) (by rw [lbPE,E0.out];rfl),rfl⟩
 ·simp only [Bool.not_eq_true] at h0
  have e0 : ¬ s.data.toList = [45]:=by rw [ByteArray.toList_eq] at h0;simpa using h0
  have E0:=Lib.hid e0;clear e0
  go_enter Tryz.func124,Tryz.ntmps124
  go_wp2
  go_loop [4,11] (fun l i=>∃ k x : Nat,k ≤ s.size ∧ i = .int .i64 k ∧ l = .int .i64 x ∧ x < 256 ∧ lbF s.data.toList = parseGo x (s.data.toList.drop k)) (fun _ i=>s.size - (intOf i).toNat)
  case atStart=>exact ⟨0,0,by omega,rfl,rfl,by omega,by rw [lbF,if_neg E0.out];rfl⟩
  case round=>
   obtain ⟨k,x,hk,rfl,rfl,hx,he⟩:=hrel
   have HE:=Lib.hid he;clear he
   by_cases hlt : k < s.size
   ·have hb : s[k].toNat < 256:=s[k].toNat_lt
    have HD : Hid (lbF s.data.toList = if s[k].toNat < 97 ∨ 105 ≤ s[k].toNat ∨ x / 2 ^ (s[k].toNat - 97) ≠ 0 then none else parseGo (x + 2 ^ (s[k].toNat - 97)) (s.data.toList.drop (k + 1))):=by
     have : s.data.toList.drop k = s[k] :: s.data.toList.drop (k + 1):=List.drop_eq_getElem_cons (by simpa using hlt)
     rw [Hid,HE.out,this,parseGo_cons]
    by_cases h1 : s[k].toNat < 97
    ·have HN : Hid (lbF s.data.toList = none):=by rw [Hid,HD.out,if_pos (.inl h1)]
     go_wp2
     go_ret2
     exact ⟨ret_two (by rw [lbPV,HN.out];rfl) (by rw [lbPE,HN.out];rfl),rfl⟩
    ·by_cases h2 : 105 ≤ s[k].toNat
     ·have HN : Hid (lbF s.data.toList = none):=by rw [Hid,HD.out,if_pos (.inr (.inl h2))]
      go_wp2
      go_ret2
      exact ⟨ret_two (by rw [lbPV,HN.out];rfl) (by rw [lbPE,HN.out];rfl),rfl⟩
     ·by_cases h3 : x / 2 ^ (s[k].toNat - 97) = 0
      ·have HN : Hid (lbF s.data.toList = parseGo (x + 2 ^ (s[k].toNat - 97)) (s.data.toList.drop (k + 1))):=by rw [Hid,HD.out,if_neg (by omega)]
       have hp : 2 ^ (s[k].toNat - 97) ≤ 2 ^ 7:=Nat.pow_le_pow_right (by decide) (by omega)
       have ho:=or_pow x _ h3
       have hl : x ||| 2 ^ (s[k].toNat - 97) < 2 ^ 8:=Nat.or_lt_two_pow hx (Nat.pow_lt_pow_right (by decide) (by omega))
       have H1 : Hid (bits BinOp.or IntKind.i64 (x : Int) (wrap64 (2 ^ (s[k].toNat - 97))) = ((x + 2 ^ (s[k].toNat - 97) : Nat) : Int)):=by
        have e : wrap64 (2 ^ (s[k].toNat - 97)) = ((2 ^ (s[k].toNat - 97) : Nat) : Int):=by
         rw [IntWalk.wrap64_in]
         ·simp
         ·have e2 : (2 : Int) ^ (s[k].toNat - 97) = ((2 ^ (s[k].toNat - 97) : Nat) : Int):=by simp
          rw [e2];omega
        rw [Hid,e,i64_or _ _ (by omega) (by omega),ho]
       have hv : x + 2 ^ (s[k].toNat - 97) < 256:=by omega
       have HV:=Lib.hid hv
       have hz : ((x : Int) / 2 ^ (s[k].toNat - 97) != 0) = false:=by
        rw [show (x : Int) / 2 ^ (s[k].toNat - 97) = ((x / 2 ^ (s[k].toNat - 97) : Nat) : Int) from by simp,h3];rfl
       clear h3 hp ho hl hv HD
       go_wp2
       go_round
       case rel=>exact ⟨k + 1,_,by omega,by go_num,by rw [H1.out],HV.out,HN.out⟩
       case measure=>simp [intOf];omega
      ·have HN : Hid (lbF s.data.toList = none):=by rw [Hid,HD.out,if_pos (.inr (.inr h3))]
       have hz : ((x : Int) / 2 ^ (s[k].toNat - 97) != 0) = true:=by
        rw [show (x : Int) / 2 ^ (s[k].toNat - 97) = ((x / 2 ^ (s[k].toNat - 97) : Nat) : Int) from by simp]
        simp only [bne_iff_ne,ne_eq];omega
       clear h3 HD
       go_wp2
       go_ret2
       exact ⟨ret_two (by rw [lbPV,HN.out];rfl) (by rw [lbPE,HN.out];rfl),rfl⟩
   ·have HN : Hid (lbF s.data.toList = if x = 0 then none else some x):=by
     rw [Hid,HE.out,List.drop_eq_nil_of_le (by simp;omega)];rfl
    by_cases hx0 : x = 0
    ·have hz : ((x : Int) == 0) = true:=by simp;omega
     have HN2 : Hid (lbF s.data.toList = none):=by rw [Hid,HN.out,if_pos hx0]
     clear hx0 HN
     go_wp2
     go_ret2
     exact ⟨ret_two (by rw [lbPV,HN2.out];rfl) (by rw [lbPE,HN2.out];rfl),rfl⟩
    ·have hz : ((x : Int) == 0) = false:=by simp;omega
     have HN2 : Hid (lbF s.data.toList = some x):=by rw [Hid,HN.out,if_neg hx0]
     clear hx0 HN
     go_wp2
     go_ret2
     exact ⟨ret_two (by rw [lbPV,HN2.out];rfl) (by rw [lbPE,HN2.out];rfl),rfl⟩
/-- The text of a label, as bytes. -/
def lbL (l : Nat) : List UInt8:=if l = 0 then [45] else (lett l 8).map (fun n=>UInt8.ofNat n.toNat)
theorem lbS_nat (l : Nat) (h : l < 256) : lbS l = ⟨(lbL l).toArray⟩ ∧ lbE l = 0:=by
 have : isB (l : Int) = true:=(isB_iff _).2 (by omega)
 by_cases h0 : l = 0
 ·subst h0;exact ⟨rfl,rfl⟩
 ·simp [lbS,lbE,this,h0,lbL,bstr]
theorem lparse_text : ∀ l : Fin 256,lbF (lbL l.val) = some l.val:=by decide +kernel
theorem parseGo_text (s : List UInt8) : ∀ (x l : Nat),x < 256 → parseGo x s = some l → l < 256:=by
 induction s with
 | nil=>intro x l hx h;simp only [parseGo] at h;split at h <;> simp_all
 | cons b bs ih=>
  intro x l hx h
  rw [parseGo_cons] at h
  split at h
  ·cases h
  ·rename_i hc
   simp only [not_or,Nat.not_lt,Nat.not_le,ne_eq,Decidable.not_not] at hc
   refine ih _ l ?_ h
   rw [← or_pow x _ hc.2.2]
   exact Nat.or_lt_two_pow (n:=8) hx (Nat.pow_lt_pow_right (by decide) (by omega))
theorem testBit_lt_div (x c i : Nat) (h : x / 2 ^ c = 0) (hi : c ≤ i) : x.testBit i = false:=by
 apply Nat.testBit_lt_two_pow
 rcases Nat.div_eq_zero_iff.1 h with h1 | h1
 ·have:=Nat.pow_pos (a:=2) (n:=c) (by decide);omega
 ·exact Nat.lt_of_lt_of_le h1 (Nat.pow_le_pow_right (by decide) hi)
/-- What the reader has read is the text of what it has. -/
theorem parseGo_back (s : List UInt8) : ∀ (x l : Nat),x < 256 → parseGo x s = some l → (lett l 8).map (fun n=>UInt8.ofNat n.toNat) = (lett x 8).map (fun n=>UInt8.ofNat n.toNat) ++ s:=by
 induction s with
 | nil=>intro x l _ h;simp only [parseGo] at h;split at h <;> simp_all
 | cons b bs ih=>
  intro x l hx h
  rw [parseGo_cons] at h
  split at h
  ·cases h
  ·rename_i hc
   simp only [not_or,Nat.not_lt,Nat.not_le,ne_eq,Decidable.not_not] at hc
   obtain ⟨h1,h2,h3⟩:=hc
   have hlt : x + 2 ^ (b.toNat - 97) < 256:=by
    rw [← or_pow x _ h3]
    exact Nat.or_lt_two_pow (n:=8) hx (Nat.pow_lt_pow_right (by decide) (by omega))
   rw [ih _ l hlt h,← or_pow x _ h3]
   obtain ⟨c,hc⟩ : ∃ c,c = b.toNat - 97:=⟨_,rfl⟩
   have hb : b = UInt8.ofNat (97 + c):=by
    rw [hc,show 97 + (b.toNat - 97) = b.toNat from by omega];simp
   rw [← hc] at h3 ⊢
   have key : lett (x ||| 2 ^ c) 8 = lett x 8 ++ [97 + (c : Int)]:=by
    simp only [lett]
    have e : (List.range 8).filter (fun i=>(x ||| 2 ^ c).testBit i) = (List.range 8).filter (fun i=>x.testBit i) ++ [c]:=by
     have hsplit : List.range 8 = List.range c ++ c :: List.map (fun i=>c + 1 + i) (List.range (8 - (c + 1))):=by
      rw [show (8 : Nat) = (c + 1) + (8 - (c + 1)) from by omega,List.range_add,List.range_succ]
      simp
     rw [hsplit]
     simp only [List.filter_append,List.filter_cons]
     have hcc : (x ||| 2 ^ c).testBit c = true:=by simp [Nat.testBit_or,Nat.testBit_two_pow]
     have hxc : x.testBit c = false:=testBit_lt_div x c c h3 (Nat.le_refl _)
     have hlo : (List.range c).filter (fun i=>(x ||| 2 ^ c).testBit i) = (List.range c).filter (fun i=>x.testBit i):=by
      apply List.filter_congr
      intro i hi
      have : c ≠ i:=by simp at hi;omega
      simp [Nat.testBit_or,Nat.testBit_two_pow,this]
     have hhi : ∀ (y : Nat),y = x ∨ y = x ||| 2 ^ c → (List.map (fun i=>c + 1 + i) (List.range (8 - (c + 1)))).filter (fun i=>y.testBit i) = []:=by
      intro y hy
      rw [List.filter_eq_nil_iff]
      intro i hi
      simp only [List.mem_map,List.mem_range] at hi
      obtain ⟨j,_,rfl⟩:=hi
      have g:=testBit_lt_div x c (c + 1 + j) h3 (by omega)
      rcases hy with rfl | rfl
      ·simp [g]
      ·have : c ≠ c + 1 + j:=by omega
       simp [Nat.testBit_or,Nat.testBit_two_pow,g,this]
     rw [hlo,hhi _ (.inr rfl),hhi _ (.inl rfl),hcc,hxc]
     simp
    rw [e,List.map_append]
    rfl
   rw [key,hb]
   simp only [List.map_append,List.map_cons,List.map_nil,List.append_assoc,List.cons_append,List.nil_append]
   congr 3
theorem lett_nil : lett 0 8 = []:=by decide +kernel
theorem lparseF_text (s : List UInt8) (l : Nat) (h : lbF s = some l) : l < 256 ∧ lbL l = s:=by
 unfold lbF at h
 split at h
 ·rename_i h1
  simp only [Option.some.injEq] at h
  subst h
  exact ⟨by decide,by rw [h1];rfl⟩
 ·have h1:=parseGo_text s 0 l (by decide) h
  refine ⟨h1,?_⟩
  have h2:=parseGo_back s 0 l (by decide) h
  rw [lett_nil] at h2
  have h0 : l ≠ 0:=by
   rintro rfl
   rw [lett_nil] at h2
   simp at h2
   subst h2
   simp [parseGo] at h
  rw [lbL,if_neg h0]
  simpa using h2
end Go.Proofs.YtoklonmiejdgmaaGreatDoor
/- An argument that is a slice of structs of so many ints. -/
namespace Go.Proofs.YtoklonmiejdgmaaGreatDoor
set_option linter.unusedVariables false
set_option linter.unusedSimpArgs false
set_option linter.unnecessarySimpa false
open Go.ChangeShapes Go.WideShapes Go.ChangeAt Go.RowKit
def ivs (r : List Int) : List Value:=r.map (Value.int .i64)
def iF (l : List (List Int)) : List Value:=(l.map ivs).flatten
theorem open_rowN0 {H : Type} {enc : TypeId × Value → H} {P : Program} {W : World} {t e lt : TypeId} {n N : Nat} (ht : P.underlying t = some (.slice e)) (hok : flatOk P n e = true) (hC : P.cellsOf e = N) (hN : 0 < N) (hlv : leaves P n e = List.replicate N lt) (hk : P.underlying lt = some (.int .i64)) {v : Value} {d : DataW H} {p : List MemPlace}
  (hv : ∃ a len cap,v = .slice a len cap) (h : DataW.Trod enc P W 0 (fun _=>true) true t v d p) :
  ∃ (a : Option Addr) (cap : Nat) (l : List (List Int)),v = .slice a l.length cap ∧ l.length ≤ cap ∧ cap ≤ maxLen ∧ Rd W N a l.length (iF l) ∧ ∀ r ∈ l,r.length = N:=by
 obtain ⟨a,len,cap,xs,rfl,hle,hcm,hrd,hlf,_⟩:=open_rowF0 ht hok hC hN hv h
 obtain ⟨l,rfl,rfl,hq⟩:=rows_of (α:={ r : List Int // r.length = N }) (fun r=>ivs r.val) (fun _=>True) N (fun r=>by simp [ivs,r.property]) len xs hrd.1 (fun i hi=>by
  have key : ∀ j,j < N → ∃ z : Int,xs[i * N + j]? = some (.int .i64 z):=fun j hj=>by
   obtain ⟨u,y,m,g,t⟩:=hlf i hi j lt hj (by rw [hlv];simp [hj])
   obtain ⟨z,e,_⟩:=DataW.trod_int hk t
   simp only [List.cons.injEq,and_true] at e
   exact ⟨z,by rw [g,e]⟩
  let f : Nat → Int:=fun j=>if hj : j < N then Classical.choose (key j hj) else 0
  refine ⟨⟨(List.range N).map f,by simp⟩,trivial,fun j hj=>?_⟩
  have hs:=Classical.choose_spec (key j hj)
  rw [hs]
  simp [ivs,hj,f])
 refine ⟨a,cap,l.map (·.val),by rw [List.length_map],by rw [List.length_map];exact hle,hcm,?_,fun r hr=>?_⟩
 ·rw [List.length_map]
  have : iF (l.map (·.val)) = (l.map fun r=>ivs r.val).flatten:=by simp [iF,List.map_map,Function.comp_def]
  rw [this];exact hrd
 ·obtain ⟨q,_,rfl⟩:=List.mem_map.1 hr
  exact q.property
theorem iF_get {N : Nat} (l : List (List Int)) (h : ∀ r ∈ l,r.length = N) (k j : Nat) (x : Int) (hk : k < l.length) (hx : (l[k])[j]? = some x) : (iF l)[k * N + j]? = some (.int .i64 x):=by
 have hj : j < N:=by rw [← h _ (List.getElem_mem hk)];exact (List.getElem?_eq_some_iff.1 hx).1
 rw [iF,flatten_get (N:=N) _ k j (fun r hr=>by obtain ⟨q,hq,rfl⟩:=List.mem_map.1 hr;simp [ivs,h q hq]) (by simpa using hk) hj]
 simp [ivs,hx]
theorem rowN_at {w : World} {N : Nat} {a : Option Addr} {l : List (List Int)} (h : Rd w N a l.length (iF l)) (hl : ∀ r ∈ l,r.length = N) (hN : 0 < N) (k : Nat) (hk : k < l.length) : ∃ b o,a = some ⟨b,o,none⟩ ∧ b < w.heap.size ∧ ∀ j x,(l[k])[j]? = some x → w.cell? ⟨b,o + k * N + j,none⟩ = some (.int .i64 x):=by
 have ha : a ≠ none:=fun h0=>by have:=h.2.1 h0;omega
 obtain ⟨p,rfl⟩:=Option.ne_none_iff_exists'.1 ha
 have h0 : (l[k])[0]? = some ((l[k])[0]'(by rw [hl _ (List.getElem_mem hk)];exact hN)):=List.getElem?_eq_getElem _
 have hne : iF l ≠ []:=fun e=>by have:=iF_get l hl k 0 _ hk h0;rw [e] at this;simp at this
 obtain ⟨b,o,rfl,hb,h3⟩:=h.2.2 p rfl hne
 refine ⟨b,o,rfl,hb,fun j x hx=>?_⟩
 rw [Nat.add_assoc]
 exact h3 _ _ (iF_get l hl k j x hk hx)
end Go.Proofs.YtoklonmiejdgmaaGreatDoor
/- Families of things in memory that lie apart: objects and rows of one's own. Plain lemmas. -/
namespace Go.Proofs.YtoklonmiejdgmaaGreatDoor
set_option linter.unusedVariables false
set_option linter.unusedSimpArgs false
set_option linter.unnecessarySimpa false
open Go.RowKit Go.Sort
/-- A thing in memory: an object's block, or a slice's row. -/
inductive It where
 | obj (b : Nat) (t : TypeId) (cs : List Value)
 | row (a : Option Addr) (n cap : Nat) (e : TypeId) (size : Nat) (xs : List Value)
def It.Is (w : World) (B : Nat) : It → Prop
 | .obj b t cs=>ObjAt w b t cs ∧ B ≤ b
 | .row a n cap e size xs=>Own w B e size a n cap xs
def It.fp : It → List Nat
 | .obj b _ _=>[b]
 | .row a _ _ _ _ _=>blk a
section
variable {w w' : World} {B : Nat} {x y : It} {S : List Nat}
theorem It.Is.mod (h : x.Is w B) (hm : Mod S w w') (hd : ∀ k ∈ x.fp,k ∉ S) : x.Is w' B:=by
 cases x with
 | obj b t cs=>exact ⟨h.1.mod hm (hd b (by simp [It.fp])),h.2⟩
 | row a n cap e size xs=>exact Own.mod h hm hd
end
/-- A second act that turns, of what lay there at first, no more. -/
theorem Mod.then {S T : List Nat} {x y z : World} (h : Mod S x y) (k : Mod T y z) (hs : ∀ i ∈ T,i < x.heap.size → i ∈ S) : Mod S x z:=
 ⟨k.os.trans h.os,k.tape.trans h.tape,k.output.trans h.output,Nat.le_trans h.size k.size,fun i hi hn=>(k.block i (Nat.lt_of_lt_of_le hi h.size) (fun hm=>hn (hs i hm hi))).trans (h.block i hi hn)⟩
def Dj (S T : List Nat) : Prop:=∀ k ∈ S,k ∉ T
/-- Things that lie apart, all from B on. -/
def Fam (w : World) (B : Nat) (l : List It) : Prop:=(∀ x ∈ l,x.Is w B) ∧ l.Pairwise (fun x y=>Dj x.fp y.fp)
/-- The blocks of a family. -/
def fps (l : List It) : List Nat:=l.flatMap It.fp
theorem mem_fps {l : List It} {k : Nat} : k ∈ fps l ↔ ∃ x ∈ l,k ∈ x.fp:=by simp [fps]
namespace Fam
variable {w w' : World} {B : Nat} {l m : List It} {S : List Nat}
theorem mod (h : Fam w B l) (hm : Mod S w w') (hd : Dj (fps l) S) : Fam w' B l:=
 ⟨fun x hx=>(h.1 x hx).mod hm (fun k hk=>hd k (mem_fps.2 ⟨x,hx,hk⟩)),h.2⟩
end Fam
/-- What an act on a family leaves: the family turned, nothing besides. -/
structure Acts (B : Nat) (l l' : List It) (w w' : World) : Prop where
 fam : Fam w' B l'
 mod : Mod (fps l) w w'
 at_ : ∀ k ∈ fps l',k ∈ fps l ∨ w.heap.size ≤ k
namespace Acts
variable {B : Nat} {l l' l'' r : List It} {w w' w'' : World}
theorem trans (h : Acts B l l' w w') (k : Acts B l' l'' w' w'') : Acts B l l'' w w'':=
 ⟨k.fam,⟨k.mod.os.trans h.mod.os,k.mod.tape.trans h.mod.tape,k.mod.output.trans h.mod.output,Nat.le_trans h.mod.size k.mod.size,fun i hi hn=>(k.mod.block i (Nat.lt_of_lt_of_le hi h.mod.size) (fun hm=>by
   rcases h.at_ i hm with h1 | h1
   ·exact hn h1
   ·omega)).trans (h.mod.block i hi hn)⟩,fun x hx=>by
  rcases k.at_ x hx with h1 | h1
  ·exact h.at_ x h1
  ·exact .inr (Nat.le_trans h.mod.size h1)⟩
end Acts
end Go.Proofs.YtoklonmiejdgmaaGreatDoor
/- Package parts: the table's state; the iterator over its runs. -/
namespace Go.Proofs.YtoklonmiejdgmaaGreatDoor
set_option linter.unusedVariables false
set_option linter.unusedSimpArgs false
set_option linter.unnecessarySimpa false
open Go.RowKit Go.Shelf
set_option maxHeartbeats 400000
set_option maxRecDepth 100000
attribute [local go_sem] Oper.semAt_some
theorem wide_fn (f : FuncId) : Fence.wide.fn f = True:=rfl
/-- A run: where it begins, how many places, whose. -/
abbrev Rn:=Nat × Nat × Nat
def rnC (r : Rn) : List Value:=[.int .i64 r.1,.int .i64 r.2.1,.int .i64 r.2.2]
def rnF (l : List Rn) : List Value:=(l.map rnC).flatten
theorem rnF_len (l : List Rn) : (rnF l).length = l.length * 3:=by
 rw [rnF,flatten_len (N:=3) _ (by intro r hr;obtain ⟨x,_,rfl⟩:=List.mem_map.1 hr;rfl)];simp
theorem rnF_get (l : List Rn) (k j : Nat) (hk : k < l.length) (hj : j < 3) : (rnF l)[k * 3 + j]? = (rnC l[k])[j]?:=by
 rw [rnF,flatten_get (N:=3) _ k j (by intro r hr;obtain ⟨x,_,rfl⟩:=List.mem_map.1 hr;rfl) (by simpa using hk) hj];simp
theorem rnF_app (l m : List Rn) : rnF (l ++ m) = rnF l ++ rnF m:=by simp [rnF]
/-- The runs of a table of n places: in order, apart, inside. -/
structure Okr (n : Nat) (R : List Rn) : Prop where
 n64 : n ≤ 64
 each : ∀ r ∈ R,1 ≤ r.2.1 ∧ r.1 + r.2.1 ≤ n ∧ r.2.2 < 64
 sorted : R.Pairwise (fun r s=>r.1 + r.2.1 ≤ s.1)
theorem runs_few : ∀ (R : List Rn) (lo n : Nat),(∀ r ∈ R,1 ≤ r.2.1 ∧ lo ≤ r.1 ∧ r.1 + r.2.1 ≤ n) → R.Pairwise (fun r s=>r.1 + r.2.1 ≤ s.1) → R = [] ∨ R.length + lo ≤ n
 | [],_,_,_,_=>.inl rfl
 | r :: R,lo,n,h,hp=>by
  rw [List.pairwise_cons] at hp
  have h0:=h r (by simp)
  have ih:=runs_few R (r.1 + r.2.1) n (fun s hs=>⟨(h s (by simp [hs])).1,hp.1 s hs,(h s (by simp [hs])).2.2⟩) hp.2
  right
  rcases ih with rfl | ih
  ·simp;omega
  ·simp;omega
theorem Okr.few {n : Nat} {R : List Rn} (h : Okr n R) : R.length ≤ 64:=by
 have h64:=h.n64
 rcases runs_few R 0 n (fun r hr=>⟨(h.each r hr).1,by omega,(h.each r hr).2.1⟩) h.sorted with rfl | h1
 ·simp
 ·omega
theorem Okr.nil {n : Nat} (h : n ≤ 64) : Okr n []:=⟨h,by simp,List.Pairwise.nil⟩
/-- A table in memory. -/
structure TSt (w : World) (B tt : Nat) (a : Option Addr) (cap n : Nat) (R : List Rn) : Prop where
 obj : ObjAt w tt 223 [.slice a R.length cap,.int .i64 n,.bool true]
 own : Own w B 227 3 a R.length cap (rnF R)
 ok : Okr n R
namespace TSt
variable {w w' : World} {B tt cap n : Nat} {a : Option Addr} {R : List Rn}
theorem below (h : TSt w B tt a cap n R) (hb : Below w.heap.size w w') : TSt w' B tt a cap n R:=⟨h.obj.below hb,h.own.below hb,h.ok⟩
theorem mono {B' : Nat} (h : TSt w B tt a cap n R) (hB : B' ≤ B) : TSt w B' tt a cap n R:=⟨h.obj,h.own.mono hB,h.ok⟩
theorem mod {S : List Nat} (h : TSt w B tt a cap n R) (hm : Mod S w w') (h1 : tt ∉ S) (h2 : ∀ k ∈ blk a,k ∉ S) : TSt w' B tt a cap n R:=⟨h.obj.mod hm h1,h.own.mod hm h2,h.ok⟩
end TSt
theorem ObjAt.belowAt {w w' : World} {b n0 : Nat} {t : TypeId} {cs : List Value} (h : ObjAt w b t cs) (hb : Below n0 w w') (hlt : b < n0) : ObjAt w' b t cs:=(hb.block b hlt).trans h
/-- What the iterator's walk reads: the table's object and its row, in blocks below n0. -/
structure TRd (w : World) (n0 tt : Nat) (a : Option Addr) (cap n : Nat) (R : List Rn) : Prop where
 obj : ObjAt w tt 223 [.slice a R.length cap,.int .i64 n,.bool true]
 rd : Rd w 3 a R.length (rnF R)
 lt : tt < n0
 blk : ∀ k ∈ blk a,k < n0
theorem TSt.rdt {w : World} {B tt cap n : Nat} {a : Option Addr} {R : List Rn} (h : TSt w B tt a cap n R) : TRd w w.heap.size tt a cap n R:=⟨h.obj,h.own.rd,h.obj.lt,fun k hk=>(h.own.ge k hk).2⟩
theorem TRd.below {w w' : World} {n0 tt cap n : Nat} {a : Option Addr} {R : List Rn} (h : TRd w n0 tt a cap n R) (hb : Below n0 w w') : TRd w' n0 tt a cap n R:=
 ⟨h.obj.belowAt hb h.lt,⟨h.rd.1,h.rd.2.1,fun p hp hx=>by
  obtain ⟨b,o,h1,h2,h3⟩:=h.rd.2.2 p hp hx
  have hlt : b < n0:=h.blk b (mem_blk.2 ⟨p,hp,by rw [h1]⟩)
  have hsz:=hb.size
  refine ⟨b,o,h1,by omega,fun j u hu=>?_⟩
  exact (hb.cell (p:=⟨b,o + j,none⟩) hlt).trans (h3 j u hu)⟩,h.lt,h.blk⟩
theorem TRd.at_ {w : World} {n0 tt cap n : Nat} {a : Option Addr} {R : List Rn} (h : TRd w n0 tt a cap n R) (hn : 0 < R.length) : ∃ b o,a = some ⟨b,o,none⟩ ∧ b < n0:=by
 have ha : a ≠ none:=fun h0=>by have:=h.rd.2.1 h0;omega
 obtain ⟨p,rfl⟩:=Option.ne_none_iff_exists'.1 ha
 have hne : rnF R ≠ []:=by intro h0;have:=rnF_len R;rw [h0] at this;simp at this;omega
 obtain ⟨b,o,rfl,h2,h3⟩:=h.rd.2.2 p rfl hne
 exact ⟨b,o,rfl,h.blk b (mem_blk.2 ⟨_,rfl,rfl⟩)⟩
theorem TRd.cells {w : World} {n0 tt cap n b o : Nat} {R : List Rn} (h : TRd w n0 tt (some ⟨b,o,none⟩) cap n R) (k : Nat) (hk : k < R.length) :
  w.cell? ⟨b,o + k * 3,none⟩ = some (.int .i64 R[k].1) ∧ w.cell? ⟨b,o + k * 3 + 1,none⟩ = some (.int .i64 R[k].2.1) ∧ w.cell? ⟨b,o + k * 3 + 2,none⟩ = some (.int .i64 R[k].2.2):=by
 have hne : rnF R ≠ []:=by intro h0;have:=rnF_len R;rw [h0] at this;simp at this;omega
 obtain ⟨b',o',e,_,h3⟩:=h.rd.2.2 _ rfl hne
 injection e with e1 e2
 subst e1 e2
 refine ⟨?_,?_,?_⟩
 ·exact h3 (k * 3) _ (by have:=rnF_get R k 0 hk (by omega);simpa [rnC] using this)
 ·have:=h3 (k * 3 + 1) (.int .i64 R[k].2.1) (by have:=rnF_get R k 1 hk (by omega);simpa [rnC] using this)
  rwa [← Nat.add_assoc] at this
 ·have:=h3 (k * 3 + 2) (.int .i64 R[k].2.2) (by have:=rnF_get R k 2 hk (by omega);simpa [rnC] using this)
  rwa [← Nat.add_assoc] at this
/-- What the iterator hands over. -/
def runV (r : Rn) : Value:=.agg #[.int .i64 r.1,.int .i64 r.2.1,.int .i64 r.2.2]
/-- Whatever a round is handed: numbers up to 64. -/
def cl (n : Nat) : Nat:=min n 64
theorem cl_le (n : Nat) : cl n ≤ 64:=Nat.min_le_right _ _
theorem cl_eq {n : Nat} (h : n ≤ 64) : cl n = n:=Nat.min_eq_left h
def clR (r : Rn) : Rn:=(cl r.1,cl r.2.1,cl r.2.2)
def encR (x : Nat × Rn) : Array Value:=#[.int .i64 (cl x.1 : Nat),runV (clR x.2)]
/-- The runs that came. -/
def came (pre : List (Nat × Rn)) : List Rn:=pre.map (fun x=>clR x.2)
theorem came_snoc (pre : List (Nat × Rn)) (x : Nat × Rn) : came (pre ++ [x]) = came pre ++ [clR x.2]:=by simp [came]
theorem Okr.cl {n : Nat} {R : List Rn} (h : Okr n R) {r : Rn} (hr : r ∈ R) : clR r = r:=by
 have h0:=h.each r hr
 have h64:=h.n64
 unfold clR
 rw [cl_eq (by omega),cl_eq (by omega),cl_eq (by omega)]
/-- The runs, numbered. -/
def numbered (R : List Rn) (k : Nat) : List (Nat × Rn):=((List.range R.length).zip R).take k
theorem numbered_len (R : List Rn) {k : Nat} (h : k ≤ R.length) : (numbered R k).length = k:=by simp [numbered];omega
theorem numbered_succ (R : List Rn) {k : Nat} (h : k < R.length) : numbered R (k + 1) = numbered R k ++ [(k,R[k])]:=by
 unfold numbered
 rw [List.take_succ_eq_append_getElem (by simpa using h)]
 simp
theorem numbered_snd (R : List Rn) (k : Nat) : (numbered R k).map Prod.snd = R.take k:=by
 unfold numbered
 rw [List.map_take,List.map_snd_zip (by simp)]
theorem came_numbered {n : Nat} {R : List Rn} (h : Okr n R) (k : Nat) : came (numbered R k) = R.take k:=by
 rw [← numbered_snd]
 unfold came
 refine List.map_congr_left (fun x hx=>?_)
 have : x.2 ∈ R:=by
  have h1 : x.2 ∈ (numbered R k).map Prod.snd:=List.mem_map_of_mem hx
  rw [numbered_snd] at h1
  exact List.mem_of_mem_take h1
 exact h.cl this
theorem all1_in (F : Fence) (n : Nat) (hF : F.fn 205) (hro : F.round = none) (hn : 1 ≤ n) (l Bn n0 tt cap N : Nat) (a : Option Addr) (R : List Rn) (hok : Okr N R) (J Jx : List (Nat × Rn) → World → Prop) (B0 : Nat) (hJ : AbidesFrom B0 J)
  (hY : ∀ pre x W,J pre W → pre.length < R.length → YieldAt F (n - 1) Tryz.prog l (encR x) W fun e W'=>
   (e = .returned (.bool true) ∧ J (pre ++ [x]) W' ∧ Below n0 W W') ∨ (e = .returned (.bool false) ∧ Jx (pre ++ [x]) W'))
  (W : World) (hn0 : n0 ≤ W.heap.size) (hBn : W.cell? ⟨Bn,0,none⟩ = some (.pointer (some ⟨tt,0,none⟩))) (hT : TRd W n0 tt a cap N R) (h0 : J [] W) :
  CallsIn F n Tryz.prog 205 #[.func (.yield l) #[] #[],.pointer (some ⟨Bn,0,none⟩)] W fun e W'=>(∃ v,e = .returned v) ∧
   ((∃ ys,ys = numbered R R.length ∧ J ys W') ∨ (∃ pre,(∃ k,k ≤ R.length ∧ pre = numbered R k) ∧ Jx pre W')):=by
 have c0:=hT.obj.cell 0 _ rfl
 have h64:=hok.few
 refine callsIn_of_wp Tryz.func205 rfl hF ?_ hro
 simp only [Tryz.ntmps205,List.size_toArray,List.length_cons,List.length_nil,Nat.reduceAdd,Nat.reduceSub,Array.replicate_succ,Array.replicate_zero,List.push_toArray,List.append_toArray,List.nil_append,List.cons_append]
 gi_wp2
 gi_loopw [10] (fun i wr=>∃ k : Nat,k ≤ R.length ∧ i = .int .i64 k ∧ J (numbered R k) wr ∧ Below n0 W wr)
  (fun i _=>R.length - (intOf i).toNat)
 case atStart=>exact ⟨0,Nat.zero_le _,rfl,h0,Below.refl _ _⟩
 case round=>
  obtain ⟨k,hk,rfl,hJs,hnx⟩:=hrel
  by_cases hlt : k < R.length
  ·have hTr:=hT.below hnx
   obtain ⟨b,o,rfl,hb⟩:=hTr.at_ (by omega)
   obtain ⟨k0,k1,k2⟩:=hTr.cells k hlt
   have HS : Hid (numbered R (k + 1) = numbered R k ++ [(k,R[k])]):=numbered_succ R hlt
   have hlen:=numbered_len R (Nat.le_of_lt hlt)
   have hJ2 : J (numbered R k) (wr.alloc (.cells #[.int .i64 R[k].1,.int .i64 R[k].2.1,.int .i64 R[k].2.2] 227)):=hJ _ _ _ none hJs (World.grownBy_alloc _ _ none) (fun r h=>by cases h)
   obtain ⟨fn,tmps,assign,body,hy,hR⟩:=hY _ (k,R[k]) _ hJ2 (by rw [hlen];exact hlt)
   dsimp only [encR] at hy
   rw [hok.cl (List.getElem_mem hlt),cl_eq (show k ≤ 64 by omega)] at hy
   dsimp only [runV] at hy
   have hsz:=hnx.size
   have HB:=Lib.hid hnx
   clear hTr hJs hJ2 hnx hT h0 hY
   generalize R[k] = x at k0 k1 k2 hy hR HS
   have hk0 : (0 : Int) ≤ k:=by omega
   have hk1 : (k : Int) < (R.length : Int):=by omega
   gi_wp2
   refine hR.mono ?_
   rintro e W3 (⟨rfl,hJ3,hk3⟩ | ⟨rfl,hJx3⟩)
   ·gi_wp2
    go_roundw
    case rel=>exact ⟨k + 1,by omega,by simp,by rw [HS.out];exact hJ3,((HB.out.alloc (by omega) _).trans hk3)⟩
    case measure=>simp [intOf];omega
   ·gi_wp2
    refine bodyPost_ret (results_none rfl _ _ _) rfl ?_
    exact ⟨⟨_,rfl⟩,.inr ⟨_,⟨k + 1,by omega,HS.out.symm⟩,hJx3⟩⟩
  ·obtain rfl : k = R.length:=by omega
   gi_wp2
   go_end0
   exact ⟨⟨_,rfl⟩,.inl ⟨_,rfl,hJs⟩⟩
/-- t.all(): the table's pointer is boxed; the function value captures the box. -/
theorem all_in (F : Fence) (n : Nat) (hF : F.fn 187) (hro : F.round = none) (p : Option Addr) (w : World) :
  CallsIn F n Tryz.prog 187 #[.pointer p] w fun e w'=>e = .returned (.func (.func 205) #[] #[.pointer (some ⟨w.heap.size,0,none⟩)]) ∧ w' = w.alloc (.cells #[.pointer p] 188):=by
 refine callsIn_of_wp Tryz.func187 rfl hF ?_ hro
 simp only [Tryz.ntmps187,List.size_toArray,List.length_cons,List.length_nil,Nat.reduceAdd,Nat.reduceSub,Array.replicate_succ,Array.replicate_zero,List.push_toArray,List.append_toArray,List.nil_append,List.cons_append]
 gi_wp2
 go_ret
 exact ⟨rfl,rfl⟩
/-- The iterator: all runs, in order, numbered; or some of the first. -/
theorem all_stops (F : Fence) (n : Nat) (hF : F.fn 205) (hro : F.round = none) (hn : 1 ≤ n) (Bn n0 tt cap N : Nat) (a : Option Addr) (R : List Rn) (hok : Okr N R) (w : World) (hBn : Bn < w.heap.size) (hn0 : n0 ≤ w.heap.size)
  (hc : w.cell? ⟨Bn,0,none⟩ = some (.pointer (some ⟨tt,0,none⟩))) (hT : TRd w n0 tt a cap N R) :
  SeqStopsK F n Tryz.prog 205 #[.pointer (some ⟨Bn,0,none⟩)] encR (Below n0) (fun ys=>ys = numbered R R.length) (fun pre=>∃ k,k ≤ R.length ∧ pre = numbered R k) R.length w:=fun l J Jx W hW hJ _ hY h0=>
 all1_in F n hF hro hn l Bn n0 tt cap N a R hok J Jx _ hJ hY W (Nat.le_trans hn0 hW.size) ((hW.cell (p:=⟨Bn,0,none⟩) hBn).trans hc) (hT.below (hW.mono hn0)) h0
end Go.Proofs.YtoklonmiejdgmaaGreatDoor
/- Package parts: Free. -/
namespace Go.Proofs.YtoklonmiejdgmaaGreatDoor
set_option linter.unusedVariables false
set_option linter.unusedSimpArgs false
set_option linter.unnecessarySimpa false
open Go.RowKit Go.Shelf
set_option maxHeartbeats 400000
set_option maxRecDepth 100000
attribute [local go_sem] Oper.semAt_some wide_fn
attribute [local simp] wide_fn
theorem objAt_own {β : Type} (b : Nat) (t : TypeId) (cs : List Value) : Go.Own (fun (_ : β) W=>ObjAt W b t cs):=fun s X Y row hs hg hrow=>
 (hg.block b (ObjAt.lt hs) (fun e=>by
  obtain ⟨o,ho,hc⟩:=hrow b e.symm
  rw [show X.heap[b]? = _ from hs] at ho
  cases ho
  cases hc)).trans hs
theorem boxed_drew {W : World} {B : Nat} {t : TypeId} {v : Value} (h : Boxed W B t v) : Boxed W.drew B t v:=h
theorem none_no (B tt cap n : Nat) (a : Option Addr) (R : List Rn) (w : World) (h : TSt w B tt a cap n R) : Calls Tryz.prog 166 #[.pointer (some ⟨tt,0,none⟩)] w fun e w'=>e = .returned (.bool false) ∧ w = w':=by
 have c2:=h.obj.cell 2 _ rfl
 clear h
 go_enter Tryz.func166,Tryz.ntmps166
 go_wp2
 go_ret
 exact ⟨rfl,rfl⟩
theorem end_any (f n who : Nat) (w : World) (hf : f ≤ 64) (hn : n ≤ 64) : Calls Tryz.prog 188 #[runV (f,n,who)] w fun e w'=>e = .returned (.int .i64 ((f : Int) + n)) ∧ w.alloc (.cells #[.int .i64 f,.int .i64 n,.int .i64 who] 227) = w':=by
 unfold runV
 go_enter Tryz.func188,Tryz.ntmps188
 go_wp2
 go_ret
 exact ⟨rfl,rfl⟩
end Go.Proofs.YtoklonmiejdgmaaGreatDoor
/- Package parts: Who. -/
namespace Go.Proofs.YtoklonmiejdgmaaGreatDoor
set_option linter.unusedVariables false
set_option linter.unusedSimpArgs false
set_option linter.unnecessarySimpa false
open Go.RowKit Go.Shelf
set_option maxHeartbeats 400000
set_option maxRecDepth 100000
attribute [local go_sem] Oper.semAt_some wide_fn
attribute [local simp] wide_fn
end Go.Proofs.YtoklonmiejdgmaaGreatDoor
/- A scope that no goto enters or leaves, inside a fence. -/
namespace Go.Proofs.YtoklonmiejdgmaaGreatDoor
set_option linter.unusedVariables false
set_option linter.unusedSimpArgs false
set_option linter.unnecessarySimpa false
open Go
section
variable {F : Fence} {n : Nat} {P : Program} {b : Frame} {a : Act} {k : List Item} {cs : List Frame} {w : World} {Q : Exit → Act → World → Prop}
theorem stepR_scope {c : Code} : step P (lone (b.atR a (.code (.scope c) :: k)) cs w) = .next (lone (b.atR a (.code c :: .inScope c :: k)) cs w):=
 step_lone_go (by simp [stepG,stepG.exec,Frame.atR])
theorem stepR_inScope {c : Code} : step P (lone (b.atR a (.inScope c :: k)) cs w) = .next (lone (b.atR a k) cs w):=
 step_lone_go (by simp [stepG,stepG.exec,Frame.atR])
theorem wpIn_scope {c : Code} (h : c.wpIn F n P (Exit.noGoto Q) a w) : (Code.scope c).wpIn F n P Q a w:=by
 intro b k cs hro hb hr
 have h0 : (lone (b.atR a (.code (.scope c) :: k)) cs w).fenced P F:=fenced_calm hb hr rfl
 obtain ⟨e,a1,w1,hq,harr⟩:=h b (.inScope c :: k) cs hro hb hr
 cases e with
 | normal=>exact ⟨.normal,a1,w1,hq,.head h0 stepR_scope (StepsIn.trans harr (.one (fenced_calm hb hr rfl) stepR_inScope))⟩
 | exit id=>
  have hx : exitTo id (.inScope c :: k) = exitTo id k:=by simp [exitTo]
  exact ⟨.exit id,a1,w1,hq,fun k' hk=>.head h0 stepR_scope (harr.1 k' (by rw [hx];exact hk)),
   fun hr' hk=>let ⟨k1,h1,h2⟩:=harr.2 hr' (by rw [hx];exact hk);⟨k1,h1,.head h0 stepR_scope h2⟩⟩
 | goto l=>exact hq.elim
 | ret=>exact ⟨_,a1,w1,hq,.of_steps (.one h0 stepR_scope) harr⟩
 | panic ch=>exact ⟨_,a1,w1,hq,.of_steps (.one h0 stepR_scope) harr⟩
 | outgrown=>exact ⟨_,a1,w1,hq,.of_steps (.one h0 stepR_scope) harr⟩
end
end Go.Proofs.YtoklonmiejdgmaaGreatDoor
/- Package parts: meets. -/
namespace Go.Proofs.YtoklonmiejdgmaaGreatDoor
set_option linter.unusedVariables false
set_option linter.unusedSimpArgs false
set_option linter.unnecessarySimpa false
open Go.RowKit Go.Shelf
set_option maxHeartbeats 400000
set_option maxRecDepth 100000
attribute [local go_sem] Oper.semAt_some wide_fn
attribute [local simp] wide_fn
def meetV (f m : Nat) : List Rn → Nat × Bool
 | []=>(0,false)
 | r :: R=>if r.1 + r.2.1 ≤ f then ((meetV f m R).1 + 1,(meetV f m R).2) else (0,decide (r.1 < f + m))
def passed (f : Nat) (R : List Rn) : Bool:=R.all (fun r=>decide (r.1 + r.2.1 ≤ f))
theorem meet_pass (f m : Nat) : ∀ R,passed f R = true → meetV f m R = (R.length,false)
 | [],_=>rfl
 | r :: R,h=>by
  simp only [passed,List.all_cons,Bool.and_eq_true,decide_eq_true_eq] at h
  have ih:=meet_pass f m R h.2
  simp only [meetV,if_pos h.1,ih,List.length_cons]
theorem meet_stop (f m : Nat) (r : Rn) (S : List Rn) (h2 : ¬ r.1 + r.2.1 ≤ f) : ∀ R,passed f R = true → meetV f m (R ++ r :: S) = (R.length,decide (r.1 < f + m))
 | [],_=>by simp [meetV,h2]
 | q :: R,h=>by
  simp only [passed,List.all_cons,Bool.and_eq_true,decide_eq_true_eq] at h
  have ih:=meet_stop f m r S h2 R h.2
  simp only [List.cons_append,meetV,if_pos h.1,ih,List.length_cons]
theorem passed_snoc (f : Nat) (R : List Rn) (r : Rn) : passed f (R ++ [r]) = (passed f R && decide (r.1 + r.2.1 ≤ f)):=by simp [passed]
/-- Where a round has left the loop. -/
def Left (f m at_ : Nat) (hit : Bool) (pre : List (Nat × Rn)) : Prop:=∃ pre0 x,pre = pre0 ++ [x] ∧ passed f (came pre0) = true ∧ ¬ (clR x.2).1 + (clR x.2).2.1 ≤ f ∧ at_ = cl x.1 ∧ hit = decide ((clR x.2).1 < f + m)
theorem numbered_last {R : List Rn} {k : Nat} (hk : k ≤ R.length) {pre0 : List (Nat × Rn)} {x : Nat × Rn} (h : numbered R k = pre0 ++ [x]) : ∃ j,k = j + 1 ∧ ∃ hj : j < R.length,pre0 = numbered R j ∧ x = (j,R[j]):=by
 have hl:=numbered_len R hk
 rw [h,List.length_append] at hl
 simp only [List.length_cons,List.length_nil] at hl
 obtain ⟨j,rfl⟩ : ∃ j,k = j + 1:=⟨k - 1,by omega⟩
 have hs:=numbered_succ R (k:=j) (by omega)
 rw [h] at hs
 have:=List.append_inj' hs (by simp)
 refine ⟨j,rfl,by omega,this.1,?_⟩
 have h2:=this.2
 simpa using h2
theorem left_meet {n : Nat} {R : List Rn} (hok : Okr n R) {f m at_ k : Nat} {hit : Bool} (hk : k ≤ R.length) (h : Left f m at_ hit (numbered R k)) : meetV f m R = (at_,hit):=by
 obtain ⟨pre0,x,h1,h2,h3,h4,h5⟩:=h
 obtain ⟨j,rfl,hj,rfl,rfl⟩:=numbered_last hk h1
 have hfew:=hok.few
 rw [came_numbered hok] at h2
 dsimp only at h3 h4 h5
 rw [hok.cl (List.getElem_mem hj)] at h3 h5
 rw [cl_eq (by omega)] at h4
 have:=meet_stop f m R[j] (R.drop (j + 1)) h3 (R.take j) h2
 rw [← List.drop_eq_getElem_cons hj,List.take_append_drop,List.length_take,Nat.min_eq_left (by omega)] at this
 rw [this,h4,h5]
set_option maxHeartbeats 8000000 in
theorem meets_any (B tt cap n : Nat) (a : Option Addr) (R : List Rn) (f m : Nat) (hf : f ≤ 64) (hm : m ≤ 64) (w : World) (h : TSt w B tt a cap n R) : Calls Tryz.prog 167 #[.pointer (some ⟨tt,0,none⟩),.int .i64 f,.int .i64 m] w fun e w'=>e = .returned (.tuple #[.int .i64 (meetV f m R).1,.bool (meetV f m R).2]) ∧ Below w.heap.size w w':=by
 have H:=Lib.hid h
 have htt:=h.obj.lt
 have hfew:=h.ok.few
 have c0:=h.obj.cell 0 _ rfl
 clear h
 refine (callsIn_wide (n:=9)).1 ?_
 refine callsIn_of_wp_marks Tryz.func167 rfl trivial ?_ rfl
 simp only [Tryz.ntmps167,List.size_toArray,List.length_cons,List.length_nil,Nat.reduceAdd,Nat.reduceSub,Array.replicate_succ,Array.replicate_zero,List.push_toArray,List.append_toArray,List.nil_append,List.cons_append]
 gi_wp2
 refine wpIn_scope ?_
 gi_wp2
 refine wpIn_label ?_
 gi_wp2_with (gi_at_call 187;refine (all_in Fence.wide _ trivial rfl _ _).mono ?_;rintro e w' ⟨rfl,rfl⟩)
 obtain ⟨b,hb⟩ : ∃ b,b = w.heap.size:=⟨_,rfl⟩
 obtain ⟨W0,hW0⟩ : ∃ W0,W0 = ((((w.alloc (.cells #[.int .i64 f] 3)).alloc (.cells #[.int .i64 m] 3)).alloc (.cells #[.int .i64 R.length] 3)).alloc (.cells #[.bool false] 4)).alloc (.cells #[.pointer (some ⟨tt,0,none⟩)] 188):=⟨_,rfl⟩
 have hBF : Boxed W0 b 3 (.int .i64 f):=by rw [hW0,hb];exact ((((Boxed.new w _ _).alloc _).alloc _).alloc _).alloc _
 have hBM : Boxed W0 (b + 1) 3 (.int .i64 m):=by
  rw [hW0,hb]
  have:=(((Boxed.new (w.alloc (.cells #[.int .i64 f] 3)) 3 (.int .i64 m)).alloc (.cells #[.int .i64 R.length] 3)).alloc (.cells #[.bool false] 4)).alloc (.cells #[.pointer (some ⟨tt,0,none⟩)] 188)
  simpa only [World.size_alloc] using this
 have hBA : Boxed W0 (b + 1 + 1) 3 (.int .i64 R.length):=by
  rw [hW0,hb]
  have:=((Boxed.new ((w.alloc (.cells #[.int .i64 f] 3)).alloc (.cells #[.int .i64 m] 3)) 3 (.int .i64 R.length)).alloc (.cells #[.bool false] 4)).alloc (.cells #[.pointer (some ⟨tt,0,none⟩)] 188)
  simpa only [World.size_alloc] using this
 have hBH : Boxed W0 (b + 1 + 1 + 1) 4 (.bool false):=by
  rw [hW0,hb]
  have:=(Boxed.new (((w.alloc (.cells #[.int .i64 f] 3)).alloc (.cells #[.int .i64 m] 3)).alloc (.cells #[.int .i64 R.length] 3)) 4 (.bool false)).alloc (.cells #[.pointer (some ⟨tt,0,none⟩)] 188)
  simpa only [World.size_alloc] using this
 have hBT : Boxed W0 (b + 1 + 1 + 1 + 1) 188 (.pointer (some ⟨tt,0,none⟩)):=by
  rw [hW0,hb]
  have:=Boxed.new ((((w.alloc (.cells #[.int .i64 f] 3)).alloc (.cells #[.int .i64 m] 3)).alloc (.cells #[.int .i64 R.length] 3)).alloc (.cells #[.bool false] 4)) 188 (.pointer (some ⟨tt,0,none⟩))
  simpa only [World.size_alloc] using this
 have hsz : W0.heap.size = b + 5:=by rw [hW0,hb];simp
 have hB0 : Below w.heap.size w W0:=by rw [hW0];exact ((((((Below.refl _ w).alloc (Nat.le_refl _) _).alloc (by simp) _).alloc (by simp;omega) _).alloc (by simp;omega) _).alloc (by simp;omega) _)
 rw [← hW0,← hb]
 rw [← hb] at htt hB0
 have HTR:=Lib.hid (H.out.rdt)
 rw [← hb] at HTR
 have HWB : Hid (w.heap.size = b):=hb.symm
 clear hW0 c0 hb
 refine wpIn_rangeFunc_ownH (F:=Fence.wide) rfl (by omega) (gf:=205) (lb:=#[.pointer (some ⟨b + 1 + 1 + 1 + 1,0,none⟩)]) rfl trivial (enters_of Tryz.func205 (by kernel_rfl) rfl)
  (all_stops Fence.wide _ trivial rfl (by omega) (b + 1 + 1 + 1 + 1) b tt cap n a R H.out.ok W0 (by omega) (by omega) hBT.cell (HTR.out.below hB0)) belowK_t (belowK_b (by omega)) (Below.refl _ _) (fun _=>rfl)
  (fun pre W=>((Boxed W b 3 (.int .i64 f) ∧ Boxed W (b + 1) 3 (.int .i64 m)) ∧ (Boxed W (b + 1 + 1) 3 (.int .i64 R.length) ∧ Boxed W (b + 1 + 1 + 1) 4 (.bool false)) ∧ passed f (came pre) = true) ∧ Below b w W)
  (fun c pre W=>∃ (at_ : Nat) (hit : Bool),(Boxed W (b + 1 + 1) 3 (.int .i64 at_) ∧ Boxed W (b + 1 + 1 + 1) 4 (.bool hit)) ∧ ((c = .exit 0 ∧ Left f m at_ hit pre) ∧ Below b w W))
  (OwnFrom.and (OwnFrom.and (OwnFrom.and (Go.Own.from (boxed_own _ _ _) _) (Go.Own.from (boxed_own _ _ _) _)) (OwnFrom.and (OwnFrom.and (Go.Own.from (boxed_own _ _ _) _) (Go.Own.from (boxed_own _ _ _) _)) (ownFrom_pure _ _))) (ownFrom_below (by rw [HWB.out];exact Nat.le_refl _) (by omega)))
  (fun c s X Y row hs hg hr=>by
   obtain ⟨at_,hit,⟨h1,h2⟩,h3,h4⟩:=hs
   exact ⟨at_,hit,⟨(Go.Own.from (boxed_own _ _ (fun (_ : Unit)=>Value.int .i64 at_)) _) () X Y row h1 hg hr,(Go.Own.from (boxed_own _ _ (fun (_ : Unit)=>Value.bool hit)) _) () X Y row h2 hg hr⟩,h3,(ownFrom_below (β:=Unit) (by rw [HWB.out];exact Nat.le_refl _) (by omega)) () X Y row h4 hg hr⟩)
  ⟨⟨⟨hBF,hBM⟩,⟨hBA,hBH⟩,rfl⟩,hB0⟩
  (fun x a' W=>∃ Bx,b + 1 + 1 + 1 < Bx ∧ ObjAt W Bx 227 (rnC (clR x.2)) ∧ a' = { tmps:=#[.pointer (some ⟨tt,0,none⟩),.int .i64 f,.int .i64 m,undef,.pointer (some ⟨b,0,none⟩),.pointer (some ⟨b + 1,0,none⟩),.int .i64 0,.bool false,.pointer (some ⟨b + 1 + 1,0,none⟩),.pointer (some ⟨b + 1 + 1 + 1,0,none⟩),.int .i64 (cl x.1 : Nat),.pointer (some ⟨Bx,0,none⟩),.pointer (some ⟨tt,0,none⟩),.pointer (some ⟨tt,0,none⟩),.pointer (some ⟨tt,0,none⟩),.slice a R.length cap,.int .i64 R.length,.pointer (some ⟨tt,0,none⟩),.func (.func 205) #[] #[.pointer (some ⟨b + 1 + 1 + 1 + 1,0,none⟩)],.int .i64 (cl x.1 : Nat),runV (clR x.2),undef,undef,undef,undef,undef,undef,undef,undef,undef,undef,undef,undef,undef,undef,undef],defers:=[] })
  (fun x a' _ X Y row hs hg hr=>by obtain ⟨Bx,h1,h2,h3⟩:=hs;exact ⟨Bx,h1,objAt_own Bx 227 (rnC (clR x.2)) () X Y row h2 hg (fun r e=>(hr r e).2),h3⟩)
  ?assign ?body ?done ?stop
 case assign=>
  rintro l pre x W K ⟨⟨⟨h1,h2⟩,⟨h3,h4⟩,h5⟩,hB1⟩ hK
  have hbz : b ≤ W.heap.size:=Nat.le_of_lt h1.lt
  obtain ⟨ix,fr,mr,who⟩:=x
  simp only [encR,runV,clR]
  gi_wp2
  exact hK _ _ ((KeepsOthers.alloc _ _).from _) ((Below.refl _ W).alloc hbz _) ⟨⟨⟨h1.alloc _,h2.alloc _⟩,⟨h3.alloc _,h4.alloc _⟩,h5⟩,hB1.alloc hbz _⟩ ⟨W.heap.size,h4.lt,ObjAt.new W _ (rnC (clR (fr,mr,who))),rfl⟩
 case body=>
  rintro l pre x a' W hl hr ⟨⟨⟨h1,h2⟩,⟨h3,h4⟩,h5⟩,hB1⟩ ⟨Bx,hBx,bX,rfl⟩ hlt
  have hps:=passed_snoc f (came pre) (clR x.2)
  rw [← came_snoc,h5,Bool.true_and] at hps
  have HLF : Hid (¬ (clR x.2).1 + (clR x.2).2.1 ≤ f → ∀ hit,hit = decide ((clR x.2).1 < f + m) → Left f m (cl x.1) hit (pre ++ [x])):=fun hn hit he=>⟨pre,x,rfl,h5,hn,rfl,he⟩
  have hq0 : (clR x.2).1 ≤ 64:=cl_le _
  have hq1 : (clR x.2).2.1 ≤ 64:=cl_le _
  have hqi : cl x.1 ≤ 64:=cl_le _
  generalize clR x.2 = y at bX hps hq0 hq1 HLF
  generalize cl x.1 = ix at hqi HLF
  obtain ⟨fr,mr,who⟩:=y
  have HPS:=Lib.hid hps
  have x0:=bX.cell 0 _ rfl;have x1:=bX.cell 1 _ rfl;have x2:=bX.cell 2 _ rfl
  have k1:=h1.cell;have k2:=h2.cell;have k3:=h3.cell;have k4:=h4.cell
  have f3:=h3.frozen;have f4:=h4.frozen
  have hlB:=bX.lt
  have hl1 : b < W.heap.size:=h1.lt
  have hl2 : b + 1 < W.heap.size:=h2.lt
  have hl3 : b + 1 + 1 < W.heap.size:=h3.lt
  have hl4 : b + 1 + 1 + 1 < W.heap.size:=h4.lt
  have hmx : Tryz.prog.follows .mixedOrders = true:=by kernel_rfl
  dsimp only at hps hq0 hq1 HLF HPS
  clear hps
  by_cases g0 : fr + mr ≤ f
  ·have t0 : decide ((fr : Int) + mr ≤ f) = true:=by simp;omega
   obtain ⟨X,hX⟩ : ∃ X,X = (W.alloc (.cells #[.int .i64 fr,.int .i64 mr,.int .i64 who] 227)).drew:=⟨_,rfl⟩
   have FIN : Hid (KeepsFrom W0.heap.size W X ∧ Below b W X ∧ (((Boxed X b 3 (.int .i64 f) ∧ Boxed X (b + 1) 3 (.int .i64 m)) ∧ (Boxed X (b + 1 + 1) 3 (.int .i64 R.length) ∧ Boxed X (b + 1 + 1 + 1) 4 (.bool false)) ∧ passed f (came (pre ++ [x])) = true) ∧ Below b w X)):=by
    rw [hX]
    exact ⟨KeepsOthers.from (by (repeat (first | exact KeepsOthers.refl _ | refine KeepsOthers.trans ?_ (KeepsOthers.drew _) | refine KeepsOthers.trans ?_ (KeepsOthers.setCell _ _ _) | refine KeepsOthers.trans ?_ (KeepsOthers.alloc _ _)))) _,by (repeat (first | exact Below.refl _ _ | assumption | refine Below.drew ?_ | (refine Below.setCell ?_ ?_ _;rotate_left;(first | omega | (simp;done) | (simp;omega));rotate_left) | (refine Below.alloc ?_ ?_ _;rotate_left;(first | omega | (simp;done) | (simp;omega));rotate_left))),⟨⟨by (repeat (first | assumption | refine boxed_drew ?_ | refine Boxed.alloc ?_ _ | (refine Boxed.other ?_ ?_ _;rotate_left;(first | omega | (simp;done) | (simp;omega))) | exact Boxed.set _ (by (repeat (first | assumption | refine boxed_drew ?_ | refine Boxed.alloc ?_ _ | (refine Boxed.other ?_ ?_ _;rotate_left;(first | omega | (simp;done) | (simp;omega)))))))),by (repeat (first | assumption | refine boxed_drew ?_ | refine Boxed.alloc ?_ _ | (refine Boxed.other ?_ ?_ _;rotate_left;(first | omega | (simp;done) | (simp;omega))) | exact Boxed.set _ (by (repeat (first | assumption | refine boxed_drew ?_ | refine Boxed.alloc ?_ _ | (refine Boxed.other ?_ ?_ _;rotate_left;(first | omega | (simp;done) | (simp;omega))))))))⟩,⟨by (repeat (first | assumption | refine boxed_drew ?_ | refine Boxed.alloc ?_ _ | (refine Boxed.other ?_ ?_ _;rotate_left;(first | omega | (simp;done) | (simp;omega))) | exact Boxed.set _ (by (repeat (first | assumption | refine boxed_drew ?_ | refine Boxed.alloc ?_ _ | (refine Boxed.other ?_ ?_ _;rotate_left;(first | omega | (simp;done) | (simp;omega)))))))),by (repeat (first | assumption | refine boxed_drew ?_ | refine Boxed.alloc ?_ _ | (refine Boxed.other ?_ ?_ _;rotate_left;(first | omega | (simp;done) | (simp;omega))) | exact Boxed.set _ (by (repeat (first | assumption | refine boxed_drew ?_ | refine Boxed.alloc ?_ _ | (refine Boxed.other ?_ ?_ _;rotate_left;(first | omega | (simp;done) | (simp;omega))))))))⟩,by rw [HPS.out];simpa using g0⟩,by (repeat (first | exact Below.refl _ _ | assumption | refine Below.drew ?_ | (refine Below.setCell ?_ ?_ _;rotate_left;(first | omega | (simp;done) | (simp;omega));rotate_left) | (refine Below.alloc ?_ ?_ _;rotate_left;(first | omega | (simp;done) | (simp;omega));rotate_left)))⟩
   rw [hX] at FIN
   clear hX HLF HPS g0
   gi_wp2
   gi_region_with_o (gi_at_call 188;refine (CallsIn.inRound l (callsIn_wide.2 (end_any fr mr who _ hq0 hq1))).mono ?_;rintro e w' ⟨rfl,rfl⟩)
   all_goals gi_wp2
   all_goals exact FIN.out
  ·have t0 : decide ((fr : Int) + mr ≤ f) = false:=by simp;omega
   by_cases g1 : fr < f + m
   ·have t1 : decide ((fr : Int) < (f : Int) + m) = true:=by simp;omega
    have HL2:=Lib.hid (HLF.out g0 true (by simpa using g1))
    obtain ⟨X,hX⟩ : ∃ X,X = (((W.setCell ⟨b + 1 + 1 + 1,0,none⟩ (.bool true)).setCell ⟨b + 1 + 1,0,none⟩ (.int .i64 ix)).alloc (.cells #[.int .i64 fr,.int .i64 mr,.int .i64 who] 227)).drew:=⟨_,rfl⟩
    have FIN : Hid (KeepsFrom W0.heap.size W X ∧ (Boxed X (b + 1 + 1) 3 (.int .i64 ix) ∧ Boxed X (b + 1 + 1 + 1) 4 (.bool true)) ∧ Below b w X):=by
     rw [hX]
     exact ⟨KeepsOthers.from (by (repeat (first | exact KeepsOthers.refl _ | refine KeepsOthers.trans ?_ (KeepsOthers.drew _) | refine KeepsOthers.trans ?_ (KeepsOthers.setCell _ _ _) | refine KeepsOthers.trans ?_ (KeepsOthers.alloc _ _)))) _,⟨boxed_drew (((h3.other (by omega) _).set _).alloc _),boxed_drew (((h4.set _).other (by omega) _).alloc _)⟩,by (repeat (first | exact Below.refl _ _ | assumption | refine Below.drew ?_ | (refine Below.setCell ?_ ?_ _;rotate_left;(first | omega | (simp;done) | (simp;omega));rotate_left) | (refine Below.alloc ?_ ?_ _;rotate_left;(first | omega | (simp;done) | (simp;omega));rotate_left)))⟩
    rw [hX] at FIN
    clear hX HLF HPS g0 g1
    gi_wp2
    gi_region_with_o (gi_at_call 188;refine (CallsIn.inRound l (callsIn_wide.2 (end_any fr mr who _ hq0 hq1))).mono ?_;rintro e w' ⟨rfl,rfl⟩)
    all_goals gi_wp2
    all_goals exact ⟨FIN.out.1,_,_,FIN.out.2.1,⟨rfl,HL2.out⟩,FIN.out.2.2⟩
   ·have t1 : decide ((fr : Int) < (f : Int) + m) = false:=by simp;omega
    have HL2:=Lib.hid (HLF.out g0 false (by simpa using g1))
    obtain ⟨X,hX⟩ : ∃ X,X = ((W.setCell ⟨b + 1 + 1,0,none⟩ (.int .i64 ix)).alloc (.cells #[.int .i64 fr,.int .i64 mr,.int .i64 who] 227)).drew:=⟨_,rfl⟩
    have FIN : Hid (KeepsFrom W0.heap.size W X ∧ (Boxed X (b + 1 + 1) 3 (.int .i64 ix) ∧ Boxed X (b + 1 + 1 + 1) 4 (.bool false)) ∧ Below b w X):=by
     rw [hX]
     exact ⟨KeepsOthers.from (by (repeat (first | exact KeepsOthers.refl _ | refine KeepsOthers.trans ?_ (KeepsOthers.drew _) | refine KeepsOthers.trans ?_ (KeepsOthers.setCell _ _ _) | refine KeepsOthers.trans ?_ (KeepsOthers.alloc _ _)))) _,⟨boxed_drew ((h3.set _).alloc _),boxed_drew ((h4.other (by omega) _).alloc _)⟩,by (repeat (first | exact Below.refl _ _ | assumption | refine Below.drew ?_ | (refine Below.setCell ?_ ?_ _;rotate_left;(first | omega | (simp;done) | (simp;omega));rotate_left) | (refine Below.alloc ?_ ?_ _;rotate_left;(first | omega | (simp;done) | (simp;omega));rotate_left)))⟩
    rw [hX] at FIN
    clear hX HLF HPS g0 g1
    gi_wp2
    gi_region_with_o (gi_at_call 188;refine (CallsIn.inRound l (callsIn_wide.2 (end_any fr mr who _ hq0 hq1))).mono ?_;rintro e w' ⟨rfl,rfl⟩)
    all_goals gi_wp2
    all_goals exact ⟨FIN.out.1,_,_,FIN.out.2.1,⟨rfl,HL2.out⟩,FIN.out.2.2⟩
 case done=>
  rintro D ys W hD rfl ⟨⟨⟨h1,h2⟩,⟨h3,h4⟩,h5⟩,hB1⟩ hK
  rw [came_numbered H.out.ok,List.take_length] at h5
  have HV:=Lib.hid (meet_pass f m R h5)
  have k3:=h3.cell;have k4:=h4.cell
  have HK:=Lib.hid hK
  clear h5
  gi_wp2
  gi_quiet (fail)
  gi_wp2
  have hK2 : (W.drewN nq).heap[D]? = some (.deferred (some [])):=hK
  refine ⟨by simp,.inl ⟨_,_,rfl,run_takeDeferred hK2,?_⟩⟩
  refine ⟨.tuple #[.int .i64 R.length,.bool false],by simp [results,Tryz.f167,go_sem],by rw [HV.out],?_⟩
  rw [HWB.out]
  exact (below_drewN hB1 nq).trans (belowK_b (w:=w) (by rw [HWB.out];exact Nat.le_refl _) _ D _ _ (by rw [HWB.out];omega) hK2 rfl rfl)
 case stop=>
  rintro D c pre W hD ⟨k,hk,rfl⟩ ⟨at_,hit,⟨h3,h4⟩,⟨rfl,hf⟩,hB1⟩ hK
  have HV:=Lib.hid (left_meet H.out.ok hk hf)
  have k3:=h3.cell;have k4:=h4.cell
  clear hf
  gi_wp2
  gi_quiet (fail)
  gi_wp2
  have hK2 : (W.drewN nq).heap[D]? = some (.deferred (some [])):=hK
  refine ⟨by simp,.inl ⟨_,_,rfl,run_takeDeferred hK2,?_⟩⟩
  refine ⟨.tuple #[.int .i64 at_,.bool hit],by simp [results,Tryz.f167,go_sem],by rw [HV.out],?_⟩
  rw [HWB.out]
  exact (below_drewN hB1 nq).trans (belowK_b (w:=w) (by rw [HWB.out];exact Nat.le_refl _) _ D _ _ (by rw [HWB.out];omega) hK2 rfl rfl)
end Go.Proofs.YtoklonmiejdgmaaGreatDoor
/- slices.Insert of one run into a row of runs of one's own; slices.Clone of runs. -/
namespace Go.Proofs.YtoklonmiejdgmaaGreatDoor
set_option linter.unusedVariables false
set_option linter.unusedSimpArgs false
set_option linter.unnecessarySimpa false
open Go.RowKit Go.Sort
set_option maxHeartbeats 400000
set_option maxRecDepth 100000
theorem info_run : (Tryz.prog.info? 227).map (fun i=>(i.zero,i.size,i.bytes)) = some (some (.agg #[.int .i64 0,.int .i64 0,.int .i64 0]),3,24):=by kernel_rfl
theorem rn_one (l : List Rn) : ∀ u ∈ rnF l,u.oneCell' = true:=by
 intro u hu
 simp only [rnF,List.mem_flatten,List.mem_map] at hu
 obtain ⟨_,⟨r,_,rfl⟩,hu⟩:=hu
 simp only [rnC,List.mem_cons,List.not_mem_nil,or_false] at hu
 rcases hu with rfl | rfl | rfl <;> rfl
theorem cloneR_any (a : Option Addr) (n c : Nat) (xs : List Value) (w : World) (h : Rd w 3 a n xs) (h1 : ∀ u ∈ xs,u.oneCell' = true) (hn : n ≤ 100000) : Calls Tryz.prog 169 #[.slice a n c] w (ClonePost 227 3 n xs w):=by
 obtain ⟨i0,hi0,hz0,hz1,hz2⟩:=info_parts info_run
 cases a with
 | none=>
  obtain rfl : n = 0:=h.2.1 rfl
  obtain rfl : xs = []:=List.eq_nil_of_length_eq_zero (by simpa using h.1)
  clear h h1
  have hnil : ∀ w : World,Sem.run Tryz.prog (binOp .eql 221 (.slice none 0 c) (.slice none 0 0)) w = .ok (.bool true) w:=fun _=>by kernel_rfl
  go_enter Tryz.func169,Tryz.ntmps169
  go_wp2_with fail
  go_ret
  exact ⟨none,0,rfl,Own.nil _ _ _ _,Below.refl _ _⟩
 | some ad=>
  have H:=Lib.hid h
  have HL:=Lib.hid h.1
  have H1:=Lib.hid h1
  clear h h1
  have HN : Hid (∀ (W : World),Below w.heap.size w W → ∀ j u,xs[j]? = some u → W.cell? (ad.add j) = some u):=fun W hW j u hu=>by
   obtain ⟨b,o,rfl,hb,hc⟩:=H.out.2.2 ad rfl (by intro h0;subst h0;simp at hu)
   have e : (⟨b,o,none⟩ : Addr).add j = ⟨b,o + j,none⟩:=by unfold Addr.add;split <;> simp_all
   rw [e];exact (hW.cell (p:=⟨b,o + j,none⟩) hb).trans (hc j u hu)
  have HE:=Lib.hid (own_empty w 227 3)
  have hnil : ∀ w : World,Sem.run Tryz.prog (binOp .eql 221 (.slice (some ad) n c) (.slice none 0 0)) w = .ok (.bool false) w:=fun _=>by kernel_rfl
  go_enter Tryz.func169,Tryz.ntmps169
  go_wp2_with (at_builtin;(refine wpList_append_own_at _ rfl (.tmp 5) (.tmp 6) _ rfl w.heap.size 227 i0 _ 3 24 Tryz.underlying221 hi0 hz0 hz1 hz2 rfl (by omega) (.slice (some ⟨w.heap.size,0,none⟩) 0 0) 0 [] rfl HE.out ad n c xs rfl HL.out (HN.out _ ((Below.refl _ _).alloc (Nat.le_refl _) _)) H1.out (by simp only [maxLen];omega) (by omega) (by simp) ?_);intro v1 w1 hown1 hg1 hz hat1)
  go_ret
  exact clone_post hown1 hg1
/-- copy over a row that is known whole, elements of several cells. -/
theorem run_copy_rows {P : Program} (w : World) (dT sT ty elem : TypeId) (size g o dLen dCap : Nat) (a : Addr) (sLen sCap : Nat) (cur : Array Value) (t : TypeId) (cs : List Value) (k : Nat)
  (hu : P.underlying dT = some (.slice elem)) (hs : (P.info? elem).map (·.size) = some size)
  (hg : w.heap[g]? = some (.cells cur t (0,0))) (hk : k = Nat.min sLen dLen) (hn : cs.length = k * size)
  (hsrc : ∀ j v,cs[j]? = some v → w.cell? (a.add j) = some v) (hfit : o + cs.length ≤ cur.size) (h1 : ∀ v ∈ cs,v.oneCell' = true) :
  (Builtin.copy_ #[dT,sT] ty #[.slice (some ⟨g,o,none⟩) dLen dCap,.slice (some a) sLen sCap]).run P w =
   .ok (goInt k) (w.setRow g (cur.toList.take o ++ cs ++ cur.toList.drop (o + cs.length)).toArray):=by
 have hl:=run_loadCells_list (P:=P) w a cs hsrc
 have hst:=run_storeCells_at P g o t cs 0 cur w hg (by simpa using hfit) h1
 cases hq : P.info? elem with
 | none=>simp [hq] at hs
 | some i=>
  have hi : i.size = size:=by simpa [hq] using hs
  rw [hn] at hl
  simp [Builtin.copy_,run_underlying hu,Builtin.lenOf,Builtin.firstCells,sizeOf,typeInfo,hq,hi,← hk,hl,hst]
theorem wpList_copy_run {P : Program} {w w' : World} {ops : Array Oper} {rest : List Oper} {o : Oper} {a : Act} {Q : Exit → Act → World → Prop} (hgd : o.guard = none) (d s : Operand) (dT sT : TypeId)
  (ho : o.op = .call { callee:=.builtin .copy,args:=#[d,s],argTypes:=#[dT,sT] }) (vd vs : Value) (hd : a.eval d = vd) (hs : a.eval s = vs) {v : Value}
  (hrun : (Builtin.copy_ #[dT,sT] o.type #[vd,vs]).run P w = .ok v w') (h : wpList P ops Q rest (a.put o.dst v) w') : wpList P ops Q (o :: rest) a w:=by
 refine wpList_plain hgd fun K hK=>?_
 unfold Oper.wp execOp
 simp only [ho,resolve,invoke,builtin,Sem.run_bind,Sem.run_pure,Result.andThen_ok,List.map_toArray,List.map_cons,List.map_nil,hd,hs,hrun]
 exact hK _ _ h
theorem step_copy_run {P : Program} {w w' : World} {ops : Array Oper} {o : Oper} {a : Act} {K : Act → World → Prop} {Q : Exit → Act → World → Prop} {E : Prop} (hgd : o.guard = none) (d s : Operand) (dT sT : TypeId)
  (ho : o.op = .call { callee:=.builtin .copy,args:=#[d,s],argTypes:=#[dT,sT] }) (vd vs : Value) (hd : a.eval d = vd) (hs : a.eval s = vs) {v : Value}
  (hrun : (Builtin.copy_ #[dT,sT] o.type #[vd,vs]).run P w = .ok v w') (h : K (a.put o.dst v) w') : if Region.wanted o (yielded ops a.tmps) = true then Oper.wp P o a w K Q else E:=by
 have hw : Region.wanted o (yielded ops a.tmps) = true:=by simp [Region.wanted,hgd]
 rw [if_pos hw]
 unfold Oper.wp execOp
 simp only [ho,resolve,invoke,builtin,Sem.run_bind,Sem.run_pure,Result.andThen_ok,List.map_toArray,List.map_cons,List.map_nil,hd,hs,hrun]
 exact h
/-- What inserting leaves. -/
def InsPost (B : Nat) (a : Option Addr) (R : List Rn) (i : Nat) (x : Rn) (w : World) (e : Ending) (w' : World) : Prop:=
 ∃ a' c',e = .returned (.slice a' (R.length + 1) c') ∧ Own w' B 227 3 a' (R.length + 1) c' (rnF (R.take i ++ x :: R.drop i)) ∧ Mod (blk a) w w' ∧ ∀ k ∈ blk a',k ∈ blk a ∨ w.heap.size ≤ k
theorem ins_end (B g c : Nat) (a : Option Addr) (R : List Rn) (x : Rn) (w : World) (hown : Own w B 227 3 a R.length c (rnF R)) (hg : w.heap[g]? = some (.cells (rnC x).toArray 227 (0,0))) (hn : R.length ≤ 64) (hB : B ≤ w.heap.size) :
  Calls Tryz.prog 168 #[.slice a R.length c,.int .i64 R.length,.slice (some ⟨g,0,none⟩) 1 1] w (InsPost B a R R.length x w):=by
 obtain ⟨i0,hi0,hz0,hz1,hz2⟩:=info_parts info_run
 have HO:=Lib.hid hown
 have hle:=hown.le
 have HR : Hid (Rd w 3 (some ⟨g,0,none⟩) 1 (rnC x)):=⟨rfl,(fun h=>by cases h),fun p hp _=>by
  injection hp with hp
  subst hp
  exact ⟨g,0,rfl,(Array.getElem?_eq_some_iff.1 hg).1,fun j u hu=>by rw [Nat.zero_add];exact cell_at hg j u (by simpa using hu)⟩⟩
 have h1 : Hid (∀ u ∈ rnC x,u.oneCell' = true):=fun u hu=>rn_one [x] u (by simpa [rnF] using hu)
 clear hown hg
 have hsl : (R.length : Int) ≤ (R.length : Int):=Int.le_refl _
 go_enter Tryz.func168,Tryz.ntmps168
 go_wp2_with (at_builtin;(refine wpList_more rfl (.tmp 23) (.tmp 24) 221 rfl B 227 i0 _ 3 24 Tryz.underlying221 hi0 hz0 hz1 hz2 rfl (by omega) a R.length c (rnF R) rfl HO.out (some ⟨g,0,none⟩) 1 1 (rnC x) rfl HR.out h1.out (by simp only [maxLen];omega) (by omega) hB ?_);intro a' c' w1 hown1 hmod1 hat1)
 all_goals
  go_ret
  refine ⟨a',c',rfl,?_,hmod1,hat1⟩
  rw [List.take_length,List.drop_length,show R ++ [x] = R ++ [x] from rfl,rnF_app]
  simpa [rnF] using hown1
theorem rnF_take (R : List Rn) (i : Nat) : (rnF R).take (i * 3) = rnF (R.take i):=by
 induction R generalizing i with
 | nil=>simp [rnF]
 | cons r R ih=>
  cases i with
  | zero=>simp [rnF]
  | succ i=>
   have e : ∀ (r : Rn) (l : List Rn),rnF (r :: l) = rnC r ++ rnF l:=fun _ _=>by simp [rnF]
   rw [List.take_succ_cons,e,e,← ih i,show (i + 1) * 3 = (rnC r).length + i * 3 by simp [rnC];omega,List.take_append,List.take_of_length_le (by omega)]
   simp
theorem rnF_drop (R : List Rn) (i : Nat) : (rnF R).drop (i * 3) = rnF (R.drop i):=by
 induction R generalizing i with
 | nil=>simp [rnF]
 | cons r R ih=>
  cases i with
  | zero=>simp [rnF]
  | succ i=>
   have e : ∀ (r : Rn) (l : List Rn),rnF (r :: l) = rnC r ++ rnF l:=fun _ _=>by simp [rnF]
   rw [List.drop_succ_cons,e,← ih i,show (i + 1) * 3 = (rnC r).length + i * 3 by simp [rnC];omega,List.drop_append,List.drop_of_length_le (by omega)]
   simp
/-- The row with a run put in, and whatever stands behind it. -/
def insL (R : List Rn) (i : Nat) (x : Rn) : List Value:=rnF (R.take i) ++ (rnC x ++ rnF (R.drop i))
theorem insL_eq (R : List Rn) (i : Nat) (x : Rn) : insL R i x = rnF (R.take i ++ x :: R.drop i):=by simp [insL,rnF]
def lay (L : List Value) (o : Nat) (cs : List Value) : List Value:=L.take o ++ cs ++ L.drop (o + cs.length)
theorem lay2 (L : List Value) (i : Nat) (D y rest : List Value) (h : (i + 1) * 3 ≤ L.length) (hy : y.length = 3) : lay (lay L ((i + 1) * 3) D) (i * 3) y = (L.take (i * 3) ++ (y ++ D)) ++ L.drop ((i + 1) * 3 + D.length):=by
 have h1 : (L.take ((i + 1) * 3)).length = (i + 1) * 3:=by rw [List.length_take];omega
 unfold lay
 rw [List.append_assoc (L.take _),List.take_append_of_le_length (by omega),List.take_take,Nat.min_eq_left (by omega),hy,show i * 3 + 3 = (L.take ((i + 1) * 3)).length + 0 by omega,List.drop_append,List.drop_of_length_le (by omega)]
 simp
theorem lay_len (L : List Value) (o : Nat) (cs : List Value) (h : o + cs.length ≤ L.length) : (lay L o cs).length = L.length:=by simp [lay];omega
set_option maxHeartbeats 2000000 in
theorem ins_room (B g b c i : Nat) (R : List Rn) (x : Rn) (w : World) (hown : Own w B 227 3 (some ⟨b,0,none⟩) R.length c (rnF R)) (hg : w.heap[g]? = some (.cells (rnC x).toArray 227 (0,0))) (hgb : g ≠ b) (hn : R.length ≤ 64) (hi : i < R.length) (hroom : R.length + 1 ≤ c) (hB : B ≤ w.heap.size) :
  Calls Tryz.prog 168 #[.slice (some ⟨b,0,none⟩) R.length c,.int .i64 i,.slice (some ⟨g,0,none⟩) 1 1] w (InsPost B (some ⟨b,0,none⟩) R i x w):=by
 obtain ⟨i0,hi0,hz0,hz1,hz2⟩:=info_parts info_run
 have hcap:=hown.capMax
 rcases hown with ⟨hlen,⟨h0,_⟩ | ⟨b',c',cur,hv,hBb,hg0,hr,hm,hs,ht⟩⟩
 ·injection h0 with h0;cases h0
 injection hv with e1 e2 e3
 injection e1 with e1
 injection e1 with e1
 subst e1 e3
 have HG:=Lib.hid hg;have HG0:=Lib.hid hg0;have HT:=Lib.hid ht;have HS:=Lib.hid hs
 unfold maxLen at hcap
 clear hg hg0 ht hs hlen
 have hz1':=hz1
 have hne1 : ((i : Int) == (R.length : Int)) = false:=by simp;omega
 have hd1 : decide ((c : Int) < (R.length : Int) + 1) = false:=by simp;omega
 have hb1 : (0 : Int) ≤ (i : Int) + 1:=by omega
 have hb2 : (i : Int) + 1 ≤ (R.length : Int) + 1:=by omega
 have hb3 : (i : Int) ≤ (R.length : Int) + 1:=by omega
 have hb4 : (i : Int) ≤ (R.length : Int):=by omega
 have hb5 : (R.length : Int) + 1 ≤ (c : Int):=by omega
 have hc1 : ¬ (c = i + 1):=by omega
 have hc2 : ¬ (c = i):=by omega
 have htn : ((i : Int) + 1).toNat = i + 1:=by omega
 have hov : ∀ lb cb,(callFunc 189 #[.slice (some ⟨g,0,none⟩) 1 1,.slice (some ⟨b,(i + 1) * 3,none⟩) lb cb]).run Tryz.prog w = .ok (.value (.bool false)) w:=fun lb cb=>by
  rw [run_callFunc_extern Tryz.func189 (by kernel_rfl) (by kernel_rfl) (by kernel_rfl) (e:=Extern.SlicesOverlaps.overlaps #[221,221] #[4]) (by kernel_rfl),
   Lib.run_overlaps_apart w 221 4 227 Tryz.underlying221 3 (fun w=>by simp [sizeOf,typeInfo,hi0,hz1']) ⟨g,0,none⟩ ⟨b,(i + 1) * 3,none⟩ 1 1 lb cb hgb 227 227 3 (c * 3) (by simp [World.shape?,HG.out,rnC]) (by simp [World.shape?,HG0.out,HS.out]) (by omega) (free_at HG.out _) (free_at HG.out _)]
  rfl
 have hsz : (Tryz.prog.info? 227).map (·.size) = some 3:=by rw [hi0];simp [hz1']
 have hfit : cur.toList.length = c * 3:=by simpa using HS.out
 have hrow : (rnF (R.drop i)).length = (R.length - i) * 3:=by rw [rnF_len,List.length_drop]
 have hcell : ∀ j v,(rnF (R.drop i))[j]? = some v → w.cell? ⟨b,i * 3 + j,none⟩ = some v:=fun j v hj=>by
  rw [← rnF_drop,List.getElem?_drop] at hj
  refine cell_at HG0.out _ v ?_
  rw [← HT.out,List.getElem?_take] at hj
  split at hj
  ·simpa using hj
  ·cases hj
 obtain ⟨X1,hX1⟩ : ∃ X,X = lay cur.toList ((i + 1) * 3) (rnF (R.drop i)):=⟨_,rfl⟩
 obtain ⟨X2,hX2⟩ : ∃ X,X = lay X1 (i * 3) (rnC x):=⟨_,rfl⟩
 have hl1 : X1.length = c * 3:=by rw [hX1,lay_len _ _ _ (by rw [hrow,hfit];omega),hfit]
 have hl2 : X2.length = c * 3:=by rw [hX2,lay_len _ _ _ (by rw [hl1];simp [rnC];omega),hl1]
 have hgw : g < w.heap.size:=(Array.getElem?_eq_some_iff.1 HG.out).1
 have hbw : b < w.heap.size:=(Array.getElem?_eq_some_iff.1 HG0.out).1
 obtain ⟨W1,hW1⟩ : ∃ W,W = w.drew.setRow b X1.toArray:=⟨_,rfl⟩
 obtain ⟨W2,hW2⟩ : ∃ W,W = W1.setRow b X2.toArray:=⟨_,rfl⟩
 have hg1 : W1.heap[b]? = some (.cells X1.toArray 227 (0,0)):=by rw [hW1];exact setRow_heap _ _ _ _ _ _ HG0.out
 have hgg : W1.heap[g]? = some (.cells (rnC x).toArray 227 (0,0)):=by rw [hW1];exact (setRow_other w.drew b g _ hgb).trans HG.out
 have hg2 : W2.heap[b]? = some (.cells X2.toArray 227 (0,0)):=by rw [hW2];exact setRow_heap _ _ _ _ _ _ hg1
 have hU : Upd b w W2:=by
  have h1 : Upd b w W1:=by rw [hW1];exact ((Upd.refl b w).drew).trans (Upd.setRow _ _ _)
  rw [hW2]
  exact h1.trans (Upd.setRow _ _ _)
 have hcp1 : ∀ ty dl dc sl sc,dl = R.length - i → sl = R.length + 1 - i → (Builtin.copy_ #[221,221] ty #[.slice (some ⟨b,(i + 1) * 3,none⟩) dl dc,.slice (some ⟨b,i * 3,none⟩) sl sc]).run Tryz.prog w.drew = .ok (goInt (R.length - i : Nat)) W1:=fun ty dl dc sl sc h1 h2=>by
  rw [hW1,hX1,lay]
  exact run_copy_rows w.drew _ _ ty 227 3 b ((i + 1) * 3) dl dc ⟨b,i * 3,none⟩ sl sc cur 227 (rnF (R.drop i)) (R.length - i) Tryz.underlying221 hsz HG0.out (by simp only [Nat.min_def];split <;> omega) hrow
   (fun j v hj=>by rw [Addr.add_lit];exact hcell j v hj) (by rw [hrow];have:=HS.out;omega) (rn_one _)
 have hcp2 : ∀ ty dl dc,dl = R.length + 1 - i → (Builtin.copy_ #[221,221] ty #[.slice (some ⟨b,i * 3,none⟩) dl dc,.slice (some ⟨g,0,none⟩) 1 1]).run Tryz.prog W1 = .ok (goInt (1 : Nat)) W2:=fun ty dl dc h1=>by
  rw [hW2,hX2,lay]
  have:=run_copy_rows (P:=Tryz.prog) W1 221 221 ty 227 3 b (i * 3) dl dc ⟨g,0,none⟩ 1 1 X1.toArray 227 (rnC x) 1 Tryz.underlying221 hsz hg1 (by simp only [Nat.min_def];split <;> omega) rfl
   (fun j v hj=>by rw [Addr.add_lit,Nat.zero_add];exact cell_at hgg j v (by simpa using hj)) (by simp [rnC,hl1];omega) (fun u hu=>rn_one [x] u (by simpa [rnF] using hu))
  simpa using this
 have HX : Hid (X2.take ((R.length + 1) * 3) = rnF (R.take i ++ x :: R.drop i)):=by
  have h0 : cur.toList.take (i * 3) = rnF (R.take i):=by
   rw [← rnF_take,← HT.out,List.take_take,Nat.min_eq_left (by omega)]
  rw [Hid,hX2,hX1,lay2 _ _ _ _ [] (by rw [hfit];omega) rfl,h0,← insL_eq,insL,show (R.length + 1) * 3 = (rnF (R.take i) ++ (rnC x ++ rnF (R.drop i))).length by simp [rnF_len,hrow,rnC];omega,List.take_left']
  rfl
 have HCP1:=Lib.hid hcp1;have HCP2:=Lib.hid hcp2;have HG2:=Lib.hid hg2;have HU:=Lib.hid hU;have HL2:=Lib.hid hl2
 clear hcp1 hcp2 hg2 hU hl1 hl2 hX1 hX2 hW1 hW2 hg1 hgg hcell hrow hfit hsz
 go_enter Tryz.func168,Tryz.ntmps168
 go_wp2_with (simp only [hov])
 have hw1 : IntKind.i64.wrap ((i : Int) + 1) = (i : Int) + 1:=IntWalk.i64_in _ (by omega)
 go_region_law (refine step_copy_run rfl (.tmp 73) (.tmp 76) 221 221 rfl _ _ (by simp [Act.eval,Act.put];exact ⟨rfl,rfl⟩) (by simp [Act.eval,Act.put];exact ⟨rfl,rfl⟩) (HCP1.out _ _ _ _ _ (by simp) (by simp)) ?_)
 all_goals
  go_wp2_with (((with_reducible refine wpList_copy_run ?_ (.tmp 80) (.tmp 81) 221 221 ?_ (.slice (some ⟨b,i * 3,none⟩) (R.length + 1 - i) (c - i)) (.slice (some ⟨g,0,none⟩) 1 1) ?_ ?_ (HCP2.out _ _ _ rfl) ?_));exact rfl;exact rfl;exact rfl;exact rfl;go_frame)
  go_ret
  refine ⟨some ⟨b,0,none⟩,c,rfl,⟨by rw [rnF_len];simp;omega,.inr ⟨b,c,X2.toArray,rfl,hBb,HG2.out,by omega,by unfold maxLen;omega,by simpa using HL2.out,by rw [← HX.out]⟩⟩,Mod.ofUpd HU.out,fun k hk=>.inl hk⟩
theorem lay3 (L : List Value) (i : Nat) (D y : List Value) (h : (i + 1) * 3 ≤ L.length) (hy : y.length = 3) : ∃ rest,lay (lay L (i * 3) y) ((i + 1) * 3) D = (L.take (i * 3) ++ (y ++ D)) ++ rest:=by
 have h1 : (L.take (i * 3)).length = i * 3:=by rw [List.length_take];omega
 refine ⟨(lay L (i * 3) y).drop ((i + 1) * 3 + D.length),?_⟩
 have h2 : (lay L (i * 3) y).take ((i + 1) * 3) = L.take (i * 3) ++ y:=by
  unfold lay
  rw [List.take_append_of_le_length (by rw [List.length_append,h1];omega),List.take_of_length_le (by rw [List.length_append,h1];omega)]
 unfold lay at h2 ⊢
 rw [h2]
 simp
set_option maxHeartbeats 2000000 in
theorem ins_grow (B g b c i : Nat) (R : List Rn) (x : Rn) (w : World) (hown : Own w B 227 3 (some ⟨b,0,none⟩) R.length c (rnF R)) (hg : w.heap[g]? = some (.cells (rnC x).toArray 227 (0,0))) (hn : R.length ≤ 64) (hi : i < R.length) (hroom : c < R.length + 1) (hB : B ≤ w.heap.size) :
  Calls Tryz.prog 168 #[.slice (some ⟨b,0,none⟩) R.length c,.int .i64 i,.slice (some ⟨g,0,none⟩) 1 1] w (InsPost B (some ⟨b,0,none⟩) R i x w):=by
 obtain ⟨i0,hi0,hz0,hz1,hz2⟩:=info_parts info_run
 have hle:=hown.le
 obtain rfl : c = R.length:=by omega
 have hgw : g < w.heap.size:=(Array.getElem?_eq_some_iff.1 hg).1
 have hbw : b < w.heap.size:=(hown.ge b (by simp [blk])).2
 obtain ⟨G,hG⟩ : ∃ G,G = grownCap w (R.length + 1) R.length 227:=⟨_,rfl⟩
 obtain ⟨z,hz⟩ : ∃ z : Value,z = .agg #[.int .i64 0,.int .i64 0,.int .i64 0]:=⟨_,rfl⟩
 have hzs : z.cells.size = 3:=by rw [hz];rfl
 obtain ⟨ROW,hROW⟩ : ∃ ROW : Array Value,ROW = (rnF (R.take i)).toArray ++ Builtin.zeroCells z.cells (R.length + 1 - i) ++ Builtin.zeroCells z.cells (G - (R.length + 1)):=⟨_,rfl⟩
 obtain ⟨W1,hW1⟩ : ∃ W1,W1 = w.drew.alloc (.cells ROW 227):=⟨_,rfl⟩
 have hGn : R.length + 1 ≤ G:=by rw [hG];exact grownCap_ge w _ _ _
 have hG63 : G ≤ 9223372036854775807:=by
  have:=grownCap_le_maxLen w (R.length + 1) R.length 227 (by unfold maxLen;omega)
  rw [← hG] at this
  unfold maxLen at this
  omega
 have hti : (rnF (R.take i)).length = i * 3:=by rw [rnF_len,List.length_take,Nat.min_eq_left (by omega)]
 have hold : (Builtin.firstCells i0.size i (.slice (some ⟨b,0,none⟩) i R.length)).run Tryz.prog w.drew = .ok (rnF (R.take i)).toArray w.drew:=by
  rw [hz1]
  exact run_firstCells_some w.drew 3 i ⟨b,0,none⟩ i R.length (rnF (R.take i)) (by rw [hti]) (fun j v hj=>by
   rw [Addr.add_lit,Nat.zero_add]
   rw [← rnF_take,List.getElem?_take] at hj
   split at hj
   ·exact hown.cell j v hj
   ·cases hj)
 have hrz : ∀ ty,(Builtin.append_ #[221,3] ty #[.slice (some ⟨b,0,none⟩) i R.length,.int .i64 ((R.length : Int) + 1 - (i : Int))]).run Tryz.prog w = .ok (.slice (some ⟨w.heap.size,0,none⟩) (R.length + 1) G) W1:=fun ty=>by
  have h:=Lib.run_append_grow_zeros w 221 3 ty 227 i0 z .i64 .i64 Tryz.underlying221 Tryz.underlying3 hi0 (by rw [hz];exact hz0) (some ⟨b,0,none⟩) i R.length (rnF (R.take i)) hold (R.length + 1 - i) (by omega) (by omega) (by omega) (by omega) (by rw [hz2];omega) (by rw [hz2,show i + (R.length + 1 - i) = R.length + 1 by omega];exact growslice_fits (by omega) (by omega))
  rw [show i + (R.length + 1 - i) = R.length + 1 by omega,← hG] at h
  rw [show (R.length : Int) + 1 - (i : Int) = ((R.length + 1 - i : Nat) : Int) by omega,hW1,hROW]
  exact h
 have hRl : ROW.size = G * 3:=by
  rw [hROW]
  simp [Builtin.zeroCells,hzs,hti]
  omega
 have hRt : ROW.toList.take (i * 3) = rnF (R.take i):=by
  rw [hROW,Array.toList_append,Array.toList_append,List.append_assoc,List.take_append_of_le_length (by simp [hti]),List.take_of_length_le (by simp [hti])]
 have hN0 : W1.heap[w.heap.size]? = some (.cells ROW 227 (0,0)):=by rw [hW1];exact new_block w.drew _ _ rfl
 have hgg : W1.heap[g]? = some (.cells (rnC x).toArray 227 (0,0)):=by rw [hW1];exact (Below.heap_alloc w.drew _ g hgw).trans hg
 have hrow : (rnF (R.drop i)).length = (R.length - i) * 3:=by rw [rnF_len,List.length_drop]
 have hsz : (Tryz.prog.info? 227).map (·.size) = some 3:=by rw [hi0];simp [hz1]
 obtain ⟨X1,hX1⟩ : ∃ X,X = lay ROW.toList (i * 3) (rnC x):=⟨_,rfl⟩
 obtain ⟨X2,hX2⟩ : ∃ X,X = lay X1 ((i + 1) * 3) (rnF (R.drop i)):=⟨_,rfl⟩
 have hl1 : X1.length = G * 3:=by rw [hX1,lay_len _ _ _ (by simp [hRl,rnC];omega)];simpa using hRl
 have hl2 : X2.length = G * 3:=by rw [hX2,lay_len _ _ _ (by rw [hl1,hrow];omega),hl1]
 obtain ⟨W2,hW2⟩ : ∃ W,W = W1.setRow w.heap.size X1.toArray:=⟨_,rfl⟩
 obtain ⟨W3,hW3⟩ : ∃ W,W = W2.drew.setRow w.heap.size X2.toArray:=⟨_,rfl⟩
 have hN1 : W2.heap[w.heap.size]? = some (.cells X1.toArray 227 (0,0)):=by rw [hW2];exact setRow_heap _ _ _ _ _ _ hN0
 have hN2 : W3.heap[w.heap.size]? = some (.cells X2.toArray 227 (0,0)):=by rw [hW3];exact setRow_heap W2.drew _ _ _ _ _ hN1
 have hb1 : W2.heap[b]? = w.heap[b]?:=by rw [hW2,setRow_other _ _ _ _ (by omega),hW1];exact Below.heap_alloc w.drew _ b hbw
 have hM : Mod [] w W3:=by
  have h1 : Mod [] w W1:=by rw [hW1];exact ((Mod.refl _ w).drew).alloc _
  have h2 : Mod [] w W2:=h1.then (by rw [hW2];exact Mod.ofUpd (Upd.setRow W1 w.heap.size _)) (fun k hk hl=>by simp at hk;omega)
  exact h2.drew.then (by rw [hW3];exact Mod.ofUpd (Upd.setRow W2.drew w.heap.size _)) (fun k hk hl=>by simp at hk;omega)
 have hcp1 : ∀ ty dl dc,dl = R.length + 1 - i → (Builtin.copy_ #[221,221] ty #[.slice (some ⟨w.heap.size,i * 3,none⟩) dl dc,.slice (some ⟨g,0,none⟩) 1 1]).run Tryz.prog W1 = .ok (goInt (1 : Nat)) W2:=fun ty dl dc h1=>by
  rw [hW2,hX1,lay]
  exact run_copy_rows (P:=Tryz.prog) W1 221 221 ty 227 3 w.heap.size (i * 3) dl dc ⟨g,0,none⟩ 1 1 ROW 227 (rnC x) 1 Tryz.underlying221 hsz hN0 (by simp only [Nat.min_def];split <;> omega) rfl
   (fun j v hj=>by rw [Addr.add_lit,Nat.zero_add];exact cell_at hgg j v (by simpa using hj)) (by simp [rnC,hRl];omega) (fun u hu=>rn_one [x] u (by simpa [rnF] using hu))
 have hcp2 : ∀ ty dl dc sl sc,dl = R.length - i → sl = R.length - i → (Builtin.copy_ #[221,221] ty #[.slice (some ⟨w.heap.size,(i + 1) * 3,none⟩) dl dc,.slice (some ⟨b,i * 3,none⟩) sl sc]).run Tryz.prog W2.drew = .ok (goInt (R.length - i : Nat)) W3:=fun ty dl dc sl sc h1 h2=>by
  rw [hW3,hX2,lay]
  have:=run_copy_rows (P:=Tryz.prog) W2.drew 221 221 ty 227 3 w.heap.size ((i + 1) * 3) dl dc ⟨b,i * 3,none⟩ sl sc X1.toArray 227 (rnF (R.drop i)) (R.length - i) Tryz.underlying221 hsz hN1 (by simp only [Nat.min_def];split <;> omega) hrow
   (fun j v hj=>by
    rw [Addr.add_lit]
    rw [← rnF_drop,List.getElem?_drop] at hj
    exact (World.cell?_of_block (a:=⟨b,i * 3 + j,none⟩) (show W2.drew.heap[b]? = w.heap[b]? from hb1)).trans (hown.cell _ v hj)) (by rw [hrow];simp [hl1];omega) (rn_one _)
  simpa using this
 have HX : Hid (X2.take ((R.length + 1) * 3) = rnF (R.take i ++ x :: R.drop i)):=by
  obtain ⟨rest,hr⟩:=lay3 ROW.toList i (rnF (R.drop i)) (rnC x) (by simp [hRl];omega) rfl
  rw [Hid,hX2,hX1,hr,hRt,← insL_eq,insL,show (R.length + 1) * 3 = (rnF (R.take i) ++ (rnC x ++ rnF (R.drop i))).length by simp [hti,hrow,rnC];omega,List.take_left']
  rfl
 have HRZ:=Lib.hid hrz;have HCP1:=Lib.hid hcp1;have HCP2:=Lib.hid hcp2;have HN2:=Lib.hid hN2;have HM:=Lib.hid hM;have HL2:=Lib.hid hl2
 have hne1 : ((i : Int) == (R.length : Int)) = false:=by simp;omega
 have hd1 : decide ((R.length : Int) < (R.length : Int) + 1) = true:=by simp;omega
 have hb1' : (0 : Int) ≤ (i : Int) + 1:=by omega
 have hb2 : (i : Int) + 1 ≤ (R.length : Int) + 1:=by omega
 have hb3 : (i : Int) ≤ (R.length : Int) + 1:=by omega
 have hb4 : (i : Int) ≤ (R.length : Int):=by omega
 have hGi : ¬ (G = i):=by omega
 have hGim : ¬ (G = i + 1):=by omega
 have hci : ¬ (R.length = i):=by omega
 have htn : ((i : Int) + 1).toNat = i + 1:=by omega
 clear hrz hcp1 hcp2 hN2 hM hl1 hl2 hX1 hX2 hW1 hW2 hW3 hN0 hN1 hb1 hgg hrow hsz hRt hRl hold hti hROW hz hzs hG hown hg
 go_enter Tryz.func168,Tryz.ntmps168
 go_wp2_with (first | (at_builtin;refine Lib.wpList_append_run _ rfl _ _ _ _ rfl _ _ rfl rfl _ _ (HRZ.out _) ?_) | (((with_reducible refine wpList_copy_run ?_ (.tmp 43) (.tmp 44) 221 221 ?_ (.slice (some ⟨w.heap.size,i * 3,none⟩) (R.length + 1 - i) (G - i)) (.slice (some ⟨g,0,none⟩) 1 1) ?_ ?_ (HCP1.out _ _ _ rfl) ?_));exact rfl;exact rfl;exact rfl;exact rfl;go_frame))
 have hw1 : IntKind.i64.wrap ((i : Int) + 1) = (i : Int) + 1:=IntWalk.i64_in _ (by omega)
 go_region_law (refine step_copy_run rfl (.tmp 50) (.tmp 53) 221 221 rfl _ _ (by simp [Act.eval,Act.put];exact ⟨rfl,rfl⟩) (by simp [Act.eval,Act.put];exact ⟨rfl,rfl⟩) (HCP2.out _ _ _ _ _ (by simp) (by simp)) ?_)
 all_goals
  clear hw1
  go_wp2_with fail
  go_ret
  refine ⟨some ⟨w.heap.size,0,none⟩,G,rfl,⟨by rw [rnF_len];simp;omega,.inr ⟨w.heap.size,G,X2.toArray,rfl,hB,HN2.out,by omega,by unfold maxLen;omega,by simpa using HL2.out,by rw [← HX.out]⟩⟩,HM.out.mono (fun k _ hk=>by simp at hk),fun k hk=>.inr (by simp [blk] at hk;omega)⟩
theorem insert_any (B g c i : Nat) (a : Option Addr) (R : List Rn) (x : Rn) (w : World) (hown : Own w B 227 3 a R.length c (rnF R)) (hg : w.heap[g]? = some (.cells (rnC x).toArray 227 (0,0))) (hgb : g ∉ blk a) (hn : R.length ≤ 64) (hi : i ≤ R.length) (hB : B ≤ w.heap.size) :
  Calls Tryz.prog 168 #[.slice a R.length c,.int .i64 i,.slice (some ⟨g,0,none⟩) 1 1] w (InsPost B a R i x w):=by
 rcases Nat.lt_or_ge i R.length with h1 | h1
 ·obtain ⟨b,rfl,_,_⟩:=hown.at_ (by omega)
  rcases Nat.lt_or_ge c (R.length + 1) with h2 | h2
  ·exact ins_grow B g b c i R x w hown hg hn h1 h2 hB
  ·exact ins_room B g b c i R x w hown hg (fun e=>hgb (by simp [blk,e])) hn h1 h2 hB
 ·obtain rfl : i = R.length:=by omega
  exact ins_end B g c a R x w hown hg hn hB
end Go.Proofs.YtoklonmiejdgmaaGreatDoor
/- Package parts: Give, New, Len. -/
namespace Go.Proofs.YtoklonmiejdgmaaGreatDoor
set_option linter.unusedVariables false
set_option linter.unusedSimpArgs false
set_option linter.unnecessarySimpa false
open Go.RowKit Go.Sort
set_option maxHeartbeats 400000
set_option maxRecDepth 100000
/-- May these places be asked for? -/
def wellG (n : Nat) (f m who : Int) : Bool:=decide (0 ≤ f) && decide (1 ≤ m) && decide (f ≤ n) && decide (m ≤ n - f) && decide (0 ≤ who) && decide (who < 64)
theorem wellG_iff (n : Nat) (f m who : Int) : wellG n f m who = true ↔ 0 ≤ f ∧ 1 ≤ m ∧ f ≤ n ∧ m ≤ n - f ∧ 0 ≤ who ∧ who < 64:=by simp [wellG,and_assoc]
/-- The runs with one more. -/
def addR (R : List Rn) (f m who : Nat) : List Rn:=R.take (meetV f m R).1 ++ (f,m,who) :: R.drop (meetV f m R).1
def giveV (n : Nat) (R : List Rn) (f m who : Int) : Int × List Rn:=
 if wellG n f m who then (if (meetV f.toNat m.toNat R).2 then (5,R) else (0,addR R f.toNat m.toNat who.toNat)) else (1,R)
theorem meet_le (f m : Nat) : ∀ R,(meetV f m R).1 ≤ R.length
 | []=>Nat.le_refl _
 | r :: R=>by
  have:=meet_le f m R
  unfold meetV
  split <;> simp <;> omega
theorem meet_parts (f m : Nat) : ∀ R : List Rn,R.Pairwise (fun r s=>r.1 + r.2.1 ≤ s.1) → (∀ r ∈ R,1 ≤ r.2.1) → (meetV f m R).2 = false → (∀ r ∈ R.take (meetV f m R).1,r.1 + r.2.1 ≤ f) ∧ (∀ r ∈ R.drop (meetV f m R).1,f + m ≤ r.1)
 | [],_,_,_=>⟨by simp [meetV],by simp [meetV]⟩
 | r :: R,hp,hn,h=>by
  rw [List.pairwise_cons] at hp
  have ih:=meet_parts f m R hp.2 (fun s hs=>hn s (by simp [hs]))
  unfold meetV at h ⊢
  by_cases h0 : r.1 + r.2.1 ≤ f
  ·rw [if_pos h0] at h ⊢
   dsimp only at h ⊢
   obtain ⟨i1,i2⟩:=ih h
   refine ⟨fun s hs=>?_,by simpa using i2⟩
   rw [List.take_succ_cons,List.mem_cons] at hs
   rcases hs with rfl | hs
   ·exact h0
   ·exact i1 s hs
  ·rw [if_neg h0] at h ⊢
   simp only [decide_eq_false_iff_not] at h
   refine ⟨by simp,fun s hs=>?_⟩
   rw [List.drop_zero,List.mem_cons] at hs
   rcases hs with rfl | hs
   ·omega
   ·have:=hp.1 s hs
    have:=hn r (by simp)
    omega
theorem Okr.add {n : Nat} {R : List Rn} (h : Okr n R) {f m who : Nat} (hm : 1 ≤ m) (hf : f + m ≤ n) (hw : who < 64) (hh : (meetV f m R).2 = false) : Okr n (addR R f m who):=by
 obtain ⟨h1,h2⟩:=meet_parts f m R h.sorted (fun r hr=>(h.each r hr).1) hh
 have hs:=h.sorted
 rw [← List.take_append_drop (meetV f m R).1 R,List.pairwise_append] at hs
 refine ⟨h.n64,fun r hr=>?_,?_⟩
 ·rw [addR,List.mem_append,List.mem_cons] at hr
  rcases hr with hr | rfl | hr
  ·exact h.each r (List.mem_of_mem_take hr)
  ·exact ⟨hm,hf,hw⟩
  ·exact h.each r (List.mem_of_mem_drop hr)
 ·rw [addR,List.pairwise_append,List.pairwise_cons]
  refine ⟨hs.1,⟨fun s hs'=>h2 s hs',hs.2.1⟩,fun r hr s hs'=>?_⟩
  rcases List.mem_cons.1 hs' with rfl | hs'
  ·exact h1 r hr
  ·exact hs.2.2 r hr s hs'
/-- What an act on a table leaves. -/
def TPost (B tt n : Nat) (a : Option Addr) (r : Value) (R' : List Rn) (w : World) (e : Ending) (w' : World) : Prop:=
 ∃ a' cap',e = .returned r ∧ TSt w' B tt a' cap' n R' ∧ Mod (tt :: blk a) w w' ∧ ∀ k ∈ blk a',k ∈ blk a ∨ w.heap.size ≤ k
set_option maxHeartbeats 1600000 in
theorem give_any (B tt cap n : Nat) (a : Option Addr) (R : List Rn) (f m who : Int) (w : World) (h : TSt w B tt a cap n R) (hB : B ≤ w.heap.size) : Calls Tryz.prog 131 #[.pointer (some ⟨tt,0,none⟩),.int .i64 f,.int .i64 m,.int .i64 who] w (TPost B tt n a (.int .i64 (giveV n R f m who).1) (giveV n R f m who).2 w):=by
 have H:=Lib.hid h
 have HN:=Lib.hid (none_no B tt cap n a R w h)
 have c0:=h.obj.cell 0 _ rfl
 have c1:=h.obj.cell 1 _ rfl
 have hn64:=h.ok.n64
 have hfew:=h.ok.few
 have HE : Hid (∀ r,TPost B tt n a r R w (.returned r) w):=fun r=>⟨a,cap,rfl,H.out,Mod.refl _ _,fun k hk=>.inl hk⟩
 by_cases hw : wellG n f m who = true
 ·obtain ⟨w1,w2,w3,w4,w5,w6⟩:=(wellG_iff _ _ _ _).1 hw
  obtain ⟨F,rfl⟩:=Int.eq_ofNat_of_zero_le w1
  obtain ⟨M,rfl⟩:=Int.eq_ofNat_of_zero_le (show 0 ≤ m by omega)
  obtain ⟨V,rfl⟩:=Int.eq_ofNat_of_zero_le w5
  have HG : Hid (giveV n R F M V = if (meetV F M R).2 then (5,R) else (0,addR R F M V)):=by rw [Hid,giveV,if_pos hw];rfl
  have HM:=Lib.hid (meets_any B tt cap n a R F M (by omega) (by omega) w h)
  have hFn : F ≤ n:=by omega
  have hMn : M ≤ n - F:=by omega
  have hV64 : V < 64:=by omega
  have e1 : decide ((F : Int) < 0) = false:=by simp
  have e2 : decide ((M : Int) < 1) = false:=by simp;omega
  have e3 : decide ((n : Int) < (F : Int)) = false:=by simp;omega
  have e4 : decide ((n : Int) - F < (M : Int)) = false:=by simp;omega
  have e5 : decide ((V : Int) < 0) = false:=by simp
  have e6 : decide ((64 : Int) ≤ (V : Int)) = false:=by simp;omega
  have e7 : decide (n < F) = false:=by simp;omega
  have HOK : Hid ((meetV F M R).2 = false → Okr n (addR R F M V)):=fun hh=>h.ok.add (by omega) (by omega) (by omega) hh
  have hml:=meet_le F M R
  obtain ⟨K,hK⟩ : ∃ K,K = (meetV F M R).1:=⟨_,rfl⟩
  have HAD : Hid (addR R F M V = R.take K ++ (F,M,V) :: R.drop K):=by rw [Hid,hK];rfl
  rw [← hK] at HM hml
  clear h hw w1 w2 w3 w4 w5 w6
  cases hh : (meetV F M R).2
  ·have HOKR:=Lib.hid (HOK.out hh)
   have HGV : Hid (giveV n R F M V = (0,addR R F M V)):=by rw [Hid,HG.out,hh];rfl
   rw [hh] at HM
   clear hK hh HG HOK
   go_enter Tryz.func131,Tryz.ntmps131
   go_wp2_with fail
   refine HN.out.mono ?_;rintro e w' ⟨rfl,rfl⟩
   go_wp2_with fail
   refine HM.out.mono ?_;rintro e w2 ⟨rfl,hb2⟩
   have h2:=Lib.hid (H.out.below hb2)
   have d0:=h2.out.obj.cell 0 _ rfl
   have HB2:=Lib.hid hb2
   clear hb2 c0 c1
   go_wp2_with fail
   refine (cloneR_any _ _ _ _ _ h2.out.own.rd (rn_one _) (by omega)).mono ?_;rintro e w3 ⟨a3,c3,rfl,hown3,hb3⟩
   have HO3:=Lib.hid hown3
   have HB3:=Lib.hid (bmore HB2.out hb3)
   have h3:=Lib.hid (h2.out.below hb3)
   have hz23:=hb3.size
   clear hown3 hb3 d0
   go_wp2_with fail
   have hlt3:=h3.out.obj.lt
   have HB0:=HB3.out.size
   obtain ⟨W4,hW4⟩ : ∃ W,W = w3.alloc (.cells #[.int .i64 F,.int .i64 M,.int .i64 V] 227):=⟨_,rfl⟩
   have hal : Below w3.heap.size w3 W4:=by rw [hW4];exact (Below.refl _ _).alloc (Nat.le_refl _) _
   have hg4 : W4.heap[w3.heap.size]? = some (.cells (rnC (F,M,V)).toArray 227 (0,0)):=by rw [hW4];exact new_block w3 _ _ rfl
   have hs4 : W4.heap.size = w3.heap.size + 1:=by rw [hW4];simp
   rw [← hW4]
   clear hW4
   have h4:=Lib.hid (h3.out.below hal)
   have HO4:=Lib.hid (HO3.out.below hal)
   have hg3 : w3.heap.size ∉ blk a3:=fun hk=>by have:=(HO3.out.ge _ hk).2;omega
   have HM4 : Hid (Mod [] w W4):=Mod.ofBelow (bmore HB3.out hal)
   have HB2z:=HB2.out.size
   refine (insert_any w2.heap.size w3.heap.size c3 K a3 R (F,M,V) W4 HO4.out hg4 hg3 hfew hml (by omega)).mono ?_;rintro e w5 ⟨a5,c5,rfl,hown5,hmod5,hat5⟩
   have ho5:=(h4.out.obj.mod hmod5 (fun hk=>by have:=(HO3.out.ge _ hk).1;have:=H.out.obj.lt;omega))
   have q0:=ho5.cell 0 _ rfl
   have qf:=ho5.free 0
   have HP : Hid (TPost B tt n a (.int .i64 0) (R.take K ++ (F,M,V) :: R.drop K) w (.returned (.int .i64 0)) (w5.setCell ⟨tt,0,none⟩ (.slice a5 (R.length + 1) c5))):=by
    have hlen : (R.take K ++ (F,M,V) :: R.drop K).length = R.length + 1:=by simp;omega
    have hge:=hown5.ge
    have hmw : Mod [] w w5:=HM4.out.then hmod5 (fun k hk hl=>by have:=(HO3.out.ge k hk).1;omega)
    refine ⟨a5,c5,rfl,⟨by rw [hlen];exact ho5.set 0 _,?_,by rw [← HAD.out];exact HOKR.out⟩,?_,fun k hk=>.inr (by have:=(hge k hk).1;omega)⟩
    ·rw [hlen]
     exact (hown5.mono (by omega)).upd (Upd.setCell w5 ⟨tt,0,none⟩ _) (fun hk=>by have:=(hge tt hk).1;have:=H.out.obj.lt;omega)
    ·exact (hmw.mono (fun k _ hk=>by simp at hk)).setCell ⟨tt,0,none⟩ _ (.inl (by simp))
   clear hown5 hmod5 hat5 ho5 hg4 hg3 hal h4 HO4 HM4
   go_wp2_with fail
   go_ret
   rw [HGV.out,HAD.out]
   exact HP.out
  ·have HGV : Hid (giveV n R F M V = (5,R)):=by rw [Hid,HG.out,hh];rfl
   rw [hh] at HM
   clear hK hh HG HOK
   go_enter Tryz.func131,Tryz.ntmps131
   go_wp2_with fail
   refine HN.out.mono ?_;rintro e w' ⟨rfl,rfl⟩
   go_wp2_with fail
   refine HM.out.mono ?_;rintro e w2 ⟨rfl,hb2⟩
   go_wp2_with fail
   go_ret
   rw [HGV.out]
   exact ⟨a,cap,rfl,H.out.below hb2,Mod.ofBelow hb2,fun k hk=>.inl hk⟩
 ·have HG : Hid (giveV n R f m who = (1,R)):=by rw [Hid,giveV,if_neg hw]
  have hw' : ¬ (0 ≤ f ∧ 1 ≤ m ∧ f ≤ n ∧ m ≤ n - f ∧ 0 ≤ who ∧ who < 64):=fun hc=>hw ((wellG_iff n f m who).2 hc)
  clear h hw
  by_cases g1 : f < 0
  ·have e1 : decide (f < 0) = true:=by simpa using g1
   clear hw'
   ((go_enter Tryz.func131,Tryz.ntmps131);(go_wp2_with fail);(refine HN.out.mono ?_;rintro e w' ⟨rfl,rfl⟩);(go_wp2_with fail);go_ret;(rw [HG.out]);exact HE.out _)
  ·have e1 : decide (f < 0) = false:=by simpa using g1
   by_cases g2 : m < 1
   ·have e2 : decide (m < 1) = true:=by simpa using g2
    clear hw'
    ((go_enter Tryz.func131,Tryz.ntmps131);(go_wp2_with fail);(refine HN.out.mono ?_;rintro e w' ⟨rfl,rfl⟩);(go_wp2_with fail);go_ret;(rw [HG.out]);exact HE.out _)
   ·have e2 : decide (m < 1) = false:=by simpa using g2
    by_cases g3 : (n : Int) < f
    ·have e3 : decide ((n : Int) < f) = true:=by simpa using g3
     clear hw'
     ((go_enter Tryz.func131,Tryz.ntmps131);(go_wp2_with fail);(refine HN.out.mono ?_;rintro e w' ⟨rfl,rfl⟩);(go_wp2_with fail);go_ret;(rw [HG.out]);exact HE.out _)
    ·have e3 : decide ((n : Int) < f) = false:=by simpa using g3
     by_cases g4 : (n : Int) - f < m
     ·have e4 : decide ((n : Int) - f < m) = true:=by simpa using g4
      clear hw'
      ((go_enter Tryz.func131,Tryz.ntmps131);(go_wp2_with fail);(refine HN.out.mono ?_;rintro e w' ⟨rfl,rfl⟩);(go_wp2_with fail);go_ret;(rw [HG.out]);exact HE.out _)
     ·have e4 : decide ((n : Int) - f < m) = false:=by simpa using g4
      by_cases g5 : who < 0
      ·have e5 : decide (who < 0) = true:=by simpa using g5
       clear hw'
       ((go_enter Tryz.func131,Tryz.ntmps131);(go_wp2_with fail);(refine HN.out.mono ?_;rintro e w' ⟨rfl,rfl⟩);(go_wp2_with fail);go_ret;(rw [HG.out]);exact HE.out _)
      ·have e5 : decide (who < 0) = false:=by simpa using g5
       have e6 : decide ((64 : Int) ≤ who) = true:=by simp;omega
       clear hw'
       ((go_enter Tryz.func131,Tryz.ntmps131);(go_wp2_with fail);(refine HN.out.mono ?_;rintro e w' ⟨rfl,rfl⟩);(go_wp2_with fail);go_ret;(rw [HG.out]);exact HE.out _)
/-- parts.New. -/
theorem tnew_yes (n : Nat) (hn : n ≤ 64) (w : World) : Calls Tryz.prog 129 #[.int .i64 n] w fun e w'=>e = .returned (.tuple #[.pointer (some ⟨w.heap.size,0,none⟩),.int .i64 0]) ∧ TSt w' w.heap.size w.heap.size none 0 n [] ∧ Below w.heap.size w w':=by
 have e1 : decide ((n : Int) < 0) = false:=by simp
 have e2 : decide ((64 : Int) < (n : Int)) = false:=by simp;omega
 have HP : Hid (TSt (w.alloc (.cells #[.slice none 0 0,.int .i64 n,.bool true] 223)) w.heap.size w.heap.size none 0 n []):=⟨new_block w _ _ rfl,Own.nil _ _ _ _,Okr.nil hn⟩
 go_enter Tryz.func129,Tryz.ntmps129
 go_wp2
 go_ret2
 exact ⟨rfl,HP.out,(Below.refl _ _).alloc (Nat.le_refl _) _⟩
end Go.Proofs.YtoklonmiejdgmaaGreatDoor
