/- The text of a script: plain. -/
import Derived.Test.YtoklonmiejdgmaaGreatDoorGScriptPrints7
import Derived.Test.YtoklonmiejdgmaaGreatDoorGScriptPrints3
import Derived.Deep.RegionHeld3
import Derived.Test.YtoklonmiejdgmaaGreatDoorGScriptPrints5
namespace Go.Proofs.YtoklonmiejdgmaaGreatDoor.Sp
set_option linter.unusedVariables false
set_option linter.unusedSimpArgs false
set_option linter.unnecessarySimpa false
open Go.RowKit Go.Sort
set_option maxHeartbeats 4000000
set_option maxRecDepth 100000
set_option linter.unusedVariables false
def fitB (n : Int) : Bool:=decide (0 ≤ n) && decide (n ≤ 999999999)
theorem fitB_iff {n : Int} : fitB n = true ↔ 0 ≤ n ∧ n ≤ 999999999:=by simp [fitB]
/-- A line of words. -/
def lnT (ws : List (List UInt8)) : List UInt8:=joinC 32 ws ++ [10]
def natL (l : List Int) : List Nat:=l.map Int.toNat
def imgT (l : List Int) : List UInt8:=lnT [wImage] ++ (As.listL (natL l) ++ lnT [wEnd])
def secW (x : Int × List UInt8) : List (List UInt8):=[wSector,dc x.1,hexV x.2]
/-- The words of an input behind its two numbers. -/
def tailW (k n : Int) (d : List UInt8) : Option (List (List UInt8)):=
 if k = 0 ∧ n = 0 then some [wPacket,hexV d] else if k = 1 ∧ d = [] then some [wLine,dc n] else if k = 2 ∧ n = 0 ∧ d = [] then some [wRestart] else none
def inpW (x : Int × Int × Int × Int × List UInt8) : Option (List (List UInt8)):=
 if fitB x.1 && (fitB x.2.1 && fitB x.2.2.2.1) then (tailW x.2.2.1 x.2.2.2.1 x.2.2.2.2).map fun r=>[wInput,dc x.1,dc x.2.1] ++ r else none
theorem inpW_of {x0 x1 k n : Int} {d : List UInt8} (h : (fitB x0 && (fitB x1 && fitB n)) = true) : inpW (x0,x1,k,n,d) = (tailW k n d).map fun r=>[wInput,dc x0,dc x1] ++ r:=by
 unfold inpW;rw [if_pos h]
def imgsT (l : List (List Int)) : List UInt8:=l.flatMap imgT
def secsT (l : List (Int × List UInt8)) : List UInt8:=l.flatMap fun x=>lnT (secW x)
def inpsT (l : List (Int × Int × Int × Int × List UInt8)) : List UInt8:=l.flatMap fun x=>lnT ((inpW x).getD [])
def bodyT (s : Sc) : List UInt8:=imgsT s.im ++ (secsT s.se ++ inpsT s.inp)
def longB (l : List (List Int)) : Bool:=l.any fun x=>decide (512 < x.length)
/-- A configuration's and a script's text: bytes and an error. -/
def prS (c : Pc) (s : Sc) : List UInt8 × Int:=
 if chkP c ≠ 0 then ([],chkP c) else if longB s.im then ([],10) else if s.se.all (fun x=>fitB x.1) = false then ([],6) else if s.inp.all (fun x=>(inpW x).isSome) = false then ([],6)
 else if 16384 < (prT c ++ bodyT s).length then ([],10) else (prT c ++ bodyT s,0)
theorem take_snoc {α : Type} (l : List α) (k : Nat) (h : k < l.length) : l.take (k + 1) = l.take k ++ [l[k]]:=List.take_succ_eq_append_getElem h
theorem imgsT_snoc (l : List (List Int)) (x : List Int) : imgsT (l ++ [x]) = imgsT l ++ imgT x:=by simp [imgsT]
theorem secsT_snoc (l : List (Int × List UInt8)) (x : Int × List UInt8) : secsT (l ++ [x]) = secsT l ++ lnT (secW x):=by simp [secsT]
theorem inpsT_snoc (l : List (Int × Int × Int × Int × List UInt8)) (x : Int × Int × Int × Int × List UInt8) : inpsT (l ++ [x]) = inpsT l ++ lnT ((inpW x).getD []):=by simp [inpsT]
/-- A script whose parts are of a machine's size. -/
structure Mild (s : Sc) : Prop where
 im : s.im.length ≤ 1048576
 w : ∀ l ∈ s.im,∀ x ∈ l,0 ≤ x ∧ x < 4294967296
 se : s.se.length ≤ 1048576
 inp : s.inp.length ≤ 1048576
 sd : ∀ x ∈ s.se,x.2.length ≤ 1048576
 nd : ∀ x ∈ s.inp,x.2.2.2.2.length ≤ 1048576
theorem flatMap_le {α : Type} (f : α → List UInt8) (N : Nat) (l : List α) (h : ∀ x ∈ l,(f x).length ≤ N) : (l.flatMap f).length ≤ l.length * N:=by
 induction l with
 | nil=>simp
 | cons x r ih=>
  have h1:=h x (by simp)
  have h2:=ih (fun y hy=>h y (by simp [hy]))
  rw [List.flatMap_cons,List.length_append,List.length_cons,Nat.succ_mul];omega
theorem hexV_len (d : List UInt8) : (hexV d).length ≤ 2 * d.length + 1:=by
 unfold hexV;split
 ·simp
 ·rw [flat_len];omega
theorem natL_lt {l : List Int} (h : ∀ x ∈ l,0 ≤ x ∧ x < 4294967296) : ∀ x ∈ natL l,x < 4294967296:=fun x hx=>by
 obtain ⟨y,hy,rfl⟩:=List.mem_map.1 hx
 have:=h y hy;omega
theorem natL_uC {l : List Int} (h : ∀ x ∈ l,0 ≤ x ∧ x < 4294967296) : As.wC (natL l) = As.uC l:=by
 unfold As.wC natL As.uC
 rw [List.map_map]
 apply List.map_congr_left
 intro x hx
 have:=h x hx
 simp only [Function.comp]
 rw [Int.toNat_of_nonneg this.1]
theorem imgT_len {l : List Int} (h : ∀ x ∈ l,0 ≤ x ∧ x < 4294967296) (h5 : l.length ≤ 512) : (imgT l).length ≤ 110000:=by
 have h1:=As.listL_len (natL l) (natL_lt h)
 have h2 : (natL l).length = l.length:=by simp [natL]
 have h3 : (lnT [wImage]).length = 6:=rfl
 have h4 : (lnT [wEnd]).length = 4:=rfl
 unfold imgT
 rw [List.length_append,List.length_append];omega
theorem secT_len {x : Int × List UInt8} (h : fitB x.1 = true) (hd : x.2.length ≤ 1048576) : (joinC 32 (secW x)).length ≤ 3000000:=by
 obtain ⟨h0,h1⟩:=fitB_iff.1 h
 have h2:=dc_len (show x.1 < 1000000000 by omega)
 have h3:=hexV_len x.2
 simp only [secW,joinC,List.length_append,List.length_cons,wSector,List.length_nil];omega
theorem secT_len' {x : Int × List UInt8} (h : fitB x.1 = true) (hd : x.2.length ≤ 1048576) : (lnT (secW x)).length ≤ 3000001:=by
 have:=secT_len h hd
 simp only [lnT,List.length_append,List.length_singleton];omega
theorem inpT_len {x : Int × Int × Int × Int × List UInt8} {ws : List (List UInt8)} (h : inpW x = some ws) (hd : x.2.2.2.2.length ≤ 1048576) : (joinC 32 ws).length ≤ 4000000:=by
 unfold inpW at h
 split at h
 ·rename_i hf
  simp only [Bool.and_eq_true,fitB_iff] at hf
  obtain ⟨⟨a0,a1⟩,⟨b0,b1⟩,c0,c1⟩:=hf
  have h1:=dc_len (show x.1 < 1000000000 by omega)
  have h2:=dc_len (show x.2.1 < 1000000000 by omega)
  have h3:=dc_len (show x.2.2.2.1 < 1000000000 by omega)
  have h4:=hexV_len x.2.2.2.2
  obtain ⟨r,hr,rfl⟩:=Option.map_eq_some_iff.1 h
  unfold tailW at hr
  split at hr
  ·injection hr with hr;subst hr
   simp only [joinC,List.length_append,List.length_cons,wInput,wPacket,List.length_nil,List.cons_append,List.nil_append];omega
  ·split at hr
   ·injection hr with hr;subst hr
    simp only [joinC,List.length_append,List.length_cons,wInput,wLine,List.length_nil,List.cons_append,List.nil_append];omega
   ·split at hr
    ·injection hr with hr;subst hr
     simp only [joinC,List.length_append,List.length_cons,wInput,wRestart,List.length_nil,List.cons_append,List.nil_append];omega
    ·cases hr
 ·cases h
theorem inpT_len' {x : Int × Int × Int × Int × List UInt8} (h : (inpW x).isSome = true) (hd : x.2.2.2.2.length ≤ 1048576) : (lnT ((inpW x).getD [])).length ≤ 4000001:=by
 obtain ⟨ws,hw⟩:=Option.isSome_iff_exists.1 h
 have:=inpT_len hw hd
 rw [hw]
 simp only [lnT,List.length_append,List.length_singleton,Option.getD_some];omega
end Go.Proofs.YtoklonmiejdgmaaGreatDoor.Sp
/- Package script: the reader's state; what an input is. -/
namespace Go.Proofs.YtoklonmiejdgmaaGreatDoor
set_option linter.unusedVariables false
set_option linter.unusedSimpArgs false
set_option linter.unnecessarySimpa false
open Go.RowKit Go.Sort
set_option maxHeartbeats 4000000
set_option maxRecDepth 100000
set_option linter.unusedVariables false
/-- An image in memory. -/
structure Iv where
 a : Option Addr
 cap : Nat
 l : List Int
/-- A script in memory. -/
structure Sv where
 ia : Option Addr
 ic : Nat
 im : List Iv
 sa : Option Addr
 sc : Nat
 se : List (Int × List UInt8)
 na : Option Addr
 nc : Nat
 inp : List (Int × Int × Int × Int × List UInt8)
def imC (l : List Iv) : List Value:=l.map fun x=>.slice x.a x.l.length x.cap
def seR (x : Int × List UInt8) : List Value:=[.int .i64 x.1,.string (ba x.2)]
def inR (x : Int × Int × Int × Int × List UInt8) : List Value:=[.int .i64 x.1,.int .i64 x.2.1,.int .i64 x.2.2.1,.int .i64 x.2.2.2.1,.string (ba x.2.2.2.2)]
def seC (l : List (Int × List UInt8)) : List Value:=(l.map seR).flatten
def inC (l : List (Int × Int × Int × Int × List UInt8)) : List Value:=(l.map inR).flatten
def scOf (v : Sv) : Sc:=⟨v.im.map (·.l),v.se,v.inp⟩
def sv0 : Sv:=⟨none,0,[],none,0,[],none,0,[]⟩
theorem imC_snoc (l : List Iv) (x : Iv) : imC (l ++ [x]) = imC l ++ [.slice x.a x.l.length x.cap]:=by simp [imC]
theorem seC_snoc (l : List (Int × List UInt8)) (x : Int × List UInt8) : seC (l ++ [x]) = seC l ++ seR x:=by simp [seC]
theorem inC_snoc (l : List (Int × Int × Int × Int × List UInt8)) (x : Int × Int × Int × Int × List UInt8) : inC (l ++ [x]) = inC l ++ inR x:=by simp [inC]
/-- The reader at work. -/
structure SR (w : World) (rb : Nat) (La : Option Addr) (Lc : Nat) (L : List (List UInt8)) (i : Nat) (last : Int) (v : Sv) (e bad : Int) (W : World) : Prop where
 bel : Below w.heap.size w W
 new : w.heap.size ≤ rb
 ob : ObjAt W rb 64 [.slice La L.length Lc,.int .i64 i,.int .i64 last,.slice v.ia v.im.length v.ic,.slice v.sa v.se.length v.sc,.slice v.na v.inp.length v.nc,.int .i64 e,.int .i64 bad]
 ln : RdW w La Lc L
 im : Own W w.heap.size 69 1 v.ia v.im.length v.ic (imC v.im)
 row : ∀ x ∈ v.im,Own W w.heap.size 70 1 x.a x.l.length x.cap (As.uC x.l)
 se : Own W w.heap.size 72 2 v.sa v.se.length v.sc (seC v.se)
 inp : Own W w.heap.size 74 5 v.na v.inp.length v.nc (inC v.inp)
section
variable {w W W' : World} {rb : Nat} {La : Option Addr} {Lc : Nat} {L : List (List UInt8)} {i : Nat} {last : Int} {v : Sv} {e bad : Int}
theorem SR.more (h : SR w rb La Lc L i last v e bad W) (hb : Below W.heap.size W W') : SR w rb La Lc L i last v e bad W':=
 ⟨bmore h.bel hb,h.new,h.ob.below hb,h.ln,h.im.below hb,fun x hx=>(h.row x hx).below hb,h.se.below hb,h.inp.below hb⟩
theorem SR.setAt (h : SR w rb La Lc L i last v e bad W) (j : Nat) : SR w rb La Lc L j last v e bad (W.setCell ⟨rb,1,none⟩ (.int .i64 j)):=by
 have hu:=Upd.setCell W ⟨rb,1,none⟩ (.int .i64 (j : Int))
 refine ⟨h.bel.trans (hu.below h.new h.bel.size),h.new,?_,h.ln,h.im.upd hu (h.im.ne h.ob (by decide)),fun x hx=>(h.row x hx).upd hu ((h.row x hx).ne h.ob (by decide)),h.se.upd hu (h.se.ne h.ob (by decide)),h.inp.upd hu (h.inp.ne h.ob (by decide))⟩
 exact h.ob.set 1 _
theorem SR.setLast (h : SR w rb La Lc L i last v e bad W) (k : Int) : SR w rb La Lc L i k v e bad (W.setCell ⟨rb,2,none⟩ (.int .i64 k)):=by
 have hu:=Upd.setCell W ⟨rb,2,none⟩ (.int .i64 k)
 refine ⟨h.bel.trans (hu.below h.new h.bel.size),h.new,?_,h.ln,h.im.upd hu (h.im.ne h.ob (by decide)),fun x hx=>(h.row x hx).upd hu ((h.row x hx).ne h.ob (by decide)),h.se.upd hu (h.se.ne h.ob (by decide)),h.inp.upd hu (h.inp.ne h.ob (by decide))⟩
 exact h.ob.set 2 _
theorem SR.setBad (h : SR w rb La Lc L i last v e bad W) (x y : Int) : SR w rb La Lc L i last v x y ((W.setCell ⟨rb,6,none⟩ (.int .i64 x)).setCell ⟨rb,7,none⟩ (.int .i64 y)):=by
 have hu:=(Upd.setCell W ⟨rb,6,none⟩ (.int .i64 x)).trans (Upd.setCell _ ⟨rb,7,none⟩ (.int .i64 y))
 refine ⟨h.bel.trans (hu.below h.new h.bel.size),h.new,?_,h.ln,h.im.upd hu (h.im.ne h.ob (by decide)),fun x hx=>(h.row x hx).upd hu ((h.row x hx).ne h.ob (by decide)),h.se.upd hu (h.se.ne h.ob (by decide)),h.inp.upd hu (h.inp.ne h.ob (by decide))⟩
 exact (h.ob.set 6 _).set 7 _
end
theorem fail_any {w W : World} {rb : Nat} {La : Option Addr} {Lc : Nat} {L : List (List UInt8)} {i : Nat} {last : Int} {v : Sv} {e0 bad : Int} (h : SR w rb La Lc L i last v e0 bad W) (x y : Int) :
  Calls Tryz.prog 139 #[.pointer (some ⟨rb,0,none⟩),.int .i64 x,.int .i64 y] W fun e w'=>e = .returned (.bool false) ∧ SR w rb La Lc L i last v x y w':=by
 have H:=Lib.hid (h.setBad x y)
 (have r0:=(h).ob.cell 0 _ rfl;have r1:=(h).ob.cell 1 _ rfl;have r2:=(h).ob.cell 2 _ rfl;have r3:=(h).ob.cell 3 _ rfl;have r4:=(h).ob.cell 4 _ rfl;have r5:=(h).ob.cell 5 _ rfl;have r6:=(h).ob.cell 6 _ rfl;have r7:=(h).ob.cell 7 _ rfl;have f1:=(h).ob.free 1;have f2:=(h).ob.free 2;have f3:=(h).ob.free 3;have f4:=(h).ob.free 4;have f5:=(h).ob.free 5;have f6:=(h).ob.free 6;have f7:=(h).ob.free 7)
 clear h
 go_enter Tryz.func139,Tryz.ntmps139
 go_wp2_with fail
 go_ret
 exact ⟨rfl,H.out⟩
theorem wrong_any {w W : World} {rb : Nat} {La : Option Addr} {Lc : Nat} {L : List (List UInt8)} {i : Nat} {last : Int} {v : Sv} {e0 bad : Int} (h : SR w rb La Lc L i last v e0 bad W) (hi : i ≤ 1000000) (a : Option Addr) (n c : Nat) :
  Calls Tryz.prog 94 #[.pointer (some ⟨rb,0,none⟩),.slice a n c] W fun e w'=>e = .returned (.bool false) ∧ SR w rb La Lc L i last v 6 ((i : Int) + 1) w':=by
 have HF:=Lib.hid (fail_any h 6 ((i : Int) + 1))
 have w1 : IntKind.i64.wrap ((i : Int) + 1) = (i : Int) + 1:=by rw [IntKind.wrap_i64];omega
 (have r0:=(h).ob.cell 0 _ rfl;have r1:=(h).ob.cell 1 _ rfl;have r2:=(h).ob.cell 2 _ rfl;have r3:=(h).ob.cell 3 _ rfl;have r4:=(h).ob.cell 4 _ rfl;have r5:=(h).ob.cell 5 _ rfl;have r6:=(h).ob.cell 6 _ rfl;have r7:=(h).ob.cell 7 _ rfl;have f1:=(h).ob.free 1;have f2:=(h).ob.free 2;have f3:=(h).ob.free 3;have f4:=(h).ob.free 4;have f5:=(h).ob.free 5;have f6:=(h).ob.free 6;have f7:=(h).ob.free 7)
 clear h
 go_enter Tryz.func94,Tryz.ntmps94
 go_wp2_with (go_at_call 139;refine HF.out.mono ?_;rintro e W2 ⟨rfl,h2⟩)
 go_ret
 exact ⟨rfl,h2⟩
def EndR (L : List (List UInt8)) (i : Nat) : Value:=match endS L i with
 | some j=>.tuple #[.int .i64 j,.bool true]
 | none=>.tuple #[.int .i64 0,.bool false]
theorem send_any {w W : World} {rb : Nat} {La : Option Addr} {Lc : Nat} {L : List (List UInt8)} {i : Nat} {last : Int} {v : Sv} {e0 bad : Int} (h : SR w rb La Lc L i last v e0 bad W) (hi : i < L.length) (hl : L.length ≤ 1000000) :
  Calls Tryz.prog 140 #[.pointer (some ⟨rb,0,none⟩)] W fun e w'=>e = .returned (EndR L (i + 1)) ∧ W = w':=by
 have HS : Hid (∀ j,j < L.length → i + 1 ≤ j → L.getD j [] = wEnd → (∀ m,i + 1 ≤ m → m < j → L.getD m [] ≠ wEnd) → EndR L (i + 1) = .tuple #[.int .i64 j,.bool true]):=fun j h1 h2 h3 h4=>by unfold EndR;rw [endS_hit h1 h2 h3 h4]
 have HN : Hid ((∀ m,i + 1 ≤ m → m < L.length → L.getD m [] ≠ wEnd) → EndR L (i + 1) = .tuple #[.int .i64 0,.bool false]):=fun h1=>by unfold EndR;rw [endS_none h1]
 obtain ⟨R,hR⟩ : ∃ R,R = EndR L (i + 1):=⟨_,rfl⟩
 rw [← hR] at HS HN ⊢
 have w1 : IntKind.i64.wrap ((i : Int) + 1) = (i : Int) + 1:=by rw [IntKind.wrap_i64];omega
 have H:=Lib.hid h
 have hle:=h.ln.le
 have hmx:=h.ln.mx
 unfold maxLen at hmx
 (have r0:=(h).ob.cell 0 _ rfl;have r1:=(h).ob.cell 1 _ rfl;have r2:=(h).ob.cell 2 _ rfl;have r3:=(h).ob.cell 3 _ rfl;have r4:=(h).ob.cell 4 _ rfl;have r5:=(h).ob.cell 5 _ rfl;have r6:=(h).ob.cell 6 _ rfl;have r7:=(h).ob.cell 7 _ rfl;have f1:=(h).ob.free 1;have f2:=(h).ob.free 2;have f3:=(h).ob.free 3;have f4:=(h).ob.free 4;have f5:=(h).ob.free 5;have f6:=(h).ob.free 6;have f7:=(h).ob.free 7)
 clear h hR
 go_enter Tryz.func140,Tryz.ntmps140
 go_upto_region 2 with fail
 go_loop [4] (fun z=>∃ k : Nat,i + 1 ≤ k ∧ k ≤ L.length ∧ z = .int .i64 k ∧ ∀ m,i + 1 ≤ m → m < k → L.getD m [] ≠ wEnd) (fun z=>L.length - (intOf z).toNat)
 case atStart=>exact ⟨i + 1,by omega,by omega,by go_num,fun m h1 h2=>by omega⟩
 case round=>
  obtain ⟨k,hk1,hk,rfl,hn⟩:=hrel
  have HNO:=Lib.hid hn
  clear hn
  by_cases hlt : k < L.length
  ·obtain ⟨g,o,rfl,hg,hc⟩:=H.out.ln.at_ k hlt
   have hcr : W.cell? ⟨g,o + k,none⟩ = some (.string (ba L[k])):=by rw [H.out.bel.cell (p:=⟨g,o + k,none⟩) hg];exact hc k hlt
   obtain ⟨x,hx⟩ : ∃ x,x = L[k]:=⟨_,rfl⟩
   rw [← hx] at hcr
   have hxd : L.getD k [] = x:=by rw [List.getD_eq_getElem?_getD,List.getElem?_eq_getElem hlt,hx];rfl
   have d1 : decide ((k : Int) < (L.length : Int)) = true:=decide_eq_true (by omega)
   have d1' : decide (k < L.length) = true:=decide_eq_true hlt
   have w2 : IntKind.i64.wrap ((k : Int) + 1) = (k : Int) + 1:=by rw [IntKind.wrap_i64];omega
   have b0:=ba_lit x [101,110,100]
   by_cases he : x = wEnd
   ·have HR:=Lib.hid (HS.out k hlt hk1 (by rw [hxd,he]) HNO.out)
    rw [decide_eq_true (show x = [101,110,100] from he)] at b0
    clear hc hx hxd he
    go_wp2_with fail
    go_ret2
    exact ⟨by rw [HR.out];rfl,rfl⟩
   ·have HN2 : Hid (∀ m,i + 1 ≤ m → m < k + 1 → L.getD m [] ≠ wEnd):=fun m h1 h2=>by
     by_cases e : m = k
     ·subst e;rw [hxd];exact he
     ·exact HNO.out m h1 (by omega)
    rw [decide_eq_false (show ¬ x = [101,110,100] from he)] at b0
    clear hc hx hxd he
    go_wp2_with fail
    go_round
    case rel=>exact ⟨k + 1,by omega,by omega,by go_num,HN2.out⟩
    case measure=>simp [intOf];omega
  ·obtain rfl : k = L.length:=by omega
   have d1 : decide ((L.length : Int) < (L.length : Int)) = false:=decide_eq_false (by omega)
   have HR:=Lib.hid (HN.out (fun m h1 h2=>HNO.out m h1 h2))
   go_wp2_with fail
   go_ret2
   exact ⟨by rw [HR.out];rfl,rfl⟩
end Go.Proofs.YtoklonmiejdgmaaGreatDoor
/- Package script: what an input is; a sector's line; an input's line. -/
namespace Go.Proofs.YtoklonmiejdgmaaGreatDoor
set_option linter.unusedVariables false
set_option linter.unusedSimpArgs false
set_option linter.unnecessarySimpa false
open Go.RowKit Go.Sort
set_option maxHeartbeats 4000000
set_option maxRecDepth 100000
set_option linter.unusedVariables false
def WhPost (a0 g0 : Int) (r : List (List UInt8)) (xb : Nat) (W : World) (e : Ending) (w' : World) : Prop:=
 Upd xb W w' ∧ match whatV r with
  | some x=>e = .returned (.bool true) ∧ ObjAt w' xb 74 (inR (a0,g0,x))
  | none=>e = .returned (.bool false)
theorem wh_no {a0 g0 : Int} {r : List (List UInt8)} {xb : Nat} {W w' : World} (h : whatV r = none) (hu : Upd xb W w') : WhPost a0 g0 r xb W (.returned (.bool false)) w':=by
 unfold WhPost;rw [h];exact ⟨hu,rfl⟩
theorem wh_yes {a0 g0 : Int} {r : List (List UInt8)} {xb : Nat} {W w' : World} {x : Int × Int × List UInt8} (h : whatV r = some x) (hu : Upd xb W w') (ho : ObjAt w' xb 74 (inR (a0,g0,x))) : WhPost a0 g0 r xb W (.returned (.bool true)) w':=by
 unfold WhPost;rw [h];exact ⟨hu,rfl,ho⟩
theorem what_1 (a0 g0 : Int) (q : List UInt8) (xb g o c : Nat) (W : World) (ho : ObjAt W xb 74 [.int .i64 a0,.int .i64 g0,.int .i64 0,.int .i64 0,.string ⟨#[]⟩]) (hc : 1 ≤ c) (h0 : W.cell? ⟨g,o,none⟩ = some (.string (ba q))) :
  Calls Tryz.prog 143 #[.pointer (some ⟨xb,0,none⟩),.slice (some ⟨g,o,none⟩) 1 c] W (WhPost a0 g0 [q] xb W):=by
 have b0:=ba_lit q [114,101,115,116,97,114,116]
 have HO:=Lib.hid ho
 by_cases he : q = wRestart
 ·have HV : Hid (whatV [q] = some (2,0,[])):=by rw [Hid,whatV,if_pos ⟨rfl,he⟩]
  rw [decide_eq_true (show q = [114,101,115,116,97,114,116] from he)] at b0
  (have x0:=(ho).cell 0 _ rfl;have x1:=(ho).cell 1 _ rfl;have x2:=(ho).cell 2 _ rfl;have x3:=(ho).cell 3 _ rfl;have x4:=(ho).cell 4 _ rfl;have f2:=(ho).free 2;have f3:=(ho).free 3;have f4:=(ho).free 4)
  clear he ho
  go_enter Tryz.func143,Tryz.ntmps143
  go_wp2_with fail
  go_ret
  exact wh_yes HV.out (Upd.setCell W ⟨xb,2,none⟩ _) (HO.out.set 2 _)
 ·have HV : Hid (whatV [q] = none):=by
   rw [Hid,whatV,if_neg (fun h=>he h.2),if_neg (by simp),if_neg (by simp)]
  rw [decide_eq_false (show ¬ q = [114,101,115,116,97,114,116] from he)] at b0
  clear he ho
  go_enter Tryz.func143,Tryz.ntmps143
  go_wp2_with fail
  go_ret
  exact wh_no HV.out (Upd.refl _ _)
theorem what_2 (a0 g0 : Int) (q y : List UInt8) (hy : y.length ≤ 100000) (xb g o c : Nat) (W : World) (ho : ObjAt W xb 74 [.int .i64 a0,.int .i64 g0,.int .i64 0,.int .i64 0,.string ⟨#[]⟩]) (hc : 2 ≤ c) (h0 : W.cell? ⟨g,o,none⟩ = some (.string (ba q))) (h1 : W.cell? ⟨g,o + 1,none⟩ = some (.string (ba y))) :
  Calls Tryz.prog 143 #[.pointer (some ⟨xb,0,none⟩),.slice (some ⟨g,o,none⟩) 2 c] W (WhPost a0 g0 [q,y] xb W):=by
 have b0:=ba_lit q [112,97,99,107,101,116]
 have b1:=ba_lit q [108,105,110,101]
 have HO:=Lib.hid ho
 by_cases he : q = wPacket
 ·have HV : Hid (whatV [q,y] = if unB y then some (0,0,unV y) else none):=by rw [Hid,whatV,if_neg (by simp),if_pos ⟨rfl,he⟩];rfl
  rw [decide_eq_true (show q = [112,97,99,107,101,116] from he)] at b0
  have HUN:=fun W=>Lib.hid (unhex_any (ba y) (by rw [ba_size];omega) W)
  rw [ba_data] at HUN
  obtain ⟨ub,hub⟩ : ∃ b,Hid (b = unB y):=⟨_,Lib.hid rfl⟩
  obtain ⟨uv,huv⟩ : ∃ b,Hid (b = unV y):=⟨_,Lib.hid rfl⟩
  have HUS : Hid (∀ W e w',UnPost y W e w' → e = .returned (.tuple #[.string (ba uv),.bool ub]) ∧ Below W.heap.size W w'):=fun W e w' h=>by rw [hub.out,huv.out];exact h
  clear he ho b1
  go_enter Tryz.func143,Tryz.ntmps143
  go_wp2_with fail
  refine ((HUN _).out).mono ?_;intro e w1 hp
  obtain ⟨rfl,hb⟩:=HUS.out _ _ _ hp
  have HO1:=Lib.hid (HO.out.below hb)
  have HU1 : Hid (Upd xb W w1):=Upd.of_below hb
  (have x0:=(HO1.out).cell 0 _ rfl;have x1:=(HO1.out).cell 1 _ rfl;have x2:=(HO1.out).cell 2 _ rfl;have x3:=(HO1.out).cell 3 _ rfl;have x4:=(HO1.out).cell 4 _ rfl;have f2:=(HO1.out).free 2;have f3:=(HO1.out).free 3;have f4:=(HO1.out).free 4)
  clear hp hb
  go_wp2_with fail
  go_ret
  cases ub with
  | true=>exact wh_yes (x:=(0,0,uv)) (by rw [HV.out,← hub.out,← huv.out];rfl) ((HU1.out.trans (Upd.setCell _ ⟨xb,2,none⟩ _)).trans (Upd.setCell _ ⟨xb,4,none⟩ _)) ((HO1.out.set 2 _).set 4 _)
  | false=>exact wh_no (by rw [HV.out,← hub.out];rfl) ((HU1.out.trans (Upd.setCell _ ⟨xb,2,none⟩ _)).trans (Upd.setCell _ ⟨xb,4,none⟩ _))
 ·rw [decide_eq_false (show ¬ q = [112,97,99,107,101,116] from he)] at b0
  by_cases h2 : q = wLine
  ·have HV : Hid (whatV [q,y] = if numB y then some ((1 : Int),((numI y : Nat) : Int),([] : List UInt8)) else none):=by rw [Hid,whatV,if_neg (by simp),if_neg (fun h=>he h.2),if_pos ⟨rfl,h2⟩];rfl
   rw [decide_eq_true (show q = [108,105,110,101] from h2)] at b1
   have HNU:=fun W=>Lib.hid (number_any (ba y) (by rw [ba_size];unfold maxLen;omega) W)
   rw [ba_data] at HNU
   obtain ⟨nb,hnb⟩ : ∃ b,Hid (b = numB y):=⟨_,Lib.hid rfl⟩
   obtain ⟨nv,hnv⟩ : ∃ b,Hid (b = numI y):=⟨_,Lib.hid rfl⟩
   rw [← hnb.out,← hnv.out] at HNU
   clear he ho h2
   go_enter Tryz.func143,Tryz.ntmps143
   go_wp2_with fail
   refine ((HNU _).out).mono ?_;rintro e w1 ⟨rfl,hb⟩
   have HO1:=Lib.hid (HO.out.below hb)
   have HU1 : Hid (Upd xb W w1):=Upd.of_below hb
   (have x0:=(HO1.out).cell 0 _ rfl;have x1:=(HO1.out).cell 1 _ rfl;have x2:=(HO1.out).cell 2 _ rfl;have x3:=(HO1.out).cell 3 _ rfl;have x4:=(HO1.out).cell 4 _ rfl;have f2:=(HO1.out).free 2;have f3:=(HO1.out).free 3;have f4:=(HO1.out).free 4)
   clear hb
   go_wp2_with fail
   go_ret
   cases nb with
   | true=>exact wh_yes (x:=(1,(nv : Int),[])) (by rw [HV.out,← hnb.out,← hnv.out];rfl) ((HU1.out.trans (Upd.setCell _ ⟨xb,2,none⟩ _)).trans (Upd.setCell _ ⟨xb,3,none⟩ _)) ((HO1.out.set 2 _).set 3 _)
   | false=>exact wh_no (by rw [HV.out,← hnb.out];rfl) ((HU1.out.trans (Upd.setCell _ ⟨xb,2,none⟩ _)).trans (Upd.setCell _ ⟨xb,3,none⟩ _))
  ·have HV : Hid (whatV [q,y] = none):=by rw [Hid,whatV,if_neg (by simp),if_neg (fun h=>he h.2),if_neg (fun h=>h2 h.2)]
   rw [decide_eq_false (show ¬ q = [108,105,110,101] from h2)] at b1
   clear he ho h2
   go_enter Tryz.func143,Tryz.ntmps143
   go_wp2_with fail
   go_ret
   exact wh_no HV.out (Upd.refl _ _)
theorem what_3 (a0 g0 : Int) (r : List (List UInt8)) (hr : 3 ≤ r.length) (hr2 : r.length ≤ 1000000) (xb g o c : Nat) (W : World) :
  Calls Tryz.prog 143 #[.pointer (some ⟨xb,0,none⟩),.slice (some ⟨g,o,none⟩) r.length c] W (WhPost a0 g0 r xb W):=by
 have HV : Hid (whatV r = none):=by rw [Hid,whatV,if_neg (fun h=>by omega),if_neg (fun h=>by omega),if_neg (fun h=>by omega)]
 have e1 : ((r.length : Int) == 1) = false:=by rw [beq_eq_false_iff_ne];omega
 have e2 : ((r.length : Int) == 2) = false:=by rw [beq_eq_false_iff_ne];omega
 clear hr hr2
 go_enter Tryz.func143,Tryz.ntmps143
 go_wp2_with fail
 go_ret
 exact wh_no HV.out (Upd.refl _ _)
end Go.Proofs.YtoklonmiejdgmaaGreatDoor
/- Package script: a sector's line. -/
namespace Go.Proofs.YtoklonmiejdgmaaGreatDoor
set_option linter.unusedVariables false
set_option linter.unusedSimpArgs false
set_option linter.unnecessarySimpa false
open Go.RowKit Go.Sort
set_option maxHeartbeats 4000000
set_option maxRecDepth 100000
set_option linter.unusedVariables false
def StP (w : World) (rb : Nat) (La : Option Addr) (Lc : Nat) (L : List (List UInt8)) (last : Int) (r : (Int × Int) ⊕ (Nat × Int × Sc)) (e : Ending) (w' : World) : Prop:=
 match r with
 | .inl p=>e = .returned (.bool false) ∧ ∃ i' v',SR w rb La Lc L i' last v' p.1 p.2 w'
 | .inr p=>e = .returned (.bool true) ∧ ∃ v' j,j + 1 = p.1 ∧ scOf v' = p.2.2 ∧ SR w rb La Lc L j last v' 0 0 w'
section
variable {w W W1 W2 : World} {rb : Nat} {La : Option Addr} {Lc : Nat} {L : List (List UInt8)} {i : Nat} {last : Int} {v : Sv} {e bad : Int}
theorem SR.addSe (h : SR w rb La Lc L i last v e bad W) (hW : Below W.heap.size W W1) {g' c' : Nat} {x : Int × List UInt8} (ho : Own W2 w.heap.size 72 2 (some ⟨g',0,none⟩) (v.se.length + 1) c' (seC v.se ++ seR x)) (hm : Mod (blk v.sa) W1 W2) :
  SR w rb La Lc L i last { v with sa:=some ⟨g',0,none⟩,sc:=c',se:=v.se ++ [x] } e bad (W2.setCell ⟨rb,4,none⟩ (.slice (some ⟨g',0,none⟩) (v.se.length + 1) c')):=by
 have h1:=h.more hW
 have hu:=Upd.setCell W2 ⟨rb,4,none⟩ (.slice (some ⟨g',0,none⟩) (v.se.length + 1) c')
 have hob:=h1.ob.mod hm (h1.se.ne h1.ob (by decide))
 have hb2 : Below w.heap.size w W2:=h1.bel.trans (hm.below (fun k hk=>(h1.se.ge k hk).1) h1.bel.size)
 have hl : (v.se ++ [x]).length = v.se.length + 1:=by simp
 refine ⟨hb2.trans (hu.below h.new hb2.size),h.new,?_,h.ln,(h1.im.mod hm (h1.im.apart h1.se (by decide))).upd hu ((h1.im.mod hm (h1.im.apart h1.se (by decide))).ne hob (by decide)),fun y hy=>((h1.row y hy).mod hm ((h1.row y hy).apart h1.se (by decide))).upd hu (((h1.row y hy).mod hm ((h1.row y hy).apart h1.se (by decide))).ne hob (by decide)),?_,(h1.inp.mod hm (h1.inp.apart h1.se (by decide))).upd hu ((h1.inp.mod hm (h1.inp.apart h1.se (by decide))).ne hob (by decide))⟩
 ·have:=hob.set 4 (.slice (some ⟨g',0,none⟩) (v.se.length + 1) c')
  rw [hl];exact this
 ·rw [hl,seC_snoc];exact ho.upd hu (ho.ne hob (by decide))
theorem SR.addIn (h : SR w rb La Lc L i last v e bad W) (hW : Below W.heap.size W W1) {g' c' : Nat} {x : Int × Int × Int × Int × List UInt8} (ho : Own W2 w.heap.size 74 5 (some ⟨g',0,none⟩) (v.inp.length + 1) c' (inC v.inp ++ inR x)) (hm : Mod (blk v.na) W1 W2) :
  SR w rb La Lc L i last { v with na:=some ⟨g',0,none⟩,nc:=c',inp:=v.inp ++ [x] } e bad (W2.setCell ⟨rb,5,none⟩ (.slice (some ⟨g',0,none⟩) (v.inp.length + 1) c')):=by
 have h1:=h.more hW
 have hu:=Upd.setCell W2 ⟨rb,5,none⟩ (.slice (some ⟨g',0,none⟩) (v.inp.length + 1) c')
 have hob:=h1.ob.mod hm (h1.inp.ne h1.ob (by decide))
 have hb2 : Below w.heap.size w W2:=h1.bel.trans (hm.below (fun k hk=>(h1.inp.ge k hk).1) h1.bel.size)
 have hl : (v.inp ++ [x]).length = v.inp.length + 1:=by simp
 refine ⟨hb2.trans (hu.below h.new hb2.size),h.new,?_,h.ln,(h1.im.mod hm (h1.im.apart h1.inp (by decide))).upd hu ((h1.im.mod hm (h1.im.apart h1.inp (by decide))).ne hob (by decide)),fun y hy=>((h1.row y hy).mod hm ((h1.row y hy).apart h1.inp (by decide))).upd hu (((h1.row y hy).mod hm ((h1.row y hy).apart h1.inp (by decide))).ne hob (by decide)),(h1.se.mod hm (h1.se.apart h1.inp (by decide))).upd hu ((h1.se.mod hm (h1.se.apart h1.inp (by decide))).ne hob (by decide)),?_⟩
 ·have:=hob.set 5 (.slice (some ⟨g',0,none⟩) (v.inp.length + 1) c')
  rw [hl];exact this
 ·rw [hl,inC_snoc];exact ho.upd hu (ho.ne hob (by decide))
theorem SR.addIm (h : SR w rb La Lc L i last v e bad W) (hW : Below W.heap.size W W1) {x : Iv} (hx : Own W1 w.heap.size 70 1 x.a x.l.length x.cap (As.uC x.l)) {g' c' : Nat} (ho : Own W2 w.heap.size 69 1 (some ⟨g',0,none⟩) (v.im.length + 1) c' (imC v.im ++ [.slice x.a x.l.length x.cap])) (hm : Mod (blk v.ia) W1 W2) :
  SR w rb La Lc L i last { v with ia:=some ⟨g',0,none⟩,ic:=c',im:=v.im ++ [x] } e bad (W2.setCell ⟨rb,3,none⟩ (.slice (some ⟨g',0,none⟩) (v.im.length + 1) c')):=by
 have h1:=h.more hW
 have hu:=Upd.setCell W2 ⟨rb,3,none⟩ (.slice (some ⟨g',0,none⟩) (v.im.length + 1) c')
 have hob:=h1.ob.mod hm (h1.im.ne h1.ob (by decide))
 have hb2 : Below w.heap.size w W2:=h1.bel.trans (hm.below (fun k hk=>(h1.im.ge k hk).1) h1.bel.size)
 have hl : (v.im ++ [x]).length = v.im.length + 1:=by simp
 refine ⟨hb2.trans (hu.below h.new hb2.size),h.new,?_,h.ln,?_,fun y hy=>?_,(h1.se.mod hm (h1.se.apart h1.im (by decide))).upd hu ((h1.se.mod hm (h1.se.apart h1.im (by decide))).ne hob (by decide)),(h1.inp.mod hm (h1.inp.apart h1.im (by decide))).upd hu ((h1.inp.mod hm (h1.inp.apart h1.im (by decide))).ne hob (by decide))⟩
 ·have:=hob.set 3 (.slice (some ⟨g',0,none⟩) (v.im.length + 1) c')
  rw [hl];exact this
 ·rw [hl,imC_snoc];exact ho.upd hu (ho.ne hob (by decide))
 ·rcases List.mem_append.1 hy with hy | hy
  ·exact ((h1.row y hy).mod hm ((h1.row y hy).apart h1.im (by decide))).upd hu (((h1.row y hy).mod hm ((h1.row y hy).apart h1.im (by decide))).ne hob (by decide))
  ·rw [List.mem_singleton.1 hy]
   exact (hx.mod hm (hx.apart h1.im (by decide))).upd hu ((hx.mod hm (hx.apart h1.im (by decide))).ne hob (by decide))
end
theorem info_sec : (Tryz.prog.info? 72).map (fun i=>(i.zero,i.size,i.bytes)) = some (some (.agg #[.int .i64 0,.string ByteArray.empty]),2,24):=by kernel_rfl
def secS (i : Nat) (v : Sv) (ws : List (List UInt8)) : (Int × Int) ⊕ (Nat × Int × Sc):=match secV ws with
 | none=>.inl (6,(i : Int) + 1)
 | some x=>.inr (i + 1,1,{ scOf v with se:=(scOf v).se ++ [x] })
theorem sector_any {w W : World} {rb : Nat} {La : Option Addr} {Lc : Nat} {L : List (List UInt8)} {i : Nat} {last : Int} {v : Sv} (h : SR w rb La Lc L i last v 0 0 W) (hi : i ≤ 1000000) (hvl : v.se.length ≤ 1000000)
  (ws : List (List UInt8)) (hsm : ∀ x ∈ ws,x.length ≤ 100000) (a : Option Addr) (cap : Nat) (hr : RdW W a cap ws) :
  Calls Tryz.prog 96 #[.pointer (some ⟨rb,0,none⟩),.slice a ws.length cap] W (StP w rb La Lc L last (secS i v ws)):=by
 obtain ⟨i0,hi0,hz0,hz1,hz2⟩:=info_parts info_sec
 have H:=Lib.hid h
 have hle:=hr.le
 have hmx:=hr.mx
 unfold maxLen at hmx
 have w1 : IntKind.i64.wrap ((i : Int) + 1) = (i : Int) + 1:=by rw [IntKind.wrap_i64];omega
 have HN0 : Hid (secV ws = none → ∀ w',(∃ i' v',SR w rb La Lc L i' last v' 6 ((i : Int) + 1) w') → StP w rb La Lc L last (secS i v ws) (.returned (.bool false)) w'):=fun hn w' hs=>by unfold secS;rw [hn];exact ⟨rfl,hs⟩
 have HY0 : Hid (∀ x,secV ws = some x → ∀ w' v',scOf v' = { scOf v with se:=(scOf v).se ++ [x] } → SR w rb La Lc L i last v' 0 0 w' → StP w rb La Lc L last (secS i v ws) (.returned (.bool true)) w'):=fun x hx w' v' h1 h2=>by unfold secS;rw [hx];exact ⟨rfl,v',i,rfl,h1,h2⟩
 obtain ⟨R,hR⟩ : ∃ R,R = StP w rb La Lc L last (secS i v ws):=⟨_,rfl⟩
 rw [← hR] at HN0 HY0 ⊢
 clear hR
 by_cases hl : ws.length = 3
 ·match ws,hl,hsm,hr with
  | [q0,q1,q2],hl,hsm,hr=>
   obtain ⟨g,o,rfl,hg,hc⟩:=hr.at_ 0 (by simp)
   have c1 : W.cell? ⟨g,o + 1,none⟩ = some (.string (ba q1)):=hc 1 (by simp)
   have c2 : W.cell? ⟨g,o + 2,none⟩ = some (.string (ba q2)):=hc 2 (by simp)
   have s1:=hsm q1 (by simp)
   have s2:=hsm q2 (by simp)
   have HNU:=fun W=>Lib.hid (number_any (ba q1) (by rw [ba_size];unfold maxLen;omega) W)
   rw [ba_data] at HNU
   have HUN:=fun W=>Lib.hid (unhex_any (ba q2) (by rw [ba_size];omega) W)
   rw [ba_data] at HUN
   obtain ⟨nb,hnb⟩ : ∃ b,Hid (b = numB q1):=⟨_,Lib.hid rfl⟩
   obtain ⟨nv,hnv⟩ : ∃ b,Hid (b = numI q1):=⟨_,Lib.hid rfl⟩
   obtain ⟨ub,hub⟩ : ∃ b,Hid (b = unB q2):=⟨_,Lib.hid rfl⟩
   obtain ⟨uv,huv⟩ : ∃ b,Hid (b = unV q2):=⟨_,Lib.hid rfl⟩
   have HUS : Hid (∀ W e w',UnPost q2 W e w' → e = .returned (.tuple #[.string (ba uv),.bool ub]) ∧ Below W.heap.size W w'):=fun W e w' h=>by rw [hub.out,huv.out];exact h
   rw [← hnb.out,← hnv.out] at HNU
   have HSV : Hid (secV [q0,q1,q2] = if nb && ub then some ((nv : Int),uv) else none):=by
    rw [Hid,hnb.out,hub.out,hnv.out,huv.out,secV]
    cases h1 : numB q1 <;> cases h2 : unB q2 <;> simp [h1,h2]
   have hlc : 3 ≤ cap:=by simp at hle;omega
   have HCB : Hid (∀ W',Below W.heap.size W W' → W'.cell? ⟨g,o + 2,none⟩ = some (.string (ba q2))):=fun W' hb=>by rw [hb.cell (p:=⟨g,o + 2,none⟩) hg];exact c2
   clear hl hsm hr hc h c2
   go_enter Tryz.func96,Tryz.ntmps96
   go_wp2_with fail
   refine ((HNU _).out).mono ?_;rintro e w1' ⟨rfl,hb1⟩
   have H1:=Lib.hid (H.out.more hb1)
   have c2:=HCB.out _ hb1
   clear hb1
   go_wp2_with fail
   refine ((HUN _).out).mono ?_;intro e w2' hp
   obtain ⟨rfl,hb2⟩:=HUS.out _ _ _ hp
   have H2:=Lib.hid (H1.out.more hb2)
   clear hp hb2 c2
   (have r0:=(H2.out).ob.cell 0 _ rfl;have r1:=(H2.out).ob.cell 1 _ rfl;have r2:=(H2.out).ob.cell 2 _ rfl;have r3:=(H2.out).ob.cell 3 _ rfl;have r4:=(H2.out).ob.cell 4 _ rfl;have r5:=(H2.out).ob.cell 5 _ rfl;have r6:=(H2.out).ob.cell 6 _ rfl;have r7:=(H2.out).ob.cell 7 _ rfl;have f1:=(H2.out).ob.free 1;have f2:=(H2.out).ob.free 2;have f3:=(H2.out).ob.free 3;have f4:=(H2.out).ob.free 4;have f5:=(H2.out).ob.free 5;have f6:=(H2.out).ob.free 6;have f7:=(H2.out).ob.free 7)
   cases nb
   ·have HNO:=Lib.hid (HN0.out (by rw [HSV.out];rfl))
    (go_wp2_with (go_at_call 139;refine (fail_any (H2).out 6 ((i : Int) + 1)).mono ?_;rintro e W2 ⟨rfl,h2⟩);exact HNO.out _ ⟨i,v,h2⟩)
   ·cases ub
    ·have HNO:=Lib.hid (HN0.out (by rw [HSV.out];rfl))
     (go_wp2_with (go_at_call 139;refine (fail_any (H2).out 6 ((i : Int) + 1)).mono ?_;rintro e W2 ⟨rfl,h2⟩);exact HNO.out _ ⟨i,v,h2⟩)
    ·have HYY:=Lib.hid (HY0.out ((nv : Int),uv) (by rw [HSV.out];rfl))
     have hsz:=H2.out.bel.size
     have hrb:=H2.out.ob.lt
     go_wp2_with (at_builtin;(refine wpList_own rfl (.tmp 51) (.tmp 55) 31 rfl w.heap.size 72 i0 _ 2 24 Tryz.underlying31 hi0 hz0 hz1 hz2 rfl (by omega) v.sa v.se.length v.sc (seC v.se) rfl (H2.out.se.below ((Below.refl _ _).alloc (Nat.le_refl _) _)) w2'.heap.size [.int .i64 (nv : Int),.string (ba uv)] rfl (new_block _ _ _ rfl) rfl (by simp [Value.oneCell']) (by simp only [maxLen];omega) (by omega) (by simp;omega) ?_);intro g' c' w4 hown1 hmod1 _;have HO:=Lib.hid hown1;have HM:=Lib.hid hmod1;have HS4 : Hid (ObjAt w4 rb 64 [.slice La L.length Lc,.int .i64 i,.int .i64 last,.slice v.ia v.im.length v.ic,.slice v.sa v.se.length v.sc,.slice v.na v.inp.length v.nc,.int .i64 0,.int .i64 0]):=((H2.out.more ((Below.refl _ _).alloc (Nat.le_refl _) _)).ob.mod hmod1 (H2.out.se.ne H2.out.ob (by decide)));have ff4:=HS4.out.free 4;have dd4:=HS4.out.cell 4 _ rfl;clear hown1 hmod1;clear r0 r1 r2 r3 r4 r5 r6 r7 f1 f2 f3 f4 f5 f6 f7)
     exact HYY.out _ _ (by simp [scOf]) (H2.out.addSe (x:=((nv : Int),uv)) ((Below.refl _ _).alloc (Nat.le_refl _) _) HO.out HM.out)
 ·have e3 : ((ws.length : Int) != 3) = true:=by rw [bne_iff_ne];omega
  have HNO:=Lib.hid (HN0.out (by unfold secV;rw [if_neg (fun h=>hl h.1)]))
  (have r0:=(h).ob.cell 0 _ rfl;have r1:=(h).ob.cell 1 _ rfl;have r2:=(h).ob.cell 2 _ rfl;have r3:=(h).ob.cell 3 _ rfl;have r4:=(h).ob.cell 4 _ rfl;have r5:=(h).ob.cell 5 _ rfl;have r6:=(h).ob.cell 6 _ rfl;have r7:=(h).ob.cell 7 _ rfl;have f1:=(h).ob.free 1;have f2:=(h).ob.free 2;have f3:=(h).ob.free 3;have f4:=(h).ob.free 4;have f5:=(h).ob.free 5;have f6:=(h).ob.free 6;have f7:=(h).ob.free 7)
  clear hl hr h
  go_enter Tryz.func96,Tryz.ntmps96
  (go_wp2_with (go_at_call 139;refine (fail_any (H).out 6 ((i : Int) + 1)).mono ?_;rintro e W2 ⟨rfl,h2⟩);exact HNO.out _ ⟨i,v,h2⟩)
end Go.Proofs.YtoklonmiejdgmaaGreatDoor
/- Package script: an input's line. -/
namespace Go.Proofs.YtoklonmiejdgmaaGreatDoor
set_option linter.unusedVariables false
set_option linter.unusedSimpArgs false
set_option linter.unnecessarySimpa false
open Go.RowKit Go.Sort
set_option maxHeartbeats 4000000
set_option maxRecDepth 100000
set_option linter.unusedVariables false
theorem info_inp : (Tryz.prog.info? 74).map (fun i=>(i.zero,i.size,i.bytes)) = some (some (.agg #[.int .i64 0,.int .i64 0,.int .i64 0,.int .i64 0,.string ByteArray.empty]),5,48):=by kernel_rfl
def inpS (i : Nat) (v : Sv) (ws : List (List UInt8)) : (Int × Int) ⊕ (Nat × Int × Sc):=match inpV ws with
 | none=>.inl (6,(i : Int) + 1)
 | some x=>.inr (i + 1,2,{ scOf v with inp:=(scOf v).inp ++ [x] })
theorem input_any {w W : World} {rb : Nat} {La : Option Addr} {Lc : Nat} {L : List (List UInt8)} {i : Nat} {last : Int} {v : Sv} (h : SR w rb La Lc L i last v 0 0 W) (hi : i ≤ 1000000) (hvl : v.inp.length ≤ 1000000)
  (ws : List (List UInt8)) (hsm : ∀ x ∈ ws,x.length ≤ 100000) (hwl : ws.length ≤ 1000000) (a : Option Addr) (cap : Nat) (hr : RdW W a cap ws) :
  Calls Tryz.prog 97 #[.pointer (some ⟨rb,0,none⟩),.slice a ws.length cap] W (StP w rb La Lc L last (inpS i v ws)):=by
 obtain ⟨i0,hi0,hz0,hz1,hz2⟩:=info_parts info_inp
 have H:=Lib.hid h
 have hle:=hr.le
 have hmx:=hr.mx
 unfold maxLen at hmx
 have w1 : IntKind.i64.wrap ((i : Int) + 1) = (i : Int) + 1:=by rw [IntKind.wrap_i64];omega
 have HN0 : Hid (inpV ws = none → ∀ w',(∃ i' v',SR w rb La Lc L i' last v' 6 ((i : Int) + 1) w') → StP w rb La Lc L last (inpS i v ws) (.returned (.bool false)) w'):=fun hn w' hs=>by unfold inpS;rw [hn];exact ⟨rfl,hs⟩
 have HY0 : Hid (∀ x,inpV ws = some x → ∀ w' v',scOf v' = { scOf v with inp:=(scOf v).inp ++ [x] } → SR w rb La Lc L i last v' 0 0 w' → StP w rb La Lc L last (inpS i v ws) (.returned (.bool true)) w'):=fun x hx w' v' h1 h2=>by unfold inpS;rw [hx];exact ⟨rfl,v',i,rfl,h1,h2⟩
 obtain ⟨R,hR⟩ : ∃ R,R = StP w rb La Lc L last (inpS i v ws):=⟨_,rfl⟩
 rw [← hR] at HN0 HY0 ⊢
 clear hR
 by_cases hl : ws.length < 4
 ·have e3 : decide ((ws.length : Int) < 4) = true:=decide_eq_true (by omega)
  have e3' : decide (ws.length < 4) = true:=decide_eq_true hl
  have HNO:=Lib.hid (HN0.out (by unfold inpV;rw [if_neg (fun h=>by omega)]))
  (have r0:=(h).ob.cell 0 _ rfl;have r1:=(h).ob.cell 1 _ rfl;have r2:=(h).ob.cell 2 _ rfl;have r3:=(h).ob.cell 3 _ rfl;have r4:=(h).ob.cell 4 _ rfl;have r5:=(h).ob.cell 5 _ rfl;have r6:=(h).ob.cell 6 _ rfl;have r7:=(h).ob.cell 7 _ rfl;have f1:=(h).ob.free 1;have f2:=(h).ob.free 2;have f3:=(h).ob.free 3;have f4:=(h).ob.free 4;have f5:=(h).ob.free 5;have f6:=(h).ob.free 6;have f7:=(h).ob.free 7)
  clear hl hr h
  go_enter Tryz.func97,Tryz.ntmps97
  go_wp2_with (go_at_call 139;refine (fail_any H.out 6 ((i : Int) + 1)).mono ?_;rintro e W2 ⟨rfl,h2⟩)
  exact HNO.out _ ⟨i,v,h2⟩
 ·obtain ⟨q0,q1,q2,r,hws⟩ : ∃ q0 q1 q2 r,ws = q0 :: q1 :: q2 :: r:=by
   match ws,hl with
   | q0 :: q1 :: q2 :: r,_=>exact ⟨q0,q1,q2,r,rfl⟩
   | [],hl=>simp at hl
   | [_],hl=>simp at hl
   | [_,_],hl=>simp at hl
  obtain ⟨g,o,rfl,hg,hc⟩:=hr.at_ 0 (by omega)
  have c1 : W.cell? ⟨g,o + 1,none⟩ = some (.string (ba q1)):=by have:=hc 1 (by omega);simp only [hws] at this;exact this
  have c2 : W.cell? ⟨g,o + 2,none⟩ = some (.string (ba q2)):=by have:=hc 2 (by omega);simp only [hws] at this;exact this
  have s1:=hsm q1 (by rw [hws];simp)
  have s2:=hsm q2 (by rw [hws];simp)
  have hrl : ws.length = r.length + 3:=by rw [hws];simp
  obtain ⟨n,hn⟩ : ∃ n,n = ws.length:=⟨_,rfl⟩
  have HNU:=fun W=>Lib.hid (number_any (ba q1) (by rw [ba_size];unfold maxLen;omega) W)
  have HNU2:=fun W=>Lib.hid (number_any (ba q2) (by rw [ba_size];unfold maxLen;omega) W)
  rw [ba_data] at HNU HNU2
  obtain ⟨nb,hnb⟩ : ∃ b,Hid (b = numB q1):=⟨_,Lib.hid rfl⟩
  obtain ⟨nv,hnv⟩ : ∃ b,Hid (b = numI q1):=⟨_,Lib.hid rfl⟩
  obtain ⟨mb,hmb⟩ : ∃ b,Hid (b = numB q2):=⟨_,Lib.hid rfl⟩
  obtain ⟨mv,hmv⟩ : ∃ b,Hid (b = numI q2):=⟨_,Lib.hid rfl⟩
  rw [← hnb.out,← hnv.out] at HNU
  rw [← hmb.out,← hmv.out] at HNU2
  have HIV : Hid (inpV ws = if nb && mb then (whatV r).map fun x=>((nv : Int),(mv : Int),x.1,x.2.1,x.2.2) else none):=by
   rw [Hid,hnb.out,hmb.out,hnv.out,hmv.out,inpV,hws]
   have h4 : 4 ≤ (q0 :: q1 :: q2 :: r).length:=by simp only [List.length_cons];omega
   cases h1 : numB q1
   ·rw [if_neg (fun h=>by have:=h.2.1;simp [h1] at this)];rfl
   ·cases h2 : numB q2
    ·rw [if_neg (fun h=>by have:=h.2.2;simp [h2] at this)];rfl
    ·rw [if_pos ⟨h4,h1,h2⟩];rfl
  have HWH : Hid (∀ W' xb,Below W.heap.size W W' → ObjAt W' xb 74 [.int .i64 (nv : Int),.int .i64 (mv : Int),.int .i64 0,.int .i64 0,.string ⟨#[]⟩] → Calls Tryz.prog 143 #[.pointer (some ⟨xb,0,none⟩),.slice (some ⟨g,o + 3,none⟩) (n - 3) (cap - 3)] W' (WhPost (nv : Int) (mv : Int) r xb W')):=fun W' xb hb ho=>by
   have hnr : n - 3 = r.length:=by omega
   rw [hnr]
   have hcell : ∀ j (hj : j < r.length),W'.cell? ⟨g,o + 3 + j,none⟩ = some (.string (ba r[j])):=fun j hj=>by
    rw [hb.cell (p:=⟨g,o + 3 + j,none⟩) hg]
    have:=hc (j + 3) (by omega)
    simp only [hws] at this
    rw [show o + 3 + j = o + (j + 3) by omega];exact this
   have hrs : ∀ x ∈ r,x.length ≤ 100000:=fun x hx=>hsm x (by rw [hws];simp [hx])
   have hrl4 : 1 ≤ r.length:=by omega
   match r,hcell,hrs,hrl4 with
   | [q],hcell,_,_=>exact what_1 _ _ q xb g (o + 3) (cap - 3) W' ho (by simp at hrl;omega) (hcell 0 (by simp))
   | [q,y],hcell,hrs,_=>exact what_2 _ _ q y (hrs y (by simp)) xb g (o + 3) (cap - 3) W' ho (by simp at hrl;omega) (hcell 0 (by simp)) (hcell 1 (by simp))
   | q :: y :: z :: t,_,_,_=>exact what_3 _ _ _ (by simp) (by omega) xb g (o + 3) (cap - 3) W'
  have e3 : decide ((n : Int) < 4) = false:=decide_eq_false (by omega)
  have e3' : decide (n < 4) = false:=decide_eq_false (by omega)
  have n3 : (3 : Int) ≤ (n : Int):=by omega
  have n3' : 3 ≤ n:=by omega
  have nc : n ≤ cap:=by omega
  have hc3 : ¬ cap = 3:=by omega
  have k1 : 1 < n:=by omega
  have k2 : 2 < n:=by omega
  have HCB : Hid (∀ W',Below W.heap.size W W' → W'.cell? ⟨g,o + 2,none⟩ = some (.string (ba q2))):=fun W' hb=>by rw [hb.cell (p:=⟨g,o + 2,none⟩) hg];exact c2
  rw [← hn]
  clear hl hsm hr hc h c2 hle hwl hws hrl hn
  go_enter Tryz.func97,Tryz.ntmps97
  go_wp2_with fail
  refine ((HNU _).out).mono ?_;rintro e w1' ⟨rfl,hb1⟩
  have H1:=Lib.hid (H.out.more hb1)
  have HB1:=Lib.hid hb1
  have c2:=HCB.out _ hb1
  clear hb1
  go_wp2_with fail
  refine ((HNU2 _).out).mono ?_;rintro e w2' ⟨rfl,hb2⟩
  have H2:=Lib.hid (H1.out.more hb2)
  have HB2:=Lib.hid (bmore HB1.out hb2)
  clear hb2 c2 c1
  go_upto_region 6 with fail
  have HXO : Hid (ObjAt (w2'.alloc (.cells #[.int .i64 (nv : Int),.int .i64 (mv : Int),.int .i64 0,.int .i64 0,.string ⟨#[]⟩] 74)) w2'.heap.size 74 [.int .i64 (nv : Int),.int .i64 (mv : Int),.int .i64 0,.int .i64 0,.string ⟨#[]⟩]):=ObjAt.new w2' _ _
  have HBX : Hid (Below w2'.heap.size w2' (w2'.alloc (.cells #[.int .i64 (nv : Int),.int .i64 (mv : Int),.int .i64 0,.int .i64 0,.string ⟨#[]⟩] 74))):=((Below.refl _ _).alloc (Nat.le_refl _) _)
  generalize w2'.alloc (.cells #[.int .i64 (nv : Int),.int .i64 (mv : Int),.int .i64 0,.int .i64 0,.string ⟨#[]⟩] 74) = w3' at HXO HBX ⊢
  obtain ⟨xb,hxb⟩ : ∃ xb,xb = w2'.heap.size:=⟨_,rfl⟩
  rw [← hxb] at HXO ⊢
  have HXB:=Lib.hid hxb
  clear hxb
  have H3:=Lib.hid (H2.out.more HBX.out)
  have HB3:=Lib.hid (bmore HB2.out HBX.out)
  (have r0:=(H3.out).ob.cell 0 _ rfl;have r1:=(H3.out).ob.cell 1 _ rfl;have r2:=(H3.out).ob.cell 2 _ rfl;have r3:=(H3.out).ob.cell 3 _ rfl;have r4:=(H3.out).ob.cell 4 _ rfl;have r5:=(H3.out).ob.cell 5 _ rfl;have r6:=(H3.out).ob.cell 6 _ rfl;have r7:=(H3.out).ob.cell 7 _ rfl;have f1:=(H3.out).ob.free 1;have f2:=(H3.out).ob.free 2;have f3:=(H3.out).ob.free 3;have f4:=(H3.out).ob.free 4;have f5:=(H3.out).ob.free 5;have f6:=(H3.out).ob.free 6;have f7:=(H3.out).ob.free 7)
  cases nb
  ·have HNO:=Lib.hid (HN0.out (by rw [HIV.out];rfl))
   go_wp2_with (go_at_call 139;refine (fail_any H3.out 6 ((i : Int) + 1)).mono ?_;rintro e W2 ⟨rfl,h2⟩)
   exact HNO.out _ ⟨i,v,h2⟩
  ·cases mb
   ·have HNO:=Lib.hid (HN0.out (by rw [HIV.out];rfl))
    go_wp2_with (go_at_call 139;refine (fail_any H3.out 6 ((i : Int) + 1)).mono ?_;rintro e W2 ⟨rfl,h2⟩)
    exact HNO.out _ ⟨i,v,h2⟩
   ·clear r0 r1 r2 r3 r4 r5 r6 r7 f1 f2 f3 f4 f5 f6 f7
    go_wp2_with fail
    refine (HWH.out _ xb HB3.out HXO.out).mono ?_;intro e w4' hp
    obtain ⟨hu,hp⟩:=hp
    have H4:=Lib.hid (H2.out.more (HBX.out.trans (hu.below (by have:=HXB.out;omega) HBX.out.size)))
    clear hu
    (have r0:=(H4.out).ob.cell 0 _ rfl;have r1:=(H4.out).ob.cell 1 _ rfl;have r2:=(H4.out).ob.cell 2 _ rfl;have r3:=(H4.out).ob.cell 3 _ rfl;have r4:=(H4.out).ob.cell 4 _ rfl;have r5:=(H4.out).ob.cell 5 _ rfl;have r6:=(H4.out).ob.cell 6 _ rfl;have r7:=(H4.out).ob.cell 7 _ rfl;have f1:=(H4.out).ob.free 1;have f2:=(H4.out).ob.free 2;have f3:=(H4.out).ob.free 3;have f4:=(H4.out).ob.free 4;have f5:=(H4.out).ob.free 5;have f6:=(H4.out).ob.free 6;have f7:=(H4.out).ob.free 7)
    cases hv : whatV r with
    | none=>
     rw [hv] at hp
     obtain rfl:=hp
     have HNO:=Lib.hid (HN0.out (by rw [HIV.out,hv];rfl))
     clear hv
     go_wp2_with (go_at_call 139;refine (fail_any H4.out 6 ((i : Int) + 1)).mono ?_;rintro e W2 ⟨rfl,h2⟩)
     exact HNO.out _ ⟨i,v,h2⟩
    | some x=>
     rw [hv] at hp
     obtain ⟨rfl,hox⟩:=hp
     obtain ⟨xk,xc,xd⟩:=x
     have HYY:=Lib.hid (HY0.out ((nv : Int),(mv : Int),xk,xc,xd) (by rw [HIV.out,hv];rfl))
     have x0:=hox.cell 0 _ rfl
     have x1:=hox.cell 1 _ rfl
     have x2:=hox.cell 2 _ rfl
     have x3:=hox.cell 3 _ rfl
     have x4:=hox.cell 4 _ rfl
     have hsz:=H4.out.bel.size
     have hrb:=H4.out.ob.lt
     have hxl:=hox.lt
     clear hv hox
     go_upto_region 8 with fail
     go_region_law (refine step_own rfl (.tmp 61) (.tmp 63) 32 rfl w.heap.size 74 i0 _ 5 48 Tryz.underlying32 hi0 hz0 hz1 hz2 rfl (by omega) v.na v.inp.length v.nc (inC v.inp) rfl (H4.out.inp.below ((Below.refl _ _).drew.alloc (Nat.le_refl _) _)) w4'.heap.size (inR ((nv : Int),(mv : Int),xk,xc,xd)) rfl (new_block _ _ _ rfl) rfl (by simp [inR,Value.oneCell']) (by simp only [maxLen];omega) (by omega) (by simp;omega) ?_;intro g' cap' W4 hown hmod hat;have h4:=(H4.out.ob.below ((Below.refl _ _).drew.alloc (Nat.le_refl _) _)).mod hmod (H4.out.inp.ne H4.out.ob (by decide));have d0:=h4.cell 5 _ rfl;have e0:=h4.free 5)
     all_goals
      go_wp2_with fail
      exact HYY.out _ _ (by simp [scOf]) (H4.out.addIn (x:=((nv : Int),(mv : Int),xk,xc,xd)) ((Below.refl _ _).drew.alloc (Nat.le_refl _) _) hown hmod)
end Go.Proofs.YtoklonmiejdgmaaGreatDoor
/- Package script: an image. -/
namespace Go.Proofs.YtoklonmiejdgmaaGreatDoor
set_option linter.unusedVariables false
set_option linter.unusedSimpArgs false
set_option linter.unnecessarySimpa false
open Go.RowKit Go.Sort
set_option maxHeartbeats 4000000
set_option maxRecDepth 100000
set_option linter.unusedVariables false
theorem joinT_app (A B : List (List UInt8)) : joinT (A ++ B) = joinT A ++ joinT B:=by simp [joinT]
theorem joinT_take (L : List (List UInt8)) (k : Nat) : (joinT (L.take k)).length ≤ (joinT L).length:=by
 have:=congrArg List.length (joinT_app (L.take k) (L.drop k))
 rw [List.take_append_drop,List.length_append] at this;omega
theorem joinT_drop (L : List (List UInt8)) (k : Nat) : (joinT (L.drop k)).length ≤ (joinT L).length:=by
 have:=congrArg List.length (joinT_app (L.take k) (L.drop k))
 rw [List.take_append_drop,List.length_append] at this;omega
theorem info_sl : (Tryz.prog.info? 69).map (fun i=>(i.zero,i.size,i.bytes)) = some (some (.slice none 0 0),1,24):=by kernel_rfl
def imgR (i : Nat) (v : Sv) (L : List (List UInt8)) : (Int × Int) ⊕ (Nat × Int × Sc):=imgS L i (scOf v)
theorem rd_cut {W : World} {g o cap : Nat} {L : List (List UInt8)} (h : RdW W (some ⟨g,o,none⟩) cap L) (x y : Nat) (hxy : x ≤ y) (hy : y ≤ L.length) : RdW W (some ⟨g,o + x,none⟩) (cap - x) ((L.take y).drop x):=by
 have hlen : ((L.take y).drop x).length = y - x:=by rw [List.length_drop,List.length_take];omega
 refine ⟨⟨by rw [strC_len,Nat.mul_one],(fun h=>by cases h),fun p hp hne=>?_⟩,by rw [hlen];have:=h.le;omega,by have:=h.mx;omega⟩
 injection hp with hp
 subst hp
 have hpos : 0 < L.length:=by
  rcases Nat.eq_zero_or_pos L.length with h0 | h0
  ·exfalso;apply hne;rw [List.eq_nil_of_length_eq_zero h0];simp [strC]
  ·exact h0
 obtain ⟨g',o',he,hg,hc⟩:=h.at_ 0 hpos
 injection he with he
 injection he with e1 e2
 subst e1;subst e2
 refine ⟨g,o + x,rfl,hg,fun j u hu=>?_⟩
 have hj : j < y - x:=by have:=(List.getElem?_eq_some_iff.1 hu).1;rw [strC_len,hlen] at this;exact this
 rw [strC_get _ j (by rw [hlen];exact hj),List.getElem_drop,List.getElem_take] at hu
 rw [← hu,show o + x + j = o + (x + j) by omega]
 exact hc (x + j) (by omega)
theorem image_any {w W : World} {rb : Nat} {La : Option Addr} {Lc : Nat} {L : List (List UInt8)} {i : Nat} {last : Int} {v : Sv} (h : SR w rb La Lc L i last v 0 0 W) (hi : i < L.length) (hll : L.length ≤ 1000000) (hjl : (joinT L).length ≤ 1000000) (hvl : v.im.length ≤ 1000000) (hT : Isa.Tab w)
  (ws : List (List UInt8)) (hws : ws = fieldsC 32 (L.getD i [])) (a : Option Addr) (cap : Nat) (hmx : ws.length ≤ 1000000) :
  Calls Tryz.prog 95 #[.pointer (some ⟨rb,0,none⟩),.slice a ws.length cap] W (StP w rb La Lc L last (imgR i v L)):=by
 obtain ⟨i0,hi0,hz0,hz1,hz2⟩:=info_parts info_sl
 have H:=Lib.hid h
 have w1 : IntKind.i64.wrap ((i : Int) + 1) = (i : Int) + 1:=by rw [IntKind.wrap_i64];omega
 have HE:=Lib.hid (send_any h hi hll)
 have HN0 : Hid (∀ p,imgR i v L = .inl p → ∀ w',(∃ i' v',SR w rb La Lc L i' last v' p.1 p.2 w') → StP w rb La Lc L last (imgR i v L) (.returned (.bool false)) w'):=fun p hn w' hs=>by rw [hn];exact ⟨rfl,hs⟩
 have HY0 : Hid (∀ p,imgR i v L = .inr p → ∀ w' v' j,j + 1 = p.1 → scOf v' = p.2.2 → SR w rb La Lc L j last v' 0 0 w' → StP w rb La Lc L last (imgR i v L) (.returned (.bool true)) w'):=fun p hx w' v' j h1 h2 h3=>by rw [hx];exact ⟨rfl,v',j,h1,h2,h3⟩
 obtain ⟨R,hR⟩ : ∃ R,R = StP w rb La Lc L last (imgR i v L):=⟨_,rfl⟩
 rw [← hR] at HN0 HY0 ⊢
 clear hR
 cases he : endS L (i + 1) with
 | none=>
  have HNO:=Lib.hid (HN0.out (6,(i : Int) + 1) (by unfold imgR imgS;rw [he]))
  have HER : Hid (EndR L (i + 1) = .tuple #[.int .i64 0,.bool false]):=by rw [Hid,EndR,he]
  rw [HER.out] at HE
  (have r0:=(h).ob.cell 0 _ rfl;have r1:=(h).ob.cell 1 _ rfl;have r2:=(h).ob.cell 2 _ rfl;have r3:=(h).ob.cell 3 _ rfl;have r4:=(h).ob.cell 4 _ rfl;have r5:=(h).ob.cell 5 _ rfl;have r6:=(h).ob.cell 6 _ rfl;have r7:=(h).ob.cell 7 _ rfl;have f1:=(h).ob.free 1;have f2:=(h).ob.free 2;have f3:=(h).ob.free 3;have f4:=(h).ob.free 4;have f5:=(h).ob.free 5;have f6:=(h).ob.free 6;have f7:=(h).ob.free 7)
  clear he h hT
  go_enter Tryz.func95,Tryz.ntmps95
  go_wp2_with (first | (go_at_call 140;refine HE.out.mono ?_;rintro e Wx ⟨rfl,rfl⟩) | (go_at_call 139;refine (fail_any H.out 6 ((i : Int) + 1)).mono ?_;rintro e W2 ⟨rfl,h2⟩))
  exact HNO.out _ ⟨i,v,h2⟩
 | some e_=>
  have HER : Hid (EndR L (i + 1) = .tuple #[.int .i64 e_,.bool true]):=by rw [Hid,EndR,he]
  rw [HER.out] at HE
  obtain ⟨x1,x2,x3⟩:=endS_some he
  by_cases hw1 : ws.length = 1
  ·have n1 : ((ws.length : Int) != 1) = false:=by simp [hw1]
   obtain ⟨g,o,rfl,hg,hc⟩:=h.ln.at_ 0 (by omega)
   have hle:=h.ln.le
   have hmx2:=h.ln.mx
   unfold maxLen at hmx2
   obtain ⟨tx,htx⟩ : ∃ tx,tx = joinT ((L.take e_).drop (i + 1)):=⟨_,rfl⟩
   have htl : tx.length ≤ 1000000:=by
    rw [htx]
    have h1:=joinT_drop (L.take e_) (i + 1)
    have h2:=joinT_take L e_
    omega
   have hcl : ((L.take e_).drop (i + 1)).length = e_ - (i + 1):=by rw [List.length_drop,List.length_take];omega
   have HTX : Hid (∀ W',Below W.heap.size W W' → Calls Tryz.prog 24 #[.slice (some ⟨g,o + (i + 1),none⟩) (e_ - (i + 1)) (Lc - (i + 1))] W' fun e w'=>e = .returned (.string (ba tx)) ∧ Below W'.heap.size W' w'):=fun W' hb=>by
    have:=text_any (some ⟨g,o + (i + 1),none⟩) (Lc - (i + 1)) ((L.take e_).drop (i + 1)) W' ((rd_cut h.ln (i + 1) e_ x2 (by omega)).below (bmore h.bel hb)) (by rw [← htx];exact htl) (by omega)
    rw [hcl,← htx] at this;exact this
   have HPG : Hid (∀ W',Below W.heap.size W W' → Calls Tryz.prog 141 #[.string (ba tx)] W' (As.PgPost tx W')):=fun W' hb=>by
    have:=As.program_any (ba tx) (by rw [ba_size];omega) W' (hT.below (bmore h.bel hb))
    rw [ba_data] at this;exact this
   obtain ⟨pe,hpe⟩ : ∃ x,Hid (x = As.pgE tx):=⟨_,Lib.hid rfl⟩
   obtain ⟨pa,hpa⟩ : ∃ x,Hid (x = As.pgAt tx):=⟨_,Lib.hid rfl⟩
   obtain ⟨pl,hpl⟩ : ∃ x,Hid (x = As.pgL tx):=⟨_,Lib.hid rfl⟩
   have HPS : Hid (∀ W' e w',As.PgPost tx W' e w' → ∃ a cap,e = .returned (.tuple #[.slice a pl.length cap,.int .i64 pe,.int .i64 pa]) ∧ Own w' W'.heap.size 70 1 a pl.length cap (As.uC pl) ∧ Below W'.heap.size W' w'):=fun W' e w' h=>by rw [hpe.out,hpa.out,hpl.out];exact h
   have HIM : Hid (imgR i v L = if pe ≠ 0 then (if pa = 0 then .inl (pe,0) else .inl (pe,(i : Int) + 1 + pa)) else .inr (e_ + 1,0,{ scOf v with im:=(scOf v).im ++ [pl] })):=by
    rw [Hid,imgR,imgS,he]
    simp only
    rw [if_neg (by rw [← hws,hw1];simp),← htx,← hpe.out,← hpa.out,← hpl.out]
   have hpa0 : 0 ≤ pa ∧ pa ≤ 100000000:=by
    rw [hpa.out]
    refine ⟨pgAt_nn tx,?_⟩
    unfold As.pgAt As.pgBad
    split
    ·omega
    ·split
     ·rename_i hk
      have:=List.mem_range.1 (List.mem_of_find?_eq_some hk)
      have h2 : (As.lnL tx).length ≤ tx.length + 1:=by
       unfold As.lnL
       have:=fieldsC_len 10 tx
       have:=List.count_le_length (a:=(10 : UInt8)) (l:=tx)
       split
       ·rw [List.length_dropLast];omega
       ·omega
      omega
     ·omega
   obtain ⟨pa1,pa2⟩:=hpa0
   have w2 : IntKind.i64.wrap ((i : Int) + 1 + pa) = (i : Int) + 1 + pa:=by rw [IntKind.wrap_i64];omega
   have hcn : ¬ Lc = i + 1:=by omega
   have k1 : (0 : Int) ≤ (i : Int) + 1:=by omega
   have k2 : (i : Int) + 1 ≤ (e_ : Int):=by omega
   have k3 : (e_ : Int) ≤ (Lc : Int):=by omega
   have k4 : ((i : Int) + 1).toNat = i + 1:=by omega
   have k5 : e_ ≤ Lc:=by omega
   have k6 : i + 1 ≤ e_:=x2
   have HLN:=Lib.hid h.ln
   clear hc htx hws hcl he x1 x2 x3 hT hw1
   have HD : Hid (SR w rb (some ⟨g,o,none⟩) Lc L i last v 0 0 W.drew):=h.more (Below.refl _ _).drew
   have HBD : Hid (Below W.heap.size W W.drew):=(Below.refl _ _).drew
   (have r0:=(h).ob.cell 0 _ rfl;have r1:=(h).ob.cell 1 _ rfl;have r2:=(h).ob.cell 2 _ rfl;have r3:=(h).ob.cell 3 _ rfl;have r4:=(h).ob.cell 4 _ rfl;have r5:=(h).ob.cell 5 _ rfl;have r6:=(h).ob.cell 6 _ rfl;have r7:=(h).ob.cell 7 _ rfl;have f1:=(h).ob.free 1;have f2:=(h).ob.free 2;have f3:=(h).ob.free 3;have f4:=(h).ob.free 4;have f5:=(h).ob.free 5;have f6:=(h).ob.free 6;have f7:=(h).ob.free 7)
   clear h
   go_enter Tryz.func95,Tryz.ntmps95
   go_upto_region 4 with (go_at_call 140;refine HE.out.mono ?_;rintro e Wx ⟨rfl,rfl⟩)
   (clear r0 r1 r2 r3 r4 r5 r6 r7 f1 f2 f3 f4 f5 f6 f7)
   go_region_held3 (fun W'=>W'.cell? ⟨rb,0,none⟩ = some (.slice (some ⟨g,o,none⟩) L.length Lc) ∧ W'.cell? ⟨rb,1,none⟩ = some (.int .i64 i)) (first | exact ⟨HD.out.ob.cell 0 _ rfl,HD.out.ob.cell 1 _ rfl⟩) (first | (go_at_call 24;refine (HTX.out _ HBD.out).mono ?_;rintro e W2 ⟨rfl,hb⟩;have HD:=Lib.hid (HD.out.more hb);have HBD:=Lib.hid (bmore HBD.out hb);clear hb) | (go_at_call 141;refine (HPG.out _ HBD.out).mono ?_;intro e W3 hp;obtain ⟨pA,pC,rfl,ho,hb⟩:=HPS.out _ _ _ hp;have HOW:=Lib.hid (ho.mono HD.out.bel.size);have HD:=Lib.hid (HD.out.more hb);clear hp ho hb))
   all_goals
    ((have r0:=(HD.out).ob.cell 0 _ rfl;have r1:=(HD.out).ob.cell 1 _ rfl;have r2:=(HD.out).ob.cell 2 _ rfl;have r3:=(HD.out).ob.cell 3 _ rfl;have r4:=(HD.out).ob.cell 4 _ rfl;have r5:=(HD.out).ob.cell 5 _ rfl;have r6:=(HD.out).ob.cell 6 _ rfl;have r7:=(HD.out).ob.cell 7 _ rfl;have f1:=(HD.out).ob.free 1;have f2:=(HD.out).ob.free 2;have f3:=(HD.out).ob.free 3;have f4:=(HD.out).ob.free 4;have f5:=(HD.out).ob.free 5;have f6:=(HD.out).ob.free 6;have f7:=(HD.out).ob.free 7))
    by_cases hz : pe = 0
    ·have z1 : (pe == 0) = true:=by simp [hz]
     have HYY:=Lib.hid (HY0.out (e_ + 1,0,{ scOf v with im:=(scOf v).im ++ [pl] }) (by rw [HIM.out,if_neg (by simp [hz])]))
     have hsz:=HD.out.bel.size
     have hrb:=HD.out.ob.lt
     clear hz
     go_wp2_with (at_builtin;(refine wpList_own rfl (.tmp 70) (.tmp 72) 30 rfl w.heap.size 69 i0 _ 1 24 Tryz.underlying30 hi0 hz0 hz1 hz2 rfl (by omega) v.ia v.im.length v.ic (imC v.im) rfl (HD.out.im.below ((Below.refl _ _).alloc (Nat.le_refl _) _)) W3.heap.size [.slice pA pl.length pC] rfl (new_block _ _ _ rfl) rfl (by simp [Value.oneCell']) (by simp only [maxLen];omega) (by omega) (by simp;omega) ?_);intro g' c' w4 hown1 hmod1 _;have HO:=Lib.hid hown1;have HM:=Lib.hid hmod1;have HS4 : Hid (ObjAt w4 rb 64 [.slice (some ⟨g,o,none⟩) L.length Lc,.int .i64 i,.int .i64 last,.slice v.ia v.im.length v.ic,.slice v.sa v.se.length v.sc,.slice v.na v.inp.length v.nc,.int .i64 0,.int .i64 0]):=((HD.out.more ((Below.refl _ _).alloc (Nat.le_refl _) _)).ob.mod hmod1 (HD.out.im.ne HD.out.ob (by decide)));have ff3:=HS4.out.free 3;have dd3:=HS4.out.cell 3 _ rfl;have ff1:=HS4.out.free 1;have dd1:=HS4.out.cell 1 _ rfl;clear hown1 hmod1;clear r0 r1 r2 r3 r4 r5 r6 r7 f1 f2 f3 f4 f5 f6 f7)
     exact HYY.out _ _ e_ rfl (by simp [scOf]) ((HD.out.addIm (x:=⟨pA,pC,pl⟩) ((Below.refl _ _).alloc (Nat.le_refl _) _) (HOW.out.below ((Below.refl _ _).alloc (Nat.le_refl _) _)) HO.out HM.out).setAt e_)
    ·have z1 : (pe == 0) = false:=by rw [beq_eq_false_iff_ne];exact hz
     by_cases ha : pa = 0
     ·have z2 : (pa == 0) = true:=by simp [ha]
      have HNO:=Lib.hid (HN0.out (pe,0) (by rw [HIM.out,if_pos hz,if_pos ha]))
      clear hz ha
      go_wp2_with (go_at_call 139;refine (fail_any HD.out pe 0).mono ?_;rintro e Wf ⟨rfl,h2⟩)
      exact HNO.out _ ⟨i,v,h2⟩
     ·have z2 : (pa == 0) = false:=by rw [beq_eq_false_iff_ne];exact ha
      have HNO:=Lib.hid (HN0.out (pe,(i : Int) + 1 + pa) (by rw [HIM.out,if_pos hz,if_neg ha]))
      clear hz ha
      go_wp2_with (go_at_call 139;refine (fail_any HD.out pe ((i : Int) + 1 + pa)).mono ?_;rintro e Wf ⟨rfl,h2⟩)
      exact HNO.out _ ⟨i,v,h2⟩
  ·have n1 : ((ws.length : Int) != 1) = true:=by rw [bne_iff_ne];omega
   have HNO:=Lib.hid (HN0.out (6,(i : Int) + 1) (by unfold imgR imgS;rw [he];simp only;rw [if_pos (by rw [← hws];exact hw1)]))
   (have r0:=(h).ob.cell 0 _ rfl;have r1:=(h).ob.cell 1 _ rfl;have r2:=(h).ob.cell 2 _ rfl;have r3:=(h).ob.cell 3 _ rfl;have r4:=(h).ob.cell 4 _ rfl;have r5:=(h).ob.cell 5 _ rfl;have r6:=(h).ob.cell 6 _ rfl;have r7:=(h).ob.cell 7 _ rfl;have f1:=(h).ob.free 1;have f2:=(h).ob.free 2;have f3:=(h).ob.free 3;have f4:=(h).ob.free 4;have f5:=(h).ob.free 5;have f6:=(h).ob.free 6;have f7:=(h).ob.free 7)
   clear he h hT x1 x2 x3 hw1 hws
   go_enter Tryz.func95,Tryz.ntmps95
   go_wp2_with (first | (go_at_call 140;refine HE.out.mono ?_;rintro e Wx ⟨rfl,rfl⟩) | (go_at_call 139;refine (fail_any H.out 6 ((i : Int) + 1)).mono ?_;rintro e W2 ⟨rfl,h2⟩))
   exact HNO.out _ ⟨i,v,h2⟩
end Go.Proofs.YtoklonmiejdgmaaGreatDoor
/- Package script: all lines behind the configuration's. -/
namespace Go.Proofs.YtoklonmiejdgmaaGreatDoor
set_option linter.unusedVariables false
set_option linter.unusedSimpArgs false
set_option linter.unnecessarySimpa false
open Go.RowKit Go.Sort
set_option maxHeartbeats 4000000
set_option maxRecDepth 100000
set_option linter.unusedVariables false
theorem how_wrong {w W : World} {rb : Nat} {La : Option Addr} {Lc : Nat} {L : List (List UInt8)} {i : Nat} {last : Int} {v : Sv} {e0 bad : Int} (h : SR w rb La Lc L i last v e0 bad W) (k : Int) (hk : k < last) :
  Calls Tryz.prog 56 #[.pointer (some ⟨rb,0,none⟩),.int .i64 k] W fun e w'=>e = .returned (.func (Fn.func 94) #[.pointer (some ⟨rb,0,none⟩)] #[]) ∧ W = w':=by
 have d1 : decide (k < last) = true:=decide_eq_true hk;clear hk
 (have r0:=(h).ob.cell 0 _ rfl;have r1:=(h).ob.cell 1 _ rfl;have r2:=(h).ob.cell 2 _ rfl;have r3:=(h).ob.cell 3 _ rfl;have r4:=(h).ob.cell 4 _ rfl;have r5:=(h).ob.cell 5 _ rfl;have r6:=(h).ob.cell 6 _ rfl;have r7:=(h).ob.cell 7 _ rfl;have f1:=(h).ob.free 1;have f2:=(h).ob.free 2;have f3:=(h).ob.free 3;have f4:=(h).ob.free 4;have f5:=(h).ob.free 5;have f6:=(h).ob.free 6;have f7:=(h).ob.free 7)
 clear h
 go_enter Tryz.func56,Tryz.ntmps56
 go_wp2_with fail
 go_ret
 exact ⟨rfl,rfl⟩
theorem how_image {w W : World} {rb : Nat} {La : Option Addr} {Lc : Nat} {L : List (List UInt8)} {i : Nat} {last : Int} {v : Sv} {e0 bad : Int} (h : SR w rb La Lc L i last v e0 bad W) (k : Int) (hk : ¬ k < last) (h0 : k = 0) :
  Calls Tryz.prog 56 #[.pointer (some ⟨rb,0,none⟩),.int .i64 k] W fun e w'=>e = .returned (.func (Fn.func 95) #[.pointer (some ⟨rb,0,none⟩)] #[]) ∧ W = w':=by
 have d1 : decide (k < last) = false:=decide_eq_false hk;subst h0;clear hk
 (have r0:=(h).ob.cell 0 _ rfl;have r1:=(h).ob.cell 1 _ rfl;have r2:=(h).ob.cell 2 _ rfl;have r3:=(h).ob.cell 3 _ rfl;have r4:=(h).ob.cell 4 _ rfl;have r5:=(h).ob.cell 5 _ rfl;have r6:=(h).ob.cell 6 _ rfl;have r7:=(h).ob.cell 7 _ rfl;have f1:=(h).ob.free 1;have f2:=(h).ob.free 2;have f3:=(h).ob.free 3;have f4:=(h).ob.free 4;have f5:=(h).ob.free 5;have f6:=(h).ob.free 6;have f7:=(h).ob.free 7)
 clear h
 go_enter Tryz.func56,Tryz.ntmps56
 go_wp2_with fail
 go_ret
 exact ⟨rfl,rfl⟩
theorem how_sector {w W : World} {rb : Nat} {La : Option Addr} {Lc : Nat} {L : List (List UInt8)} {i : Nat} {last : Int} {v : Sv} {e0 bad : Int} (h : SR w rb La Lc L i last v e0 bad W) (k : Int) (hk : ¬ k < last) (h0 : k = 1) :
  Calls Tryz.prog 56 #[.pointer (some ⟨rb,0,none⟩),.int .i64 k] W fun e w'=>e = .returned (.func (Fn.func 96) #[.pointer (some ⟨rb,0,none⟩)] #[]) ∧ W = w':=by
 have d1 : decide (k < last) = false:=decide_eq_false hk;subst h0;clear hk
 (have r0:=(h).ob.cell 0 _ rfl;have r1:=(h).ob.cell 1 _ rfl;have r2:=(h).ob.cell 2 _ rfl;have r3:=(h).ob.cell 3 _ rfl;have r4:=(h).ob.cell 4 _ rfl;have r5:=(h).ob.cell 5 _ rfl;have r6:=(h).ob.cell 6 _ rfl;have r7:=(h).ob.cell 7 _ rfl;have f1:=(h).ob.free 1;have f2:=(h).ob.free 2;have f3:=(h).ob.free 3;have f4:=(h).ob.free 4;have f5:=(h).ob.free 5;have f6:=(h).ob.free 6;have f7:=(h).ob.free 7)
 clear h
 go_enter Tryz.func56,Tryz.ntmps56
 go_wp2_with fail
 go_ret
 exact ⟨rfl,rfl⟩
theorem how_input {w W : World} {rb : Nat} {La : Option Addr} {Lc : Nat} {L : List (List UInt8)} {i : Nat} {last : Int} {v : Sv} {e0 bad : Int} (h : SR w rb La Lc L i last v e0 bad W) (k : Int) (hk : ¬ k < last) (h0 : k = 2) :
  Calls Tryz.prog 56 #[.pointer (some ⟨rb,0,none⟩),.int .i64 k] W fun e w'=>e = .returned (.func (Fn.func 97) #[.pointer (some ⟨rb,0,none⟩)] #[]) ∧ W = w':=by
 have d1 : decide (k < last) = false:=decide_eq_false hk;subst h0;clear hk
 (have r0:=(h).ob.cell 0 _ rfl;have r1:=(h).ob.cell 1 _ rfl;have r2:=(h).ob.cell 2 _ rfl;have r3:=(h).ob.cell 3 _ rfl;have r4:=(h).ob.cell 4 _ rfl;have r5:=(h).ob.cell 5 _ rfl;have r6:=(h).ob.cell 6 _ rfl;have r7:=(h).ob.cell 7 _ rfl;have f1:=(h).ob.free 1;have f2:=(h).ob.free 2;have f3:=(h).ob.free 3;have f4:=(h).ob.free 4;have f5:=(h).ob.free 5;have f6:=(h).ob.free 6;have f7:=(h).ob.free 7)
 clear h
 go_enter Tryz.func56,Tryz.ntmps56
 go_wp2_with fail
 go_ret
 exact ⟨rfl,rfl⟩
def spW (s : List UInt8) : List (List UInt8):=if wordsB s then fieldsC 32 s else []
theorem rdW_none (w : World) : RdW w none 0 []:=⟨⟨rfl,fun _=>rfl,fun p hp=>by cases hp⟩,Nat.le_refl _,by decide⟩
theorem split_one {s : List UInt8} {w w' : World} {e : Ending} (h : SplitPost s w e w') : ∃ a cap,e = .returned (.tuple #[.slice a (spW s).length cap,.bool (wordsB s)]) ∧ RdW w' a cap (spW s) ∧ Below w.heap.size w w':=by
 unfold spW
 cases hw : wordsB s
 ·exact ⟨none,0,by rw [h.2.1 hw];rfl,rdW_none w',h.2.2⟩
 ·obtain ⟨a,cap,h1,h2⟩:=h.1 hw
  exact ⟨a,cap,by rw [h1];rfl,by simpa using h2,h.2.2⟩
def atOf (rb : Nat) (W : World) : Nat:=match W.cell? ⟨rb,1,none⟩ with
 | some (.int _ z)=>z.toNat
 | _=>0
theorem atOf_sr {w W : World} {rb : Nat} {La : Option Addr} {Lc : Nat} {L : List (List UInt8)} {i : Nat} {last : Int} {v : Sv} {e0 bad : Int} (h : SR w rb La Lc L i last v e0 bad W) : atOf rb W = i:=by
 unfold atOf;rw [h.ob.cell 1 _ rfl];simp
theorem rankS_cases (y : List UInt8) : rankS y = -1 ∨ (wordsB y = true ∧ (rankS y = 0 ∨ rankS y = 1 ∨ rankS y = 2)):=by
 unfold rankS
 split
 ·rename_i h
  unfold rankH
  split
  ·exact Or.inr ⟨h,Or.inl rfl⟩
  ·split
   ·exact Or.inr ⟨h,Or.inr (Or.inl rfl)⟩
   ·split
    ·exact Or.inr ⟨h,Or.inr (Or.inr rfl)⟩
    ·exact Or.inl rfl
 ·exact Or.inl rfl
theorem stepS_len {L : List (List UInt8)} {i : Nat} {last : Int} {s : Sc} {p : Nat × Int × Sc} (h : stepS L i last s = .inr p) : p.2.2.im.length ≤ s.im.length + 1 ∧ p.2.2.se.length ≤ s.se.length + 1 ∧ p.2.2.inp.length ≤ s.inp.length + 1:=by
 unfold stepS imgS at h
 split at h
 ·cases h
 ·split at h
  ·split at h
   ·cases h
   ·split at h
    ·cases h
    ·split at h
     ·split at h <;> cases h
     ·injection h with h;rw [← h];simp
  ·split at h
   ·split at h
    ·cases h
    ·injection h with h;rw [← h];simp
   ·split at h
    ·cases h
    ·injection h with h;rw [← h];simp
theorem stepS_rank {L : List (List UInt8)} {i : Nat} {last : Int} {s : Sc} {p : Nat × Int × Sc} (h : stepS L i last s = .inr p) (hr : rankS (L.getD i []) = 0 ∨ rankS (L.getD i []) = 1 ∨ rankS (L.getD i []) = 2) : p.2.1 = rankS (L.getD i []):=by
 unfold stepS imgS at h
 split at h
 ·cases h
 ·split at h
  ·rename_i h0
   split at h
   ·cases h
   ·split at h
    ·cases h
    ·split at h
     ·split at h <;> cases h
     ·injection h with h;rw [← h];exact h0.symm
  ·rename_i h0
   split at h
   ·rename_i h1
    split at h
    ·cases h
    ·injection h with h;rw [← h];exact h1.symm
   ·rename_i h1
    split at h
    ·cases h
    ·injection h with h;rw [← h];show (2 : Int) = _;omega
/-- What the reading leaves. -/
def RePost (w : World) (rb : Nat) (La : Option Addr) (Lc : Nat) (L : List (List UInt8)) (F : Sc × Int × Int) (e : Ending) (w' : World) : Prop:=
 (F.2.1 = 0 → e = .returned (.bool true) ∧ ∃ i last v,scOf v = F.1 ∧ SR w rb La Lc L i last v 0 0 w') ∧ (F.2.1 ≠ 0 → e = .returned (.bool false) ∧ ∃ i last v,SR w rb La Lc L i last v F.2.1 F.2.2 w')
structure ReQ (w : World) (rb : Nat) (La : Option Addr) (Lc : Nat) (L : List (List UInt8)) (F : Sc × Int × Int) (i : Nat) (last : Int) (v : Sv) (W : World) : Prop where
 sr : SR w rb La Lc L i last v 0 0 W
 fin : restS L i last (scOf v) = F
 lo : 0 ≤ last
 l1 : v.im.length ≤ i
 l2 : v.se.length ≤ i
 l3 : v.inp.length ≤ i
theorem stepS_in {L : List (List UInt8)} {i : Nat} {last : Int} {s : Sc} {p : Nat × Int × Sc} (h : stepS L i last s = .inr p) (hi : i < L.length) : p.1 ≤ L.length:=by
 unfold stepS imgS at h
 split at h
 ·cases h
 ·split at h
  ·split at h
   ·cases h
   ·rename_i e_ he
    have:=(endS_some he).1
    split at h
    ·cases h
    ·split at h
     ·split at h <;> cases h
     ·injection h with h;rw [← h];show e_ + 1 ≤ L.length;omega
  ·split at h
   ·split at h
    ·cases h
    ·injection h with h;rw [← h];show i + 1 ≤ L.length;omega
   ·split at h
    ·cases h
    ·injection h with h;rw [← h];show i + 1 ≤ L.length;omega
theorem read_any {w W : World} {rb : Nat} {La : Option Addr} {Lc : Nat} {L : List (List UInt8)} {i : Nat} (h : SR w rb La Lc L i 0 sv0 0 0 W) (hll : L.length ≤ 100000) (hjl : (joinT L).length ≤ 100000) (hsm : ∀ x ∈ L,x.length ≤ 100000) (hT : Isa.Tab w) :
  Calls Tryz.prog 25 #[.pointer (some ⟨rb,0,none⟩)] W (RePost w rb La Lc L (restS L i 0 sc0)):=by
 obtain ⟨F,hF⟩ : ∃ F,F = restS L i 0 sc0:=⟨_,rfl⟩
 have HQ0 : Hid (ReQ w rb La Lc L F i 0 sv0 W):=⟨h,by rw [hF];rfl,Int.le_refl _,Nat.zero_le _,Nat.zero_le _,Nat.zero_le _⟩
 rw [← hF]
 have HY : Hid (∀ i' last' v' W',L.length ≤ i' → ReQ w rb La Lc L F i' last' v' W' → RePost w rb La Lc L F (.returned (.bool true)) W'):=fun i' last' v' W' hi hq=>by
  have:=hq.fin
  rw [restS_end hi] at this
  refine ⟨fun _=>⟨rfl,i',last',v',by rw [← this],hq.sr⟩,fun hn=>absurd (by rw [← this]) hn⟩
 have HNB : Hid (∀ i' last' v' W0 p W',i' < L.length → ReQ w rb La Lc L F i' last' v' W0 → stepS L i' last' (scOf v') = .inl p → (∃ i2 v2,SR w rb La Lc L i2 last' v2 p.1 p.2 W') → RePost w rb La Lc L F (.returned (.bool false)) W'):=fun i' last' v' W0 p W' hi hq hs hx=>by
  obtain ⟨i2,v2,hx⟩:=hx
  have:=hq.fin
  rw [restS_bad hi hs] at this
  have hp:=stepS_pos hs
  rw [← this]
  exact ⟨fun h0=>absurd h0 hp,fun _=>⟨rfl,i2,last',v2,hx⟩⟩
 obtain ⟨R,hR⟩ : ∃ R,R = RePost w rb La Lc L F:=⟨_,rfl⟩
 rw [← hR] at HY HNB ⊢
 have HSM:=Lib.hid hsm
 have HTT:=Lib.hid hT
 clear hF hR h hsm hT
 go_enter Tryz.func25,Tryz.ntmps25
 go_upto_region 1 with fail
 go_loopw [3] (fun _ wr=>∃ (j : Nat) (last : Int) (v : Sv),ReQ w rb La Lc L F j last v wr) (fun _ wr=>L.length - atOf rb wr)
 case atStart=>exact ⟨i,0,sv0,HQ0.out⟩
 case round=>
  clear HQ0
  obtain ⟨j,last,v,hq⟩:=hrel
  have HQ:=Lib.hid hq
  have hat:=atOf_sr hq.sr
  have HAT:=Lib.hid hat
  clear hq hat
  have hle:=HQ.out.sr.ln.le
  have hmx:=HQ.out.sr.ln.mx
  unfold maxLen at hmx
  by_cases hlt : j < L.length
  ·obtain ⟨g,o,rfl,hg,hc⟩:=HQ.out.sr.ln.at_ j hlt
   obtain ⟨y,hy⟩ : ∃ y,y = L[j]:=⟨_,rfl⟩
   have hyD : L.getD j [] = y:=by rw [List.getD_eq_getElem?_getD,List.getElem?_eq_getElem hlt,hy];rfl
   have hyl : y.length ≤ 100000:=by rw [hy];exact HSM.out _ (List.getElem_mem hlt)
   have HLC : Hid (∀ W',Below w.heap.size w W' → W'.cell? ⟨g,o + j,none⟩ = some (.string (ba y))):=fun W' hb=>by rw [hb.cell (p:=⟨g,o + j,none⟩) hg,hc j hlt,hy]
   have d1 : decide ((j : Int) < (L.length : Int)) = true:=decide_eq_true (by omega)
   have d1' : decide (j < L.length) = true:=decide_eq_true hlt
   have w1 : IntKind.i64.wrap ((j : Int) + 1) = (j : Int) + 1:=by rw [IntKind.wrap_i64];omega
   obtain ⟨k,hk⟩ : ∃ k,k = rankS y:=⟨_,rfl⟩
   obtain ⟨ws,hws⟩ : ∃ ws,ws = spW y:=⟨_,rfl⟩
   have HRK:=fun W=>Lib.hid (rank_any y hyl W)
   have HRS : Hid (∀ W e w',RkPost y W e w' → e = .returned (.int .i64 k) ∧ Below W.heap.size W w'):=fun W e w' h=>by rw [hk];exact h
   have HSP:=fun W=>Lib.hid (split_any (ba y) (by rw [ba_size];omega) W)
   rw [ba_data] at HSP
   obtain ⟨wb,hwb⟩ : ∃ b,Hid (b = wordsB y):=⟨_,Lib.hid rfl⟩
   have HSS : Hid (∀ W e w',SplitPost y W e w' → ∃ a cap,e = .returned (.tuple #[.slice a ws.length cap,.bool wb]) ∧ RdW w' a cap ws ∧ Below W.heap.size W w'):=fun W e w' h=>by rw [hws,hwb.out];exact split_one h
   have HK:=Lib.hid hk
   have HW:=Lib.hid hws
   have HYD:=Lib.hid hyD
   clear hc hy hyD hk hws
   (have r0:=(HQ.out.sr).ob.cell 0 _ rfl;have r1:=(HQ.out.sr).ob.cell 1 _ rfl;have r2:=(HQ.out.sr).ob.cell 2 _ rfl;have r3:=(HQ.out.sr).ob.cell 3 _ rfl;have r4:=(HQ.out.sr).ob.cell 4 _ rfl;have r5:=(HQ.out.sr).ob.cell 5 _ rfl;have r6:=(HQ.out.sr).ob.cell 6 _ rfl;have r7:=(HQ.out.sr).ob.cell 7 _ rfl;have f1:=(HQ.out.sr).ob.free 1;have f2:=(HQ.out.sr).ob.free 2;have f3:=(HQ.out.sr).ob.free 3;have f4:=(HQ.out.sr).ob.free 4;have f5:=(HQ.out.sr).ob.free 5;have f6:=(HQ.out.sr).ob.free 6;have f7:=(HQ.out.sr).ob.free 7)
   go_wp2_with fail
   go_region
   (clear r0 r1 r2 r3 r4 r5 r6 r7 f1 f2 f3 f4 f5 f6 f7)
   all_goals
    have HD:=Lib.hid (HQ.out.sr.more (Below.refl _ _).drew)
    go_upto_region 3 with fail
    have HD:=Lib.hid (HD.out.more (Below.refl _ _).drew)
    go_region_held3 (fun W'=>W'.cell? ⟨rb,0,none⟩ = some (.slice (some ⟨g,o,none⟩) L.length Lc) ∧ W'.cell? ⟨rb,1,none⟩ = some (.int .i64 j) ∧ W'.cell? ⟨g,o + j,none⟩ = some (.string (ba y))) (first | exact ⟨HD.out.ob.cell 0 _ rfl,HD.out.ob.cell 1 _ rfl,HLC.out _ HD.out.bel⟩) (first | (go_at_call 22;refine ((HRK _).out).mono ?_;intro e W2 hp;obtain ⟨rfl,hb⟩:=HRS.out _ _ _ hp;have HD:=Lib.hid (HD.out.more hb);clear hp hb))
    go_upto_region 4 with fail
    have HD:=Lib.hid (HD.out.more (Below.refl _ _).drew)
    go_region_held3 (fun W'=>W'.cell? ⟨rb,0,none⟩ = some (.slice (some ⟨g,o,none⟩) L.length Lc) ∧ W'.cell? ⟨rb,1,none⟩ = some (.int .i64 j) ∧ W'.cell? ⟨g,o + j,none⟩ = some (.string (ba y))) (first | exact ⟨HD.out.ob.cell 0 _ rfl,HD.out.ob.cell 1 _ rfl,HLC.out _ HD.out.bel⟩) (first | (go_at_call 52;refine ((HSP _).out).mono ?_;intro e W3 hp;obtain ⟨sa,sc,rfl,hR,hb⟩:=HSS.out _ _ _ hp;have HRW:=Lib.hid hR;have HD:=Lib.hid (HD.out.more hb);clear hp hb hR))
    by_cases h0 : k < last
    ·have HST : Hid (stepS L j last (scOf v) = .inl (6,(j : Int) + 1)):=by rw [Hid,stepS,HYD.out,← HK.out,if_pos h0]
     go_wp2_with (go_at_call 56;refine (how_wrong HD.out k h0).mono ?_;rintro e Wh ⟨rfl,rfl⟩)
     refine (wrong_any HD.out (by omega) sa ws.length sc).mono ?_;rintro e W6 ⟨rfl,h6⟩
     have HF:=Lib.hid (HNB.out j last v _ (6,(j : Int) + 1) W6 hlt HQ.out HST.out ⟨j,v,h6⟩)
     clear h6
     go_wp2_with fail
     exact HF.out
    ·have hk3 : wordsB y = true ∧ (k = 0 ∨ k = 1 ∨ k = 2):=by
      rcases rankS_cases y with h | h
      ·rw [← HK.out] at h;have:=HQ.out.lo;omega
      ·rw [← HK.out] at h;exact h
     have hwf : ws = fieldsC 32 y:=by rw [HW.out,spW,hk3.1];rfl
     have hwl : ws.length ≤ 1000000:=by
      rw [hwf,fieldsC_len]
      have:=List.count_le_length (a:=(32 : UInt8)) (l:=y);omega
     have HWSM : Hid (∀ x ∈ ws,x.length ≤ 100000):=fun x hx=>by
      rw [hwf] at hx
      have:=(fieldsC_mem 32 y x hx).2;omega
     have b1:=HQ.out.l1
     have b2:=HQ.out.l2
     have b3:=HQ.out.l3
     have HWF:=Lib.hid hwf
     have HK3:=Lib.hid hk3.2
     clear hwf hk3
     rcases HK3.out with k0 | k0 | k0
     ·have HK0:=Lib.hid k0
      clear k0
      have HST : Hid (stepS L j last (scOf v) = imgR j v L):=(by rw [Hid,stepS,HYD.out,← HK.out,if_neg h0,if_pos HK0.out];rfl)
      have HTK:=Lib.hid (image_any HD.out hlt (by omega) (by omega) (by omega) HTT.out ws (by rw [HYD.out,HWF.out]) sa sc hwl)
      obtain ⟨r,hr⟩ : ∃ r,r = imgR j v L:=⟨_,rfl⟩
      rw [← hr] at HST HTK
      clear hr
      go_wp2_with (go_at_call 56;refine (how_image HD.out k h0 HK0.out).mono ?_;rintro e Wh ⟨rfl,rfl⟩)
      refine HTK.out.mono ?_;intro e W6 h6
      clear HTK
      cases r with
      | inl p=>
       obtain ⟨rfl,i2,v2,h2⟩:=h6
       have HF:=Lib.hid (HNB.out j last v _ p W6 hlt HQ.out HST.out ⟨i2,v2,h2⟩)
       clear h2
       go_wp2_with fail
       exact HF.out
      | inr p=>
       obtain ⟨rfl,v2,j2,hj2,hs2,h2⟩:=h6
       have hle2:=stepS_len HST.out
       rw [← hs2] at hle2
       have hrk:=stepS_rank HST.out (by rw [HYD.out,← HK.out];exact HK3.out)
       rw [HYD.out,← HK.out] at hrk
       have hnx:=stepS_next HST.out
       have hin:=stepS_in HST.out hlt
       have HFN : Hid (restS L (j2 + 1) k (scOf v2) = F):=by rw [Hid,← HQ.out.fin,restS_step hlt HST.out,hj2,hs2,hrk]
       have HQ7 : Hid (ReQ w rb (some ⟨g,o,none⟩) Lc L F (j2 + 1) k v2 ((W6.setCell ⟨rb,2,none⟩ (.int .i64 k)).setCell ⟨rb,1,none⟩ (.int .i64 ((j2 + 1 : Nat) : Int)))):=
        ⟨(h2.setLast k).setAt (j2 + 1),HFN.out,by have:=HQ.out.lo;have:=HK3.out;omega,by have:=hle2.1;simp only [scOf,List.length_map] at this;omega,by have:=hle2.2.1;simp only [scOf] at this;omega,by have:=hle2.2.2;simp only [scOf] at this;omega⟩
       have w2 : IntKind.i64.wrap ((j2 : Int) + 1) = (j2 : Int) + 1:=by rw [IntKind.wrap_i64];omega
       have HJ:=Lib.hid hnx
       have HJ2:=Lib.hid hj2
       (have r0:=(h2).ob.cell 0 _ rfl;have r1:=(h2).ob.cell 1 _ rfl;have r2:=(h2).ob.cell 2 _ rfl;have r3:=(h2).ob.cell 3 _ rfl;have r4:=(h2).ob.cell 4 _ rfl;have r5:=(h2).ob.cell 5 _ rfl;have r6:=(h2).ob.cell 6 _ rfl;have r7:=(h2).ob.cell 7 _ rfl;have f1:=(h2).ob.free 1;have f2:=(h2).ob.free 2;have f3:=(h2).ob.free 3;have f4:=(h2).ob.free 4;have f5:=(h2).ob.free 5;have f6:=(h2).ob.free 6;have f7:=(h2).ob.free 7)
       clear hle2 hrk hnx hj2 hs2 h2 hin
       go_wp2_with fail
       go_roundw
       case rel=>exact ⟨j2 + 1,k,v2,HQ7.out⟩
       case measure=>
        have e7:=atOf_sr HQ7.out.sr
        have:=HJ.out
        have:=HJ2.out
        rw [HAT.out]
        have e8 : ((j2 + 1 : Nat) : Int) = (j2 : Int) + 1:=by omega
        rw [e8] at e7
        rw [e7];omega
     ·have HK0:=Lib.hid k0
      clear k0
      have HST : Hid (stepS L j last (scOf v) = secS j v ws):=(by rw [Hid,stepS,HYD.out,← HK.out,if_neg h0,if_neg (by have:=HK0.out;omega),if_pos HK0.out,← HWF.out];rfl)
      have HTK:=Lib.hid (sector_any HD.out (by omega) (by omega) ws HWSM.out sa sc HRW.out)
      obtain ⟨r,hr⟩ : ∃ r,r = secS j v ws:=⟨_,rfl⟩
      rw [← hr] at HST HTK
      clear hr
      go_wp2_with (go_at_call 56;refine (how_sector HD.out k h0 HK0.out).mono ?_;rintro e Wh ⟨rfl,rfl⟩)
      refine HTK.out.mono ?_;intro e W6 h6
      clear HTK
      cases r with
      | inl p=>
       obtain ⟨rfl,i2,v2,h2⟩:=h6
       have HF:=Lib.hid (HNB.out j last v _ p W6 hlt HQ.out HST.out ⟨i2,v2,h2⟩)
       clear h2
       go_wp2_with fail
       exact HF.out
      | inr p=>
       obtain ⟨rfl,v2,j2,hj2,hs2,h2⟩:=h6
       have hle2:=stepS_len HST.out
       rw [← hs2] at hle2
       have hrk:=stepS_rank HST.out (by rw [HYD.out,← HK.out];exact HK3.out)
       rw [HYD.out,← HK.out] at hrk
       have hnx:=stepS_next HST.out
       have hin:=stepS_in HST.out hlt
       have HFN : Hid (restS L (j2 + 1) k (scOf v2) = F):=by rw [Hid,← HQ.out.fin,restS_step hlt HST.out,hj2,hs2,hrk]
       have HQ7 : Hid (ReQ w rb (some ⟨g,o,none⟩) Lc L F (j2 + 1) k v2 ((W6.setCell ⟨rb,2,none⟩ (.int .i64 k)).setCell ⟨rb,1,none⟩ (.int .i64 ((j2 + 1 : Nat) : Int)))):=
        ⟨(h2.setLast k).setAt (j2 + 1),HFN.out,by have:=HQ.out.lo;have:=HK3.out;omega,by have:=hle2.1;simp only [scOf,List.length_map] at this;omega,by have:=hle2.2.1;simp only [scOf] at this;omega,by have:=hle2.2.2;simp only [scOf] at this;omega⟩
       have w2 : IntKind.i64.wrap ((j2 : Int) + 1) = (j2 : Int) + 1:=by rw [IntKind.wrap_i64];omega
       have HJ:=Lib.hid hnx
       have HJ2:=Lib.hid hj2
       (have r0:=(h2).ob.cell 0 _ rfl;have r1:=(h2).ob.cell 1 _ rfl;have r2:=(h2).ob.cell 2 _ rfl;have r3:=(h2).ob.cell 3 _ rfl;have r4:=(h2).ob.cell 4 _ rfl;have r5:=(h2).ob.cell 5 _ rfl;have r6:=(h2).ob.cell 6 _ rfl;have r7:=(h2).ob.cell 7 _ rfl;have f1:=(h2).ob.free 1;have f2:=(h2).ob.free 2;have f3:=(h2).ob.free 3;have f4:=(h2).ob.free 4;have f5:=(h2).ob.free 5;have f6:=(h2).ob.free 6;have f7:=(h2).ob.free 7)
       clear hle2 hrk hnx hj2 hs2 h2 hin
       go_wp2_with fail
       go_roundw
       case rel=>exact ⟨j2 + 1,k,v2,HQ7.out⟩
       case measure=>
        have e7:=atOf_sr HQ7.out.sr
        have:=HJ.out
        have:=HJ2.out
        rw [HAT.out]
        have e8 : ((j2 + 1 : Nat) : Int) = (j2 : Int) + 1:=by omega
        rw [e8] at e7
        rw [e7];omega
     ·have HK0:=Lib.hid k0
      clear k0
      have HST : Hid (stepS L j last (scOf v) = inpS j v ws):=(by rw [Hid,stepS,HYD.out,← HK.out,if_neg h0,if_neg (by have:=HK0.out;omega),if_neg (by have:=HK0.out;omega),← HWF.out];rfl)
      have HTK:=Lib.hid (input_any HD.out (by omega) (by omega) ws HWSM.out hwl sa sc HRW.out)
      obtain ⟨r,hr⟩ : ∃ r,r = inpS j v ws:=⟨_,rfl⟩
      rw [← hr] at HST HTK
      clear hr
      go_wp2_with (go_at_call 56;refine (how_input HD.out k h0 HK0.out).mono ?_;rintro e Wh ⟨rfl,rfl⟩)
      refine HTK.out.mono ?_;intro e W6 h6
      clear HTK
      cases r with
      | inl p=>
       obtain ⟨rfl,i2,v2,h2⟩:=h6
       have HF:=Lib.hid (HNB.out j last v _ p W6 hlt HQ.out HST.out ⟨i2,v2,h2⟩)
       clear h2
       go_wp2_with fail
       exact HF.out
      | inr p=>
       obtain ⟨rfl,v2,j2,hj2,hs2,h2⟩:=h6
       have hle2:=stepS_len HST.out
       rw [← hs2] at hle2
       have hrk:=stepS_rank HST.out (by rw [HYD.out,← HK.out];exact HK3.out)
       rw [HYD.out,← HK.out] at hrk
       have hnx:=stepS_next HST.out
       have hin:=stepS_in HST.out hlt
       have HFN : Hid (restS L (j2 + 1) k (scOf v2) = F):=by rw [Hid,← HQ.out.fin,restS_step hlt HST.out,hj2,hs2,hrk]
       have HQ7 : Hid (ReQ w rb (some ⟨g,o,none⟩) Lc L F (j2 + 1) k v2 ((W6.setCell ⟨rb,2,none⟩ (.int .i64 k)).setCell ⟨rb,1,none⟩ (.int .i64 ((j2 + 1 : Nat) : Int)))):=
        ⟨(h2.setLast k).setAt (j2 + 1),HFN.out,by have:=HQ.out.lo;have:=HK3.out;omega,by have:=hle2.1;simp only [scOf,List.length_map] at this;omega,by have:=hle2.2.1;simp only [scOf] at this;omega,by have:=hle2.2.2;simp only [scOf] at this;omega⟩
       have w2 : IntKind.i64.wrap ((j2 : Int) + 1) = (j2 : Int) + 1:=by rw [IntKind.wrap_i64];omega
       have HJ:=Lib.hid hnx
       have HJ2:=Lib.hid hj2
       (have r0:=(h2).ob.cell 0 _ rfl;have r1:=(h2).ob.cell 1 _ rfl;have r2:=(h2).ob.cell 2 _ rfl;have r3:=(h2).ob.cell 3 _ rfl;have r4:=(h2).ob.cell 4 _ rfl;have r5:=(h2).ob.cell 5 _ rfl;have r6:=(h2).ob.cell 6 _ rfl;have r7:=(h2).ob.cell 7 _ rfl;have f1:=(h2).ob.free 1;have f2:=(h2).ob.free 2;have f3:=(h2).ob.free 3;have f4:=(h2).ob.free 4;have f5:=(h2).ob.free 5;have f6:=(h2).ob.free 6;have f7:=(h2).ob.free 7)
       clear hle2 hrk hnx hj2 hs2 h2 hin
       go_wp2_with fail
       go_roundw
       case rel=>exact ⟨j2 + 1,k,v2,HQ7.out⟩
       case measure=>
        have e7:=atOf_sr HQ7.out.sr
        have:=HJ.out
        have:=HJ2.out
        rw [HAT.out]
        have e8 : ((j2 + 1 : Nat) : Int) = (j2 : Int) + 1:=by omega
        rw [e8] at e7
        rw [e7];omega
  ·have d1 : decide ((j : Int) < (L.length : Int)) = false:=decide_eq_false (by omega)
   have d1' : decide (j < L.length) = false:=decide_eq_false hlt
   have HQD : Hid (ReQ w rb La Lc L F j last v wr.drew):=⟨HQ.out.sr.more (Below.refl _ _).drew,HQ.out.fin,HQ.out.lo,HQ.out.l1,HQ.out.l2,HQ.out.l3⟩
   have HF:=Lib.hid (HY.out j last v wr.drew (by omega) HQD.out)
   (have r0:=(HQ.out.sr).ob.cell 0 _ rfl;have r1:=(HQ.out.sr).ob.cell 1 _ rfl;have r2:=(HQ.out.sr).ob.cell 2 _ rfl;have r3:=(HQ.out.sr).ob.cell 3 _ rfl;have r4:=(HQ.out.sr).ob.cell 4 _ rfl;have r5:=(HQ.out.sr).ob.cell 5 _ rfl;have r6:=(HQ.out.sr).ob.cell 6 _ rfl;have r7:=(HQ.out.sr).ob.cell 7 _ rfl;have f1:=(HQ.out.sr).ob.free 1;have f2:=(HQ.out.sr).ob.free 2;have f3:=(HQ.out.sr).ob.free 3;have f4:=(HQ.out.sr).ob.free 4;have f5:=(HQ.out.sr).ob.free 5;have f6:=(HQ.out.sr).ob.free 6;have f7:=(HQ.out.sr).ob.free 7)
   go_wp2_with fail
   go_region
   all_goals
    go_wp2_with fail
    exact HF.out
end Go.Proofs.YtoklonmiejdgmaaGreatDoor
/- The walk of PlanWords. -/
namespace Go.Proofs.YtoklonmiejdgmaaGreatDoor
set_option linter.unusedVariables false
set_option linter.unusedSimpArgs false
set_option linter.unnecessarySimpa false
open Go.RowKit Go.Sort
set_option maxHeartbeats 2000000
set_option maxRecDepth 100000
set_option linter.unusedVariables false
def lnsL (s : List UInt8) : List (List UInt8):=if lsB s then lsL s else []
end Go.Proofs.YtoklonmiejdgmaaGreatDoor
