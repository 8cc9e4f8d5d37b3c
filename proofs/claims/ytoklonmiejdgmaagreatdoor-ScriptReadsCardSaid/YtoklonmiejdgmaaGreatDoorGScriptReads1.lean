/- Package script: value, Unhex. -/
import Derived.Test.YtoklonmiejdgmaaGreatDoorGScriptReads0
import Derived.Lib.OthersKept
import Derived.WalkSmall
import Derived.Laws.MakeOwn
import Derived.Test.YtoklonmiejdgmaaGreatDoorRows
import Derived.RangeFuncNested
import Derived.RangeFuncBound
import Derived.RangeFuncCalls
import Derived.RangeFuncLeaves
import Derived.Shelf.Abstract
import Derived.Shelf.RegionOpen
import Derived.WalkKit
import Derived.OwnWalkIn
import Derived.TacticsInMore
import Derived.LoopNIn
import Derived.LoopIn
import Derived.Sort.QuietIn
import Derived.Scope
import Derived.ControlIn
namespace Go.Proofs.YtoklonmiejdgmaaGreatDoor
set_option linter.unusedVariables false
set_option linter.unusedSimpArgs false
set_option linter.unnecessarySimpa false
open Go.RowKit Go.Sort
set_option maxHeartbeats 4000000
set_option maxRecDepth 100000
set_option linter.unusedVariables false
theorem value_yes (x : Nat) (h : (48 ≤ x ∧ x ≤ 57) ∨ (97 ≤ x ∧ x ≤ 102)) (w : World) : Calls Tryz.prog 33 #[.int .i32 (x : Int)] w fun e w'=>e = .returned (.tuple #[.int .i64 ((if x ≤ 57 then x - 48 else x - 87 : Nat) : Int),.bool true]) ∧ w = w':=by
 by_cases h1 : x ≤ 57
 ·rw [if_pos h1]
  have e1 : decide ((x : Int) ≥ 48) = true:=decide_eq_true (by omega)
  have e2 : decide ((x : Int) ≤ 57) = true:=decide_eq_true (by omega)
  have e2' : decide (x ≤ 57) = true:=decide_eq_true h1
  have e1' : decide (48 ≤ x) = true:=decide_eq_true (by omega)
  have w1 : IntKind.i32.wrap ((x : Int) - 48) = (x : Int) - 48:=by rw [IntKind.wrap_i32];omega
  have w2 : IntKind.i64.wrap ((x : Int) - 48) = (x : Int) - 48:=by rw [IntKind.wrap_i64];omega
  have hx : ((x - 48 : Nat) : Int) = (x : Int) - 48:=by omega
  have HX:=Lib.hid hx
  rw [HX.out]
  clear h h1 hx
  go_enter Tryz.func33,Tryz.ntmps33
  go_wp2_with fail
  (go_ret2;exact ⟨rfl,rfl⟩)
 ·have h2 : 97 ≤ x ∧ x ≤ 102:=by omega
  rw [if_neg h1]
  have e1 : decide ((x : Int) ≥ 48) = true:=decide_eq_true (by omega)
  have e2 : decide ((x : Int) ≤ 57) = false:=decide_eq_false (by omega)
  have e2' : decide (x ≤ 57) = false:=decide_eq_false h1
  have e1' : decide (48 ≤ x) = true:=decide_eq_true (by omega)
  have e3 : decide ((x : Int) ≥ 97) = true:=decide_eq_true (by omega)
  have e3' : decide (97 ≤ x) = true:=decide_eq_true (by omega)
  have e4 : decide ((x : Int) ≤ 102) = true:=decide_eq_true (by omega)
  have e4' : decide (x ≤ 102) = true:=decide_eq_true (by omega)
  have w1 : IntKind.i32.wrap ((x : Int) - 97) = (x : Int) - 97:=by rw [IntKind.wrap_i32];omega
  have w2 : IntKind.i64.wrap ((x : Int) - 97) = (x : Int) - 97:=by rw [IntKind.wrap_i64];omega
  have w3 : IntKind.i64.wrap ((x : Int) - 97 + 10) = (x : Int) - 97 + 10:=by rw [IntKind.wrap_i64];omega
  have hx : ((x - 87 : Nat) : Int) = (x : Int) - 97 + 10:=by omega
  have HX:=Lib.hid hx
  rw [HX.out]
  clear h h1 hx h2
  go_enter Tryz.func33,Tryz.ntmps33
  go_wp2_with fail
  (go_ret2;exact ⟨rfl,rfl⟩)
theorem value_no (x : Nat) (h : ¬ ((48 ≤ x ∧ x ≤ 57) ∨ (97 ≤ x ∧ x ≤ 102))) (w : World) : Calls Tryz.prog 33 #[.int .i32 (x : Int)] w fun e w'=>e = .returned (.tuple #[.int .i64 0,.bool false]) ∧ w = w':=by
  obtain ⟨p1,hp1⟩ : ∃ p,p = decide (48 ≤ x):=⟨_,rfl⟩
  obtain ⟨p2,hp2⟩ : ∃ p,p = decide (x ≤ 57):=⟨_,rfl⟩
  obtain ⟨p3,hp3⟩ : ∃ p,p = decide (97 ≤ x):=⟨_,rfl⟩
  obtain ⟨p4,hp4⟩ : ∃ p,p = decide (x ≤ 102):=⟨_,rfl⟩
  have e1 : decide ((x : Int) ≥ 48) = p1:=by rw [hp1,decide_eq_decide];omega
  have e2 : decide ((x : Int) ≤ 57) = p2:=by rw [hp2,decide_eq_decide];omega
  have e3 : decide ((x : Int) ≥ 97) = p3:=by rw [hp3,decide_eq_decide];omega
  have e4 : decide ((x : Int) ≤ 102) = p4:=by rw [hp4,decide_eq_decide];omega
  have f1:=hp1.symm
  have f2:=hp2.symm
  have f3:=hp3.symm
  have f4:=hp4.symm
  have k1 : (p1 && p2) = false:=by
    rw [hp1,hp2,Bool.and_eq_false_iff,decide_eq_false_iff_not,decide_eq_false_iff_not];omega
  have k2 : (p3 && p4) = false:=by
    rw [hp3,hp4,Bool.and_eq_false_iff,decide_eq_false_iff_not,decide_eq_false_iff_not];omega
  clear hp1 hp2 hp3 hp4 h
  have K1:=Lib.hid k1
  have K2:=Lib.hid k2
  clear k1 k2
  cases p1 <;> cases p2 <;> cases p3 <;> cases p4
  all_goals first
    | (exact absurd K1.out (by decide))
    | (exact absurd K2.out (by decide))
    | (go_enter Tryz.func33,Tryz.ntmps33
       go_wp2_with fail
       go_ret2
       exact ⟨rfl,rfl⟩)
end Go.Proofs.YtoklonmiejdgmaaGreatDoor
/- Package script: Unhex. -/
namespace Go.Proofs.YtoklonmiejdgmaaGreatDoor
set_option linter.unusedVariables false
set_option linter.unusedSimpArgs false
set_option linter.unnecessarySimpa false
open Go.RowKit Go.Sort
set_option maxHeartbeats 4000000
set_option maxRecDepth 100000
set_option linter.unusedVariables false
theorem own_cells {w : World} {B g n : Nat} {e : TypeId} {cs : List Value} (ho : ObjAt w g e cs) (hl : cs.length = n) (hB : B ≤ g) (hn : n ≤ maxLen) : Own w B e 1 (some ⟨g,0,none⟩) n n cs:=
 ⟨by omega,.inr ⟨g,n,cs.toArray,rfl,hB,ho,Nat.le_refl _,hn,by simpa using hl,by simp [← hl]⟩⟩
/-- The row of bytes behind k digits. -/
def cellU (s : List UInt8) (k j : Nat) : Nat:=if 2 * j + 1 < k then 16 * hvN (s.getD (2 * j) 0) + hvN (s.getD (2 * j + 1) 0) else if 2 * j < k then hvN (s.getD (2 * j) 0) else 0
def rowU (s : List UInt8) (k n : Nat) : List UInt8:=(List.range n).map fun j=>UInt8.ofNat (cellU s k j)
theorem rowU_len (s : List UInt8) (k n : Nat) : (rowU s k n).length = n:=by simp [rowU]
theorem hvN_lt {b : UInt8} (h : hvB b = true) : hvN b < 16:=(hexD_back h).2
theorem unPair_get : ∀ (n : Nat) (s : List UInt8),s.length = 2 * n → ∀ j,j < n → (unPair s)[j]? = some (UInt8.ofNat (16 * hvN (s.getD (2 * j) 0) + hvN (s.getD (2 * j + 1) 0)))
 | 0,s,h,j,hj=>by omega
 | n + 1,s,h,j,hj=>by
  match s,h with
  | a :: b :: r,h=>
   rw [unPair]
   match j with
   | 0=>rfl
   | j + 1=>
    have:=unPair_get n r (by simp at h;omega) j (by omega)
    rw [List.getElem?_cons_succ,this]
    rw [show 2 * (j + 1) = 2 * j + 1 + 1 by omega,show 2 * j + 1 + 1 + 1 = (2 * j + 1) + 1 + 1 by omega]
    simp only [List.getD_cons_succ]
theorem rowU_full {s : List UInt8} {n : Nat} (h : s.length = 2 * n) : rowU s (2 * n) n = unPair s:=by
 apply List.ext_getElem?
 intro j
 by_cases hj : j < n
 ·rw [unPair_get n s h j hj,rowU,List.getElem?_map,List.getElem?_range hj]
  simp only [Option.map_some,cellU]
  rw [if_pos (by omega)]
 ·rw [List.getElem?_eq_none (by rw [rowU_len];omega),List.getElem?_eq_none (by rw [pair_len n s h];omega)]
theorem cellU_step {s : List UInt8} {k : Nat} (hk : k < s.length) (hall : ∀ j (hj : j < s.length),j < k + 1 → hvB s[j] = true) :
  cellU s k (k / 2) < 16 ∧ cellU s (k + 1) (k / 2) = cellU s k (k / 2) * 16 + hvN s[k] ∧ ∀ j,j ≠ k / 2 → cellU s (k + 1) j = cellU s k j:=by
 have hg : ∀ j (hj : j < s.length),s.getD j 0 = s[j]:=fun j hj=>by rw [List.getD_eq_getElem?_getD,List.getElem?_eq_getElem hj];rfl
 refine ⟨?_,?_,fun j hj=>?_⟩
 ·unfold cellU
  rw [if_neg (by omega)]
  split
  ·rename_i h
   rw [hg _ (by omega)]
   exact hvN_lt (hall _ (by omega) (by omega))
  ·omega
 ·unfold cellU
  rw [if_neg (show ¬ 2 * (k / 2) + 1 < k by omega)]
  by_cases he : k % 2 = 0
  ·rw [if_neg (by omega),if_pos (by omega),if_neg (by omega),hg _ (by omega)]
   have : 2 * (k / 2) = k:=by omega
   simp only [this];omega
  ·rw [if_pos (by omega),if_pos (by omega),hg _ (by omega),hg _ (by omega)]
   have : 2 * (k / 2) + 1 = k:=by omega
   simp only [this];omega
 ·unfold cellU
  by_cases h1 : 2 * j + 1 < k
  ·rw [if_pos h1,if_pos (by omega)]
  ·rw [if_neg h1,if_neg (by omega)]
   by_cases h2 : 2 * j < k
   ·rw [if_pos h2,if_pos (by omega)]
   ·rw [if_neg h2,if_neg (by omega)]
theorem rowU_step {s : List UInt8} {k n : Nat} (hk : k < s.length) (hall : ∀ j (hj : j < s.length),j < k + 1 → hvB s[j] = true) : rowU s (k + 1) n = (rowU s k n).set (k / 2) (UInt8.ofNat (cellU s k (k / 2) * 16 + hvN s[k])):=by
 obtain ⟨_,h2,h3⟩:=cellU_step hk hall
 apply List.ext_getElem?
 intro j
 rw [List.getElem?_set]
 by_cases hj : k / 2 = j
 ·subst hj
  rw [if_pos rfl]
  by_cases hn : k / 2 < n
  ·rw [if_pos (by rw [rowU_len];exact hn),rowU,List.getElem?_map,List.getElem?_range hn]
   simp only [Option.map_some];rw [h2]
  ·rw [if_neg (by rw [rowU_len];exact hn),List.getElem?_eq_none (by rw [rowU_len];omega)]
 ·rw [if_neg hj]
  unfold rowU
  rw [List.getElem?_map,List.getElem?_map]
  by_cases hn : j < n
  ·rw [List.getElem?_range hn]
   simp only [Option.map_some];rw [h3 j (Ne.symm hj)]
  ·rw [List.getElem?_eq_none (by simp;omega)];rfl
theorem bC_set (l : List UInt8) (i : Nat) (x : UInt8) : (bC l).set i (.int .u8 (x.toNat : Int)) = bC (l.set i x):=by
 unfold bC;rw [List.map_set]
theorem bC_zero (n : Nat) : madeCells (Value.int .u8 0).cells (n * 1) = (bC (rowU [] 0 n)).toArray:=by
 apply Array.ext'
 simp only [madeCells,bC,rowU,Nat.mul_one,Array.toList_map,Array.toList_range,List.map_map]
 apply List.map_congr_left
 intro j hj
 simp [cellU,Value.cells,Nat.mod_one]
theorem rowU_zero (s : List UInt8) (n : Nat) : rowU [] 0 n = rowU s 0 n:=by
 unfold rowU cellU;simp
theorem info_u8q : (Tryz.prog.info? 5).map (fun i=>(i.zero,i.size,i.bytes)) = some (some (.int .u8 0),1,1):=by kernel_rfl
theorem make_u8 (n : Nat) (hn : n ≤ 1000000) (w : World) : (Instr.makeSlice 76 (.int .i64 (n : Int)) (.int .i64 (n : Int))).run Tryz.prog w = .ok (.slice (some ⟨w.heap.size,0,none⟩) n n) (w.alloc (.cells (bC (rowU [] 0 n)).toArray 5)):=by
 obtain ⟨i0,hi0,hz0,hz1,hz2⟩:=info_parts info_u8q
 have h:=run_makeSlice w 76 5 i0 (.int .u8 0) Tryz.underlying76 hi0 hz0 .i64 .i64 (n : Int) (n : Int) (by omega) (by omega) (by rw [hz1,Int.toNat_natCast];omega) (by rw [hz2];omega) (by omega)
 rw [hz1,Int.toNat_natCast,bC_zero] at h
 exact h
theorem unB_odd {l : List UInt8} (h : l ≠ [45]) (ho : l.length % 2 ≠ 0) : unB l = false:=by
 unfold unB;rw [decide_eq_false h,decide_eq_false ho];simp
theorem unB_bad {l : List UInt8} {k : Nat} (h : l ≠ [45]) (hk : k < l.length) (hb : hvB l[k] = false) : unB l = false:=by
 unfold unB
 have : l.all hvB = false:=by rw [List.all_eq_false];exact ⟨l[k],List.getElem_mem hk,by simp [hb]⟩
 rw [decide_eq_false h,this];simp
theorem unB_good {l : List UInt8} (hne : l ≠ []) (he : l.length % 2 = 0) (hall : ∀ j (hj : j < l.length),hvB l[j] = true) : unB l = true:=by
 unfold unB
 have : l.all hvB = true:=by
  rw [List.all_eq_true];intro x hx
  obtain ⟨j,hj,rfl⟩:=List.mem_iff_getElem.1 hx
  exact hall j hj
 rw [this,decide_eq_true hne,decide_eq_true he];simp
theorem unV_bad {l : List UInt8} (h : unB l = false) : unV l = []:=by
 unfold unV;split
 ·rfl
 ·rw [if_neg (by rw [h];simp)]
theorem unV_good {l : List UInt8} (h45 : l ≠ [45]) (h : unB l = true) : unV l = unPair l:=by
 unfold unV;rw [if_neg h45,if_pos h]
def UnPost (l : List UInt8) (w : World) (e : Ending) (w' : World) : Prop:=e = .returned (.tuple #[.string (ba (unV l)),.bool (unB l)]) ∧ Below w.heap.size w w'
/-- Unhex at work. -/
structure UH (w : World) (s : ByteArray) (n g it k : Nat) (W : World) : Prop where
 bel : Below w.heap.size w W
 row : ObjAt W g 5 (bC (rowU s.data.toList k n))
 it_ : W.heap[it]? = some (.stringIter s k)
 ok : ∀ j (hj : j < s.data.toList.length),j < k → hvB s.data.toList[j] = true
theorem hv_iff (b : UInt8) : hvB b = true ↔ (48 ≤ b.toNat ∧ b.toNat ≤ 57) ∨ (97 ≤ b.toNat ∧ b.toNat ≤ 102):=by simp [hvB]
theorem unhex_any (s : ByteArray) (hs : s.size ≤ 1000000) (w : World) : Calls Tryz.prog 13 #[.string s] w (UnPost s.data.toList w):=by
 have ie:=toList_empty s
 have e45 : (s.toList == [45]) = decide (s.data.toList = [45]):=by rw [ByteArray.toList_eq,Bool.eq_iff_iff];simp
 by_cases h45 : s.data.toList = [45]
 ·rw [decide_eq_true h45] at e45
  have HP : Hid (∀ w',Below w.heap.size w w' → UnPost s.data.toList w (.returned (.tuple #[.string ⟨#[]⟩,.bool true])) w'):=fun w' hb=>⟨by rw [h45];rfl,hb⟩
  clear h45 ie
  go_enter Tryz.func13,Tryz.ntmps13
  go_wp2_with fail
  go_ret2
  exact HP.out _ (Below.refl _ _)
 ·rw [decide_eq_false h45] at e45
  have HBAD : Hid (∀ w',unB s.data.toList = false → Below w.heap.size w w' → UnPost s.data.toList w (.returned (.tuple #[.string ⟨#[]⟩,.bool false])) w'):=fun w' h hb=>⟨by rw [h,unV_bad h];rfl,hb⟩
  by_cases h0 : s.size = 0
  ·rw [decide_eq_true h0] at ie
   have HB:=Lib.hid (HBAD.out w (by rw [show s.data.toList = [] from List.eq_nil_of_length_eq_zero (by rw [ba_len];exact h0)];rfl) (Below.refl _ _))
   clear h0 h45 HBAD
   go_enter Tryz.func13,Tryz.ntmps13
   go_wp2_with fail
   go_ret2
   exact HB.out
  ·rw [decide_eq_false h0] at ie
   have hne : s.data.toList ≠ []:=fun e=>h0 (by rw [← ba_len,e];rfl)
   by_cases ho : s.size % 2 = 0
   ·obtain ⟨n,hn⟩ : ∃ n,s.size = 2 * n:=⟨s.size / 2,by omega⟩
    have m1 : (s.size : Int).tmod 2 = 0:=by rw [Int.tmod_eq_emod_of_nonneg (by omega)];omega
    have m2 : ((s.size : Int) % 2 != 0) = false:=by rw [bne_eq_false_iff_eq];omega
    have m3 : (s.size : Int) / 2 = (n : Int):=by omega
    have HMK:=Lib.hid (make_u8 n (by omega) w)
    obtain ⟨W1,hW1⟩ : ∃ W1,W1 = w.alloc (.cells (bC (rowU [] 0 n)).toArray 5):=⟨_,rfl⟩
    have hmk:=HMK.out
    rw [← hW1] at hmk
    have hb1 : Below w.heap.size w W1:=by rw [hW1];exact (Below.refl _ _).alloc (Nat.le_refl _) _
    have HO1 : Hid (ObjAt W1 w.heap.size 5 (bC (rowU s.data.toList 0 n))):=by rw [hW1,← rowU_zero s.data.toList n];exact ObjAt.new w _ _
    have hs1 : W1.heap.size = w.heap.size + 1:=by rw [hW1];exact World.size_alloc _ _
    have hbi : Below W1.heap.size W1 (W1.iter s 0):=(Below.refl _ _).alloc (Nat.le_refl _) _
    have HU0 : Hid (UH w s n w.heap.size W1.heap.size 0 (W1.iter s 0)):=⟨bmore hb1 hbi,HO1.out.below hbi,World.iter_heap W1 s 0,fun j _ hj=>by omega⟩
    have HGOOD : Hid (∀ w',(∀ j (hj : j < s.data.toList.length),hvB s.data.toList[j] = true) → Below w.heap.size w w' → UnPost s.data.toList w (.returned (.tuple #[.string (ba (unPair s.data.toList)),.bool true])) w'):=fun w' h hb=>by
     have hg:=unB_good hne (by rw [ba_len];exact ho) h
     exact ⟨by rw [hg,unV_good h45 hg],hb⟩
    have HBD : Hid (∀ k (hk : k < s.data.toList.length) w',hvB s.data.toList[k] = false → Below w.heap.size w w' → UnPost s.data.toList w (.returned (.tuple #[.string ⟨#[]⟩,.bool false])) w'):=fun k hk w' h hb=>HBAD.out w' (unB_bad h45 hk h) hb
    have HFU : Hid (rowU s.data.toList s.size n = unPair s.data.toList):=by rw [Hid,hn];exact rowU_full (by rw [ba_len,hn])
    have HN:=Lib.hid hn
    have HW1:=Lib.hid hW1
    have HS1:=Lib.hid hs1
    obtain ⟨it,hit⟩ : ∃ it,it = W1.heap.size:=⟨_,rfl⟩
    have HIT:=Lib.hid hit
    rw [← hit] at HU0
    have hsz : n ≤ 500000:=by omega
    clear h0 h45 HBAD ho hne hn hW1 hs1 hbi hb1 hit
    go_enter Tryz.func13,Tryz.ntmps13
    go_upto_region 7 with fail
    rw [← HIT.out]
    go_loopw [5] (fun _ wr=>∃ k : Nat,k ≤ s.size ∧ UH w s n w.heap.size it k wr) (fun _ wr=>s.size - wr.iterPos it)
    case atStart=>exact ⟨0,by omega,HU0.out⟩
    case round=>
     clear HU0
     obtain ⟨k,hk,hu⟩:=hrel
     have HU:=Lib.hid hu
     have hip:=iterPos_of hu.it_
     clear hu
     by_cases hlt : k < s.size
     ·have hb:=s[k].toNat_lt
      have hkl : k < s.data.toList.length:=by rw [ba_len];exact hlt
      have hgk : s.data.toList[k] = s[k]:=rfl
      by_cases hdig : hvB s[k] = true
      ·have hd:=(hv_iff _).1 hdig
       have hok : ∀ j (hj : j < s.data.toList.length),j < k + 1 → hvB s.data.toList[j] = true:=fun j hj hjk=>by
        by_cases e : j = k
        ·subst e;exact hdig
        ·exact HU.out.ok j hj (by omega)
       obtain ⟨s1,s2,s3⟩:=cellU_step hkl hok
       have hst:=rowU_step (n:=n) hkl hok
       rw [hgk] at s2 hst
       obtain ⟨old,hold⟩ : ∃ o,o = cellU s.data.toList k (k / 2):=⟨_,rfl⟩
       rw [← hold] at s1 s2 hst
       obtain ⟨hv,hhv⟩ : ∃ h,h = hvN s[k]:=⟨_,rfl⟩
       have hv16 : hv < 16:=by rw [hhv];exact hvN_lt hdig
       rw [← hhv] at s2 hst
       have hk2 : k / 2 < n:=by have:=HN.out;omega
       have hcell : (bC (rowU s.data.toList k n))[k / 2]? = some (.int .u8 (old : Int)):=by
        unfold bC rowU
        rw [List.getElem?_map,List.getElem?_map,List.getElem?_range hk2]
        simp only [Option.map_some]
        rw [← hold];congr 2;simp;omega
       obtain ⟨W2,hW2⟩ : ∃ W2,W2 = wr.iterAt it s (k + 1):=⟨_,rfl⟩
       have hnx:=fun ty=>Lib.run_next_ascii_at (P:=Tryz.prog) wr it s k ty HU.out.it_ hlt (by omega)
       rw [← hW2] at hnx
       have hne2 : w.heap.size ≠ it:=by rw [HIT.out,HS1.out];omega
       have HR2 : Hid (ObjAt W2 w.heap.size 5 (bC (rowU s.data.toList k n))):=by
        rw [Hid,hW2];exact (Lib.iterAt_other wr it w.heap.size s (k + 1) hne2).trans HU.out.row
       have HI2 : Hid (W2.heap[it]? = some (.stringIter s (k + 1))):=by rw [Hid,hW2];exact Lib.iterAt_heap wr it s k (k + 1) HU.out.it_
       have HB2 : Hid (Below w.heap.size w W2):=by rw [Hid,hW2];exact Lib.below_iterAt HU.out.bel (by rw [HIT.out,HS1.out];omega) s (k + 1)
       have cc:=HR2.out.cell (k / 2) _ hcell
       have ff:=HR2.out.free (k / 2)
       have HVAL:=fun W=>Lib.hid (value_yes s[k].toNat hd W)
       have hif : (if s[k].toNat ≤ 57 then s[k].toNat - 48 else s[k].toNat - 87) = hv:=by rw [hhv];rfl
       rw [hif] at HVAL
       have q2 : (k : Int) / 2 < (n : Int):=by omega
       have q3 : (0 : Int) ≤ (k : Int) / 2:=by omega
       have x1 : IntKind.u8.wrap ((old : Int) * 16) = (old : Int) * 16:=by rw [IntKind.wrap_u8];omega
       have x2 : IntKind.u8.wrap (hv : Int) = (hv : Int):=by rw [IntKind.wrap_u8];omega
       have x3 : IntKind.u8.wrap ((old : Int) * 16 + (hv : Int)) = (old : Int) * 16 + (hv : Int):=by rw [IntKind.wrap_u8];omega
       have HNEW : Hid ((bC (rowU s.data.toList k n)).set (k / 2) (.int .u8 ((old : Int) * 16 + (hv : Int))) = bC (rowU s.data.toList (k + 1) n)):=by
        rw [Hid,hst,← bC_set];congr 2;simp;omega
       have HOK:=Lib.hid hok
       clear hok hst s2 s3 hold hhv hcell hW2 hif hd hdig hgk
       go_wp2_with (go_at_call 33;refine ((HVAL _).out).mono ?_;rintro e Wv ⟨rfl,rfl⟩)
       have HU3 : Hid (UH w s n w.heap.size it (k + 1) (W2.setCell ⟨w.heap.size,k / 2,none⟩ (.int .u8 ((old : Int) * 16 + (hv : Int))))):=
        ⟨HB2.out.trans ((Upd.setCell W2 ⟨w.heap.size,k / 2,none⟩ _).below (Nat.le_refl _) HB2.out.size),by rw [← HNEW.out];exact HR2.out.set (k / 2) _,((Upd.setCell W2 ⟨w.heap.size,k / 2,none⟩ _).block it (Array.getElem?_eq_some_iff.1 HI2.out).1 (by intro e;injection e with e;exact hne2 e.symm)).trans HI2.out,HOK.out⟩
       go_roundw
       case rel=>exact ⟨k + 1,by omega,HU3.out⟩
       case measure=>
        rw [iterPos_of HU3.out.it_]
        omega
      ·have hdf : hvB s[k] = false:=by simpa using hdig
       have hnd:=(not_congr (hv_iff s[k])).1 hdig
       have HFIN : Hid (∀ w',Below w.heap.size w w' → UnPost s.data.toList w (.returned (.tuple #[.string ⟨#[]⟩,.bool false])) w'):=fun w' hb=>HBD.out k hkl w' hdf hb
       have hitn : w.heap.size ≤ it:=by rw [HIT.out,HS1.out];omega
       have HIT2:=Lib.hid hitn
       by_cases h3 : s[k].toNat < 128
       ·have hnx:=fun ty=>Lib.run_next_ascii_at (P:=Tryz.prog) wr it s k ty HU.out.it_ hlt h3
        have HVAL:=fun W=>Lib.hid (value_no s[k].toNat hnd W)
        have HB2 : Hid (Below w.heap.size w (wr.iterAt it s (k + 1))):=Lib.below_iterAt HU.out.bel hitn s (k + 1)
        generalize wr.iterAt it s (k + 1) = W2 at hnx HB2
        clear hdig hdf hnd h3 hgk hip hitn
        go_wp2_with (go_at_call 33;refine ((HVAL _).out).mono ?_;rintro e Wv ⟨rfl,rfl⟩)
        go_ret2
        exact HFIN.out _ HB2.out
       ·have hnx:=fun ty=>Lib.run_next_any_at (P:=Tryz.prog) wr it s k ty HU.out.it_ hlt
        have hhi:=decode_high s k hlt (by omega)
        have HB2 : Hid (Below w.heap.size w (wr.iterAt it s (k + (Utf8.decode s k).2))):=Lib.below_iterAt HU.out.bel hitn s _
        generalize wr.iterAt it s (k + (Utf8.decode s k).2) = W2 at hnx HB2
        generalize (Utf8.decode s k).1 = dc' at hnx hhi
        have HVAL:=fun W=>Lib.hid (value_no dc' (by omega) W)
        clear hdig hdf hnd h3 hhi hgk hip hitn
        go_wp2_with (go_at_call 33;refine ((HVAL _).out).mono ?_;rintro e Wv ⟨rfl,rfl⟩)
        go_ret2
        exact HFIN.out _ HB2.out
     ·obtain rfl : k = s.size:=by omega
      have hnx:=fun ty=>Lib.run_next_end_at (P:=Tryz.prog) wr it s s.size ty HU.out.it_ (by omega)
      have HROW : Hid (ObjAt wr w.heap.size 5 (bC (unPair s.data.toList))):=by rw [Hid,← HFU.out];exact HU.out.row
      have hlu : (unPair s.data.toList).length = n:=pair_len n _ (by rw [ba_len,HN.out])
      have hconv:=run_own_str wr w.heap.size n (some ⟨w.heap.size,0,none⟩) n (unPair s.data.toList) (own_cells HROW.out (by rw [bC_len,hlu]) (Nat.le_refl _) (by unfold maxLen;omega))
      have HFIN:=Lib.hid (HGOOD.out wr (fun j hj=>HU.out.ok j hj (by rw [ba_len] at hj;exact hj)) HU.out.bel)
      clear hlu hip
      go_wp2_with fail
      go_ret2
      exact HFIN.out
   ·have m2 : ((s.size : Int) % 2 != 0) = true:=by rw [bne_iff_ne];omega
    have HB:=Lib.hid (HBAD.out w (unB_odd h45 (by rw [ba_len];exact ho)) (Below.refl _ _))
    clear h0 h45 HBAD ho hne
    go_enter Tryz.func13,Tryz.ntmps13
    go_wp2_with fail
    go_ret2
    exact HB.out
end Go.Proofs.YtoklonmiejdgmaaGreatDoor
/- Labels for chapter 4. -/
namespace Go.Proofs.YtoklonmiejdgmaaGreatDoor
set_option linter.unusedVariables false
set_option linter.unusedSimpArgs false
set_option linter.unnecessarySimpa false
open Go.RowKit
set_option maxHeartbeats 400000
set_option maxRecDepth 100000
def isB (l : Int) : Bool:=decide (0 ≤ l) && decide (l ≤ 255)
theorem isB_iff (l : Int) : isB l = true ↔ 0 ≤ l ∧ l ≤ 255:=by simp [isB]
theorem isB_iff' (l : Int) : isB l = false ↔ ¬ (0 ≤ l ∧ l ≤ 255):=by rw [← isB_iff];simp
def flB (a b : Int) : Bool:=isB a && isB b && (andN a.toNat b.toNat == 0)
theorem is_any (l : Int) (w : World) :
  Calls Tryz.prog 154 #[.int .i64 l] w fun e w'=>e = .returned (.bool (isB l)) ∧ w = w':=by
 by_cases h : 0 ≤ l
 ·have h1 : decide (0 ≤ l) = true:=by simpa using h
  go_enter Tryz.func154,Tryz.ntmps154
  go_wp2
  go_ret
  simp [isB,h]
 ·have h1 : decide (0 ≤ l) = false:=by simpa using h
  go_enter Tryz.func154,Tryz.ntmps154
  go_wp2
  go_ret
  simp [isB];omega
theorem flows_any (a b : Int) (w : World) :
  Calls Tryz.prog 136 #[.int .i64 a,.int .i64 b] w fun e w'=>e = .returned (.bool (flB a b)) ∧ w = w':=by
 by_cases ha : isB a = true
 ·by_cases hb : isB b = true
  ·go_enter Tryz.func136,Tryz.ntmps136
   go_wp2_with (go_at_call 154;refine (is_any _ _).mono ?_;rintro e w' ⟨rfl,rfl⟩)
   go_ret
   obtain ⟨ha1,ha2⟩:=(isB_iff a).1 ha
   obtain ⟨hb1,hb2⟩:=(isB_iff b).1 hb
   obtain ⟨m,rfl⟩:=Int.eq_ofNat_of_zero_le ha1
   obtain ⟨n,rfl⟩:=Int.eq_ofNat_of_zero_le hb1
   rw [i64_andNot m n (by omega) (by omega)]
   refine ⟨ret_bool ?_,rfl⟩
   rw [Bool.eq_iff_iff]
   simp only [flB,ha,hb,Int.toNat_natCast,Bool.true_and,beq_iff_eq]
   omega
  ·simp only [Bool.not_eq_true] at hb
   go_enter Tryz.func136,Tryz.ntmps136
   go_wp2_with (go_at_call 154;refine (is_any _ _).mono ?_;rintro e w' ⟨rfl,rfl⟩)
   go_ret
   simp [flB,ha,hb]
 ·simp only [Bool.not_eq_true] at ha
  go_enter Tryz.func136,Tryz.ntmps136
  go_wp2_with (go_at_call 154;refine (is_any _ _).mono ?_;rintro e w' ⟨rfl,rfl⟩)
  go_ret
  simp [flB,ha]
def validB (l cats : Int) : Bool:=decide (0 ≤ cats) && decide (cats ≤ 8) && decide (0 ≤ l) && decide (l < 2 ^ cats.toNat)
theorem valid_any (l cats : Int) (w : World) :
  Calls Tryz.prog 128 #[.int .i64 l,.int .i64 cats] w fun e w'=>e = .returned (.bool (validB l cats)) ∧ w = w':=by
 by_cases h1 : cats < 0
 ·go_enter Tryz.func128,Tryz.ntmps128
  go_wp2_with (go_at_call 154;refine (is_any _ _).mono ?_;rintro e w' ⟨rfl,rfl⟩)
  go_ret
  exact ⟨ret_bool (by simp [validB];omega),rfl⟩
 ·by_cases h2 : 8 < cats
  ·go_enter Tryz.func128,Tryz.ntmps128
   go_wp2_with (go_at_call 154;refine (is_any _ _).mono ?_;rintro e w' ⟨rfl,rfl⟩)
   go_ret
   exact ⟨ret_bool (by simp [validB];omega),rfl⟩
  ·obtain ⟨c,rfl⟩:=Int.eq_ofNat_of_zero_le (show 0 ≤ cats by omega)
   have hp : (2 : Nat) ^ c ≤ 2 ^ 8:=Nat.pow_le_pow_right (by decide) (by omega)
   have hp2 : 0 < (2 : Nat) ^ c:=Nat.pow_pos (by decide)
   by_cases hl : isB l = true
   ·obtain ⟨l1,l2⟩:=(isB_iff l).1 hl
    obtain ⟨m,rfl⟩:=Int.eq_ofNat_of_zero_le l1
    have e : ((m : Int) < 2 ^ c) ↔ m < 2 ^ c:=by rw [show (2 : Int) ^ c = ((2 ^ c : Nat) : Int) from by simp];omega
    have e2 : ((m : Int) / 2 ^ c == 0) = decide (m < 2 ^ c):=by
     rw [show (m : Int) / 2 ^ c = ((m / 2 ^ c : Nat) : Int) from by simp,Bool.eq_iff_iff]
     simp only [beq_iff_eq,decide_eq_true_eq]
     rw [← Nat.div_eq_zero_iff_lt hp2]
     omega
    have E:=Lib.hid e;have E2:=Lib.hid e2
    clear e e2 hp hp2
    go_enter Tryz.func128,Tryz.ntmps128
    go_wp2_with (go_at_call 154;refine (is_any _ _).mono ?_;rintro e w' ⟨rfl,rfl⟩)
    go_ret
    refine ⟨ret_bool (E2.out.trans ?_),rfl⟩
    rw [Bool.eq_iff_iff]
    simp only [validB,Int.toNat_natCast,Bool.and_eq_true,decide_eq_true_eq,E.out]
    omega
   ·simp only [Bool.not_eq_true] at hl
    have hl2:=(isB_iff' l).1 hl
    have H2:=Lib.hid hl2
    have HP:=Lib.hid hp
    clear hl2 hp hp2
    go_enter Tryz.func128,Tryz.ntmps128
    go_wp2_with (go_at_call 154;refine (is_any _ _).mono ?_;rintro e w' ⟨rfl,rfl⟩)
    go_ret
    refine ⟨ret_bool ?_,rfl⟩
    have h3:=H2.out
    have h4:=HP.out
    by_cases h5 : 0 ≤ l
    ·have h6 : ¬ l < ((2 ^ c : Nat) : Int):=by simp only [Nat.reducePow] at h4;omega
     simp only [Int.natCast_pow,Int.cast_ofNat_Int] at h6
     simp [validB,h6]
    ·simp [validB,h5]
theorem Is_any (l : Int) (w : World) :
  Calls Tryz.prog 160 #[.int .i64 l] w fun e w'=>e = .returned (.bool (isB l)) ∧ w = w':=by
 by_cases h : 0 ≤ l
 ·have h1 : decide (0 ≤ l) = true:=by simpa using h
  go_enter Tryz.func160,Tryz.ntmps160
  go_wp2
  go_ret
  refine ⟨ret_bool ?_,rfl⟩
  rw [Bool.eq_iff_iff];simp [isB,h];omega
 ·have h1 : decide (0 ≤ l) = false:=by simpa using h
  go_enter Tryz.func160,Tryz.ntmps160
  go_wp2
  go_ret
  simp [isB];omega
theorem has_any (l c : Nat) (hl : l < 9223372036854775808) (hc : c < 64) (w : World) :
  Calls Tryz.prog 161 #[.int .i64 l,.int .i64 c] w fun e w'=>e = .returned (.bool (l.testBit c)) ∧ w = w':=by
 go_enter Tryz.func161,Tryz.ntmps161
 go_wp2
 go_ret
 exact ⟨ret_bool (bit_eq l c hl),rfl⟩
def flR (a b : Nat) (k : Nat) : Bool:=decide (∀ c,c < k → a.testBit c = true → b.testBit c = true)
def flowsR (a b : Int) : Bool:=isB a && isB b && flR a.toNat b.toNat 8
theorem flR_succ (a b k : Nat) : flR a b (k + 1) = (flR a b k && !(a.testBit k && !b.testBit k)):=by
 rw [Bool.eq_iff_iff]
 simp only [flR,decide_eq_true_eq,Bool.and_eq_true,Bool.not_eq_true',Bool.and_eq_false_iff,Bool.not_eq_false']
 constructor
 ·intro h
  refine ⟨fun c hc=>h c (by omega),?_⟩
  cases e : a.testBit k
  ·exact .inl rfl
  ·exact .inr (h k (by omega) e)
 ·rintro ⟨h1,h2⟩ c hc ha
  by_cases e : c = k
  ·subst e;rcases h2 with h2 | h2
   ·rw [h2] at ha;cases ha
   ·exact h2
  ·exact h1 c (by omega) ha
theorem flR_lt (a b n k : Nat) (h : k ≤ n) (hf : flR a b k = false) : flR a b n = false:=by
 simp only [flR,decide_eq_false_iff_not] at hf ⊢
 exact fun hn=>hf fun c hc=>hn c (by omega)
theorem Flows_ref (a b : Int) (w : World) :
    Calls Tryz.prog 150 #[.int .i64 a,.int .i64 b] w fun e w'=>e = .returned (.bool (flowsR a b)) ∧ w = w':=by
  by_cases ha : isB a = true
  · by_cases hb : isB b = true
    · obtain ⟨a1,a2⟩:=(isB_iff a).1 ha
      obtain ⟨b1,b2⟩:=(isB_iff b).1 hb
      obtain ⟨m,rfl⟩:=Int.eq_ofNat_of_zero_le a1
      obtain ⟨n,rfl⟩:=Int.eq_ofNat_of_zero_le b1
      have hE : flowsR (m : Int) (n : Int) = flR m n 8:=by simp [flowsR,ha,hb]
      have HE:=Lib.hid hE;clear hE
      go_enter Tryz.func150,Tryz.ntmps150
      go_wp2_with (go_at_call 160;refine (Is_any _ _).mono ?_;rintro e w' ⟨rfl,rfl⟩)
      go_loop [5] (fun i=>∃ k : Nat,k ≤ 8 ∧ i = .int .i64 k ∧ flR m n k = true) (fun i=>8 - (intOf i).toNat)
      case atStart=>exact ⟨0,by omega,rfl,by simp [flR]⟩
      case round=>
        obtain ⟨k,hk,rfl,hf⟩:=hrel
        have HF:=Lib.hid hf;clear hf
        by_cases hlt : k < 8
        · have HS:=Lib.hid (flR_succ m n k)
          cases hx : m.testBit k <;> cases hy : n.testBit k
          all_goals
            go_wp2_with (go_at_call 161;refine (has_any _ k (by omega) (by omega) _).mono ?_;rintro e w' ⟨rfl,rfl⟩)
            first
              | (go_round
                 case rel=>exact ⟨k + 1,by omega,by go_num,by rw [HS.out,HF.out,hx,hy];rfl⟩
                 case measure=>simp [intOf];omega)
              | (go_ret
                 exact ⟨ret_bool (by rw [HE.out];have:=flR_lt m n 8 (k + 1) (by omega) (by rw [HS.out,hx,hy];simp);simp [this]),rfl⟩)
        · obtain rfl : k = 8:=by omega
          go_wp2_with fail
          go_ret
          exact ⟨ret_bool (by rw [HE.out,HF.out]),rfl⟩
    · simp only [Bool.not_eq_true] at hb
      go_enter Tryz.func150,Tryz.ntmps150
      go_wp2_with (go_at_call 160;refine (Is_any _ _).mono ?_;rintro e w' ⟨rfl,rfl⟩)
      go_ret
      simp [flowsR,ha,hb]
  · simp only [Bool.not_eq_true] at ha
    go_enter Tryz.func150,Tryz.ntmps150
    go_wp2_with (go_at_call 160;refine (Is_any _ _).mono ?_;rintro e w' ⟨rfl,rfl⟩)
    go_ret
    simp [flowsR,ha]
theorem flowsR_eq (a b : Int) : flowsR a b = flB a b:=by
 cases ha : isB a
 ·simp [flowsR,flB,ha]
 ·cases hb : isB b
  ·simp [flowsR,flB,ha,hb]
  ·have h1:=(isB_iff a).1 ha
   have h2:=(isB_iff b).1 hb
   simp only [flowsR,flB,ha,hb,Bool.true_and]
   have ha2 : a.toNat < 256:=by omega
   have hb2 : b.toNat < 256:=by omega
   generalize a.toNat = m at *
   generalize b.toNat = n at *
   rw [Bool.eq_iff_iff]
   simp only [flR,decide_eq_true_eq,beq_iff_eq]
   have hd : andN m n < 256:=Nat.xor_lt_two_pow (n:=8) (by omega) (Nat.lt_of_le_of_lt Nat.and_le_left (by omega))
   constructor
   ·intro h
    refine eq_of_bits8 _ _ hd (by decide) fun c hc=>?_
    rw [andN_testBit,Nat.zero_testBit]
    cases hx : m.testBit c
    ·rfl
    ·rw [h c hc hx];rfl
   ·intro h c hc hx
    have:=andN_testBit m n c
    rw [h,Nat.zero_testBit,hx] at this
    simpa using this.symm
theorem Valid_ref (l cats : Int) (w : World) :
  Calls Tryz.prog 147 #[.int .i64 l,.int .i64 cats] w fun e w'=>e = .returned (.bool (validB l cats)) ∧ w = w':=by
 by_cases h1 : cats < 0
 ·go_enter Tryz.func147,Tryz.ntmps147
  go_wp2
  go_ret
  exact ⟨ret_bool (by simp [validB];omega),rfl⟩
 ·by_cases h2 : 8 < cats
  ·have h3 : decide (cats ≤ 8) = false:=by simp;omega
   go_enter Tryz.func147,Tryz.ntmps147
   go_wp2
   go_ret
   exact ⟨ret_bool (by simp [validB];omega),rfl⟩
  ·obtain ⟨c,rfl⟩:=Int.eq_ofNat_of_zero_le (show 0 ≤ cats by omega)
   have hp : (2 : Nat) ^ c ≤ 2 ^ 8:=Nat.pow_le_pow_right (by decide) (by omega)
   have e : wrap64 (2 ^ c) = 2 ^ c:=by
    have e2 : (2 : Int) ^ c = ((2 ^ c : Nat) : Int):=by simp
    simp only [Nat.reducePow] at hp
    rw [e2,IntWalk.wrap64_in]
    generalize 2 ^ c = z at hp ⊢
    omega
   clear hp
   by_cases hl : 0 ≤ l
   ·have hl2 : decide (0 ≤ l) = true:=by simpa using hl
    go_enter Tryz.func147,Tryz.ntmps147
    go_wp2
    go_ret
    exact ⟨ret_bool (by simp [validB,hl];omega),rfl⟩
   ·have hl2 : decide (0 ≤ l) = false:=by simpa using hl
    go_enter Tryz.func147,Tryz.ntmps147
    go_wp2
    go_ret
    exact ⟨ret_bool (by simp [validB];omega),rfl⟩
end Go.Proofs.YtoklonmiejdgmaaGreatDoor
/- Package label and its reference: texts. -/
namespace Go.Proofs.YtoklonmiejdgmaaGreatDoor
set_option linter.unusedVariables false
set_option linter.unusedSimpArgs false
set_option linter.unnecessarySimpa false
open Go.RowKit
set_option maxHeartbeats 400000
set_option maxRecDepth 100000
/-- The letters of the categories below k. -/
def lett (l k : Nat) : List Int:=List.map (fun (c : Nat)=>97 + (c : Int)) ((List.range k).filter (fun c=>l.testBit c))
theorem lett_succ (l k : Nat) : lett l (k + 1) = lett l k ++ (if l.testBit k then [97 + (k : Int)] else []):=by
 simp only [lett,List.range_succ,List.filter_append,List.map_append]
 congr 1
 cases h : l.testBit k <;> simp [List.filter,h]
theorem lett_len (l k : Nat) : (lett l k).length ≤ k:=by
 simp only [lett,List.length_map]
 exact Nat.le_trans (List.length_filter_le _ _) (by simp)
theorem info_u8 : (Tryz.prog.info? 5).map (fun i=>(i.zero,i.size,i.bytes)) = some (some (.int .u8 0),1,1):=by kernel_rfl
/-- What 'letters' leaves. -/
def LetPost (l : Nat) (w : World) (e : Ending) (w' : World) : Prop:=∃ v,e = .returned v ∧ w'.ownsRow w.heap.size 5 1 v (lett l 8).length ((lett l 8).map (Value.int .u8)) ∧ Below w.heap.size w w'
set_option maxRecDepth 100000 in
theorem letters_any (l : Nat) (hl : l < 256) (w : World) :
  Calls Tryz.prog 155 #[.int .i64 l] w (LetPost l w):=by
 obtain ⟨i0,hi,hz0,hz1,hz2⟩:=info_parts info_u8
 go_enter Tryz.func155,Tryz.ntmps155
 go_wp2
 go_loopw [3,5] (fun v i wr=>∃ k : Nat,k ≤ 8 ∧ i = .int .i64 k ∧ wr.ownsRow w.heap.size 5 1 v (lett l k).length ((lett l k).map (Value.int .u8)) ∧ Below w.heap.size w wr) (fun _ i _=>8 - (intOf i).toNat)
 case atStart=>exact ⟨0,by omega,rfl,(World.ownsRow_nil w _ _ _ : _),Below.refl _ _⟩
 case round=>
  obtain ⟨k,hk,rfl,hown,hb⟩:=hrel
  have hlen:=lett_len l k
  by_cases hlt : k < 8
  ·have HL:=Lib.hid (lett_succ l k)
   have hbe:=bit_eq l k (by omega)
   by_cases hbit : l.testBit k = true
   ·rw [hbit] at hbe
    have HB:=Lib.hid hbit;clear hbit
    go_wp2_with (at_builtin;refine wpList_append_own _ rfl _ _ 76 rfl w.heap.size 5 i0 (.int .u8 0) 1 1 Tryz.underlying76 hi hz0 hz1 hz2 rfl (by decide) _ _ _ rfl (hown.alloc _) ⟨wr.heap.size,0,none⟩ 1 1 [.int .u8 (97 + (k : Int))] rfl rfl (cell_one_new _ _ _) ?c2 ?c3 ?c4 ?c5 ?_)
    case c2=>intro u hu;simp at hu;subst hu;rfl
    case c3=>unfold maxLen;omega
    case c4=>omega
    case c5=>have:=hb.size;simp;omega
    intro v' w1 hown1 hgrow _
    have R1 : w1.ownsRow w.heap.size 5 1 v' (lett l (k + 1)).length ((lett l (k + 1)).map (Value.int .u8)):=by
     rw [HL.out,if_pos HB.out]
     simpa using hown1
    have hb1 : Below w.heap.size w w1:=(hb.alloc hb.size _).grown hgrow (by have:=hb.size;simp;omega) (fun j hj=>(hown.lt j hj).1)
    clear hown1 hgrow hown
    go_wp2
    go_roundw
    case rel=>exact ⟨k + 1,by omega,by go_num,R1,hb1⟩
    case measure=>simp [intOf];omega
   ·simp only [Bool.not_eq_true] at hbit
    rw [hbit] at hbe
    go_wp2
    go_roundw
    case rel=>exact ⟨k + 1,by omega,by go_num,(by rw [HL.out,hbit];simpa using hown),hb⟩
    case measure=>simp [intOf];omega
  ·obtain rfl : k = 8:=by omega
   go_wp2
   go_ret
   exact ⟨_,rfl,hown,hb⟩
theorem foldl_push (ns : List Int) : ∀ (s : ByteArray),(ns.foldl (fun r n=>r.push (UInt8.ofNat n.toNat)) s) = ⟨(s.data.toList ++ ns.map (fun n=>UInt8.ofNat n.toNat)).toArray⟩:=by
 induction ns with
 | nil=>intro s;simp
 | cons n ns ih=>intro s;rw [List.foldl_cons,ih];simp [ByteArray.push]
/-- The text of a list of bytes. -/
def bstr (l : List Int) : ByteArray:=⟨(l.map (fun n=>UInt8.ofNat n.toNat)).toArray⟩
theorem run_own_string {P : Program} (w : World) (src dst e : TypeId) (base n : Nat) (v : Value) (xs : List Int)
  (hs : P.underlying src = some (.slice e)) (he : P.underlying e = some (.int .u8)) (hd : P.underlying dst = some .string)
  (hown : w.ownsRow base e 1 v n (xs.map (Value.int .u8))) :
  (convert src dst v).run P w = .ok (.string (bstr xs)) w:=by
 have hn : n = xs.length:=by have:=hown.1;simp at this;omega
 have hcells:=fun g (hg : v.ownBlock = some g)=>hown.cells hg
 rcases hown.2 with ⟨rfl,h0⟩ | ⟨g,cap,cur,rfl,hb,hg,hnc,hcm,hcs,htake⟩
 ·have hx : xs = []:=List.eq_nil_of_length_eq_zero (by omega)
  subst hx
  rw [run_convert_bytes_string w src dst e none 0 0 hs he hd]
  rfl
 ·rw [run_convert_bytes_string w src dst e _ n cap hs he hd]
  rw [run_bytesToString w ⟨g,0,none⟩ n cap xs ?_,foldl_push]
  ·rfl
  ·rw [hn]
   have:=run_loadCells_list (P:=P) w ⟨g,0,none⟩ (xs.map (Value.int .u8)) (hcells g rfl)
   simpa using this
def lbS (l : Int) : ByteArray:=if isB l then (if l = 0 then ⟨#[45]⟩ else bstr (lett l.toNat 8)) else ⟨#[]⟩
def lbE (l : Int) : Int:=if isB l then 0 else 1
theorem ltext_any (l : Int) (w : World) :
  Calls Tryz.prog 111 #[.int .i64 l] w fun e w'=>e = .returned (.tuple #[.string (lbS l),.int .i64 (lbE l)]) ∧ Below w.heap.size w w':=by
 by_cases hl : isB l = true
 ·by_cases h0 : l = 0
  ·subst h0
   go_enter Tryz.func111,Tryz.ntmps111
   go_wp2_with (go_at_call 154;refine (is_any _ _).mono ?_;rintro e w' ⟨rfl,rfl⟩)
   go_ret2
   exact ⟨by simp [lbS,lbE,hl],Below.refl _ _⟩
  ·obtain ⟨l1,l2⟩:=(isB_iff l).1 hl
   obtain ⟨m,rfl⟩:=Int.eq_ofNat_of_zero_le l1
   have hz : ((m : Int) == 0) = false:=by simpa using h0
   have hm : m ≠ 0:=by omega
   go_enter Tryz.func111,Tryz.ntmps111
   go_wp2_with (first | (go_at_call 154;refine (is_any _ _).mono ?_;rintro e w' ⟨rfl,rfl⟩) | (go_at_call 155;refine (letters_any m (by omega) _).mono ?_;rintro e w1 ⟨v,rfl,hown,hb⟩;have hcv:=run_own_string (P:=Tryz.prog) w1 76 9 5 _ _ v _ Tryz.underlying76 Tryz.underlying5 Tryz.underlying9 hown))
   go_ret2
   exact ⟨by simp [lbS,lbE,hl,hm],hb⟩
 ·simp only [Bool.not_eq_true] at hl
  go_enter Tryz.func111,Tryz.ntmps111
  go_wp2_with (go_at_call 154;refine (is_any _ _).mono ?_;rintro e w' ⟨rfl,rfl⟩)
  go_ret2
  exact ⟨by simp [lbS,lbE,hl],Below.refl _ _⟩
def parseGo : Nat → List UInt8 → Option Nat
 | l,[]=>if l = 0 then none else some l
 | l,b :: bs=>if b.toNat < 97 ∨ 105 ≤ b.toNat ∨ l / 2 ^ (b.toNat - 97) ≠ 0 then none else parseGo (l + 2 ^ (b.toNat - 97)) bs
def lbF (s : List UInt8) : Option Nat:=if s = [45] then some 0 else parseGo 0 s
def lbPV (s : List UInt8) : Int:=((lbF s).getD 0 : Nat)
def lbPE (s : List UInt8) : Int:=if (lbF s).isSome then 0 else 6
theorem or_pow (l c : Nat) (h : l / 2 ^ c = 0) : l ||| 2 ^ c = l + 2 ^ c:=by
 have hl : l < 2 ^ c:=by
  rcases Nat.div_eq_zero_iff.1 h with h1 | h1
  ·have:=Nat.pow_pos (a:=2) (n:=c) (by decide);omega
  ·exact h1
 have h2:=Nat.two_pow_add_eq_or_of_lt hl 1
 rw [Nat.mul_one] at h2
 rw [Nat.or_comm,Nat.add_comm]
 exact h2.symm
theorem parseGo_cons (x : Nat) (b : UInt8) (bs : List UInt8) : parseGo x (b :: bs) = if b.toNat < 97 ∨ 105 ≤ b.toNat ∨ x / 2 ^ (b.toNat - 97) ≠ 0 then none else parseGo (x + 2 ^ (b.toNat - 97)) bs:=rfl
theorem lparse_any (s : ByteArray) (hs : s.size ≤ maxLen) (w : World) :
  Calls Tryz.prog 124 #[.string s] w fun e w'=>e = .returned (.tuple #[.int .i64 (lbPV s.data.toList),.int .i64 (lbPE s.data.toList)]) ∧ w = w':=by
 unfold maxLen at hs
 by_cases h0 : (s.toList == [45]) = true
 ·have e0 : s.data.toList = [45]:=by rw [ByteArray.toList_eq] at h0;simpa using h0
  have E0:=Lib.hid e0;clear e0
  go_enter Tryz.func124,Tryz.ntmps124
  go_wp2
  go_ret2
  exact ⟨ret_two (by rw [lbPV,E0.out];rfl) (by rw [lbPE,E0.out];rfl),rfl⟩
 ·simp only [Bool.not_eq_true] at h0
  have e0 : ¬ s.data.toList = [45]:=by rw [ByteArray.toList_eq] at h0;simpa using h0
  have E0:=Lib.hid e0;clear e0
  go_enter Tryz.func124,Tryz.ntmps124
  go_wp2
  go_loop [4,11] (fun l i=>∃ k x : Nat,k ≤ s.size ∧ i = .int .i64 k ∧ l = .int .i64 x ∧ x < 256 ∧ lbF s.data.toList = parseGo x (s.data.toList.drop k)) (fun _ i=>s.size - (intOf i).toNat)
  case atStart=>exact ⟨0,0,by omega,rfl,rfl,by omega,by rw [lbF,if_neg E0.out];rfl⟩
  case round=>
   obtain ⟨k,x,hk,rfl,rfl,hx,he⟩:=hrel
   have HE:=Lib.hid he;clear he
   by_cases hlt : k < s.size
   ·have hb : s[k].toNat < 256:=s[k].toNat_lt
    have HD : Hid (lbF s.data.toList = if s[k].toNat < 97 ∨ 105 ≤ s[k].toNat ∨ x / 2 ^ (s[k].toNat - 97) ≠ 0 then none else parseGo (x + 2 ^ (s[k].toNat - 97)) (s.data.toList.drop (k + 1))):=by
     have : s.data.toList.drop k = s[k] :: s.data.toList.drop (k + 1):=List.drop_eq_getElem_cons (by simpa using hlt)
     rw [Hid,HE.out,this,parseGo_cons]
    by_cases h1 : s[k].toNat < 97
    ·have HN : Hid (lbF s.data.toList = none):=by rw [Hid,HD.out,if_pos (.inl h1)]
     go_wp2
     go_ret2
     exact ⟨ret_two (by rw [lbPV,HN.out];rfl) (by rw [lbPE,HN.out];rfl),rfl⟩
    ·by_cases h2 : 105 ≤ s[k].toNat
     ·have HN : Hid (lbF s.data.toList = none):=by rw [Hid,HD.out,if_pos (.inr (.inl h2))]
      go_wp2
      go_ret2
      exact ⟨ret_two (by rw [lbPV,HN.out];rfl) (by rw [lbPE,HN.out];rfl),rfl⟩
     ·by_cases h3 : x / 2 ^ (s[k].toNat - 97) = 0
      ·have HN : Hid (lbF s.data.toList = parseGo (x + 2 ^ (s[k].toNat - 97)) (s.data.toList.drop (k + 1))):=by rw [Hid,HD.out,if_neg (by omega)]
       have hp : 2 ^ (s[k].toNat - 97) ≤ 2 ^ 7:=Nat.pow_le_pow_right (by decide) (by omega)
       have ho:=or_pow x _ h3
       have hl : x ||| 2 ^ (s[k].toNat - 97) < 2 ^ 8:=Nat.or_lt_two_pow hx (Nat.pow_lt_pow_right (by decide) (by omega))
       have H1 : Hid (bits BinOp.or IntKind.i64 (x : Int) (wrap64 (2 ^ (s[k].toNat - 97))) = ((x + 2 ^ (s[k].toNat - 97) : Nat) : Int)):=by
        have e : wrap64 (2 ^ (s[k].toNat - 97)) = ((2 ^ (s[k].toNat - 97) : Nat) : Int):=by
         rw [IntWalk.wrap64_in]
         ·simp
         ·have e2 : (2 : Int) ^ (s[k].toNat - 97) = ((2 ^ (s[k].toNat - 97) : Nat) : Int):=by simp
          rw [e2];omega
        rw [Hid,e,i64_or _ _ (by omega) (by omega),ho]
       have hv : x + 2 ^ (s[k].toNat - 97) < 256:=by omega
       have HV:=Lib.hid hv
       have hz : ((x : Int) / 2 ^ (s[k].toNat - 97) != 0) = false:=by
        rw [show (x : Int) / 2 ^ (s[k].toNat - 97) = ((x / 2 ^ (s[k].toNat - 97) : Nat) : Int) from by simp,h3];rfl
       clear h3 hp ho hl hv HD
       go_wp2
       go_round
       case rel=>exact ⟨k + 1,_,by omega,by go_num,by rw [H1.out],HV.out,HN.out⟩
       case measure=>simp [intOf];omega
      ·have HN : Hid (lbF s.data.toList = none):=by rw [Hid,HD.out,if_pos (.inr (.inr h3))]
       have hz : ((x : Int) / 2 ^ (s[k].toNat - 97) != 0) = true:=by
        rw [show (x : Int) / 2 ^ (s[k].toNat - 97) = ((x / 2 ^ (s[k].toNat - 97) : Nat) : Int) from by simp]
        simp only [bne_iff_ne,ne_eq];omega
       clear h3 HD
       go_wp2
       go_ret2
       exact ⟨ret_two (by rw [lbPV,HN.out];rfl) (by rw [lbPE,HN.out];rfl),rfl⟩
   ·have HN : Hid (lbF s.data.toList = if x = 0 then none else some x):=by
     rw [Hid,HE.out,List.drop_eq_nil_of_le (by simp;omega)];rfl
    by_cases hx0 : x = 0
    ·have hz : ((x : Int) == 0) = true:=by simp;omega
     have HN2 : Hid (lbF s.data.toList = none):=by rw [Hid,HN.out,if_pos hx0]
     clear hx0 HN
     go_wp2
     go_ret2
     exact ⟨ret_two (by rw [lbPV,HN2.out];rfl) (by rw [lbPE,HN2.out];rfl),rfl⟩
    ·have hz : ((x : Int) == 0) = false:=by simp;omega
     have HN2 : Hid (lbF s.data.toList = some x):=by rw [Hid,HN.out,if_neg hx0]
     clear hx0 HN
     go_wp2
     go_ret2
     exact ⟨ret_two (by rw [lbPV,HN2.out];rfl) (by rw [lbPE,HN2.out];rfl),rfl⟩
/-- The text of a label, as bytes. -/
def lbL (l : Nat) : List UInt8:=if l = 0 then [45] else (lett l 8).map (fun n=>UInt8.ofNat n.toNat)
theorem lbS_nat (l : Nat) (h : l < 256) : lbS l = ⟨(lbL l).toArray⟩ ∧ lbE l = 0:=by
 have : isB (l : Int) = true:=(isB_iff _).2 (by omega)
 by_cases h0 : l = 0
 ·subst h0;exact ⟨rfl,rfl⟩
 ·simp [lbS,lbE,this,h0,lbL,bstr]
theorem LText_ref (l : Int) (w : World) :
  Calls Tryz.prog 114 #[.int .i64 l] w fun e w'=>e = .returned (.tuple #[.string (lbS l),.int .i64 (lbE l)]) ∧ Below w.heap.size w w':=by
 by_cases hl : isB l = true
 ·by_cases h0 : l = 0
  ·subst h0
   go_enter Tryz.func114,Tryz.ntmps114
   go_wp2_with (go_at_call 160;refine (Is_any _ _).mono ?_;rintro e w' ⟨rfl,rfl⟩)
   go_ret2
   exact ⟨by simp [lbS,lbE,hl],Below.refl _ _⟩
  ·obtain ⟨l1,l2⟩:=(isB_iff l).1 hl
   obtain ⟨m,rfl⟩:=Int.eq_ofNat_of_zero_le l1
   have hz : ((m : Int) == 0) = false:=by simpa using h0
   have hm : m ≠ 0:=by omega
   obtain ⟨i0,hi,hz0,hz1,hz2⟩:=info_parts info_u8
   go_enter Tryz.func114,Tryz.ntmps114
   go_wp2_with (go_at_call 160;refine (Is_any _ _).mono ?_;rintro e w' ⟨rfl,rfl⟩)
   go_loopw [4,5] (fun v i wr=>∃ k : Nat,k ≤ 8 ∧ i = .int .i64 k ∧ wr.ownsRow w.heap.size 5 1 v (lett m k).length ((lett m k).map (Value.int .u8)) ∧ Below w.heap.size w wr) (fun _ i _=>8 - (intOf i).toNat)
   case atStart=>exact ⟨0,by omega,rfl,(World.ownsRow_nil w _ _ _ : _),Below.refl _ _⟩
   case round=>
    obtain ⟨k,hk,rfl,hown,hb⟩:=hrel
    have hlen:=lett_len m k
    by_cases hlt : k < 8
    ·have HL:=Lib.hid (lett_succ m k)
     by_cases hbit : m.testBit k = true
     ·have HB:=Lib.hid hbit
      go_wp2_with (first | (go_at_call 161;refine (has_any m k (by omega) (by omega) _).mono ?_;rintro e w' ⟨rfl,rfl⟩) | (at_builtin;refine wpList_append_own _ rfl _ _ 76 rfl w.heap.size 5 i0 (.int .u8 0) 1 1 Tryz.underlying76 hi hz0 hz1 hz2 rfl (by decide) _ _ _ rfl (hown.alloc _) ⟨wr.heap.size,0,none⟩ 1 1 [.int .u8 (97 + (k : Int))] rfl rfl (cell_one_new _ _ _) ?c2 ?c3 ?c4 ?c5 ?_))
      case c2=>intro u hu;simp at hu;subst hu;rfl
      case c3=>unfold maxLen;omega
      case c4=>omega
      case c5=>have:=hb.size;simp;omega
      intro v' w1 hown1 hgrow _
      have R1 : w1.ownsRow w.heap.size 5 1 v' (lett m (k + 1)).length ((lett m (k + 1)).map (Value.int .u8)):=by
       rw [HL.out,if_pos HB.out]
       simpa using hown1
      have hb1 : Below w.heap.size w w1:=(hb.alloc hb.size _).grown hgrow (by have:=hb.size;simp;omega) (fun j hj=>(hown.lt j hj).1)
      clear hown1 hgrow hown
      go_wp2
      go_roundw
      case rel=>exact ⟨k + 1,by omega,by go_num,R1,hb1⟩
      case measure=>simp [intOf];omega
     ·simp only [Bool.not_eq_true] at hbit
      go_wp2_with (go_at_call 161;refine (has_any m k (by omega) (by omega) _).mono ?_;rintro e w' ⟨rfl,rfl⟩)
      go_roundw
      case rel=>exact ⟨k + 1,by omega,by go_num,(by rw [HL.out,hbit];simpa using hown),hb⟩
      case measure=>simp [intOf];omega
    ·obtain rfl : k = 8:=by omega
     have hcv:=fun v (hv : wr.ownsRow w.heap.size 5 1 v (lett m 8).length ((lett m 8).map (Value.int .u8)))=>run_own_string (P:=Tryz.prog) wr 76 9 5 _ _ v _ Tryz.underlying76 Tryz.underlying5 Tryz.underlying9 hv
     have hcv2:=hcv _ hown
     clear hcv
     go_wp2
     go_ret2
     exact ⟨by simp [lbS,lbE,hl,hm],hb⟩
 ·simp only [Bool.not_eq_true] at hl
  go_enter Tryz.func114,Tryz.ntmps114
  go_wp2_with (go_at_call 160;refine (Is_any _ _).mono ?_;rintro e w' ⟨rfl,rfl⟩)
  go_ret2
  exact ⟨by simp [lbS,lbE,hl],Below.refl _ _⟩
def findL (s : List UInt8) : Nat → Nat → Option Nat
 | 0,_=>none
 | f + 1,l=>if lbL l = s then some l else findL s f (l + 1)
def findP (s : List UInt8) : Option Nat:=findL s 256 0
def findV (s : List UInt8) : Int:=((findP s).getD 0 : Nat)
def findE (s : List UInt8) : Int:=if (findP s).isSome then 0 else 6
theorem lparse_text : ∀ l : Fin 256,lbF (lbL l.val) = some l.val:=by decide +kernel
theorem LParse_ref (s : ByteArray) (w : World) :
  Calls Tryz.prog 172 #[.string s] w fun e w'=>e = .returned (.tuple #[.int .i64 (findV s.data.toList),.int .i64 (findE s.data.toList)]) ∧ Below w.heap.size w w':=by
 go_enter Tryz.func172,Tryz.ntmps172
 go_wp2
 go_loopw [4] (fun l wr=>∃ k : Nat,k ≤ 256 ∧ l = .int .i64 k ∧ findP s.data.toList = findL s.data.toList (256 - k) k ∧ Below w.heap.size w wr) (fun l _=>256 - (intOf l).toNat)
 case atStart=>exact ⟨0,by omega,rfl,rfl,Below.refl _ _⟩
 case round=>
  obtain ⟨k,hk,rfl,he,hb⟩:=hrel
  have HE:=Lib.hid he;clear he
  by_cases hlt : k < 256
  ·have HF : Hid (findP s.data.toList = if lbL k = s.data.toList then some k else findL s.data.toList (256 - (k + 1)) (k + 1)):=by
    rw [Hid,HE.out,show 256 - k = (256 - (k + 1)) + 1 from by omega];rfl
   by_cases ht : lbL k = s.data.toList
   ·have HN : Hid (findP s.data.toList = some k):=by rw [Hid,HF.out,if_pos ht]
    have hq : (lbL k == s.toList) = true:=by rw [ByteArray.toList_eq,← ht];simp
    have HT:=Lib.hid (lbS_nat k hlt)
    clear ht HF HE
    go_wp2_with (go_at_call 114;refine (LText_ref k _).mono ?_;rw [HT.out.1,HT.out.2];rintro e w1 ⟨rfl,hb1⟩)
    go_ret2
    exact ⟨ret_two (by rw [findV,HN.out];rfl) (by rw [findE,HN.out];rfl),hb.trans (hb1.mono hb.size)⟩
   ·have HN : Hid (findP s.data.toList = findL s.data.toList (256 - (k + 1)) (k + 1)):=by rw [Hid,HF.out,if_neg ht]
    have hq : (lbL k == s.toList) = false:=by rw [ByteArray.toList_eq];simpa using ht
    have HT:=Lib.hid (lbS_nat k hlt)
    clear ht HF HE
    go_wp2_with (go_at_call 114;refine (LText_ref k _).mono ?_;rw [HT.out.1,HT.out.2];rintro e w1 ⟨rfl,hb1⟩)
    go_roundw
    case rel=>exact ⟨k + 1,by omega,by go_num,HN.out,hb.trans (hb1.mono hb.size)⟩
    case measure=>simp [intOf];omega
  ·obtain rfl : k = 256:=by omega
   go_wp2
   go_ret2
   exact ⟨ret_two (by rw [findV,HE.out];rfl) (by rw [findE,HE.out];rfl),hb⟩
theorem parseGo_text (s : List UInt8) : ∀ (x l : Nat),x < 256 → parseGo x s = some l → l < 256:=by
 induction s with
 | nil=>intro x l hx h;simp only [parseGo] at h;split at h <;> simp_all
 | cons b bs ih=>
  intro x l hx h
  rw [parseGo_cons] at h
  split at h
  ·cases h
  ·rename_i hc
   simp only [not_or,Nat.not_lt,Nat.not_le,ne_eq,Decidable.not_not] at hc
   refine ih _ l ?_ h
   rw [← or_pow x _ hc.2.2]
   exact Nat.or_lt_two_pow (n:=8) hx (Nat.pow_lt_pow_right (by decide) (by omega))
theorem testBit_lt_div (x c i : Nat) (h : x / 2 ^ c = 0) (hi : c ≤ i) : x.testBit i = false:=by
 apply Nat.testBit_lt_two_pow
 rcases Nat.div_eq_zero_iff.1 h with h1 | h1
 ·have:=Nat.pow_pos (a:=2) (n:=c) (by decide);omega
 ·exact Nat.lt_of_lt_of_le h1 (Nat.pow_le_pow_right (by decide) hi)
/-- What the reader has read is the text of what it has. -/
theorem parseGo_back (s : List UInt8) : ∀ (x l : Nat),x < 256 → parseGo x s = some l → (lett l 8).map (fun n=>UInt8.ofNat n.toNat) = (lett x 8).map (fun n=>UInt8.ofNat n.toNat) ++ s:=by
 induction s with
 | nil=>intro x l _ h;simp only [parseGo] at h;split at h <;> simp_all
 | cons b bs ih=>
  intro x l hx h
  rw [parseGo_cons] at h
  split at h
  ·cases h
  ·rename_i hc
   simp only [not_or,Nat.not_lt,Nat.not_le,ne_eq,Decidable.not_not] at hc
   obtain ⟨h1,h2,h3⟩:=hc
   have hlt : x + 2 ^ (b.toNat - 97) < 256:=by
    rw [← or_pow x _ h3]
    exact Nat.or_lt_two_pow (n:=8) hx (Nat.pow_lt_pow_right (by decide) (by omega))
   rw [ih _ l hlt h,← or_pow x _ h3]
   obtain ⟨c,hc⟩ : ∃ c,c = b.toNat - 97:=⟨_,rfl⟩
   have hb : b = UInt8.ofNat (97 + c):=by
    rw [hc,show 97 + (b.toNat - 97) = b.toNat from by omega];simp
   rw [← hc] at h3 ⊢
   have key : lett (x ||| 2 ^ c) 8 = lett x 8 ++ [97 + (c : Int)]:=by
    simp only [lett]
    have e : (List.range 8).filter (fun i=>(x ||| 2 ^ c).testBit i) = (List.range 8).filter (fun i=>x.testBit i) ++ [c]:=by
     have hsplit : List.range 8 = List.range c ++ c :: List.map (fun i=>c + 1 + i) (List.range (8 - (c + 1))):=by
      rw [show (8 : Nat) = (c + 1) + (8 - (c + 1)) from by omega,List.range_add,List.range_succ]
      simp
     rw [hsplit]
     simp only [List.filter_append,List.filter_cons]
     have hcc : (x ||| 2 ^ c).testBit c = true:=by simp [Nat.testBit_or,Nat.testBit_two_pow]
     have hxc : x.testBit c = false:=testBit_lt_div x c c h3 (Nat.le_refl _)
     have hlo : (List.range c).filter (fun i=>(x ||| 2 ^ c).testBit i) = (List.range c).filter (fun i=>x.testBit i):=by
      apply List.filter_congr
      intro i hi
      have : c ≠ i:=by simp at hi;omega
      simp [Nat.testBit_or,Nat.testBit_two_pow,this]
     have hhi : ∀ (y : Nat),y = x ∨ y = x ||| 2 ^ c → (List.map (fun i=>c + 1 + i) (List.range (8 - (c + 1)))).filter (fun i=>y.testBit i) = []:=by
      intro y hy
      rw [List.filter_eq_nil_iff]
      intro i hi
      simp only [List.mem_map,List.mem_range] at hi
      obtain ⟨j,_,rfl⟩:=hi
      have g:=testBit_lt_div x c (c + 1 + j) h3 (by omega)
      rcases hy with rfl | rfl
      ·simp [g]
      ·have : c ≠ c + 1 + j:=by omega
       simp [Nat.testBit_or,Nat.testBit_two_pow,g,this]
     rw [hlo,hhi _ (.inr rfl),hhi _ (.inl rfl),hcc,hxc]
     simp
    rw [e,List.map_append]
    rfl
   rw [key,hb]
   simp only [List.map_append,List.map_cons,List.map_nil,List.append_assoc,List.cons_append,List.nil_append]
   congr 3
theorem lett_nil : lett 0 8 = []:=by decide +kernel
theorem lparseF_text (s : List UInt8) (l : Nat) (h : lbF s = some l) : l < 256 ∧ lbL l = s:=by
 unfold lbF at h
 split at h
 ·rename_i h1
  simp only [Option.some.injEq] at h
  subst h
  exact ⟨by decide,by rw [h1];rfl⟩
 ·have h1:=parseGo_text s 0 l (by decide) h
  refine ⟨h1,?_⟩
  have h2:=parseGo_back s 0 l (by decide) h
  rw [lett_nil] at h2
  have h0 : l ≠ 0:=by
   rintro rfl
   rw [lett_nil] at h2
   simp at h2
   subst h2
   simp [parseGo] at h
  rw [lbL,if_neg h0]
  simpa using h2
theorem findL_some (s : List UInt8) (l : Nat) (hl : l < 256) (h : lbL l = s) : ∀ (f k : Nat),k ≤ l → l < k + f → findL s f k = some l
 | 0,k,h1,h2=>by omega
 | f + 1,k,h1,h2=>by
  rw [findL]
  split
  ·rename_i hk
   have e1:=lparse_text ⟨l,hl⟩
   have e2:=lparse_text ⟨k,by omega⟩
   simp only at e1 e2
   rw [h] at e1
   rw [hk,e1] at e2
   exact e2.symm
  ·rename_i hk
   have : k ≠ l:=by rintro rfl;exact hk h
   exact findL_some s l hl h f (k + 1) (by omega) (by omega)
theorem findL_none (s : List UInt8) (hn : ∀ l,l < 256 → lbL l ≠ s) : ∀ (f k : Nat),k + f ≤ 256 → findL s f k = none
 | 0,_,_=>rfl
 | f + 1,k,h=>by
  rw [findL,if_neg (hn k (by omega))]
  exact findL_none s hn f (k + 1) (by omega)
/-- The program's reader and the reference's answer the same. -/
theorem lparse_eq (s : List UInt8) : lbF s = findP s:=by
 cases h : lbF s with
 | some l=>
  obtain ⟨h1,h2⟩:=lparseF_text s l h
  exact (findL_some s l h1 h2 256 0 (by omega) (by omega)).symm
 | none=>
  refine (findL_none s (fun l hl ht=>?_) 256 0 (by omega)).symm
  have:=lparse_text ⟨l,hl⟩
  simp only at this
  rw [ht,h] at this
  cases this
end Go.Proofs.YtoklonmiejdgmaaGreatDoor
/- An argument that is a slice of structs of so many ints. -/
namespace Go.Proofs.YtoklonmiejdgmaaGreatDoor
set_option linter.unusedVariables false
set_option linter.unusedSimpArgs false
set_option linter.unnecessarySimpa false
open Go.ChangeShapes Go.WideShapes Go.ChangeAt Go.RowKit
def ivs (r : List Int) : List Value:=r.map (Value.int .i64)
def iF (l : List (List Int)) : List Value:=(l.map ivs).flatten
theorem iF_get {N : Nat} (l : List (List Int)) (h : ∀ r ∈ l,r.length = N) (k j : Nat) (x : Int) (hk : k < l.length) (hx : (l[k])[j]? = some x) : (iF l)[k * N + j]? = some (.int .i64 x):=by
 have hj : j < N:=by rw [← h _ (List.getElem_mem hk)];exact (List.getElem?_eq_some_iff.1 hx).1
 rw [iF,flatten_get (N:=N) _ k j (fun r hr=>by obtain ⟨q,hq,rfl⟩:=List.mem_map.1 hr;simp [ivs,h q hq]) (by simpa using hk) hj]
 simp [ivs,hx]
theorem rowN_at {w : World} {N : Nat} {a : Option Addr} {l : List (List Int)} (h : Rd w N a l.length (iF l)) (hl : ∀ r ∈ l,r.length = N) (hN : 0 < N) (k : Nat) (hk : k < l.length) : ∃ b o,a = some ⟨b,o,none⟩ ∧ b < w.heap.size ∧ ∀ j x,(l[k])[j]? = some x → w.cell? ⟨b,o + k * N + j,none⟩ = some (.int .i64 x):=by
 have ha : a ≠ none:=fun h0=>by have:=h.2.1 h0;omega
 obtain ⟨p,rfl⟩:=Option.ne_none_iff_exists'.1 ha
 have h0 : (l[k])[0]? = some ((l[k])[0]'(by rw [hl _ (List.getElem_mem hk)];exact hN)):=List.getElem?_eq_getElem _
 have hne : iF l ≠ []:=fun e=>by have:=iF_get l hl k 0 _ hk h0;rw [e] at this;simp at this
 obtain ⟨b,o,rfl,hb,h3⟩:=h.2.2 p rfl hne
 refine ⟨b,o,rfl,hb,fun j x hx=>?_⟩
 rw [Nat.add_assoc]
 exact h3 _ _ (iF_get l hl k j x hk hx)
end Go.Proofs.YtoklonmiejdgmaaGreatDoor
/- Families of things in memory that lie apart: objects and rows of one's own. Plain lemmas. -/
namespace Go.Proofs.YtoklonmiejdgmaaGreatDoor
set_option linter.unusedVariables false
set_option linter.unusedSimpArgs false
set_option linter.unnecessarySimpa false
open Go.RowKit Go.Sort
/-- A cell of an own row set. -/
theorem Own.put {w : World} {B size n cap g j : Nat} {e : TypeId} {xs : List Value} (h : Own w B e size (some ⟨g,0,none⟩) n cap xs) (hj : j < n * size) (v : Value) : Own (w.setCell ⟨g,j,none⟩ v) B e size (some ⟨g,0,none⟩) n cap (xs.set j v):=by
 rcases h with ⟨hl,⟨h0,_⟩ | ⟨g',c,cur,hv,hb,hg,hr,hm,hs,ht⟩⟩
 ·injection h0 with h0;cases h0
 ·injection hv with h1 h2 h3
  injection h1 with h1
  injection h1 with h1
  subst h1 h3
  refine ⟨by rw [List.length_set];exact hl,.inr ⟨g,cap,_,rfl,hb,setCell_block hg j v,hr,hm,by simpa using hs,?_⟩⟩
  rw [← ht]
  simp only [Array.toList_setIfInBounds,List.take_set]
/-- A thing in memory: an object's block, or a slice's row. -/
inductive It where
 | obj (b : Nat) (t : TypeId) (cs : List Value)
 | row (a : Option Addr) (n cap : Nat) (e : TypeId) (size : Nat) (xs : List Value)
def It.Is (w : World) (B : Nat) : It → Prop
 | .obj b t cs=>ObjAt w b t cs ∧ B ≤ b
 | .row a n cap e size xs=>Own w B e size a n cap xs
def It.fp : It → List Nat
 | .obj b _ _=>[b]
 | .row a _ _ _ _ _=>blk a
section
variable {w w' : World} {B : Nat} {x y : It} {S : List Nat}
theorem It.Is.mod (h : x.Is w B) (hm : Mod S w w') (hd : ∀ k ∈ x.fp,k ∉ S) : x.Is w' B:=by
 cases x with
 | obj b t cs=>exact ⟨h.1.mod hm (hd b (by simp [It.fp])),h.2⟩
 | row a n cap e size xs=>exact Own.mod h hm hd
theorem It.Is.mono {B' : Nat} (h : x.Is w B) (hB : B' ≤ B) : x.Is w B':=by
 cases x with
 | obj b t cs=>exact ⟨h.1,by have:=h.2;omega⟩
 | row a n cap e size xs=>exact Own.mono h hB
end
/-- A second act that turns, of what lay there at first, no more. -/
theorem Mod.then {S T : List Nat} {x y z : World} (h : Mod S x y) (k : Mod T y z) (hs : ∀ i ∈ T,i < x.heap.size → i ∈ S) : Mod S x z:=
 ⟨k.os.trans h.os,k.tape.trans h.tape,k.output.trans h.output,Nat.le_trans h.size k.size,fun i hi hn=>(k.block i (Nat.lt_of_lt_of_le hi h.size) (fun hm=>hn (hs i hm hi))).trans (h.block i hi hn)⟩
def Dj (S T : List Nat) : Prop:=∀ k ∈ S,k ∉ T
/-- Things that lie apart, all from B on. -/
def Fam (w : World) (B : Nat) (l : List It) : Prop:=(∀ x ∈ l,x.Is w B) ∧ l.Pairwise (fun x y=>Dj x.fp y.fp)
/-- The blocks of a family. -/
def fps (l : List It) : List Nat:=l.flatMap It.fp
theorem mem_fps {l : List It} {k : Nat} : k ∈ fps l ↔ ∃ x ∈ l,k ∈ x.fp:=by simp [fps]
namespace Fam
variable {w w' : World} {B : Nat} {l m : List It} {S : List Nat}
theorem mod (h : Fam w B l) (hm : Mod S w w') (hd : Dj (fps l) S) : Fam w' B l:=
 ⟨fun x hx=>(h.1 x hx).mod hm (fun k hk=>hd k (mem_fps.2 ⟨x,hx,hk⟩)),h.2⟩
theorem mono {B' : Nat} (h : Fam w B l) (hB : B' ≤ B) : Fam w B' l:=⟨fun x hx=>(h.1 x hx).mono hB,h.2⟩
end Fam
/-- What an act on a family leaves: the family turned, nothing besides. -/
structure Acts (B : Nat) (l l' : List It) (w w' : World) : Prop where
 fam : Fam w' B l'
 mod : Mod (fps l) w w'
 at_ : ∀ k ∈ fps l',k ∈ fps l ∨ w.heap.size ≤ k
namespace Acts
variable {B : Nat} {l l' l'' r : List It} {w w' w'' : World}
theorem trans (h : Acts B l l' w w') (k : Acts B l' l'' w' w'') : Acts B l l'' w w'':=
 ⟨k.fam,⟨k.mod.os.trans h.mod.os,k.mod.tape.trans h.mod.tape,k.mod.output.trans h.mod.output,Nat.le_trans h.mod.size k.mod.size,fun i hi hn=>(k.mod.block i (Nat.lt_of_lt_of_le hi h.mod.size) (fun hm=>by
   rcases h.at_ i hm with h1 | h1
   ·exact hn h1
   ·omega)).trans (h.mod.block i hi hn)⟩,fun x hx=>by
  rcases k.at_ x hx with h1 | h1
  ·exact h.at_ x h1
  ·exact .inr (Nat.le_trans h.mod.size h1)⟩
end Acts
end Go.Proofs.YtoklonmiejdgmaaGreatDoor
/- Package parts: the table's state; the iterator over its runs. -/
namespace Go.Proofs.YtoklonmiejdgmaaGreatDoor
set_option linter.unusedVariables false
set_option linter.unusedSimpArgs false
set_option linter.unnecessarySimpa false
open Go.RowKit Go.Shelf
set_option maxHeartbeats 400000
set_option maxRecDepth 100000
attribute [local go_sem] Oper.semAt_some
theorem wide_fn (f : FuncId) : Fence.wide.fn f = True:=rfl
/-- A run: where it begins, how many places, whose. -/
abbrev Rn:=Nat × Nat × Nat
def rnC (r : Rn) : List Value:=[.int .i64 r.1,.int .i64 r.2.1,.int .i64 r.2.2]
def rnF (l : List Rn) : List Value:=(l.map rnC).flatten
theorem rnF_len (l : List Rn) : (rnF l).length = l.length * 3:=by
 rw [rnF,flatten_len (N:=3) _ (by intro r hr;obtain ⟨x,_,rfl⟩:=List.mem_map.1 hr;rfl)];simp
theorem rnF_get (l : List Rn) (k j : Nat) (hk : k < l.length) (hj : j < 3) : (rnF l)[k * 3 + j]? = (rnC l[k])[j]?:=by
 rw [rnF,flatten_get (N:=3) _ k j (by intro r hr;obtain ⟨x,_,rfl⟩:=List.mem_map.1 hr;rfl) (by simpa using hk) hj];simp
theorem rnF_app (l m : List Rn) : rnF (l ++ m) = rnF l ++ rnF m:=by simp [rnF]
/-- The runs of a table of n places: in order, apart, inside. -/
structure Okr (n : Nat) (R : List Rn) : Prop where
 n64 : n ≤ 64
 each : ∀ r ∈ R,1 ≤ r.2.1 ∧ r.1 + r.2.1 ≤ n ∧ r.2.2 < 64
 sorted : R.Pairwise (fun r s=>r.1 + r.2.1 ≤ s.1)
theorem runs_few : ∀ (R : List Rn) (lo n : Nat),(∀ r ∈ R,1 ≤ r.2.1 ∧ lo ≤ r.1 ∧ r.1 + r.2.1 ≤ n) → R.Pairwise (fun r s=>r.1 + r.2.1 ≤ s.1) → R = [] ∨ R.length + lo ≤ n
 | [],_,_,_,_=>.inl rfl
 | r :: R,lo,n,h,hp=>by
  rw [List.pairwise_cons] at hp
  have h0:=h r (by simp)
  have ih:=runs_few R (r.1 + r.2.1) n (fun s hs=>⟨(h s (by simp [hs])).1,hp.1 s hs,(h s (by simp [hs])).2.2⟩) hp.2
  right
  rcases ih with rfl | ih
  ·simp;omega
  ·simp;omega
theorem Okr.few {n : Nat} {R : List Rn} (h : Okr n R) : R.length ≤ 64:=by
 have h64:=h.n64
 rcases runs_few R 0 n (fun r hr=>⟨(h.each r hr).1,by omega,(h.each r hr).2.1⟩) h.sorted with rfl | h1
 ·simp
 ·omega
theorem Okr.nil {n : Nat} (h : n ≤ 64) : Okr n []:=⟨h,by simp,List.Pairwise.nil⟩
/-- A table in memory. -/
structure TSt (w : World) (B tt : Nat) (a : Option Addr) (cap n : Nat) (R : List Rn) : Prop where
 obj : ObjAt w tt 223 [.slice a R.length cap,.int .i64 n,.bool true]
 own : Own w B 227 3 a R.length cap (rnF R)
 ok : Okr n R
namespace TSt
variable {w w' : World} {B tt cap n : Nat} {a : Option Addr} {R : List Rn}
theorem below (h : TSt w B tt a cap n R) (hb : Below w.heap.size w w') : TSt w' B tt a cap n R:=⟨h.obj.below hb,h.own.below hb,h.ok⟩
theorem mono {B' : Nat} (h : TSt w B tt a cap n R) (hB : B' ≤ B) : TSt w B' tt a cap n R:=⟨h.obj,h.own.mono hB,h.ok⟩
theorem mod {S : List Nat} (h : TSt w B tt a cap n R) (hm : Mod S w w') (h1 : tt ∉ S) (h2 : ∀ k ∈ blk a,k ∉ S) : TSt w' B tt a cap n R:=⟨h.obj.mod hm h1,h.own.mod hm h2,h.ok⟩
end TSt
theorem ObjAt.belowAt {w w' : World} {b n0 : Nat} {t : TypeId} {cs : List Value} (h : ObjAt w b t cs) (hb : Below n0 w w') (hlt : b < n0) : ObjAt w' b t cs:=(hb.block b hlt).trans h
/-- What the iterator's walk reads: the table's object and its row, in blocks below n0. -/
structure TRd (w : World) (n0 tt : Nat) (a : Option Addr) (cap n : Nat) (R : List Rn) : Prop where
 obj : ObjAt w tt 223 [.slice a R.length cap,.int .i64 n,.bool true]
 rd : Rd w 3 a R.length (rnF R)
 lt : tt < n0
 blk : ∀ k ∈ blk a,k < n0
theorem TSt.rdt {w : World} {B tt cap n : Nat} {a : Option Addr} {R : List Rn} (h : TSt w B tt a cap n R) : TRd w w.heap.size tt a cap n R:=⟨h.obj,h.own.rd,h.obj.lt,fun k hk=>(h.own.ge k hk).2⟩
theorem TRd.below {w w' : World} {n0 tt cap n : Nat} {a : Option Addr} {R : List Rn} (h : TRd w n0 tt a cap n R) (hb : Below n0 w w') : TRd w' n0 tt a cap n R:=
 ⟨h.obj.belowAt hb h.lt,⟨h.rd.1,h.rd.2.1,fun p hp hx=>by
  obtain ⟨b,o,h1,h2,h3⟩:=h.rd.2.2 p hp hx
  have hlt : b < n0:=h.blk b (mem_blk.2 ⟨p,hp,by rw [h1]⟩)
  have hsz:=hb.size
  refine ⟨b,o,h1,by omega,fun j u hu=>?_⟩
  exact (hb.cell (p:=⟨b,o + j,none⟩) hlt).trans (h3 j u hu)⟩,h.lt,h.blk⟩
theorem TRd.at_ {w : World} {n0 tt cap n : Nat} {a : Option Addr} {R : List Rn} (h : TRd w n0 tt a cap n R) (hn : 0 < R.length) : ∃ b o,a = some ⟨b,o,none⟩ ∧ b < n0:=by
 have ha : a ≠ none:=fun h0=>by have:=h.rd.2.1 h0;omega
 obtain ⟨p,rfl⟩:=Option.ne_none_iff_exists'.1 ha
 have hne : rnF R ≠ []:=by intro h0;have:=rnF_len R;rw [h0] at this;simp at this;omega
 obtain ⟨b,o,rfl,h2,h3⟩:=h.rd.2.2 p rfl hne
 exact ⟨b,o,rfl,h.blk b (mem_blk.2 ⟨_,rfl,rfl⟩)⟩
theorem TRd.cells {w : World} {n0 tt cap n b o : Nat} {R : List Rn} (h : TRd w n0 tt (some ⟨b,o,none⟩) cap n R) (k : Nat) (hk : k < R.length) :
  w.cell? ⟨b,o + k * 3,none⟩ = some (.int .i64 R[k].1) ∧ w.cell? ⟨b,o + k * 3 + 1,none⟩ = some (.int .i64 R[k].2.1) ∧ w.cell? ⟨b,o + k * 3 + 2,none⟩ = some (.int .i64 R[k].2.2):=by
 have hne : rnF R ≠ []:=by intro h0;have:=rnF_len R;rw [h0] at this;simp at this;omega
 obtain ⟨b',o',e,_,h3⟩:=h.rd.2.2 _ rfl hne
 injection e with e1 e2
 subst e1 e2
 refine ⟨?_,?_,?_⟩
 ·exact h3 (k * 3) _ (by have:=rnF_get R k 0 hk (by omega);simpa [rnC] using this)
 ·have:=h3 (k * 3 + 1) (.int .i64 R[k].2.1) (by have:=rnF_get R k 1 hk (by omega);simpa [rnC] using this)
  rwa [← Nat.add_assoc] at this
 ·have:=h3 (k * 3 + 2) (.int .i64 R[k].2.2) (by have:=rnF_get R k 2 hk (by omega);simpa [rnC] using this)
  rwa [← Nat.add_assoc] at this
/-- What the iterator hands over. -/
def runV (r : Rn) : Value:=.agg #[.int .i64 r.1,.int .i64 r.2.1,.int .i64 r.2.2]
/-- Whatever a round is handed: numbers up to 64. -/
def cl (n : Nat) : Nat:=min n 64
theorem cl_le (n : Nat) : cl n ≤ 64:=Nat.min_le_right _ _
theorem cl_eq {n : Nat} (h : n ≤ 64) : cl n = n:=Nat.min_eq_left h
def clR (r : Rn) : Rn:=(cl r.1,cl r.2.1,cl r.2.2)
def encR (x : Nat × Rn) : Array Value:=#[.int .i64 (cl x.1 : Nat),runV (clR x.2)]
/-- The runs that came. -/
def came (pre : List (Nat × Rn)) : List Rn:=pre.map (fun x=>clR x.2)
theorem came_snoc (pre : List (Nat × Rn)) (x : Nat × Rn) : came (pre ++ [x]) = came pre ++ [clR x.2]:=by simp [came]
theorem Okr.cl {n : Nat} {R : List Rn} (h : Okr n R) {r : Rn} (hr : r ∈ R) : clR r = r:=by
 have h0:=h.each r hr
 have h64:=h.n64
 unfold clR
 rw [cl_eq (by omega),cl_eq (by omega),cl_eq (by omega)]
/-- The runs, numbered. -/
def numbered (R : List Rn) (k : Nat) : List (Nat × Rn):=((List.range R.length).zip R).take k
theorem numbered_len (R : List Rn) {k : Nat} (h : k ≤ R.length) : (numbered R k).length = k:=by simp [numbered];omega
theorem numbered_succ (R : List Rn) {k : Nat} (h : k < R.length) : numbered R (k + 1) = numbered R k ++ [(k,R[k])]:=by
 unfold numbered
 rw [List.take_succ_eq_append_getElem (by simpa using h)]
 simp
theorem numbered_snd (R : List Rn) (k : Nat) : (numbered R k).map Prod.snd = R.take k:=by
 unfold numbered
 rw [List.map_take,List.map_snd_zip (by simp)]
theorem came_numbered {n : Nat} {R : List Rn} (h : Okr n R) (k : Nat) : came (numbered R k) = R.take k:=by
 rw [← numbered_snd]
 unfold came
 refine List.map_congr_left (fun x hx=>?_)
 have : x.2 ∈ R:=by
  have h1 : x.2 ∈ (numbered R k).map Prod.snd:=List.mem_map_of_mem hx
  rw [numbered_snd] at h1
  exact List.mem_of_mem_take h1
 exact h.cl this
theorem all1_in (F : Fence) (n : Nat) (hF : F.fn 205) (hro : F.round = none) (hn : 1 ≤ n) (l Bn n0 tt cap N : Nat) (a : Option Addr) (R : List Rn) (hok : Okr N R) (J Jx : List (Nat × Rn) → World → Prop) (B0 : Nat) (hJ : AbidesFrom B0 J)
  (hY : ∀ pre x W,J pre W → pre.length < R.length → YieldAt F (n - 1) Tryz.prog l (encR x) W fun e W'=>
   (e = .returned (.bool true) ∧ J (pre ++ [x]) W' ∧ Below n0 W W') ∨ (e = .returned (.bool false) ∧ Jx (pre ++ [x]) W'))
  (W : World) (hn0 : n0 ≤ W.heap.size) (hBn : W.cell? ⟨Bn,0,none⟩ = some (.pointer (some ⟨tt,0,none⟩))) (hT : TRd W n0 tt a cap N R) (h0 : J [] W) :
  CallsIn F n Tryz.prog 205 #[.func (.yield l) #[] #[],.pointer (some ⟨Bn,0,none⟩)] W fun e W'=>(∃ v,e = .returned v) ∧
   ((∃ ys,ys = numbered R R.length ∧ J ys W') ∨ (∃ pre,(∃ k,k ≤ R.length ∧ pre = numbered R k) ∧ Jx pre W')):=by
 have c0:=hT.obj.cell 0 _ rfl
 have h64:=hok.few
 refine callsIn_of_wp Tryz.func205 rfl hF ?_ hro
 simp only [Tryz.ntmps205,List.size_toArray,List.length_cons,List.length_nil,Nat.reduceAdd,Nat.reduceSub,Array.replicate_succ,Array.replicate_zero,List.push_toArray,List.append_toArray,List.nil_append,List.cons_append]
 gi_wp2
 gi_loopw [10] (fun i wr=>∃ k : Nat,k ≤ R.length ∧ i = .int .i64 k ∧ J (numbered R k) wr ∧ Below n0 W wr)
  (fun i _=>R.length - (intOf i).toNat)
 case atStart=>exact ⟨0,Nat.zero_le _,rfl,h0,Below.refl _ _⟩
 case round=>
  obtain ⟨k,hk,rfl,hJs,hnx⟩:=hrel
  by_cases hlt : k < R.length
  ·have hTr:=hT.below hnx
   obtain ⟨b,o,rfl,hb⟩:=hTr.at_ (by omega)
   obtain ⟨k0,k1,k2⟩:=hTr.cells k hlt
   have HS : Hid (numbered R (k + 1) = numbered R k ++ [(k,R[k])]):=numbered_succ R hlt
   have hlen:=numbered_len R (Nat.le_of_lt hlt)
   have hJ2 : J (numbered R k) (wr.alloc (.cells #[.int .i64 R[k].1,.int .i64 R[k].2.1,.int .i64 R[k].2.2] 227)):=hJ _ _ _ none hJs (World.grownBy_alloc _ _ none) (fun r h=>by cases h)
   obtain ⟨fn,tmps,assign,body,hy,hR⟩:=hY _ (k,R[k]) _ hJ2 (by rw [hlen];exact hlt)
   dsimp only [encR] at hy
   rw [hok.cl (List.getElem_mem hlt),cl_eq (show k ≤ 64 by omega)] at hy
   dsimp only [runV] at hy
   have hsz:=hnx.size
   have HB:=Lib.hid hnx
   clear hTr hJs hJ2 hnx hT h0 hY
   generalize R[k] = x at k0 k1 k2 hy hR HS
   have hk0 : (0 : Int) ≤ k:=by omega
   have hk1 : (k : Int) < (R.length : Int):=by omega
   gi_wp2
   refine hR.mono ?_
   rintro e W3 (⟨rfl,hJ3,hk3⟩ | ⟨rfl,hJx3⟩)
   ·gi_wp2
    go_roundw
    case rel=>exact ⟨k + 1,by omega,by simp,by rw [HS.out];exact hJ3,((HB.out.alloc (by omega) _).trans hk3)⟩
    case measure=>simp [intOf];omega
   ·gi_wp2
    refine bodyPost_ret (results_none rfl _ _ _) rfl ?_
    exact ⟨⟨_,rfl⟩,.inr ⟨_,⟨k + 1,by omega,HS.out.symm⟩,hJx3⟩⟩
  ·obtain rfl : k = R.length:=by omega
   gi_wp2
   go_end0
   exact ⟨⟨_,rfl⟩,.inl ⟨_,rfl,hJs⟩⟩
/-- t.all(): the table's pointer is boxed; the function value captures the box. -/
theorem all_in (F : Fence) (n : Nat) (hF : F.fn 187) (hro : F.round = none) (p : Option Addr) (w : World) :
  CallsIn F n Tryz.prog 187 #[.pointer p] w fun e w'=>e = .returned (.func (.func 205) #[] #[.pointer (some ⟨w.heap.size,0,none⟩)]) ∧ w' = w.alloc (.cells #[.pointer p] 188):=by
 refine callsIn_of_wp Tryz.func187 rfl hF ?_ hro
 simp only [Tryz.ntmps187,List.size_toArray,List.length_cons,List.length_nil,Nat.reduceAdd,Nat.reduceSub,Array.replicate_succ,Array.replicate_zero,List.push_toArray,List.append_toArray,List.nil_append,List.cons_append]
 gi_wp2
 go_ret
 exact ⟨rfl,rfl⟩
/-- The iterator: all runs, in order, numbered; or some of the first. -/
theorem all_stops (F : Fence) (n : Nat) (hF : F.fn 205) (hro : F.round = none) (hn : 1 ≤ n) (Bn n0 tt cap N : Nat) (a : Option Addr) (R : List Rn) (hok : Okr N R) (w : World) (hBn : Bn < w.heap.size) (hn0 : n0 ≤ w.heap.size)
  (hc : w.cell? ⟨Bn,0,none⟩ = some (.pointer (some ⟨tt,0,none⟩))) (hT : TRd w n0 tt a cap N R) :
  SeqStopsK F n Tryz.prog 205 #[.pointer (some ⟨Bn,0,none⟩)] encR (Below n0) (fun ys=>ys = numbered R R.length) (fun pre=>∃ k,k ≤ R.length ∧ pre = numbered R k) R.length w:=fun l J Jx W hW hJ _ hY h0=>
 all1_in F n hF hro hn l Bn n0 tt cap N a R hok J Jx _ hJ hY W (Nat.le_trans hn0 hW.size) ((hW.cell (p:=⟨Bn,0,none⟩) hBn).trans hc) (hT.below (hW.mono hn0)) h0
end Go.Proofs.YtoklonmiejdgmaaGreatDoor
/- Package parts: Free. -/
namespace Go.Proofs.YtoklonmiejdgmaaGreatDoor
set_option linter.unusedVariables false
set_option linter.unusedSimpArgs false
set_option linter.unnecessarySimpa false
open Go.RowKit Go.Shelf
set_option maxHeartbeats 400000
set_option maxRecDepth 100000
attribute [local go_sem] Oper.semAt_some wide_fn
attribute [local simp] wide_fn
theorem objAt_own {β : Type} (b : Nat) (t : TypeId) (cs : List Value) : Go.Own (fun (_ : β) W=>ObjAt W b t cs):=fun s X Y row hs hg hrow=>
 (hg.block b (ObjAt.lt hs) (fun e=>by
  obtain ⟨o,ho,hc⟩:=hrow b e.symm
  rw [show X.heap[b]? = _ from hs] at ho
  cases ho
  cases hc)).trans hs
theorem boxed_drew {W : World} {B : Nat} {t : TypeId} {v : Value} (h : Boxed W B t v) : Boxed W.drew B t v:=h
theorem none_no (B tt cap n : Nat) (a : Option Addr) (R : List Rn) (w : World) (h : TSt w B tt a cap n R) : Calls Tryz.prog 166 #[.pointer (some ⟨tt,0,none⟩)] w fun e w'=>e = .returned (.bool false) ∧ w = w':=by
 have c2:=h.obj.cell 2 _ rfl
 clear h
 go_enter Tryz.func166,Tryz.ntmps166
 go_wp2
 go_ret
 exact ⟨rfl,rfl⟩
theorem end_any (f n who : Nat) (w : World) (hf : f ≤ 64) (hn : n ≤ 64) : Calls Tryz.prog 188 #[runV (f,n,who)] w fun e w'=>e = .returned (.int .i64 ((f : Int) + n)) ∧ w.alloc (.cells #[.int .i64 f,.int .i64 n,.int .i64 who] 227) = w':=by
 unfold runV
 go_enter Tryz.func188,Tryz.ntmps188
 go_wp2
 go_ret
 exact ⟨rfl,rfl⟩
end Go.Proofs.YtoklonmiejdgmaaGreatDoor
/- Package parts: Who. -/
namespace Go.Proofs.YtoklonmiejdgmaaGreatDoor
set_option linter.unusedVariables false
set_option linter.unusedSimpArgs false
set_option linter.unnecessarySimpa false
open Go.RowKit Go.Shelf
set_option maxHeartbeats 400000
set_option maxRecDepth 100000
attribute [local go_sem] Oper.semAt_some wide_fn
attribute [local simp] wide_fn
def hits (i : Int) (r : Rn) : Bool:=decide ((r.1 : Int) ≤ i) && decide (i < (r.1 : Int) + r.2.1)
end Go.Proofs.YtoklonmiejdgmaaGreatDoor
/- A scope that no goto enters or leaves, inside a fence. -/
namespace Go.Proofs.YtoklonmiejdgmaaGreatDoor
set_option linter.unusedVariables false
set_option linter.unusedSimpArgs false
set_option linter.unnecessarySimpa false
open Go
section
variable {F : Fence} {n : Nat} {P : Program} {b : Frame} {a : Act} {k : List Item} {cs : List Frame} {w : World} {Q : Exit → Act → World → Prop}
theorem stepR_scope {c : Code} : step P (lone (b.atR a (.code (.scope c) :: k)) cs w) = .next (lone (b.atR a (.code c :: .inScope c :: k)) cs w):=
 step_lone_go (by simp [stepG,stepG.exec,Frame.atR])
theorem stepR_inScope {c : Code} : step P (lone (b.atR a (.inScope c :: k)) cs w) = .next (lone (b.atR a k) cs w):=
 step_lone_go (by simp [stepG,stepG.exec,Frame.atR])
theorem wpIn_scope {c : Code} (h : c.wpIn F n P (Exit.noGoto Q) a w) : (Code.scope c).wpIn F n P Q a w:=by
 intro b k cs hro hb hr
 have h0 : (lone (b.atR a (.code (.scope c) :: k)) cs w).fenced P F:=fenced_calm hb hr rfl
 obtain ⟨e,a1,w1,hq,harr⟩:=h b (.inScope c :: k) cs hro hb hr
 cases e with
 | normal=>exact ⟨.normal,a1,w1,hq,.head h0 stepR_scope (StepsIn.trans harr (.one (fenced_calm hb hr rfl) stepR_inScope))⟩
 | exit id=>
  have hx : exitTo id (.inScope c :: k) = exitTo id k:=by simp [exitTo]
  exact ⟨.exit id,a1,w1,hq,fun k' hk=>.head h0 stepR_scope (harr.1 k' (by rw [hx];exact hk)),
   fun hr' hk=>let ⟨k1,h1,h2⟩:=harr.2 hr' (by rw [hx];exact hk);⟨k1,h1,.head h0 stepR_scope h2⟩⟩
 | goto l=>exact hq.elim
 | ret=>exact ⟨_,a1,w1,hq,.of_steps (.one h0 stepR_scope) harr⟩
 | panic ch=>exact ⟨_,a1,w1,hq,.of_steps (.one h0 stepR_scope) harr⟩
 | outgrown=>exact ⟨_,a1,w1,hq,.of_steps (.one h0 stepR_scope) harr⟩
end
end Go.Proofs.YtoklonmiejdgmaaGreatDoor
/- Package parts: meets. -/
namespace Go.Proofs.YtoklonmiejdgmaaGreatDoor
set_option linter.unusedVariables false
set_option linter.unusedSimpArgs false
set_option linter.unnecessarySimpa false
open Go.RowKit Go.Shelf
set_option maxHeartbeats 400000
set_option maxRecDepth 100000
attribute [local go_sem] Oper.semAt_some wide_fn
attribute [local simp] wide_fn
def meetV (f m : Nat) : List Rn → Nat × Bool
 | []=>(0,false)
 | r :: R=>if r.1 + r.2.1 ≤ f then ((meetV f m R).1 + 1,(meetV f m R).2) else (0,decide (r.1 < f + m))
def passed (f : Nat) (R : List Rn) : Bool:=R.all (fun r=>decide (r.1 + r.2.1 ≤ f))
theorem meet_pass (f m : Nat) : ∀ R,passed f R = true → meetV f m R = (R.length,false)
 | [],_=>rfl
 | r :: R,h=>by
  simp only [passed,List.all_cons,Bool.and_eq_true,decide_eq_true_eq] at h
  have ih:=meet_pass f m R h.2
  simp only [meetV,if_pos h.1,ih,List.length_cons]
theorem meet_stop (f m : Nat) (r : Rn) (S : List Rn) (h2 : ¬ r.1 + r.2.1 ≤ f) : ∀ R,passed f R = true → meetV f m (R ++ r :: S) = (R.length,decide (r.1 < f + m))
 | [],_=>by simp [meetV,h2]
 | q :: R,h=>by
  simp only [passed,List.all_cons,Bool.and_eq_true,decide_eq_true_eq] at h
  have ih:=meet_stop f m r S h2 R h.2
  simp only [List.cons_append,meetV,if_pos h.1,ih,List.length_cons]
theorem passed_snoc (f : Nat) (R : List Rn) (r : Rn) : passed f (R ++ [r]) = (passed f R && decide (r.1 + r.2.1 ≤ f)):=by simp [passed]
/-- Where a round has left the loop. -/
def Left (f m at_ : Nat) (hit : Bool) (pre : List (Nat × Rn)) : Prop:=∃ pre0 x,pre = pre0 ++ [x] ∧ passed f (came pre0) = true ∧ ¬ (clR x.2).1 + (clR x.2).2.1 ≤ f ∧ at_ = cl x.1 ∧ hit = decide ((clR x.2).1 < f + m)
theorem numbered_last {R : List Rn} {k : Nat} (hk : k ≤ R.length) {pre0 : List (Nat × Rn)} {x : Nat × Rn} (h : numbered R k = pre0 ++ [x]) : ∃ j,k = j + 1 ∧ ∃ hj : j < R.length,pre0 = numbered R j ∧ x = (j,R[j]):=by
 have hl:=numbered_len R hk
 rw [h,List.length_append] at hl
 simp only [List.length_cons,List.length_nil] at hl
 obtain ⟨j,rfl⟩ : ∃ j,k = j + 1:=⟨k - 1,by omega⟩
 have hs:=numbered_succ R (k:=j) (by omega)
 rw [h] at hs
 have:=List.append_inj' hs (by simp)
 refine ⟨j,rfl,by omega,this.1,?_⟩
 have h2:=this.2
 simpa using h2
theorem left_meet {n : Nat} {R : List Rn} (hok : Okr n R) {f m at_ k : Nat} {hit : Bool} (hk : k ≤ R.length) (h : Left f m at_ hit (numbered R k)) : meetV f m R = (at_,hit):=by
 obtain ⟨pre0,x,h1,h2,h3,h4,h5⟩:=h
 obtain ⟨j,rfl,hj,rfl,rfl⟩:=numbered_last hk h1
 have hfew:=hok.few
 rw [came_numbered hok] at h2
 dsimp only at h3 h4 h5
 rw [hok.cl (List.getElem_mem hj)] at h3 h5
 rw [cl_eq (by omega)] at h4
 have:=meet_stop f m R[j] (R.drop (j + 1)) h3 (R.take j) h2
 rw [← List.drop_eq_getElem_cons hj,List.take_append_drop,List.length_take,Nat.min_eq_left (by omega)] at this
 rw [this,h4,h5]
set_option maxHeartbeats 8000000 in
theorem meets_any (B tt cap n : Nat) (a : Option Addr) (R : List Rn) (f m : Nat) (hf : f ≤ 64) (hm : m ≤ 64) (w : World) (h : TSt w B tt a cap n R) : Calls Tryz.prog 167 #[.pointer (some ⟨tt,0,none⟩),.int .i64 f,.int .i64 m] w fun e w'=>e = .returned (.tuple #[.int .i64 (meetV f m R).1,.bool (meetV f m R).2]) ∧ Below w.heap.size w w':=by
 have H:=Lib.hid h
 have htt:=h.obj.lt
 have hfew:=h.ok.few
 have c0:=h.obj.cell 0 _ rfl
 clear h
 refine (callsIn_wide (n:=9)).1 ?_
 refine callsIn_of_wp_marks Tryz.func167 rfl trivial ?_ rfl
 simp only [Tryz.ntmps167,List.size_toArray,List.length_cons,List.length_nil,Nat.reduceAdd,Nat.reduceSub,Array.replicate_succ,Array.replicate_zero,List.push_toArray,List.append_toArray,List.nil_append,List.cons_append]
 gi_wp2
 refine wpIn_scope ?_
 gi_wp2
 refine wpIn_label ?_
 gi_wp2_with (gi_at_call 187;refine (all_in Fence.wide _ trivial rfl _ _).mono ?_;rintro e w' ⟨rfl,rfl⟩)
 obtain ⟨b,hb⟩ : ∃ b,b = w.heap.size:=⟨_,rfl⟩
 obtain ⟨W0,hW0⟩ : ∃ W0,W0 = ((((w.alloc (.cells #[.int .i64 f] 3)).alloc (.cells #[.int .i64 m] 3)).alloc (.cells #[.int .i64 R.length] 3)).alloc (.cells #[.bool false] 4)).alloc (.cells #[.pointer (some ⟨tt,0,none⟩)] 188):=⟨_,rfl⟩
 have hBF : Boxed W0 b 3 (.int .i64 f):=by rw [hW0,hb];exact ((((Boxed.new w _ _).alloc _).alloc _).alloc _).alloc _
 have hBM : Boxed W0 (b + 1) 3 (.int .i64 m):=by
  rw [hW0,hb]
  have:=(((Boxed.new (w.alloc (.cells #[.int .i64 f] 3)) 3 (.int .i64 m)).alloc (.cells #[.int .i64 R.length] 3)).alloc (.cells #[.bool false] 4)).alloc (.cells #[.pointer (some ⟨tt,0,none⟩)] 188)
  simpa only [World.size_alloc] using this
 have hBA : Boxed W0 (b + 1 + 1) 3 (.int .i64 R.length):=by
  rw [hW0,hb]
  have:=((Boxed.new ((w.alloc (.cells #[.int .i64 f] 3)).alloc (.cells #[.int .i64 m] 3)) 3 (.int .i64 R.length)).alloc (.cells #[.bool false] 4)).alloc (.cells #[.pointer (some ⟨tt,0,none⟩)] 188)
  simpa only [World.size_alloc] using this
 have hBH : Boxed W0 (b + 1 + 1 + 1) 4 (.bool false):=by
  rw [hW0,hb]
  have:=(Boxed.new (((w.alloc (.cells #[.int .i64 f] 3)).alloc (.cells #[.int .i64 m] 3)).alloc (.cells #[.int .i64 R.length] 3)) 4 (.bool false)).alloc (.cells #[.pointer (some ⟨tt,0,none⟩)] 188)
  simpa only [World.size_alloc] using this
 have hBT : Boxed W0 (b + 1 + 1 + 1 + 1) 188 (.pointer (some ⟨tt,0,none⟩)):=by
  rw [hW0,hb]
  have:=Boxed.new ((((w.alloc (.cells #[.int .i64 f] 3)).alloc (.cells #[.int .i64 m] 3)).alloc (.cells #[.int .i64 R.length] 3)).alloc (.cells #[.bool false] 4)) 188 (.pointer (some ⟨tt,0,none⟩))
  simpa only [World.size_alloc] using this
 have hsz : W0.heap.size = b + 5:=by rw [hW0,hb];simp
 have hB0 : Below w.heap.size w W0:=by rw [hW0];exact ((((((Below.refl _ w).alloc (Nat.le_refl _) _).alloc (by simp) _).alloc (by simp;omega) _).alloc (by simp;omega) _).alloc (by simp;omega) _)
 rw [← hW0,← hb]
 rw [← hb] at htt hB0
 have HTR:=Lib.hid (H.out.rdt)
 rw [← hb] at HTR
 have HWB : Hid (w.heap.size = b):=hb.symm
 clear hW0 c0 hb
 refine wpIn_rangeFunc_ownH (F:=Fence.wide) rfl (by omega) (gf:=205) (lb:=#[.pointer (some ⟨b + 1 + 1 + 1 + 1,0,none⟩)]) rfl trivial (enters_of Tryz.func205 (by kernel_rfl) rfl)
  (all_stops Fence.wide _ trivial rfl (by omega) (b + 1 + 1 + 1 + 1) b tt cap n a R H.out.ok W0 (by omega) (by omega) hBT.cell (HTR.out.below hB0)) belowK_t (belowK_b (by omega)) (Below.refl _ _) (fun _=>rfl)
  (fun pre W=>((Boxed W b 3 (.int .i64 f) ∧ Boxed W (b + 1) 3 (.int .i64 m)) ∧ (Boxed W (b + 1 + 1) 3 (.int .i64 R.length) ∧ Boxed W (b + 1 + 1 + 1) 4 (.bool false)) ∧ passed f (came pre) = true) ∧ Below b w W)
  (fun c pre W=>∃ (at_ : Nat) (hit : Bool),(Boxed W (b + 1 + 1) 3 (.int .i64 at_) ∧ Boxed W (b + 1 + 1 + 1) 4 (.bool hit)) ∧ ((c = .exit 0 ∧ Left f m at_ hit pre) ∧ Below b w W))
  (OwnFrom.and (OwnFrom.and (OwnFrom.and (Go.Own.from (boxed_own _ _ _) _) (Go.Own.from (boxed_own _ _ _) _)) (OwnFrom.and (OwnFrom.and (Go.Own.from (boxed_own _ _ _) _) (Go.Own.from (boxed_own _ _ _) _)) (ownFrom_pure _ _))) (ownFrom_below (by rw [HWB.out];exact Nat.le_refl _) (by omega)))
  (fun c s X Y row hs hg hr=>by
   obtain ⟨at_,hit,⟨h1,h2⟩,h3,h4⟩:=hs
   exact ⟨at_,hit,⟨(Go.Own.from (boxed_own _ _ (fun (_ : Unit)=>Value.int .i64 at_)) _) () X Y row h1 hg hr,(Go.Own.from (boxed_own _ _ (fun (_ : Unit)=>Value.bool hit)) _) () X Y row h2 hg hr⟩,h3,(ownFrom_below (β:=Unit) (by rw [HWB.out];exact Nat.le_refl _) (by omega)) () X Y row h4 hg hr⟩)
  ⟨⟨⟨hBF,hBM⟩,⟨hBA,hBH⟩,rfl⟩,hB0⟩
  (fun x a' W=>∃ Bx,b + 1 + 1 + 1 < Bx ∧ ObjAt W Bx 227 (rnC (clR x.2)) ∧ a' = { tmps:=#[.pointer (some ⟨tt,0,none⟩),.int .i64 f,.int .i64 m,undef,.pointer (some ⟨b,0,none⟩),.pointer (some ⟨b + 1,0,none⟩),.int .i64 0,.bool false,.pointer (some ⟨b + 1 + 1,0,none⟩),.pointer (some ⟨b + 1 + 1 + 1,0,none⟩),.int .i64 (cl x.1 : Nat),.pointer (some ⟨Bx,0,none⟩),.pointer (some ⟨tt,0,none⟩),.pointer (some ⟨tt,0,none⟩),.pointer (some ⟨tt,0,none⟩),.slice a R.length cap,.int .i64 R.length,.pointer (some ⟨tt,0,none⟩),.func (.func 205) #[] #[.pointer (some ⟨b + 1 + 1 + 1 + 1,0,none⟩)],.int .i64 (cl x.1 : Nat),runV (clR x.2),undef,undef,undef,undef,undef,undef,undef,undef,undef,undef,undef,undef,undef,undef,undef],defers:=[] })
  (fun x a' _ X Y row hs hg hr=>by obtain ⟨Bx,h1,h2,h3⟩:=hs;exact ⟨Bx,h1,objAt_own Bx 227 (rnC (clR x.2)) () X Y row h2 hg (fun r e=>(hr r e).2),h3⟩)
  ?assign ?body ?done ?stop
 case assign=>
  rintro l pre x W K ⟨⟨⟨h1,h2⟩,⟨h3,h4⟩,h5⟩,hB1⟩ hK
  have hbz : b ≤ W.heap.size:=Nat.le_of_lt h1.lt
  obtain ⟨ix,fr,mr,who⟩:=x
  simp only [encR,runV,clR]
  gi_wp2
  exact hK _ _ ((KeepsOthers.alloc _ _).from _) ((Below.refl _ W).alloc hbz _) ⟨⟨⟨h1.alloc _,h2.alloc _⟩,⟨h3.alloc _,h4.alloc _⟩,h5⟩,hB1.alloc hbz _⟩ ⟨W.heap.size,h4.lt,ObjAt.new W _ (rnC (clR (fr,mr,who))),rfl⟩
 case body=>
  rintro l pre x a' W hl hr ⟨⟨⟨h1,h2⟩,⟨h3,h4⟩,h5⟩,hB1⟩ ⟨Bx,hBx,bX,rfl⟩ hlt
  have hps:=passed_snoc f (came pre) (clR x.2)
  rw [← came_snoc,h5,Bool.true_and] at hps
  have HLF : Hid (¬ (clR x.2).1 + (clR x.2).2.1 ≤ f → ∀ hit,hit = decide ((clR x.2).1 < f + m) → Left f m (cl x.1) hit (pre ++ [x])):=fun hn hit he=>⟨pre,x,rfl,h5,hn,rfl,he⟩
  have hq0 : (clR x.2).1 ≤ 64:=cl_le _
  have hq1 : (clR x.2).2.1 ≤ 64:=cl_le _
  have hqi : cl x.1 ≤ 64:=cl_le _
  generalize clR x.2 = y at bX hps hq0 hq1 HLF
  generalize cl x.1 = ix at hqi HLF
  obtain ⟨fr,mr,who⟩:=y
  have HPS:=Lib.hid hps
  have x0:=bX.cell 0 _ rfl;have x1:=bX.cell 1 _ rfl;have x2:=bX.cell 2 _ rfl
  have k1:=h1.cell;have k2:=h2.cell;have k3:=h3.cell;have k4:=h4.cell
  have f3:=h3.frozen;have f4:=h4.frozen
  have hlB:=bX.lt
  have hl1 : b < W.heap.size:=h1.lt
  have hl2 : b + 1 < W.heap.size:=h2.lt
  have hl3 : b + 1 + 1 < W.heap.size:=h3.lt
  have hl4 : b + 1 + 1 + 1 < W.heap.size:=h4.lt
  have hmx : Tryz.prog.follows .mixedOrders = true:=by kernel_rfl
  dsimp only at hps hq0 hq1 HLF HPS
  clear hps
  by_cases g0 : fr + mr ≤ f
  ·have t0 : decide ((fr : Int) + mr ≤ f) = true:=by simp;omega
   obtain ⟨X,hX⟩ : ∃ X,X = (W.alloc (.cells #[.int .i64 fr,.int .i64 mr,.int .i64 who] 227)).drew:=⟨_,rfl⟩
   have FIN : Hid (KeepsFrom W0.heap.size W X ∧ Below b W X ∧ (((Boxed X b 3 (.int .i64 f) ∧ Boxed X (b + 1) 3 (.int .i64 m)) ∧ (Boxed X (b + 1 + 1) 3 (.int .i64 R.length) ∧ Boxed X (b + 1 + 1 + 1) 4 (.bool false)) ∧ passed f (came (pre ++ [x])) = true) ∧ Below b w X)):=by
    rw [hX]
    exact ⟨KeepsOthers.from (by (repeat (first | exact KeepsOthers.refl _ | refine KeepsOthers.trans ?_ (KeepsOthers.drew _) | refine KeepsOthers.trans ?_ (KeepsOthers.setCell _ _ _) | refine KeepsOthers.trans ?_ (KeepsOthers.alloc _ _)))) _,by (repeat (first | exact Below.refl _ _ | assumption | refine Below.drew ?_ | (refine Below.setCell ?_ ?_ _;rotate_left;(first | omega | (simp;done) | (simp;omega));rotate_left) | (refine Below.alloc ?_ ?_ _;rotate_left;(first | omega | (simp;done) | (simp;omega));rotate_left))),⟨⟨by (repeat (first | assumption | refine boxed_drew ?_ | refine Boxed.alloc ?_ _ | (refine Boxed.other ?_ ?_ _;rotate_left;(first | omega | (simp;done) | (simp;omega))) | exact Boxed.set _ (by (repeat (first | assumption | refine boxed_drew ?_ | refine Boxed.alloc ?_ _ | (refine Boxed.other ?_ ?_ _;rotate_left;(first | omega | (simp;done) | (simp;omega)))))))),by (repeat (first | assumption | refine boxed_drew ?_ | refine Boxed.alloc ?_ _ | (refine Boxed.other ?_ ?_ _;rotate_left;(first | omega | (simp;done) | (simp;omega))) | exact Boxed.set _ (by (repeat (first | assumption | refine boxed_drew ?_ | refine Boxed.alloc ?_ _ | (refine Boxed.other ?_ ?_ _;rotate_left;(first | omega | (simp;done) | (simp;omega))))))))⟩,⟨by (repeat (first | assumption | refine boxed_drew ?_ | refine Boxed.alloc ?_ _ | (refine Boxed.other ?_ ?_ _;rotate_left;(first | omega | (simp;done) | (simp;omega))) | exact Boxed.set _ (by (repeat (first | assumption | refine boxed_drew ?_ | refine Boxed.alloc ?_ _ | (refine Boxed.other ?_ ?_ _;rotate_left;(first | omega | (simp;done) | (simp;omega)))))))),by (repeat (first | assumption | refine boxed_drew ?_ | refine Boxed.alloc ?_ _ | (refine Boxed.other ?_ ?_ _;rotate_left;(first | omega | (simp;done) | (simp;omega))) | exact Boxed.set _ (by (repeat (first | assumption | refine boxed_drew ?_ | refine Boxed.alloc ?_ _ | (refine Boxed.other ?_ ?_ _;rotate_left;(first | omega | (simp;done) | (simp;omega))))))))⟩,by rw [HPS.out];simpa using g0⟩,by (repeat (first | exact Below.refl _ _ | assumption | refine Below.drew ?_ | (refine Below.setCell ?_ ?_ _;rotate_left;(first | omega | (simp;done) | (simp;omega));rotate_left) | (refine Below.alloc ?_ ?_ _;rotate_left;(first | omega | (simp;done) | (simp;omega));rotate_left)))⟩
   rw [hX] at FIN
   clear hX HLF HPS g0
   gi_wp2
   gi_region_with_o (gi_at_call 188;refine (CallsIn.inRound l (callsIn_wide.2 (end_any fr mr who _ hq0 hq1))).mono ?_;rintro e w' ⟨rfl,rfl⟩)
   all_goals gi_wp2
   all_goals exact FIN.out
  ·have t0 : decide ((fr : Int) + mr ≤ f) = false:=by simp;omega
   by_cases g1 : fr < f + m
   ·have t1 : decide ((fr : Int) < (f : Int) + m) = true:=by simp;omega
    have HL2:=Lib.hid (HLF.out g0 true (by simpa using g1))
    obtain ⟨X,hX⟩ : ∃ X,X = (((W.setCell ⟨b + 1 + 1 + 1,0,none⟩ (.bool true)).setCell ⟨b + 1 + 1,0,none⟩ (.int .i64 ix)).alloc (.cells #[.int .i64 fr,.int .i64 mr,.int .i64 who] 227)).drew:=⟨_,rfl⟩
    have FIN : Hid (KeepsFrom W0.heap.size W X ∧ (Boxed X (b + 1 + 1) 3 (.int .i64 ix) ∧ Boxed X (b + 1 + 1 + 1) 4 (.bool true)) ∧ Below b w X):=by
     rw [hX]
     exact ⟨KeepsOthers.from (by (repeat (first | exact KeepsOthers.refl _ | refine KeepsOthers.trans ?_ (KeepsOthers.drew _) | refine KeepsOthers.trans ?_ (KeepsOthers.setCell _ _ _) | refine KeepsOthers.trans ?_ (KeepsOthers.alloc _ _)))) _,⟨boxed_drew (((h3.other (by omega) _).set _).alloc _),boxed_drew (((h4.set _).other (by omega) _).alloc _)⟩,by (repeat (first | exact Below.refl _ _ | assumption | refine Below.drew ?_ | (refine Below.setCell ?_ ?_ _;rotate_left;(first | omega | (simp;done) | (simp;omega));rotate_left) | (refine Below.alloc ?_ ?_ _;rotate_left;(first | omega | (simp;done) | (simp;omega));rotate_left)))⟩
    rw [hX] at FIN
    clear hX HLF HPS g0 g1
    gi_wp2
    gi_region_with_o (gi_at_call 188;refine (CallsIn.inRound l (callsIn_wide.2 (end_any fr mr who _ hq0 hq1))).mono ?_;rintro e w' ⟨rfl,rfl⟩)
    all_goals gi_wp2
    all_goals exact ⟨FIN.out.1,_,_,FIN.out.2.1,⟨rfl,HL2.out⟩,FIN.out.2.2⟩
   ·have t1 : decide ((fr : Int) < (f : Int) + m) = false:=by simp;omega
    have HL2:=Lib.hid (HLF.out g0 false (by simpa using g1))
    obtain ⟨X,hX⟩ : ∃ X,X = ((W.setCell ⟨b + 1 + 1,0,none⟩ (.int .i64 ix)).alloc (.cells #[.int .i64 fr,.int .i64 mr,.int .i64 who] 227)).drew:=⟨_,rfl⟩
    have FIN : Hid (KeepsFrom W0.heap.size W X ∧ (Boxed X (b + 1 + 1) 3 (.int .i64 ix) ∧ Boxed X (b + 1 + 1 + 1) 4 (.bool false)) ∧ Below b w X):=by
     rw [hX]
     exact ⟨KeepsOthers.from (by (repeat (first | exact KeepsOthers.refl _ | refine KeepsOthers.trans ?_ (KeepsOthers.drew _) | refine KeepsOthers.trans ?_ (KeepsOthers.setCell _ _ _) | refine KeepsOthers.trans ?_ (KeepsOthers.alloc _ _)))) _,⟨boxed_drew ((h3.set _).alloc _),boxed_drew ((h4.other (by omega) _).alloc _)⟩,by (repeat (first | exact Below.refl _ _ | assumption | refine Below.drew ?_ | (refine Below.setCell ?_ ?_ _;rotate_left;(first | omega | (simp;done) | (simp;omega));rotate_left) | (refine Below.alloc ?_ ?_ _;rotate_left;(first | omega | (simp;done) | (simp;omega));rotate_left)))⟩
    rw [hX] at FIN
    clear hX HLF HPS g0 g1
    gi_wp2
    gi_region_with_o (gi_at_call 188;refine (CallsIn.inRound l (callsIn_wide.2 (end_any fr mr who _ hq0 hq1))).mono ?_;rintro e w' ⟨rfl,rfl⟩)
    all_goals gi_wp2
    all_goals exact ⟨FIN.out.1,_,_,FIN.out.2.1,⟨rfl,HL2.out⟩,FIN.out.2.2⟩
 case done=>
  rintro D ys W hD rfl ⟨⟨⟨h1,h2⟩,⟨h3,h4⟩,h5⟩,hB1⟩ hK
  rw [came_numbered H.out.ok,List.take_length] at h5
  have HV:=Lib.hid (meet_pass f m R h5)
  have k3:=h3.cell;have k4:=h4.cell
  have HK:=Lib.hid hK
  clear h5
  gi_wp2
  gi_quiet (fail)
  gi_wp2
  have hK2 : (W.drewN nq).heap[D]? = some (.deferred (some [])):=hK
  refine ⟨by simp,.inl ⟨_,_,rfl,run_takeDeferred hK2,?_⟩⟩
  refine ⟨.tuple #[.int .i64 R.length,.bool false],by simp [results,Tryz.f167,go_sem],by rw [HV.out],?_⟩
  rw [HWB.out]
  exact (below_drewN hB1 nq).trans (belowK_b (w:=w) (by rw [HWB.out];exact Nat.le_refl _) _ D _ _ (by rw [HWB.out];omega) hK2 rfl rfl)
 case stop=>
  rintro D c pre W hD ⟨k,hk,rfl⟩ ⟨at_,hit,⟨h3,h4⟩,⟨rfl,hf⟩,hB1⟩ hK
  have HV:=Lib.hid (left_meet H.out.ok hk hf)
  have k3:=h3.cell;have k4:=h4.cell
  clear hf
  gi_wp2
  gi_quiet (fail)
  gi_wp2
  have hK2 : (W.drewN nq).heap[D]? = some (.deferred (some [])):=hK
  refine ⟨by simp,.inl ⟨_,_,rfl,run_takeDeferred hK2,?_⟩⟩
  refine ⟨.tuple #[.int .i64 at_,.bool hit],by simp [results,Tryz.f167,go_sem],by rw [HV.out],?_⟩
  rw [HWB.out]
  exact (below_drewN hB1 nq).trans (belowK_b (w:=w) (by rw [HWB.out];exact Nat.le_refl _) _ D _ _ (by rw [HWB.out];omega) hK2 rfl rfl)
end Go.Proofs.YtoklonmiejdgmaaGreatDoor
