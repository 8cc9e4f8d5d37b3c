/- Package script: fits, a sector's line, an image's lines. -/
import Derived.Test.YtoklonmiejdgmaaGreatDoorGScriptBack7
import Derived.Test.YtoklonmiejdgmaaGreatDoorGScriptBack5
import Derived.Test.YtoklonmiejdgmaaGreatDoorGScriptBack8
import Derived.Deep.RegionHeld3
import Derived.Test.YtoklonmiejdgmaaGreatDoorGScriptBack0
import Derived.Test.YtoklonmiejdgmaaGreatDoorGScriptBack4
namespace Go.Proofs.YtoklonmiejdgmaaGreatDoor.Sp
set_option linter.unusedVariables false
set_option linter.unusedSimpArgs false
set_option linter.unnecessarySimpa false
open Go.RowKit Go.Sort
set_option maxHeartbeats 4000000
set_option maxRecDepth 100000
set_option linter.unusedVariables false
theorem rdw_new (W : World) (L : List (List UInt8)) (h : L.length ≤ 1000000) : RdW (W.alloc (.cells (strC L).toArray 9)) (some ⟨W.heap.size,0,none⟩) L.length L:=by
 have ho:=ObjAt.new W 9 (strC L)
 refine ⟨⟨by rw [strC_len,Nat.mul_one],(fun h=>by cases h),fun p hp _=>?_⟩,Nat.le_refl _,by unfold maxLen;omega⟩
 injection hp with hp
 exact ⟨W.heap.size,0,hp.symm,by simp,fun j u hu=>by rw [Nat.zero_add];exact ho.cell j u hu⟩
theorem fits_any (g : Nat) (l : List Int) (hl : l.length ≤ 1000) (W : World) (hc : ∀ k (hk : k < l.length),W.cell? ⟨g,k,none⟩ = some (.int .i64 l[k])) :
  Calls Tryz.prog 70 #[.slice (some ⟨g,0,none⟩) l.length l.length] W fun e w'=>e = .returned (.bool (l.all fitB)) ∧ w' = W:=by
 have HN : Hid (∀ k (hk : k < l.length),fitB l[k] = false → l.all fitB = false):=fun k hk h=>by
  rw [List.all_eq_false];exact ⟨l[k],List.getElem_mem hk,by rw [h];simp⟩
 have HY : Hid ((∀ k (hk : k < l.length),fitB l[k] = true) → l.all fitB = true):=fun h=>by
  rw [List.all_eq_true];intro x hx
  obtain ⟨k,hk,rfl⟩:=List.mem_iff_getElem.1 hx
  exact h k hk
 obtain ⟨R,hR⟩ : ∃ R,R = l.all fitB:=⟨_,rfl⟩
 rw [← hR] at HN HY ⊢
 clear hR
 have HC:=Lib.hid hc
 clear hc
 go_enter Tryz.func70,Tryz.ntmps70
 go_upto_region 2 with fail
 go_loop [7] (fun z=>∃ k : Nat,k ≤ l.length ∧ z = .int .i64 k ∧ ∀ j (hj : j < l.length),j < k → fitB l[j] = true) (fun z=>l.length - (intOf z).toNat)
 case atStart=>exact ⟨0,by omega,rfl,fun j _ h=>by omega⟩
 case round=>
  obtain ⟨k,hk,rfl,hb⟩:=hrel
  have HB:=Lib.hid hb
  clear hb
  by_cases hlt : k < l.length
  ·have c:=HC.out k hlt
   obtain ⟨x,hx⟩ : ∃ x,Hid (x = l[k]):=⟨_,Lib.hid rfl⟩
   rw [← hx.out] at c
   have d1 : decide ((k : Int) < (l.length : Int)) = true:=decide_eq_true (by omega)
   have d1' : decide (k < l.length) = true:=decide_eq_true hlt
   have w1 : IntKind.i64.wrap ((k : Int) + 1) = (k : Int) + 1:=by rw [IntKind.wrap_i64];omega
   by_cases hx0 : x < 0
   ·have HF:=Lib.hid (HN.out k hlt (by rw [← hx.out,fitB];simp;omega))
    have e1 : decide (x < 0) = true:=decide_eq_true hx0
    go_wp2_with fail
    go_ret
    exact ⟨by rw [HF.out];rfl,rfl⟩
   ·have e1 : decide (x < 0) = false:=decide_eq_false hx0
    by_cases hx1 : 999999999 < x
    ·have HF:=Lib.hid (HN.out k hlt (by rw [← hx.out,fitB];simp;omega))
     have e2 : decide (x > 999999999) = true:=decide_eq_true hx1
     go_wp2_with fail
     go_ret
     exact ⟨by rw [HF.out];rfl,rfl⟩
    ·have e2 : decide (x > 999999999) = false:=decide_eq_false hx1
     have HB2 : Hid (∀ j (hj : j < l.length),j < k + 1 → fitB l[j] = true):=fun j hj h=>by
      by_cases e : j = k
      ·subst e;rw [← hx.out];exact fitB_iff.2 ⟨by omega,by omega⟩
      ·exact HB.out j hj (by omega)
     go_wp2_with fail
     go_round
     case rel=>exact ⟨k + 1,by omega,by go_num,HB2.out⟩
     case measure=>simp [intOf];omega
  ·obtain rfl : k = l.length:=by omega
   have d1 : decide ((l.length : Int) < (l.length : Int)) = false:=decide_eq_false (by omega)
   have HF:=Lib.hid (HY.out fun j hj=>HB.out j hj hj)
   go_wp2_with fail
   go_ret
   exact ⟨by rw [HF.out];rfl,rfl⟩
theorem PgIs.lt {w : World} {B b : Nat} {l : List UInt8} (h : PgIs w B b l) : b < w.heap.size:=by
 rcases h with ⟨_,v,h2,_⟩ | ⟨_,v,h2,_⟩ <;> exact (Array.getElem?_eq_some_iff.1 h2).1
/-- What a line leaves that may be none. -/
def SmPost (w : World) (b : Nat) (t : List UInt8) (W : World) (r : Option (List UInt8)) (e : Ending) (w' : World) : Prop:=match r with
 | some m=>e = .returned (.bool true) ∧ PG w b (t ++ m) w' ∧ Kept b W w'
 | none=>e = .returned (.bool false) ∧ PG w b t w' ∧ Kept b W w'
theorem ssector_any (x : Int × List UInt8) (hd : x.2.length ≤ 1048576) (w : World) (b : Nat) (t : List UInt8) (W : World) (hg : PG w b t W) (ht : t.length ≤ 100000000000000) :
  Calls Tryz.prog 39 #[.pointer (some ⟨b,0,none⟩),.agg #[.int .i64 x.1,.string (ba x.2)]] W (SmPost w b t W (if fitB x.1 then some (lnT (secW x)) else none)):=by
 obtain ⟨at_,d⟩:=x
 simp only at hd ⊢
 have HLEN:=Lib.hid (fun h=>secT_len (x:=(at_,d)) h hd)
 obtain ⟨W1,hW1⟩ : ∃ W1,W1 = W.alloc (.cells #[.int .i64 at_,.string (ba d)] 72):=⟨_,rfl⟩
 obtain ⟨b1,hb1⟩ : ∃ b1,b1 = W.heap.size:=⟨_,rfl⟩
 have HO1 : Hid (ObjAt W1 b1 72 [.int .i64 at_,.string (ba d)]):=by rw [hW1,hb1];exact ObjAt.new W _ _
 have hbw : Below W.heap.size W W1:=by rw [hW1];exact (Below.refl _ _).alloc (Nat.le_refl _) _
 have HG1:=Lib.hid (hg.more hbw)
 have HK1:=Lib.hid (Kept.ofBelow (b:=b) hbw)
 have HW1:=Lib.hid hW1
 have HBB:=Lib.hid hb1
 obtain ⟨W2,hW2⟩ : ∃ W2,W2 = W1.alloc (.cells #[.int .i64 at_] 3):=⟨_,rfl⟩
 have hb2 : Below W1.heap.size W1 W2:=by rw [hW2];exact (Below.refl _ _).alloc (Nat.le_refl _) _
 have HG2:=Lib.hid (HG1.out.more hb2)
 have HK2:=Lib.hid (HK1.out.trans (Kept.ofBelow hb2))
 have HO2:=Lib.hid (HO1.out.below hb2)
 have hf0 : Calls Tryz.prog 70 #[.slice (some ⟨W1.heap.size,0,none⟩) 1 1] W2 fun e w'=>e = .returned (.bool (fitB at_)) ∧ w' = W2:=by
  have:=fits_any W1.heap.size [at_] (by simp) W2 (fun k hk=>by
   have ho : ObjAt W2 W1.heap.size 3 [.int .i64 at_]:=by rw [hW2];exact ObjAt.new W1 _ _
   have : k = 0:=by simpa using hk
   subst this;exact ho.cell 0 _ rfl)
  simpa using this
 have HF:=Lib.hid hf0
 have HNE : Hid (b1 ≠ b):=by have:=hg.pg.lt;rw [Hid,hb1];omega
 have HW2:=Lib.hid hW2
 clear hW1 hb1 hW2 hg hbw hb2 hf0
 cases hf : fitB at_
 ·have HF : Hid (Calls Tryz.prog 70 #[.slice (some ⟨W1.heap.size,0,none⟩) 1 1] W2 fun e w'=>e = .returned (.bool false) ∧ w' = W2):=by rw [← hf];exact HF.out
  rw [if_neg (by simp)]
  clear hf hd
  obtain ⟨P,hP⟩ : ∃ P,P = SmPost w b t W none:=⟨_,rfl⟩
  have HPP : Hid (∀ w',PG w b t w' → Kept b W w' → P (.returned (.bool false)) w'):=fun w' h1 h2=>by rw [hP];exact ⟨rfl,h1,h2⟩
  rw [← hP]
  clear hP
  go_enter Tryz.func39,Tryz.ntmps39
  go_upto_region 1 with fail
  rw [← HW1.out,← HBB.out]
  have c0:=HO1.out.cell 0 _ rfl
  have c1:=HO1.out.cell 1 _ rfl
  go_wp2_with (go_at_call 70;rw [← HW2.out];refine HF.out.mono ?_;rintro e w3 ⟨rfl,rfl⟩)
  exact HPP.out _ HG2.out HK2.out
 ·have HF : Hid (Calls Tryz.prog 70 #[.slice (some ⟨W1.heap.size,0,none⟩) 1 1] W2 fun e w'=>e = .returned (.bool true) ∧ w' = W2):=by rw [← hf];exact HF.out
  rw [if_pos rfl]
  obtain ⟨P,hP⟩ : ∃ P,P = SmPost w b t W (some (lnT (secW (at_,d)))):=⟨_,rfl⟩
  have HPP : Hid (∀ w',PG w b (t ++ lnT (secW (at_,d))) w' → Kept b W w' → P (.returned (.bool true)) w'):=fun w' h1 h2=>by rw [hP];exact ⟨rfl,h1,h2⟩
  rw [← hP]
  clear hP
  obtain ⟨f0,f1⟩:=fitB_iff.1 hf
  have HIT:=fun W=>Lib.hid (itoa_dc at_ f0 (by omega) W)
  have HHX:=fun W=>Lib.hid (hex_any (ba d) (by rw [ba_size];omega) W)
  rw [ba_data] at HHX
  have HJL:=Lib.hid (HLEN.out hf)
  have HLN : Hid (∀ W',PG w b t W' → Calls Tryz.prog 69 #[.pointer (some ⟨b,0,none⟩),.slice (some ⟨W'.heap.size,0,none⟩) 3 3] (W'.alloc (.cells #[.string ⟨#[115,101,99,116,111,114]⟩,.string (ba (dc at_)),.string (ba (hexV d))] 9)) (LinePost w b (t ++ lnT (secW (at_,d))) (W'.alloc (.cells #[.string ⟨#[115,101,99,116,111,114]⟩,.string (ba (dc at_)),.string (ba (hexV d))] 9)))):=fun W' hg'=>by
   exact sline_any W'.heap.size 0 3 (secW (at_,d)) w b t _ (hg'.more ((Below.refl _ _).alloc (Nat.le_refl _) _)) (rdw_new W' (secW (at_,d)) (by simp [secW])) (by simp [secW]) (by have:=HJL.out;omega) (by simp [secW]) ht
  clear hf hd HLEN
  have HGd : Hid (PG w b t W2.drew):=HG2.out.more (Below.refl _ _).drew
  have HKd : Hid (Kept b W W2.drew):=HK2.out.trans (Kept.ofBelow (Below.refl _ _).drew)
  have HOd : Hid (ObjAt W2.drew b1 72 [.int .i64 at_,.string (ba d)]):=HO2.out.below (Below.refl _ _).drew
  go_enter Tryz.func39,Tryz.ntmps39
  go_upto_region 1 with fail
  rw [← HW1.out,← HBB.out]
  have c0:=HO1.out.cell 0 _ rfl
  have c1:=HO1.out.cell 1 _ rfl
  go_upto_region 3 with (go_at_call 70;rw [← HW2.out];refine HF.out.mono ?_;rintro e w3 ⟨rfl,rfl⟩)
  clear c0 c1
  go_region_held3 (fun W'=>W'.cell? ⟨b1,0,none⟩ = some (.int .i64 at_) ∧ W'.cell? ⟨b1,1,none⟩ = some (.string (ba d))) (first | exact ⟨HOd.out.cell 0 _ rfl,HOd.out.cell 1 _ rfl⟩ | exact ⟨(HOd.out.below ((Below.refl _ _).alloc (Nat.le_refl _) _)).cell 0 _ rfl,(HOd.out.below ((Below.refl _ _).alloc (Nat.le_refl _) _)).cell 1 _ rfl⟩ | exact ⟨HOe.out.cell 0 _ rfl,HOe.out.cell 1 _ rfl⟩) (first | (go_at_call 71;refine ((HIT _).out HGd.out.powW).mono ?_;rintro e W4 ⟨rfl,hb⟩;have HOd:=Lib.hid (HOd.out.below hb);have HKd:=Lib.hid (HKd.out.trans (Kept.ofBelow hb));have HGd:=Lib.hid (HGd.out.more hb);clear hb) | (go_at_call 12;refine ((HHX _).out).mono ?_;rintro e W5 ⟨rfl,hb⟩;have HOd:=Lib.hid (HOd.out.below hb);have HKd:=Lib.hid (HKd.out.trans (Kept.ofBelow hb));have HGd:=Lib.hid (HGd.out.more hb);clear hb) | (go_at_call 69;refine (HLN.out _ HGd.out).mono ?_;rintro e W6 ⟨rfl,h5,h6⟩;have HGE:=Lib.hid h5;have HOe:=Lib.hid (h6.obj (HOd.out.below ((Below.refl _ _).alloc (Nat.le_refl _) _)) HNE.out (by decide));have HKE:=Lib.hid ((HKd.out.trans (Kept.ofBelow ((Below.refl _ _).alloc (Nat.le_refl _) _))).trans h6);clear h5 h6))
  all_goals
   go_wp2_with fail
   exact HPP.out _ HGE.out HKE.out
end Go.Proofs.YtoklonmiejdgmaaGreatDoor.Sp
/- Package script: what an input's line is put by. -/
namespace Go.Proofs.YtoklonmiejdgmaaGreatDoor.Sp
set_option linter.unusedVariables false
set_option linter.unusedSimpArgs false
set_option linter.unnecessarySimpa false
open Go.RowKit Go.Sort
set_option maxHeartbeats 4000000
set_option maxRecDepth 100000
set_option linter.unusedVariables false
theorem info_st : (Tryz.prog.info? 9).map (fun i=>(i.zero,i.size,i.bytes)) = some (some (.string ⟨#[]⟩),1,16):=by kernel_rfl
theorem own_strs (W : World) (B : Nat) (hB : B ≤ W.heap.size) (L : List (List UInt8)) (hl : L.length ≤ maxLen) : Own (W.alloc (.cells (strC L).toArray 9)) B 9 1 (some ⟨W.heap.size,0,none⟩) L.length L.length (strC L):=
 ⟨by rw [strC_len,Nat.mul_one],.inr ⟨W.heap.size,L.length,(strC L).toArray,rfl,hB,new_block _ _ _ rfl,Nat.le_refl _,hl,by rw [List.size_toArray,strC_len,Nat.mul_one],by rw [Nat.mul_one,List.take_of_length_le (by rw [strC_len];exact Nat.le_refl _)]⟩⟩
theorem strC_cat (A B : List (List UInt8)) : strC (A ++ B) = strC A ++ strC B:=by simp [strC]
theorem one_strs (L : List (List UInt8)) : ∀ u ∈ strC L,u.oneCell' = true:=fun u hu=>by
 obtain ⟨x,_,rfl⟩:=List.mem_map.1 hu;rfl
theorem step_rd {P : Program} {w : World} {ops : Array Oper} {o : Oper} {a : Act} {K : Act → World → Prop} {Q : Exit → Act → World → Prop} {F : Prop} (hgd : o.guard = none) (s x : Operand) (t : TypeId)
  (ho : o.op = .call { callee:=.builtin .append,args:=#[s,x],argTypes:=#[t,t] })
  (B : Nat) (e : TypeId) (i : TypeInfo) (z : Value) (size bytes : Nat) (ht : P.underlying t = some (.slice e)) (hi : P.info? e = some i) (hz : i.zero = some z)
  (hsize : i.size = size) (hby : i.bytes = bytes) (hzs : z.cells.size = size) (hsz : 0 < size)
  (A : Option Addr) (n cap : Nat) (xs : List Value) (hs : a.eval s = .slice A n cap) (hown : Own w B e size A n cap xs)
  (g of m c : Nat) (news : List Value) (hx : a.eval x = .slice (some ⟨g,of,none⟩) m c) (hr : Rd w size (some ⟨g,of,none⟩) m news) (h1 : ∀ u ∈ news,u.oneCell' = true)
  (hm : 0 < m) (h63 : n + m ≤ maxLen) (hbytes : (n + m) * bytes ≤ 140737488355328) (hbase : B ≤ w.heap.size)
  (h : ∀ g' cap' w',Own w' B e size (some ⟨g',0,none⟩) (n + m) cap' (xs ++ news) → Mod (blk A) w w' → (g' ∈ blk A ∨ w.heap.size ≤ g') → K (a.put o.dst (.slice (some ⟨g',0,none⟩) (n + m) cap')) w') :
  if Region.wanted o (yielded ops a.tmps) = true then Oper.wp P o a w K Q else F:=by
 have hn : ∀ j u,news[j]? = some u → w.cell? ((⟨g,of,none⟩ : Addr).add j) = some u:=fun j u hu=>by
  obtain ⟨b,o',hb0,hb,hc⟩:=hr.2.2 _ rfl (by intro h0;subst h0;simp at hu)
  injection hb0 with e1 e2
  subst e1;subst e2
  have e : (⟨g,of,none⟩ : Addr).add j = ⟨g,of + j,none⟩:=by unfold Addr.add;split <;> simp_all
  rw [e];exact hc j u hu
 refine step_append_lies w hgd s x t ho B e i z size bytes ht hi hz hsize hby hzs hsz (.slice A n cap) n xs hs hown ⟨g,of,none⟩ m c news hx hr.1 hn h1 hm h63 hbytes hbase w.heap.size rfl ?_
 intro g' cap' w' h2 h3 h4 h5
 refine h g' cap' w' h2 (Mod.ofGrown h3 (fun k hk=>?_)) ?_
 ·cases A with
  | none=>simp [Value.ownBlock] at hk
  | some p=>exact mem_blk.2 ⟨p,rfl,by simpa [Value.ownBlock] using hk⟩
 ·rcases h4 with h4 | h4
  ·left
   cases A with
   | none=>simp [Value.ownBlock] at h4
   | some p=>exact mem_blk.2 ⟨p,rfl,by simpa [Value.ownBlock] using h4⟩
  ·right;omega
/-- The boxes that the writer of an input's line holds. -/
structure BX (W : World) (b b2 b3 : Nat) (x : Int × Int × Int × Int × List UInt8) : Prop where
 o2 : ObjAt W b2 88 [.pointer (some ⟨b,0,none⟩)]
 o3 : ObjAt W b3 74 (inR x)
 n2 : b2 ≠ b
 n3 : b3 ≠ b
theorem BX.below {W W' : World} {b b2 b3 : Nat} {x : Int × Int × Int × Int × List UInt8} (h : BX W b b2 b3 x) (hb : Below W.heap.size W W') : BX W' b b2 b3 x:=⟨h.o2.below hb,h.o3.below hb,h.n2,h.n3⟩
theorem BX.kept {W W' : World} {b b2 b3 : Nat} {x : Int × Int × Int × Int × List UInt8} (h : BX W b b2 b3 x) (hk : Kept b W W') : BX W' b b2 b3 x:=⟨hk.obj h.o2 h.n2 (by decide),hk.obj h.o3 h.n3 (by decide),h.n2,h.n3⟩
theorem BX.cells {W : World} {b b2 b3 : Nat} {x : Int × Int × Int × Int × List UInt8} (h : BX W b b2 b3 x) : W.cell? ⟨b2,0,none⟩ = some (.pointer (some ⟨b,0,none⟩)) ∧ W.cell? ⟨b3,0,none⟩ = some (.int .i64 x.1) ∧ W.cell? ⟨b3,1,none⟩ = some (.int .i64 x.2.1):=
 ⟨h.o2.cell 0 _ rfl,h.o3.cell 0 _ rfl,h.o3.cell 1 _ rfl⟩
theorem sput_any (x : Int × Int × Int × Int × List UInt8) (h0 : fitB x.1 = true) (h1 : fitB x.2.1 = true) (r : List (List UInt8)) (g o cap : Nat) (w : World) (b : Nat) (t : List UInt8) (W : World) (hg : PG w b t W) (hr : RdW W (some ⟨g,o,none⟩) cap r) (b2 b3 : Nat) (hx : BX W b b2 b3 x) (hr0 : 0 < r.length) (hrl : r.length ≤ 100)
  (hjl : (joinC 32 ([wInput,dc x.1,dc x.2.1] ++ r)).length ≤ 1000000000) (ht : t.length ≤ 100000000000000) :
  Calls Tryz.prog 72 #[.slice (some ⟨g,o,none⟩) r.length cap,.pointer (some ⟨b2,0,none⟩),.pointer (some ⟨b3,0,none⟩)] W (LinePost w b (t ++ lnT ([wInput,dc x.1,dc x.2.1] ++ r)) W):=by
 obtain ⟨i0,hi0,hz0,hz1,hz2⟩:=info_parts info_st
 obtain ⟨x0,x1,x2,x3,xd⟩:=x
 simp only at h0 h1 hjl ⊢
 obtain ⟨f0,f1⟩:=fitB_iff.1 h0
 obtain ⟨g0,g1⟩:=fitB_iff.1 h1
 have hgb:=hg.bel.size
 have HGd:=Lib.hid (hg.more (Below.refl _ _).drew)
 have HKd : Hid (Kept b W W.drew):=Lib.hid (Kept.ofBelow (Below.refl _ _).drew)
 have HXd:=Lib.hid (hx.below (Below.refl _ _).drew)
 have HRd:=Lib.hid (hr.below (Below.refl _ _).drew)
 have HJL:=Lib.hid hjl
 have hle:=hr.le
 have hmx:=hr.mx
 unfold maxLen at hmx
 have HLN : Hid (∀ (g' : Nat) c' W',PG w b t W' → Own W' W.heap.size 9 1 (some ⟨g',0,none⟩) (3 + r.length) c' (strC [wInput,dc x0,dc x1] ++ strC r) → Calls Tryz.prog 69 #[.pointer (some ⟨b,0,none⟩),.slice (some ⟨g',0,none⟩) (3 + r.length) c'] W' (LinePost w b (t ++ lnT ([wInput,dc x0,dc x1] ++ r)) W')):=fun g' c' W' hg' ho=>by
  have hlen : ([wInput,dc x0,dc x1] ++ r).length = 3 + r.length:=by simp;omega
  have hrd : RdW W' (some ⟨g',0,none⟩) c' ([wInput,dc x0,dc x1] ++ r):=⟨by rw [strC_cat,hlen];exact ho.rd,by rw [hlen];exact ho.le,ho.capMax⟩
  have:=sline_any g' 0 c' ([wInput,dc x0,dc x1] ++ r) w b t W' hg' hrd (by simp) (by have:=HJL.out;omega) (by rw [hlen];omega) ht
  rw [hlen] at this;exact this
 have HOW : Hid (∀ W' : World,W.heap.size ≤ W'.heap.size → Own (W'.alloc (.cells #[.string ⟨#[105,110,112,117,116]⟩,.string (ba (dc x0)),.string (ba (dc x1))] 9)) W.heap.size 9 1 (some ⟨W'.heap.size,0,none⟩) 3 3 (strC [wInput,dc x0,dc x1])):=fun W' h=>own_strs W' W.heap.size h [wInput,dc x0,dc x1] (by simp [maxLen])
 have HBd:=Lib.hid (show W.heap.size ≤ W.drew.heap.size from Nat.le_refl _)
 clear hg hr hx hjl h0 h1
 go_enter Tryz.func72,Tryz.ntmps72
 go_wp2_with fail
 go_region_held3 (fun W'=>W'.cell? ⟨b2,0,none⟩ = some (.pointer (some ⟨b,0,none⟩)) ∧ W'.cell? ⟨b3,0,none⟩ = some (.int .i64 x0) ∧ W'.cell? ⟨b3,1,none⟩ = some (.int .i64 x1)) (first | exact HXd.out.cells | exact (HXd.out.below ((Below.refl _ _).alloc (Nat.le_refl _) _)).cells | exact HXe.out.cells | exact HXf.out.cells) (first | (go_at_call 71;(with_reducible refine (itoa_dc x0 f0 (by omega) _ HGd.out.powW).mono ?_);rintro e W4 ⟨rfl,hb⟩;have HXd:=Lib.hid (HXd.out.below hb);have HKd:=Lib.hid (HKd.out.trans (Kept.ofBelow hb));have HRd:=Lib.hid (HRd.out.below hb);have HBd:=Lib.hid (Nat.le_trans HBd.out hb.size);have HGd:=Lib.hid (HGd.out.more hb);clear hb) | (go_at_call 71;(with_reducible refine (itoa_dc x1 g0 (by omega) _ HGd.out.powW).mono ?_);rintro e W5 ⟨rfl,hb⟩;have HXd:=Lib.hid (HXd.out.below hb);have HKd:=Lib.hid (HKd.out.trans (Kept.ofBelow hb));have HRd:=Lib.hid (HRd.out.below hb);have HBd:=Lib.hid (Nat.le_trans HBd.out hb.size);have HGd:=Lib.hid (HGd.out.more hb);clear hb) | ((refine step_rd (by rfl) (.tmp 11) (.tmp 12) 54 (by rfl) W.heap.size 9 i0 _ 1 16 Tryz.underlying54 hi0 hz0 hz1 hz2 rfl (by omega) _ 3 3 (strC [wInput,dc x0,dc x1]) rfl (HOW.out _ HBd.out) g o r.length cap (strC r) rfl (HRd.out.below ((Below.refl _ _).alloc (Nat.le_refl _) _)).rd (one_strs r) hr0 (by simp only [maxLen];omega) (by omega) (Nat.le_trans HBd.out (by simp)) ?_);intro g7 c' W7 hown hmod _;have HOo:=Lib.hid hown;have hbw:=hmod.below (B:=W5.heap.size) (fun k hk=>by simp [blk] at hk;omega) (by simp);have HB7:=Lib.hid hbw;have HGe:=Lib.hid (HGd.out.more (((Below.refl _ _).alloc (Nat.le_refl _) _).trans hbw));have HXe:=Lib.hid (HXd.out.below (((Below.refl _ _).alloc (Nat.le_refl _) _).trans hbw));have HKe:=Lib.hid (HKd.out.trans (Kept.ofBelow (((Below.refl _ _).alloc (Nat.le_refl _) _).trans hbw)));have HL7:=Lib.hid (HLN.out _ _ _ HGe.out HOo.out);clear hown hmod hbw) | (go_at_call 69;refine HL7.out.mono ?_;rintro e W8 ⟨rfl,h5,h6⟩;have HGE:=Lib.hid h5;have HXf:=Lib.hid (HXe.out.kept h6);have HKE:=Lib.hid (HKe.out.trans h6);clear h5 h6))
 all_goals
  go_wp2_with fail
  go_end0
  exact ⟨rfl,HGE.out,HKE.out⟩
end Go.Proofs.YtoklonmiejdgmaaGreatDoor.Sp
/- Package script: an input's line. -/
namespace Go.Proofs.YtoklonmiejdgmaaGreatDoor.Sp
set_option linter.unusedVariables false
set_option linter.unusedSimpArgs false
set_option linter.unnecessarySimpa false
open Go.RowKit Go.Sort
set_option maxHeartbeats 4000000
set_option maxRecDepth 100000
set_option linter.unusedVariables false
theorem sinput_any (x : Int × Int × Int × Int × List UInt8) (hd : x.2.2.2.2.length ≤ 1048576) (w : World) (b : Nat) (t : List UInt8) (W : World) (hg : PG w b t W) (ht : t.length ≤ 100000000000000) :
  Calls Tryz.prog 40 #[.pointer (some ⟨b,0,none⟩),.agg #[.int .i64 x.1,.int .i64 x.2.1,.int .i64 x.2.2.1,.int .i64 x.2.2.2.1,.string (ba x.2.2.2.2)]] W (SmPost w b t W ((inpW x).map lnT)):=by
 obtain ⟨x0,x1,k,n,d⟩:=x
 simp only at hd ⊢
 obtain ⟨W1,hW1⟩ : ∃ W1,W1 = W.alloc (.cells #[.pointer (some ⟨b,0,none⟩)] 88):=⟨_,rfl⟩
 obtain ⟨W2,hW2⟩ : ∃ W2,W2 = W1.alloc (.cells #[.int .i64 x0,.int .i64 x1,.int .i64 k,.int .i64 n,.string (ba d)] 74):=⟨_,rfl⟩
 obtain ⟨W3,hW3⟩ : ∃ W3,W3 = W2.alloc (.cells #[.int .i64 x0,.int .i64 x1,.int .i64 n] 3):=⟨_,rfl⟩
 obtain ⟨b2,hb2⟩ : ∃ b2,b2 = W.heap.size:=⟨_,rfl⟩
 obtain ⟨b3,hb3⟩ : ∃ b3,b3 = W.heap.size + 1:=⟨_,rfl⟩
 have hz1 : W1.heap.size = W.heap.size + 1:=by rw [hW1];simp
 have hbw1 : Below W.heap.size W W1:=by rw [hW1];exact ((Below.refl _ _).alloc (Nat.le_refl _) _)
 have hbw2 : Below W1.heap.size W1 W2:=by rw [hW2];exact ((Below.refl _ _).alloc (Nat.le_refl _) _)
 have hbw3 : Below W2.heap.size W2 W3:=by rw [hW3];exact ((Below.refl _ _).alloc (Nat.le_refl _) _)
 have hlt:=hg.pg.lt
 have hx2 : BX W2 b b2 b3 (x0,x1,k,n,d):=by
  refine ⟨?_,?_,by omega,by omega⟩
  ·have : ObjAt W1 b2 88 [.pointer (some ⟨b,0,none⟩)]:=by rw [hW1,hb2];exact ObjAt.new W _ _
   exact this.below hbw2
  ·rw [hb3,← hz1,hW2];exact ObjAt.new W1 _ _
 have HX2:=Lib.hid hx2
 have HX3:=Lib.hid (hx2.below hbw3)
 have HG3:=Lib.hid (((hg.more hbw1).more hbw2).more hbw3)
 have HK3 : Hid (Kept b W W3):=Lib.hid (((Kept.ofBelow hbw1).trans (Kept.ofBelow hbw2)).trans (Kept.ofBelow hbw3))
 have hf0 : Calls Tryz.prog 70 #[.slice (some ⟨W2.heap.size,0,none⟩) 3 3] W3 fun e w'=>e = .returned (.bool (fitB x0 && (fitB x1 && fitB n))) ∧ w' = W3:=by
  have:=fits_any W2.heap.size [x0,x1,n] (by simp) W3 (fun j hj=>by
   have ho : ObjAt W3 W2.heap.size 3 [.int .i64 x0,.int .i64 x1,.int .i64 n]:=by rw [hW3];exact ObjAt.new W2 _ _
   have : j = 0 ∨ j = 1 ∨ j = 2:=by simp at hj;omega
   rcases this with rfl | rfl | rfl
   ·exact ho.cell 0 _ rfl
   ·exact ho.cell 1 _ rfl
   ·exact ho.cell 2 _ rfl)
  simpa using this
 have HB2:=Lib.hid hb2
 have HB3:=Lib.hid hb3
 have HW3:=Lib.hid hW3
 rw [hW1] at hW2
 have HW2:=Lib.hid hW2
 clear hW1 hW2 hW3 hb2 hb3 hz1 hbw1 hbw2 hbw3 hlt hx2 hg
 cases hf : (fitB x0 && (fitB x1 && fitB n))
 ·rw [hf] at hf0
  have HF:=Lib.hid hf0
  have HSM : Hid (inpW (x0,x1,k,n,d) = none):=by rw [Hid,inpW];rw [if_neg (by simp only;rw [hf];simp)]
  rw [HSM.out]
  obtain ⟨P,hP⟩ : ∃ P,P = SmPost w b t W (Option.map lnT none):=⟨_,rfl⟩
  have HPP : Hid (∀ w',PG w b t w' → Kept b W w' → P (.returned (.bool false)) w'):=fun w' h1 h2=>by rw [hP];exact ⟨rfl,h1,h2⟩
  rw [← hP]
  clear hP HSM hf hf0 hd
  go_enter Tryz.func40,Tryz.ntmps40
  go_upto_region 1 with fail
  rw [← HW2.out,← HB3.out,← HB2.out]
  (have c0:=(HX2.out).o3.cell 0 _ rfl;have c1:=(HX2.out).o3.cell 1 _ rfl;have c2:=(HX2.out).o3.cell 2 _ rfl;have c3:=(HX2.out).o3.cell 3 _ rfl;have c4:=(HX2.out).o3.cell 4 _ rfl)
  go_wp2_with (go_at_call 70;rw [← HW3.out];refine HF.out.mono ?_;rintro e w3 ⟨rfl,rfl⟩)
  exact HPP.out _ HG3.out HK3.out
 ·rw [hf] at hf0
  have HF:=Lib.hid hf0
  have HIW:=Lib.hid (inpW_of (k:=k) (d:=d) hf)
  simp only [Bool.and_eq_true] at hf
  have F0:=Lib.hid hf.1
  have F1:=Lib.hid hf.2.1
  obtain ⟨n0,n1⟩:=fitB_iff.1 hf.2.2
  have bx:=ba_isEmpty d
  have HDE : Hid (d.isEmpty = true ↔ d = []):=List.isEmpty_iff
  clear hf0 hf
  by_cases hA : k = 0 ∧ n = 0
  ·obtain ⟨hk,hn⟩:=hA
   have HSM : Hid (inpW (x0,x1,k,n,d) = some ([wInput,dc x0,dc x1] ++ [wPacket,hexV d])):=by rw [Hid,HIW.out,tailW,if_pos ⟨hk,hn⟩];rfl
   obtain ⟨RR,hRR⟩ : ∃ RR,RR = [wPacket,hexV d]:=⟨_,rfl⟩
   have HRL : Hid (0 < RR.length ∧ RR.length ≤ 3):=by rw [hRR];exact ⟨by simp,by simp⟩
   rw [← hRR] at HSM
   rw [HSM.out]
   have z0 : (k == 0) = true:=by simp [hk]
   have z1 : (n == 0) = true:=by simp [hn]
   have HHX:=fun W=>Lib.hid (hex_any (ba d) (by rw [ba_size];omega) W)
   rw [ba_data] at HHX
   have HRR : Hid (#[Value.string ⟨#[112,97,99,107,101,116]⟩,.string (ba (hexV d))] = (strC RR).toArray ∧ 2 = RR.length):=by rw [hRR];exact ⟨rfl,rfl⟩
   clear hk hn hRR
   obtain ⟨P,hP⟩ : ∃ P,P = SmPost w b t W (Option.map lnT (some ([wInput,dc x0,dc x1] ++ RR))):=⟨_,rfl⟩
   have HPP : Hid (∀ w',PG w b (t ++ lnT ([wInput,dc x0,dc x1] ++ RR)) w' → Kept b W w' → P (.returned (.bool true)) w'):=fun w' h1 h2=>by rw [hP];exact ⟨rfl,h1,h2⟩
   rw [← hP]
   have HJL:=Lib.hid (inpT_len HSM.out hd)
   clear hP HSM
   have HPT : Hid (∀ (W' : World) (m : Nat),m = RR.length → PG w b t W' → BX W' b b2 b3 (x0,x1,k,n,d) → Calls Tryz.prog 72 #[.slice (some ⟨W'.heap.size,0,none⟩) m m,.pointer (some ⟨b2,0,none⟩),.pointer (some ⟨b3,0,none⟩)] (W'.alloc (.cells (strC RR).toArray 9)) (LinePost w b (t ++ lnT ([wInput,dc x0,dc x1] ++ RR)) (W'.alloc (.cells (strC RR).toArray 9)))):=fun W' m hm hg' hx'=>by
    subst hm
    exact sput_any (x0,x1,k,n,d) F0.out F1.out RR W'.heap.size 0 RR.length w b t _ (hg'.more ((Below.refl _ _).alloc (Nat.le_refl _) _)) (rdw_new W' RR (by have:=HRL.out;omega)) b2 b3 (hx'.below ((Below.refl _ _).alloc (Nat.le_refl _) _)) HRL.out.1 (by have:=HRL.out;omega) (Nat.le_trans HJL.out (by decide)) ht
   go_enter Tryz.func40,Tryz.ntmps40
   go_upto_region 1 with fail
   rw [← HW2.out,← HB3.out,← HB2.out]
   (have c0:=(HX2.out).o3.cell 0 _ rfl;have c1:=(HX2.out).o3.cell 1 _ rfl;have c2:=(HX2.out).o3.cell 2 _ rfl;have c3:=(HX2.out).o3.cell 3 _ rfl;have c4:=(HX2.out).o3.cell 4 _ rfl)
   go_upto_region 3 with (go_at_call 70;rw [← HW3.out];refine HF.out.mono ?_;rintro e w3 ⟨rfl,rfl⟩)
   (clear c0 c1 c2 c3 c4)
   (have c0:=(HX3.out).o3.cell 0 _ rfl;have c1:=(HX3.out).o3.cell 1 _ rfl;have c2:=(HX3.out).o3.cell 2 _ rfl;have c3:=(HX3.out).o3.cell 3 _ rfl;have c4:=(HX3.out).o3.cell 4 _ rfl)
   go_wp2_with (first | (go_at_call 12;refine ((HHX _).out).mono ?_;rintro e W4 ⟨rfl,hb⟩;have HX4:=Lib.hid (HX3.out.below hb);have HK4:=Lib.hid (HK3.out.trans (Kept.ofBelow hb));have HG4:=Lib.hid (HG3.out.more hb);clear hb;(clear c0 c1 c2 c3 c4)) | (go_at_call 72;rw [HRR.out.1];refine (HPT.out _ 2 HRR.out.2 HG4.out HX4.out).mono ?_;rintro e W5 ⟨rfl,h5,h6⟩;have HG5:=Lib.hid h5;have HK5:=Lib.hid ((HK4.out.trans (Kept.ofBelow ((Below.refl _ _).alloc (Nat.le_refl _) _))).trans h6);clear h5 h6))
   exact HPP.out _ HG5.out HK5.out
  ·by_cases hB : k = 1 ∧ d = []
   ·obtain ⟨hk,hn⟩:=hB
    have HSM : Hid (inpW (x0,x1,k,n,d) = some ([wInput,dc x0,dc x1] ++ [wLine,dc n])):=by rw [Hid,HIW.out,tailW,if_neg hA,if_pos ⟨hk,hn⟩];rfl
    obtain ⟨RR,hRR⟩ : ∃ RR,RR = [wLine,dc n]:=⟨_,rfl⟩
    have HRL : Hid (0 < RR.length ∧ RR.length ≤ 3):=by rw [hRR];exact ⟨by simp,by simp⟩
    rw [← hRR] at HSM
    rw [HSM.out]
    have z0 : (k == 0) = false:=by simp [hk]
    have z1 : (k == 1) = true:=by simp [hk]
    rw [HDE.out.2 hn] at bx
    have HIT:=fun W=>Lib.hid (itoa_dc n n0 (by omega) W)
    have HRR : Hid (#[Value.string ⟨#[108,105,110,101]⟩,.string (ba (dc n))] = (strC RR).toArray ∧ 2 = RR.length):=by rw [hRR];exact ⟨rfl,rfl⟩
    clear hk hn hRR hA
    obtain ⟨P,hP⟩ : ∃ P,P = SmPost w b t W (Option.map lnT (some ([wInput,dc x0,dc x1] ++ RR))):=⟨_,rfl⟩
    have HPP : Hid (∀ w',PG w b (t ++ lnT ([wInput,dc x0,dc x1] ++ RR)) w' → Kept b W w' → P (.returned (.bool true)) w'):=fun w' h1 h2=>by rw [hP];exact ⟨rfl,h1,h2⟩
    rw [← hP]
    have HJL:=Lib.hid (inpT_len HSM.out hd)
    clear hP HSM
    have HPT : Hid (∀ (W' : World) (m : Nat),m = RR.length → PG w b t W' → BX W' b b2 b3 (x0,x1,k,n,d) → Calls Tryz.prog 72 #[.slice (some ⟨W'.heap.size,0,none⟩) m m,.pointer (some ⟨b2,0,none⟩),.pointer (some ⟨b3,0,none⟩)] (W'.alloc (.cells (strC RR).toArray 9)) (LinePost w b (t ++ lnT ([wInput,dc x0,dc x1] ++ RR)) (W'.alloc (.cells (strC RR).toArray 9)))):=fun W' m hm hg' hx'=>by
     subst hm
     exact sput_any (x0,x1,k,n,d) F0.out F1.out RR W'.heap.size 0 RR.length w b t _ (hg'.more ((Below.refl _ _).alloc (Nat.le_refl _) _)) (rdw_new W' RR (by have:=HRL.out;omega)) b2 b3 (hx'.below ((Below.refl _ _).alloc (Nat.le_refl _) _)) HRL.out.1 (by have:=HRL.out;omega) (Nat.le_trans HJL.out (by decide)) ht
    go_enter Tryz.func40,Tryz.ntmps40
    go_upto_region 1 with fail
    rw [← HW2.out,← HB3.out,← HB2.out]
    (have c0:=(HX2.out).o3.cell 0 _ rfl;have c1:=(HX2.out).o3.cell 1 _ rfl;have c2:=(HX2.out).o3.cell 2 _ rfl;have c3:=(HX2.out).o3.cell 3 _ rfl;have c4:=(HX2.out).o3.cell 4 _ rfl)
    go_upto_region 3 with (go_at_call 70;rw [← HW3.out];refine HF.out.mono ?_;rintro e w3 ⟨rfl,rfl⟩)
    (clear c0 c1 c2 c3 c4)
    (have c0:=(HX3.out).o3.cell 0 _ rfl;have c1:=(HX3.out).o3.cell 1 _ rfl;have c2:=(HX3.out).o3.cell 2 _ rfl;have c3:=(HX3.out).o3.cell 3 _ rfl;have c4:=(HX3.out).o3.cell 4 _ rfl)
    go_wp2_with (first | (go_at_call 71;refine ((HIT _).out HG3.out.powW).mono ?_;rintro e W4 ⟨rfl,hb⟩;have HX4:=Lib.hid (HX3.out.below hb);have HK4:=Lib.hid (HK3.out.trans (Kept.ofBelow hb));have HG4:=Lib.hid (HG3.out.more hb);clear hb;(clear c0 c1 c2 c3 c4)) | (go_at_call 72;rw [HRR.out.1];refine (HPT.out _ 2 HRR.out.2 HG4.out HX4.out).mono ?_;rintro e W5 ⟨rfl,h5,h6⟩;have HG5:=Lib.hid h5;have HK5:=Lib.hid ((HK4.out.trans (Kept.ofBelow ((Below.refl _ _).alloc (Nat.le_refl _) _))).trans h6);clear h5 h6))
    exact HPP.out _ HG5.out HK5.out
   ·by_cases hC : k = 2 ∧ n = 0 ∧ d = []
    ·obtain ⟨hk,hn,hdd⟩:=hC
     have HSM : Hid (inpW (x0,x1,k,n,d) = some ([wInput,dc x0,dc x1] ++ [wRestart])):=by rw [Hid,HIW.out,tailW,if_neg hA,if_neg hB,if_pos ⟨hk,hn,hdd⟩];rfl
     obtain ⟨RR,hRR⟩ : ∃ RR,RR = [wRestart]:=⟨_,rfl⟩
     have HRL : Hid (0 < RR.length ∧ RR.length ≤ 3):=by rw [hRR];exact ⟨by simp,by simp⟩
     rw [← hRR] at HSM
     rw [HSM.out]
     have z0 : (k == 0) = false:=by simp [hk]
     have z1 : (k == 1) = false:=by simp [hk]
     have z2 : (k == 2) = true:=by simp [hk]
     have z3 : (n == 0) = true:=by simp [hn]
     rw [HDE.out.2 hdd] at bx
     have HRR : Hid (#[Value.string ⟨#[114,101,115,116,97,114,116]⟩] = (strC RR).toArray ∧ 1 = RR.length):=by rw [hRR];exact ⟨rfl,rfl⟩
     clear hk hn hdd hRR hA hB
     obtain ⟨P,hP⟩ : ∃ P,P = SmPost w b t W (Option.map lnT (some ([wInput,dc x0,dc x1] ++ RR))):=⟨_,rfl⟩
     have HPP : Hid (∀ w',PG w b (t ++ lnT ([wInput,dc x0,dc x1] ++ RR)) w' → Kept b W w' → P (.returned (.bool true)) w'):=fun w' h1 h2=>by rw [hP];exact ⟨rfl,h1,h2⟩
     rw [← hP]
     have HJL:=Lib.hid (inpT_len HSM.out hd)
     clear hP HSM
     have HPT : Hid (∀ (W' : World) (m : Nat),m = RR.length → PG w b t W' → BX W' b b2 b3 (x0,x1,k,n,d) → Calls Tryz.prog 72 #[.slice (some ⟨W'.heap.size,0,none⟩) m m,.pointer (some ⟨b2,0,none⟩),.pointer (some ⟨b3,0,none⟩)] (W'.alloc (.cells (strC RR).toArray 9)) (LinePost w b (t ++ lnT ([wInput,dc x0,dc x1] ++ RR)) (W'.alloc (.cells (strC RR).toArray 9)))):=fun W' m hm hg' hx'=>by
      subst hm
      exact sput_any (x0,x1,k,n,d) F0.out F1.out RR W'.heap.size 0 RR.length w b t _ (hg'.more ((Below.refl _ _).alloc (Nat.le_refl _) _)) (rdw_new W' RR (by have:=HRL.out;omega)) b2 b3 (hx'.below ((Below.refl _ _).alloc (Nat.le_refl _) _)) HRL.out.1 (by have:=HRL.out;omega) (Nat.le_trans HJL.out (by decide)) ht
     go_enter Tryz.func40,Tryz.ntmps40
     go_upto_region 1 with fail
     rw [← HW2.out,← HB3.out,← HB2.out]
     (have c0:=(HX2.out).o3.cell 0 _ rfl;have c1:=(HX2.out).o3.cell 1 _ rfl;have c2:=(HX2.out).o3.cell 2 _ rfl;have c3:=(HX2.out).o3.cell 3 _ rfl;have c4:=(HX2.out).o3.cell 4 _ rfl)
     go_upto_region 3 with (go_at_call 70;rw [← HW3.out];refine HF.out.mono ?_;rintro e w3 ⟨rfl,rfl⟩)
     (clear c0 c1 c2 c3 c4)
     (have c0:=(HX3.out).o3.cell 0 _ rfl;have c1:=(HX3.out).o3.cell 1 _ rfl;have c2:=(HX3.out).o3.cell 2 _ rfl;have c3:=(HX3.out).o3.cell 3 _ rfl;have c4:=(HX3.out).o3.cell 4 _ rfl)
     go_wp2_with (go_at_call 72;rw [HRR.out.1];refine (HPT.out _ 1 HRR.out.2 HG3.out HX3.out).mono ?_;rintro e W5 ⟨rfl,h5,h6⟩;have HG5:=Lib.hid h5;have HK5:=Lib.hid ((HK3.out.trans (Kept.ofBelow ((Below.refl _ _).alloc (Nat.le_refl _) _))).trans h6);clear h5 h6)
     exact HPP.out _ HG5.out HK5.out
    ·by_cases k0 : k = 0
     ·have z0 : (k == 0) = true:=by simp [k0]
      have z1 : (n == 0) = false:=by rw [beq_eq_false_iff_ne];exact fun e=>hA ⟨k0,e⟩
      have z2 : (k == 1) = false:=by simp [k0]
      have z3 : (k == 2) = false:=by simp [k0]
      have HN3:=Lib.hid (And.intro hA (And.intro hB hC))
      clear k0 hA hB hC
      have HSM : Hid (inpW (x0,x1,k,n,d) = none):=by rw [Hid,HIW.out,tailW,if_neg (by first | exact HN3.out.1 | exact HN3.out.2.1 | exact HN3.out.2.2),if_neg (by first | exact HN3.out.1 | exact HN3.out.2.1 | exact HN3.out.2.2),if_neg (by first | exact HN3.out.1 | exact HN3.out.2.1 | exact HN3.out.2.2)];rfl
      rw [HSM.out]
      obtain ⟨P,hP⟩ : ∃ P,P = SmPost w b t W (Option.map lnT none):=⟨_,rfl⟩
      have HPP : Hid (∀ w',PG w b t w' → Kept b W w' → P (.returned (.bool false)) w'):=fun w' h1 h2=>by rw [hP];exact ⟨rfl,h1,h2⟩
      rw [← hP]
      clear hP HSM
      go_enter Tryz.func40,Tryz.ntmps40
      go_upto_region 1 with fail
      rw [← HW2.out,← HB3.out,← HB2.out]
      (have c0:=(HX2.out).o3.cell 0 _ rfl;have c1:=(HX2.out).o3.cell 1 _ rfl;have c2:=(HX2.out).o3.cell 2 _ rfl;have c3:=(HX2.out).o3.cell 3 _ rfl;have c4:=(HX2.out).o3.cell 4 _ rfl)
      go_upto_region 3 with (go_at_call 70;rw [← HW3.out];refine HF.out.mono ?_;rintro e w3 ⟨rfl,rfl⟩)
      (clear c0 c1 c2 c3 c4)
      (have c0:=(HX3.out).o3.cell 0 _ rfl;have c1:=(HX3.out).o3.cell 1 _ rfl;have c2:=(HX3.out).o3.cell 2 _ rfl;have c3:=(HX3.out).o3.cell 3 _ rfl;have c4:=(HX3.out).o3.cell 4 _ rfl)
      go_wp2_with fail
      exact HPP.out _ HG3.out HK3.out
     ·have z0 : (k == 0) = false:=by rw [beq_eq_false_iff_ne];exact k0
      by_cases k1 : k = 1
      ·have z1 : (k == 1) = true:=by simp [k1]
       have z2 : (k == 2) = false:=by simp [k1]
       have hde : d.isEmpty = false:=by rw [Bool.eq_false_iff];exact fun e=>hB ⟨k1,HDE.out.1 e⟩
       rw [hde] at bx
       have HN3:=Lib.hid (And.intro hA (And.intro hB hC))
       clear k0 k1 hA hB hC hde
       have HSM : Hid (inpW (x0,x1,k,n,d) = none):=by rw [Hid,HIW.out,tailW,if_neg (by first | exact HN3.out.1 | exact HN3.out.2.1 | exact HN3.out.2.2),if_neg (by first | exact HN3.out.1 | exact HN3.out.2.1 | exact HN3.out.2.2),if_neg (by first | exact HN3.out.1 | exact HN3.out.2.1 | exact HN3.out.2.2)];rfl
       rw [HSM.out]
       obtain ⟨P,hP⟩ : ∃ P,P = SmPost w b t W (Option.map lnT none):=⟨_,rfl⟩
       have HPP : Hid (∀ w',PG w b t w' → Kept b W w' → P (.returned (.bool false)) w'):=fun w' h1 h2=>by rw [hP];exact ⟨rfl,h1,h2⟩
       rw [← hP]
       clear hP HSM
       go_enter Tryz.func40,Tryz.ntmps40
       go_upto_region 1 with fail
       rw [← HW2.out,← HB3.out,← HB2.out]
       (have c0:=(HX2.out).o3.cell 0 _ rfl;have c1:=(HX2.out).o3.cell 1 _ rfl;have c2:=(HX2.out).o3.cell 2 _ rfl;have c3:=(HX2.out).o3.cell 3 _ rfl;have c4:=(HX2.out).o3.cell 4 _ rfl)
       go_upto_region 3 with (go_at_call 70;rw [← HW3.out];refine HF.out.mono ?_;rintro e w3 ⟨rfl,rfl⟩)
       (clear c0 c1 c2 c3 c4)
       (have c0:=(HX3.out).o3.cell 0 _ rfl;have c1:=(HX3.out).o3.cell 1 _ rfl;have c2:=(HX3.out).o3.cell 2 _ rfl;have c3:=(HX3.out).o3.cell 3 _ rfl;have c4:=(HX3.out).o3.cell 4 _ rfl)
       go_wp2_with fail
       exact HPP.out _ HG3.out HK3.out
      ·have z1 : (k == 1) = false:=by rw [beq_eq_false_iff_ne];exact k1
       by_cases k2 : k = 2
       ·have z2 : (k == 2) = true:=by simp [k2]
        by_cases hn : n = 0
        ·have z3 : (n == 0) = true:=by simp [hn]
         have hde : d.isEmpty = false:=by rw [Bool.eq_false_iff];exact fun e=>hC ⟨k2,hn,HDE.out.1 e⟩
         rw [hde] at bx
         have HN3:=Lib.hid (And.intro hA (And.intro hB hC))
         clear k0 k1 k2 hn hA hB hC hde
         have HSM : Hid (inpW (x0,x1,k,n,d) = none):=by rw [Hid,HIW.out,tailW,if_neg (by first | exact HN3.out.1 | exact HN3.out.2.1 | exact HN3.out.2.2),if_neg (by first | exact HN3.out.1 | exact HN3.out.2.1 | exact HN3.out.2.2),if_neg (by first | exact HN3.out.1 | exact HN3.out.2.1 | exact HN3.out.2.2)];rfl
         rw [HSM.out]
         obtain ⟨P,hP⟩ : ∃ P,P = SmPost w b t W (Option.map lnT none):=⟨_,rfl⟩
         have HPP : Hid (∀ w',PG w b t w' → Kept b W w' → P (.returned (.bool false)) w'):=fun w' h1 h2=>by rw [hP];exact ⟨rfl,h1,h2⟩
         rw [← hP]
         clear hP HSM
         go_enter Tryz.func40,Tryz.ntmps40
         go_upto_region 1 with fail
         rw [← HW2.out,← HB3.out,← HB2.out]
         (have c0:=(HX2.out).o3.cell 0 _ rfl;have c1:=(HX2.out).o3.cell 1 _ rfl;have c2:=(HX2.out).o3.cell 2 _ rfl;have c3:=(HX2.out).o3.cell 3 _ rfl;have c4:=(HX2.out).o3.cell 4 _ rfl)
         go_upto_region 3 with (go_at_call 70;rw [← HW3.out];refine HF.out.mono ?_;rintro e w3 ⟨rfl,rfl⟩)
         (clear c0 c1 c2 c3 c4)
         (have c0:=(HX3.out).o3.cell 0 _ rfl;have c1:=(HX3.out).o3.cell 1 _ rfl;have c2:=(HX3.out).o3.cell 2 _ rfl;have c3:=(HX3.out).o3.cell 3 _ rfl;have c4:=(HX3.out).o3.cell 4 _ rfl)
         go_wp2_with fail
         exact HPP.out _ HG3.out HK3.out
        ·have z3 : (n == 0) = false:=by rw [beq_eq_false_iff_ne];exact hn
         have HN3:=Lib.hid (And.intro hA (And.intro hB hC))
         clear k0 k1 k2 hn hA hB hC
         have HSM : Hid (inpW (x0,x1,k,n,d) = none):=by rw [Hid,HIW.out,tailW,if_neg (by first | exact HN3.out.1 | exact HN3.out.2.1 | exact HN3.out.2.2),if_neg (by first | exact HN3.out.1 | exact HN3.out.2.1 | exact HN3.out.2.2),if_neg (by first | exact HN3.out.1 | exact HN3.out.2.1 | exact HN3.out.2.2)];rfl
         rw [HSM.out]
         obtain ⟨P,hP⟩ : ∃ P,P = SmPost w b t W (Option.map lnT none):=⟨_,rfl⟩
         have HPP : Hid (∀ w',PG w b t w' → Kept b W w' → P (.returned (.bool false)) w'):=fun w' h1 h2=>by rw [hP];exact ⟨rfl,h1,h2⟩
         rw [← hP]
         clear hP HSM
         go_enter Tryz.func40,Tryz.ntmps40
         go_upto_region 1 with fail
         rw [← HW2.out,← HB3.out,← HB2.out]
         (have c0:=(HX2.out).o3.cell 0 _ rfl;have c1:=(HX2.out).o3.cell 1 _ rfl;have c2:=(HX2.out).o3.cell 2 _ rfl;have c3:=(HX2.out).o3.cell 3 _ rfl;have c4:=(HX2.out).o3.cell 4 _ rfl)
         go_upto_region 3 with (go_at_call 70;rw [← HW3.out];refine HF.out.mono ?_;rintro e w3 ⟨rfl,rfl⟩)
         (clear c0 c1 c2 c3 c4)
         (have c0:=(HX3.out).o3.cell 0 _ rfl;have c1:=(HX3.out).o3.cell 1 _ rfl;have c2:=(HX3.out).o3.cell 2 _ rfl;have c3:=(HX3.out).o3.cell 3 _ rfl;have c4:=(HX3.out).o3.cell 4 _ rfl)
         go_wp2_with fail
         exact HPP.out _ HG3.out HK3.out
       ·have z2 : (k == 2) = false:=by rw [beq_eq_false_iff_ne];exact k2
        have HN3:=Lib.hid (And.intro hA (And.intro hB hC))
        clear k0 k1 k2 hA hB hC
        have HSM : Hid (inpW (x0,x1,k,n,d) = none):=by rw [Hid,HIW.out,tailW,if_neg (by first | exact HN3.out.1 | exact HN3.out.2.1 | exact HN3.out.2.2),if_neg (by first | exact HN3.out.1 | exact HN3.out.2.1 | exact HN3.out.2.2),if_neg (by first | exact HN3.out.1 | exact HN3.out.2.1 | exact HN3.out.2.2)];rfl
        rw [HSM.out]
        obtain ⟨P,hP⟩ : ∃ P,P = SmPost w b t W (Option.map lnT none):=⟨_,rfl⟩
        have HPP : Hid (∀ w',PG w b t w' → Kept b W w' → P (.returned (.bool false)) w'):=fun w' h1 h2=>by rw [hP];exact ⟨rfl,h1,h2⟩
        rw [← hP]
        clear hP HSM
        go_enter Tryz.func40,Tryz.ntmps40
        go_upto_region 1 with fail
        rw [← HW2.out,← HB3.out,← HB2.out]
        (have c0:=(HX2.out).o3.cell 0 _ rfl;have c1:=(HX2.out).o3.cell 1 _ rfl;have c2:=(HX2.out).o3.cell 2 _ rfl;have c3:=(HX2.out).o3.cell 3 _ rfl;have c4:=(HX2.out).o3.cell 4 _ rfl)
        go_upto_region 3 with (go_at_call 70;rw [← HW3.out];refine HF.out.mono ?_;rintro e w3 ⟨rfl,rfl⟩)
        (clear c0 c1 c2 c3 c4)
        (have c0:=(HX3.out).o3.cell 0 _ rfl;have c1:=(HX3.out).o3.cell 1 _ rfl;have c2:=(HX3.out).o3.cell 2 _ rfl;have c3:=(HX3.out).o3.cell 3 _ rfl;have c4:=(HX3.out).o3.cell 4 _ rfl)
        go_wp2_with fail
        exact HPP.out _ HG3.out HK3.out
end Go.Proofs.YtoklonmiejdgmaaGreatDoor.Sp
/- Package script: all images' lines. -/
namespace Go.Proofs.YtoklonmiejdgmaaGreatDoor.Sp
set_option linter.unusedVariables false
set_option linter.unusedSimpArgs false
set_option linter.unnecessarySimpa false
open Go.RowKit Go.Sort
set_option maxHeartbeats 4000000
set_option maxRecDepth 100000
set_option linter.unusedVariables false
def ImPost (w : World) (b : Nat) (t : List UInt8) (W : World) (l : List (List Int)) (e : Ending) (w' : World) : Prop:=
 Kept b W w' ∧ (longB l = true → e = .returned (.int .i64 10) ∧ ∃ t',PG w b t' w') ∧ (longB l = false → e = .returned (.int .i64 0) ∧ PG w b (t ++ imgsT l) w')
theorem imgs_take_len (l : List (List Int)) (hw : ∀ r ∈ l,∀ x ∈ r,0 ≤ x ∧ x < 4294967296) (hl : l.length ≤ 1048576) (k : Nat) (hk : k ≤ l.length) (hs : ∀ j (hj : j < l.length),j < k → ¬ 512 < l[j].length) : (imgsT (l.take k)).length ≤ 116000000000:=by
 have:=flatMap_le imgT 110000 (l.take k) (fun x hx=>by
  obtain ⟨j,hj,rfl⟩:=List.mem_iff_getElem.1 hx
  rw [List.length_take] at hj
  rw [List.getElem_take]
  exact imgT_len (hw _ (List.getElem_mem _)) (by have:=hs j (by omega) (by omega);omega))
 rw [List.length_take] at this
 have h2 : min k l.length * 110000 ≤ 1048576 * 110000:=Nat.mul_le_mul_right _ (by omega)
 unfold imgsT;omega
theorem simages_any (v : Sv) (w : World) (hv : ScOk w v) (hm : Mild (scOf v)) (b : Nat) (t : List UInt8) (W : World) (hg : PG w b t W) (ht : t.length ≤ 1000000) :
  Calls Tryz.prog 38 #[.pointer (some ⟨b,0,none⟩),.slice v.ia v.im.length v.ic] W (ImPost w b t W (scOf v).im):=by
 obtain ⟨L,hL⟩ : ∃ L,L = (scOf v).im:=⟨_,rfl⟩
 have hLL : L.length = v.im.length:=by rw [hL];simp [scOf]
 have hLg : ∀ k (h1 : k < v.im.length) (h2 : k < L.length),L[k] = v.im[k].l:=fun k h1 h2=>by subst hL;simp [scOf]
 have hw : ∀ r ∈ L,∀ x ∈ r,0 ≤ x ∧ x < 4294967296:=by rw [hL];exact hm.w
 have hl : L.length ≤ 1048576:=by rw [hL];exact hm.im
 have HLEN:=Lib.hid (imgs_take_len L hw hl)
 obtain ⟨P,hP⟩ : ∃ P,P = ImPost w b t W L:=⟨_,rfl⟩
 have HNO : Hid (∀ k (hk : k < L.length) t' w',512 < L[k].length → PG w b t' w' → Kept b W w' → P (.returned (.int .i64 10)) w'):=fun k hk t' w' h h1 h2=>by
  have hb : longB L = true:=by rw [longB,List.any_eq_true];exact ⟨L[k],List.getElem_mem hk,by simp [h]⟩
  rw [hP];exact ⟨h2,fun _=>⟨rfl,t',h1⟩,fun e=>by rw [hb] at e;cases e⟩
 have HYES : Hid (∀ w',(∀ j (hj : j < L.length),j < L.length → ¬ 512 < L[j].length) → PG w b (t ++ imgsT L) w' → Kept b W w' → P (.returned (.int .i64 0)) w'):=fun w' h h1 h2=>by
  have hb : longB L = false:=by
   rw [longB,List.any_eq_false];intro x hx
   obtain ⟨j,hj,rfl⟩:=List.mem_iff_getElem.1 hx
   have:=h j hj hj;simp;omega
  rw [hP];exact ⟨h2,(fun e=>by rw [hb] at e;cases e),fun _=>⟨rfl,h1⟩⟩
 rw [← hL,← hP]
 have HV:=Lib.hid hv
 have HG0:=Lib.hid hg
 have HK0 : Hid (Kept b W W):=Lib.hid (Kept.refl b W)
 have HT0 : Hid (t ++ imgsT (L.take 0) = t):=by rw [Hid,List.take_zero];simp [imgsT]
 have HLG:=Lib.hid hLg
 have HWD:=Lib.hid hw
 have HLL:=Lib.hid hLL
 have hvl : v.im.length ≤ 1048576:=by omega
 have hle:=hv.iml
 have hmx:=hv.imx
 unfold maxLen at hmx
 have HL1 : Hid (∀ (W' : World) t',PG w b t' W' → t'.length ≤ 100000000000000 → Calls Tryz.prog 69 #[.pointer (some ⟨b,0,none⟩),.slice (some ⟨W'.heap.size,0,none⟩) 1 1] (W'.alloc (.cells #[.string ⟨#[105,109,97,103,101]⟩] 9)) (LinePost w b (t' ++ lnT [wImage]) (W'.alloc (.cells #[.string ⟨#[105,109,97,103,101]⟩] 9)))):=fun W' t' h1 h2=>
  sline_any W'.heap.size 0 1 [wImage] w b t' _ (h1.more ((Below.refl _ _).alloc (Nat.le_refl _) _)) (rdw_new W' [wImage] (by simp)) (by simp) (by simp [joinC,wImage]) (by simp) h2
 have HL2 : Hid (∀ (W' : World) t',PG w b t' W' → t'.length ≤ 100000000000000 → Calls Tryz.prog 69 #[.pointer (some ⟨b,0,none⟩),.slice (some ⟨W'.heap.size,0,none⟩) 1 1] (W'.alloc (.cells #[.string ⟨#[101,110,100]⟩] 9)) (LinePost w b (t' ++ lnT [wEnd]) (W'.alloc (.cells #[.string ⟨#[101,110,100]⟩] 9)))):=fun W' t' h1 h2=>
  sline_any W'.heap.size 0 1 [wEnd] w b t' _ (h1.more ((Below.refl _ _).alloc (Nat.le_refl _) _)) (rdw_new W' [wEnd] (by simp)) (by simp) (by simp [joinC,wEnd]) (by simp) h2
 clear hP hL hLL hLg hw hl hv hm hg
 go_enter Tryz.func38,Tryz.ntmps38
 go_upto_region 2 with fail
 go_loopw [11] (fun i wr=>∃ k : Nat,k ≤ v.im.length ∧ i = .int .i64 k ∧ (∀ j (hj : j < L.length),j < k → ¬ 512 < L[j].length) ∧ PG w b (t ++ imgsT (L.take k)) wr ∧ Kept b W wr) (fun i _=>v.im.length - (intOf i).toNat)
 case atStart=>exact ⟨0,by omega,rfl,(fun j _ h=>by omega),by rw [HT0.out];exact HG0.out,HK0.out⟩
 case round=>
  clear HG0 HK0 HT0
  obtain ⟨k,hk,rfl,hs,hg,hkp⟩:=hrel
  have HS:=Lib.hid hs
  have HG:=Lib.hid hg
  have HK:=Lib.hid hkp
  clear hs hg hkp
  by_cases hlt : k < v.im.length
  ·obtain ⟨g,o,ha,hc⟩:=HV.out.im_at k hlt
   have hrow:=HV.out.row _ (List.getElem_mem hlt)
   have hkL : k < L.length:=by have:=HLL.out;omega
   have hyk:=HLG.out k hlt hkL
   obtain ⟨y,hy⟩ : ∃ y,y = v.im[k]:=⟨_,rfl⟩
   rw [← hy] at hc hrow hyk
   have hyw : ∀ x ∈ y.l,0 ≤ x ∧ x < 4294967296:=by rw [← hyk];exact HWD.out _ (List.getElem_mem hkL)
   have c:=hc wr HG.out.bel
   have HA:=Lib.hid ha
   have hnl : (natL y.l).length = y.l.length:=by simp [natL]
   have HLA : Hid (∀ W',Below w.heap.size w W' → PowIs W' → Isa.Tab W' → Calls Tryz.prog 68 #[.slice y.a y.l.length y.cap] W' fun e w'=>e = .returned (.tuple #[.string (ba (As.lsV (natL y.l))),.int .i64 (As.lsE (natL y.l))]) ∧ Below W'.heap.size W' w'):=fun W' h1 h2 h3=>by
    have:=As.list_asm y.a y.cap (natL y.l) (natL_lt hyw) W' (by rw [natL_uC hyw,hnl];exact hrow.1.below h1) (by rw [hnl];have:=hrow.2.1;have:=hrow.2.2;omega) h2 h3
    rw [hnl] at this;exact this
   have d1 : decide ((k : Int) < (v.im.length : Int)) = true:=decide_eq_true (by omega)
   have d1' : decide (k < v.im.length) = true:=decide_eq_true hlt
   have w1 : IntKind.i64.wrap ((k : Int) + 1) = (k : Int) + 1:=by rw [IntKind.wrap_i64];omega
   rw [ha]
   by_cases h5 : 512 < y.l.length
   ·have HE:=fun w' h1 h2=>Lib.hid (HNO.out k hkL (t ++ imgsT (L.take k)) w' (by rw [hyk];exact h5) h1 h2)
    have HLE : Hid (∀ W',Below w.heap.size w W' → PowIs W' → Isa.Tab W' → Calls Tryz.prog 68 #[.slice y.a y.l.length y.cap] W' fun e w'=>e = .returned (.tuple #[.string (ba []),.int .i64 10]) ∧ Below W'.heap.size W' w'):=fun W' h1 h2 h3=>by
     have:=HLA.out W' h1 h2 h3
     rw [As.lsV,As.lsE,if_pos (by rw [hnl];exact h5),if_pos (by rw [hnl];exact h5)] at this;exact this
    clear ha hc hrow hy hyk hyw hnl h5
    go_wp2_with (go_at_call 68;refine (HLE.out _ HG.out.bel HG.out.powW HG.out.tabW).mono ?_;rintro e W4 ⟨rfl,hb⟩;have HG4:=Lib.hid (HG.out.more hb);have HK4:=Lib.hid (HK.out.trans (Kept.ofBelow hb));clear hb)
    exact (HE _ HG4.out HK4.out).out
   ·have HLE : Hid (∀ W',Below w.heap.size w W' → PowIs W' → Isa.Tab W' → Calls Tryz.prog 68 #[.slice y.a y.l.length y.cap] W' fun e w'=>e = .returned (.tuple #[.string (ba (As.listL (natL y.l))),.int .i64 0]) ∧ Below W'.heap.size W' w'):=fun W' h1 h2 h3=>by
     have:=HLA.out W' h1 h2 h3
     rw [As.lsV,As.lsE,if_neg (by rw [hnl];exact h5),if_neg (by rw [hnl];exact h5)] at this;exact this
    have HS2 : Hid (∀ j (hj : j < L.length),j < k + 1 → ¬ 512 < L[j].length):=fun j hj h=>by
     by_cases e : j = k
     ·subst e;rw [hyk];exact h5
     ·exact HS.out j hj (by omega)
    have HTK : Hid (t ++ imgsT (L.take (k + 1)) = ((t ++ imgsT (L.take k)) ++ lnT [wImage]) ++ As.listL (natL y.l) ++ lnT [wEnd]):=by
     rw [Hid,take_snoc L k hkL,imgsT_snoc,hyk];simp [imgT]
    have hlen:=HLEN.out (k + 1) (by omega) HS2.out
    obtain ⟨T0,hT0⟩ : ∃ T0,T0 = t ++ imgsT (L.take k):=⟨_,rfl⟩
    have hlt0 : (T0 ++ lnT [wImage]).length + (As.listL (natL y.l)).length + (lnT [wEnd]).length ≤ 100000000000000:=by
     have:=congrArg List.length HTK.out
     rw [← hT0] at this
     simp only [List.length_append] at this ⊢;omega
    have HT0:=Lib.hid hT0
    have HG:=Lib.hid (show PG w b T0 wr by rw [hT0];exact HG.out)
    have HU1 : Hid (T0.length ≤ 100000000000000):=by rw [Hid];rw [List.length_append] at hlt0;omega
    have HU2 : Hid ((T0 ++ lnT [wImage]).length + (As.listL (natL y.l)).length ≤ 140737488355328):=by rw [Hid];omega
    have HU3 : Hid (((T0 ++ lnT [wImage]) ++ As.listL (natL y.l)).length ≤ 100000000000000):=by rw [Hid,List.length_append];omega
    rw [← hT0] at HTK
    clear ha hc hrow hy hyk hyw hnl h5 hlen hlt0 hT0
    go_upto_region 7 with (go_at_call 68;refine (HLE.out _ HG.out.bel HG.out.powW HG.out.tabW).mono ?_;rintro e W4 ⟨rfl,hb⟩;have HG4:=Lib.hid (HG.out.more hb);have HK4:=Lib.hid (HK.out.trans (Kept.ofBelow hb));clear hb)
    clear c
    go_upto_region 8 with (go_at_call 69;refine (HL1.out _ _ HG4.out HU1.out).mono ?_;rintro e W5 ⟨rfl,h5,h6⟩;have HG5:=Lib.hid h5;have HK5:=Lib.hid ((HK4.out.trans (Kept.ofBelow ((Below.refl _ _).alloc (Nat.le_refl _) _))).trans h6);clear h5 h6)
    go_upto_region 9 with (go_at_call 37;refine (pg_write HG5.out _ HU2.out).mono ?_;rintro e W6 ⟨rfl,h5,h6⟩;have HG6:=Lib.hid h5;have HK6:=Lib.hid (HK5.out.trans h6);clear h5 h6)
    go_wp2_with (go_at_call 69;refine (HL2.out _ _ HG6.out HU3.out).mono ?_;rintro e W7 ⟨rfl,h5,h6⟩;have HG7:=Lib.hid h5;have HK7:=Lib.hid ((HK6.out.trans (Kept.ofBelow ((Below.refl _ _).alloc (Nat.le_refl _) _))).trans h6);clear h5 h6)
    go_roundw
    case rel=>exact ⟨k + 1,by omega,by go_num,HS2.out,by rw [HTK.out];exact HG7.out,HK7.out⟩
    case measure=>simp [intOf];omega
  ·obtain rfl : k = v.im.length:=by omega
   have d1 : decide ((v.im.length : Int) < (v.im.length : Int)) = false:=decide_eq_false (by omega)
   have HE:=Lib.hid (HYES.out wr (fun j hj h=>HS.out j hj (by have:=HLL.out;omega)) (by have:=HG.out;rw [← HLL.out,List.take_length] at this;exact this) HK.out)
   go_wp2_with fail
   exact HE.out
end Go.Proofs.YtoklonmiejdgmaaGreatDoor.Sp
/- Package plan: Print. -/
namespace Go.Proofs.YtoklonmiejdgmaaGreatDoor
set_option linter.unusedVariables false
set_option linter.unusedSimpArgs false
set_option linter.unnecessarySimpa false
open Go.RowKit Go.Sort
set_option maxHeartbeats 4000000
set_option maxRecDepth 100000
set_option linter.unusedVariables false
theorem PG.ne {w W : World} {b g : Nat} {t : List UInt8} {T : TypeId} {cs : List Value} (h : PG w b t W) (ho : ObjAt W g T cs) (hT : T ≠ 127) : g ≠ b:=by
 rintro rfl
 unfold ObjAt at ho
 have key : ∀ p,Lib.BuilderAtF 127 5 w.heap.size g p (Lib.byteCells t) W → False:=fun p hp=>by
  obtain ⟨_,v,h2,_⟩:=hp
  rw [ho] at h2
  injection h2 with h2
  injection h2 with _ h3
  exact hT h3
 exact h.pg.elim (key _) (key _)
theorem lnW_len (k : Nat) (hk : k < 7) (ahead : List UInt8) (l : List Int) (h : ∀ n ∈ l,n < 1000000000) : (lnW k ahead l).length ≤ 7 + ahead.length + 10 * l.length:=by
 have hkn : (rkName k).length ≤ 5:=by rcases (by omega : k = 0 ∨ k = 1 ∨ k = 2 ∨ k = 3 ∨ k = 4 ∨ k = 5 ∨ k = 6) with rfl | rfl | rfl | rfl | rfl | rfl | rfl <;> decide
 have h1:=nmT_len l h
 unfold nmT at h1
 unfold lnW
 simp only [List.length_append,List.length_singleton]
 have h3 : (if ahead = [] then [] else 32 :: ahead).length ≤ 1 + ahead.length:=by
  split
  ·exact Nat.zero_le _
  ·rw [List.length_cons];omega
 omega
def NumOk (x : Int) : Prop:=0 ≤ x ∧ x < 1000000000
theorem pline0 (k : Nat) (hk : k < 7) (ahead : List UInt8) {w : World} {b : Nat} {t : List UInt8} (ht : t.length ≤ 1000000) (ha : ahead.length ≤ 1000) (W : World) (hg : PG w b t W) :
  Calls Tryz.prog 65 #[.pointer (some ⟨b,0,none⟩),.int .i64 k,.string (ba ahead),.slice none 0 0] W (LinePost w b (t ++ lnW k ahead []) W):=
 pline_any k hk ahead none 0 [] w b t W hg (Or.inl ⟨rfl,rfl⟩) (by simp) ⟨Nat.le_refl _,by simp⟩ ht ha
theorem pline1 (k : Nat) (hk : k < 7) (ahead : List UInt8) (x : Int) (hx : NumOk x) {w : World} {b : Nat} {t : List UInt8} (ht : t.length ≤ 1000000) (ha : ahead.length ≤ 1000) (W : World) (g : Nat) (hg : PG w b t W) (ho : ObjAt W g 3 [.int .i64 x]) :
  Calls Tryz.prog 65 #[.pointer (some ⟨b,0,none⟩),.int .i64 k,.string (ba ahead),.slice (some ⟨g,0,none⟩) 1 1] W (LinePost w b (t ++ lnW k ahead [x]) W):=
 pline_any k hk ahead (some ⟨g,0,none⟩) 1 [x] w b t W hg (Or.inr ⟨g,rfl,hg.ne ho (by decide),ho⟩) (by intro n hn;rw [List.mem_singleton.1 hn];exact hx) ⟨Nat.le_refl _,by simp⟩ ht ha
theorem pline2 (k : Nat) (hk : k < 7) (ahead : List UInt8) (x y : Int) (hx : NumOk x) (hy : NumOk y) {w : World} {b : Nat} {t : List UInt8} (ht : t.length ≤ 1000000) (ha : ahead.length ≤ 1000) (W : World) (g : Nat) (hg : PG w b t W) (ho : ObjAt W g 3 [.int .i64 x,.int .i64 y]) :
  Calls Tryz.prog 65 #[.pointer (some ⟨b,0,none⟩),.int .i64 k,.string (ba ahead),.slice (some ⟨g,0,none⟩) 2 2] W (LinePost w b (t ++ lnW k ahead [x,y]) W):=
 pline_any k hk ahead (some ⟨g,0,none⟩) 2 [x,y] w b t W hg (Or.inr ⟨g,rfl,hg.ne ho (by decide),ho⟩) (by intro n hn;simp at hn;rcases hn with rfl | rfl <;> assumption) ⟨Nat.le_refl _,by simp⟩ ht ha
theorem out_ba (x : List UInt8) : ba x ++ (⟨#[32]⟩ : ByteArray) ++ (⟨#[111,117,116]⟩ : ByteArray) = ba (x ++ 32 :: outT):=by
 unfold ba
 rw [show (⟨#[32]⟩ : ByteArray) = ⟨[32].toArray⟩ from rfl,show (⟨#[111,117,116]⟩ : ByteArray) = ⟨outT.toArray⟩ from rfl,ba_append,ba_append,List.append_assoc];rfl
theorem pport_any (lb gu : Int) (hlb : 0 ≤ lb ∧ lb < 256) (hgu : gu = -1 ∨ NumOk gu) (w : World) (b : Nat) (t : List UInt8) (W : World) (hg : PG w b t W) (ht : t.length ≤ 1000000) :
  Calls Tryz.prog 67 #[.pointer (some ⟨b,0,none⟩),.agg #[.int .i64 lb,.int .i64 gu]] W (LinePost w b (t ++ (lineT (3,[lb,gu]) ++ [10])) W):=by
 have HLB:=Lib.hid (lbS_lbT hlb)
 have hll:=(lbT_ok hlb).2.1
 obtain ⟨W1,hW1⟩ : ∃ W1,W1 = W.alloc (.cells #[.int .i64 lb,.int .i64 gu] 134):=⟨_,rfl⟩
 obtain ⟨rr,hrr⟩ : ∃ r,r = W.heap.size:=⟨_,rfl⟩
 have hb1 : Below W.heap.size W W1:=by rw [hW1];exact ((Below.refl _ _).alloc (Nat.le_refl _) _)
 have R1 : Hid (ObjAt W1 rr 134 [.int .i64 lb,.int .i64 gu]):=by rw [hW1,hrr];exact ObjAt.new W _ _
 have HG1:=Lib.hid (hg.more hb1)
 have HK1 : Hid (Kept b W W1):=Kept.ofBelow hb1
 have HW1:=Lib.hid hW1
 have HRR:=Lib.hid hrr
 clear hb1 hW1 hrr hg
 by_cases h1 : gu = -1
 ·subst h1
  have HV : Hid (t ++ lnW 3 (lbT lb ++ 32 :: outT) [] = t ++ (lineT (3,[lb,-1]) ++ [10])):=by rw [Hid,lnW_out hlb]
  rw [← HV.out]
  have HLINE:=fun W=>Lib.hid (pline0 3 (by decide) (lbT lb ++ 32 :: outT) (w:=w) (b:=b) (t:=t) ht (by rw [List.length_append,List.length_cons];have : outT.length = 3:=rfl;omega) W)
  have HOUT:=Lib.hid (out_ba (lbT lb))
  have hs1 : (ba (lbT lb)).size ≤ 8:=by rw [ba_size];exact hll
  have hs2 : (ba (lbT lb) ++ (⟨#[32]⟩ : ByteArray)).size ≤ 9:=by rw [ByteArray.size_append,ba_size];show _ + 1 ≤ _;omega
  clear hgu hll ht hlb
  go_enter Tryz.func67,Tryz.ntmps67
  go_upto_region 1 with fail
  rw [← HW1.out,← HRR.out]
  have c0:=R1.out.cell 0 _ rfl
  have c1:=R1.out.cell 1 _ rfl
  go_wp2_with fail
  refine (letters_str lb _).mono ?_;rintro e W2 ⟨rfl,hb2⟩
  rw [HLB.out]
  have HG2:=Lib.hid (HG1.out.more hb2)
  have HK2 : Hid (Kept b W W2):=HK1.out.trans (Kept.ofBelow hb2)
  clear hb2 c0 c1
  go_wp2_with (go_at_call 65;rw [HOUT.out];refine ((HLINE _).out HG2.out).mono ?_;rintro e W3 ⟨rfl,h3,h4⟩;have HG3:=Lib.hid h3;have HK3 : Hid (Kept b W W3):=HK2.out.trans h4;clear h3 h4)
  go_end0
  exact ⟨rfl,HG3.out,HK3.out⟩
 ·have n1 : (gu == -1) = false:=by rw [beq_eq_false_iff_ne];exact h1
  have hgn : NumOk gu:=hgu.resolve_left h1
  have HV : Hid (t ++ lnW 3 (lbT lb) [gu] = t ++ (lineT (3,[lb,gu]) ++ [10])):=by rw [Hid,lnW_3 hlb h1]
  rw [← HV.out]
  have HLINE:=fun W g=>Lib.hid (pline1 3 (by decide) (lbT lb) gu hgn (w:=w) (b:=b) (t:=t) ht (by omega) W g)
  have R1d : Hid (ObjAt W1.drew rr 134 [.int .i64 lb,.int .i64 gu]):=R1.out.below (Below.refl _ _).drew
  have HG1d : Hid (PG w b t W1.drew):=HG1.out.more (Below.refl _ _).drew
  have HK1d : Hid (Kept b W W1.drew):=HK1.out.trans (Kept.ofBelow (Below.refl _ _).drew)
  clear hgu hll ht hlb h1 hgn
  go_enter Tryz.func67,Tryz.ntmps67
  go_upto_region 1 with fail
  rw [← HW1.out,← HRR.out]
  have c0:=R1.out.cell 0 _ rfl
  have c1:=R1.out.cell 1 _ rfl
  go_upto_region 3 with fail
  go_region_held3 (fun W'=>W'.cell? ⟨rr,0,none⟩ = some (.int .i64 lb) ∧ W'.cell? ⟨rr,1,none⟩ = some (.int .i64 gu)) (first | exact ⟨(R1d.out).cell 0 _ rfl,(R1d.out).cell 1 _ rfl⟩ | exact ⟨(R7.out).cell 0 _ rfl,(R7.out).cell 1 _ rfl⟩ | exact ⟨(R6.out).cell 0 _ rfl,(R6.out).cell 1 _ rfl⟩ | exact ⟨(R1d.out.below ((Below.refl _ _).alloc (Nat.le_refl _) _)).cell 0 _ rfl,(R1d.out.below ((Below.refl _ _).alloc (Nat.le_refl _) _)).cell 1 _ rfl⟩ | exact ⟨(R6.out.below ((Below.refl _ _).alloc (Nat.le_refl _) _)).cell 0 _ rfl,(R6.out.below ((Below.refl _ _).alloc (Nat.le_refl _) _)).cell 1 _ rfl⟩) (first | (go_at_call 66;refine (letters_str lb _).mono ?_;rintro e W6 ⟨rfl,hb6⟩;rw [HLB.out];have HG6 : Hid (PG w b t W6):=(by first | exact HG1d.out.more hb6 | exact (HG1d.out.more ((Below.refl _ _).alloc (Nat.le_refl _) _)).more hb6);have R6 : Hid (ObjAt W6 rr 134 [.int .i64 lb,.int .i64 gu]):=(by first | exact R1d.out.below hb6 | exact (R1d.out.below ((Below.refl _ _).alloc (Nat.le_refl _) _)).below hb6);have HK6 : Hid (Kept b W W6):=(by first | exact HK1d.out.trans (Kept.ofBelow hb6) | exact (HK1d.out.trans (Kept.ofBelow ((Below.refl _ _).alloc (Nat.le_refl _) _))).trans (Kept.ofBelow hb6));have HB6:=Lib.hid hb6;clear hb6) | (go_at_call 65;refine ((HLINE _ _).out (by first | exact HG6.out | exact HG6.out.more ((Below.refl _ _).alloc (Nat.le_refl _) _)) (by first | exact ObjAt.new _ _ _ | exact (ObjAt.new W1.drew 3 [.int .i64 gu]).below HB6.out)).mono ?_;rintro e W7 ⟨rfl,h7,h8⟩;have HG7:=Lib.hid h7;have HK7 : Hid (Kept b W W7):=(by first | exact HK6.out.trans h8 | exact (HK6.out.trans (Kept.ofBelow ((Below.refl _ _).alloc (Nat.le_refl _) _))).trans h8);have R7 : Hid (ObjAt W7 rr 134 [.int .i64 lb,.int .i64 gu]):=(by first | exact h8.obj R6.out (HG6.out.ne R6.out (by decide)) (by decide) | exact h8.obj (R6.out.below ((Below.refl _ _).alloc (Nat.le_refl _) _)) (HG6.out.ne R6.out (by decide)) (by decide));clear h7 h8))
  all_goals
   go_wp2_with fail
   go_end0
   exact ⟨rfl,HG7.out,HK7.out⟩
end Go.Proofs.YtoklonmiejdgmaaGreatDoor
/- Package plan: Print of a configuration. -/
namespace Go.Proofs.YtoklonmiejdgmaaGreatDoor
set_option linter.unusedVariables false
set_option linter.unusedSimpArgs false
set_option linter.unnecessarySimpa false
open Go.RowKit Go.Sort
set_option maxHeartbeats 8000000
set_option maxRecDepth 100000
set_option linter.unusedVariables false
/-- What Print hands back. -/
def PrPost (c : Cv) (w : World) (e : Ending) (w' : World) : Prop:=
 ((chkV c).1 ≠ 0 → e = .returned (.tuple #[.string ⟨#[]⟩,.int .i64 (chkV c).1])) ∧ ((chkV c).1 = 0 → e = .returned (.tuple #[.string (ba (prT (pcOf c))),.int .i64 0])) ∧ Below w.heap.size w w'
theorem pprint_no (c : Cv) (w : World) (h : CfgOk w c) (h0 : (chkV c).1 ≠ 0) : Calls Tryz.prog 36 #[(.agg #[.int .i64 c.cats,.slice c.g.a c.g.l.length c.g.cap,.slice c.r.a c.r.l.length c.r.cap,.slice c.p.a c.p.l.length c.p.cap,.slice c.n.a c.n.l.length c.n.cap,.slice c.s.a c.s.l.length c.s.cap,.int .i64 c.gate,.int .i64 c.quota])] w (PrPost c w):=by
 obtain ⟨e0,he0⟩ : ∃ v,Hid (v = (chkV c).1):=⟨_,Lib.hid rfl⟩
 obtain ⟨e1,he1⟩ : ∃ v,Hid (v = (chkV c).2):=⟨_,Lib.hid rfl⟩
 have CHK : Hid (∀ W,CfgOk W c → Calls Tryz.prog 54 #[(.agg #[.int .i64 c.cats,.slice c.g.a c.g.l.length c.g.cap,.slice c.r.a c.r.l.length c.r.cap,.slice c.p.a c.p.l.length c.p.cap,.slice c.n.a c.n.l.length c.n.cap,.slice c.s.a c.s.l.length c.s.cap,.int .i64 c.gate,.int .i64 c.quota])] W fun e w'=>e = .returned (.tuple #[.int .i64 e0,.int .i64 e1]) ∧ Below W.heap.size W w'):=fun W hc=>by rw [he0.out,he1.out];exact check_any c W hc
 have hz : e0 ≠ 0:=by rw [he0.out];exact h0
 have HP : Hid (∀ w',Below w.heap.size w w' → PrPost c w (.returned (.tuple #[.string ⟨#[]⟩,.int .i64 e0])) w'):=fun w' hb=>⟨fun _=>by rw [he0.out],fun h=>absurd h h0,hb⟩
 have n1 : (e0 == 0) = false:=by rw [beq_eq_false_iff_ne];exact hz
 have n2 : (e0 != 0) = true:=by rw [bne_iff_ne];exact hz
 clear h0 hz
 (have h0:=CX.new h;go_enter Tryz.func36,Tryz.ntmps36;go_upto_region 1 with fail;generalize w.alloc (.cells #[.int .i64 c.cats,.slice c.g.a c.g.l.length c.g.cap,.slice c.r.a c.r.l.length c.r.cap,.slice c.p.a c.p.l.length c.p.cap,.slice c.n.a c.n.l.length c.n.cap,.slice c.s.a c.s.l.length c.s.cap,.int .i64 c.gate,.int .i64 c.quota] 29) = W1 at h0 ⊢;generalize w.heap.size = b0 at h0 ⊢;have H0:=Lib.hid h0;clear h0 h)
 (have q0:=H0.out.ob.cell 0 _ rfl;have q1:=H0.out.ob.cell 1 _ rfl;have q2:=H0.out.ob.cell 2 _ rfl;have q3:=H0.out.ob.cell 3 _ rfl;have q4:=H0.out.ob.cell 4 _ rfl;have q5:=H0.out.ob.cell 5 _ rfl;have q6:=H0.out.ob.cell 6 _ rfl;have q7:=H0.out.ob.cell 7 _ rfl)
 go_wp2_with (go_at_call 54;refine (CHK.out _ H0.out.ok).mono ?_;rintro e W2 ⟨rfl,hb⟩;have H2:=Lib.hid (H0.out.below hb);clear hb)
 go_ret2
 exact HP.out _ H2.out.bel
def tg (k : Nat) (l : List (List Int)) (j : Nat) : List UInt8:=textT (tag k (l.take j))
theorem tg_0 (k : Nat) (l : List (List Int)) : tg k l 0 = []:=by simp [tg,tag,textT]
theorem tg_succ (k : Nat) (l : List (List Int)) (j : Nat) (hj : j < l.length) : tg k l (j + 1) = tg k l j ++ (lineT (k,l[j]) ++ [10]):=by
 unfold tg tag
 rw [List.take_succ_eq_append_getElem hj,List.map_append,textT_app]
 simp [textT]
theorem tg_all (k : Nat) (l : List (List Int)) : tg k l l.length = textT (tag k l):=by unfold tg;rw [List.take_length]
theorem port_len {x y : Int} (h : 0 ≤ x ∧ x < 256) (hy : y = -1 ∨ 0 ≤ y ∧ y < 4) : (lineT (3,[x,y]) ++ [10]).length ≤ 40:=by
 have h2:=(lbT_ok h).2.1
 rcases hy with rfl | hy
 ·rw [← lnW_out h]
  have:=lnW_len 3 (by decide) (lbT x ++ 32 :: outT) [] (by simp)
  simp only [List.length_append,List.length_cons,List.length_nil] at this
  have : outT.length = 3:=rfl
  omega
 ·rw [← lnW_3 h (by omega)]
  have:=lnW_len 3 (by decide) (lbT x) [y] (by intro n hn;rw [List.mem_singleton.1 hn];omega)
  simp only [List.length_cons,List.length_nil] at this
  omega
theorem pprint_yes (c : Cv) (w : World) (h : CfgOk w c) (h0 : (chkV c).1 = 0) (hP : PowIs w) : Calls Tryz.prog 36 #[(.agg #[.int .i64 c.cats,.slice c.g.a c.g.l.length c.g.cap,.slice c.r.a c.r.l.length c.r.cap,.slice c.p.a c.p.l.length c.p.cap,.slice c.n.a c.n.l.length c.n.cap,.slice c.s.a c.s.l.length c.s.cap,.int .i64 c.gate,.int .i64 c.quota])] w (PrPost c w):=by
 obtain ⟨e1,he1⟩ : ∃ v,Hid (v = (chkV c).2):=⟨_,Lib.hid rfl⟩
 have CHK : Hid (∀ W,CfgOk W c → Calls Tryz.prog 54 #[(.agg #[.int .i64 c.cats,.slice c.g.a c.g.l.length c.g.cap,.slice c.r.a c.r.l.length c.r.cap,.slice c.p.a c.p.l.length c.p.cap,.slice c.n.a c.n.l.length c.n.cap,.slice c.s.a c.s.l.length c.s.cap,.int .i64 c.gate,.int .i64 c.quota])] W fun e w'=>e = .returned (.tuple #[.int .i64 0,.int .i64 e1]) ∧ Below W.heap.size W w'):=fun W hc=>by rw [he1.out,← h0];exact check_any c W hc
 have HF : Hid (FitP (pcOf c)):=fit_of h0
 have HP : Hid (∀ T w',T = prT (pcOf c) → Below w.heap.size w w' → PrPost c w (.returned (.tuple #[.string (ba T),.int .i64 0])) w'):=fun T w' e hb=>⟨fun h=>absurd h0 h,fun _=>by rw [e],hb⟩
 obtain ⟨gl1,gl2⟩ : c.g.l.length ≤ 4 ∧ c.r.l.length ≤ 8:=⟨HF.out.gl,HF.out.rl⟩
 obtain ⟨gl3,gl4,gl5⟩ : c.p.l.length ≤ 8 ∧ c.n.l.length ≤ 4 ∧ c.s.l.length ≤ 8:=⟨HF.out.pl,HF.out.nl,HF.out.sl⟩
 have e1 : c.g.l.length ≤ c.g.cap:=h.g.le
 have e2 : c.r.l.length ≤ c.r.cap:=h.r.le
 have e3 : c.p.l.length ≤ c.p.cap:=h.p.le
 have e4 : c.n.l.length ≤ c.n.cap:=h.n.le
 have e5 : c.s.l.length ≤ c.s.cap:=h.s.le
 obtain ⟨fc1,fc2⟩ : 0 ≤ c.cats ∧ c.cats ≤ 8:=HF.out.cats
 have HPW:=Lib.hid hP
 clear h0 hP
 (have h0:=CX.new h;go_enter Tryz.func36,Tryz.ntmps36;go_upto_region 1 with fail;generalize w.alloc (.cells #[.int .i64 c.cats,.slice c.g.a c.g.l.length c.g.cap,.slice c.r.a c.r.l.length c.r.cap,.slice c.p.a c.p.l.length c.p.cap,.slice c.n.a c.n.l.length c.n.cap,.slice c.s.a c.s.l.length c.s.cap,.int .i64 c.gate,.int .i64 c.quota] 29) = W1 at h0 ⊢;generalize w.heap.size = b0 at h0 ⊢;have H0:=Lib.hid h0;clear h0 h)
 (have q0:=H0.out.ob.cell 0 _ rfl;have q1:=H0.out.ob.cell 1 _ rfl;have q2:=H0.out.ob.cell 2 _ rfl;have q3:=H0.out.ob.cell 3 _ rfl;have q4:=H0.out.ob.cell 4 _ rfl;have q5:=H0.out.ob.cell 5 _ rfl;have q6:=H0.out.ob.cell 6 _ rfl;have q7:=H0.out.ob.cell 7 _ rfl)
 go_wp2_with fail
 refine (CHK.out _ H0.out.ok).mono ?_;rintro e W2 ⟨rfl,hb⟩
 have H2:=Lib.hid (H0.out.below hb)
 clear hb q0 q1 q2 q3 q4 q5 q6 q7
 go_upto_region 5 with fail
 have HG0 : Hid (PG W2 W2.heap.size [] (W2.alloc (.cells #[.pointer none,.slice none 0 0] 127))):=⟨((Below.refl _ _).alloc (Nat.le_refl _) _),HPW.out.below H2.out.bel,PgIs.fresh W2⟩
 generalize W2.alloc (.cells #[.pointer none,.slice none 0 0] 127) = W3 at HG0 ⊢
 obtain ⟨b,hb⟩ : ∃ b,b = W2.heap.size:=⟨_,rfl⟩
 rw [← hb] at HG0 ⊢
 clear hb
 have HX:=Lib.hid (H2.out.below HG0.out.bel)
 (have q0:=HX.out.ob.cell 0 _ rfl;have q1:=HX.out.ob.cell 1 _ rfl;have q2:=HX.out.ob.cell 2 _ rfl;have q3:=HX.out.ob.cell 3 _ rfl;have q4:=HX.out.ob.cell 4 _ rfl;have q5:=HX.out.ob.cell 5 _ rfl;have q6:=HX.out.ob.cell 6 _ rfl;have q7:=HX.out.ob.cell 7 _ rfl)
 go_wp2_with fail
 refine (pline1 0 (by decide) [] c.cats ⟨fc1,by omega⟩ (w:=W2) (b:=b) (t:=[]) (by simp) (by simp) _ _ (HG0.out.more ((Below.refl _ _).alloc (Nat.le_refl _) _)) (ObjAt.new _ _ _)).mono ?_;rintro e W4 ⟨rfl,h7,h8⟩
 obtain ⟨t1,ht1⟩ : ∃ t1,t1 = [] ++ lnW 0 [] [c.cats]:=⟨_,rfl⟩
 rw [← ht1] at h7
 have HG:=Lib.hid h7
 have hlt1 : t1.length ≤ 60:=by
  have h1:=lnW_len 0 (by decide) [] [c.cats] (by intro n hn;rw [List.mem_singleton.1 hn];omega)
  simp only [List.length_cons,List.length_nil] at h1
  rw [ht1,List.nil_append];omega
 have HVt1 : Hid (t1 = textT [(0,[c.cats])]):=by rw [Hid,ht1,List.nil_append,lnW_0,textT_one]
 replace HX:=Lib.hid (H2.out.below HG.out.bel)
 clear h7 h8 ht1 q0 q1 q2 q3 q4 q5 q6 q7
 (have q0:=HX.out.ob.cell 0 _ rfl;have q1:=HX.out.ob.cell 1 _ rfl;have q2:=HX.out.ob.cell 2 _ rfl;have q3:=HX.out.ob.cell 3 _ rfl;have q4:=HX.out.ob.cell 4 _ rfl;have q5:=HX.out.ob.cell 5 _ rfl;have q6:=HX.out.ob.cell 6 _ rfl;have q7:=HX.out.ob.cell 7 _ rfl)
 go_upto_region 7 with fail
 clear q0 q1 q2 q3 q4 q5 q6 q7
 go_loopw [35] (fun i wr=>∃ j : Nat,j ≤ c.g.l.length ∧ i = .int .i64 j ∧ PG W2 b (t1 ++ tg 1 c.g.l j) wr ∧ (t1 ++ tg 1 c.g.l j).length ≤ (t1).length + 60 * j) (fun i _=>c.g.l.length - (intOf i).toNat)
 case atStart=>exact ⟨0,by omega,rfl,by rw [tg_0,List.append_nil];exact HG.out,by rw [tg_0,List.append_nil];omega⟩
 clear HG
 obtain ⟨j,hj,rfl,hg,htl⟩:=hrel
 have HG:=Lib.hid hg
 have HX:=Lib.hid (H2.out.below hg.bel)
 have HTL:=Lib.hid htl
 clear hg htl
 by_cases hlt : j < c.g.l.length
 case pos=>
  obtain ⟨bx,ox,hax,hcx⟩:=H2.out.ok.g.cells (by omega) j hlt
  obtain ⟨lb,x,y,hrow⟩:=row3 hlt H2.out.ok.g.len
  have hfit:=HF.out.g _ (List.getElem_mem hlt)
  rw [hrow] at hcx hfit
  simp only [List.getD_cons_zero,List.getD_cons_succ] at hfit
  obtain ⟨f1,f2,f3⟩:=hfit
  have c0:=hcx _ HG.out.bel 0 _ rfl;have c1:=hcx _ HG.out.bel 1 _ rfl;have c2:=hcx _ HG.out.bel 2 _ rfl
  simp only [Nat.add_zero] at c0
  have d1 : decide ((j : Int) < (c.g.l.length : Int)) = true:=decide_eq_true (by omega)
  have d1' : decide (j < c.g.l.length) = true:=decide_eq_true hlt
  have w1 : IntKind.i64.wrap ((j : Int) + 1) = (j : Int) + 1:=by rw [IntKind.wrap_i64];omega
  have kz : (0 : Int) ≤ (j : Int):=by omega
  have kl : (j : Int) < (c.g.l.length : Int):=by omega
  have HLB:=Lib.hid (lbS_lbT f1)
  have htl : (t1 ++ tg 1 c.g.l j).length ≤ 1000000:=by have:=HTL.out;omega
  have HLINE:=fun W g=>Lib.hid (pline2 1 (by decide) (lbT lb) x y ⟨f2.1,by omega⟩ ⟨f3.1,by omega⟩ (w:=W2) (b:=b) (t:=t1 ++ tg 1 c.g.l j) htl (by have:=(lbT_ok f1).2.1;omega) W g)
  have HV : Hid ((t1 ++ tg 1 c.g.l j) ++ lnW 1 (lbT lb) [x,y] = t1 ++ tg 1 c.g.l (j + 1)):=by rw [Hid,lnW_1 f1,tg_succ 1 c.g.l j hlt,hrow,List.append_assoc]
  have HVL : Hid ((t1 ++ tg 1 c.g.l (j + 1)).length ≤ (t1).length + 60 * (j + 1)):=by
   rw [← HV.out,Hid,List.length_append]
   have h1:=lnW_len 1 (by decide) (lbT lb) [x,y] (by intro n hn;simp at hn;rcases hn with rfl | rfl <;> omega)
   have h2:=(lbT_ok f1).2.1
   have h3:=HTL.out
   simp only [List.length_cons,List.length_nil] at h1
   omega
  have HAX:=Lib.hid hax
  rw [hax]
  clear hcx hrow htl f1 f2 f3 hax
  go_upto_region 9 with fail
  clear c0 c1 c2
  have R1 : Hid (ObjAt (wr.alloc (.cells #[.int .i64 lb,.int .i64 x,.int .i64 y] 130)) wr.heap.size 130 [.int .i64 lb,.int .i64 x,.int .i64 y]):=ObjAt.new wr _ _
  have HG1 : Hid (PG W2 b (t1 ++ tg 1 c.g.l j) (wr.alloc (.cells #[.int .i64 lb,.int .i64 x,.int .i64 y] 130))):=HG.out.more ((Below.refl _ _).alloc (Nat.le_refl _) _)
  generalize wr.alloc (.cells #[.int .i64 lb,.int .i64 x,.int .i64 y] 130) = W4 at R1 HG1 ⊢
  generalize wr.heap.size = rr at R1 ⊢
  have R1d : Hid (ObjAt W4.drew rr 130 [.int .i64 lb,.int .i64 x,.int .i64 y]):=R1.out.below (Below.refl _ _).drew
  have HG1d : Hid (PG W2 b (t1 ++ tg 1 c.g.l j) W4.drew):=HG1.out.more (Below.refl _ _).drew
  go_region_held3 (fun W'=>W'.cell? ⟨rr,0,none⟩ = some (.int .i64 lb) ∧ W'.cell? ⟨rr,1,none⟩ = some (.int .i64 x) ∧ W'.cell? ⟨rr,2,none⟩ = some (.int .i64 y)) (first | exact ⟨(R1d.out).cell 0 _ rfl,(R1d.out).cell 1 _ rfl,(R1d.out).cell 2 _ rfl⟩ | exact ⟨(R7.out).cell 0 _ rfl,(R7.out).cell 1 _ rfl,(R7.out).cell 2 _ rfl⟩ | exact ⟨(R6.out).cell 0 _ rfl,(R6.out).cell 1 _ rfl,(R6.out).cell 2 _ rfl⟩ | exact ⟨(R1d.out.below ((Below.refl _ _).alloc (Nat.le_refl _) _)).cell 0 _ rfl,(R1d.out.below ((Below.refl _ _).alloc (Nat.le_refl _) _)).cell 1 _ rfl,(R1d.out.below ((Below.refl _ _).alloc (Nat.le_refl _) _)).cell 2 _ rfl⟩ | exact ⟨(R6.out.below ((Below.refl _ _).alloc (Nat.le_refl _) _)).cell 0 _ rfl,(R6.out.below ((Below.refl _ _).alloc (Nat.le_refl _) _)).cell 1 _ rfl,(R6.out.below ((Below.refl _ _).alloc (Nat.le_refl _) _)).cell 2 _ rfl⟩) (first | (go_at_call 66;refine (letters_str lb _).mono ?_;rintro e W6 ⟨rfl,hb6⟩;rw [HLB.out];have HG6 : Hid (PG W2 b (t1 ++ tg 1 c.g.l j) W6):=(by first | exact HG1d.out.more hb6 | exact (HG1d.out.more ((Below.refl _ _).alloc (Nat.le_refl _) _)).more hb6);have R6 : Hid (ObjAt W6 rr 130 [.int .i64 lb,.int .i64 x,.int .i64 y]):=(by first | exact R1d.out.below hb6 | exact (R1d.out.below ((Below.refl _ _).alloc (Nat.le_refl _) _)).below hb6);have HB6:=Lib.hid hb6;clear hb6) | (go_at_call 65;refine ((HLINE _ _).out (by first | exact HG6.out | exact HG6.out.more ((Below.refl _ _).alloc (Nat.le_refl _) _)) (by first | exact ObjAt.new _ _ _ | exact (ObjAt.new W4.drew 3 [.int .i64 x,.int .i64 y]).below HB6.out)).mono ?_;rintro e W7 ⟨rfl,h7,h8⟩;have HG7:=Lib.hid h7;have R7 : Hid (ObjAt W7 rr 130 [.int .i64 lb,.int .i64 x,.int .i64 y]):=(by first | exact h8.obj R6.out (HG6.out.ne R6.out (by decide)) (by decide) | exact h8.obj (R6.out.below ((Below.refl _ _).alloc (Nat.le_refl _) _)) (HG6.out.ne R6.out (by decide)) (by decide));clear h7 h8))
  all_goals
   go_wp2_with fail
   go_roundw
   case rel=>exact ⟨j + 1,by omega,by go_num,by rw [← HV.out];exact HG7.out,HVL.out⟩
   case measure=>simp [intOf];omega
 obtain rfl : j = c.g.l.length:=by omega
 have dq : decide ((c.g.l.length : Int) < (c.g.l.length : Int)) = false:=decide_eq_false (by omega)
 have HTL2:=Lib.hid HTL.out
 obtain ⟨t2,ht2⟩ : ∃ tz,tz = t1 ++ tg 1 c.g.l c.g.l.length:=⟨_,rfl⟩
 rw [← ht2] at HG HTL2
 rw [tg_all] at ht2
 have HVt2:=Lib.hid ht2
 have hlt2 : t2.length ≤ 400:=by have:=HTL2.out;omega
 clear HTL HTL2 ht2
 (have q0:=HX.out.ob.cell 0 _ rfl;have q1:=HX.out.ob.cell 1 _ rfl;have q2:=HX.out.ob.cell 2 _ rfl;have q3:=HX.out.ob.cell 3 _ rfl;have q4:=HX.out.ob.cell 4 _ rfl;have q5:=HX.out.ob.cell 5 _ rfl;have q6:=HX.out.ob.cell 6 _ rfl;have q7:=HX.out.ob.cell 7 _ rfl)
 go_upto_region 12 with fail
 clear q0 q1 q2 q3 q4 q5 q6 q7
 go_loopw [53] (fun i wr=>∃ j : Nat,j ≤ c.r.l.length ∧ i = .int .i64 j ∧ PG W2 b (t2 ++ tg 2 c.r.l j) wr ∧ (t2 ++ tg 2 c.r.l j).length ≤ (t2).length + 60 * j) (fun i _=>c.r.l.length - (intOf i).toNat)
 case atStart=>exact ⟨0,by omega,rfl,by rw [tg_0,List.append_nil];exact HG.out,by rw [tg_0,List.append_nil];omega⟩
 clear HG
 obtain ⟨j,hj,rfl,hg,htl⟩:=hrel
 have HG:=Lib.hid hg
 have HX:=Lib.hid (H2.out.below hg.bel)
 have HTL:=Lib.hid htl
 clear hg htl
 by_cases hlt : j < c.r.l.length
 case pos=>
  obtain ⟨bx,ox,hax,hcx⟩:=H2.out.ok.r.cells (by omega) j hlt
  obtain ⟨lb,x,y,hrow⟩:=row3 hlt H2.out.ok.r.len
  have hfit:=HF.out.r _ (List.getElem_mem hlt)
  rw [hrow] at hcx hfit
  simp only [List.getD_cons_zero,List.getD_cons_succ] at hfit
  obtain ⟨f1,f2,f3⟩:=hfit
  have c0:=hcx _ HG.out.bel 0 _ rfl;have c1:=hcx _ HG.out.bel 1 _ rfl;have c2:=hcx _ HG.out.bel 2 _ rfl
  simp only [Nat.add_zero] at c0
  have d1 : decide ((j : Int) < (c.r.l.length : Int)) = true:=decide_eq_true (by omega)
  have d1' : decide (j < c.r.l.length) = true:=decide_eq_true hlt
  have w1 : IntKind.i64.wrap ((j : Int) + 1) = (j : Int) + 1:=by rw [IntKind.wrap_i64];omega
  have kz : (0 : Int) ≤ (j : Int):=by omega
  have kl : (j : Int) < (c.r.l.length : Int):=by omega
  have HLB:=Lib.hid (lbS_lbT f1)
  have htl : (t2 ++ tg 2 c.r.l j).length ≤ 1000000:=by have:=HTL.out;omega
  have HLINE:=fun W g=>Lib.hid (pline2 2 (by decide) (lbT lb) x y ⟨f2.1,by omega⟩ ⟨f3.1,by omega⟩ (w:=W2) (b:=b) (t:=t2 ++ tg 2 c.r.l j) htl (by have:=(lbT_ok f1).2.1;omega) W g)
  have HV : Hid ((t2 ++ tg 2 c.r.l j) ++ lnW 2 (lbT lb) [x,y] = t2 ++ tg 2 c.r.l (j + 1)):=by rw [Hid,lnW_2 f1,tg_succ 2 c.r.l j hlt,hrow,List.append_assoc]
  have HVL : Hid ((t2 ++ tg 2 c.r.l (j + 1)).length ≤ (t2).length + 60 * (j + 1)):=by
   rw [← HV.out,Hid,List.length_append]
   have h1:=lnW_len 2 (by decide) (lbT lb) [x,y] (by intro n hn;simp at hn;rcases hn with rfl | rfl <;> omega)
   have h2:=(lbT_ok f1).2.1
   have h3:=HTL.out
   simp only [List.length_cons,List.length_nil] at h1
   omega
  have HAX:=Lib.hid hax
  rw [hax]
  clear hcx hrow htl f1 f2 f3 hax
  go_upto_region 14 with fail
  clear c0 c1 c2
  have R1 : Hid (ObjAt (wr.alloc (.cells #[.int .i64 lb,.int .i64 x,.int .i64 y] 132)) wr.heap.size 132 [.int .i64 lb,.int .i64 x,.int .i64 y]):=ObjAt.new wr _ _
  have HG1 : Hid (PG W2 b (t2 ++ tg 2 c.r.l j) (wr.alloc (.cells #[.int .i64 lb,.int .i64 x,.int .i64 y] 132))):=HG.out.more ((Below.refl _ _).alloc (Nat.le_refl _) _)
  generalize wr.alloc (.cells #[.int .i64 lb,.int .i64 x,.int .i64 y] 132) = W4 at R1 HG1 ⊢
  generalize wr.heap.size = rr at R1 ⊢
  have R1d : Hid (ObjAt W4.drew rr 132 [.int .i64 lb,.int .i64 x,.int .i64 y]):=R1.out.below (Below.refl _ _).drew
  have HG1d : Hid (PG W2 b (t2 ++ tg 2 c.r.l j) W4.drew):=HG1.out.more (Below.refl _ _).drew
  go_region_held3 (fun W'=>W'.cell? ⟨rr,0,none⟩ = some (.int .i64 lb) ∧ W'.cell? ⟨rr,1,none⟩ = some (.int .i64 x) ∧ W'.cell? ⟨rr,2,none⟩ = some (.int .i64 y)) (first | exact ⟨(R1d.out).cell 0 _ rfl,(R1d.out).cell 1 _ rfl,(R1d.out).cell 2 _ rfl⟩ | exact ⟨(R7.out).cell 0 _ rfl,(R7.out).cell 1 _ rfl,(R7.out).cell 2 _ rfl⟩ | exact ⟨(R6.out).cell 0 _ rfl,(R6.out).cell 1 _ rfl,(R6.out).cell 2 _ rfl⟩ | exact ⟨(R1d.out.below ((Below.refl _ _).alloc (Nat.le_refl _) _)).cell 0 _ rfl,(R1d.out.below ((Below.refl _ _).alloc (Nat.le_refl _) _)).cell 1 _ rfl,(R1d.out.below ((Below.refl _ _).alloc (Nat.le_refl _) _)).cell 2 _ rfl⟩ | exact ⟨(R6.out.below ((Below.refl _ _).alloc (Nat.le_refl _) _)).cell 0 _ rfl,(R6.out.below ((Below.refl _ _).alloc (Nat.le_refl _) _)).cell 1 _ rfl,(R6.out.below ((Below.refl _ _).alloc (Nat.le_refl _) _)).cell 2 _ rfl⟩) (first | (go_at_call 66;refine (letters_str lb _).mono ?_;rintro e W6 ⟨rfl,hb6⟩;rw [HLB.out];have HG6 : Hid (PG W2 b (t2 ++ tg 2 c.r.l j) W6):=(by first | exact HG1d.out.more hb6 | exact (HG1d.out.more ((Below.refl _ _).alloc (Nat.le_refl _) _)).more hb6);have R6 : Hid (ObjAt W6 rr 132 [.int .i64 lb,.int .i64 x,.int .i64 y]):=(by first | exact R1d.out.below hb6 | exact (R1d.out.below ((Below.refl _ _).alloc (Nat.le_refl _) _)).below hb6);have HB6:=Lib.hid hb6;clear hb6) | (go_at_call 65;refine ((HLINE _ _).out (by first | exact HG6.out | exact HG6.out.more ((Below.refl _ _).alloc (Nat.le_refl _) _)) (by first | exact ObjAt.new _ _ _ | exact (ObjAt.new W4.drew 3 [.int .i64 x,.int .i64 y]).below HB6.out)).mono ?_;rintro e W7 ⟨rfl,h7,h8⟩;have HG7:=Lib.hid h7;have R7 : Hid (ObjAt W7 rr 132 [.int .i64 lb,.int .i64 x,.int .i64 y]):=(by first | exact h8.obj R6.out (HG6.out.ne R6.out (by decide)) (by decide) | exact h8.obj (R6.out.below ((Below.refl _ _).alloc (Nat.le_refl _) _)) (HG6.out.ne R6.out (by decide)) (by decide));clear h7 h8))
  all_goals
   go_wp2_with fail
   go_roundw
   case rel=>exact ⟨j + 1,by omega,by go_num,by rw [← HV.out];exact HG7.out,HVL.out⟩
   case measure=>simp [intOf];omega
 obtain rfl : j = c.r.l.length:=by omega
 have dq : decide ((c.r.l.length : Int) < (c.r.l.length : Int)) = false:=decide_eq_false (by omega)
 have HTL2:=Lib.hid HTL.out
 obtain ⟨t3,ht2⟩ : ∃ tz,tz = t2 ++ tg 2 c.r.l c.r.l.length:=⟨_,rfl⟩
 rw [← ht2] at HG HTL2
 rw [tg_all] at ht2
 have HVt3:=Lib.hid ht2
 have hlt3 : t3.length ≤ 900:=by have:=HTL2.out;omega
 clear HTL HTL2 ht2
 (have q0:=HX.out.ob.cell 0 _ rfl;have q1:=HX.out.ob.cell 1 _ rfl;have q2:=HX.out.ob.cell 2 _ rfl;have q3:=HX.out.ob.cell 3 _ rfl;have q4:=HX.out.ob.cell 4 _ rfl;have q5:=HX.out.ob.cell 5 _ rfl;have q6:=HX.out.ob.cell 6 _ rfl;have q7:=HX.out.ob.cell 7 _ rfl)
 go_upto_region 17 with fail
 clear q0 q1 q2 q3 q4 q5 q6 q7
 go_loopw [71] (fun i wr=>∃ j : Nat,j ≤ c.p.l.length ∧ i = .int .i64 j ∧ PG W2 b (t3 ++ tg 3 c.p.l j) wr ∧ (t3 ++ tg 3 c.p.l j).length ≤ (t3).length + 60 * j) (fun i _=>c.p.l.length - (intOf i).toNat)
 case atStart=>exact ⟨0,by omega,rfl,by rw [tg_0,List.append_nil];exact HG.out,by rw [tg_0,List.append_nil];omega⟩
 clear HG
 obtain ⟨j,hj,rfl,hg,htl⟩:=hrel
 have HG:=Lib.hid hg
 have HX:=Lib.hid (H2.out.below hg.bel)
 have HTL:=Lib.hid htl
 clear hg htl
 by_cases hlt : j < c.p.l.length
 case pos=>
  obtain ⟨bx,ox,hax,hcx⟩:=H2.out.ok.p.cells (by omega) j hlt
  obtain ⟨x,y,hrow⟩:=row2 hlt H2.out.ok.p.len
  have hfit:=HF.out.p _ (List.getElem_mem hlt)
  rw [hrow] at hcx hfit
  simp only [List.getD_cons_zero,List.getD_cons_succ] at hfit
  obtain ⟨f2,f3⟩:=hfit
  have c0:=hcx _ HG.out.bel 0 _ rfl;have c1:=hcx _ HG.out.bel 1 _ rfl
  simp only [Nat.add_zero] at c0
  have d1 : decide ((j : Int) < (c.p.l.length : Int)) = true:=decide_eq_true (by omega)
  have d1' : decide (j < c.p.l.length) = true:=decide_eq_true hlt
  have w1 : IntKind.i64.wrap ((j : Int) + 1) = (j : Int) + 1:=by rw [IntKind.wrap_i64];omega
  have kz : (0 : Int) ≤ (j : Int):=by omega
  have kl : (j : Int) < (c.p.l.length : Int):=by omega
  have htl : (t3 ++ tg 3 c.p.l j).length ≤ 1000000:=by have:=HTL.out;omega
  have HLINE:=fun W=>Lib.hid (fun hg=>pport_any x y f2 (f3.imp id fun h=>⟨h.1,by omega⟩) W2 b (t3 ++ tg 3 c.p.l j) W hg htl)
  have HV : Hid ((t3 ++ tg 3 c.p.l j) ++ (lineT (3,[x,y]) ++ [10]) = t3 ++ tg 3 c.p.l (j + 1)):=by rw [Hid,tg_succ 3 c.p.l j hlt,hrow,List.append_assoc]
  have HVL : Hid ((t3 ++ tg 3 c.p.l (j + 1)).length ≤ (t3).length + 60 * (j + 1)):=by
   rw [← HV.out,Hid,List.length_append]
   have h1:=port_len f2 f3
   have h3:=HTL.out
   omega
  have HAX:=Lib.hid hax
  rw [hax]
  clear hcx hrow htl f2 f3 hax
  go_upto_region 19 with fail
  clear c0 c1
  have R1 : Hid (ObjAt (wr.alloc (.cells #[.int .i64 x,.int .i64 y] 134)) wr.heap.size 134 [.int .i64 x,.int .i64 y]):=ObjAt.new wr _ _
  have HG1 : Hid (PG W2 b (t3 ++ tg 3 c.p.l j) (wr.alloc (.cells #[.int .i64 x,.int .i64 y] 134))):=HG.out.more ((Below.refl _ _).alloc (Nat.le_refl _) _)
  generalize wr.alloc (.cells #[.int .i64 x,.int .i64 y] 134) = W4 at R1 HG1 ⊢
  generalize wr.heap.size = rr at R1 ⊢
  have c0:=R1.out.cell 0 _ rfl
  have c1:=R1.out.cell 1 _ rfl
  go_wp2_with (go_at_call 67;refine ((HLINE _).out HG1.out).mono ?_;rintro e W7 ⟨rfl,h7,h8⟩;have HG7:=Lib.hid h7;clear h7 h8 c0 c1)
  go_roundw
  case rel=>exact ⟨j + 1,by omega,by go_num,by rw [← HV.out];exact HG7.out,HVL.out⟩
  case measure=>simp [intOf];omega
 obtain rfl : j = c.p.l.length:=by omega
 have dq : decide ((c.p.l.length : Int) < (c.p.l.length : Int)) = false:=decide_eq_false (by omega)
 have HTL2:=Lib.hid HTL.out
 obtain ⟨t4,ht2⟩ : ∃ tz,tz = t3 ++ tg 3 c.p.l c.p.l.length:=⟨_,rfl⟩
 rw [← ht2] at HG HTL2
 rw [tg_all] at ht2
 have HVt4:=Lib.hid ht2
 have hlt4 : t4.length ≤ 1400:=by have:=HTL2.out;omega
 clear HTL HTL2 ht2
 (have q0:=HX.out.ob.cell 0 _ rfl;have q1:=HX.out.ob.cell 1 _ rfl;have q2:=HX.out.ob.cell 2 _ rfl;have q3:=HX.out.ob.cell 3 _ rfl;have q4:=HX.out.ob.cell 4 _ rfl;have q5:=HX.out.ob.cell 5 _ rfl;have q6:=HX.out.ob.cell 6 _ rfl;have q7:=HX.out.ob.cell 7 _ rfl)
 go_upto_region 22 with fail
 clear q0 q1 q2 q3 q4 q5 q6 q7
 go_loopw [82] (fun i wr=>∃ j : Nat,j ≤ c.n.l.length ∧ i = .int .i64 j ∧ PG W2 b (t4 ++ tg 4 c.n.l j) wr ∧ (t4 ++ tg 4 c.n.l j).length ≤ (t4).length + 60 * j) (fun i _=>c.n.l.length - (intOf i).toNat)
 case atStart=>exact ⟨0,by omega,rfl,by rw [tg_0,List.append_nil];exact HG.out,by rw [tg_0,List.append_nil];omega⟩
 clear HG
 obtain ⟨j,hj,rfl,hg,htl⟩:=hrel
 have HG:=Lib.hid hg
 have HX:=Lib.hid (H2.out.below hg.bel)
 have HTL:=Lib.hid htl
 clear hg htl
 by_cases hlt : j < c.n.l.length
 case pos=>
  obtain ⟨bx,ox,hax,hcx⟩:=H2.out.ok.n.cells (by omega) j hlt
  obtain ⟨x,y,hrow⟩:=row2 hlt H2.out.ok.n.len
  have hfit:=HF.out.n _ (List.getElem_mem hlt)
  rw [hrow] at hcx hfit
  simp only [List.getD_cons_zero,List.getD_cons_succ] at hfit
  obtain ⟨f2,f3⟩:=hfit
  have c0:=hcx _ HG.out.bel 0 _ rfl;have c1:=hcx _ HG.out.bel 1 _ rfl
  simp only [Nat.add_zero] at c0
  have d1 : decide ((j : Int) < (c.n.l.length : Int)) = true:=decide_eq_true (by omega)
  have d1' : decide (j < c.n.l.length) = true:=decide_eq_true hlt
  have w1 : IntKind.i64.wrap ((j : Int) + 1) = (j : Int) + 1:=by rw [IntKind.wrap_i64];omega
  have kz : (0 : Int) ≤ (j : Int):=by omega
  have kl : (j : Int) < (c.n.l.length : Int):=by omega
  have htl : (t4 ++ tg 4 c.n.l j).length ≤ 1000000:=by have:=HTL.out;omega
  have HLINE:=fun W g=>Lib.hid (pline2 4 (by decide) [] x y ⟨f2.1,by omega⟩ ⟨f3.1,by omega⟩ (w:=W2) (b:=b) (t:=t4 ++ tg 4 c.n.l j) htl (by simp) W g)
  have HV : Hid ((t4 ++ tg 4 c.n.l j) ++ lnW 4 [] [x,y] = t4 ++ tg 4 c.n.l (j + 1)):=by rw [Hid,lnW_k,tg_succ 4 c.n.l j hlt,hrow,List.append_assoc]
  have HVL : Hid ((t4 ++ tg 4 c.n.l (j + 1)).length ≤ (t4).length + 60 * (j + 1)):=by
   rw [← HV.out,Hid,List.length_append]
   have h1:=lnW_len 4 (by decide) [] [x,y] (by intro n hn;simp at hn;rcases hn with rfl | rfl <;> omega)
   have h3:=HTL.out
   simp only [List.length_cons,List.length_nil] at h1
   omega
  have HAX:=Lib.hid hax
  rw [hax]
  clear hcx hrow htl f2 f3 hax
  go_upto_region 24 with fail
  clear c0 c1
  have R1 : Hid (ObjAt (wr.alloc (.cells #[.int .i64 x,.int .i64 y] 137)) wr.heap.size 137 [.int .i64 x,.int .i64 y]):=ObjAt.new wr _ _
  have HG1 : Hid (PG W2 b (t4 ++ tg 4 c.n.l j) (wr.alloc (.cells #[.int .i64 x,.int .i64 y] 137))):=HG.out.more ((Below.refl _ _).alloc (Nat.le_refl _) _)
  generalize wr.alloc (.cells #[.int .i64 x,.int .i64 y] 137) = W4 at R1 HG1 ⊢
  generalize wr.heap.size = rr at R1 ⊢
  have c0:=R1.out.cell 0 _ rfl
  have c1:=R1.out.cell 1 _ rfl
  go_wp2_with (go_at_call 65;refine ((HLINE _ _).out (HG1.out.more ((Below.refl _ _).alloc (Nat.le_refl _) _)) (ObjAt.new _ _ _)).mono ?_;rintro e W7 ⟨rfl,h7,h8⟩;have HG7:=Lib.hid h7;clear h7 h8 c0 c1)
  go_roundw
  case rel=>exact ⟨j + 1,by omega,by go_num,by rw [← HV.out];exact HG7.out,HVL.out⟩
  case measure=>simp [intOf];omega
 obtain rfl : j = c.n.l.length:=by omega
 have dq : decide ((c.n.l.length : Int) < (c.n.l.length : Int)) = false:=decide_eq_false (by omega)
 have HTL2:=Lib.hid HTL.out
 obtain ⟨t5,ht2⟩ : ∃ tz,tz = t4 ++ tg 4 c.n.l c.n.l.length:=⟨_,rfl⟩
 rw [← ht2] at HG HTL2
 rw [tg_all] at ht2
 have HVt5:=Lib.hid ht2
 have hlt5 : t5.length ≤ 1700:=by have:=HTL2.out;omega
 clear HTL HTL2 ht2
 (have q0:=HX.out.ob.cell 0 _ rfl;have q1:=HX.out.ob.cell 1 _ rfl;have q2:=HX.out.ob.cell 2 _ rfl;have q3:=HX.out.ob.cell 3 _ rfl;have q4:=HX.out.ob.cell 4 _ rfl;have q5:=HX.out.ob.cell 5 _ rfl;have q6:=HX.out.ob.cell 6 _ rfl;have q7:=HX.out.ob.cell 7 _ rfl)
 go_upto_region 27 with fail
 clear q0 q1 q2 q3 q4 q5 q6 q7
 go_loopw [97] (fun i wr=>∃ j : Nat,j ≤ c.s.l.length ∧ i = .int .i64 j ∧ PG W2 b (t5 ++ tg 5 c.s.l j) wr ∧ (t5 ++ tg 5 c.s.l j).length ≤ (t5).length + 60 * j) (fun i _=>c.s.l.length - (intOf i).toNat)
 case atStart=>exact ⟨0,by omega,rfl,by rw [tg_0,List.append_nil];exact HG.out,by rw [tg_0,List.append_nil];omega⟩
 clear HG
 obtain ⟨j,hj,rfl,hg,htl⟩:=hrel
 have HG:=Lib.hid hg
 have HX:=Lib.hid (H2.out.below hg.bel)
 have HTL:=Lib.hid htl
 clear hg htl
 by_cases hlt : j < c.s.l.length
 case pos=>
  obtain ⟨bx,ox,hax,hcx⟩:=H2.out.ok.s.cells (by omega) j hlt
  obtain ⟨x,y,hrow⟩:=row2 hlt H2.out.ok.s.len
  have hfit:=HF.out.s _ (List.getElem_mem hlt)
  rw [hrow] at hcx hfit
  simp only [List.getD_cons_zero,List.getD_cons_succ] at hfit
  obtain ⟨f2,f3⟩:=hfit
  have c0:=hcx _ HG.out.bel 0 _ rfl;have c1:=hcx _ HG.out.bel 1 _ rfl
  simp only [Nat.add_zero] at c0
  have d1 : decide ((j : Int) < (c.s.l.length : Int)) = true:=decide_eq_true (by omega)
  have d1' : decide (j < c.s.l.length) = true:=decide_eq_true hlt
  have w1 : IntKind.i64.wrap ((j : Int) + 1) = (j : Int) + 1:=by rw [IntKind.wrap_i64];omega
  have kz : (0 : Int) ≤ (j : Int):=by omega
  have kl : (j : Int) < (c.s.l.length : Int):=by omega
  have htl : (t5 ++ tg 5 c.s.l j).length ≤ 1000000:=by have:=HTL.out;omega
  have HLINE:=fun W g=>Lib.hid (pline2 5 (by decide) [] x y ⟨f2.1,by omega⟩ ⟨f3.1,by omega⟩ (w:=W2) (b:=b) (t:=t5 ++ tg 5 c.s.l j) htl (by simp) W g)
  have HV : Hid ((t5 ++ tg 5 c.s.l j) ++ lnW 5 [] [x,y] = t5 ++ tg 5 c.s.l (j + 1)):=by rw [Hid,lnW_k,tg_succ 5 c.s.l j hlt,hrow,List.append_assoc]
  have HVL : Hid ((t5 ++ tg 5 c.s.l (j + 1)).length ≤ (t5).length + 60 * (j + 1)):=by
   rw [← HV.out,Hid,List.length_append]
   have h1:=lnW_len 5 (by decide) [] [x,y] (by intro n hn;simp at hn;rcases hn with rfl | rfl <;> omega)
   have h3:=HTL.out
   simp only [List.length_cons,List.length_nil] at h1
   omega
  have HAX:=Lib.hid hax
  rw [hax]
  clear hcx hrow htl f2 f3 hax
  go_upto_region 29 with fail
  clear c0 c1
  have R1 : Hid (ObjAt (wr.alloc (.cells #[.int .i64 x,.int .i64 y] 139)) wr.heap.size 139 [.int .i64 x,.int .i64 y]):=ObjAt.new wr _ _
  have HG1 : Hid (PG W2 b (t5 ++ tg 5 c.s.l j) (wr.alloc (.cells #[.int .i64 x,.int .i64 y] 139))):=HG.out.more ((Below.refl _ _).alloc (Nat.le_refl _) _)
  generalize wr.alloc (.cells #[.int .i64 x,.int .i64 y] 139) = W4 at R1 HG1 ⊢
  generalize wr.heap.size = rr at R1 ⊢
  have c0:=R1.out.cell 0 _ rfl
  have c1:=R1.out.cell 1 _ rfl
  go_wp2_with (go_at_call 65;refine ((HLINE _ _).out (HG1.out.more ((Below.refl _ _).alloc (Nat.le_refl _) _)) (ObjAt.new _ _ _)).mono ?_;rintro e W7 ⟨rfl,h7,h8⟩;have HG7:=Lib.hid h7;clear h7 h8 c0 c1)
  go_roundw
  case rel=>exact ⟨j + 1,by omega,by go_num,by rw [← HV.out];exact HG7.out,HVL.out⟩
  case measure=>simp [intOf];omega
 obtain rfl : j = c.s.l.length:=by omega
 have dq : decide ((c.s.l.length : Int) < (c.s.l.length : Int)) = false:=decide_eq_false (by omega)
 have HTL2:=Lib.hid HTL.out
 obtain ⟨t6,ht2⟩ : ∃ tz,tz = t5 ++ tg 5 c.s.l c.s.l.length:=⟨_,rfl⟩
 rw [← ht2] at HG HTL2
 rw [tg_all] at ht2
 have HVt6:=Lib.hid ht2
 have hlt6 : t6.length ≤ 2200:=by have:=HTL2.out;omega
 clear HTL HTL2 ht2
 (have q0:=HX.out.ob.cell 0 _ rfl;have q1:=HX.out.ob.cell 1 _ rfl;have q2:=HX.out.ob.cell 2 _ rfl;have q3:=HX.out.ob.cell 3 _ rfl;have q4:=HX.out.ob.cell 4 _ rfl;have q5:=HX.out.ob.cell 5 _ rfl;have q6:=HX.out.ob.cell 6 _ rfl;have q7:=HX.out.ob.cell 7 _ rfl)
 go_upto_region 31 with fail
 clear q0 q1 q2 q3 q4 q5 q6 q7
 have HVA : Hid (t6 ++ textT (gateR (pcOf c)) = prT (pcOf c)):=by
  rw [Hid,HVt6.out,HVt5.out,HVt4.out,HVt3.out,HVt2.out,HVt1.out]
  unfold prT rowsP
  rw [show ((0,[(pcOf c).cats]) :: (tag 1 (pcOf c).g ++ (tag 2 (pcOf c).r ++ (tag 3 (pcOf c).p ++ (tag 4 (pcOf c).n ++ (tag 5 (pcOf c).s ++ gateR (pcOf c))))))) = [(0,[(pcOf c).cats])] ++ (tag 1 (pcOf c).g ++ (tag 2 (pcOf c).r ++ (tag 3 (pcOf c).p ++ (tag 4 (pcOf c).n ++ (tag 5 (pcOf c).s ++ gateR (pcOf c)))))) from rfl]
  simp only [textT_app,List.append_assoc]
  rfl
 have HNE : Hid (t6 ≠ []):=fun e=>by
  have h1:=HVt6.out;have h2:=HVt5.out;have h3:=HVt4.out;have h4:=HVt3.out;have h5:=HVt2.out;have h6:=HVt1.out
  rw [h2,h3,h4,h5,h6,textT_one] at h1
  rw [e] at h1
  have:=congrArg List.length h1
  simp at this
 (have q0:=HX.out.ob.cell 0 _ rfl;have q1:=HX.out.ob.cell 1 _ rfl;have q2:=HX.out.ob.cell 2 _ rfl;have q3:=HX.out.ob.cell 3 _ rfl;have q4:=HX.out.ob.cell 4 _ rfl;have q5:=HX.out.ob.cell 5 _ rfl;have q6:=HX.out.ob.cell 6 _ rfl;have q7:=HX.out.ob.cell 7 _ rfl)
 by_cases hgt : c.gate = -1
 ·have n1 : (c.gate != -1) = false:=by simp [hgt]
  have HGR : Hid (t6 = prT (pcOf c)):=by
   have:=HVA.out
   rw [show gateR (pcOf c) = [] from by unfold gateR;rw [if_pos (show (pcOf c).gate = -1 from hgt)]] at this
   rw [Hid,← this];simp [textT]
  clear hgt
  go_wp2_with (go_at_call 32;refine (pgstring _ _ _ _ HG.out.pg HNE.out).mono ?_;rintro e W8 ⟨rfl,_,h3,_⟩;have HB8:=Lib.hid (HG.out.bel.trans h3);clear h3)
  go_ret2
  exact HP.out t6 _ HGR.out (H2.out.bel.trans (HB8.out.mono H2.out.bel.size))
 ·have n1 : (c.gate != -1) = true:=by rw [bne_iff_ne];exact hgt
  have hfg:=HF.out.gate.resolve_left (fun h=>hgt h.1)
  obtain ⟨⟨f1,f2⟩,f3,f4⟩ : (0 ≤ c.gate ∧ c.gate < 4) ∧ 0 ≤ c.quota ∧ c.quota ≤ 64:=hfg
  have HLINE:=fun W g=>Lib.hid (pline2 6 (by decide) [] c.gate c.quota ⟨f1,by omega⟩ ⟨f3,by omega⟩ (w:=W2) (b:=b) (t:=t6) (by omega) (by simp) W g)
  have HGR : Hid (t6 ++ lnW 6 [] [c.gate,c.quota] = prT (pcOf c)):=by
   have:=HVA.out
   rw [show gateR (pcOf c) = [(6,[c.gate,c.quota])] from by unfold gateR;rw [if_neg (show ¬ (pcOf c).gate = -1 from hgt)];rfl,textT_one] at this
   rw [Hid,← this,show lnW 6 [] [c.gate,c.quota] = lineT (6,[c.gate,c.quota]) ++ [10] from lnW_k 2 _ _]
  clear hgt f1 f2 f3 f4
  go_wp2_with fail
  refine ((HLINE _ _).out (HG.out.more ((Below.refl _ _).alloc (Nat.le_refl _) _)) (ObjAt.new _ _ _)).mono ?_;rintro e W7 ⟨rfl,h7,h8⟩
  have HG7:=Lib.hid h7
  clear h7 h8 q0 q1 q2 q3 q4 q5 q6 q7
  go_wp2_with (go_at_call 32;refine (pgstring _ _ _ _ HG7.out.pg (by simp [HNE.out])).mono ?_;rintro e W8 ⟨rfl,_,h3,_⟩;have HB8:=Lib.hid (HG7.out.bel.trans h3);clear h3)
  go_ret2
  exact HP.out _ _ HGR.out (H2.out.bel.trans (HB8.out.mono H2.out.bel.size))
theorem pprint_any (c : Cv) (w : World) (h : CfgOk w c) (hP : PowIs w) : Calls Tryz.prog 36 #[(.agg #[.int .i64 c.cats,.slice c.g.a c.g.l.length c.g.cap,.slice c.r.a c.r.l.length c.r.cap,.slice c.p.a c.p.l.length c.p.cap,.slice c.n.a c.n.l.length c.n.cap,.slice c.s.a c.s.l.length c.s.cap,.int .i64 c.gate,.int .i64 c.quota])] w (PrPost c w):=by
 by_cases h0 : (chkV c).1 = 0
 ·exact pprint_yes c w h h0 hP
 ·exact pprint_no c w h h0
end Go.Proofs.YtoklonmiejdgmaaGreatDoor
