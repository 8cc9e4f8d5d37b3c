/- Chapter 4: configurations as values; the small functions. -/
import Derived.Test.YtoklonmiejdgmaaGreatDoorGScriptBack1
import Derived.Deep.Cut
import Derived.StillTailTactics
import Derived.BigRegion
import Derived.Test.YtoklonmiejdgmaaGreatDoorGScriptBack0
namespace Go.Proofs.YtoklonmiejdgmaaGreatDoor
set_option linter.unusedVariables false
set_option linter.unusedSimpArgs false
set_option linter.unnecessarySimpa false
open Go.RowKit
set_option maxHeartbeats 2000000
set_option maxRecDepth 100000
set_option linter.unusedVariables false
/-- A slice of rows of ints. -/
structure Sl where
 a : Option Addr
 cap : Nat
 l : List (List Int)
structure SlOk (W : World) (N : Nat) (s : Sl) : Prop where
 rd : Rd W N s.a s.l.length (iF s.l)
 le : s.l.length ≤ s.cap
 cap : s.cap ≤ maxLen
 len : ∀ r ∈ s.l,r.length = N
/-- A configuration. -/
structure Cv where
 cats : Int
 g : Sl
 r : Sl
 p : Sl
 n : Sl
 s : Sl
 gate : Int
 quota : Int
def cfgL (c : Cv) : List Value:=[.int .i64 c.cats,.slice c.g.a c.g.l.length c.g.cap,.slice c.r.a c.r.l.length c.r.cap,.slice c.p.a c.p.l.length c.p.cap,.slice c.n.a c.n.l.length c.n.cap,.slice c.s.a c.s.l.length c.s.cap,.int .i64 c.gate,.int .i64 c.quota]
structure CfgOk (W : World) (c : Cv) : Prop where
 g : SlOk W 3 c.g
 r : SlOk W 3 c.r
 p : SlOk W 2 c.p
 n : SlOk W 2 c.n
 s : SlOk W 2 c.s
variable {W W' w : World} {c : Cv} {b N : Nat} {s : Sl}
theorem SlOk.below (h : SlOk W N s) (hb : Below W.heap.size W W') : SlOk W' N s:=⟨h.rd.below hb,h.le,h.cap,h.len⟩
theorem SlOk.mx (h : SlOk W N s) : s.l.length ≤ 9223372036854775807:=by have:=h.le;have:=h.cap;unfold maxLen at *;omega
theorem CfgOk.below (h : CfgOk W c) (hb : Below W.heap.size W W') : CfgOk W' c:=⟨h.g.below hb,h.r.below hb,h.p.below hb,h.n.below hb,h.s.below hb⟩
/-- A function of a configuration at work: it lies boxed at b. -/
structure CX (w W : World) (b : Nat) (c : Cv) : Prop where
 ob : ObjAt W b 29 (cfgL c)
 ok : CfgOk W c
 bel : Below w.heap.size w W
theorem CX.below (h : CX w W b c) (hb : Below W.heap.size W W') : CX w W' b c:=⟨h.ob.below hb,h.ok.below hb,h.bel.trans (hb.mono h.bel.size)⟩
theorem CX.new (h : CfgOk w c) : CX w (w.alloc (.cells #[.int .i64 c.cats,.slice c.g.a c.g.l.length c.g.cap,.slice c.r.a c.r.l.length c.r.cap,.slice c.p.a c.p.l.length c.p.cap,.slice c.n.a c.n.l.length c.n.cap,.slice c.s.a c.s.l.length c.s.cap,.int .i64 c.gate,.int .i64 c.quota] 29)) w.heap.size c:=
 have hb:=(Below.refl w.heap.size w).alloc (Nat.le_refl _) (.cells #[.int .i64 c.cats,.slice c.g.a c.g.l.length c.g.cap,.slice c.r.a c.r.l.length c.r.cap,.slice c.p.a c.p.l.length c.p.cap,.slice c.n.a c.n.l.length c.n.cap,.slice c.s.a c.s.l.length c.s.cap,.int .i64 c.gate,.int .i64 c.quota] 29)
 ⟨ObjAt.new w _ (cfgL c),h.below hb,hb⟩
def isG (c : Cv) (i : Int) : Bool:=decide (0 ≤ i) && decide (i < c.g.l.length)
theorem isG_iff (c : Cv) (i : Int) : isG c i = true ↔ 0 ≤ i ∧ i < c.g.l.length:=by simp [isG]
theorem guest_any (c : Cv) (i : Int) (w : World) (h : CfgOk w c) : Calls Tryz.prog 133 #[(.agg #[.int .i64 c.cats,.slice c.g.a c.g.l.length c.g.cap,.slice c.r.a c.r.l.length c.r.cap,.slice c.p.a c.p.l.length c.p.cap,.slice c.n.a c.n.l.length c.n.cap,.slice c.s.a c.s.l.length c.s.cap,.int .i64 c.gate,.int .i64 c.quota]),.int .i64 i] w fun e w'=>e = .returned (.bool (isG c i)) ∧ Below w.heap.size w w':=by
 have HI : Hid (isG c i = (decide (0 ≤ i) && decide (i < c.g.l.length))):=rfl
 obtain ⟨x,hx⟩ : ∃ x,x = isG c i:=⟨_,rfl⟩
 rw [← hx] at HI ⊢
 have h0:=CX.new h
 have H0:=Lib.hid h0
 clear h0 h hx
 by_cases h0 : 0 ≤ i
 ·have d0 : decide (i ≥ 0) = true:=by simp [h0]
  by_cases h1 : i < c.g.l.length
  ·have d1 : decide (i < c.g.l.length) = true:=by simp [h1]
   have hx : x = true:=by rw [HI.out];simp [h0,h1]
   subst hx
   go_enter Tryz.func133,Tryz.ntmps133
   go_upto_region 1 with fail
   (have q0:=H0.out.ob.cell 0 _ rfl;have q1:=H0.out.ob.cell 1 _ rfl;have q2:=H0.out.ob.cell 2 _ rfl;have q3:=H0.out.ob.cell 3 _ rfl;have q4:=H0.out.ob.cell 4 _ rfl;have q5:=H0.out.ob.cell 5 _ rfl;have q6:=H0.out.ob.cell 6 _ rfl;have q7:=H0.out.ob.cell 7 _ rfl)
   go_wp2_with fail
   go_ret
   exact ⟨rfl,H0.out.bel⟩
  ·have d1 : decide (i < c.g.l.length) = false:=by simpa using h1
   have hx : x = false:=by rw [HI.out];simp [h1]
   subst hx
   go_enter Tryz.func133,Tryz.ntmps133
   go_upto_region 1 with fail
   (have q0:=H0.out.ob.cell 0 _ rfl;have q1:=H0.out.ob.cell 1 _ rfl;have q2:=H0.out.ob.cell 2 _ rfl;have q3:=H0.out.ob.cell 3 _ rfl;have q4:=H0.out.ob.cell 4 _ rfl;have q5:=H0.out.ob.cell 5 _ rfl;have q6:=H0.out.ob.cell 6 _ rfl;have q7:=H0.out.ob.cell 7 _ rfl)
   go_wp2_with fail
   go_ret
   exact ⟨rfl,H0.out.bel⟩
 ·have d0 : decide (i ≥ 0) = false:=by simp;omega
  have hx : x = false:=by rw [HI.out];simp [h0]
  subst hx
  go_enter Tryz.func133,Tryz.ntmps133
  go_upto_region 1 with fail
  (have q0:=H0.out.ob.cell 0 _ rfl;have q1:=H0.out.ob.cell 1 _ rfl;have q2:=H0.out.ob.cell 2 _ rfl;have q3:=H0.out.ob.cell 3 _ rfl;have q4:=H0.out.ob.cell 4 _ rfl;have q5:=H0.out.ob.cell 5 _ rfl;have q6:=H0.out.ob.cell 6 _ rfl;have q7:=H0.out.ob.cell 7 _ rfl)
  go_wp2_with fail
  go_ret
  exact ⟨rfl,H0.out.bel⟩
/-- The first of n that is so. -/
def fstV (P : Nat → Bool) (n : Nat) : Int × Bool:=match (List.range n).find? P with
 | some i=>(i,true)
 | none=>(0,false)
theorem fstV_hit {P : Nat → Bool} {n k : Nat} (hk : k < n) (h : ∀ j,j < k → P j = false) (hp : P k = true) : fstV P n = ((k : Int),true):=by
 have : (List.range n).find? P = some k:=by
  rw [List.find?_range_eq_some]
  exact ⟨hp,List.mem_range.2 hk,fun j hj=>by simp [h j hj]⟩
 rw [fstV,this]
theorem fstV_none {P : Nat → Bool} {n : Nat} (h : ∀ j,j < n → P j = false) : fstV P n = (0,false):=by
 have : (List.range n).find? P = none:=by
  rw [List.find?_eq_none];intro x hx;simp [h x (List.mem_range.1 hx)]
 rw [fstV,this]
theorem first1 (f : Nat) (p : Value) (n : Nat) (hn : n ≤ 9223372036854775807) (P : Nat → Bool) (I : Nat → World → Prop) (Q : World → Prop) (w : World) (ENT : ∀ args w,Sem.run Tryz.prog (callFunc f args) w = .ok (.enter f args) w) (hI : I 0 w) (hQ : ∀ i W,I i W → Q W)
  (H : ∀ i : Nat,i < n → ∀ W,I i W → Calls Tryz.prog f #[.int .i64 i,p] W (fun e W'=>e = .returned (.bool (P i)) ∧ (P i = false → I (i + 1) W') ∧ Q W')) :
  Calls Tryz.prog 126 #[.int .i64 n,.func (Fn.func f) #[] #[p]] w (fun e W'=>e = .returned (.tuple #[.int .i64 (fstV P n).1,.bool (fstV P n).2]) ∧ Q W'):=by
 have HE:=Lib.hid ENT
 have HH:=Lib.hid H
 have HQ:=Lib.hid hQ
 have HI:=Lib.hid hI
 clear ENT H hQ hI
 go_enter Tryz.func126,Tryz.ntmps126
 go_upto_region 2 with fail
 go_loopw [8] (fun z wr=>∃ k : Nat,k ≤ n ∧ z = .int .i64 k ∧ I k wr ∧ ∀ j,j < k → P j = false) (fun z _=>n - (intOf z).toNat)
 case atStart=>exact ⟨0,by omega,rfl,HI.out,fun j hj=>by omega⟩
 case round=>
  clear HI
  obtain ⟨k,hk,rfl,hi,hp⟩:=hrel
  have KI:=Lib.hid hi
  have KP:=Lib.hid hp
  clear hi hp
  by_cases hkn : k < n
  ·have d1 : decide ((k : Int) < (n : Int)) = true:=by simp;omega
   have w1 : IntKind.i64.wrap ((k : Int) + 1) = (k : Int) + 1:=by rw [IntKind.wrap_i64];omega
   go_wp2_with fail
   rw [HE.out,Oper.upon_enter]
   refine (HH.out k hkn _ KI.out).mono ?_
   rintro e W2 ⟨rfl,h1,h2⟩
   have N2:=Lib.hid h1
   have Q2:=Lib.hid h2
   clear h1 h2
   cases hpk : P k with
   | false=>
    dsimp only
    go_wp2_with fail
    go_roundw
    case rel=>exact ⟨k + 1,by omega,by go_num,N2.out hpk,fun j hj=>by
     by_cases hjk : j = k
     ·rw [hjk];exact hpk
     ·exact KP.out j (by omega)⟩
    case measure=>simp [intOf];omega
   | true=>
    have hf:=fstV_hit hkn KP.out hpk
    have HF:=Lib.hid hf
    clear hf
    dsimp only
    go_wp2_with fail
    go_ret2
    exact ⟨by rw [HF.out];rfl,Q2.out⟩
  ·have d1 : decide ((k : Int) < (n : Int)) = false:=by simp;omega
   have hf:=fstV_none (n:=n) (P:=P) (fun j hj=>KP.out j (by omega))
   have HF:=Lib.hid hf
   clear hf
   go_wp2_with fail
   go_ret2
   exact ⟨by rw [HF.out];rfl,HQ.out _ _ KI.out⟩
theorem first2 (f : Nat) (p q : Value) (n : Nat) (hn : n ≤ 9223372036854775807) (P : Nat → Bool) (I : Nat → World → Prop) (Q : World → Prop) (w : World) (ENT : ∀ args w,Sem.run Tryz.prog (callFunc f args) w = .ok (.enter f args) w) (hI : I 0 w) (hQ : ∀ i W,I i W → Q W)
  (H : ∀ i : Nat,i < n → ∀ W,I i W → Calls Tryz.prog f #[.int .i64 i,p,q] W (fun e W'=>e = .returned (.bool (P i)) ∧ (P i = false → I (i + 1) W') ∧ Q W')) :
  Calls Tryz.prog 126 #[.int .i64 n,.func (Fn.func f) #[] #[p,q]] w (fun e W'=>e = .returned (.tuple #[.int .i64 (fstV P n).1,.bool (fstV P n).2]) ∧ Q W'):=by
 have HE:=Lib.hid ENT
 have HH:=Lib.hid H
 have HQ:=Lib.hid hQ
 have HI:=Lib.hid hI
 clear ENT H hQ hI
 go_enter Tryz.func126,Tryz.ntmps126
 go_upto_region 2 with fail
 go_loopw [8] (fun z wr=>∃ k : Nat,k ≤ n ∧ z = .int .i64 k ∧ I k wr ∧ ∀ j,j < k → P j = false) (fun z _=>n - (intOf z).toNat)
 case atStart=>exact ⟨0,by omega,rfl,HI.out,fun j hj=>by omega⟩
 case round=>
  clear HI
  obtain ⟨k,hk,rfl,hi,hp⟩:=hrel
  have KI:=Lib.hid hi
  have KP:=Lib.hid hp
  clear hi hp
  by_cases hkn : k < n
  ·have d1 : decide ((k : Int) < (n : Int)) = true:=by simp;omega
   have w1 : IntKind.i64.wrap ((k : Int) + 1) = (k : Int) + 1:=by rw [IntKind.wrap_i64];omega
   go_wp2_with fail
   rw [HE.out,Oper.upon_enter]
   refine (HH.out k hkn _ KI.out).mono ?_
   rintro e W2 ⟨rfl,h1,h2⟩
   have N2:=Lib.hid h1
   have Q2:=Lib.hid h2
   clear h1 h2
   cases hpk : P k with
   | false=>
    dsimp only
    go_wp2_with fail
    go_roundw
    case rel=>exact ⟨k + 1,by omega,by go_num,N2.out hpk,fun j hj=>by
     by_cases hjk : j = k
     ·rw [hjk];exact hpk
     ·exact KP.out j (by omega)⟩
    case measure=>simp [intOf];omega
   | true=>
    have hf:=fstV_hit hkn KP.out hpk
    have HF:=Lib.hid hf
    clear hf
    dsimp only
    go_wp2_with fail
    go_ret2
    exact ⟨by rw [HF.out];rfl,Q2.out⟩
  ·have d1 : decide ((k : Int) < (n : Int)) = false:=by simp;omega
   have hf:=fstV_none (n:=n) (P:=P) (fun j hj=>KP.out j (by omega))
   have HF:=Lib.hid hf
   clear hf
   go_wp2_with fail
   go_ret2
   exact ⟨by rw [HF.out];rfl,HQ.out _ _ KI.out⟩
def sumG (l : List (List Int)) : Int:=(l.map fun r=>r.getD 1 0 + r.getD 2 0).sum
theorem sumG_take (l : List (List Int)) (k : Nat) (hk : k < l.length) : sumG (l.take (k + 1)) = sumG (l.take k) + (l[k].getD 1 0 + l[k].getD 2 0):=by
 rw [List.take_add_one,List.getElem?_eq_getElem hk]
 simp only [sumG,List.map_append,List.sum_append,Option.toList_some,List.map_cons,List.map_nil,List.sum_cons,List.sum_nil,Int.add_zero]
def GRow (r : List Int) : Prop:=1 ≤ r.getD 1 0 ∧ r.getD 1 0 ≤ 8 ∧ 0 ≤ r.getD 2 0 ∧ r.getD 2 0 ≤ 8
theorem sumG_bound : ∀ (l : List (List Int)),(∀ r ∈ l,GRow r) → 0 ≤ sumG l ∧ sumG l ≤ 16 * l.length
 | [],_=>by simp [sumG]
 | r :: l,h=>by
  have h1:=h r (by simp)
  have h2:=sumG_bound l (fun r' hr=>h r' (by simp [hr]))
  unfold GRow at h1
  simp only [sumG,List.map_cons,List.sum_cons,List.length_cons] at h2 ⊢
  omega
theorem sumG_takeb (l : List (List Int)) (h : ∀ r ∈ l,GRow r) (k : Nat) (hk : k ≤ l.length) : 0 ≤ sumG (l.take k) ∧ sumG (l.take k) ≤ 16 * k:=by
 have:=sumG_bound (l.take k) (fun r hr=>h r (List.mem_of_mem_take hr))
 rw [List.length_take] at this
 omega
theorem row3 {l : List (List Int)} {k : Nat} (hk : k < l.length) (h : ∀ r ∈ l,r.length = 3) : ∃ x y z,l[k] = [x,y,z]:=by
 have:=h _ (List.getElem_mem hk)
 match hq : l[k],this with
 | [x,y,z],_=>exact ⟨x,y,z,rfl⟩
theorem row2 {l : List (List Int)} {k : Nat} (hk : k < l.length) (h : ∀ r ∈ l,r.length = 2) : ∃ x y,l[k] = [x,y]:=by
 have:=h _ (List.getElem_mem hk)
 match hq : l[k],this with
 | [x,y],_=>exact ⟨x,y,rfl⟩
theorem SlOk.cells {N : Nat} {s : Sl} {W : World} (h : SlOk W N s) (hN : 0 < N) (k : Nat) (hk : k < s.l.length) : ∃ b o,s.a = some ⟨b,o,none⟩ ∧ ∀ W',Below W.heap.size W W' → ∀ j x,(s.l[k])[j]? = some x → W'.cell? ⟨b,o + k * N + j,none⟩ = some (.int .i64 x):=by
 obtain ⟨b,o,h1,_,h2⟩:=rowN_at h.rd h.len hN k hk
 refine ⟨b,o,h1,fun W' hb j x hx=>?_⟩
 have:=h2 j x hx
 rw [hb.cell (p:=⟨b,o + k * N + j,none⟩) (World.block_lt_of_cell? _ _ this)];exact this
def needV (c : Cv) : Int:=c.n.l.length + sumG c.g.l
structure GOk (c : Cv) : Prop where
 g : c.g.l.length ≤ 4
 n : c.n.l.length ≤ 4
 row : ∀ r ∈ c.g.l,GRow r
theorem need_any (c : Cv) (hg : GOk c) (w : World) (h : CfgOk w c) : Calls Tryz.prog 92 #[(.agg #[.int .i64 c.cats,.slice c.g.a c.g.l.length c.g.cap,.slice c.r.a c.r.l.length c.r.cap,.slice c.p.a c.p.l.length c.p.cap,.slice c.n.a c.n.l.length c.n.cap,.slice c.s.a c.s.l.length c.s.cap,.int .i64 c.gate,.int .i64 c.quota])] w fun e w'=>e = .returned (.int .i64 (needV c)) ∧ Below w.heap.size w w':=by
 have HG:=Lib.hid hg
 have HC:=Lib.hid h
 clear hg
 (have h0:=CX.new h;go_enter Tryz.func92,Tryz.ntmps92;go_upto_region 1 with fail;generalize w.alloc (.cells #[.int .i64 c.cats,.slice c.g.a c.g.l.length c.g.cap,.slice c.r.a c.r.l.length c.r.cap,.slice c.p.a c.p.l.length c.p.cap,.slice c.n.a c.n.l.length c.n.cap,.slice c.s.a c.s.l.length c.s.cap,.int .i64 c.gate,.int .i64 c.quota] 29) = W1 at h0 ⊢;generalize w.heap.size = b0 at h0 ⊢;have H0:=Lib.hid h0;clear h0 h)
 (have q0:=H0.out.ob.cell 0 _ rfl;have q1:=H0.out.ob.cell 1 _ rfl;have q2:=H0.out.ob.cell 2 _ rfl;have q3:=H0.out.ob.cell 3 _ rfl;have q4:=H0.out.ob.cell 4 _ rfl;have q5:=H0.out.ob.cell 5 _ rfl;have q6:=H0.out.ob.cell 6 _ rfl;have q7:=H0.out.ob.cell 7 _ rfl)
 go_upto_region 3 with fail
 clear q0 q1 q2 q3 q4 q5 q6 q7
 go_loopw [3,12] (fun g3 g12 wr=>∃ k : Nat,k ≤ c.g.l.length ∧ g12 = .int .i64 k ∧ g3 = .int .i64 (c.n.l.length + sumG (c.g.l.take k)) ∧ Below W1.heap.size W1 wr) (fun _ g12 _=>c.g.l.length - (intOf g12).toNat)
 case atStart=>exact ⟨0,by omega,rfl,by simp [sumG],Below.refl _ _⟩
 case round=>
  obtain ⟨k,hk,rfl,rfl,hb⟩:=hrel
  have HB:=Lib.hid hb
  obtain ⟨sk,hsk⟩ : ∃ x,x = c.n.l.length + sumG (c.g.l.take k):=⟨_,rfl⟩
  rw [← hsk]
  have HS:=Lib.hid hsk
  by_cases hkl : k < c.g.l.length
  ·have d1 : decide ((k : Int) < (c.g.l.length : Int)) = true:=by simp;omega
   have kz : (0 : Int) ≤ (k : Int):=by omega
   have kl : (k : Int) < (c.g.l.length : Int):=by omega
   have w1 : IntKind.i64.wrap ((k : Int) + 1) = (k : Int) + 1:=by have:=HG.out.g;rw [IntKind.wrap_i64];omega
   obtain ⟨bx,ox,hax,hcx⟩:=HC.out.g.cells (by omega) k hkl
   obtain ⟨x,y,z,hrow⟩:=row3 hkl HC.out.g.len
   have hgr:=HG.out.row _ (List.getElem_mem hkl)
   have hst:=sumG_take c.g.l k hkl
   have hsb:=sumG_takeb c.g.l HG.out.row k (by omega)
   rw [hrow] at hcx hgr hst
   simp only [GRow,List.getD_cons_succ,List.getD_cons_zero] at hgr hst
   have HST:=Lib.hid hst
   have hb2:=H0.out.bel.trans (HB.out.mono H0.out.bel.size)
   have c0:=hcx _ hb2 0 _ rfl;have c1:=hcx _ hb2 1 _ rfl;have c2:=hcx _ hb2 2 _ rfl
   simp only [Nat.add_zero] at c0
   have hgl:=HG.out.g;have hnl:=HG.out.n
   have w2 : IntKind.i64.wrap (y + z) = y + z:=by rw [IntKind.wrap_i64];omega
   have w3 : IntKind.i64.wrap (sk + (y + z)) = sk + (y + z):=by rw [IntKind.wrap_i64];omega
   have HAX:=Lib.hid hax
   rw [hax]
   clear hb hb2 hcx hrow hgr hst hsb hsk hgl hnl hax
   go_wp2_with fail
   go_roundw
   case rel=>exact ⟨k + 1,by omega,by go_num,by rw [HST.out,HS.out];congr 1;omega,HB.out.alloc HB.out.size _⟩
   case measure=>simp [intOf];omega
  ·have d1 : decide ((k : Int) < (c.g.l.length : Int)) = false:=by simp;omega
   go_wp2_with fail
   go_ret
   have hkk : k = c.g.l.length:=by omega
   refine ⟨?_,H0.out.bel.trans (HB.out.mono H0.out.bel.size)⟩
   rw [HS.out,hkk,List.take_length];rfl
end Go.Proofs.YtoklonmiejdgmaaGreatDoor
/- Package plan: names, ranks, letters, lines, numbers. -/
namespace Go.Proofs.YtoklonmiejdgmaaGreatDoor
set_option linter.unusedVariables false
set_option linter.unusedSimpArgs false
set_option linter.unnecessarySimpa false
open Go.RowKit Go.Sort
set_option maxHeartbeats 2000000
set_option maxRecDepth 100000
set_option linter.unusedVariables false
def rkNames : List (List UInt8):=[[99,97,116,115],[103,117,101,115,116],[114,97,110,103,101],[112,111,114,116],[114,105,110,103],[115,108,111,116],[103,97,116,101]]
def rkName (k : Nat) : List UInt8:=rkNames.getD k []
theorem name_0 (w : World) : Calls Tryz.prog 110 #[.int .i64 0] w fun e w'=>e = .returned (.string (ba (rkName 0))) ∧ w = w':=by
 go_enter Tryz.func110,Tryz.ntmps110
 go_wp2
 go_ret
 exact ⟨rfl,rfl⟩
theorem name_1 (w : World) : Calls Tryz.prog 110 #[.int .i64 1] w fun e w'=>e = .returned (.string (ba (rkName 1))) ∧ w = w':=by
 go_enter Tryz.func110,Tryz.ntmps110
 go_wp2
 go_ret
 exact ⟨rfl,rfl⟩
theorem name_2 (w : World) : Calls Tryz.prog 110 #[.int .i64 2] w fun e w'=>e = .returned (.string (ba (rkName 2))) ∧ w = w':=by
 go_enter Tryz.func110,Tryz.ntmps110
 go_wp2
 go_ret
 exact ⟨rfl,rfl⟩
theorem name_3 (w : World) : Calls Tryz.prog 110 #[.int .i64 3] w fun e w'=>e = .returned (.string (ba (rkName 3))) ∧ w = w':=by
 go_enter Tryz.func110,Tryz.ntmps110
 go_wp2
 go_ret
 exact ⟨rfl,rfl⟩
theorem name_4 (w : World) : Calls Tryz.prog 110 #[.int .i64 4] w fun e w'=>e = .returned (.string (ba (rkName 4))) ∧ w = w':=by
 go_enter Tryz.func110,Tryz.ntmps110
 go_wp2
 go_ret
 exact ⟨rfl,rfl⟩
theorem name_5 (w : World) : Calls Tryz.prog 110 #[.int .i64 5] w fun e w'=>e = .returned (.string (ba (rkName 5))) ∧ w = w':=by
 go_enter Tryz.func110,Tryz.ntmps110
 go_wp2
 go_ret
 exact ⟨rfl,rfl⟩
theorem name_6 (w : World) : Calls Tryz.prog 110 #[.int .i64 6] w fun e w'=>e = .returned (.string (ba (rkName 6))) ∧ w = w':=by
 go_enter Tryz.func110,Tryz.ntmps110
 go_wp2
 go_ret
 exact ⟨rfl,rfl⟩
theorem pname_any (k : Nat) (h : k < 7) (w : World) : Calls Tryz.prog 110 #[.int .i64 k] w fun e w'=>e = .returned (.string (ba (rkName k))) ∧ w = w':=by
 rcases (by omega : k = 0 ∨ k = 1 ∨ k = 2 ∨ k = 3 ∨ k = 4 ∨ k = 5 ∨ k = 6) with rfl | rfl | rfl | rfl | rfl | rfl | rfl
 ·exact name_0 w
 ·exact name_1 w
 ·exact name_2 w
 ·exact name_3 w
 ·exact name_4 w
 ·exact name_5 w
 ·exact name_6 w
/-- The rank of a first word; 7: none has it. -/
def rankV (s : List UInt8) : Nat:=match (List.range 7).find? (fun k=>decide (rkName k = s)) with
 | some k=>k
 | none=>7
theorem rankV_le (s : List UInt8) : rankV s ≤ 7:=by
 unfold rankV
 split
 ·rename_i i h
  have:=List.mem_range.1 (List.mem_of_find?_eq_some h);omega
 ·omega
theorem rankV_hit {s : List UInt8} {k : Nat} (hk : k < 7) (h : rkName k = s) (hn : ∀ j,j < k → rkName j ≠ s) : rankV s = k:=by
 have : (List.range 7).find? (fun k=>decide (rkName k = s)) = some k:=by
  rw [List.find?_range_eq_some]
  exact ⟨by simp [h],List.mem_range.2 hk,fun j hj=>by simpa using hn j hj⟩
 rw [rankV,this]
theorem rankV_none {s : List UInt8} (hn : ∀ j,j < 7 → rkName j ≠ s) : rankV s = 7:=by
 have : (List.range 7).find? (fun k=>decide (rkName k = s)) = none:=by
  rw [List.find?_eq_none]
  intro j hj
  simpa using hn j (List.mem_range.1 hj)
 rw [rankV,this]
theorem bs_beq (a : List UInt8) (s : ByteArray) : ((ba a).toList == s.toList) = decide (a = s.data.toList):=by
 rw [ByteArray.toList_eq,ByteArray.toList_eq,ba_data]
 by_cases h : a = s.data.toList <;> simp [h]
theorem rankOf_any (s : ByteArray) (w : World) : Calls Tryz.prog 80 #[.string s] w fun e w'=>e = .returned (.tuple #[.int .i64 (if rankV s.data.toList < 7 then rankV s.data.toList else 0 : Nat),.bool (decide (rankV s.data.toList < 7))]) ∧ w = w':=by
 obtain ⟨x,hx⟩ : ∃ x,x = rankV s.data.toList:=⟨_,rfl⟩
 rw [← hx]
 have HX:=Lib.hid hx
 clear hx
 go_enter Tryz.func80,Tryz.ntmps80
 go_wp2
 go_loop [5] (fun i=>∃ k : Nat,k ≤ 7 ∧ i = .int .i64 k ∧ ∀ j,j < k → rkName j ≠ s.data.toList) (fun i=>7 - (intOf i).toNat)
 case atStart=>exact ⟨0,by omega,rfl,fun j hj=>by omega⟩
 case round=>
  obtain ⟨k,hk,rfl,hn⟩:=hrel
  have HN:=Lib.hid hn
  clear hn
  by_cases hlt : k < 7
  ·have d1 : decide ((k : Int) < 7) = true:=decide_eq_true (by omega)
   have d1' : decide (k < 7) = true:=decide_eq_true hlt
   have w1 : IntKind.i64.wrap ((k : Int) + 1) = (k : Int) + 1:=by rw [IntKind.wrap_i64];omega
   have NAM : Hid (∀ w,Calls Tryz.prog 110 #[.int .i64 k] w fun e w'=>e = .returned (.string (ba (rkName k))) ∧ w = w'):=fun w=>pname_any k hlt w
   have hbq:=bs_beq (rkName k) s
   by_cases he : rkName k = s.data.toList
   ·have hx : x = k:=by rw [HX.out];exact rankV_hit hlt he HN.out
    have de : ((ba (rkName k)).toList == s.toList) = true:=by rw [hbq,decide_eq_true he]
    subst hx
    clear he hbq
    go_wp2_with (go_at_call 110;refine (NAM.out _).mono ?_;rintro e w1 ⟨rfl,rfl⟩)
    go_ret2
    exact ⟨rfl,rfl⟩
   ·have de : ((ba (rkName k)).toList == s.toList) = false:=by rw [hbq,decide_eq_false he]
    have HN2 : Hid (∀ j,j < k + 1 → rkName j ≠ s.data.toList):=fun j hj=>by
     by_cases e : j = k
     ·subst e;exact he
     ·exact HN.out j (by omega)
    clear he hbq
    go_wp2_with (go_at_call 110;refine (NAM.out _).mono ?_;rintro e w1 ⟨rfl,rfl⟩)
    go_round
    case rel=>exact ⟨k + 1,by omega,by go_num,HN2.out⟩
    case measure=>simp [intOf];omega
  ·have d1 : decide ((k : Int) < 7) = false:=decide_eq_false (by omega)
   have d1' : decide (k < 7) = false:=decide_eq_false hlt
   have hx : x = 7:=by rw [HX.out];exact rankV_none (fun j hj=>HN.out j (by omega))
   subst hx
   go_wp2
   go_ret2
   exact ⟨rfl,rfl⟩
theorem letters_str (l : Int) (w : World) : Calls Tryz.prog 66 #[.int .i64 l] w fun e w'=>e = .returned (.string (lbS l)) ∧ Below w.heap.size w w':=by
 go_enter Tryz.func66,Tryz.ntmps66
 go_wp2_with (go_at_call 111;refine (ltext_any _ _).mono ?_;rintro e w1 ⟨rfl,hb1⟩)
 go_ret
 exact ⟨rfl,hb1⟩
/-- Words as numbers. -/
def nmsB (l : List (List UInt8)) : Bool:=l.all numB
def nmsL (l : List (List UInt8)) : List Int:=l.map fun x=>((numI x : Nat) : Int)
def zC (l : List Int) : List Value:=l.map fun (x : Int)=>Value.int .i64 x
theorem zC_snoc (l : List Int) (x : Int) : zC (l ++ [x]) = zC l ++ [.int .i64 x]:=by simp [zC]
theorem zC_get (l : List Int) (k : Nat) (h : k < l.length) : (zC l)[k]? = some (.int .i64 l[k]):=by simp [zC,h]
theorem info_in : (Tryz.prog.info? 3).map (fun i=>(i.zero,i.size,i.bytes)) = some (some (.int .i64 0),1,8):=by kernel_rfl
theorem nmsB_bad {l : List (List UInt8)} {k : Nat} (h : k < l.length) (hb : numB l[k] = false) : nmsB l = false:=by
 unfold nmsB;rw [List.all_eq_false]
 exact ⟨l[k],List.getElem_mem h,by simp [hb]⟩
theorem nmsB_all {l : List (List UInt8)} (h : ∀ k (hk : k < l.length),numB l[k] = true) : nmsB l = true:=by
 unfold nmsB;rw [List.all_eq_true]
 intro x hx
 obtain ⟨k,hk,rfl⟩:=List.mem_iff_getElem.1 hx
 exact h k hk
/-- What numbers hands back. -/
def NmPost (l : List (List UInt8)) (w : World) (e : Ending) (w' : World) : Prop:=
 (nmsB l = true → ∃ a cap,e = .returned (.tuple #[.slice a l.length cap,.bool true]) ∧ Own w' w.heap.size 3 1 a l.length cap (zC (nmsL l))) ∧ (nmsB l = false → e = .returned (.tuple #[.slice none 0 0,.bool false])) ∧ Below w.heap.size w w'
theorem numbers_any (a : Option Addr) (cap : Nat) (l : List (List UInt8)) (hsm : ∀ x ∈ l,x.length ≤ 100000000) (hl : l.length ≤ 1000000000) (w : World) (h : Rd w 1 a l.length (strC l)) : Calls Tryz.prog 125 #[.slice a l.length cap] w (NmPost l w):=by
 obtain ⟨ii,hii,hzi,hzi1,hzi2⟩:=info_parts info_in
 have HGET : Hid (∀ k,(hk : k < l.length) → ∃ g o,a = some ⟨g,o,none⟩ ∧ g < w.heap.size ∧ w.cell? ⟨g,o + k,none⟩ = some (.string (ba l[k]))):=fun k hk=>by
  have ha : a ≠ none:=fun h0=>by have:=h.2.1 h0;omega
  obtain ⟨p,rfl⟩:=Option.ne_none_iff_exists'.1 ha
  obtain ⟨b,o,rfl,hb,hc⟩:=h.2.2 p rfl (fun h0=>by have:=strC_len l;rw [h0] at this;simp at this;omega)
  exact ⟨b,o,rfl,hb,hc k _ (strC_get l k hk)⟩
 have HBAD : Hid (∀ w',nmsB l = false → Below w.heap.size w w' → NmPost l w (.returned (.tuple #[.slice none 0 0,.bool false])) w'):=fun w' h1 h2=>⟨fun h=>(by rw [h1] at h;cases h),fun _=>rfl,h2⟩
 have HGOOD : Hid (∀ w' a' c',nmsB l = true → Own w' w.heap.size 3 1 a' l.length c' (zC (nmsL l)) → Below w.heap.size w w' → NmPost l w (.returned (.tuple #[.slice a' l.length c',.bool true])) w'):=fun w' a' c' h1 h2 h3=>⟨fun _=>⟨a',c',rfl,h2⟩,fun h=>(by rw [h1] at h;cases h),h3⟩
 have HSM:=Lib.hid hsm
 have HO0 : Hid (Own w w.heap.size 3 1 none 0 0 (zC (nmsL (l.take 0)))):=Own.nil _ _ _ _
 clear h hsm
 go_enter Tryz.func125,Tryz.ntmps125
 go_wp2
 go_loopw [4,11] (fun o i wr=>∃ (k : Nat) (ao : Option Addr) (co : Nat),k ≤ l.length ∧ i = .int .i64 k ∧ o = .slice ao k co ∧ Own wr w.heap.size 3 1 ao k co (zC (nmsL (l.take k))) ∧ Below w.heap.size w wr ∧ ∀ j (hj : j < l.length),j < k → numB l[j] = true) (fun _ i _=>l.length - (intOf i).toNat)
 case atStart=>exact ⟨0,none,0,by omega,rfl,rfl,HO0.out,Below.refl _ _,fun j _ hj=>by omega⟩
 case round=>
  clear HO0
  obtain ⟨k,ao,co,hk,rfl,rfl,ho,hbe,hn⟩:=hrel
  have HO:=Lib.hid ho
  have HB:=Lib.hid hbe
  have HN:=Lib.hid hn
  have hsz:=hbe.size
  clear ho hbe hn
  by_cases hlt : k < l.length
  ·obtain ⟨g,o,ha,hg,hc⟩:=HGET.out k hlt
   obtain ⟨x,hx⟩ : ∃ x,Hid (x = l[k]):=⟨_,Lib.hid rfl⟩
   have hcr : wr.cell? ⟨g,o + k,none⟩ = some (.string (ba x)):=by rw [HB.out.cell (p:=⟨g,o + k,none⟩) hg,hc,hx.out]
   have hxl : x.length ≤ 100000000:=by rw [hx.out];exact HSM.out _ (List.getElem_mem hlt)
   have HNUM:=fun W=>Lib.hid (number_any (ba x) (by rw [ba_size];unfold maxLen;omega) W)
   rw [ba_data] at HNUM
   subst ha
   clear hc
   cases hb : numB x
   ·have HBD:=Lib.hid (nmsB_bad hlt (by rw [← hx.out];exact hb))
    rw [hb] at HNUM
    clear hb
    go_wp2_with (go_at_call 142;refine ((HNUM _).out).mono ?_;rintro e w1 ⟨rfl,hb1⟩)
    go_ret2
    exact HBAD.out _ HBD.out (bmore HB.out hb1)
   ·have HN2 : Hid (∀ j (hj : j < l.length),j < k + 1 → numB l[j] = true):=fun j hj hjk=>by
     by_cases e : j = k
     ·subst e;rw [← hx.out];exact hb
     ·exact HN.out j hj (by omega)
    rw [hb] at HNUM
    have HV : Hid (zC (nmsL (l.take (k + 1))) = zC (nmsL (l.take k)) ++ [.int .i64 (numI x : Nat)]):=by
     rw [Hid,List.take_succ_eq_append_getElem hlt,nmsL,List.map_append,List.map_cons,List.map_nil,zC_snoc,hx.out];rfl
    have hlx:=numI_lt x
    clear hb
    generalize numI x = v at HNUM HV hlx
    go_wp2_with fail
    refine ((HNUM _).out).mono ?_;rintro e w3 ⟨rfl,hb3⟩
    have HB3:=Lib.hid (bmore HB.out hb3)
    have HO3:=Lib.hid (HO.out.below hb3)
    have hs3:=HB3.out.size
    clear hb3
    go_wp2_with (at_builtin;(refine wpList_own rfl (.tmp 22) (.tmp 24) 171 rfl w.heap.size 3 ii _ 1 8 Tryz.underlying171 hii hzi hzi1 hzi2 rfl (by omega) ao k co (zC (nmsL (l.take k))) rfl (HO3.out.below ((Below.refl _ _).alloc (Nat.le_refl _) _)) w3.heap.size [.int .i64 (v : Nat)] rfl (new_block _ _ _ rfl) rfl (by simp [Value.oneCell']) (by simp only [maxLen];omega) (by omega) (by simp;omega) ?_);intro g' c' w4 hown1 hmod1 _;have HO4:=Lib.hid hown1;have HM : Hid (Mod (blk ao) w3 w4):=((Mod.ofBelow ((Below.refl w3.heap.size w3).alloc (Nat.le_refl _) _)).trans hmod1);clear hown1 hmod1)
    have HO5 : Hid (Own w4 w.heap.size 3 1 (some ⟨g',0,none⟩) (k + 1) c' (zC (nmsL (l.take (k + 1))))):=by rw [HV.out];exact HO4.out
    have HB4 : Hid (Below w.heap.size w w4):=HB3.out.trans (HM.out.below (fun j hj=>(HO3.out.ge j hj).1) hs3)
    go_roundw
    case rel=>exact ⟨k + 1,some ⟨g',0,none⟩,c',by omega,by go_num,by go_num,HO5.out,HB4.out,HN2.out⟩
    case measure=>simp [intOf];omega
  ·obtain rfl : k = l.length:=by omega
   rw [List.take_length] at HO
   have HT:=Lib.hid (nmsB_all (fun j hj=>HN.out j hj hj))
   have HFIN:=Lib.hid (HGOOD.out wr ao co HT.out HO.out HB.out)
   go_wp2_with fail
   go_ret2
   exact HFIN.out
end Go.Proofs.YtoklonmiejdgmaaGreatDoor
/- Package plan: the reader's state. -/
namespace Go.Proofs.YtoklonmiejdgmaaGreatDoor
set_option linter.unusedVariables false
set_option linter.unusedSimpArgs false
set_option linter.unnecessarySimpa false
open Go.RowKit Go.Sort
set_option maxHeartbeats 2000000
set_option maxRecDepth 100000
set_option linter.unusedVariables false
/-- A configuration, plain. -/
structure Pc where
 cats : Int
 g : List (List Int)
 r : List (List Int)
 p : List (List Int)
 n : List (List Int)
 s : List (List Int)
 gate : Int
 quota : Int
def pcOf (c : Cv) : Pc:=⟨c.cats,c.g.l,c.r.l,c.p.l,c.n.l,c.s.l,c.gate,c.quota⟩
/-- The reader at work. -/
structure RD (w : World) (rb : Nat) (c : Cv) (last : Int) (W : World) : Prop where
 bel : Below w.heap.size w W
 new : w.heap.size ≤ rb
 ob : ObjAt W rb 106 [.int .i64 c.cats,.slice c.g.a c.g.l.length c.g.cap,.slice c.r.a c.r.l.length c.r.cap,.slice c.p.a c.p.l.length c.p.cap,.slice c.n.a c.n.l.length c.n.cap,.slice c.s.a c.s.l.length c.s.cap,.int .i64 c.gate,.int .i64 c.quota,.int .i64 last]
 g : Own W w.heap.size 130 3 c.g.a c.g.l.length c.g.cap (iF c.g.l)
 r : Own W w.heap.size 132 3 c.r.a c.r.l.length c.r.cap (iF c.r.l)
 p : Own W w.heap.size 134 2 c.p.a c.p.l.length c.p.cap (iF c.p.l)
 n : Own W w.heap.size 137 2 c.n.a c.n.l.length c.n.cap (iF c.n.l)
 s : Own W w.heap.size 139 2 c.s.a c.s.l.length c.s.cap (iF c.s.l)
 lg : ∀ x ∈ c.g.l,x.length = 3
 lr : ∀ x ∈ c.r.l,x.length = 3
 lp : ∀ x ∈ c.p.l,x.length = 2
 ln : ∀ x ∈ c.n.l,x.length = 2
 ls : ∀ x ∈ c.s.l,x.length = 2
theorem RD.more {w : World} {rb : Nat} {c : Cv} {last : Int} {W W' : World} (h : RD w rb c last W) (hb : Below W.heap.size W W') : RD w rb c last W':=
 ⟨bmore h.bel hb,h.new,h.ob.below hb,h.g.below hb,h.r.below hb,h.p.below hb,h.n.below hb,h.s.below hb,h.lg,h.lr,h.lp,h.ln,h.ls⟩
theorem RD.cfg {w : World} {rb : Nat} {c : Cv} {last : Int} {W : World} (h : RD w rb c last W) : CfgOk W c:=
 ⟨⟨h.g.rd,h.g.le,h.g.capMax,h.lg⟩,⟨h.r.rd,h.r.le,h.r.capMax,h.lr⟩,⟨h.p.rd,h.p.le,h.p.capMax,h.lp⟩,⟨h.n.rd,h.n.le,h.n.capMax,h.ln⟩,⟨h.s.rd,h.s.le,h.s.capMax,h.ls⟩⟩
theorem iF_snoc (l : List (List Int)) (x : List Int) : iF (l ++ [x]) = iF l ++ ivs x:=by simp [iF]
theorem RD.put {w : World} {rb : Nat} {c : Cv} {last : Int} {W : World} (h : RD w rb c last W) (j : Nat) (v : Value) : Below w.heap.size w (W.setCell ⟨rb,j,none⟩ v):=h.bel.trans ((Upd.setCell W ⟨rb,j,none⟩ v).below h.new h.bel.size)
/-- Fields that are numbers. -/
theorem RD.setLast {w : World} {rb : Nat} {c : Cv} {last : Int} {W : World} (h : RD w rb c last W) (x : Int) : RD w rb c x (W.setCell ⟨rb,8,none⟩ (.int .i64 x)):=by
 have hu:=Upd.setCell W ⟨rb,8,none⟩ (.int .i64 x)
 exact ⟨h.put 8 _,h.new,h.ob.set 8 _,h.g.upd hu (h.g.ne h.ob (by decide)),h.r.upd hu (h.r.ne h.ob (by decide)),h.p.upd hu (h.p.ne h.ob (by decide)),h.n.upd hu (h.n.ne h.ob (by decide)),h.s.upd hu (h.s.ne h.ob (by decide)),h.lg,h.lr,h.lp,h.ln,h.ls⟩
theorem RD.setCats {w : World} {rb : Nat} {c : Cv} {last : Int} {W : World} (h : RD w rb c last W) (x : Int) : RD w rb { c with cats:=x } last (W.setCell ⟨rb,0,none⟩ (.int .i64 x)):=by
 have hu:=Upd.setCell W ⟨rb,0,none⟩ (.int .i64 x)
 exact ⟨h.put 0 _,h.new,h.ob.set 0 _,h.g.upd hu (h.g.ne h.ob (by decide)),h.r.upd hu (h.r.ne h.ob (by decide)),h.p.upd hu (h.p.ne h.ob (by decide)),h.n.upd hu (h.n.ne h.ob (by decide)),h.s.upd hu (h.s.ne h.ob (by decide)),h.lg,h.lr,h.lp,h.ln,h.ls⟩
theorem RD.setGate {w : World} {rb : Nat} {c : Cv} {last : Int} {W : World} (h : RD w rb c last W) (x y : Int) : RD w rb { c with gate:=x,quota:=y } last ((W.setCell ⟨rb,6,none⟩ (.int .i64 x)).setCell ⟨rb,7,none⟩ (.int .i64 y)):=by
 have hu:=(Upd.setCell W ⟨rb,6,none⟩ (.int .i64 x)).trans (Upd.setCell _ ⟨rb,7,none⟩ (.int .i64 y))
 exact ⟨h.bel.trans (hu.below h.new h.bel.size),h.new,(h.ob.set 6 _).set 7 _,h.g.upd hu (h.g.ne h.ob (by decide)),h.r.upd hu (h.r.ne h.ob (by decide)),h.p.upd hu (h.p.ne h.ob (by decide)),h.n.upd hu (h.n.ne h.ob (by decide)),h.s.upd hu (h.s.ne h.ob (by decide)),h.lg,h.lr,h.lp,h.ln,h.ls⟩
theorem RD.addG {w : World} {rb : Nat} {c : Cv} {last : Int} {W W1 W2 : World} (h : RD w rb c last W) (hW : Below W.heap.size W W1) {g' c' : Nat} {row : List Int} (ho : Own W2 w.heap.size 130 3 (some ⟨g',0,none⟩) (c.g.l.length + 1) c' (iF c.g.l ++ ivs row)) (hm : Mod (blk c.g.a) W1 W2) (hrow : row.length = 3) :
  RD w rb { c with g:=⟨some ⟨g',0,none⟩,c',c.g.l ++ [row]⟩ } last (W2.setCell ⟨rb,1,none⟩ (.slice (some ⟨g',0,none⟩) (c.g.l.length + 1) c')):=by
 have h1:=h.more hW
 have hu:=Upd.setCell W2 ⟨rb,1,none⟩ (.slice (some ⟨g',0,none⟩) (c.g.l.length + 1) c')
 have hob:=h1.ob.mod hm (h1.g.ne h1.ob (by decide))
 have hb2 : Below w.heap.size w W2:=h1.bel.trans (hm.below (fun k hk=>(h1.g.ge k hk).1) h1.bel.size)
 have hl : (c.g.l ++ [row]).length = c.g.l.length + 1:=by simp
 have ho2:=ho.upd hu (ho.ne hob (by decide))
 have hrows : ∀ x ∈ c.g.l ++ [row],x.length = 3:=fun x hx=>by
  rcases List.mem_append.1 hx with hx | hx
  ·exact h.lg x hx
  ·rw [List.mem_singleton.1 hx];exact hrow
 refine ⟨hb2.trans (hu.below h.new hb2.size),h.new,?_,?_,((h1.r.mod hm (h1.r.apart h1.g (by decide))).upd hu ((h1.r.mod hm (h1.r.apart h1.g (by decide))).ne hob (by decide))),((h1.p.mod hm (h1.p.apart h1.g (by decide))).upd hu ((h1.p.mod hm (h1.p.apart h1.g (by decide))).ne hob (by decide))),((h1.n.mod hm (h1.n.apart h1.g (by decide))).upd hu ((h1.n.mod hm (h1.n.apart h1.g (by decide))).ne hob (by decide))),((h1.s.mod hm (h1.s.apart h1.g (by decide))).upd hu ((h1.s.mod hm (h1.s.apart h1.g (by decide))).ne hob (by decide))),hrows,h.lr,h.lp,h.ln,h.ls⟩
 ·have:=hob.set 1 (.slice (some ⟨g',0,none⟩) (c.g.l.length + 1) c')
  rw [hl];exact this
 ·rw [hl,iF_snoc];exact ho2
theorem RD.addR {w : World} {rb : Nat} {c : Cv} {last : Int} {W W1 W2 : World} (h : RD w rb c last W) (hW : Below W.heap.size W W1) {g' c' : Nat} {row : List Int} (ho : Own W2 w.heap.size 132 3 (some ⟨g',0,none⟩) (c.r.l.length + 1) c' (iF c.r.l ++ ivs row)) (hm : Mod (blk c.r.a) W1 W2) (hrow : row.length = 3) :
  RD w rb { c with r:=⟨some ⟨g',0,none⟩,c',c.r.l ++ [row]⟩ } last (W2.setCell ⟨rb,2,none⟩ (.slice (some ⟨g',0,none⟩) (c.r.l.length + 1) c')):=by
 have h1:=h.more hW
 have hu:=Upd.setCell W2 ⟨rb,2,none⟩ (.slice (some ⟨g',0,none⟩) (c.r.l.length + 1) c')
 have hob:=h1.ob.mod hm (h1.r.ne h1.ob (by decide))
 have hb2 : Below w.heap.size w W2:=h1.bel.trans (hm.below (fun k hk=>(h1.r.ge k hk).1) h1.bel.size)
 have hl : (c.r.l ++ [row]).length = c.r.l.length + 1:=by simp
 have ho2:=ho.upd hu (ho.ne hob (by decide))
 have hrows : ∀ x ∈ c.r.l ++ [row],x.length = 3:=fun x hx=>by
  rcases List.mem_append.1 hx with hx | hx
  ·exact h.lr x hx
  ·rw [List.mem_singleton.1 hx];exact hrow
 refine ⟨hb2.trans (hu.below h.new hb2.size),h.new,?_,((h1.g.mod hm (h1.g.apart h1.r (by decide))).upd hu ((h1.g.mod hm (h1.g.apart h1.r (by decide))).ne hob (by decide))),?_,((h1.p.mod hm (h1.p.apart h1.r (by decide))).upd hu ((h1.p.mod hm (h1.p.apart h1.r (by decide))).ne hob (by decide))),((h1.n.mod hm (h1.n.apart h1.r (by decide))).upd hu ((h1.n.mod hm (h1.n.apart h1.r (by decide))).ne hob (by decide))),((h1.s.mod hm (h1.s.apart h1.r (by decide))).upd hu ((h1.s.mod hm (h1.s.apart h1.r (by decide))).ne hob (by decide))),h.lg,hrows,h.lp,h.ln,h.ls⟩
 ·have:=hob.set 2 (.slice (some ⟨g',0,none⟩) (c.r.l.length + 1) c')
  rw [hl];exact this
 ·rw [hl,iF_snoc];exact ho2
theorem RD.addP {w : World} {rb : Nat} {c : Cv} {last : Int} {W W1 W2 : World} (h : RD w rb c last W) (hW : Below W.heap.size W W1) {g' c' : Nat} {row : List Int} (ho : Own W2 w.heap.size 134 2 (some ⟨g',0,none⟩) (c.p.l.length + 1) c' (iF c.p.l ++ ivs row)) (hm : Mod (blk c.p.a) W1 W2) (hrow : row.length = 2) :
  RD w rb { c with p:=⟨some ⟨g',0,none⟩,c',c.p.l ++ [row]⟩ } last (W2.setCell ⟨rb,3,none⟩ (.slice (some ⟨g',0,none⟩) (c.p.l.length + 1) c')):=by
 have h1:=h.more hW
 have hu:=Upd.setCell W2 ⟨rb,3,none⟩ (.slice (some ⟨g',0,none⟩) (c.p.l.length + 1) c')
 have hob:=h1.ob.mod hm (h1.p.ne h1.ob (by decide))
 have hb2 : Below w.heap.size w W2:=h1.bel.trans (hm.below (fun k hk=>(h1.p.ge k hk).1) h1.bel.size)
 have hl : (c.p.l ++ [row]).length = c.p.l.length + 1:=by simp
 have ho2:=ho.upd hu (ho.ne hob (by decide))
 have hrows : ∀ x ∈ c.p.l ++ [row],x.length = 2:=fun x hx=>by
  rcases List.mem_append.1 hx with hx | hx
  ·exact h.lp x hx
  ·rw [List.mem_singleton.1 hx];exact hrow
 refine ⟨hb2.trans (hu.below h.new hb2.size),h.new,?_,((h1.g.mod hm (h1.g.apart h1.p (by decide))).upd hu ((h1.g.mod hm (h1.g.apart h1.p (by decide))).ne hob (by decide))),((h1.r.mod hm (h1.r.apart h1.p (by decide))).upd hu ((h1.r.mod hm (h1.r.apart h1.p (by decide))).ne hob (by decide))),?_,((h1.n.mod hm (h1.n.apart h1.p (by decide))).upd hu ((h1.n.mod hm (h1.n.apart h1.p (by decide))).ne hob (by decide))),((h1.s.mod hm (h1.s.apart h1.p (by decide))).upd hu ((h1.s.mod hm (h1.s.apart h1.p (by decide))).ne hob (by decide))),h.lg,h.lr,hrows,h.ln,h.ls⟩
 ·have:=hob.set 3 (.slice (some ⟨g',0,none⟩) (c.p.l.length + 1) c')
  rw [hl];exact this
 ·rw [hl,iF_snoc];exact ho2
theorem RD.addN {w : World} {rb : Nat} {c : Cv} {last : Int} {W W1 W2 : World} (h : RD w rb c last W) (hW : Below W.heap.size W W1) {g' c' : Nat} {row : List Int} (ho : Own W2 w.heap.size 137 2 (some ⟨g',0,none⟩) (c.n.l.length + 1) c' (iF c.n.l ++ ivs row)) (hm : Mod (blk c.n.a) W1 W2) (hrow : row.length = 2) :
  RD w rb { c with n:=⟨some ⟨g',0,none⟩,c',c.n.l ++ [row]⟩ } last (W2.setCell ⟨rb,4,none⟩ (.slice (some ⟨g',0,none⟩) (c.n.l.length + 1) c')):=by
 have h1:=h.more hW
 have hu:=Upd.setCell W2 ⟨rb,4,none⟩ (.slice (some ⟨g',0,none⟩) (c.n.l.length + 1) c')
 have hob:=h1.ob.mod hm (h1.n.ne h1.ob (by decide))
 have hb2 : Below w.heap.size w W2:=h1.bel.trans (hm.below (fun k hk=>(h1.n.ge k hk).1) h1.bel.size)
 have hl : (c.n.l ++ [row]).length = c.n.l.length + 1:=by simp
 have ho2:=ho.upd hu (ho.ne hob (by decide))
 have hrows : ∀ x ∈ c.n.l ++ [row],x.length = 2:=fun x hx=>by
  rcases List.mem_append.1 hx with hx | hx
  ·exact h.ln x hx
  ·rw [List.mem_singleton.1 hx];exact hrow
 refine ⟨hb2.trans (hu.below h.new hb2.size),h.new,?_,((h1.g.mod hm (h1.g.apart h1.n (by decide))).upd hu ((h1.g.mod hm (h1.g.apart h1.n (by decide))).ne hob (by decide))),((h1.r.mod hm (h1.r.apart h1.n (by decide))).upd hu ((h1.r.mod hm (h1.r.apart h1.n (by decide))).ne hob (by decide))),((h1.p.mod hm (h1.p.apart h1.n (by decide))).upd hu ((h1.p.mod hm (h1.p.apart h1.n (by decide))).ne hob (by decide))),?_,((h1.s.mod hm (h1.s.apart h1.n (by decide))).upd hu ((h1.s.mod hm (h1.s.apart h1.n (by decide))).ne hob (by decide))),h.lg,h.lr,h.lp,hrows,h.ls⟩
 ·have:=hob.set 4 (.slice (some ⟨g',0,none⟩) (c.n.l.length + 1) c')
  rw [hl];exact this
 ·rw [hl,iF_snoc];exact ho2
theorem RD.addS {w : World} {rb : Nat} {c : Cv} {last : Int} {W W1 W2 : World} (h : RD w rb c last W) (hW : Below W.heap.size W W1) {g' c' : Nat} {row : List Int} (ho : Own W2 w.heap.size 139 2 (some ⟨g',0,none⟩) (c.s.l.length + 1) c' (iF c.s.l ++ ivs row)) (hm : Mod (blk c.s.a) W1 W2) (hrow : row.length = 2) :
  RD w rb { c with s:=⟨some ⟨g',0,none⟩,c',c.s.l ++ [row]⟩ } last (W2.setCell ⟨rb,5,none⟩ (.slice (some ⟨g',0,none⟩) (c.s.l.length + 1) c')):=by
 have h1:=h.more hW
 have hu:=Upd.setCell W2 ⟨rb,5,none⟩ (.slice (some ⟨g',0,none⟩) (c.s.l.length + 1) c')
 have hob:=h1.ob.mod hm (h1.s.ne h1.ob (by decide))
 have hb2 : Below w.heap.size w W2:=h1.bel.trans (hm.below (fun k hk=>(h1.s.ge k hk).1) h1.bel.size)
 have hl : (c.s.l ++ [row]).length = c.s.l.length + 1:=by simp
 have ho2:=ho.upd hu (ho.ne hob (by decide))
 have hrows : ∀ x ∈ c.s.l ++ [row],x.length = 2:=fun x hx=>by
  rcases List.mem_append.1 hx with hx | hx
  ·exact h.ls x hx
  ·rw [List.mem_singleton.1 hx];exact hrow
 refine ⟨hb2.trans (hu.below h.new hb2.size),h.new,?_,((h1.g.mod hm (h1.g.apart h1.s (by decide))).upd hu ((h1.g.mod hm (h1.g.apart h1.s (by decide))).ne hob (by decide))),((h1.r.mod hm (h1.r.apart h1.s (by decide))).upd hu ((h1.r.mod hm (h1.r.apart h1.s (by decide))).ne hob (by decide))),((h1.p.mod hm (h1.p.apart h1.s (by decide))).upd hu ((h1.p.mod hm (h1.p.apart h1.s (by decide))).ne hob (by decide))),((h1.n.mod hm (h1.n.apart h1.s (by decide))).upd hu ((h1.n.mod hm (h1.n.apart h1.s (by decide))).ne hob (by decide))),?_,h.lg,h.lr,h.lp,h.ln,hrows⟩
 ·have:=hob.set 5 (.slice (some ⟨g',0,none⟩) (c.s.l.length + 1) c')
  rw [hl];exact this
 ·rw [hl,iF_snoc];exact ho2
/-- The row of a line of rank k; none: it can't be. -/
def rowV (k : Nat) (ws : List (List UInt8)) : Option (List Int):=
 if k = 1 ∨ k = 2 ∨ k = 3 then match lbF (ws.getD 1 []) with
  | none=>none
  | some x=>if k = 3 ∧ ws.getD 2 [] = [111,117,116] then some [(x : Int),-1] else if nmsB (ws.drop 2) then some ((x : Int) :: nmsL (ws.drop 2)) else none
 else if nmsB (ws.drop 1) then some (nmsL (ws.drop 1)) else none
def setV (c : Pc) (k : Nat) (row : List Int) : Pc:=match k with
 | 0=>{ c with cats:=row.getD 0 0 }
 | 1=>{ c with g:=c.g ++ [row] }
 | 2=>{ c with r:=c.r ++ [row] }
 | 3=>{ c with p:=c.p ++ [row] }
 | 4=>{ c with n:=c.n ++ [row] }
 | 5=>{ c with s:=c.s ++ [row] }
 | _=>{ c with gate:=row.getD 0 0,quota:=row.getD 1 0 }
def wordsN : List Nat:=[2,4,4,3,3,3,3]
def wordsK (k : Nat) : Nat:=wordsN.getD k 0
/-- What a line of rank k leaves. -/
def TkPost (w : World) (rb : Nat) (c : Cv) (last : Int) (k : Nat) (ws : List (List UInt8)) (W : World) (e : Ending) (w' : World) : Prop:=
 match rowV k ws with
 | some row=>e = .returned (.bool true) ∧ ∃ c',pcOf c' = setV (pcOf c) k row ∧ RD w rb c' last w'
 | none=>e = .returned (.bool false) ∧ Below w.heap.size w w'
end Go.Proofs.YtoklonmiejdgmaaGreatDoor
/- Package plan: a line with a label. -/
namespace Go.Proofs.YtoklonmiejdgmaaGreatDoor
set_option linter.unusedVariables false
set_option linter.unusedSimpArgs false
set_option linter.unnecessarySimpa false
open Go.RowKit Go.Sort
set_option maxHeartbeats 4000000
set_option maxRecDepth 100000
set_option linter.unusedVariables false
theorem info_gu : (Tryz.prog.info? 130).map (fun i=>(i.zero,i.size,i.bytes)) = some (some (.agg #[.int .i64 0,.int .i64 0,.int .i64 0]),3,24):=by kernel_rfl
theorem info_ra : (Tryz.prog.info? 132).map (fun i=>(i.zero,i.size,i.bytes)) = some (some (.agg #[.int .i64 0,.int .i64 0,.int .i64 0]),3,24):=by kernel_rfl
theorem info_po : (Tryz.prog.info? 134).map (fun i=>(i.zero,i.size,i.bytes)) = some (some (.agg #[.int .i64 0,.int .i64 0]),2,16):=by kernel_rfl
theorem info_ri : (Tryz.prog.info? 137).map (fun i=>(i.zero,i.size,i.bytes)) = some (some (.agg #[.int .i64 0,.int .i64 0]),2,16):=by kernel_rfl
theorem info_so : (Tryz.prog.info? 139).map (fun i=>(i.zero,i.size,i.bytes)) = some (some (.agg #[.int .i64 0,.int .i64 0]),2,16):=by kernel_rfl
theorem tk_no {w : World} {rb : Nat} {c : Cv} {last : Int} {k : Nat} {ws : List (List UInt8)} {W w' : World} (h : rowV k ws = none) (hb : Below w.heap.size w w') : TkPost w rb c last k ws W (.returned (.bool false)) w':=by
 unfold TkPost;rw [h];exact ⟨rfl,hb⟩
theorem tk_yes {w : World} {rb : Nat} {c c' : Cv} {last : Int} {k : Nat} {ws : List (List UInt8)} {W w' : World} {row : List Int} (h : rowV k ws = some row) (hc : pcOf c' = setV (pcOf c) k row) (hr : RD w rb c' last w') : TkPost w rb c last k ws W (.returned (.bool true)) w':=by
 unfold TkPost;rw [h];exact ⟨rfl,c',hc,hr⟩
/-- The lists of a configuration at work are short. -/
def FewC (c : Cv) : Prop:=c.g.l.length ≤ 100000 ∧ c.r.l.length ≤ 100000 ∧ c.p.l.length ≤ 100000 ∧ c.n.l.length ≤ 100000 ∧ c.s.l.length ≤ 100000
theorem lbF_lt {s : List UInt8} {x : Nat} (h : lbF s = some x) : x < 256:=(lparseF_text s x h).1
theorem labelled_guest (w : World) (rb : Nat) (c : Cv) (last : Int) (w0 w1 w2 w3 : List UInt8) (hsm : ∀ x ∈ [w0,w1,w2,w3],x.length ≤ 100000000) (g off cap : Nat) (W : World) (h : RD w rb c last W) (hg : g < W.heap.size)
  (hr : ∀ j (hj : j < 4),W.cell? ⟨g,off + j,none⟩ = some (.string (ba ([w0,w1,w2,w3].getD j [])))) (hcap : 4 ≤ cap) (hmx : cap ≤ maxLen) (hn : FewC c) :
  Calls Tryz.prog 82 #[.pointer (some ⟨rb,0,none⟩),.int .i64 1,.slice (some ⟨g,off,none⟩) 4 cap] W (TkPost w rb c last 1 [w0,w1,w2,w3] W):=by
 obtain ⟨i0,hi0,hz0,hz1,hz2⟩:=info_parts info_gu
 have hlw:=hsm w1 (by simp)
 unfold maxLen at hmx
 have n1 : W.cell? ⟨g,off + 1,none⟩ = some (.string (ba w1)):=hr 1 (by omega)
 have HLP:=fun W=>Lib.hid (lparse_any (ba w1) (by rw [ba_size];unfold maxLen;omega) W)
 rw [ba_data] at HLP
 have H:=Lib.hid h
 have hB:=h.bel.size
 have c0:=(h).ob.cell 0 _ rfl;have c1:=(h).ob.cell 1 _ rfl;have c2:=(h).ob.cell 2 _ rfl;have c3:=(h).ob.cell 3 _ rfl;have c4:=(h).ob.cell 4 _ rfl;have c5:=(h).ob.cell 5 _ rfl;have c6:=(h).ob.cell 6 _ rfl;have c7:=(h).ob.cell 7 _ rfl;have c8:=(h).ob.cell 8 _ rfl
 cases hl : lbF w1 with
 | none=>
  have HT : Hid (∀ w',Below w.heap.size w w' → TkPost w rb c last 1 [w0,w1,w2,w3] W (.returned (.bool false)) w'):=fun w' hb=>tk_no (by unfold rowV;simp [hl]) hb
  have e1 : lbPV w1 = 0 ∧ lbPE w1 = 6:=⟨by unfold lbPV;rw [hl];rfl,by unfold lbPE;rw [hl];rfl⟩
  rw [e1.1,e1.2] at HLP
  clear e1 hl h hr hsm
  go_enter Tryz.func82,Tryz.ntmps82
  go_wp2_with (go_at_call 124;refine ((HLP _).out).mono ?_;rintro e w1 ⟨rfl,rfl⟩)
  go_ret
  exact HT.out _ H.out.bel
 | some x=>
  have e1 : lbPV w1 = x ∧ lbPE w1 = 0:=⟨by unfold lbPV;rw [hl];rfl,by unfold lbPE;rw [hl];rfl⟩
  have hx:=lbF_lt hl
  rw [e1.1,e1.2] at HLP
  have hrd : Rd W 1 (some ⟨g,off + 2,none⟩) 2 (strC [w2,w3]):=by
   refine ⟨rfl,(fun h0=>by cases h0),fun p hp _=>?_⟩
   injection hp with hp
   subst hp
   refine ⟨g,off + 2,rfl,hg,fun j u hu=>?_⟩
   rcases (by have:=(List.getElem?_eq_some_iff.1 hu).1;simp [strC] at this;omega : j = 0 ∨ j = 1) with rfl | rfl
   ·injection hu with hu;rw [← hu];exact hr 2 (by omega)
   ·injection hu with hu;rw [← hu];exact hr 3 (by omega)
  have HNB : Hid (Calls Tryz.prog 125 #[.slice (some ⟨g,off + 2,none⟩) 2 (cap - 2)] W (NmPost [w2,w3] W)):=numbers_any (some ⟨g,off + 2,none⟩) (cap - 2) [w2,w3] (fun y hy=>hsm y (by simp at hy ⊢;rcases hy with rfl | rfl <;> simp)) (by simp) W hrd
  have HTN : Hid (nmsB [w2,w3] = false → ∀ w',Below w.heap.size w w' → TkPost w rb c last 1 [w0,w1,w2,w3] W (.returned (.bool false)) w'):=fun hb w' hbe=>tk_no (by unfold rowV;simp [hl,hb]) hbe
  have HTY : Hid (nmsB [w2,w3] = true → ∀ (w' : World) (c' : Cv),pcOf c' = setV (pcOf c) 1 [(x : Int),(numI w2 : Nat),(numI w3 : Nat)] → RD w rb c' last w' → TkPost w rb c last 1 [w0,w1,w2,w3] W (.returned (.bool true)) w'):=fun hb w' c' hc hr=>tk_yes (by unfold rowV;simp [hl,hb,nmsL]) hc hr
  clear hl hr hsm hrd e1
  have hc2 : ¬ cap = 2:=by omega
  go_enter Tryz.func82,Tryz.ntmps82
  go_wp2_with (go_at_call 124;refine ((HLP _).out).mono ?_;rintro e w1 ⟨rfl,rfl⟩)
  refine HNB.out.mono ?_
  intro e W3 h3
  obtain ⟨hy,hno,hb3⟩:=h3
  have H3:=Lib.hid (H.out.more hb3)
  cases hb : nmsB [w2,w3]
  ·obtain rfl:=hno hb
   have HT:=Lib.hid (HTN.out hb)
   clear hy hno hb3 hb
   go_wp2_with fail
   go_ret
   exact HT.out _ H3.out.bel
  ·obtain ⟨a3,c3',rfl,hown3⟩:=hy hb
   obtain ⟨g3,rfl,hg3,hg3'⟩:=hown3.at_ (by simp)
   have HT:=Lib.hid (HTY.out hb)
   obtain ⟨y0,hy0⟩ : ∃ y,Hid (y = ((numI w2 : Nat) : Int)):=⟨_,Lib.hid rfl⟩
   obtain ⟨y1,hy1⟩ : ∃ y,Hid (y = ((numI w3 : Nat) : Int)):=⟨_,Lib.hid rfl⟩
   have m0 : W3.cell? ⟨g3,0,none⟩ = some (.int .i64 y0):=by rw [hy0.out];exact hown3.cell 0 _ rfl
   have m1 : W3.cell? ⟨g3,1,none⟩ = some (.int .i64 y1):=by rw [hy1.out];exact hown3.cell 1 _ rfl
   rw [← hy0.out,← hy1.out] at HT
   have hsz:=hb3.size
   have hrb:=H3.out.ob.lt
   have hB3:=H3.out.bel.size
   have hfew:=hn.1
   clear c0 c1 c2 c3 c4 c5 c6 c7 c8
   have c0:=(H3.out).ob.cell 0 _ rfl;have c1:=(H3.out).ob.cell 1 _ rfl;have c2:=(H3.out).ob.cell 2 _ rfl;have c3:=(H3.out).ob.cell 3 _ rfl;have c4:=(H3.out).ob.cell 4 _ rfl;have c5:=(H3.out).ob.cell 5 _ rfl;have c6:=(H3.out).ob.cell 6 _ rfl;have c7:=(H3.out).ob.cell 7 _ rfl;have c8:=(H3.out).ob.cell 8 _ rfl
   have f1:=H3.out.ob.free 1
   clear hy hno hb3 hb hown3 HTY HTN n1 h
   go_wp2_with fail
   go_region_law (refine step_own rfl (.tmp 73) (.tmp 82) 23 rfl w.heap.size 130 i0 _ 3 24 Tryz.underlying23 hi0 hz0 hz1 hz2 rfl (by omega) c.g.a c.g.l.length c.g.cap (iF c.g.l) rfl (H3.out.g.below ((Below.refl _ _).drew.alloc (Nat.le_refl _) _)) W3.heap.size (ivs [(x : Int),y0,y1]) rfl (new_block _ _ _ rfl) rfl (by simp [ivs,Value.oneCell']) (by simp only [maxLen];omega) (by omega) (by simp;omega) ?_;intro g' cap' W4 hown hmod hat;have h4:=(H3.out.ob.below ((Below.refl _ _).drew.alloc (Nat.le_refl _) _)).mod hmod (H3.out.g.ne H3.out.ob (by decide));have d0:=h4.cell 1 _ rfl;have e0:=h4.free 1)
   all_goals
    go_wp2_with fail
    go_ret
    refine HT.out _ _ rfl (H3.out.addG (c':=cap') (row:=[(x : Int),y0,y1]) ((Below.refl _ _).drew.alloc (Nat.le_refl _) _) hown hmod rfl)
end Go.Proofs.YtoklonmiejdgmaaGreatDoor
/- Package plan: a line with a label: ranges, ports. -/
namespace Go.Proofs.YtoklonmiejdgmaaGreatDoor
set_option linter.unusedVariables false
set_option linter.unusedSimpArgs false
set_option linter.unnecessarySimpa false
open Go.RowKit Go.Sort
set_option maxHeartbeats 4000000
set_option maxRecDepth 100000
set_option linter.unusedVariables false
theorem labelled_range (w : World) (rb : Nat) (c : Cv) (last : Int) (w0 w1 w2 w3 : List UInt8) (hsm : ∀ x ∈ [w0,w1,w2,w3],x.length ≤ 100000000) (g off cap : Nat) (W : World) (h : RD w rb c last W) (hg : g < W.heap.size)
  (hr : ∀ j (hj : j < 4),W.cell? ⟨g,off + j,none⟩ = some (.string (ba ([w0,w1,w2,w3].getD j [])))) (hcap : 4 ≤ cap) (hmx : cap ≤ maxLen) (hn : FewC c) :
  Calls Tryz.prog 82 #[.pointer (some ⟨rb,0,none⟩),.int .i64 2,.slice (some ⟨g,off,none⟩) 4 cap] W (TkPost w rb c last 2 [w0,w1,w2,w3] W):=by
 obtain ⟨i0,hi0,hz0,hz1,hz2⟩:=info_parts info_ra
 have hlw:=hsm w1 (by simp)
 unfold maxLen at hmx
 have n1 : W.cell? ⟨g,off + 1,none⟩ = some (.string (ba w1)):=hr 1 (by omega)
 have HLP:=fun W=>Lib.hid (lparse_any (ba w1) (by rw [ba_size];unfold maxLen;omega) W)
 rw [ba_data] at HLP
 have H:=Lib.hid h
 have hB:=h.bel.size
 have c0:=(h).ob.cell 0 _ rfl;have c1:=(h).ob.cell 1 _ rfl;have c2:=(h).ob.cell 2 _ rfl;have c3:=(h).ob.cell 3 _ rfl;have c4:=(h).ob.cell 4 _ rfl;have c5:=(h).ob.cell 5 _ rfl;have c6:=(h).ob.cell 6 _ rfl;have c7:=(h).ob.cell 7 _ rfl;have c8:=(h).ob.cell 8 _ rfl
 cases hl : lbF w1 with
 | none=>
  have HT : Hid (∀ w',Below w.heap.size w w' → TkPost w rb c last 2 [w0,w1,w2,w3] W (.returned (.bool false)) w'):=fun w' hb=>tk_no (by unfold rowV;simp [hl]) hb
  have e1 : lbPV w1 = 0 ∧ lbPE w1 = 6:=⟨by unfold lbPV;rw [hl];rfl,by unfold lbPE;rw [hl];rfl⟩
  rw [e1.1,e1.2] at HLP
  clear e1 hl h hr hsm
  go_enter Tryz.func82,Tryz.ntmps82
  go_wp2_with (go_at_call 124;refine ((HLP _).out).mono ?_;rintro e w1 ⟨rfl,rfl⟩)
  go_ret
  exact HT.out _ H.out.bel
 | some x=>
  have e1 : lbPV w1 = x ∧ lbPE w1 = 0:=⟨by unfold lbPV;rw [hl];rfl,by unfold lbPE;rw [hl];rfl⟩
  have hx:=lbF_lt hl
  rw [e1.1,e1.2] at HLP
  have hrd : Rd W 1 (some ⟨g,off + 2,none⟩) 2 (strC [w2,w3]):=by
   refine ⟨rfl,(fun h0=>by cases h0),fun p hp _=>?_⟩
   injection hp with hp
   subst hp
   refine ⟨g,off + 2,rfl,hg,fun j u hu=>?_⟩
   rcases (by have:=(List.getElem?_eq_some_iff.1 hu).1;simp [strC] at this;omega : j = 0 ∨ j = 1) with rfl | rfl
   ·injection hu with hu;rw [← hu];exact hr 2 (by omega)
   ·injection hu with hu;rw [← hu];exact hr 3 (by omega)
  have HNB : Hid (Calls Tryz.prog 125 #[.slice (some ⟨g,off + 2,none⟩) 2 (cap - 2)] W (NmPost [w2,w3] W)):=numbers_any (some ⟨g,off + 2,none⟩) (cap - 2) [w2,w3] (fun y hy=>hsm y (by simp at hy ⊢;rcases hy with rfl | rfl <;> simp)) (by simp) W hrd
  have HTN : Hid (nmsB [w2,w3] = false → ∀ w',Below w.heap.size w w' → TkPost w rb c last 2 [w0,w1,w2,w3] W (.returned (.bool false)) w'):=fun hb w' hbe=>tk_no (by unfold rowV;simp [hl,hb]) hbe
  have HTY : Hid (nmsB [w2,w3] = true → ∀ (w' : World) (c' : Cv),pcOf c' = setV (pcOf c) 2 [(x : Int),(numI w2 : Nat),(numI w3 : Nat)] → RD w rb c' last w' → TkPost w rb c last 2 [w0,w1,w2,w3] W (.returned (.bool true)) w'):=fun hb w' c' hc hr=>tk_yes (by unfold rowV;simp [hl,hb,nmsL]) hc hr
  clear hl hr hsm hrd e1
  have hc2 : ¬ cap = 2:=by omega
  go_enter Tryz.func82,Tryz.ntmps82
  go_wp2_with (go_at_call 124;refine ((HLP _).out).mono ?_;rintro e w1 ⟨rfl,rfl⟩)
  refine HNB.out.mono ?_
  intro e W3 h3
  obtain ⟨hy,hno,hb3⟩:=h3
  have H3:=Lib.hid (H.out.more hb3)
  cases hb : nmsB [w2,w3]
  ·obtain rfl:=hno hb
   have HT:=Lib.hid (HTN.out hb)
   clear hy hno hb3 hb
   go_wp2_with fail
   go_ret
   exact HT.out _ H3.out.bel
  ·obtain ⟨a3,c3',rfl,hown3⟩:=hy hb
   obtain ⟨g3,rfl,hg3,hg3'⟩:=hown3.at_ (by simp)
   have HT:=Lib.hid (HTY.out hb)
   obtain ⟨y0,hy0⟩ : ∃ y,Hid (y = ((numI w2 : Nat) : Int)):=⟨_,Lib.hid rfl⟩
   obtain ⟨y1,hy1⟩ : ∃ y,Hid (y = ((numI w3 : Nat) : Int)):=⟨_,Lib.hid rfl⟩
   have m0 : W3.cell? ⟨g3,0,none⟩ = some (.int .i64 y0):=by rw [hy0.out];exact hown3.cell 0 _ rfl
   have m1 : W3.cell? ⟨g3,1,none⟩ = some (.int .i64 y1):=by rw [hy1.out];exact hown3.cell 1 _ rfl
   rw [← hy0.out,← hy1.out] at HT
   have hsz:=hb3.size
   have hrb:=H3.out.ob.lt
   have hB3:=H3.out.bel.size
   have hfew:=hn.2.1
   clear c0 c1 c2 c3 c4 c5 c6 c7 c8
   have c0:=(H3.out).ob.cell 0 _ rfl;have c1:=(H3.out).ob.cell 1 _ rfl;have c2:=(H3.out).ob.cell 2 _ rfl;have c3:=(H3.out).ob.cell 3 _ rfl;have c4:=(H3.out).ob.cell 4 _ rfl;have c5:=(H3.out).ob.cell 5 _ rfl;have c6:=(H3.out).ob.cell 6 _ rfl;have c7:=(H3.out).ob.cell 7 _ rfl;have c8:=(H3.out).ob.cell 8 _ rfl
   have f1:=H3.out.ob.free 2
   clear hy hno hb3 hb hown3 HTY HTN n1 h
   go_wp2_with fail
   go_region_law (refine step_own rfl (.tmp 94) (.tmp 103) 24 rfl w.heap.size 132 i0 _ 3 24 Tryz.underlying24 hi0 hz0 hz1 hz2 rfl (by omega) c.r.a c.r.l.length c.r.cap (iF c.r.l) rfl (H3.out.r.below ((Below.refl _ _).drew.alloc (Nat.le_refl _) _)) W3.heap.size (ivs [(x : Int),y0,y1]) rfl (new_block _ _ _ rfl) rfl (by simp [ivs,Value.oneCell']) (by simp only [maxLen];omega) (by omega) (by simp;omega) ?_;intro g' cap' W4 hown hmod hat;have h4:=(H3.out.ob.below ((Below.refl _ _).drew.alloc (Nat.le_refl _) _)).mod hmod (H3.out.r.ne H3.out.ob (by decide));have d0:=h4.cell 2 _ rfl;have e0:=h4.free 2)
   all_goals
    go_wp2_with fail
    go_ret
    refine HT.out _ _ rfl (H3.out.addR (c':=cap') (row:=[(x : Int),y0,y1]) ((Below.refl _ _).drew.alloc (Nat.le_refl _) _) hown hmod rfl)
theorem labelled_port (w : World) (rb : Nat) (c : Cv) (last : Int) (w0 w1 w2 : List UInt8) (hsm : ∀ x ∈ [w0,w1,w2],x.length ≤ 100000000) (g off cap : Nat) (W : World) (h : RD w rb c last W) (hg : g < W.heap.size)
  (hr : ∀ j (hj : j < 3),W.cell? ⟨g,off + j,none⟩ = some (.string (ba ([w0,w1,w2].getD j [])))) (hcap : 3 ≤ cap) (hmx : cap ≤ maxLen) (hn : FewC c) :
  Calls Tryz.prog 82 #[.pointer (some ⟨rb,0,none⟩),.int .i64 3,.slice (some ⟨g,off,none⟩) 3 cap] W (TkPost w rb c last 3 [w0,w1,w2] W):=by
 obtain ⟨i0,hi0,hz0,hz1,hz2⟩:=info_parts info_po
 have hlw:=hsm w1 (by simp)
 unfold maxLen at hmx
 have n1 : W.cell? ⟨g,off + 1,none⟩ = some (.string (ba w1)):=hr 1 (by omega)
 have HLP:=fun W=>Lib.hid (lparse_any (ba w1) (by rw [ba_size];unfold maxLen;omega) W)
 rw [ba_data] at HLP
 have H:=Lib.hid h
 have hB:=h.bel.size
 have c0:=(h).ob.cell 0 _ rfl;have c1:=(h).ob.cell 1 _ rfl;have c2:=(h).ob.cell 2 _ rfl;have c3:=(h).ob.cell 3 _ rfl;have c4:=(h).ob.cell 4 _ rfl;have c5:=(h).ob.cell 5 _ rfl;have c6:=(h).ob.cell 6 _ rfl;have c7:=(h).ob.cell 7 _ rfl;have c8:=(h).ob.cell 8 _ rfl
 cases hl : lbF w1 with
 | none=>
  have HT : Hid (∀ w',Below w.heap.size w w' → TkPost w rb c last 3 [w0,w1,w2] W (.returned (.bool false)) w'):=fun w' hb=>tk_no (by unfold rowV;simp [hl]) hb
  have e1 : lbPV w1 = 0 ∧ lbPE w1 = 6:=⟨by unfold lbPV;rw [hl];rfl,by unfold lbPE;rw [hl];rfl⟩
  rw [e1.1,e1.2] at HLP
  clear e1 hl h hr hsm
  go_enter Tryz.func82,Tryz.ntmps82
  go_wp2_with (go_at_call 124;refine ((HLP _).out).mono ?_;rintro e w1 ⟨rfl,rfl⟩)
  go_ret
  exact HT.out _ H.out.bel
 | some x=>
  have e1 : lbPV w1 = x ∧ lbPE w1 = 0:=⟨by unfold lbPV;rw [hl];rfl,by unfold lbPE;rw [hl];rfl⟩
  have hx:=lbF_lt hl
  rw [e1.1,e1.2] at HLP
  have n2 : W.cell? ⟨g,off + 2,none⟩ = some (.string (ba w2)):=hr 2 (by omega)
  have hoq : ((ba w2).toList == [111,117,116]) = decide (w2 = [111,117,116]):=by
   rw [ByteArray.toList_eq,ba_data]
   by_cases h : w2 = [111,117,116] <;> simp [h]
  by_cases hout : w2 = [111,117,116]
  ·rw [decide_eq_true hout] at hoq
   have HTO : Hid (∀ (w' : World) (c' : Cv),pcOf c' = setV (pcOf c) 3 [(x : Int),-1] → RD w rb c' last w' → TkPost w rb c last 3 [w0,w1,w2] W (.returned (.bool true)) w'):=fun w' c' hc hr=>tk_yes (by unfold rowV;simp [hl,hout]) hc hr
   have hfew:=hn.2.2.1
   have f3:=H.out.ob.free 3
   clear hl hr hsm e1 hout h
   go_enter Tryz.func82,Tryz.ntmps82
   go_wp2_with (first | (go_at_call 124;refine ((HLP _).out).mono ?_;rintro e w1 ⟨rfl,rfl⟩) | (at_builtin;(refine wpList_own rfl (.tmp 33) (.tmp 36) 25 rfl w.heap.size 134 i0 _ 2 16 Tryz.underlying25 hi0 hz0 hz1 hz2 rfl (by omega) c.p.a c.p.l.length c.p.cap (iF c.p.l) rfl (H.out.p.below ((Below.refl _ _).alloc (Nat.le_refl _) _)) W.heap.size (ivs [(x : Int),-1]) rfl (new_block _ _ _ rfl) rfl (by simp [ivs,Value.oneCell']) (by simp only [maxLen];omega) (by omega) (by simp;omega) ?_);intro g' cap' W4 hown hmod hat;have h4:=(H.out.ob.below ((Below.refl _ _).alloc (Nat.le_refl _) _)).mod hmod (H.out.p.ne H.out.ob (by decide));have d0:=h4.cell 3 _ rfl;have e0:=h4.free 3;have HN4:=Lib.hid (H.out.addP (c':=cap') (row:=[(x : Int),-1]) ((Below.refl _ _).alloc (Nat.le_refl _) _) hown hmod rfl);clear hown hmod hat h4))
   go_ret
   exact HTO.out _ _ rfl HN4.out
  ·rw [decide_eq_false hout] at hoq
   have hrd : Rd W 1 (some ⟨g,off + 2,none⟩) 1 (strC [w2]):=by
    refine ⟨rfl,(fun h0=>by cases h0),fun p hp _=>?_⟩
    injection hp with hp
    subst hp
    refine ⟨g,off + 2,rfl,hg,fun j u hu=>?_⟩
    obtain rfl : j = 0:=by have:=(List.getElem?_eq_some_iff.1 hu).1;simp [strC] at this;omega
    injection hu with hu;rw [← hu];exact hr 2 (by omega)
   have HNB : Hid (Calls Tryz.prog 125 #[.slice (some ⟨g,off + 2,none⟩) 1 (cap - 2)] W (NmPost [w2] W)):=numbers_any (some ⟨g,off + 2,none⟩) (cap - 2) [w2] (fun y hy=>hsm y (by simp at hy ⊢;rcases hy with rfl;simp)) (by simp) W hrd
   have HTN : Hid (nmsB [w2] = false → ∀ w',Below w.heap.size w w' → TkPost w rb c last 3 [w0,w1,w2] W (.returned (.bool false)) w'):=fun hb w' hbe=>tk_no (by unfold rowV;simp [hl,hb,hout]) hbe
   have HTY : Hid (nmsB [w2] = true → ∀ (w' : World) (c' : Cv),pcOf c' = setV (pcOf c) 3 [(x : Int),(numI w2 : Nat)] → RD w rb c' last w' → TkPost w rb c last 3 [w0,w1,w2] W (.returned (.bool true)) w'):=fun hb w' c' hc hr=>tk_yes (by unfold rowV;simp [hl,hb,nmsL,hout]) hc hr
   clear hl hr hsm hrd e1 hout
   have hc2 : ¬ cap = 2:=by omega
   go_enter Tryz.func82,Tryz.ntmps82
   go_wp2_with (go_at_call 124;refine ((HLP _).out).mono ?_;rintro e w1 ⟨rfl,rfl⟩)
   refine HNB.out.mono ?_
   intro e W3 h3
   obtain ⟨hy,hno,hb3⟩:=h3
   have H3:=Lib.hid (H.out.more hb3)
   cases hb : nmsB [w2]
   ·obtain rfl:=hno hb
    have HT:=Lib.hid (HTN.out hb)
    clear hy hno hb3 hb
    go_wp2_with fail
    go_ret
    exact HT.out _ H3.out.bel
   ·obtain ⟨a3,c3',rfl,hown3⟩:=hy hb
    obtain ⟨g3,rfl,hg3,hg3'⟩:=hown3.at_ (by simp)
    have HT:=Lib.hid (HTY.out hb)
    obtain ⟨y0,hy0⟩ : ∃ y,Hid (y = ((numI w2 : Nat) : Int)):=⟨_,Lib.hid rfl⟩
    have m0 : W3.cell? ⟨g3,0,none⟩ = some (.int .i64 y0):=by rw [hy0.out];exact hown3.cell 0 _ rfl
    rw [← hy0.out] at HT
    have hsz:=hb3.size
    have hrb:=H3.out.ob.lt
    have hB3:=H3.out.bel.size
    have hfew:=hn.2.2.1
    clear c0 c1 c2 c3 c4 c5 c6 c7 c8
    have c0:=(H3.out).ob.cell 0 _ rfl;have c1:=(H3.out).ob.cell 1 _ rfl;have c2:=(H3.out).ob.cell 2 _ rfl;have c3:=(H3.out).ob.cell 3 _ rfl;have c4:=(H3.out).ob.cell 4 _ rfl;have c5:=(H3.out).ob.cell 5 _ rfl;have c6:=(H3.out).ob.cell 6 _ rfl;have c7:=(H3.out).ob.cell 7 _ rfl;have c8:=(H3.out).ob.cell 8 _ rfl
    have f1:=H3.out.ob.free 3
    clear hy hno hb3 hb hown3 HTY HTN n1 h
    go_wp2_with fail
    go_region_law (refine step_own rfl (.tmp 55) (.tmp 61) 25 rfl w.heap.size 134 i0 _ 2 16 Tryz.underlying25 hi0 hz0 hz1 hz2 rfl (by omega) c.p.a c.p.l.length c.p.cap (iF c.p.l) rfl (H3.out.p.below ((Below.refl _ _).drew.alloc (Nat.le_refl _) _)) W3.heap.size (ivs [(x : Int),y0]) rfl (new_block _ _ _ rfl) rfl (by simp [ivs,Value.oneCell']) (by simp only [maxLen];omega) (by omega) (by simp;omega) ?_;intro g' cap' W4 hown hmod hat;have h4:=(H3.out.ob.below ((Below.refl _ _).drew.alloc (Nat.le_refl _) _)).mod hmod (H3.out.p.ne H3.out.ob (by decide));have d0:=h4.cell 3 _ rfl;have e0:=h4.free 3)
    all_goals
     go_wp2_with fail
     go_ret
     refine HT.out _ _ rfl (H3.out.addP (c':=cap') (row:=[(x : Int),y0]) ((Below.refl _ _).drew.alloc (Nat.le_refl _) _) hown hmod rfl)
end Go.Proofs.YtoklonmiejdgmaaGreatDoor
/- Package plan: a line of numbers alone. -/
namespace Go.Proofs.YtoklonmiejdgmaaGreatDoor
set_option linter.unusedVariables false
set_option linter.unusedSimpArgs false
set_option linter.unnecessarySimpa false
open Go.RowKit Go.Sort
set_option maxHeartbeats 4000000
set_option maxRecDepth 100000
set_option linter.unusedVariables false
theorem plain_cats (w : World) (rb : Nat) (c : Cv) (last : Int) (w0 w1 : List UInt8) (hsm : ∀ x ∈ [w0,w1],x.length ≤ 100000000) (g off cap : Nat) (W : World) (h : RD w rb c last W) (hg : g < W.heap.size)
  (hr : ∀ j (hj : j < 2),W.cell? ⟨g,off + j,none⟩ = some (.string (ba ([w0,w1].getD j [])))) (hcap : 2 ≤ cap) (hmx : cap ≤ maxLen) (hn : FewC c) :
  Calls Tryz.prog 83 #[.pointer (some ⟨rb,0,none⟩),.int .i64 0,.slice (some ⟨g,off,none⟩) 2 cap] W (TkPost w rb c last 0 [w0,w1] W):=by
 unfold maxLen at hmx
 have H:=Lib.hid h
 have hB:=h.bel.size
 have hrd : Rd W 1 (some ⟨g,off + 1,none⟩) 1 (strC [w1]):=by
  refine ⟨rfl,(fun h0=>by cases h0),fun p hp _=>?_⟩
  injection hp with hp
  subst hp
  refine ⟨g,off + 1,rfl,hg,fun j u hu=>?_⟩
  obtain rfl : j = 0:=by have:=(List.getElem?_eq_some_iff.1 hu).1;simp [strC] at this;omega
  injection hu with hu;rw [← hu];exact hr 1 (by omega)
 have HNB : Hid (Calls Tryz.prog 125 #[.slice (some ⟨g,off + 1,none⟩) 1 (cap - 1)] W (NmPost [w1] W)):=numbers_any (some ⟨g,off + 1,none⟩) (cap - 1) [w1] (fun y hy=>hsm y (List.mem_cons_of_mem _ hy)) (by simp) W hrd
 have HTN : Hid (nmsB [w1] = false → ∀ w',Below w.heap.size w w' → TkPost w rb c last 0 [w0,w1] W (.returned (.bool false)) w'):=fun hb w' hbe=>tk_no (by unfold rowV;simp [hb]) hbe
 have HTY : Hid (nmsB [w1] = true → ∀ (w' : World) (c' : Cv),pcOf c' = setV (pcOf c) 0 [(numI w1 : Nat)] → RD w rb c' last w' → TkPost w rb c last 0 [w0,w1] W (.returned (.bool true)) w'):=fun hb w' c' hc hr=>tk_yes (by unfold rowV;simp [hb,nmsL]) hc hr
 have hc1 : ¬ cap = 1:=by omega
 clear hr hsm hrd h
 go_enter Tryz.func83,Tryz.ntmps83
 go_wp2_with fail
 refine HNB.out.mono ?_
 intro e W3 h3
 obtain ⟨hy,hno,hb3⟩:=h3
 have H3:=Lib.hid (H.out.more hb3)
 cases hb : nmsB [w1]
 ·obtain rfl:=hno hb
  have HT:=Lib.hid (HTN.out hb)
  clear hy hno hb3 hb
  go_wp2_with fail
  go_ret
  exact HT.out _ H3.out.bel
 ·obtain ⟨a3,c3',rfl,hown3⟩:=hy hb
  obtain ⟨g3,rfl,hg3,hg3'⟩:=hown3.at_ (by simp)
  have HT:=Lib.hid (HTY.out hb)
  obtain ⟨y0,hy0⟩ : ∃ y,Hid (y = ((numI w1 : Nat) : Int)):=⟨_,Lib.hid rfl⟩
  have m0 : W3.cell? ⟨g3,0,none⟩ = some (.int .i64 y0):=by rw [hy0.out];exact hown3.cell 0 _ rfl
  rw [← hy0.out] at HT
  have hsz:=hb3.size
  have hrb:=H3.out.ob.lt
  have hB3:=H3.out.bel.size
  have c0:=(H3.out).ob.cell 0 _ rfl;have c1:=(H3.out).ob.cell 1 _ rfl;have c2:=(H3.out).ob.cell 2 _ rfl;have c3:=(H3.out).ob.cell 3 _ rfl;have c4:=(H3.out).ob.cell 4 _ rfl;have c5:=(H3.out).ob.cell 5 _ rfl;have c6:=(H3.out).ob.cell 6 _ rfl;have c7:=(H3.out).ob.cell 7 _ rfl;have c8:=(H3.out).ob.cell 8 _ rfl
  have f0:=H3.out.ob.free 0
  clear hy hno hb3 hb hown3 HTY HTN
  go_wp2_with fail
  go_ret
  exact HT.out _ _ rfl (H3.out.setCats y0)
theorem plain_ring (w : World) (rb : Nat) (c : Cv) (last : Int) (w0 w1 w2 : List UInt8) (hsm : ∀ x ∈ [w0,w1,w2],x.length ≤ 100000000) (g off cap : Nat) (W : World) (h : RD w rb c last W) (hg : g < W.heap.size)
  (hr : ∀ j (hj : j < 3),W.cell? ⟨g,off + j,none⟩ = some (.string (ba ([w0,w1,w2].getD j [])))) (hcap : 3 ≤ cap) (hmx : cap ≤ maxLen) (hn : FewC c) :
  Calls Tryz.prog 83 #[.pointer (some ⟨rb,0,none⟩),.int .i64 4,.slice (some ⟨g,off,none⟩) 3 cap] W (TkPost w rb c last 4 [w0,w1,w2] W):=by
 obtain ⟨i0,hi0,hz0,hz1,hz2⟩:=info_parts info_ri
 unfold maxLen at hmx
 have H:=Lib.hid h
 have hB:=h.bel.size
 have hrd : Rd W 1 (some ⟨g,off + 1,none⟩) 2 (strC [w1,w2]):=by
  refine ⟨rfl,(fun h0=>by cases h0),fun p hp _=>?_⟩
  injection hp with hp
  subst hp
  refine ⟨g,off + 1,rfl,hg,fun j u hu=>?_⟩
  rcases (by have:=(List.getElem?_eq_some_iff.1 hu).1;simp [strC] at this;omega : j = 0 ∨ j = 1) with rfl | rfl
  ·injection hu with hu;rw [← hu];exact hr 1 (by omega)
  ·injection hu with hu;rw [← hu];exact hr 2 (by omega)
 have HNB : Hid (Calls Tryz.prog 125 #[.slice (some ⟨g,off + 1,none⟩) 2 (cap - 1)] W (NmPost [w1,w2] W)):=numbers_any (some ⟨g,off + 1,none⟩) (cap - 1) [w1,w2] (fun y hy=>hsm y (List.mem_cons_of_mem _ hy)) (by simp) W hrd
 have HTN : Hid (nmsB [w1,w2] = false → ∀ w',Below w.heap.size w w' → TkPost w rb c last 4 [w0,w1,w2] W (.returned (.bool false)) w'):=fun hb w' hbe=>tk_no (by unfold rowV;simp [hb]) hbe
 have HTY : Hid (nmsB [w1,w2] = true → ∀ (w' : World) (c' : Cv),pcOf c' = setV (pcOf c) 4 [(numI w1 : Nat),(numI w2 : Nat)] → RD w rb c' last w' → TkPost w rb c last 4 [w0,w1,w2] W (.returned (.bool true)) w'):=fun hb w' c' hc hr=>tk_yes (by unfold rowV;simp [hb,nmsL]) hc hr
 have hc1 : ¬ cap = 1:=by omega
 clear hr hsm hrd h
 go_enter Tryz.func83,Tryz.ntmps83
 go_wp2_with fail
 refine HNB.out.mono ?_
 intro e W3 h3
 obtain ⟨hy,hno,hb3⟩:=h3
 have H3:=Lib.hid (H.out.more hb3)
 cases hb : nmsB [w1,w2]
 ·obtain rfl:=hno hb
  have HT:=Lib.hid (HTN.out hb)
  clear hy hno hb3 hb
  go_wp2_with fail
  go_ret
  exact HT.out _ H3.out.bel
 ·obtain ⟨a3,c3',rfl,hown3⟩:=hy hb
  obtain ⟨g3,rfl,hg3,hg3'⟩:=hown3.at_ (by simp)
  have HT:=Lib.hid (HTY.out hb)
  obtain ⟨y0,hy0⟩ : ∃ y,Hid (y = ((numI w1 : Nat) : Int)):=⟨_,Lib.hid rfl⟩
  obtain ⟨y1,hy1⟩ : ∃ y,Hid (y = ((numI w2 : Nat) : Int)):=⟨_,Lib.hid rfl⟩
  have m0 : W3.cell? ⟨g3,0,none⟩ = some (.int .i64 y0):=by rw [hy0.out];exact hown3.cell 0 _ rfl
  have m1 : W3.cell? ⟨g3,1,none⟩ = some (.int .i64 y1):=by rw [hy1.out];exact hown3.cell 1 _ rfl
  rw [← hy0.out,← hy1.out] at HT
  have hsz:=hb3.size
  have hrb:=H3.out.ob.lt
  have hB3:=H3.out.bel.size
  have c0:=(H3.out).ob.cell 0 _ rfl;have c1:=(H3.out).ob.cell 1 _ rfl;have c2:=(H3.out).ob.cell 2 _ rfl;have c3:=(H3.out).ob.cell 3 _ rfl;have c4:=(H3.out).ob.cell 4 _ rfl;have c5:=(H3.out).ob.cell 5 _ rfl;have c6:=(H3.out).ob.cell 6 _ rfl;have c7:=(H3.out).ob.cell 7 _ rfl;have c8:=(H3.out).ob.cell 8 _ rfl
  have hfew:=hn.2.2.2.1
  have f4:=H3.out.ob.free 4
  clear hy hno hb3 hb hown3 HTY HTN
  go_wp2_with fail
  go_region_law (refine step_own rfl (.tmp 48) (.tmp 56) 26 rfl w.heap.size 137 i0 _ 2 16 Tryz.underlying26 hi0 hz0 hz1 hz2 rfl (by omega) c.n.a c.n.l.length c.n.cap (iF c.n.l) rfl (H3.out.n.below ((Below.refl _ _).drew.alloc (Nat.le_refl _) _)) W3.heap.size (ivs [y0,y1]) rfl (new_block _ _ _ rfl) rfl (by simp [ivs,Value.oneCell']) (by simp only [maxLen];omega) (by omega) (by simp;omega) ?_;intro g' cap' W4 hown hmod hat;have h4:=(H3.out.ob.below ((Below.refl _ _).drew.alloc (Nat.le_refl _) _)).mod hmod (H3.out.n.ne H3.out.ob (by decide));have d0:=h4.cell 4 _ rfl;have e0:=h4.free 4)
  all_goals
   go_wp2_with fail
   go_ret
   refine HT.out _ _ rfl (H3.out.addN (c':=cap') (row:=[y0,y1]) ((Below.refl _ _).drew.alloc (Nat.le_refl _) _) hown hmod rfl)
theorem plain_slot (w : World) (rb : Nat) (c : Cv) (last : Int) (w0 w1 w2 : List UInt8) (hsm : ∀ x ∈ [w0,w1,w2],x.length ≤ 100000000) (g off cap : Nat) (W : World) (h : RD w rb c last W) (hg : g < W.heap.size)
  (hr : ∀ j (hj : j < 3),W.cell? ⟨g,off + j,none⟩ = some (.string (ba ([w0,w1,w2].getD j [])))) (hcap : 3 ≤ cap) (hmx : cap ≤ maxLen) (hn : FewC c) :
  Calls Tryz.prog 83 #[.pointer (some ⟨rb,0,none⟩),.int .i64 5,.slice (some ⟨g,off,none⟩) 3 cap] W (TkPost w rb c last 5 [w0,w1,w2] W):=by
 obtain ⟨i0,hi0,hz0,hz1,hz2⟩:=info_parts info_so
 unfold maxLen at hmx
 have H:=Lib.hid h
 have hB:=h.bel.size
 have hrd : Rd W 1 (some ⟨g,off + 1,none⟩) 2 (strC [w1,w2]):=by
  refine ⟨rfl,(fun h0=>by cases h0),fun p hp _=>?_⟩
  injection hp with hp
  subst hp
  refine ⟨g,off + 1,rfl,hg,fun j u hu=>?_⟩
  rcases (by have:=(List.getElem?_eq_some_iff.1 hu).1;simp [strC] at this;omega : j = 0 ∨ j = 1) with rfl | rfl
  ·injection hu with hu;rw [← hu];exact hr 1 (by omega)
  ·injection hu with hu;rw [← hu];exact hr 2 (by omega)
 have HNB : Hid (Calls Tryz.prog 125 #[.slice (some ⟨g,off + 1,none⟩) 2 (cap - 1)] W (NmPost [w1,w2] W)):=numbers_any (some ⟨g,off + 1,none⟩) (cap - 1) [w1,w2] (fun y hy=>hsm y (List.mem_cons_of_mem _ hy)) (by simp) W hrd
 have HTN : Hid (nmsB [w1,w2] = false → ∀ w',Below w.heap.size w w' → TkPost w rb c last 5 [w0,w1,w2] W (.returned (.bool false)) w'):=fun hb w' hbe=>tk_no (by unfold rowV;simp [hb]) hbe
 have HTY : Hid (nmsB [w1,w2] = true → ∀ (w' : World) (c' : Cv),pcOf c' = setV (pcOf c) 5 [(numI w1 : Nat),(numI w2 : Nat)] → RD w rb c' last w' → TkPost w rb c last 5 [w0,w1,w2] W (.returned (.bool true)) w'):=fun hb w' c' hc hr=>tk_yes (by unfold rowV;simp [hb,nmsL]) hc hr
 have hc1 : ¬ cap = 1:=by omega
 clear hr hsm hrd h
 go_enter Tryz.func83,Tryz.ntmps83
 go_wp2_with fail
 refine HNB.out.mono ?_
 intro e W3 h3
 obtain ⟨hy,hno,hb3⟩:=h3
 have H3:=Lib.hid (H.out.more hb3)
 cases hb : nmsB [w1,w2]
 ·obtain rfl:=hno hb
  have HT:=Lib.hid (HTN.out hb)
  clear hy hno hb3 hb
  go_wp2_with fail
  go_ret
  exact HT.out _ H3.out.bel
 ·obtain ⟨a3,c3',rfl,hown3⟩:=hy hb
  obtain ⟨g3,rfl,hg3,hg3'⟩:=hown3.at_ (by simp)
  have HT:=Lib.hid (HTY.out hb)
  obtain ⟨y0,hy0⟩ : ∃ y,Hid (y = ((numI w1 : Nat) : Int)):=⟨_,Lib.hid rfl⟩
  obtain ⟨y1,hy1⟩ : ∃ y,Hid (y = ((numI w2 : Nat) : Int)):=⟨_,Lib.hid rfl⟩
  have m0 : W3.cell? ⟨g3,0,none⟩ = some (.int .i64 y0):=by rw [hy0.out];exact hown3.cell 0 _ rfl
  have m1 : W3.cell? ⟨g3,1,none⟩ = some (.int .i64 y1):=by rw [hy1.out];exact hown3.cell 1 _ rfl
  rw [← hy0.out,← hy1.out] at HT
  have hsz:=hb3.size
  have hrb:=H3.out.ob.lt
  have hB3:=H3.out.bel.size
  have c0:=(H3.out).ob.cell 0 _ rfl;have c1:=(H3.out).ob.cell 1 _ rfl;have c2:=(H3.out).ob.cell 2 _ rfl;have c3:=(H3.out).ob.cell 3 _ rfl;have c4:=(H3.out).ob.cell 4 _ rfl;have c5:=(H3.out).ob.cell 5 _ rfl;have c6:=(H3.out).ob.cell 6 _ rfl;have c7:=(H3.out).ob.cell 7 _ rfl;have c8:=(H3.out).ob.cell 8 _ rfl
  have hfew:=hn.2.2.2.2
  have f5:=H3.out.ob.free 5
  clear hy hno hb3 hb hown3 HTY HTN
  go_wp2_with fail
  go_region_law (refine step_own rfl (.tmp 68) (.tmp 76) 27 rfl w.heap.size 139 i0 _ 2 16 Tryz.underlying27 hi0 hz0 hz1 hz2 rfl (by omega) c.s.a c.s.l.length c.s.cap (iF c.s.l) rfl (H3.out.s.below ((Below.refl _ _).drew.alloc (Nat.le_refl _) _)) W3.heap.size (ivs [y0,y1]) rfl (new_block _ _ _ rfl) rfl (by simp [ivs,Value.oneCell']) (by simp only [maxLen];omega) (by omega) (by simp;omega) ?_;intro g' cap' W4 hown hmod hat;have h4:=(H3.out.ob.below ((Below.refl _ _).drew.alloc (Nat.le_refl _) _)).mod hmod (H3.out.s.ne H3.out.ob (by decide));have d0:=h4.cell 5 _ rfl;have e0:=h4.free 5)
  all_goals
   go_wp2_with fail
   go_ret
   refine HT.out _ _ rfl (H3.out.addS (c':=cap') (row:=[y0,y1]) ((Below.refl _ _).drew.alloc (Nat.le_refl _) _) hown hmod rfl)
theorem plain_gate (w : World) (rb : Nat) (c : Cv) (last : Int) (w0 w1 w2 : List UInt8) (hsm : ∀ x ∈ [w0,w1,w2],x.length ≤ 100000000) (g off cap : Nat) (W : World) (h : RD w rb c last W) (hg : g < W.heap.size)
  (hr : ∀ j (hj : j < 3),W.cell? ⟨g,off + j,none⟩ = some (.string (ba ([w0,w1,w2].getD j [])))) (hcap : 3 ≤ cap) (hmx : cap ≤ maxLen) (hn : FewC c) :
  Calls Tryz.prog 83 #[.pointer (some ⟨rb,0,none⟩),.int .i64 6,.slice (some ⟨g,off,none⟩) 3 cap] W (TkPost w rb c last 6 [w0,w1,w2] W):=by
 unfold maxLen at hmx
 have H:=Lib.hid h
 have hB:=h.bel.size
 have hrd : Rd W 1 (some ⟨g,off + 1,none⟩) 2 (strC [w1,w2]):=by
  refine ⟨rfl,(fun h0=>by cases h0),fun p hp _=>?_⟩
  injection hp with hp
  subst hp
  refine ⟨g,off + 1,rfl,hg,fun j u hu=>?_⟩
  rcases (by have:=(List.getElem?_eq_some_iff.1 hu).1;simp [strC] at this;omega : j = 0 ∨ j = 1) with rfl | rfl
  ·injection hu with hu;rw [← hu];exact hr 1 (by omega)
  ·injection hu with hu;rw [← hu];exact hr 2 (by omega)
 have HNB : Hid (Calls Tryz.prog 125 #[.slice (some ⟨g,off + 1,none⟩) 2 (cap - 1)] W (NmPost [w1,w2] W)):=numbers_any (some ⟨g,off + 1,none⟩) (cap - 1) [w1,w2] (fun y hy=>hsm y (List.mem_cons_of_mem _ hy)) (by simp) W hrd
 have HTN : Hid (nmsB [w1,w2] = false → ∀ w',Below w.heap.size w w' → TkPost w rb c last 6 [w0,w1,w2] W (.returned (.bool false)) w'):=fun hb w' hbe=>tk_no (by unfold rowV;simp [hb]) hbe
 have HTY : Hid (nmsB [w1,w2] = true → ∀ (w' : World) (c' : Cv),pcOf c' = setV (pcOf c) 6 [(numI w1 : Nat),(numI w2 : Nat)] → RD w rb c' last w' → TkPost w rb c last 6 [w0,w1,w2] W (.returned (.bool true)) w'):=fun hb w' c' hc hr=>tk_yes (by unfold rowV;simp [hb,nmsL]) hc hr
 have hc1 : ¬ cap = 1:=by omega
 clear hr hsm hrd h
 go_enter Tryz.func83,Tryz.ntmps83
 go_wp2_with fail
 refine HNB.out.mono ?_
 intro e W3 h3
 obtain ⟨hy,hno,hb3⟩:=h3
 have H3:=Lib.hid (H.out.more hb3)
 cases hb : nmsB [w1,w2]
 ·obtain rfl:=hno hb
  have HT:=Lib.hid (HTN.out hb)
  clear hy hno hb3 hb
  go_wp2_with fail
  go_ret
  exact HT.out _ H3.out.bel
 ·obtain ⟨a3,c3',rfl,hown3⟩:=hy hb
  obtain ⟨g3,rfl,hg3,hg3'⟩:=hown3.at_ (by simp)
  have HT:=Lib.hid (HTY.out hb)
  obtain ⟨y0,hy0⟩ : ∃ y,Hid (y = ((numI w1 : Nat) : Int)):=⟨_,Lib.hid rfl⟩
  obtain ⟨y1,hy1⟩ : ∃ y,Hid (y = ((numI w2 : Nat) : Int)):=⟨_,Lib.hid rfl⟩
  have m0 : W3.cell? ⟨g3,0,none⟩ = some (.int .i64 y0):=by rw [hy0.out];exact hown3.cell 0 _ rfl
  have m1 : W3.cell? ⟨g3,1,none⟩ = some (.int .i64 y1):=by rw [hy1.out];exact hown3.cell 1 _ rfl
  rw [← hy0.out,← hy1.out] at HT
  have hsz:=hb3.size
  have hrb:=H3.out.ob.lt
  have hB3:=H3.out.bel.size
  have c0:=(H3.out).ob.cell 0 _ rfl;have c1:=(H3.out).ob.cell 1 _ rfl;have c2:=(H3.out).ob.cell 2 _ rfl;have c3:=(H3.out).ob.cell 3 _ rfl;have c4:=(H3.out).ob.cell 4 _ rfl;have c5:=(H3.out).ob.cell 5 _ rfl;have c6:=(H3.out).ob.cell 6 _ rfl;have c7:=(H3.out).ob.cell 7 _ rfl;have c8:=(H3.out).ob.cell 8 _ rfl
  have f6:=H3.out.ob.free 6
  have f7:=H3.out.ob.free 7
  clear hy hno hb3 hb hown3 HTY HTN
  go_wp2_with fail
  have HD:=Lib.hid (H3.out.more (Below.refl _ _).drew)
  go_region
  all_goals
   go_wp2_with fail
   go_ret
   exact HT.out _ _ rfl (HD.out.setGate y0 y1)
end Go.Proofs.YtoklonmiejdgmaaGreatDoor
