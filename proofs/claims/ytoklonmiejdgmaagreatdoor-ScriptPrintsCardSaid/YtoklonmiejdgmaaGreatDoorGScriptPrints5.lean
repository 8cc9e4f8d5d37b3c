/- Package plan: Parse. -/
import Derived.Test.YtoklonmiejdgmaaGreatDoorGScriptPrints3
import Derived.Test.YtoklonmiejdgmaaGreatDoorGScriptPrints4
import Derived.Test.YtoklonmiejdgmaaGreatDoorGScriptPrints0
import Derived.Lib.ItoaNum
import Derived.Lib.ItoaMem
import Derived.Lib.ItoaLen
import Derived.Test.YtoklonmiejdgmaaGreatDoorGScriptPrints1
import Derived.Lib.Walk
import Derived.Lib.OthersKept
import Derived.Lib.QuietBelow
import Derived.Deep.RegionHeld3
import Derived.Lib.FrozenHead2
import Derived.WalkSmall
import Derived.Laws.MakeOwn
namespace Go.Proofs.YtoklonmiejdgmaaGreatDoor
set_option linter.unusedVariables false
set_option linter.unusedSimpArgs false
set_option linter.unnecessarySimpa false
open Go.RowKit Go.Sort
set_option maxHeartbeats 4000000
set_option maxRecDepth 100000
set_option linter.unusedVariables false
def slE (l : List (List Int)) : Sl:=⟨none,0,l⟩
def cvOf (c : Pc) : Cv:=⟨c.cats,slE c.g,slE c.r,slE c.p,slE c.n,slE c.s,c.gate,c.quota⟩
def chkP (c : Pc) : Int:=(chkV (cvOf c)).1
theorem stRg_pc (c : Cv) : ∀ i,stRg c i = stRg (cvOf (pcOf c)) i
 | 0=>rfl
 | i + 1=>by unfold stRg;rw [stRg_pc c i];rfl
theorem rBad_pc (c : Cv) : rBad c = rBad (cvOf (pcOf c)):=by
 funext i
 unfold rBad
 rw [stRg_pc c i];rfl
theorem rFst_pc (c : Cv) : rFst c = rFst (cvOf (pcOf c)):=by
 unfold rFst;rw [rBad_pc];rfl
theorem rule_pc (c : Cv) (k : Nat) : ruleV c k = ruleV (cvOf (pcOf c)) k:=by
 unfold ruleV
 split
 ·rfl
 ·exact rFst_pc c
 ·rfl
 ·rfl
 ·rfl
 ·rfl
theorem chk_pc (c : Cv) : chkV c = chkV (cvOf (pcOf c)):=by
 have e : (fun k=>(ruleV c k).2) = fun k=>(ruleV (cvOf (pcOf c)) k).2:=funext fun k=>by rw [rule_pc]
 by_cases h : c.cats < 0 ∨ 8 < c.cats
 ·rw [chkV,chkV,if_pos h,if_pos (show (cvOf (pcOf c)).cats < 0 ∨ 8 < (cvOf (pcOf c)).cats from h)]
 ·rw [chkV,chkV,if_neg h,if_neg (show ¬ ((cvOf (pcOf c)).cats < 0 ∨ 8 < (cvOf (pcOf c)).cats) from h),e]
  split
  ·rw [rule_pc]
  ·rfl
theorem chkP_of (c : Cv) : (chkV c).1 = chkP (pcOf c):=by rw [chk_pc];rfl
def pcZ : Pc:=⟨0,[],[],[],[],[],0,0⟩
def pcN : Pc:=⟨0,[],[],[],[],[],-1,0⟩
def cvN : Cv:=cvOf pcN
def cvZ : Cv:=cvOf pcZ
/-- What k lines leave. -/
def stP (L : List (List UInt8)) : Nat → Option (Pc × Int)
 | 0=>some (pcN,-1)
 | k + 1=>(stP L k).bind fun st=>lineV st.1 st.2 (decide (k = 0)) (L.getD k [])
def badP (L : List (List UInt8)) : Option Nat:=(List.range L.length).find? fun k=>(stP L (k + 1)).isNone
def endP (L : List (List UInt8)) : Pc × Int × Int:=match stP L L.length with
 | some st=>if chkP st.1 = 0 then (st.1,0,0) else (pcZ,chkP st.1,0)
 | none=>(pcZ,6,0)
def psV (s : List UInt8) : Pc × Int × Int:=
 if 16384 < s.length then (pcZ,10,0) else
 match badP (fieldsC 10 s).dropLast with
 | some k=>(pcZ,6,(k : Int) + 1)
 | none=>if (fieldsC 10 s).dropLast.length = 0 ∨ (fieldsC 10 s).getLast? ≠ some [] then (pcZ,6,((fieldsC 10 s).dropLast.length : Int) + 1) else endP (fieldsC 10 s).dropLast
theorem stP_mono {L : List (List UInt8)} {k : Nat} (h : stP L k = none) : ∀ j,k ≤ j → stP L j = none:=by
 intro j hj
 induction j with
 | zero=>rw [show k = 0 by omega] at h;exact h
 | succ j ih=>
  by_cases e : k = j + 1
  ·subst e;exact h
  ·unfold stP;rw [ih (by omega)];rfl
theorem badP_some {L : List (List UInt8)} {k : Nat} (hk : k < L.length) (h0 : stP L k ≠ none) (h1 : stP L (k + 1) = none) : badP L = some k:=by
 rw [badP,List.find?_range_eq_some]
 refine ⟨by simp [h1],List.mem_range.2 hk,fun j hj=>?_⟩
 cases hx : stP L (j + 1) with
 | none=>exact absurd (stP_mono hx k (by omega)) h0
 | some v=>rfl
theorem badP_none {L : List (List UInt8)} (h : stP L L.length ≠ none) : badP L = none:=by
 rw [badP,List.find?_eq_none]
 intro j hj
 have hj:=List.mem_range.1 hj
 cases hx : stP L (j + 1) with
 | none=>exact absurd (stP_mono hx _ (by omega)) h
 | some v=>simp
theorem psV_long {s : List UInt8} (h : 16384 < s.length) : psV s = (pcZ,10,0):=by rw [psV,if_pos h]
theorem psV_bad {s : List UInt8} {k : Nat} (h : ¬ 16384 < s.length) (hk : badP (fieldsC 10 s).dropLast = some k) : psV s = (pcZ,6,(k : Int) + 1):=by rw [psV,if_neg h,hk]
theorem psV_none {s : List UInt8} (h : ¬ 16384 < s.length) (hk : badP (fieldsC 10 s).dropLast = none) (he : (fieldsC 10 s).dropLast.length = 0 ∨ (fieldsC 10 s).getLast? ≠ some []) : psV s = (pcZ,6,((fieldsC 10 s).dropLast.length : Int) + 1):=by
 rw [psV,if_neg h,hk];simp only;rw [if_pos he]
theorem psV_end {s : List UInt8} (h : ¬ 16384 < s.length) (hk : badP (fieldsC 10 s).dropLast = none) (he : ¬ ((fieldsC 10 s).dropLast.length = 0 ∨ (fieldsC 10 s).getLast? ≠ some [])) : psV s = endP (fieldsC 10 s).dropLast:=by
 rw [psV,if_neg h,hk];simp only;rw [if_neg he]
theorem endP_no {L : List (List UInt8)} {c : Pc} {l : Int} (h : stP L L.length = some (c,l)) (he : chkP c ≠ 0) : endP L = (pcZ,chkP c,0):=by rw [endP,h];simp only;rw [if_neg he]
theorem endP_yes {L : List (List UInt8)} {c : Pc} {l : Int} (h : stP L L.length = some (c,l)) (he : chkP c = 0) : endP L = (c,0,0):=by rw [endP,h];simp only;rw [if_pos he]
/-- At most k of each. -/
def LenP (k : Nat) (c : Pc) : Prop:=c.g.length ≤ k ∧ c.r.length ≤ k ∧ c.p.length ≤ k ∧ c.n.length ≤ k ∧ c.s.length ≤ k
theorem setV_len {k : Nat} {c : Pc} (h : LenP k c) (j : Nat) (row : List Int) : LenP (k + 1) (setV c j row):=by
 obtain ⟨h1,h2,h3,h4,h5⟩:=h
 unfold setV LenP
 split <;> simp only [List.length_append,List.length_singleton] <;> refine ⟨?_,?_,?_,?_,?_⟩ <;> omega
theorem lineV_len {k : Nat} {c c' : Pc} {last last' : Int} {b : Bool} {s : List UInt8} (h : LenP k c) (he : lineV c last b s = some (c',last')) : LenP (k + 1) c':=by
 unfold lineV at he
 split at he
 ·rw [Option.map_eq_some_iff] at he
  obtain ⟨row,_,e⟩:=he
  injection e with e1 e2
  rw [← e1];exact setV_len h _ _
 ·cases he
theorem slE_nil (W : World) (N : Nat) : SlOk W N (slE []):=⟨⟨by simp [slE,iF],fun _=>rfl,fun p hp=>by cases hp⟩,Nat.le_refl _,by unfold maxLen slE;simp,fun r hr=>by cases hr⟩
theorem cvZ_ok (W : World) : CfgOk W cvZ:=⟨slE_nil W 3,slE_nil W 3,slE_nil W 2,slE_nil W 2,slE_nil W 2⟩
/-- The lists lie in blocks from B on. -/
def NewC (B : Nat) (c : Cv) : Prop:=∀ s ∈ [c.g.a,c.r.a,c.p.a,c.n.a,c.s.a],∀ k ∈ blk s,B ≤ k
def PsPostN (s : List UInt8) (w : World) (e : Ending) (w' : World) : Prop:=
 ∃ c : Cv,NewC w.heap.size c ∧ e = .returned (.tuple #[(.agg #[.int .i64 c.cats,.slice c.g.a c.g.l.length c.g.cap,.slice c.r.a c.r.l.length c.r.cap,.slice c.p.a c.p.l.length c.p.cap,.slice c.n.a c.n.l.length c.n.cap,.slice c.s.a c.s.l.length c.s.cap,.int .i64 c.gate,.int .i64 c.quota]),.int .i64 (psV s).2.1,.int .i64 (psV s).2.2]) ∧ CfgOk w' c ∧ pcOf c = (psV s).1 ∧ Below w.heap.size w w'
theorem psn_zero {s : List UInt8} {w w' : World} {e at_ : Int} (h : psV s = (pcZ,e,at_)) (hb : Below w.heap.size w w') : PsPostN s w (.returned (.tuple #[.agg #[.int .i64 0,.slice none 0 0,.slice none 0 0,.slice none 0 0,.slice none 0 0,.slice none 0 0,.int .i64 0,.int .i64 0],.int .i64 e,.int .i64 at_])) w':=
 ⟨cvZ,fun s hs k hk=>by simp [cvZ,cvOf,slE] at hs;subst hs;simp [blk] at hk,by rw [h];rfl,cvZ_ok w',by rw [h];rfl,hb⟩
theorem psn_good {s : List UInt8} {w w' : World} {c : Cv} (h : psV s = (pcOf c,0,0)) (hc : CfgOk w' c) (hn : NewC w.heap.size c) (hb : Below w.heap.size w w') : PsPostN s w (.returned (.tuple #[(.agg #[.int .i64 c.cats,.slice c.g.a c.g.l.length c.g.cap,.slice c.r.a c.r.l.length c.r.cap,.slice c.p.a c.p.l.length c.p.cap,.slice c.n.a c.n.l.length c.n.cap,.slice c.s.a c.s.l.length c.s.cap,.int .i64 c.gate,.int .i64 c.quota]),.int .i64 0,.int .i64 0])) w':=
 ⟨c,hn,by rw [h],hc,by rw [h],hb⟩
theorem RD.newc {w W : World} {rb : Nat} {c : Cv} {last : Int} {B : Nat} (h : RD w rb c last W) (hB : B ≤ w.heap.size) : NewC B c:=fun s hs k hk=>by
 simp only [List.mem_cons,List.not_mem_nil,or_false] at hs
 rcases hs with rfl | rfl | rfl | rfl | rfl
 ·exact Nat.le_trans hB (h.g.ge k hk).1
 ·exact Nat.le_trans hB (h.r.ge k hk).1
 ·exact Nat.le_trans hB (h.p.ge k hk).1
 ·exact Nat.le_trans hB (h.n.ge k hk).1
 ·exact Nat.le_trans hB (h.s.ge k hk).1
theorem rd_start (W : World) : RD W W.heap.size cvN (-1) (W.alloc (.cells #[.int .i64 0,.slice none 0 0,.slice none 0 0,.slice none 0 0,.slice none 0 0,.slice none 0 0,.int .i64 (-1),.int .i64 0,.int .i64 (-1)] 106)):=
 ⟨(Below.refl _ _).alloc (Nat.le_refl _) _,Nat.le_refl _,ObjAt.new W _ [.int .i64 0,.slice none 0 0,.slice none 0 0,.slice none 0 0,.slice none 0 0,.slice none 0 0,.int .i64 (-1),.int .i64 0,.int .i64 (-1)],Own.nil _ _ _ _,Own.nil _ _ _ _,Own.nil _ _ _ _,Own.nil _ _ _ _,Own.nil _ _ _ _,(fun x hx=>by cases hx),(fun x hx=>by cases hx),(fun x hx=>by cases hx),(fun x hx=>by cases hx),(fun x hx=>by cases hx)⟩
theorem ln_out {w : World} {rb : Nat} {c : Cv} {last : Int} {b : Bool} {s : List UInt8} {e : Ending} {w' : World} (h : LnPost w rb c last b s e w') :
  (e = .returned (.bool false) ∧ lineV (pcOf c) last b s = none ∧ Below w.heap.size w w') ∨ (e = .returned (.bool true) ∧ ∃ c' l',lineV (pcOf c) last b s = some (pcOf c',l') ∧ RD w rb c' l' w'):=by
 unfold LnPost at h
 cases hv : lineV (pcOf c) last b s with
 | none=>rw [hv] at h;exact Or.inl ⟨h.1,rfl,h.2⟩
 | some r=>rw [hv] at h;obtain ⟨h1,c',h2,h3⟩:=h;exact Or.inr ⟨h1,c',r.2,by rw [h2],h3⟩
/-- The reader after k lines. -/
structure QP (L : List (List UInt8)) (w1 : World) (rb k : Nat) (c : Cv) (last : Int) (W : World) : Prop where
 st : stP L k = some (pcOf c,last)
 len : LenP k (pcOf c)
 rd : RD w1 rb c last W
theorem QP.few {L : List (List UInt8)} {w1 W : World} {rb k : Nat} {c : Cv} {last : Int} (h : QP L w1 rb k c last W) (hk : k ≤ 100000) : FewC c:=by
 have h1 : c.g.l.length ≤ k:=h.len.1
 have h2 : c.r.l.length ≤ k:=h.len.2.1
 have h3 : c.p.l.length ≤ k:=h.len.2.2.1
 have h4 : c.n.l.length ≤ k:=h.len.2.2.2.1
 have h5 : c.s.l.length ≤ k:=h.len.2.2.2.2
 exact ⟨by omega,by omega,by omega,by omega,by omega⟩
theorem QP.next {L : List (List UInt8)} {w1 W : World} {rb k : Nat} {c : Cv} {last : Int} {x : List UInt8} (h : QP L w1 rb k c last W) (hx : L.getD k [] = x) {c' : Cv} {l' : Int} (he : lineV (pcOf c) last (decide (k = 0)) x = some (pcOf c',l')) {W' : World} (hr : RD w1 rb c' l' W') : QP L w1 rb (k + 1) c' l' W':=
 ⟨by unfold stP;rw [h.st];simp only [Option.bind_some];rw [hx];exact he,lineV_len h.len he,hr⟩
theorem QP.stop {L : List (List UInt8)} {w1 W : World} {rb k : Nat} {c : Cv} {last : Int} {x : List UInt8} (h : QP L w1 rb k c last W) (hx : L.getD k [] = x) (he : lineV (pcOf c) last (decide (k = 0)) x = none) : stP L k ≠ none ∧ stP L (k + 1) = none:=
 ⟨by rw [h.st];simp,by unfold stP;rw [h.st];simp only [Option.bind_some];rw [hx];exact he⟩
theorem RD.other {w W W' : World} {rb b : Nat} {c : Cv} {last : Int} {cs : List Value} (h : RD w rb c last W) (ho : ObjAt W b 29 cs) (hu : Upd b W W') : CfgOk W' c:=
 have g:=h.g.upd hu (h.g.ne ho (by decide))
 have r:=h.r.upd hu (h.r.ne ho (by decide))
 have p:=h.p.upd hu (h.p.ne ho (by decide))
 have n:=h.n.upd hu (h.n.ne ho (by decide))
 have s:=h.s.upd hu (h.s.ne ho (by decide))
 ⟨⟨g.rd,g.le,g.capMax,h.lg⟩,⟨r.rd,r.le,r.capMax,h.lr⟩,⟨p.rd,p.le,p.capMax,h.lp⟩,⟨n.rd,n.le,n.capMax,h.ln⟩,⟨s.rd,s.le,s.capMax,h.ls⟩⟩
theorem upd_put {b k : Nat} {x y : World} {v : Value} (h : Upd b x y) : Upd b x (y.setCell ⟨b,k,none⟩ v):=h.trans (Upd.setCell y ⟨b,k,none⟩ v)
theorem pparse_new (s : ByteArray) (hs : s.size ≤ maxLen) (w : World) (hT : WdTab w) : Calls Tryz.prog 23 #[.string s] w (PsPostN s.data.toList w):=by
 obtain ⟨l,hl⟩ : ∃ l,l = s.data.toList:=⟨_,rfl⟩
 have hsl : l.length = s.size:=by rw [hl,ba_len]
 rw [← hl]
 obtain ⟨w0,hw0⟩ : ∃ w0,w0 = w.alloc (.cells #[.int .i64 0,.slice none 0 0,.slice none 0 0,.slice none 0 0,.slice none 0 0,.slice none 0 0,.int .i64 0,.int .i64 0] 29):=⟨_,rfl⟩
 have HO0 : Hid (ObjAt w0 w.heap.size 29 #[.int .i64 0,.slice none 0 0,.slice none 0 0,.slice none 0 0,.slice none 0 0,.slice none 0 0,.int .i64 0,.int .i64 0].toList):=by rw [hw0];exact ObjAt.new w _ _
 have HB0 : Hid (Below w.heap.size w w0):=by rw [hw0];exact (Below.refl _ _).alloc (Nat.le_refl _) _
 have HW0:=Lib.hid hw0
 obtain ⟨P,hP⟩ : ∃ P,P = PsPostN l w:=⟨_,rfl⟩
 have HZ : Hid (∀ e at_ w',psV l = (pcZ,e,at_) → Below w.heap.size w w' → P (.returned (.tuple #[.agg #[.int .i64 0,.slice none 0 0,.slice none 0 0,.slice none 0 0,.slice none 0 0,.slice none 0 0,.int .i64 0,.int .i64 0],.int .i64 e,.int .i64 at_])) w'):=fun e at_ w' h hb=>by rw [hP];exact psn_zero h hb
 have HG : Hid (∀ c w',psV l = (pcOf c,0,0) → CfgOk w' c → NewC w.heap.size c → Below w.heap.size w w' → P (.returned (.tuple #[(.agg #[.int .i64 c.cats,.slice c.g.a c.g.l.length c.g.cap,.slice c.r.a c.r.l.length c.r.cap,.slice c.p.a c.p.l.length c.p.cap,.slice c.n.a c.n.l.length c.n.cap,.slice c.s.a c.s.l.length c.s.cap,.int .i64 c.gate,.int .i64 c.quota]),.int .i64 0,.int .i64 0])) w'):=fun c w' h hc hn hb=>by rw [hP];exact psn_good h hc hn hb
 rw [← hP]
 clear hP hw0
 unfold maxLen at hs
 by_cases h16 : 16384 < s.size
 ·have d1 : decide ((s.size : Int) > 16384) = true:=decide_eq_true (by omega)
  have d1' : decide (16384 < s.size) = true:=decide_eq_true h16
  have HZ:=fun w' h=>Lib.hid (HZ.out 10 0 w' (psV_long (by omega)) h)
  clear h16 hl hsl hT HG
  go_enter Tryz.func23,Tryz.ntmps23
  go_upto_region 1 with fail
  rw [← HW0.out]
  have hO0:=HO0.out
  have s6:=hO0.lt
  have a0:=(hO0).cell 0 _ rfl;have a1:=(hO0).cell 1 _ rfl;have a2:=(hO0).cell 2 _ rfl;have a3:=(hO0).cell 3 _ rfl;have a4:=(hO0).cell 4 _ rfl;have a5:=(hO0).cell 5 _ rfl;have a6:=(hO0).cell 6 _ rfl;have a7:=(hO0).cell 7 _ rfl;have g0:=(hO0).free 0;have g1:=(hO0).free 1;have g2:=(hO0).free 2;have g3:=(hO0).free 3;have g4:=(hO0).free 4;have g5:=(hO0).free 5;have g6:=(hO0).free 6;have g7:=(hO0).free 7
  clear hO0
  go_wp2_with fail
  (refine bodyPost_ret (v:=.tuple #[.agg #[.int .i64 0,.slice none 0 0,.slice none 0 0,.slice none 0 0,.slice none 0 0,.slice none 0 0,.int .i64 0,.int .i64 0],.int .i64 10,.int .i64 0]) (by simp [results,Tryz.results23,go_sem,a0,a1,a2,a3,a4,a5,a6,a7,s6]) rfl ?_)
  exact (HZ _ ((((((((HB0.out.setCell (Nat.le_refl _) _).setCell (Nat.le_refl _) _).setCell (Nat.le_refl _) _).setCell (Nat.le_refl _) _).setCell (Nat.le_refl _) _).setCell (Nat.le_refl _) _).setCell (Nat.le_refl _) _).setCell (Nat.le_refl _) _)).out
 ·have d1 : decide ((s.size : Int) > 16384) = false:=decide_eq_false (by omega)
  have d1' : decide (16384 < s.size) = false:=decide_eq_false h16
  obtain ⟨F,hF⟩ : ∃ F,F = fieldsC 10 l:=⟨_,rfl⟩
  have hne : F ≠ []:=by rw [hF];exact fieldsC_ne 10 _
  have hfl : F.length ≤ s.size + 1:=by
   rw [hF,fieldsC_len,← hsl]
   have:=List.count_le_length (a:=(10 : UInt8)) (l:=l);omega
  obtain ⟨L,hL⟩ : ∃ L,L = F.dropLast:=⟨_,rfl⟩
  obtain ⟨m,hm⟩ : ∃ m,F.length = m + 1:=by cases F with
   | nil=>exact absurd rfl hne
   | cons x r=>exact ⟨r.length,rfl⟩
  obtain ⟨x,hx⟩ : ∃ x,F[m]? = some x:=⟨_,List.getElem?_eq_getElem (by omega)⟩
  have hLm : L.length = m:=by rw [hL,List.length_dropLast,hm];rfl
  have hlast : F.getLast? = some x:=by rw [List.getLast?_eq_getElem?,hm];exact hx
  have HBAD : Hid (∀ k w',k < m → stP L k ≠ none → stP L (k + 1) = none → Below w.heap.size w w' → P (.returned (.tuple #[.agg #[.int .i64 0,.slice none 0 0,.slice none 0 0,.slice none 0 0,.slice none 0 0,.slice none 0 0,.int .i64 0,.int .i64 0],.int .i64 6,.int .i64 ((k : Int) + 1)])) w'):=fun k w' hk h0 h1 hb=>
   HZ.out _ _ _ (psV_bad (by omega) (by rw [← hF,← hL];exact badP_some (by omega) h0 h1)) hb
  have HNO : Hid (∀ w',stP L m ≠ none → (m = 0 ∨ x ≠ []) → Below w.heap.size w w' → P (.returned (.tuple #[.agg #[.int .i64 0,.slice none 0 0,.slice none 0 0,.slice none 0 0,.slice none 0 0,.slice none 0 0,.int .i64 0,.int .i64 0],.int .i64 6,.int .i64 ((m : Int) + 1)])) w'):=fun w' h0 h1 hb=>
   HZ.out _ _ _ (by
    have:=psV_none (s:=l) (by omega) (by rw [← hF,← hL];exact badP_none (by rw [hLm];exact h0)) (by
     rw [← hF,← hL,hLm,hlast]
     rcases h1 with h1 | h1
     ·exact Or.inl h1
     ·exact Or.inr (by intro e;injection e with e;exact h1 e))
    rw [← hF,← hL,hLm] at this;exact this) hb
  have HPS : Hid (∀ c last,stP L m = some (pcOf c,last) → m ≠ 0 → x = [] → psV l = if chkP (pcOf c) = 0 then (pcOf c,0,0) else (pcZ,chkP (pcOf c),0)):=fun c last h0 h1 h2=>by
   rw [psV_end (by omega) (by rw [← hF,← hL];exact badP_none (by rw [hLm,h0];simp)) (by
    rw [← hF,← hL,hLm,hlast,h2];simp [h1]),← hF,← hL]
   split
   ·rename_i he;exact endP_yes (by rw [hLm];exact h0) he
   ·rename_i he;exact endP_no (by rw [hLm];exact h0) he
  have HEN : Hid (∀ w' c last,stP L m = some (pcOf c,last) → m ≠ 0 → x = [] → (chkV c).1 ≠ 0 → Below w.heap.size w w' → P (.returned (.tuple #[.agg #[.int .i64 0,.slice none 0 0,.slice none 0 0,.slice none 0 0,.slice none 0 0,.slice none 0 0,.int .i64 0,.int .i64 0],.int .i64 (chkV c).1,.int .i64 0])) w'):=fun w' c last h0 h1 h2 h3 hb=>
   HZ.out _ _ _ (by rw [HPS.out c last h0 h1 h2,← chkP_of,if_neg h3]) hb
  have HEY : Hid (∀ w' c last,stP L m = some (pcOf c,last) → m ≠ 0 → x = [] → (chkV c).1 = 0 → CfgOk w' c → NewC w.heap.size c → Below w.heap.size w w' → P (.returned (.tuple #[(.agg #[.int .i64 c.cats,.slice c.g.a c.g.l.length c.g.cap,.slice c.r.a c.r.l.length c.r.cap,.slice c.p.a c.p.l.length c.p.cap,.slice c.n.a c.n.l.length c.n.cap,.slice c.s.a c.s.l.length c.s.cap,.int .i64 c.gate,.int .i64 c.quota]),.int .i64 0,.int .i64 0])) w'):=fun w' c last h0 h1 h2 h3 hc hn hb=>
   HG.out c w' (by rw [HPS.out c last h0 h1 h2,← chkP_of,if_pos h3]) hc hn hb
  have HGET : Hid (∀ k (hk : k < m),∃ y,F[k]? = some y ∧ L.getD k [] = y ∧ y.length ≤ 100000):=fun k hk=>by
   have h1 : k < F.length:=by omega
   refine ⟨F[k],List.getElem?_eq_getElem h1,?_,?_⟩
   ·rw [List.getD_eq_getElem?_getD,hL,List.getElem?_eq_getElem (by rw [List.length_dropLast];omega),List.getElem_dropLast];rfl
   ·have:=(fieldsC_mem 10 l F[k] (by rw [← hF];exact List.getElem_mem h1)).2
    omega
  have HSP : Hid (Calls Tryz.prog 48 #[.string s,.string ⟨#[10]⟩] w0 fun e w'=>e = .returned (.slice (some ⟨w0.heap.size,0,none⟩) F.length F.length) ∧ w' = w0.alloc (.cells (strC F).toArray 9)):=by
   have:=split1L s 10 w0 (by omega)
   rw [← hl,← hF] at this;exact this
  obtain ⟨w1,hw1⟩ : ∃ w1,w1 = w0.alloc (.cells (strC F).toArray 9):=⟨_,rfl⟩
  have HCELL : Hid (ObjAt w1 w0.heap.size 9 (strC F)):=by rw [hw1];exact ObjAt.new w0 9 (strC F)
  have HCX : w1.cell? ⟨w0.heap.size,m,none⟩ = some (.string (ba x)):=HCELL.out.cell m _ (by simp [strC,hx])
  have HB01 : Hid (Below w0.heap.size w0 w1):=by rw [hw1];exact (Below.refl _ _).alloc (Nat.le_refl _) _
  have HB1:=Lib.hid (bmore HB0.out HB01.out)
  have HLC : Hid (∀ k y,F[k]? = some y → w1.cell? ⟨w0.heap.size,k,none⟩ = some (.string (ba y))):=fun k y hy=>HCELL.out.cell k _ (by simp [strC,hy])
  have hblk:=HCELL.out.lt
  have HO1:=Lib.hid (HO0.out.below HB01.out)
  have HT1:=Lib.hid (hT.below HB1.out)
  rw [hm,← hw1] at HSP
  have hm2 : m ≤ 16384:=by omega
  have HR0:=Lib.hid (rd_start w1)
  have HQ0 : Hid (QP L w1 w1.heap.size 0 cvN (-1) (w1.alloc (.cells #[.int .i64 0,.slice none 0 0,.slice none 0 0,.slice none 0 0,.slice none 0 0,.slice none 0 0,.int .i64 (-1),.int .i64 0,.int .i64 (-1)] 106))):=⟨rfl,⟨by simp [pcOf,cvN,cvOf,pcN,slE],by simp [pcOf,cvN,cvOf,pcN,slE],by simp [pcOf,cvN,cvOf,pcN,slE],by simp [pcOf,cvN,cvOf,pcN,slE],by simp [pcOf,cvN,cvOf,pcN,slE]⟩,HR0.out⟩
  have w3 : IntKind.i64.wrap ((m : Int) + 1 - 1) = (m : Int):=by rw [IntKind.wrap_i64];omega
  clear hF hne hfl hL hm hx hLm hlast HPS hw1 HR0 h16 hl hsl hT HG HZ HB01 HO0 HCELL
  go_enter Tryz.func23,Tryz.ntmps23
  go_upto_region 1 with fail
  rw [← HW0.out]
  go_wp2_with fail
  refine HSP.out.mono ?_;rintro e w1 ⟨rfl,rfl⟩
  clear HSP
  go_wp2_with fail
  go_loopw [28] (fun i wr=>∃ (k : Nat) (c : Cv) (last : Int),k ≤ m ∧ i = .int .i64 k ∧ QP L w1 w1.heap.size k c last wr) (fun i _=>m - (intOf i).toNat)
  case atStart=>exact ⟨0,cvN,-1,by omega,rfl,HQ0.out⟩
  case round=>
   clear HQ0
   obtain ⟨k,c,last,hk,rfl,hq⟩:=hrel
   have HQ:=Lib.hid hq
   have HBW:=Lib.hid (bmore HB1.out hq.rd.bel)
   clear hq
   have w5 : IntKind.i64.wrap ((k : Int) + 1) = (k : Int) + 1:=by rw [IntKind.wrap_i64];omega
   by_cases hlt : k < m
   ·obtain ⟨y,hy,hyL,hys⟩:=HGET.out k hlt
    have hcr : wr.cell? ⟨w0.heap.size,k,none⟩ = some (.string (ba y)):=by
     rw [HQ.out.rd.bel.cell (p:=⟨w0.heap.size,k,none⟩) hblk];exact HLC.out k y hy
    have HLN : Hid (∀ b,b = decide (k = 0) → Calls Tryz.prog 53 #[.pointer (some ⟨w1.heap.size,0,none⟩),.string (ba y),.bool b] wr fun e w'=>(e = .returned (.bool false) ∧ stP L k ≠ none ∧ stP L (k + 1) = none ∧ Below w1.heap.size w1 w') ∨ (e = .returned (.bool true) ∧ ∃ c' l',QP L w1 w1.heap.size (k + 1) c' l' w')):=fun b hb=>by
     refine (line_any w1 w1.heap.size c last b y hys wr HQ.out.rd HT1.out (HQ.out.few (by omega))).mono ?_
     intro e w' h
     subst hb
     rcases ln_out h with ⟨h1,h2,h3⟩ | ⟨h1,c',l',h2,h3⟩
     ·exact Or.inl ⟨h1,(HQ.out.stop hyL h2).1,(HQ.out.stop hyL h2).2,h3⟩
     ·exact Or.inr ⟨h1,c',l',HQ.out.next hyL h2 h3⟩
    clear hy hyL hys
    go_wp2_with fail
    refine (HLN.out _ (by first | rfl | (rw [Bool.eq_iff_iff];simp))).mono ?_;intro e w3 h3
    rcases h3 with ⟨rfl,h1,h2,h4⟩ | ⟨rfl,c',l',h1⟩
    ·have HB3:=Lib.hid (bmore HB1.out h4)
     have HS:=Lib.hid h1
     have HS2:=Lib.hid h2
     have hO1:=HO1.out.below h4
     have s6:=hO1.lt
     have a0:=(hO1).cell 0 _ rfl;have a1:=(hO1).cell 1 _ rfl;have a2:=(hO1).cell 2 _ rfl;have a3:=(hO1).cell 3 _ rfl;have a4:=(hO1).cell 4 _ rfl;have a5:=(hO1).cell 5 _ rfl;have a6:=(hO1).cell 6 _ rfl;have a7:=(hO1).cell 7 _ rfl;have g0:=(hO1).free 0;have g1:=(hO1).free 1;have g2:=(hO1).free 2;have g3:=(hO1).free 3;have g4:=(hO1).free 4;have g5:=(hO1).free 5;have g6:=(hO1).free 6;have g7:=(hO1).free 7
     clear h1 h2 h4 hO1 HLN
     go_wp2_with fail
     (refine bodyPost_ret (v:=.tuple #[.agg #[.int .i64 0,.slice none 0 0,.slice none 0 0,.slice none 0 0,.slice none 0 0,.slice none 0 0,.int .i64 0,.int .i64 0],.int .i64 6,.int .i64 ((k : Int) + 1)]) (by simp [results,Tryz.results23,go_sem,a0,a1,a2,a3,a4,a5,a6,a7,s6]) rfl ?_)
     exact HBAD.out k _ hlt HS.out HS2.out ((((((((HB3.out.setCell (Nat.le_refl _) _).setCell (Nat.le_refl _) _).setCell (Nat.le_refl _) _).setCell (Nat.le_refl _) _).setCell (Nat.le_refl _) _).setCell (Nat.le_refl _) _).setCell (Nat.le_refl _) _).setCell (Nat.le_refl _) _)
    ·have HQ2:=Lib.hid h1
     clear h1 HLN
     go_wp2_with fail
     go_roundw
     case rel=>exact ⟨k + 1,c',l',by omega,by go_num,HQ2.out⟩
     case measure=>simp [intOf];omega
   ·obtain rfl : k = m:=by omega
    have hcr : wr.cell? ⟨w0.heap.size,k,none⟩ = some (.string (ba x)):=by
     rw [HQ.out.rd.bel.cell (p:=⟨w0.heap.size,k,none⟩) hblk];exact HCX
    have bx:=ba_isEmpty x
    have hO1:=HO1.out.below HQ.out.rd.bel
    have s6:=hO1.lt
    by_cases h0 : k = 0
    ·subst h0
     have a0:=(hO1).cell 0 _ rfl;have a1:=(hO1).cell 1 _ rfl;have a2:=(hO1).cell 2 _ rfl;have a3:=(hO1).cell 3 _ rfl;have a4:=(hO1).cell 4 _ rfl;have a5:=(hO1).cell 5 _ rfl;have a6:=(hO1).cell 6 _ rfl;have a7:=(hO1).cell 7 _ rfl;have g0:=(hO1).free 0;have g1:=(hO1).free 1;have g2:=(hO1).free 2;have g3:=(hO1).free 3;have g4:=(hO1).free 4;have g5:=(hO1).free 5;have g6:=(hO1).free 6;have g7:=(hO1).free 7
     clear bx hO1
     go_wp2_with fail
     (refine bodyPost_ret (v:=.tuple #[.agg #[.int .i64 0,.slice none 0 0,.slice none 0 0,.slice none 0 0,.slice none 0 0,.slice none 0 0,.int .i64 0,.int .i64 0],.int .i64 6,.int .i64 1]) (by simp [results,Tryz.results23,go_sem,a0,a1,a2,a3,a4,a5,a6,a7,s6]) rfl ?_)
     exact HNO.out _ (by rw [HQ.out.st];simp) (by simp) ((((((((HBW.out.setCell (Nat.le_refl _) _).setCell (Nat.le_refl _) _).setCell (Nat.le_refl _) _).setCell (Nat.le_refl _) _).setCell (Nat.le_refl _) _).setCell (Nat.le_refl _) _).setCell (Nat.le_refl _) _).setCell (Nat.le_refl _) _)
    ·have z1 : ((k : Int) == 0) = false:=by rw [beq_eq_false_iff_ne];omega
     have z2 : decide (k = 0) = false:=decide_eq_false h0
     cases hxe : x.isEmpty
     ·have HX : Hid (x ≠ []):=fun e=>by rw [e] at hxe;cases hxe
      rw [hxe] at bx
      have a0:=(hO1).cell 0 _ rfl;have a1:=(hO1).cell 1 _ rfl;have a2:=(hO1).cell 2 _ rfl;have a3:=(hO1).cell 3 _ rfl;have a4:=(hO1).cell 4 _ rfl;have a5:=(hO1).cell 5 _ rfl;have a6:=(hO1).cell 6 _ rfl;have a7:=(hO1).cell 7 _ rfl;have g0:=(hO1).free 0;have g1:=(hO1).free 1;have g2:=(hO1).free 2;have g3:=(hO1).free 3;have g4:=(hO1).free 4;have g5:=(hO1).free 5;have g6:=(hO1).free 6;have g7:=(hO1).free 7
      clear hxe hO1
      go_wp2_with fail
      (refine bodyPost_ret (v:=.tuple #[.agg #[.int .i64 0,.slice none 0 0,.slice none 0 0,.slice none 0 0,.slice none 0 0,.slice none 0 0,.int .i64 0,.int .i64 0],.int .i64 6,.int .i64 ((k : Int) + 1)]) (by simp [results,Tryz.results23,go_sem,a0,a1,a2,a3,a4,a5,a6,a7,s6]) rfl ?_)
      exact HNO.out _ (by rw [HQ.out.st];simp) (Or.inr HX.out) ((((((((HBW.out.setCell (Nat.le_refl _) _).setCell (Nat.le_refl _) _).setCell (Nat.le_refl _) _).setCell (Nat.le_refl _) _).setCell (Nat.le_refl _) _).setCell (Nat.le_refl _) _).setCell (Nat.le_refl _) _).setCell (Nat.le_refl _) _)
     ·have HX : Hid (x = []):=List.isEmpty_iff.1 hxe
      rw [hxe] at bx
      clear hxe
      obtain ⟨e0,he0⟩ : ∃ v,Hid (v = (chkV c).1):=⟨_,Lib.hid rfl⟩
      obtain ⟨e1,he1⟩ : ∃ v,Hid (v = (chkV c).2):=⟨_,Lib.hid rfl⟩
      have CHK : Hid (Calls Tryz.prog 54 #[(.agg #[.int .i64 c.cats,.slice c.g.a c.g.l.length c.g.cap,.slice c.r.a c.r.l.length c.r.cap,.slice c.p.a c.p.l.length c.p.cap,.slice c.n.a c.n.l.length c.n.cap,.slice c.s.a c.s.l.length c.s.cap,.int .i64 c.gate,.int .i64 c.quota])] wr fun e w'=>e = .returned (.tuple #[.int .i64 e0,.int .i64 e1]) ∧ Below wr.heap.size wr w'):=by
       rw [he0.out,he1.out];exact check_any c wr HQ.out.rd.cfg
      have q0:=HQ.out.rd.ob.cell 0 _ rfl
      have q1:=HQ.out.rd.ob.cell 1 _ rfl
      have q2:=HQ.out.rd.ob.cell 2 _ rfl
      have q3:=HQ.out.rd.ob.cell 3 _ rfl
      have q4:=HQ.out.rd.ob.cell 4 _ rfl
      have q5:=HQ.out.rd.ob.cell 5 _ rfl
      have q6:=HQ.out.rd.ob.cell 6 _ rfl
      have q7:=HQ.out.rd.ob.cell 7 _ rfl
      clear hO1 s6
      go_wp2_with fail
      refine CHK.out.mono ?_;rintro e w4 ⟨rfl,h4⟩
      have HQ4:=Lib.hid (HQ.out.rd.more h4)
      have HB4:=Lib.hid (bmore HB1.out HQ4.out.bel)
      have hO1:=HO1.out.below HQ4.out.bel
      have s6:=hO1.lt
      have HO4:=Lib.hid hO1
      have a0:=(hO1).cell 0 _ rfl;have a1:=(hO1).cell 1 _ rfl;have a2:=(hO1).cell 2 _ rfl;have a3:=(hO1).cell 3 _ rfl;have a4:=(hO1).cell 4 _ rfl;have a5:=(hO1).cell 5 _ rfl;have a6:=(hO1).cell 6 _ rfl;have a7:=(hO1).cell 7 _ rfl;have g0:=(hO1).free 0;have g1:=(hO1).free 1;have g2:=(hO1).free 2;have g3:=(hO1).free 3;have g4:=(hO1).free 4;have g5:=(hO1).free 5;have g6:=(hO1).free 6;have g7:=(hO1).free 7
      clear hO1 h4 q0 q1 q2 q3 q4 q5 q6 q7 CHK
      by_cases hz : e0 = 0
      ·subst hz
       have q0:=HQ4.out.ob.cell 0 _ rfl
       have q1:=HQ4.out.ob.cell 1 _ rfl
       have q2:=HQ4.out.ob.cell 2 _ rfl
       have q3:=HQ4.out.ob.cell 3 _ rfl
       have q4:=HQ4.out.ob.cell 4 _ rfl
       have q5:=HQ4.out.ob.cell 5 _ rfl
       have q6:=HQ4.out.ob.cell 6 _ rfl
       have q7:=HQ4.out.ob.cell 7 _ rfl
       go_wp2_with fail
       refine bodyPost_ret (v:=.tuple #[(.agg #[.int .i64 c.cats,.slice c.g.a c.g.l.length c.g.cap,.slice c.r.a c.r.l.length c.r.cap,.slice c.p.a c.p.l.length c.p.cap,.slice c.n.a c.n.l.length c.n.cap,.slice c.s.a c.s.l.length c.s.cap,.int .i64 c.gate,.int .i64 c.quota]),.int .i64 0,.int .i64 0]) (by simp [results,Tryz.results23,go_sem,a0,a1,a2,a3,a4,a5,a6,a7,s6]) rfl ?_
       refine HEY.out _ c last HQ.out.st h0 HX.out he0.out.symm ?_ (HQ4.out.newc HB1.out.size) ?_
       ·exact HQ4.out.other HO4.out (upd_put (upd_put (upd_put (upd_put (upd_put (upd_put (upd_put (upd_put (Upd.refl _ _)))))))))
       ·exact ((((((((HB4.out.setCell (Nat.le_refl _) _).setCell (Nat.le_refl _) _).setCell (Nat.le_refl _) _).setCell (Nat.le_refl _) _).setCell (Nat.le_refl _) _).setCell (Nat.le_refl _) _).setCell (Nat.le_refl _) _).setCell (Nat.le_refl _) _)
      ·have n1 : (e0 == 0) = false:=by rw [beq_eq_false_iff_ne];exact hz
       have n2 : (e0 != 0) = true:=by rw [bne_iff_ne];exact hz
       have n3 : decide (e0 = 0) = false:=decide_eq_false hz
       have HNZ : Hid ((chkV c).1 ≠ 0):=by rw [← he0.out];exact hz
       clear hz
       go_wp2_with fail
       (refine bodyPost_ret (v:=.tuple #[.agg #[.int .i64 0,.slice none 0 0,.slice none 0 0,.slice none 0 0,.slice none 0 0,.slice none 0 0,.int .i64 0,.int .i64 0],.int .i64 e0,.int .i64 0]) (by simp [results,Tryz.results23,go_sem,a0,a1,a2,a3,a4,a5,a6,a7,s6]) rfl ?_)
       rw [he0.out]
       exact HEN.out _ c last HQ.out.st h0 HX.out HNZ.out ((((((((HB4.out.setCell (Nat.le_refl _) _).setCell (Nat.le_refl _) _).setCell (Nat.le_refl _) _).setCell (Nat.le_refl _) _).setCell (Nat.le_refl _) _).setCell (Nat.le_refl _) _).setCell (Nat.le_refl _) _).setCell (Nat.le_refl _) _)
end Go.Proofs.YtoklonmiejdgmaaGreatDoor
/- Numbers as digits, there and back: plain lemmas. -/
namespace Go.Proofs.YtoklonmiejdgmaaGreatDoor
set_option linter.unusedVariables false
set_option linter.unusedSimpArgs false
set_option linter.unnecessarySimpa false
open Go.RowKit
theorem dd_step (n : Nat) (h : ¬ n < 10) : Lib.decDigits n = Lib.decDigits (n / 10) ++ [UInt8.ofNat (48 + n % 10)]:=by
 rw [Lib.decDigits,dif_neg h]
theorem u8_toNat (k : Nat) (h : k < 256) : (UInt8.ofNat k).toNat = k:=by
 simp [Nat.mod_eq_of_lt h]
theorem dd_all : ∀ n : Nat,(Lib.decDigits n).all isDig = true:=by
 intro n
 induction n using Nat.strongRecOn with
 | _ n ih=>
  by_cases h : n < 10
  ·rw [Lib.decDigits_one h]
   simp only [List.all_cons,List.all_nil,Bool.and_true]
   rw [isDig_iff,u8_toNat _ (by omega)];omega
  ·rw [dd_step n h,List.all_append,ih (n / 10) (by omega)]
   simp only [List.all_cons,List.all_nil,Bool.and_true,Bool.true_and]
   rw [isDig_iff,u8_toNat _ (by omega)];omega
theorem dd_go : ∀ n : Nat,numGo 0 (Lib.decDigits n) = n:=by
 intro n
 induction n using Nat.strongRecOn with
 | _ n ih=>
  by_cases h : n < 10
  ·rw [Lib.decDigits_one h]
   simp only [numGo,List.foldl_cons,List.foldl_nil]
   rw [u8_toNat _ (by omega)];omega
  ·rw [dd_step n h,numGo_app,ih (n / 10) (by omega),u8_toNat _ (by omega)];omega
theorem dd_ne (n : Nat) : Lib.decDigits n ≠ []:=by
 intro h
 have:=Lib.decDigits_length n
 rw [h] at this
 have:=Lib.nDigits_pos n
 simp at *;omega
theorem dd_head : ∀ n : Nat,0 < n → (Lib.decDigits n).head? ≠ some 48:=by
 intro n
 induction n using Nat.strongRecOn with
 | _ n ih=>
  intro hn
  by_cases h : n < 10
  ·rw [Lib.decDigits_one h]
   simp only [List.head?_cons]
   intro e
   injection e with e
   have:=congrArg UInt8.toNat e
   rw [u8_toNat _ (by omega)] at this
   simp at this;omega
  ·rw [dd_step n h]
   have h2:=ih (n / 10) (by omega) (by omega)
   cases hd : Lib.decDigits (n / 10) with
   | nil=>exact absurd hd (dd_ne _)
   | cons x r=>rw [hd] at h2;exact h2
theorem dd_len : ∀ (k n : Nat),1 ≤ k → n < 10 ^ k → (Lib.decDigits n).length ≤ k
 | 0,n,h,_=>by omega
 | k + 1,n,_,hn=>by
  by_cases h : n < 10
  ·rw [Lib.decDigits_one h];simp
  ·rw [dd_step n h,List.length_append]
   have hk : 1 ≤ k:=by
    rcases Nat.eq_zero_or_pos k with h0 | h0
    ·subst h0;simp at hn;omega
    ·exact h0
   have:=dd_len k (n / 10) hk (by rw [Nat.pow_succ] at hn;omega)
   simp;omega
theorem dd_one (n : Nat) (h : 1 < (Lib.decDigits n).length) : 0 < n:=by
 rcases Nat.eq_zero_or_pos n with h0 | h0
 ·subst h0;rw [Lib.decDigits_one (by omega)] at h;simp at h
 ·exact h0
/-- A number of at most nine digits: read, then written. -/
theorem num_dd (n : Nat) (h : n < 1000000000) : numB (Lib.decDigits n) = true ∧ numI (Lib.decDigits n) = n:=by
 have hw : numW (Lib.decDigits n) = true:=by
  unfold numW
  have h1:=dd_len 9 n (by omega) (by omega)
  rw [decide_eq_true (dd_ne n),decide_eq_true h1]
  by_cases hl : 1 < (Lib.decDigits n).length
  ·rw [decide_eq_false (dd_head n (dd_one n hl))];simp
  ·rw [decide_eq_false hl];rfl
 have hb : numB (Lib.decDigits n) = true:=by rw [numB,hw,dd_all];rfl
 exact ⟨hb,by rw [numI,if_pos hb,dd_go]⟩
end Go.Proofs.YtoklonmiejdgmaaGreatDoor
/- The text of a configuration; what a configuration that is right holds: plain. -/
namespace Go.Proofs.YtoklonmiejdgmaaGreatDoor
set_option linter.unusedVariables false
set_option linter.unusedSimpArgs false
set_option linter.unnecessarySimpa false
open Go.RowKit Go.Sort
set_option maxHeartbeats 2000000
set_option maxRecDepth 100000
set_option linter.unusedVariables false
def dc (n : Int) : List UInt8:=Lib.decDigits n.toNat
def lbT (l : Int) : List UInt8:=lbL l.toNat
def outT : List UInt8:=[111,117,116]
/-- The words of a row of a rank. -/
def rowT (k : Nat) (r : List Int) : List (List UInt8):=match k with
 | 0=>[rkName 0,dc (r.getD 0 0)]
 | 1=>[rkName 1,lbT (r.getD 0 0),dc (r.getD 1 0),dc (r.getD 2 0)]
 | 2=>[rkName 2,lbT (r.getD 0 0),dc (r.getD 1 0),dc (r.getD 2 0)]
 | 3=>[rkName 3,lbT (r.getD 0 0),if r.getD 1 0 = -1 then outT else dc (r.getD 1 0)]
 | k + 4=>[rkName (k + 4),dc (r.getD 0 0),dc (r.getD 1 0)]
def tag (k : Nat) (l : List (List Int)) : List (Nat × List Int):=l.map fun r=>(k,r)
def gateR (c : Pc) : List (Nat × List Int):=if c.gate = -1 then [] else [(6,[c.gate,c.quota])]
def rowsP (c : Pc) : List (Nat × List Int):=(0,[c.cats]) :: (tag 1 c.g ++ (tag 2 c.r ++ (tag 3 c.p ++ (tag 4 c.n ++ (tag 5 c.s ++ gateR c)))))
def lineT (x : Nat × List Int) : List UInt8:=joinC 32 (rowT x.1 x.2)
def textT (R : List (Nat × List Int)) : List UInt8:=R.flatMap fun x=>lineT x ++ [10]
def prT (c : Pc) : List UInt8:=textT (rowsP c)
theorem textT_app (A B : List (Nat × List Int)) : textT (A ++ B) = textT A ++ textT B:=by simp [textT]
theorem textT_one (x : Nat × List Int) : textT [x] = lineT x ++ [10]:=by simp [textT]
/-- What a configuration that is right holds. -/
structure FitP (c : Pc) : Prop where
 cats : 0 ≤ c.cats ∧ c.cats ≤ 8
 gl : c.g.length ≤ 4
 rl : c.r.length ≤ 8
 pl : c.p.length ≤ 8
 nl : c.n.length ≤ 4
 sl : c.s.length ≤ 8
 g : ∀ r ∈ c.g,(0 ≤ r.getD 0 0 ∧ r.getD 0 0 < 256) ∧ (0 ≤ r.getD 1 0 ∧ r.getD 1 0 ≤ 8) ∧ 0 ≤ r.getD 2 0 ∧ r.getD 2 0 ≤ 8
 r : ∀ r ∈ c.r,(0 ≤ r.getD 0 0 ∧ r.getD 0 0 < 256) ∧ (0 ≤ r.getD 1 0 ∧ r.getD 1 0 ≤ 32) ∧ 0 ≤ r.getD 2 0 ∧ r.getD 2 0 ≤ 32
 p : ∀ r ∈ c.p,(0 ≤ r.getD 0 0 ∧ r.getD 0 0 < 256) ∧ (r.getD 1 0 = -1 ∨ 0 ≤ r.getD 1 0 ∧ r.getD 1 0 < 4)
 n : ∀ r ∈ c.n,(0 ≤ r.getD 0 0 ∧ r.getD 0 0 < 4) ∧ 0 ≤ r.getD 1 0 ∧ r.getD 1 0 < 4
 s : ∀ r ∈ c.s,(0 ≤ r.getD 0 0 ∧ r.getD 0 0 < 4) ∧ 0 ≤ r.getD 1 0 ∧ r.getD 1 0 ≤ 32
 gate : (c.gate = -1 ∧ c.quota = 0) ∨ ((0 ≤ c.gate ∧ c.gate < 4) ∧ 0 ≤ c.quota ∧ c.quota ≤ 64)
theorem valid_256 {l cats : Int} (h : validB l cats = true) : 0 ≤ l ∧ l < 256:=by
 simp only [validB,Bool.and_eq_true,decide_eq_true_eq] at h
 obtain ⟨⟨⟨h1,h2⟩,h3⟩,h4⟩:=h
 refine ⟨h3,?_⟩
 have : (2 : Int) ^ cats.toNat ≤ 2 ^ 8:=by
  have:=Nat.pow_le_pow_right (n:=2) (by omega) (show cats.toNat ≤ 8 by omega)
  exact_mod_cast this
 omega
theorem fit_of {c : Cv} (h : (chkV c).1 = 0) : FitP (pcOf c):=by
 unfold chkV at h
 split at h
 ·cases h
 ·rename_i hc
  cases hf : (List.range 6).find? (fun k=>(ruleV c k).2) with
  | some k=>rw [hf] at h;simp only at h;omega
  | none=>
   have hn : ∀ j,j < 6 → (ruleV c j).2 = false:=fun j hj=>by
    rw [List.find?_eq_none] at hf;simpa using hf j (List.mem_range.2 hj)
   clear h hf
   have h0 : (gFst c).2 = false:=hn 0 (by omega)
   have h1 : (rFst c).2 = false:=hn 1 (by omega)
   have h2 : (pFst c).2 = false:=hn 2 (by omega)
   have h3 : (nFst c).2 = false:=hn 3 (by omega)
   have h4 : (sFst c).2 = false:=hn 4 (by omega)
   have h5 : gateB c = false:=hn 5 (by omega)
   unfold gFst at h0;unfold rFst at h1;unfold pFst at h2;unfold nFst at h3;unfold sFst at h4;unfold gateB at h5
   split at h0
   ·cases h0
   split at h1
   ·cases h1
   split at h2
   ·cases h2
   split at h3
   ·cases h3
   split at h4
   ·cases h4
   rename_i l0 l1 l2 l3 l4
   have isg : ∀ i,isG c i = true → 0 ≤ i ∧ i < 4:=fun i hi=>by
    have:=(isG_iff c i).1 hi;omega
   refine ⟨by show 0 ≤ c.cats ∧ c.cats ≤ 8;omega,by show c.g.l.length ≤ 4;omega,by show c.r.l.length ≤ 8;omega,by show c.p.l.length ≤ 8;omega,by show c.n.l.length ≤ 4;omega,by show c.s.l.length ≤ 8;omega,?_,?_,?_,?_,?_,?_⟩
   ·intro r hr
    obtain ⟨i,hi,rfl⟩:=List.mem_iff_getElem.1 (show r ∈ c.g.l from hr)
    have:=fstV_false h0 i hi
    simp only [gBad,at_eq hi,Bool.or_eq_false_iff,decide_eq_false_iff_not,Bool.not_eq_false'] at this
    have hv:=valid_256 this.1
    exact ⟨hv,by omega,by omega,by omega⟩
   ·intro r hr
    obtain ⟨i,hi,rfl⟩:=List.mem_iff_getElem.1 (show r ∈ c.r.l from hr)
    have:=fstV_false h1 i hi
    simp only [rBad,at_eq hi,Bool.or_eq_false_iff,Bool.not_eq_false',bne_eq_false_iff_eq] at this
    obtain ⟨ha,hb⟩:=this
    have hv:=valid_256 ha
    unfold giveV at hb
    split at hb
    ·rename_i hw
     have:=(wellG_iff _ _ _ _).1 hw
     exact ⟨hv,by omega,by omega,by omega⟩
    ·cases hb
   ·intro r hr
    obtain ⟨i,hi,rfl⟩:=List.mem_iff_getElem.1 (show r ∈ c.p.l from hr)
    have:=fstV_false h2 i hi
    simp only [pBad,at_eq hi,Bool.or_eq_false_iff,Bool.and_eq_false_iff,Bool.not_eq_false',Bool.not_eq_true',beq_eq_false_iff_ne,beq_iff_eq] at this
    obtain ⟨ha,hb⟩:=this
    refine ⟨valid_256 ha,?_⟩
    rcases hb with hb | hb
    ·exact Or.inl hb
    ·exact Or.inr (isg _ hb.1)
   ·intro r hr
    obtain ⟨i,hi,rfl⟩:=List.mem_iff_getElem.1 (show r ∈ c.n.l from hr)
    have:=fstV_false h3 i hi
    simp only [nBad,at_eq hi,Bool.or_eq_false_iff,Bool.not_eq_false'] at this
    exact ⟨isg _ this.1,isg _ this.2.1⟩
   ·intro r hr
    obtain ⟨i,hi,rfl⟩:=List.mem_iff_getElem.1 (show r ∈ c.s.l from hr)
    have:=fstV_false h4 i hi
    simp only [sBad,at_eq hi,Bool.or_eq_false_iff,Bool.not_eq_false',decide_eq_false_iff_not] at this
    exact ⟨isg _ this.1,by omega,by omega⟩
   ·show (c.gate = -1 ∧ c.quota = 0) ∨ _
    split at h5
    ·rename_i hg
     left
     exact ⟨hg,by simpa using h5⟩
    ·right
     simp only [Bool.or_eq_false_iff,Bool.not_eq_false',decide_eq_false_iff_not] at h5
     exact ⟨isg _ h5.1,by show 0 ≤ c.quota;omega,by show c.quota ≤ 64;omega⟩
/-- The text of a label. -/
theorem lbS_lbT {l : Int} (h : 0 ≤ l ∧ l < 256) : lbS l = ba (lbT l):=by
 have e : l = ((l.toNat : Nat) : Int):=by omega
 have:=(lbS_nat l.toNat (by omega)).1
 rw [← e] at this
 rw [this];rfl
theorem lbL_ok : ∀ l : Fin 256,lbL l.val ≠ [] ∧ (lbL l.val).length ≤ 8 ∧ (lbL l.val).all (fun b=>b != 10 && b != 32) = true:=by decide +kernel
theorem lbT_ok {l : Int} (h : 0 ≤ l ∧ l < 256) : lbT l ≠ [] ∧ (lbT l).length ≤ 8 ∧ (lbT l).all (fun b=>b != 10 && b != 32) = true:=lbL_ok ⟨l.toNat,by omega⟩
theorem dc_all (n : Int) : (dc n).all (fun b=>b != 10 && b != 32) = true:=by
 rw [List.all_eq_true]
 intro b hb
 have:=List.all_eq_true.1 (dd_all n.toNat) b hb
 rw [isDig_iff] at this
 have h1 : b ≠ 10:=fun e=>by rw [e] at this;simp at this
 have h2 : b ≠ 32:=fun e=>by rw [e] at this;simp at this
 simp [h1,h2]
theorem dc_len {n : Int} (h : n < 1000000000) : (dc n).length ≤ 9:=dd_len 9 n.toNat (by omega) (by omega)
/-- A line as the page takes it. -/
def lnW (k : Nat) (ahead : List UInt8) (l : List Int) : List UInt8:=rkName k ++ ((if ahead = [] then [] else 32 :: ahead) ++ (l.flatMap (fun n=>32 :: dc n) ++ [10]))
theorem lnW_0 (a : Int) : lnW 0 [] [a] = lineT (0,[a]) ++ [10]:=by simp [lnW,lineT,rowT,joinC]
theorem lnW_1 {l : Int} (h : 0 ≤ l ∧ l < 256) (a b : Int) : lnW 1 (lbT l) [a,b] = lineT (1,[l,a,b]) ++ [10]:=by
 unfold lnW;rw [if_neg (lbT_ok h).1];simp [lineT,rowT,joinC]
theorem lnW_2 {l : Int} (h : 0 ≤ l ∧ l < 256) (a b : Int) : lnW 2 (lbT l) [a,b] = lineT (2,[l,a,b]) ++ [10]:=by
 unfold lnW;rw [if_neg (lbT_ok h).1];simp [lineT,rowT,joinC]
theorem lnW_3 {l : Int} (h : 0 ≤ l ∧ l < 256) {a : Int} (ha : a ≠ -1) : lnW 3 (lbT l) [a] = lineT (3,[l,a]) ++ [10]:=by
 unfold lnW;rw [if_neg (lbT_ok h).1];simp [lineT,rowT,joinC,ha]
theorem lnW_out {l : Int} (h : 0 ≤ l ∧ l < 256) : lnW 3 (lbT l ++ 32 :: outT) [] = lineT (3,[l,-1]) ++ [10]:=by
 unfold lnW;rw [if_neg (by simp)];simp [lineT,rowT,joinC]
theorem lnW_k (k : Nat) (a b : Int) : lnW (k + 4) [] [a,b] = lineT (k + 4,[a,b]) ++ [10]:=by simp [lnW,lineT,rowT,joinC]
end Go.Proofs.YtoklonmiejdgmaaGreatDoor
/- A page: a struct with a strings.Builder alone; what the builder's methods leave (after the shelf's worked contracts). -/
namespace Go.Proofs.YtoklonmiejdgmaaGreatDoor
set_option linter.unusedVariables false
set_option linter.unusedSimpArgs false
set_option linter.unnecessarySimpa false
open Go.RowKit Go.Sort
set_option maxHeartbeats 2000000
set_option maxRecDepth 100000
set_option linter.unusedVariables false
theorem pcopy_fresh (b : Nat) (w : World) (h0 : w.cell? ⟨b,0,none⟩ = some (.pointer none)) (hsh : w.shape? b = some (127,2)) (hfz : w.frozen? ⟨b,0,none⟩ = false) :
  Calls Tryz.prog 64 #[.pointer (some ⟨b,0,none⟩)] w fun e w'=>e = .returned (.tuple #[]) ∧ w' = w.setCell ⟨b,0,none⟩ (.pointer (some ⟨b,0,none⟩)):=by
 obtain ⟨j,hj,hjs⟩:=Option.map_eq_some_iff.1 bld_size
 have hlies : liesAt Tryz.prog Tryz.prog.depth 127 (2 / Tryz.prog.cellsOf 127) 0 78 1 = true:=by kernel_rfl
 go_enter Tryz.func64,Tryz.ntmps64
 go_wp2
 rw [Lib.run_to_unsafe w ⟨b,0,none⟩ bld_und uptr_und hj (by rw [hjs];decide) hsh (Nat.zero_lt_succ 1)]
 simp only [Result.andThen]
 rw [Oper.upon_value]
 go_wp2
 rw [run_callFunc_extern Tryz.func109 (by kernel_rfl) (by kernel_rfl) (by kernel_rfl) (e:=Extern.AbiNoEscape.same) (by kernel_rfl)]
 rw [Lib.run_noEscape]
 simp only [Result.andThen]
 rw [Oper.upon_value]
 go_wp2
 rw [Lib.run_from_unsafe w ⟨b,0,none⟩ uptr_und bld_und hj hsh hlies]
 simp only [Result.andThen]
 rw [Oper.upon_value]
 go_wp2
 go_end0
 exact ⟨rfl,rfl⟩
/-- A page in block b, of the call's own, that holds the bytes l. -/
def PgIs (w : World) (B b : Nat) (l : List UInt8) : Prop:=Lib.IsBuilderF 127 5 B b (Lib.byteCells l) w
theorem pcopy_any (B b : Nat) (bs : List Value) (w : World) (h : Lib.IsBuilderF 127 5 B b bs w) :
  Calls Tryz.prog 64 #[.pointer (some ⟨b,0,none⟩)] w fun e w'=>e = .returned (.tuple #[]) ∧ (Lib.BuilderAtF 127 5 B b (.pointer (some ⟨b,0,none⟩)) bs w' ∧ Below B w w' ∧ Lib.OthersKept 5 (some b) w w'):=by
 rcases h with h | h
 ·refine (pcopy_fresh b w h.cell0 h.shape h.frozen0).mono ?_
  rintro e w' ⟨rfl,rfl⟩
  exact ⟨rfl,h.used _,(Below.refl B w).setCell (p:=⟨b,0,none⟩) h.1 _,(Lib.OthersKept.refl _ _ w).setCell ⟨b,0,none⟩ rfl _⟩
 ·refine (copy_used b w h.cell0).mono ?_
  rintro e w' ⟨rfl,rfl⟩
  exact ⟨rfl,h,Below.refl B _,Lib.OthersKept.refl _ _ _⟩
theorem pwrite_any (B b : Nat) (bs : List Value) (s : ByteArray) (w : World) (h : Lib.IsBuilderF 127 5 B b bs w) (hlen : bs.length + s.size ≤ 140737488355328) (hBw : B ≤ w.heap.size) :
  Calls Tryz.prog 37 #[.pointer (some ⟨b,0,none⟩),.string s] w fun e w'=>e = .returned (.tuple #[.int .i64 s.size,.nilIface]) ∧ (Lib.BuilderAtF 127 5 B b (.pointer (some ⟨b,0,none⟩)) (bs ++ Lib.strCells s) w' ∧ Below B w w' ∧ Lib.OthersKept 5 (some b) w w'):=by
 obtain ⟨i0,hi,hz0,hz1,hz2⟩:=info_parts info_byte
 go_enter Tryz.func37,Tryz.ntmps37
 go_wp2_with (go_at_call 64;refine (pcopy_any B b bs _ h).mono ?_)
 rintro e w1 ⟨rfl,h1,hb1,hk1⟩
 obtain ⟨hB,v,hbk,hown,hne⟩:=h1
 have c0 : w1.cell? ⟨b,0,none⟩ = some (.pointer (some ⟨b,0,none⟩)):=by rw [Lib.cell_of_heap hbk];rfl
 have c1 : w1.cell? ⟨b,1,none⟩ = some v:=by rw [Lib.cell_of_heap hbk];rfl
 go_wp2_with (at_builtin;refine Lib.wpList_append_own_stringF _ rfl _ _ 76 9 rfl B 5 i0 Tryz.underlying76 Tryz.underlying9 hi hz0 hz1 hz2 _ _ _ rfl hown s rfl ?c3 ?c4 ?c5 ?_)
 case c3=>unfold maxLen;omega
 case c4=>omega
 case c5=>have:=hb1.size;omega
 intro v' w2 hown' hgrow _
 have hlt : b < w1.heap.size:=by
  rcases Nat.lt_or_ge b w1.heap.size with h' | h'
  ·exact h'
  ·simp [Array.getElem?_eq_none h'] at hbk
 have hb2 : w2.heap[b]? = some (.cells #[.pointer (some ⟨b,0,none⟩),v] 127 (0,0)):=by
  rw [hgrow.block b hlt (fun e=>hne e.symm)]
  exact hbk
 have d0 : w2.cell? ⟨b,0,none⟩ = some (.pointer (some ⟨b,0,none⟩)):=by rw [Lib.cell_of_heap hb2];rfl
 have d1 : w2.cell? ⟨b,1,none⟩ = some v:=by rw [Lib.cell_of_heap hb2];rfl
 have f1 : w2.frozen? ⟨b,1,none⟩ = false:=Lib.frozen_of_heap hb2 1
 obtain ⟨ao,n',cap,rfl⟩ : ∃ ao n' cap,v' = .slice ao n' cap:=by
  rcases hown'.2 with ⟨hv,_⟩ | ⟨g,cap,cur,fz,hv,_⟩
  ·exact ⟨_,_,_,hv⟩
  ·exact ⟨_,_,_,hv⟩
 go_wp2
 go_ret2
 refine ⟨rfl,?_,?_,(hk1.grown hgrow (Lib.ownsRowF_kind hown)).setCell ⟨b,1,none⟩ rfl _⟩
 ·exact Lib.BuilderAtF.put (T:=127) (e:=5) hB hb2 (bs':=bs ++ Lib.strCells s) (by simpa [Lib.strCells_length] using hown') (by decide)
 ·exact (hb1.grown hgrow (by have:=hb1.size;omega) (fun k hk=>(hown.lt k hk).1)).setCell (p:=⟨b,1,none⟩) hB _
/-- WriteString, in lists of bytes. -/
theorem pgwrite (B b : Nat) (l m : List UInt8) (w : World) (h : PgIs w B b l) (hlen : l.length + m.length ≤ 140737488355328) (hBw : B ≤ w.heap.size) :
  Calls Tryz.prog 37 #[.pointer (some ⟨b,0,none⟩),.string (ba m)] w fun e w'=>e = .returned (.tuple #[.int .i64 (ba m).size,.nilIface]) ∧ PgIs w' B b (l ++ m) ∧ Below B w w' ∧ Lib.OthersKept 5 (some b) w w':=by
 refine (pwrite_any B b (Lib.byteCells l) (ba m) w h (by rw [Lib.byteCells_length,ba_size];exact hlen) hBw).mono ?_
 rintro e w' ⟨h1,h2,h3,h4⟩
 exact ⟨h1,.inr (by rw [byteCells_app] at h2;exact h2),h3,h4⟩
theorem pAt_below {B b : Nat} {p : Value} {bs : List Value} {w w' : World} (h : Lib.BuilderAtF 127 5 B b p bs w) (hb : Below w.heap.size w w') : Lib.BuilderAtF 127 5 B b p bs w':=by
 obtain ⟨h1,v,h2,⟨h3,h4⟩,h5⟩:=h
 refine ⟨h1,v,keepB hb (Array.getElem?_eq_some_iff.1 h2).1 h2,⟨h3,?_⟩,h5⟩
 rcases h4 with h4 | ⟨g,c,cur,fz,hv,hg,hc,hr⟩
 ·exact .inl h4
 ·exact .inr ⟨g,c,cur,fz,hv,hg,keepB hb (Array.getElem?_eq_some_iff.1 hc).1 hc,hr⟩
theorem PgIs.below {w w' : World} {B b : Nat} {l : List UInt8} (h : PgIs w B b l) (hb : Below w.heap.size w w') : PgIs w' B b l:=h.elim (fun x=>.inl (pAt_below x hb)) (fun x=>.inr (pAt_below x hb))
theorem PgIs.fresh (w : World) : PgIs (w.alloc (.cells #[.pointer none,.slice none 0 0] 127)) w.heap.size w.heap.size []:=
 .inl ⟨Nat.le_refl _,.slice none 0 0,new_block w _ _ rfl,⟨by simp [Lib.byteCells],.inl ⟨rfl,rfl⟩⟩,by simp [Value.ownBlock]⟩
theorem cells_byte : Tryz.prog.cellsOf 5 = 1:=by kernel_rfl
theorem bptr_und : Tryz.prog.underlying 124 = some (.pointer 5):=by kernel_rfl
theorem pgstring (B b : Nat) (l : List UInt8) (w : World) (h : PgIs w B b l) (h0 : l ≠ []) :
  Calls Tryz.prog 32 #[.pointer (some ⟨b,0,none⟩)] w fun e w'=>e = .returned (.string (ba l)) ∧ PgIs w' B b l ∧ Below B w w' ∧ Lib.OthersKept 5 (some b) w w':=by
 obtain ⟨p,hp,hAt⟩ : ∃ p,(p = .pointer none ∨ p = .pointer (some ⟨b,0,none⟩)) ∧ Lib.BuilderAtF 127 5 B b p (Lib.byteCells l) w:=by
  rcases h with h | h
  ·exact ⟨_,.inl rfl,h⟩
  ·exact ⟨_,.inr rfl,h⟩
 obtain ⟨hB,v,hbk,hown,hne⟩:=hAt
 have hl0 : l.length ≠ 0:=by simpa using h0
 rw [Lib.byteCells_length] at hown
 obtain ⟨g,cap,cur,fz,rfl,hbg,hg,hfz,hnc,hcm,hcs,htake⟩ : ∃ g cap cur fz,v = .slice (some ⟨g,0,none⟩) l.length cap ∧ B ≤ g ∧ w.heap[g]? = some (.cells cur 5 fz) ∧ fz.2 ≤ l.length * 1 ∧ l.length ≤ cap ∧ cap ≤ maxLen ∧ cur.size = cap * 1 ∧ cur.toList.take (l.length * 1) = Lib.byteCells l:=by
  rcases hown.2 with ⟨_,hz⟩ | ⟨g,cap,cur,fz,hv,r⟩
  ·exact absurd hz hl0
  ·exact ⟨g,cap,cur,fz,hv,r⟩
 have c1 : w.drew.cell? ⟨b,1,none⟩ = some (.slice (some ⟨g,0,none⟩) l.length cap):=by
  have : w.drew.heap[b]? = some (.cells #[p,.slice (some ⟨g,0,none⟩) l.length cap] 127 (0,0)):=hbk
  rw [Lib.cell_of_heap this];rfl
 have hSD : (Builtin.unsafeSliceData_ #[76] 124 #[.slice (some ⟨g,0,none⟩) l.length cap]).run Tryz.prog w.drew = .ok (.pointer (some ⟨g,0,none⟩)) w.drew:=
  Lib.run_unsafeSliceData_row _ _ _ _ _ _ (by omega)
 have hUS : (Builtin.unsafeString_ #[124,3] 9 #[.pointer (some ⟨g,0,none⟩),.int .i64 l.length]).run Tryz.prog w.drew = .ok (.string (ba l)) (w.drew.freeze ⟨g,0,none⟩ l.length):=by
  refine Lib.run_unsafeString_row w.drew 124 3 9 5 bptr_und cells_byte g cur.size (by have hg' : w.drew.heap[g]? = some (.cells cur 5 fz):=hg;simp [World.shape?,hg']) l h0 (by omega) (by unfold maxLen at hcm;omega) ?_
  intro j x hx
  have:=hown.cells (g:=g) rfl j (.int .u8 x.toNat) (by simp [Lib.byteCells,hx])
  exact this
 have hkeep : Lib.IsBuilderF 127 5 B b (Lib.byteCells l) (w.drew.freeze ⟨g,0,none⟩ l.length):=by
  have hA : Lib.BuilderAtF 127 5 B b p (Lib.byteCells l) w.drew:=⟨hB,_,hbk,by rw [Lib.byteCells_length];exact hown,hne⟩
  have hF:=hA.froze (g:=g) (cap:=cap) (by rw [Lib.byteCells_length];exact c1)
  rw [Lib.byteCells_length] at hF
  rcases hp with rfl | rfl
  ·exact .inl hF
  ·exact .inr hF
 have HK:=Lib.hid hkeep
 have HG:=Lib.hid hg
 clear hkeep hg hfz hcs htake hown hbk hp h0 hl0
 go_enter Tryz.func32,Tryz.ntmps32
 go_wp2
 go_region
 all_goals (go_wp2;go_ret;exact ⟨rfl,HK.out,Lib.below_freeze (Below.drew (Below.refl B w)) (p:=⟨g,0,none⟩) hbg _,((Lib.OthersKept.refl _ _ w).drew).freeze ⟨g,0,none⟩ _ ⟨cur,fz,HG.out⟩⟩)
end Go.Proofs.YtoklonmiejdgmaaGreatDoor
/- Itoa over the kit's contract. -/
namespace Go.Proofs.YtoklonmiejdgmaaGreatDoor
set_option linter.unusedVariables false
set_option linter.unusedSimpArgs false
set_option linter.unnecessarySimpa false
open Go.RowKit Go.Sort Go.Lib
set_option linter.unusedVariables false
set_option maxHeartbeats 400000
set_option maxRecDepth 100000
def PowIs (w : World) : Prop:=Lib.TabIs Tryz.prog w "internal/strconv.uint64pow10" .u64 Lib.pow10Tab
theorem PowIs.below {w w' : World} (h : PowIs w) (hb : Below w.heap.size w w') : PowIs w':=by
 unfold PowIs Lib.TabIs World.var? at *
 cases hg : (Tryz.prog).globalNamed "internal/strconv.uint64pow10" with
 | none=>simp [hg] at h
 | some g=>
  simp only [hg,Option.bind_some] at h ⊢
  have hlt : g < w.heap.size:=by
   rcases Nat.lt_or_ge g w.heap.size with h' | h'
   ·exact h'
   ·rw [Array.getElem?_eq_none h'] at h;simp at h
  rw [hb.block g hlt]
  exact h
theorem below_grown {w w' : World} (h : ∃ k os,w' = grow (w.drewN k) os) : Below w.heap.size w w':=by
 obtain ⟨k,os,rfl⟩:=h
 have h1:=below_drewN (Below.refl w.heap.size w) k
 have h2:=below_regrown (w.drewN k) (w.drewN k).drawn os
 exact h1.trans (h2.mono h1.size)
theorem itoa_b (n : Int) (h0 : -9223372036854775808 ≤ n) (h1 : n ≤ 9223372036854775807) (w : World) (htab : PowIs w) :
  Calls Tryz.prog 71 #[.int .i64 n] w fun e w'=>e = .returned (.string ⟨(Lib.itoa n).toArray⟩) ∧ Below w.heap.size w w':=
 (Tryz.strconv_Itoa n h0 h1 w htab).mono fun _ _ ⟨h1,h2⟩=>⟨h1,below_grown h2⟩
end Go.Proofs.YtoklonmiejdgmaaGreatDoor
/- Package plan: a page's lines. -/
namespace Go.Proofs.YtoklonmiejdgmaaGreatDoor
set_option linter.unusedVariables false
set_option linter.unusedSimpArgs false
set_option linter.unnecessarySimpa false
open Go.RowKit Go.Sort
set_option maxHeartbeats 4000000
set_option maxRecDepth 100000
set_option linter.unusedVariables false
/-- A page at work: it lies in block b, of the call's own. -/
structure PG (w : World) (b : Nat) (t : List UInt8) (W : World) : Prop where
 bel : Below w.heap.size w W
 pow : PowIs w
 pg : PgIs W w.heap.size b t
def Kept (b : Nat) (W W' : World) : Prop:=Lib.OthersKept 5 (some b) W W'
theorem Kept.refl (b : Nat) (W : World) : Kept b W W:=Lib.OthersKept.refl _ _ _
theorem Kept.trans {b : Nat} {x y z : World} (h : Kept b x y) (k : Kept b y z) : Kept b x z:=Lib.OthersKept.trans h k
theorem Kept.ofBelow {b : Nat} {x y : World} (h : Below x.heap.size x y) : Kept b x y:=fun k o hk _ _=>keepB h (Array.getElem?_eq_some_iff.1 hk).1 hk
theorem Kept.obj {b g : Nat} {x y : World} {t : TypeId} {cs : List Value} (h : Kept b x y) (ho : ObjAt x g t cs) (hg : g ≠ b) (ht : t ≠ 5) : ObjAt y g t cs:=
 h g _ ho (by simpa using hg) (fun c fz e=>by injection e with _ e2;exact ht e2)
theorem PG.more {w W W' : World} {b : Nat} {t : List UInt8} (h : PG w b t W) (hb : Below W.heap.size W W') : PG w b t W':=⟨bmore h.bel hb,h.pow,h.pg.below hb⟩
theorem PG.powW {w W : World} {b : Nat} {t : List UInt8} (h : PG w b t W) : PowIs W:=h.pow.below h.bel
theorem pg_write {w W : World} {b : Nat} {t : List UInt8} (h : PG w b t W) (m : List UInt8) (hl : t.length + m.length ≤ 140737488355328) :
  Calls Tryz.prog 37 #[.pointer (some ⟨b,0,none⟩),.string (ba m)] W fun e w'=>e = .returned (.tuple #[.int .i64 (ba m).size,.nilIface]) ∧ PG w b (t ++ m) w' ∧ Kept b W w':=by
 refine (pgwrite _ _ _ m W h.pg hl h.bel.size).mono ?_
 rintro e w' ⟨h1,h2,h3,h4⟩
 exact ⟨h1,⟨h.bel.trans h3,h.pow,h2⟩,h4⟩
theorem itoa_dc (n : Int) (h0 : 0 ≤ n) (h1 : n ≤ 1000000000) (w : World) (hP : PowIs w) : Calls Tryz.prog 71 #[.int .i64 n] w fun e w'=>e = .returned (.string (ba (dc n))) ∧ Below w.heap.size w w':=by
 refine (itoa_b n (by omega) (by omega) w hP).mono ?_
 rintro e w' ⟨h2,h3⟩
 have : Lib.itoa n = dc n:=by unfold Lib.itoa dc;rw [if_neg (by omega)]
 rw [this] at h2
 exact ⟨h2,h3⟩
theorem sp_ba (x : List UInt8) : (⟨#[32]⟩ : ByteArray) ++ ba x = ba (32 :: x):=by
 unfold ba
 rw [show (32 :: x : List UInt8) = [32] ++ x from rfl,ba_append]
/-- The numbers behind a line's words: a row of the caller's. -/
def NumsAt (W : World) (b : Nat) (a : Option Addr) (l : List Int) : Prop:=(a = none ∧ l = []) ∨ ∃ g,a = some ⟨g,0,none⟩ ∧ g ≠ b ∧ ObjAt W g 3 (zC l)
theorem NumsAt.kept {W W' : World} {b : Nat} {a : Option Addr} {l : List Int} (h : NumsAt W b a l) (hk : Kept b W W') : NumsAt W' b a l:=
 h.imp id fun ⟨g,h1,h2,h3⟩=>⟨g,h1,h2,hk.obj h3 h2 (by decide)⟩
theorem NumsAt.at_ {W : World} {b : Nat} {a : Option Addr} {l : List Int} (h : NumsAt W b a l) (k : Nat) (hk : k < l.length) : ∃ g,a = some ⟨g,0,none⟩ ∧ W.cell? ⟨g,k,none⟩ = some (.int .i64 l[k]):=by
 rcases h with ⟨_,h⟩ | ⟨g,h1,_,h3⟩
 ·rw [h] at hk;cases hk
 ·exact ⟨g,h1,h3.cell k _ (zC_get l k hk)⟩
def nmT (l : List Int) : List UInt8:=l.flatMap fun n=>32 :: dc n
theorem nmT_succ (l : List Int) (k : Nat) (hk : k < l.length) : nmT (l.take (k + 1)) = nmT (l.take k) ++ (32 :: dc l[k]):=by
 rw [nmT,List.take_succ_eq_append_getElem hk,List.flatMap_append];simp [nmT]
theorem nmT_len (l : List Int) (h : ∀ n ∈ l,n < 1000000000) : (nmT l).length ≤ 10 * l.length:=by
 induction l with
 | nil=>simp [nmT]
 | cons x l ih=>
  have h1:=dc_len (h x (by simp))
  have h2:=ih (fun n hn=>h n (by simp [hn]))
  simp only [nmT,List.flatMap_cons,List.length_append,List.length_cons] at h2 ⊢
  omega
def LinePost (w : World) (b : Nat) (t : List UInt8) (W : World) (e : Ending) (w' : World) : Prop:=e = .returned (.tuple #[]) ∧ PG w b t w' ∧ Kept b W w'
theorem pline_any (k : Nat) (hk : k < 7) (ahead : List UInt8) (a : Option Addr) (cap : Nat) (l : List Int) (w : World) (b : Nat) (t : List UInt8) (W : World) (hg : PG w b t W) (hn : NumsAt W b a l) (hl : ∀ n ∈ l,0 ≤ n ∧ n < 1000000000) (hll : l.length ≤ cap ∧ l.length ≤ 100) (ht : t.length ≤ 1000000) (ha : ahead.length ≤ 1000) :
  Calls Tryz.prog 65 #[.pointer (some ⟨b,0,none⟩),.int .i64 k,.string (ba ahead),.slice a l.length cap] W (LinePost w b (t ++ lnW k ahead l) W):=by
 have HN:=Lib.hid hn
 have HL:=Lib.hid hl
 obtain ⟨hl1,hl2⟩:=hll
 have hkn : (rkName k).length ≤ 5:=by rcases (by omega : k = 0 ∨ k = 1 ∨ k = 2 ∨ k = 3 ∨ k = 4 ∨ k = 5 ∨ k = 6) with rfl | rfl | rfl | rfl | rfl | rfl | rfl <;> decide
 have HNAM:=fun W=>Lib.hid (pname_any k hk W)
 have HG0 : Hid (PG w b t W.drew):=hg.more (Below.refl _ _).drew
 have HK0 : Hid (Kept b W W.drew):=Kept.ofBelow (Below.refl _ _).drew
 have HTL0 : Hid (t.length + (rkName k).length ≤ 140737488355328):=by rw [Hid];omega
 have bx:=ba_isEmpty ahead
 cases hxe : ahead.isEmpty
 ·have hne : ahead ≠ []:=fun e=>by rw [e] at hxe;cases hxe
  obtain ⟨t1,ht1⟩ : ∃ t1,t1 = (t ++ rkName k) ++ (32 :: ahead):=⟨_,rfl⟩
  have HT : Hid (t1 ++ (nmT l ++ [10]) = t ++ lnW k ahead l):=by
   rw [Hid,ht1,lnW,if_neg hne];simp [nmT]
  have HT1:=Lib.hid ht1
  have htl : t1.length ≤ 1002000:=by rw [ht1];simp only [List.length_append,List.length_cons];omega
  have HST : Hid ((⟨#[32]⟩ : ByteArray) ++ ba ahead = ba (32 :: ahead)):=sp_ba _
  have hds : (ba ahead).size ≤ 1000:=by rw [ba_size];exact ha
  have HTL1 : Hid ((t ++ rkName k).length + (32 :: ahead).length ≤ 140737488355328):=by rw [Hid,List.length_append,List.length_cons];omega
  rw [hxe] at bx
  clear hxe hne ht1 hg hn hl
  go_enter Tryz.func65,Tryz.ntmps65
  go_wp2_with fail
  go_region_held3 (fun _=>True) (trivial) (first | (go_at_call 110;refine ((HNAM _).out).mono ?_;rintro e W4 ⟨rfl,rfl⟩) | (go_at_call 37;refine (pg_write HG0.out _ HTL0.out).mono ?_;rintro e W5 ⟨rfl,h5,h6⟩;have HG1a:=Lib.hid h5;have HK1a : Hid (Kept b W W5):=HK0.out.trans h6;clear h5 h6))
  go_wp2_with (go_at_call 37;rw [HST.out];refine (pg_write HG1a.out _ HTL1.out).mono ?_;rintro e W6 ⟨rfl,h5,h6⟩;rw [← HT1.out] at h5;have HG1:=Lib.hid h5;have HK1 : Hid (Kept b W W6):=HK1a.out.trans h6;clear h5 h6)
  go_upto_region 4 with fail
  go_loopw [26] (fun i wr=>∃ j : Nat,j ≤ l.length ∧ i = .int .i64 j ∧ PG w b (t1 ++ nmT (l.take j)) wr ∧ Kept b W wr) (fun i _=>l.length - (intOf i).toNat)
  case atStart=>exact ⟨0,by omega,rfl,by rw [List.take_zero,show nmT [] = [] from rfl,List.append_nil];exact HG1.out,HK1.out⟩
  clear HG1 HK1
  obtain ⟨j,hj,rfl,hg,hk⟩:=hrel
  have HG2:=Lib.hid hg
  have HK2:=Lib.hid hk
  clear hg hk
  by_cases hlt : j < l.length
  case pos=>
   obtain ⟨g,rfl,hc⟩:=(HN.out.kept HK2.out).at_ j hlt
   obtain ⟨x,hx⟩ : ∃ x,Hid (x = l[j]):=⟨_,Lib.hid rfl⟩
   rw [← hx.out] at hc
   have hx0 : 0 ≤ x ∧ x < 1000000000:=by rw [hx.out];exact HL.out _ (List.getElem_mem hlt)
   obtain ⟨hx1,hx2⟩:=hx0
   have d1 : decide ((j : Int) < (l.length : Int)) = true:=decide_eq_true (by omega)
   have d1' : decide (j < l.length) = true:=decide_eq_true hlt
   have w1 : IntKind.i64.wrap ((j : Int) + 1) = (j : Int) + 1:=by rw [IntKind.wrap_i64];omega
   have HST : Hid ((⟨#[32]⟩ : ByteArray) ++ ba (dc x) = ba (32 :: dc x)):=sp_ba _
   have hds : (ba (dc x)).size ≤ 9:=by rw [ba_size];exact dc_len hx2
   have hnot : ¬ 9223372036854775807 < 1 + (ba (dc x)).size:=by omega
   have HNT : Hid (nmT (l.take (j + 1)) = nmT (l.take j) ++ (32 :: dc x)):=by rw [Hid,nmT_succ l j hlt,hx.out]
   have HTL : Hid ((t1 ++ nmT (l.take j)).length + (32 :: dc x).length ≤ 140737488355328):=by
    have h1:=nmT_len (l.take j) (fun n hn=>(HL.out n (List.mem_of_mem_take hn)).2)
    have h2:=dc_len hx2
    rw [List.length_take] at h1
    rw [Hid,List.length_append,List.length_cons];omega
   have HG3 : Hid (PG w b (t1 ++ nmT (l.take j)) wr.drew):=HG2.out.more (Below.refl _ _).drew
   have HK3 : Hid (Kept b W wr.drew):=HK2.out.trans (Kept.ofBelow (Below.refl _ _).drew)
   go_upto_region 6 with fail
   go_region_held3 (fun _=>True) (trivial) (first | (go_at_call 71;refine (itoa_dc x hx1 (by omega) _ HG3.out.powW).mono ?_;rintro e W4 ⟨rfl,hb4⟩;have HG4:=Lib.hid (HG3.out.more hb4);have HK4 : Hid (Kept b W W4):=HK3.out.trans (Kept.ofBelow hb4);clear hb4) | (go_at_call 37;rw [HST.out];refine (pg_write HG4.out _ HTL.out).mono ?_;rintro e W5 ⟨rfl,h5,h6⟩;have HG5:=Lib.hid h5;have HK5 : Hid (Kept b W W5):=HK4.out.trans h6;clear h5 h6))
   all_goals
    go_wp2_with fail
    go_roundw
    case rel=>exact ⟨j + 1,by omega,by go_num,by rw [HNT.out,← List.append_assoc];exact HG5.out,HK5.out⟩
    case measure=>simp [intOf];omega
  obtain rfl : j = l.length:=by omega
  rw [List.take_length] at HG2
  have d1 : decide ((l.length : Int) < (l.length : Int)) = false:=decide_eq_false (by omega)
  have HTL : Hid ((t1 ++ nmT l).length + [(10 : UInt8)].length ≤ 140737488355328):=by
   have h1:=nmT_len l (fun n hn=>(HL.out n hn).2)
   rw [Hid,List.length_append];simp;omega
  go_wp2_with (go_at_call 37;refine (pg_write HG2.out [10] HTL.out).mono ?_;rintro e W5 ⟨rfl,h5,h6⟩;have HG5:=Lib.hid h5;have HK5 : Hid (Kept b W W5):=HK2.out.trans h6;clear h5 h6)
  go_end0
  exact ⟨rfl,by rw [List.append_assoc,HT.out] at HG5;exact HG5.out,HK5.out⟩
 ·obtain rfl : ahead = []:=List.isEmpty_iff.1 hxe
  obtain ⟨t1,ht1⟩ : ∃ t1,t1 = t ++ rkName k:=⟨_,rfl⟩
  have HT : Hid (t1 ++ (nmT l ++ [10]) = t ++ lnW k [] l):=by
   rw [Hid,ht1,lnW,if_pos rfl];simp [nmT]
  have htl : t1.length ≤ 1002000:=by rw [ht1];simp only [List.length_append];omega
  have HT1:=Lib.hid ht1
  clear hxe ht1 hg hn hl
  go_enter Tryz.func65,Tryz.ntmps65
  go_wp2_with fail
  go_region_held3 (fun _=>True) (trivial) (first | (go_at_call 110;refine ((HNAM _).out).mono ?_;rintro e W4 ⟨rfl,rfl⟩) | (go_at_call 37;refine (pg_write HG0.out _ HTL0.out).mono ?_;rintro e W5 ⟨rfl,h5,h6⟩;rw [← HT1.out] at h5;have HG1:=Lib.hid h5;have HK1 : Hid (Kept b W W5):=HK0.out.trans h6;clear h5 h6))
  go_upto_region 4 with fail
  go_loopw [26] (fun i wr=>∃ j : Nat,j ≤ l.length ∧ i = .int .i64 j ∧ PG w b (t1 ++ nmT (l.take j)) wr ∧ Kept b W wr) (fun i _=>l.length - (intOf i).toNat)
  case atStart=>exact ⟨0,by omega,rfl,by rw [List.take_zero,show nmT [] = [] from rfl,List.append_nil];exact HG1.out,HK1.out⟩
  clear HG1 HK1
  obtain ⟨j,hj,rfl,hg,hk⟩:=hrel
  have HG2:=Lib.hid hg
  have HK2:=Lib.hid hk
  clear hg hk
  by_cases hlt : j < l.length
  case pos=>
   obtain ⟨g,rfl,hc⟩:=(HN.out.kept HK2.out).at_ j hlt
   obtain ⟨x,hx⟩ : ∃ x,Hid (x = l[j]):=⟨_,Lib.hid rfl⟩
   rw [← hx.out] at hc
   have hx0 : 0 ≤ x ∧ x < 1000000000:=by rw [hx.out];exact HL.out _ (List.getElem_mem hlt)
   obtain ⟨hx1,hx2⟩:=hx0
   have d1 : decide ((j : Int) < (l.length : Int)) = true:=decide_eq_true (by omega)
   have d1' : decide (j < l.length) = true:=decide_eq_true hlt
   have w1 : IntKind.i64.wrap ((j : Int) + 1) = (j : Int) + 1:=by rw [IntKind.wrap_i64];omega
   have HST : Hid ((⟨#[32]⟩ : ByteArray) ++ ba (dc x) = ba (32 :: dc x)):=sp_ba _
   have hds : (ba (dc x)).size ≤ 9:=by rw [ba_size];exact dc_len hx2
   have hnot : ¬ 9223372036854775807 < 1 + (ba (dc x)).size:=by omega
   have HNT : Hid (nmT (l.take (j + 1)) = nmT (l.take j) ++ (32 :: dc x)):=by rw [Hid,nmT_succ l j hlt,hx.out]
   have HTL : Hid ((t1 ++ nmT (l.take j)).length + (32 :: dc x).length ≤ 140737488355328):=by
    have h1:=nmT_len (l.take j) (fun n hn=>(HL.out n (List.mem_of_mem_take hn)).2)
    have h2:=dc_len hx2
    rw [List.length_take] at h1
    rw [Hid,List.length_append,List.length_cons];omega
   have HG3 : Hid (PG w b (t1 ++ nmT (l.take j)) wr.drew):=HG2.out.more (Below.refl _ _).drew
   have HK3 : Hid (Kept b W wr.drew):=HK2.out.trans (Kept.ofBelow (Below.refl _ _).drew)
   go_upto_region 6 with fail
   go_region_held3 (fun _=>True) (trivial) (first | (go_at_call 71;refine (itoa_dc x hx1 (by omega) _ HG3.out.powW).mono ?_;rintro e W4 ⟨rfl,hb4⟩;have HG4:=Lib.hid (HG3.out.more hb4);have HK4 : Hid (Kept b W W4):=HK3.out.trans (Kept.ofBelow hb4);clear hb4) | (go_at_call 37;rw [HST.out];refine (pg_write HG4.out _ HTL.out).mono ?_;rintro e W5 ⟨rfl,h5,h6⟩;have HG5:=Lib.hid h5;have HK5 : Hid (Kept b W W5):=HK4.out.trans h6;clear h5 h6))
   all_goals
    go_wp2_with fail
    go_roundw
    case rel=>exact ⟨j + 1,by omega,by go_num,by rw [HNT.out,← List.append_assoc];exact HG5.out,HK5.out⟩
    case measure=>simp [intOf];omega
  obtain rfl : j = l.length:=by omega
  rw [List.take_length] at HG2
  have d1 : decide ((l.length : Int) < (l.length : Int)) = false:=decide_eq_false (by omega)
  have HTL : Hid ((t1 ++ nmT l).length + [(10 : UInt8)].length ≤ 140737488355328):=by
   have h1:=nmT_len l (fun n hn=>(HL.out n hn).2)
   rw [Hid,List.length_append];simp;omega
  go_wp2_with (go_at_call 37;refine (pg_write HG2.out [10] HTL.out).mono ?_;rintro e W5 ⟨rfl,h5,h6⟩;have HG5:=Lib.hid h5;have HK5 : Hid (Kept b W W5):=HK2.out.trans h6;clear h5 h6)
  go_end0
  exact ⟨rfl,by rw [List.append_assoc,HT.out] at HG5;exact HG5.out,HK5.out⟩
end Go.Proofs.YtoklonmiejdgmaaGreatDoor
/- Package script and its reference: digits of bytes, there and back: plain. -/
namespace Go.Proofs.YtoklonmiejdgmaaGreatDoor
set_option linter.unusedVariables false
set_option linter.unusedSimpArgs false
set_option linter.unnecessarySimpa false
open Go.RowKit Go.Sort
set_option maxHeartbeats 2000000
set_option maxRecDepth 100000
set_option linter.unusedVariables false
def hexL : List UInt8:=[48,49,50,51,52,53,54,55,56,57,97,98,99,100,101,102]
def hexD (n : Nat) : UInt8:=hexL.getD n 0
def hxB (b : UInt8) : List UInt8:=[hexD (b.toNat / 16),hexD (b.toNat % 16)]
/-- Bytes in digits. -/
def hexV (s : List UInt8) : List UInt8:=if s = [] then [45] else s.flatMap hxB
/-- A digit's value. -/
def hvB (b : UInt8) : Bool:=(decide (48 ≤ b.toNat) && decide (b.toNat ≤ 57)) || (decide (97 ≤ b.toNat) && decide (b.toNat ≤ 102))
def hvN (b : UInt8) : Nat:=if b.toNat ≤ 57 then b.toNat - 48 else b.toNat - 87
def unPair : List UInt8 → List UInt8
 | a :: b :: r=>UInt8.ofNat (16 * hvN a + hvN b) :: unPair r
 | _=>[]
def unB (s : List UInt8) : Bool:=decide (s = [45]) || (decide (s ≠ []) && (decide (s.length % 2 = 0) && s.all hvB))
def unV (s : List UInt8) : List UInt8:=if s = [45] then [] else if unB s then unPair s else []
theorem hexD_ok : ∀ n : Fin 16,hvB (hexD n.val) = true ∧ hvN (hexD n.val) = n.val:=by decide +kernel
theorem hexD_all : ∀ b : Fin 256,hvB (UInt8.ofNat b.val) = true → hexD (hvN (UInt8.ofNat b.val)) = UInt8.ofNat b.val ∧ hvN (UInt8.ofNat b.val) < 16:=by decide +kernel
theorem hexD_back {b : UInt8} (h : hvB b = true) : hexD (hvN b) = b ∧ hvN b < 16:=by
 have:=hexD_all ⟨b.toNat,b.toNat_lt⟩
 simp only [UInt8.ofNat_toNat] at this
 exact this h
theorem hxB_pair (b : UInt8) (r : List UInt8) : unPair (hxB b ++ r) = b :: unPair r:=by
 have hb:=b.toNat_lt
 have h1:=(hexD_ok ⟨b.toNat / 16,by omega⟩).2
 have h2:=(hexD_ok ⟨b.toNat % 16,by omega⟩).2
 simp only at h1 h2
 show unPair (hexD (b.toNat / 16) :: hexD (b.toNat % 16) :: r) = _
 rw [unPair,h1,h2,show 16 * (b.toNat / 16) + b.toNat % 16 = b.toNat by omega,UInt8.ofNat_toNat]
theorem flat_pair : ∀ s : List UInt8,unPair (s.flatMap hxB) = s
 | []=>rfl
 | b :: s=>by rw [List.flatMap_cons,hxB_pair,flat_pair s]
theorem flat_len : ∀ s : List UInt8,(s.flatMap hxB).length = 2 * s.length
 | []=>rfl
 | b :: s=>by rw [List.flatMap_cons,List.length_append,flat_len s];simp [hxB];omega
theorem hex_ne (s : List UInt8) : hexV s ≠ []:=by
 unfold hexV
 split
 ·simp
 ·rename_i h
  cases s with
  | nil=>exact absurd rfl h
  | cons b s=>simp [hxB]
theorem pair_len : ∀ (n : Nat) (s : List UInt8),s.length = 2 * n → (unPair s).length = n
 | 0,s,h=>by rw [show s = [] from List.eq_nil_of_length_eq_zero (by omega)];rfl
 | n + 1,s,h=>by
  match s,h with
  | a :: b :: r,h=>rw [unPair,List.length_cons,pair_len n r (by simp at h;omega)]
end Go.Proofs.YtoklonmiejdgmaaGreatDoor
/- Package script: Hex, value, Unhex. -/
namespace Go.Proofs.YtoklonmiejdgmaaGreatDoor
set_option linter.unusedVariables false
set_option linter.unusedSimpArgs false
set_option linter.unnecessarySimpa false
open Go.RowKit Go.Sort
set_option maxHeartbeats 4000000
set_option maxRecDepth 100000
set_option linter.unusedVariables false
theorem wbyte_any (B b : Nat) (bs : List Value) (c : Int) (w : World) (h : Lib.IsBuilderF 78 5 B b bs w) (hlen : bs.length + 1 ≤ 140737488355328) (hBw : B ≤ w.heap.size) :
  Calls Tryz.prog 31 #[.pointer (some ⟨b,0,none⟩),.int .u8 c] w fun e w'=>e = .returned .nilIface ∧ (Lib.BuilderAtF 78 5 B b (.pointer (some ⟨b,0,none⟩)) (bs ++ [.int .u8 c]) w' ∧ Below B w w' ∧ Lib.OthersKept 5 (some b) w w'):=by
 obtain ⟨i0,hi,hz0,hz1,hz2⟩:=info_parts info_byte
 go_enter Tryz.func31,Tryz.ntmps31
 go_wp2_with (go_at_call 64;refine (copy_any B b bs _ h).mono ?_)
 rintro e w1 ⟨rfl,h1,hb1,hk1⟩
 obtain ⟨hB,v,hbk,hown,hne⟩:=h1
 have c0 : w1.cell? ⟨b,0,none⟩ = some (.pointer (some ⟨b,0,none⟩)):=by rw [Lib.cell_of_heap hbk];rfl
 have c1 : w1.cell? ⟨b,1,none⟩ = some v:=by rw [Lib.cell_of_heap hbk];rfl
 go_wp2_with (at_builtin;refine wpList_append_ownF _ rfl _ _ 76 rfl B 5 i0 (.int .u8 0) 1 1 Tryz.underlying76 hi hz0 hz1 hz2 rfl (by decide) _ _ _ rfl (hown.alloc _) ⟨w1.heap.size,0,none⟩ 1 1 [.int .u8 c] rfl rfl ?c1 ?c2 ?c3 ?c4 ?c5 ?_)
 case c1=>
  intro j u hj
  match j,hj with
  | 0,hj=>simp at hj;subst hj;simp [Addr.add]
 case c2=>intro u hu;simp at hu;subst hu;rfl
 case c3=>unfold maxLen;omega
 case c4=>omega
 case c5=>have:=hb1.size;simp;omega
 intro v' w2 hown' hgrow _
 have hlt : b < w1.heap.size:=by
  rcases Nat.lt_or_ge b w1.heap.size with h' | h'
  ·exact h'
  ·simp [Array.getElem?_eq_none h'] at hbk
 have hb2 : w2.heap[b]? = some (.cells #[.pointer (some ⟨b,0,none⟩),v] 78 (0,0)):=by
  rw [hgrow.block b (by simp;omega) (fun e=>hne e.symm),Lib.alloc_old w1 _ b hlt]
  exact hbk
 have d0 : w2.cell? ⟨b,0,none⟩ = some (.pointer (some ⟨b,0,none⟩)):=by rw [Lib.cell_of_heap hb2];rfl
 have d1 : w2.cell? ⟨b,1,none⟩ = some v:=by rw [Lib.cell_of_heap hb2];rfl
 have f1 : w2.frozen? ⟨b,1,none⟩ = false:=Lib.frozen_of_heap hb2 1
 obtain ⟨g,cap,rfl⟩ : ∃ g cap,v' = .slice (some ⟨g,0,none⟩) (bs.length + 1) cap:=by
  rcases hown'.2 with ⟨_,h0⟩ | ⟨g,cap,cur,fz,hv,_⟩
  ·omega
  ·exact ⟨g,cap,hv⟩
 go_wp2
 go_ret
 refine ⟨rfl,?_,?_,((hk1.alloc _).grown hgrow (Lib.ownsRowF_kind (hown.alloc _))).setCell ⟨b,1,none⟩ rfl _⟩
 ·exact Lib.BuilderAtF.put (T:=78) (e:=5) hB hb2 (bs':=bs ++ [.int .u8 c]) (by simpa using hown') (by decide)
 ·exact ((hb1.alloc (by have:=hb1.size;omega) _).grown hgrow (by have:=hb1.size;simp;omega) (fun k hk=>(hown.lt k hk).1)).setCell (p:=⟨b,1,none⟩) hB _
theorem bwbyte (B b : Nat) (l : List UInt8) (x : UInt8) (w : World) (h : BIs w B b l) (hlen : l.length + 1 ≤ 140737488355328) (hBw : B ≤ w.heap.size) :
  Calls Tryz.prog 31 #[.pointer (some ⟨b,0,none⟩),.int .u8 (x.toNat : Int)] w fun e w'=>e = .returned .nilIface ∧ BIs w' B b (l ++ [x]) ∧ Below B w w':=by
 refine (wbyte_any B b (Lib.byteCells l) x.toNat w h (by rw [Lib.byteCells_length];exact hlen) hBw).mono ?_
 rintro e w' ⟨h1,h2,h3,h4⟩
 exact ⟨h1,.inr (by rw [show Lib.byteCells (l ++ [x]) = Lib.byteCells l ++ [.int .u8 (x.toNat : Int)] from by simp [Lib.byteCells]];exact h2),h3⟩
theorem hexS_at : ∀ n : Fin 16,(⟨#[48,49,50,51,52,53,54,55,56,57,97,98,99,100,101,102]⟩ : ByteArray)[n.val]? = some (hexD n.val):=by decide +kernel
theorem hexN_at (n : Nat) (h : n < 16) : ∃ hh : n < (⟨#[48,49,50,51,52,53,54,55,56,57,97,98,99,100,101,102]⟩ : ByteArray).size,(⟨#[48,49,50,51,52,53,54,55,56,57,97,98,99,100,101,102]⟩ : ByteArray)[n] = hexD n:=by
 have:=hexS_at ⟨n,h⟩
 refine ⟨h,?_⟩
 rw [getElem?_pos _ n h] at this
 exact Option.some.inj this
theorem flat_take (s : ByteArray) (k : Nat) (h : k < s.size) : (s.data.toList.take (k + 1)).flatMap hxB = (s.data.toList.take k).flatMap hxB ++ [hexD (s[k].toNat / 16),hexD (s[k].toNat % 16)]:=by
 rw [take_all_succ s k h,List.flatMap_append];simp [hxB]
theorem hex_any (s : ByteArray) (hs : s.size ≤ 1000000000) (w : World) : Calls Tryz.prog 12 #[.string s] w fun e w'=>e = .returned (.string (ba (hexV s.data.toList))) ∧ Below w.heap.size w w':=by
 have ie:=toList_empty s
 obtain ⟨H,hH⟩ : ∃ H : ByteArray,H = ⟨#[48,49,50,51,52,53,54,55,56,57,97,98,99,100,101,102]⟩:=⟨_,rfl⟩
 have hsH : 16 ≤ H.size:=by rw [hH];decide
 have HGET : Hid (∀ n (h : n < 16),H[n]'(Nat.lt_of_lt_of_le h hsH) = hexD n):=fun n h=>by
  obtain ⟨h1,h2⟩:=hexN_at n h
  subst hH;exact h2
 have HH:=Lib.hid hH
 by_cases h0 : s.size = 0
 ·rw [decide_eq_true h0] at ie
  clear hH
  have HV : Hid (hexV s.data.toList = [45]):=by
   have : s.data.toList = []:=List.eq_nil_of_length_eq_zero (by rw [ba_len];exact h0)
   rw [Hid,this];rfl
  clear h0
  go_enter Tryz.func12,Tryz.ntmps12
  go_wp2_with fail
  go_ret
  exact ⟨by rw [HV.out];rfl,Below.refl _ _⟩
 ·rw [decide_eq_false h0] at ie
  have HV : Hid (hexV s.data.toList = (s.data.toList.take s.size).flatMap hxB):=by
   have hne : s.data.toList ≠ []:=fun e=>h0 (by rw [← ba_len,e];rfl)
   rw [Hid,List.take_of_length_le (by rw [ba_len];omega),hexV,if_neg hne]
  have HNE : Hid ((s.data.toList.take s.size).flatMap hxB ≠ []):=by
   rw [← HV.out];exact hex_ne _
  have HFR:=Lib.hid (BIs.fresh w)
  have HB0 : Hid (Below w.heap.size w (w.alloc (.cells #[.pointer none,.slice none 0 0] 78))):=(Below.refl _ _).alloc (Nat.le_refl _) _
  have HFT : Hid (∀ k (h : k < s.size),(s.data.toList.take (k + 1)).flatMap hxB = (s.data.toList.take k).flatMap hxB ++ [hexD (s[k].toNat / 16),hexD (s[k].toNat % 16)]):=fun k h=>flat_take s k h
  have HLT : Hid (∀ k,k ≤ s.size → ((s.data.toList.take k).flatMap hxB).length = 2 * k):=fun k hk=>by rw [flat_len,List.length_take,ba_len,Nat.min_eq_left hk]
  clear h0 hH
  go_enter Tryz.func12,Tryz.ntmps12
  rw [← HH.out]
  go_upto_region 4 with fail
  generalize w.alloc (.cells #[.pointer none,.slice none 0 0] 78) = W1 at HFR HB0 ⊢
  obtain ⟨b,hb⟩ : ∃ b,b = w.heap.size:=⟨_,rfl⟩
  rw [← hb] at HFR ⊢
  have HW:=Lib.hid hb
  clear hb
  go_upto_region 5 with fail
  go_loopw [9] (fun i wr=>∃ k : Nat,k ≤ s.size ∧ i = .int .i64 k ∧ BIs wr b b ((s.data.toList.take k).flatMap hxB) ∧ Below w.heap.size w wr) (fun i _=>s.size - (intOf i).toNat)
  case atStart=>exact ⟨0,by omega,rfl,HFR.out,HB0.out⟩
  case round=>
   clear HFR HB0
   obtain ⟨k,hk,rfl,hbi,hbe⟩:=hrel
   have HBI:=Lib.hid hbi
   have HBE:=Lib.hid hbe
   have hsz : b ≤ wr.heap.size:=by rw [HW.out];exact hbe.size
   clear hbi hbe
   by_cases hlt : k < s.size
   ·have hby:=s[k].toNat_lt
    have HF:=Lib.hid (HFT.out k hlt)
    have HL:=Lib.hid (HLT.out k hk)
    obtain ⟨t,ht⟩ : ∃ t,t = (s.data.toList.take k).flatMap hxB:=⟨_,rfl⟩
    rw [← ht] at HF HL HBI
    have d1 : decide ((k : Int) < (s.size : Int)) = true:=decide_eq_true (by omega)
    have d1' : decide (k < s.size) = true:=decide_eq_true hlt
    have w1 : IntKind.i64.wrap ((k : Int) + 1) = (k : Int) + 1:=by rw [IntKind.wrap_i64];omega
    go_wp2_with fail
    refine (bwbyte b b t (H[s[k].toNat / 16]'(by omega)) wr HBI.out (by have:=HL.out;omega) hsz).mono ?_;rintro e w2 ⟨rfl,h2,h3⟩
    have HB2:=Lib.hid h2
    have HBE2:=Lib.hid (HBE.out.trans (by rw [← HW.out];exact h3))
    have hsz2 : b ≤ w2.heap.size:=by rw [HW.out];exact HBE2.out.size
    clear h2 h3
    go_wp2_with fail
    refine (bwbyte b b _ (H[s[k].toNat % 16]'(by omega)) w2 HB2.out (by rw [List.length_append,HL.out];simp;omega) hsz2).mono ?_;rintro e w3 ⟨rfl,h2,h3⟩
    have HB3 : Hid (BIs w3 b b ((s.data.toList.take (k + 1)).flatMap hxB)):=by
     rw [Hid,HF.out,← HGET.out _ (by omega : s[k].toNat / 16 < 16),← HGET.out _ (by omega : s[k].toNat % 16 < 16)]
     rw [List.append_assoc] at h2;exact h2
    have HBE3:=Lib.hid (HBE2.out.trans (by rw [← HW.out];exact h3))
    clear h2 h3
    go_wp2_with fail
    go_roundw
    case rel=>exact ⟨k + 1,by omega,by go_num,HB3.out,HBE3.out⟩
    case measure=>simp [intOf];omega
   ·obtain rfl : k = s.size:=by omega
    have d1 : decide ((s.size : Int) < (s.size : Int)) = false:=decide_eq_false (by omega)
    rw [← HV.out] at HBI
    go_wp2_with (go_at_call 32;refine (bstring _ _ _ _ HBI.out hsz).mono ?_;rintro e w3 ⟨rfl,_,h3,_⟩)
    go_ret
    exact ⟨rfl,HBE.out.trans (by rw [← HW.out];exact h3)⟩
end Go.Proofs.YtoklonmiejdgmaaGreatDoor
/- Package script: value, Unhex. -/
namespace Go.Proofs.YtoklonmiejdgmaaGreatDoor
set_option linter.unusedVariables false
set_option linter.unusedSimpArgs false
set_option linter.unnecessarySimpa false
open Go.RowKit Go.Sort
set_option maxHeartbeats 4000000
set_option maxRecDepth 100000
set_option linter.unusedVariables false
theorem value_yes (x : Nat) (h : (48 ≤ x ∧ x ≤ 57) ∨ (97 ≤ x ∧ x ≤ 102)) (w : World) : Calls Tryz.prog 33 #[.int .i32 (x : Int)] w fun e w'=>e = .returned (.tuple #[.int .i64 ((if x ≤ 57 then x - 48 else x - 87 : Nat) : Int),.bool true]) ∧ w = w':=by
 by_cases h1 : x ≤ 57
 ·rw [if_pos h1]
  have e1 : decide ((x : Int) ≥ 48) = true:=decide_eq_true (by omega)
  have e2 : decide ((x : Int) ≤ 57) = true:=decide_eq_true (by omega)
  have e2' : decide (x ≤ 57) = true:=decide_eq_true h1
  have e1' : decide (48 ≤ x) = true:=decide_eq_true (by omega)
  have w1 : IntKind.i32.wrap ((x : Int) - 48) = (x : Int) - 48:=by rw [IntKind.wrap_i32];omega
  have w2 : IntKind.i64.wrap ((x : Int) - 48) = (x : Int) - 48:=by rw [IntKind.wrap_i64];omega
  have hx : ((x - 48 : Nat) : Int) = (x : Int) - 48:=by omega
  have HX:=Lib.hid hx
  rw [HX.out]
  clear h h1 hx
  go_enter Tryz.func33,Tryz.ntmps33
  go_wp2_with fail
  (go_ret2;exact ⟨rfl,rfl⟩)
 ·have h2 : 97 ≤ x ∧ x ≤ 102:=by omega
  rw [if_neg h1]
  have e1 : decide ((x : Int) ≥ 48) = true:=decide_eq_true (by omega)
  have e2 : decide ((x : Int) ≤ 57) = false:=decide_eq_false (by omega)
  have e2' : decide (x ≤ 57) = false:=decide_eq_false h1
  have e1' : decide (48 ≤ x) = true:=decide_eq_true (by omega)
  have e3 : decide ((x : Int) ≥ 97) = true:=decide_eq_true (by omega)
  have e3' : decide (97 ≤ x) = true:=decide_eq_true (by omega)
  have e4 : decide ((x : Int) ≤ 102) = true:=decide_eq_true (by omega)
  have e4' : decide (x ≤ 102) = true:=decide_eq_true (by omega)
  have w1 : IntKind.i32.wrap ((x : Int) - 97) = (x : Int) - 97:=by rw [IntKind.wrap_i32];omega
  have w2 : IntKind.i64.wrap ((x : Int) - 97) = (x : Int) - 97:=by rw [IntKind.wrap_i64];omega
  have w3 : IntKind.i64.wrap ((x : Int) - 97 + 10) = (x : Int) - 97 + 10:=by rw [IntKind.wrap_i64];omega
  have hx : ((x - 87 : Nat) : Int) = (x : Int) - 97 + 10:=by omega
  have HX:=Lib.hid hx
  rw [HX.out]
  clear h h1 hx h2
  go_enter Tryz.func33,Tryz.ntmps33
  go_wp2_with fail
  (go_ret2;exact ⟨rfl,rfl⟩)
theorem value_no (x : Nat) (h : ¬ ((48 ≤ x ∧ x ≤ 57) ∨ (97 ≤ x ∧ x ≤ 102))) (w : World) : Calls Tryz.prog 33 #[.int .i32 (x : Int)] w fun e w'=>e = .returned (.tuple #[.int .i64 0,.bool false]) ∧ w = w':=by
  obtain ⟨p1,hp1⟩ : ∃ p,p = decide (48 ≤ x):=⟨_,rfl⟩
  obtain ⟨p2,hp2⟩ : ∃ p,p = decide (x ≤ 57):=⟨_,rfl⟩
  obtain ⟨p3,hp3⟩ : ∃ p,p = decide (97 ≤ x):=⟨_,rfl⟩
  obtain ⟨p4,hp4⟩ : ∃ p,p = decide (x ≤ 102):=⟨_,rfl⟩
  have e1 : decide ((x : Int) ≥ 48) = p1:=by rw [hp1,decide_eq_decide];omega
  have e2 : decide ((x : Int) ≤ 57) = p2:=by rw [hp2,decide_eq_decide];omega
  have e3 : decide ((x : Int) ≥ 97) = p3:=by rw [hp3,decide_eq_decide];omega
  have e4 : decide ((x : Int) ≤ 102) = p4:=by rw [hp4,decide_eq_decide];omega
  have f1:=hp1.symm
  have f2:=hp2.symm
  have f3:=hp3.symm
  have f4:=hp4.symm
  have k1 : (p1 && p2) = false:=by
    rw [hp1,hp2,Bool.and_eq_false_iff,decide_eq_false_iff_not,decide_eq_false_iff_not];omega
  have k2 : (p3 && p4) = false:=by
    rw [hp3,hp4,Bool.and_eq_false_iff,decide_eq_false_iff_not,decide_eq_false_iff_not];omega
  clear hp1 hp2 hp3 hp4 h
  have K1:=Lib.hid k1
  have K2:=Lib.hid k2
  clear k1 k2
  cases p1 <;> cases p2 <;> cases p3 <;> cases p4
  all_goals first
    | (exact absurd K1.out (by decide))
    | (exact absurd K2.out (by decide))
    | (go_enter Tryz.func33,Tryz.ntmps33
       go_wp2_with fail
       go_ret2
       exact ⟨rfl,rfl⟩)
end Go.Proofs.YtoklonmiejdgmaaGreatDoor
/- Package script: Unhex. -/
namespace Go.Proofs.YtoklonmiejdgmaaGreatDoor
set_option linter.unusedVariables false
set_option linter.unusedSimpArgs false
set_option linter.unnecessarySimpa false
open Go.RowKit Go.Sort
set_option maxHeartbeats 4000000
set_option maxRecDepth 100000
set_option linter.unusedVariables false
theorem own_cells {w : World} {B g n : Nat} {e : TypeId} {cs : List Value} (ho : ObjAt w g e cs) (hl : cs.length = n) (hB : B ≤ g) (hn : n ≤ maxLen) : Own w B e 1 (some ⟨g,0,none⟩) n n cs:=
 ⟨by omega,.inr ⟨g,n,cs.toArray,rfl,hB,ho,Nat.le_refl _,hn,by simpa using hl,by simp [← hl]⟩⟩
/-- The row of bytes behind k digits. -/
def cellU (s : List UInt8) (k j : Nat) : Nat:=if 2 * j + 1 < k then 16 * hvN (s.getD (2 * j) 0) + hvN (s.getD (2 * j + 1) 0) else if 2 * j < k then hvN (s.getD (2 * j) 0) else 0
def rowU (s : List UInt8) (k n : Nat) : List UInt8:=(List.range n).map fun j=>UInt8.ofNat (cellU s k j)
theorem rowU_len (s : List UInt8) (k n : Nat) : (rowU s k n).length = n:=by simp [rowU]
theorem hvN_lt {b : UInt8} (h : hvB b = true) : hvN b < 16:=(hexD_back h).2
theorem unPair_get : ∀ (n : Nat) (s : List UInt8),s.length = 2 * n → ∀ j,j < n → (unPair s)[j]? = some (UInt8.ofNat (16 * hvN (s.getD (2 * j) 0) + hvN (s.getD (2 * j + 1) 0)))
 | 0,s,h,j,hj=>by omega
 | n + 1,s,h,j,hj=>by
  match s,h with
  | a :: b :: r,h=>
   rw [unPair]
   match j with
   | 0=>rfl
   | j + 1=>
    have:=unPair_get n r (by simp at h;omega) j (by omega)
    rw [List.getElem?_cons_succ,this]
    rw [show 2 * (j + 1) = 2 * j + 1 + 1 by omega,show 2 * j + 1 + 1 + 1 = (2 * j + 1) + 1 + 1 by omega]
    simp only [List.getD_cons_succ]
theorem rowU_full {s : List UInt8} {n : Nat} (h : s.length = 2 * n) : rowU s (2 * n) n = unPair s:=by
 apply List.ext_getElem?
 intro j
 by_cases hj : j < n
 ·rw [unPair_get n s h j hj,rowU,List.getElem?_map,List.getElem?_range hj]
  simp only [Option.map_some,cellU]
  rw [if_pos (by omega)]
 ·rw [List.getElem?_eq_none (by rw [rowU_len];omega),List.getElem?_eq_none (by rw [pair_len n s h];omega)]
theorem cellU_step {s : List UInt8} {k : Nat} (hk : k < s.length) (hall : ∀ j (hj : j < s.length),j < k + 1 → hvB s[j] = true) :
  cellU s k (k / 2) < 16 ∧ cellU s (k + 1) (k / 2) = cellU s k (k / 2) * 16 + hvN s[k] ∧ ∀ j,j ≠ k / 2 → cellU s (k + 1) j = cellU s k j:=by
 have hg : ∀ j (hj : j < s.length),s.getD j 0 = s[j]:=fun j hj=>by rw [List.getD_eq_getElem?_getD,List.getElem?_eq_getElem hj];rfl
 refine ⟨?_,?_,fun j hj=>?_⟩
 ·unfold cellU
  rw [if_neg (by omega)]
  split
  ·rename_i h
   rw [hg _ (by omega)]
   exact hvN_lt (hall _ (by omega) (by omega))
  ·omega
 ·unfold cellU
  rw [if_neg (show ¬ 2 * (k / 2) + 1 < k by omega)]
  by_cases he : k % 2 = 0
  ·rw [if_neg (by omega),if_pos (by omega),if_neg (by omega),hg _ (by omega)]
   have : 2 * (k / 2) = k:=by omega
   simp only [this];omega
  ·rw [if_pos (by omega),if_pos (by omega),hg _ (by omega),hg _ (by omega)]
   have : 2 * (k / 2) + 1 = k:=by omega
   simp only [this];omega
 ·unfold cellU
  by_cases h1 : 2 * j + 1 < k
  ·rw [if_pos h1,if_pos (by omega)]
  ·rw [if_neg h1,if_neg (by omega)]
   by_cases h2 : 2 * j < k
   ·rw [if_pos h2,if_pos (by omega)]
   ·rw [if_neg h2,if_neg (by omega)]
theorem rowU_step {s : List UInt8} {k n : Nat} (hk : k < s.length) (hall : ∀ j (hj : j < s.length),j < k + 1 → hvB s[j] = true) : rowU s (k + 1) n = (rowU s k n).set (k / 2) (UInt8.ofNat (cellU s k (k / 2) * 16 + hvN s[k])):=by
 obtain ⟨_,h2,h3⟩:=cellU_step hk hall
 apply List.ext_getElem?
 intro j
 rw [List.getElem?_set]
 by_cases hj : k / 2 = j
 ·subst hj
  rw [if_pos rfl]
  by_cases hn : k / 2 < n
  ·rw [if_pos (by rw [rowU_len];exact hn),rowU,List.getElem?_map,List.getElem?_range hn]
   simp only [Option.map_some];rw [h2]
  ·rw [if_neg (by rw [rowU_len];exact hn),List.getElem?_eq_none (by rw [rowU_len];omega)]
 ·rw [if_neg hj]
  unfold rowU
  rw [List.getElem?_map,List.getElem?_map]
  by_cases hn : j < n
  ·rw [List.getElem?_range hn]
   simp only [Option.map_some];rw [h3 j (Ne.symm hj)]
  ·rw [List.getElem?_eq_none (by simp;omega)];rfl
theorem bC_set (l : List UInt8) (i : Nat) (x : UInt8) : (bC l).set i (.int .u8 (x.toNat : Int)) = bC (l.set i x):=by
 unfold bC;rw [List.map_set]
theorem bC_zero (n : Nat) : madeCells (Value.int .u8 0).cells (n * 1) = (bC (rowU [] 0 n)).toArray:=by
 apply Array.ext'
 simp only [madeCells,bC,rowU,Nat.mul_one,Array.toList_map,Array.toList_range,List.map_map]
 apply List.map_congr_left
 intro j hj
 simp [cellU,Value.cells,Nat.mod_one]
theorem rowU_zero (s : List UInt8) (n : Nat) : rowU [] 0 n = rowU s 0 n:=by
 unfold rowU cellU;simp
theorem info_u8q : (Tryz.prog.info? 5).map (fun i=>(i.zero,i.size,i.bytes)) = some (some (.int .u8 0),1,1):=by kernel_rfl
theorem make_u8 (n : Nat) (hn : n ≤ 1000000) (w : World) : (Instr.makeSlice 76 (.int .i64 (n : Int)) (.int .i64 (n : Int))).run Tryz.prog w = .ok (.slice (some ⟨w.heap.size,0,none⟩) n n) (w.alloc (.cells (bC (rowU [] 0 n)).toArray 5)):=by
 obtain ⟨i0,hi0,hz0,hz1,hz2⟩:=info_parts info_u8q
 have h:=run_makeSlice w 76 5 i0 (.int .u8 0) Tryz.underlying76 hi0 hz0 .i64 .i64 (n : Int) (n : Int) (by omega) (by omega) (by rw [hz1,Int.toNat_natCast];omega) (by rw [hz2];omega) (by omega)
 rw [hz1,Int.toNat_natCast,bC_zero] at h
 exact h
theorem unB_odd {l : List UInt8} (h : l ≠ [45]) (ho : l.length % 2 ≠ 0) : unB l = false:=by
 unfold unB;rw [decide_eq_false h,decide_eq_false ho];simp
theorem unB_bad {l : List UInt8} {k : Nat} (h : l ≠ [45]) (hk : k < l.length) (hb : hvB l[k] = false) : unB l = false:=by
 unfold unB
 have : l.all hvB = false:=by rw [List.all_eq_false];exact ⟨l[k],List.getElem_mem hk,by simp [hb]⟩
 rw [decide_eq_false h,this];simp
theorem unB_good {l : List UInt8} (hne : l ≠ []) (he : l.length % 2 = 0) (hall : ∀ j (hj : j < l.length),hvB l[j] = true) : unB l = true:=by
 unfold unB
 have : l.all hvB = true:=by
  rw [List.all_eq_true];intro x hx
  obtain ⟨j,hj,rfl⟩:=List.mem_iff_getElem.1 hx
  exact hall j hj
 rw [this,decide_eq_true hne,decide_eq_true he];simp
theorem unV_bad {l : List UInt8} (h : unB l = false) : unV l = []:=by
 unfold unV;split
 ·rfl
 ·rw [if_neg (by rw [h];simp)]
theorem unV_good {l : List UInt8} (h45 : l ≠ [45]) (h : unB l = true) : unV l = unPair l:=by
 unfold unV;rw [if_neg h45,if_pos h]
def UnPost (l : List UInt8) (w : World) (e : Ending) (w' : World) : Prop:=e = .returned (.tuple #[.string (ba (unV l)),.bool (unB l)]) ∧ Below w.heap.size w w'
/-- Unhex at work. -/
structure UH (w : World) (s : ByteArray) (n g it k : Nat) (W : World) : Prop where
 bel : Below w.heap.size w W
 row : ObjAt W g 5 (bC (rowU s.data.toList k n))
 it_ : W.heap[it]? = some (.stringIter s k)
 ok : ∀ j (hj : j < s.data.toList.length),j < k → hvB s.data.toList[j] = true
theorem hv_iff (b : UInt8) : hvB b = true ↔ (48 ≤ b.toNat ∧ b.toNat ≤ 57) ∨ (97 ≤ b.toNat ∧ b.toNat ≤ 102):=by simp [hvB]
theorem unhex_any (s : ByteArray) (hs : s.size ≤ 1000000) (w : World) : Calls Tryz.prog 13 #[.string s] w (UnPost s.data.toList w):=by
 have ie:=toList_empty s
 have e45 : (s.toList == [45]) = decide (s.data.toList = [45]):=by rw [ByteArray.toList_eq,Bool.eq_iff_iff];simp
 by_cases h45 : s.data.toList = [45]
 ·rw [decide_eq_true h45] at e45
  have HP : Hid (∀ w',Below w.heap.size w w' → UnPost s.data.toList w (.returned (.tuple #[.string ⟨#[]⟩,.bool true])) w'):=fun w' hb=>⟨by rw [h45];rfl,hb⟩
  clear h45 ie
  go_enter Tryz.func13,Tryz.ntmps13
  go_wp2_with fail
  go_ret2
  exact HP.out _ (Below.refl _ _)
 ·rw [decide_eq_false h45] at e45
  have HBAD : Hid (∀ w',unB s.data.toList = false → Below w.heap.size w w' → UnPost s.data.toList w (.returned (.tuple #[.string ⟨#[]⟩,.bool false])) w'):=fun w' h hb=>⟨by rw [h,unV_bad h];rfl,hb⟩
  by_cases h0 : s.size = 0
  ·rw [decide_eq_true h0] at ie
   have HB:=Lib.hid (HBAD.out w (by rw [show s.data.toList = [] from List.eq_nil_of_length_eq_zero (by rw [ba_len];exact h0)];rfl) (Below.refl _ _))
   clear h0 h45 HBAD
   go_enter Tryz.func13,Tryz.ntmps13
   go_wp2_with fail
   go_ret2
   exact HB.out
  ·rw [decide_eq_false h0] at ie
   have hne : s.data.toList ≠ []:=fun e=>h0 (by rw [← ba_len,e];rfl)
   by_cases ho : s.size % 2 = 0
   ·obtain ⟨n,hn⟩ : ∃ n,s.size = 2 * n:=⟨s.size / 2,by omega⟩
    have m1 : (s.size : Int).tmod 2 = 0:=by rw [Int.tmod_eq_emod_of_nonneg (by omega)];omega
    have m2 : ((s.size : Int) % 2 != 0) = false:=by rw [bne_eq_false_iff_eq];omega
    have m3 : (s.size : Int) / 2 = (n : Int):=by omega
    have HMK:=Lib.hid (make_u8 n (by omega) w)
    obtain ⟨W1,hW1⟩ : ∃ W1,W1 = w.alloc (.cells (bC (rowU [] 0 n)).toArray 5):=⟨_,rfl⟩
    have hmk:=HMK.out
    rw [← hW1] at hmk
    have hb1 : Below w.heap.size w W1:=by rw [hW1];exact (Below.refl _ _).alloc (Nat.le_refl _) _
    have HO1 : Hid (ObjAt W1 w.heap.size 5 (bC (rowU s.data.toList 0 n))):=by rw [hW1,← rowU_zero s.data.toList n];exact ObjAt.new w _ _
    have hs1 : W1.heap.size = w.heap.size + 1:=by rw [hW1];exact World.size_alloc _ _
    have hbi : Below W1.heap.size W1 (W1.iter s 0):=(Below.refl _ _).alloc (Nat.le_refl _) _
    have HU0 : Hid (UH w s n w.heap.size W1.heap.size 0 (W1.iter s 0)):=⟨bmore hb1 hbi,HO1.out.below hbi,World.iter_heap W1 s 0,fun j _ hj=>by omega⟩
    have HGOOD : Hid (∀ w',(∀ j (hj : j < s.data.toList.length),hvB s.data.toList[j] = true) → Below w.heap.size w w' → UnPost s.data.toList w (.returned (.tuple #[.string (ba (unPair s.data.toList)),.bool true])) w'):=fun w' h hb=>by
     have hg:=unB_good hne (by rw [ba_len];exact ho) h
     exact ⟨by rw [hg,unV_good h45 hg],hb⟩
    have HBD : Hid (∀ k (hk : k < s.data.toList.length) w',hvB s.data.toList[k] = false → Below w.heap.size w w' → UnPost s.data.toList w (.returned (.tuple #[.string ⟨#[]⟩,.bool false])) w'):=fun k hk w' h hb=>HBAD.out w' (unB_bad h45 hk h) hb
    have HFU : Hid (rowU s.data.toList s.size n = unPair s.data.toList):=by rw [Hid,hn];exact rowU_full (by rw [ba_len,hn])
    have HN:=Lib.hid hn
    have HW1:=Lib.hid hW1
    have HS1:=Lib.hid hs1
    obtain ⟨it,hit⟩ : ∃ it,it = W1.heap.size:=⟨_,rfl⟩
    have HIT:=Lib.hid hit
    rw [← hit] at HU0
    have hsz : n ≤ 500000:=by omega
    clear h0 h45 HBAD ho hne hn hW1 hs1 hbi hb1 hit
    go_enter Tryz.func13,Tryz.ntmps13
    go_upto_region 7 with fail
    rw [← HIT.out]
    go_loopw [5] (fun _ wr=>∃ k : Nat,k ≤ s.size ∧ UH w s n w.heap.size it k wr) (fun _ wr=>s.size - wr.iterPos it)
    case atStart=>exact ⟨0,by omega,HU0.out⟩
    case round=>
     clear HU0
     obtain ⟨k,hk,hu⟩:=hrel
     have HU:=Lib.hid hu
     have hip:=iterPos_of hu.it_
     clear hu
     by_cases hlt : k < s.size
     ·have hb:=s[k].toNat_lt
      have hkl : k < s.data.toList.length:=by rw [ba_len];exact hlt
      have hgk : s.data.toList[k] = s[k]:=rfl
      by_cases hdig : hvB s[k] = true
      ·have hd:=(hv_iff _).1 hdig
       have hok : ∀ j (hj : j < s.data.toList.length),j < k + 1 → hvB s.data.toList[j] = true:=fun j hj hjk=>by
        by_cases e : j = k
        ·subst e;exact hdig
        ·exact HU.out.ok j hj (by omega)
       obtain ⟨s1,s2,s3⟩:=cellU_step hkl hok
       have hst:=rowU_step (n:=n) hkl hok
       rw [hgk] at s2 hst
       obtain ⟨old,hold⟩ : ∃ o,o = cellU s.data.toList k (k / 2):=⟨_,rfl⟩
       rw [← hold] at s1 s2 hst
       obtain ⟨hv,hhv⟩ : ∃ h,h = hvN s[k]:=⟨_,rfl⟩
       have hv16 : hv < 16:=by rw [hhv];exact hvN_lt hdig
       rw [← hhv] at s2 hst
       have hk2 : k / 2 < n:=by have:=HN.out;omega
       have hcell : (bC (rowU s.data.toList k n))[k / 2]? = some (.int .u8 (old : Int)):=by
        unfold bC rowU
        rw [List.getElem?_map,List.getElem?_map,List.getElem?_range hk2]
        simp only [Option.map_some]
        rw [← hold];congr 2;simp;omega
       obtain ⟨W2,hW2⟩ : ∃ W2,W2 = wr.iterAt it s (k + 1):=⟨_,rfl⟩
       have hnx:=fun ty=>Lib.run_next_ascii_at (P:=Tryz.prog) wr it s k ty HU.out.it_ hlt (by omega)
       rw [← hW2] at hnx
       have hne2 : w.heap.size ≠ it:=by rw [HIT.out,HS1.out];omega
       have HR2 : Hid (ObjAt W2 w.heap.size 5 (bC (rowU s.data.toList k n))):=by
        rw [Hid,hW2];exact (Lib.iterAt_other wr it w.heap.size s (k + 1) hne2).trans HU.out.row
       have HI2 : Hid (W2.heap[it]? = some (.stringIter s (k + 1))):=by rw [Hid,hW2];exact Lib.iterAt_heap wr it s k (k + 1) HU.out.it_
       have HB2 : Hid (Below w.heap.size w W2):=by rw [Hid,hW2];exact Lib.below_iterAt HU.out.bel (by rw [HIT.out,HS1.out];omega) s (k + 1)
       have cc:=HR2.out.cell (k / 2) _ hcell
       have ff:=HR2.out.free (k / 2)
       have HVAL:=fun W=>Lib.hid (value_yes s[k].toNat hd W)
       have hif : (if s[k].toNat ≤ 57 then s[k].toNat - 48 else s[k].toNat - 87) = hv:=by rw [hhv];rfl
       rw [hif] at HVAL
       have q2 : (k : Int) / 2 < (n : Int):=by omega
       have q3 : (0 : Int) ≤ (k : Int) / 2:=by omega
       have x1 : IntKind.u8.wrap ((old : Int) * 16) = (old : Int) * 16:=by rw [IntKind.wrap_u8];omega
       have x2 : IntKind.u8.wrap (hv : Int) = (hv : Int):=by rw [IntKind.wrap_u8];omega
       have x3 : IntKind.u8.wrap ((old : Int) * 16 + (hv : Int)) = (old : Int) * 16 + (hv : Int):=by rw [IntKind.wrap_u8];omega
       have HNEW : Hid ((bC (rowU s.data.toList k n)).set (k / 2) (.int .u8 ((old : Int) * 16 + (hv : Int))) = bC (rowU s.data.toList (k + 1) n)):=by
        rw [Hid,hst,← bC_set];congr 2;simp;omega
       have HOK:=Lib.hid hok
       clear hok hst s2 s3 hold hhv hcell hW2 hif hd hdig hgk
       go_wp2_with (go_at_call 33;refine ((HVAL _).out).mono ?_;rintro e Wv ⟨rfl,rfl⟩)
       have HU3 : Hid (UH w s n w.heap.size it (k + 1) (W2.setCell ⟨w.heap.size,k / 2,none⟩ (.int .u8 ((old : Int) * 16 + (hv : Int))))):=
        ⟨HB2.out.trans ((Upd.setCell W2 ⟨w.heap.size,k / 2,none⟩ _).below (Nat.le_refl _) HB2.out.size),by rw [← HNEW.out];exact HR2.out.set (k / 2) _,((Upd.setCell W2 ⟨w.heap.size,k / 2,none⟩ _).block it (Array.getElem?_eq_some_iff.1 HI2.out).1 (by intro e;injection e with e;exact hne2 e.symm)).trans HI2.out,HOK.out⟩
       go_roundw
       case rel=>exact ⟨k + 1,by omega,HU3.out⟩
       case measure=>
        rw [iterPos_of HU3.out.it_]
        omega
      ·have hdf : hvB s[k] = false:=by simpa using hdig
       have hnd:=(not_congr (hv_iff s[k])).1 hdig
       have HFIN : Hid (∀ w',Below w.heap.size w w' → UnPost s.data.toList w (.returned (.tuple #[.string ⟨#[]⟩,.bool false])) w'):=fun w' hb=>HBD.out k hkl w' hdf hb
       have hitn : w.heap.size ≤ it:=by rw [HIT.out,HS1.out];omega
       have HIT2:=Lib.hid hitn
       by_cases h3 : s[k].toNat < 128
       ·have hnx:=fun ty=>Lib.run_next_ascii_at (P:=Tryz.prog) wr it s k ty HU.out.it_ hlt h3
        have HVAL:=fun W=>Lib.hid (value_no s[k].toNat hnd W)
        have HB2 : Hid (Below w.heap.size w (wr.iterAt it s (k + 1))):=Lib.below_iterAt HU.out.bel hitn s (k + 1)
        generalize wr.iterAt it s (k + 1) = W2 at hnx HB2
        clear hdig hdf hnd h3 hgk hip hitn
        go_wp2_with (go_at_call 33;refine ((HVAL _).out).mono ?_;rintro e Wv ⟨rfl,rfl⟩)
        go_ret2
        exact HFIN.out _ HB2.out
       ·have hnx:=fun ty=>Lib.run_next_any_at (P:=Tryz.prog) wr it s k ty HU.out.it_ hlt
        have hhi:=decode_high s k hlt (by omega)
        have HB2 : Hid (Below w.heap.size w (wr.iterAt it s (k + (Utf8.decode s k).2))):=Lib.below_iterAt HU.out.bel hitn s _
        generalize wr.iterAt it s (k + (Utf8.decode s k).2) = W2 at hnx HB2
        generalize (Utf8.decode s k).1 = dc' at hnx hhi
        have HVAL:=fun W=>Lib.hid (value_no dc' (by omega) W)
        clear hdig hdf hnd h3 hhi hgk hip hitn
        go_wp2_with (go_at_call 33;refine ((HVAL _).out).mono ?_;rintro e Wv ⟨rfl,rfl⟩)
        go_ret2
        exact HFIN.out _ HB2.out
     ·obtain rfl : k = s.size:=by omega
      have hnx:=fun ty=>Lib.run_next_end_at (P:=Tryz.prog) wr it s s.size ty HU.out.it_ (by omega)
      have HROW : Hid (ObjAt wr w.heap.size 5 (bC (unPair s.data.toList))):=by rw [Hid,← HFU.out];exact HU.out.row
      have hlu : (unPair s.data.toList).length = n:=pair_len n _ (by rw [ba_len,HN.out])
      have hconv:=run_own_str wr w.heap.size n (some ⟨w.heap.size,0,none⟩) n (unPair s.data.toList) (own_cells HROW.out (by rw [bC_len,hlu]) (Nat.le_refl _) (by unfold maxLen;omega))
      have HFIN:=Lib.hid (HGOOD.out wr (fun j hj=>HU.out.ok j hj (by rw [ba_len] at hj;exact hj)) HU.out.bel)
      clear hlu hip
      go_wp2_with fail
      go_ret2
      exact HFIN.out
   ·have m2 : ((s.size : Int) % 2 != 0) = true:=by rw [bne_iff_ne];omega
    have HB:=Lib.hid (HBAD.out w (unB_odd h45 (by rw [ba_len];exact ho)) (Below.refl _ _))
    clear h0 h45 HBAD ho hne
    go_enter Tryz.func13,Tryz.ntmps13
    go_wp2_with fail
    go_ret2
    exact HB.out
end Go.Proofs.YtoklonmiejdgmaaGreatDoor
/- Packages plan and its reference: lines of a text. -/
namespace Go.Proofs.YtoklonmiejdgmaaGreatDoor
set_option linter.unusedVariables false
set_option linter.unusedSimpArgs false
set_option linter.unnecessarySimpa false
open Go.RowKit Go.Sort
set_option maxHeartbeats 2000000
set_option maxRecDepth 100000
set_option linter.unusedVariables false
theorem fieldsC_sep (c : UInt8) : ∀ s : List UInt8,fieldsC c (s ++ [c]) = fieldsC c s ++ [[]]
 | []=>by simp [fieldsC]
 | b :: t=>by
  have ih:=fieldsC_sep c t
  by_cases h : b = c
  ·rw [List.cons_append,fieldsC,if_pos h,ih,fieldsC,if_pos h];rfl
  ·obtain ⟨x,r,h1,h2⟩:=fieldsC_cons h t
   obtain ⟨x',r',h1',h2'⟩:=fieldsC_cons h (t ++ [c])
   rw [List.cons_append,h2',h2]
   rw [h1,h1'] at ih
   injection ih with ih1 ih2
   rw [ih1,ih2];rfl
theorem fieldsC_snoc (c b : UInt8) (hb : b ≠ c) : ∀ s : List UInt8,∃ D y,fieldsC c (s ++ [b]) = D ++ [y ++ [b]]
 | []=>⟨[],[],by rw [List.nil_append,fieldsC_free c [b] (by simp;exact hb)];rfl⟩
 | a :: t=>by
  obtain ⟨D,y,ih⟩:=fieldsC_snoc c b hb t
  by_cases h : a = c
  ·exact ⟨[] :: D,y,by rw [List.cons_append,fieldsC,if_pos h,ih];rfl⟩
  ·obtain ⟨x',r',h1',h2'⟩:=fieldsC_cons h (t ++ [b])
   rw [ih] at h1'
   cases D with
   | nil=>
    rw [List.nil_append] at h1'
    injection h1' with e1 e2
    exact ⟨[],a :: y,by rw [List.cons_append,h2',← e1,← e2];rfl⟩
   | cons d D=>
    rw [List.cons_append] at h1'
    injection h1' with e1 e2
    exact ⟨(a :: x') :: D,y,by rw [List.cons_append,h2',← e2];rfl⟩
theorem fieldsC_last (s : List UInt8) : (fieldsC 10 s).getLast? = some [] ↔ s = [] ∨ s.getLast? = some 10:=by
 rcases List.eq_nil_or_concat s with rfl | ⟨t,b,rfl⟩
 ·simp [fieldsC]
 ·rw [List.concat_eq_append]
  by_cases h : b = 10
  ·subst h
   rw [fieldsC_sep];simp
  ·obtain ⟨D,y,e⟩:=fieldsC_snoc 10 b h t
   rw [e]
   simp [h]
theorem suf_10 (s : List UInt8) : Lib.hasSuffix s [10] = true ↔ s.getLast? = some 10:=by
 unfold Lib.hasSuffix
 rw [List.isSuffixOf_iff_suffix]
 constructor
 ·rintro ⟨t,rfl⟩;simp
 ·intro h
  obtain ⟨t,ht⟩:=List.getLast?_eq_some_iff.1 h
  exact ⟨t,ht.symm⟩
/-- Is a text's last line ended? -/
def lsB (s : List UInt8) : Bool:=decide ((fieldsC 10 s).getLast? = some [])
def lsL (s : List UInt8) : List (List UInt8):=(fieldsC 10 s).dropLast
def LsPost (s : List UInt8) (w : World) (e : Ending) (w' : World) : Prop:=
 (lsB s = true → ∃ a cap,e = .returned (.tuple #[.slice a (lsL s).length cap,.bool true]) ∧ RdW w' a cap (lsL s)) ∧ (lsB s = false → e = .returned (.tuple #[.slice none 0 0,.bool false])) ∧ Below w.heap.size w w'
theorem ls_yes {s : List UInt8} {L : List (List UInt8)} {w w' : World} {e : Ending} {a : Option Addr} {cap : Nat} (h : fieldsC 10 s = L ++ [[]]) (he : e = .returned (.tuple #[.slice a L.length cap,.bool true])) (hr : RdW w' a cap L) (hb : Below w.heap.size w w') : LsPost s w e w':=by
 have e1 : lsL s = L:=by rw [lsL,h,List.dropLast_concat]
 have e2 : lsB s = true:=by rw [lsB,h];simp
 exact ⟨fun _=>⟨a,cap,by rw [e1];exact he,by rw [e1];exact hr⟩,(fun h=>by rw [e2] at h;cases h),hb⟩
theorem ls_no {s : List UInt8} {D : List (List UInt8)} {x : List UInt8} {w w' : World} (h : fieldsC 10 s = D ++ [x]) (hx : x ≠ []) (hb : Below w.heap.size w w') : LsPost s w (.returned (.tuple #[.slice none 0 0,.bool false])) w':=by
 have e2 : lsB s = false:=by rw [lsB,h];simp [hx]
 exact ⟨(fun h=>by rw [e2] at h;cases h),fun _=>rfl,hb⟩
theorem lines_any (s : ByteArray) (hs : s.size ≤ 100000000) (w : World) : Calls Tryz.prog 20 #[.string s] w (LsPost s.data.toList w):=by
 have HPY : Hid (∀ w' L a n cap,fieldsC 10 s.data.toList = L ++ [[]] → n = L.length → RdW w' a cap L → Below w.heap.size w w' → LsPost s.data.toList w (.returned (.tuple #[.slice a n cap,.bool true])) w'):=fun w' L a n cap h1 hn h3 h4=>by
  subst hn;exact ls_yes h1 rfl h3 h4
 have HPN : Hid (∀ w' D x,fieldsC 10 s.data.toList = D ++ [x] → x ≠ [] → Below w.heap.size w w' → LsPost s.data.toList w (.returned (.tuple #[.slice none 0 0,.bool false])) w'):=fun w' D x h1 h2 h4=>by
  exact ls_no h1 h2 h4
 by_cases h0 : s.size = 0
 ·have ie:=toList_empty s
  rw [decide_eq_true h0] at ie
  have HE : Hid (fieldsC 10 s.data.toList = [] ++ [[]]):=by
   have : s.data.toList = []:=List.eq_nil_of_length_eq_zero (by rw [ba_len];exact h0)
   rw [Hid,this];rfl
  clear h0
  go_enter Tryz.func20,Tryz.ntmps20
  go_wp2_with fail
  go_ret2
  exact HPY.out _ [] _ _ _ HE.out rfl (own_rdW (Own.nil w w.heap.size 9 1)) (Below.refl _ _)
 ·have ie:=toList_empty s
  rw [decide_eq_false h0] at ie
  have HSU : Hid (∀ W,Calls Tryz.prog 47 #[.string s,.string ⟨#[10]⟩] W fun e w'=>e = .returned (.bool (Lib.hasSuffix s.data.toList [10])) ∧ w' = W):=fun W=>Tryz.strings_HasSuffix s ⟨#[10]⟩ W (by omega)
  cases hx : Lib.hasSuffix s.data.toList [10]
  ·have HE : Hid (∃ D x,fieldsC 10 s.data.toList = D ++ [x] ∧ x ≠ []):=by
    refine ⟨(fieldsC 10 s.data.toList).dropLast,(fieldsC 10 s.data.toList).getLast (fieldsC_ne 10 _),(List.dropLast_concat_getLast _).symm,fun e=>?_⟩
    have h2 : (fieldsC 10 s.data.toList).getLast? = some []:=by rw [List.getLast?_eq_some_getLast (fieldsC_ne 10 _),e]
    rcases (fieldsC_last _).1 h2 with h | h
    ·rw [← List.length_eq_zero_iff,ba_len] at h;exact h0 h
    ·rw [(suf_10 _).2 h] at hx;cases hx
   rw [hx] at HSU
   clear h0 hx
   go_enter Tryz.func20,Tryz.ntmps20
   go_wp2_with fail
   refine (HSU.out _).mono ?_;rintro e w' ⟨rfl,rfl⟩
   go_wp2_with fail
   go_ret2
   obtain ⟨D,x,h1,h2⟩:=HE.out
   exact HPN.out _ D x h1 h2 (Below.refl _ _)
  ·obtain ⟨t,ht⟩ : ∃ t,s.data.toList = t ++ [10]:=by
    obtain ⟨t,ht⟩:=List.getLast?_eq_some_iff.1 ((suf_10 _).1 hx);exact ⟨t,ht⟩
   have hlt : t.length + 1 = s.size:=by rw [← ba_len,ht];simp
   have HT : Hid (s.extract 0 (s.size - 1) = ba t):=by
    apply ByteArray.ext
    apply Array.ext'
    rw [ByteArray.data_extract,Array.toList_extract,ht,ba_data,← hlt]
    simp
   have HE : Hid (fieldsC 10 s.data.toList = fieldsC 10 t ++ [[]]):=by rw [Hid,ht,fieldsC_sep]
   have HSP : Hid (∀ W,Calls Tryz.prog 48 #[.string (s.extract 0 (s.size - 1)),.string ⟨#[10]⟩] W fun e w'=>e = .returned (.slice (some ⟨W.heap.size,0,none⟩) (fieldsC 10 t).length (fieldsC 10 t).length) ∧ w' = W.alloc (.cells (strC (fieldsC 10 t)).toArray 9)):=fun W=>by
    rw [HT.out]
    have:=split1L (ba t) 10 W (by rw [ba_size];omega)
    rw [ba_data] at this;exact this
   have HR : Hid (∀ W : World,RdW (W.alloc (.cells (strC (fieldsC 10 t)).toArray 9)) (some ⟨W.heap.size,0,none⟩) (fieldsC 10 t).length (fieldsC 10 t)):=fun W=>by
    refine ⟨⟨by rw [strC_len,Nat.mul_one],(fun h=>by cases h),fun p hp hne=>?_⟩,Nat.le_refl _,?_⟩
    ·injection hp with hp
     subst hp
     have ho:=ObjAt.new W 9 (strC (fieldsC 10 t))
     exact ⟨W.heap.size,0,rfl,ho.lt,fun j u hu=>by rw [Nat.zero_add];exact ho.cell j u hu⟩
    ·rw [fieldsC_len]
     have:=List.count_le_length (a:=(10 : UInt8)) (l:=t)
     unfold maxLen;omega
   have w5 : IntKind.i64.wrap ((s.size : Int) - 1) = ((s.size - 1 : Nat) : Int):=by rw [IntKind.wrap_i64];omega
   have hsz : s.size - 1 ≤ s.size:=by omega
   rw [hx] at HSU
   clear h0 hx ht hlt HT
   go_enter Tryz.func20,Tryz.ntmps20
   go_wp2_with fail
   refine (HSU.out _).mono ?_;rintro e w' ⟨rfl,rfl⟩
   go_wp2_with fail
   refine (HSP.out _).mono ?_;rintro e w2 ⟨rfl,rfl⟩
   go_wp2_with fail
   go_ret2
   exact HPY.out _ _ _ _ _ HE.out rfl (HR.out _) ((Below.refl _ _).alloc (Nat.le_refl _) _)
end Go.Proofs.YtoklonmiejdgmaaGreatDoor
