/- Package plan: Parse. -/
import Derived.Test.YtoklonmiejdgmaaGreatDoorGScriptReads3
import Derived.Test.YtoklonmiejdgmaaGreatDoorGScriptReads4
import Derived.Test.YtoklonmiejdgmaaGreatDoorGScriptReads0
import Derived.Lib.Walk
import Derived.Lib.ItoaMem
import Derived.Lib.ItoaLen
import Derived.Lib.OthersKept
import Derived.Lib.QuietBelow
import Derived.Deep.RegionHeld3
import Derived.BigQuiet
import Derived.Test.YtoklonmiejdgmaaGreatDoorRows
import Derived.Laws.BitsAllLaws
namespace Go.Proofs.YtoklonmiejdgmaaGreatDoor
set_option linter.unusedVariables false
set_option linter.unusedSimpArgs false
set_option linter.unnecessarySimpa false
open Go.RowKit Go.Sort
set_option maxHeartbeats 4000000
set_option maxRecDepth 100000
set_option linter.unusedVariables false
def slE (l : List (List Int)) : Sl:=⟨none,0,l⟩
def cvOf (c : Pc) : Cv:=⟨c.cats,slE c.g,slE c.r,slE c.p,slE c.n,slE c.s,c.gate,c.quota⟩
def chkP (c : Pc) : Int:=(chkV (cvOf c)).1
theorem stRg_pc (c : Cv) : ∀ i,stRg c i = stRg (cvOf (pcOf c)) i
 | 0=>rfl
 | i + 1=>by unfold stRg;rw [stRg_pc c i];rfl
theorem rBad_pc (c : Cv) : rBad c = rBad (cvOf (pcOf c)):=by
 funext i
 unfold rBad
 rw [stRg_pc c i];rfl
theorem rFst_pc (c : Cv) : rFst c = rFst (cvOf (pcOf c)):=by
 unfold rFst;rw [rBad_pc];rfl
theorem rule_pc (c : Cv) (k : Nat) : ruleV c k = ruleV (cvOf (pcOf c)) k:=by
 unfold ruleV
 split
 ·rfl
 ·exact rFst_pc c
 ·rfl
 ·rfl
 ·rfl
 ·rfl
theorem chk_pc (c : Cv) : chkV c = chkV (cvOf (pcOf c)):=by
 have e : (fun k=>(ruleV c k).2) = fun k=>(ruleV (cvOf (pcOf c)) k).2:=funext fun k=>by rw [rule_pc]
 by_cases h : c.cats < 0 ∨ 8 < c.cats
 ·rw [chkV,chkV,if_pos h,if_pos (show (cvOf (pcOf c)).cats < 0 ∨ 8 < (cvOf (pcOf c)).cats from h)]
 ·rw [chkV,chkV,if_neg h,if_neg (show ¬ ((cvOf (pcOf c)).cats < 0 ∨ 8 < (cvOf (pcOf c)).cats) from h),e]
  split
  ·rw [rule_pc]
  ·rfl
theorem chkP_of (c : Cv) : (chkV c).1 = chkP (pcOf c):=by rw [chk_pc];rfl
def pcZ : Pc:=⟨0,[],[],[],[],[],0,0⟩
def pcN : Pc:=⟨0,[],[],[],[],[],-1,0⟩
def cvN : Cv:=cvOf pcN
def cvZ : Cv:=cvOf pcZ
/-- What k lines leave. -/
def stP (L : List (List UInt8)) : Nat → Option (Pc × Int)
 | 0=>some (pcN,-1)
 | k + 1=>(stP L k).bind fun st=>lineV st.1 st.2 (decide (k = 0)) (L.getD k [])
def badP (L : List (List UInt8)) : Option Nat:=(List.range L.length).find? fun k=>(stP L (k + 1)).isNone
def endP (L : List (List UInt8)) : Pc × Int × Int:=match stP L L.length with
 | some st=>if chkP st.1 = 0 then (st.1,0,0) else (pcZ,chkP st.1,0)
 | none=>(pcZ,6,0)
def psV (s : List UInt8) : Pc × Int × Int:=
 if 16384 < s.length then (pcZ,10,0) else
 match badP (fieldsC 10 s).dropLast with
 | some k=>(pcZ,6,(k : Int) + 1)
 | none=>if (fieldsC 10 s).dropLast.length = 0 ∨ (fieldsC 10 s).getLast? ≠ some [] then (pcZ,6,((fieldsC 10 s).dropLast.length : Int) + 1) else endP (fieldsC 10 s).dropLast
theorem stP_mono {L : List (List UInt8)} {k : Nat} (h : stP L k = none) : ∀ j,k ≤ j → stP L j = none:=by
 intro j hj
 induction j with
 | zero=>rw [show k = 0 by omega] at h;exact h
 | succ j ih=>
  by_cases e : k = j + 1
  ·subst e;exact h
  ·unfold stP;rw [ih (by omega)];rfl
theorem badP_some {L : List (List UInt8)} {k : Nat} (hk : k < L.length) (h0 : stP L k ≠ none) (h1 : stP L (k + 1) = none) : badP L = some k:=by
 rw [badP,List.find?_range_eq_some]
 refine ⟨by simp [h1],List.mem_range.2 hk,fun j hj=>?_⟩
 cases hx : stP L (j + 1) with
 | none=>exact absurd (stP_mono hx k (by omega)) h0
 | some v=>rfl
theorem badP_none {L : List (List UInt8)} (h : stP L L.length ≠ none) : badP L = none:=by
 rw [badP,List.find?_eq_none]
 intro j hj
 have hj:=List.mem_range.1 hj
 cases hx : stP L (j + 1) with
 | none=>exact absurd (stP_mono hx _ (by omega)) h
 | some v=>simp
theorem psV_long {s : List UInt8} (h : 16384 < s.length) : psV s = (pcZ,10,0):=by rw [psV,if_pos h]
theorem psV_bad {s : List UInt8} {k : Nat} (h : ¬ 16384 < s.length) (hk : badP (fieldsC 10 s).dropLast = some k) : psV s = (pcZ,6,(k : Int) + 1):=by rw [psV,if_neg h,hk]
theorem psV_none {s : List UInt8} (h : ¬ 16384 < s.length) (hk : badP (fieldsC 10 s).dropLast = none) (he : (fieldsC 10 s).dropLast.length = 0 ∨ (fieldsC 10 s).getLast? ≠ some []) : psV s = (pcZ,6,((fieldsC 10 s).dropLast.length : Int) + 1):=by
 rw [psV,if_neg h,hk];simp only;rw [if_pos he]
theorem psV_end {s : List UInt8} (h : ¬ 16384 < s.length) (hk : badP (fieldsC 10 s).dropLast = none) (he : ¬ ((fieldsC 10 s).dropLast.length = 0 ∨ (fieldsC 10 s).getLast? ≠ some [])) : psV s = endP (fieldsC 10 s).dropLast:=by
 rw [psV,if_neg h,hk];simp only;rw [if_neg he]
theorem endP_no {L : List (List UInt8)} {c : Pc} {l : Int} (h : stP L L.length = some (c,l)) (he : chkP c ≠ 0) : endP L = (pcZ,chkP c,0):=by rw [endP,h];simp only;rw [if_neg he]
theorem endP_yes {L : List (List UInt8)} {c : Pc} {l : Int} (h : stP L L.length = some (c,l)) (he : chkP c = 0) : endP L = (c,0,0):=by rw [endP,h];simp only;rw [if_pos he]
/-- At most k of each. -/
def LenP (k : Nat) (c : Pc) : Prop:=c.g.length ≤ k ∧ c.r.length ≤ k ∧ c.p.length ≤ k ∧ c.n.length ≤ k ∧ c.s.length ≤ k
theorem setV_len {k : Nat} {c : Pc} (h : LenP k c) (j : Nat) (row : List Int) : LenP (k + 1) (setV c j row):=by
 obtain ⟨h1,h2,h3,h4,h5⟩:=h
 unfold setV LenP
 split <;> simp only [List.length_append,List.length_singleton] <;> refine ⟨?_,?_,?_,?_,?_⟩ <;> omega
theorem lineV_len {k : Nat} {c c' : Pc} {last last' : Int} {b : Bool} {s : List UInt8} (h : LenP k c) (he : lineV c last b s = some (c',last')) : LenP (k + 1) c':=by
 unfold lineV at he
 split at he
 ·rw [Option.map_eq_some_iff] at he
  obtain ⟨row,_,e⟩:=he
  injection e with e1 e2
  rw [← e1];exact setV_len h _ _
 ·cases he
def PsPost (s : List UInt8) (w : World) (e : Ending) (w' : World) : Prop:=
 ∃ c : Cv,e = .returned (.tuple #[(.agg #[.int .i64 c.cats,.slice c.g.a c.g.l.length c.g.cap,.slice c.r.a c.r.l.length c.r.cap,.slice c.p.a c.p.l.length c.p.cap,.slice c.n.a c.n.l.length c.n.cap,.slice c.s.a c.s.l.length c.s.cap,.int .i64 c.gate,.int .i64 c.quota]),.int .i64 (psV s).2.1,.int .i64 (psV s).2.2]) ∧ CfgOk w' c ∧ pcOf c = (psV s).1 ∧ Below w.heap.size w w'
theorem slE_nil (W : World) (N : Nat) : SlOk W N (slE []):=⟨⟨by simp [slE,iF],fun _=>rfl,fun p hp=>by cases hp⟩,Nat.le_refl _,by unfold maxLen slE;simp,fun r hr=>by cases hr⟩
theorem cvZ_ok (W : World) : CfgOk W cvZ:=⟨slE_nil W 3,slE_nil W 3,slE_nil W 2,slE_nil W 2,slE_nil W 2⟩
/-- The lists lie in blocks from B on. -/
def NewC (B : Nat) (c : Cv) : Prop:=∀ s ∈ [c.g.a,c.r.a,c.p.a,c.n.a,c.s.a],∀ k ∈ blk s,B ≤ k
def PsPostN (s : List UInt8) (w : World) (e : Ending) (w' : World) : Prop:=
 ∃ c : Cv,NewC w.heap.size c ∧ e = .returned (.tuple #[(.agg #[.int .i64 c.cats,.slice c.g.a c.g.l.length c.g.cap,.slice c.r.a c.r.l.length c.r.cap,.slice c.p.a c.p.l.length c.p.cap,.slice c.n.a c.n.l.length c.n.cap,.slice c.s.a c.s.l.length c.s.cap,.int .i64 c.gate,.int .i64 c.quota]),.int .i64 (psV s).2.1,.int .i64 (psV s).2.2]) ∧ CfgOk w' c ∧ pcOf c = (psV s).1 ∧ Below w.heap.size w w'
theorem psn_zero {s : List UInt8} {w w' : World} {e at_ : Int} (h : psV s = (pcZ,e,at_)) (hb : Below w.heap.size w w') : PsPostN s w (.returned (.tuple #[.agg #[.int .i64 0,.slice none 0 0,.slice none 0 0,.slice none 0 0,.slice none 0 0,.slice none 0 0,.int .i64 0,.int .i64 0],.int .i64 e,.int .i64 at_])) w':=
 ⟨cvZ,fun s hs k hk=>by simp [cvZ,cvOf,slE] at hs;subst hs;simp [blk] at hk,by rw [h];rfl,cvZ_ok w',by rw [h];rfl,hb⟩
theorem psn_good {s : List UInt8} {w w' : World} {c : Cv} (h : psV s = (pcOf c,0,0)) (hc : CfgOk w' c) (hn : NewC w.heap.size c) (hb : Below w.heap.size w w') : PsPostN s w (.returned (.tuple #[(.agg #[.int .i64 c.cats,.slice c.g.a c.g.l.length c.g.cap,.slice c.r.a c.r.l.length c.r.cap,.slice c.p.a c.p.l.length c.p.cap,.slice c.n.a c.n.l.length c.n.cap,.slice c.s.a c.s.l.length c.s.cap,.int .i64 c.gate,.int .i64 c.quota]),.int .i64 0,.int .i64 0])) w':=
 ⟨c,hn,by rw [h],hc,by rw [h],hb⟩
theorem RD.newc {w W : World} {rb : Nat} {c : Cv} {last : Int} {B : Nat} (h : RD w rb c last W) (hB : B ≤ w.heap.size) : NewC B c:=fun s hs k hk=>by
 simp only [List.mem_cons,List.not_mem_nil,or_false] at hs
 rcases hs with rfl | rfl | rfl | rfl | rfl
 ·exact Nat.le_trans hB (h.g.ge k hk).1
 ·exact Nat.le_trans hB (h.r.ge k hk).1
 ·exact Nat.le_trans hB (h.p.ge k hk).1
 ·exact Nat.le_trans hB (h.n.ge k hk).1
 ·exact Nat.le_trans hB (h.s.ge k hk).1
theorem rd_start (W : World) : RD W W.heap.size cvN (-1) (W.alloc (.cells #[.int .i64 0,.slice none 0 0,.slice none 0 0,.slice none 0 0,.slice none 0 0,.slice none 0 0,.int .i64 (-1),.int .i64 0,.int .i64 (-1)] 106)):=
 ⟨(Below.refl _ _).alloc (Nat.le_refl _) _,Nat.le_refl _,ObjAt.new W _ [.int .i64 0,.slice none 0 0,.slice none 0 0,.slice none 0 0,.slice none 0 0,.slice none 0 0,.int .i64 (-1),.int .i64 0,.int .i64 (-1)],Own.nil _ _ _ _,Own.nil _ _ _ _,Own.nil _ _ _ _,Own.nil _ _ _ _,Own.nil _ _ _ _,(fun x hx=>by cases hx),(fun x hx=>by cases hx),(fun x hx=>by cases hx),(fun x hx=>by cases hx),(fun x hx=>by cases hx)⟩
theorem ln_out {w : World} {rb : Nat} {c : Cv} {last : Int} {b : Bool} {s : List UInt8} {e : Ending} {w' : World} (h : LnPost w rb c last b s e w') :
  (e = .returned (.bool false) ∧ lineV (pcOf c) last b s = none ∧ Below w.heap.size w w') ∨ (e = .returned (.bool true) ∧ ∃ c' l',lineV (pcOf c) last b s = some (pcOf c',l') ∧ RD w rb c' l' w'):=by
 unfold LnPost at h
 cases hv : lineV (pcOf c) last b s with
 | none=>rw [hv] at h;exact Or.inl ⟨h.1,rfl,h.2⟩
 | some r=>rw [hv] at h;obtain ⟨h1,c',h2,h3⟩:=h;exact Or.inr ⟨h1,c',r.2,by rw [h2],h3⟩
/-- The reader after k lines. -/
structure QP (L : List (List UInt8)) (w1 : World) (rb k : Nat) (c : Cv) (last : Int) (W : World) : Prop where
 st : stP L k = some (pcOf c,last)
 len : LenP k (pcOf c)
 rd : RD w1 rb c last W
theorem QP.few {L : List (List UInt8)} {w1 W : World} {rb k : Nat} {c : Cv} {last : Int} (h : QP L w1 rb k c last W) (hk : k ≤ 100000) : FewC c:=by
 have h1 : c.g.l.length ≤ k:=h.len.1
 have h2 : c.r.l.length ≤ k:=h.len.2.1
 have h3 : c.p.l.length ≤ k:=h.len.2.2.1
 have h4 : c.n.l.length ≤ k:=h.len.2.2.2.1
 have h5 : c.s.l.length ≤ k:=h.len.2.2.2.2
 exact ⟨by omega,by omega,by omega,by omega,by omega⟩
theorem QP.next {L : List (List UInt8)} {w1 W : World} {rb k : Nat} {c : Cv} {last : Int} {x : List UInt8} (h : QP L w1 rb k c last W) (hx : L.getD k [] = x) {c' : Cv} {l' : Int} (he : lineV (pcOf c) last (decide (k = 0)) x = some (pcOf c',l')) {W' : World} (hr : RD w1 rb c' l' W') : QP L w1 rb (k + 1) c' l' W':=
 ⟨by unfold stP;rw [h.st];simp only [Option.bind_some];rw [hx];exact he,lineV_len h.len he,hr⟩
theorem QP.stop {L : List (List UInt8)} {w1 W : World} {rb k : Nat} {c : Cv} {last : Int} {x : List UInt8} (h : QP L w1 rb k c last W) (hx : L.getD k [] = x) (he : lineV (pcOf c) last (decide (k = 0)) x = none) : stP L k ≠ none ∧ stP L (k + 1) = none:=
 ⟨by rw [h.st];simp,by unfold stP;rw [h.st];simp only [Option.bind_some];rw [hx];exact he⟩
theorem RD.other {w W W' : World} {rb b : Nat} {c : Cv} {last : Int} {cs : List Value} (h : RD w rb c last W) (ho : ObjAt W b 29 cs) (hu : Upd b W W') : CfgOk W' c:=
 have g:=h.g.upd hu (h.g.ne ho (by decide))
 have r:=h.r.upd hu (h.r.ne ho (by decide))
 have p:=h.p.upd hu (h.p.ne ho (by decide))
 have n:=h.n.upd hu (h.n.ne ho (by decide))
 have s:=h.s.upd hu (h.s.ne ho (by decide))
 ⟨⟨g.rd,g.le,g.capMax,h.lg⟩,⟨r.rd,r.le,r.capMax,h.lr⟩,⟨p.rd,p.le,p.capMax,h.lp⟩,⟨n.rd,n.le,n.capMax,h.ln⟩,⟨s.rd,s.le,s.capMax,h.ls⟩⟩
theorem upd_put {b k : Nat} {x y : World} {v : Value} (h : Upd b x y) : Upd b x (y.setCell ⟨b,k,none⟩ v):=h.trans (Upd.setCell y ⟨b,k,none⟩ v)
theorem pparse_new (s : ByteArray) (hs : s.size ≤ maxLen) (w : World) (hT : WdTab w) : Calls Tryz.prog 23 #[.string s] w (PsPostN s.data.toList w):=by
 obtain ⟨l,hl⟩ : ∃ l,l = s.data.toList:=⟨_,rfl⟩
 have hsl : l.length = s.size:=by rw [hl,ba_len]
 rw [← hl]
 obtain ⟨w0,hw0⟩ : ∃ w0,w0 = w.alloc (.cells #[.int .i64 0,.slice none 0 0,.slice none 0 0,.slice none 0 0,.slice none 0 0,.slice none 0 0,.int .i64 0,.int .i64 0] 29):=⟨_,rfl⟩
 have HO0 : Hid (ObjAt w0 w.heap.size 29 #[.int .i64 0,.slice none 0 0,.slice none 0 0,.slice none 0 0,.slice none 0 0,.slice none 0 0,.int .i64 0,.int .i64 0].toList):=by rw [hw0];exact ObjAt.new w _ _
 have HB0 : Hid (Below w.heap.size w w0):=by rw [hw0];exact (Below.refl _ _).alloc (Nat.le_refl _) _
 have HW0:=Lib.hid hw0
 obtain ⟨P,hP⟩ : ∃ P,P = PsPostN l w:=⟨_,rfl⟩
 have HZ : Hid (∀ e at_ w',psV l = (pcZ,e,at_) → Below w.heap.size w w' → P (.returned (.tuple #[.agg #[.int .i64 0,.slice none 0 0,.slice none 0 0,.slice none 0 0,.slice none 0 0,.slice none 0 0,.int .i64 0,.int .i64 0],.int .i64 e,.int .i64 at_])) w'):=fun e at_ w' h hb=>by rw [hP];exact psn_zero h hb
 have HG : Hid (∀ c w',psV l = (pcOf c,0,0) → CfgOk w' c → NewC w.heap.size c → Below w.heap.size w w' → P (.returned (.tuple #[(.agg #[.int .i64 c.cats,.slice c.g.a c.g.l.length c.g.cap,.slice c.r.a c.r.l.length c.r.cap,.slice c.p.a c.p.l.length c.p.cap,.slice c.n.a c.n.l.length c.n.cap,.slice c.s.a c.s.l.length c.s.cap,.int .i64 c.gate,.int .i64 c.quota]),.int .i64 0,.int .i64 0])) w'):=fun c w' h hc hn hb=>by rw [hP];exact psn_good h hc hn hb
 rw [← hP]
 clear hP hw0
 unfold maxLen at hs
 by_cases h16 : 16384 < s.size
 ·have d1 : decide ((s.size : Int) > 16384) = true:=decide_eq_true (by omega)
  have d1' : decide (16384 < s.size) = true:=decide_eq_true h16
  have HZ:=fun w' h=>Lib.hid (HZ.out 10 0 w' (psV_long (by omega)) h)
  clear h16 hl hsl hT HG
  go_enter Tryz.func23,Tryz.ntmps23
  go_upto_region 1 with fail
  rw [← HW0.out]
  have hO0:=HO0.out
  have s6:=hO0.lt
  have a0:=(hO0).cell 0 _ rfl;have a1:=(hO0).cell 1 _ rfl;have a2:=(hO0).cell 2 _ rfl;have a3:=(hO0).cell 3 _ rfl;have a4:=(hO0).cell 4 _ rfl;have a5:=(hO0).cell 5 _ rfl;have a6:=(hO0).cell 6 _ rfl;have a7:=(hO0).cell 7 _ rfl;have g0:=(hO0).free 0;have g1:=(hO0).free 1;have g2:=(hO0).free 2;have g3:=(hO0).free 3;have g4:=(hO0).free 4;have g5:=(hO0).free 5;have g6:=(hO0).free 6;have g7:=(hO0).free 7
  clear hO0
  go_wp2_with fail
  (refine bodyPost_ret (v:=.tuple #[.agg #[.int .i64 0,.slice none 0 0,.slice none 0 0,.slice none 0 0,.slice none 0 0,.slice none 0 0,.int .i64 0,.int .i64 0],.int .i64 10,.int .i64 0]) (by simp [results,Tryz.results23,go_sem,a0,a1,a2,a3,a4,a5,a6,a7,s6]) rfl ?_)
  exact (HZ _ ((((((((HB0.out.setCell (Nat.le_refl _) _).setCell (Nat.le_refl _) _).setCell (Nat.le_refl _) _).setCell (Nat.le_refl _) _).setCell (Nat.le_refl _) _).setCell (Nat.le_refl _) _).setCell (Nat.le_refl _) _).setCell (Nat.le_refl _) _)).out
 ·have d1 : decide ((s.size : Int) > 16384) = false:=decide_eq_false (by omega)
  have d1' : decide (16384 < s.size) = false:=decide_eq_false h16
  obtain ⟨F,hF⟩ : ∃ F,F = fieldsC 10 l:=⟨_,rfl⟩
  have hne : F ≠ []:=by rw [hF];exact fieldsC_ne 10 _
  have hfl : F.length ≤ s.size + 1:=by
   rw [hF,fieldsC_len,← hsl]
   have:=List.count_le_length (a:=(10 : UInt8)) (l:=l);omega
  obtain ⟨L,hL⟩ : ∃ L,L = F.dropLast:=⟨_,rfl⟩
  obtain ⟨m,hm⟩ : ∃ m,F.length = m + 1:=by cases F with
   | nil=>exact absurd rfl hne
   | cons x r=>exact ⟨r.length,rfl⟩
  obtain ⟨x,hx⟩ : ∃ x,F[m]? = some x:=⟨_,List.getElem?_eq_getElem (by omega)⟩
  have hLm : L.length = m:=by rw [hL,List.length_dropLast,hm];rfl
  have hlast : F.getLast? = some x:=by rw [List.getLast?_eq_getElem?,hm];exact hx
  have HBAD : Hid (∀ k w',k < m → stP L k ≠ none → stP L (k + 1) = none → Below w.heap.size w w' → P (.returned (.tuple #[.agg #[.int .i64 0,.slice none 0 0,.slice none 0 0,.slice none 0 0,.slice none 0 0,.slice none 0 0,.int .i64 0,.int .i64 0],.int .i64 6,.int .i64 ((k : Int) + 1)])) w'):=fun k w' hk h0 h1 hb=>
   HZ.out _ _ _ (psV_bad (by omega) (by rw [← hF,← hL];exact badP_some (by omega) h0 h1)) hb
  have HNO : Hid (∀ w',stP L m ≠ none → (m = 0 ∨ x ≠ []) → Below w.heap.size w w' → P (.returned (.tuple #[.agg #[.int .i64 0,.slice none 0 0,.slice none 0 0,.slice none 0 0,.slice none 0 0,.slice none 0 0,.int .i64 0,.int .i64 0],.int .i64 6,.int .i64 ((m : Int) + 1)])) w'):=fun w' h0 h1 hb=>
   HZ.out _ _ _ (by
    have:=psV_none (s:=l) (by omega) (by rw [← hF,← hL];exact badP_none (by rw [hLm];exact h0)) (by
     rw [← hF,← hL,hLm,hlast]
     rcases h1 with h1 | h1
     ·exact Or.inl h1
     ·exact Or.inr (by intro e;injection e with e;exact h1 e))
    rw [← hF,← hL,hLm] at this;exact this) hb
  have HPS : Hid (∀ c last,stP L m = some (pcOf c,last) → m ≠ 0 → x = [] → psV l = if chkP (pcOf c) = 0 then (pcOf c,0,0) else (pcZ,chkP (pcOf c),0)):=fun c last h0 h1 h2=>by
   rw [psV_end (by omega) (by rw [← hF,← hL];exact badP_none (by rw [hLm,h0];simp)) (by
    rw [← hF,← hL,hLm,hlast,h2];simp [h1]),← hF,← hL]
   split
   ·rename_i he;exact endP_yes (by rw [hLm];exact h0) he
   ·rename_i he;exact endP_no (by rw [hLm];exact h0) he
  have HEN : Hid (∀ w' c last,stP L m = some (pcOf c,last) → m ≠ 0 → x = [] → (chkV c).1 ≠ 0 → Below w.heap.size w w' → P (.returned (.tuple #[.agg #[.int .i64 0,.slice none 0 0,.slice none 0 0,.slice none 0 0,.slice none 0 0,.slice none 0 0,.int .i64 0,.int .i64 0],.int .i64 (chkV c).1,.int .i64 0])) w'):=fun w' c last h0 h1 h2 h3 hb=>
   HZ.out _ _ _ (by rw [HPS.out c last h0 h1 h2,← chkP_of,if_neg h3]) hb
  have HEY : Hid (∀ w' c last,stP L m = some (pcOf c,last) → m ≠ 0 → x = [] → (chkV c).1 = 0 → CfgOk w' c → NewC w.heap.size c → Below w.heap.size w w' → P (.returned (.tuple #[(.agg #[.int .i64 c.cats,.slice c.g.a c.g.l.length c.g.cap,.slice c.r.a c.r.l.length c.r.cap,.slice c.p.a c.p.l.length c.p.cap,.slice c.n.a c.n.l.length c.n.cap,.slice c.s.a c.s.l.length c.s.cap,.int .i64 c.gate,.int .i64 c.quota]),.int .i64 0,.int .i64 0])) w'):=fun w' c last h0 h1 h2 h3 hc hn hb=>
   HG.out c w' (by rw [HPS.out c last h0 h1 h2,← chkP_of,if_pos h3]) hc hn hb
  have HGET : Hid (∀ k (hk : k < m),∃ y,F[k]? = some y ∧ L.getD k [] = y ∧ y.length ≤ 100000):=fun k hk=>by
   have h1 : k < F.length:=by omega
   refine ⟨F[k],List.getElem?_eq_getElem h1,?_,?_⟩
   ·rw [List.getD_eq_getElem?_getD,hL,List.getElem?_eq_getElem (by rw [List.length_dropLast];omega),List.getElem_dropLast];rfl
   ·have:=(fieldsC_mem 10 l F[k] (by rw [← hF];exact List.getElem_mem h1)).2
    omega
  have HSP : Hid (Calls Tryz.prog 48 #[.string s,.string ⟨#[10]⟩] w0 fun e w'=>e = .returned (.slice (some ⟨w0.heap.size,0,none⟩) F.length F.length) ∧ w' = w0.alloc (.cells (strC F).toArray 9)):=by
   have:=split1L s 10 w0 (by omega)
   rw [← hl,← hF] at this;exact this
  obtain ⟨w1,hw1⟩ : ∃ w1,w1 = w0.alloc (.cells (strC F).toArray 9):=⟨_,rfl⟩
  have HCELL : Hid (ObjAt w1 w0.heap.size 9 (strC F)):=by rw [hw1];exact ObjAt.new w0 9 (strC F)
  have HCX : w1.cell? ⟨w0.heap.size,m,none⟩ = some (.string (ba x)):=HCELL.out.cell m _ (by simp [strC,hx])
  have HB01 : Hid (Below w0.heap.size w0 w1):=by rw [hw1];exact (Below.refl _ _).alloc (Nat.le_refl _) _
  have HB1:=Lib.hid (bmore HB0.out HB01.out)
  have HLC : Hid (∀ k y,F[k]? = some y → w1.cell? ⟨w0.heap.size,k,none⟩ = some (.string (ba y))):=fun k y hy=>HCELL.out.cell k _ (by simp [strC,hy])
  have hblk:=HCELL.out.lt
  have HO1:=Lib.hid (HO0.out.below HB01.out)
  have HT1:=Lib.hid (hT.below HB1.out)
  rw [hm,← hw1] at HSP
  have hm2 : m ≤ 16384:=by omega
  have HR0:=Lib.hid (rd_start w1)
  have HQ0 : Hid (QP L w1 w1.heap.size 0 cvN (-1) (w1.alloc (.cells #[.int .i64 0,.slice none 0 0,.slice none 0 0,.slice none 0 0,.slice none 0 0,.slice none 0 0,.int .i64 (-1),.int .i64 0,.int .i64 (-1)] 106))):=⟨rfl,⟨by simp [pcOf,cvN,cvOf,pcN,slE],by simp [pcOf,cvN,cvOf,pcN,slE],by simp [pcOf,cvN,cvOf,pcN,slE],by simp [pcOf,cvN,cvOf,pcN,slE],by simp [pcOf,cvN,cvOf,pcN,slE]⟩,HR0.out⟩
  have w3 : IntKind.i64.wrap ((m : Int) + 1 - 1) = (m : Int):=by rw [IntKind.wrap_i64];omega
  clear hF hne hfl hL hm hx hLm hlast HPS hw1 HR0 h16 hl hsl hT HG HZ HB01 HO0 HCELL
  go_enter Tryz.func23,Tryz.ntmps23
  go_upto_region 1 with fail
  rw [← HW0.out]
  go_wp2_with fail
  refine HSP.out.mono ?_;rintro e w1 ⟨rfl,rfl⟩
  clear HSP
  go_wp2_with fail
  go_loopw [28] (fun i wr=>∃ (k : Nat) (c : Cv) (last : Int),k ≤ m ∧ i = .int .i64 k ∧ QP L w1 w1.heap.size k c last wr) (fun i _=>m - (intOf i).toNat)
  case atStart=>exact ⟨0,cvN,-1,by omega,rfl,HQ0.out⟩
  case round=>
   clear HQ0
   obtain ⟨k,c,last,hk,rfl,hq⟩:=hrel
   have HQ:=Lib.hid hq
   have HBW:=Lib.hid (bmore HB1.out hq.rd.bel)
   clear hq
   have w5 : IntKind.i64.wrap ((k : Int) + 1) = (k : Int) + 1:=by rw [IntKind.wrap_i64];omega
   by_cases hlt : k < m
   ·obtain ⟨y,hy,hyL,hys⟩:=HGET.out k hlt
    have hcr : wr.cell? ⟨w0.heap.size,k,none⟩ = some (.string (ba y)):=by
     rw [HQ.out.rd.bel.cell (p:=⟨w0.heap.size,k,none⟩) hblk];exact HLC.out k y hy
    have HLN : Hid (∀ b,b = decide (k = 0) → Calls Tryz.prog 53 #[.pointer (some ⟨w1.heap.size,0,none⟩),.string (ba y),.bool b] wr fun e w'=>(e = .returned (.bool false) ∧ stP L k ≠ none ∧ stP L (k + 1) = none ∧ Below w1.heap.size w1 w') ∨ (e = .returned (.bool true) ∧ ∃ c' l',QP L w1 w1.heap.size (k + 1) c' l' w')):=fun b hb=>by
     refine (line_any w1 w1.heap.size c last b y hys wr HQ.out.rd HT1.out (HQ.out.few (by omega))).mono ?_
     intro e w' h
     subst hb
     rcases ln_out h with ⟨h1,h2,h3⟩ | ⟨h1,c',l',h2,h3⟩
     ·exact Or.inl ⟨h1,(HQ.out.stop hyL h2).1,(HQ.out.stop hyL h2).2,h3⟩
     ·exact Or.inr ⟨h1,c',l',HQ.out.next hyL h2 h3⟩
    clear hy hyL hys
    go_wp2_with fail
    refine (HLN.out _ (by first | rfl | (rw [Bool.eq_iff_iff];simp))).mono ?_;intro e w3 h3
    rcases h3 with ⟨rfl,h1,h2,h4⟩ | ⟨rfl,c',l',h1⟩
    ·have HB3:=Lib.hid (bmore HB1.out h4)
     have HS:=Lib.hid h1
     have HS2:=Lib.hid h2
     have hO1:=HO1.out.below h4
     have s6:=hO1.lt
     have a0:=(hO1).cell 0 _ rfl;have a1:=(hO1).cell 1 _ rfl;have a2:=(hO1).cell 2 _ rfl;have a3:=(hO1).cell 3 _ rfl;have a4:=(hO1).cell 4 _ rfl;have a5:=(hO1).cell 5 _ rfl;have a6:=(hO1).cell 6 _ rfl;have a7:=(hO1).cell 7 _ rfl;have g0:=(hO1).free 0;have g1:=(hO1).free 1;have g2:=(hO1).free 2;have g3:=(hO1).free 3;have g4:=(hO1).free 4;have g5:=(hO1).free 5;have g6:=(hO1).free 6;have g7:=(hO1).free 7
     clear h1 h2 h4 hO1 HLN
     go_wp2_with fail
     (refine bodyPost_ret (v:=.tuple #[.agg #[.int .i64 0,.slice none 0 0,.slice none 0 0,.slice none 0 0,.slice none 0 0,.slice none 0 0,.int .i64 0,.int .i64 0],.int .i64 6,.int .i64 ((k : Int) + 1)]) (by simp [results,Tryz.results23,go_sem,a0,a1,a2,a3,a4,a5,a6,a7,s6]) rfl ?_)
     exact HBAD.out k _ hlt HS.out HS2.out ((((((((HB3.out.setCell (Nat.le_refl _) _).setCell (Nat.le_refl _) _).setCell (Nat.le_refl _) _).setCell (Nat.le_refl _) _).setCell (Nat.le_refl _) _).setCell (Nat.le_refl _) _).setCell (Nat.le_refl _) _).setCell (Nat.le_refl _) _)
    ·have HQ2:=Lib.hid h1
     clear h1 HLN
     go_wp2_with fail
     go_roundw
     case rel=>exact ⟨k + 1,c',l',by omega,by go_num,HQ2.out⟩
     case measure=>simp [intOf];omega
   ·obtain rfl : k = m:=by omega
    have hcr : wr.cell? ⟨w0.heap.size,k,none⟩ = some (.string (ba x)):=by
     rw [HQ.out.rd.bel.cell (p:=⟨w0.heap.size,k,none⟩) hblk];exact HCX
    have bx:=ba_isEmpty x
    have hO1:=HO1.out.below HQ.out.rd.bel
    have s6:=hO1.lt
    by_cases h0 : k = 0
    ·subst h0
     have a0:=(hO1).cell 0 _ rfl;have a1:=(hO1).cell 1 _ rfl;have a2:=(hO1).cell 2 _ rfl;have a3:=(hO1).cell 3 _ rfl;have a4:=(hO1).cell 4 _ rfl;have a5:=(hO1).cell 5 _ rfl;have a6:=(hO1).cell 6 _ rfl;have a7:=(hO1).cell 7 _ rfl;have g0:=(hO1).free 0;have g1:=(hO1).free 1;have g2:=(hO1).free 2;have g3:=(hO1).free 3;have g4:=(hO1).free 4;have g5:=(hO1).free 5;have g6:=(hO1).free 6;have g7:=(hO1).free 7
     clear bx hO1
     go_wp2_with fail
     (refine bodyPost_ret (v:=.tuple #[.agg #[.int .i64 0,.slice none 0 0,.slice none 0 0,.slice none 0 0,.slice none 0 0,.slice none 0 0,.int .i64 0,.int .i64 0],.int .i64 6,.int .i64 1]) (by simp [results,Tryz.results23,go_sem,a0,a1,a2,a3,a4,a5,a6,a7,s6]) rfl ?_)
     exact HNO.out _ (by rw [HQ.out.st];simp) (by simp) ((((((((HBW.out.setCell (Nat.le_refl _) _).setCell (Nat.le_refl _) _).setCell (Nat.le_refl _) _).setCell (Nat.le_refl _) _).setCell (Nat.le_refl _) _).setCell (Nat.le_refl _) _).setCell (Nat.le_refl _) _).setCell (Nat.le_refl _) _)
    ·have z1 : ((k : Int) == 0) = false:=by rw [beq_eq_false_iff_ne];omega
     have z2 : decide (k = 0) = false:=decide_eq_false h0
     cases hxe : x.isEmpty
     ·have HX : Hid (x ≠ []):=fun e=>by rw [e] at hxe;cases hxe
      rw [hxe] at bx
      have a0:=(hO1).cell 0 _ rfl;have a1:=(hO1).cell 1 _ rfl;have a2:=(hO1).cell 2 _ rfl;have a3:=(hO1).cell 3 _ rfl;have a4:=(hO1).cell 4 _ rfl;have a5:=(hO1).cell 5 _ rfl;have a6:=(hO1).cell 6 _ rfl;have a7:=(hO1).cell 7 _ rfl;have g0:=(hO1).free 0;have g1:=(hO1).free 1;have g2:=(hO1).free 2;have g3:=(hO1).free 3;have g4:=(hO1).free 4;have g5:=(hO1).free 5;have g6:=(hO1).free 6;have g7:=(hO1).free 7
      clear hxe hO1
      go_wp2_with fail
      (refine bodyPost_ret (v:=.tuple #[.agg #[.int .i64 0,.slice none 0 0,.slice none 0 0,.slice none 0 0,.slice none 0 0,.slice none 0 0,.int .i64 0,.int .i64 0],.int .i64 6,.int .i64 ((k : Int) + 1)]) (by simp [results,Tryz.results23,go_sem,a0,a1,a2,a3,a4,a5,a6,a7,s6]) rfl ?_)
      exact HNO.out _ (by rw [HQ.out.st];simp) (Or.inr HX.out) ((((((((HBW.out.setCell (Nat.le_refl _) _).setCell (Nat.le_refl _) _).setCell (Nat.le_refl _) _).setCell (Nat.le_refl _) _).setCell (Nat.le_refl _) _).setCell (Nat.le_refl _) _).setCell (Nat.le_refl _) _).setCell (Nat.le_refl _) _)
     ·have HX : Hid (x = []):=List.isEmpty_iff.1 hxe
      rw [hxe] at bx
      clear hxe
      obtain ⟨e0,he0⟩ : ∃ v,Hid (v = (chkV c).1):=⟨_,Lib.hid rfl⟩
      obtain ⟨e1,he1⟩ : ∃ v,Hid (v = (chkV c).2):=⟨_,Lib.hid rfl⟩
      have CHK : Hid (Calls Tryz.prog 54 #[(.agg #[.int .i64 c.cats,.slice c.g.a c.g.l.length c.g.cap,.slice c.r.a c.r.l.length c.r.cap,.slice c.p.a c.p.l.length c.p.cap,.slice c.n.a c.n.l.length c.n.cap,.slice c.s.a c.s.l.length c.s.cap,.int .i64 c.gate,.int .i64 c.quota])] wr fun e w'=>e = .returned (.tuple #[.int .i64 e0,.int .i64 e1]) ∧ Below wr.heap.size wr w'):=by
       rw [he0.out,he1.out];exact check_any c wr HQ.out.rd.cfg
      have q0:=HQ.out.rd.ob.cell 0 _ rfl
      have q1:=HQ.out.rd.ob.cell 1 _ rfl
      have q2:=HQ.out.rd.ob.cell 2 _ rfl
      have q3:=HQ.out.rd.ob.cell 3 _ rfl
      have q4:=HQ.out.rd.ob.cell 4 _ rfl
      have q5:=HQ.out.rd.ob.cell 5 _ rfl
      have q6:=HQ.out.rd.ob.cell 6 _ rfl
      have q7:=HQ.out.rd.ob.cell 7 _ rfl
      clear hO1 s6
      go_wp2_with fail
      refine CHK.out.mono ?_;rintro e w4 ⟨rfl,h4⟩
      have HQ4:=Lib.hid (HQ.out.rd.more h4)
      have HB4:=Lib.hid (bmore HB1.out HQ4.out.bel)
      have hO1:=HO1.out.below HQ4.out.bel
      have s6:=hO1.lt
      have HO4:=Lib.hid hO1
      have a0:=(hO1).cell 0 _ rfl;have a1:=(hO1).cell 1 _ rfl;have a2:=(hO1).cell 2 _ rfl;have a3:=(hO1).cell 3 _ rfl;have a4:=(hO1).cell 4 _ rfl;have a5:=(hO1).cell 5 _ rfl;have a6:=(hO1).cell 6 _ rfl;have a7:=(hO1).cell 7 _ rfl;have g0:=(hO1).free 0;have g1:=(hO1).free 1;have g2:=(hO1).free 2;have g3:=(hO1).free 3;have g4:=(hO1).free 4;have g5:=(hO1).free 5;have g6:=(hO1).free 6;have g7:=(hO1).free 7
      clear hO1 h4 q0 q1 q2 q3 q4 q5 q6 q7 CHK
      by_cases hz : e0 = 0
      ·subst hz
       have q0:=HQ4.out.ob.cell 0 _ rfl
       have q1:=HQ4.out.ob.cell 1 _ rfl
       have q2:=HQ4.out.ob.cell 2 _ rfl
       have q3:=HQ4.out.ob.cell 3 _ rfl
       have q4:=HQ4.out.ob.cell 4 _ rfl
       have q5:=HQ4.out.ob.cell 5 _ rfl
       have q6:=HQ4.out.ob.cell 6 _ rfl
       have q7:=HQ4.out.ob.cell 7 _ rfl
       go_wp2_with fail
       refine bodyPost_ret (v:=.tuple #[(.agg #[.int .i64 c.cats,.slice c.g.a c.g.l.length c.g.cap,.slice c.r.a c.r.l.length c.r.cap,.slice c.p.a c.p.l.length c.p.cap,.slice c.n.a c.n.l.length c.n.cap,.slice c.s.a c.s.l.length c.s.cap,.int .i64 c.gate,.int .i64 c.quota]),.int .i64 0,.int .i64 0]) (by simp [results,Tryz.results23,go_sem,a0,a1,a2,a3,a4,a5,a6,a7,s6]) rfl ?_
       refine HEY.out _ c last HQ.out.st h0 HX.out he0.out.symm ?_ (HQ4.out.newc HB1.out.size) ?_
       ·exact HQ4.out.other HO4.out (upd_put (upd_put (upd_put (upd_put (upd_put (upd_put (upd_put (upd_put (Upd.refl _ _)))))))))
       ·exact ((((((((HB4.out.setCell (Nat.le_refl _) _).setCell (Nat.le_refl _) _).setCell (Nat.le_refl _) _).setCell (Nat.le_refl _) _).setCell (Nat.le_refl _) _).setCell (Nat.le_refl _) _).setCell (Nat.le_refl _) _).setCell (Nat.le_refl _) _)
      ·have n1 : (e0 == 0) = false:=by rw [beq_eq_false_iff_ne];exact hz
       have n2 : (e0 != 0) = true:=by rw [bne_iff_ne];exact hz
       have n3 : decide (e0 = 0) = false:=decide_eq_false hz
       have HNZ : Hid ((chkV c).1 ≠ 0):=by rw [← he0.out];exact hz
       clear hz
       go_wp2_with fail
       (refine bodyPost_ret (v:=.tuple #[.agg #[.int .i64 0,.slice none 0 0,.slice none 0 0,.slice none 0 0,.slice none 0 0,.slice none 0 0,.int .i64 0,.int .i64 0],.int .i64 e0,.int .i64 0]) (by simp [results,Tryz.results23,go_sem,a0,a1,a2,a3,a4,a5,a6,a7,s6]) rfl ?_)
       rw [he0.out]
       exact HEN.out _ c last HQ.out.st h0 HX.out HNZ.out ((((((((HB4.out.setCell (Nat.le_refl _) _).setCell (Nat.le_refl _) _).setCell (Nat.le_refl _) _).setCell (Nat.le_refl _) _).setCell (Nat.le_refl _) _).setCell (Nat.le_refl _) _).setCell (Nat.le_refl _) _).setCell (Nat.le_refl _) _)
end Go.Proofs.YtoklonmiejdgmaaGreatDoor
/- Packages plan and its reference: lines of a text. -/
namespace Go.Proofs.YtoklonmiejdgmaaGreatDoor
set_option linter.unusedVariables false
set_option linter.unusedSimpArgs false
set_option linter.unnecessarySimpa false
open Go.RowKit Go.Sort
set_option maxHeartbeats 2000000
set_option maxRecDepth 100000
set_option linter.unusedVariables false
theorem fieldsC_sep (c : UInt8) : ∀ s : List UInt8,fieldsC c (s ++ [c]) = fieldsC c s ++ [[]]
 | []=>by simp [fieldsC]
 | b :: t=>by
  have ih:=fieldsC_sep c t
  by_cases h : b = c
  ·rw [List.cons_append,fieldsC,if_pos h,ih,fieldsC,if_pos h];rfl
  ·obtain ⟨x,r,h1,h2⟩:=fieldsC_cons h t
   obtain ⟨x',r',h1',h2'⟩:=fieldsC_cons h (t ++ [c])
   rw [List.cons_append,h2',h2]
   rw [h1,h1'] at ih
   injection ih with ih1 ih2
   rw [ih1,ih2];rfl
theorem fieldsC_snoc (c b : UInt8) (hb : b ≠ c) : ∀ s : List UInt8,∃ D y,fieldsC c (s ++ [b]) = D ++ [y ++ [b]]
 | []=>⟨[],[],by rw [List.nil_append,fieldsC_free c [b] (by simp;exact hb)];rfl⟩
 | a :: t=>by
  obtain ⟨D,y,ih⟩:=fieldsC_snoc c b hb t
  by_cases h : a = c
  ·exact ⟨[] :: D,y,by rw [List.cons_append,fieldsC,if_pos h,ih];rfl⟩
  ·obtain ⟨x',r',h1',h2'⟩:=fieldsC_cons h (t ++ [b])
   rw [ih] at h1'
   cases D with
   | nil=>
    rw [List.nil_append] at h1'
    injection h1' with e1 e2
    exact ⟨[],a :: y,by rw [List.cons_append,h2',← e1,← e2];rfl⟩
   | cons d D=>
    rw [List.cons_append] at h1'
    injection h1' with e1 e2
    exact ⟨(a :: x') :: D,y,by rw [List.cons_append,h2',← e2];rfl⟩
theorem fieldsC_last (s : List UInt8) : (fieldsC 10 s).getLast? = some [] ↔ s = [] ∨ s.getLast? = some 10:=by
 rcases List.eq_nil_or_concat s with rfl | ⟨t,b,rfl⟩
 ·simp [fieldsC]
 ·rw [List.concat_eq_append]
  by_cases h : b = 10
  ·subst h
   rw [fieldsC_sep];simp
  ·obtain ⟨D,y,e⟩:=fieldsC_snoc 10 b h t
   rw [e]
   simp [h]
theorem suf_10 (s : List UInt8) : Lib.hasSuffix s [10] = true ↔ s.getLast? = some 10:=by
 unfold Lib.hasSuffix
 rw [List.isSuffixOf_iff_suffix]
 constructor
 ·rintro ⟨t,rfl⟩;simp
 ·intro h
  obtain ⟨t,ht⟩:=List.getLast?_eq_some_iff.1 h
  exact ⟨t,ht.symm⟩
/-- Is a text's last line ended? -/
def lsB (s : List UInt8) : Bool:=decide ((fieldsC 10 s).getLast? = some [])
def lsL (s : List UInt8) : List (List UInt8):=(fieldsC 10 s).dropLast
def LsPost (s : List UInt8) (w : World) (e : Ending) (w' : World) : Prop:=
 (lsB s = true → ∃ a cap,e = .returned (.tuple #[.slice a (lsL s).length cap,.bool true]) ∧ RdW w' a cap (lsL s)) ∧ (lsB s = false → e = .returned (.tuple #[.slice none 0 0,.bool false])) ∧ Below w.heap.size w w'
theorem ls_yes {s : List UInt8} {L : List (List UInt8)} {w w' : World} {e : Ending} {a : Option Addr} {cap : Nat} (h : fieldsC 10 s = L ++ [[]]) (he : e = .returned (.tuple #[.slice a L.length cap,.bool true])) (hr : RdW w' a cap L) (hb : Below w.heap.size w w') : LsPost s w e w':=by
 have e1 : lsL s = L:=by rw [lsL,h,List.dropLast_concat]
 have e2 : lsB s = true:=by rw [lsB,h];simp
 exact ⟨fun _=>⟨a,cap,by rw [e1];exact he,by rw [e1];exact hr⟩,(fun h=>by rw [e2] at h;cases h),hb⟩
theorem ls_no {s : List UInt8} {D : List (List UInt8)} {x : List UInt8} {w w' : World} (h : fieldsC 10 s = D ++ [x]) (hx : x ≠ []) (hb : Below w.heap.size w w') : LsPost s w (.returned (.tuple #[.slice none 0 0,.bool false])) w':=by
 have e2 : lsB s = false:=by rw [lsB,h];simp [hx]
 exact ⟨(fun h=>by rw [e2] at h;cases h),fun _=>rfl,hb⟩
theorem rlines_any (s : ByteArray) (hs : s.size ≤ 100000000) (w : World) : Calls Tryz.prog 26 #[.string s] w (LsPost s.data.toList w):=by
 obtain ⟨ib,hib,hzb,hzb1,hzb2⟩:=info_parts info_byte
 obtain ⟨is,his,hzs,hzs1,hzs2⟩:=info_parts info_str
 obtain ⟨F,hF⟩ : ∃ F,F = fieldsC 10 s.data.toList:=⟨_,rfl⟩
 have HPY : Hid (∀ w' L a n cap,F = L ++ [[]] → n = L.length → RdW w' a cap L → Below w.heap.size w w' → LsPost s.data.toList w (.returned (.tuple #[.slice a n cap,.bool true])) w'):=fun w' L a n cap h1 hn h3 h4=>by
  subst hF;subst hn;exact ls_yes h1 rfl h3 h4
 have HPN : Hid (∀ w' D x,F = D ++ [x] → x ≠ [] → Below w.heap.size w w' → LsPost s.data.toList w (.returned (.tuple #[.slice none 0 0,.bool false])) w'):=fun w' D x h1 h2 h4=>by
  subst hF;exact ls_no h1 h2 h4
 have HS0 : Hid (SP w w none 0 [] none 0 []):=⟨Own.nil _ _ _ _,Own.nil _ _ _ _,Below.refl _ _⟩
 have HF:=Lib.hid hF
 clear hF
 go_enter Tryz.func26,Tryz.ntmps26
 go_wp2
 go_loopw [4,5,6] (fun o v i wr=>∃ (k : Nat) (done : List (List UInt8)) (cur : List UInt8) (ao ab : Option Addr) (co cb : Nat),k ≤ s.size ∧ i = .int .i64 k ∧ o = .slice ao done.length co ∧ v = .slice ab cur.length cb ∧ SP w wr ao co done ab cb cur ∧ done.length ≤ k ∧ cur.length ≤ k ∧ (∀ b ∈ cur,b ≠ 10) ∧ F = done ++ fieldsC 10 (cur ++ s.data.toList.drop k)) (fun _ _ i _=>s.size - (intOf i).toNat)
 case atStart=>exact ⟨0,[],[],none,none,0,0,by omega,rfl,rfl,rfl,HS0.out,Nat.le_refl _,Nat.le_refl _,by simp,HF.out⟩
 case round=>
  clear HS0
  obtain ⟨k,done,cur,ao,ab,co,cb,hk,rfl,rfl,rfl,hsp,hdl,hcl,hcn,hrel⟩:=hrel
  have SPH:=Lib.hid hsp
  have HCN:=Lib.hid hcn
  have HREL:=Lib.hid hrel
  have hsz:=hsp.bel.size
  clear hsp hcn hrel
  by_cases hlt : k < s.size
  ·have d1 : decide ((k : Int) < (s.size : Int)) = true:=decide_eq_true (by omega)
   have d1' : decide (k < s.size) = true:=decide_eq_true hlt
   have w1 : IntKind.i64.wrap ((k : Int) + 1) = (k : Int) + 1:=by rw [IntKind.wrap_i64];omega
   have hdrop : s.data.toList.drop k = s[k] :: s.data.toList.drop (k + 1):=List.drop_eq_getElem_cons (by rw [ba_len];exact hlt)
   by_cases h32 : s[k].toNat = 10
   ·have hb32 : s[k] = 10:=by rw [← UInt8.toNat_inj];exact h32
    have dn : ((s[k].toNat : Int) == 10) = true:=by simp [h32]
    have HR2 : Hid (F = (done ++ [cur]) ++ fieldsC 10 ([] ++ s.data.toList.drop (k + 1))):=by
     rw [Hid,HREL.out,hdrop,hb32,fieldsC_app 10 cur _ HCN.out,List.append_assoc];rfl
    have hconv:=run_own_str wr _ _ _ _ _ SPH.out.b
    clear hdrop hb32 h32
    go_wp2_with (at_builtin;(refine wpList_own rfl (.tmp 17) (.tmp 20) 54 rfl w.heap.size 9 is _ 1 16 Tryz.underlying54 his hzs hzs1 hzs2 rfl (by omega) ao done.length co (strC done) rfl ((SPH.out.below ((Below.refl _ _).alloc (Nat.le_refl _) _)).o) wr.heap.size [.string (ba cur)] rfl (new_block _ _ _ rfl) rfl (by simp [Value.oneCell']) (by simp only [maxLen];omega) (by omega) (by simp;omega) ?_);intro g' c' w2 hown1 hmod1 _;have HO:=Lib.hid hown1;have HM : Hid (Mod (blk ao) wr w2):=((Mod.ofBelow ((Below.refl wr.heap.size wr).alloc (Nat.le_refl _) _)).trans hmod1);clear hown1 hmod1)
    have SP2 : Hid (SP w w2 (some ⟨g',0,none⟩) c' (done ++ [cur]) none 0 []):=⟨by rw [strC_snoc,List.length_append];exact HO.out,Own.nil _ _ _ _,SPH.out.bel.trans (HM.out.below (fun j hj=>(SPH.out.o.ge j hj).1) hsz)⟩
    go_roundw
    case rel=>exact ⟨k + 1,done ++ [cur],[],some ⟨g',0,none⟩,none,c',0,by omega,by go_num,by rw [List.length_append];rfl,rfl,SP2.out,by simp;omega,by simp,by simp,HR2.out⟩
    case measure=>simp [intOf];omega
   ·have hb32 : s[k] ≠ 10:=fun e=>h32 (by rw [e];rfl)
    have dn : ((s[k].toNat : Int) == 10) = false:=by rw [beq_eq_false_iff_ne];omega
    have HR2 : Hid (F = done ++ fieldsC 10 ((cur ++ [s[k]]) ++ s.data.toList.drop (k + 1))):=by
     rw [Hid,HREL.out,hdrop,List.append_assoc];rfl
    have HB2 : Hid (∀ b ∈ cur ++ [s[k]],b ≠ 10):=fun b hb=>by
     rcases List.mem_append.1 hb with h | h
     ·exact HCN.out b h
     ·rw [List.mem_singleton.1 h];exact hb32
    have hx : s[k].toNat < 256:=s[k].toNat_lt
    clear hdrop hb32 h32
    go_wp2_with (at_builtin;(refine wpList_own rfl (.tmp 22) (.tmp 26) 76 rfl w.heap.size 5 ib _ 1 1 Tryz.underlying76 hib hzb hzb1 hzb2 rfl (by omega) ab cur.length cb (bC cur) rfl ((SPH.out.below ((Below.refl _ _).alloc (Nat.le_refl _) _)).b) wr.heap.size [.int .u8 (s[k].toNat : Int)] rfl (new_block _ _ _ rfl) rfl (by simp [Value.oneCell']) (by simp only [maxLen];omega) (by omega) (by simp;omega) ?_);intro g' c' w2 hown1 hmod1 _;have HO:=Lib.hid hown1;have HM : Hid (Mod (blk ab) wr w2):=((Mod.ofBelow ((Below.refl wr.heap.size wr).alloc (Nat.le_refl _) _)).trans hmod1);clear hown1 hmod1)
    have SP2 : Hid (SP w w2 ao co done (some ⟨g',0,none⟩) c' (cur ++ [s[k]])):=⟨SPH.out.o.mod HM.out (SPH.out.o.apart SPH.out.b (by decide)),by rw [bC_snoc,List.length_append];exact HO.out,SPH.out.bel.trans (HM.out.below (fun j hj=>(SPH.out.b.ge j hj).1) hsz)⟩
    go_roundw
    case rel=>exact ⟨k + 1,done,cur ++ [s[k]],ao,some ⟨g',0,none⟩,co,c',by omega,by go_num,rfl,by rw [List.length_append];rfl,SP2.out,by omega,by simp;omega,HB2.out,HR2.out⟩
    case measure=>simp [intOf];omega
  ·have d1 : decide ((k : Int) < (s.size : Int)) = false:=decide_eq_false (by omega)
   have d1' : decide (k < s.size) = false:=decide_eq_false hlt
   have HR2 : Hid (F = done ++ [cur]):=by
    rw [Hid,HREL.out,List.drop_eq_nil_of_le (by rw [ba_len];omega),List.append_nil,fieldsC_free 10 cur HCN.out]
   by_cases hc0 : cur.length = 0
   ·have dc : decide ((cur.length : Int) > 0) = false:=decide_eq_false (by omega)
    have dc' : decide (0 < cur.length) = false:=decide_eq_false (by omega)
    have HC0 : Hid (cur = []):=List.eq_nil_of_length_eq_zero hc0
    clear hc0
    go_wp2
    go_ret2
    exact HPY.out _ done _ _ _ (by rw [HR2.out,HC0.out]) rfl (own_rdW SPH.out.o) SPH.out.bel
   ·have dc : decide ((cur.length : Int) > 0) = true:=decide_eq_true (by omega)
    have dc' : decide (0 < cur.length) = true:=decide_eq_true (by omega)
    have HC0 : Hid (cur ≠ []):=fun e=>hc0 (by rw [e];rfl)
    clear hc0
    go_wp2
    go_ret2
    exact HPN.out _ done cur HR2.out HC0.out SPH.out.bel
theorem lines_any (s : ByteArray) (hs : s.size ≤ 100000000) (w : World) : Calls Tryz.prog 20 #[.string s] w (LsPost s.data.toList w):=by
 have HPY : Hid (∀ w' L a n cap,fieldsC 10 s.data.toList = L ++ [[]] → n = L.length → RdW w' a cap L → Below w.heap.size w w' → LsPost s.data.toList w (.returned (.tuple #[.slice a n cap,.bool true])) w'):=fun w' L a n cap h1 hn h3 h4=>by
  subst hn;exact ls_yes h1 rfl h3 h4
 have HPN : Hid (∀ w' D x,fieldsC 10 s.data.toList = D ++ [x] → x ≠ [] → Below w.heap.size w w' → LsPost s.data.toList w (.returned (.tuple #[.slice none 0 0,.bool false])) w'):=fun w' D x h1 h2 h4=>by
  exact ls_no h1 h2 h4
 by_cases h0 : s.size = 0
 ·have ie:=toList_empty s
  rw [decide_eq_true h0] at ie
  have HE : Hid (fieldsC 10 s.data.toList = [] ++ [[]]):=by
   have : s.data.toList = []:=List.eq_nil_of_length_eq_zero (by rw [ba_len];exact h0)
   rw [Hid,this];rfl
  clear h0
  go_enter Tryz.func20,Tryz.ntmps20
  go_wp2_with fail
  go_ret2
  exact HPY.out _ [] _ _ _ HE.out rfl (own_rdW (Own.nil w w.heap.size 9 1)) (Below.refl _ _)
 ·have ie:=toList_empty s
  rw [decide_eq_false h0] at ie
  have HSU : Hid (∀ W,Calls Tryz.prog 47 #[.string s,.string ⟨#[10]⟩] W fun e w'=>e = .returned (.bool (Lib.hasSuffix s.data.toList [10])) ∧ w' = W):=fun W=>Tryz.strings_HasSuffix s ⟨#[10]⟩ W (by omega)
  cases hx : Lib.hasSuffix s.data.toList [10]
  ·have HE : Hid (∃ D x,fieldsC 10 s.data.toList = D ++ [x] ∧ x ≠ []):=by
    refine ⟨(fieldsC 10 s.data.toList).dropLast,(fieldsC 10 s.data.toList).getLast (fieldsC_ne 10 _),(List.dropLast_concat_getLast _).symm,fun e=>?_⟩
    have h2 : (fieldsC 10 s.data.toList).getLast? = some []:=by rw [List.getLast?_eq_some_getLast (fieldsC_ne 10 _),e]
    rcases (fieldsC_last _).1 h2 with h | h
    ·rw [← List.length_eq_zero_iff,ba_len] at h;exact h0 h
    ·rw [(suf_10 _).2 h] at hx;cases hx
   rw [hx] at HSU
   clear h0 hx
   go_enter Tryz.func20,Tryz.ntmps20
   go_wp2_with fail
   refine (HSU.out _).mono ?_;rintro e w' ⟨rfl,rfl⟩
   go_wp2_with fail
   go_ret2
   obtain ⟨D,x,h1,h2⟩:=HE.out
   exact HPN.out _ D x h1 h2 (Below.refl _ _)
  ·obtain ⟨t,ht⟩ : ∃ t,s.data.toList = t ++ [10]:=by
    obtain ⟨t,ht⟩:=List.getLast?_eq_some_iff.1 ((suf_10 _).1 hx);exact ⟨t,ht⟩
   have hlt : t.length + 1 = s.size:=by rw [← ba_len,ht];simp
   have HT : Hid (s.extract 0 (s.size - 1) = ba t):=by
    apply ByteArray.ext
    apply Array.ext'
    rw [ByteArray.data_extract,Array.toList_extract,ht,ba_data,← hlt]
    simp
   have HE : Hid (fieldsC 10 s.data.toList = fieldsC 10 t ++ [[]]):=by rw [Hid,ht,fieldsC_sep]
   have HSP : Hid (∀ W,Calls Tryz.prog 48 #[.string (s.extract 0 (s.size - 1)),.string ⟨#[10]⟩] W fun e w'=>e = .returned (.slice (some ⟨W.heap.size,0,none⟩) (fieldsC 10 t).length (fieldsC 10 t).length) ∧ w' = W.alloc (.cells (strC (fieldsC 10 t)).toArray 9)):=fun W=>by
    rw [HT.out]
    have:=split1L (ba t) 10 W (by rw [ba_size];omega)
    rw [ba_data] at this;exact this
   have HR : Hid (∀ W : World,RdW (W.alloc (.cells (strC (fieldsC 10 t)).toArray 9)) (some ⟨W.heap.size,0,none⟩) (fieldsC 10 t).length (fieldsC 10 t)):=fun W=>by
    refine ⟨⟨by rw [strC_len,Nat.mul_one],(fun h=>by cases h),fun p hp hne=>?_⟩,Nat.le_refl _,?_⟩
    ·injection hp with hp
     subst hp
     have ho:=ObjAt.new W 9 (strC (fieldsC 10 t))
     exact ⟨W.heap.size,0,rfl,ho.lt,fun j u hu=>by rw [Nat.zero_add];exact ho.cell j u hu⟩
    ·rw [fieldsC_len]
     have:=List.count_le_length (a:=(10 : UInt8)) (l:=t)
     unfold maxLen;omega
   have w5 : IntKind.i64.wrap ((s.size : Int) - 1) = ((s.size - 1 : Nat) : Int):=by rw [IntKind.wrap_i64];omega
   have hsz : s.size - 1 ≤ s.size:=by omega
   rw [hx] at HSU
   clear h0 hx ht hlt HT
   go_enter Tryz.func20,Tryz.ntmps20
   go_wp2_with fail
   refine (HSU.out _).mono ?_;rintro e w' ⟨rfl,rfl⟩
   go_wp2_with fail
   refine (HSP.out _).mono ?_;rintro e w2 ⟨rfl,rfl⟩
   go_wp2_with fail
   go_ret2
   exact HPY.out _ _ _ _ _ HE.out rfl (HR.out _) ((Below.refl _ _).alloc (Nat.le_refl _) _)
end Go.Proofs.YtoklonmiejdgmaaGreatDoor
/- Itoa over the kit's contract. -/
namespace Go.Proofs.YtoklonmiejdgmaaGreatDoor
set_option linter.unusedVariables false
set_option linter.unusedSimpArgs false
set_option linter.unnecessarySimpa false
open Go.RowKit Go.Sort Go.Lib
set_option linter.unusedVariables false
set_option maxHeartbeats 400000
set_option maxRecDepth 100000
end Go.Proofs.YtoklonmiejdgmaaGreatDoor
/- The reference's numbers by digits (lines of XTrTexts). -/
namespace Go.Proofs.YtoklonmiejdgmaaGreatDoor
set_option linter.unusedVariables false
set_option linter.unusedSimpArgs false
set_option linter.unnecessarySimpa false
open Go.RowKit Go.Sort
set_option maxHeartbeats 2000000
set_option maxRecDepth 100000
set_option linter.unusedVariables false
end Go.Proofs.YtoklonmiejdgmaaGreatDoor
/- Contracts (Isa): Isa, Isa2, Isa3, Isa4, IsaLaws. -/
namespace Go.Proofs.YtoklonmiejdgmaaGreatDoor
set_option linter.unusedVariables false
set_option linter.unusedSimpArgs false
set_option linter.unnecessarySimpa false
namespace Isa
set_option maxHeartbeats 4000000
set_option maxRecDepth 100000
section
open Go.RowKit
def hasL : List Int:=[0,7,7,7,7,7,7,7,7,7,7,7,7,7,11,11,11,11,11,11,11,11,9,11,11,11,14,14,14,14,14,14,9,11,0,0,0,9,10,0,0,0]
def hasI (op : Nat) : Int:=hasL.getD op 0
/-- The table lies in memory. -/
def Tab (w : World) : Prop:=∀ i,i < 42 → w.cell? ⟨2,i,none⟩ = some (.int .i64 (hasI i))
theorem Tab.below {w w' : World} (h : Tab w) (hb : Below w.heap.size w w') : Tab w':=fun i hi=>by
 rw [hb.cell (p:=⟨2,i,none⟩) (World.block_lt_of_cell? w _ (h i hi))]
 exact h i hi
def realB (op : Int) : Bool:=decide (1 ≤ op) && decide (op ≤ 41)
theorem real_any (op : Int) (w : World) : Calls Tryz.prog 197 #[.int .i64 op] w fun e w'=>e = .returned (.bool (realB op)) ∧ w = w':=by
 by_cases h : 1 ≤ op
 ·have h1 : decide (1 ≤ op) = true:=by simpa using h
  go_enter Tryz.func197,Tryz.ntmps197
  go_wp2
  go_ret
  exact ⟨ret_bool (by simp [realB,h]),rfl⟩
 ·have h1 : decide (1 ≤ op) = false:=by simpa using h
  go_enter Tryz.func197,Tryz.ntmps197
  go_wp2
  go_ret
  exact ⟨ret_bool (by simp [realB];omega),rfl⟩
def regB (may : Bool) (n : Int) : Bool:=if may then decide (0 ≤ n) && decide (n < 16) else n == 0
theorem register_any (may : Bool) (n : Int) (w : World) : Calls Tryz.prog 198 #[.bool may,.int .i64 n] w fun e w'=>e = .returned (.bool (regB may n)) ∧ w = w':=by
 cases may
 ·go_enter Tryz.func198,Tryz.ntmps198
  go_wp2
  go_ret
  exact ⟨ret_bool (by simp [regB]),rfl⟩
 ·by_cases h : 0 ≤ n
  ·have h1 : decide (0 ≤ n) = true:=by simpa using h
   go_enter Tryz.func198,Tryz.ntmps198
   go_wp2
   go_ret
   exact ⟨ret_bool (by simp [regB,h]),rfl⟩
  ·have h1 : decide (0 ≤ n) = false:=by simpa using h
   go_enter Tryz.func198,Tryz.ntmps198
   go_wp2
   go_ret
   exact ⟨ret_bool (by simp [regB];omega),rfl⟩
def immB (op : Nat) (n : Int) : Bool:=
 if op = 18 ∨ op = 19 ∨ op = 20 then decide (0 ≤ n) && decide (n ≤ 31)
 else if op = 37 ∨ op = 38 then decide (0 ≤ n) && decide (n < 9)
 else if bits BinOp.and IntKind.i64 (hasI op) 8 == 0 then n == 0 else decide (-8192 ≤ n) && decide (n ≤ 8191)
theorem imm_any (op : Nat) (n : Int) (hop : op < 42) (w : World) (ht : Tab w) : Calls Tryz.prog 199 #[.int .i64 op,.int .i64 n] w fun e w'=>e = .returned (.bool (immB op n)) ∧ w = w':=by
 have hc:=ht op hop
 clear ht
 by_cases h1 : op = 18 ∨ op = 19 ∨ op = 20
 ·have e1 : immB op n = (decide (0 ≤ n) && decide (n ≤ 31)):=by rw [immB,if_pos h1]
  have E:=Lib.hid e1;clear e1
  by_cases hn : 0 ≤ n
  ·have h2 : decide (0 ≤ n) = true:=by simpa using hn
   rcases h1 with rfl | rfl | rfl
   all_goals
    go_enter Tryz.func199,Tryz.ntmps199
    go_wp2
    go_ret
    exact ⟨ret_bool (by rw [E.out];simp [hn]),rfl⟩
  ·have h2 : decide (0 ≤ n) = false:=by simpa using hn
   rcases h1 with rfl | rfl | rfl
   all_goals
    go_enter Tryz.func199,Tryz.ntmps199
    go_wp2
    go_ret
    exact ⟨ret_bool (by rw [E.out];simp;omega),rfl⟩
 ·by_cases h2 : op = 37 ∨ op = 38
  ·have e1 : immB op n = (decide (0 ≤ n) && decide (n < 9)):=by rw [immB,if_neg h1,if_pos h2]
   have E:=Lib.hid e1;clear e1
   by_cases hn : 0 ≤ n
   ·have h3 : decide (0 ≤ n) = true:=by simpa using hn
    rcases h2 with rfl | rfl
    all_goals
     go_enter Tryz.func199,Tryz.ntmps199
     go_wp2
     go_ret
     exact ⟨ret_bool (by rw [E.out];simp [hn]),rfl⟩
   ·have h3 : decide (0 ≤ n) = false:=by simpa using hn
    rcases h2 with rfl | rfl
    all_goals
     go_enter Tryz.func199,Tryz.ntmps199
     go_wp2
     go_ret
     exact ⟨ret_bool (by rw [E.out];simp;omega),rfl⟩
  ·have g1 : ((op : Int) == 18) = false:=by simp;omega
   have g2 : ((op : Int) == 19) = false:=by simp;omega
   have g3 : ((op : Int) == 20) = false:=by simp;omega
   have g4 : ((op : Int) == 37) = false:=by simp;omega
   have g5 : ((op : Int) == 38) = false:=by simp;omega
   cases hb : bits BinOp.and IntKind.i64 (hasI op) 8 == 0
   ·have e1 : immB op n = (decide (-8192 ≤ n) && decide (n ≤ 8191)):=by rw [immB,if_neg h1,if_neg h2,hb];rfl
    have E:=Lib.hid e1;clear e1 h1 h2
    by_cases hn : -8192 ≤ n
    ·have h3 : decide (-8192 ≤ n) = true:=by simpa using hn
     go_enter Tryz.func199,Tryz.ntmps199
     go_wp2
     go_ret
     exact ⟨ret_bool (by rw [E.out];simp [hn]),rfl⟩
    ·have h3 : decide (-8192 ≤ n) = false:=by simpa using hn
     go_enter Tryz.func199,Tryz.ntmps199
     go_wp2
     go_ret
     exact ⟨ret_bool (by rw [E.out];simp;omega),rfl⟩
   ·have e1 : immB op n = (n == 0):=by rw [immB,if_neg h1,if_neg h2,hb];rfl
    have E:=Lib.hid e1;clear e1 h1 h2
    go_enter Tryz.func199,Tryz.ntmps199
    go_wp2
    go_ret
    exact ⟨ret_bool (by rw [E.out]),rfl⟩
end
section
open Go.RowKit
def validB (op d a b n : Int) : Bool:=
 realB op && (regB (bits BinOp.and IntKind.i64 (hasI op.toNat) 1 != 0) d && (regB (bits BinOp.and IntKind.i64 (hasI op.toNat) 2 != 0) a && (regB (bits BinOp.and IntKind.i64 (hasI op.toNat) 4 != 0) b && immB op.toNat n)))
theorem alloc_tab {w : World} (h : Tab w) (o : Obj) : Tab (w.alloc o):=h.below ((Below.refl _ _).alloc (Nat.le_refl _) o)
theorem valid_any (op d a b n : Int) (w : World) (ht : Tab w) : Calls Tryz.prog 176 #[(.agg #[.int .i64 (op),.int .i64 (d),.int .i64 (a),.int .i64 (b),.int .i64 (n)])] w fun e w'=>e = .returned (.bool (validB op d a b n)) ∧ Below w.heap.size w w':=by
 cases hr : realB op
 ·have hE : validB op d a b n = false:=by simp [validB,hr]
  have HE:=Lib.hid hE;clear hE
  go_enter Tryz.func176,Tryz.ntmps176
  go_wp2_with (go_at_call 197;refine (real_any _ _).mono ?_;rintro e w' ⟨rfl,rfl⟩)
  go_ret
  exact ⟨ret_bool (by rw [HE.out]),(Below.refl _ _).alloc (Nat.le_refl _) _⟩
 ·obtain ⟨o,rfl⟩ : ∃ o : Nat,op = o:=⟨op.toNat,by simp [realB] at hr;omega⟩
  have ho : o < 42:=by simp [realB] at hr;omega
  have hc:=ht o ho
  have h0 : 2 < w.heap.size:=World.block_lt_of_cell? w ⟨2,o,none⟩ hc
  have HT:=Lib.hid (alloc_tab ht (.cells #[.int .i64 o,.int .i64 d,.int .i64 a,.int .i64 b,.int .i64 n] 145))
  clear ht
  cases h1 : regB (bits BinOp.and IntKind.i64 (hasI o) 1 != 0) d
  ·have HE : Hid (validB o d a b n = false):=by simp [Hid,validB,h1]
   go_enter Tryz.func176,Tryz.ntmps176
   go_wp2_with (first | (go_at_call 197;refine (real_any _ _).mono ?_;rintro e w' ⟨rfl,rfl⟩) | (go_at_call 198;refine (register_any _ _ _).mono ?_;rintro e w' ⟨rfl,rfl⟩))
   go_ret
   exact ⟨ret_bool (by rw [HE.out]),(Below.refl _ _).alloc (Nat.le_refl _) _⟩
  ·cases h2 : regB (bits BinOp.and IntKind.i64 (hasI o) 2 != 0) a
   ·have HE : Hid (validB o d a b n = false):=by simp [Hid,validB,h2]
    go_enter Tryz.func176,Tryz.ntmps176
    go_wp2_with (first | (go_at_call 197;refine (real_any _ _).mono ?_;rintro e w' ⟨rfl,rfl⟩) | (go_at_call 198;refine (register_any _ _ _).mono ?_;rintro e w' ⟨rfl,rfl⟩))
    go_ret
    exact ⟨ret_bool (by rw [HE.out]),(Below.refl _ _).alloc (Nat.le_refl _) _⟩
   ·cases h3 : regB (bits BinOp.and IntKind.i64 (hasI o) 4 != 0) b
    ·have HE : Hid (validB o d a b n = false):=by simp [Hid,validB,h3]
     go_enter Tryz.func176,Tryz.ntmps176
     go_wp2_with (first | (go_at_call 197;refine (real_any _ _).mono ?_;rintro e w' ⟨rfl,rfl⟩) | (go_at_call 198;refine (register_any _ _ _).mono ?_;rintro e w' ⟨rfl,rfl⟩))
     go_ret
     exact ⟨ret_bool (by rw [HE.out]),(Below.refl _ _).alloc (Nat.le_refl _) _⟩
    ·have HE : Hid (validB o d a b n = immB o n):=by simp [Hid,validB,hr,h1,h2,h3]
     go_enter Tryz.func176,Tryz.ntmps176
     go_wp2_with (first | (go_at_call 197;refine (real_any _ _).mono ?_;rintro e w' ⟨rfl,rfl⟩) | (go_at_call 198;refine (register_any _ _ _).mono ?_;rintro e w' ⟨rfl,rfl⟩) | (go_at_call 199;refine (imm_any _ _ ho _ HT.out).mono ?_;rintro e w' ⟨rfl,rfl⟩))
     go_ret
     exact ⟨ret_bool (by rw [HE.out]),(Below.refl _ _).alloc (Nat.le_refl _) _⟩
/-- The word of a right instruction. -/
def wordI (op d a b n : Int) : Int:=op + d * 64 + a * 1024 + b * 16384 + n % 16384 * 262144
def encW (op d a b n : Int) : Int:=if validB op d a b n then wordI op d a b n else 0
def encE (op d a b n : Int) : Int:=if validB op d a b n then 0 else 6
theorem regB_bound (may : Bool) (n : Int) (h : regB may n = true) : 0 ≤ n ∧ n ≤ 15:=by
 cases may <;> simp [regB] at h <;> omega
theorem immB_bound (op : Nat) (n : Int) (h : immB op n = true) : -8192 ≤ n ∧ n ≤ 8191:=by
 unfold immB at h
 split at h
 ·simp at h;omega
 ·split at h
  ·simp at h;omega
  ·split at h
   ·simp at h;omega
   ·simp at h;omega
theorem validB_bounds {op d a b n : Int} (h : validB op d a b n = true) : (1 ≤ op ∧ op ≤ 41) ∧ (0 ≤ d ∧ d ≤ 15) ∧ (0 ≤ a ∧ a ≤ 15) ∧ (0 ≤ b ∧ b ≤ 15) ∧ (-8192 ≤ n ∧ n ≤ 8191):=by
 simp only [validB,Bool.and_eq_true] at h
 obtain ⟨h1,h2,h3,h4,h5⟩:=h
 simp [realB] at h1
 exact ⟨h1,regB_bound _ _ h2,regB_bound _ _ h3,regB_bound _ _ h4,immB_bound _ _ h5⟩
theorem nat_word (o d a b m : Nat) (ho : o < 64) (hd : d < 16) (ha : a < 16) (hb : b < 16) : (((o ||| d * 64) ||| a * 1024) ||| b * 16384) ||| m * 262144 = o + d * 64 + a * 1024 + b * 16384 + m * 262144:=by
 have j : ∀ (i x y : Nat),x < 2 ^ i → y % 2 ^ i = 0 → x ||| y = x + y:=fun i x y hx hy=>by rw [Nat.or_comm,nat_join i y x hy hx,Nat.add_comm]
 rw [j 6 o (d * 64) (by omega) (by omega),j 10 (o + d * 64) (a * 1024) (by omega) (by omega),j 14 _ (b * 16384) (by omega) (by omega),j 18 _ (m * 262144) (by omega) (by omega)]
theorem word_eq (o d a b : Nat) (n : Int) (ho : o < 64) (hd : d < 16) (ha : a < 16) (hb : b < 16) :
  bits BinOp.or IntKind.u32 (bits BinOp.or IntKind.u32 (bits BinOp.or IntKind.u32 (bits BinOp.or IntKind.u32 o ((d : Int) * 64)) ((a : Int) * 1024)) ((b : Int) * 16384)) (n % 4294967296 * 262144 % 4294967296) = wordI o d a b n:=by
 obtain ⟨m,hm⟩ : ∃ m : Nat,n % 16384 = m:=⟨(n % 16384).toNat,by omega⟩
 have hm2 : m < 16384:=by omega
 rw [show n % 4294967296 * 262144 % 4294967296 = ((m * 262144 : Nat) : Int) from by omega,show (d : Int) * 64 = ((d * 64 : Nat) : Int) from by simp,show (a : Int) * 1024 = ((a * 1024 : Nat) : Int) from by simp,show (b : Int) * 16384 = ((b * 16384 : Nat) : Int) from by simp]
 have l1 : o ||| d * 64 < 2 ^ 32:=Nat.or_lt_two_pow (by omega) (by omega)
 have l2 : (o ||| d * 64) ||| a * 1024 < 2 ^ 32:=Nat.or_lt_two_pow l1 (by omega)
 have l3 : ((o ||| d * 64) ||| a * 1024) ||| b * 16384 < 2 ^ 32:=Nat.or_lt_two_pow l2 (by omega)
 rw [u32_or_nat _ _ (by omega) (by omega),u32_or_nat _ _ (by omega) (by omega),u32_or_nat _ _ (by omega) (by omega),u32_or_nat _ _ (by omega) (by omega),nat_word o d a b m ho hd ha hb,wordI,hm]
 omega
theorem encode_any (op d a b n : Int) (w : World) (ht : Tab w) : Calls Tryz.prog 194 #[(.agg #[.int .i64 (op),.int .i64 (d),.int .i64 (a),.int .i64 (b),.int .i64 (n)])] w fun e w'=>e = .returned (.tuple #[.int .u32 (encW op d a b n),.int .i64 (encE op d a b n)]) ∧ Below w.heap.size w w':=by
 have HT:=Lib.hid (alloc_tab ht (.cells #[.int .i64 op,.int .i64 d,.int .i64 a,.int .i64 b,.int .i64 n] 145))
 clear ht
 cases hv : validB op d a b n
 ·have HE : Hid (encW op d a b n = 0 ∧ encE op d a b n = 6):=by simp [Hid,encW,encE,hv]
  go_enter Tryz.func194,Tryz.ntmps194
  go_wp2_with (go_at_call 176;refine (valid_any _ _ _ _ _ _ HT.out).mono ?_;rintro e w1 ⟨rfl,hb1⟩)
  go_ret2
  exact ⟨ret_two (by rw [HE.out.1]) (by rw [HE.out.2]),((Below.refl _ _).alloc (Nat.le_refl _) _).trans (hb1.mono (by simp))⟩
 ·have HE : Hid (encW op d a b n = wordI op d a b n ∧ encE op d a b n = 0):=by simp [Hid,encW,encE,hv]
  have hB:=validB_bounds hv
  go_enter Tryz.func194,Tryz.ntmps194
  go_wp2_with fail
  refine (valid_any _ _ _ _ _ _ HT.out).mono ?_;rintro e w1 ⟨rfl,hb1⟩
  have k0 : w1.cell? ⟨w.heap.size,0,none⟩ = some (.int .i64 op):=by rw [hb1.cell (by simp)];go_simp
  have k1 : w1.cell? ⟨w.heap.size,1,none⟩ = some (.int .i64 d):=by rw [hb1.cell (by simp)];go_simp
  have k2 : w1.cell? ⟨w.heap.size,2,none⟩ = some (.int .i64 a):=by rw [hb1.cell (by simp)];go_simp
  have k3 : w1.cell? ⟨w.heap.size,3,none⟩ = some (.int .i64 b):=by rw [hb1.cell (by simp)];go_simp
  have k4 : w1.cell? ⟨w.heap.size,4,none⟩ = some (.int .i64 n):=by rw [hb1.cell (by simp)];go_simp
  go_wp2_with fail
  go_ret2
  refine ⟨ret_two ?_ (by rw [HE.out.2]),((Below.refl _ _).alloc (Nat.le_refl _) _).trans (hb1.mono (by simp))⟩
  rw [HE.out.1]
  obtain ⟨⟨o1,o2⟩,⟨d1,d2⟩,⟨a1,a2⟩,⟨b1,b2⟩,⟨n1,n2⟩⟩:=hB
  obtain ⟨o,rfl⟩:=Int.eq_ofNat_of_zero_le (show 0 ≤ op by omega)
  obtain ⟨d',rfl⟩:=Int.eq_ofNat_of_zero_le d1
  obtain ⟨a',rfl⟩:=Int.eq_ofNat_of_zero_le a1
  obtain ⟨b',rfl⟩:=Int.eq_ofNat_of_zero_le b1
  exact word_eq o d' a' b' n (by omega) (by omega) (by omega) (by omega)
end
section
open Go.RowKit
def fl (o : Nat) (m : Int) : Bool:=bits BinOp.and IntKind.i64 (hasI o) m != 0
theorem fl_8 : ∀ o : Fin 42,fl o 8 = ((decide (14 ≤ o.val) && decide (o.val ≤ 33)) || o.val == 37 || o.val == 38):=by decide +kernel
theorem ret_4 {a b c d a' b' c' d' : Bool} (h1 : a = a') (h2 : b = b') (h3 : c = c') (h4 : d = d') : Ending.returned (.tuple #[.bool a,.bool b,.bool c,.bool d]) = .returned (.tuple #[.bool a',.bool b',.bool c',.bool d']):=by rw [h1,h2,h3,h4]
theorem has_1 (w : World) : Calls Tryz.prog 116 #[.int .i64 1] w fun e w'=>e = .returned (.tuple #[.bool true,.bool true,.bool true,.bool false]) ∧ w = w':=by
 go_enter Tryz.func116,Tryz.ntmps116
 go_wp2
 exact bodyPost_ret (v:=.tuple #[.bool true,.bool true,.bool true,.bool false]) (by simp [results,Tryz.results116,go_sem]) rfl ⟨rfl,rfl⟩
theorem has_2 (w : World) : Calls Tryz.prog 116 #[.int .i64 2] w fun e w'=>e = .returned (.tuple #[.bool true,.bool true,.bool true,.bool false]) ∧ w = w':=by
 go_enter Tryz.func116,Tryz.ntmps116
 go_wp2
 exact bodyPost_ret (v:=.tuple #[.bool true,.bool true,.bool true,.bool false]) (by simp [results,Tryz.results116,go_sem]) rfl ⟨rfl,rfl⟩
theorem has_3 (w : World) : Calls Tryz.prog 116 #[.int .i64 3] w fun e w'=>e = .returned (.tuple #[.bool true,.bool true,.bool true,.bool false]) ∧ w = w':=by
 go_enter Tryz.func116,Tryz.ntmps116
 go_wp2
 exact bodyPost_ret (v:=.tuple #[.bool true,.bool true,.bool true,.bool false]) (by simp [results,Tryz.results116,go_sem]) rfl ⟨rfl,rfl⟩
theorem has_4 (w : World) : Calls Tryz.prog 116 #[.int .i64 4] w fun e w'=>e = .returned (.tuple #[.bool true,.bool true,.bool true,.bool false]) ∧ w = w':=by
 go_enter Tryz.func116,Tryz.ntmps116
 go_wp2
 exact bodyPost_ret (v:=.tuple #[.bool true,.bool true,.bool true,.bool false]) (by simp [results,Tryz.results116,go_sem]) rfl ⟨rfl,rfl⟩
theorem has_5 (w : World) : Calls Tryz.prog 116 #[.int .i64 5] w fun e w'=>e = .returned (.tuple #[.bool true,.bool true,.bool true,.bool false]) ∧ w = w':=by
 go_enter Tryz.func116,Tryz.ntmps116
 go_wp2
 exact bodyPost_ret (v:=.tuple #[.bool true,.bool true,.bool true,.bool false]) (by simp [results,Tryz.results116,go_sem]) rfl ⟨rfl,rfl⟩
theorem has_6 (w : World) : Calls Tryz.prog 116 #[.int .i64 6] w fun e w'=>e = .returned (.tuple #[.bool true,.bool true,.bool true,.bool false]) ∧ w = w':=by
 go_enter Tryz.func116,Tryz.ntmps116
 go_wp2
 exact bodyPost_ret (v:=.tuple #[.bool true,.bool true,.bool true,.bool false]) (by simp [results,Tryz.results116,go_sem]) rfl ⟨rfl,rfl⟩
theorem has_7 (w : World) : Calls Tryz.prog 116 #[.int .i64 7] w fun e w'=>e = .returned (.tuple #[.bool true,.bool true,.bool true,.bool false]) ∧ w = w':=by
 go_enter Tryz.func116,Tryz.ntmps116
 go_wp2
 exact bodyPost_ret (v:=.tuple #[.bool true,.bool true,.bool true,.bool false]) (by simp [results,Tryz.results116,go_sem]) rfl ⟨rfl,rfl⟩
theorem has_8 (w : World) : Calls Tryz.prog 116 #[.int .i64 8] w fun e w'=>e = .returned (.tuple #[.bool true,.bool true,.bool true,.bool false]) ∧ w = w':=by
 go_enter Tryz.func116,Tryz.ntmps116
 go_wp2
 exact bodyPost_ret (v:=.tuple #[.bool true,.bool true,.bool true,.bool false]) (by simp [results,Tryz.results116,go_sem]) rfl ⟨rfl,rfl⟩
theorem has_9 (w : World) : Calls Tryz.prog 116 #[.int .i64 9] w fun e w'=>e = .returned (.tuple #[.bool true,.bool true,.bool true,.bool false]) ∧ w = w':=by
 go_enter Tryz.func116,Tryz.ntmps116
 go_wp2
 exact bodyPost_ret (v:=.tuple #[.bool true,.bool true,.bool true,.bool false]) (by simp [results,Tryz.results116,go_sem]) rfl ⟨rfl,rfl⟩
theorem has_10 (w : World) : Calls Tryz.prog 116 #[.int .i64 10] w fun e w'=>e = .returned (.tuple #[.bool true,.bool true,.bool true,.bool false]) ∧ w = w':=by
 go_enter Tryz.func116,Tryz.ntmps116
 go_wp2
 exact bodyPost_ret (v:=.tuple #[.bool true,.bool true,.bool true,.bool false]) (by simp [results,Tryz.results116,go_sem]) rfl ⟨rfl,rfl⟩
theorem has_11 (w : World) : Calls Tryz.prog 116 #[.int .i64 11] w fun e w'=>e = .returned (.tuple #[.bool true,.bool true,.bool true,.bool false]) ∧ w = w':=by
 go_enter Tryz.func116,Tryz.ntmps116
 go_wp2
 exact bodyPost_ret (v:=.tuple #[.bool true,.bool true,.bool true,.bool false]) (by simp [results,Tryz.results116,go_sem]) rfl ⟨rfl,rfl⟩
theorem has_12 (w : World) : Calls Tryz.prog 116 #[.int .i64 12] w fun e w'=>e = .returned (.tuple #[.bool true,.bool true,.bool true,.bool false]) ∧ w = w':=by
 go_enter Tryz.func116,Tryz.ntmps116
 go_wp2
 exact bodyPost_ret (v:=.tuple #[.bool true,.bool true,.bool true,.bool false]) (by simp [results,Tryz.results116,go_sem]) rfl ⟨rfl,rfl⟩
theorem has_13 (w : World) : Calls Tryz.prog 116 #[.int .i64 13] w fun e w'=>e = .returned (.tuple #[.bool true,.bool true,.bool true,.bool false]) ∧ w = w':=by
 go_enter Tryz.func116,Tryz.ntmps116
 go_wp2
 exact bodyPost_ret (v:=.tuple #[.bool true,.bool true,.bool true,.bool false]) (by simp [results,Tryz.results116,go_sem]) rfl ⟨rfl,rfl⟩
theorem has_14 (w : World) : Calls Tryz.prog 116 #[.int .i64 14] w fun e w'=>e = .returned (.tuple #[.bool true,.bool true,.bool false,.bool true]) ∧ w = w':=by
 go_enter Tryz.func116,Tryz.ntmps116
 go_wp2
 exact bodyPost_ret (v:=.tuple #[.bool true,.bool true,.bool false,.bool true]) (by simp [results,Tryz.results116,go_sem]) rfl ⟨rfl,rfl⟩
theorem has_15 (w : World) : Calls Tryz.prog 116 #[.int .i64 15] w fun e w'=>e = .returned (.tuple #[.bool true,.bool true,.bool false,.bool true]) ∧ w = w':=by
 go_enter Tryz.func116,Tryz.ntmps116
 go_wp2
 exact bodyPost_ret (v:=.tuple #[.bool true,.bool true,.bool false,.bool true]) (by simp [results,Tryz.results116,go_sem]) rfl ⟨rfl,rfl⟩
theorem has_16 (w : World) : Calls Tryz.prog 116 #[.int .i64 16] w fun e w'=>e = .returned (.tuple #[.bool true,.bool true,.bool false,.bool true]) ∧ w = w':=by
 go_enter Tryz.func116,Tryz.ntmps116
 go_wp2
 exact bodyPost_ret (v:=.tuple #[.bool true,.bool true,.bool false,.bool true]) (by simp [results,Tryz.results116,go_sem]) rfl ⟨rfl,rfl⟩
theorem has_17 (w : World) : Calls Tryz.prog 116 #[.int .i64 17] w fun e w'=>e = .returned (.tuple #[.bool true,.bool true,.bool false,.bool true]) ∧ w = w':=by
 go_enter Tryz.func116,Tryz.ntmps116
 go_wp2
 exact bodyPost_ret (v:=.tuple #[.bool true,.bool true,.bool false,.bool true]) (by simp [results,Tryz.results116,go_sem]) rfl ⟨rfl,rfl⟩
theorem has_18 (w : World) : Calls Tryz.prog 116 #[.int .i64 18] w fun e w'=>e = .returned (.tuple #[.bool true,.bool true,.bool false,.bool true]) ∧ w = w':=by
 go_enter Tryz.func116,Tryz.ntmps116
 go_wp2
 exact bodyPost_ret (v:=.tuple #[.bool true,.bool true,.bool false,.bool true]) (by simp [results,Tryz.results116,go_sem]) rfl ⟨rfl,rfl⟩
theorem has_19 (w : World) : Calls Tryz.prog 116 #[.int .i64 19] w fun e w'=>e = .returned (.tuple #[.bool true,.bool true,.bool false,.bool true]) ∧ w = w':=by
 go_enter Tryz.func116,Tryz.ntmps116
 go_wp2
 exact bodyPost_ret (v:=.tuple #[.bool true,.bool true,.bool false,.bool true]) (by simp [results,Tryz.results116,go_sem]) rfl ⟨rfl,rfl⟩
theorem has_20 (w : World) : Calls Tryz.prog 116 #[.int .i64 20] w fun e w'=>e = .returned (.tuple #[.bool true,.bool true,.bool false,.bool true]) ∧ w = w':=by
 go_enter Tryz.func116,Tryz.ntmps116
 go_wp2
 exact bodyPost_ret (v:=.tuple #[.bool true,.bool true,.bool false,.bool true]) (by simp [results,Tryz.results116,go_sem]) rfl ⟨rfl,rfl⟩
theorem has_21 (w : World) : Calls Tryz.prog 116 #[.int .i64 21] w fun e w'=>e = .returned (.tuple #[.bool true,.bool true,.bool false,.bool true]) ∧ w = w':=by
 go_enter Tryz.func116,Tryz.ntmps116
 go_wp2
 exact bodyPost_ret (v:=.tuple #[.bool true,.bool true,.bool false,.bool true]) (by simp [results,Tryz.results116,go_sem]) rfl ⟨rfl,rfl⟩
theorem has_22 (w : World) : Calls Tryz.prog 116 #[.int .i64 22] w fun e w'=>e = .returned (.tuple #[.bool true,.bool false,.bool false,.bool true]) ∧ w = w':=by
 go_enter Tryz.func116,Tryz.ntmps116
 go_wp2
 exact bodyPost_ret (v:=.tuple #[.bool true,.bool false,.bool false,.bool true]) (by simp [results,Tryz.results116,go_sem]) rfl ⟨rfl,rfl⟩
theorem has_23 (w : World) : Calls Tryz.prog 116 #[.int .i64 23] w fun e w'=>e = .returned (.tuple #[.bool true,.bool true,.bool false,.bool true]) ∧ w = w':=by
 go_enter Tryz.func116,Tryz.ntmps116
 go_wp2
 exact bodyPost_ret (v:=.tuple #[.bool true,.bool true,.bool false,.bool true]) (by simp [results,Tryz.results116,go_sem]) rfl ⟨rfl,rfl⟩
theorem has_24 (w : World) : Calls Tryz.prog 116 #[.int .i64 24] w fun e w'=>e = .returned (.tuple #[.bool true,.bool true,.bool false,.bool true]) ∧ w = w':=by
 go_enter Tryz.func116,Tryz.ntmps116
 go_wp2
 exact bodyPost_ret (v:=.tuple #[.bool true,.bool true,.bool false,.bool true]) (by simp [results,Tryz.results116,go_sem]) rfl ⟨rfl,rfl⟩
theorem has_25 (w : World) : Calls Tryz.prog 116 #[.int .i64 25] w fun e w'=>e = .returned (.tuple #[.bool true,.bool true,.bool false,.bool true]) ∧ w = w':=by
 go_enter Tryz.func116,Tryz.ntmps116
 go_wp2
 exact bodyPost_ret (v:=.tuple #[.bool true,.bool true,.bool false,.bool true]) (by simp [results,Tryz.results116,go_sem]) rfl ⟨rfl,rfl⟩
theorem has_26 (w : World) : Calls Tryz.prog 116 #[.int .i64 26] w fun e w'=>e = .returned (.tuple #[.bool false,.bool true,.bool true,.bool true]) ∧ w = w':=by
 go_enter Tryz.func116,Tryz.ntmps116
 go_wp2
 exact bodyPost_ret (v:=.tuple #[.bool false,.bool true,.bool true,.bool true]) (by simp [results,Tryz.results116,go_sem]) rfl ⟨rfl,rfl⟩
theorem has_27 (w : World) : Calls Tryz.prog 116 #[.int .i64 27] w fun e w'=>e = .returned (.tuple #[.bool false,.bool true,.bool true,.bool true]) ∧ w = w':=by
 go_enter Tryz.func116,Tryz.ntmps116
 go_wp2
 exact bodyPost_ret (v:=.tuple #[.bool false,.bool true,.bool true,.bool true]) (by simp [results,Tryz.results116,go_sem]) rfl ⟨rfl,rfl⟩
theorem has_28 (w : World) : Calls Tryz.prog 116 #[.int .i64 28] w fun e w'=>e = .returned (.tuple #[.bool false,.bool true,.bool true,.bool true]) ∧ w = w':=by
 go_enter Tryz.func116,Tryz.ntmps116
 go_wp2
 exact bodyPost_ret (v:=.tuple #[.bool false,.bool true,.bool true,.bool true]) (by simp [results,Tryz.results116,go_sem]) rfl ⟨rfl,rfl⟩
theorem has_29 (w : World) : Calls Tryz.prog 116 #[.int .i64 29] w fun e w'=>e = .returned (.tuple #[.bool false,.bool true,.bool true,.bool true]) ∧ w = w':=by
 go_enter Tryz.func116,Tryz.ntmps116
 go_wp2
 exact bodyPost_ret (v:=.tuple #[.bool false,.bool true,.bool true,.bool true]) (by simp [results,Tryz.results116,go_sem]) rfl ⟨rfl,rfl⟩
theorem has_30 (w : World) : Calls Tryz.prog 116 #[.int .i64 30] w fun e w'=>e = .returned (.tuple #[.bool false,.bool true,.bool true,.bool true]) ∧ w = w':=by
 go_enter Tryz.func116,Tryz.ntmps116
 go_wp2
 exact bodyPost_ret (v:=.tuple #[.bool false,.bool true,.bool true,.bool true]) (by simp [results,Tryz.results116,go_sem]) rfl ⟨rfl,rfl⟩
theorem has_31 (w : World) : Calls Tryz.prog 116 #[.int .i64 31] w fun e w'=>e = .returned (.tuple #[.bool false,.bool true,.bool true,.bool true]) ∧ w = w':=by
 go_enter Tryz.func116,Tryz.ntmps116
 go_wp2
 exact bodyPost_ret (v:=.tuple #[.bool false,.bool true,.bool true,.bool true]) (by simp [results,Tryz.results116,go_sem]) rfl ⟨rfl,rfl⟩
theorem has_32 (w : World) : Calls Tryz.prog 116 #[.int .i64 32] w fun e w'=>e = .returned (.tuple #[.bool true,.bool false,.bool false,.bool true]) ∧ w = w':=by
 go_enter Tryz.func116,Tryz.ntmps116
 go_wp2
 exact bodyPost_ret (v:=.tuple #[.bool true,.bool false,.bool false,.bool true]) (by simp [results,Tryz.results116,go_sem]) rfl ⟨rfl,rfl⟩
theorem has_33 (w : World) : Calls Tryz.prog 116 #[.int .i64 33] w fun e w'=>e = .returned (.tuple #[.bool true,.bool true,.bool false,.bool true]) ∧ w = w':=by
 go_enter Tryz.func116,Tryz.ntmps116
 go_wp2
 exact bodyPost_ret (v:=.tuple #[.bool true,.bool true,.bool false,.bool true]) (by simp [results,Tryz.results116,go_sem]) rfl ⟨rfl,rfl⟩
theorem has_34 (w : World) : Calls Tryz.prog 116 #[.int .i64 34] w fun e w'=>e = .returned (.tuple #[.bool false,.bool false,.bool false,.bool false]) ∧ w = w':=by
 go_enter Tryz.func116,Tryz.ntmps116
 go_wp2
 exact bodyPost_ret (v:=.tuple #[.bool false,.bool false,.bool false,.bool false]) (by simp [results,Tryz.results116,go_sem]) rfl ⟨rfl,rfl⟩
theorem has_35 (w : World) : Calls Tryz.prog 116 #[.int .i64 35] w fun e w'=>e = .returned (.tuple #[.bool false,.bool false,.bool false,.bool false]) ∧ w = w':=by
 go_enter Tryz.func116,Tryz.ntmps116
 go_wp2
 exact bodyPost_ret (v:=.tuple #[.bool false,.bool false,.bool false,.bool false]) (by simp [results,Tryz.results116,go_sem]) rfl ⟨rfl,rfl⟩
theorem has_36 (w : World) : Calls Tryz.prog 116 #[.int .i64 36] w fun e w'=>e = .returned (.tuple #[.bool false,.bool false,.bool false,.bool false]) ∧ w = w':=by
 go_enter Tryz.func116,Tryz.ntmps116
 go_wp2
 exact bodyPost_ret (v:=.tuple #[.bool false,.bool false,.bool false,.bool false]) (by simp [results,Tryz.results116,go_sem]) rfl ⟨rfl,rfl⟩
theorem has_37 (w : World) : Calls Tryz.prog 116 #[.int .i64 37] w fun e w'=>e = .returned (.tuple #[.bool true,.bool false,.bool false,.bool true]) ∧ w = w':=by
 go_enter Tryz.func116,Tryz.ntmps116
 go_wp2
 exact bodyPost_ret (v:=.tuple #[.bool true,.bool false,.bool false,.bool true]) (by simp [results,Tryz.results116,go_sem]) rfl ⟨rfl,rfl⟩
theorem has_38 (w : World) : Calls Tryz.prog 116 #[.int .i64 38] w fun e w'=>e = .returned (.tuple #[.bool false,.bool true,.bool false,.bool true]) ∧ w = w':=by
 go_enter Tryz.func116,Tryz.ntmps116
 go_wp2
 exact bodyPost_ret (v:=.tuple #[.bool false,.bool true,.bool false,.bool true]) (by simp [results,Tryz.results116,go_sem]) rfl ⟨rfl,rfl⟩
theorem has_39 (w : World) : Calls Tryz.prog 116 #[.int .i64 39] w fun e w'=>e = .returned (.tuple #[.bool false,.bool false,.bool false,.bool false]) ∧ w = w':=by
 go_enter Tryz.func116,Tryz.ntmps116
 go_wp2
 exact bodyPost_ret (v:=.tuple #[.bool false,.bool false,.bool false,.bool false]) (by simp [results,Tryz.results116,go_sem]) rfl ⟨rfl,rfl⟩
theorem has_40 (w : World) : Calls Tryz.prog 116 #[.int .i64 40] w fun e w'=>e = .returned (.tuple #[.bool false,.bool false,.bool false,.bool false]) ∧ w = w':=by
 go_enter Tryz.func116,Tryz.ntmps116
 go_wp2
 exact bodyPost_ret (v:=.tuple #[.bool false,.bool false,.bool false,.bool false]) (by simp [results,Tryz.results116,go_sem]) rfl ⟨rfl,rfl⟩
theorem has_41 (w : World) : Calls Tryz.prog 116 #[.int .i64 41] w fun e w'=>e = .returned (.tuple #[.bool false,.bool false,.bool false,.bool false]) ∧ w = w':=by
 go_enter Tryz.func116,Tryz.ntmps116
 go_wp2
 exact bodyPost_ret (v:=.tuple #[.bool false,.bool false,.bool false,.bool false]) (by simp [results,Tryz.results116,go_sem]) rfl ⟨rfl,rfl⟩
theorem has_any (o : Nat) (h1 : 1 ≤ o) (h2 : o < 42) (w : World) : Calls Tryz.prog 116 #[.int .i64 o] w fun e w'=>e = .returned (.tuple #[.bool (fl o 1),.bool (fl o 2),.bool (fl o 4),.bool (fl o 8)]) ∧ w = w':=by
 rcases (by omega : o = 1 ∨ o = 2 ∨ o = 3 ∨ o = 4 ∨ o = 5 ∨ o = 6 ∨ o = 7 ∨ o = 8 ∨ o = 9 ∨ o = 10 ∨ o = 11 ∨ o = 12 ∨ o = 13 ∨ o = 14 ∨ o = 15 ∨ o = 16 ∨ o = 17 ∨ o = 18 ∨ o = 19 ∨ o = 20 ∨ o = 21 ∨ o = 22 ∨ o = 23 ∨ o = 24 ∨ o = 25 ∨ o = 26 ∨ o = 27 ∨ o = 28 ∨ o = 29 ∨ o = 30 ∨ o = 31 ∨ o = 32 ∨ o = 33 ∨ o = 34 ∨ o = 35 ∨ o = 36 ∨ o = 37 ∨ o = 38 ∨ o = 39 ∨ o = 40 ∨ o = 41) with rfl | rfl | rfl | rfl | rfl | rfl | rfl | rfl | rfl | rfl | rfl | rfl | rfl | rfl | rfl | rfl | rfl | rfl | rfl | rfl | rfl | rfl | rfl | rfl | rfl | rfl | rfl | rfl | rfl | rfl | rfl | rfl | rfl | rfl | rfl | rfl | rfl | rfl | rfl | rfl | rfl
 ·exact (has_1 w).mono fun e w' h=>⟨h.1.trans (ret_4 (by decide +kernel) (by decide +kernel) (by decide +kernel) (by decide +kernel)),h.2⟩
 ·exact (has_2 w).mono fun e w' h=>⟨h.1.trans (ret_4 (by decide +kernel) (by decide +kernel) (by decide +kernel) (by decide +kernel)),h.2⟩
 ·exact (has_3 w).mono fun e w' h=>⟨h.1.trans (ret_4 (by decide +kernel) (by decide +kernel) (by decide +kernel) (by decide +kernel)),h.2⟩
 ·exact (has_4 w).mono fun e w' h=>⟨h.1.trans (ret_4 (by decide +kernel) (by decide +kernel) (by decide +kernel) (by decide +kernel)),h.2⟩
 ·exact (has_5 w).mono fun e w' h=>⟨h.1.trans (ret_4 (by decide +kernel) (by decide +kernel) (by decide +kernel) (by decide +kernel)),h.2⟩
 ·exact (has_6 w).mono fun e w' h=>⟨h.1.trans (ret_4 (by decide +kernel) (by decide +kernel) (by decide +kernel) (by decide +kernel)),h.2⟩
 ·exact (has_7 w).mono fun e w' h=>⟨h.1.trans (ret_4 (by decide +kernel) (by decide +kernel) (by decide +kernel) (by decide +kernel)),h.2⟩
 ·exact (has_8 w).mono fun e w' h=>⟨h.1.trans (ret_4 (by decide +kernel) (by decide +kernel) (by decide +kernel) (by decide +kernel)),h.2⟩
 ·exact (has_9 w).mono fun e w' h=>⟨h.1.trans (ret_4 (by decide +kernel) (by decide +kernel) (by decide +kernel) (by decide +kernel)),h.2⟩
 ·exact (has_10 w).mono fun e w' h=>⟨h.1.trans (ret_4 (by decide +kernel) (by decide +kernel) (by decide +kernel) (by decide +kernel)),h.2⟩
 ·exact (has_11 w).mono fun e w' h=>⟨h.1.trans (ret_4 (by decide +kernel) (by decide +kernel) (by decide +kernel) (by decide +kernel)),h.2⟩
 ·exact (has_12 w).mono fun e w' h=>⟨h.1.trans (ret_4 (by decide +kernel) (by decide +kernel) (by decide +kernel) (by decide +kernel)),h.2⟩
 ·exact (has_13 w).mono fun e w' h=>⟨h.1.trans (ret_4 (by decide +kernel) (by decide +kernel) (by decide +kernel) (by decide +kernel)),h.2⟩
 ·exact (has_14 w).mono fun e w' h=>⟨h.1.trans (ret_4 (by decide +kernel) (by decide +kernel) (by decide +kernel) (by decide +kernel)),h.2⟩
 ·exact (has_15 w).mono fun e w' h=>⟨h.1.trans (ret_4 (by decide +kernel) (by decide +kernel) (by decide +kernel) (by decide +kernel)),h.2⟩
 ·exact (has_16 w).mono fun e w' h=>⟨h.1.trans (ret_4 (by decide +kernel) (by decide +kernel) (by decide +kernel) (by decide +kernel)),h.2⟩
 ·exact (has_17 w).mono fun e w' h=>⟨h.1.trans (ret_4 (by decide +kernel) (by decide +kernel) (by decide +kernel) (by decide +kernel)),h.2⟩
 ·exact (has_18 w).mono fun e w' h=>⟨h.1.trans (ret_4 (by decide +kernel) (by decide +kernel) (by decide +kernel) (by decide +kernel)),h.2⟩
 ·exact (has_19 w).mono fun e w' h=>⟨h.1.trans (ret_4 (by decide +kernel) (by decide +kernel) (by decide +kernel) (by decide +kernel)),h.2⟩
 ·exact (has_20 w).mono fun e w' h=>⟨h.1.trans (ret_4 (by decide +kernel) (by decide +kernel) (by decide +kernel) (by decide +kernel)),h.2⟩
 ·exact (has_21 w).mono fun e w' h=>⟨h.1.trans (ret_4 (by decide +kernel) (by decide +kernel) (by decide +kernel) (by decide +kernel)),h.2⟩
 ·exact (has_22 w).mono fun e w' h=>⟨h.1.trans (ret_4 (by decide +kernel) (by decide +kernel) (by decide +kernel) (by decide +kernel)),h.2⟩
 ·exact (has_23 w).mono fun e w' h=>⟨h.1.trans (ret_4 (by decide +kernel) (by decide +kernel) (by decide +kernel) (by decide +kernel)),h.2⟩
 ·exact (has_24 w).mono fun e w' h=>⟨h.1.trans (ret_4 (by decide +kernel) (by decide +kernel) (by decide +kernel) (by decide +kernel)),h.2⟩
 ·exact (has_25 w).mono fun e w' h=>⟨h.1.trans (ret_4 (by decide +kernel) (by decide +kernel) (by decide +kernel) (by decide +kernel)),h.2⟩
 ·exact (has_26 w).mono fun e w' h=>⟨h.1.trans (ret_4 (by decide +kernel) (by decide +kernel) (by decide +kernel) (by decide +kernel)),h.2⟩
 ·exact (has_27 w).mono fun e w' h=>⟨h.1.trans (ret_4 (by decide +kernel) (by decide +kernel) (by decide +kernel) (by decide +kernel)),h.2⟩
 ·exact (has_28 w).mono fun e w' h=>⟨h.1.trans (ret_4 (by decide +kernel) (by decide +kernel) (by decide +kernel) (by decide +kernel)),h.2⟩
 ·exact (has_29 w).mono fun e w' h=>⟨h.1.trans (ret_4 (by decide +kernel) (by decide +kernel) (by decide +kernel) (by decide +kernel)),h.2⟩
 ·exact (has_30 w).mono fun e w' h=>⟨h.1.trans (ret_4 (by decide +kernel) (by decide +kernel) (by decide +kernel) (by decide +kernel)),h.2⟩
 ·exact (has_31 w).mono fun e w' h=>⟨h.1.trans (ret_4 (by decide +kernel) (by decide +kernel) (by decide +kernel) (by decide +kernel)),h.2⟩
 ·exact (has_32 w).mono fun e w' h=>⟨h.1.trans (ret_4 (by decide +kernel) (by decide +kernel) (by decide +kernel) (by decide +kernel)),h.2⟩
 ·exact (has_33 w).mono fun e w' h=>⟨h.1.trans (ret_4 (by decide +kernel) (by decide +kernel) (by decide +kernel) (by decide +kernel)),h.2⟩
 ·exact (has_34 w).mono fun e w' h=>⟨h.1.trans (ret_4 (by decide +kernel) (by decide +kernel) (by decide +kernel) (by decide +kernel)),h.2⟩
 ·exact (has_35 w).mono fun e w' h=>⟨h.1.trans (ret_4 (by decide +kernel) (by decide +kernel) (by decide +kernel) (by decide +kernel)),h.2⟩
 ·exact (has_36 w).mono fun e w' h=>⟨h.1.trans (ret_4 (by decide +kernel) (by decide +kernel) (by decide +kernel) (by decide +kernel)),h.2⟩
 ·exact (has_37 w).mono fun e w' h=>⟨h.1.trans (ret_4 (by decide +kernel) (by decide +kernel) (by decide +kernel) (by decide +kernel)),h.2⟩
 ·exact (has_38 w).mono fun e w' h=>⟨h.1.trans (ret_4 (by decide +kernel) (by decide +kernel) (by decide +kernel) (by decide +kernel)),h.2⟩
 ·exact (has_39 w).mono fun e w' h=>⟨h.1.trans (ret_4 (by decide +kernel) (by decide +kernel) (by decide +kernel) (by decide +kernel)),h.2⟩
 ·exact (has_40 w).mono fun e w' h=>⟨h.1.trans (ret_4 (by decide +kernel) (by decide +kernel) (by decide +kernel) (by decide +kernel)),h.2⟩
 ·exact (has_41 w).mono fun e w' h=>⟨h.1.trans (ret_4 (by decide +kernel) (by decide +kernel) (by decide +kernel) (by decide +kernel)),h.2⟩
theorem reg_any (may : Bool) (n : Int) (w : World) : Calls Tryz.prog 162 #[.bool may,.int .i64 n] w fun e w'=>e = .returned (.bool (regB may n)) ∧ w = w':=by
 by_cases h0 : n = 0
 ·subst h0
  go_enter Tryz.func162,Tryz.ntmps162
  go_wp2
  go_ret
  exact ⟨ret_bool (by cases may <;> simp [regB]),rfl⟩
 ·have g0 : (n == 0) = false:=by simpa using h0
  cases may
  ·go_enter Tryz.func162,Tryz.ntmps162
   go_wp2
   go_ret
   exact ⟨ret_bool (by simp [regB,h0]),rfl⟩
  ·by_cases h1 : 0 < n
   ·have g1 : decide (0 < n) = true:=by simpa using h1
    go_enter Tryz.func162,Tryz.ntmps162
    go_wp2
    go_ret
    exact ⟨ret_bool (by rw [Bool.eq_iff_iff];simp [regB];omega),rfl⟩
   ·have g1 : decide (0 < n) = false:=by simpa using h1
    go_enter Tryz.func162,Tryz.ntmps162
    go_wp2
    go_ret
    exact ⟨ret_bool (by rw [Bool.eq_iff_iff];simp [regB];omega),rfl⟩
set_option maxHeartbeats 4000000 in
theorem Valid_ref (op d a b n : Int) (w : World) : Calls Tryz.prog 115 #[(.agg #[.int .i64 (op),.int .i64 (d),.int .i64 (a),.int .i64 (b),.int .i64 (n)])] w fun e w'=>e = .returned (.bool (validB op d a b n)) ∧ Below w.heap.size w w':=by
 cases hr : realB op
 ·have hE : validB op d a b n = false:=by simp [validB,hr]
  have HE:=Lib.hid hE;clear hE
  by_cases h1 : op < 1
  ·go_enter Tryz.func115,Tryz.ntmps115
   go_wp2
   go_ret
   exact ⟨ret_bool (by rw [HE.out]),(Below.refl _ _).alloc (Nat.le_refl _) _⟩
  ·have h2 : 41 < op:=by simp [realB] at hr;omega
   go_enter Tryz.func115,Tryz.ntmps115
   go_wp2
   go_ret
   exact ⟨ret_bool (by rw [HE.out]),(Below.refl _ _).alloc (Nat.le_refl _) _⟩
 ·obtain ⟨o,rfl⟩ : ∃ o : Nat,op = o:=⟨op.toNat,by simp [realB] at hr;omega⟩
  have ho : 1 ≤ o ∧ o < 42:=by simp [realB] at hr;omega
  obtain ⟨o1,o2⟩:=ho
  have HE : Hid (validB o d a b n = (regB (fl o 1) d && (regB (fl o 2) a && (regB (fl o 4) b && immB o n)))):=by simp [Hid,validB,hr,fl]
  have HI : Hid (immB o n = if o = 18 ∨ o = 19 ∨ o = 20 then decide (0 ≤ n) && decide (n ≤ 31) else if o = 37 ∨ o = 38 then decide (0 ≤ n) && decide (n < 9) else if fl o 8 then decide (-8192 ≤ n) && decide (n ≤ 8191) else n == 0):=by
   rw [Hid,immB]
   have : (bits BinOp.and IntKind.i64 (hasI o) 8 == 0) = !fl o 8:=by simp [fl,bne]
   rw [this]
   cases fl o 8 <;> rfl
  have H8:=Lib.hid (fl_8 ⟨o,o2⟩)
  clear hr
  cases h1 : regB (fl o 1) d
  ·go_enter Tryz.func115,Tryz.ntmps115
   go_wp2_with (first | (go_at_call 116;refine (has_any o (by omega) (by omega) _).mono ?_;rintro e w' ⟨rfl,rfl⟩) | (go_at_call 162;refine (reg_any _ _ _).mono ?_;rintro e w' ⟨rfl,rfl⟩))
   go_ret
   exact ⟨ret_bool (by rw [HE.out,h1];rfl),(Below.refl _ _).alloc (Nat.le_refl _) _⟩
  ·cases h2 : regB (fl o 2) a
   ·go_enter Tryz.func115,Tryz.ntmps115
    go_wp2_with (first | (go_at_call 116;refine (has_any o (by omega) (by omega) _).mono ?_;rintro e w' ⟨rfl,rfl⟩) | (go_at_call 162;refine (reg_any _ _ _).mono ?_;rintro e w' ⟨rfl,rfl⟩))
    go_ret
    exact ⟨ret_bool (by rw [HE.out,h1,h2];rfl),(Below.refl _ _).alloc (Nat.le_refl _) _⟩
   ·cases h3 : regB (fl o 4) b
    ·go_enter Tryz.func115,Tryz.ntmps115
     go_wp2_with (first | (go_at_call 116;refine (has_any o (by omega) (by omega) _).mono ?_;rintro e w' ⟨rfl,rfl⟩) | (go_at_call 162;refine (reg_any _ _ _).mono ?_;rintro e w' ⟨rfl,rfl⟩))
     go_ret
     exact ⟨ret_bool (by rw [HE.out,h1,h2,h3];rfl),(Below.refl _ _).alloc (Nat.le_refl _) _⟩
    ·have HV : Hid (validB o d a b n = immB o n):=by rw [Hid,HE.out,h1,h2,h3];rfl
     clear HE
     cases h8 : fl o 8
     ·have hs : ¬ (o = 18 ∨ o = 19 ∨ o = 20) ∧ ¬ (o = 37 ∨ o = 38):=by
       have:=H8.out
       simp only at this
       rw [h8] at this
       simp at this
       omega
      have g1 : ((o : Int) == 18) = false:=by simp;omega
      have g2 : ((o : Int) == 19) = false:=by simp;omega
      have g3 : ((o : Int) == 20) = false:=by simp;omega
      have g4 : ((o : Int) == 37) = false:=by simp;omega
      have g5 : ((o : Int) == 38) = false:=by simp;omega
      have HN : Hid (immB o n = (n == 0)):=by rw [Hid,HI.out,if_neg hs.1,if_neg hs.2,h8];rfl
      clear hs
      by_cases hn : n = 0
      ·subst hn
       go_enter Tryz.func115,Tryz.ntmps115
       go_wp2_with (first | (go_at_call 116;refine (has_any o (by omega) (by omega) _).mono ?_;rintro e w' ⟨rfl,rfl⟩) | (go_at_call 162;refine (reg_any _ _ _).mono ?_;rintro e w' ⟨rfl,rfl⟩))
       go_ret
       exact ⟨ret_bool (by rw [HV.out,HN.out];rfl),(Below.refl _ _).alloc (Nat.le_refl _) _⟩
      ·have hn2 : (n != 0) = true:=by simpa using hn
       go_enter Tryz.func115,Tryz.ntmps115
       go_wp2_with (first | (go_at_call 116;refine (has_any o (by omega) (by omega) _).mono ?_;rintro e w' ⟨rfl,rfl⟩) | (go_at_call 162;refine (reg_any _ _ _).mono ?_;rintro e w' ⟨rfl,rfl⟩))
       go_ret
       exact ⟨ret_bool (by rw [HV.out,HN.out];simpa using hn),(Below.refl _ _).alloc (Nat.le_refl _) _⟩
     ·by_cases hs : o = 18 ∨ o = 19 ∨ o = 20
      ·have HN : Hid (immB o n = (decide (0 ≤ n) && decide (n ≤ 31))):=by rw [Hid,HI.out,if_pos hs]
       by_cases hn : 0 ≤ n
       all_goals
        have hn2 : decide (0 ≤ n) = _:=(by first | exact decide_eq_true hn | exact decide_eq_false hn)
        rcases hs with rfl | rfl | rfl
        all_goals
         go_enter Tryz.func115,Tryz.ntmps115
         go_wp2_with (first | (go_at_call 116;refine (has_any _ (by omega) (by omega) _).mono ?_;rintro e w' ⟨rfl,rfl⟩) | (go_at_call 162;refine (reg_any _ _ _).mono ?_;rintro e w' ⟨rfl,rfl⟩))
         go_ret
         exact ⟨ret_bool (by rw [HV.out,HN.out,hn2];rfl),(Below.refl _ _).alloc (Nat.le_refl _) _⟩
      ·by_cases ht : o = 37 ∨ o = 38
       ·have HN : Hid (immB o n = (decide (0 ≤ n) && decide (n < 9))):=by rw [Hid,HI.out,if_neg hs,if_pos ht]
        by_cases hn : 0 ≤ n
        all_goals
         have hn2 : decide (0 ≤ n) = _:=(by first | exact decide_eq_true hn | exact decide_eq_false hn)
         rcases ht with rfl | rfl
         all_goals
          go_enter Tryz.func115,Tryz.ntmps115
          go_wp2_with (first | (go_at_call 116;refine (has_any _ (by omega) (by omega) _).mono ?_;rintro e w' ⟨rfl,rfl⟩) | (go_at_call 162;refine (reg_any _ _ _).mono ?_;rintro e w' ⟨rfl,rfl⟩))
          go_ret
          exact ⟨ret_bool (by rw [HV.out,HN.out,hn2];rfl),(Below.refl _ _).alloc (Nat.le_refl _) _⟩
       ·have HN : Hid (immB o n = (decide (-8192 ≤ n) && decide (n ≤ 8191))):=by rw [Hid,HI.out,if_neg hs,if_neg ht,h8];rfl
        have g1 : ((o : Int) == 18) = false:=by simp;omega
        have g2 : ((o : Int) == 19) = false:=by simp;omega
        have g3 : ((o : Int) == 20) = false:=by simp;omega
        have g4 : ((o : Int) == 37) = false:=by simp;omega
        have g5 : ((o : Int) == 38) = false:=by simp;omega
        clear hs ht
        by_cases hn : -8192 ≤ n
        all_goals
         have hn2 : decide (-8192 ≤ n) = _:=(by first | exact decide_eq_true hn | exact decide_eq_false hn)
         go_enter Tryz.func115,Tryz.ntmps115
         go_wp2_with (first | (go_at_call 116;refine (has_any o (by omega) (by omega) _).mono ?_;rintro e w' ⟨rfl,rfl⟩) | (go_at_call 162;refine (reg_any _ _ _).mono ?_;rintro e w' ⟨rfl,rfl⟩))
         go_ret
         exact ⟨ret_bool (by rw [HV.out,HN.out,hn2];rfl),(Below.refl _ _).alloc (Nat.le_refl _) _⟩
end
section
open Go.RowKit
theorem Encode_ref (op d a b n : Int) (w : World) : Calls Tryz.prog 153 #[(.agg #[.int .i64 (op),.int .i64 (d),.int .i64 (a),.int .i64 (b),.int .i64 (n)])] w fun e w'=>e = .returned (.tuple #[.int .u32 (encW op d a b n),.int .i64 (encE op d a b n)]) ∧ Below w.heap.size w w':=by
 cases hv : validB op d a b n
 ·have HE : Hid (encW op d a b n = 0 ∧ encE op d a b n = 6):=by simp [Hid,encW,encE,hv]
  go_enter Tryz.func153,Tryz.ntmps153
  go_wp2_with (go_at_call 115;refine (Valid_ref _ _ _ _ _ _).mono ?_;rintro e w1 ⟨rfl,hb1⟩)
  go_ret2
  exact ⟨ret_two (by rw [HE.out.1]) (by rw [HE.out.2]),((Below.refl _ _).alloc (Nat.le_refl _) _).trans (hb1.mono (by simp))⟩
 ·have HE : Hid (encW op d a b n = wordI op d a b n ∧ encE op d a b n = 0):=by simp [Hid,encW,encE,hv]
  have hB:=validB_bounds hv
  go_enter Tryz.func153,Tryz.ntmps153
  go_wp2_with fail
  refine (Valid_ref _ _ _ _ _ _).mono ?_;rintro e w1 ⟨rfl,hb1⟩
  have hk:=keepB hb1 (by simp) (new_block w _ _ rfl)
  have k0:=cell_at hk 0 _ rfl;have k1:=cell_at hk 1 _ rfl;have k2:=cell_at hk 2 _ rfl;have k3:=cell_at hk 3 _ rfl;have k4:=cell_at hk 4 _ rfl
  clear hk
  go_wp2_with fail
  go_ret2
  refine ⟨ret_two ?_ (by rw [HE.out.2]),((Below.refl _ _).alloc (Nat.le_refl _) _).trans (hb1.mono (by simp))⟩
  rw [HE.out.1,wordI]
  omega
end
section
open Go.RowKit
end
end Isa
end Go.Proofs.YtoklonmiejdgmaaGreatDoor
/- Package asm: names of operations. -/
namespace Go.Proofs.YtoklonmiejdgmaaGreatDoor.As
set_option linter.unusedVariables false
set_option linter.unusedSimpArgs false
set_option linter.unnecessarySimpa false
open Go.RowKit Go.Sort
set_option maxHeartbeats 2000000
set_option maxRecDepth 100000
set_option linter.unusedVariables false
def opNames : List (List UInt8):=[[],[97,100,100],[115,117,98],[97,110,100],[111,114],[120,111,114],[115,104,108],[115,104,114],[115,97,114],[115,108,116],[115,108,116,117],[109,117,108],[100,105,118,117],[114,101,109,117],[97,100,100,105],[97,110,100,105],[111,114,105],[120,111,114,105],[115,104,108,105],[115,104,114,105],[115,97,114,105],[115,108,116,105],[108,117,105],[108,119],[108,98],[108,98,117],[115,119],[115,98],[98,101,113],[98,110,101],[98,108,116],[98,108,116,117],[106,97,108],[106,97,108,114],[99,97,108,108],[104,99,97,108,108],[114,101,116],[99,115,114,114],[99,115,114,119],[105,110,118],[104,97,108,116],[98,114,107]]
def opName (o : Nat) : List UInt8:=opNames.getD o []
def allL : List UInt8:=([97,100,100,32,115,117,98,32,97,110,100,32,111,114,32,120,111,114,32,115,104,108,32,115,104,114,32,115,97,114,32,115,108,116,32,115,108,116,117,32,109,117,108,32].append [100,105,118,117,32,114,101,109,117,32,97,100,100,105,32,97,110,100,105,32,111,114,105,32,120,111,114,105,32,115,104,108,105,32,115,104,114,105,32,115,97,114,105,32]).append ([115,108,116,105,32,108,117,105,32,108,119,32,108,98,32,108,98,117,32,115,119,32,115,98,32,98,101,113,32,98,110,101,32,98,108,116,32,98,108,116,117,32,106,97].append [108,32,106,97,108,114,32,99,97,108,108,32,104,99,97,108,108,32,114,101,116,32,99,115,114,114,32,99,115,114,119,32,105,110,118,32,104,97,108,116,32,98,114,107])
def nameGo (op : Nat) : List UInt8 → Nat → Nat → Nat → Nat × Option Nat
 | [],_,f,_=>(f,none)
 | b :: l,p,f,k=>if b ≠ 32 then nameGo op l (p + 1) f k else if k = op then (f,some p) else nameGo op l (p + 1) (p + 1) (k + 1)
def nameCut (r : Nat × Option Nat) : List UInt8:=match r with
 | (f,some t)=>(allL.drop f).take (t - f)
 | (f,none)=>allL.drop f
theorem name_all : ∀ o : Fin 42,1 ≤ o.val → nameCut (nameGo o.val allL 0 0 1) = opName o.val:=by decide +kernel
theorem all_ascii : ∀ i : Fin 176,(allL.getD i.val 0).toNat < 128:=by decide +kernel
theorem ba_extract (s : ByteArray) (a b : Nat) : s.extract a b = ba ((s.data.toList.drop a).take (b - a)):=by
 apply ByteArray.ext
 show (s.extract a b).data = ((s.data.toList.drop a).take (b - a)).toArray
 apply Array.toList_inj.1
 simp [ByteArray.data_extract,Array.toList_extract,List.extract_eq_take_drop]
theorem name_any (o : Nat) (h1 : 1 ≤ o) (h2 : o < 42) (w : World) : Calls Tryz.prog 177 #[.int .i64 o] w fun e w'=>e = .returned (.string (ba (opName o))) ∧ Below w.heap.size w w':=by
 go_enter Tryz.func177,Tryz.ntmps177
 generalize hal : (⟨(([97,100,100,32,115,117,98,32,97,110,100,32,111,114,32,120,111,114,32,115,104,108,32,115,104,114,32,115,97,114,32,115,108,116,32,115,108,116,117,32,109,117,108,32].append [100,105,118,117,32,114,101,109,117,32,97,100,100,105,32,97,110,100,105,32,111,114,105,32,120,111,114,105,32,115,104,108,105,32,115,104,114,105,32,115,97,114,105,32]).append ([115,108,116,105,32,108,117,105,32,108,119,32,108,98,32,108,98,117,32,115,119,32,115,98,32,98,101,113,32,98,110,101,32,98,108,116,32,98,108,116,117,32,106,97].append [108,32,106,97,108,114,32,99,97,108,108,32,104,99,97,108,108,32,114,101,116,32,99,115,114,114,32,99,115,114,119,32,105,110,118,32,104,97,108,116,32,98,114,107])).toArray⟩ : ByteArray) = al
 have hAL : al.data.toList = allL:=by rw [← hal];rfl
 have hsz : al.size = 176:=by rw [← ba_len,hAL];decide +kernel
 have HAL:=Lib.hid hAL
 have hbyte : ∀ (k : Nat) (hk : k < al.size),al[k].toNat < 128:=fun k hk=>by
  have h:=all_ascii ⟨k,by omega⟩
  have e : allL.getD k 0 = al[k]:=by rw [← hAL,List.getD_eq_getElem?_getD,List.getElem?_eq_getElem (by rw [ba_len];exact hk)];rfl
  rw [e] at h;exact h
 have HBY:=Lib.hid hbyte
 have HSZ:=Lib.hid hsz
 clear hal hAL hbyte hsz
 have HNA:=Lib.hid (name_all ⟨o,h2⟩ h1)
 have HBL : Hid (∀ p,Below w.heap.size w (w.iter al p)):=fun p=>(Below.refl _ _).alloc (Nat.le_refl _) _
 go_wp2
 go_loopw [3,4] (fun f kk wr=>∃ p f' k : Nat,p ≤ al.size ∧ f' ≤ p ∧ wr = w.iter al p ∧ f = .int .i64 f' ∧ kk = .int .i64 k ∧ k ≤ p + 1 ∧ nameGo o (allL.drop p) p f' k = nameGo o allL 0 0 1) (fun _ _ wr=>al.size - wr.iterPos w.heap.size)
 case atStart=>exact ⟨0,0,1,by omega,by omega,rfl,rfl,rfl,by omega,rfl⟩
 case round=>
  obtain ⟨p,f,k,hp,hf,rfl,rfl,rfl,hkp,hn⟩:=hrel
  have HN:=Lib.hid hn
  clear hn
  by_cases hlt : p < al.size
  ·have hnx:=fun ty=>run_next_ascii (P:=Tryz.prog) w al p ty hlt (HBY.out p hlt)
   have hdrop : allL.drop p = al[p] :: allL.drop (p + 1):=by
    rw [← HAL.out]
    exact List.drop_eq_getElem_cons (by rw [ba_len];exact hlt)
   have w1 : IntKind.i64.wrap ((p : Int) + 1) = (p : Int) + 1:=by have:=HSZ.out;rw [IntKind.wrap_i64];omega
   have w2 : IntKind.i64.wrap ((k : Int) + 1) = (k : Int) + 1:=by have:=HSZ.out;rw [IntKind.wrap_i64];omega
   by_cases h32 : al[p].toNat = 32
   ·have hb32 : al[p] = 32:=by rw [← UInt8.toNat_inj];exact h32
    have dn : ((al[p].toNat : Int) != 32) = false:=by simp [h32]
    by_cases hko : k = o
    ·have dk : ((k : Int) == (o : Int)) = true:=by simp [hko]
     have hr : nameGo o allL 0 0 1 = (f,some p):=by rw [← HN.out,hdrop,nameGo,if_neg (by simp [hb32]),if_pos hko]
     have hres : al.extract f p = ba (opName o):=by
      rw [ba_extract,HAL.out,← HNA.out,hr];rfl
     clear hdrop hb32 h32 hko hr
     go_wp2
     go_ret
     exact ⟨rfl,HBL.out _⟩
    ·have dk : ((k : Int) == (o : Int)) = false:=by rw [beq_eq_false_iff_ne];omega
     have HN2 : Hid (nameGo o (allL.drop (p + 1)) (p + 1) (p + 1) (k + 1) = nameGo o allL 0 0 1):=by rw [Hid,← HN.out,hdrop,nameGo,if_neg (by simp [hb32]),if_neg hko]
     clear hdrop hb32 h32 hko
     go_wp2
     go_roundw
     case rel=>exact ⟨p + 1,p + 1,k + 1,by omega,by omega,rfl,by go_num,by go_num,by omega,HN2.out⟩
     case measure=>simp;omega
   ·have hb32 : al[p] ≠ 32:=fun e=>h32 (by rw [e];rfl)
    have dn : ((al[p].toNat : Int) != 32) = true:=by simp;omega
    have HN2 : Hid (nameGo o (allL.drop (p + 1)) (p + 1) f k = nameGo o allL 0 0 1):=by rw [Hid,← HN.out,hdrop,nameGo,if_pos hb32]
    clear hdrop hb32 h32
    go_wp2
    go_roundw
    case rel=>exact ⟨p + 1,f,k,by omega,by omega,rfl,rfl,rfl,by omega,HN2.out⟩
    case measure=>simp;omega
  ·obtain rfl : p = al.size:=by omega
   have hnx:=fun ty=>run_next_end (P:=Tryz.prog) w al al.size ty (by omega)
   have hr : nameGo o allL 0 0 1 = (f,none):=by
    rw [← HN.out,List.drop_eq_nil_of_le (by rw [← HAL.out,ba_len];exact Nat.le_refl _)];rfl
   have hres : al.extract f al.size = ba (opName o):=by
    rw [ba_extract,HAL.out,← HNA.out,hr]
    show _ = ba (allL.drop f)
    rw [List.take_of_length_le]
    rw [List.length_drop,← HAL.out,ba_len];omega
   clear hr
   go_wp2
   go_ret
   exact ⟨rfl,HBL.out _⟩
theorem opNames_len : opNames.length = 42:=by decide
/-- The operation of a name; 0: none has it. -/
def opV (s : List UInt8) : Nat:=match (List.range 41).find? (fun i=>decide (opName (i + 1) = s)) with
 | some i=>i + 1
 | none=>0
theorem opV_le (s : List UInt8) : opV s ≤ 41:=by
 unfold opV
 split
 ·rename_i i h
  have:=List.mem_range.1 (List.mem_of_find?_eq_some h);omega
 ·omega
theorem opV_hit {s : List UInt8} {o : Nat} (h1 : 1 ≤ o) (h2 : o ≤ 41) (h : opName o = s) (hn : ∀ j,1 ≤ j → j < o → opName j ≠ s) : opV s = o:=by
 have : (List.range 41).find? (fun i=>decide (opName (i + 1) = s)) = some (o - 1):=by
  rw [List.find?_range_eq_some]
  refine ⟨by rw [show o - 1 + 1 = o by omega];simp [h],List.mem_range.2 (by omega),fun j hj=>?_⟩
  simpa using hn (j + 1) (by omega) (by omega)
 rw [opV,this];show o - 1 + 1 = o;omega
theorem opV_none {s : List UInt8} (hn : ∀ j,1 ≤ j → j ≤ 41 → opName j ≠ s) : opV s = 0:=by
 have : (List.range 41).find? (fun i=>decide (opName (i + 1) = s)) = none:=by
  rw [List.find?_eq_none]
  intro j hj
  have:=List.mem_range.1 hj
  simpa using hn (j + 1) (by omega) (by omega)
 rw [opV,this]
theorem ba_beq (a : List UInt8) (s : ByteArray) : ((ba a).toList == s.toList) = decide (a = s.data.toList):=by
 rw [ByteArray.toList_eq,ByteArray.toList_eq,ba_data]
 by_cases h : a = s.data.toList <;> simp [h]
theorem opOf_any (s : ByteArray) (w : World) : Calls Tryz.prog 208 #[.string s] w fun e w'=>e = .returned (.tuple #[.int .i64 (opV s.data.toList),.bool (decide (opV s.data.toList ≠ 0))]) ∧ Below w.heap.size w w':=by
 obtain ⟨x,hx⟩ : ∃ x,x = opV s.data.toList:=⟨_,rfl⟩
 rw [← hx]
 have HX:=Lib.hid hx
 clear hx
 go_enter Tryz.func208,Tryz.ntmps208
 go_wp2
 go_loopw [4] (fun i wr=>∃ k : Nat,1 ≤ k ∧ k ≤ 42 ∧ i = .int .i64 k ∧ Below w.heap.size w wr ∧ ∀ j,1 ≤ j → j < k → opName j ≠ s.data.toList) (fun i _=>42 - (intOf i).toNat)
 case atStart=>exact ⟨1,by omega,by omega,rfl,Below.refl _ _,fun j h1 h2=>by omega⟩
 case round=>
  obtain ⟨k,hk1,hk,rfl,hb,hn⟩:=hrel
  have HB:=Lib.hid hb
  have HN:=Lib.hid hn
  clear hb hn
  by_cases hlt : k ≤ 41
  ·have d1 : decide ((k : Int) ≤ 41) = true:=decide_eq_true (by omega)
   have d1' : decide (k ≤ 41) = true:=decide_eq_true hlt
   have w1 : IntKind.i64.wrap ((k : Int) + 1) = (k : Int) + 1:=by rw [IntKind.wrap_i64];omega
   have NAM : Hid (∀ w,Calls Tryz.prog 177 #[.int .i64 k] w fun e w'=>e = .returned (.string (ba (opName k))) ∧ Below w.heap.size w w'):=fun w=>name_any k hk1 (by omega) w
   have hbq:=ba_beq (opName k) s
   by_cases he : opName k = s.data.toList
   ·have hx : x = k:=by rw [HX.out];exact opV_hit hk1 hlt he HN.out
    have de : ((ba (opName k)).toList == s.toList) = true:=by rw [hbq,decide_eq_true he]
    have dz : decide (k ≠ 0) = true:=decide_eq_true (by omega)
    subst hx
    clear he hbq
    go_wp2_with (go_at_call 177;refine (NAM.out _).mono ?_;rintro e w1 ⟨rfl,hb⟩;have HB1:=Lib.hid (HB.out.trans (hb.mono HB.out.size));clear hb)
    go_ret2
    exact ⟨by rw [dz];rfl,HB1.out⟩
   ·have de : ((ba (opName k)).toList == s.toList) = false:=by rw [hbq,decide_eq_false he]
    have HN2 : Hid (∀ j,1 ≤ j → j < k + 1 → opName j ≠ s.data.toList):=fun j h1 h2=>by
     by_cases e : j = k
     ·subst e;exact he
     ·exact HN.out j h1 (by omega)
    clear he hbq
    go_wp2_with (go_at_call 177;refine (NAM.out _).mono ?_;rintro e w1 ⟨rfl,hb⟩;have HB1:=Lib.hid (HB.out.trans (hb.mono HB.out.size));clear hb)
    go_roundw
    case rel=>exact ⟨k + 1,by omega,by omega,by go_num,HB1.out,HN2.out⟩
    case measure=>simp [intOf];omega
  ·have d1 : decide ((k : Int) ≤ 41) = false:=decide_eq_false (by omega)
   have d1' : decide (k ≤ 41) = false:=decide_eq_false hlt
   have hx : x = 0:=by rw [HX.out];exact opV_none (fun j h1 h2=>HN.out j h1 (by omega))
   subst hx
   go_wp2
   go_ret2
   exact ⟨rfl,HB.out⟩
end Go.Proofs.YtoklonmiejdgmaaGreatDoor.As
/- Package asm: a text on its way. -/
namespace Go.Proofs.YtoklonmiejdgmaaGreatDoor.As
set_option linter.unusedVariables false
set_option linter.unusedSimpArgs false
set_option linter.unnecessarySimpa false
open Go.RowKit Go.Sort
set_option maxHeartbeats 2000000
set_option maxRecDepth 100000
set_option linter.unusedVariables false
end Go.Proofs.YtoklonmiejdgmaaGreatDoor.As
