/- Package script: Parse. -/
import Derived.Test.YtoklonmiejdgmaaGreatDoorGScriptPrints8
import Derived.Test.YtoklonmiejdgmaaGreatDoorGScriptPrints5
import Derived.Deep.RegionHeld3
import Derived.Test.YtoklonmiejdgmaaGreatDoorGScriptPrints0
import Derived.Test.YtoklonmiejdgmaaGreatDoorGScriptPrints4
namespace Go.Proofs.YtoklonmiejdgmaaGreatDoor
set_option linter.unusedVariables false
set_option linter.unusedSimpArgs false
set_option linter.unnecessarySimpa false
open Go.RowKit Go.Sort
set_option maxHeartbeats 4000000
set_option maxRecDepth 100000
set_option linter.unusedVariables false
/-- A script that may be read. -/
structure ScOk (W : World) (v : Sv) : Prop where
 im : Rd W 1 v.ia v.im.length (imC v.im)
 iml : v.im.length ≤ v.ic
 imx : v.ic ≤ maxLen
 row : ∀ x ∈ v.im,Rd W 1 x.a x.l.length (As.uC x.l) ∧ x.l.length ≤ x.cap ∧ x.cap ≤ maxLen
 se : Rd W 2 v.sa v.se.length (seC v.se)
 sel : v.se.length ≤ v.sc
 sex : v.sc ≤ maxLen
 inp : Rd W 5 v.na v.inp.length (inC v.inp)
 inl : v.inp.length ≤ v.nc
 inx : v.nc ≤ maxLen
theorem ScOk.below {W W' : World} {v : Sv} (h : ScOk W v) (hb : Below W.heap.size W W') : ScOk W' v:=⟨h.im.below hb,h.iml,h.imx,fun x hx=>⟨(h.row x hx).1.below hb,(h.row x hx).2⟩,h.se.below hb,h.sel,h.sex,h.inp.below hb,h.inl,h.inx⟩
def SpPost (s : List UInt8) (w : World) (e : Ending) (w' : World) : Prop:=
 ∃ (c : Cv) (v : Sv),e = .returned (.tuple #[(.agg #[.int .i64 c.cats,.slice c.g.a c.g.l.length c.g.cap,.slice c.r.a c.r.l.length c.r.cap,.slice c.p.a c.p.l.length c.p.cap,.slice c.n.a c.n.l.length c.n.cap,.slice c.s.a c.s.l.length c.s.cap,.int .i64 c.gate,.int .i64 c.quota]),(.agg #[.slice v.ia v.im.length v.ic,.slice v.sa v.se.length v.sc,.slice v.na v.inp.length v.nc]),.int .i64 (scV s).2.2.1,.int .i64 (scV s).2.2.2]) ∧ CfgOk w' c ∧ ScOk w' v ∧ pcOf c = (scV s).1 ∧ scOf v = (scV s).2.1 ∧ Below w.heap.size w w'
theorem rd_none (W : World) (n : Nat) : Rd W n none 0 []:=⟨by simp,fun _=>rfl,fun p hp=>by cases hp⟩
theorem sv0_ok (W : World) : ScOk W sv0:=⟨rd_none W 1,Nat.le_refl _,Nat.zero_le _,(fun x hx=>by cases hx),rd_none W 2,Nat.le_refl _,Nat.zero_le _,rd_none W 5,Nat.le_refl _,Nat.zero_le _⟩
theorem sp_zero {s : List UInt8} {w w' : World} {e at_ : Int} (h : scV s = (pcZ,sc0,e,at_)) (hb : Below w.heap.size w w') : SpPost s w (.returned (.tuple #[.agg #[.int .i64 0,.slice none 0 0,.slice none 0 0,.slice none 0 0,.slice none 0 0,.slice none 0 0,.int .i64 0,.int .i64 0],.agg #[.slice none 0 0,.slice none 0 0,.slice none 0 0],.int .i64 e,.int .i64 at_])) w':=
 ⟨cvZ,sv0,by rw [h];rfl,cvZ_ok w',sv0_ok w',by rw [h];rfl,by rw [h];rfl,hb⟩
theorem sp_good {s : List UInt8} {w w' : World} {c : Cv} {v : Sv} (h : scV s = (pcOf c,scOf v,0,0)) (hc : CfgOk w' c) (hv : ScOk w' v) (hb : Below w.heap.size w w') : SpPost s w (.returned (.tuple #[(.agg #[.int .i64 c.cats,.slice c.g.a c.g.l.length c.g.cap,.slice c.r.a c.r.l.length c.r.cap,.slice c.p.a c.p.l.length c.p.cap,.slice c.n.a c.n.l.length c.n.cap,.slice c.s.a c.s.l.length c.s.cap,.int .i64 c.gate,.int .i64 c.quota]),(.agg #[.slice v.ia v.im.length v.ic,.slice v.sa v.se.length v.sc,.slice v.na v.inp.length v.nc]),.int .i64 0,.int .i64 0])) w':=
 ⟨c,v,by rw [h],hc,hv,by rw [h],by rw [h],hb⟩
theorem fromS_eq {L : List (List UInt8)} : ∀ {k : Nat},(∀ m,m < k → rankS (L.getD m []) = -1) → k ≤ L.length → (k = L.length ∨ rankS (L.getD k []) ≠ -1) → fromS L = k:=by
 unfold fromS
 induction L with
 | nil=>intro k _ h _;simp at h;subst h;rfl
 | cons x r ih=>
  intro k hl hk he
  cases k with
  | zero=>
   rcases he with he | he
   ·simp at he
   ·rw [List.takeWhile_cons,if_neg (by simpa using he)];rfl
  | succ k=>
   have h0:=hl 0 (by omega)
   have he2 : k = r.length ∨ rankS (r.getD k []) ≠ -1:=by
    rcases he with he | he
    ·left;simp at he;omega
    ·right;simpa using he
   rw [List.takeWhile_cons,if_pos (by simpa using h0),List.length_cons,ih (k:=k) (fun m hm=>by have:=hl (m + 1) (by omega);simpa using this) (by simp at hk;omega) he2]
theorem sr_start {W : World} {La : Option Addr} {Lc : Nat} {L : List (List UInt8)} (h : RdW W La Lc L) (i : Nat) :
  SR W W.heap.size La Lc L i 0 sv0 0 0 (W.alloc (.cells #[.slice La L.length Lc,.int .i64 i,.int .i64 0,.slice none 0 0,.slice none 0 0,.slice none 0 0,.int .i64 0,.int .i64 0] 64)):=
 ⟨(Below.refl _ _).alloc (Nat.le_refl _) _,Nat.le_refl _,ObjAt.new W _ [.slice La L.length Lc,.int .i64 i,.int .i64 0,.slice none 0 0,.slice none 0 0,.slice none 0 0,.int .i64 0,.int .i64 0],h,Own.nil _ _ _ _,(fun x hx=>by cases hx),Own.nil _ _ _ _,Own.nil _ _ _ _⟩
/-- The reader's script stays, where two boxes of results turn. -/
theorem SR.other {w W W' W'' : World} {rb b1 b2 : Nat} {La : Option Addr} {Lc : Nat} {L : List (List UInt8)} {i : Nat} {last : Int} {v : Sv} {e bad : Int} {cs1 cs2 : List Value} (h : SR w rb La Lc L i last v e bad W) (ho : ObjAt W b1 29 cs1) (ho2 : ObjAt W b2 34 cs2) (hu : Upd b1 W W') (hu2 : Upd b2 W' W'') : ScOk W'' v:=
 have i1:=(h.im.upd hu (h.im.ne ho (by decide))).upd hu2 (h.im.ne ho2 (by decide))
 have s1:=(h.se.upd hu (h.se.ne ho (by decide))).upd hu2 (h.se.ne ho2 (by decide))
 have n1:=(h.inp.upd hu (h.inp.ne ho (by decide))).upd hu2 (h.inp.ne ho2 (by decide))
 ⟨i1.rd,i1.le,i1.capMax,fun x hx=>
  have r1:=((h.row x hx).upd hu ((h.row x hx).ne ho (by decide))).upd hu2 ((h.row x hx).ne ho2 (by decide))
  ⟨r1.rd,r1.le,r1.capMax⟩,s1.rd,s1.le,s1.capMax,n1.rd,n1.le,n1.capMax⟩
theorem cfg_other {W W' W'' : World} {b1 b2 B : Nat} {c : Cv} (h : CfgOk W c) (hn : NewC B c) (h1 : b1 < B) (h2 : b2 < B) (hu : Upd b1 W W') (hu2 : Upd b2 W' W'') : CfgOk W'' c:=by
 have hne : ∀ s ∈ [c.g.a,c.r.a,c.p.a,c.n.a,c.s.a],b1 ∉ blk s ∧ b2 ∉ blk s:=fun s hs=>⟨fun hk=>by have:=hn s hs _ hk;omega,fun hk=>by have:=hn s hs _ hk;omega⟩
 have n1:=hne c.g.a (by simp)
 have n2:=hne c.r.a (by simp)
 have n3:=hne c.p.a (by simp)
 have n4:=hne c.n.a (by simp)
 have n5:=hne c.s.a (by simp)
 exact ⟨⟨(h.g.rd.upd hu n1.1).upd hu2 n1.2,h.g.le,h.g.cap,h.g.len⟩,⟨(h.r.rd.upd hu n2.1).upd hu2 n2.2,h.r.le,h.r.cap,h.r.len⟩,⟨(h.p.rd.upd hu n3.1).upd hu2 n3.2,h.p.le,h.p.cap,h.p.len⟩,⟨(h.n.rd.upd hu n4.1).upd hu2 n4.2,h.n.le,h.n.cap,h.n.len⟩,⟨(h.s.rd.upd hu n5.1).upd hu2 n5.2,h.s.le,h.s.cap,h.s.len⟩⟩
theorem lnsL_len (t : List UInt8) : (lnsL t).length ≤ t.length + 1:=by
 unfold lnsL lsL
 have:=fieldsC_len 10 t
 have:=List.count_le_length (a:=(10 : UInt8)) (l:=t)
 split
 ·rw [List.length_dropLast];omega
 ·exact Nat.zero_le _
theorem joinC_end : ∀ L : List (List UInt8),joinC 10 (L ++ [[]]) = joinT L
 | []=>rfl
 | x :: r=>by
  have:=joinC_end r
  cases r with
  | nil=>simp [joinC,joinT]
  | cons y r=>rw [List.cons_append,List.cons_append,joinC,← List.cons_append,this];simp [joinT]
theorem lns_form {t : List UInt8} (h : lsB t = true) : fieldsC 10 t = lsL t ++ [[]]:=by
 unfold lsB at h
 obtain ⟨D,hD⟩:=List.getLast?_eq_some_iff.1 (of_decide_eq_true h)
 unfold lsL
 rw [hD,List.dropLast_concat]
theorem lns_join {t : List UInt8} (h : lsB t = true) : joinT (lsL t) = t:=by
 rw [← joinC_end,← lns_form h];exact join_fields 10 t
theorem lsL_row {t : List UInt8} : ∀ x ∈ lsL t,x.length ≤ t.length:=fun x hx=>(fieldsC_mem 10 t x (List.dropLast_subset _ hx)).2
theorem scV_long {t : List UInt8} (h : 16384 < t.length) : scV t = (pcZ,sc0,10,0):=by unfold scV;rw [if_pos h]
theorem scV_open {t : List UInt8} (h : ¬ 16384 < t.length) (hl : lsB t = false) : scV t = (pcZ,sc0,6,(t.count 10 : Int) + 1):=by unfold scV;rw [if_neg h,hl];rfl
theorem scV_lines {t : List UInt8} (h : ¬ 16384 < t.length) (hl : lsB t = true) : scV t = scR (lsL t):=by unfold scV;rw [if_neg h,hl];rfl
theorem rd_take {W : World} {a : Option Addr} {cap : Nat} {L : List (List UInt8)} (h : RdW W a cap L) (k : Nat) (hk : k ≤ L.length) : RdW W a cap (L.take k):=by
 have hlen : (L.take k).length = k:=by rw [List.length_take];omega
 refine ⟨⟨by rw [strC_len,Nat.mul_one],(fun h0=>by have:=h.rd.2.1 h0;omega),fun p hp hne=>?_⟩,by rw [hlen];have:=h.le;omega,h.mx⟩
 have hpos : 0 < k:=by
  rcases Nat.eq_zero_or_pos k with h0 | h0
  ·exfalso;apply hne;subst h0;rfl
  ·exact h0
 obtain ⟨g,o,he,hg,hc⟩:=h.at_ 0 (by omega)
 rw [he] at hp
 injection hp with hp
 refine ⟨g,o,hp.symm,hg,fun j u hu=>?_⟩
 have hj : j < k:=by have:=(List.getElem?_eq_some_iff.1 hu).1;rw [strC_len,hlen] at this;exact this
 rw [strC_get _ j (by rw [hlen];exact hj),List.getElem_take] at hu
 rw [← hu]
 exact hc j (by omega)
theorem sparse_any (s : ByteArray) (hs : s.size ≤ maxLen) (w : World) (hT : WdTab w) (hI : Isa.Tab w) : Calls Tryz.prog 8 #[.string s] w (SpPost s.data.toList w):=by
 obtain ⟨l,hl⟩ : ∃ l,l = s.data.toList:=⟨_,rfl⟩
 have hsl : l.length = s.size:=by rw [hl,ba_len]
 rw [← hl]
 obtain ⟨w0,hw0⟩ : ∃ w0,w0 = w.alloc (.cells #[.int .i64 0,.slice none 0 0,.slice none 0 0,.slice none 0 0,.slice none 0 0,.slice none 0 0,.int .i64 0,.int .i64 0] 29):=⟨_,rfl⟩
 obtain ⟨w1,hw1⟩ : ∃ w1,w1 = w0.alloc (.cells #[.slice none 0 0,.slice none 0 0,.slice none 0 0] 34):=⟨_,rfl⟩
 have HO0 : Hid (ObjAt w1 w.heap.size 29 #[.int .i64 0,.slice none 0 0,.slice none 0 0,.slice none 0 0,.slice none 0 0,.slice none 0 0,.int .i64 0,.int .i64 0].toList):=by rw [hw1];exact ObjAt.below (by rw [hw0];exact ObjAt.new w _ _) ((Below.refl _ _).alloc (Nat.le_refl _) _)
 have hz : w0.heap.size = w.heap.size + 1:=by rw [hw0];simp
 have HO1 : Hid (ObjAt w1 (w.heap.size + 1) 34 #[.slice none 0 0,.slice none 0 0,.slice none 0 0].toList):=by rw [← hz,hw1];exact ObjAt.new w0 _ _
 have HB1 : Hid (Below w.heap.size w w1):=by rw [hw1,hw0];exact ((Below.refl _ _).alloc (Nat.le_refl _) _).alloc (by simp) _
 have HW0:=Lib.hid hw0
 have HW1:=Lib.hid hw1
 have HZ0:=Lib.hid hz
 obtain ⟨P,hP⟩ : ∃ P,P = SpPost l w:=⟨_,rfl⟩
 have HZ : Hid (∀ e at_ w',scV l = (pcZ,sc0,e,at_) → Below w.heap.size w w' → P (.returned (.tuple #[.agg #[.int .i64 0,.slice none 0 0,.slice none 0 0,.slice none 0 0,.slice none 0 0,.slice none 0 0,.int .i64 0,.int .i64 0],.agg #[.slice none 0 0,.slice none 0 0,.slice none 0 0],.int .i64 e,.int .i64 at_])) w'):=fun e at_ w' h hb=>by rw [hP];exact sp_zero h hb
 have HG : Hid (∀ c v w',scV l = (pcOf c,scOf v,0,0) → CfgOk w' c → ScOk w' v → Below w.heap.size w w' → P (.returned (.tuple #[(.agg #[.int .i64 c.cats,.slice c.g.a c.g.l.length c.g.cap,.slice c.r.a c.r.l.length c.r.cap,.slice c.p.a c.p.l.length c.p.cap,.slice c.n.a c.n.l.length c.n.cap,.slice c.s.a c.s.l.length c.s.cap,.int .i64 c.gate,.int .i64 c.quota]),(.agg #[.slice v.ia v.im.length v.ic,.slice v.sa v.se.length v.sc,.slice v.na v.inp.length v.nc]),.int .i64 0,.int .i64 0])) w'):=fun c v w' h hc hn hb=>by rw [hP];exact sp_good h hc hn hb
 rw [← hP]
 clear hP hw0 hw1 hz
 unfold maxLen at hs
 by_cases h16 : 16384 < s.size
 ·have d1 : decide ((s.size : Int) > 16384) = true:=decide_eq_true (by omega)
  have d1' : decide (16384 < s.size) = true:=decide_eq_true h16
  have HZ:=fun w' h=>Lib.hid (HZ.out 10 0 w' (scV_long (by omega)) h)
  clear h16 hl hsl hT hI HG
  go_enter Tryz.func8,Tryz.ntmps8
  go_upto_region 1 with fail
  rw [← HW0.out,← HW1.out]
  have hO0:=HO0.out
  have hO1:=HO1.out
  have s6:=hO0.lt
  have s7:=hO1.lt
  have a0:=(hO0).cell 0 _ rfl;have a1:=(hO0).cell 1 _ rfl;have a2:=(hO0).cell 2 _ rfl;have a3:=(hO0).cell 3 _ rfl;have a4:=(hO0).cell 4 _ rfl;have a5:=(hO0).cell 5 _ rfl;have a6:=(hO0).cell 6 _ rfl;have a7:=(hO0).cell 7 _ rfl;have g0:=(hO0).free 0;have g1:=(hO0).free 1;have g2:=(hO0).free 2;have g3:=(hO0).free 3;have g4:=(hO0).free 4;have g5:=(hO0).free 5;have g6:=(hO0).free 6;have g7:=(hO0).free 7
  have b0:=(hO1).cell 0 _ rfl;have b1:=(hO1).cell 1 _ rfl;have b2:=(hO1).cell 2 _ rfl;have p0:=(hO1).free 0;have p1:=(hO1).free 1;have p2:=(hO1).free 2
  clear hO0 hO1
  go_wp2_with fail
  (refine bodyPost_ret (v:=.tuple #[.agg #[.int .i64 0,.slice none 0 0,.slice none 0 0,.slice none 0 0,.slice none 0 0,.slice none 0 0,.int .i64 0,.int .i64 0],.agg #[.slice none 0 0,.slice none 0 0,.slice none 0 0],.int .i64 10,.int .i64 0]) (by simp [results,Tryz.results8,go_sem,a0,a1,a2,a3,a4,a5,a6,a7,b0,b1,b2,s6,s7]) rfl ?_)
  exact (HZ _ (((((((((((HB1.out.setCell (Nat.le_refl _) _).setCell (Nat.le_refl _) _).setCell (Nat.le_refl _) _).setCell (Nat.le_refl _) _).setCell (Nat.le_refl _) _).setCell (Nat.le_refl _) _).setCell (Nat.le_refl _) _).setCell (Nat.le_refl _) _).setCell (Nat.le_succ _) _).setCell (Nat.le_succ _) _).setCell (Nat.le_succ _) _)).out
 ·have d1 : decide ((s.size : Int) > 16384) = false:=decide_eq_false (by omega)
  have d1' : decide (16384 < s.size) = false:=decide_eq_false h16
  have HLN:=Lib.hid (lines_any s (by omega) w1)
  rw [← hl] at HLN
  have HT1:=Lib.hid (hT.below HB1.out)
  have HI1:=Lib.hid (hI.below HB1.out)
  cases hb : lsB l
  ·have HZ:=fun w' h=>Lib.hid (HZ.out 6 ((l.count 10 : Int) + 1) w' (scV_open (by omega) hb) h)
   have HLS : Hid (∀ e w',LsPost l w1 e w' → e = .returned (.tuple #[.slice none 0 0,.bool false]) ∧ Below w1.heap.size w1 w'):=fun e w' h=>⟨h.2.1 hb,h.2.2⟩
   have HC : Hid (∀ W,Calls Tryz.prog 21 #[.string s,.string ⟨#[10]⟩] W fun e w'=>e = .returned (.int .i64 (l.count 10 : Nat)) ∧ w' = W):=fun W=>by
    have:=count1 s 10 W
    rw [show Lib.countB s ⟨#[10]⟩ = l.count 10 from by rw [hl];exact Lib.count_one 10 _] at this
    exact this
   have hcl : l.count 10 ≤ l.length:=List.count_le_length
   have w5 : IntKind.i64.wrap ((l.count 10 : Int) + 1) = (l.count 10 : Int) + 1:=by rw [IntKind.wrap_i64];omega
   clear h16 hl hsl hT hI HG hb hcl
   go_enter Tryz.func8,Tryz.ntmps8
   go_upto_region 1 with fail
   rw [← HW0.out,← HW1.out]
   go_wp2_with fail
   refine HLN.out.mono ?_;intro e w2 h2
   obtain ⟨rfl,hb2⟩:=HLS.out _ _ h2
   have HB2:=Lib.hid hb2
   clear h2 hb2
   go_wp2_with fail
   refine (HC.out _).mono ?_;rintro e w3 ⟨rfl,rfl⟩
   have hO0:=HO0.out.below HB2.out
   have hO1:=HO1.out.below HB2.out
   have s6:=hO0.lt
   have s7:=hO1.lt
   have a0:=(hO0).cell 0 _ rfl;have a1:=(hO0).cell 1 _ rfl;have a2:=(hO0).cell 2 _ rfl;have a3:=(hO0).cell 3 _ rfl;have a4:=(hO0).cell 4 _ rfl;have a5:=(hO0).cell 5 _ rfl;have a6:=(hO0).cell 6 _ rfl;have a7:=(hO0).cell 7 _ rfl;have g0:=(hO0).free 0;have g1:=(hO0).free 1;have g2:=(hO0).free 2;have g3:=(hO0).free 3;have g4:=(hO0).free 4;have g5:=(hO0).free 5;have g6:=(hO0).free 6;have g7:=(hO0).free 7
   have b0:=(hO1).cell 0 _ rfl;have b1:=(hO1).cell 1 _ rfl;have b2:=(hO1).cell 2 _ rfl;have p0:=(hO1).free 0;have p1:=(hO1).free 1;have p2:=(hO1).free 2
   clear hO0 hO1
   go_wp2_with fail
   (refine bodyPost_ret (v:=.tuple #[.agg #[.int .i64 0,.slice none 0 0,.slice none 0 0,.slice none 0 0,.slice none 0 0,.slice none 0 0,.int .i64 0,.int .i64 0],.agg #[.slice none 0 0,.slice none 0 0,.slice none 0 0],.int .i64 6,.int .i64 ((l.count 10 : Int) + 1)]) (by simp [results,Tryz.results8,go_sem,a0,a1,a2,a3,a4,a5,a6,a7,b0,b1,b2,s6,s7]) rfl ?_)
   exact (HZ _ ((((((((((((bmore HB1.out HB2.out).setCell (Nat.le_refl _) _).setCell (Nat.le_refl _) _).setCell (Nat.le_refl _) _).setCell (Nat.le_refl _) _).setCell (Nat.le_refl _) _).setCell (Nat.le_refl _) _).setCell (Nat.le_refl _) _).setCell (Nat.le_refl _) _).setCell (Nat.le_succ _) _).setCell (Nat.le_succ _) _).setCell (Nat.le_succ _) _)).out
  ·obtain ⟨L,hL⟩ : ∃ L,L = lsL l:=⟨_,rfl⟩
   have HLS : Hid (∀ e w',LsPost l w1 e w' → ∃ a cap,e = .returned (.tuple #[.slice a L.length cap,.bool true]) ∧ RdW w' a cap L ∧ Below w1.heap.size w1 w'):=fun e w' h=>by
    obtain ⟨a,cap,h1,h2⟩:=h.1 hb
    rw [hL];exact ⟨a,cap,h1,h2,h.2.2⟩
   have HSC : Hid (scV l = scR L):=by rw [hL];exact scV_lines (by omega) hb
   have hjl : (joinT L).length ≤ 16384:=by rw [hL,lns_join hb];omega
   have HSM : Hid (∀ x ∈ L,x.length ≤ 16384):=fun x hx=>by rw [hL] at hx;have:=lsL_row x hx;omega
   have hll : L.length ≤ 16385:=by
    have h1:=lnsL_len l
    unfold lnsL at h1
    rw [hb,if_pos rfl,← hL] at h1;omega
   clear h16 hl hb hT hI hL
   go_enter Tryz.func8,Tryz.ntmps8
   go_upto_region 1 with fail
   rw [← HW0.out,← HW1.out]
   go_upto_region 3 with fail
   go_wp2_with fail
   refine HLN.out.mono ?_;intro e w2 h2
   obtain ⟨La,Lc,rfl,hr2,hb2⟩:=HLS.out _ _ h2
   have HB2:=Lib.hid (bmore HB1.out hb2)
   have HB2':=Lib.hid hb2
   have HR2:=Lib.hid hr2
   have hle:=hr2.le
   have hmx:=hr2.mx
   unfold maxLen at hmx
   have HO0:=Lib.hid (HO0.out.below hb2)
   have HO1:=Lib.hid (HO1.out.below hb2)
   have HT2:=Lib.hid (HT1.out.below hb2)
   have HI2:=Lib.hid (HI1.out.below hb2)
   clear h2 hb2 hr2 HLN HLS HT1 HI1
   go_upto_region 7 with fail
   go_loopw [8] (fun x wr=>∃ k : Nat,k ≤ L.length ∧ x = .int .i64 k ∧ (∀ m,m < k → rankS (L.getD m []) = -1) ∧ Below w2.heap.size w2 wr) (fun x _=>L.length - (intOf x).toNat)
   case atStart=>exact ⟨0,by omega,rfl,(fun m h=>by omega),Below.refl _ _⟩
   case round=>
    obtain ⟨k,hk,rfl,hn,hbe⟩:=hrel
    have HNO:=Lib.hid hn
    have HBE:=Lib.hid hbe
    clear hn hbe
    have wk : IntKind.i64.wrap ((k : Int) + 1) = (k : Int) + 1:=by rw [IntKind.wrap_i64];omega
    by_cases hgo : k < L.length ∧ rankS (L.getD k []) = -1
    ·obtain ⟨hlt,hrk⟩:=hgo
     obtain ⟨g,o,rfl,hg,hc⟩:=HR2.out.at_ k hlt
     have hcr : wr.cell? ⟨g,o + k,none⟩ = some (.string (ba L[k])):=by rw [HBE.out.cell (p:=⟨g,o + k,none⟩) hg];exact hc k hlt
     obtain ⟨x,hx⟩ : ∃ x,x = L[k]:=⟨_,rfl⟩
     rw [← hx] at hcr
     have hxd : L.getD k [] = x:=by rw [List.getD_eq_getElem?_getD,List.getElem?_eq_getElem hlt,hx];rfl
     have HN2 : Hid (∀ m,m < k + 1 → rankS (L.getD m []) = -1):=fun m h2=>by
      by_cases e : m = k
      ·subst e;exact hrk
      ·exact HNO.out m (by omega)
     have d2 : decide ((k : Int) < (L.length : Int)) = true:=decide_eq_true (by omega)
     have d2' : decide (k < L.length) = true:=decide_eq_true hlt
     have HRK:=fun W=>Lib.hid (rank_any x (by rw [hx];have:=HSM.out _ (List.getElem_mem hlt);omega) W)
     have HRS : Hid (∀ W e w',RkPost x W e w' → e = .returned (.int .i64 (-1)) ∧ Below W.heap.size W w'):=fun W e w' h=>by rw [← hrk,hxd];exact h
     clear hc hx hxd hrk
     go_wp2_with (go_at_call 22;refine ((HRK _).out).mono ?_;intro e W2 hp;obtain ⟨rfl,hb⟩:=HRS.out _ _ _ hp;have HB3:=Lib.hid (bmore HBE.out hb);clear hp hb)
     go_roundw
     case rel=>exact ⟨k + 1,by omega,by go_num,HN2.out,HB3.out⟩
     case measure=>simp [intOf];omega
    ·have HFR : Hid (fromS L = k):=fromS_eq HNO.out hk (by omega)
     obtain ⟨tx,htx⟩ : ∃ tx,tx = joinT (L.take k):=⟨_,rfl⟩
     have htl : tx.length ≤ 16384:=by rw [htx];have:=joinT_take L k;omega
     have hkl : (L.take k).length = k:=by rw [List.length_take];omega
     have HTX : Hid (∀ W',Below w2.heap.size w2 W' → Calls Tryz.prog 24 #[.slice La k Lc] W' fun e w'=>e = .returned (.string (ba tx)) ∧ Below W'.heap.size W' w'):=fun W' hb=>by
      have:=text_any La Lc (L.take k) W' ((rd_take HR2.out k hk).below hb) (by rw [← htx];omega) (by omega)
      rw [hkl,← htx] at this;exact this
     have HPP : Hid (∀ W',Below w2.heap.size w2 W' → Calls Tryz.prog 23 #[.string (ba tx)] W' (PsPostN tx W')):=fun W' hb=>by
      have:=pparse_new (ba tx) (by rw [ba_size];unfold maxLen;omega) W' (HT2.out.below hb)
      rw [ba_data] at this;exact this
     obtain ⟨pe,hpe⟩ : ∃ x,Hid (x = (psV tx).2.1):=⟨_,Lib.hid rfl⟩
     obtain ⟨pa,hpa⟩ : ∃ x,Hid (x = (psV tx).2.2):=⟨_,Lib.hid rfl⟩
     obtain ⟨pc,hpc⟩ : ∃ x,Hid (x = (psV tx).1):=⟨_,Lib.hid rfl⟩
     have HPS : Hid (∀ W' e w',PsPostN tx W' e w' → ∃ c : Cv,NewC W'.heap.size c ∧ e = .returned (.tuple #[(.agg #[.int .i64 c.cats,.slice c.g.a c.g.l.length c.g.cap,.slice c.r.a c.r.l.length c.r.cap,.slice c.p.a c.p.l.length c.p.cap,.slice c.n.a c.n.l.length c.n.cap,.slice c.s.a c.s.l.length c.s.cap,.int .i64 c.gate,.int .i64 c.quota]),.int .i64 pe,.int .i64 pa]) ∧ CfgOk w' c ∧ pcOf c = pc ∧ Below W'.heap.size W' w'):=fun W' e w' h=>by rw [hpe.out,hpa.out,hpc.out];exact h
     have HSR : Hid (scV l = if pe ≠ 0 then (pcZ,sc0,pe,pa) else if (restS L k 0 sc0).2.1 ≠ 0 then (pcZ,sc0,(restS L k 0 sc0).2.1,(restS L k 0 sc0).2.2) else (pc,(restS L k 0 sc0).1,0,0)):=by
      rw [Hid,HSC.out,scR,HFR.out,← htx,runS_rest,← hpe.out,← hpa.out,← hpc.out]
     obtain ⟨F,hF⟩ : ∃ F,F = restS L k 0 sc0:=⟨_,rfl⟩
     rw [← hF] at HSR
     have HF:=Lib.hid hF
     have hkc : k ≤ Lc:=by omega
     have k1 : (k : Int) ≤ (Lc : Int):=by omega
     have HPA : Hid (∀ W6,Below w2.heap.size w2 W6 → Calls Tryz.prog 25 #[.pointer (some ⟨W6.heap.size,0,none⟩)] (W6.alloc (.cells #[.slice La L.length Lc,.int .i64 k,.int .i64 0,.slice none 0 0,.slice none 0 0,.slice none 0 0,.int .i64 0,.int .i64 0] 64)) (RePost W6 W6.heap.size La Lc L F)):=fun W6 hb=>by
      rw [hF]
      exact read_any (sr_start (HR2.out.below hb) k) (by omega) (by omega) (fun x hx=>by have:=HSM.out x hx;omega) (HI2.out.below hb)
     clear hF htx htl hkl
     by_cases hlt : k < L.length
     ·obtain ⟨g,o,rfl,hg,hc⟩:=HR2.out.at_ k hlt
      have hcr : wr.cell? ⟨g,o + k,none⟩ = some (.string (ba L[k])):=by rw [HBE.out.cell (p:=⟨g,o + k,none⟩) hg];exact hc k hlt
      obtain ⟨x,hx⟩ : ∃ x,x = L[k]:=⟨_,rfl⟩
      rw [← hx] at hcr
      have hxd : L.getD k [] = x:=by rw [List.getD_eq_getElem?_getD,List.getElem?_eq_getElem hlt,hx];rfl
      have d2 : decide ((k : Int) < (L.length : Int)) = true:=decide_eq_true (by omega)
      have d2' : decide (k < L.length) = true:=decide_eq_true hlt
      have HRK:=fun W=>Lib.hid (rank_any x (by rw [hx];have:=HSM.out _ (List.getElem_mem hlt);omega) W)
      obtain ⟨rk,hrk⟩ : ∃ z,z = rankS x:=⟨_,rfl⟩
      have hr1 : rk ≠ -1:=fun e=>hgo ⟨hlt,by rw [hxd,← hrk,e]⟩
      have z1 : (rk == -1) = false:=by rw [beq_eq_false_iff_ne];exact hr1
      have HRS : Hid (∀ W e w',RkPost x W e w' → e = .returned (.int .i64 rk) ∧ Below W.heap.size W w'):=fun W e w' h=>by rw [hrk];exact h
      clear hc hx hxd hrk hr1 hgo
      go_upto_region 9 with (go_at_call 22;refine ((HRK _).out).mono ?_;intro e W2 hp;obtain ⟨rfl,hb⟩:=HRS.out _ _ _ hp;have HB3:=Lib.hid (bmore HBE.out hb);clear hp hb)
      go_upto_region 10 with (first | (go_at_call 24;refine (HTX.out _ HB3.out).mono ?_;rintro e W4 ⟨rfl,hb4⟩;have HB4:=Lib.hid (bmore HB3.out hb4);clear hb4) | (go_at_call 23;refine (HPP.out _ HB4.out).mono ?_;intro e W5 hp;obtain ⟨c,hnc,rfl,hok,hpcc,hb5⟩:=HPS.out _ _ _ hp;have HB5:=Lib.hid (bmore HB4.out hb5);have HNC:=Lib.hid hnc;have HOK:=Lib.hid hok;have HPC:=Lib.hid hpcc;have HSZ:=Lib.hid hb5.size;clear hp hnc hok hpcc hb5))
      obtain ⟨W6,hW6⟩ : ∃ W6,W6 = W5.alloc (.cells #[.int .i64 c.cats,.slice c.g.a c.g.l.length c.g.cap,.slice c.r.a c.r.l.length c.r.cap,.slice c.p.a c.p.l.length c.p.cap,.slice c.n.a c.n.l.length c.n.cap,.slice c.s.a c.s.l.length c.s.cap,.int .i64 c.gate,.int .i64 c.quota] 29):=⟨_,rfl⟩
      rw [← hW6]
      have HO9 : Hid (ObjAt W6 W5.heap.size 29 #[.int .i64 c.cats,.slice c.g.a c.g.l.length c.g.cap,.slice c.r.a c.r.l.length c.r.cap,.slice c.p.a c.p.l.length c.p.cap,.slice c.n.a c.n.l.length c.n.cap,.slice c.s.a c.s.l.length c.s.cap,.int .i64 c.gate,.int .i64 c.quota].toList):=by rw [hW6];exact ObjAt.new W5 _ _
      have hb6 : Below W5.heap.size W5 W6:=by rw [hW6];exact (Below.refl _ _).alloc (Nat.le_refl _) _
      have HB6:=Lib.hid (bmore HB5.out hb6)
      have HOK:=Lib.hid (HOK.out.below hb6)
      have HNX : Hid (w.heap.size + 1 < W4.heap.size):=Nat.lt_of_lt_of_le HO1.out.lt HB4.out.size
      have HSZ6 : Hid (W4.heap.size < W6.heap.size):=Nat.lt_of_le_of_lt HSZ.out (by rw [hW6];simp)
      clear hW6 hb6
      by_cases hp0 : pe = 0
      ·have z9 : (pe != 0) = false:=by simp [hp0]
       have HSR : Hid (scV l = if F.2.1 ≠ 0 then (pcZ,sc0,F.2.1,F.2.2) else (pc,F.1,0,0)):=by rw [Hid,HSR.out,if_neg (by simp [hp0])]
       clear hp0
       by_cases hf0 : F.2.1 = 0
       ·have HSR : Hid (scV l = (pc,F.1,0,0)):=by rw [Hid,HSR.out,if_neg (by simp [hf0])]
        have HRP : Hid (∀ e w',RePost W6 W6.heap.size (some ⟨g,o,none⟩) Lc L F e w' → e = .returned (.bool true) ∧ ∃ i last v,scOf v = F.1 ∧ SR W6 W6.heap.size (some ⟨g,o,none⟩) Lc L i last v 0 0 w'):=fun e w' h=>h.1 hf0
        clear hf0
        go_upto_region 15 with (go_at_call 25;refine (HPA.out _ HB6.out).mono ?_;intro e W7 h7;obtain ⟨rfl,i7,last7,v,hv,hsr⟩:=HRP.out _ _ h7;have HV:=Lib.hid hv;have HSR7:=Lib.hid hsr;clear h7 hv hsr)
        have hO0:=HO0.out.below (bmore HB6.out HSR7.out.bel)
        have hO1:=HO1.out.below (bmore HB6.out HSR7.out.bel)
        have hO9:=HO9.out.below HSR7.out.bel
        have HP0:=Lib.hid hO0
        have HP1:=Lib.hid hO1
        have s6:=hO0.lt
        have s7:=hO1.lt
        have a0:=(hO0).cell 0 _ rfl;have a1:=(hO0).cell 1 _ rfl;have a2:=(hO0).cell 2 _ rfl;have a3:=(hO0).cell 3 _ rfl;have a4:=(hO0).cell 4 _ rfl;have a5:=(hO0).cell 5 _ rfl;have a6:=(hO0).cell 6 _ rfl;have a7:=(hO0).cell 7 _ rfl;have g0:=(hO0).free 0;have g1:=(hO0).free 1;have g2:=(hO0).free 2;have g3:=(hO0).free 3;have g4:=(hO0).free 4;have g5:=(hO0).free 5;have g6:=(hO0).free 6;have g7:=(hO0).free 7
        have b0:=(hO1).cell 0 _ rfl;have b1:=(hO1).cell 1 _ rfl;have b2:=(hO1).cell 2 _ rfl;have p0:=(hO1).free 0;have p1:=(hO1).free 1;have p2:=(hO1).free 2
        have n0:=hO9.cell 0 _ rfl
        have n1:=hO9.cell 1 _ rfl
        have n2:=hO9.cell 2 _ rfl
        have n3:=hO9.cell 3 _ rfl
        have n4:=hO9.cell 4 _ rfl
        have n5:=hO9.cell 5 _ rfl
        have n6:=hO9.cell 6 _ rfl
        have n7:=hO9.cell 7 _ rfl
        have r3:=HSR7.out.ob.cell 3 _ rfl
        have r4:=HSR7.out.ob.cell 4 _ rfl
        have r5:=HSR7.out.ob.cell 5 _ rfl
        have q1 : ¬ W6.heap.size = w.heap.size:=by have:=HNX.out;have:=HSZ6.out;omega
        have q2 : ¬ w.heap.size = W6.heap.size:=fun e=>q1 e.symm
        have q3 : ¬ W6.heap.size = w.heap.size + 1:=by have:=HNX.out;have:=HSZ6.out;omega
        have q4 : ¬ w.heap.size + 1 = W6.heap.size:=fun e=>q3 e.symm
        have q5 : ¬ W5.heap.size = w.heap.size:=by have:=HNX.out;have:=HSZ.out;omega
        have q6 : ¬ w.heap.size = W5.heap.size:=fun e=>q5 e.symm
        have q7 : ¬ W5.heap.size = w.heap.size + 1:=by have:=HNX.out;have:=HSZ.out;omega
        have q8 : ¬ w.heap.size + 1 = W5.heap.size:=fun e=>q7 e.symm
        clear hO0 hO1 hO9
        go_region
        all_goals
         go_wp2_with fail
         refine bodyPost_ret (v:=.tuple #[(.agg #[.int .i64 c.cats,.slice c.g.a c.g.l.length c.g.cap,.slice c.r.a c.r.l.length c.r.cap,.slice c.p.a c.p.l.length c.p.cap,.slice c.n.a c.n.l.length c.n.cap,.slice c.s.a c.s.l.length c.s.cap,.int .i64 c.gate,.int .i64 c.quota]),(.agg #[.slice v.ia v.im.length v.ic,.slice v.sa v.se.length v.sc,.slice v.na v.inp.length v.nc]),.int .i64 0,.int .i64 0]) (by simp [results,Tryz.results8,go_sem,a0,a1,a2,a3,a4,a5,a6,a7,b0,b1,b2,s6,s7]) rfl ?_
         refine HG.out c v _ (by rw [HSR.out,HPC.out,HV.out]) ?_ ?_ ((((((((((((bmore HB2.out (bmore HB6.out HSR7.out.bel)).setCell (Nat.le_refl _) _).setCell (Nat.le_refl _) _).setCell (Nat.le_refl _) _).setCell (Nat.le_refl _) _).setCell (Nat.le_refl _) _).setCell (Nat.le_refl _) _).setCell (Nat.le_refl _) _).setCell (Nat.le_refl _) _).setCell (Nat.le_succ _) _).setCell (Nat.le_succ _) _).setCell (Nat.le_succ _) _).drew
         ·exact cfg_other (HOK.out.below HSR7.out.bel) HNC.out (by have:=HNX.out;omega) HNX.out (upd_put (upd_put (upd_put (upd_put (upd_put (upd_put (upd_put (upd_put (Upd.refl _ _))))))))) (upd_put (upd_put (upd_put (Upd.refl _ _)))).drew
         ·exact HSR7.out.other HP0.out HP1.out (upd_put (upd_put (upd_put (upd_put (upd_put (upd_put (upd_put (upd_put (Upd.refl _ _))))))))) (upd_put (upd_put (upd_put (Upd.refl _ _)))).drew
       ·have HZ:=fun w' h=>Lib.hid (HZ.out F.2.1 F.2.2 w' (by rw [HSR.out,if_pos hf0]) h)
        have HRP : Hid (∀ e w',RePost W6 W6.heap.size (some ⟨g,o,none⟩) Lc L F e w' → e = .returned (.bool false) ∧ ∃ i last v,SR W6 W6.heap.size (some ⟨g,o,none⟩) Lc L i last v F.2.1 F.2.2 w'):=fun e w' h=>h.2 hf0
        clear hf0
        go_upto_region 14 with (go_at_call 25;refine (HPA.out _ HB6.out).mono ?_;intro e W7 h7;obtain ⟨rfl,i7,last7,v,hsr⟩:=HRP.out _ _ h7;have HSR7:=Lib.hid hsr;clear h7 hsr)
        have hO0:=HO0.out.below (bmore HB6.out HSR7.out.bel)
        have hO1:=HO1.out.below (bmore HB6.out HSR7.out.bel)
        have s6:=hO0.lt
        have s7:=hO1.lt
        have a0:=(hO0).cell 0 _ rfl;have a1:=(hO0).cell 1 _ rfl;have a2:=(hO0).cell 2 _ rfl;have a3:=(hO0).cell 3 _ rfl;have a4:=(hO0).cell 4 _ rfl;have a5:=(hO0).cell 5 _ rfl;have a6:=(hO0).cell 6 _ rfl;have a7:=(hO0).cell 7 _ rfl;have g0:=(hO0).free 0;have g1:=(hO0).free 1;have g2:=(hO0).free 2;have g3:=(hO0).free 3;have g4:=(hO0).free 4;have g5:=(hO0).free 5;have g6:=(hO0).free 6;have g7:=(hO0).free 7
        have b0:=(hO1).cell 0 _ rfl;have b1:=(hO1).cell 1 _ rfl;have b2:=(hO1).cell 2 _ rfl;have p0:=(hO1).free 0;have p1:=(hO1).free 1;have p2:=(hO1).free 2
        have r6:=HSR7.out.ob.cell 6 _ rfl
        have r7:=HSR7.out.ob.cell 7 _ rfl
        have q0:=HO1.out.lt
        have q1 : ¬ W6.heap.size = w.heap.size:=by have:=HNX.out;have:=HSZ6.out;omega
        have q2 : ¬ w.heap.size = W6.heap.size:=fun e=>q1 e.symm
        have q3 : ¬ W6.heap.size = w.heap.size + 1:=by have:=HNX.out;have:=HSZ6.out;omega
        have q4 : ¬ w.heap.size + 1 = W6.heap.size:=fun e=>q3 e.symm
        clear hO0 hO1 q0
        go_region
        all_goals
         go_wp2_with fail
         (refine bodyPost_ret (v:=.tuple #[.agg #[.int .i64 0,.slice none 0 0,.slice none 0 0,.slice none 0 0,.slice none 0 0,.slice none 0 0,.int .i64 0,.int .i64 0],.agg #[.slice none 0 0,.slice none 0 0,.slice none 0 0],.int .i64 F.2.1,.int .i64 F.2.2]) (by simp [results,Tryz.results8,go_sem,a0,a1,a2,a3,a4,a5,a6,a7,b0,b1,b2,s6,s7]) rfl ?_)
         exact (HZ _ ((((((((((((bmore HB2.out (bmore HB6.out HSR7.out.bel)).setCell (Nat.le_refl _) _).setCell (Nat.le_refl _) _).setCell (Nat.le_refl _) _).setCell (Nat.le_refl _) _).setCell (Nat.le_refl _) _).setCell (Nat.le_refl _) _).setCell (Nat.le_refl _) _).setCell (Nat.le_refl _) _).setCell (Nat.le_succ _) _).setCell (Nat.le_succ _) _).setCell (Nat.le_succ _) _).drew).out
      ·have z9 : (pe != 0) = true:=by simp [hp0]
       have HZ:=fun w' h=>Lib.hid (HZ.out pe pa w' (by rw [HSR.out,if_pos hp0]) h)
       have hO0:=HO0.out.below HB6.out
       have hO1:=HO1.out.below HB6.out
       have s6:=hO0.lt
       have s7:=hO1.lt
       have a0:=(hO0).cell 0 _ rfl;have a1:=(hO0).cell 1 _ rfl;have a2:=(hO0).cell 2 _ rfl;have a3:=(hO0).cell 3 _ rfl;have a4:=(hO0).cell 4 _ rfl;have a5:=(hO0).cell 5 _ rfl;have a6:=(hO0).cell 6 _ rfl;have a7:=(hO0).cell 7 _ rfl;have g0:=(hO0).free 0;have g1:=(hO0).free 1;have g2:=(hO0).free 2;have g3:=(hO0).free 3;have g4:=(hO0).free 4;have g5:=(hO0).free 5;have g6:=(hO0).free 6;have g7:=(hO0).free 7
       have b0:=(hO1).cell 0 _ rfl;have b1:=(hO1).cell 1 _ rfl;have b2:=(hO1).cell 2 _ rfl;have p0:=(hO1).free 0;have p1:=(hO1).free 1;have p2:=(hO1).free 2
       clear hp0 hO0 hO1
       go_wp2_with fail
       (refine bodyPost_ret (v:=.tuple #[.agg #[.int .i64 0,.slice none 0 0,.slice none 0 0,.slice none 0 0,.slice none 0 0,.slice none 0 0,.int .i64 0,.int .i64 0],.agg #[.slice none 0 0,.slice none 0 0,.slice none 0 0],.int .i64 pe,.int .i64 pa]) (by simp [results,Tryz.results8,go_sem,a0,a1,a2,a3,a4,a5,a6,a7,b0,b1,b2,s6,s7]) rfl ?_)
       exact (HZ _ ((((((((((((bmore HB2.out HB6.out).setCell (Nat.le_refl _) _).setCell (Nat.le_refl _) _).setCell (Nat.le_refl _) _).setCell (Nat.le_refl _) _).setCell (Nat.le_refl _) _).setCell (Nat.le_refl _) _).setCell (Nat.le_refl _) _).setCell (Nat.le_refl _) _).setCell (Nat.le_succ _) _).setCell (Nat.le_succ _) _).setCell (Nat.le_succ _) _)).out
     ·have d2 : decide ((k : Int) < (L.length : Int)) = false:=decide_eq_false (by omega)
      have d2' : decide (k < L.length) = false:=decide_eq_false hlt
      have HB3:=HBE
      clear hgo
      go_upto_region 9 with fail
      go_upto_region 10 with (first | (go_at_call 24;refine (HTX.out _ HB3.out).mono ?_;rintro e W4 ⟨rfl,hb4⟩;have HB4:=Lib.hid (bmore HB3.out hb4);clear hb4) | (go_at_call 23;refine (HPP.out _ HB4.out).mono ?_;intro e W5 hp;obtain ⟨c,hnc,rfl,hok,hpcc,hb5⟩:=HPS.out _ _ _ hp;have HB5:=Lib.hid (bmore HB4.out hb5);have HNC:=Lib.hid hnc;have HOK:=Lib.hid hok;have HPC:=Lib.hid hpcc;have HSZ:=Lib.hid hb5.size;clear hp hnc hok hpcc hb5))
      obtain ⟨W6,hW6⟩ : ∃ W6,W6 = W5.alloc (.cells #[.int .i64 c.cats,.slice c.g.a c.g.l.length c.g.cap,.slice c.r.a c.r.l.length c.r.cap,.slice c.p.a c.p.l.length c.p.cap,.slice c.n.a c.n.l.length c.n.cap,.slice c.s.a c.s.l.length c.s.cap,.int .i64 c.gate,.int .i64 c.quota] 29):=⟨_,rfl⟩
      rw [← hW6]
      have HO9 : Hid (ObjAt W6 W5.heap.size 29 #[.int .i64 c.cats,.slice c.g.a c.g.l.length c.g.cap,.slice c.r.a c.r.l.length c.r.cap,.slice c.p.a c.p.l.length c.p.cap,.slice c.n.a c.n.l.length c.n.cap,.slice c.s.a c.s.l.length c.s.cap,.int .i64 c.gate,.int .i64 c.quota].toList):=by rw [hW6];exact ObjAt.new W5 _ _
      have hb6 : Below W5.heap.size W5 W6:=by rw [hW6];exact (Below.refl _ _).alloc (Nat.le_refl _) _
      have HB6:=Lib.hid (bmore HB5.out hb6)
      have HOK:=Lib.hid (HOK.out.below hb6)
      have HNX : Hid (w.heap.size + 1 < W4.heap.size):=Nat.lt_of_lt_of_le HO1.out.lt HB4.out.size
      have HSZ6 : Hid (W4.heap.size < W6.heap.size):=Nat.lt_of_le_of_lt HSZ.out (by rw [hW6];simp)
      clear hW6 hb6
      by_cases hp0 : pe = 0
      ·have z9 : (pe != 0) = false:=by simp [hp0]
       have HSR : Hid (scV l = if F.2.1 ≠ 0 then (pcZ,sc0,F.2.1,F.2.2) else (pc,F.1,0,0)):=by rw [Hid,HSR.out,if_neg (by simp [hp0])]
       clear hp0
       by_cases hf0 : F.2.1 = 0
       ·have HSR : Hid (scV l = (pc,F.1,0,0)):=by rw [Hid,HSR.out,if_neg (by simp [hf0])]
        have HRP : Hid (∀ e w',RePost W6 W6.heap.size La Lc L F e w' → e = .returned (.bool true) ∧ ∃ i last v,scOf v = F.1 ∧ SR W6 W6.heap.size La Lc L i last v 0 0 w'):=fun e w' h=>h.1 hf0
        clear hf0
        go_upto_region 15 with (go_at_call 25;refine (HPA.out _ HB6.out).mono ?_;intro e W7 h7;obtain ⟨rfl,i7,last7,v,hv,hsr⟩:=HRP.out _ _ h7;have HV:=Lib.hid hv;have HSR7:=Lib.hid hsr;clear h7 hv hsr)
        have hO0:=HO0.out.below (bmore HB6.out HSR7.out.bel)
        have hO1:=HO1.out.below (bmore HB6.out HSR7.out.bel)
        have hO9:=HO9.out.below HSR7.out.bel
        have HP0:=Lib.hid hO0
        have HP1:=Lib.hid hO1
        have s6:=hO0.lt
        have s7:=hO1.lt
        have a0:=(hO0).cell 0 _ rfl;have a1:=(hO0).cell 1 _ rfl;have a2:=(hO0).cell 2 _ rfl;have a3:=(hO0).cell 3 _ rfl;have a4:=(hO0).cell 4 _ rfl;have a5:=(hO0).cell 5 _ rfl;have a6:=(hO0).cell 6 _ rfl;have a7:=(hO0).cell 7 _ rfl;have g0:=(hO0).free 0;have g1:=(hO0).free 1;have g2:=(hO0).free 2;have g3:=(hO0).free 3;have g4:=(hO0).free 4;have g5:=(hO0).free 5;have g6:=(hO0).free 6;have g7:=(hO0).free 7
        have b0:=(hO1).cell 0 _ rfl;have b1:=(hO1).cell 1 _ rfl;have b2:=(hO1).cell 2 _ rfl;have p0:=(hO1).free 0;have p1:=(hO1).free 1;have p2:=(hO1).free 2
        have n0:=hO9.cell 0 _ rfl
        have n1:=hO9.cell 1 _ rfl
        have n2:=hO9.cell 2 _ rfl
        have n3:=hO9.cell 3 _ rfl
        have n4:=hO9.cell 4 _ rfl
        have n5:=hO9.cell 5 _ rfl
        have n6:=hO9.cell 6 _ rfl
        have n7:=hO9.cell 7 _ rfl
        have r3:=HSR7.out.ob.cell 3 _ rfl
        have r4:=HSR7.out.ob.cell 4 _ rfl
        have r5:=HSR7.out.ob.cell 5 _ rfl
        have q1 : ¬ W6.heap.size = w.heap.size:=by have:=HNX.out;have:=HSZ6.out;omega
        have q2 : ¬ w.heap.size = W6.heap.size:=fun e=>q1 e.symm
        have q3 : ¬ W6.heap.size = w.heap.size + 1:=by have:=HNX.out;have:=HSZ6.out;omega
        have q4 : ¬ w.heap.size + 1 = W6.heap.size:=fun e=>q3 e.symm
        have q5 : ¬ W5.heap.size = w.heap.size:=by have:=HNX.out;have:=HSZ.out;omega
        have q6 : ¬ w.heap.size = W5.heap.size:=fun e=>q5 e.symm
        have q7 : ¬ W5.heap.size = w.heap.size + 1:=by have:=HNX.out;have:=HSZ.out;omega
        have q8 : ¬ w.heap.size + 1 = W5.heap.size:=fun e=>q7 e.symm
        clear hO0 hO1 hO9
        go_region
        all_goals
         go_wp2_with fail
         refine bodyPost_ret (v:=.tuple #[(.agg #[.int .i64 c.cats,.slice c.g.a c.g.l.length c.g.cap,.slice c.r.a c.r.l.length c.r.cap,.slice c.p.a c.p.l.length c.p.cap,.slice c.n.a c.n.l.length c.n.cap,.slice c.s.a c.s.l.length c.s.cap,.int .i64 c.gate,.int .i64 c.quota]),(.agg #[.slice v.ia v.im.length v.ic,.slice v.sa v.se.length v.sc,.slice v.na v.inp.length v.nc]),.int .i64 0,.int .i64 0]) (by simp [results,Tryz.results8,go_sem,a0,a1,a2,a3,a4,a5,a6,a7,b0,b1,b2,s6,s7]) rfl ?_
         refine HG.out c v _ (by rw [HSR.out,HPC.out,HV.out]) ?_ ?_ ((((((((((((bmore HB2.out (bmore HB6.out HSR7.out.bel)).setCell (Nat.le_refl _) _).setCell (Nat.le_refl _) _).setCell (Nat.le_refl _) _).setCell (Nat.le_refl _) _).setCell (Nat.le_refl _) _).setCell (Nat.le_refl _) _).setCell (Nat.le_refl _) _).setCell (Nat.le_refl _) _).setCell (Nat.le_succ _) _).setCell (Nat.le_succ _) _).setCell (Nat.le_succ _) _).drew
         ·exact cfg_other (HOK.out.below HSR7.out.bel) HNC.out (by have:=HNX.out;omega) HNX.out (upd_put (upd_put (upd_put (upd_put (upd_put (upd_put (upd_put (upd_put (Upd.refl _ _))))))))) (upd_put (upd_put (upd_put (Upd.refl _ _)))).drew
         ·exact HSR7.out.other HP0.out HP1.out (upd_put (upd_put (upd_put (upd_put (upd_put (upd_put (upd_put (upd_put (Upd.refl _ _))))))))) (upd_put (upd_put (upd_put (Upd.refl _ _)))).drew
       ·have HZ:=fun w' h=>Lib.hid (HZ.out F.2.1 F.2.2 w' (by rw [HSR.out,if_pos hf0]) h)
        have HRP : Hid (∀ e w',RePost W6 W6.heap.size La Lc L F e w' → e = .returned (.bool false) ∧ ∃ i last v,SR W6 W6.heap.size La Lc L i last v F.2.1 F.2.2 w'):=fun e w' h=>h.2 hf0
        clear hf0
        go_upto_region 14 with (go_at_call 25;refine (HPA.out _ HB6.out).mono ?_;intro e W7 h7;obtain ⟨rfl,i7,last7,v,hsr⟩:=HRP.out _ _ h7;have HSR7:=Lib.hid hsr;clear h7 hsr)
        have hO0:=HO0.out.below (bmore HB6.out HSR7.out.bel)
        have hO1:=HO1.out.below (bmore HB6.out HSR7.out.bel)
        have s6:=hO0.lt
        have s7:=hO1.lt
        have a0:=(hO0).cell 0 _ rfl;have a1:=(hO0).cell 1 _ rfl;have a2:=(hO0).cell 2 _ rfl;have a3:=(hO0).cell 3 _ rfl;have a4:=(hO0).cell 4 _ rfl;have a5:=(hO0).cell 5 _ rfl;have a6:=(hO0).cell 6 _ rfl;have a7:=(hO0).cell 7 _ rfl;have g0:=(hO0).free 0;have g1:=(hO0).free 1;have g2:=(hO0).free 2;have g3:=(hO0).free 3;have g4:=(hO0).free 4;have g5:=(hO0).free 5;have g6:=(hO0).free 6;have g7:=(hO0).free 7
        have b0:=(hO1).cell 0 _ rfl;have b1:=(hO1).cell 1 _ rfl;have b2:=(hO1).cell 2 _ rfl;have p0:=(hO1).free 0;have p1:=(hO1).free 1;have p2:=(hO1).free 2
        have r6:=HSR7.out.ob.cell 6 _ rfl
        have r7:=HSR7.out.ob.cell 7 _ rfl
        have q0:=HO1.out.lt
        have q1 : ¬ W6.heap.size = w.heap.size:=by have:=HNX.out;have:=HSZ6.out;omega
        have q2 : ¬ w.heap.size = W6.heap.size:=fun e=>q1 e.symm
        have q3 : ¬ W6.heap.size = w.heap.size + 1:=by have:=HNX.out;have:=HSZ6.out;omega
        have q4 : ¬ w.heap.size + 1 = W6.heap.size:=fun e=>q3 e.symm
        clear hO0 hO1 q0
        go_region
        all_goals
         go_wp2_with fail
         (refine bodyPost_ret (v:=.tuple #[.agg #[.int .i64 0,.slice none 0 0,.slice none 0 0,.slice none 0 0,.slice none 0 0,.slice none 0 0,.int .i64 0,.int .i64 0],.agg #[.slice none 0 0,.slice none 0 0,.slice none 0 0],.int .i64 F.2.1,.int .i64 F.2.2]) (by simp [results,Tryz.results8,go_sem,a0,a1,a2,a3,a4,a5,a6,a7,b0,b1,b2,s6,s7]) rfl ?_)
         exact (HZ _ ((((((((((((bmore HB2.out (bmore HB6.out HSR7.out.bel)).setCell (Nat.le_refl _) _).setCell (Nat.le_refl _) _).setCell (Nat.le_refl _) _).setCell (Nat.le_refl _) _).setCell (Nat.le_refl _) _).setCell (Nat.le_refl _) _).setCell (Nat.le_refl _) _).setCell (Nat.le_refl _) _).setCell (Nat.le_succ _) _).setCell (Nat.le_succ _) _).setCell (Nat.le_succ _) _).drew).out
      ·have z9 : (pe != 0) = true:=by simp [hp0]
       have HZ:=fun w' h=>Lib.hid (HZ.out pe pa w' (by rw [HSR.out,if_pos hp0]) h)
       have hO0:=HO0.out.below HB6.out
       have hO1:=HO1.out.below HB6.out
       have s6:=hO0.lt
       have s7:=hO1.lt
       have a0:=(hO0).cell 0 _ rfl;have a1:=(hO0).cell 1 _ rfl;have a2:=(hO0).cell 2 _ rfl;have a3:=(hO0).cell 3 _ rfl;have a4:=(hO0).cell 4 _ rfl;have a5:=(hO0).cell 5 _ rfl;have a6:=(hO0).cell 6 _ rfl;have a7:=(hO0).cell 7 _ rfl;have g0:=(hO0).free 0;have g1:=(hO0).free 1;have g2:=(hO0).free 2;have g3:=(hO0).free 3;have g4:=(hO0).free 4;have g5:=(hO0).free 5;have g6:=(hO0).free 6;have g7:=(hO0).free 7
       have b0:=(hO1).cell 0 _ rfl;have b1:=(hO1).cell 1 _ rfl;have b2:=(hO1).cell 2 _ rfl;have p0:=(hO1).free 0;have p1:=(hO1).free 1;have p2:=(hO1).free 2
       clear hp0 hO0 hO1
       go_wp2_with fail
       (refine bodyPost_ret (v:=.tuple #[.agg #[.int .i64 0,.slice none 0 0,.slice none 0 0,.slice none 0 0,.slice none 0 0,.slice none 0 0,.int .i64 0,.int .i64 0],.agg #[.slice none 0 0,.slice none 0 0,.slice none 0 0],.int .i64 pe,.int .i64 pa]) (by simp [results,Tryz.results8,go_sem,a0,a1,a2,a3,a4,a5,a6,a7,b0,b1,b2,s6,s7]) rfl ?_)
       exact (HZ _ ((((((((((((bmore HB2.out HB6.out).setCell (Nat.le_refl _) _).setCell (Nat.le_refl _) _).setCell (Nat.le_refl _) _).setCell (Nat.le_refl _) _).setCell (Nat.le_refl _) _).setCell (Nat.le_refl _) _).setCell (Nat.le_refl _) _).setCell (Nat.le_refl _) _).setCell (Nat.le_succ _) _).setCell (Nat.le_succ _) _).setCell (Nat.le_succ _) _)).out
end Go.Proofs.YtoklonmiejdgmaaGreatDoor
/- The law of plan: the same configurations. -/
namespace Go.Proofs.YtoklonmiejdgmaaGreatDoor
set_option linter.unusedVariables false
set_option linter.unusedSimpArgs false
set_option linter.unnecessarySimpa false
open Go.RowKit Go.Sort
set_option maxHeartbeats 4000000
set_option maxRecDepth 100000
set_option linter.unusedVariables false
end Go.Proofs.YtoklonmiejdgmaaGreatDoor
/- The law of script: the same scripts, configurations alike. -/
namespace Go.Proofs.YtoklonmiejdgmaaGreatDoor
set_option linter.unusedVariables false
set_option linter.unusedSimpArgs false
set_option linter.unnecessarySimpa false
open Go.RowKit Go.Sort
set_option maxHeartbeats 4000000
set_option maxRecDepth 100000
set_option linter.unusedVariables false
theorem flat_get {α β : Type} (f : α → List β) (N : Nat) (hN : ∀ x,(f x).length = N) : ∀ (l : List α) (k : Nat) (hk : k < l.length) (j : Nat),j < N → (l.map f).flatten[k * N + j]? = (f l[k])[j]?
 | x :: r,0,_,j,hj=>by
  rw [List.map_cons,List.flatten_cons,List.getElem?_append_left (by rw [hN];omega)];simp
 | x :: r,k + 1,hk,j,hj=>by
  have:=flat_get f N hN r k (by simpa using hk) j hj
  rw [List.map_cons,List.flatten_cons,List.getElem?_append_right (by rw [hN,Nat.succ_mul];omega),hN,show (k + 1) * N + j - N = k * N + j by rw [Nat.succ_mul];omega,this];rfl
theorem Rd.get {W : World} {size n : Nat} {a : Option Addr} {xs : List Value} (h : Rd W size a n xs) (hn : 0 < n) (hs : 0 < size) : ∃ g o,a = some ⟨g,o,none⟩ ∧ g < W.heap.size ∧ ∀ j u,xs[j]? = some u → W.cell? ⟨g,o + j,none⟩ = some u:=by
 cases a with
 | none=>have:=h.2.1 rfl;omega
 | some p=>
  obtain ⟨b,o,rfl,hb,hc⟩:=h.2.2 p rfl (by intro e;have h1:=h.1;rw [e,List.length_nil] at h1;have:=Nat.mul_pos hn hs;omega)
  exact ⟨b,o,rfl,hb,hc⟩
theorem ScOk.im_at {W : World} {v : Sv} (h : ScOk W v) (k : Nat) (hk : k < v.im.length) : ∃ g o,v.ia = some ⟨g,o,none⟩ ∧ ∀ W',Below W.heap.size W W' → W'.cell? ⟨g,o + k,none⟩ = some (.slice v.im[k].a v.im[k].l.length v.im[k].cap):=by
 obtain ⟨g,o,e,hg,hc⟩:=h.im.get (by omega) (by decide)
 exact ⟨g,o,e,fun W' hb=>by rw [hb.cell (p:=⟨g,o + k,none⟩) hg];exact hc k _ (by simp [imC,hk])⟩
theorem ScOk.se_at {W : World} {v : Sv} (h : ScOk W v) (k : Nat) (hk : k < v.se.length) : ∃ g o,v.sa = some ⟨g,o,none⟩ ∧ ∀ W',Below W.heap.size W W' → ∀ j u,j < 2 → (seR v.se[k])[j]? = some u → W'.cell? ⟨g,o + k * 2 + j,none⟩ = some u:=by
 obtain ⟨g,o,e,hg,hc⟩:=h.se.get (by omega) (by decide)
 exact ⟨g,o,e,fun W' hb j u hj hu=>by rw [hb.cell (p:=⟨g,o + k * 2 + j,none⟩) hg,Nat.add_assoc];exact hc _ _ (by rw [seC,flat_get seR 2 (fun _=>rfl) v.se k hk j hj];exact hu)⟩
theorem ScOk.in_at {W : World} {v : Sv} (h : ScOk W v) (k : Nat) (hk : k < v.inp.length) : ∃ g o,v.na = some ⟨g,o,none⟩ ∧ ∀ W',Below W.heap.size W W' → ∀ j u,j < 5 → (inR v.inp[k])[j]? = some u → W'.cell? ⟨g,o + k * 5 + j,none⟩ = some u:=by
 obtain ⟨g,o,e,hg,hc⟩:=h.inp.get (by omega) (by decide)
 exact ⟨g,o,e,fun W' hb j u hj hu=>by rw [hb.cell (p:=⟨g,o + k * 5 + j,none⟩) hg,Nat.add_assoc];exact hc _ _ (by rw [inC,flat_get inR 5 (fun _=>rfl) v.inp k hk j hj];exact hu)⟩
end Go.Proofs.YtoklonmiejdgmaaGreatDoor
/- Package script: fits, a sector's line, an image's lines. -/
namespace Go.Proofs.YtoklonmiejdgmaaGreatDoor.Sp
set_option linter.unusedVariables false
set_option linter.unusedSimpArgs false
set_option linter.unnecessarySimpa false
open Go.RowKit Go.Sort
set_option maxHeartbeats 4000000
set_option maxRecDepth 100000
set_option linter.unusedVariables false
theorem rdw_new (W : World) (L : List (List UInt8)) (h : L.length ≤ 1000000) : RdW (W.alloc (.cells (strC L).toArray 9)) (some ⟨W.heap.size,0,none⟩) L.length L:=by
 have ho:=ObjAt.new W 9 (strC L)
 refine ⟨⟨by rw [strC_len,Nat.mul_one],(fun h=>by cases h),fun p hp _=>?_⟩,Nat.le_refl _,by unfold maxLen;omega⟩
 injection hp with hp
 exact ⟨W.heap.size,0,hp.symm,by simp,fun j u hu=>by rw [Nat.zero_add];exact ho.cell j u hu⟩
theorem fits_any (g : Nat) (l : List Int) (hl : l.length ≤ 1000) (W : World) (hc : ∀ k (hk : k < l.length),W.cell? ⟨g,k,none⟩ = some (.int .i64 l[k])) :
  Calls Tryz.prog 70 #[.slice (some ⟨g,0,none⟩) l.length l.length] W fun e w'=>e = .returned (.bool (l.all fitB)) ∧ w' = W:=by
 have HN : Hid (∀ k (hk : k < l.length),fitB l[k] = false → l.all fitB = false):=fun k hk h=>by
  rw [List.all_eq_false];exact ⟨l[k],List.getElem_mem hk,by rw [h];simp⟩
 have HY : Hid ((∀ k (hk : k < l.length),fitB l[k] = true) → l.all fitB = true):=fun h=>by
  rw [List.all_eq_true];intro x hx
  obtain ⟨k,hk,rfl⟩:=List.mem_iff_getElem.1 hx
  exact h k hk
 obtain ⟨R,hR⟩ : ∃ R,R = l.all fitB:=⟨_,rfl⟩
 rw [← hR] at HN HY ⊢
 clear hR
 have HC:=Lib.hid hc
 clear hc
 go_enter Tryz.func70,Tryz.ntmps70
 go_upto_region 2 with fail
 go_loop [7] (fun z=>∃ k : Nat,k ≤ l.length ∧ z = .int .i64 k ∧ ∀ j (hj : j < l.length),j < k → fitB l[j] = true) (fun z=>l.length - (intOf z).toNat)
 case atStart=>exact ⟨0,by omega,rfl,fun j _ h=>by omega⟩
 case round=>
  obtain ⟨k,hk,rfl,hb⟩:=hrel
  have HB:=Lib.hid hb
  clear hb
  by_cases hlt : k < l.length
  ·have c:=HC.out k hlt
   obtain ⟨x,hx⟩ : ∃ x,Hid (x = l[k]):=⟨_,Lib.hid rfl⟩
   rw [← hx.out] at c
   have d1 : decide ((k : Int) < (l.length : Int)) = true:=decide_eq_true (by omega)
   have d1' : decide (k < l.length) = true:=decide_eq_true hlt
   have w1 : IntKind.i64.wrap ((k : Int) + 1) = (k : Int) + 1:=by rw [IntKind.wrap_i64];omega
   by_cases hx0 : x < 0
   ·have HF:=Lib.hid (HN.out k hlt (by rw [← hx.out,fitB];simp;omega))
    have e1 : decide (x < 0) = true:=decide_eq_true hx0
    go_wp2_with fail
    go_ret
    exact ⟨by rw [HF.out];rfl,rfl⟩
   ·have e1 : decide (x < 0) = false:=decide_eq_false hx0
    by_cases hx1 : 999999999 < x
    ·have HF:=Lib.hid (HN.out k hlt (by rw [← hx.out,fitB];simp;omega))
     have e2 : decide (x > 999999999) = true:=decide_eq_true hx1
     go_wp2_with fail
     go_ret
     exact ⟨by rw [HF.out];rfl,rfl⟩
    ·have e2 : decide (x > 999999999) = false:=decide_eq_false hx1
     have HB2 : Hid (∀ j (hj : j < l.length),j < k + 1 → fitB l[j] = true):=fun j hj h=>by
      by_cases e : j = k
      ·subst e;rw [← hx.out];exact fitB_iff.2 ⟨by omega,by omega⟩
      ·exact HB.out j hj (by omega)
     go_wp2_with fail
     go_round
     case rel=>exact ⟨k + 1,by omega,by go_num,HB2.out⟩
     case measure=>simp [intOf];omega
  ·obtain rfl : k = l.length:=by omega
   have d1 : decide ((l.length : Int) < (l.length : Int)) = false:=decide_eq_false (by omega)
   have HF:=Lib.hid (HY.out fun j hj=>HB.out j hj hj)
   go_wp2_with fail
   go_ret
   exact ⟨by rw [HF.out];rfl,rfl⟩
theorem PgIs.lt {w : World} {B b : Nat} {l : List UInt8} (h : PgIs w B b l) : b < w.heap.size:=by
 rcases h with ⟨_,v,h2,_⟩ | ⟨_,v,h2,_⟩ <;> exact (Array.getElem?_eq_some_iff.1 h2).1
/-- What a line leaves that may be none. -/
def SmPost (w : World) (b : Nat) (t : List UInt8) (W : World) (r : Option (List UInt8)) (e : Ending) (w' : World) : Prop:=match r with
 | some m=>e = .returned (.bool true) ∧ PG w b (t ++ m) w' ∧ Kept b W w'
 | none=>e = .returned (.bool false) ∧ PG w b t w' ∧ Kept b W w'
theorem ssector_any (x : Int × List UInt8) (hd : x.2.length ≤ 1048576) (w : World) (b : Nat) (t : List UInt8) (W : World) (hg : PG w b t W) (ht : t.length ≤ 100000000000000) :
  Calls Tryz.prog 39 #[.pointer (some ⟨b,0,none⟩),.agg #[.int .i64 x.1,.string (ba x.2)]] W (SmPost w b t W (if fitB x.1 then some (lnT (secW x)) else none)):=by
 obtain ⟨at_,d⟩:=x
 simp only at hd ⊢
 have HLEN:=Lib.hid (fun h=>secT_len (x:=(at_,d)) h hd)
 obtain ⟨W1,hW1⟩ : ∃ W1,W1 = W.alloc (.cells #[.int .i64 at_,.string (ba d)] 72):=⟨_,rfl⟩
 obtain ⟨b1,hb1⟩ : ∃ b1,b1 = W.heap.size:=⟨_,rfl⟩
 have HO1 : Hid (ObjAt W1 b1 72 [.int .i64 at_,.string (ba d)]):=by rw [hW1,hb1];exact ObjAt.new W _ _
 have hbw : Below W.heap.size W W1:=by rw [hW1];exact (Below.refl _ _).alloc (Nat.le_refl _) _
 have HG1:=Lib.hid (hg.more hbw)
 have HK1:=Lib.hid (Kept.ofBelow (b:=b) hbw)
 have HW1:=Lib.hid hW1
 have HBB:=Lib.hid hb1
 obtain ⟨W2,hW2⟩ : ∃ W2,W2 = W1.alloc (.cells #[.int .i64 at_] 3):=⟨_,rfl⟩
 have hb2 : Below W1.heap.size W1 W2:=by rw [hW2];exact (Below.refl _ _).alloc (Nat.le_refl _) _
 have HG2:=Lib.hid (HG1.out.more hb2)
 have HK2:=Lib.hid (HK1.out.trans (Kept.ofBelow hb2))
 have HO2:=Lib.hid (HO1.out.below hb2)
 have hf0 : Calls Tryz.prog 70 #[.slice (some ⟨W1.heap.size,0,none⟩) 1 1] W2 fun e w'=>e = .returned (.bool (fitB at_)) ∧ w' = W2:=by
  have:=fits_any W1.heap.size [at_] (by simp) W2 (fun k hk=>by
   have ho : ObjAt W2 W1.heap.size 3 [.int .i64 at_]:=by rw [hW2];exact ObjAt.new W1 _ _
   have : k = 0:=by simpa using hk
   subst this;exact ho.cell 0 _ rfl)
  simpa using this
 have HF:=Lib.hid hf0
 have HNE : Hid (b1 ≠ b):=by have:=hg.pg.lt;rw [Hid,hb1];omega
 have HW2:=Lib.hid hW2
 clear hW1 hb1 hW2 hg hbw hb2 hf0
 cases hf : fitB at_
 ·have HF : Hid (Calls Tryz.prog 70 #[.slice (some ⟨W1.heap.size,0,none⟩) 1 1] W2 fun e w'=>e = .returned (.bool false) ∧ w' = W2):=by rw [← hf];exact HF.out
  rw [if_neg (by simp)]
  clear hf hd
  obtain ⟨P,hP⟩ : ∃ P,P = SmPost w b t W none:=⟨_,rfl⟩
  have HPP : Hid (∀ w',PG w b t w' → Kept b W w' → P (.returned (.bool false)) w'):=fun w' h1 h2=>by rw [hP];exact ⟨rfl,h1,h2⟩
  rw [← hP]
  clear hP
  go_enter Tryz.func39,Tryz.ntmps39
  go_upto_region 1 with fail
  rw [← HW1.out,← HBB.out]
  have c0:=HO1.out.cell 0 _ rfl
  have c1:=HO1.out.cell 1 _ rfl
  go_wp2_with (go_at_call 70;rw [← HW2.out];refine HF.out.mono ?_;rintro e w3 ⟨rfl,rfl⟩)
  exact HPP.out _ HG2.out HK2.out
 ·have HF : Hid (Calls Tryz.prog 70 #[.slice (some ⟨W1.heap.size,0,none⟩) 1 1] W2 fun e w'=>e = .returned (.bool true) ∧ w' = W2):=by rw [← hf];exact HF.out
  rw [if_pos rfl]
  obtain ⟨P,hP⟩ : ∃ P,P = SmPost w b t W (some (lnT (secW (at_,d)))):=⟨_,rfl⟩
  have HPP : Hid (∀ w',PG w b (t ++ lnT (secW (at_,d))) w' → Kept b W w' → P (.returned (.bool true)) w'):=fun w' h1 h2=>by rw [hP];exact ⟨rfl,h1,h2⟩
  rw [← hP]
  clear hP
  obtain ⟨f0,f1⟩:=fitB_iff.1 hf
  have HIT:=fun W=>Lib.hid (itoa_dc at_ f0 (by omega) W)
  have HHX:=fun W=>Lib.hid (hex_any (ba d) (by rw [ba_size];omega) W)
  rw [ba_data] at HHX
  have HJL:=Lib.hid (HLEN.out hf)
  have HLN : Hid (∀ W',PG w b t W' → Calls Tryz.prog 69 #[.pointer (some ⟨b,0,none⟩),.slice (some ⟨W'.heap.size,0,none⟩) 3 3] (W'.alloc (.cells #[.string ⟨#[115,101,99,116,111,114]⟩,.string (ba (dc at_)),.string (ba (hexV d))] 9)) (LinePost w b (t ++ lnT (secW (at_,d))) (W'.alloc (.cells #[.string ⟨#[115,101,99,116,111,114]⟩,.string (ba (dc at_)),.string (ba (hexV d))] 9)))):=fun W' hg'=>by
   exact sline_any W'.heap.size 0 3 (secW (at_,d)) w b t _ (hg'.more ((Below.refl _ _).alloc (Nat.le_refl _) _)) (rdw_new W' (secW (at_,d)) (by simp [secW])) (by simp [secW]) (by have:=HJL.out;omega) (by simp [secW]) ht
  clear hf hd HLEN
  have HGd : Hid (PG w b t W2.drew):=HG2.out.more (Below.refl _ _).drew
  have HKd : Hid (Kept b W W2.drew):=HK2.out.trans (Kept.ofBelow (Below.refl _ _).drew)
  have HOd : Hid (ObjAt W2.drew b1 72 [.int .i64 at_,.string (ba d)]):=HO2.out.below (Below.refl _ _).drew
  go_enter Tryz.func39,Tryz.ntmps39
  go_upto_region 1 with fail
  rw [← HW1.out,← HBB.out]
  have c0:=HO1.out.cell 0 _ rfl
  have c1:=HO1.out.cell 1 _ rfl
  go_upto_region 3 with (go_at_call 70;rw [← HW2.out];refine HF.out.mono ?_;rintro e w3 ⟨rfl,rfl⟩)
  clear c0 c1
  go_region_held3 (fun W'=>W'.cell? ⟨b1,0,none⟩ = some (.int .i64 at_) ∧ W'.cell? ⟨b1,1,none⟩ = some (.string (ba d))) (first | exact ⟨HOd.out.cell 0 _ rfl,HOd.out.cell 1 _ rfl⟩ | exact ⟨(HOd.out.below ((Below.refl _ _).alloc (Nat.le_refl _) _)).cell 0 _ rfl,(HOd.out.below ((Below.refl _ _).alloc (Nat.le_refl _) _)).cell 1 _ rfl⟩ | exact ⟨HOe.out.cell 0 _ rfl,HOe.out.cell 1 _ rfl⟩) (first | (go_at_call 71;refine ((HIT _).out HGd.out.powW).mono ?_;rintro e W4 ⟨rfl,hb⟩;have HOd:=Lib.hid (HOd.out.below hb);have HKd:=Lib.hid (HKd.out.trans (Kept.ofBelow hb));have HGd:=Lib.hid (HGd.out.more hb);clear hb) | (go_at_call 12;refine ((HHX _).out).mono ?_;rintro e W5 ⟨rfl,hb⟩;have HOd:=Lib.hid (HOd.out.below hb);have HKd:=Lib.hid (HKd.out.trans (Kept.ofBelow hb));have HGd:=Lib.hid (HGd.out.more hb);clear hb) | (go_at_call 69;refine (HLN.out _ HGd.out).mono ?_;rintro e W6 ⟨rfl,h5,h6⟩;have HGE:=Lib.hid h5;have HOe:=Lib.hid (h6.obj (HOd.out.below ((Below.refl _ _).alloc (Nat.le_refl _) _)) HNE.out (by decide));have HKE:=Lib.hid ((HKd.out.trans (Kept.ofBelow ((Below.refl _ _).alloc (Nat.le_refl _) _))).trans h6);clear h5 h6))
  all_goals
   go_wp2_with fail
   exact HPP.out _ HGE.out HKE.out
end Go.Proofs.YtoklonmiejdgmaaGreatDoor.Sp
/- Package script: what an input's line is put by. -/
namespace Go.Proofs.YtoklonmiejdgmaaGreatDoor.Sp
set_option linter.unusedVariables false
set_option linter.unusedSimpArgs false
set_option linter.unnecessarySimpa false
open Go.RowKit Go.Sort
set_option maxHeartbeats 4000000
set_option maxRecDepth 100000
set_option linter.unusedVariables false
theorem info_st : (Tryz.prog.info? 9).map (fun i=>(i.zero,i.size,i.bytes)) = some (some (.string ⟨#[]⟩),1,16):=by kernel_rfl
theorem own_strs (W : World) (B : Nat) (hB : B ≤ W.heap.size) (L : List (List UInt8)) (hl : L.length ≤ maxLen) : Own (W.alloc (.cells (strC L).toArray 9)) B 9 1 (some ⟨W.heap.size,0,none⟩) L.length L.length (strC L):=
 ⟨by rw [strC_len,Nat.mul_one],.inr ⟨W.heap.size,L.length,(strC L).toArray,rfl,hB,new_block _ _ _ rfl,Nat.le_refl _,hl,by rw [List.size_toArray,strC_len,Nat.mul_one],by rw [Nat.mul_one,List.take_of_length_le (by rw [strC_len];exact Nat.le_refl _)]⟩⟩
theorem strC_cat (A B : List (List UInt8)) : strC (A ++ B) = strC A ++ strC B:=by simp [strC]
theorem one_strs (L : List (List UInt8)) : ∀ u ∈ strC L,u.oneCell' = true:=fun u hu=>by
 obtain ⟨x,_,rfl⟩:=List.mem_map.1 hu;rfl
theorem step_rd {P : Program} {w : World} {ops : Array Oper} {o : Oper} {a : Act} {K : Act → World → Prop} {Q : Exit → Act → World → Prop} {F : Prop} (hgd : o.guard = none) (s x : Operand) (t : TypeId)
  (ho : o.op = .call { callee:=.builtin .append,args:=#[s,x],argTypes:=#[t,t] })
  (B : Nat) (e : TypeId) (i : TypeInfo) (z : Value) (size bytes : Nat) (ht : P.underlying t = some (.slice e)) (hi : P.info? e = some i) (hz : i.zero = some z)
  (hsize : i.size = size) (hby : i.bytes = bytes) (hzs : z.cells.size = size) (hsz : 0 < size)
  (A : Option Addr) (n cap : Nat) (xs : List Value) (hs : a.eval s = .slice A n cap) (hown : Own w B e size A n cap xs)
  (g of m c : Nat) (news : List Value) (hx : a.eval x = .slice (some ⟨g,of,none⟩) m c) (hr : Rd w size (some ⟨g,of,none⟩) m news) (h1 : ∀ u ∈ news,u.oneCell' = true)
  (hm : 0 < m) (h63 : n + m ≤ maxLen) (hbytes : (n + m) * bytes ≤ 140737488355328) (hbase : B ≤ w.heap.size)
  (h : ∀ g' cap' w',Own w' B e size (some ⟨g',0,none⟩) (n + m) cap' (xs ++ news) → Mod (blk A) w w' → (g' ∈ blk A ∨ w.heap.size ≤ g') → K (a.put o.dst (.slice (some ⟨g',0,none⟩) (n + m) cap')) w') :
  if Region.wanted o (yielded ops a.tmps) = true then Oper.wp P o a w K Q else F:=by
 have hn : ∀ j u,news[j]? = some u → w.cell? ((⟨g,of,none⟩ : Addr).add j) = some u:=fun j u hu=>by
  obtain ⟨b,o',hb0,hb,hc⟩:=hr.2.2 _ rfl (by intro h0;subst h0;simp at hu)
  injection hb0 with e1 e2
  subst e1;subst e2
  have e : (⟨g,of,none⟩ : Addr).add j = ⟨g,of + j,none⟩:=by unfold Addr.add;split <;> simp_all
  rw [e];exact hc j u hu
 refine step_append_lies w hgd s x t ho B e i z size bytes ht hi hz hsize hby hzs hsz (.slice A n cap) n xs hs hown ⟨g,of,none⟩ m c news hx hr.1 hn h1 hm h63 hbytes hbase w.heap.size rfl ?_
 intro g' cap' w' h2 h3 h4 h5
 refine h g' cap' w' h2 (Mod.ofGrown h3 (fun k hk=>?_)) ?_
 ·cases A with
  | none=>simp [Value.ownBlock] at hk
  | some p=>exact mem_blk.2 ⟨p,rfl,by simpa [Value.ownBlock] using hk⟩
 ·rcases h4 with h4 | h4
  ·left
   cases A with
   | none=>simp [Value.ownBlock] at h4
   | some p=>exact mem_blk.2 ⟨p,rfl,by simpa [Value.ownBlock] using h4⟩
  ·right;omega
/-- The boxes that the writer of an input's line holds. -/
structure BX (W : World) (b b2 b3 : Nat) (x : Int × Int × Int × Int × List UInt8) : Prop where
 o2 : ObjAt W b2 88 [.pointer (some ⟨b,0,none⟩)]
 o3 : ObjAt W b3 74 (inR x)
 n2 : b2 ≠ b
 n3 : b3 ≠ b
theorem BX.below {W W' : World} {b b2 b3 : Nat} {x : Int × Int × Int × Int × List UInt8} (h : BX W b b2 b3 x) (hb : Below W.heap.size W W') : BX W' b b2 b3 x:=⟨h.o2.below hb,h.o3.below hb,h.n2,h.n3⟩
theorem BX.kept {W W' : World} {b b2 b3 : Nat} {x : Int × Int × Int × Int × List UInt8} (h : BX W b b2 b3 x) (hk : Kept b W W') : BX W' b b2 b3 x:=⟨hk.obj h.o2 h.n2 (by decide),hk.obj h.o3 h.n3 (by decide),h.n2,h.n3⟩
theorem BX.cells {W : World} {b b2 b3 : Nat} {x : Int × Int × Int × Int × List UInt8} (h : BX W b b2 b3 x) : W.cell? ⟨b2,0,none⟩ = some (.pointer (some ⟨b,0,none⟩)) ∧ W.cell? ⟨b3,0,none⟩ = some (.int .i64 x.1) ∧ W.cell? ⟨b3,1,none⟩ = some (.int .i64 x.2.1):=
 ⟨h.o2.cell 0 _ rfl,h.o3.cell 0 _ rfl,h.o3.cell 1 _ rfl⟩
theorem sput_any (x : Int × Int × Int × Int × List UInt8) (h0 : fitB x.1 = true) (h1 : fitB x.2.1 = true) (r : List (List UInt8)) (g o cap : Nat) (w : World) (b : Nat) (t : List UInt8) (W : World) (hg : PG w b t W) (hr : RdW W (some ⟨g,o,none⟩) cap r) (b2 b3 : Nat) (hx : BX W b b2 b3 x) (hr0 : 0 < r.length) (hrl : r.length ≤ 100)
  (hjl : (joinC 32 ([wInput,dc x.1,dc x.2.1] ++ r)).length ≤ 1000000000) (ht : t.length ≤ 100000000000000) :
  Calls Tryz.prog 72 #[.slice (some ⟨g,o,none⟩) r.length cap,.pointer (some ⟨b2,0,none⟩),.pointer (some ⟨b3,0,none⟩)] W (LinePost w b (t ++ lnT ([wInput,dc x.1,dc x.2.1] ++ r)) W):=by
 obtain ⟨i0,hi0,hz0,hz1,hz2⟩:=info_parts info_st
 obtain ⟨x0,x1,x2,x3,xd⟩:=x
 simp only at h0 h1 hjl ⊢
 obtain ⟨f0,f1⟩:=fitB_iff.1 h0
 obtain ⟨g0,g1⟩:=fitB_iff.1 h1
 have hgb:=hg.bel.size
 have HGd:=Lib.hid (hg.more (Below.refl _ _).drew)
 have HKd : Hid (Kept b W W.drew):=Lib.hid (Kept.ofBelow (Below.refl _ _).drew)
 have HXd:=Lib.hid (hx.below (Below.refl _ _).drew)
 have HRd:=Lib.hid (hr.below (Below.refl _ _).drew)
 have HJL:=Lib.hid hjl
 have hle:=hr.le
 have hmx:=hr.mx
 unfold maxLen at hmx
 have HLN : Hid (∀ (g' : Nat) c' W',PG w b t W' → Own W' W.heap.size 9 1 (some ⟨g',0,none⟩) (3 + r.length) c' (strC [wInput,dc x0,dc x1] ++ strC r) → Calls Tryz.prog 69 #[.pointer (some ⟨b,0,none⟩),.slice (some ⟨g',0,none⟩) (3 + r.length) c'] W' (LinePost w b (t ++ lnT ([wInput,dc x0,dc x1] ++ r)) W')):=fun g' c' W' hg' ho=>by
  have hlen : ([wInput,dc x0,dc x1] ++ r).length = 3 + r.length:=by simp;omega
  have hrd : RdW W' (some ⟨g',0,none⟩) c' ([wInput,dc x0,dc x1] ++ r):=⟨by rw [strC_cat,hlen];exact ho.rd,by rw [hlen];exact ho.le,ho.capMax⟩
  have:=sline_any g' 0 c' ([wInput,dc x0,dc x1] ++ r) w b t W' hg' hrd (by simp) (by have:=HJL.out;omega) (by rw [hlen];omega) ht
  rw [hlen] at this;exact this
 have HOW : Hid (∀ W' : World,W.heap.size ≤ W'.heap.size → Own (W'.alloc (.cells #[.string ⟨#[105,110,112,117,116]⟩,.string (ba (dc x0)),.string (ba (dc x1))] 9)) W.heap.size 9 1 (some ⟨W'.heap.size,0,none⟩) 3 3 (strC [wInput,dc x0,dc x1])):=fun W' h=>own_strs W' W.heap.size h [wInput,dc x0,dc x1] (by simp [maxLen])
 have HBd:=Lib.hid (show W.heap.size ≤ W.drew.heap.size from Nat.le_refl _)
 clear hg hr hx hjl h0 h1
 go_enter Tryz.func72,Tryz.ntmps72
 go_wp2_with fail
 go_region_held3 (fun W'=>W'.cell? ⟨b2,0,none⟩ = some (.pointer (some ⟨b,0,none⟩)) ∧ W'.cell? ⟨b3,0,none⟩ = some (.int .i64 x0) ∧ W'.cell? ⟨b3,1,none⟩ = some (.int .i64 x1)) (first | exact HXd.out.cells | exact (HXd.out.below ((Below.refl _ _).alloc (Nat.le_refl _) _)).cells | exact HXe.out.cells | exact HXf.out.cells) (first | (go_at_call 71;(with_reducible refine (itoa_dc x0 f0 (by omega) _ HGd.out.powW).mono ?_);rintro e W4 ⟨rfl,hb⟩;have HXd:=Lib.hid (HXd.out.below hb);have HKd:=Lib.hid (HKd.out.trans (Kept.ofBelow hb));have HRd:=Lib.hid (HRd.out.below hb);have HBd:=Lib.hid (Nat.le_trans HBd.out hb.size);have HGd:=Lib.hid (HGd.out.more hb);clear hb) | (go_at_call 71;(with_reducible refine (itoa_dc x1 g0 (by omega) _ HGd.out.powW).mono ?_);rintro e W5 ⟨rfl,hb⟩;have HXd:=Lib.hid (HXd.out.below hb);have HKd:=Lib.hid (HKd.out.trans (Kept.ofBelow hb));have HRd:=Lib.hid (HRd.out.below hb);have HBd:=Lib.hid (Nat.le_trans HBd.out hb.size);have HGd:=Lib.hid (HGd.out.more hb);clear hb) | ((refine step_rd (by rfl) (.tmp 11) (.tmp 12) 54 (by rfl) W.heap.size 9 i0 _ 1 16 Tryz.underlying54 hi0 hz0 hz1 hz2 rfl (by omega) _ 3 3 (strC [wInput,dc x0,dc x1]) rfl (HOW.out _ HBd.out) g o r.length cap (strC r) rfl (HRd.out.below ((Below.refl _ _).alloc (Nat.le_refl _) _)).rd (one_strs r) hr0 (by simp only [maxLen];omega) (by omega) (Nat.le_trans HBd.out (by simp)) ?_);intro g7 c' W7 hown hmod _;have HOo:=Lib.hid hown;have hbw:=hmod.below (B:=W5.heap.size) (fun k hk=>by simp [blk] at hk;omega) (by simp);have HB7:=Lib.hid hbw;have HGe:=Lib.hid (HGd.out.more (((Below.refl _ _).alloc (Nat.le_refl _) _).trans hbw));have HXe:=Lib.hid (HXd.out.below (((Below.refl _ _).alloc (Nat.le_refl _) _).trans hbw));have HKe:=Lib.hid (HKd.out.trans (Kept.ofBelow (((Below.refl _ _).alloc (Nat.le_refl _) _).trans hbw)));have HL7:=Lib.hid (HLN.out _ _ _ HGe.out HOo.out);clear hown hmod hbw) | (go_at_call 69;refine HL7.out.mono ?_;rintro e W8 ⟨rfl,h5,h6⟩;have HGE:=Lib.hid h5;have HXf:=Lib.hid (HXe.out.kept h6);have HKE:=Lib.hid (HKe.out.trans h6);clear h5 h6))
 all_goals
  go_wp2_with fail
  go_end0
  exact ⟨rfl,HGE.out,HKE.out⟩
end Go.Proofs.YtoklonmiejdgmaaGreatDoor.Sp
/- Package script: an input's line. -/
namespace Go.Proofs.YtoklonmiejdgmaaGreatDoor.Sp
set_option linter.unusedVariables false
set_option linter.unusedSimpArgs false
set_option linter.unnecessarySimpa false
open Go.RowKit Go.Sort
set_option maxHeartbeats 4000000
set_option maxRecDepth 100000
set_option linter.unusedVariables false
theorem sinput_any (x : Int × Int × Int × Int × List UInt8) (hd : x.2.2.2.2.length ≤ 1048576) (w : World) (b : Nat) (t : List UInt8) (W : World) (hg : PG w b t W) (ht : t.length ≤ 100000000000000) :
  Calls Tryz.prog 40 #[.pointer (some ⟨b,0,none⟩),.agg #[.int .i64 x.1,.int .i64 x.2.1,.int .i64 x.2.2.1,.int .i64 x.2.2.2.1,.string (ba x.2.2.2.2)]] W (SmPost w b t W ((inpW x).map lnT)):=by
 obtain ⟨x0,x1,k,n,d⟩:=x
 simp only at hd ⊢
 obtain ⟨W1,hW1⟩ : ∃ W1,W1 = W.alloc (.cells #[.pointer (some ⟨b,0,none⟩)] 88):=⟨_,rfl⟩
 obtain ⟨W2,hW2⟩ : ∃ W2,W2 = W1.alloc (.cells #[.int .i64 x0,.int .i64 x1,.int .i64 k,.int .i64 n,.string (ba d)] 74):=⟨_,rfl⟩
 obtain ⟨W3,hW3⟩ : ∃ W3,W3 = W2.alloc (.cells #[.int .i64 x0,.int .i64 x1,.int .i64 n] 3):=⟨_,rfl⟩
 obtain ⟨b2,hb2⟩ : ∃ b2,b2 = W.heap.size:=⟨_,rfl⟩
 obtain ⟨b3,hb3⟩ : ∃ b3,b3 = W.heap.size + 1:=⟨_,rfl⟩
 have hz1 : W1.heap.size = W.heap.size + 1:=by rw [hW1];simp
 have hbw1 : Below W.heap.size W W1:=by rw [hW1];exact ((Below.refl _ _).alloc (Nat.le_refl _) _)
 have hbw2 : Below W1.heap.size W1 W2:=by rw [hW2];exact ((Below.refl _ _).alloc (Nat.le_refl _) _)
 have hbw3 : Below W2.heap.size W2 W3:=by rw [hW3];exact ((Below.refl _ _).alloc (Nat.le_refl _) _)
 have hlt:=hg.pg.lt
 have hx2 : BX W2 b b2 b3 (x0,x1,k,n,d):=by
  refine ⟨?_,?_,by omega,by omega⟩
  ·have : ObjAt W1 b2 88 [.pointer (some ⟨b,0,none⟩)]:=by rw [hW1,hb2];exact ObjAt.new W _ _
   exact this.below hbw2
  ·rw [hb3,← hz1,hW2];exact ObjAt.new W1 _ _
 have HX2:=Lib.hid hx2
 have HX3:=Lib.hid (hx2.below hbw3)
 have HG3:=Lib.hid (((hg.more hbw1).more hbw2).more hbw3)
 have HK3 : Hid (Kept b W W3):=Lib.hid (((Kept.ofBelow hbw1).trans (Kept.ofBelow hbw2)).trans (Kept.ofBelow hbw3))
 have hf0 : Calls Tryz.prog 70 #[.slice (some ⟨W2.heap.size,0,none⟩) 3 3] W3 fun e w'=>e = .returned (.bool (fitB x0 && (fitB x1 && fitB n))) ∧ w' = W3:=by
  have:=fits_any W2.heap.size [x0,x1,n] (by simp) W3 (fun j hj=>by
   have ho : ObjAt W3 W2.heap.size 3 [.int .i64 x0,.int .i64 x1,.int .i64 n]:=by rw [hW3];exact ObjAt.new W2 _ _
   have : j = 0 ∨ j = 1 ∨ j = 2:=by simp at hj;omega
   rcases this with rfl | rfl | rfl
   ·exact ho.cell 0 _ rfl
   ·exact ho.cell 1 _ rfl
   ·exact ho.cell 2 _ rfl)
  simpa using this
 have HB2:=Lib.hid hb2
 have HB3:=Lib.hid hb3
 have HW3:=Lib.hid hW3
 rw [hW1] at hW2
 have HW2:=Lib.hid hW2
 clear hW1 hW2 hW3 hb2 hb3 hz1 hbw1 hbw2 hbw3 hlt hx2 hg
 cases hf : (fitB x0 && (fitB x1 && fitB n))
 ·rw [hf] at hf0
  have HF:=Lib.hid hf0
  have HSM : Hid (inpW (x0,x1,k,n,d) = none):=by rw [Hid,inpW];rw [if_neg (by simp only;rw [hf];simp)]
  rw [HSM.out]
  obtain ⟨P,hP⟩ : ∃ P,P = SmPost w b t W (Option.map lnT none):=⟨_,rfl⟩
  have HPP : Hid (∀ w',PG w b t w' → Kept b W w' → P (.returned (.bool false)) w'):=fun w' h1 h2=>by rw [hP];exact ⟨rfl,h1,h2⟩
  rw [← hP]
  clear hP HSM hf hf0 hd
  go_enter Tryz.func40,Tryz.ntmps40
  go_upto_region 1 with fail
  rw [← HW2.out,← HB3.out,← HB2.out]
  (have c0:=(HX2.out).o3.cell 0 _ rfl;have c1:=(HX2.out).o3.cell 1 _ rfl;have c2:=(HX2.out).o3.cell 2 _ rfl;have c3:=(HX2.out).o3.cell 3 _ rfl;have c4:=(HX2.out).o3.cell 4 _ rfl)
  go_wp2_with (go_at_call 70;rw [← HW3.out];refine HF.out.mono ?_;rintro e w3 ⟨rfl,rfl⟩)
  exact HPP.out _ HG3.out HK3.out
 ·rw [hf] at hf0
  have HF:=Lib.hid hf0
  have HIW:=Lib.hid (inpW_of (k:=k) (d:=d) hf)
  simp only [Bool.and_eq_true] at hf
  have F0:=Lib.hid hf.1
  have F1:=Lib.hid hf.2.1
  obtain ⟨n0,n1⟩:=fitB_iff.1 hf.2.2
  have bx:=ba_isEmpty d
  have HDE : Hid (d.isEmpty = true ↔ d = []):=List.isEmpty_iff
  clear hf0 hf
  by_cases hA : k = 0 ∧ n = 0
  ·obtain ⟨hk,hn⟩:=hA
   have HSM : Hid (inpW (x0,x1,k,n,d) = some ([wInput,dc x0,dc x1] ++ [wPacket,hexV d])):=by rw [Hid,HIW.out,tailW,if_pos ⟨hk,hn⟩];rfl
   obtain ⟨RR,hRR⟩ : ∃ RR,RR = [wPacket,hexV d]:=⟨_,rfl⟩
   have HRL : Hid (0 < RR.length ∧ RR.length ≤ 3):=by rw [hRR];exact ⟨by simp,by simp⟩
   rw [← hRR] at HSM
   rw [HSM.out]
   have z0 : (k == 0) = true:=by simp [hk]
   have z1 : (n == 0) = true:=by simp [hn]
   have HHX:=fun W=>Lib.hid (hex_any (ba d) (by rw [ba_size];omega) W)
   rw [ba_data] at HHX
   have HRR : Hid (#[Value.string ⟨#[112,97,99,107,101,116]⟩,.string (ba (hexV d))] = (strC RR).toArray ∧ 2 = RR.length):=by rw [hRR];exact ⟨rfl,rfl⟩
   clear hk hn hRR
   obtain ⟨P,hP⟩ : ∃ P,P = SmPost w b t W (Option.map lnT (some ([wInput,dc x0,dc x1] ++ RR))):=⟨_,rfl⟩
   have HPP : Hid (∀ w',PG w b (t ++ lnT ([wInput,dc x0,dc x1] ++ RR)) w' → Kept b W w' → P (.returned (.bool true)) w'):=fun w' h1 h2=>by rw [hP];exact ⟨rfl,h1,h2⟩
   rw [← hP]
   have HJL:=Lib.hid (inpT_len HSM.out hd)
   clear hP HSM
   have HPT : Hid (∀ (W' : World) (m : Nat),m = RR.length → PG w b t W' → BX W' b b2 b3 (x0,x1,k,n,d) → Calls Tryz.prog 72 #[.slice (some ⟨W'.heap.size,0,none⟩) m m,.pointer (some ⟨b2,0,none⟩),.pointer (some ⟨b3,0,none⟩)] (W'.alloc (.cells (strC RR).toArray 9)) (LinePost w b (t ++ lnT ([wInput,dc x0,dc x1] ++ RR)) (W'.alloc (.cells (strC RR).toArray 9)))):=fun W' m hm hg' hx'=>by
    subst hm
    exact sput_any (x0,x1,k,n,d) F0.out F1.out RR W'.heap.size 0 RR.length w b t _ (hg'.more ((Below.refl _ _).alloc (Nat.le_refl _) _)) (rdw_new W' RR (by have:=HRL.out;omega)) b2 b3 (hx'.below ((Below.refl _ _).alloc (Nat.le_refl _) _)) HRL.out.1 (by have:=HRL.out;omega) (Nat.le_trans HJL.out (by decide)) ht
   go_enter Tryz.func40,Tryz.ntmps40
   go_upto_region 1 with fail
   rw [← HW2.out,← HB3.out,← HB2.out]
   (have c0:=(HX2.out).o3.cell 0 _ rfl;have c1:=(HX2.out).o3.cell 1 _ rfl;have c2:=(HX2.out).o3.cell 2 _ rfl;have c3:=(HX2.out).o3.cell 3 _ rfl;have c4:=(HX2.out).o3.cell 4 _ rfl)
   go_upto_region 3 with (go_at_call 70;rw [← HW3.out];refine HF.out.mono ?_;rintro e w3 ⟨rfl,rfl⟩)
   (clear c0 c1 c2 c3 c4)
   (have c0:=(HX3.out).o3.cell 0 _ rfl;have c1:=(HX3.out).o3.cell 1 _ rfl;have c2:=(HX3.out).o3.cell 2 _ rfl;have c3:=(HX3.out).o3.cell 3 _ rfl;have c4:=(HX3.out).o3.cell 4 _ rfl)
   go_wp2_with (first | (go_at_call 12;refine ((HHX _).out).mono ?_;rintro e W4 ⟨rfl,hb⟩;have HX4:=Lib.hid (HX3.out.below hb);have HK4:=Lib.hid (HK3.out.trans (Kept.ofBelow hb));have HG4:=Lib.hid (HG3.out.more hb);clear hb;(clear c0 c1 c2 c3 c4)) | (go_at_call 72;rw [HRR.out.1];refine (HPT.out _ 2 HRR.out.2 HG4.out HX4.out).mono ?_;rintro e W5 ⟨rfl,h5,h6⟩;have HG5:=Lib.hid h5;have HK5:=Lib.hid ((HK4.out.trans (Kept.ofBelow ((Below.refl _ _).alloc (Nat.le_refl _) _))).trans h6);clear h5 h6))
   exact HPP.out _ HG5.out HK5.out
  ·by_cases hB : k = 1 ∧ d = []
   ·obtain ⟨hk,hn⟩:=hB
    have HSM : Hid (inpW (x0,x1,k,n,d) = some ([wInput,dc x0,dc x1] ++ [wLine,dc n])):=by rw [Hid,HIW.out,tailW,if_neg hA,if_pos ⟨hk,hn⟩];rfl
    obtain ⟨RR,hRR⟩ : ∃ RR,RR = [wLine,dc n]:=⟨_,rfl⟩
    have HRL : Hid (0 < RR.length ∧ RR.length ≤ 3):=by rw [hRR];exact ⟨by simp,by simp⟩
    rw [← hRR] at HSM
    rw [HSM.out]
    have z0 : (k == 0) = false:=by simp [hk]
    have z1 : (k == 1) = true:=by simp [hk]
    rw [HDE.out.2 hn] at bx
    have HIT:=fun W=>Lib.hid (itoa_dc n n0 (by omega) W)
    have HRR : Hid (#[Value.string ⟨#[108,105,110,101]⟩,.string (ba (dc n))] = (strC RR).toArray ∧ 2 = RR.length):=by rw [hRR];exact ⟨rfl,rfl⟩
    clear hk hn hRR hA
    obtain ⟨P,hP⟩ : ∃ P,P = SmPost w b t W (Option.map lnT (some ([wInput,dc x0,dc x1] ++ RR))):=⟨_,rfl⟩
    have HPP : Hid (∀ w',PG w b (t ++ lnT ([wInput,dc x0,dc x1] ++ RR)) w' → Kept b W w' → P (.returned (.bool true)) w'):=fun w' h1 h2=>by rw [hP];exact ⟨rfl,h1,h2⟩
    rw [← hP]
    have HJL:=Lib.hid (inpT_len HSM.out hd)
    clear hP HSM
    have HPT : Hid (∀ (W' : World) (m : Nat),m = RR.length → PG w b t W' → BX W' b b2 b3 (x0,x1,k,n,d) → Calls Tryz.prog 72 #[.slice (some ⟨W'.heap.size,0,none⟩) m m,.pointer (some ⟨b2,0,none⟩),.pointer (some ⟨b3,0,none⟩)] (W'.alloc (.cells (strC RR).toArray 9)) (LinePost w b (t ++ lnT ([wInput,dc x0,dc x1] ++ RR)) (W'.alloc (.cells (strC RR).toArray 9)))):=fun W' m hm hg' hx'=>by
     subst hm
     exact sput_any (x0,x1,k,n,d) F0.out F1.out RR W'.heap.size 0 RR.length w b t _ (hg'.more ((Below.refl _ _).alloc (Nat.le_refl _) _)) (rdw_new W' RR (by have:=HRL.out;omega)) b2 b3 (hx'.below ((Below.refl _ _).alloc (Nat.le_refl _) _)) HRL.out.1 (by have:=HRL.out;omega) (Nat.le_trans HJL.out (by decide)) ht
    go_enter Tryz.func40,Tryz.ntmps40
    go_upto_region 1 with fail
    rw [← HW2.out,← HB3.out,← HB2.out]
    (have c0:=(HX2.out).o3.cell 0 _ rfl;have c1:=(HX2.out).o3.cell 1 _ rfl;have c2:=(HX2.out).o3.cell 2 _ rfl;have c3:=(HX2.out).o3.cell 3 _ rfl;have c4:=(HX2.out).o3.cell 4 _ rfl)
    go_upto_region 3 with (go_at_call 70;rw [← HW3.out];refine HF.out.mono ?_;rintro e w3 ⟨rfl,rfl⟩)
    (clear c0 c1 c2 c3 c4)
    (have c0:=(HX3.out).o3.cell 0 _ rfl;have c1:=(HX3.out).o3.cell 1 _ rfl;have c2:=(HX3.out).o3.cell 2 _ rfl;have c3:=(HX3.out).o3.cell 3 _ rfl;have c4:=(HX3.out).o3.cell 4 _ rfl)
    go_wp2_with (first | (go_at_call 71;refine ((HIT _).out HG3.out.powW).mono ?_;rintro e W4 ⟨rfl,hb⟩;have HX4:=Lib.hid (HX3.out.below hb);have HK4:=Lib.hid (HK3.out.trans (Kept.ofBelow hb));have HG4:=Lib.hid (HG3.out.more hb);clear hb;(clear c0 c1 c2 c3 c4)) | (go_at_call 72;rw [HRR.out.1];refine (HPT.out _ 2 HRR.out.2 HG4.out HX4.out).mono ?_;rintro e W5 ⟨rfl,h5,h6⟩;have HG5:=Lib.hid h5;have HK5:=Lib.hid ((HK4.out.trans (Kept.ofBelow ((Below.refl _ _).alloc (Nat.le_refl _) _))).trans h6);clear h5 h6))
    exact HPP.out _ HG5.out HK5.out
   ·by_cases hC : k = 2 ∧ n = 0 ∧ d = []
    ·obtain ⟨hk,hn,hdd⟩:=hC
     have HSM : Hid (inpW (x0,x1,k,n,d) = some ([wInput,dc x0,dc x1] ++ [wRestart])):=by rw [Hid,HIW.out,tailW,if_neg hA,if_neg hB,if_pos ⟨hk,hn,hdd⟩];rfl
     obtain ⟨RR,hRR⟩ : ∃ RR,RR = [wRestart]:=⟨_,rfl⟩
     have HRL : Hid (0 < RR.length ∧ RR.length ≤ 3):=by rw [hRR];exact ⟨by simp,by simp⟩
     rw [← hRR] at HSM
     rw [HSM.out]
     have z0 : (k == 0) = false:=by simp [hk]
     have z1 : (k == 1) = false:=by simp [hk]
     have z2 : (k == 2) = true:=by simp [hk]
     have z3 : (n == 0) = true:=by simp [hn]
     rw [HDE.out.2 hdd] at bx
     have HRR : Hid (#[Value.string ⟨#[114,101,115,116,97,114,116]⟩] = (strC RR).toArray ∧ 1 = RR.length):=by rw [hRR];exact ⟨rfl,rfl⟩
     clear hk hn hdd hRR hA hB
     obtain ⟨P,hP⟩ : ∃ P,P = SmPost w b t W (Option.map lnT (some ([wInput,dc x0,dc x1] ++ RR))):=⟨_,rfl⟩
     have HPP : Hid (∀ w',PG w b (t ++ lnT ([wInput,dc x0,dc x1] ++ RR)) w' → Kept b W w' → P (.returned (.bool true)) w'):=fun w' h1 h2=>by rw [hP];exact ⟨rfl,h1,h2⟩
     rw [← hP]
     have HJL:=Lib.hid (inpT_len HSM.out hd)
     clear hP HSM
     have HPT : Hid (∀ (W' : World) (m : Nat),m = RR.length → PG w b t W' → BX W' b b2 b3 (x0,x1,k,n,d) → Calls Tryz.prog 72 #[.slice (some ⟨W'.heap.size,0,none⟩) m m,.pointer (some ⟨b2,0,none⟩),.pointer (some ⟨b3,0,none⟩)] (W'.alloc (.cells (strC RR).toArray 9)) (LinePost w b (t ++ lnT ([wInput,dc x0,dc x1] ++ RR)) (W'.alloc (.cells (strC RR).toArray 9)))):=fun W' m hm hg' hx'=>by
      subst hm
      exact sput_any (x0,x1,k,n,d) F0.out F1.out RR W'.heap.size 0 RR.length w b t _ (hg'.more ((Below.refl _ _).alloc (Nat.le_refl _) _)) (rdw_new W' RR (by have:=HRL.out;omega)) b2 b3 (hx'.below ((Below.refl _ _).alloc (Nat.le_refl _) _)) HRL.out.1 (by have:=HRL.out;omega) (Nat.le_trans HJL.out (by decide)) ht
     go_enter Tryz.func40,Tryz.ntmps40
     go_upto_region 1 with fail
     rw [← HW2.out,← HB3.out,← HB2.out]
     (have c0:=(HX2.out).o3.cell 0 _ rfl;have c1:=(HX2.out).o3.cell 1 _ rfl;have c2:=(HX2.out).o3.cell 2 _ rfl;have c3:=(HX2.out).o3.cell 3 _ rfl;have c4:=(HX2.out).o3.cell 4 _ rfl)
     go_upto_region 3 with (go_at_call 70;rw [← HW3.out];refine HF.out.mono ?_;rintro e w3 ⟨rfl,rfl⟩)
     (clear c0 c1 c2 c3 c4)
     (have c0:=(HX3.out).o3.cell 0 _ rfl;have c1:=(HX3.out).o3.cell 1 _ rfl;have c2:=(HX3.out).o3.cell 2 _ rfl;have c3:=(HX3.out).o3.cell 3 _ rfl;have c4:=(HX3.out).o3.cell 4 _ rfl)
     go_wp2_with (go_at_call 72;rw [HRR.out.1];refine (HPT.out _ 1 HRR.out.2 HG3.out HX3.out).mono ?_;rintro e W5 ⟨rfl,h5,h6⟩;have HG5:=Lib.hid h5;have HK5:=Lib.hid ((HK3.out.trans (Kept.ofBelow ((Below.refl _ _).alloc (Nat.le_refl _) _))).trans h6);clear h5 h6)
     exact HPP.out _ HG5.out HK5.out
    ·by_cases k0 : k = 0
     ·have z0 : (k == 0) = true:=by simp [k0]
      have z1 : (n == 0) = false:=by rw [beq_eq_false_iff_ne];exact fun e=>hA ⟨k0,e⟩
      have z2 : (k == 1) = false:=by simp [k0]
      have z3 : (k == 2) = false:=by simp [k0]
      have HN3:=Lib.hid (And.intro hA (And.intro hB hC))
      clear k0 hA hB hC
      have HSM : Hid (inpW (x0,x1,k,n,d) = none):=by rw [Hid,HIW.out,tailW,if_neg (by first | exact HN3.out.1 | exact HN3.out.2.1 | exact HN3.out.2.2),if_neg (by first | exact HN3.out.1 | exact HN3.out.2.1 | exact HN3.out.2.2),if_neg (by first | exact HN3.out.1 | exact HN3.out.2.1 | exact HN3.out.2.2)];rfl
      rw [HSM.out]
      obtain ⟨P,hP⟩ : ∃ P,P = SmPost w b t W (Option.map lnT none):=⟨_,rfl⟩
      have HPP : Hid (∀ w',PG w b t w' → Kept b W w' → P (.returned (.bool false)) w'):=fun w' h1 h2=>by rw [hP];exact ⟨rfl,h1,h2⟩
      rw [← hP]
      clear hP HSM
      go_enter Tryz.func40,Tryz.ntmps40
      go_upto_region 1 with fail
      rw [← HW2.out,← HB3.out,← HB2.out]
      (have c0:=(HX2.out).o3.cell 0 _ rfl;have c1:=(HX2.out).o3.cell 1 _ rfl;have c2:=(HX2.out).o3.cell 2 _ rfl;have c3:=(HX2.out).o3.cell 3 _ rfl;have c4:=(HX2.out).o3.cell 4 _ rfl)
      go_upto_region 3 with (go_at_call 70;rw [← HW3.out];refine HF.out.mono ?_;rintro e w3 ⟨rfl,rfl⟩)
      (clear c0 c1 c2 c3 c4)
      (have c0:=(HX3.out).o3.cell 0 _ rfl;have c1:=(HX3.out).o3.cell 1 _ rfl;have c2:=(HX3.out).o3.cell 2 _ rfl;have c3:=(HX3.out).o3.cell 3 _ rfl;have c4:=(HX3.out).o3.cell 4 _ rfl)
      go_wp2_with fail
      exact HPP.out _ HG3.out HK3.out
     ·have z0 : (k == 0) = false:=by rw [beq_eq_false_iff_ne];exact k0
      by_cases k1 : k = 1
      ·have z1 : (k == 1) = true:=by simp [k1]
       have z2 : (k == 2) = false:=by simp [k1]
       have hde : d.isEmpty = false:=by rw [Bool.eq_false_iff];exact fun e=>hB ⟨k1,HDE.out.1 e⟩
       rw [hde] at bx
       have HN3:=Lib.hid (And.intro hA (And.intro hB hC))
       clear k0 k1 hA hB hC hde
       have HSM : Hid (inpW (x0,x1,k,n,d) = none):=by rw [Hid,HIW.out,tailW,if_neg (by first | exact HN3.out.1 | exact HN3.out.2.1 | exact HN3.out.2.2),if_neg (by first | exact HN3.out.1 | exact HN3.out.2.1 | exact HN3.out.2.2),if_neg (by first | exact HN3.out.1 | exact HN3.out.2.1 | exact HN3.out.2.2)];rfl
       rw [HSM.out]
       obtain ⟨P,hP⟩ : ∃ P,P = SmPost w b t W (Option.map lnT none):=⟨_,rfl⟩
       have HPP : Hid (∀ w',PG w b t w' → Kept b W w' → P (.returned (.bool false)) w'):=fun w' h1 h2=>by rw [hP];exact ⟨rfl,h1,h2⟩
       rw [← hP]
       clear hP HSM
       go_enter Tryz.func40,Tryz.ntmps40
       go_upto_region 1 with fail
       rw [← HW2.out,← HB3.out,← HB2.out]
       (have c0:=(HX2.out).o3.cell 0 _ rfl;have c1:=(HX2.out).o3.cell 1 _ rfl;have c2:=(HX2.out).o3.cell 2 _ rfl;have c3:=(HX2.out).o3.cell 3 _ rfl;have c4:=(HX2.out).o3.cell 4 _ rfl)
       go_upto_region 3 with (go_at_call 70;rw [← HW3.out];refine HF.out.mono ?_;rintro e w3 ⟨rfl,rfl⟩)
       (clear c0 c1 c2 c3 c4)
       (have c0:=(HX3.out).o3.cell 0 _ rfl;have c1:=(HX3.out).o3.cell 1 _ rfl;have c2:=(HX3.out).o3.cell 2 _ rfl;have c3:=(HX3.out).o3.cell 3 _ rfl;have c4:=(HX3.out).o3.cell 4 _ rfl)
       go_wp2_with fail
       exact HPP.out _ HG3.out HK3.out
      ·have z1 : (k == 1) = false:=by rw [beq_eq_false_iff_ne];exact k1
       by_cases k2 : k = 2
       ·have z2 : (k == 2) = true:=by simp [k2]
        by_cases hn : n = 0
        ·have z3 : (n == 0) = true:=by simp [hn]
         have hde : d.isEmpty = false:=by rw [Bool.eq_false_iff];exact fun e=>hC ⟨k2,hn,HDE.out.1 e⟩
         rw [hde] at bx
         have HN3:=Lib.hid (And.intro hA (And.intro hB hC))
         clear k0 k1 k2 hn hA hB hC hde
         have HSM : Hid (inpW (x0,x1,k,n,d) = none):=by rw [Hid,HIW.out,tailW,if_neg (by first | exact HN3.out.1 | exact HN3.out.2.1 | exact HN3.out.2.2),if_neg (by first | exact HN3.out.1 | exact HN3.out.2.1 | exact HN3.out.2.2),if_neg (by first | exact HN3.out.1 | exact HN3.out.2.1 | exact HN3.out.2.2)];rfl
         rw [HSM.out]
         obtain ⟨P,hP⟩ : ∃ P,P = SmPost w b t W (Option.map lnT none):=⟨_,rfl⟩
         have HPP : Hid (∀ w',PG w b t w' → Kept b W w' → P (.returned (.bool false)) w'):=fun w' h1 h2=>by rw [hP];exact ⟨rfl,h1,h2⟩
         rw [← hP]
         clear hP HSM
         go_enter Tryz.func40,Tryz.ntmps40
         go_upto_region 1 with fail
         rw [← HW2.out,← HB3.out,← HB2.out]
         (have c0:=(HX2.out).o3.cell 0 _ rfl;have c1:=(HX2.out).o3.cell 1 _ rfl;have c2:=(HX2.out).o3.cell 2 _ rfl;have c3:=(HX2.out).o3.cell 3 _ rfl;have c4:=(HX2.out).o3.cell 4 _ rfl)
         go_upto_region 3 with (go_at_call 70;rw [← HW3.out];refine HF.out.mono ?_;rintro e w3 ⟨rfl,rfl⟩)
         (clear c0 c1 c2 c3 c4)
         (have c0:=(HX3.out).o3.cell 0 _ rfl;have c1:=(HX3.out).o3.cell 1 _ rfl;have c2:=(HX3.out).o3.cell 2 _ rfl;have c3:=(HX3.out).o3.cell 3 _ rfl;have c4:=(HX3.out).o3.cell 4 _ rfl)
         go_wp2_with fail
         exact HPP.out _ HG3.out HK3.out
        ·have z3 : (n == 0) = false:=by rw [beq_eq_false_iff_ne];exact hn
         have HN3:=Lib.hid (And.intro hA (And.intro hB hC))
         clear k0 k1 k2 hn hA hB hC
         have HSM : Hid (inpW (x0,x1,k,n,d) = none):=by rw [Hid,HIW.out,tailW,if_neg (by first | exact HN3.out.1 | exact HN3.out.2.1 | exact HN3.out.2.2),if_neg (by first | exact HN3.out.1 | exact HN3.out.2.1 | exact HN3.out.2.2),if_neg (by first | exact HN3.out.1 | exact HN3.out.2.1 | exact HN3.out.2.2)];rfl
         rw [HSM.out]
         obtain ⟨P,hP⟩ : ∃ P,P = SmPost w b t W (Option.map lnT none):=⟨_,rfl⟩
         have HPP : Hid (∀ w',PG w b t w' → Kept b W w' → P (.returned (.bool false)) w'):=fun w' h1 h2=>by rw [hP];exact ⟨rfl,h1,h2⟩
         rw [← hP]
         clear hP HSM
         go_enter Tryz.func40,Tryz.ntmps40
         go_upto_region 1 with fail
         rw [← HW2.out,← HB3.out,← HB2.out]
         (have c0:=(HX2.out).o3.cell 0 _ rfl;have c1:=(HX2.out).o3.cell 1 _ rfl;have c2:=(HX2.out).o3.cell 2 _ rfl;have c3:=(HX2.out).o3.cell 3 _ rfl;have c4:=(HX2.out).o3.cell 4 _ rfl)
         go_upto_region 3 with (go_at_call 70;rw [← HW3.out];refine HF.out.mono ?_;rintro e w3 ⟨rfl,rfl⟩)
         (clear c0 c1 c2 c3 c4)
         (have c0:=(HX3.out).o3.cell 0 _ rfl;have c1:=(HX3.out).o3.cell 1 _ rfl;have c2:=(HX3.out).o3.cell 2 _ rfl;have c3:=(HX3.out).o3.cell 3 _ rfl;have c4:=(HX3.out).o3.cell 4 _ rfl)
         go_wp2_with fail
         exact HPP.out _ HG3.out HK3.out
       ·have z2 : (k == 2) = false:=by rw [beq_eq_false_iff_ne];exact k2
        have HN3:=Lib.hid (And.intro hA (And.intro hB hC))
        clear k0 k1 k2 hA hB hC
        have HSM : Hid (inpW (x0,x1,k,n,d) = none):=by rw [Hid,HIW.out,tailW,if_neg (by first | exact HN3.out.1 | exact HN3.out.2.1 | exact HN3.out.2.2),if_neg (by first | exact HN3.out.1 | exact HN3.out.2.1 | exact HN3.out.2.2),if_neg (by first | exact HN3.out.1 | exact HN3.out.2.1 | exact HN3.out.2.2)];rfl
        rw [HSM.out]
        obtain ⟨P,hP⟩ : ∃ P,P = SmPost w b t W (Option.map lnT none):=⟨_,rfl⟩
        have HPP : Hid (∀ w',PG w b t w' → Kept b W w' → P (.returned (.bool false)) w'):=fun w' h1 h2=>by rw [hP];exact ⟨rfl,h1,h2⟩
        rw [← hP]
        clear hP HSM
        go_enter Tryz.func40,Tryz.ntmps40
        go_upto_region 1 with fail
        rw [← HW2.out,← HB3.out,← HB2.out]
        (have c0:=(HX2.out).o3.cell 0 _ rfl;have c1:=(HX2.out).o3.cell 1 _ rfl;have c2:=(HX2.out).o3.cell 2 _ rfl;have c3:=(HX2.out).o3.cell 3 _ rfl;have c4:=(HX2.out).o3.cell 4 _ rfl)
        go_upto_region 3 with (go_at_call 70;rw [← HW3.out];refine HF.out.mono ?_;rintro e w3 ⟨rfl,rfl⟩)
        (clear c0 c1 c2 c3 c4)
        (have c0:=(HX3.out).o3.cell 0 _ rfl;have c1:=(HX3.out).o3.cell 1 _ rfl;have c2:=(HX3.out).o3.cell 2 _ rfl;have c3:=(HX3.out).o3.cell 3 _ rfl;have c4:=(HX3.out).o3.cell 4 _ rfl)
        go_wp2_with fail
        exact HPP.out _ HG3.out HK3.out
end Go.Proofs.YtoklonmiejdgmaaGreatDoor.Sp
/- Package script: all images' lines. -/
namespace Go.Proofs.YtoklonmiejdgmaaGreatDoor.Sp
set_option linter.unusedVariables false
set_option linter.unusedSimpArgs false
set_option linter.unnecessarySimpa false
open Go.RowKit Go.Sort
set_option maxHeartbeats 4000000
set_option maxRecDepth 100000
set_option linter.unusedVariables false
def ImPost (w : World) (b : Nat) (t : List UInt8) (W : World) (l : List (List Int)) (e : Ending) (w' : World) : Prop:=
 Kept b W w' ∧ (longB l = true → e = .returned (.int .i64 10) ∧ ∃ t',PG w b t' w') ∧ (longB l = false → e = .returned (.int .i64 0) ∧ PG w b (t ++ imgsT l) w')
theorem imgs_take_len (l : List (List Int)) (hw : ∀ r ∈ l,∀ x ∈ r,0 ≤ x ∧ x < 4294967296) (hl : l.length ≤ 1048576) (k : Nat) (hk : k ≤ l.length) (hs : ∀ j (hj : j < l.length),j < k → ¬ 512 < l[j].length) : (imgsT (l.take k)).length ≤ 116000000000:=by
 have:=flatMap_le imgT 110000 (l.take k) (fun x hx=>by
  obtain ⟨j,hj,rfl⟩:=List.mem_iff_getElem.1 hx
  rw [List.length_take] at hj
  rw [List.getElem_take]
  exact imgT_len (hw _ (List.getElem_mem _)) (by have:=hs j (by omega) (by omega);omega))
 rw [List.length_take] at this
 have h2 : min k l.length * 110000 ≤ 1048576 * 110000:=Nat.mul_le_mul_right _ (by omega)
 unfold imgsT;omega
theorem simages_any (v : Sv) (w : World) (hv : ScOk w v) (hm : Mild (scOf v)) (b : Nat) (t : List UInt8) (W : World) (hg : PG w b t W) (ht : t.length ≤ 1000000) :
  Calls Tryz.prog 38 #[.pointer (some ⟨b,0,none⟩),.slice v.ia v.im.length v.ic] W (ImPost w b t W (scOf v).im):=by
 obtain ⟨L,hL⟩ : ∃ L,L = (scOf v).im:=⟨_,rfl⟩
 have hLL : L.length = v.im.length:=by rw [hL];simp [scOf]
 have hLg : ∀ k (h1 : k < v.im.length) (h2 : k < L.length),L[k] = v.im[k].l:=fun k h1 h2=>by subst hL;simp [scOf]
 have hw : ∀ r ∈ L,∀ x ∈ r,0 ≤ x ∧ x < 4294967296:=by rw [hL];exact hm.w
 have hl : L.length ≤ 1048576:=by rw [hL];exact hm.im
 have HLEN:=Lib.hid (imgs_take_len L hw hl)
 obtain ⟨P,hP⟩ : ∃ P,P = ImPost w b t W L:=⟨_,rfl⟩
 have HNO : Hid (∀ k (hk : k < L.length) t' w',512 < L[k].length → PG w b t' w' → Kept b W w' → P (.returned (.int .i64 10)) w'):=fun k hk t' w' h h1 h2=>by
  have hb : longB L = true:=by rw [longB,List.any_eq_true];exact ⟨L[k],List.getElem_mem hk,by simp [h]⟩
  rw [hP];exact ⟨h2,fun _=>⟨rfl,t',h1⟩,fun e=>by rw [hb] at e;cases e⟩
 have HYES : Hid (∀ w',(∀ j (hj : j < L.length),j < L.length → ¬ 512 < L[j].length) → PG w b (t ++ imgsT L) w' → Kept b W w' → P (.returned (.int .i64 0)) w'):=fun w' h h1 h2=>by
  have hb : longB L = false:=by
   rw [longB,List.any_eq_false];intro x hx
   obtain ⟨j,hj,rfl⟩:=List.mem_iff_getElem.1 hx
   have:=h j hj hj;simp;omega
  rw [hP];exact ⟨h2,(fun e=>by rw [hb] at e;cases e),fun _=>⟨rfl,h1⟩⟩
 rw [← hL,← hP]
 have HV:=Lib.hid hv
 have HG0:=Lib.hid hg
 have HK0 : Hid (Kept b W W):=Lib.hid (Kept.refl b W)
 have HT0 : Hid (t ++ imgsT (L.take 0) = t):=by rw [Hid,List.take_zero];simp [imgsT]
 have HLG:=Lib.hid hLg
 have HWD:=Lib.hid hw
 have HLL:=Lib.hid hLL
 have hvl : v.im.length ≤ 1048576:=by omega
 have hle:=hv.iml
 have hmx:=hv.imx
 unfold maxLen at hmx
 have HL1 : Hid (∀ (W' : World) t',PG w b t' W' → t'.length ≤ 100000000000000 → Calls Tryz.prog 69 #[.pointer (some ⟨b,0,none⟩),.slice (some ⟨W'.heap.size,0,none⟩) 1 1] (W'.alloc (.cells #[.string ⟨#[105,109,97,103,101]⟩] 9)) (LinePost w b (t' ++ lnT [wImage]) (W'.alloc (.cells #[.string ⟨#[105,109,97,103,101]⟩] 9)))):=fun W' t' h1 h2=>
  sline_any W'.heap.size 0 1 [wImage] w b t' _ (h1.more ((Below.refl _ _).alloc (Nat.le_refl _) _)) (rdw_new W' [wImage] (by simp)) (by simp) (by simp [joinC,wImage]) (by simp) h2
 have HL2 : Hid (∀ (W' : World) t',PG w b t' W' → t'.length ≤ 100000000000000 → Calls Tryz.prog 69 #[.pointer (some ⟨b,0,none⟩),.slice (some ⟨W'.heap.size,0,none⟩) 1 1] (W'.alloc (.cells #[.string ⟨#[101,110,100]⟩] 9)) (LinePost w b (t' ++ lnT [wEnd]) (W'.alloc (.cells #[.string ⟨#[101,110,100]⟩] 9)))):=fun W' t' h1 h2=>
  sline_any W'.heap.size 0 1 [wEnd] w b t' _ (h1.more ((Below.refl _ _).alloc (Nat.le_refl _) _)) (rdw_new W' [wEnd] (by simp)) (by simp) (by simp [joinC,wEnd]) (by simp) h2
 clear hP hL hLL hLg hw hl hv hm hg
 go_enter Tryz.func38,Tryz.ntmps38
 go_upto_region 2 with fail
 go_loopw [11] (fun i wr=>∃ k : Nat,k ≤ v.im.length ∧ i = .int .i64 k ∧ (∀ j (hj : j < L.length),j < k → ¬ 512 < L[j].length) ∧ PG w b (t ++ imgsT (L.take k)) wr ∧ Kept b W wr) (fun i _=>v.im.length - (intOf i).toNat)
 case atStart=>exact ⟨0,by omega,rfl,(fun j _ h=>by omega),by rw [HT0.out];exact HG0.out,HK0.out⟩
 case round=>
  clear HG0 HK0 HT0
  obtain ⟨k,hk,rfl,hs,hg,hkp⟩:=hrel
  have HS:=Lib.hid hs
  have HG:=Lib.hid hg
  have HK:=Lib.hid hkp
  clear hs hg hkp
  by_cases hlt : k < v.im.length
  ·obtain ⟨g,o,ha,hc⟩:=HV.out.im_at k hlt
   have hrow:=HV.out.row _ (List.getElem_mem hlt)
   have hkL : k < L.length:=by have:=HLL.out;omega
   have hyk:=HLG.out k hlt hkL
   obtain ⟨y,hy⟩ : ∃ y,y = v.im[k]:=⟨_,rfl⟩
   rw [← hy] at hc hrow hyk
   have hyw : ∀ x ∈ y.l,0 ≤ x ∧ x < 4294967296:=by rw [← hyk];exact HWD.out _ (List.getElem_mem hkL)
   have c:=hc wr HG.out.bel
   have HA:=Lib.hid ha
   have hnl : (natL y.l).length = y.l.length:=by simp [natL]
   have HLA : Hid (∀ W',Below w.heap.size w W' → PowIs W' → Isa.Tab W' → Calls Tryz.prog 68 #[.slice y.a y.l.length y.cap] W' fun e w'=>e = .returned (.tuple #[.string (ba (As.lsV (natL y.l))),.int .i64 (As.lsE (natL y.l))]) ∧ Below W'.heap.size W' w'):=fun W' h1 h2 h3=>by
    have:=As.list_asm y.a y.cap (natL y.l) (natL_lt hyw) W' (by rw [natL_uC hyw,hnl];exact hrow.1.below h1) (by rw [hnl];have:=hrow.2.1;have:=hrow.2.2;omega) h2 h3
    rw [hnl] at this;exact this
   have d1 : decide ((k : Int) < (v.im.length : Int)) = true:=decide_eq_true (by omega)
   have d1' : decide (k < v.im.length) = true:=decide_eq_true hlt
   have w1 : IntKind.i64.wrap ((k : Int) + 1) = (k : Int) + 1:=by rw [IntKind.wrap_i64];omega
   rw [ha]
   by_cases h5 : 512 < y.l.length
   ·have HE:=fun w' h1 h2=>Lib.hid (HNO.out k hkL (t ++ imgsT (L.take k)) w' (by rw [hyk];exact h5) h1 h2)
    have HLE : Hid (∀ W',Below w.heap.size w W' → PowIs W' → Isa.Tab W' → Calls Tryz.prog 68 #[.slice y.a y.l.length y.cap] W' fun e w'=>e = .returned (.tuple #[.string (ba []),.int .i64 10]) ∧ Below W'.heap.size W' w'):=fun W' h1 h2 h3=>by
     have:=HLA.out W' h1 h2 h3
     rw [As.lsV,As.lsE,if_pos (by rw [hnl];exact h5),if_pos (by rw [hnl];exact h5)] at this;exact this
    clear ha hc hrow hy hyk hyw hnl h5
    go_wp2_with (go_at_call 68;refine (HLE.out _ HG.out.bel HG.out.powW HG.out.tabW).mono ?_;rintro e W4 ⟨rfl,hb⟩;have HG4:=Lib.hid (HG.out.more hb);have HK4:=Lib.hid (HK.out.trans (Kept.ofBelow hb));clear hb)
    exact (HE _ HG4.out HK4.out).out
   ·have HLE : Hid (∀ W',Below w.heap.size w W' → PowIs W' → Isa.Tab W' → Calls Tryz.prog 68 #[.slice y.a y.l.length y.cap] W' fun e w'=>e = .returned (.tuple #[.string (ba (As.listL (natL y.l))),.int .i64 0]) ∧ Below W'.heap.size W' w'):=fun W' h1 h2 h3=>by
     have:=HLA.out W' h1 h2 h3
     rw [As.lsV,As.lsE,if_neg (by rw [hnl];exact h5),if_neg (by rw [hnl];exact h5)] at this;exact this
    have HS2 : Hid (∀ j (hj : j < L.length),j < k + 1 → ¬ 512 < L[j].length):=fun j hj h=>by
     by_cases e : j = k
     ·subst e;rw [hyk];exact h5
     ·exact HS.out j hj (by omega)
    have HTK : Hid (t ++ imgsT (L.take (k + 1)) = ((t ++ imgsT (L.take k)) ++ lnT [wImage]) ++ As.listL (natL y.l) ++ lnT [wEnd]):=by
     rw [Hid,take_snoc L k hkL,imgsT_snoc,hyk];simp [imgT]
    have hlen:=HLEN.out (k + 1) (by omega) HS2.out
    obtain ⟨T0,hT0⟩ : ∃ T0,T0 = t ++ imgsT (L.take k):=⟨_,rfl⟩
    have hlt0 : (T0 ++ lnT [wImage]).length + (As.listL (natL y.l)).length + (lnT [wEnd]).length ≤ 100000000000000:=by
     have:=congrArg List.length HTK.out
     rw [← hT0] at this
     simp only [List.length_append] at this ⊢;omega
    have HT0:=Lib.hid hT0
    have HG:=Lib.hid (show PG w b T0 wr by rw [hT0];exact HG.out)
    have HU1 : Hid (T0.length ≤ 100000000000000):=by rw [Hid];rw [List.length_append] at hlt0;omega
    have HU2 : Hid ((T0 ++ lnT [wImage]).length + (As.listL (natL y.l)).length ≤ 140737488355328):=by rw [Hid];omega
    have HU3 : Hid (((T0 ++ lnT [wImage]) ++ As.listL (natL y.l)).length ≤ 100000000000000):=by rw [Hid,List.length_append];omega
    rw [← hT0] at HTK
    clear ha hc hrow hy hyk hyw hnl h5 hlen hlt0 hT0
    go_upto_region 7 with (go_at_call 68;refine (HLE.out _ HG.out.bel HG.out.powW HG.out.tabW).mono ?_;rintro e W4 ⟨rfl,hb⟩;have HG4:=Lib.hid (HG.out.more hb);have HK4:=Lib.hid (HK.out.trans (Kept.ofBelow hb));clear hb)
    clear c
    go_upto_region 8 with (go_at_call 69;refine (HL1.out _ _ HG4.out HU1.out).mono ?_;rintro e W5 ⟨rfl,h5,h6⟩;have HG5:=Lib.hid h5;have HK5:=Lib.hid ((HK4.out.trans (Kept.ofBelow ((Below.refl _ _).alloc (Nat.le_refl _) _))).trans h6);clear h5 h6)
    go_upto_region 9 with (go_at_call 37;refine (pg_write HG5.out _ HU2.out).mono ?_;rintro e W6 ⟨rfl,h5,h6⟩;have HG6:=Lib.hid h5;have HK6:=Lib.hid (HK5.out.trans h6);clear h5 h6)
    go_wp2_with (go_at_call 69;refine (HL2.out _ _ HG6.out HU3.out).mono ?_;rintro e W7 ⟨rfl,h5,h6⟩;have HG7:=Lib.hid h5;have HK7:=Lib.hid ((HK6.out.trans (Kept.ofBelow ((Below.refl _ _).alloc (Nat.le_refl _) _))).trans h6);clear h5 h6)
    go_roundw
    case rel=>exact ⟨k + 1,by omega,by go_num,HS2.out,by rw [HTK.out];exact HG7.out,HK7.out⟩
    case measure=>simp [intOf];omega
  ·obtain rfl : k = v.im.length:=by omega
   have d1 : decide ((v.im.length : Int) < (v.im.length : Int)) = false:=decide_eq_false (by omega)
   have HE:=Lib.hid (HYES.out wr (fun j hj h=>HS.out j hj (by have:=HLL.out;omega)) (by have:=HG.out;rw [← HLL.out,List.take_length] at this;exact this) HK.out)
   go_wp2_with fail
   exact HE.out
end Go.Proofs.YtoklonmiejdgmaaGreatDoor.Sp
/- Package plan: Print. -/
namespace Go.Proofs.YtoklonmiejdgmaaGreatDoor
set_option linter.unusedVariables false
set_option linter.unusedSimpArgs false
set_option linter.unnecessarySimpa false
open Go.RowKit Go.Sort
set_option maxHeartbeats 4000000
set_option maxRecDepth 100000
set_option linter.unusedVariables false
theorem PG.ne {w W : World} {b g : Nat} {t : List UInt8} {T : TypeId} {cs : List Value} (h : PG w b t W) (ho : ObjAt W g T cs) (hT : T ≠ 127) : g ≠ b:=by
 rintro rfl
 unfold ObjAt at ho
 have key : ∀ p,Lib.BuilderAtF 127 5 w.heap.size g p (Lib.byteCells t) W → False:=fun p hp=>by
  obtain ⟨_,v,h2,_⟩:=hp
  rw [ho] at h2
  injection h2 with h2
  injection h2 with _ h3
  exact hT h3
 exact h.pg.elim (key _) (key _)
theorem lnW_len (k : Nat) (hk : k < 7) (ahead : List UInt8) (l : List Int) (h : ∀ n ∈ l,n < 1000000000) : (lnW k ahead l).length ≤ 7 + ahead.length + 10 * l.length:=by
 have hkn : (rkName k).length ≤ 5:=by rcases (by omega : k = 0 ∨ k = 1 ∨ k = 2 ∨ k = 3 ∨ k = 4 ∨ k = 5 ∨ k = 6) with rfl | rfl | rfl | rfl | rfl | rfl | rfl <;> decide
 have h1:=nmT_len l h
 unfold nmT at h1
 unfold lnW
 simp only [List.length_append,List.length_singleton]
 have h3 : (if ahead = [] then [] else 32 :: ahead).length ≤ 1 + ahead.length:=by
  split
  ·exact Nat.zero_le _
  ·rw [List.length_cons];omega
 omega
def NumOk (x : Int) : Prop:=0 ≤ x ∧ x < 1000000000
theorem pline0 (k : Nat) (hk : k < 7) (ahead : List UInt8) {w : World} {b : Nat} {t : List UInt8} (ht : t.length ≤ 1000000) (ha : ahead.length ≤ 1000) (W : World) (hg : PG w b t W) :
  Calls Tryz.prog 65 #[.pointer (some ⟨b,0,none⟩),.int .i64 k,.string (ba ahead),.slice none 0 0] W (LinePost w b (t ++ lnW k ahead []) W):=
 pline_any k hk ahead none 0 [] w b t W hg (Or.inl ⟨rfl,rfl⟩) (by simp) ⟨Nat.le_refl _,by simp⟩ ht ha
theorem pline1 (k : Nat) (hk : k < 7) (ahead : List UInt8) (x : Int) (hx : NumOk x) {w : World} {b : Nat} {t : List UInt8} (ht : t.length ≤ 1000000) (ha : ahead.length ≤ 1000) (W : World) (g : Nat) (hg : PG w b t W) (ho : ObjAt W g 3 [.int .i64 x]) :
  Calls Tryz.prog 65 #[.pointer (some ⟨b,0,none⟩),.int .i64 k,.string (ba ahead),.slice (some ⟨g,0,none⟩) 1 1] W (LinePost w b (t ++ lnW k ahead [x]) W):=
 pline_any k hk ahead (some ⟨g,0,none⟩) 1 [x] w b t W hg (Or.inr ⟨g,rfl,hg.ne ho (by decide),ho⟩) (by intro n hn;rw [List.mem_singleton.1 hn];exact hx) ⟨Nat.le_refl _,by simp⟩ ht ha
theorem pline2 (k : Nat) (hk : k < 7) (ahead : List UInt8) (x y : Int) (hx : NumOk x) (hy : NumOk y) {w : World} {b : Nat} {t : List UInt8} (ht : t.length ≤ 1000000) (ha : ahead.length ≤ 1000) (W : World) (g : Nat) (hg : PG w b t W) (ho : ObjAt W g 3 [.int .i64 x,.int .i64 y]) :
  Calls Tryz.prog 65 #[.pointer (some ⟨b,0,none⟩),.int .i64 k,.string (ba ahead),.slice (some ⟨g,0,none⟩) 2 2] W (LinePost w b (t ++ lnW k ahead [x,y]) W):=
 pline_any k hk ahead (some ⟨g,0,none⟩) 2 [x,y] w b t W hg (Or.inr ⟨g,rfl,hg.ne ho (by decide),ho⟩) (by intro n hn;simp at hn;rcases hn with rfl | rfl <;> assumption) ⟨Nat.le_refl _,by simp⟩ ht ha
theorem out_ba (x : List UInt8) : ba x ++ (⟨#[32]⟩ : ByteArray) ++ (⟨#[111,117,116]⟩ : ByteArray) = ba (x ++ 32 :: outT):=by
 unfold ba
 rw [show (⟨#[32]⟩ : ByteArray) = ⟨[32].toArray⟩ from rfl,show (⟨#[111,117,116]⟩ : ByteArray) = ⟨outT.toArray⟩ from rfl,ba_append,ba_append,List.append_assoc];rfl
theorem pport_any (lb gu : Int) (hlb : 0 ≤ lb ∧ lb < 256) (hgu : gu = -1 ∨ NumOk gu) (w : World) (b : Nat) (t : List UInt8) (W : World) (hg : PG w b t W) (ht : t.length ≤ 1000000) :
  Calls Tryz.prog 67 #[.pointer (some ⟨b,0,none⟩),.agg #[.int .i64 lb,.int .i64 gu]] W (LinePost w b (t ++ (lineT (3,[lb,gu]) ++ [10])) W):=by
 have HLB:=Lib.hid (lbS_lbT hlb)
 have hll:=(lbT_ok hlb).2.1
 obtain ⟨W1,hW1⟩ : ∃ W1,W1 = W.alloc (.cells #[.int .i64 lb,.int .i64 gu] 134):=⟨_,rfl⟩
 obtain ⟨rr,hrr⟩ : ∃ r,r = W.heap.size:=⟨_,rfl⟩
 have hb1 : Below W.heap.size W W1:=by rw [hW1];exact ((Below.refl _ _).alloc (Nat.le_refl _) _)
 have R1 : Hid (ObjAt W1 rr 134 [.int .i64 lb,.int .i64 gu]):=by rw [hW1,hrr];exact ObjAt.new W _ _
 have HG1:=Lib.hid (hg.more hb1)
 have HK1 : Hid (Kept b W W1):=Kept.ofBelow hb1
 have HW1:=Lib.hid hW1
 have HRR:=Lib.hid hrr
 clear hb1 hW1 hrr hg
 by_cases h1 : gu = -1
 ·subst h1
  have HV : Hid (t ++ lnW 3 (lbT lb ++ 32 :: outT) [] = t ++ (lineT (3,[lb,-1]) ++ [10])):=by rw [Hid,lnW_out hlb]
  rw [← HV.out]
  have HLINE:=fun W=>Lib.hid (pline0 3 (by decide) (lbT lb ++ 32 :: outT) (w:=w) (b:=b) (t:=t) ht (by rw [List.length_append,List.length_cons];have : outT.length = 3:=rfl;omega) W)
  have HOUT:=Lib.hid (out_ba (lbT lb))
  have hs1 : (ba (lbT lb)).size ≤ 8:=by rw [ba_size];exact hll
  have hs2 : (ba (lbT lb) ++ (⟨#[32]⟩ : ByteArray)).size ≤ 9:=by rw [ByteArray.size_append,ba_size];show _ + 1 ≤ _;omega
  clear hgu hll ht hlb
  go_enter Tryz.func67,Tryz.ntmps67
  go_upto_region 1 with fail
  rw [← HW1.out,← HRR.out]
  have c0:=R1.out.cell 0 _ rfl
  have c1:=R1.out.cell 1 _ rfl
  go_wp2_with fail
  refine (letters_str lb _).mono ?_;rintro e W2 ⟨rfl,hb2⟩
  rw [HLB.out]
  have HG2:=Lib.hid (HG1.out.more hb2)
  have HK2 : Hid (Kept b W W2):=HK1.out.trans (Kept.ofBelow hb2)
  clear hb2 c0 c1
  go_wp2_with (go_at_call 65;rw [HOUT.out];refine ((HLINE _).out HG2.out).mono ?_;rintro e W3 ⟨rfl,h3,h4⟩;have HG3:=Lib.hid h3;have HK3 : Hid (Kept b W W3):=HK2.out.trans h4;clear h3 h4)
  go_end0
  exact ⟨rfl,HG3.out,HK3.out⟩
 ·have n1 : (gu == -1) = false:=by rw [beq_eq_false_iff_ne];exact h1
  have hgn : NumOk gu:=hgu.resolve_left h1
  have HV : Hid (t ++ lnW 3 (lbT lb) [gu] = t ++ (lineT (3,[lb,gu]) ++ [10])):=by rw [Hid,lnW_3 hlb h1]
  rw [← HV.out]
  have HLINE:=fun W g=>Lib.hid (pline1 3 (by decide) (lbT lb) gu hgn (w:=w) (b:=b) (t:=t) ht (by omega) W g)
  have R1d : Hid (ObjAt W1.drew rr 134 [.int .i64 lb,.int .i64 gu]):=R1.out.below (Below.refl _ _).drew
  have HG1d : Hid (PG w b t W1.drew):=HG1.out.more (Below.refl _ _).drew
  have HK1d : Hid (Kept b W W1.drew):=HK1.out.trans (Kept.ofBelow (Below.refl _ _).drew)
  clear hgu hll ht hlb h1 hgn
  go_enter Tryz.func67,Tryz.ntmps67
  go_upto_region 1 with fail
  rw [← HW1.out,← HRR.out]
  have c0:=R1.out.cell 0 _ rfl
  have c1:=R1.out.cell 1 _ rfl
  go_upto_region 3 with fail
  go_region_held3 (fun W'=>W'.cell? ⟨rr,0,none⟩ = some (.int .i64 lb) ∧ W'.cell? ⟨rr,1,none⟩ = some (.int .i64 gu)) (first | exact ⟨(R1d.out).cell 0 _ rfl,(R1d.out).cell 1 _ rfl⟩ | exact ⟨(R7.out).cell 0 _ rfl,(R7.out).cell 1 _ rfl⟩ | exact ⟨(R6.out).cell 0 _ rfl,(R6.out).cell 1 _ rfl⟩ | exact ⟨(R1d.out.below ((Below.refl _ _).alloc (Nat.le_refl _) _)).cell 0 _ rfl,(R1d.out.below ((Below.refl _ _).alloc (Nat.le_refl _) _)).cell 1 _ rfl⟩ | exact ⟨(R6.out.below ((Below.refl _ _).alloc (Nat.le_refl _) _)).cell 0 _ rfl,(R6.out.below ((Below.refl _ _).alloc (Nat.le_refl _) _)).cell 1 _ rfl⟩) (first | (go_at_call 66;refine (letters_str lb _).mono ?_;rintro e W6 ⟨rfl,hb6⟩;rw [HLB.out];have HG6 : Hid (PG w b t W6):=(by first | exact HG1d.out.more hb6 | exact (HG1d.out.more ((Below.refl _ _).alloc (Nat.le_refl _) _)).more hb6);have R6 : Hid (ObjAt W6 rr 134 [.int .i64 lb,.int .i64 gu]):=(by first | exact R1d.out.below hb6 | exact (R1d.out.below ((Below.refl _ _).alloc (Nat.le_refl _) _)).below hb6);have HK6 : Hid (Kept b W W6):=(by first | exact HK1d.out.trans (Kept.ofBelow hb6) | exact (HK1d.out.trans (Kept.ofBelow ((Below.refl _ _).alloc (Nat.le_refl _) _))).trans (Kept.ofBelow hb6));have HB6:=Lib.hid hb6;clear hb6) | (go_at_call 65;refine ((HLINE _ _).out (by first | exact HG6.out | exact HG6.out.more ((Below.refl _ _).alloc (Nat.le_refl _) _)) (by first | exact ObjAt.new _ _ _ | exact (ObjAt.new W1.drew 3 [.int .i64 gu]).below HB6.out)).mono ?_;rintro e W7 ⟨rfl,h7,h8⟩;have HG7:=Lib.hid h7;have HK7 : Hid (Kept b W W7):=(by first | exact HK6.out.trans h8 | exact (HK6.out.trans (Kept.ofBelow ((Below.refl _ _).alloc (Nat.le_refl _) _))).trans h8);have R7 : Hid (ObjAt W7 rr 134 [.int .i64 lb,.int .i64 gu]):=(by first | exact h8.obj R6.out (HG6.out.ne R6.out (by decide)) (by decide) | exact h8.obj (R6.out.below ((Below.refl _ _).alloc (Nat.le_refl _) _)) (HG6.out.ne R6.out (by decide)) (by decide));clear h7 h8))
  all_goals
   go_wp2_with fail
   go_end0
   exact ⟨rfl,HG7.out,HK7.out⟩
end Go.Proofs.YtoklonmiejdgmaaGreatDoor
