/- Package script: Parse. -/
import Derived.Test.YtoklonmiejdgmaaGreatDoorGScriptReads7
import Derived.Test.YtoklonmiejdgmaaGreatDoorGScriptReads0
import Derived.Deep.RegionHeld3
import Derived.Test.YtoklonmiejdgmaaGreatDoorGScriptReads6
namespace Go.Proofs.YtoklonmiejdgmaaGreatDoor
set_option linter.unusedVariables false
set_option linter.unusedSimpArgs false
set_option linter.unnecessarySimpa false
open Go.RowKit Go.Sort
set_option maxHeartbeats 4000000
set_option maxRecDepth 100000
set_option linter.unusedVariables false
/-- A script that may be read. -/
structure ScOk (W : World) (v : Sv) : Prop where
 im : Rd W 1 v.ia v.im.length (imC v.im)
 iml : v.im.length ≤ v.ic
 imx : v.ic ≤ maxLen
 row : ∀ x ∈ v.im,Rd W 1 x.a x.l.length (As.uC x.l) ∧ x.l.length ≤ x.cap ∧ x.cap ≤ maxLen
 se : Rd W 2 v.sa v.se.length (seC v.se)
 sel : v.se.length ≤ v.sc
 sex : v.sc ≤ maxLen
 inp : Rd W 5 v.na v.inp.length (inC v.inp)
 inl : v.inp.length ≤ v.nc
 inx : v.nc ≤ maxLen
theorem ScOk.below {W W' : World} {v : Sv} (h : ScOk W v) (hb : Below W.heap.size W W') : ScOk W' v:=⟨h.im.below hb,h.iml,h.imx,fun x hx=>⟨(h.row x hx).1.below hb,(h.row x hx).2⟩,h.se.below hb,h.sel,h.sex,h.inp.below hb,h.inl,h.inx⟩
def SpPost (s : List UInt8) (w : World) (e : Ending) (w' : World) : Prop:=
 ∃ (c : Cv) (v : Sv),e = .returned (.tuple #[(.agg #[.int .i64 c.cats,.slice c.g.a c.g.l.length c.g.cap,.slice c.r.a c.r.l.length c.r.cap,.slice c.p.a c.p.l.length c.p.cap,.slice c.n.a c.n.l.length c.n.cap,.slice c.s.a c.s.l.length c.s.cap,.int .i64 c.gate,.int .i64 c.quota]),(.agg #[.slice v.ia v.im.length v.ic,.slice v.sa v.se.length v.sc,.slice v.na v.inp.length v.nc]),.int .i64 (scV s).2.2.1,.int .i64 (scV s).2.2.2]) ∧ CfgOk w' c ∧ ScOk w' v ∧ pcOf c = (scV s).1 ∧ scOf v = (scV s).2.1 ∧ Below w.heap.size w w'
theorem rd_none (W : World) (n : Nat) : Rd W n none 0 []:=⟨by simp,fun _=>rfl,fun p hp=>by cases hp⟩
theorem sv0_ok (W : World) : ScOk W sv0:=⟨rd_none W 1,Nat.le_refl _,Nat.zero_le _,(fun x hx=>by cases hx),rd_none W 2,Nat.le_refl _,Nat.zero_le _,rd_none W 5,Nat.le_refl _,Nat.zero_le _⟩
theorem sp_zero {s : List UInt8} {w w' : World} {e at_ : Int} (h : scV s = (pcZ,sc0,e,at_)) (hb : Below w.heap.size w w') : SpPost s w (.returned (.tuple #[.agg #[.int .i64 0,.slice none 0 0,.slice none 0 0,.slice none 0 0,.slice none 0 0,.slice none 0 0,.int .i64 0,.int .i64 0],.agg #[.slice none 0 0,.slice none 0 0,.slice none 0 0],.int .i64 e,.int .i64 at_])) w':=
 ⟨cvZ,sv0,by rw [h];rfl,cvZ_ok w',sv0_ok w',by rw [h];rfl,by rw [h];rfl,hb⟩
theorem sp_good {s : List UInt8} {w w' : World} {c : Cv} {v : Sv} (h : scV s = (pcOf c,scOf v,0,0)) (hc : CfgOk w' c) (hv : ScOk w' v) (hb : Below w.heap.size w w') : SpPost s w (.returned (.tuple #[(.agg #[.int .i64 c.cats,.slice c.g.a c.g.l.length c.g.cap,.slice c.r.a c.r.l.length c.r.cap,.slice c.p.a c.p.l.length c.p.cap,.slice c.n.a c.n.l.length c.n.cap,.slice c.s.a c.s.l.length c.s.cap,.int .i64 c.gate,.int .i64 c.quota]),(.agg #[.slice v.ia v.im.length v.ic,.slice v.sa v.se.length v.sc,.slice v.na v.inp.length v.nc]),.int .i64 0,.int .i64 0])) w':=
 ⟨c,v,by rw [h],hc,hv,by rw [h],by rw [h],hb⟩
theorem fromS_eq {L : List (List UInt8)} : ∀ {k : Nat},(∀ m,m < k → rankS (L.getD m []) = -1) → k ≤ L.length → (k = L.length ∨ rankS (L.getD k []) ≠ -1) → fromS L = k:=by
 unfold fromS
 induction L with
 | nil=>intro k _ h _;simp at h;subst h;rfl
 | cons x r ih=>
  intro k hl hk he
  cases k with
  | zero=>
   rcases he with he | he
   ·simp at he
   ·rw [List.takeWhile_cons,if_neg (by simpa using he)];rfl
  | succ k=>
   have h0:=hl 0 (by omega)
   have he2 : k = r.length ∨ rankS (r.getD k []) ≠ -1:=by
    rcases he with he | he
    ·left;simp at he;omega
    ·right;simpa using he
   rw [List.takeWhile_cons,if_pos (by simpa using h0),List.length_cons,ih (k:=k) (fun m hm=>by have:=hl (m + 1) (by omega);simpa using this) (by simp at hk;omega) he2]
theorem sr_start {W : World} {La : Option Addr} {Lc : Nat} {L : List (List UInt8)} (h : RdW W La Lc L) (i : Nat) :
  SR W W.heap.size La Lc L i 0 sv0 0 0 (W.alloc (.cells #[.slice La L.length Lc,.int .i64 i,.int .i64 0,.slice none 0 0,.slice none 0 0,.slice none 0 0,.int .i64 0,.int .i64 0] 64)):=
 ⟨(Below.refl _ _).alloc (Nat.le_refl _) _,Nat.le_refl _,ObjAt.new W _ [.slice La L.length Lc,.int .i64 i,.int .i64 0,.slice none 0 0,.slice none 0 0,.slice none 0 0,.int .i64 0,.int .i64 0],h,Own.nil _ _ _ _,(fun x hx=>by cases hx),Own.nil _ _ _ _,Own.nil _ _ _ _⟩
/-- The reader's script stays, where two boxes of results turn. -/
theorem SR.other {w W W' W'' : World} {rb b1 b2 : Nat} {La : Option Addr} {Lc : Nat} {L : List (List UInt8)} {i : Nat} {last : Int} {v : Sv} {e bad : Int} {cs1 cs2 : List Value} (h : SR w rb La Lc L i last v e bad W) (ho : ObjAt W b1 29 cs1) (ho2 : ObjAt W b2 34 cs2) (hu : Upd b1 W W') (hu2 : Upd b2 W' W'') : ScOk W'' v:=
 have i1:=(h.im.upd hu (h.im.ne ho (by decide))).upd hu2 (h.im.ne ho2 (by decide))
 have s1:=(h.se.upd hu (h.se.ne ho (by decide))).upd hu2 (h.se.ne ho2 (by decide))
 have n1:=(h.inp.upd hu (h.inp.ne ho (by decide))).upd hu2 (h.inp.ne ho2 (by decide))
 ⟨i1.rd,i1.le,i1.capMax,fun x hx=>
  have r1:=((h.row x hx).upd hu ((h.row x hx).ne ho (by decide))).upd hu2 ((h.row x hx).ne ho2 (by decide))
  ⟨r1.rd,r1.le,r1.capMax⟩,s1.rd,s1.le,s1.capMax,n1.rd,n1.le,n1.capMax⟩
theorem cfg_other {W W' W'' : World} {b1 b2 B : Nat} {c : Cv} (h : CfgOk W c) (hn : NewC B c) (h1 : b1 < B) (h2 : b2 < B) (hu : Upd b1 W W') (hu2 : Upd b2 W' W'') : CfgOk W'' c:=by
 have hne : ∀ s ∈ [c.g.a,c.r.a,c.p.a,c.n.a,c.s.a],b1 ∉ blk s ∧ b2 ∉ blk s:=fun s hs=>⟨fun hk=>by have:=hn s hs _ hk;omega,fun hk=>by have:=hn s hs _ hk;omega⟩
 have n1:=hne c.g.a (by simp)
 have n2:=hne c.r.a (by simp)
 have n3:=hne c.p.a (by simp)
 have n4:=hne c.n.a (by simp)
 have n5:=hne c.s.a (by simp)
 exact ⟨⟨(h.g.rd.upd hu n1.1).upd hu2 n1.2,h.g.le,h.g.cap,h.g.len⟩,⟨(h.r.rd.upd hu n2.1).upd hu2 n2.2,h.r.le,h.r.cap,h.r.len⟩,⟨(h.p.rd.upd hu n3.1).upd hu2 n3.2,h.p.le,h.p.cap,h.p.len⟩,⟨(h.n.rd.upd hu n4.1).upd hu2 n4.2,h.n.le,h.n.cap,h.n.len⟩,⟨(h.s.rd.upd hu n5.1).upd hu2 n5.2,h.s.le,h.s.cap,h.s.len⟩⟩
theorem lnsL_len (t : List UInt8) : (lnsL t).length ≤ t.length + 1:=by
 unfold lnsL lsL
 have:=fieldsC_len 10 t
 have:=List.count_le_length (a:=(10 : UInt8)) (l:=t)
 split
 ·rw [List.length_dropLast];omega
 ·exact Nat.zero_le _
theorem joinC_end : ∀ L : List (List UInt8),joinC 10 (L ++ [[]]) = joinT L
 | []=>rfl
 | x :: r=>by
  have:=joinC_end r
  cases r with
  | nil=>simp [joinC,joinT]
  | cons y r=>rw [List.cons_append,List.cons_append,joinC,← List.cons_append,this];simp [joinT]
theorem lns_form {t : List UInt8} (h : lsB t = true) : fieldsC 10 t = lsL t ++ [[]]:=by
 unfold lsB at h
 obtain ⟨D,hD⟩:=List.getLast?_eq_some_iff.1 (of_decide_eq_true h)
 unfold lsL
 rw [hD,List.dropLast_concat]
theorem lns_join {t : List UInt8} (h : lsB t = true) : joinT (lsL t) = t:=by
 rw [← joinC_end,← lns_form h];exact join_fields 10 t
theorem lsL_row {t : List UInt8} : ∀ x ∈ lsL t,x.length ≤ t.length:=fun x hx=>(fieldsC_mem 10 t x (List.dropLast_subset _ hx)).2
theorem scV_long {t : List UInt8} (h : 16384 < t.length) : scV t = (pcZ,sc0,10,0):=by unfold scV;rw [if_pos h]
theorem scV_open {t : List UInt8} (h : ¬ 16384 < t.length) (hl : lsB t = false) : scV t = (pcZ,sc0,6,(t.count 10 : Int) + 1):=by unfold scV;rw [if_neg h,hl];rfl
theorem scV_lines {t : List UInt8} (h : ¬ 16384 < t.length) (hl : lsB t = true) : scV t = scR (lsL t):=by unfold scV;rw [if_neg h,hl];rfl
theorem rd_take {W : World} {a : Option Addr} {cap : Nat} {L : List (List UInt8)} (h : RdW W a cap L) (k : Nat) (hk : k ≤ L.length) : RdW W a cap (L.take k):=by
 have hlen : (L.take k).length = k:=by rw [List.length_take];omega
 refine ⟨⟨by rw [strC_len,Nat.mul_one],(fun h0=>by have:=h.rd.2.1 h0;omega),fun p hp hne=>?_⟩,by rw [hlen];have:=h.le;omega,h.mx⟩
 have hpos : 0 < k:=by
  rcases Nat.eq_zero_or_pos k with h0 | h0
  ·exfalso;apply hne;subst h0;rfl
  ·exact h0
 obtain ⟨g,o,he,hg,hc⟩:=h.at_ 0 (by omega)
 rw [he] at hp
 injection hp with hp
 refine ⟨g,o,hp.symm,hg,fun j u hu=>?_⟩
 have hj : j < k:=by have:=(List.getElem?_eq_some_iff.1 hu).1;rw [strC_len,hlen] at this;exact this
 rw [strC_get _ j (by rw [hlen];exact hj),List.getElem_take] at hu
 rw [← hu]
 exact hc j (by omega)
theorem sparse_any (s : ByteArray) (hs : s.size ≤ maxLen) (w : World) (hT : WdTab w) (hI : Isa.Tab w) : Calls Tryz.prog 8 #[.string s] w (SpPost s.data.toList w):=by
 obtain ⟨l,hl⟩ : ∃ l,l = s.data.toList:=⟨_,rfl⟩
 have hsl : l.length = s.size:=by rw [hl,ba_len]
 rw [← hl]
 obtain ⟨w0,hw0⟩ : ∃ w0,w0 = w.alloc (.cells #[.int .i64 0,.slice none 0 0,.slice none 0 0,.slice none 0 0,.slice none 0 0,.slice none 0 0,.int .i64 0,.int .i64 0] 29):=⟨_,rfl⟩
 obtain ⟨w1,hw1⟩ : ∃ w1,w1 = w0.alloc (.cells #[.slice none 0 0,.slice none 0 0,.slice none 0 0] 34):=⟨_,rfl⟩
 have HO0 : Hid (ObjAt w1 w.heap.size 29 #[.int .i64 0,.slice none 0 0,.slice none 0 0,.slice none 0 0,.slice none 0 0,.slice none 0 0,.int .i64 0,.int .i64 0].toList):=by rw [hw1];exact ObjAt.below (by rw [hw0];exact ObjAt.new w _ _) ((Below.refl _ _).alloc (Nat.le_refl _) _)
 have hz : w0.heap.size = w.heap.size + 1:=by rw [hw0];simp
 have HO1 : Hid (ObjAt w1 (w.heap.size + 1) 34 #[.slice none 0 0,.slice none 0 0,.slice none 0 0].toList):=by rw [← hz,hw1];exact ObjAt.new w0 _ _
 have HB1 : Hid (Below w.heap.size w w1):=by rw [hw1,hw0];exact ((Below.refl _ _).alloc (Nat.le_refl _) _).alloc (by simp) _
 have HW0:=Lib.hid hw0
 have HW1:=Lib.hid hw1
 have HZ0:=Lib.hid hz
 obtain ⟨P,hP⟩ : ∃ P,P = SpPost l w:=⟨_,rfl⟩
 have HZ : Hid (∀ e at_ w',scV l = (pcZ,sc0,e,at_) → Below w.heap.size w w' → P (.returned (.tuple #[.agg #[.int .i64 0,.slice none 0 0,.slice none 0 0,.slice none 0 0,.slice none 0 0,.slice none 0 0,.int .i64 0,.int .i64 0],.agg #[.slice none 0 0,.slice none 0 0,.slice none 0 0],.int .i64 e,.int .i64 at_])) w'):=fun e at_ w' h hb=>by rw [hP];exact sp_zero h hb
 have HG : Hid (∀ c v w',scV l = (pcOf c,scOf v,0,0) → CfgOk w' c → ScOk w' v → Below w.heap.size w w' → P (.returned (.tuple #[(.agg #[.int .i64 c.cats,.slice c.g.a c.g.l.length c.g.cap,.slice c.r.a c.r.l.length c.r.cap,.slice c.p.a c.p.l.length c.p.cap,.slice c.n.a c.n.l.length c.n.cap,.slice c.s.a c.s.l.length c.s.cap,.int .i64 c.gate,.int .i64 c.quota]),(.agg #[.slice v.ia v.im.length v.ic,.slice v.sa v.se.length v.sc,.slice v.na v.inp.length v.nc]),.int .i64 0,.int .i64 0])) w'):=fun c v w' h hc hn hb=>by rw [hP];exact sp_good h hc hn hb
 rw [← hP]
 clear hP hw0 hw1 hz
 unfold maxLen at hs
 by_cases h16 : 16384 < s.size
 ·have d1 : decide ((s.size : Int) > 16384) = true:=decide_eq_true (by omega)
  have d1' : decide (16384 < s.size) = true:=decide_eq_true h16
  have HZ:=fun w' h=>Lib.hid (HZ.out 10 0 w' (scV_long (by omega)) h)
  clear h16 hl hsl hT hI HG
  go_enter Tryz.func8,Tryz.ntmps8
  go_upto_region 1 with fail
  rw [← HW0.out,← HW1.out]
  have hO0:=HO0.out
  have hO1:=HO1.out
  have s6:=hO0.lt
  have s7:=hO1.lt
  have a0:=(hO0).cell 0 _ rfl;have a1:=(hO0).cell 1 _ rfl;have a2:=(hO0).cell 2 _ rfl;have a3:=(hO0).cell 3 _ rfl;have a4:=(hO0).cell 4 _ rfl;have a5:=(hO0).cell 5 _ rfl;have a6:=(hO0).cell 6 _ rfl;have a7:=(hO0).cell 7 _ rfl;have g0:=(hO0).free 0;have g1:=(hO0).free 1;have g2:=(hO0).free 2;have g3:=(hO0).free 3;have g4:=(hO0).free 4;have g5:=(hO0).free 5;have g6:=(hO0).free 6;have g7:=(hO0).free 7
  have b0:=(hO1).cell 0 _ rfl;have b1:=(hO1).cell 1 _ rfl;have b2:=(hO1).cell 2 _ rfl;have p0:=(hO1).free 0;have p1:=(hO1).free 1;have p2:=(hO1).free 2
  clear hO0 hO1
  go_wp2_with fail
  (refine bodyPost_ret (v:=.tuple #[.agg #[.int .i64 0,.slice none 0 0,.slice none 0 0,.slice none 0 0,.slice none 0 0,.slice none 0 0,.int .i64 0,.int .i64 0],.agg #[.slice none 0 0,.slice none 0 0,.slice none 0 0],.int .i64 10,.int .i64 0]) (by simp [results,Tryz.results8,go_sem,a0,a1,a2,a3,a4,a5,a6,a7,b0,b1,b2,s6,s7]) rfl ?_)
  exact (HZ _ (((((((((((HB1.out.setCell (Nat.le_refl _) _).setCell (Nat.le_refl _) _).setCell (Nat.le_refl _) _).setCell (Nat.le_refl _) _).setCell (Nat.le_refl _) _).setCell (Nat.le_refl _) _).setCell (Nat.le_refl _) _).setCell (Nat.le_refl _) _).setCell (Nat.le_succ _) _).setCell (Nat.le_succ _) _).setCell (Nat.le_succ _) _)).out
 ·have d1 : decide ((s.size : Int) > 16384) = false:=decide_eq_false (by omega)
  have d1' : decide (16384 < s.size) = false:=decide_eq_false h16
  have HLN:=Lib.hid (lines_any s (by omega) w1)
  rw [← hl] at HLN
  have HT1:=Lib.hid (hT.below HB1.out)
  have HI1:=Lib.hid (hI.below HB1.out)
  cases hb : lsB l
  ·have HZ:=fun w' h=>Lib.hid (HZ.out 6 ((l.count 10 : Int) + 1) w' (scV_open (by omega) hb) h)
   have HLS : Hid (∀ e w',LsPost l w1 e w' → e = .returned (.tuple #[.slice none 0 0,.bool false]) ∧ Below w1.heap.size w1 w'):=fun e w' h=>⟨h.2.1 hb,h.2.2⟩
   have HC : Hid (∀ W,Calls Tryz.prog 21 #[.string s,.string ⟨#[10]⟩] W fun e w'=>e = .returned (.int .i64 (l.count 10 : Nat)) ∧ w' = W):=fun W=>by
    have:=count1 s 10 W
    rw [show Lib.countB s ⟨#[10]⟩ = l.count 10 from by rw [hl];exact Lib.count_one 10 _] at this
    exact this
   have hcl : l.count 10 ≤ l.length:=List.count_le_length
   have w5 : IntKind.i64.wrap ((l.count 10 : Int) + 1) = (l.count 10 : Int) + 1:=by rw [IntKind.wrap_i64];omega
   clear h16 hl hsl hT hI HG hb hcl
   go_enter Tryz.func8,Tryz.ntmps8
   go_upto_region 1 with fail
   rw [← HW0.out,← HW1.out]
   go_wp2_with fail
   refine HLN.out.mono ?_;intro e w2 h2
   obtain ⟨rfl,hb2⟩:=HLS.out _ _ h2
   have HB2:=Lib.hid hb2
   clear h2 hb2
   go_wp2_with fail
   refine (HC.out _).mono ?_;rintro e w3 ⟨rfl,rfl⟩
   have hO0:=HO0.out.below HB2.out
   have hO1:=HO1.out.below HB2.out
   have s6:=hO0.lt
   have s7:=hO1.lt
   have a0:=(hO0).cell 0 _ rfl;have a1:=(hO0).cell 1 _ rfl;have a2:=(hO0).cell 2 _ rfl;have a3:=(hO0).cell 3 _ rfl;have a4:=(hO0).cell 4 _ rfl;have a5:=(hO0).cell 5 _ rfl;have a6:=(hO0).cell 6 _ rfl;have a7:=(hO0).cell 7 _ rfl;have g0:=(hO0).free 0;have g1:=(hO0).free 1;have g2:=(hO0).free 2;have g3:=(hO0).free 3;have g4:=(hO0).free 4;have g5:=(hO0).free 5;have g6:=(hO0).free 6;have g7:=(hO0).free 7
   have b0:=(hO1).cell 0 _ rfl;have b1:=(hO1).cell 1 _ rfl;have b2:=(hO1).cell 2 _ rfl;have p0:=(hO1).free 0;have p1:=(hO1).free 1;have p2:=(hO1).free 2
   clear hO0 hO1
   go_wp2_with fail
   (refine bodyPost_ret (v:=.tuple #[.agg #[.int .i64 0,.slice none 0 0,.slice none 0 0,.slice none 0 0,.slice none 0 0,.slice none 0 0,.int .i64 0,.int .i64 0],.agg #[.slice none 0 0,.slice none 0 0,.slice none 0 0],.int .i64 6,.int .i64 ((l.count 10 : Int) + 1)]) (by simp [results,Tryz.results8,go_sem,a0,a1,a2,a3,a4,a5,a6,a7,b0,b1,b2,s6,s7]) rfl ?_)
   exact (HZ _ ((((((((((((bmore HB1.out HB2.out).setCell (Nat.le_refl _) _).setCell (Nat.le_refl _) _).setCell (Nat.le_refl _) _).setCell (Nat.le_refl _) _).setCell (Nat.le_refl _) _).setCell (Nat.le_refl _) _).setCell (Nat.le_refl _) _).setCell (Nat.le_refl _) _).setCell (Nat.le_succ _) _).setCell (Nat.le_succ _) _).setCell (Nat.le_succ _) _)).out
  ·obtain ⟨L,hL⟩ : ∃ L,L = lsL l:=⟨_,rfl⟩
   have HLS : Hid (∀ e w',LsPost l w1 e w' → ∃ a cap,e = .returned (.tuple #[.slice a L.length cap,.bool true]) ∧ RdW w' a cap L ∧ Below w1.heap.size w1 w'):=fun e w' h=>by
    obtain ⟨a,cap,h1,h2⟩:=h.1 hb
    rw [hL];exact ⟨a,cap,h1,h2,h.2.2⟩
   have HSC : Hid (scV l = scR L):=by rw [hL];exact scV_lines (by omega) hb
   have hjl : (joinT L).length ≤ 16384:=by rw [hL,lns_join hb];omega
   have HSM : Hid (∀ x ∈ L,x.length ≤ 16384):=fun x hx=>by rw [hL] at hx;have:=lsL_row x hx;omega
   have hll : L.length ≤ 16385:=by
    have h1:=lnsL_len l
    unfold lnsL at h1
    rw [hb,if_pos rfl,← hL] at h1;omega
   clear h16 hl hb hT hI hL
   go_enter Tryz.func8,Tryz.ntmps8
   go_upto_region 1 with fail
   rw [← HW0.out,← HW1.out]
   go_upto_region 3 with fail
   go_wp2_with fail
   refine HLN.out.mono ?_;intro e w2 h2
   obtain ⟨La,Lc,rfl,hr2,hb2⟩:=HLS.out _ _ h2
   have HB2:=Lib.hid (bmore HB1.out hb2)
   have HB2':=Lib.hid hb2
   have HR2:=Lib.hid hr2
   have hle:=hr2.le
   have hmx:=hr2.mx
   unfold maxLen at hmx
   have HO0:=Lib.hid (HO0.out.below hb2)
   have HO1:=Lib.hid (HO1.out.below hb2)
   have HT2:=Lib.hid (HT1.out.below hb2)
   have HI2:=Lib.hid (HI1.out.below hb2)
   clear h2 hb2 hr2 HLN HLS HT1 HI1
   go_upto_region 7 with fail
   go_loopw [8] (fun x wr=>∃ k : Nat,k ≤ L.length ∧ x = .int .i64 k ∧ (∀ m,m < k → rankS (L.getD m []) = -1) ∧ Below w2.heap.size w2 wr) (fun x _=>L.length - (intOf x).toNat)
   case atStart=>exact ⟨0,by omega,rfl,(fun m h=>by omega),Below.refl _ _⟩
   case round=>
    obtain ⟨k,hk,rfl,hn,hbe⟩:=hrel
    have HNO:=Lib.hid hn
    have HBE:=Lib.hid hbe
    clear hn hbe
    have wk : IntKind.i64.wrap ((k : Int) + 1) = (k : Int) + 1:=by rw [IntKind.wrap_i64];omega
    by_cases hgo : k < L.length ∧ rankS (L.getD k []) = -1
    ·obtain ⟨hlt,hrk⟩:=hgo
     obtain ⟨g,o,rfl,hg,hc⟩:=HR2.out.at_ k hlt
     have hcr : wr.cell? ⟨g,o + k,none⟩ = some (.string (ba L[k])):=by rw [HBE.out.cell (p:=⟨g,o + k,none⟩) hg];exact hc k hlt
     obtain ⟨x,hx⟩ : ∃ x,x = L[k]:=⟨_,rfl⟩
     rw [← hx] at hcr
     have hxd : L.getD k [] = x:=by rw [List.getD_eq_getElem?_getD,List.getElem?_eq_getElem hlt,hx];rfl
     have HN2 : Hid (∀ m,m < k + 1 → rankS (L.getD m []) = -1):=fun m h2=>by
      by_cases e : m = k
      ·subst e;exact hrk
      ·exact HNO.out m (by omega)
     have d2 : decide ((k : Int) < (L.length : Int)) = true:=decide_eq_true (by omega)
     have d2' : decide (k < L.length) = true:=decide_eq_true hlt
     have HRK:=fun W=>Lib.hid (rank_any x (by rw [hx];have:=HSM.out _ (List.getElem_mem hlt);omega) W)
     have HRS : Hid (∀ W e w',RkPost x W e w' → e = .returned (.int .i64 (-1)) ∧ Below W.heap.size W w'):=fun W e w' h=>by rw [← hrk,hxd];exact h
     clear hc hx hxd hrk
     go_wp2_with (go_at_call 22;refine ((HRK _).out).mono ?_;intro e W2 hp;obtain ⟨rfl,hb⟩:=HRS.out _ _ _ hp;have HB3:=Lib.hid (bmore HBE.out hb);clear hp hb)
     go_roundw
     case rel=>exact ⟨k + 1,by omega,by go_num,HN2.out,HB3.out⟩
     case measure=>simp [intOf];omega
    ·have HFR : Hid (fromS L = k):=fromS_eq HNO.out hk (by omega)
     obtain ⟨tx,htx⟩ : ∃ tx,tx = joinT (L.take k):=⟨_,rfl⟩
     have htl : tx.length ≤ 16384:=by rw [htx];have:=joinT_take L k;omega
     have hkl : (L.take k).length = k:=by rw [List.length_take];omega
     have HTX : Hid (∀ W',Below w2.heap.size w2 W' → Calls Tryz.prog 24 #[.slice La k Lc] W' fun e w'=>e = .returned (.string (ba tx)) ∧ Below W'.heap.size W' w'):=fun W' hb=>by
      have:=text_any La Lc (L.take k) W' ((rd_take HR2.out k hk).below hb) (by rw [← htx];omega) (by omega)
      rw [hkl,← htx] at this;exact this
     have HPP : Hid (∀ W',Below w2.heap.size w2 W' → Calls Tryz.prog 23 #[.string (ba tx)] W' (PsPostN tx W')):=fun W' hb=>by
      have:=pparse_new (ba tx) (by rw [ba_size];unfold maxLen;omega) W' (HT2.out.below hb)
      rw [ba_data] at this;exact this
     obtain ⟨pe,hpe⟩ : ∃ x,Hid (x = (psV tx).2.1):=⟨_,Lib.hid rfl⟩
     obtain ⟨pa,hpa⟩ : ∃ x,Hid (x = (psV tx).2.2):=⟨_,Lib.hid rfl⟩
     obtain ⟨pc,hpc⟩ : ∃ x,Hid (x = (psV tx).1):=⟨_,Lib.hid rfl⟩
     have HPS : Hid (∀ W' e w',PsPostN tx W' e w' → ∃ c : Cv,NewC W'.heap.size c ∧ e = .returned (.tuple #[(.agg #[.int .i64 c.cats,.slice c.g.a c.g.l.length c.g.cap,.slice c.r.a c.r.l.length c.r.cap,.slice c.p.a c.p.l.length c.p.cap,.slice c.n.a c.n.l.length c.n.cap,.slice c.s.a c.s.l.length c.s.cap,.int .i64 c.gate,.int .i64 c.quota]),.int .i64 pe,.int .i64 pa]) ∧ CfgOk w' c ∧ pcOf c = pc ∧ Below W'.heap.size W' w'):=fun W' e w' h=>by rw [hpe.out,hpa.out,hpc.out];exact h
     have HSR : Hid (scV l = if pe ≠ 0 then (pcZ,sc0,pe,pa) else if (restS L k 0 sc0).2.1 ≠ 0 then (pcZ,sc0,(restS L k 0 sc0).2.1,(restS L k 0 sc0).2.2) else (pc,(restS L k 0 sc0).1,0,0)):=by
      rw [Hid,HSC.out,scR,HFR.out,← htx,runS_rest,← hpe.out,← hpa.out,← hpc.out]
     obtain ⟨F,hF⟩ : ∃ F,F = restS L k 0 sc0:=⟨_,rfl⟩
     rw [← hF] at HSR
     have HF:=Lib.hid hF
     have hkc : k ≤ Lc:=by omega
     have k1 : (k : Int) ≤ (Lc : Int):=by omega
     have HPA : Hid (∀ W6,Below w2.heap.size w2 W6 → Calls Tryz.prog 25 #[.pointer (some ⟨W6.heap.size,0,none⟩)] (W6.alloc (.cells #[.slice La L.length Lc,.int .i64 k,.int .i64 0,.slice none 0 0,.slice none 0 0,.slice none 0 0,.int .i64 0,.int .i64 0] 64)) (RePost W6 W6.heap.size La Lc L F)):=fun W6 hb=>by
      rw [hF]
      exact read_any (sr_start (HR2.out.below hb) k) (by omega) (by omega) (fun x hx=>by have:=HSM.out x hx;omega) (HI2.out.below hb)
     clear hF htx htl hkl
     by_cases hlt : k < L.length
     ·obtain ⟨g,o,rfl,hg,hc⟩:=HR2.out.at_ k hlt
      have hcr : wr.cell? ⟨g,o + k,none⟩ = some (.string (ba L[k])):=by rw [HBE.out.cell (p:=⟨g,o + k,none⟩) hg];exact hc k hlt
      obtain ⟨x,hx⟩ : ∃ x,x = L[k]:=⟨_,rfl⟩
      rw [← hx] at hcr
      have hxd : L.getD k [] = x:=by rw [List.getD_eq_getElem?_getD,List.getElem?_eq_getElem hlt,hx];rfl
      have d2 : decide ((k : Int) < (L.length : Int)) = true:=decide_eq_true (by omega)
      have d2' : decide (k < L.length) = true:=decide_eq_true hlt
      have HRK:=fun W=>Lib.hid (rank_any x (by rw [hx];have:=HSM.out _ (List.getElem_mem hlt);omega) W)
      obtain ⟨rk,hrk⟩ : ∃ z,z = rankS x:=⟨_,rfl⟩
      have hr1 : rk ≠ -1:=fun e=>hgo ⟨hlt,by rw [hxd,← hrk,e]⟩
      have z1 : (rk == -1) = false:=by rw [beq_eq_false_iff_ne];exact hr1
      have HRS : Hid (∀ W e w',RkPost x W e w' → e = .returned (.int .i64 rk) ∧ Below W.heap.size W w'):=fun W e w' h=>by rw [hrk];exact h
      clear hc hx hxd hrk hr1 hgo
      go_upto_region 9 with (go_at_call 22;refine ((HRK _).out).mono ?_;intro e W2 hp;obtain ⟨rfl,hb⟩:=HRS.out _ _ _ hp;have HB3:=Lib.hid (bmore HBE.out hb);clear hp hb)
      go_upto_region 10 with (first | (go_at_call 24;refine (HTX.out _ HB3.out).mono ?_;rintro e W4 ⟨rfl,hb4⟩;have HB4:=Lib.hid (bmore HB3.out hb4);clear hb4) | (go_at_call 23;refine (HPP.out _ HB4.out).mono ?_;intro e W5 hp;obtain ⟨c,hnc,rfl,hok,hpcc,hb5⟩:=HPS.out _ _ _ hp;have HB5:=Lib.hid (bmore HB4.out hb5);have HNC:=Lib.hid hnc;have HOK:=Lib.hid hok;have HPC:=Lib.hid hpcc;have HSZ:=Lib.hid hb5.size;clear hp hnc hok hpcc hb5))
      obtain ⟨W6,hW6⟩ : ∃ W6,W6 = W5.alloc (.cells #[.int .i64 c.cats,.slice c.g.a c.g.l.length c.g.cap,.slice c.r.a c.r.l.length c.r.cap,.slice c.p.a c.p.l.length c.p.cap,.slice c.n.a c.n.l.length c.n.cap,.slice c.s.a c.s.l.length c.s.cap,.int .i64 c.gate,.int .i64 c.quota] 29):=⟨_,rfl⟩
      rw [← hW6]
      have HO9 : Hid (ObjAt W6 W5.heap.size 29 #[.int .i64 c.cats,.slice c.g.a c.g.l.length c.g.cap,.slice c.r.a c.r.l.length c.r.cap,.slice c.p.a c.p.l.length c.p.cap,.slice c.n.a c.n.l.length c.n.cap,.slice c.s.a c.s.l.length c.s.cap,.int .i64 c.gate,.int .i64 c.quota].toList):=by rw [hW6];exact ObjAt.new W5 _ _
      have hb6 : Below W5.heap.size W5 W6:=by rw [hW6];exact (Below.refl _ _).alloc (Nat.le_refl _) _
      have HB6:=Lib.hid (bmore HB5.out hb6)
      have HOK:=Lib.hid (HOK.out.below hb6)
      have HNX : Hid (w.heap.size + 1 < W4.heap.size):=Nat.lt_of_lt_of_le HO1.out.lt HB4.out.size
      have HSZ6 : Hid (W4.heap.size < W6.heap.size):=Nat.lt_of_le_of_lt HSZ.out (by rw [hW6];simp)
      clear hW6 hb6
      by_cases hp0 : pe = 0
      ·have z9 : (pe != 0) = false:=by simp [hp0]
       have HSR : Hid (scV l = if F.2.1 ≠ 0 then (pcZ,sc0,F.2.1,F.2.2) else (pc,F.1,0,0)):=by rw [Hid,HSR.out,if_neg (by simp [hp0])]
       clear hp0
       by_cases hf0 : F.2.1 = 0
       ·have HSR : Hid (scV l = (pc,F.1,0,0)):=by rw [Hid,HSR.out,if_neg (by simp [hf0])]
        have HRP : Hid (∀ e w',RePost W6 W6.heap.size (some ⟨g,o,none⟩) Lc L F e w' → e = .returned (.bool true) ∧ ∃ i last v,scOf v = F.1 ∧ SR W6 W6.heap.size (some ⟨g,o,none⟩) Lc L i last v 0 0 w'):=fun e w' h=>h.1 hf0
        clear hf0
        go_upto_region 15 with (go_at_call 25;refine (HPA.out _ HB6.out).mono ?_;intro e W7 h7;obtain ⟨rfl,i7,last7,v,hv,hsr⟩:=HRP.out _ _ h7;have HV:=Lib.hid hv;have HSR7:=Lib.hid hsr;clear h7 hv hsr)
        have hO0:=HO0.out.below (bmore HB6.out HSR7.out.bel)
        have hO1:=HO1.out.below (bmore HB6.out HSR7.out.bel)
        have hO9:=HO9.out.below HSR7.out.bel
        have HP0:=Lib.hid hO0
        have HP1:=Lib.hid hO1
        have s6:=hO0.lt
        have s7:=hO1.lt
        have a0:=(hO0).cell 0 _ rfl;have a1:=(hO0).cell 1 _ rfl;have a2:=(hO0).cell 2 _ rfl;have a3:=(hO0).cell 3 _ rfl;have a4:=(hO0).cell 4 _ rfl;have a5:=(hO0).cell 5 _ rfl;have a6:=(hO0).cell 6 _ rfl;have a7:=(hO0).cell 7 _ rfl;have g0:=(hO0).free 0;have g1:=(hO0).free 1;have g2:=(hO0).free 2;have g3:=(hO0).free 3;have g4:=(hO0).free 4;have g5:=(hO0).free 5;have g6:=(hO0).free 6;have g7:=(hO0).free 7
        have b0:=(hO1).cell 0 _ rfl;have b1:=(hO1).cell 1 _ rfl;have b2:=(hO1).cell 2 _ rfl;have p0:=(hO1).free 0;have p1:=(hO1).free 1;have p2:=(hO1).free 2
        have n0:=hO9.cell 0 _ rfl
        have n1:=hO9.cell 1 _ rfl
        have n2:=hO9.cell 2 _ rfl
        have n3:=hO9.cell 3 _ rfl
        have n4:=hO9.cell 4 _ rfl
        have n5:=hO9.cell 5 _ rfl
        have n6:=hO9.cell 6 _ rfl
        have n7:=hO9.cell 7 _ rfl
        have r3:=HSR7.out.ob.cell 3 _ rfl
        have r4:=HSR7.out.ob.cell 4 _ rfl
        have r5:=HSR7.out.ob.cell 5 _ rfl
        have q1 : ¬ W6.heap.size = w.heap.size:=by have:=HNX.out;have:=HSZ6.out;omega
        have q2 : ¬ w.heap.size = W6.heap.size:=fun e=>q1 e.symm
        have q3 : ¬ W6.heap.size = w.heap.size + 1:=by have:=HNX.out;have:=HSZ6.out;omega
        have q4 : ¬ w.heap.size + 1 = W6.heap.size:=fun e=>q3 e.symm
        have q5 : ¬ W5.heap.size = w.heap.size:=by have:=HNX.out;have:=HSZ.out;omega
        have q6 : ¬ w.heap.size = W5.heap.size:=fun e=>q5 e.symm
        have q7 : ¬ W5.heap.size = w.heap.size + 1:=by have:=HNX.out;have:=HSZ.out;omega
        have q8 : ¬ w.heap.size + 1 = W5.heap.size:=fun e=>q7 e.symm
        clear hO0 hO1 hO9
        go_region
        all_goals
         go_wp2_with fail
         refine bodyPost_ret (v:=.tuple #[(.agg #[.int .i64 c.cats,.slice c.g.a c.g.l.length c.g.cap,.slice c.r.a c.r.l.length c.r.cap,.slice c.p.a c.p.l.length c.p.cap,.slice c.n.a c.n.l.length c.n.cap,.slice c.s.a c.s.l.length c.s.cap,.int .i64 c.gate,.int .i64 c.quota]),(.agg #[.slice v.ia v.im.length v.ic,.slice v.sa v.se.length v.sc,.slice v.na v.inp.length v.nc]),.int .i64 0,.int .i64 0]) (by simp [results,Tryz.results8,go_sem,a0,a1,a2,a3,a4,a5,a6,a7,b0,b1,b2,s6,s7]) rfl ?_
         refine HG.out c v _ (by rw [HSR.out,HPC.out,HV.out]) ?_ ?_ ((((((((((((bmore HB2.out (bmore HB6.out HSR7.out.bel)).setCell (Nat.le_refl _) _).setCell (Nat.le_refl _) _).setCell (Nat.le_refl _) _).setCell (Nat.le_refl _) _).setCell (Nat.le_refl _) _).setCell (Nat.le_refl _) _).setCell (Nat.le_refl _) _).setCell (Nat.le_refl _) _).setCell (Nat.le_succ _) _).setCell (Nat.le_succ _) _).setCell (Nat.le_succ _) _).drew
         ·exact cfg_other (HOK.out.below HSR7.out.bel) HNC.out (by have:=HNX.out;omega) HNX.out (upd_put (upd_put (upd_put (upd_put (upd_put (upd_put (upd_put (upd_put (Upd.refl _ _))))))))) (upd_put (upd_put (upd_put (Upd.refl _ _)))).drew
         ·exact HSR7.out.other HP0.out HP1.out (upd_put (upd_put (upd_put (upd_put (upd_put (upd_put (upd_put (upd_put (Upd.refl _ _))))))))) (upd_put (upd_put (upd_put (Upd.refl _ _)))).drew
       ·have HZ:=fun w' h=>Lib.hid (HZ.out F.2.1 F.2.2 w' (by rw [HSR.out,if_pos hf0]) h)
        have HRP : Hid (∀ e w',RePost W6 W6.heap.size (some ⟨g,o,none⟩) Lc L F e w' → e = .returned (.bool false) ∧ ∃ i last v,SR W6 W6.heap.size (some ⟨g,o,none⟩) Lc L i last v F.2.1 F.2.2 w'):=fun e w' h=>h.2 hf0
        clear hf0
        go_upto_region 14 with (go_at_call 25;refine (HPA.out _ HB6.out).mono ?_;intro e W7 h7;obtain ⟨rfl,i7,last7,v,hsr⟩:=HRP.out _ _ h7;have HSR7:=Lib.hid hsr;clear h7 hsr)
        have hO0:=HO0.out.below (bmore HB6.out HSR7.out.bel)
        have hO1:=HO1.out.below (bmore HB6.out HSR7.out.bel)
        have s6:=hO0.lt
        have s7:=hO1.lt
        have a0:=(hO0).cell 0 _ rfl;have a1:=(hO0).cell 1 _ rfl;have a2:=(hO0).cell 2 _ rfl;have a3:=(hO0).cell 3 _ rfl;have a4:=(hO0).cell 4 _ rfl;have a5:=(hO0).cell 5 _ rfl;have a6:=(hO0).cell 6 _ rfl;have a7:=(hO0).cell 7 _ rfl;have g0:=(hO0).free 0;have g1:=(hO0).free 1;have g2:=(hO0).free 2;have g3:=(hO0).free 3;have g4:=(hO0).free 4;have g5:=(hO0).free 5;have g6:=(hO0).free 6;have g7:=(hO0).free 7
        have b0:=(hO1).cell 0 _ rfl;have b1:=(hO1).cell 1 _ rfl;have b2:=(hO1).cell 2 _ rfl;have p0:=(hO1).free 0;have p1:=(hO1).free 1;have p2:=(hO1).free 2
        have r6:=HSR7.out.ob.cell 6 _ rfl
        have r7:=HSR7.out.ob.cell 7 _ rfl
        have q0:=HO1.out.lt
        have q1 : ¬ W6.heap.size = w.heap.size:=by have:=HNX.out;have:=HSZ6.out;omega
        have q2 : ¬ w.heap.size = W6.heap.size:=fun e=>q1 e.symm
        have q3 : ¬ W6.heap.size = w.heap.size + 1:=by have:=HNX.out;have:=HSZ6.out;omega
        have q4 : ¬ w.heap.size + 1 = W6.heap.size:=fun e=>q3 e.symm
        clear hO0 hO1 q0
        go_region
        all_goals
         go_wp2_with fail
         (refine bodyPost_ret (v:=.tuple #[.agg #[.int .i64 0,.slice none 0 0,.slice none 0 0,.slice none 0 0,.slice none 0 0,.slice none 0 0,.int .i64 0,.int .i64 0],.agg #[.slice none 0 0,.slice none 0 0,.slice none 0 0],.int .i64 F.2.1,.int .i64 F.2.2]) (by simp [results,Tryz.results8,go_sem,a0,a1,a2,a3,a4,a5,a6,a7,b0,b1,b2,s6,s7]) rfl ?_)
         exact (HZ _ ((((((((((((bmore HB2.out (bmore HB6.out HSR7.out.bel)).setCell (Nat.le_refl _) _).setCell (Nat.le_refl _) _).setCell (Nat.le_refl _) _).setCell (Nat.le_refl _) _).setCell (Nat.le_refl _) _).setCell (Nat.le_refl _) _).setCell (Nat.le_refl _) _).setCell (Nat.le_refl _) _).setCell (Nat.le_succ _) _).setCell (Nat.le_succ _) _).setCell (Nat.le_succ _) _).drew).out
      ·have z9 : (pe != 0) = true:=by simp [hp0]
       have HZ:=fun w' h=>Lib.hid (HZ.out pe pa w' (by rw [HSR.out,if_pos hp0]) h)
       have hO0:=HO0.out.below HB6.out
       have hO1:=HO1.out.below HB6.out
       have s6:=hO0.lt
       have s7:=hO1.lt
       have a0:=(hO0).cell 0 _ rfl;have a1:=(hO0).cell 1 _ rfl;have a2:=(hO0).cell 2 _ rfl;have a3:=(hO0).cell 3 _ rfl;have a4:=(hO0).cell 4 _ rfl;have a5:=(hO0).cell 5 _ rfl;have a6:=(hO0).cell 6 _ rfl;have a7:=(hO0).cell 7 _ rfl;have g0:=(hO0).free 0;have g1:=(hO0).free 1;have g2:=(hO0).free 2;have g3:=(hO0).free 3;have g4:=(hO0).free 4;have g5:=(hO0).free 5;have g6:=(hO0).free 6;have g7:=(hO0).free 7
       have b0:=(hO1).cell 0 _ rfl;have b1:=(hO1).cell 1 _ rfl;have b2:=(hO1).cell 2 _ rfl;have p0:=(hO1).free 0;have p1:=(hO1).free 1;have p2:=(hO1).free 2
       clear hp0 hO0 hO1
       go_wp2_with fail
       (refine bodyPost_ret (v:=.tuple #[.agg #[.int .i64 0,.slice none 0 0,.slice none 0 0,.slice none 0 0,.slice none 0 0,.slice none 0 0,.int .i64 0,.int .i64 0],.agg #[.slice none 0 0,.slice none 0 0,.slice none 0 0],.int .i64 pe,.int .i64 pa]) (by simp [results,Tryz.results8,go_sem,a0,a1,a2,a3,a4,a5,a6,a7,b0,b1,b2,s6,s7]) rfl ?_)
       exact (HZ _ ((((((((((((bmore HB2.out HB6.out).setCell (Nat.le_refl _) _).setCell (Nat.le_refl _) _).setCell (Nat.le_refl _) _).setCell (Nat.le_refl _) _).setCell (Nat.le_refl _) _).setCell (Nat.le_refl _) _).setCell (Nat.le_refl _) _).setCell (Nat.le_refl _) _).setCell (Nat.le_succ _) _).setCell (Nat.le_succ _) _).setCell (Nat.le_succ _) _)).out
     ·have d2 : decide ((k : Int) < (L.length : Int)) = false:=decide_eq_false (by omega)
      have d2' : decide (k < L.length) = false:=decide_eq_false hlt
      have HB3:=HBE
      clear hgo
      go_upto_region 9 with fail
      go_upto_region 10 with (first | (go_at_call 24;refine (HTX.out _ HB3.out).mono ?_;rintro e W4 ⟨rfl,hb4⟩;have HB4:=Lib.hid (bmore HB3.out hb4);clear hb4) | (go_at_call 23;refine (HPP.out _ HB4.out).mono ?_;intro e W5 hp;obtain ⟨c,hnc,rfl,hok,hpcc,hb5⟩:=HPS.out _ _ _ hp;have HB5:=Lib.hid (bmore HB4.out hb5);have HNC:=Lib.hid hnc;have HOK:=Lib.hid hok;have HPC:=Lib.hid hpcc;have HSZ:=Lib.hid hb5.size;clear hp hnc hok hpcc hb5))
      obtain ⟨W6,hW6⟩ : ∃ W6,W6 = W5.alloc (.cells #[.int .i64 c.cats,.slice c.g.a c.g.l.length c.g.cap,.slice c.r.a c.r.l.length c.r.cap,.slice c.p.a c.p.l.length c.p.cap,.slice c.n.a c.n.l.length c.n.cap,.slice c.s.a c.s.l.length c.s.cap,.int .i64 c.gate,.int .i64 c.quota] 29):=⟨_,rfl⟩
      rw [← hW6]
      have HO9 : Hid (ObjAt W6 W5.heap.size 29 #[.int .i64 c.cats,.slice c.g.a c.g.l.length c.g.cap,.slice c.r.a c.r.l.length c.r.cap,.slice c.p.a c.p.l.length c.p.cap,.slice c.n.a c.n.l.length c.n.cap,.slice c.s.a c.s.l.length c.s.cap,.int .i64 c.gate,.int .i64 c.quota].toList):=by rw [hW6];exact ObjAt.new W5 _ _
      have hb6 : Below W5.heap.size W5 W6:=by rw [hW6];exact (Below.refl _ _).alloc (Nat.le_refl _) _
      have HB6:=Lib.hid (bmore HB5.out hb6)
      have HOK:=Lib.hid (HOK.out.below hb6)
      have HNX : Hid (w.heap.size + 1 < W4.heap.size):=Nat.lt_of_lt_of_le HO1.out.lt HB4.out.size
      have HSZ6 : Hid (W4.heap.size < W6.heap.size):=Nat.lt_of_le_of_lt HSZ.out (by rw [hW6];simp)
      clear hW6 hb6
      by_cases hp0 : pe = 0
      ·have z9 : (pe != 0) = false:=by simp [hp0]
       have HSR : Hid (scV l = if F.2.1 ≠ 0 then (pcZ,sc0,F.2.1,F.2.2) else (pc,F.1,0,0)):=by rw [Hid,HSR.out,if_neg (by simp [hp0])]
       clear hp0
       by_cases hf0 : F.2.1 = 0
       ·have HSR : Hid (scV l = (pc,F.1,0,0)):=by rw [Hid,HSR.out,if_neg (by simp [hf0])]
        have HRP : Hid (∀ e w',RePost W6 W6.heap.size La Lc L F e w' → e = .returned (.bool true) ∧ ∃ i last v,scOf v = F.1 ∧ SR W6 W6.heap.size La Lc L i last v 0 0 w'):=fun e w' h=>h.1 hf0
        clear hf0
        go_upto_region 15 with (go_at_call 25;refine (HPA.out _ HB6.out).mono ?_;intro e W7 h7;obtain ⟨rfl,i7,last7,v,hv,hsr⟩:=HRP.out _ _ h7;have HV:=Lib.hid hv;have HSR7:=Lib.hid hsr;clear h7 hv hsr)
        have hO0:=HO0.out.below (bmore HB6.out HSR7.out.bel)
        have hO1:=HO1.out.below (bmore HB6.out HSR7.out.bel)
        have hO9:=HO9.out.below HSR7.out.bel
        have HP0:=Lib.hid hO0
        have HP1:=Lib.hid hO1
        have s6:=hO0.lt
        have s7:=hO1.lt
        have a0:=(hO0).cell 0 _ rfl;have a1:=(hO0).cell 1 _ rfl;have a2:=(hO0).cell 2 _ rfl;have a3:=(hO0).cell 3 _ rfl;have a4:=(hO0).cell 4 _ rfl;have a5:=(hO0).cell 5 _ rfl;have a6:=(hO0).cell 6 _ rfl;have a7:=(hO0).cell 7 _ rfl;have g0:=(hO0).free 0;have g1:=(hO0).free 1;have g2:=(hO0).free 2;have g3:=(hO0).free 3;have g4:=(hO0).free 4;have g5:=(hO0).free 5;have g6:=(hO0).free 6;have g7:=(hO0).free 7
        have b0:=(hO1).cell 0 _ rfl;have b1:=(hO1).cell 1 _ rfl;have b2:=(hO1).cell 2 _ rfl;have p0:=(hO1).free 0;have p1:=(hO1).free 1;have p2:=(hO1).free 2
        have n0:=hO9.cell 0 _ rfl
        have n1:=hO9.cell 1 _ rfl
        have n2:=hO9.cell 2 _ rfl
        have n3:=hO9.cell 3 _ rfl
        have n4:=hO9.cell 4 _ rfl
        have n5:=hO9.cell 5 _ rfl
        have n6:=hO9.cell 6 _ rfl
        have n7:=hO9.cell 7 _ rfl
        have r3:=HSR7.out.ob.cell 3 _ rfl
        have r4:=HSR7.out.ob.cell 4 _ rfl
        have r5:=HSR7.out.ob.cell 5 _ rfl
        have q1 : ¬ W6.heap.size = w.heap.size:=by have:=HNX.out;have:=HSZ6.out;omega
        have q2 : ¬ w.heap.size = W6.heap.size:=fun e=>q1 e.symm
        have q3 : ¬ W6.heap.size = w.heap.size + 1:=by have:=HNX.out;have:=HSZ6.out;omega
        have q4 : ¬ w.heap.size + 1 = W6.heap.size:=fun e=>q3 e.symm
        have q5 : ¬ W5.heap.size = w.heap.size:=by have:=HNX.out;have:=HSZ.out;omega
        have q6 : ¬ w.heap.size = W5.heap.size:=fun e=>q5 e.symm
        have q7 : ¬ W5.heap.size = w.heap.size + 1:=by have:=HNX.out;have:=HSZ.out;omega
        have q8 : ¬ w.heap.size + 1 = W5.heap.size:=fun e=>q7 e.symm
        clear hO0 hO1 hO9
        go_region
        all_goals
         go_wp2_with fail
         refine bodyPost_ret (v:=.tuple #[(.agg #[.int .i64 c.cats,.slice c.g.a c.g.l.length c.g.cap,.slice c.r.a c.r.l.length c.r.cap,.slice c.p.a c.p.l.length c.p.cap,.slice c.n.a c.n.l.length c.n.cap,.slice c.s.a c.s.l.length c.s.cap,.int .i64 c.gate,.int .i64 c.quota]),(.agg #[.slice v.ia v.im.length v.ic,.slice v.sa v.se.length v.sc,.slice v.na v.inp.length v.nc]),.int .i64 0,.int .i64 0]) (by simp [results,Tryz.results8,go_sem,a0,a1,a2,a3,a4,a5,a6,a7,b0,b1,b2,s6,s7]) rfl ?_
         refine HG.out c v _ (by rw [HSR.out,HPC.out,HV.out]) ?_ ?_ ((((((((((((bmore HB2.out (bmore HB6.out HSR7.out.bel)).setCell (Nat.le_refl _) _).setCell (Nat.le_refl _) _).setCell (Nat.le_refl _) _).setCell (Nat.le_refl _) _).setCell (Nat.le_refl _) _).setCell (Nat.le_refl _) _).setCell (Nat.le_refl _) _).setCell (Nat.le_refl _) _).setCell (Nat.le_succ _) _).setCell (Nat.le_succ _) _).setCell (Nat.le_succ _) _).drew
         ·exact cfg_other (HOK.out.below HSR7.out.bel) HNC.out (by have:=HNX.out;omega) HNX.out (upd_put (upd_put (upd_put (upd_put (upd_put (upd_put (upd_put (upd_put (Upd.refl _ _))))))))) (upd_put (upd_put (upd_put (Upd.refl _ _)))).drew
         ·exact HSR7.out.other HP0.out HP1.out (upd_put (upd_put (upd_put (upd_put (upd_put (upd_put (upd_put (upd_put (Upd.refl _ _))))))))) (upd_put (upd_put (upd_put (Upd.refl _ _)))).drew
       ·have HZ:=fun w' h=>Lib.hid (HZ.out F.2.1 F.2.2 w' (by rw [HSR.out,if_pos hf0]) h)
        have HRP : Hid (∀ e w',RePost W6 W6.heap.size La Lc L F e w' → e = .returned (.bool false) ∧ ∃ i last v,SR W6 W6.heap.size La Lc L i last v F.2.1 F.2.2 w'):=fun e w' h=>h.2 hf0
        clear hf0
        go_upto_region 14 with (go_at_call 25;refine (HPA.out _ HB6.out).mono ?_;intro e W7 h7;obtain ⟨rfl,i7,last7,v,hsr⟩:=HRP.out _ _ h7;have HSR7:=Lib.hid hsr;clear h7 hsr)
        have hO0:=HO0.out.below (bmore HB6.out HSR7.out.bel)
        have hO1:=HO1.out.below (bmore HB6.out HSR7.out.bel)
        have s6:=hO0.lt
        have s7:=hO1.lt
        have a0:=(hO0).cell 0 _ rfl;have a1:=(hO0).cell 1 _ rfl;have a2:=(hO0).cell 2 _ rfl;have a3:=(hO0).cell 3 _ rfl;have a4:=(hO0).cell 4 _ rfl;have a5:=(hO0).cell 5 _ rfl;have a6:=(hO0).cell 6 _ rfl;have a7:=(hO0).cell 7 _ rfl;have g0:=(hO0).free 0;have g1:=(hO0).free 1;have g2:=(hO0).free 2;have g3:=(hO0).free 3;have g4:=(hO0).free 4;have g5:=(hO0).free 5;have g6:=(hO0).free 6;have g7:=(hO0).free 7
        have b0:=(hO1).cell 0 _ rfl;have b1:=(hO1).cell 1 _ rfl;have b2:=(hO1).cell 2 _ rfl;have p0:=(hO1).free 0;have p1:=(hO1).free 1;have p2:=(hO1).free 2
        have r6:=HSR7.out.ob.cell 6 _ rfl
        have r7:=HSR7.out.ob.cell 7 _ rfl
        have q0:=HO1.out.lt
        have q1 : ¬ W6.heap.size = w.heap.size:=by have:=HNX.out;have:=HSZ6.out;omega
        have q2 : ¬ w.heap.size = W6.heap.size:=fun e=>q1 e.symm
        have q3 : ¬ W6.heap.size = w.heap.size + 1:=by have:=HNX.out;have:=HSZ6.out;omega
        have q4 : ¬ w.heap.size + 1 = W6.heap.size:=fun e=>q3 e.symm
        clear hO0 hO1 q0
        go_region
        all_goals
         go_wp2_with fail
         (refine bodyPost_ret (v:=.tuple #[.agg #[.int .i64 0,.slice none 0 0,.slice none 0 0,.slice none 0 0,.slice none 0 0,.slice none 0 0,.int .i64 0,.int .i64 0],.agg #[.slice none 0 0,.slice none 0 0,.slice none 0 0],.int .i64 F.2.1,.int .i64 F.2.2]) (by simp [results,Tryz.results8,go_sem,a0,a1,a2,a3,a4,a5,a6,a7,b0,b1,b2,s6,s7]) rfl ?_)
         exact (HZ _ ((((((((((((bmore HB2.out (bmore HB6.out HSR7.out.bel)).setCell (Nat.le_refl _) _).setCell (Nat.le_refl _) _).setCell (Nat.le_refl _) _).setCell (Nat.le_refl _) _).setCell (Nat.le_refl _) _).setCell (Nat.le_refl _) _).setCell (Nat.le_refl _) _).setCell (Nat.le_refl _) _).setCell (Nat.le_succ _) _).setCell (Nat.le_succ _) _).setCell (Nat.le_succ _) _).drew).out
      ·have z9 : (pe != 0) = true:=by simp [hp0]
       have HZ:=fun w' h=>Lib.hid (HZ.out pe pa w' (by rw [HSR.out,if_pos hp0]) h)
       have hO0:=HO0.out.below HB6.out
       have hO1:=HO1.out.below HB6.out
       have s6:=hO0.lt
       have s7:=hO1.lt
       have a0:=(hO0).cell 0 _ rfl;have a1:=(hO0).cell 1 _ rfl;have a2:=(hO0).cell 2 _ rfl;have a3:=(hO0).cell 3 _ rfl;have a4:=(hO0).cell 4 _ rfl;have a5:=(hO0).cell 5 _ rfl;have a6:=(hO0).cell 6 _ rfl;have a7:=(hO0).cell 7 _ rfl;have g0:=(hO0).free 0;have g1:=(hO0).free 1;have g2:=(hO0).free 2;have g3:=(hO0).free 3;have g4:=(hO0).free 4;have g5:=(hO0).free 5;have g6:=(hO0).free 6;have g7:=(hO0).free 7
       have b0:=(hO1).cell 0 _ rfl;have b1:=(hO1).cell 1 _ rfl;have b2:=(hO1).cell 2 _ rfl;have p0:=(hO1).free 0;have p1:=(hO1).free 1;have p2:=(hO1).free 2
       clear hp0 hO0 hO1
       go_wp2_with fail
       (refine bodyPost_ret (v:=.tuple #[.agg #[.int .i64 0,.slice none 0 0,.slice none 0 0,.slice none 0 0,.slice none 0 0,.slice none 0 0,.int .i64 0,.int .i64 0],.agg #[.slice none 0 0,.slice none 0 0,.slice none 0 0],.int .i64 pe,.int .i64 pa]) (by simp [results,Tryz.results8,go_sem,a0,a1,a2,a3,a4,a5,a6,a7,b0,b1,b2,s6,s7]) rfl ?_)
       exact (HZ _ ((((((((((((bmore HB2.out HB6.out).setCell (Nat.le_refl _) _).setCell (Nat.le_refl _) _).setCell (Nat.le_refl _) _).setCell (Nat.le_refl _) _).setCell (Nat.le_refl _) _).setCell (Nat.le_refl _) _).setCell (Nat.le_refl _) _).setCell (Nat.le_refl _) _).setCell (Nat.le_succ _) _).setCell (Nat.le_succ _) _).setCell (Nat.le_succ _) _)).out
end Go.Proofs.YtoklonmiejdgmaaGreatDoor
/- The law's awake; the reference's digits. -/
namespace Go.Proofs.YtoklonmiejdgmaaGreatDoor
set_option linter.unusedVariables false
set_option linter.unusedSimpArgs false
set_option linter.unnecessarySimpa false
open Go.RowKit Go.Sort
set_option maxHeartbeats 4000000
set_option maxRecDepth 100000
set_option linter.unusedVariables false
def swkT : List UInt8:=[99,97,116,115,32,48,10,103,117,101,115,116,32,45,32,50,32,48,10,115,108,111,116,32,48,32,49,10,105,109,97,103,101,10,104,97,108,116,10,101,110,100,10]
theorem swkP : ((scV swkT).1.g.length,(scV swkT).2.1.im.length,(scV swkT).2.2.1,(scV swkT).2.2.2) = (1,1,0,0):=by decide +kernel
theorem swkU : unV [54,49,54,50] = [97,98] ∧ unB [54,49,54,50] = true:=by decide +kernel
theorem sawake_any (w : World) (hT : WdTab w) (hI : Isa.Tab w) : Calls Tryz.prog 7 #[] w fun e w'=>e = .returned (.bool true) ∧ Below w.heap.size w w':=by
 have HU : Hid (Calls Tryz.prog 13 #[.string ⟨#[54,49,54,50]⟩] w fun e w'=>e = .returned (.tuple #[.string ⟨#[97,98]⟩,.bool true]) ∧ Below w.heap.size w w'):=by
  refine (unhex_any ⟨#[54,49,54,50]⟩ (by decide) w).mono ?_
  rintro e w' ⟨h1,h2⟩
  rw [show (⟨#[54,49,54,50]⟩ : ByteArray).data.toList = [54,49,54,50] from rfl,swkU.1,swkU.2] at h1
  exact ⟨h1,h2⟩
 have HA : Hid (∀ W,Below w.heap.size w W → Calls Tryz.prog 8 #[.string ⟨#[99,97,116,115,32,48,10,103,117,101,115,116,32,45,32,50,32,48,10,115,108,111,116,32,48,32,49,10,105,109,97,103,101,10,104,97,108,116,10,101,110,100,10]⟩] W fun e w'=>∃ (c : Cv) (v : Sv),e = .returned (.tuple #[(.agg #[.int .i64 c.cats,.slice c.g.a c.g.l.length c.g.cap,.slice c.r.a c.r.l.length c.r.cap,.slice c.p.a c.p.l.length c.p.cap,.slice c.n.a c.n.l.length c.n.cap,.slice c.s.a c.s.l.length c.s.cap,.int .i64 c.gate,.int .i64 c.quota]),(.agg #[.slice v.ia v.im.length v.ic,.slice v.sa v.se.length v.sc,.slice v.na v.inp.length v.nc]),.int .i64 0,.int .i64 0]) ∧ c.g.l.length = 1 ∧ v.im.length = 1 ∧ Below W.heap.size W w'):=fun W hb=>by
  refine (sparse_any ⟨#[99,97,116,115,32,48,10,103,117,101,115,116,32,45,32,50,32,48,10,115,108,111,116,32,48,32,49,10,105,109,97,103,101,10,104,97,108,116,10,101,110,100,10]⟩ (by decide) W (hT.below hb) (hI.below hb)).mono ?_
  rintro e w' ⟨c,v,h1,_,_,h3,h5,h4⟩
  have hp:=swkP
  rw [Prod.mk.injEq,Prod.mk.injEq,Prod.mk.injEq] at hp
  obtain ⟨p1,p2,p3,p4⟩:=hp
  have e0 : (⟨#[99,97,116,115,32,48,10,103,117,101,115,116,32,45,32,50,32,48,10,115,108,111,116,32,48,32,49,10,105,109,97,103,101,10,104,97,108,116,10,101,110,100,10]⟩ : ByteArray).data.toList = swkT:=rfl
  rw [e0] at h1 h3 h5
  rw [p3,p4] at h1
  rw [← h3] at p1
  rw [← h5] at p2
  exact ⟨c,v,h1,p1,by simpa [scOf] using p2,h4⟩
 have HX : Hid (∀ W,Calls Tryz.prog 12 #[.string ByteArray.empty] W fun e w'=>e = .returned (.string ⟨#[45]⟩) ∧ Below W.heap.size W w'):=fun W=>hex_any ByteArray.empty (by decide) W
 clear hT hI
 go_enter Tryz.func7,Tryz.ntmps7
 go_wp2_with fail
 refine HU.out.mono ?_;rintro e w1 ⟨rfl,hb1⟩
 have HB1:=Lib.hid hb1
 clear hb1
 go_wp2_with fail
 refine (HA.out _ HB1.out).mono ?_;rintro e w2 ⟨c,v,rfl,hl,hg,hb2⟩
 have HB:=Lib.hid (bmore HB1.out hb2)
 rw [hl,hg]
 clear hb2 hl hg
 go_wp2_with (go_at_call 12;refine (HX.out _).mono ?_;rintro e w3 ⟨rfl,hb3⟩;have HB3:=Lib.hid hb3;clear hb3)
 go_ret
 exact ⟨rfl,bmore ((HB.out.alloc HB.out.size _).alloc (HB.out.alloc HB.out.size _).size _) HB3.out⟩
end Go.Proofs.YtoklonmiejdgmaaGreatDoor
/- The reference's digits: Hex, Unhex. -/
namespace Go.Proofs.YtoklonmiejdgmaaGreatDoor
set_option linter.unusedVariables false
set_option linter.unusedSimpArgs false
set_option linter.unnecessarySimpa false
open Go.RowKit Go.Sort
set_option maxHeartbeats 4000000
set_option maxRecDepth 100000
set_option linter.unusedVariables false
def rvN (b : UInt8) : Nat:=if hvB b then hvN b else 16
theorem rvalue_any (b : UInt8) (w : World) : Calls Tryz.prog 35 #[.int .u8 (b.toNat : Int)] w fun e w'=>e = .returned (.int .i64 (rvN b : Int)) ∧ w = w':=by
 have hb:=b.toNat_lt
 by_cases h1 : 48 ≤ b.toNat ∧ b.toNat ≤ 57
 ·have H : Hid (rvN b = b.toNat - 48):=by rw [Hid,rvN,if_pos ((hv_iff b).2 (Or.inl h1)),hvN,if_pos h1.2]
  have d1 : decide ((b.toNat : Int) ≥ 48) = true:=decide_eq_true (by omega)
  have d2 : decide ((b.toNat : Int) ≤ 57) = true:=decide_eq_true (by omega)
  have d1' : decide (48 ≤ b.toNat) = true:=decide_eq_true h1.1
  have d2' : decide (b.toNat ≤ 57) = true:=decide_eq_true h1.2
  have w1 : IntKind.u8.wrap ((b.toNat : Int) - 48) = ((b.toNat - 48 : Nat) : Int):=by rw [IntKind.wrap_u8];omega
  have w2 : IntKind.i64.wrap ((b.toNat - 48 : Nat) : Int) = ((b.toNat - 48 : Nat) : Int):=by rw [IntKind.wrap_i64];omega
  clear h1
  go_enter Tryz.func35,Tryz.ntmps35
  go_wp2_with fail
  go_ret
  exact ⟨by rw [H.out];rfl,rfl⟩
 ·by_cases h2 : 97 ≤ b.toNat ∧ b.toNat ≤ 102
  ·have H : Hid (rvN b = b.toNat - 87):=by rw [Hid,rvN,if_pos ((hv_iff b).2 (Or.inr h2)),hvN,if_neg (by omega)]
   have d1 : decide ((b.toNat : Int) ≥ 48) = true:=decide_eq_true (by omega)
   have d2 : decide ((b.toNat : Int) ≤ 57) = false:=decide_eq_false (by omega)
   have d3 : decide ((b.toNat : Int) ≥ 97) = true:=decide_eq_true (by omega)
   have d4 : decide ((b.toNat : Int) ≤ 102) = true:=decide_eq_true (by omega)
   have d1' : decide (48 ≤ b.toNat) = true:=decide_eq_true (by omega)
   have d2' : decide (b.toNat ≤ 57) = false:=decide_eq_false (by omega)
   have d3' : decide (97 ≤ b.toNat) = true:=decide_eq_true h2.1
   have d4' : decide (b.toNat ≤ 102) = true:=decide_eq_true h2.2
   have w1 : IntKind.u8.wrap ((b.toNat : Int) - 97) = ((b.toNat - 97 : Nat) : Int):=by rw [IntKind.wrap_u8];omega
   have w2 : IntKind.i64.wrap ((b.toNat - 97 : Nat) : Int) = ((b.toNat - 97 : Nat) : Int):=by rw [IntKind.wrap_i64];omega
   have w3 : IntKind.i64.wrap (((b.toNat - 97 : Nat) : Int) + 10) = ((b.toNat - 87 : Nat) : Int):=by rw [IntKind.wrap_i64];omega
   clear h1 h2
   go_enter Tryz.func35,Tryz.ntmps35
   go_wp2_with fail
   go_ret
   exact ⟨by rw [H.out];rfl,rfl⟩
  ·have H : Hid (rvN b = 16):=by rw [Hid,rvN,if_neg (fun h=>((hv_iff b).1 h).elim h1 h2)]
   have e1 : (decide ((b.toNat : Int) ≥ 48) && decide ((b.toNat : Int) ≤ 57)) = false:=by rw [Bool.and_eq_false_iff,decide_eq_false_iff_not,decide_eq_false_iff_not];omega
   have e2 : (decide ((b.toNat : Int) ≥ 97) && decide ((b.toNat : Int) ≤ 102)) = false:=by rw [Bool.and_eq_false_iff,decide_eq_false_iff_not,decide_eq_false_iff_not];omega
   rcases Nat.lt_or_ge b.toNat 48 with q | q
   ·have d1 : decide ((b.toNat : Int) ≥ 48) = false:=decide_eq_false (by omega)
    have d3 : decide ((b.toNat : Int) ≥ 97) = false:=decide_eq_false (by omega)
    have d1' : decide (48 ≤ b.toNat) = false:=decide_eq_false (by omega)
    have d3' : decide (97 ≤ b.toNat) = false:=decide_eq_false (by omega)
    clear h1 h2 e1 e2 q
    go_enter Tryz.func35,Tryz.ntmps35
    go_wp2_with fail
    go_ret
    exact ⟨by rw [H.out];rfl,rfl⟩
   ·have d1 : decide ((b.toNat : Int) ≥ 48) = true:=decide_eq_true (by omega)
    have d1' : decide (48 ≤ b.toNat) = true:=decide_eq_true q
    have d2 : decide ((b.toNat : Int) ≤ 57) = false:=decide_eq_false (by omega)
    have d2' : decide (b.toNat ≤ 57) = false:=decide_eq_false (by omega)
    rcases Nat.lt_or_ge b.toNat 97 with r | r
    ·have d3 : decide ((b.toNat : Int) ≥ 97) = false:=decide_eq_false (by omega)
     have d3' : decide (97 ≤ b.toNat) = false:=decide_eq_false (by omega)
     clear h1 h2 e1 e2 q r
     go_enter Tryz.func35,Tryz.ntmps35
     go_wp2_with fail
     go_ret
     exact ⟨by rw [H.out];rfl,rfl⟩
    ·have d3 : decide ((b.toNat : Int) ≥ 97) = true:=decide_eq_true (by omega)
     have d3' : decide (97 ≤ b.toNat) = true:=decide_eq_true r
     have d4 : decide ((b.toNat : Int) ≤ 102) = false:=decide_eq_false (by omega)
     have d4' : decide (b.toNat ≤ 102) = false:=decide_eq_false (by omega)
     clear h1 h2 e1 e2 q r
     go_enter Tryz.func35,Tryz.ntmps35
     go_wp2_with fail
     go_ret
     exact ⟨by rw [H.out];rfl,rfl⟩
end Go.Proofs.YtoklonmiejdgmaaGreatDoor
/- The reference's join, rank, ends. -/
namespace Go.Proofs.YtoklonmiejdgmaaGreatDoor
set_option linter.unusedVariables false
set_option linter.unusedSimpArgs false
set_option linter.unnecessarySimpa false
open Go.RowKit Go.Sort
set_option maxHeartbeats 4000000
set_option maxRecDepth 100000
set_option linter.unusedVariables false
theorem srank_any (y : List UInt8) (hy : y.length ≤ 100000) (w : World) : Calls Tryz.prog 27 #[.string (ba y)] w (RkPost y w):=by
 have HSPL:=Lib.hid (rsplit_any (ba y) (by rw [ba_size];omega) w)
 rw [ba_data] at HSPL
 cases hw : wordsB y
 ·have HSH : Hid (∀ e w',SplitPost y w e w' → e = .returned (.tuple #[.slice none 0 0,.bool false]) ∧ Below w.heap.size w w'):=fun e w' h=>⟨h.2.1 hw,h.2.2⟩
  have HR:=Lib.hid (rankS_no hw)
  clear hw hy
  go_enter Tryz.func27,Tryz.ntmps27
  go_wp2_with fail
  refine HSPL.out.mono ?_;intro e w1 h1
  obtain ⟨rfl,hb1⟩:=HSH.out _ _ h1
  clear h1
  go_wp2_with fail
  go_ret
  exact ⟨by rw [HR.out];rfl,hb1⟩
 ·obtain ⟨ws,hws⟩ : ∃ ws,ws = fieldsC 32 y:=⟨_,rfl⟩
  have HSH : Hid (∀ e w',SplitPost y w e w' → (∃ a cap,e = .returned (.tuple #[.slice a ws.length cap,.bool true]) ∧ RdW w' a cap ws) ∧ Below w.heap.size w w'):=fun e w' h=>by rw [hws];exact ⟨h.1 hw,h.2.2⟩
  have hne : ws ≠ []:=by rw [hws];exact fieldsC_ne 32 _
  have hpos : 0 < ws.length:=List.length_pos_iff.2 hne
  obtain ⟨x,hx⟩ : ∃ x,x = ws[0]:=⟨_,rfl⟩
  have hxh : wHead y = x:=by
   unfold wHead
   rw [← hws,hx]
   cases ws with
   | nil=>exact absurd rfl hne
   | cons a l=>rfl
  have HR : Hid (rankS y = rankH x):=by rw [Hid,rankS_yes hw,hxh]
  have b0:=ba_lit x [105,109,97,103,101]
  have b1:=ba_lit x [115,101,99,116,111,114]
  have b2:=ba_lit x [105,110,112,117,116]
  clear hw hy hws hne hxh
  go_enter Tryz.func27,Tryz.ntmps27
  go_wp2_with fail
  refine HSPL.out.mono ?_;intro e w1 h1
  obtain ⟨⟨aw,cw,rfl,hR⟩,hb1⟩:=HSH.out _ _ h1
  obtain ⟨gw,ow,rfl,hgw,hcw⟩:=hR.at_ 0 hpos
  have c0 : w1.cell? ⟨gw,ow,none⟩ = some (.string (ba x)):=by rw [hx];exact hcw 0 hpos
  have hlew:=hR.le
  have HB:=Lib.hid hb1
  clear h1 hb1 hcw hR hx
  by_cases h0 : x = wImage
  ·have HF:=Lib.hid (rankH_0 h0)
   rw [decide_eq_true (show x = [105,109,97,103,101] from h0)] at b0
   clear h0 b1 b2
   go_wp2_with fail
   go_ret
   exact ⟨by rw [HR.out,HF.out];rfl,HB.out⟩
  ·rw [decide_eq_false (show ¬ x = [105,109,97,103,101] from h0)] at b0
   by_cases h1 : x = wSector
   ·have HF:=Lib.hid (rankH_1 h0 h1)
    rw [decide_eq_true (show x = [115,101,99,116,111,114] from h1)] at b1
    clear h0 h1 b2
    go_wp2_with fail
    go_ret
    exact ⟨by rw [HR.out,HF.out];rfl,HB.out⟩
   ·rw [decide_eq_false (show ¬ x = [115,101,99,116,111,114] from h1)] at b1
    by_cases h2 : x = wInput
    ·have HF:=Lib.hid (rankH_2 h0 h1 h2)
     rw [decide_eq_true (show x = [105,110,112,117,116] from h2)] at b2
     clear h0 h1 h2
     go_wp2_with fail
     go_ret
     exact ⟨by rw [HR.out,HF.out];rfl,HB.out⟩
    ·have HF:=Lib.hid (rankH_3 h0 h1 h2)
     rw [decide_eq_false (show ¬ x = [105,110,112,117,116] from h2)] at b2
     clear h0 h1 h2
     go_wp2_with fail
     go_ret
     exact ⟨by rw [HR.out,HF.out];rfl,HB.out⟩
theorem joinT_snoc (A : List (List UInt8)) (x : List UInt8) : joinT (A ++ [x]) = joinT A ++ (x ++ [10]):=by simp [joinT]
theorem rjoin_any (a : Option Addr) (cap : Nat) (L : List (List UInt8)) (W : World) (h : RdW W a cap L) (hl : (joinT L).length ≤ 1000000) :
  Calls Tryz.prog 29 #[.slice a L.length cap] W fun e w'=>e = .returned (.string (ba (joinT L))) ∧ w' = W:=by
 have hmx:=h.mx
 unfold maxLen at hmx
 have hle:=h.le
 have H:=Lib.hid h
 clear h
 go_enter Tryz.func29,Tryz.ntmps29
 go_upto_region 3 with fail
 go_loopw [3,4] (fun z i wr=>∃ k : Nat,k ≤ L.length ∧ i = .int .i64 k ∧ z = .string (ba (joinT (L.take k))) ∧ wr = W) (fun _ i _=>L.length - (intOf i).toNat)
 case atStart=>exact ⟨0,by omega,rfl,rfl,rfl⟩
 case round=>
  obtain ⟨k,hk,rfl,rfl,rfl⟩:=hrel
  by_cases hlt : k < L.length
  ·obtain ⟨g,o,rfl,hg,hc⟩:=H.out.at_ k hlt
   have hcr:=hc k hlt
   obtain ⟨x,hx⟩ : ∃ x,x = L[k]:=⟨_,rfl⟩
   rw [← hx] at hcr
   obtain ⟨J,hJ⟩ : ∃ J,J = joinT (L.take k):=⟨_,rfl⟩
   rw [← hJ]
   have hst : joinT (L.take (k + 1)) = J ++ (x ++ [10]):=by rw [List.take_succ_eq_append_getElem hlt,joinT_snoc,← hJ,hx]
   have hjl:=joinT_take L (k + 1)
   rw [hst] at hjl
   simp only [List.length_append,List.length_singleton] at hjl
   have HST:=Lib.hid hst
   have d1 : decide ((k : Int) < (L.length : Int)) = true:=decide_eq_true (by omega)
   have d1' : decide (k < L.length) = true:=decide_eq_true hlt
   have w2 : IntKind.i64.wrap ((k : Int) + 1) = (k : Int) + 1:=by rw [IntKind.wrap_i64];omega
   have s1 : ¬ 9223372036854775807 < (ba J).size + (ba x).size:=by rw [ba_size,ba_size];omega
   have s2 : ¬ 9223372036854775807 < (ba J).size + (ba x).size + 1:=by rw [ba_size,ba_size];omega
   clear hc hx hJ hst
   go_wp2_with fail
   go_roundw
   case rel=>exact ⟨k + 1,by omega,by go_num,by rw [HST.out,← List.append_assoc,← nlc_ba,show ba (J ++ x) = ba J ++ ba x from (ba_append J x).symm],trivial⟩
   case measure=>simp [intOf];omega
  ·obtain rfl : k = L.length:=by omega
   have d1 : decide ((L.length : Int) < (L.length : Int)) = false:=decide_eq_false (by omega)
   have hT : L.take L.length = L:=List.take_length
   rw [hT]
   go_wp2_with fail
   go_ret
   exact ⟨rfl,rfl⟩
def rendV (L : List (List UInt8)) (i : Nat) : Int:=match endS L i with
 | some j=>(j : Int)
 | none=>-1
theorem rends_any (a : Option Addr) (cap : Nat) (L : List (List UInt8)) (i : Nat) (hi : i ≤ L.length) (W : World) (h : RdW W a cap L) :
  Calls Tryz.prog 60 #[.slice a L.length cap,.int .i64 i] W fun e w'=>e = .returned (.int .i64 (rendV L i)) ∧ w' = W:=by
 have HS : Hid (∀ j,j < L.length → i ≤ j → L.getD j [] = wEnd → (∀ m,i ≤ m → m < j → L.getD m [] ≠ wEnd) → rendV L i = j):=fun j h1 h2 h3 h4=>by unfold rendV;rw [endS_hit h1 h2 h3 h4]
 have HN : Hid ((∀ m,i ≤ m → m < L.length → L.getD m [] ≠ wEnd) → rendV L i = -1):=fun h1=>by unfold rendV;rw [endS_none h1]
 obtain ⟨R,hR⟩ : ∃ R,R = rendV L i:=⟨_,rfl⟩
 rw [← hR] at HS HN ⊢
 have hmx:=h.mx
 unfold maxLen at hmx
 have hle:=h.le
 have H:=Lib.hid h
 clear h hR
 go_enter Tryz.func60,Tryz.ntmps60
 go_upto_region 2 with fail
 go_loop [5] (fun z=>∃ k : Nat,i ≤ k ∧ k ≤ L.length ∧ z = .int .i64 k ∧ ∀ m,i ≤ m → m < k → L.getD m [] ≠ wEnd) (fun z=>L.length - (intOf z).toNat)
 case atStart=>exact ⟨i,by omega,hi,rfl,fun m h1 h2=>by omega⟩
 case round=>
  obtain ⟨k,hk1,hk,rfl,hn⟩:=hrel
  have HNO:=Lib.hid hn
  clear hn
  by_cases hlt : k < L.length
  ·obtain ⟨g,o,rfl,hg,hc⟩:=H.out.at_ k hlt
   have hcr : W.cell? ⟨g,o + k,none⟩ = some (.string (ba L[k])):=hc k hlt
   obtain ⟨x,hx⟩ : ∃ x,x = L[k]:=⟨_,rfl⟩
   rw [← hx] at hcr
   have hxd : L.getD k [] = x:=by rw [List.getD_eq_getElem?_getD,List.getElem?_eq_getElem hlt,hx];rfl
   have d1 : decide ((k : Int) < (L.length : Int)) = true:=decide_eq_true (by omega)
   have d1' : decide (k < L.length) = true:=decide_eq_true hlt
   have w2 : IntKind.i64.wrap ((k : Int) + 1) = (k : Int) + 1:=by rw [IntKind.wrap_i64];omega
   have b0:=ba_lit x [101,110,100]
   by_cases he : x = wEnd
   ·have HR:=Lib.hid (HS.out k hlt hk1 (by rw [hxd,he]) HNO.out)
    rw [decide_eq_true (show x = [101,110,100] from he)] at b0
    clear hc hx hxd he
    go_wp2_with fail
    go_ret
    exact ⟨by rw [HR.out];rfl,rfl⟩
   ·have HN2 : Hid (∀ m,i ≤ m → m < k + 1 → L.getD m [] ≠ wEnd):=fun m h1 h2=>by
     by_cases e : m = k
     ·subst e;rw [hxd];exact he
     ·exact HNO.out m h1 (by omega)
    rw [decide_eq_false (show ¬ x = [101,110,100] from he)] at b0
    clear hc hx hxd he
    go_wp2_with fail
    go_round
    case rel=>exact ⟨k + 1,by omega,by omega,by go_num,HN2.out⟩
    case measure=>simp [intOf];omega
  ·obtain rfl : k = L.length:=by omega
   have d1 : decide ((L.length : Int) < (L.length : Int)) = false:=decide_eq_false (by omega)
   have HR:=Lib.hid (HN.out (fun m h1 h2=>HNO.out m h1 h2))
   go_wp2_with fail
   go_ret
   exact ⟨by rw [HR.out];rfl,rfl⟩
end Go.Proofs.YtoklonmiejdgmaaGreatDoor
/- The reference's digits: Unhex. -/
namespace Go.Proofs.YtoklonmiejdgmaaGreatDoor
set_option linter.unusedVariables false
set_option linter.unusedSimpArgs false
set_option linter.unnecessarySimpa false
open Go.RowKit Go.Sort
set_option maxHeartbeats 4000000
set_option maxRecDepth 100000
set_option linter.unusedVariables false
theorem unPair_app (a b : UInt8) : ∀ x : List UInt8,x.length % 2 = 0 → unPair (x ++ [a,b]) = unPair x ++ [UInt8.ofNat (16 * hvN a + hvN b)]
 | [],_=>rfl
 | [y],h=>by simp at h
 | y :: z :: r,h=>by
  have ih:=unPair_app a b r (by simp at h;omega)
  rw [List.cons_append,List.cons_append,unPair,ih,unPair];rfl
theorem rvN_big (b : UInt8) : (hvB b = true ∧ rvN b = hvN b ∧ rvN b < 16) ∨ (hvB b = false ∧ rvN b = 16):=by
 unfold rvN
 cases h : hvB b
 ·right;exact ⟨rfl,by simp⟩
 ·left;exact ⟨rfl,by simp,by simpa using hvN_lt h⟩
theorem runhex_any (s : ByteArray) (hs : s.size ≤ 1000000) (w : World) : Calls Tryz.prog 15 #[.string s] w (UnPost s.data.toList w):=by
 obtain ⟨ib,hib,hzb,hzb1,hzb2⟩:=info_parts info_byte
 have e45 : (s.toList == [45]) = decide (s.data.toList = [45]):=by rw [ByteArray.toList_eq,Bool.eq_iff_iff];simp
 by_cases h45 : s.data.toList = [45]
 ·rw [decide_eq_true h45] at e45
  have HP : Hid (∀ w',Below w.heap.size w w' → UnPost s.data.toList w (.returned (.tuple #[.string ⟨#[]⟩,.bool true])) w'):=fun w' hb=>⟨by rw [h45];rfl,hb⟩
  clear h45
  go_enter Tryz.func15,Tryz.ntmps15
  go_wp2_with fail
  go_ret2
  exact HP.out _ (Below.refl _ _)
 ·rw [decide_eq_false h45] at e45
  have HBAD : Hid (∀ w',unB s.data.toList = false → Below w.heap.size w w' → UnPost s.data.toList w (.returned (.tuple #[.string ⟨#[]⟩,.bool false])) w'):=fun w' h hb=>⟨by rw [h,unV_bad h];rfl,hb⟩
  by_cases h0 : s.size = 0
  ·have z1 : ((s.size : Int) == 0) = true:=by simp [h0]
   have HB:=Lib.hid (HBAD.out w (by rw [show s.data.toList = [] from List.eq_nil_of_length_eq_zero (by rw [ba_len];exact h0)];rfl) (Below.refl _ _))
   clear h0 h45 HBAD
   go_enter Tryz.func15,Tryz.ntmps15
   go_wp2_with fail
   go_ret2
   exact HB.out
  ·have z1 : ((s.size : Int) == 0) = false:=by rw [beq_eq_false_iff_ne];omega
   have hne : s.data.toList ≠ []:=fun e=>h0 (by rw [← ba_len,e];rfl)
   by_cases ho : s.size % 2 = 0
   ·have m1 : (s.size : Int).tmod 2 = 0:=by rw [Int.tmod_eq_emod_of_nonneg (by omega)];omega
    have m2 : ((s.size : Int) % 2 != 0) = false:=by rw [bne_eq_false_iff_eq];omega
    have HGOOD : Hid (∀ w',(∀ j (hj : j < s.data.toList.length),hvB s.data.toList[j] = true) → Below w.heap.size w w' → UnPost s.data.toList w (.returned (.tuple #[.string (ba (unPair s.data.toList)),.bool true])) w'):=fun w' h hb=>by
     have hg:=unB_good hne (by rw [ba_len];exact ho) h
     exact ⟨by rw [hg,unV_good h45 hg],hb⟩
    have HBD : Hid (∀ k (hk : k < s.data.toList.length) w',hvB s.data.toList[k] = false → Below w.heap.size w w' → UnPost s.data.toList w (.returned (.tuple #[.string ⟨#[]⟩,.bool false])) w'):=fun k hk w' h hb=>HBAD.out w' (unB_bad h45 hk h) hb
    have HO:=Lib.hid ho
    clear h0 h45 HBAD ho hne
    go_enter Tryz.func15,Tryz.ntmps15
    go_upto_region 7 with fail
    go_loopw [4,5] (fun v i wr=>∃ (k : Nat) (ab : Option Addr) (cb : Nat),k ≤ s.size ∧ k % 2 = 0 ∧ i = .int .i64 k ∧ v = .slice ab (unPair (s.data.toList.take k)).length cb ∧ Own wr w.heap.size 5 1 ab (unPair (s.data.toList.take k)).length cb (bC (unPair (s.data.toList.take k))) ∧ Below w.heap.size w wr ∧ (unPair (s.data.toList.take k)).length ≤ k ∧ ∀ j (hj : j < s.data.toList.length),j < k → hvB s.data.toList[j] = true) (fun _ i _=>s.size - (intOf i).toNat)
    case atStart=>exact ⟨0,none,0,by omega,rfl,rfl,rfl,Own.nil _ _ _ _,Below.refl _ _,by simp [unPair],fun j _ h=>by omega⟩
    case round=>
     obtain ⟨k,ab,cb,hk,hke,rfl,rfl,hown,hbe,hdl,hok⟩:=hrel
     have HOW:=Lib.hid hown
     have HB:=Lib.hid hbe
     have HOK:=Lib.hid hok
     have HKE:=Lib.hid hke
     clear hown hbe hok
     obtain ⟨D,hD⟩ : ∃ D,D = unPair (s.data.toList.take k):=⟨_,rfl⟩
     rw [← hD] at HOW hdl ⊢
     have w1 : IntKind.i64.wrap ((k : Int) + 1) = ((k + 1 : Nat) : Int):=by rw [IntKind.wrap_i64];omega
     have w2 : IntKind.i64.wrap ((k : Int) + 2) = ((k + 2 : Nat) : Int):=by rw [IntKind.wrap_i64];omega
     have hsz:=HB.out.size
     by_cases hlt : k + 1 < s.size
     ·have hk0 : k < s.size:=by omega
      have d1 : decide (((k + 1 : Nat) : Int) < (s.size : Int)) = true:=decide_eq_true (by omega)
      have d1' : decide (k + 1 < s.size) = true:=decide_eq_true hlt
      obtain ⟨a,ha⟩ : ∃ a,a = s[k]:=⟨_,rfl⟩
      obtain ⟨b,hb⟩ : ∃ b,b = s[k + 1]:=⟨_,rfl⟩
      have hal : s.data.toList[k]'(by rw [ba_len];omega) = a:=by rw [ha];rfl
      have hbl : s.data.toList[k + 1]'(by rw [ba_len];omega) = b:=by rw [hb];rfl
      obtain ⟨x,hx⟩ : ∃ x,x = rvN a:=⟨_,rfl⟩
      obtain ⟨y,hy⟩ : ∃ y,y = rvN b:=⟨_,rfl⟩
      have HV1:=fun W=>Lib.hid (rvalue_any a W)
      have HV2:=fun W=>Lib.hid (rvalue_any b W)
      rw [← hx,ha] at HV1
      rw [← hy,hb] at HV2
      have hst : (s.data.toList.take (k + 2)) = s.data.toList.take k ++ [a,b]:=by
       rw [show k + 2 = k + 1 + 1 by omega,List.take_succ_eq_append_getElem (by rw [ba_len];exact hlt),List.take_succ_eq_append_getElem (by rw [ba_len];exact hk0),hal,hbl,List.append_assoc];rfl
      have hst2 : unPair (s.data.toList.take (k + 2)) = D ++ [UInt8.ofNat (16 * hvN a + hvN b)]:=by
       rw [hst,unPair_app a b _ (by rw [List.length_take,ba_len];omega),← hD]
      have HST:=Lib.hid hst2
      rcases rvN_big a with ⟨p1,p2,p3⟩ | ⟨p1,p2⟩
      ·rcases rvN_big b with ⟨q1,q2,q3⟩ | ⟨q1,q2⟩
       ·have d2 : decide ((x : Int) > 15) = false:=decide_eq_false (by omega)
        have d2' : decide (15 < x) = false:=decide_eq_false (by omega)
        have d3 : decide ((y : Int) > 15) = false:=decide_eq_false (by omega)
        have d3' : decide (15 < y) = false:=decide_eq_false (by omega)
        have x16 : x < 16:=by omega
        have y16 : y < 16:=by omega
        have v1 : IntKind.i64.wrap (16 * (x : Int)) = 16 * (x : Int):=by rw [IntKind.wrap_i64];omega
        have v2 : IntKind.i64.wrap (16 * (x : Int) + (y : Int)) = 16 * (x : Int) + (y : Int):=by rw [IntKind.wrap_i64];omega
        have v3 : IntKind.u8.wrap (16 * (x : Int) + (y : Int)) = 16 * (x : Int) + (y : Int):=by rw [IntKind.wrap_u8];omega
        have HBY : Hid ((UInt8.ofNat (16 * hvN a + hvN b)).toNat = 16 * x + y):=by
         rw [Hid,← p2,← q2,← hx,← hy,UInt8.toNat_ofNat'];omega
        have HOK2 : Hid (∀ j (hj : j < s.data.toList.length),j < k + 2 → hvB s.data.toList[j] = true):=fun j hj h=>by
         by_cases e1 : j = k
         ·subst e1;rw [hal];exact p1
         ·by_cases e2 : j = k + 1
          ·subst e2;rw [hbl];exact q1
          ·exact HOK.out j hj (by omega)
        clear hst hst2 p1 p2 p3 q1 q2 q3 hal hbl hx hy ha hb hD
        go_upto_region 10 with (go_at_call 35;refine ((HV1 _).out).mono ?_;rintro e Wh ⟨rfl,rfl⟩)
        go_upto_region 11 with (go_at_call 35;refine ((HV2 _).out).mono ?_;rintro e Wh ⟨rfl,rfl⟩)
        go_wp2_with (at_builtin;(refine wpList_own rfl (.tmp 41) (.tmp 47) 76 rfl w.heap.size 5 ib _ 1 1 Tryz.underlying76 hib hzb hzb1 hzb2 rfl (by omega) ab D.length cb (bC D) rfl (HOW.out.below ((Below.refl _ _).alloc (Nat.le_refl _) _)) wr.heap.size [.int .u8 (16 * (x : Int) + (y : Int))] rfl (new_block _ _ _ rfl) rfl (by simp [Value.oneCell']) (by simp only [maxLen];omega) (by omega) (by simp;omega) ?_);intro g' c' w2 hown1 hmod1 _;have HO:=Lib.hid hown1;have HM:=Lib.hid hmod1;clear hown1 hmod1)
        have HM2 : Hid (Below w.heap.size w w2):=(HB.out.alloc hsz _).trans (HM.out.below (fun j hj=>(HOW.out.ge j hj).1) (by simp;omega))
        have HO2 : Hid (Own w2 w.heap.size 5 1 (some ⟨g',0,none⟩) (unPair (s.data.toList.take (k + 2))).length c' (bC (unPair (s.data.toList.take (k + 2))))):=by
         rw [Hid,HST.out,bC_snoc,HBY.out,List.length_append];exact HO.out
        go_roundw
        case rel=>exact ⟨k + 2,some ⟨g',0,none⟩,c',by omega,by have:=HKE.out;omega,by go_num,by rw [HST.out,List.length_append];rfl,HO2.out,HM2.out,by rw [HST.out,List.length_append];simp;omega,HOK2.out⟩
        case measure=>simp [intOf];omega
       ·have d2 : decide ((x : Int) > 15) = false:=decide_eq_false (by omega)
        have d2' : decide (15 < x) = false:=decide_eq_false (by omega)
        have d3 : decide ((y : Int) > 15) = true:=decide_eq_true (by omega)
        have d3' : decide (15 < y) = true:=decide_eq_true (by omega)
        have HF:=Lib.hid (HBD.out (k + 1) (by rw [ba_len];omega) wr (by rw [hbl];exact q1) HB.out)
        clear hst hst2 p1 p2 p3 q1 q2 hal hbl hx hy ha hb hD
        go_upto_region 10 with (go_at_call 35;refine ((HV1 _).out).mono ?_;rintro e Wh ⟨rfl,rfl⟩)
        go_upto_region 11 with (go_at_call 35;refine ((HV2 _).out).mono ?_;rintro e Wh ⟨rfl,rfl⟩)
        go_wp2_with fail
        go_ret2
        exact HF.out
      ·have d2 : decide ((x : Int) > 15) = true:=decide_eq_true (by omega)
       have d2' : decide (15 < x) = true:=decide_eq_true (by omega)
       have HF:=Lib.hid (HBD.out k (by rw [ba_len];omega) wr (by rw [hal];exact p1) HB.out)
       clear hst hst2 p1 p2 hal hbl hx hy ha hb hD
       go_upto_region 10 with (go_at_call 35;refine ((HV1 _).out).mono ?_;rintro e Wh ⟨rfl,rfl⟩)
       go_upto_region 11 with (go_at_call 35;refine ((HV2 _).out).mono ?_;rintro e Wh ⟨rfl,rfl⟩)
       go_wp2_with fail
       go_ret2
       exact HF.out
     ·have hks : k = s.size:=by have:=HO.out;omega
      have HDE : Hid (D = unPair s.data.toList):=by rw [Hid,hD,hks,← ba_len,List.take_length]
      have HA : Hid (∀ j (hj : j < s.data.toList.length),hvB s.data.toList[j] = true):=fun j hj=>HOK.out j hj (by rw [hks,← ba_len];exact hj)
      have d1 : decide (((k + 1 : Nat) : Int) < (s.size : Int)) = false:=decide_eq_false (by omega)
      have d1' : decide (k + 1 < s.size) = false:=decide_eq_false hlt
      have hconv:=run_own_str wr _ _ _ _ _ HOW.out
      clear hks hD
      go_wp2_with fail
      go_ret2
      have:=HGOOD.out wr HA.out HB.out
      rw [← HDE.out] at this
      exact this
   ·have m1 : (s.size : Int).tmod 2 = 1:=by rw [Int.tmod_eq_emod_of_nonneg (by omega)];omega
    have m2 : ((s.size : Int) % 2 != 0) = true:=by rw [bne_iff_ne];omega
    have HB:=Lib.hid (HBAD.out w (by
     have : decide (s.data.toList.length % 2 = 0) = false:=decide_eq_false (by rw [ba_len];exact ho)
     unfold unB;rw [decide_eq_false h45,this];simp) (Below.refl _ _))
    clear h0 h45 HBAD ho hne
    go_enter Tryz.func15,Tryz.ntmps15
    go_wp2_with fail
    go_ret2
    exact HB.out
end Go.Proofs.YtoklonmiejdgmaaGreatDoor
/- The reference's sector. -/
namespace Go.Proofs.YtoklonmiejdgmaaGreatDoor
set_option linter.unusedVariables false
set_option linter.unusedSimpArgs false
set_option linter.unnecessarySimpa false
open Go.RowKit Go.Sort
set_option maxHeartbeats 4000000
set_option maxRecDepth 100000
set_option linter.unusedVariables false
def RsPost (ws : List (List UInt8)) (w : World) (e : Ending) (w' : World) : Prop:=
 Below w.heap.size w w' ∧ (∀ x,secV ws = some x → e = .returned (.tuple #[.agg #[.int .i64 x.1,.string (ba x.2)],.bool true])) ∧ (secV ws = none → ∃ (n : Int) (d : ByteArray),e = .returned (.tuple #[.agg #[.int .i64 n,.string d],.bool false]))
theorem rsector_any (ws : List (List UInt8)) (hsm : ∀ x ∈ ws,x.length ≤ 100000) (a : Option Addr) (cap : Nat) (W : World) (hr : RdW W a cap ws) :
  Calls Tryz.prog 62 #[.slice a ws.length cap] W (RsPost ws W):=by
 have hle:=hr.le
 have hmx:=hr.mx
 unfold maxLen at hmx
 obtain ⟨w0,hw0⟩ : ∃ w0,w0 = W.alloc (.cells #[.int .i64 0,.string ⟨#[]⟩] 72):=⟨_,rfl⟩
 have HO0 : Hid (ObjAt w0 W.heap.size 72 [.int .i64 0,.string ⟨#[]⟩]):=by rw [hw0];exact ObjAt.new W _ _
 have HB0 : Hid (Below W.heap.size W w0):=by rw [hw0];exact (Below.refl _ _).alloc (Nat.le_refl _) _
 have HW0:=Lib.hid hw0
 have HN0 : Hid (secV ws = none → ∀ (n : Int) (d : ByteArray) w',Below W.heap.size W w' → RsPost ws W (.returned (.tuple #[.agg #[.int .i64 n,.string d],.bool false])) w'):=fun hn n d w' hb=>⟨hb,fun x hx=>by rw [hn] at hx;(cases hx),fun _=>⟨n,d,rfl⟩⟩
 have HY0 : Hid (∀ x,secV ws = some x → ∀ w',Below W.heap.size W w' → RsPost ws W (.returned (.tuple #[.agg #[.int .i64 x.1,.string (ba x.2)],.bool true])) w'):=fun x hx w' hb=>⟨hb,fun y hy=>by rw [hx] at hy;injection hy with hy;rw [hy],fun hn=>by rw [hx] at hn;(cases hn)⟩
 obtain ⟨R,hR⟩ : ∃ R,R = RsPost ws W:=⟨_,rfl⟩
 rw [← hR] at HN0 HY0 ⊢
 clear hR hw0
 by_cases hl : ws.length = 3
 ·match ws,hl,hsm,hr with
  | [q0,q1,q2],hl,hsm,hr=>
   obtain ⟨g,o,rfl,hg,hc⟩:=hr.at_ 0 (by simp)
   have HC : Hid (∀ W',Below W.heap.size W W' → W'.cell? ⟨g,o + 1,none⟩ = some (.string (ba q1)) ∧ W'.cell? ⟨g,o + 2,none⟩ = some (.string (ba q2))):=fun W' hb=>⟨by rw [hb.cell (p:=⟨g,o + 1,none⟩) hg];exact hc 1 (by simp),by rw [hb.cell (p:=⟨g,o + 2,none⟩) hg];exact hc 2 (by simp)⟩
   have s1:=hsm q1 (by simp)
   have s2:=hsm q2 (by simp)
   have HNU:=fun W=>Lib.hid (rnumber_any (ba q1) (by rw [ba_size];unfold maxLen;omega) W)
   rw [ba_data] at HNU
   have HUN:=fun W=>Lib.hid (runhex_any (ba q2) (by rw [ba_size];omega) W)
   rw [ba_data] at HUN
   obtain ⟨nb,hnb⟩ : ∃ b,Hid (b = numB q1):=⟨_,Lib.hid rfl⟩
   obtain ⟨nv,hnv⟩ : ∃ b,Hid (b = numI q1):=⟨_,Lib.hid rfl⟩
   obtain ⟨ub,hub⟩ : ∃ b,Hid (b = unB q2):=⟨_,Lib.hid rfl⟩
   obtain ⟨uv,huv⟩ : ∃ b,Hid (b = unV q2):=⟨_,Lib.hid rfl⟩
   have HUS : Hid (∀ W e w',UnPost q2 W e w' → e = .returned (.tuple #[.string (ba uv),.bool ub]) ∧ Below W.heap.size W w'):=fun W e w' h=>by rw [hub.out,huv.out];exact h
   rw [← hnb.out,← hnv.out] at HNU
   have HSV : Hid (secV [q0,q1,q2] = if nb && ub then some ((nv : Int),uv) else none):=by
    rw [Hid,hnb.out,hub.out,hnv.out,huv.out,secV]
    cases h1 : numB q1 <;> cases h2 : unB q2 <;> simp [h1,h2]
   have hlc : 3 ≤ cap:=by simp at hle;omega
   obtain ⟨U,hU⟩ : ∃ U,U = ba uv:=⟨_,rfl⟩
   rw [← hU] at HUS
   have HU:=Lib.hid hU
   clear hl hsm hr hc hU
   have c1:=(HC.out _ HB0.out).1
   have c2:=(HC.out _ HB0.out).2
   have hO0:=HO0.out
   have s6:=hO0.lt
   go_enter Tryz.func62,Tryz.ntmps62
   go_upto_region 1 with fail
   rw [← HW0.out]
   go_upto_region 4 with (go_at_call 108;refine ((HNU _).out).mono ?_;rintro e w1' ⟨rfl,rfl⟩)
   clear c1 c2 hO0 s6
   have c2:=(HC.out _ HB0.out).2
   go_upto_region 5 with (go_at_call 15;refine ((HUN _).out).mono ?_;intro e w2' hp;obtain ⟨rfl,hb2⟩:=HUS.out _ _ _ hp;have HB2:=Lib.hid hb2;clear hp hb2)
   have hO2:=HO0.out.below HB2.out
   have s6:=hO2.lt
   have a0:=hO2.cell 0 _ rfl
   have a1:=hO2.cell 1 _ rfl
   have g0:=hO2.free 0
   have g1:=hO2.free 1
   clear hO2 c2
   by_cases hk : (nb && ub) = true
   ·rw [Bool.and_eq_true] at hk
    obtain ⟨rfl,rfl⟩:=hk
    have HYY:=Lib.hid (HY0.out ((nv : Int),uv) (by rw [HSV.out];rfl))
    rw [← HU.out] at HYY
    go_wp2_with fail
    refine bodyPost_ret (v:=.tuple #[.agg #[.int .i64 (nv : Int),.string U],.bool true]) (by simp [results,Tryz.results62,go_sem,a0,a1,s6]) rfl ?_
    exact HYY.out _ (((bmore HB0.out HB2.out).setCell (Nat.le_refl _) _).setCell (Nat.le_refl _) _)
   ·have hk : (nb && ub) = false:=by simpa using hk
    have HNO:=Lib.hid (HN0.out (by rw [HSV.out,hk];rfl))
    cases nb
    ·go_wp2_with fail
     refine bodyPost_ret (v:=.tuple #[.agg #[.int .i64 (nv : Int),.string U],.bool false]) (by simp [results,Tryz.results62,go_sem,a0,a1,s6]) rfl ?_
     exact HNO.out _ _ _ (((bmore HB0.out HB2.out).setCell (Nat.le_refl _) _).setCell (Nat.le_refl _) _)
    ·obtain rfl : ub = false:=by simpa using hk
     go_wp2_with fail
     refine bodyPost_ret (v:=.tuple #[.agg #[.int .i64 (nv : Int),.string U],.bool false]) (by simp [results,Tryz.results62,go_sem,a0,a1,s6]) rfl ?_
     exact HNO.out _ _ _ (((bmore HB0.out HB2.out).setCell (Nat.le_refl _) _).setCell (Nat.le_refl _) _)
 ·have e3 : ((ws.length : Int) != 3) = true:=by rw [bne_iff_ne];omega
  have HNO:=Lib.hid (HN0.out (by unfold secV;rw [if_neg (fun h=>hl h.1)]))
  have hO0:=HO0.out
  have s6:=hO0.lt
  have a0:=hO0.cell 0 _ rfl
  have a1:=hO0.cell 1 _ rfl
  have g0:=hO0.free 0
  have g1:=hO0.free 1
  clear hl hr hO0
  go_enter Tryz.func62,Tryz.ntmps62
  go_upto_region 1 with fail
  rw [← HW0.out]
  go_wp2_with fail
  refine bodyPost_ret (v:=.tuple #[.agg #[.int .i64 0,.string ⟨#[]⟩],.bool false]) (by simp [results,Tryz.results62,go_sem,a0,a1,s6]) rfl ?_
  exact HNO.out 0 ⟨#[]⟩ _ ((HB0.out.setCell (Nat.le_refl _) _).setCell (Nat.le_refl _) _)
end Go.Proofs.YtoklonmiejdgmaaGreatDoor
/- The reference's taken: an input's line. -/
namespace Go.Proofs.YtoklonmiejdgmaaGreatDoor
set_option linter.unusedVariables false
set_option linter.unusedSimpArgs false
set_option linter.unnecessarySimpa false
open Go.RowKit Go.Sort
set_option maxHeartbeats 4000000
set_option maxRecDepth 100000
set_option linter.unusedVariables false
def RtPost (ws : List (List UInt8)) (w : World) (e : Ending) (w' : World) : Prop:=
 Below w.heap.size w w' ∧ (∀ x,inpV ws = some x → e = .returned (.tuple #[.agg (inR x).toArray,.bool true])) ∧ (inpV ws = none → ∃ (a b k c : Int) (d : ByteArray),e = .returned (.tuple #[(.agg #[.int .i64 a,.int .i64 b,.int .i64 k,.int .i64 c,.string d]),.bool false]))
theorem whatV_len {r : List (List UInt8)} {x : Int × Int × List UInt8} (h : whatV r = some x) : r.length = 1 ∨ r.length = 2:=by
 unfold whatV at h
 split at h
 ·rename_i h1;exact Or.inl h1.1
 ·split at h
  ·rename_i h1;exact Or.inr h1.1
  ·split at h
   ·rename_i h1;exact Or.inr h1.1
   ·cases h
theorem inpV_none {ws : List (List UInt8)} (h4 : ws.length ≠ 4) (h5 : ws.length ≠ 5) : inpV ws = none:=by
 unfold inpV
 split
 ·cases h : whatV (ws.drop 3) with
  | none=>rfl
  | some x=>have:=whatV_len h;rw [List.length_drop] at this;omega
 ·rfl
theorem inpV_4 (q0 q1 q2 q3 : List UInt8) : inpV [q0,q1,q2,q3] = if (numB q1 && numB q2) && decide (q3 = wRestart) then some (((numI q1 : Nat) : Int),((numI q2 : Nat) : Int),2,0,[]) else none:=by
 unfold inpV whatV
 cases h1 : numB q1 <;> cases h2 : numB q2 <;> by_cases h3 : q3 = wRestart <;> simp [h1,h2,h3]
theorem rtaken_no (ws : List (List UInt8)) (h4 : ws.length ≠ 4) (h5 : ws.length ≠ 5) (a : Option Addr) (cap : Nat) (W : World) :
  Calls Tryz.prog 63 #[.slice a ws.length cap] W (RtPost ws W):=by
 obtain ⟨w0,hw0⟩ : ∃ w0,w0 = W.alloc (.cells #[.int .i64 0,.int .i64 0,.int .i64 0,.int .i64 0,.string ⟨#[]⟩] 74):=⟨_,rfl⟩
 have hO0 : ObjAt w0 W.heap.size 74 [.int .i64 0,.int .i64 0,.int .i64 0,.int .i64 0,.string ⟨#[]⟩]:=by rw [hw0];exact ObjAt.new W _ _
 have HB0 : Hid (Below W.heap.size W w0):=by rw [hw0];exact (Below.refl _ _).alloc (Nat.le_refl _) _
 have HW0:=Lib.hid hw0
 have HN0 : Hid (∀ (a b k c : Int) (d : ByteArray) w',Below W.heap.size W w' → RtPost ws W (.returned (.tuple #[(.agg #[.int .i64 a,.int .i64 b,.int .i64 k,.int .i64 c,.string d]),.bool false])) w'):=fun a b k c d w' hb=>⟨hb,fun x hx=>by rw [inpV_none h4 h5] at hx;(cases hx),fun _=>⟨a,b,k,c,d,rfl⟩⟩
 obtain ⟨R,hR⟩ : ∃ R,R = RtPost ws W:=⟨_,rfl⟩
 rw [← hR] at HN0 ⊢
 have n1 : ((ws.length : Int) != 4) = true:=by rw [bne_iff_ne];omega
 have n2 : ((ws.length : Int) != 5) = true:=by rw [bne_iff_ne];omega
 have s6:=hO0.lt
 have a0:=(hO0).cell 0 _ rfl;have a1:=(hO0).cell 1 _ rfl;have a2:=(hO0).cell 2 _ rfl;have a3:=(hO0).cell 3 _ rfl;have a4:=(hO0).cell 4 _ rfl;have g0:=(hO0).free 0;have g1:=(hO0).free 1;have g2:=(hO0).free 2;have g3:=(hO0).free 3;have g4:=(hO0).free 4
 clear hR hw0 h4 h5 hO0
 go_enter Tryz.func63,Tryz.ntmps63
 go_upto_region 1 with fail
 rw [← HW0.out]
 go_wp2_with fail
 (refine bodyPost_ret (v:=.tuple #[(.agg #[.int .i64 0,.int .i64 0,.int .i64 0,.int .i64 0,.string ⟨#[]⟩]),.bool false]) (by simp [results,Tryz.results63,go_sem,a0,a1,a2,a3,a4,s6]) rfl ?_)
 exact HN0.out _ _ _ _ _ _ (((((HB0.out.setCell (Nat.le_refl _) _).setCell (Nat.le_refl _) _).setCell (Nat.le_refl _) _).setCell (Nat.le_refl _) _).setCell (Nat.le_refl _) _)
theorem rtaken_4 (q0 q1 q2 q3 : List UInt8) (hsm : ∀ x ∈ [q0,q1,q2,q3],x.length ≤ 100000) (a : Option Addr) (cap : Nat) (W : World) (hr : RdW W a cap [q0,q1,q2,q3]) :
  Calls Tryz.prog 63 #[.slice a 4 cap] W (RtPost [q0,q1,q2,q3] W):=by
 have hle:=hr.le
 have hmx:=hr.mx
 unfold maxLen at hmx
 have hlc : 4 ≤ cap:=by simp at hle;omega
 obtain ⟨w0,hw0⟩ : ∃ w0,w0 = W.alloc (.cells #[.int .i64 0,.int .i64 0,.int .i64 0,.int .i64 0,.string ⟨#[]⟩] 74):=⟨_,rfl⟩
 have HO0 : Hid (ObjAt w0 W.heap.size 74 [.int .i64 0,.int .i64 0,.int .i64 0,.int .i64 0,.string ⟨#[]⟩]):=by rw [hw0];exact ObjAt.new W _ _
 have HB0 : Hid (Below W.heap.size W w0):=by rw [hw0];exact (Below.refl _ _).alloc (Nat.le_refl _) _
 have hz0 : w0.heap.size = W.heap.size + 1:=by rw [hw0];simp
 have HW0:=Lib.hid hw0
 have HZ0:=Lib.hid hz0
 obtain ⟨nb,hnb⟩ : ∃ b,Hid (b = numB q1):=⟨_,Lib.hid rfl⟩
 obtain ⟨nv,hnv⟩ : ∃ b,Hid (b = numI q1):=⟨_,Lib.hid rfl⟩
 obtain ⟨mb,hmb⟩ : ∃ b,Hid (b = numB q2):=⟨_,Lib.hid rfl⟩
 obtain ⟨mv,hmv⟩ : ∃ b,Hid (b = numI q2):=⟨_,Lib.hid rfl⟩
 have HV : Hid (inpV [q0,q1,q2,q3] = if (nb && mb) && decide (q3 = wRestart) then some (((nv : Nat) : Int),((mv : Nat) : Int),2,0,[]) else none):=by
  rw [Hid,hnb.out,hnv.out,hmb.out,hmv.out];exact inpV_4 q0 q1 q2 q3
 have HN0 : Hid (((nb && mb) && decide (q3 = wRestart)) = false → ∀ (a b k c : Int) (d : ByteArray) w',Below W.heap.size W w' → RtPost [q0,q1,q2,q3] W (.returned (.tuple #[(.agg #[.int .i64 a,.int .i64 b,.int .i64 k,.int .i64 c,.string d]),.bool false])) w'):=fun hn a b k c d w' hb=>⟨hb,fun x hx=>by rw [HV.out,hn] at hx;(cases hx),fun _=>⟨a,b,k,c,d,rfl⟩⟩
 have HY0 : Hid (((nb && mb) && decide (q3 = wRestart)) = true → ∀ w',Below W.heap.size W w' → RtPost [q0,q1,q2,q3] W (.returned (.tuple #[(.agg #[.int .i64 (nv : Int),.int .i64 (mv : Int),.int .i64 2,.int .i64 0,.string ⟨#[]⟩]),.bool true])) w'):=fun hn w' hb=>⟨hb,fun x hx=>by rw [HV.out,hn,if_pos rfl] at hx;injection hx with hx;rw [← hx];rfl,fun h=>by rw [HV.out,hn,if_pos rfl] at h;(cases h)⟩
 obtain ⟨R,hR⟩ : ∃ R,R = RtPost [q0,q1,q2,q3] W:=⟨_,rfl⟩
 rw [← hR] at HN0 HY0 ⊢
 obtain ⟨g,o,rfl,hg,hc⟩:=hr.at_ 0 (by simp)
 have HC : Hid (∀ W',Below W.heap.size W W' → W'.cell? ⟨g,o + 1,none⟩ = some (.string (ba q1)) ∧ W'.cell? ⟨g,o + 2,none⟩ = some (.string (ba q2)) ∧ W'.cell? ⟨g,o + 3,none⟩ = some (.string (ba q3))):=fun W' hb=>⟨by rw [hb.cell (p:=⟨g,o + 1,none⟩) hg];exact hc 1 (by simp),by rw [hb.cell (p:=⟨g,o + 2,none⟩) hg];exact hc 2 (by simp),by rw [hb.cell (p:=⟨g,o + 3,none⟩) hg];exact hc 3 (by simp)⟩
 have s1:=hsm q1 (by simp)
 have s2:=hsm q2 (by simp)
 have HN1:=fun W=>Lib.hid (rnumber_any (ba q1) (by rw [ba_size];unfold maxLen;omega) W)
 have HN2:=fun W=>Lib.hid (rnumber_any (ba q2) (by rw [ba_size];unfold maxLen;omega) W)
 rw [ba_data] at HN1 HN2
 rw [← hnb.out,← hnv.out] at HN1
 rw [← hmb.out,← hmv.out] at HN2
 have b0:=ba_lit q3 [114,101,115,116,97,114,116]
 obtain ⟨rb,hrb⟩ : ∃ b,b = decide (q3 = wRestart):=⟨_,rfl⟩
 rw [show decide (q3 = [114,101,115,116,97,114,116]) = rb from hrb.symm] at b0
 rw [← hrb] at HN0 HY0
 obtain ⟨w1,hw1⟩ : ∃ w1,w1 = w0.alloc (.cells #[.int .i64 (nv : Int),.int .i64 (mv : Int),.int .i64 0,.int .i64 0,.string ⟨#[]⟩] 74):=⟨_,rfl⟩
 have HO8 : Hid (ObjAt w1 w0.heap.size 74 [.int .i64 (nv : Int),.int .i64 (mv : Int),.int .i64 0,.int .i64 0,.string ⟨#[]⟩]):=by rw [hw1];exact ObjAt.new w0 _ _
 have hb1 : Below w0.heap.size w0 w1:=by rw [hw1];exact (Below.refl _ _).alloc (Nat.le_refl _) _
 have HB1:=Lib.hid (bmore HB0.out hb1)
 have HO1:=Lib.hid (HO0.out.below hb1)
 have HW1:=Lib.hid hw1
 have HG:=Lib.hid hg
 have c1:=(HC.out _ HB0.out).1
 have c2:=(HC.out _ HB0.out).2.1
 clear hR hw0 hw1 hsm hr hc hle hb1 hrb hz0
 go_enter Tryz.func63,Tryz.ntmps63
 go_upto_region 1 with fail
 rw [← HW0.out]
 go_upto_region 4 with (go_at_call 108;refine ((HN1 _).out).mono ?_;rintro e wa ⟨rfl,rfl⟩)
 go_upto_region 5 with (go_at_call 108;refine ((HN2 _).out).mono ?_;rintro e wa ⟨rfl,rfl⟩)
 clear c1 c2
 go_upto_region 6 with fail
 rw [← HW1.out]
 have hO1:=HO1.out
 have hO8:=HO8.out
 have s6:=hO1.lt
 have s8:=hO8.lt
 have c3:=(HC.out _ HB1.out).2.2
 have q1' : ¬ w0.heap.size = W.heap.size:=by have:=HZ0.out;omega
 have q2' : ¬ W.heap.size = w0.heap.size:=fun e=>q1' e.symm
 have q3' : ¬ g = W.heap.size:=by have:=HG.out;omega
 have q4' : ¬ W.heap.size = g:=fun e=>q3' e.symm
 have q5' : ¬ g = w0.heap.size:=by have:=HG.out;have:=HZ0.out;omega
 have q6' : ¬ w0.heap.size = g:=fun e=>q5' e.symm
 have a0:=(hO1).cell 0 _ rfl;have a1:=(hO1).cell 1 _ rfl;have a2:=(hO1).cell 2 _ rfl;have a3:=(hO1).cell 3 _ rfl;have a4:=(hO1).cell 4 _ rfl;have g0:=(hO1).free 0;have g1:=(hO1).free 1;have g2:=(hO1).free 2;have g3:=(hO1).free 3;have g4:=(hO1).free 4
 have e0:=(hO8).cell 0 _ rfl;have e1:=(hO8).cell 1 _ rfl;have e2:=(hO8).cell 2 _ rfl;have e3:=(hO8).cell 3 _ rfl;have e4:=(hO8).cell 4 _ rfl;have p2:=(hO8).free 2;have p3:=(hO8).free 3;have p4:=(hO8).free 4
 clear hO1 hO8 hg
 go_upto_region 8 with fail
 have HBS : Hid (Below W.heap.size W (w1.setCell ⟨w0.heap.size,2,none⟩ (.int .i64 2))):=HB1.out.setCell (show W.heap.size ≤ w0.heap.size by have:=HZ0.out;omega) _
 cases nb
 ·have HF:=Lib.hid (HN0.out rfl)
  go_region
  all_goals
   go_wp2_with fail
   (refine bodyPost_ret (v:=.tuple #[(.agg #[.int .i64 (nv : Int),.int .i64 (mv : Int),.int .i64 2,.int .i64 0,.string ⟨#[]⟩]),.bool false]) (by simp [results,Tryz.results63,go_sem,a0,a1,a2,a3,a4,s6]) rfl ?_)
   exact HF.out _ _ _ _ _ _ (((((HBS.out.setCell (Nat.le_refl _) _).setCell (Nat.le_refl _) _).setCell (Nat.le_refl _) _).setCell (Nat.le_refl _) _).setCell (Nat.le_refl _) _).drew
 ·cases mb
  ·have HF:=Lib.hid (HN0.out rfl)
   go_region
   all_goals
    go_wp2_with fail
    (refine bodyPost_ret (v:=.tuple #[(.agg #[.int .i64 (nv : Int),.int .i64 (mv : Int),.int .i64 2,.int .i64 0,.string ⟨#[]⟩]),.bool false]) (by simp [results,Tryz.results63,go_sem,a0,a1,a2,a3,a4,s6]) rfl ?_)
    exact HF.out _ _ _ _ _ _ (((((HBS.out.setCell (Nat.le_refl _) _).setCell (Nat.le_refl _) _).setCell (Nat.le_refl _) _).setCell (Nat.le_refl _) _).setCell (Nat.le_refl _) _).drew
  ·cases rb
   ·have HF:=Lib.hid (HN0.out rfl)
    go_region
    all_goals
     go_wp2_with fail
     (refine bodyPost_ret (v:=.tuple #[(.agg #[.int .i64 (nv : Int),.int .i64 (mv : Int),.int .i64 2,.int .i64 0,.string ⟨#[]⟩]),.bool false]) (by simp [results,Tryz.results63,go_sem,a0,a1,a2,a3,a4,s6]) rfl ?_)
     exact HF.out _ _ _ _ _ _ (((((HBS.out.setCell (Nat.le_refl _) _).setCell (Nat.le_refl _) _).setCell (Nat.le_refl _) _).setCell (Nat.le_refl _) _).setCell (Nat.le_refl _) _).drew
   ·have HF:=Lib.hid (HY0.out rfl)
    go_region
    all_goals
     go_wp2_with fail
     (refine bodyPost_ret (v:=.tuple #[(.agg #[.int .i64 (nv : Int),.int .i64 (mv : Int),.int .i64 2,.int .i64 0,.string ⟨#[]⟩]),.bool true]) (by simp [results,Tryz.results63,go_sem,a0,a1,a2,a3,a4,s6]) rfl ?_)
     exact HF.out _ (((((HBS.out.setCell (Nat.le_refl _) _).setCell (Nat.le_refl _) _).setCell (Nat.le_refl _) _).setCell (Nat.le_refl _) _).setCell (Nat.le_refl _) _).drew
end Go.Proofs.YtoklonmiejdgmaaGreatDoor
/- The reference's taken: five words, a packet. -/
namespace Go.Proofs.YtoklonmiejdgmaaGreatDoor
set_option linter.unusedVariables false
set_option linter.unusedSimpArgs false
set_option linter.unnecessarySimpa false
open Go.RowKit Go.Sort
set_option maxHeartbeats 4000000
set_option maxRecDepth 100000
set_option linter.unusedVariables false
theorem inpV_5p (q0 q1 q2 q3 q4 : List UInt8) (h : q3 = wPacket) : inpV [q0,q1,q2,q3,q4] = if (numB q1 && numB q2) && unB q4 then some (((numI q1 : Nat) : Int),((numI q2 : Nat) : Int),0,0,unV q4) else none:=by
 subst h
 unfold inpV whatV
 cases h1 : numB q1 <;> cases h2 : numB q2 <;> cases h3 : unB q4 <;> simp [h1,h2,h3]
theorem rtaken_5p (q0 q1 q2 q3 q4 : List UInt8) (hq : q3 = wPacket) (hsm : ∀ x ∈ [q0,q1,q2,q3,q4],x.length ≤ 100000) (a : Option Addr) (cap : Nat) (W : World) (hr : RdW W a cap [q0,q1,q2,q3,q4]) :
  Calls Tryz.prog 63 #[.slice a 5 cap] W (RtPost [q0,q1,q2,q3,q4] W):=by
 have hle:=hr.le
 have hmx:=hr.mx
 unfold maxLen at hmx
 have hlc : 5 ≤ cap:=by simp at hle;omega
 obtain ⟨w0,hw0⟩ : ∃ w0,w0 = W.alloc (.cells #[.int .i64 0,.int .i64 0,.int .i64 0,.int .i64 0,.string ⟨#[]⟩] 74):=⟨_,rfl⟩
 have HO0 : Hid (ObjAt w0 W.heap.size 74 [.int .i64 0,.int .i64 0,.int .i64 0,.int .i64 0,.string ⟨#[]⟩]):=by rw [hw0];exact ObjAt.new W _ _
 have HB0 : Hid (Below W.heap.size W w0):=by rw [hw0];exact (Below.refl _ _).alloc (Nat.le_refl _) _
 have hz0 : w0.heap.size = W.heap.size + 1:=by rw [hw0];simp
 have HW0:=Lib.hid hw0
 have HZ0:=Lib.hid hz0
 obtain ⟨nb,hnb⟩ : ∃ b,Hid (b = numB q1):=⟨_,Lib.hid rfl⟩
 obtain ⟨nv,hnv⟩ : ∃ b,Hid (b = numI q1):=⟨_,Lib.hid rfl⟩
 obtain ⟨mb,hmb⟩ : ∃ b,Hid (b = numB q2):=⟨_,Lib.hid rfl⟩
 obtain ⟨mv,hmv⟩ : ∃ b,Hid (b = numI q2):=⟨_,Lib.hid rfl⟩
 obtain ⟨ub,hub⟩ : ∃ b,Hid (b = unB q4):=⟨_,Lib.hid rfl⟩
 obtain ⟨uv,huv⟩ : ∃ b,Hid (b = unV q4):=⟨_,Lib.hid rfl⟩
 have HV : Hid (inpV [q0,q1,q2,q3,q4] = if (nb && mb) && ub then some (((nv : Nat) : Int),((mv : Nat) : Int),0,0,uv) else none):=by
  rw [Hid,hnb.out,hnv.out,hmb.out,hmv.out];rw [hub.out,huv.out];exact inpV_5p q0 q1 q2 q3 q4 hq
 have HN0 : Hid (((nb && mb) && ub) = false → ∀ (a b k c : Int) (d : ByteArray) w',Below W.heap.size W w' → RtPost [q0,q1,q2,q3,q4] W (.returned (.tuple #[(.agg #[.int .i64 a,.int .i64 b,.int .i64 k,.int .i64 c,.string d]),.bool false])) w'):=fun hn a b k c d w' hb=>⟨hb,fun x hx=>by rw [HV.out,hn] at hx;(cases hx),fun _=>⟨a,b,k,c,d,rfl⟩⟩
 have HY0 : Hid (((nb && mb) && ub) = true → ∀ w',Below W.heap.size W w' → RtPost [q0,q1,q2,q3,q4] W (.returned (.tuple #[(.agg #[.int .i64 (nv : Int),.int .i64 (mv : Int),.int .i64 0,.int .i64 0,.string (ba uv)]),.bool true])) w'):=fun hn w' hb=>⟨hb,fun x hx=>by rw [HV.out,hn,if_pos rfl] at hx;injection hx with hx;rw [← hx];rfl,fun h=>by rw [HV.out,hn,if_pos rfl] at h;(cases h)⟩
 obtain ⟨R,hR⟩ : ∃ R,R = RtPost [q0,q1,q2,q3,q4] W:=⟨_,rfl⟩
 rw [← hR] at HN0 HY0 ⊢
 obtain ⟨g,o,rfl,hg,hc⟩:=hr.at_ 0 (by simp)
 have HC : Hid (∀ W',Below W.heap.size W W' → W'.cell? ⟨g,o + 1,none⟩ = some (.string (ba q1)) ∧ W'.cell? ⟨g,o + 2,none⟩ = some (.string (ba q2)) ∧ W'.cell? ⟨g,o + 3,none⟩ = some (.string (ba q3)) ∧ W'.cell? ⟨g,o + 4,none⟩ = some (.string (ba q4))):=fun W' hb=>⟨by rw [hb.cell (p:=⟨g,o + 1,none⟩) hg];exact hc 1 (by simp),by rw [hb.cell (p:=⟨g,o + 2,none⟩) hg];exact hc 2 (by simp),by rw [hb.cell (p:=⟨g,o + 3,none⟩) hg];exact hc 3 (by simp),by rw [hb.cell (p:=⟨g,o + 4,none⟩) hg];exact hc 4 (by simp)⟩
 have s1:=hsm q1 (by simp)
 have s2:=hsm q2 (by simp)
 have HN1:=fun W=>Lib.hid (rnumber_any (ba q1) (by rw [ba_size];unfold maxLen;omega) W)
 have HN2:=fun W=>Lib.hid (rnumber_any (ba q2) (by rw [ba_size];unfold maxLen;omega) W)
 rw [ba_data] at HN1 HN2
 rw [← hnb.out,← hnv.out] at HN1
 rw [← hmb.out,← hmv.out] at HN2
 have s4:=hsm q4 (by simp)
 have HUN:=fun W=>Lib.hid (runhex_any (ba q4) (by rw [ba_size];omega) W)
 rw [ba_data] at HUN
 obtain ⟨U,hU⟩ : ∃ U,U = ba uv:=⟨_,rfl⟩
 have HUS : Hid (∀ W e w',UnPost q4 W e w' → e = .returned (.tuple #[.string U,.bool ub]) ∧ Below W.heap.size W w'):=fun W e w' h=>by rw [hU,hub.out,huv.out];exact h
 rw [← hU] at HY0
 have b0:=ba_lit q3 [112,97,99,107,101,116]
 rw [decide_eq_true (show q3 = [112,97,99,107,101,116] from hq)] at b0
 obtain ⟨w1,hw1⟩ : ∃ w1,w1 = w0.alloc (.cells #[.int .i64 (nv : Int),.int .i64 (mv : Int),.int .i64 0,.int .i64 0,.string ⟨#[]⟩] 74):=⟨_,rfl⟩
 have HO8 : Hid (ObjAt w1 w0.heap.size 74 [.int .i64 (nv : Int),.int .i64 (mv : Int),.int .i64 0,.int .i64 0,.string ⟨#[]⟩]):=by rw [hw1];exact ObjAt.new w0 _ _
 have hb1 : Below w0.heap.size w0 w1:=by rw [hw1];exact (Below.refl _ _).alloc (Nat.le_refl _) _
 have HB1:=Lib.hid (bmore HB0.out hb1)
 have HO1:=Lib.hid (HO0.out.below hb1)
 have HW1:=Lib.hid hw1
 have c1:=(HC.out _ HB0.out).1
 have c2:=(HC.out _ HB0.out).2.1
 clear hR hw0 hw1 hsm hr hc hle hb1 hz0 hU hq
 go_enter Tryz.func63,Tryz.ntmps63
 go_upto_region 1 with fail
 rw [← HW0.out]
 go_upto_region 4 with (go_at_call 108;refine ((HN1 _).out).mono ?_;rintro e wa ⟨rfl,rfl⟩)
 go_upto_region 5 with (go_at_call 108;refine ((HN2 _).out).mono ?_;rintro e wa ⟨rfl,rfl⟩)
 clear c1 c2
 go_upto_region 6 with fail
 rw [← HW1.out]
 have c3:=(HC.out _ HB1.out).2.2.1
 have c4:=(HC.out _ HB1.out).2.2.2
 go_upto_region 11 with (go_at_call 15;refine ((HUN _).out).mono ?_;intro e w2 hp;obtain ⟨rfl,hb2⟩:=HUS.out _ _ _ hp;have HB2:=Lib.hid hb2;clear hp hb2)
 clear c3 c4
 have hO1:=HO1.out.below HB2.out
 have hO8:=HO8.out.below HB2.out
 have s6:=hO1.lt
 have s8:=hO8.lt
 have q1' : ¬ w0.heap.size = W.heap.size:=by have:=HZ0.out;omega
 have q2' : ¬ W.heap.size = w0.heap.size:=fun e=>q1' e.symm
 have a0:=(hO1).cell 0 _ rfl;have a1:=(hO1).cell 1 _ rfl;have a2:=(hO1).cell 2 _ rfl;have a3:=(hO1).cell 3 _ rfl;have a4:=(hO1).cell 4 _ rfl;have g0:=(hO1).free 0;have g1:=(hO1).free 1;have g2:=(hO1).free 2;have g3:=(hO1).free 3;have g4:=(hO1).free 4
 have e0:=(hO8).cell 0 _ rfl;have e1:=(hO8).cell 1 _ rfl;have e2:=(hO8).cell 2 _ rfl;have e3:=(hO8).cell 3 _ rfl;have e4:=(hO8).cell 4 _ rfl;have p2:=(hO8).free 2;have p3:=(hO8).free 3;have p4:=(hO8).free 4
 clear hO1 hO8 hg
 have HBS : Hid (Below W.heap.size W (w2.setCell ⟨w0.heap.size,4,none⟩ (.string U))):=(bmore HB1.out HB2.out).setCell (show W.heap.size ≤ w0.heap.size by have:=HZ0.out;omega) _
 cases nb
 ·have HF:=Lib.hid (HN0.out rfl)
  go_wp2_with fail
  (refine bodyPost_ret (v:=.tuple #[(.agg #[.int .i64 (nv : Int),.int .i64 (mv : Int),.int .i64 0,.int .i64 0,.string U]),.bool false]) (by simp [results,Tryz.results63,go_sem,a0,a1,a2,a3,a4,s6]) rfl ?_)
  exact HF.out _ _ _ _ _ _ (((((HBS.out.setCell (Nat.le_refl _) _).setCell (Nat.le_refl _) _).setCell (Nat.le_refl _) _).setCell (Nat.le_refl _) _).setCell (Nat.le_refl _) _)
 ·cases mb
  ·have HF:=Lib.hid (HN0.out rfl)
   go_wp2_with fail
   (refine bodyPost_ret (v:=.tuple #[(.agg #[.int .i64 (nv : Int),.int .i64 (mv : Int),.int .i64 0,.int .i64 0,.string U]),.bool false]) (by simp [results,Tryz.results63,go_sem,a0,a1,a2,a3,a4,s6]) rfl ?_)
   exact HF.out _ _ _ _ _ _ (((((HBS.out.setCell (Nat.le_refl _) _).setCell (Nat.le_refl _) _).setCell (Nat.le_refl _) _).setCell (Nat.le_refl _) _).setCell (Nat.le_refl _) _)
  ·cases ub
   ·have HF:=Lib.hid (HN0.out rfl)
    go_wp2_with fail
    (refine bodyPost_ret (v:=.tuple #[(.agg #[.int .i64 (nv : Int),.int .i64 (mv : Int),.int .i64 0,.int .i64 0,.string U]),.bool false]) (by simp [results,Tryz.results63,go_sem,a0,a1,a2,a3,a4,s6]) rfl ?_)
    exact HF.out _ _ _ _ _ _ (((((HBS.out.setCell (Nat.le_refl _) _).setCell (Nat.le_refl _) _).setCell (Nat.le_refl _) _).setCell (Nat.le_refl _) _).setCell (Nat.le_refl _) _)
   ·have HF:=Lib.hid (HY0.out rfl)
    go_wp2_with fail
    (refine bodyPost_ret (v:=.tuple #[(.agg #[.int .i64 (nv : Int),.int .i64 (mv : Int),.int .i64 0,.int .i64 0,.string U]),.bool true]) (by simp [results,Tryz.results63,go_sem,a0,a1,a2,a3,a4,s6]) rfl ?_)
    exact HF.out _ (((((HBS.out.setCell (Nat.le_refl _) _).setCell (Nat.le_refl _) _).setCell (Nat.le_refl _) _).setCell (Nat.le_refl _) _).setCell (Nat.le_refl _) _)
end Go.Proofs.YtoklonmiejdgmaaGreatDoor
/- The reference's taken: five words, a line. -/
namespace Go.Proofs.YtoklonmiejdgmaaGreatDoor
set_option linter.unusedVariables false
set_option linter.unusedSimpArgs false
set_option linter.unnecessarySimpa false
open Go.RowKit Go.Sort
set_option maxHeartbeats 4000000
set_option maxRecDepth 100000
set_option linter.unusedVariables false
theorem inpV_5o (q0 q1 q2 q3 q4 : List UInt8) (h : q3 ≠ wPacket) : inpV [q0,q1,q2,q3,q4] = if ((numB q1 && numB q2) && numB q4) && decide (q3 = wLine) then some (((numI q1 : Nat) : Int),((numI q2 : Nat) : Int),1,((numI q4 : Nat) : Int),[]) else none:=by
 unfold inpV whatV
 cases h1 : numB q1 <;> cases h2 : numB q2 <;> cases h3 : numB q4 <;> by_cases h4 : q3 = wLine <;> simp [h1,h2,h3,h,h4]
 all_goals first | exact ⟨1,_,[],by rw [if_neg (by decide)],rfl,rfl,rfl⟩ | (intro e;exact absurd e (by decide))
theorem rtaken_5o (q0 q1 q2 q3 q4 : List UInt8) (hq : q3 ≠ wPacket) (hsm : ∀ x ∈ [q0,q1,q2,q3,q4],x.length ≤ 100000) (a : Option Addr) (cap : Nat) (W : World) (hr : RdW W a cap [q0,q1,q2,q3,q4]) :
  Calls Tryz.prog 63 #[.slice a 5 cap] W (RtPost [q0,q1,q2,q3,q4] W):=by
 have hle:=hr.le
 have hmx:=hr.mx
 unfold maxLen at hmx
 have hlc : 5 ≤ cap:=by simp at hle;omega
 obtain ⟨w0,hw0⟩ : ∃ w0,w0 = W.alloc (.cells #[.int .i64 0,.int .i64 0,.int .i64 0,.int .i64 0,.string ⟨#[]⟩] 74):=⟨_,rfl⟩
 have HO0 : Hid (ObjAt w0 W.heap.size 74 [.int .i64 0,.int .i64 0,.int .i64 0,.int .i64 0,.string ⟨#[]⟩]):=by rw [hw0];exact ObjAt.new W _ _
 have HB0 : Hid (Below W.heap.size W w0):=by rw [hw0];exact (Below.refl _ _).alloc (Nat.le_refl _) _
 have hz0 : w0.heap.size = W.heap.size + 1:=by rw [hw0];simp
 have HW0:=Lib.hid hw0
 have HZ0:=Lib.hid hz0
 obtain ⟨nb,hnb⟩ : ∃ b,Hid (b = numB q1):=⟨_,Lib.hid rfl⟩
 obtain ⟨nv,hnv⟩ : ∃ b,Hid (b = numI q1):=⟨_,Lib.hid rfl⟩
 obtain ⟨mb,hmb⟩ : ∃ b,Hid (b = numB q2):=⟨_,Lib.hid rfl⟩
 obtain ⟨mv,hmv⟩ : ∃ b,Hid (b = numI q2):=⟨_,Lib.hid rfl⟩
 obtain ⟨ub,hub⟩ : ∃ b,Hid (b = numB q4):=⟨_,Lib.hid rfl⟩
 obtain ⟨uv,huv⟩ : ∃ b,Hid (b = numI q4):=⟨_,Lib.hid rfl⟩
 have HV : Hid (inpV [q0,q1,q2,q3,q4] = if ((nb && mb) && ub) && decide (q3 = wLine) then some (((nv : Nat) : Int),((mv : Nat) : Int),1,((uv : Nat) : Int),[]) else none):=by
  rw [Hid,hnb.out,hnv.out,hmb.out,hmv.out];rw [hub.out,huv.out];exact inpV_5o q0 q1 q2 q3 q4 hq
 have HN0 : Hid ((((nb && mb) && ub) && decide (q3 = wLine)) = false → ∀ (a b k c : Int) (d : ByteArray) w',Below W.heap.size W w' → RtPost [q0,q1,q2,q3,q4] W (.returned (.tuple #[(.agg #[.int .i64 a,.int .i64 b,.int .i64 k,.int .i64 c,.string d]),.bool false])) w'):=fun hn a b k c d w' hb=>⟨hb,fun x hx=>by rw [HV.out,hn] at hx;(cases hx),fun _=>⟨a,b,k,c,d,rfl⟩⟩
 have HY0 : Hid ((((nb && mb) && ub) && decide (q3 = wLine)) = true → ∀ w',Below W.heap.size W w' → RtPost [q0,q1,q2,q3,q4] W (.returned (.tuple #[(.agg #[.int .i64 (nv : Int),.int .i64 (mv : Int),.int .i64 1,.int .i64 (uv : Int),.string ⟨#[]⟩]),.bool true])) w'):=fun hn w' hb=>⟨hb,fun x hx=>by rw [HV.out,hn,if_pos rfl] at hx;injection hx with hx;rw [← hx];rfl,fun h=>by rw [HV.out,hn,if_pos rfl] at h;(cases h)⟩
 obtain ⟨R,hR⟩ : ∃ R,R = RtPost [q0,q1,q2,q3,q4] W:=⟨_,rfl⟩
 rw [← hR] at HN0 HY0 ⊢
 obtain ⟨g,o,rfl,hg,hc⟩:=hr.at_ 0 (by simp)
 have HC : Hid (∀ W',Below W.heap.size W W' → W'.cell? ⟨g,o + 1,none⟩ = some (.string (ba q1)) ∧ W'.cell? ⟨g,o + 2,none⟩ = some (.string (ba q2)) ∧ W'.cell? ⟨g,o + 3,none⟩ = some (.string (ba q3)) ∧ W'.cell? ⟨g,o + 4,none⟩ = some (.string (ba q4))):=fun W' hb=>⟨by rw [hb.cell (p:=⟨g,o + 1,none⟩) hg];exact hc 1 (by simp),by rw [hb.cell (p:=⟨g,o + 2,none⟩) hg];exact hc 2 (by simp),by rw [hb.cell (p:=⟨g,o + 3,none⟩) hg];exact hc 3 (by simp),by rw [hb.cell (p:=⟨g,o + 4,none⟩) hg];exact hc 4 (by simp)⟩
 have s1:=hsm q1 (by simp)
 have s2:=hsm q2 (by simp)
 have HN1:=fun W=>Lib.hid (rnumber_any (ba q1) (by rw [ba_size];unfold maxLen;omega) W)
 have HN2:=fun W=>Lib.hid (rnumber_any (ba q2) (by rw [ba_size];unfold maxLen;omega) W)
 rw [ba_data] at HN1 HN2
 rw [← hnb.out,← hnv.out] at HN1
 rw [← hmb.out,← hmv.out] at HN2
 have s4:=hsm q4 (by simp)
 have HN4:=fun W=>Lib.hid (rnumber_any (ba q4) (by rw [ba_size];unfold maxLen;omega) W)
 rw [ba_data] at HN4
 rw [← hub.out,← huv.out] at HN4
 have b0:=ba_lit q3 [112,97,99,107,101,116]
 rw [decide_eq_false (show ¬ q3 = [112,97,99,107,101,116] from hq)] at b0
 have b1:=ba_lit q3 [108,105,110,101]
 obtain ⟨rb,hrb⟩ : ∃ b,b = decide (q3 = wLine):=⟨_,rfl⟩
 rw [show decide (q3 = [108,105,110,101]) = rb from hrb.symm] at b1
 rw [← hrb] at HN0 HY0
 obtain ⟨w1,hw1⟩ : ∃ w1,w1 = w0.alloc (.cells #[.int .i64 (nv : Int),.int .i64 (mv : Int),.int .i64 0,.int .i64 0,.string ⟨#[]⟩] 74):=⟨_,rfl⟩
 have HO8 : Hid (ObjAt w1 w0.heap.size 74 [.int .i64 (nv : Int),.int .i64 (mv : Int),.int .i64 0,.int .i64 0,.string ⟨#[]⟩]):=by rw [hw1];exact ObjAt.new w0 _ _
 have hb1 : Below w0.heap.size w0 w1:=by rw [hw1];exact (Below.refl _ _).alloc (Nat.le_refl _) _
 have HB1:=Lib.hid (bmore HB0.out hb1)
 have HO1:=Lib.hid (HO0.out.below hb1)
 have HW1:=Lib.hid hw1
 have HG:=Lib.hid hg
 have c1:=(HC.out _ HB0.out).1
 have c2:=(HC.out _ HB0.out).2.1
 clear hR hw0 hw1 hsm hr hc hle hb1 hz0 hq hrb
 go_enter Tryz.func63,Tryz.ntmps63
 go_upto_region 1 with fail
 rw [← HW0.out]
 go_upto_region 4 with (go_at_call 108;refine ((HN1 _).out).mono ?_;rintro e wa ⟨rfl,rfl⟩)
 go_upto_region 5 with (go_at_call 108;refine ((HN2 _).out).mono ?_;rintro e wa ⟨rfl,rfl⟩)
 clear c1 c2
 go_upto_region 6 with fail
 rw [← HW1.out]
 have c3:=(HC.out _ HB1.out).2.2.1
 have c4:=(HC.out _ HB1.out).2.2.2
 go_upto_region 14 with (go_at_call 108;refine ((HN4 _).out).mono ?_;rintro e wa ⟨rfl,rfl⟩)
 have hO1:=HO1.out
 have hO8:=HO8.out
 have s6:=hO1.lt
 have s8:=hO8.lt
 have q1' : ¬ w0.heap.size = W.heap.size:=by have:=HZ0.out;omega
 have q2' : ¬ W.heap.size = w0.heap.size:=fun e=>q1' e.symm
 have q3' : ¬ g = W.heap.size:=by have:=HG.out;omega
 have q4' : ¬ W.heap.size = g:=fun e=>q3' e.symm
 have q5' : ¬ g = w0.heap.size:=by have:=HG.out;have:=HZ0.out;omega
 have q6' : ¬ w0.heap.size = g:=fun e=>q5' e.symm
 have a0:=(hO1).cell 0 _ rfl;have a1:=(hO1).cell 1 _ rfl;have a2:=(hO1).cell 2 _ rfl;have a3:=(hO1).cell 3 _ rfl;have a4:=(hO1).cell 4 _ rfl;have g0:=(hO1).free 0;have g1:=(hO1).free 1;have g2:=(hO1).free 2;have g3:=(hO1).free 3;have g4:=(hO1).free 4
 have e0:=(hO8).cell 0 _ rfl;have e1:=(hO8).cell 1 _ rfl;have e2:=(hO8).cell 2 _ rfl;have e3:=(hO8).cell 3 _ rfl;have e4:=(hO8).cell 4 _ rfl;have p2:=(hO8).free 2;have p3:=(hO8).free 3;have p4:=(hO8).free 4
 clear hO1 hO8 hg c4
 have HBS : Hid (Below W.heap.size W ((w1.setCell ⟨w0.heap.size,2,none⟩ (.int .i64 1)).setCell ⟨w0.heap.size,3,none⟩ (.int .i64 (uv : Int)))):=(HB1.out.setCell (show W.heap.size ≤ w0.heap.size by have:=HZ0.out;omega) _).setCell (show W.heap.size ≤ w0.heap.size by have:=HZ0.out;omega) _
 go_upto_region 16 with fail
 cases nb
 ·have HF:=Lib.hid (HN0.out rfl)
  go_region
  all_goals
   go_wp2_with fail
   (refine bodyPost_ret (v:=.tuple #[(.agg #[.int .i64 (nv : Int),.int .i64 (mv : Int),.int .i64 1,.int .i64 (uv : Int),.string ⟨#[]⟩]),.bool false]) (by simp [results,Tryz.results63,go_sem,a0,a1,a2,a3,a4,s6]) rfl ?_)
   exact HF.out _ _ _ _ _ _ (((((HBS.out.setCell (Nat.le_refl _) _).setCell (Nat.le_refl _) _).setCell (Nat.le_refl _) _).setCell (Nat.le_refl _) _).setCell (Nat.le_refl _) _).drew
 ·cases mb
  ·have HF:=Lib.hid (HN0.out rfl)
   go_region
   all_goals
    go_wp2_with fail
    (refine bodyPost_ret (v:=.tuple #[(.agg #[.int .i64 (nv : Int),.int .i64 (mv : Int),.int .i64 1,.int .i64 (uv : Int),.string ⟨#[]⟩]),.bool false]) (by simp [results,Tryz.results63,go_sem,a0,a1,a2,a3,a4,s6]) rfl ?_)
    exact HF.out _ _ _ _ _ _ (((((HBS.out.setCell (Nat.le_refl _) _).setCell (Nat.le_refl _) _).setCell (Nat.le_refl _) _).setCell (Nat.le_refl _) _).setCell (Nat.le_refl _) _).drew
  ·cases ub
   ·have HF:=Lib.hid (HN0.out rfl)
    go_region
    all_goals
     go_wp2_with fail
     (refine bodyPost_ret (v:=.tuple #[(.agg #[.int .i64 (nv : Int),.int .i64 (mv : Int),.int .i64 1,.int .i64 (uv : Int),.string ⟨#[]⟩]),.bool false]) (by simp [results,Tryz.results63,go_sem,a0,a1,a2,a3,a4,s6]) rfl ?_)
     exact HF.out _ _ _ _ _ _ (((((HBS.out.setCell (Nat.le_refl _) _).setCell (Nat.le_refl _) _).setCell (Nat.le_refl _) _).setCell (Nat.le_refl _) _).setCell (Nat.le_refl _) _).drew
   ·cases rb
    ·have HF:=Lib.hid (HN0.out rfl)
     go_region
     all_goals
      go_wp2_with fail
      (refine bodyPost_ret (v:=.tuple #[(.agg #[.int .i64 (nv : Int),.int .i64 (mv : Int),.int .i64 1,.int .i64 (uv : Int),.string ⟨#[]⟩]),.bool false]) (by simp [results,Tryz.results63,go_sem,a0,a1,a2,a3,a4,s6]) rfl ?_)
      exact HF.out _ _ _ _ _ _ (((((HBS.out.setCell (Nat.le_refl _) _).setCell (Nat.le_refl _) _).setCell (Nat.le_refl _) _).setCell (Nat.le_refl _) _).setCell (Nat.le_refl _) _).drew
    ·have HF:=Lib.hid (HY0.out rfl)
     go_region
     all_goals
      go_wp2_with fail
      (refine bodyPost_ret (v:=.tuple #[(.agg #[.int .i64 (nv : Int),.int .i64 (mv : Int),.int .i64 1,.int .i64 (uv : Int),.string ⟨#[]⟩]),.bool true]) (by simp [results,Tryz.results63,go_sem,a0,a1,a2,a3,a4,s6]) rfl ?_)
      exact HF.out _ (((((HBS.out.setCell (Nat.le_refl _) _).setCell (Nat.le_refl _) _).setCell (Nat.le_refl _) _).setCell (Nat.le_refl _) _).setCell (Nat.le_refl _) _).drew
end Go.Proofs.YtoklonmiejdgmaaGreatDoor
/- The reference's taken, whole. -/
namespace Go.Proofs.YtoklonmiejdgmaaGreatDoor
set_option linter.unusedVariables false
set_option linter.unusedSimpArgs false
set_option linter.unnecessarySimpa false
open Go.RowKit Go.Sort
set_option linter.unusedVariables false
theorem rtaken_any (ws : List (List UInt8)) (hsm : ∀ x ∈ ws,x.length ≤ 100000) (a : Option Addr) (cap : Nat) (W : World) (hr : RdW W a cap ws) :
  Calls Tryz.prog 63 #[.slice a ws.length cap] W (RtPost ws W):=by
 by_cases h4 : ws.length = 4
 ·match ws,h4,hsm,hr with
  | [q0,q1,q2,q3],h4,hsm,hr=>exact rtaken_4 q0 q1 q2 q3 hsm a cap W hr
 ·by_cases h5 : ws.length = 5
  ·match ws,h5,hsm,hr with
   | [q0,q1,q2,q3,q4],h5,hsm,hr=>
    by_cases hq : q3 = wPacket
    ·exact rtaken_5p q0 q1 q2 q3 q4 hq hsm a cap W hr
    ·exact rtaken_5o q0 q1 q2 q3 q4 hq hsm a cap W hr
  ·exact rtaken_no ws h4 h5 a cap W
end Go.Proofs.YtoklonmiejdgmaaGreatDoor
/- The reference for asm: names, numbers with a sign, texts. -/
namespace Go.Proofs.YtoklonmiejdgmaaGreatDoor.As
set_option linter.unusedVariables false
set_option linter.unusedSimpArgs false
set_option linter.unnecessarySimpa false
open Go.RowKit Go.Sort
set_option maxHeartbeats 2000000
set_option maxRecDepth 100000
set_option linter.unusedVariables false
theorem rnames_any (w : World) : Calls Tryz.prog 117 #[] w fun e w'=>e = .returned (.slice (some ⟨w.heap.size,0,none⟩) 42 42) ∧ w' = w.alloc (.cells (strC opNames).toArray 9):=by
 go_enter Tryz.func117,Tryz.ntmps117
 go_wp2
 go_ret
 exact ⟨rfl,rfl⟩
theorem names_at (w W : World) (h : Below (w.heap.size + 1) (w.alloc (.cells (strC opNames).toArray 9)) W) (o : Nat) (ho : o < 42) : W.cell? ⟨w.heap.size,o,none⟩ = some (.string (ba (opName o))):=by
 have hn : ObjAt (w.alloc (.cells (strC opNames).toArray 9)) w.heap.size 9 (strC opNames):=ObjAt.new w 9 (strC opNames)
 have:=(hn.belowB h (by omega)).cell o (.string (ba (opName o))) (by
  rw [strC_get _ _ (by rw [opNames_len];exact ho)]
  unfold opName
  rw [List.getD_eq_getElem?_getD,List.getElem?_eq_getElem (by rw [opNames_len];exact ho)];rfl)
 exact this
end Go.Proofs.YtoklonmiejdgmaaGreatDoor.As
