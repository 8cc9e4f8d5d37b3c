/- Package script: Print. -/
import Derived.Test.YtoklonmiejdgmaaGreatDoorGScriptBack9
import Derived.Test.YtoklonmiejdgmaaGreatDoorGScriptBack6
import Derived.Test.YtoklonmiejdgmaaGreatDoorGScriptBack7
import Derived.Test.YtoklonmiejdgmaaGreatDoorGScriptBack5
import Derived.Test.YtoklonmiejdgmaaGreatDoorGScriptBack8
namespace Go.Proofs.YtoklonmiejdgmaaGreatDoor.Sp
set_option linter.unusedVariables false
set_option linter.unusedSimpArgs false
set_option linter.unnecessarySimpa false
open Go.RowKit Go.Sort
set_option maxHeartbeats 4000000
set_option maxRecDepth 100000
set_option linter.unusedVariables false
/-- A configuration and a script, boxed one after the other. -/
structure CS (W0 W : World) (x : Nat) (c : Cv) (v : Sv) : Prop where
 bel : Below W0.heap.size W0 W
 oc : ObjAt W x 29 (cfgL c)
 os : ObjAt W (x + 1) 34 #[.slice v.ia v.im.length v.ic,.slice v.sa v.se.length v.sc,.slice v.na v.inp.length v.nc].toList
 cok : CfgOk W c
 vok : ScOk W v
theorem cs_new (W0 : World) (c : Cv) (v : Sv) (hc : CfgOk W0 c) (hv : ScOk W0 v) : CS W0 ((W0.alloc (.cells #[.int .i64 c.cats,.slice c.g.a c.g.l.length c.g.cap,.slice c.r.a c.r.l.length c.r.cap,.slice c.p.a c.p.l.length c.p.cap,.slice c.n.a c.n.l.length c.n.cap,.slice c.s.a c.s.l.length c.s.cap,.int .i64 c.gate,.int .i64 c.quota] 29)).alloc (.cells #[.slice v.ia v.im.length v.ic,.slice v.sa v.se.length v.sc,.slice v.na v.inp.length v.nc] 34)) W0.heap.size c v:=by
 have s1 : (W0.alloc (.cells #[.int .i64 c.cats,.slice c.g.a c.g.l.length c.g.cap,.slice c.r.a c.r.l.length c.r.cap,.slice c.p.a c.p.l.length c.p.cap,.slice c.n.a c.n.l.length c.n.cap,.slice c.s.a c.s.l.length c.s.cap,.int .i64 c.gate,.int .i64 c.quota] 29)).heap.size = W0.heap.size + 1:=World.size_alloc _ _
 have hb : Below W0.heap.size W0 ((W0.alloc (.cells #[.int .i64 c.cats,.slice c.g.a c.g.l.length c.g.cap,.slice c.r.a c.r.l.length c.r.cap,.slice c.p.a c.p.l.length c.p.cap,.slice c.n.a c.n.l.length c.n.cap,.slice c.s.a c.s.l.length c.s.cap,.int .i64 c.gate,.int .i64 c.quota] 29)).alloc (.cells #[.slice v.ia v.im.length v.ic,.slice v.sa v.se.length v.sc,.slice v.na v.inp.length v.nc] 34)):=((Below.refl _ _).alloc (Nat.le_refl _) _).alloc (by rw [s1];omega) _
 refine ⟨hb,(ObjAt.new W0 29 (cfgL c)).below ((Below.refl _ _).alloc (Nat.le_refl _) _),?_,hc.below hb,hv.below hb⟩
 have:=ObjAt.new (W0.alloc (.cells #[.int .i64 c.cats,.slice c.g.a c.g.l.length c.g.cap,.slice c.r.a c.r.l.length c.r.cap,.slice c.p.a c.p.l.length c.p.cap,.slice c.n.a c.n.l.length c.n.cap,.slice c.s.a c.s.l.length c.s.cap,.int .i64 c.gate,.int .i64 c.quota] 29)) 34 #[.slice v.ia v.im.length v.ic,.slice v.sa v.se.length v.sc,.slice v.na v.inp.length v.nc].toList
 rw [s1] at this;exact this
theorem CS.more {W0 W W' : World} {x : Nat} {c : Cv} {v : Sv} (h : CS W0 W x c v) (hb : Below W.heap.size W W') : CS W0 W' x c v:=⟨bmore h.bel hb,h.oc.below hb,h.os.below hb,h.cok.below hb,h.vok.below hb⟩
theorem plen_any {w W : World} {b : Nat} {t : List UInt8} (h : PG w b t W) : Calls Tryz.prog 41 #[.pointer (some ⟨b,0,none⟩)] W fun e w'=>e = .returned (.int .i64 t.length) ∧ w' = W:=by
 obtain ⟨p,a,cap,hb⟩ : ∃ p a cap,W.heap[b]? = some (.cells #[p,.slice a t.length cap] 90 (0,0)):=by
  rcases h.pg with ⟨_,v,h2,h3,_⟩ | ⟨_,v,h2,h3,_⟩
  all_goals
   rw [Lib.byteCells_length] at h3
   rcases h3.2 with ⟨rfl,h0⟩ | ⟨g,cap,cur,fz,rfl,_⟩
   ·exact ⟨_,none,0,by rw [h0];exact h2⟩
   ·exact ⟨_,some ⟨g,0,none⟩,cap,h2⟩
 have c1 : W.cell? ⟨b,1,none⟩ = some (.slice a t.length cap):=by rw [Lib.cell_of_heap hb];rfl
 clear hb h
 go_enter Tryz.func41,Tryz.ntmps41
 go_wp2_with fail
 go_ret
 exact ⟨rfl,rfl⟩
def SPrPost (c : Cv) (v : Sv) (w : World) (e : Ending) (w' : World) : Prop:=
 e = .returned (.tuple #[.string (ba (prS (pcOf c) (scOf v)).1),.int .i64 (prS (pcOf c) (scOf v)).2]) ∧ Below w.heap.size w w'
theorem secs_take_len (l : List (Int × List UInt8)) (hd : ∀ x ∈ l,x.2.length ≤ 1048576) (hl : l.length ≤ 1048576) (k : Nat) (hk : k ≤ l.length) (hs : ∀ j (hj : j < l.length),j < k → fitB l[j].1 = true) : (secsT (l.take k)).length ≤ 4000000000000:=by
 have:=flatMap_le (fun x=>lnT (secW x)) 3000001 (l.take k) (fun x hx=>by
  obtain ⟨j,hj,rfl⟩:=List.mem_iff_getElem.1 hx
  rw [List.length_take] at hj
  rw [List.getElem_take]
  exact secT_len' (hs j (by omega) (by omega)) (hd _ (List.getElem_mem _)))
 rw [List.length_take] at this
 have h2 : min k l.length * 3000001 ≤ 1048576 * 3000001:=Nat.mul_le_mul_right _ (by omega)
 unfold secsT;omega
theorem inps_take_len (l : List (Int × Int × Int × Int × List UInt8)) (hd : ∀ x ∈ l,x.2.2.2.2.length ≤ 1048576) (hl : l.length ≤ 1048576) (k : Nat) (hk : k ≤ l.length) (hs : ∀ j (hj : j < l.length),j < k → (inpW l[j]).isSome = true) : (inpsT (l.take k)).length ≤ 5000000000000:=by
 have:=flatMap_le (fun x=>lnT ((inpW x).getD [])) 4000001 (l.take k) (fun x hx=>by
  obtain ⟨j,hj,rfl⟩:=List.mem_iff_getElem.1 hx
  rw [List.length_take] at hj
  rw [List.getElem_take]
  exact inpT_len' (hs j (by omega) (by omega)) (hd _ (List.getElem_mem _)))
 rw [List.length_take] at this
 have h2 : min k l.length * 4000001 ≤ 1048576 * 4000001:=Nat.mul_le_mul_right _ (by omega)
 unfold inpsT;omega
theorem prT_ne (c : Pc) : prT c ≠ []:=by simp [prT,textT,rowsP]
theorem prS_0 {c : Pc} {s : Sc} (h : chkP c = 0) (h1 : longB s.im = true) : prS c s = ([],10):=by rw [prS,if_neg (by rw [h];simp),if_pos h1]
theorem prS_1 {c : Pc} {s : Sc} (h : chkP c = 0) (h1 : longB s.im = false) (h2 : s.se.all (fun x=>fitB x.1) = false) : prS c s = ([],6):=by rw [prS,if_neg (by rw [h];simp),if_neg (by rw [h1];simp),if_pos h2]
theorem prS_2 {c : Pc} {s : Sc} (h : chkP c = 0) (h1 : longB s.im = false) (h2 : s.se.all (fun x=>fitB x.1) = true) (h3 : s.inp.all (fun x=>(inpW x).isSome) = false) : prS c s = ([],6):=by
 rw [prS,if_neg (by rw [h];simp),if_neg (by rw [h1];simp),if_neg (by rw [h2];simp),if_pos h3]
theorem prS_3 {c : Pc} {s : Sc} (h : chkP c = 0) (h1 : longB s.im = false) (h2 : s.se.all (fun x=>fitB x.1) = true) (h3 : s.inp.all (fun x=>(inpW x).isSome) = true) : prS c s = if 16384 < (prT c ++ bodyT s).length then ([],10) else (prT c ++ bodyT s,0):=by
 rw [prS,if_neg (by rw [h];simp),if_neg (by rw [h1];simp),if_neg (by rw [h2];simp),if_neg (by rw [h3];simp)]
theorem sprint_any (c : Cv) (v : Sv) (w : World) (hc : CfgOk w c) (hv : ScOk w v) (hm : Mild (scOf v)) (hp : chkP (pcOf c) = 0 → (prT (pcOf c)).length ≤ 16384) (hP : PowIs w) (hI : Isa.Tab w) : Calls Tryz.prog 18 #[.agg #[.int .i64 c.cats,.slice c.g.a c.g.l.length c.g.cap,.slice c.r.a c.r.l.length c.r.cap,.slice c.p.a c.p.l.length c.p.cap,.slice c.n.a c.n.l.length c.n.cap,.slice c.s.a c.s.l.length c.s.cap,.int .i64 c.gate,.int .i64 c.quota],.agg #[.slice v.ia v.im.length v.ic,.slice v.sa v.se.length v.sc,.slice v.na v.inp.length v.nc]] w (SPrPost c v w):=by
 obtain ⟨C,hC⟩ : ∃ C,C = pcOf c:=⟨_,rfl⟩
 obtain ⟨L,hL⟩ : ∃ L,L = (scOf v).im:=⟨_,rfl⟩
 obtain ⟨W1,hW1⟩ : ∃ W1,W1 = (w.alloc (.cells #[.int .i64 c.cats,.slice c.g.a c.g.l.length c.g.cap,.slice c.r.a c.r.l.length c.r.cap,.slice c.p.a c.p.l.length c.p.cap,.slice c.n.a c.n.l.length c.n.cap,.slice c.s.a c.s.l.length c.s.cap,.int .i64 c.gate,.int .i64 c.quota] 29)).alloc (.cells #[.slice v.ia v.im.length v.ic,.slice v.sa v.se.length v.sc,.slice v.na v.inp.length v.nc] 34):=⟨_,rfl⟩
 have HX1 : Hid (CS w W1 w.heap.size c v):=by rw [hW1];exact cs_new w c v hc hv
 have HW1:=Lib.hid hW1
 obtain ⟨k0,hk0⟩ : ∃ k,k = chkP C:=⟨_,rfl⟩
 have hck : (chkV c).1 = k0:=by rw [hk0,hC,chkP_of]
 have HPR0:=fun W h1 h2=>pprint_any c W h1 h2
 obtain ⟨P,hPP⟩ : ∃ P,P = SPrPost c v w:=⟨_,rfl⟩
 have HR : Hid (∀ t e w',prS C (scOf v) = (t,e) → Below w.heap.size w w' → P (.returned (.tuple #[.string (ba t),.int .i64 e])) w'):=fun t e w' h hb=>by rw [hPP];exact ⟨by rw [← hC,h],hb⟩
 rw [← hPP]
 have HPW:=Lib.hid (hP.below HX1.out.bel)
 have HTB:=Lib.hid (hI.below HX1.out.bel)
 have HMD:=Lib.hid hm
 rw [← hC] at hp
 by_cases hk : k0 = 0
 ·have HPR : Hid (∀ W,CfgOk W c → PowIs W → Calls Tryz.prog 36 #[.agg #[.int .i64 c.cats,.slice c.g.a c.g.l.length c.g.cap,.slice c.r.a c.r.l.length c.r.cap,.slice c.p.a c.p.l.length c.p.cap,.slice c.n.a c.n.l.length c.n.cap,.slice c.s.a c.s.l.length c.s.cap,.int .i64 c.gate,.int .i64 c.quota]] W fun e w'=>e = .returned (.tuple #[.string (ba (prT C)),.int .i64 0]) ∧ Below W.heap.size W w'):=fun W h1 h2=>(HPR0 W h1 h2).mono fun e w' h=>⟨by rw [hC];exact h.2.1 (by rw [hck];exact hk),h.2.2⟩
  have hz : chkP C = 0:=by rw [← hk0];exact hk
  have hpl:=hp hz
  have HE1 : Hid (longB L = true → ∀ w',Below w.heap.size w w' → P (.returned (.tuple #[.string ⟨#[]⟩,.int .i64 10])) w'):=fun h1 w' hb=>HR.out [] 10 w' (prS_0 hz (by rw [← hL];exact h1)) hb
  have HE2 : Hid (longB L = false → ∀ k (hk : k < v.se.length),fitB v.se[k].1 = false → ∀ w',Below w.heap.size w w' → P (.returned (.tuple #[.string ⟨#[]⟩,.int .i64 6])) w'):=fun h1 k hk h2 w' hb=>HR.out [] 6 w' (prS_1 hz (by rw [← hL];exact h1) (by rw [List.all_eq_false];exact ⟨v.se[k],List.getElem_mem hk,by rw [h2];simp⟩)) hb
  have HE3 : Hid (longB L = false → (∀ k (hk : k < v.se.length),k < v.se.length → fitB v.se[k].1 = true) → ∀ k (hk : k < v.inp.length),(inpW v.inp[k]).isSome = false → ∀ w',Below w.heap.size w w' → P (.returned (.tuple #[.string ⟨#[]⟩,.int .i64 6])) w'):=fun h1 h2 k hk h3 w' hb=>HR.out [] 6 w' (prS_2 hz (by rw [← hL];exact h1) (by
   rw [List.all_eq_true];intro x hx
   obtain ⟨j,hj,rfl⟩:=List.mem_iff_getElem.1 hx
   exact h2 j hj hj) (by rw [List.all_eq_false];exact ⟨v.inp[k],List.getElem_mem hk,by rw [h3];simp⟩)) hb
  have HE4 : Hid (longB L = false → (∀ k (hk : k < v.se.length),k < v.se.length → fitB v.se[k].1 = true) → (∀ k (hk : k < v.inp.length),k < v.inp.length → (inpW v.inp[k]).isSome = true) → ∀ T,T = ((prT C ++ imgsT L) ++ secsT v.se) ++ inpsT v.inp → ∀ t e w',(if 16384 < T.length then ([],10) else (T,0)) = (t,e) → Below w.heap.size w w' → P (.returned (.tuple #[.string (ba t),.int .i64 e])) w'):=fun h1 h2 h3 T hT t e w' he hb=>HR.out t e w' (by
   rw [prS_3 hz (by rw [← hL];exact h1) (by
    rw [List.all_eq_true];intro x hx
    obtain ⟨j,hj,rfl⟩:=List.mem_iff_getElem.1 hx
    exact h2 j hj hj) (by
    rw [List.all_eq_true];intro x hx
    obtain ⟨j,hj,rfl⟩:=List.mem_iff_getElem.1 hx
    exact h3 j hj hj),show prT C ++ bodyT (scOf v) = T by rw [hT,bodyT,← hL];simp [scOf,List.append_assoc]]
   exact he) hb
  have HNE:=Lib.hid (prT_ne C)
  have hsl : v.se.length ≤ 1048576:=hm.se
  have hnl : v.inp.length ≤ 1048576:=hm.inp
  have HIMG : Hid (∀ (W2 W' : World) b,ScOk W2 v → PG W2 b (prT C) W' → Calls Tryz.prog 38 #[.pointer (some ⟨b,0,none⟩),.slice v.ia v.im.length v.ic] W' (ImPost W2 b (prT C) W' L)):=fun W2 W' b h1 h2=>by
   rw [hL];exact simages_any v W2 h1 hm b (prT C) W' h2 (by omega)
  have HIL : Hid (longB L = false → (imgsT L).length ≤ 116000000000):=fun h=>by
   have:=imgs_take_len L (by rw [hL];exact hm.w) (by rw [hL];exact hm.im) L.length (Nat.le_refl _) (fun j hj _ h5=>by
    rw [longB,List.any_eq_false] at h
    exact absurd (h L[j] (List.getElem_mem hj)) (by simp;omega))
   rw [List.take_length] at this;exact this
  clear HPR0 hck hk0 hk hC hL hz hp HR hPP hc hv hm hP hI hW1
  have p0:=(HX1.out.oc).cell 0 _ rfl;have p1:=(HX1.out.oc).cell 1 _ rfl;have p2:=(HX1.out.oc).cell 2 _ rfl;have p3:=(HX1.out.oc).cell 3 _ rfl;have p4:=(HX1.out.oc).cell 4 _ rfl;have p5:=(HX1.out.oc).cell 5 _ rfl;have p6:=(HX1.out.oc).cell 6 _ rfl;have p7:=(HX1.out.oc).cell 7 _ rfl
  go_enter Tryz.func18,Tryz.ntmps18
  go_upto_region 1 with fail
  rw [← HW1.out]
  go_upto_region 4 with (go_at_call 36;refine (HPR.out _ HX1.out.cok HPW.out).mono ?_;rintro e W2 ⟨rfl,hb⟩;have HX2:=Lib.hid (HX1.out.more hb);have HPW2:=Lib.hid (HPW.out.below hb);have HTB2:=Lib.hid (HTB.out.below hb);clear hb)
  clear p0 p1 p2 p3 p4 p5 p6 p7
  obtain ⟨W3,hW3⟩ : ∃ W3,W3 = W2.alloc (.cells #[.pointer none,.slice none 0 0] 90):=⟨_,rfl⟩
  obtain ⟨b,hb⟩ : ∃ b,b = W2.heap.size:=⟨_,rfl⟩
  have HG3 : Hid (PG W2 b [] W3):=by rw [hW3,hb];exact ⟨((Below.refl _ _).alloc (Nat.le_refl _) _),HPW2.out,HTB2.out,PgIs.fresh W2⟩
  have HW3:=Lib.hid hW3
  have HBB:=Lib.hid hb
  have HUW : Hid (([] : List UInt8).length + (prT C).length ≤ 140737488355328):=by rw [Hid];simp;omega
  clear hW3 hb
  go_upto_region 5 with fail
  rw [← HW3.out,← HBB.out]
  go_upto_region 6 with (go_at_call 37;refine (pg_write HG3.out (prT C) HUW.out).mono ?_;rintro e W4 ⟨rfl,h5,_⟩;rw [List.nil_append] at h5;have HG4:=Lib.hid h5;clear h5)
  have HX4:=Lib.hid (HX2.out.more HG4.out.bel)
  have q0:=(HX4.out.os).cell 0 _ rfl;have q1:=(HX4.out.os).cell 1 _ rfl;have q2:=(HX4.out.os).cell 2 _ rfl
  cases hlb : longB L with
  | true=>
   have HIP : Hid (∀ e w',ImPost W2 b (prT C) W4 L e w' → e = .returned (.int .i64 10) ∧ ∃ t',PG W2 b t' w'):=fun e w' h=>h.2.1 hlb
   have HE:=Lib.hid (HE1.out hlb)
   clear hlb
   go_wp2_with (go_at_call 38;refine (HIMG.out _ _ _ HX2.out.vok HG4.out).mono ?_;intro e W5 hp;obtain ⟨rfl,t',h5⟩:=HIP.out _ _ hp;have HG5:=Lib.hid h5;clear hp h5)
   exact HE.out _ (bmore HX2.out.bel HG5.out.bel)
  | false=>
   have HIP : Hid (∀ e w',ImPost W2 b (prT C) W4 L e w' → e = .returned (.int .i64 0) ∧ PG W2 b (prT C ++ imgsT L) w'):=fun e w' h=>h.2.2 hlb
   have HE2:=Lib.hid (HE2.out hlb)
   have HE3:=Lib.hid (HE3.out hlb)
   have HE4:=Lib.hid (HE4.out hlb)
   obtain ⟨T1,hT1⟩ : ∃ T1,T1 = prT C ++ imgsT L:=⟨_,rfl⟩
   have hT1l : T1.length ≤ 117000000000:=by have:=HIL.out hlb;rw [hT1,List.length_append];omega
   rw [← hT1] at HIP HE4
   have HT1:=Lib.hid hT1
   have HSL:=Lib.hid (secs_take_len v.se HMD.out.sd hsl)
   have HNL:=Lib.hid (inps_take_len v.inp HMD.out.nd hnl)
   clear hlb hT1 HE1 HIL
   go_upto_region 9 with (go_at_call 38;refine (HIMG.out _ _ _ HX2.out.vok HG4.out).mono ?_;intro e W5 hp;obtain ⟨rfl,h5⟩:=HIP.out _ _ hp;have HG5:=Lib.hid h5;clear hp h5)
   clear q0 q1 q2
   have HX5:=Lib.hid (HX2.out.more HG5.out.bel)
   have q0:=(HX5.out.os).cell 0 _ rfl;have q1:=(HX5.out.os).cell 1 _ rfl;have q2:=(HX5.out.os).cell 2 _ rfl
   have HS0 : Hid (T1 ++ secsT (v.se.take 0) = T1):=by rw [Hid,List.take_zero];simp [secsT]
   go_upto_region 10 with fail
   clear q0 q1 q2
   go_loopw [39] (fun i wr=>∃ k : Nat,k ≤ v.se.length ∧ i = .int .i64 k ∧ (∀ j (hj : j < v.se.length),j < k → fitB v.se[j].1 = true) ∧ PG W2 b (T1 ++ secsT (v.se.take k)) wr) (fun i _=>v.se.length - (intOf i).toNat)
   case atStart=>exact ⟨0,by omega,rfl,(fun j _ h=>by omega),by rw [HS0.out];exact HG5.out⟩
   clear HS0 HG5 HX5
   obtain ⟨k,hk,rfl,hs,hg⟩:=hrel
   have HS:=Lib.hid hs
   have HG:=Lib.hid hg
   clear hs hg
   by_cases hlt : k < v.se.length
   case pos=>
    obtain ⟨g,o,ha,hc⟩:=(HX2.out.more HG.out.bel).vok.se_at k hlt
    obtain ⟨y,hy⟩ : ∃ y,y = v.se[k]:=⟨_,rfl⟩
    have hyd : y.2.length ≤ 1048576:=by rw [hy];exact HMD.out.sd _ (List.getElem_mem hlt)
    rw [← hy] at hc
    have u0:=hc _ (Below.refl _ _) 0 _ (by decide) rfl
    have u1:=hc _ (Below.refl _ _) 1 _ (by decide) rfl
    simp only [Nat.add_zero] at u0
    have htl:=HSL.out k hk HS.out
    have hTk : (T1 ++ secsT (v.se.take k)).length ≤ 100000000000000:=by rw [List.length_append];omega
    have HTS : Hid (secsT (v.se.take (k + 1)) = secsT (v.se.take k) ++ lnT (secW y)):=by rw [Hid,take_snoc v.se k hlt,secsT_snoc,← hy]
    have HSEC:=fun W' h=>Lib.hid (ssector_any y hyd W2 b (T1 ++ secsT (v.se.take k)) W' h hTk)
    obtain ⟨W6,hW6⟩ : ∃ W6,W6 = wr.alloc (.cells #[.int .i64 y.1,.string (ba y.2)] 72):=⟨_,rfl⟩
    have HG6 : Hid (PG W2 b (T1 ++ secsT (v.se.take k)) W6):=by rw [hW6];exact HG.out.more ((Below.refl _ _).alloc (Nat.le_refl _) _)
    have HO6 : Hid (ObjAt W6 wr.heap.size 72 [.int .i64 y.1,.string (ba y.2)]):=by rw [hW6];exact ObjAt.new wr _ _
    have HW6:=Lib.hid hW6
    have HY:=Lib.hid hy
    have d1 : decide ((k : Int) < (v.se.length : Int)) = true:=decide_eq_true (by omega)
    have d1' : decide (k < v.se.length) = true:=decide_eq_true hlt
    have w1 : IntKind.i64.wrap ((k : Int) + 1) = (k : Int) + 1:=by rw [IntKind.wrap_i64];omega
    rw [ha]
    clear hW6 hy ha hc hyd htl hTk
    cases hf : fitB y.1 with
    | false=>
     have HE:=fun w' h=>Lib.hid (HE2.out k hlt (by rw [← HY.out];exact hf) w' h)
     have HSP : Hid (∀ e w',SmPost W2 b (T1 ++ secsT (v.se.take k)) W6 (if fitB y.1 then some (lnT (secW y)) else none) e w' → e = .returned (.bool false) ∧ PG W2 b (T1 ++ secsT (v.se.take k)) w'):=fun e w' h=>by rw [hf] at h;exact ⟨h.1,h.2.1⟩
     clear hf
     go_upto_region 12 with fail
     rw [← HW6.out]
     have e0:=HO6.out.cell 0 _ rfl
     have e1:=HO6.out.cell 1 _ rfl
     go_wp2_with (go_at_call 39;refine ((HSEC _ HG6.out).out).mono ?_;intro e W7 hp;obtain ⟨rfl,h7⟩:=HSP.out _ _ hp;have HG7:=Lib.hid h7;clear hp h7)
     exact (HE _ (bmore HX2.out.bel HG7.out.bel)).out
    | true=>
     have HSP : Hid (∀ e w',SmPost W2 b (T1 ++ secsT (v.se.take k)) W6 (if fitB y.1 then some (lnT (secW y)) else none) e w' → e = .returned (.bool true) ∧ PG W2 b (T1 ++ secsT (v.se.take k) ++ lnT (secW y)) w'):=fun e w' h=>by rw [hf] at h;exact ⟨h.1,h.2.1⟩
     have HS2 : Hid (∀ j (hj : j < v.se.length),j < k + 1 → fitB v.se[j].1 = true):=fun j hj h=>by
      by_cases e : j = k
      ·subst e;rw [← HY.out];exact hf
      ·exact HS.out j hj (by omega)
     clear hf
     go_upto_region 12 with fail
     rw [← HW6.out]
     have e0:=HO6.out.cell 0 _ rfl
     have e1:=HO6.out.cell 1 _ rfl
     go_wp2_with (go_at_call 39;refine ((HSEC _ HG6.out).out).mono ?_;intro e W7 hp;obtain ⟨rfl,h7⟩:=HSP.out _ _ hp;have HG7:=Lib.hid h7;clear hp h7 e0 e1 u0 u1)
     go_roundw
     case rel=>exact ⟨k + 1,by omega,by go_num,HS2.out,by rw [HTS.out,← List.append_assoc];exact HG7.out⟩
     case measure=>simp [intOf];omega
   obtain rfl : k = v.se.length:=by omega
   have dq1 : decide ((v.se.length : Int) < (v.se.length : Int)) = false:=decide_eq_false (by omega)
   rw [List.take_length] at HG
   have hsl2:=HSL.out v.se.length (Nat.le_refl _) HS.out
   rw [List.take_length] at hsl2
   obtain ⟨T2,hT2⟩ : ∃ T2,T2 = T1 ++ secsT v.se:=⟨_,rfl⟩
   have hT2l : T2.length ≤ 5000000000000:=by rw [hT2,List.length_append];omega
   rw [← hT2] at HG HE4
   have HE3:=Lib.hid (HE3.out HS.out)
   have HE4:=Lib.hid (HE4.out HS.out)
   have HT2:=Lib.hid hT2
   clear hT2 HE2 HSL hsl2
   have HX6:=Lib.hid (HX2.out.more HG.out.bel)
   have q0:=(HX6.out.os).cell 0 _ rfl;have q1:=(HX6.out.os).cell 1 _ rfl;have q2:=(HX6.out.os).cell 2 _ rfl
   have HS0 : Hid (T2 ++ inpsT (v.inp.take 0) = T2):=by rw [Hid,List.take_zero];simp [inpsT]
   go_upto_region 16 with fail
   clear q0 q1 q2
   go_loopw [51] (fun i wr=>∃ k : Nat,k ≤ v.inp.length ∧ i = .int .i64 k ∧ (∀ j (hj : j < v.inp.length),j < k → (inpW v.inp[j]).isSome = true) ∧ PG W2 b (T2 ++ inpsT (v.inp.take k)) wr) (fun i _=>v.inp.length - (intOf i).toNat)
   case atStart=>exact ⟨0,by omega,rfl,(fun j _ h=>by omega),by rw [HS0.out];exact HG.out⟩
   clear HS0 HG HX6 HS
   obtain ⟨k,hk,rfl,hs,hg⟩:=hrel
   have HS:=Lib.hid hs
   have HG:=Lib.hid hg
   clear hs hg
   by_cases hlt : k < v.inp.length
   case pos=>
    obtain ⟨g,o,ha,hc⟩:=(HX2.out.more HG.out.bel).vok.in_at k hlt
    obtain ⟨y,hy⟩ : ∃ y,y = v.inp[k]:=⟨_,rfl⟩
    have hyd : y.2.2.2.2.length ≤ 1048576:=by rw [hy];exact HMD.out.nd _ (List.getElem_mem hlt)
    rw [← hy] at hc
    have u0:=hc _ (Below.refl _ _) 0 _ (by decide) rfl
    have u1:=hc _ (Below.refl _ _) 1 _ (by decide) rfl
    have u2:=hc _ (Below.refl _ _) 2 _ (by decide) rfl
    have u3:=hc _ (Below.refl _ _) 3 _ (by decide) rfl
    have u4:=hc _ (Below.refl _ _) 4 _ (by decide) rfl
    simp only [Nat.add_zero] at u0
    have htl:=HNL.out k hk HS.out
    have hTk : (T2 ++ inpsT (v.inp.take k)).length ≤ 100000000000000:=by rw [List.length_append];omega
    have HTS : Hid (inpsT (v.inp.take (k + 1)) = inpsT (v.inp.take k) ++ lnT ((inpW y).getD [])):=by rw [Hid,take_snoc v.inp k hlt,inpsT_snoc,← hy]
    have HSEC:=fun W' h=>Lib.hid (sinput_any y hyd W2 b (T2 ++ inpsT (v.inp.take k)) W' h hTk)
    obtain ⟨W6,hW6⟩ : ∃ W6,W6 = wr.alloc (.cells #[.int .i64 y.1,.int .i64 y.2.1,.int .i64 y.2.2.1,.int .i64 y.2.2.2.1,.string (ba y.2.2.2.2)] 74):=⟨_,rfl⟩
    have HG6 : Hid (PG W2 b (T2 ++ inpsT (v.inp.take k)) W6):=by rw [hW6];exact HG.out.more ((Below.refl _ _).alloc (Nat.le_refl _) _)
    have HO6 : Hid (ObjAt W6 wr.heap.size 74 [.int .i64 y.1,.int .i64 y.2.1,.int .i64 y.2.2.1,.int .i64 y.2.2.2.1,.string (ba y.2.2.2.2)]):=by rw [hW6];exact ObjAt.new wr _ _
    have HW6:=Lib.hid hW6
    have HY:=Lib.hid hy
    have d1 : decide ((k : Int) < (v.inp.length : Int)) = true:=decide_eq_true (by omega)
    have d1' : decide (k < v.inp.length) = true:=decide_eq_true hlt
    have w1 : IntKind.i64.wrap ((k : Int) + 1) = (k : Int) + 1:=by rw [IntKind.wrap_i64];omega
    rw [ha]
    clear hW6 hy ha hc hyd htl hTk
    cases hf : inpW y with
    | none=>
     have HE:=fun w' h=>Lib.hid (HE3.out k hlt (by rw [← HY.out,hf];rfl) w' h)
     have HSP : Hid (∀ e w',SmPost W2 b (T2 ++ inpsT (v.inp.take k)) W6 ((inpW y).map lnT) e w' → e = .returned (.bool false) ∧ PG W2 b (T2 ++ inpsT (v.inp.take k)) w'):=fun e w' h=>by rw [hf] at h;exact ⟨h.1,h.2.1⟩
     clear hf
     go_upto_region 18 with fail
     rw [← HW6.out]
     have e0:=HO6.out.cell 0 _ rfl
     have e1:=HO6.out.cell 1 _ rfl
     have e2:=HO6.out.cell 2 _ rfl
     have e3:=HO6.out.cell 3 _ rfl
     have e4:=HO6.out.cell 4 _ rfl
     go_wp2_with (go_at_call 40;refine ((HSEC _ HG6.out).out).mono ?_;intro e W7 hp;obtain ⟨rfl,h7⟩:=HSP.out _ _ hp;have HG7:=Lib.hid h7;clear hp h7)
     exact (HE _ (bmore HX2.out.bel HG7.out.bel)).out
    | some ws=>
     have HSP : Hid (∀ e w',SmPost W2 b (T2 ++ inpsT (v.inp.take k)) W6 ((inpW y).map lnT) e w' → e = .returned (.bool true) ∧ PG W2 b (T2 ++ inpsT (v.inp.take k) ++ lnT ((inpW y).getD [])) w'):=fun e w' h=>by rw [hf] at h ⊢;exact ⟨h.1,h.2.1⟩
     have HS2 : Hid (∀ j (hj : j < v.inp.length),j < k + 1 → (inpW v.inp[j]).isSome = true):=fun j hj h=>by
      by_cases e : j = k
      ·subst e;rw [← HY.out,hf];rfl
      ·exact HS.out j hj (by omega)
     clear hf
     go_upto_region 18 with fail
     rw [← HW6.out]
     have e0:=HO6.out.cell 0 _ rfl
     have e1:=HO6.out.cell 1 _ rfl
     have e2:=HO6.out.cell 2 _ rfl
     have e3:=HO6.out.cell 3 _ rfl
     have e4:=HO6.out.cell 4 _ rfl
     go_wp2_with (go_at_call 40;refine ((HSEC _ HG6.out).out).mono ?_;intro e W7 hp;obtain ⟨rfl,h7⟩:=HSP.out _ _ hp;have HG7:=Lib.hid h7;clear hp h7 e0 e1 e2 e3 e4 u0 u1 u2 u3 u4)
     go_roundw
     case rel=>exact ⟨k + 1,by omega,by go_num,HS2.out,by rw [HTS.out,← List.append_assoc];exact HG7.out⟩
     case measure=>simp [intOf];omega
   obtain rfl : k = v.inp.length:=by omega
   have dq2 : decide ((v.inp.length : Int) < (v.inp.length : Int)) = false:=decide_eq_false (by omega)
   rw [List.take_length] at HG
   have hnl2:=HNL.out v.inp.length (Nat.le_refl _) HS.out
   rw [List.take_length] at hnl2
   obtain ⟨T3,hT3⟩ : ∃ T3,T3 = T2 ++ inpsT v.inp:=⟨_,rfl⟩
   rw [← hT3] at HG
   have hT3l : T3.length ≤ 10000000000000:=by rw [hT3,List.length_append];omega
   have HT3N : Hid (T3 ≠ []):=by
    rw [Hid,hT3,HT2.out,HT1.out]
    intro e
    have:=HNE.out
    simp only [List.append_eq_nil_iff] at e
    exact this e.1.1.1
   have HE5:=Lib.hid (HE4.out HS.out T3 hT3)
   clear hT3 HE3 HE4 HNL hnl2
   by_cases h16 : 16384 < T3.length
   ·have d1 : decide ((T3.length : Int) > 16384) = true:=decide_eq_true (by omega)
    have d1' : decide (16384 < T3.length) = true:=decide_eq_true h16
    have HE:=fun w' h=>Lib.hid (HE5.out [] 10 w' (by rw [if_pos h16]) h)
    clear h16
    go_wp2_with (go_at_call 41;refine (plen_any HG.out).mono ?_;intro e W8 hp;obtain ⟨rfl,hw8⟩:=hp;have HG8 : Hid (PG W2 b T3 W8):=hw8 ▸ HG.out;clear hw8)
    exact (HE _ (bmore HX2.out.bel HG8.out.bel)).out
   ·have d1 : decide ((T3.length : Int) > 16384) = false:=decide_eq_false (by omega)
    have d1' : decide (16384 < T3.length) = false:=decide_eq_false h16
    have HE:=fun w' h=>Lib.hid (HE5.out T3 0 w' (by rw [if_neg h16]) h)
    clear h16
    go_wp2_with (first | (go_at_call 41;refine (plen_any HG.out).mono ?_;intro e W8 hp;obtain ⟨rfl,hw8⟩:=hp;have HG8 : Hid (PG W2 b T3 W8):=hw8 ▸ HG.out;clear hw8) | (go_at_call 32;refine (pgstring _ _ _ _ HG8.out.pg HT3N.out).mono ?_;rintro e W9 ⟨rfl,_,h9,_⟩;have HB9:=Lib.hid (HG8.out.bel.trans h9);clear h9))
    exact (HE _ (bmore HX2.out.bel HB9.out)).out
 ·have HPR : Hid (∀ W,CfgOk W c → PowIs W → Calls Tryz.prog 36 #[.agg #[.int .i64 c.cats,.slice c.g.a c.g.l.length c.g.cap,.slice c.r.a c.r.l.length c.r.cap,.slice c.p.a c.p.l.length c.p.cap,.slice c.n.a c.n.l.length c.n.cap,.slice c.s.a c.s.l.length c.s.cap,.int .i64 c.gate,.int .i64 c.quota]] W fun e w'=>e = .returned (.tuple #[.string ⟨#[]⟩,.int .i64 k0]) ∧ Below W.heap.size W w'):=fun W h1 h2=>(HPR0 W h1 h2).mono fun e w' h=>⟨by rw [← hck];exact h.1 (by rw [hck];exact hk),h.2.2⟩
  have n1 : (k0 != 0) = true:=by simp [hk]
  have HE:=fun w' h=>Lib.hid (HR.out [] k0 w' (by rw [prS,if_pos (by rw [← hk0];exact hk),← hk0]) h)
  clear HPR0 hck hk0 hk hC hL hPP hc hv hm hP hI hp hW1
  have p0:=(HX1.out.oc).cell 0 _ rfl;have p1:=(HX1.out.oc).cell 1 _ rfl;have p2:=(HX1.out.oc).cell 2 _ rfl;have p3:=(HX1.out.oc).cell 3 _ rfl;have p4:=(HX1.out.oc).cell 4 _ rfl;have p5:=(HX1.out.oc).cell 5 _ rfl;have p6:=(HX1.out.oc).cell 6 _ rfl;have p7:=(HX1.out.oc).cell 7 _ rfl
  go_enter Tryz.func18,Tryz.ntmps18
  go_upto_region 1 with fail
  rw [← HW1.out]
  go_wp2_with (go_at_call 36;refine (HPR.out _ HX1.out.cok HPW.out).mono ?_;rintro e W2 ⟨rfl,hb⟩;have HB2:=Lib.hid (bmore HX1.out.bel hb);clear hb)
  exact (HE _ HB2.out).out
end Go.Proofs.YtoklonmiejdgmaaGreatDoor.Sp
/- The reference for asm: names, numbers with a sign, texts. -/
namespace Go.Proofs.YtoklonmiejdgmaaGreatDoor.As
set_option linter.unusedVariables false
set_option linter.unusedSimpArgs false
set_option linter.unnecessarySimpa false
open Go.RowKit Go.Sort
set_option maxHeartbeats 2000000
set_option maxRecDepth 100000
set_option linter.unusedVariables false
theorem fl_kinds : ∀ o : Fin 42,1 ≤ o.val → (kindN o.val = 0 ∧ Isa.fl o.val 1 = true ∧ Isa.fl o.val 2 = true ∧ Isa.fl o.val 4 = true ∧ Isa.fl o.val 8 = false) ∨ (kindN o.val = 1 ∧ Isa.fl o.val 1 = true ∧ Isa.fl o.val 2 = true ∧ Isa.fl o.val 4 = false ∧ Isa.fl o.val 8 = true) ∨ (kindN o.val = 2 ∧ Isa.fl o.val 1 = true ∧ Isa.fl o.val 2 = false ∧ Isa.fl o.val 4 = false ∧ Isa.fl o.val 8 = true) ∨ (kindN o.val = 3 ∧ Isa.fl o.val 1 = false ∧ Isa.fl o.val 2 = true ∧ Isa.fl o.val 4 = true ∧ Isa.fl o.val 8 = true) ∨ (kindN o.val = 4 ∧ Isa.fl o.val 1 = false ∧ Isa.fl o.val 2 = true ∧ Isa.fl o.val 4 = false ∧ Isa.fl o.val 8 = true) ∨ (kindN o.val = 5 ∧ Isa.fl o.val 1 = false ∧ Isa.fl o.val 2 = false ∧ Isa.fl o.val 4 = false ∧ Isa.fl o.val 8 = false):=by decide +kernel
end Go.Proofs.YtoklonmiejdgmaaGreatDoor.As
/- The reference for asm: one word. -/
namespace Go.Proofs.YtoklonmiejdgmaaGreatDoor.As
set_option linter.unusedVariables false
set_option linter.unusedSimpArgs false
set_option linter.unnecessarySimpa false
open Go.RowKit Go.Sort
set_option maxHeartbeats 2000000
set_option maxRecDepth 100000
set_option linter.unusedVariables false
theorem cut_yes {c : UInt8} {l : List UInt8} (h : cutB c l = true) : cutL c l = l.drop 1:=by
 unfold cutL Lib.trimPrefix
 unfold cutB at h
 rw [if_pos h];rfl
theorem cut_no {c : UInt8} {l : List UInt8} (h : cutB c l = false) : cutL c l = l:=by
 unfold cutL Lib.trimPrefix
 unfold cutB at h
 rw [if_neg (by rw [h];simp)]
end Go.Proofs.YtoklonmiejdgmaaGreatDoor.As
/- The reference for asm: a text as an instruction. -/
namespace Go.Proofs.YtoklonmiejdgmaaGreatDoor.As
set_option linter.unusedVariables false
set_option linter.unusedSimpArgs false
set_option linter.unnecessarySimpa false
open Go.RowKit Go.Sort
set_option maxHeartbeats 4000000
set_option maxRecDepth 100000
set_option linter.unusedVariables false
theorem parV_end {s : List UInt8} {o : Nat} (ho : o = opV ((fieldsC 32 s).headD [])) (h0 : o ≠ 0) (hw : wordsB s = true) (h : takeP (wantK (kindN o)) (fieldsC 32 s).tail = true) {c0 c1 c2 c3 : Int} (e0 : valP 0 (wantK (kindN o)) (fieldsC 32 s).tail = c0) (e1 : valP 1 (wantK (kindN o)) (fieldsC 32 s).tail = c1) (e2 : valP 2 (wantK (kindN o)) (fieldsC 32 s).tail = c2) (e3 : valP 3 (wantK (kindN o)) (fieldsC 32 s).tail = c3) :
  (Isa.validB o c0 c1 c2 c3 = false → parV s = .tuple #[(.agg #[.int .i64 (0),.int .i64 (0),.int .i64 (0),.int .i64 (0),.int .i64 (0)]),.int .i64 6]) ∧ (Isa.validB o c0 c1 c2 c3 = true → parV s = .tuple #[(.agg #[.int .i64 (o),.int .i64 (c0),.int .i64 (c1),.int .i64 (c2),.int .i64 (c3)]),.int .i64 0]):=by
 have hP : parB s = Isa.validB o c0 c1 c2 c3:=by
  unfold parB insP
  rw [hw,← ho,decide_eq_true h0,h,e0,e1,e2,e3];rfl
 constructor
 ·intro hv;exact parV_no (by rw [hP,hv])
 ·intro hv
  have hT : parB s = true:=by rw [hP,hv]
  unfold parV parO parD parA parC parN parE insP
  rw [if_pos hT,if_pos hT,if_pos hT,if_pos hT,if_pos hT,if_pos hT,← ho,e0,e1,e2,e3]
end Go.Proofs.YtoklonmiejdgmaaGreatDoor.As
/- The reference for asm: Parse walked. -/
namespace Go.Proofs.YtoklonmiejdgmaaGreatDoor.As
set_option linter.unusedVariables false
set_option linter.unusedSimpArgs false
set_option linter.unnecessarySimpa false
open Go.RowKit Go.Sort
set_option maxHeartbeats 4000000
set_option maxRecDepth 100000
set_option linter.unusedVariables false
end Go.Proofs.YtoklonmiejdgmaaGreatDoor.As
/- The reference for asm: a line's word; lines, plain. -/
namespace Go.Proofs.YtoklonmiejdgmaaGreatDoor.As
set_option linter.unusedVariables false
set_option linter.unusedSimpArgs false
set_option linter.unnecessarySimpa false
open Go.RowKit Go.Sort
set_option maxHeartbeats 2000000
set_option maxRecDepth 100000
set_option linter.unusedVariables false
theorem fields_sep (c : UInt8) : ∀ s : List UInt8,fieldsC c (s ++ [c]) = fieldsC c s ++ [[]]
 | []=>by simp [fieldsC]
 | b :: t=>by
  have ih:=fields_sep c t
  by_cases h : b = c
  ·rw [List.cons_append,fieldsC,if_pos h,ih,fieldsC,if_pos h];rfl
  ·obtain ⟨x,r,h1,h2⟩:=fieldsC_cons h t
   obtain ⟨x',r',h1',h2'⟩:=fieldsC_cons h (t ++ [c])
   rw [List.cons_append,h2',h2]
   rw [h1,h1'] at ih
   injection ih with ih1 ih2
   rw [ih1,ih2];rfl
theorem fields_snoc (c b : UInt8) (hb : b ≠ c) : ∀ s : List UInt8,∃ D y,fieldsC c (s ++ [b]) = D ++ [y ++ [b]]
 | []=>⟨[],[],by rw [List.nil_append,fieldsC_free c [b] (by simp;exact hb)];rfl⟩
 | a :: t=>by
  obtain ⟨D,y,ih⟩:=fields_snoc c b hb t
  by_cases h : a = c
  ·exact ⟨[] :: D,y,by rw [List.cons_append,fieldsC,if_pos h,ih];rfl⟩
  ·obtain ⟨x',r',h1',h2'⟩:=fieldsC_cons h (t ++ [b])
   rw [ih] at h1'
   cases D with
   | nil=>
    rw [List.nil_append] at h1'
    injection h1' with e1 e2
    exact ⟨[],a :: y,by rw [List.cons_append,h2',← e1,← e2];rfl⟩
   | cons d D=>
    rw [List.cons_append] at h1'
    injection h1' with e1 e2
    exact ⟨(a :: x') :: D,y,by rw [List.cons_append,h2',← e2];rfl⟩
theorem last_field (s : List UInt8) : (fieldsC 10 s).getLast? = some [] ↔ s = [] ∨ s.getLast? = some 10:=by
 rcases List.eq_nil_or_concat s with rfl | ⟨t,b,rfl⟩
 ·simp [fieldsC]
 ·rw [List.concat_eq_append]
  by_cases h : b = 10
  ·subst h
   rw [fields_sep];simp
  ·obtain ⟨D,y,e⟩:=fields_snoc 10 b h t
   rw [e]
   simp [h]
theorem suf_last (s : List UInt8) : lnE s = true ↔ s.getLast? = some 10:=by
 unfold lnE Lib.hasSuffix
 rw [List.isSuffixOf_iff_suffix]
 constructor
 ·rintro ⟨t,rfl⟩;simp
 ·intro h
  obtain ⟨t,ht⟩:=List.getLast?_eq_some_iff.1 h
  exact ⟨t,ht.symm⟩
theorem end_good {s : List UInt8} {done : Words} (h : fieldsC 10 s = done ++ [[]]) (hd : ∀ x ∈ done,wdB x = true) :
  lnL s = done ∧ ∀ j,j < (lnL s).length → badAt (lnE s) (lnL s) j = false:=by
 have h1 : (fieldsC 10 s).getLast? = some []:=by rw [h];simp
 have hL : lnL s = done:=by rw [lnL_some h1,h];simp
 refine ⟨hL,fun j hj=>?_⟩
 rw [bad_at hj]
 have : (lnL s)[j] = done[j]'(by rw [← hL];exact hj):=by simp only [hL]
 rw [this,hd _ (List.getElem_mem _)]
 rcases (last_field s).1 h1 with h2 | h2
 ·subst h2
  have : done = []:=by
   have:=congrArg List.length h
   simp [fieldsC] at this
   exact this
  rw [hL,this] at hj;simp at hj
 ·rw [(suf_last s).2 h2];simp
theorem pre_app {s : List UInt8} (h : Lib.hasPrefix s wdP = true) : s.take 6 = wdP ∧ 6 ≤ s.length ∧ Lib.trimPrefix s wdP = s.drop 6:=by
 have h':=h
 unfold Lib.hasPrefix at h
 rw [List.isPrefixOf_iff_prefix] at h
 obtain ⟨t,rfl⟩:=h
 refine ⟨by simp [wdP],by simp [wdP],?_⟩
 unfold Lib.trimPrefix
 rw [if_pos h'];rfl
end Go.Proofs.YtoklonmiejdgmaaGreatDoor.As
/- The reference for asm: Program. -/
namespace Go.Proofs.YtoklonmiejdgmaaGreatDoor.As
set_option linter.unusedVariables false
set_option linter.unusedSimpArgs false
set_option linter.unnecessarySimpa false
open Go.RowKit Go.Sort
set_option maxHeartbeats 2000000
set_option maxRecDepth 100000
set_option linter.unusedVariables false
end Go.Proofs.YtoklonmiejdgmaaGreatDoor.As
/- The reference for asm: List. -/
namespace Go.Proofs.YtoklonmiejdgmaaGreatDoor.As
set_option linter.unusedVariables false
set_option linter.unusedSimpArgs false
set_option linter.unnecessarySimpa false
open Go.RowKit Go.Sort
set_option maxHeartbeats 2000000
set_option maxRecDepth 100000
set_option linter.unusedVariables false
end Go.Proofs.YtoklonmiejdgmaaGreatDoor.As
/- The laws of chapter 10: awake, words; AsmTexts, AsmPrograms. -/
namespace Go.Proofs.YtoklonmiejdgmaaGreatDoor.As
set_option linter.unusedVariables false
set_option linter.unusedSimpArgs false
set_option linter.unnecessarySimpa false
open Go.RowKit Go.Sort
set_option maxHeartbeats 2000000
set_option maxRecDepth 100000
set_option linter.unusedVariables false
end Go.Proofs.YtoklonmiejdgmaaGreatDoor.As
/- Texts of instructions, there and back: plain. -/
namespace Go.Proofs.YtoklonmiejdgmaaGreatDoor.As
set_option linter.unusedVariables false
set_option linter.unusedSimpArgs false
set_option linter.unnecessarySimpa false
open Go.RowKit Go.Sort
set_option maxHeartbeats 1000000
set_option maxRecDepth 100000
set_option linter.unusedVariables false
def rgW (n : Int) : List UInt8:=114 :: Lib.itoa n
def insW (o : Nat) (d a b n : Int) : Words:=match kindN o with
 | 0=>[rgW d,rgW a,rgW b]
 | 1=>[rgW d,rgW a,Lib.itoa n]
 | 2=>[rgW d,Lib.itoa n]
 | 3=>[rgW a,rgW b,Lib.itoa n]
 | 4=>[rgW a,Lib.itoa n]
 | _=>[]
theorem text_join (o : Nat) (h1 : 1 ≤ o) (h2 : o < 42) (d a b n : Int) : textL o d a b n = joinC 32 (opName o :: insW o d a b n):=by
 have hk:=fl_kinds ⟨o,h2⟩ h1
 dsimp only at hk
 unfold textL insW
 rcases hk with ⟨k,_⟩ | ⟨k,_⟩ | ⟨k,_⟩ | ⟨k,_⟩ | ⟨k,_⟩ | ⟨k,_⟩ <;> simp [k,joinC,wregL,wnumL,rgW]
theorem opName_clean : ∀ o : Fin 42,1 ≤ o.val → opName o.val ≠ [] ∧ ((opName o.val).all fun b=>decide (b ≠ 32)) = true ∧ ((opName o.val).all fun b=>decide (b ≠ 10)) = true ∧ (opName o.val).head? ≠ some 46:=by decide +kernel
theorem dig_no (b : UInt8) (h : isDig b = true) : b ≠ 32 ∧ b ≠ 10 ∧ b ≠ 45:=by
 rw [isDig_iff] at h
 refine ⟨?_,?_,?_⟩ <;> (intro e;subst e;revert h;decide)
theorem itoa_form (n : Int) : (∃ m : Nat,n = m ∧ Lib.itoa n = Lib.decDigits m) ∨ (∃ m : Nat,1 ≤ m ∧ n = -(m : Int) ∧ Lib.itoa n = 45 :: Lib.decDigits m):=by
 by_cases h : n < 0
 ·refine .inr ⟨(-n).toNat,by omega,by omega,?_⟩
  have:=Lib.itoa_neg (-n).toNat (by omega)
  rw [show (-(((-n).toNat : Nat) : Int)) = n by omega] at this
  exact this
 ·refine .inl ⟨n.toNat,by omega,?_⟩
  have:=Lib.itoa_nonneg n.toNat
  rw [show ((n.toNat : Nat) : Int) = n by omega] at this
  exact this
theorem itoa_clean (n : Int) : Lib.itoa n ≠ [] ∧ ∀ b ∈ Lib.itoa n,b ≠ 32 ∧ b ≠ 10:=by
 rcases itoa_form n with ⟨m,_,e⟩ | ⟨m,_,_,e⟩
 ·rw [e]
  exact ⟨dd_ne m,fun b hb=>⟨(dig_no b (List.all_eq_true.1 (dd_all m) b hb)).1,(dig_no b (List.all_eq_true.1 (dd_all m) b hb)).2.1⟩⟩
 ·rw [e]
  refine ⟨by simp,fun b hb=>?_⟩
  rcases List.mem_cons.1 hb with rfl | hb
  ·exact ⟨by decide,by decide⟩
  ·exact ⟨(dig_no b (List.all_eq_true.1 (dd_all m) b hb)).1,(dig_no b (List.all_eq_true.1 (dd_all m) b hb)).2.1⟩
theorem rgW_clean (n : Int) : rgW n ≠ [] ∧ ∀ b ∈ rgW n,b ≠ 32 ∧ b ≠ 10:=by
 refine ⟨by simp [rgW],fun b hb=>?_⟩
 rcases List.mem_cons.1 hb with rfl | hb
 ·exact ⟨by decide,by decide⟩
 ·exact (itoa_clean n).2 b hb
theorem insW_clean (o : Nat) (d a b n : Int) : ∀ x ∈ insW o d a b n,x ≠ [] ∧ ∀ c ∈ x,c ≠ 32 ∧ c ≠ 10:=by
 intro x hx
 unfold insW at hx
 split at hx <;> simp only [List.mem_cons,List.not_mem_nil,or_false] at hx
 all_goals first
  | exact hx.elim
  | (rcases hx with rfl | rfl | rfl <;> first | exact rgW_clean _ | exact itoa_clean _)
  | (rcases hx with rfl | rfl <;> first | exact rgW_clean _ | exact itoa_clean _)
theorem name_words (o : Nat) (h1 : 1 ≤ o) (h2 : o < 42) (d a b n : Int) : ∀ x ∈ opName o :: insW o d a b n,x ≠ [] ∧ ∀ c ∈ x,c ≠ 32 ∧ c ≠ 10:=by
 intro x hx
 rcases List.mem_cons.1 hx with rfl | hx
 ·obtain ⟨e1,e2,e3,_⟩:=opName_clean ⟨o,h2⟩ h1
  exact ⟨e1,fun c hc=>⟨of_decide_eq_true (List.all_eq_true.1 e2 c hc),of_decide_eq_true (List.all_eq_true.1 e3 c hc)⟩⟩
 ·exact insW_clean o d a b n x hx
theorem text_fields (o : Nat) (h1 : 1 ≤ o) (h2 : o < 42) (d a b n : Int) : fieldsC 32 (textL o d a b n) = opName o :: insW o d a b n:=by
 rw [text_join o h1 h2]
 exact fields_join 32 _ (by simp) (fun x hx c hc=>((name_words o h1 h2 d a b n x hx).2 c hc).1)
theorem text_words (o : Nat) (h1 : 1 ≤ o) (h2 : o < 42) (d a b n : Int) : wordsB (textL o d a b n) = true:=by
 unfold wordsB
 rw [text_fields o h1 h2,Bool.not_eq_true',List.any_eq_false]
 intro x hx
 rw [List.isEmpty_iff]
 exact (name_words o h1 h2 d a b n x hx).1
theorem reg_ok (n : Nat) (h : n < 1000000000) : regOk (rgW n) = true ∧ regN (rgW n) = n:=by
 have hc : cutB 114 (rgW n) = true:=by unfold cutB Lib.hasPrefix rgW;simp [List.isPrefixOf]
 have hd : cutL 114 (rgW n) = Lib.decDigits n:=by
  rw [cut_yes hc]
  unfold rgW
  rw [Lib.itoa_nonneg];rfl
 obtain ⟨e1,e2⟩:=num_dd n h
 exact ⟨by rw [regOk,hc,hd,e1];rfl,by rw [regN,hd,e2]⟩
theorem num_ok (n : Int) (h0 : -1000000000 < n) (h1 : n < 1000000000) : numOk (Lib.itoa n) = true ∧ numN (Lib.itoa n) = n:=by
 rcases itoa_form n with ⟨m,rfl,e⟩ | ⟨m,hm,rfl,e⟩
 ·rw [e]
  have hc : cutB 45 (Lib.decDigits m) = false:=by
   unfold cutB Lib.hasPrefix
   cases hd : Lib.decDigits m with
   | nil=>rfl
   | cons x r=>
    have:=dig_no x (List.all_eq_true.1 (dd_all m) x (by rw [hd];simp))
    simp only [List.isPrefixOf,Bool.and_true,beq_eq_false_iff_ne]
    exact fun e=>this.2.2 e.symm
  obtain ⟨e1,e2⟩:=num_dd m (by omega)
  exact ⟨by rw [numOk,hc,cut_no hc,e1];rfl,by rw [numN,hc,cut_no hc,e2];rfl⟩
 ·rw [e]
  have hc : cutB 45 (45 :: Lib.decDigits m) = true:=by unfold cutB Lib.hasPrefix;simp [List.isPrefixOf]
  have hd : cutL 45 (45 :: Lib.decDigits m) = Lib.decDigits m:=by rw [cut_yes hc];rfl
  obtain ⟨e1,e2⟩:=num_dd m (by omega)
  refine ⟨?_,by rw [numN,hc,hd,e2];rfl⟩
  rw [numOk,hc,hd,e1,e2,show (m == 0) = false from beq_eq_false_iff_ne.2 (by omega)];rfl
theorem fl_imm : ∀ o : Fin 42,Isa.fl o.val 8 = false → ¬ (o.val = 18 ∨ o.val = 19 ∨ o.val = 20) ∧ ¬ (o.val = 37 ∨ o.val = 38):=by decide +kernel
theorem valid_parts {o : Nat} (h2 : o < 42) {d a b n : Int} (h : Isa.validB o d a b n = true) : (Isa.fl o 1 = false → d = 0) ∧ (Isa.fl o 2 = false → a = 0) ∧ (Isa.fl o 4 = false → b = 0) ∧ (Isa.fl o 8 = false → n = 0):=by
 unfold Isa.validB at h
 rw [Bool.and_eq_true,Bool.and_eq_true,Bool.and_eq_true,Bool.and_eq_true] at h
 obtain ⟨_,e1,e2,e4,e8⟩:=h
 rw [show ((o : Int).toNat) = o from rfl] at e1 e2 e4 e8
 have key : ∀ (f : Bool) (x : Int),Isa.regB f x = true → f = false → x = 0:=fun f x h hf=>by
  subst hf;unfold Isa.regB at h;simpa using h
 refine ⟨key _ _ e1,key _ _ e2,key _ _ e4,fun h8=>?_⟩
 obtain ⟨n1,n2⟩:=fl_imm ⟨o,h2⟩ h8
 unfold Isa.immB at e8
 rw [if_neg n1,if_neg n2,if_pos (by unfold Isa.fl at h8;rw [bne_eq_false_iff_eq] at h8;rw [h8];rfl)] at e8
 simpa using e8
theorem text_back {op d a b n : Int} (h : Isa.validB op d a b n = true) : parV (textV op d a b n) = .tuple #[(.agg #[.int .i64 (op),.int .i64 (d),.int .i64 (a),.int .i64 (b),.int .i64 (n)]),.int .i64 0] ∧ parB (textV op d a b n) = true:=by
 obtain ⟨⟨o1,o2⟩,⟨d1,d2⟩,⟨a1,a2⟩,⟨b1,b2⟩,⟨n1,n2⟩⟩:=Isa.validB_bounds h
 obtain ⟨o,rfl⟩ : ∃ o : Nat,op = o:=⟨op.toNat,by omega⟩
 obtain ⟨d,rfl⟩ : ∃ o : Nat,d = o:=⟨d.toNat,by omega⟩
 obtain ⟨a,rfl⟩ : ∃ o : Nat,a = o:=⟨a.toNat,by omega⟩
 obtain ⟨b,rfl⟩ : ∃ o : Nat,b = o:=⟨b.toNat,by omega⟩
 have hT : textV o d a b n = textL o d a b n:=by rw [textV,if_pos h];rfl
 rw [hT]
 have hf:=text_fields o (by omega) (by omega) d a b n
 have hw:=text_words o (by omega) (by omega) d a b n
 have ho : o = opV ((fieldsC 32 (textL o d a b n)).headD []):=by
  rw [hf];exact (opV_name (by omega) (by omega)).symm
 obtain ⟨p1,p2,p4,p8⟩:=valid_parts (by omega) h
 obtain ⟨r1,r2⟩:=reg_ok d (by omega)
 obtain ⟨r3,r4⟩:=reg_ok a (by omega)
 obtain ⟨r5,r6⟩:=reg_ok b (by omega)
 obtain ⟨r7,r8⟩:=num_ok n (by omega) (by omega)
 have hk:=fl_kinds ⟨o,by omega⟩ (by dsimp only;omega)
 dsimp only at hk
 have key : takeP (wantK (kindN o)) (fieldsC 32 (textL o d a b n)).tail = true ∧ valP 0 (wantK (kindN o)) (fieldsC 32 (textL o d a b n)).tail = d ∧ valP 1 (wantK (kindN o)) (fieldsC 32 (textL o d a b n)).tail = a ∧ valP 2 (wantK (kindN o)) (fieldsC 32 (textL o d a b n)).tail = b ∧ valP 3 (wantK (kindN o)) (fieldsC 32 (textL o d a b n)).tail = n:=by
  rw [hf,List.tail_cons]
  unfold insW
  rcases hk with ⟨k,e1,e2,e4,e8⟩ | ⟨k,e1,e2,e4,e8⟩ | ⟨k,e1,e2,e4,e8⟩ | ⟨k,e1,e2,e4,e8⟩ | ⟨k,e1,e2,e4,e8⟩ | ⟨k,e1,e2,e4,e8⟩
  all_goals
   rw [k]
   simp only [e1,e2,e4,e8,Bool.true_eq_false,false_implies,true_implies] at p1 p2 p4 p8
   simp [wantK,takeP,valP,okP,vaP,r1,r2,r3,r4,r5,r6,r7,r8]
   try omega
 obtain ⟨t0,v0,v1,v2,v3⟩:=key
 have hend:=(parV_end ho (by omega) hw t0 v0 v1 v2 v3).2 h
 refine ⟨hend,?_⟩
 unfold parB
 rw [hw,← ho,decide_eq_true (show o ≠ 0 by omega),t0]
 unfold insP
 dsimp only
 rw [v0,v1,v2,v3,h];rfl
end Go.Proofs.YtoklonmiejdgmaaGreatDoor.As
/- A list's text read back: plain (lines of XAsList). -/
namespace Go.Proofs.YtoklonmiejdgmaaGreatDoor.As
set_option linter.unusedVariables false
set_option linter.unusedSimpArgs false
set_option linter.unnecessarySimpa false
open Go.RowKit Go.Sort
set_option maxHeartbeats 1000000
set_option maxRecDepth 100000
set_option linter.unusedVariables false
theorem big_dd (x : Nat) (h : x < 4294967296) : lgB (Lib.decDigits x) = true ∧ lgN (Lib.decDigits x) = x:=by
 have hw : bigW (Lib.decDigits x) = true:=by
  unfold bigW
  have h1:=dd_len 10 x (by omega) (by omega)
  rw [decide_eq_true (dd_ne x),decide_eq_true h1]
  by_cases hl : 1 < (Lib.decDigits x).length
  ·rw [decide_eq_false (dd_head x (dd_one x hl))];simp
  ·rw [decide_eq_false hl];rfl
 have hb : bigD (Lib.decDigits x) = true:=by rw [bigD,hw,dd_all];rfl
 exact ⟨by rw [lgB,hb,dd_go,decide_eq_true h];rfl,by rw [lgN,if_pos hb,dd_go];omega⟩
theorem join_mem (c : UInt8) : ∀ (L : Words) (b : UInt8),b ∈ joinC c L → b = c ∨ ∃ x ∈ L,b ∈ x
 | [],b,h=>by simp [joinC] at h
 | [x],b,h=>.inr ⟨x,by simp,h⟩
 | x :: y :: r,b,h=>by
  rw [joinC,List.mem_append] at h
  rcases h with h | h
  ·exact .inr ⟨x,by simp,h⟩
  ·rcases List.mem_cons.1 h with h | h
   ·exact .inl h
   ·rcases join_mem c (y :: r) b h with h | ⟨z,hz,hb⟩
    ·exact .inl h
    ·exact .inr ⟨z,List.mem_cons_of_mem _ hz,hb⟩
theorem itoa_len (n : Int) (h0 : -10000 < n) (h1 : n < 10000) : (Lib.itoa n).length ≤ 5:=by
 rcases itoa_form n with ⟨m,rfl,e⟩ | ⟨m,hm,rfl,e⟩
 ·have:=dd_len 4 m (by omega) (by omega)
  rw [e];omega
 ·have:=dd_len 4 m (by omega) (by omega)
  rw [e,List.length_cons];omega
theorem wreg_len (n : Nat) (h : n < 100) : (wregL n).length ≤ 4:=by
 have:=dd_len 2 n (by omega) (by omega)
 unfold wregL
 rw [Lib.itoa_nonneg,List.length_append];simp;omega
theorem wnum_len (n : Int) (h0 : -10000 < n) (h1 : n < 10000) : (wnumL n).length ≤ 6:=by
 have:=itoa_len n h0 h1
 unfold wnumL
 rw [List.length_append];simp;omega
theorem opName_five : ∀ o : Fin 42,(opName o.val).length ≤ 5:=by decide +kernel
theorem valid_text {op d a b n : Int} (h : Isa.validB op d a b n = true) : (textV op d a b n).length ≤ 20 ∧ (∀ c ∈ textV op d a b n,c ≠ 10) ∧ Lib.hasPrefix (textV op d a b n) wdP = false:=by
 obtain ⟨⟨o1,o2⟩,⟨d1,d2⟩,⟨a1,a2⟩,⟨b1,b2⟩,⟨n1,n2⟩⟩:=Isa.validB_bounds h
 obtain ⟨o,rfl⟩ : ∃ o : Nat,op = o:=⟨op.toNat,by omega⟩
 obtain ⟨d,rfl⟩ : ∃ o : Nat,d = o:=⟨d.toNat,by omega⟩
 obtain ⟨a,rfl⟩ : ∃ o : Nat,a = o:=⟨a.toNat,by omega⟩
 obtain ⟨b,rfl⟩ : ∃ o : Nat,b = o:=⟨b.toNat,by omega⟩
 have hT : textV o d a b n = textL o d a b n:=by rw [textV,if_pos h];rfl
 rw [hT]
 refine ⟨?_,?_,?_⟩
 ·have hn:=opName_five ⟨o,by omega⟩
  have l1:=wreg_len d (by omega)
  have l2:=wreg_len a (by omega)
  have l3:=wreg_len b (by omega)
  have l4:=wnum_len n (by omega) (by omega)
  unfold textL
  dsimp only at hn
  split <;> (try simp only [List.length_append]) <;> omega
 ·intro c hc
  rw [text_join o (by omega) (by omega)] at hc
  rcases join_mem 32 _ c hc with rfl | ⟨x,hx,hcx⟩
  ·decide
  ·exact ((name_words o (by omega) (by omega) d a b n x hx).2 c hcx).2
 ·obtain ⟨e1,_,_,e4⟩:=opName_clean ⟨o,by omega⟩ (by dsimp only;omega)
  rw [text_join o (by omega) (by omega)]
  dsimp only at e1 e4
  cases hn : opName o with
  | nil=>exact absurd hn e1
  | cons x r=>
   rw [hn] at e4
   have hx : x ≠ 46:=fun e=>e4 (by rw [e];rfl)
   have hj : ∃ t,joinC 32 ((x :: r) :: insW o d a b n) = x :: t:=by
    cases insW o d a b n with
    | nil=>exact ⟨r,rfl⟩
    | cons y q=>exact ⟨r ++ 32 :: joinC 32 (y :: q),rfl⟩
   obtain ⟨t,ht⟩:=hj
   rw [ht]
   unfold Lib.hasPrefix wdP
   simp only [List.isPrefixOf,Bool.and_eq_false_iff,beq_eq_false_iff_ne]
   exact .inl (fun e=>hx e.symm)
theorem line_ok (x : Nat) (hx : x < 4294967296) : (lineL x).length ≤ 20 ∧ (∀ c ∈ lineL x,c ≠ 10) ∧ wdB (lineL x) = true ∧ wdV (lineL x) = x:=by
 cases hb : Isa.decB x
 ·have hL : lineL x = wdP ++ Lib.decDigits x:=by rw [lineL,hb];rfl
  rw [hL]
  have hp : Lib.hasPrefix (wdP ++ Lib.decDigits x) wdP = true:=by
   unfold Lib.hasPrefix
   rw [List.isPrefixOf_iff_prefix]
   exact List.prefix_append _ _
  have ht : Lib.trimPrefix (wdP ++ Lib.decDigits x) wdP = Lib.decDigits x:=by
   rw [(pre_app hp).2.2];rfl
  obtain ⟨g1,g2⟩:=big_dd x hx
  refine ⟨?_,?_,?_,?_⟩
  ·have:=dd_len 10 x (by omega) (by omega)
   rw [List.length_append];simp [wdP];omega
  ·intro c hc
   rcases List.mem_append.1 hc with hc | hc
   ·exact (by decide : ∀ c ∈ wdP,c ≠ 10) c hc
   ·exact (dig_no c (List.all_eq_true.1 (dd_all x) c hc)).2.1
  ·rw [wdB,if_pos hp,ht,g1]
  ·rw [wdV,if_pos hp,ht,g2]
 ·have hL : lineL x = textV ((x : Int) % 64) ((x : Int) / 64 % 16) ((x : Int) / 1024 % 16) ((x : Int) / 16384 % 16) (Isa.decN x):=by rw [lineL,if_pos hb]
  have hv : Isa.validB ((x : Int) % 64) ((x : Int) / 64 % 16) ((x : Int) / 1024 % 16) ((x : Int) / 16384 % 16) (Isa.decN x) = true:=hb
  obtain ⟨t1,t2,t3⟩:=valid_text hv
  obtain ⟨q1,q2⟩:=text_back hv
  have hdw:=Isa.dec_word x hx
  rw [hL]
  refine ⟨t1,t2,?_,?_⟩
  ·rw [wdB,if_neg (by rw [t3];simp),q2]
  ·rw [wdV,if_neg (by rw [t3];simp),if_pos q2]
   unfold parV at q1
   simp only [Value.tuple.injEq,Array.mk.injEq,List.cons.injEq,Value.agg.injEq,Value.int.injEq,true_and,and_true] at q1
   obtain ⟨⟨e1,e2,e3,e4,e5⟩,_⟩:=q1
   rw [e1,e2,e3,e4,e5,hdw]
theorem list_fields : ∀ (l : List Nat),(∀ x ∈ l,x < 4294967296) → fieldsC 10 (listL l) = l.map lineL ++ [[]]
 | [],_=>rfl
 | x :: r,h=>by
  have ih:=list_fields r (fun y hy=>h y (List.mem_cons_of_mem _ hy))
  have e : listL (x :: r) = lineL x ++ 10 :: listL r:=by simp [listL]
  rw [e,fieldsC_app 10 (lineL x) _ (line_ok x (h x (List.mem_cons_self ..))).2.1,ih];rfl
theorem listL_short (l : List Nat) (h : ∀ x ∈ l,x < 4294967296) : (listL l).length ≤ 21 * l.length:=by
 induction l with
 | nil=>simp [listL]
 | cons x r ih=>
  have h1:=(line_ok x (h x (List.mem_cons_self ..))).1
  have h2:=ih (fun y hy=>h y (List.mem_cons_of_mem _ hy))
  unfold listL at h2 ⊢
  rw [List.map_cons,List.flatten_cons,List.length_append,List.length_append,List.length_cons,List.length_cons,List.length_nil]
  omega
theorem list_back (l : List Nat) (h5 : l.length ≤ 512) (hl : ∀ x ∈ l,x < 4294967296) : pgL (listL l) = l.map (fun (x : Nat)=>(x : Int)) ∧ pgE (listL l) = 0 ∧ pgAt (listL l) = 0:=by
 obtain ⟨e1,e2⟩:=end_good (list_fields l hl) (fun x hx=>by obtain ⟨y,hy,rfl⟩:=List.mem_map.1 hx;exact (line_ok y (hl y hy)).2.2.1)
 have hs:=listL_short l hl
 have hlg : pgLong (listL l) = false:=by
  unfold pgLong
  rw [e1,List.length_map,decide_eq_false (by omega),decide_eq_false (by omega)];rfl
 have hbad : pgBad (listL l) = none:=by
  rw [pgBad,List.find?_eq_none]
  intro j hj
  rw [e2 j (List.mem_range.1 hj)];simp
 refine ⟨?_,?_,?_⟩
 ·rw [pgL,if_neg (by rw [hlg];simp),hbad]
  show (lnL (listL l)).map wdV = _
  rw [e1,List.map_map]
  apply List.map_congr_left
  intro x hx
  exact (line_ok x (hl x hx)).2.2.2
 ·rw [pgE,if_neg (by rw [hlg];simp),hbad]
 ·rw [pgAt,if_neg (by rw [hlg];simp),hbad]
end Go.Proofs.YtoklonmiejdgmaaGreatDoor.As
/- The text of a configuration is read as that configuration: plain. -/
namespace Go.Proofs.YtoklonmiejdgmaaGreatDoor
set_option linter.unusedVariables false
set_option linter.unusedSimpArgs false
set_option linter.unnecessarySimpa false
open Go.RowKit Go.Sort
set_option maxHeartbeats 2000000
set_option maxRecDepth 100000
set_option linter.unusedVariables false
theorem stP_pre (L M : List (List UInt8)) : ∀ k,k ≤ L.length → stP (L ++ M) k = stP L k
 | 0,_=>rfl
 | k + 1,h=>by
  unfold stP
  rw [stP_pre L M k (by omega)]
  congr 1
  funext st
  rw [List.getD_eq_getElem?_getD,List.getD_eq_getElem?_getD,List.getElem?_append_left (by omega)]
theorem stP_snoc (L : List (List UInt8)) (x : List UInt8) : stP (L ++ [x]) (L.length + 1) = (stP L L.length).bind fun st=>lineV st.1 st.2 (decide (L.length = 0)) x:=by
 rw [show stP (L ++ [x]) (L.length + 1) = (stP (L ++ [x]) L.length).bind fun st=>lineV st.1 st.2 (decide (L.length = 0)) ((L ++ [x]).getD L.length []) from rfl,stP_pre L [x] _ (Nat.le_refl _)]
 simp
/-- May this row be of this rank, in a text? -/
def RowOk (k : Nat) (r : List Int) : Prop:=rowV k (rowT k r) = some r ∧ (rowT k r).length = wordsK k ∧ ∀ x ∈ rowT k r,x ≠ [] ∧ x.all (fun b=>b != 10 && b != 32) = true
theorem all_sep {x : List UInt8} (h : x.all (fun b=>b != 10 && b != 32) = true) : (∀ b ∈ x,b ≠ 10) ∧ ∀ b ∈ x,b ≠ 32:=by
 rw [List.all_eq_true] at h
 exact ⟨fun b hb=>by have:=h b hb;simp at this;exact this.1,fun b hb=>by have:=h b hb;simp at this;exact this.2⟩
theorem join_free (c d : UInt8) (hcd : c ≠ d) : ∀ L : List (List UInt8),(∀ x ∈ L,∀ b ∈ x,b ≠ d) → ∀ b ∈ joinC c L,b ≠ d
 | [],_,b,hb=>by simp [joinC] at hb
 | [x],h,b,hb=>h x (by simp) b hb
 | x :: y :: r,h,b,hb=>by
  rw [joinC] at hb
  rcases List.mem_append.1 hb with hb | hb
  ·exact h x (by simp) b hb
  ·rcases List.mem_cons.1 hb with rfl | hb
   ·exact hcd
   ·exact join_free c d hcd (y :: r) (fun z hz=>h z (by simp [hz])) b hb
theorem rank_name : ∀ k : Fin 7,rankV (rkName k.val) = k.val:=by decide +kernel
theorem name_ok : ∀ k : Fin 7,rkName k.val ≠ [] ∧ (rkName k.val).all (fun b=>b != 10 && b != 32) = true:=by decide +kernel
theorem rowT_head (k : Nat) (r : List Int) : (rowT k r).headD [] = rkName k:=by unfold rowT;split <;> rfl
theorem rowT_ne (k : Nat) (r : List Int) : rowT k r ≠ []:=by unfold rowT;split <;> simp
theorem line_row {k : Nat} {r : List Int} (hk : k < 7) (h : RowOk k r) (c : Pc) (last : Int) (b : Bool) (ho : ordB k b last = true) : lineV c last b (lineT (k,r)) = some (setV c k r,(k : Int)):=by
 have hf : fieldsC 32 (lineT (k,r)) = rowT k r:=fields_join 32 (rowT k r) (rowT_ne k r) (fun x hx=>(all_sep (h.2.2 x hx).2).2)
 have hw : wordsB (lineT (k,r)) = true:=by
  unfold wordsB;rw [hf,Bool.not_eq_true',List.any_eq_false]
  intro x hx
  have:=(h.2.2 x hx).1
  cases x with
  | nil=>exact absurd rfl this
  | cons a t=>simp
 have hr : rankV ((fieldsC 32 (lineT (k,r))).headD []) = k:=by rw [hf,rowT_head];exact rank_name ⟨k,hk⟩
 unfold lineV
 rw [hr,hf,if_pos ⟨hw,hk,ho,h.2.1⟩,h.1];rfl
theorem line_free {k : Nat} {r : List Int} (h : RowOk k r) : ∀ b ∈ lineT (k,r),b ≠ 10:=join_free 32 10 (by decide) _ (fun x hx=>(all_sep (h.2.2 x hx).2).1)
theorem dc_numB {n : Int} (h0 : 0 ≤ n) (h1 : n < 1000000000) : numB (dc n) = true ∧ ((numI (dc n) : Nat) : Int) = n:=by
 have:=num_dd n.toNat (by omega)
 exact ⟨this.1,by rw [show numI (dc n) = n.toNat from this.2];omega⟩
theorem dc_ne (n : Int) : dc n ≠ []:=dd_ne _
theorem dc_out {n : Int} (h0 : 0 ≤ n) (h1 : n < 1000000000) : dc n ≠ outT:=fun e=>by
 have:=(dc_numB h0 h1).1
 rw [e] at this;revert this;decide
theorem lbT_F {l : Int} (h : 0 ≤ l ∧ l < 256) : lbF (lbT l) = some l.toNat:=lparse_text ⟨l.toNat,by omega⟩
theorem row_nums {k : Nat} {ws : List (List UInt8)} (hk : ¬ (k = 1 ∨ k = 2 ∨ k = 3)) (hb : nmsB (ws.drop 1) = true) : rowV k ws = some (nmsL (ws.drop 1)):=by
 unfold rowV;rw [if_neg hk,if_pos hb]
theorem row_lab {k : Nat} {ws : List (List UInt8)} {x : Nat} (hk : k = 1 ∨ k = 2 ∨ k = 3) (hx : lbF (ws.getD 1 []) = some x) (ho : ¬ (k = 3 ∧ ws.getD 2 [] = [111,117,116])) (hb : nmsB (ws.drop 2) = true) : rowV k ws = some ((x : Int) :: nmsL (ws.drop 2)):=by
 unfold rowV;rw [if_pos hk,hx];simp only;rw [if_neg ho,if_pos hb]
def NumOk' (x : Int) : Prop:=0 ≤ x ∧ x < 1000000000
theorem ok_0 {a : Int} (ha : NumOk' a) : RowOk 0 [a]:=by
 have h1:=dc_numB ha.1 ha.2
 refine ⟨?_,rfl,?_⟩
 ·rw [row_nums (by omega) (by simp [rowT,nmsB,h1.1])];simp [rowT,nmsL,h1.2]
 ·intro x hx
  simp only [rowT,List.mem_cons,List.not_mem_nil,or_false,List.getD_cons_zero] at hx
  rcases hx with rfl | rfl
  ·exact name_ok ⟨0,by omega⟩
  ·exact ⟨dc_ne _,dc_all _⟩
theorem ok_1 {l a b : Int} (hl : 0 ≤ l ∧ l < 256) (ha : NumOk' a) (hb : NumOk' b) : RowOk 1 [l,a,b]:=by
 have h1:=dc_numB ha.1 ha.2
 have h2:=dc_numB hb.1 hb.2
 refine ⟨?_,rfl,?_⟩
 ·show rowV 1 [rkName 1,lbT l,dc a,dc b] = some [l,a,b]
  rw [row_lab (k:=1) (ws:=[rkName 1,lbT l,dc a,dc b]) (x:=l.toNat) (by omega) (lbT_F hl) (by omega) (by simp [nmsB,h1.1,h2.1])]
  simp [nmsL,h1.2,h2.2];omega
 ·intro x hx
  simp only [rowT,List.mem_cons,List.not_mem_nil,or_false,List.getD_cons_zero,List.getD_cons_succ] at hx
  rcases hx with rfl | rfl | rfl | rfl
  ·exact name_ok ⟨1,by omega⟩
  ·exact ⟨(lbT_ok hl).1,(lbT_ok hl).2.2⟩
  ·exact ⟨dc_ne _,dc_all _⟩
  ·exact ⟨dc_ne _,dc_all _⟩
theorem ok_2 {l a b : Int} (hl : 0 ≤ l ∧ l < 256) (ha : NumOk' a) (hb : NumOk' b) : RowOk 2 [l,a,b]:=by
 have h1:=dc_numB ha.1 ha.2
 have h2:=dc_numB hb.1 hb.2
 refine ⟨?_,rfl,?_⟩
 ·show rowV 2 [rkName 2,lbT l,dc a,dc b] = some [l,a,b]
  rw [row_lab (k:=2) (ws:=[rkName 2,lbT l,dc a,dc b]) (x:=l.toNat) (by omega) (lbT_F hl) (by omega) (by simp [nmsB,h1.1,h2.1])]
  simp [nmsL,h1.2,h2.2];omega
 ·intro x hx
  simp only [rowT,List.mem_cons,List.not_mem_nil,or_false,List.getD_cons_zero,List.getD_cons_succ] at hx
  rcases hx with rfl | rfl | rfl | rfl
  ·exact name_ok ⟨2,by omega⟩
  ·exact ⟨(lbT_ok hl).1,(lbT_ok hl).2.2⟩
  ·exact ⟨dc_ne _,dc_all _⟩
  ·exact ⟨dc_ne _,dc_all _⟩
theorem ok_3 {l a : Int} (hl : 0 ≤ l ∧ l < 256) (ha : a = -1 ∨ NumOk' a) : RowOk 3 [l,a]:=by
 rcases ha with rfl | ha
 ·refine ⟨?_,rfl,?_⟩
  ·show rowV 3 [rkName 3,lbT l,outT] = some [l,-1]
   unfold rowV
   rw [if_pos (by omega),show lbF (([rkName 3,lbT l,outT] : List (List UInt8)).getD 1 []) = some l.toNat from lbT_F hl]
   refine (if_pos ⟨rfl,rfl⟩).trans ?_
   congr 2
   omega
  ·intro x hx
   simp only [rowT,List.mem_cons,List.not_mem_nil,or_false,List.getD_cons_zero,List.getD_cons_succ,if_pos] at hx
   rcases hx with rfl | rfl | rfl
   ·exact name_ok ⟨3,by omega⟩
   ·exact ⟨(lbT_ok hl).1,(lbT_ok hl).2.2⟩
   ·exact ⟨by decide,by decide⟩
 ·have h1:=dc_numB ha.1 ha.2
  have hn : ¬ a = -1:=by have:=ha.1;omega
  have ht : rowT 3 [l,a] = [rkName 3,lbT l,dc a]:=by simp [rowT,hn]
  refine ⟨?_,by rw [ht];rfl,?_⟩
  ·rw [ht,row_lab (k:=3) (ws:=[rkName 3,lbT l,dc a]) (x:=l.toNat) (by omega) (lbT_F hl) (fun h=>dc_out ha.1 ha.2 h.2) (by simp [nmsB,h1.1])]
   simp [nmsL,h1.2];omega
  ·intro x hx
   rw [ht] at hx
   simp only [List.mem_cons,List.not_mem_nil,or_false] at hx
   rcases hx with rfl | rfl | rfl
   ·exact name_ok ⟨3,by omega⟩
   ·exact ⟨(lbT_ok hl).1,(lbT_ok hl).2.2⟩
   ·exact ⟨dc_ne _,dc_all _⟩
theorem ok_k {k : Nat} {a b : Int} (hk : k < 3) (ha : NumOk' a) (hb : NumOk' b) : RowOk (k + 4) [a,b]:=by
 have h1:=dc_numB ha.1 ha.2
 have h2:=dc_numB hb.1 hb.2
 refine ⟨?_,?_,?_⟩
 ·rw [row_nums (by omega) (by simp [rowT,nmsB,h1.1,h2.1])];simp [rowT,nmsL,h1.2,h2.2]
 ·rcases (by omega : k = 0 ∨ k = 1 ∨ k = 2) with rfl | rfl | rfl <;> rfl
 ·intro x hx
  simp only [rowT,List.mem_cons,List.not_mem_nil,or_false,List.getD_cons_zero,List.getD_cons_succ] at hx
  rcases hx with rfl | rfl | rfl
  ·exact name_ok ⟨k + 4,by omega⟩
  ·exact ⟨dc_ne _,dc_all _⟩
  ·exact ⟨dc_ne _,dc_all _⟩
/-- Rows of one rank, one behind another. -/
theorem st_group (k : Nat) (h1 : 1 ≤ k) (h6 : k < 6) : ∀ (l : List (List Int)) (L : List (List UInt8)) (c : Pc) (last : Int),L ≠ [] → last ≤ k → stP L L.length = some (c,last) → (∀ r ∈ l,RowOk k r) →
  ∃ last' : Int,last' ≤ k ∧ stP (L ++ l.map fun r=>lineT (k,r)) (L.length + l.length) = some (l.foldl (fun c r=>setV c k r) c,last')
 | [],L,c,last,_,hl,hs,_=>⟨last,hl,by simpa using hs⟩
 | r :: l,L,c,last,hne,hl,hs,hr=>by
  have hL0 : L.length ≠ 0:=fun e=>hne (List.eq_nil_of_length_eq_zero e)
  have h2 : stP (L ++ [lineT (k,r)]) (L ++ [lineT (k,r)]).length = some (setV c k r,(k : Int)):=by
   rw [List.length_append,List.length_singleton,stP_snoc,hs]
   simp only [Option.bind_some]
   rw [line_row (by omega) (hr r (by simp))]
   rw [decide_eq_false hL0,ordB_go (by rw [decide_eq_false (by omega)]) (by omega),decide_eq_true hl]
  obtain ⟨last',g1,g2⟩:=st_group k h1 h6 l (L ++ [lineT (k,r)]) (setV c k r) k (by simp) (Int.le_refl _) h2 (fun x hx=>hr x (by simp [hx]))
  refine ⟨last',g1,?_⟩
  rw [List.append_assoc,List.length_append,List.length_singleton] at g2
  rw [List.map_cons,List.length_cons,List.foldl_cons,← g2]
  congr 1
  omega
theorem fold_g (l : List (List Int)) : ∀ c : Pc,l.foldl (fun c r=>setV c 1 r) c = { c with g:=c.g ++ l }:=by
 induction l with
 | nil=>intro c;simp
 | cons r l ih=>intro c;rw [List.foldl_cons,ih];simp [setV]
theorem fold_r (l : List (List Int)) : ∀ c : Pc,l.foldl (fun c r=>setV c 2 r) c = { c with r:=c.r ++ l }:=by
 induction l with
 | nil=>intro c;simp
 | cons r l ih=>intro c;rw [List.foldl_cons,ih];simp [setV]
theorem fold_p (l : List (List Int)) : ∀ c : Pc,l.foldl (fun c r=>setV c 3 r) c = { c with p:=c.p ++ l }:=by
 induction l with
 | nil=>intro c;simp
 | cons r l ih=>intro c;rw [List.foldl_cons,ih];simp [setV]
theorem fold_n (l : List (List Int)) : ∀ c : Pc,l.foldl (fun c r=>setV c 4 r) c = { c with n:=c.n ++ l }:=by
 induction l with
 | nil=>intro c;simp
 | cons r l ih=>intro c;rw [List.foldl_cons,ih];simp [setV]
theorem fold_s (l : List (List Int)) : ∀ c : Pc,l.foldl (fun c r=>setV c 5 r) c = { c with s:=c.s ++ l }:=by
 induction l with
 | nil=>intro c;simp
 | cons r l ih=>intro c;rw [List.foldl_cons,ih];simp [setV]
/-- The rows' lengths. -/
structure LenOk (c : Pc) : Prop where
 g : ∀ r ∈ c.g,r.length = 3
 r : ∀ r ∈ c.r,r.length = 3
 p : ∀ r ∈ c.p,r.length = 2
 n : ∀ r ∈ c.n,r.length = 2
 s : ∀ r ∈ c.s,r.length = 2
theorem len3 {r : List Int} (h : r.length = 3) : r = [r.getD 0 0,r.getD 1 0,r.getD 2 0]:=by
 match r,h with
 | [a,b,c],_=>rfl
theorem len2 {r : List Int} (h : r.length = 2) : r = [r.getD 0 0,r.getD 1 0]:=by
 match r,h with
 | [a,b],_=>rfl
theorem rows_ok {c : Pc} (hf : FitP c) (hl : LenOk c) : ∀ x ∈ rowsP c,RowOk x.1 x.2 ∧ x.1 < 7:=by
 intro x hx
 unfold rowsP tag gateR at hx
 simp only [List.mem_cons,List.mem_append,List.mem_map] at hx
 rcases hx with rfl | ⟨r,hr,rfl⟩ | ⟨r,hr,rfl⟩ | ⟨r,hr,rfl⟩ | ⟨r,hr,rfl⟩ | ⟨r,hr,rfl⟩ | hx
 ·exact ⟨ok_0 ⟨hf.cats.1,by have:=hf.cats.2;show c.cats < _;omega⟩,by simp⟩
 ·have h:=hf.g r hr
  have e:=len3 (hl.g r hr)
  refine ⟨?_,by simp⟩
  show RowOk 1 r
  rw [e];exact ok_1 h.1 ⟨h.2.1.1,by omega⟩ ⟨h.2.2.1,by omega⟩
 ·have h:=hf.r r hr
  have e:=len3 (hl.r r hr)
  refine ⟨?_,by simp⟩
  show RowOk 2 r
  rw [e];exact ok_2 h.1 ⟨h.2.1.1,by omega⟩ ⟨h.2.2.1,by omega⟩
 ·have h:=hf.p r hr
  have e:=len2 (hl.p r hr)
  refine ⟨?_,by simp⟩
  show RowOk 3 r
  rw [e];exact ok_3 h.1 (h.2.imp id fun h=>⟨h.1,by omega⟩)
 ·have h:=hf.n r hr
  have e:=len2 (hl.n r hr)
  refine ⟨?_,by simp⟩
  show RowOk (0 + 4) r
  rw [e];exact ok_k (by omega) ⟨h.1.1,by omega⟩ ⟨h.2.1,by omega⟩
 ·have h:=hf.s r hr
  have e:=len2 (hl.s r hr)
  refine ⟨?_,by simp⟩
  show RowOk (1 + 4) r
  rw [e];exact ok_k (by omega) ⟨h.1.1,by omega⟩ ⟨h.2.1,by omega⟩
 ·split at hx
  ·cases hx
  ·rename_i hg
   rw [List.mem_singleton] at hx
   subst hx
   obtain ⟨h1,h2⟩:=hf.gate.resolve_left (fun h=>hg h.1)
   exact ⟨ok_k (k:=2) (by omega) ⟨h1.1,by omega⟩ ⟨h2.1,by omega⟩,by simp⟩
theorem fields_text : ∀ R : List (Nat × List Int),(∀ x ∈ R,∀ b ∈ lineT x,b ≠ 10) → fieldsC 10 (textT R) = R.map lineT ++ [[]]
 | [],_=>rfl
 | x :: R,h=>by
  have ih:=fields_text R (fun y hy=>h y (by simp [hy]))
  rw [show textT (x :: R) = lineT x ++ 10 :: textT R from by simp [textT],fieldsC_app 10 _ _ (h x (by simp)),ih];rfl
theorem st_rows {c : Pc} (hf : FitP c) (hl : LenOk c) : ∃ last,stP ((rowsP c).map lineT) ((rowsP c).map lineT).length = some (c,last):=by
 have hok:=rows_ok hf hl
 have tagok : ∀ (k : Nat) (l : List (List Int)),(∀ r ∈ l,(k,r) ∈ rowsP c) → ∀ r ∈ l,RowOk k r:=fun k l h r hr=>(hok _ (h r hr)).1
 have mt : ∀ (k : Nat) (l : List (List Int)),(tag k l).map lineT = l.map fun r=>lineT (k,r):=fun k l=>by simp [tag]
 have s0 : stP [lineT (0,[c.cats])] [lineT (0,[c.cats])].length = some ({ pcN with cats:=c.cats },0):=by
  have:=stP_snoc [] (lineT (0,[c.cats]))
  rw [List.nil_append,List.length_nil] at this
  rw [show ([lineT (0,[c.cats])] : List (List UInt8)).length = 0 + 1 from rfl,this]
  show (some (pcN,(-1 : Int))).bind _ = _
  simp only [Option.bind_some]
  rw [line_row (by omega) (hok (0,[c.cats]) (by simp [rowsP])).1 _ _ _ (by first | rfl | (simp [ordB]))];rfl
 obtain ⟨l1,a1,b1⟩:=st_group 1 (by omega) (by omega) c.g _ _ _ (by simp) (by omega) s0 (tagok 1 c.g fun r hr=>by simp [rowsP,tag,hr])
 rw [fold_g,← List.length_map (f:=fun r=>lineT (1,r)),← List.length_append] at b1
 obtain ⟨l2,a2,b2⟩:=st_group 2 (by omega) (by omega) c.r _ _ _ (by simp) (by omega) b1 (tagok 2 c.r fun r hr=>by simp [rowsP,tag,hr])
 rw [fold_r,← List.length_map (f:=fun r=>lineT (2,r)),← List.length_append] at b2
 obtain ⟨l3,a3,b3⟩:=st_group 3 (by omega) (by omega) c.p _ _ _ (by simp) (by omega) b2 (tagok 3 c.p fun r hr=>by simp [rowsP,tag,hr])
 rw [fold_p,← List.length_map (f:=fun r=>lineT (3,r)),← List.length_append] at b3
 obtain ⟨l4,a4,b4⟩:=st_group 4 (by omega) (by omega) c.n _ _ _ (by simp) (by omega) b3 (tagok 4 c.n fun r hr=>by simp [rowsP,tag,hr])
 rw [fold_n,← List.length_map (f:=fun r=>lineT (4,r)),← List.length_append] at b4
 obtain ⟨l5,a5,b5⟩:=st_group 5 (by omega) (by omega) c.s _ _ _ (by simp) (by omega) b4 (tagok 5 c.s fun r hr=>by simp [rowsP,tag,hr])
 rw [fold_s,← List.length_map (f:=fun r=>lineT (5,r)),← List.length_append] at b5
 simp only [pcN,List.nil_append] at b5
 have hrw : (rowsP c).map lineT = ((((([lineT (0,[c.cats])] ++ c.g.map fun r=>lineT (1,r)) ++ c.r.map fun r=>lineT (2,r)) ++ c.p.map fun r=>lineT (3,r)) ++ c.n.map fun r=>lineT (4,r)) ++ c.s.map fun r=>lineT (5,r)) ++ (gateR c).map lineT:=by
  simp only [rowsP,List.map_cons,List.map_append,mt,List.append_assoc,List.cons_append,List.nil_append]
 rw [hrw]
 by_cases hg : c.gate = -1
 ·have hq:=(hf.gate.resolve_right (fun h=>by omega)).2
  rw [show gateR c = [] from by unfold gateR;rw [if_pos hg],List.map_nil,List.append_nil]
  refine ⟨l5,?_⟩
  rw [b5]
  congr 2
  cases c;simp_all
 ·rw [show gateR c = [(6,[c.gate,c.quota])] from by unfold gateR;rw [if_neg hg],List.map_cons,List.map_nil,List.length_append,List.length_singleton,stP_snoc,b5]
  simp only [Option.bind_some]
  refine ⟨6,?_⟩
  rw [line_row (by omega) (hok (6,[c.gate,c.quota]) (by simp [rowsP,gateR,hg])).1]
  ·simp [setV]
  ·rw [decide_eq_false (by simp),ordB_go (by rfl) (by omega),decide_eq_true (by omega)]
end Go.Proofs.YtoklonmiejdgmaaGreatDoor
/- A text that is read as a configuration is that configuration's text: plain. -/
namespace Go.Proofs.YtoklonmiejdgmaaGreatDoor
set_option linter.unusedVariables false
set_option linter.unusedSimpArgs false
set_option linter.unnecessarySimpa false
open Go.RowKit Go.Sort
set_option maxHeartbeats 2000000
set_option maxRecDepth 100000
set_option linter.unusedVariables false
/-- A configuration's text is read as that configuration. -/
theorem ps_there {c : Pc} (hc : chkP c = 0) (hf : FitP c) (hl : LenOk c) : psV (prT c) = (c,0,0):=by
 obtain ⟨last,hst⟩:=st_rows hf hl
 have hok:=rows_ok hf hl
 have hfe : fieldsC 10 (prT c) = (rowsP c).map lineT ++ [[]]:=fields_text _ (fun x hx=>line_free (k:=x.1) (r:=x.2) (hok x hx).1)
 have hlen : (prT c).length ≤ 16384:=by
  have h1 : ∀ R : List (Nat × List Int),(∀ x ∈ R,(lineT x).length ≤ 100) → (textT R).length ≤ 101 * R.length:=by
   intro R
   induction R with
   | nil=>intro _;simp [textT]
   | cons x R ih=>
    intro h
    have:=ih (fun y hy=>h y (by simp [hy]))
    have h2:=h x (by simp)
    rw [show textT (x :: R) = lineT x ++ [10] ++ textT R from by simp [textT]]
    simp only [List.length_append,List.length_cons,List.length_nil];omega
  have h2 : (rowsP c).length ≤ 34:=by
   have:=hf.gl;have:=hf.rl;have:=hf.pl;have:=hf.nl;have:=hf.sl
   unfold rowsP gateR tag
   split <;> simp <;> omega
  have h3 : ∀ x ∈ rowsP c,(lineT x).length ≤ 100:=by
   intro x hx
   have hle : ∀ k : Fin 7,(rkName k.val).length ≤ 5:=by decide
   have lw : ∀ (k : Nat) (ah : List UInt8) (l : List Int),k < 7 → ah.length ≤ 20 → l.length ≤ 3 → (∀ n ∈ l,n < 1000000000) → (lnW k ah l).length ≤ 80:=by
    intro k ah l hk ha hl h
    have hkn:=hle ⟨k,hk⟩
    have : (l.flatMap (fun n=>32 :: dc n)).length ≤ 10 * l.length:=by
     clear hl
     induction l with
     | nil=>simp
     | cons x l ih=>
      have h1:=dc_len (h x (by simp))
      have h2:=ih (fun n hn=>h n (by simp [hn]))
      simp only [List.flatMap_cons,List.length_append,List.length_cons] at h2 ⊢
      omega
    unfold lnW
    simp only [List.length_append,List.length_singleton]
    have : (if ah = [] then [] else 32 :: ah).length ≤ 1 + ah.length:=by
     split
     ·exact Nat.zero_le _
     ·rw [List.length_cons];omega
    simp only at hkn
    omega
   have ll : (lineT x ++ [10]).length = (lineT x).length + 1:=by simp
   unfold rowsP tag gateR at hx
   simp only [List.mem_cons,List.mem_append,List.mem_map] at hx
   rcases hx with rfl | ⟨r,hr,rfl⟩ | ⟨r,hr,rfl⟩ | ⟨r,hr,rfl⟩ | ⟨r,hr,rfl⟩ | ⟨r,hr,rfl⟩ | hx
   ·rw [← lnW_0] at ll
    have:=lw 0 [] [c.cats] (by omega) (by simp) (by simp) (by intro n hn;rw [List.mem_singleton.1 hn];have:=hf.cats.2;omega)
    omega
   ·have h:=hf.g r hr
    rw [len3 (hl.g r hr)] at ll ⊢
    rw [← lnW_1 h.1] at ll
    have:=lw 1 (lbT (r.getD 0 0)) [r.getD 1 0,r.getD 2 0] (by omega) (by have:=(lbT_ok h.1).2.1;omega) (by simp) (by intro n hn;simp only [List.mem_cons,List.not_mem_nil,or_false] at hn;rcases hn with rfl | rfl <;> omega)
    omega
   ·have h:=hf.r r hr
    rw [len3 (hl.r r hr)] at ll ⊢
    rw [← lnW_2 h.1] at ll
    have:=lw 2 (lbT (r.getD 0 0)) [r.getD 1 0,r.getD 2 0] (by omega) (by have:=(lbT_ok h.1).2.1;omega) (by simp) (by intro n hn;simp only [List.mem_cons,List.not_mem_nil,or_false] at hn;rcases hn with rfl | rfl <;> omega)
    omega
   ·have h:=hf.p r hr
    have e:=len2 (hl.p r hr)
    rcases h.2 with h1 | h1
    ·rw [h1] at e
     rw [e] at ll ⊢
     rw [← lnW_out h.1] at ll
     have:=lw 3 (lbT (r.getD 0 0) ++ 32 :: outT) [] (by omega) (by have:=(lbT_ok h.1).2.1;rw [List.length_append,List.length_cons];have : outT.length = 3:=rfl;omega) (by simp) (by simp)
     omega
    ·rw [e] at ll ⊢
     rw [← lnW_3 h.1 (by omega)] at ll
     have:=lw 3 (lbT (r.getD 0 0)) [r.getD 1 0] (by omega) (by have:=(lbT_ok h.1).2.1;omega) (by simp) (by intro n hn;rw [List.mem_singleton.1 hn];omega)
     omega
   ·have h:=hf.n r hr
    rw [len2 (hl.n r hr)] at ll ⊢
    rw [show lineT (4,[r.getD 0 0,r.getD 1 0]) ++ [10] = lnW 4 [] [r.getD 0 0,r.getD 1 0] from (lnW_k 0 _ _).symm] at ll
    have:=lw 4 [] [r.getD 0 0,r.getD 1 0] (by omega) (by simp) (by simp) (by intro n hn;simp only [List.mem_cons,List.not_mem_nil,or_false] at hn;rcases hn with rfl | rfl <;> omega)
    omega
   ·have h:=hf.s r hr
    rw [len2 (hl.s r hr)] at ll ⊢
    rw [show lineT (5,[r.getD 0 0,r.getD 1 0]) ++ [10] = lnW 5 [] [r.getD 0 0,r.getD 1 0] from (lnW_k 1 _ _).symm] at ll
    have:=lw 5 [] [r.getD 0 0,r.getD 1 0] (by omega) (by simp) (by simp) (by intro n hn;simp only [List.mem_cons,List.not_mem_nil,or_false] at hn;rcases hn with rfl | rfl <;> omega)
    omega
   ·split at hx
    ·cases hx
    ·rename_i hg
     rw [List.mem_singleton] at hx
     subst hx
     have h:=hf.gate.resolve_left (fun h=>hg h.1)
     rw [show lineT (6,[c.gate,c.quota]) ++ [10] = lnW 6 [] [c.gate,c.quota] from (lnW_k 2 _ _).symm] at ll
     have:=lw 6 [] [c.gate,c.quota] (by omega) (by simp) (by simp) (by intro n hn;simp only [List.mem_cons,List.not_mem_nil,or_false] at hn;rcases hn with rfl | rfl <;> omega)
     omega
  have:=h1 _ h3
  unfold prT
  omega
 have hdl : (fieldsC 10 (prT c)).dropLast = (rowsP c).map lineT:=by rw [hfe,List.dropLast_concat]
 have hgl : (fieldsC 10 (prT c)).getLast? = some []:=by rw [hfe];simp
 rw [psV_end (by omega) (by rw [hdl];exact badP_none (by rw [hst];simp)) (by rw [hdl,hgl];simp [rowsP]),hdl]
 exact endP_yes hst hc
end Go.Proofs.YtoklonmiejdgmaaGreatDoor
/- What is printed is read as that: plain. -/
namespace Go.Proofs.YtoklonmiejdgmaaGreatDoor.Sp
set_option linter.unusedVariables false
set_option linter.unusedSimpArgs false
set_option linter.unnecessarySimpa false
open Go.RowKit Go.Sort
set_option maxHeartbeats 4000000
set_option maxRecDepth 100000
set_option linter.unusedVariables false
/-- A word: bytes, no feed, no blank. -/
def okW (x : List UInt8) : Bool:=!x.isEmpty && x.all fun b=>b != 10 && b != 32
theorem okW_iff {x : List UInt8} : okW x = true ↔ x ≠ [] ∧ (∀ b ∈ x,b ≠ 10) ∧ ∀ b ∈ x,b ≠ 32:=by
 unfold okW
 simp only [Bool.and_eq_true,Bool.not_eq_true',List.all_eq_true,bne_iff_ne,ne_eq,List.isEmpty_eq_false_iff]
 constructor
 ·rintro ⟨h1,h2⟩;exact ⟨h1,fun b hb=>(h2 b hb).1,fun b hb=>(h2 b hb).2⟩
 ·rintro ⟨h1,h2,h3⟩;exact ⟨h1,fun b hb=>⟨h2 b hb,h3 b hb⟩⟩
theorem okW_dc (n : Int) : okW (dc n) = true:=by
 unfold okW
 rw [dc_all,Bool.and_true,Bool.not_eq_true']
 cases h : dc n with
 | nil=>exact absurd h (dc_ne n)
 | cons a r=>rfl
theorem hvB_no : ∀ b : Fin 256,hvB (UInt8.ofNat b.val) = true → (UInt8.ofNat b.val != 10 && UInt8.ofNat b.val != 32) = true:=by decide +kernel
theorem okW_hex (d : List UInt8) : okW (hexV d) = true:=by
 unfold hexV
 split
 ·rfl
 ·rename_i hd
  unfold okW
  have h1:=flat_all d
  rw [Bool.and_eq_true]
  refine ⟨?_,?_⟩
  ·have:=flat_len d
   cases h : d.flatMap hxB with
   | nil=>
    rw [h,List.length_nil] at this
    exact absurd (List.eq_nil_of_length_eq_zero (by omega)) hd
   | cons a r=>rfl
  ·rw [List.all_eq_true] at h1 ⊢
   intro b hb
   have:=hvB_no ⟨b.toNat,b.toNat_lt⟩ (by simpa using h1 b hb)
   simpa using this
theorem line_fields {ws : List (List UInt8)} (hn : ws ≠ []) (h : ∀ x ∈ ws,okW x = true) : fieldsC 32 (joinC 32 ws) = ws ∧ (∀ b ∈ joinC 32 ws,b ≠ 10) ∧ wordsB (joinC 32 ws) = true:=by
 have hf:=fields_join 32 ws hn (fun x hx=>(okW_iff.1 (h x hx)).2.2)
 refine ⟨hf,join_free 32 10 (by decide) ws (fun x hx=>(okW_iff.1 (h x hx)).2.1),?_⟩
 unfold wordsB;rw [hf,Bool.not_eq_true',List.any_eq_false]
 intro x hx
 have:=(okW_iff.1 (h x hx)).1
 cases x with
 | nil=>exact absurd rfl this
 | cons a t=>simp
theorem rankS_of {y x : List UInt8} {r : List (List UInt8)} (hf : fieldsC 32 y = x :: r) (hw : wordsB y = true) : rankS y = rankH x:=by
 unfold rankS wHead;rw [hw,if_pos rfl,hf];rfl
theorem rank_names : ∀ k : Fin 7,rankH (rkName k.val) = -1:=by decide +kernel
theorem rank_words : rankH wImage = 0 ∧ rankH wSector = 1 ∧ rankH wInput = 2:=by decide +kernel
theorem ok_words : okW wImage = true ∧ okW wSector = true ∧ okW wInput = true ∧ okW wEnd = true ∧ okW wPacket = true ∧ okW wLine = true ∧ okW wRestart = true:=by decide +kernel
/-- Whatever its words: a configuration's line is of the configuration. -/
theorem rank_cfg {k : Nat} {r : List Int} (hk : k < 7) (h : RowOk k r) : rankS (lineT (k,r)) = -1:=by
 have hf : fieldsC 32 (lineT (k,r)) = rowT k r:=fields_join 32 (rowT k r) (rowT_ne k r) (fun x hx=>(all_sep (h.2.2 x hx).2).2)
 unfold rankS
 split
 ·unfold wHead;rw [hf,rowT_head];exact rank_names ⟨k,hk⟩
 ·rfl
theorem fields_T : ∀ L : List (List UInt8),(∀ x ∈ L,∀ b ∈ x,b ≠ 10) → fieldsC 10 (joinT L) = L ++ [[]]
 | [],_=>rfl
 | x :: r,h=>by
  have ih:=fields_T r (fun y hy=>h y (List.mem_cons_of_mem _ hy))
  have e : joinT (x :: r) = x ++ 10 :: joinT r:=by simp [joinT]
  rw [e,fieldsC_app 10 x _ (h x (List.mem_cons_self ..)),ih];rfl
theorem lsL_T {L : List (List UInt8)} (h : ∀ x ∈ L,∀ b ∈ x,b ≠ 10) : lsB (joinT L) = true ∧ lsL (joinT L) = L:=by
 have:=fields_T L h
 exact ⟨by rw [lsB,this];simp,by rw [lsL,this];simp⟩
theorem fromS_app {A R : List (List UInt8)} (hA : ∀ x ∈ A,rankS x = -1) (hR : ∀ y,R.head? = some y → rankS y ≠ -1) : fromS (A ++ R) = A.length:=by
 unfold fromS
 induction A with
 | nil=>
  cases R with
  | nil=>rfl
  | cons y r=>rw [List.nil_append,List.takeWhile_cons,if_neg (by simpa using hR y rfl)]
 | cons x A ih=>
  rw [List.cons_append,List.takeWhile_cons,if_pos (by simpa using hA x (by simp)),List.length_cons,ih (fun y hy=>hA y (by simp [hy])),List.length_cons]
/-- An image's lines. -/
def imgL (l : List Int) : List (List UInt8):=wImage :: ((natL l).map As.lineL ++ [wEnd])
def secL (x : Int × List UInt8) : List UInt8:=joinC 32 (secW x)
def inpL (x : Int × Int × Int × Int × List UInt8) : List UInt8:=joinC 32 ((inpW x).getD [])
theorem imgL_T (l : List Int) : joinT (imgL l) = imgT l:=by
 have : ∀ l : List Nat,joinT (l.map As.lineL) = As.listL l:=fun l=>by
  unfold joinT As.listL;rw [List.flatMap_map,List.flatMap_def]
 unfold imgL imgT
 rw [show wImage :: ((natL l).map As.lineL ++ [wEnd]) = [wImage] ++ ((natL l).map As.lineL ++ [wEnd]) from rfl,joinT_app,joinT_app,this]
 rfl
theorem joinT_flat {α : Type} (f : α → List (List UInt8)) (l : List α) : joinT (l.flatMap f) = l.flatMap fun x=>joinT (f x):=by
 simp [joinT,List.flatMap_assoc]
theorem joinT_map {α : Type} (f : α → List UInt8) (l : List α) : joinT (l.map f) = l.flatMap fun x=>f x ++ [10]:=by
 simp [joinT,List.flatMap_map]
theorem end_no (x : Nat) (hx : x < 4294967296) : As.lineL x ≠ wEnd:=fun e=>by
 have:=(As.line_ok x hx).2.2.1
 rw [e] at this
 exact absurd this (by decide +kernel)
theorem getD_mid {α : Type} (P : List α) (x : α) (R : List α) (d : α) : (P ++ x :: R).getD P.length d = x:=by
 simp [List.getD_eq_getElem?_getD]
theorem endS_mid (P M R : List (List UInt8)) (h : ∀ x ∈ M,x ≠ wEnd) : endS (P ++ (M ++ wEnd :: R)) P.length = some (P.length + M.length):=by
 refine endS_hit (by simp) (by omega) ?_ ?_
 ·rw [← List.append_assoc,← List.length_append,getD_mid]
 ·intro m h1 h2
  have h3 : m - P.length < M.length:=by omega
  rw [List.getD_eq_getElem?_getD,List.getElem?_append_right h1,List.getElem?_append_left h3,List.getElem?_eq_getElem h3]
  exact h _ (List.getElem_mem h3)
theorem img_step (P R : List (List UInt8)) (l : List Int) (s : Sc) (hl : l.length ≤ 512) (hw : ∀ x ∈ l,0 ≤ x ∧ x < 4294967296) :
  restS (P ++ (imgL l ++ R)) P.length 0 s = restS ((P ++ imgL l) ++ R) (P ++ imgL l).length 0 { s with im:=s.im ++ [l] }:=by
 obtain ⟨L,hL⟩ : ∃ L,L = P ++ (imgL l ++ R):=⟨_,rfl⟩
 obtain ⟨M,hM⟩ : ∃ M,M = (natL l).map As.lineL:=⟨_,rfl⟩
 have hL1 : L = P ++ wImage :: (M ++ wEnd :: R):=by rw [hL,imgL,← hM];simp
 have hg : L.getD P.length [] = wImage:=by rw [hL1,getD_mid]
 have hMn : ∀ x ∈ M,x ≠ wEnd:=fun x hx=>by
  rw [hM] at hx
  obtain ⟨y,hy,rfl⟩:=List.mem_map.1 hx
  exact end_no y (natL_lt hw y hy)
 have hend : endS L (P.length + 1) = some (P.length + 1 + M.length):=by
  have:=endS_mid (P ++ [wImage]) M R hMn
  rw [show P ++ [wImage] ++ (M ++ wEnd :: R) = L by rw [hL1];simp] at this
  simpa using this
 have hcut : (L.take (P.length + 1 + M.length)).drop (P.length + 1) = M:=by
  rw [hL1,show P ++ wImage :: (M ++ wEnd :: R) = (P ++ [wImage] ++ M) ++ wEnd :: R by simp,List.take_left' (by simp;omega),List.drop_left' (by simp)]
 have htx : joinT M = As.listL (natL l):=by
  rw [hM];unfold joinT As.listL;rw [List.flatMap_map];rw [List.flatMap_def]
 obtain ⟨q1,q2,q3⟩:=As.list_back (natL l) (by simpa [natL] using hl) (natL_lt hw)
 have hback : (natL l).map (fun (x : Nat)=>(x : Int)) = l:=by
  unfold natL
  rw [List.map_map]
  conv=>rhs;rw [← List.map_id l]
  apply List.map_congr_left
  intro x hx
  have:=hw x hx
  simp only [Function.comp,id];omega
 have hf : fieldsC 32 wImage = [wImage]:=by decide +kernel
 have hr : rankS wImage = 0:=by decide +kernel
 have hst : stepS L P.length 0 s = .inr (P.length + 1 + M.length + 1,0,{ s with im:=s.im ++ [l] }):=by
  unfold stepS
  rw [hg,hr,if_neg (by omega),if_pos rfl,imgS,hend]
  simp only
  rw [hg,hf,if_neg (by simp),hcut,htx,q2,if_neg (by simp),q1,hback]
 rw [← hL,restS_step (by rw [hL1];simp) hst,show (P ++ imgL l) ++ R = L by rw [hL];simp,show (P ++ imgL l).length = P.length + 1 + M.length + 1 by rw [imgL,← hM];simp;omega]
theorem sec_ok (x : Int × List UInt8) : ∀ y ∈ secW x,okW y = true:=fun y hy=>by
 simp only [secW,List.mem_cons,List.not_mem_nil,or_false] at hy
 rcases hy with rfl | rfl | rfl
 ·exact ok_words.2.1
 ·exact okW_dc _
 ·exact okW_hex _
theorem sec_step (P R : List (List UInt8)) (x : Int × List UInt8) (last : Int) (hl : last ≤ 1) (s : Sc) (h : fitB x.1 = true) :
  restS (P ++ (secL x :: R)) P.length last s = restS ((P ++ [secL x]) ++ R) (P ++ [secL x]).length 1 { s with se:=s.se ++ [x] }:=by
 obtain ⟨f1,f2,f3⟩:=line_fields (ws:=secW x) (by simp [secW]) (sec_ok x)
 obtain ⟨h0,h1⟩:=fitB_iff.1 h
 have hr : rankS (secL x) = 1:=(rankS_of (r:=[dc x.1,hexV x.2]) (show fieldsC 32 (secL x) = _ from f1) f3).trans rank_words.2.1
 have hg : (P ++ secL x :: R).getD P.length [] = secL x:=getD_mid _ _ _ _
 obtain ⟨n1,n2⟩:=dc_numB h0 (show x.1 < 1000000000 by omega)
 have hv : secV (secW x) = some x:=by
  unfold secV
  rw [if_pos ⟨rfl,n1,(un_hex x.2).1⟩]
  show some (((numI (dc x.1) : Nat) : Int),unV (hexV x.2)) = some x
  rw [n2,(un_hex x.2).2]
 have hst : stepS (P ++ secL x :: R) P.length last s = .inr (P.length + 1,1,{ s with se:=s.se ++ [x] }):=by
  unfold stepS
  rw [hg,hr,if_neg (by omega),if_neg (by decide),if_pos rfl,show fieldsC 32 (secL x) = secW x from f1,hv]
 rw [restS_step (by simp) hst]
 simp
theorem inp_ok {x : Int × Int × Int × Int × List UInt8} {ws : List (List UInt8)} (h : inpW x = some ws) : ∀ y ∈ ws,okW y = true:=by
 unfold inpW at h
 split at h
 ·obtain ⟨r,hr,rfl⟩:=Option.map_eq_some_iff.1 h
  intro y hy
  rcases List.mem_append.1 hy with hy | hy
  ·simp only [List.mem_cons,List.not_mem_nil,or_false] at hy
   rcases hy with rfl | rfl | rfl
   ·exact ok_words.2.2.1
   ·exact okW_dc _
   ·exact okW_dc _
  ·unfold tailW at hr
   split at hr
   ·injection hr with hr;subst hr
    simp only [List.mem_cons,List.not_mem_nil,or_false] at hy
    rcases hy with rfl | rfl
    ·exact ok_words.2.2.2.2.1
    ·exact okW_hex _
   ·split at hr
    ·injection hr with hr;subst hr
     simp only [List.mem_cons,List.not_mem_nil,or_false] at hy
     rcases hy with rfl | rfl
     ·exact ok_words.2.2.2.2.2.1
     ·exact okW_dc _
    ·split at hr
     ·injection hr with hr;subst hr
      simp only [List.mem_cons,List.not_mem_nil,or_false] at hy
      subst hy;exact ok_words.2.2.2.2.2.2
     ·cases hr
 ·cases h
theorem inp_back {x : Int × Int × Int × Int × List UInt8} {ws : List (List UInt8)} (h : inpW x = some ws) : inpV ws = some x ∧ ∃ r,ws = wInput :: r:=by
 obtain ⟨x0,x1,k,n,d⟩:=x
 unfold inpW at h
 split at h
 ·rename_i hf
  simp only [Bool.and_eq_true,fitB_iff] at hf
  obtain ⟨⟨a0,a1⟩,⟨b0,b1⟩,c0,c1⟩:=hf
  obtain ⟨n1,n2⟩:=dc_numB a0 (show x0 < 1000000000 by omega)
  obtain ⟨n3,n4⟩:=dc_numB b0 (show x1 < 1000000000 by omega)
  obtain ⟨n5,n6⟩:=dc_numB c0 (show n < 1000000000 by omega)
  obtain ⟨r,hr,rfl⟩:=Option.map_eq_some_iff.1 h
  refine ⟨?_,_,rfl⟩
  have hform : ∀ k' n' d',whatV r = some (k',n',d') → inpV ([wInput,dc x0,dc x1] ++ r) = some (x0,x1,k',n',d'):=fun k' n' d' hw=>by
   have hrl : 0 < r.length:=by
    cases r with
    | nil=>exact absurd hw (by simp [whatV])
    | cons a t=>simp
   unfold inpV
   rw [if_pos ⟨by simp;omega,n1,n3⟩,show ([wInput,dc x0,dc x1] ++ r).drop 3 = r from rfl,hw]
   show some (((numI (dc x0) : Nat) : Int),((numI (dc x1) : Nat) : Int),k',n',d') = _
   rw [n2,n4]
  apply hform
  unfold tailW at hr
  split at hr
  ·rename_i hc
   obtain ⟨rfl,rfl⟩:=hc
   injection hr with hr;subst hr
   unfold whatV
   rw [if_neg (by simp),if_pos ⟨rfl,rfl⟩]
   show (if unB (hexV d) = true then some ((0 : Int),(0 : Int),unV (hexV d)) else none) = some (0,0,d)
   rw [if_pos (un_hex d).1,(un_hex d).2]
  ·split at hr
   ·rename_i hc
    obtain ⟨rfl,rfl⟩:=hc
    injection hr with hr;subst hr
    unfold whatV
    rw [if_neg (by simp),if_neg (by rintro ⟨_,h⟩;exact absurd (show wLine = wPacket from h) (by decide)),if_pos ⟨rfl,rfl⟩]
    show (if numB (dc n) = true then some ((1 : Int),((numI (dc n) : Nat) : Int),([] : List UInt8)) else none) = some (1,n,[])
    rw [if_pos n5,n6]
   ·split at hr
    ·rename_i hc
     obtain ⟨rfl,rfl,rfl⟩:=hc
     injection hr with hr;subst hr
     unfold whatV
     rw [if_pos ⟨rfl,rfl⟩]
    ·cases hr
 ·cases h
theorem inp_step (P R : List (List UInt8)) (x : Int × Int × Int × Int × List UInt8) (last : Int) (hl : last ≤ 2) (s : Sc) (h : (inpW x).isSome = true) :
  restS (P ++ (inpL x :: R)) P.length last s = restS ((P ++ [inpL x]) ++ R) (P ++ [inpL x]).length 2 { s with inp:=s.inp ++ [x] }:=by
 obtain ⟨ws,hw⟩:=Option.isSome_iff_exists.1 h
 obtain ⟨hv,r,hr0⟩:=inp_back hw
 have hL : inpL x = joinC 32 ws:=by rw [inpL,hw];rfl
 obtain ⟨f1,f2,f3⟩:=line_fields (ws:=ws) (by rw [hr0];simp) (inp_ok hw)
 rw [← hL] at f1 f2 f3
 have hr : rankS (inpL x) = 2:=(rankS_of (r:=r) (by rw [f1,hr0]) f3).trans rank_words.2.2
 have hg : (P ++ inpL x :: R).getD P.length [] = inpL x:=getD_mid _ _ _ _
 have hst : stepS (P ++ inpL x :: R) P.length last s = .inr (P.length + 1,2,{ s with inp:=s.inp ++ [x] }):=by
  unfold stepS
  rw [hg,hr,if_neg (by omega),if_neg (by decide),if_neg (by decide),f1,hv]
 rw [restS_step (by simp) hst]
 simp
theorem inp_all (l : List (Int × Int × Int × Int × List UInt8)) (h : ∀ x ∈ l,(inpW x).isSome = true) : ∀ (P : List (List UInt8)) (last : Int) (s : Sc),last ≤ 2 → restS (P ++ l.map inpL) P.length last s = ({ s with inp:=s.inp ++ l },0,0):=by
 induction l with
 | nil=>intro P last s _;rw [List.map_nil,List.append_nil,restS_end (Nat.le_refl _),List.append_nil]
 | cons x r ih=>
  intro P last s hl
  rw [List.map_cons,inp_step P _ x last hl s (h x (by simp)),ih (fun y hy=>h y (by simp [hy])) _ 2 _ (by decide)]
  simp
theorem sec_all (l : List (Int × List UInt8)) (h : ∀ x ∈ l,fitB x.1 = true) (m : List (Int × Int × Int × Int × List UInt8)) (hm : ∀ x ∈ m,(inpW x).isSome = true) : ∀ (P : List (List UInt8)) (last : Int) (s : Sc),last ≤ 1 → restS (P ++ (l.map secL ++ m.map inpL)) P.length last s = ({ s with se:=s.se ++ l,inp:=s.inp ++ m },0,0):=by
 induction l with
 | nil=>intro P last s hl;rw [List.map_nil,List.nil_append,inp_all m hm P last s (by omega),List.append_nil]
 | cons x r ih=>
  intro P last s hl
  rw [List.map_cons,List.cons_append,sec_step P _ x last hl s (h x (by simp)),ih (fun y hy=>h y (by simp [hy])) _ 1 _ (by decide)]
  simp
theorem img_all (li : List (List Int)) (h5 : ∀ x ∈ li,x.length ≤ 512) (hw : ∀ l ∈ li,∀ x ∈ l,0 ≤ x ∧ x < 4294967296) (l : List (Int × List UInt8)) (h : ∀ x ∈ l,fitB x.1 = true) (m : List (Int × Int × Int × Int × List UInt8)) (hm : ∀ x ∈ m,(inpW x).isSome = true) : ∀ (P : List (List UInt8)) (s : Sc),restS (P ++ (li.flatMap imgL ++ (l.map secL ++ m.map inpL))) P.length 0 s = ({ im:=s.im ++ li,se:=s.se ++ l,inp:=s.inp ++ m },0,0):=by
 induction li with
 | nil=>intro P s;rw [List.flatMap_nil,List.nil_append,sec_all l h m hm P 0 s (by decide),List.append_nil]
 | cons x r ih=>
  intro P s
  rw [List.flatMap_cons,List.append_assoc,img_step P _ x s (h5 x (by simp)) (hw x (by simp)),ih (fun y hy=>h5 y (by simp [hy])) (fun y hy=>hw y (by simp [hy]))]
  simp
/-- What is printed is read as that configuration and script. -/
theorem print_read {c : Pc} {s : Sc} (hc : chkP c = 0) (hf : FitP c) (hl : LenOk c) (hw : ∀ l ∈ s.im,∀ x ∈ l,0 ≤ x ∧ x < 4294967296) {t : List UInt8} (h : prS c s = (t,0)) : scV t = (c,s,0,0) ∧ t.length ≤ 16384:=by
 unfold prS at h
 rw [if_neg (by rw [hc];simp)] at h
 split at h
 ·injection h with _ h;exact absurd h (by decide)
 rename_i h1
 split at h
 ·injection h with _ h;exact absurd h (by decide)
 rename_i h2
 split at h
 ·injection h with _ h;exact absurd h (by decide)
 rename_i h3
 split at h
 ·injection h with _ h;exact absurd h (by decide)
 rename_i h4
 injection h with h _
 have i5 : ∀ x ∈ s.im,x.length ≤ 512:=fun x hx=>by
  simp only [longB,List.any_eq_true,not_exists,not_and,decide_eq_true_eq] at h1
  have:=h1 x hx;omega
 have i2 : ∀ x ∈ s.se,fitB x.1 = true:=by
  have : s.se.all (fun x=>fitB x.1) = true:=by simpa using h2
  exact List.all_eq_true.1 this
 have i3 : ∀ x ∈ s.inp,(inpW x).isSome = true:=by
  have : s.inp.all (fun x=>(inpW x).isSome) = true:=by
   cases hb : s.inp.all (fun x=>(inpW x).isSome) with
   | true=>rfl
   | false=>exact absurd hb h3
  exact List.all_eq_true.1 this
 have hok:=rows_ok hf hl
 obtain ⟨A,hA⟩ : ∃ A,A = (rowsP c).map lineT:=⟨_,rfl⟩
 obtain ⟨R,hR⟩ : ∃ R,R = s.im.flatMap imgL ++ (s.se.map secL ++ s.inp.map inpL):=⟨_,rfl⟩
 have hAT : joinT A = prT c:=by rw [hA,joinT_map];rfl
 have hT : joinT (A ++ R) = t:=by
  rw [joinT_app,hAT,hR,joinT_app,joinT_app,joinT_flat,joinT_map,joinT_map,← h,bodyT,imgsT,secsT,inpsT]
  simp only [imgL_T];rfl
 have hfree : ∀ x ∈ A ++ R,∀ b ∈ x,b ≠ 10:=fun x hx=>by
  rcases List.mem_append.1 hx with hx | hx
  ·rw [hA] at hx
   obtain ⟨y,hy,rfl⟩:=List.mem_map.1 hx
   exact line_free (k:=y.1) (r:=y.2) (hok y hy).1
  ·rw [hR] at hx
   rcases List.mem_append.1 hx with hx | hx
   ·obtain ⟨l,hl',hx⟩:=List.mem_flatMap.1 hx
    rcases List.mem_cons.1 hx with rfl | hx
    ·exact (okW_iff.1 ok_words.1).2.1
    ·rcases List.mem_append.1 hx with hx | hx
     ·obtain ⟨y,hy,rfl⟩:=List.mem_map.1 hx
      exact (As.line_ok y (natL_lt (hw l hl') y hy)).2.1
     ·rw [List.mem_singleton.1 hx];exact (okW_iff.1 ok_words.2.2.2.1).2.1
   ·rcases List.mem_append.1 hx with hx | hx
    ·obtain ⟨y,hy,rfl⟩:=List.mem_map.1 hx
     exact (line_fields (ws:=secW y) (by simp [secW]) (sec_ok y)).2.1
    ·obtain ⟨y,hy,rfl⟩:=List.mem_map.1 hx
     obtain ⟨ws,hws⟩:=Option.isSome_iff_exists.1 (i3 y hy)
     obtain ⟨_,r,hr0⟩:=inp_back hws
     have : inpL y = joinC 32 ws:=by rw [inpL,hws];rfl
     rw [this]
     exact (line_fields (ws:=ws) (by rw [hr0];simp) (inp_ok hws)).2.1
 obtain ⟨l1,l2⟩:=lsL_T hfree
 rw [hT] at l1 l2
 have hrA : ∀ x ∈ A,rankS x = -1:=fun x hx=>by
  rw [hA] at hx
  obtain ⟨y,hy,rfl⟩:=List.mem_map.1 hx
  exact rank_cfg (k:=y.1) (r:=y.2) (hok y hy).2 (hok y hy).1
 have hrR : ∀ y,R.head? = some y → rankS y ≠ -1:=fun y hy=>by
  rw [hR] at hy
  cases hi : s.im with
  | cons l r=>
   rw [hi] at hy
   have : y = wImage:=by simpa [imgL] using hy.symm
   rw [this];decide +kernel
  | nil=>
   rw [hi] at hy
   cases hs : s.se with
   | cons x r=>
    rw [hs] at hy
    have : y = secL x:=by simpa using hy.symm
    obtain ⟨f1,_,f3⟩:=line_fields (ws:=secW x) (by simp [secW]) (sec_ok x)
    have hr : rankS (secL x) = 1:=(rankS_of (r:=[dc x.1,hexV x.2]) (show fieldsC 32 (secL x) = _ from f1) f3).trans rank_words.2.1
    rw [this,hr];decide
   | nil=>
    rw [hs] at hy
    cases hn : s.inp with
    | nil=>rw [hn] at hy;cases hy
    | cons x r=>
     rw [hn] at hy
     have : y = inpL x:=by simpa using hy.symm
     obtain ⟨ws,hws⟩:=Option.isSome_iff_exists.1 (i3 x (by rw [hn];simp))
     obtain ⟨_,q,hr0⟩:=inp_back hws
     have e : inpL x = joinC 32 ws:=by rw [inpL,hws];rfl
     obtain ⟨f1,_,f3⟩:=line_fields (ws:=ws) (by rw [hr0];simp) (inp_ok hws)
     rw [← e] at f1 f3
     have hr : rankS (inpL x) = 2:=(rankS_of (r:=q) (by rw [f1,hr0]) f3).trans rank_words.2.2
     rw [this,hr];decide
 have hfr:=fromS_app hrA hrR
 have hps:=ps_there hc hf hl
 have hrun:=img_all s.im i5 hw s.se i2 s.inp i3 A sc0
 rw [← hR] at hrun
 have htl : t.length ≤ 16384:=by rw [← h];omega
 refine ⟨?_,htl⟩
 rw [scV_lines (by omega) l1,l2,scR,hfr,List.take_left' rfl,hAT,hps,if_neg (by simp),runS_rest,hrun,if_neg (by simp)]
 simp [sc0]
end Go.Proofs.YtoklonmiejdgmaaGreatDoor.Sp
/- The law's awake; the reference's digits. -/
namespace Go.Proofs.YtoklonmiejdgmaaGreatDoor
set_option linter.unusedVariables false
set_option linter.unusedSimpArgs false
set_option linter.unnecessarySimpa false
open Go.RowKit Go.Sort
set_option maxHeartbeats 4000000
set_option maxRecDepth 100000
set_option linter.unusedVariables false
def swkT : List UInt8:=[99,97,116,115,32,48,10,103,117,101,115,116,32,45,32,50,32,48,10,115,108,111,116,32,48,32,49,10,105,109,97,103,101,10,104,97,108,116,10,101,110,100,10]
theorem swkP : ((scV swkT).1.g.length,(scV swkT).2.1.im.length,(scV swkT).2.2.1,(scV swkT).2.2.2) = (1,1,0,0):=by decide +kernel
theorem swkU : unV [54,49,54,50] = [97,98] ∧ unB [54,49,54,50] = true:=by decide +kernel
theorem sawake_any (w : World) (hT : WdTab w) (hI : Isa.Tab w) : Calls Tryz.prog 7 #[] w fun e w'=>e = .returned (.bool true) ∧ Below w.heap.size w w':=by
 have HU : Hid (Calls Tryz.prog 13 #[.string ⟨#[54,49,54,50]⟩] w fun e w'=>e = .returned (.tuple #[.string ⟨#[97,98]⟩,.bool true]) ∧ Below w.heap.size w w'):=by
  refine (unhex_any ⟨#[54,49,54,50]⟩ (by decide) w).mono ?_
  rintro e w' ⟨h1,h2⟩
  rw [show (⟨#[54,49,54,50]⟩ : ByteArray).data.toList = [54,49,54,50] from rfl,swkU.1,swkU.2] at h1
  exact ⟨h1,h2⟩
 have HA : Hid (∀ W,Below w.heap.size w W → Calls Tryz.prog 8 #[.string ⟨#[99,97,116,115,32,48,10,103,117,101,115,116,32,45,32,50,32,48,10,115,108,111,116,32,48,32,49,10,105,109,97,103,101,10,104,97,108,116,10,101,110,100,10]⟩] W fun e w'=>∃ (c : Cv) (v : Sv),e = .returned (.tuple #[(.agg #[.int .i64 c.cats,.slice c.g.a c.g.l.length c.g.cap,.slice c.r.a c.r.l.length c.r.cap,.slice c.p.a c.p.l.length c.p.cap,.slice c.n.a c.n.l.length c.n.cap,.slice c.s.a c.s.l.length c.s.cap,.int .i64 c.gate,.int .i64 c.quota]),(.agg #[.slice v.ia v.im.length v.ic,.slice v.sa v.se.length v.sc,.slice v.na v.inp.length v.nc]),.int .i64 0,.int .i64 0]) ∧ c.g.l.length = 1 ∧ v.im.length = 1 ∧ Below W.heap.size W w'):=fun W hb=>by
  refine (sparse_any ⟨#[99,97,116,115,32,48,10,103,117,101,115,116,32,45,32,50,32,48,10,115,108,111,116,32,48,32,49,10,105,109,97,103,101,10,104,97,108,116,10,101,110,100,10]⟩ (by decide) W (hT.below hb) (hI.below hb)).mono ?_
  rintro e w' ⟨c,v,h1,_,_,h3,h5,h4⟩
  have hp:=swkP
  rw [Prod.mk.injEq,Prod.mk.injEq,Prod.mk.injEq] at hp
  obtain ⟨p1,p2,p3,p4⟩:=hp
  have e0 : (⟨#[99,97,116,115,32,48,10,103,117,101,115,116,32,45,32,50,32,48,10,115,108,111,116,32,48,32,49,10,105,109,97,103,101,10,104,97,108,116,10,101,110,100,10]⟩ : ByteArray).data.toList = swkT:=rfl
  rw [e0] at h1 h3 h5
  rw [p3,p4] at h1
  rw [← h3] at p1
  rw [← h5] at p2
  exact ⟨c,v,h1,p1,by simpa [scOf] using p2,h4⟩
 have HX : Hid (∀ W,Calls Tryz.prog 12 #[.string ByteArray.empty] W fun e w'=>e = .returned (.string ⟨#[45]⟩) ∧ Below W.heap.size W w'):=fun W=>hex_any ByteArray.empty (by decide) W
 clear hT hI
 go_enter Tryz.func7,Tryz.ntmps7
 go_wp2_with fail
 refine HU.out.mono ?_;rintro e w1 ⟨rfl,hb1⟩
 have HB1:=Lib.hid hb1
 clear hb1
 go_wp2_with fail
 refine (HA.out _ HB1.out).mono ?_;rintro e w2 ⟨c,v,rfl,hl,hg,hb2⟩
 have HB:=Lib.hid (bmore HB1.out hb2)
 rw [hl,hg]
 clear hb2 hl hg
 go_wp2_with (go_at_call 12;refine (HX.out _).mono ?_;rintro e w3 ⟨rfl,hb3⟩;have HB3:=Lib.hid hb3;clear hb3)
 go_ret
 exact ⟨rfl,bmore ((HB.out.alloc HB.out.size _).alloc (HB.out.alloc HB.out.size _).size _) HB3.out⟩
end Go.Proofs.YtoklonmiejdgmaaGreatDoor
/- The walk of ScriptBack. -/
namespace Go.Proofs.YtoklonmiejdgmaaGreatDoor.Sp
set_option linter.unusedVariables false
set_option linter.unusedSimpArgs false
set_option linter.unnecessarySimpa false
open Go.RowKit Go.Sort
set_option maxHeartbeats 4000000
set_option maxRecDepth 100000
set_option linter.unusedVariables false
theorem lenOk_of {W : World} {c : Cv} (h : CfgOk W c) : LenOk (pcOf c):=⟨h.g.len,h.r.len,h.p.len,h.n.len,h.s.len⟩
theorem prT_le {W : World} {c : Cv} (h : CfgOk W c) (h0 : chkP (pcOf c) = 0) : (prT (pcOf c)).length ≤ 16384:=by
 have h1:=ps_there h0 (fit_of (by rw [chkP_of];exact h0)) (lenOk_of h)
 rcases Nat.lt_or_ge 16384 (prT (pcOf c)).length with hl | hl
 ·rw [psV_long hl] at h1
  have:=congrArg (fun x=>x.2.1) h1
  exact absurd (show (10 : Int) = 0 from this) (by decide)
 ·exact hl
theorem prS_err {c : Pc} {s : Sc} {t : List UInt8} {e : Int} (h : prS c s = (t,e)) (he : e ≠ 0) : t = []:=by
 unfold prS at h
 split at h
 ·injection h with h _;exact h.symm
 split at h
 ·injection h with h _;exact h.symm
 split at h
 ·injection h with h _;exact h.symm
 split at h
 ·injection h with h _;exact h.symm
 split at h
 ·injection h with h _;exact h.symm
 ·injection h with _ h;exact absurd h.symm he
theorem prS_chk {c : Pc} {s : Sc} {t : List UInt8} (h : prS c s = (t,0)) : chkP c = 0:=by
 unfold prS at h
 split at h
 ·rename_i h0;exact absurd (congrArg Prod.snd h) h0
 ·rename_i h0;simpa using h0
theorem ba_refl (x : List UInt8) : ((ba x).toList == (ba x).toList) = true:=by simp
theorem sback_walk (c : Cv) (v : Sv) (w : World) (hc : CfgOk w c) (hv : ScOk w v) (hm : Mild (scOf v)) (hT : WdTab w) (hP : PowIs w) (hI : Isa.Tab w) : Calls Tryz.prog 6 #[.agg #[.int .i64 c.cats,.slice c.g.a c.g.l.length c.g.cap,.slice c.r.a c.r.l.length c.r.cap,.slice c.p.a c.p.l.length c.p.cap,.slice c.n.a c.n.l.length c.n.cap,.slice c.s.a c.s.l.length c.s.cap,.int .i64 c.gate,.int .i64 c.quota],.agg #[.slice v.ia v.im.length v.ic,.slice v.sa v.se.length v.sc,.slice v.na v.inp.length v.nc]] w fun e w'=>e = .returned (.bool true) ∧ Below w.heap.size w w':=by
 have HAW : Hid (∀ W,Below w.heap.size w W → Calls Tryz.prog 7 #[] W fun e w'=>e = .returned (.bool true) ∧ Below W.heap.size W w'):=fun W h=>sawake_any W (hT.below h) (hI.below h)
 obtain ⟨W1,hW1⟩ : ∃ W1,W1 = (w.alloc (.cells #[.int .i64 c.cats,.slice c.g.a c.g.l.length c.g.cap,.slice c.r.a c.r.l.length c.r.cap,.slice c.p.a c.p.l.length c.p.cap,.slice c.n.a c.n.l.length c.n.cap,.slice c.s.a c.s.l.length c.s.cap,.int .i64 c.gate,.int .i64 c.quota] 29)).alloc (.cells #[.slice v.ia v.im.length v.ic,.slice v.sa v.se.length v.sc,.slice v.na v.inp.length v.nc] 34):=⟨_,rfl⟩
 have HX1 : Hid (CS w W1 w.heap.size c v):=by rw [hW1];exact cs_new w c v hc hv
 have HW1:=Lib.hid hW1
 have HPR : Hid (∀ W (d : Cv) (u : Sv),Below w.heap.size w W → CfgOk W d → ScOk W u → pcOf d = pcOf c → scOf u = scOf v → Calls Tryz.prog 18 #[.agg #[.int .i64 d.cats,.slice d.g.a d.g.l.length d.g.cap,.slice d.r.a d.r.l.length d.r.cap,.slice d.p.a d.p.l.length d.p.cap,.slice d.n.a d.n.l.length d.n.cap,.slice d.s.a d.s.l.length d.s.cap,.int .i64 d.gate,.int .i64 d.quota],.agg #[.slice u.ia u.im.length u.ic,.slice u.sa u.se.length u.sc,.slice u.na u.inp.length u.nc]] W fun e w'=>e = .returned (.tuple #[.string (ba (prS (pcOf c) (scOf v)).1),.int .i64 (prS (pcOf c) (scOf v)).2]) ∧ Below W.heap.size W w'):=fun W d u hb h1 h2 h3 h4=>by
  have:=sprint_any d u W h1 h2 (by rw [h4];exact hm) (prT_le h1) (hP.below hb) (hI.below hb)
  refine this.mono fun e w' h=>?_
  unfold SPrPost at h
  rw [h3,h4] at h;exact h
 have hpr0 : ∀ T e,prS (pcOf c) (scOf v) = (T,e) → (e ≠ 0 ∧ T = []) ∨ (e = 0 ∧ scV T = (pcOf c,scOf v,0,0) ∧ T.length ≤ 16384):=fun T e h=>by
  by_cases he : e = 0
  ·subst he
   have h0:=prS_chk h
   exact Or.inr ⟨rfl,print_read h0 (fit_of (by rw [chkP_of];exact h0)) (lenOk_of hc) hm.w h⟩
  ·exact Or.inl ⟨he,prS_err h he⟩
 obtain ⟨⟨T,er⟩,hpr⟩ : ∃ p,prS (pcOf c) (scOf v) = p:=⟨_,rfl⟩
 rw [hpr] at HPR
 have HC:=hpr0 T er hpr
 have HTB:=Lib.hid hT
 have HIB:=Lib.hid hI
 clear hpr hpr0 hc hv hm hT hP hI hW1
 have p0:=(HX1.out.oc).cell 0 _ rfl;have p1:=(HX1.out.oc).cell 1 _ rfl;have p2:=(HX1.out.oc).cell 2 _ rfl;have p3:=(HX1.out.oc).cell 3 _ rfl;have p4:=(HX1.out.oc).cell 4 _ rfl;have p5:=(HX1.out.oc).cell 5 _ rfl;have p6:=(HX1.out.oc).cell 6 _ rfl;have p7:=(HX1.out.oc).cell 7 _ rfl
 have q0:=(HX1.out.os).cell 0 _ rfl;have q1:=(HX1.out.os).cell 1 _ rfl;have q2:=(HX1.out.os).cell 2 _ rfl
 rcases HC with ⟨he,rfl⟩ | ⟨rfl,hs,hl⟩
 ·have n1 : (er != 0) = true:=by simp [he]
  clear he
  have hem : (ba []).toList.isEmpty = true:=by rw [ba_isEmpty];rfl
  go_enter Tryz.func6,Tryz.ntmps6
  go_upto_region 1 with fail
  rw [← HW1.out]
  go_wp2_with (first | (go_at_call 18;refine (HPR.out _ c v HX1.out.bel HX1.out.cok HX1.out.vok rfl rfl).mono ?_;rintro e W2 ⟨rfl,hb⟩;have HB2:=Lib.hid (bmore HX1.out.bel hb);clear hb) | (go_at_call 7;refine (HAW.out _ HB2.out).mono ?_;rintro e W3 ⟨rfl,hb⟩;have HB3:=Lib.hid (bmore HB2.out hb);clear hb))
  go_ret
  exact ⟨rfl,HB3.out⟩
 ·have HSP : Hid (∀ W,Below w.heap.size w W → Calls Tryz.prog 8 #[.string (ba T)] W fun e w'=>∃ (d : Cv) (u : Sv),e = .returned (.tuple #[.agg #[.int .i64 d.cats,.slice d.g.a d.g.l.length d.g.cap,.slice d.r.a d.r.l.length d.r.cap,.slice d.p.a d.p.l.length d.p.cap,.slice d.n.a d.n.l.length d.n.cap,.slice d.s.a d.s.l.length d.s.cap,.int .i64 d.gate,.int .i64 d.quota],.agg #[.slice u.ia u.im.length u.ic,.slice u.sa u.se.length u.sc,.slice u.na u.inp.length u.nc],.int .i64 0,.int .i64 0]) ∧ CfgOk w' d ∧ ScOk w' u ∧ pcOf d = pcOf c ∧ scOf u = scOf v ∧ Below W.heap.size W w'):=fun W hb=>by
   have:=sparse_any (ba T) (by rw [ba_size];unfold maxLen;omega) W (HTB.out.below hb) (HIB.out.below hb)
   rw [ba_data] at this
   refine this.mono fun e w' h=>?_
   unfold SpPost at h
   rw [hs] at h;exact h
  have hsz : (ba T).size ≤ 16384:=by rw [ba_size];exact hl
  have d1 : decide (((ba T).size : Int) ≤ 16384) = true:=decide_eq_true (by omega)
  have d1' : decide ((ba T).size ≤ 16384) = true:=decide_eq_true hsz
  have br:=ba_refl T
  clear hs hl
  generalize ba T = S at *
  go_enter Tryz.func6,Tryz.ntmps6
  go_upto_region 1 with fail
  rw [← HW1.out]
  go_upto_region 4 with (go_at_call 18;refine (HPR.out _ c v HX1.out.bel HX1.out.cok HX1.out.vok rfl rfl).mono ?_;rintro e W2 ⟨rfl,hb⟩;have HX2:=Lib.hid (HX1.out.more hb);clear hb)
  clear p0 p1 p2 p3 p4 p5 p6 p7 q0 q1 q2
  go_wp2_with fail
  refine (HSP.out _ HX2.out.bel).mono ?_;intro e W3 h3
  obtain ⟨d,u,rfl,ok3,vk3,hpd,hsu,b3⟩:=h3
  obtain ⟨W4,hW4⟩ : ∃ W4,W4 = (W3.alloc (.cells #[.int .i64 d.cats,.slice d.g.a d.g.l.length d.g.cap,.slice d.r.a d.r.l.length d.r.cap,.slice d.p.a d.p.l.length d.p.cap,.slice d.n.a d.n.l.length d.n.cap,.slice d.s.a d.s.l.length d.s.cap,.int .i64 d.gate,.int .i64 d.quota] 29)).alloc (.cells #[.slice u.ia u.im.length u.ic,.slice u.sa u.se.length u.sc,.slice u.na u.inp.length u.nc] 34):=⟨_,rfl⟩
  have HX4 : Hid (CS W3 W4 W3.heap.size d u):=by rw [hW4];exact cs_new W3 d u ok3 vk3
  have HXc:=Lib.hid ((HX2.out.more b3).more HX4.out.bel)
  have HPD:=Lib.hid hpd
  have HSU:=Lib.hid hsu
  have HW4:=Lib.hid hW4
  clear ok3 vk3 hpd hsu b3 hW4
  go_upto_region 5 with fail
  rw [← HW4.out]
  generalize W3.heap.size = x3 at HX4 ⊢
  have p0:=(HXc.out.oc).cell 0 _ rfl;have p1:=(HXc.out.oc).cell 1 _ rfl;have p2:=(HXc.out.oc).cell 2 _ rfl;have p3:=(HXc.out.oc).cell 3 _ rfl;have p4:=(HXc.out.oc).cell 4 _ rfl;have p5:=(HXc.out.oc).cell 5 _ rfl;have p6:=(HXc.out.oc).cell 6 _ rfl;have p7:=(HXc.out.oc).cell 7 _ rfl
  have q0:=(HXc.out.os).cell 0 _ rfl;have q1:=(HXc.out.os).cell 1 _ rfl;have q2:=(HXc.out.os).cell 2 _ rfl
  have r0:=(HX4.out.oc).cell 0 _ rfl;have r1:=(HX4.out.oc).cell 1 _ rfl;have r2:=(HX4.out.oc).cell 2 _ rfl;have r3:=(HX4.out.oc).cell 3 _ rfl;have r4:=(HX4.out.oc).cell 4 _ rfl;have r5:=(HX4.out.oc).cell 5 _ rfl;have r6:=(HX4.out.oc).cell 6 _ rfl;have r7:=(HX4.out.oc).cell 7 _ rfl
  have t0:=(HX4.out.os).cell 0 _ rfl;have t1:=(HX4.out.os).cell 1 _ rfl;have t2:=(HX4.out.os).cell 2 _ rfl
  have HSS:=Lib.hid (ssame_any W4 v u HXc.out.vok HX4.out.vok HSU.out.symm)
  have HAL : Hid (∀ W',Below W4.heap.size W4 W' → Calls Tryz.prog 10 #[.agg #[.int .i64 c.cats,.slice c.g.a c.g.l.length c.g.cap,.slice c.r.a c.r.l.length c.r.cap,.slice c.p.a c.p.l.length c.p.cap,.slice c.n.a c.n.l.length c.n.cap,.slice c.s.a c.s.l.length c.s.cap,.int .i64 c.gate,.int .i64 c.quota],.agg #[.int .i64 d.cats,.slice d.g.a d.g.l.length d.g.cap,.slice d.r.a d.r.l.length d.r.cap,.slice d.p.a d.p.l.length d.p.cap,.slice d.n.a d.n.l.length d.n.cap,.slice d.s.a d.s.l.length d.s.cap,.int .i64 d.gate,.int .i64 d.quota]] W' fun e w'=>e = .returned (.bool true) ∧ Below W'.heap.size W' w'):=fun W' hb=>alike_any W' c d (HXc.out.cok.below hb) (HX4.out.cok.below hb) HPD.out.symm
  go_upto_region 7 with (first | (go_at_call 11;refine HSS.out.mono ?_;rintro e W5 ⟨rfl,b5⟩;have HX4:=Lib.hid (HX4.out.more b5);have HXc:=Lib.hid (HXc.out.more b5);have HB5:=Lib.hid b5;clear b5 p0 p1 p2 p3 p4 p5 p6 p7 q0 q1 q2 r0 r1 r2 r3 r4 r5 r6 r7 t0 t1 t2;(have p0:=(HXc.out.oc).cell 0 _ rfl;have p1:=(HXc.out.oc).cell 1 _ rfl;have p2:=(HXc.out.oc).cell 2 _ rfl;have p3:=(HXc.out.oc).cell 3 _ rfl;have p4:=(HXc.out.oc).cell 4 _ rfl;have p5:=(HXc.out.oc).cell 5 _ rfl;have p6:=(HXc.out.oc).cell 6 _ rfl;have p7:=(HXc.out.oc).cell 7 _ rfl);(have r0:=(HX4.out.oc).cell 0 _ rfl;have r1:=(HX4.out.oc).cell 1 _ rfl;have r2:=(HX4.out.oc).cell 2 _ rfl;have r3:=(HX4.out.oc).cell 3 _ rfl;have r4:=(HX4.out.oc).cell 4 _ rfl;have r5:=(HX4.out.oc).cell 5 _ rfl;have r6:=(HX4.out.oc).cell 6 _ rfl;have r7:=(HX4.out.oc).cell 7 _ rfl)) | (go_at_call 10;refine (HAL.out _ HB5.out).mono ?_;rintro e W6 ⟨rfl,b6⟩;have HX4:=Lib.hid (HX4.out.more b6);have HXc:=Lib.hid (HXc.out.more b6);clear b6 p0 p1 p2 p3 p4 p5 p6 p7 r0 r1 r2 r3 r4 r5 r6 r7))
  have r0:=(HX4.out.oc).cell 0 _ rfl;have r1:=(HX4.out.oc).cell 1 _ rfl;have r2:=(HX4.out.oc).cell 2 _ rfl;have r3:=(HX4.out.oc).cell 3 _ rfl;have r4:=(HX4.out.oc).cell 4 _ rfl;have r5:=(HX4.out.oc).cell 5 _ rfl;have r6:=(HX4.out.oc).cell 6 _ rfl;have r7:=(HX4.out.oc).cell 7 _ rfl
  have t0:=(HX4.out.os).cell 0 _ rfl;have t1:=(HX4.out.os).cell 1 _ rfl;have t2:=(HX4.out.os).cell 2 _ rfl
  go_wp2_with (first | (go_at_call 18;refine (HPR.out _ d u HXc.out.bel HX4.out.cok HX4.out.vok HPD.out HSU.out).mono ?_;rintro e W7 ⟨rfl,hb⟩;have HB7:=Lib.hid (bmore HXc.out.bel hb);clear hb) | (go_at_call 7;refine (HAW.out _ HB7.out).mono ?_;rintro e W8 ⟨rfl,hb⟩;have HB8:=Lib.hid (bmore HB7.out hb);clear hb))
  go_ret
  exact ⟨rfl,HB8.out⟩
end Go.Proofs.YtoklonmiejdgmaaGreatDoor.Sp
