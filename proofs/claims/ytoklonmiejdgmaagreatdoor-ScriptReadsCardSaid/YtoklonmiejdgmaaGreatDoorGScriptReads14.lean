/- The reference's Parse of a script. -/
import Derived.Test.YtoklonmiejdgmaaGreatDoorGScriptReads10
import Derived.Test.YtoklonmiejdgmaaGreatDoorGScriptReads13
import Derived.Test.YtoklonmiejdgmaaGreatDoorGScriptReads5
import Derived.Test.YtoklonmiejdgmaaGreatDoorGScriptReads8
import Derived.Test.YtoklonmiejdgmaaGreatDoorGScriptReads0
import Derived.Test.YtoklonmiejdgmaaGreatDoorRows
import Derived.LaidSub
import Derived.Lib.LaidTab
import Derived.Deep.DeepHandedRow
namespace Go.Proofs.YtoklonmiejdgmaaGreatDoor
set_option linter.unusedVariables false
set_option linter.unusedSimpArgs false
set_option linter.unnecessarySimpa false
open Go.RowKit Go.Sort
set_option maxHeartbeats 4000000
set_option maxRecDepth 100000
set_option linter.unusedVariables false
theorem OS.more {B : Nat} {W W' : World} {v : Sv} (h : OS B v W) (hb : Below W.heap.size W W') : OS B v W':=
 ⟨h.im.below hb,fun x hx=>(h.row x hx).below hb,h.se.below hb,h.inp.below hb⟩
theorem OS.other {B : Nat} {W W' W'' : World} {b1 b2 : Nat} {v : Sv} {cs1 cs2 : List Value} (h : OS B v W) (ho : ObjAt W b1 29 cs1) (ho2 : ObjAt W b2 34 cs2) (hu : Upd b1 W W') (hu2 : Upd b2 W' W'') : ScOk W'' v:=
 have i1:=(h.im.upd hu (h.im.ne ho (by decide))).upd hu2 (h.im.ne ho2 (by decide))
 have s1:=(h.se.upd hu (h.se.ne ho (by decide))).upd hu2 (h.se.ne ho2 (by decide))
 have n1:=(h.inp.upd hu (h.inp.ne ho (by decide))).upd hu2 (h.inp.ne ho2 (by decide))
 ⟨i1.rd,i1.le,i1.capMax,fun x hx=>
  have r1:=((h.row x hx).upd hu ((h.row x hx).ne ho (by decide))).upd hu2 ((h.row x hx).ne ho2 (by decide))
  ⟨r1.rd,r1.le,r1.capMax⟩,s1.rd,s1.le,s1.capMax,n1.rd,n1.le,n1.capMax⟩
theorem rsparse_any (s : ByteArray) (hs : s.size ≤ maxLen) (w : World) : Calls Tryz.prog 9 #[.string s] w (SpPost s.data.toList w):=by
 obtain ⟨l,hl⟩ : ∃ l,l = s.data.toList:=⟨_,rfl⟩
 have hsl : l.length = s.size:=by rw [hl,ba_len]
 rw [← hl]
 obtain ⟨w0,hw0⟩ : ∃ w0,w0 = w.alloc (.cells #[.int .i64 0,.slice none 0 0,.slice none 0 0,.slice none 0 0,.slice none 0 0,.slice none 0 0,.int .i64 0,.int .i64 0] 29):=⟨_,rfl⟩
 obtain ⟨w1,hw1⟩ : ∃ w1,w1 = w0.alloc (.cells #[.slice none 0 0,.slice none 0 0,.slice none 0 0] 34):=⟨_,rfl⟩
 have HO0 : Hid (ObjAt w1 w.heap.size 29 #[.int .i64 0,.slice none 0 0,.slice none 0 0,.slice none 0 0,.slice none 0 0,.slice none 0 0,.int .i64 0,.int .i64 0].toList):=by rw [hw1];exact ObjAt.below (by rw [hw0];exact ObjAt.new w _ _) ((Below.refl _ _).alloc (Nat.le_refl _) _)
 have hz : w0.heap.size = w.heap.size + 1:=by rw [hw0];simp
 have HO1 : Hid (ObjAt w1 (w.heap.size + 1) 34 #[.slice none 0 0,.slice none 0 0,.slice none 0 0].toList):=by rw [← hz,hw1];exact ObjAt.new w0 _ _
 have HB1 : Hid (Below w.heap.size w w1):=by rw [hw1,hw0];exact ((Below.refl _ _).alloc (Nat.le_refl _) _).alloc (by simp) _
 have HW0:=Lib.hid hw0
 have HW1:=Lib.hid hw1
 have HZ0:=Lib.hid hz
 obtain ⟨P,hP⟩ : ∃ P,P = SpPost l w:=⟨_,rfl⟩
 have HZ : Hid (∀ e at_ w',scV l = (pcZ,sc0,e,at_) → Below w.heap.size w w' → P (.returned (.tuple #[.agg #[.int .i64 0,.slice none 0 0,.slice none 0 0,.slice none 0 0,.slice none 0 0,.slice none 0 0,.int .i64 0,.int .i64 0],.agg #[.slice none 0 0,.slice none 0 0,.slice none 0 0],.int .i64 e,.int .i64 at_])) w'):=fun e at_ w' h hb=>by rw [hP];exact sp_zero h hb
 have HG : Hid (∀ c v w',scV l = (pcOf c,scOf v,0,0) → CfgOk w' c → ScOk w' v → Below w.heap.size w w' → P (.returned (.tuple #[(.agg #[.int .i64 c.cats,.slice c.g.a c.g.l.length c.g.cap,.slice c.r.a c.r.l.length c.r.cap,.slice c.p.a c.p.l.length c.p.cap,.slice c.n.a c.n.l.length c.n.cap,.slice c.s.a c.s.l.length c.s.cap,.int .i64 c.gate,.int .i64 c.quota]),(.agg #[.slice v.ia v.im.length v.ic,.slice v.sa v.se.length v.sc,.slice v.na v.inp.length v.nc]),.int .i64 0,.int .i64 0])) w'):=fun c v w' h hc hn hb=>by rw [hP];exact sp_good h hc hn hb
 rw [← hP]
 clear hP hw0 hw1 hz
 unfold maxLen at hs
 by_cases h16 : 16384 < s.size
 ·have d1 : decide ((s.size : Int) > 16384) = true:=decide_eq_true (by omega)
  have d1' : decide (16384 < s.size) = true:=decide_eq_true h16
  have HZ:=fun w' h=>Lib.hid (HZ.out 10 0 w' (scV_long (by omega)) h)
  clear h16 hl hsl HG
  go_enter Tryz.func9,Tryz.ntmps9
  go_upto_region 1 with fail
  rw [← HW0.out,← HW1.out]
  have hO0:=HO0.out
  have hO1:=HO1.out
  have s6:=hO0.lt
  have s7:=hO1.lt
  have a0:=(hO0).cell 0 _ rfl;have a1:=(hO0).cell 1 _ rfl;have a2:=(hO0).cell 2 _ rfl;have a3:=(hO0).cell 3 _ rfl;have a4:=(hO0).cell 4 _ rfl;have a5:=(hO0).cell 5 _ rfl;have a6:=(hO0).cell 6 _ rfl;have a7:=(hO0).cell 7 _ rfl;have g0:=(hO0).free 0;have g1:=(hO0).free 1;have g2:=(hO0).free 2;have g3:=(hO0).free 3;have g4:=(hO0).free 4;have g5:=(hO0).free 5;have g6:=(hO0).free 6;have g7:=(hO0).free 7
  have b0:=(hO1).cell 0 _ rfl;have b1:=(hO1).cell 1 _ rfl;have b2:=(hO1).cell 2 _ rfl;have p0:=(hO1).free 0;have p1:=(hO1).free 1;have p2:=(hO1).free 2
  clear hO0 hO1
  go_wp2_with fail
  (refine bodyPost_ret (v:=.tuple #[.agg #[.int .i64 0,.slice none 0 0,.slice none 0 0,.slice none 0 0,.slice none 0 0,.slice none 0 0,.int .i64 0,.int .i64 0],.agg #[.slice none 0 0,.slice none 0 0,.slice none 0 0],.int .i64 10,.int .i64 0]) (by simp [results,Tryz.results9,go_sem,a0,a1,a2,a3,a4,a5,a6,a7,b0,b1,b2,s6,s7]) rfl ?_)
  exact (HZ _ (((((((((((HB1.out.setCell (Nat.le_refl _) _).setCell (Nat.le_refl _) _).setCell (Nat.le_refl _) _).setCell (Nat.le_refl _) _).setCell (Nat.le_refl _) _).setCell (Nat.le_refl _) _).setCell (Nat.le_refl _) _).setCell (Nat.le_refl _) _).setCell (Nat.le_succ _) _).setCell (Nat.le_succ _) _).setCell (Nat.le_succ _) _)).out
 ·have d1 : decide ((s.size : Int) > 16384) = false:=decide_eq_false (by omega)
  have d1' : decide (16384 < s.size) = false:=decide_eq_false h16
  have HLN:=Lib.hid (rlines_any s (by omega) w1)
  rw [← hl] at HLN
  cases hb : lsB l
  ·have HZ:=fun w' h=>Lib.hid (HZ.out 6 ((l.count 10 : Int) + 1) w' (scV_open (by omega) hb) h)
   have HLS : Hid (∀ e w',LsPost l w1 e w' → e = .returned (.tuple #[.slice none 0 0,.bool false]) ∧ Below w1.heap.size w1 w'):=fun e w' h=>⟨h.2.1 hb,h.2.2⟩
   have HCT : Hid (∀ k (h : k < s.size),(l.take (k + 1)).count 10 = (l.take k).count 10 + if s[k] = 10 then 1 else 0):=fun k h=>by rw [hl];exact count_take s k h
   have HTK : Hid (l.take s.size = l):=List.take_of_length_le (by omega)
   have HT0 : Hid ((l.take 0).count 10 = 0):=by rw [Hid,List.take_zero];rfl
   have h17 : s.size ≤ 16384:=by omega
   clear h16 hl hsl HG hb
   go_enter Tryz.func9,Tryz.ntmps9
   go_upto_region 1 with fail
   rw [← HW0.out,← HW1.out]
   go_wp2_with fail
   refine HLN.out.mono ?_;intro e w2 h2
   obtain ⟨rfl,hb2⟩:=HLS.out _ _ h2
   have HB2:=Lib.hid hb2
   clear h2 hb2
   go_upto_region 7 with fail
   go_loop [8,9] (fun n i=>∃ k : Nat,k ≤ s.size ∧ i = .int .i64 k ∧ n = .int .i64 ((l.take k).count 10 + 1 : Nat)) (fun _ i=>s.size - (intOf i).toNat)
   case atStart=>exact ⟨0,by omega,rfl,by rw [HT0.out];rfl⟩
   case round=>
    obtain ⟨k,hk,rfl,rfl⟩:=hrel
    by_cases hlt : k < s.size
    ·have HC:=Lib.hid (HCT.out k hlt)
     have hcl : (l.take k).count 10 ≤ k:=Nat.le_trans List.count_le_length (by rw [List.length_take];omega)
     obtain ⟨m,hm⟩ : ∃ m,m = (l.take k).count 10:=⟨_,rfl⟩
     rw [← hm] at hcl HC
     have HM:=Lib.hid hm
     have w1 : IntKind.i64.wrap ((k : Int) + 1) = (k : Int) + 1:=by rw [IntKind.wrap_i64];omega
     have w2 : IntKind.i64.wrap (((m + 1 : Nat) : Int) + 1) = ((m + 1 : Nat) : Int) + 1:=by rw [IntKind.wrap_i64];omega
     have w2' : IntKind.i64.wrap ((m : Int) + 1 + 1) = ((m : Int) + 1 + 1):=by rw [IntKind.wrap_i64];omega
     rw [← hm]
     clear hm
     by_cases h10 : s[k].toNat = 10
     ·have hb : s[k] = 10:=by rw [← UInt8.toNat_inj];exact h10
      have HC2 : Hid ((l.take (k + 1)).count 10 = m + 1):=by rw [Hid,HC.out,if_pos hb]
      have dn : ((s[k].toNat : Int) == 10) = true:=by simp [h10]
      clear hb h10 HC
      go_wp2_with fail
      go_round
      case rel=>exact ⟨k + 1,by omega,by go_num,by rw [HC2.out];go_num⟩
      case measure=>simp [intOf];omega
     ·have hb : s[k] ≠ 10:=fun e=>h10 (by rw [e];rfl)
      have HC2 : Hid ((l.take (k + 1)).count 10 = m):=by rw [Hid,HC.out,if_neg hb];rfl
      have dn : ((s[k].toNat : Int) == 10) = false:=by rw [beq_eq_false_iff_ne];omega
      clear hb h10 HC
      go_wp2_with fail
      go_round
      case rel=>exact ⟨k + 1,by omega,by go_num,by rw [HC2.out]⟩
      case measure=>simp [intOf];omega
    ·obtain rfl : k = s.size:=by omega
     rw [HTK.out]
     have hO0:=HO0.out.below HB2.out
     have hO1:=HO1.out.below HB2.out
     have s6:=hO0.lt
     have s7:=hO1.lt
     have a0:=(hO0).cell 0 _ rfl;have a1:=(hO0).cell 1 _ rfl;have a2:=(hO0).cell 2 _ rfl;have a3:=(hO0).cell 3 _ rfl;have a4:=(hO0).cell 4 _ rfl;have a5:=(hO0).cell 5 _ rfl;have a6:=(hO0).cell 6 _ rfl;have a7:=(hO0).cell 7 _ rfl;have g0:=(hO0).free 0;have g1:=(hO0).free 1;have g2:=(hO0).free 2;have g3:=(hO0).free 3;have g4:=(hO0).free 4;have g5:=(hO0).free 5;have g6:=(hO0).free 6;have g7:=(hO0).free 7
     have b0:=(hO1).cell 0 _ rfl;have b1:=(hO1).cell 1 _ rfl;have b2:=(hO1).cell 2 _ rfl;have p0:=(hO1).free 0;have p1:=(hO1).free 1;have p2:=(hO1).free 2
     clear hO0 hO1 HCT
     go_wp2_with fail
     (refine bodyPost_ret (v:=.tuple #[.agg #[.int .i64 0,.slice none 0 0,.slice none 0 0,.slice none 0 0,.slice none 0 0,.slice none 0 0,.int .i64 0,.int .i64 0],.agg #[.slice none 0 0,.slice none 0 0,.slice none 0 0],.int .i64 6,.int .i64 ((l.count 10 : Int) + 1)]) (by simp [results,Tryz.results9,go_sem,a0,a1,a2,a3,a4,a5,a6,a7,b0,b1,b2,s6,s7]) rfl ?_)
     exact (HZ _ ((((((((((((bmore HB1.out HB2.out).setCell (Nat.le_refl _) _).setCell (Nat.le_refl _) _).setCell (Nat.le_refl _) _).setCell (Nat.le_refl _) _).setCell (Nat.le_refl _) _).setCell (Nat.le_refl _) _).setCell (Nat.le_refl _) _).setCell (Nat.le_refl _) _).setCell (Nat.le_succ _) _).setCell (Nat.le_succ _) _).setCell (Nat.le_succ _) _)).out
  ·obtain ⟨L,hL⟩ : ∃ L,L = lsL l:=⟨_,rfl⟩
   have HLS : Hid (∀ e w',LsPost l w1 e w' → ∃ a cap,e = .returned (.tuple #[.slice a L.length cap,.bool true]) ∧ RdW w' a cap L ∧ Below w1.heap.size w1 w'):=fun e w' h=>by
    obtain ⟨a,cap,h1,h2⟩:=h.1 hb
    rw [hL];exact ⟨a,cap,h1,h2,h.2.2⟩
   have HSC : Hid (scV l = scR L):=by rw [hL];exact scV_lines (by omega) hb
   have hjl : (joinT L).length ≤ 16384:=by rw [hL,lns_join hb];omega
   have HSM : Hid (∀ x ∈ L,x.length ≤ 16384):=fun x hx=>by rw [hL] at hx;have:=lsL_row x hx;omega
   have hll : L.length ≤ 16385:=by
    have h1:=lnsL_len l
    unfold lnsL at h1
    rw [hb,if_pos rfl,← hL] at h1;omega
   clear h16 hl hb hL
   go_enter Tryz.func9,Tryz.ntmps9
   go_upto_region 1 with fail
   rw [← HW0.out,← HW1.out]
   go_upto_region 3 with fail
   go_wp2_with fail
   refine HLN.out.mono ?_;intro e w2 h2
   obtain ⟨La,Lc,rfl,hr2,hb2⟩:=HLS.out _ _ h2
   have HB2:=Lib.hid (bmore HB1.out hb2)
   have HB2':=Lib.hid hb2
   have HR2:=Lib.hid hr2
   have hle:=hr2.le
   have hmx:=hr2.mx
   unfold maxLen at hmx
   have HO0:=Lib.hid (HO0.out.below hb2)
   have HO1:=Lib.hid (HO1.out.below hb2)
   clear h2 hb2 hr2 HLN HLS
   go_upto_region 13 with fail
   go_loopw [10] (fun x wr=>∃ k : Nat,k ≤ L.length ∧ x = .int .i64 k ∧ (∀ m,m < k → rankS (L.getD m []) = -1) ∧ Below w2.heap.size w2 wr) (fun x _=>L.length - (intOf x).toNat)
   case atStart=>exact ⟨0,by omega,rfl,(fun m h=>by omega),Below.refl _ _⟩
   case round=>
    obtain ⟨k,hk,rfl,hn,hbe⟩:=hrel
    have HNO:=Lib.hid hn
    have HBE:=Lib.hid hbe
    clear hn hbe
    have wk : IntKind.i64.wrap ((k : Int) + 1) = (k : Int) + 1:=by rw [IntKind.wrap_i64];omega
    by_cases hgo : k < L.length ∧ rankS (L.getD k []) = -1
    ·obtain ⟨hlt,hrk⟩:=hgo
     obtain ⟨g,o,rfl,hg,hc⟩:=HR2.out.at_ k hlt
     have hcr : wr.cell? ⟨g,o + k,none⟩ = some (.string (ba L[k])):=by rw [HBE.out.cell (p:=⟨g,o + k,none⟩) hg];exact hc k hlt
     obtain ⟨x,hx⟩ : ∃ x,x = L[k]:=⟨_,rfl⟩
     rw [← hx] at hcr
     have hxd : L.getD k [] = x:=by rw [List.getD_eq_getElem?_getD,List.getElem?_eq_getElem hlt,hx];rfl
     have HN2 : Hid (∀ m,m < k + 1 → rankS (L.getD m []) = -1):=fun m h2=>by
      by_cases e : m = k
      ·subst e;exact hrk
      ·exact HNO.out m (by omega)
     have d2 : decide ((k : Int) < (L.length : Int)) = true:=decide_eq_true (by omega)
     have d2' : decide (k < L.length) = true:=decide_eq_true hlt
     have HRK:=fun W=>Lib.hid (srank_any x (by rw [hx];have:=HSM.out _ (List.getElem_mem hlt);omega) W)
     have HRS : Hid (∀ W e w',RkPost x W e w' → e = .returned (.int .i64 (-1)) ∧ Below W.heap.size W w'):=fun W e w' h=>by rw [← hrk,hxd];exact h
     clear hc hx hxd hrk
     go_wp2_with (go_at_call 27;refine ((HRK _).out).mono ?_;intro e W2 hp;obtain ⟨rfl,hb⟩:=HRS.out _ _ _ hp;have HB3:=Lib.hid (bmore HBE.out hb);clear hp hb)
     go_roundw
     case rel=>exact ⟨k + 1,by omega,by go_num,HN2.out,HB3.out⟩
     case measure=>simp [intOf];omega
    ·have HFR : Hid (fromS L = k):=fromS_eq HNO.out hk (by omega)
     obtain ⟨tx,htx⟩ : ∃ tx,tx = joinT (L.take k):=⟨_,rfl⟩
     have htl : tx.length ≤ 16384:=by rw [htx];have:=joinT_take L k;omega
     have hkl : (L.take k).length = k:=by rw [List.length_take];omega
     have HTX : Hid (∀ W',Below w2.heap.size w2 W' → Calls Tryz.prog 29 #[.slice La k Lc] W' fun e w'=>e = .returned (.string (ba tx)) ∧ w' = W'):=fun W' hb=>by
      have:=rjoin_any La Lc (L.take k) W' ((rd_take HR2.out k hk).below hb) (by rw [← htx];omega)
      rw [hkl,← htx] at this;exact this
     have HPP : Hid (∀ W',Calls Tryz.prog 28 #[.string (ba tx)] W' (PsPostN tx W')):=fun W'=>by
      have:=rparse_new (ba tx) (by rw [ba_size];unfold maxLen;omega) W'
      rw [ba_data] at this;exact this
     obtain ⟨pe,hpe⟩ : ∃ x,Hid (x = (psV tx).2.1):=⟨_,Lib.hid rfl⟩
     obtain ⟨pa,hpa⟩ : ∃ x,Hid (x = (psV tx).2.2):=⟨_,Lib.hid rfl⟩
     obtain ⟨pc,hpc⟩ : ∃ x,Hid (x = (psV tx).1):=⟨_,Lib.hid rfl⟩
     have HPS : Hid (∀ W' e w',PsPostN tx W' e w' → ∃ c : Cv,NewC W'.heap.size c ∧ e = .returned (.tuple #[(.agg #[.int .i64 c.cats,.slice c.g.a c.g.l.length c.g.cap,.slice c.r.a c.r.l.length c.r.cap,.slice c.p.a c.p.l.length c.p.cap,.slice c.n.a c.n.l.length c.n.cap,.slice c.s.a c.s.l.length c.s.cap,.int .i64 c.gate,.int .i64 c.quota]),.int .i64 pe,.int .i64 pa]) ∧ CfgOk w' c ∧ pcOf c = pc ∧ Below W'.heap.size W' w'):=fun W' e w' h=>by rw [hpe.out,hpa.out,hpc.out];exact h
     have HSR : Hid (scV l = if pe ≠ 0 then (pcZ,sc0,pe,pa) else if (restS L k 0 sc0).2.1 ≠ 0 then (pcZ,sc0,(restS L k 0 sc0).2.1,(restS L k 0 sc0).2.2) else (pc,(restS L k 0 sc0).1,0,0)):=by
      rw [Hid,HSC.out,scR,HFR.out,← htx,runS_rest,← hpe.out,← hpa.out,← hpc.out]
     obtain ⟨F,hF⟩ : ∃ F,F = restS L k 0 sc0:=⟨_,rfl⟩
     rw [← hF] at HSR
     have HF:=Lib.hid hF
     have hkc : k ≤ Lc:=by omega
     have k1 : (k : Int) ≤ (Lc : Int):=by omega
     have HPA : Hid (∀ W6,Below w2.heap.size w2 W6 → Calls Tryz.prog 30 #[.slice La L.length Lc,.int .i64 k] W6 (RrPost W6 F)):=fun W6 hb=>by
      rw [hF]
      exact rrest_any (HR2.out.below hb) k hk (by omega) (by omega) (fun x hx=>by have:=HSM.out x hx;omega)
     clear hF htx htl hkl
     by_cases hlt : k < L.length
     ·obtain ⟨g,o,rfl,hg,hc⟩:=HR2.out.at_ k hlt
      have hcr : wr.cell? ⟨g,o + k,none⟩ = some (.string (ba L[k])):=by rw [HBE.out.cell (p:=⟨g,o + k,none⟩) hg];exact hc k hlt
      obtain ⟨x,hx⟩ : ∃ x,x = L[k]:=⟨_,rfl⟩
      rw [← hx] at hcr
      have hxd : L.getD k [] = x:=by rw [List.getD_eq_getElem?_getD,List.getElem?_eq_getElem hlt,hx];rfl
      have d2 : decide ((k : Int) < (L.length : Int)) = true:=decide_eq_true (by omega)
      have d2' : decide (k < L.length) = true:=decide_eq_true hlt
      have HRK:=fun W=>Lib.hid (srank_any x (by rw [hx];have:=HSM.out _ (List.getElem_mem hlt);omega) W)
      obtain ⟨rk,hrk⟩ : ∃ z,z = rankS x:=⟨_,rfl⟩
      have hr1 : rk ≠ -1:=fun e=>hgo ⟨hlt,by rw [hxd,← hrk,e]⟩
      have hr2 : ¬ rk < 0:=by
       rcases rankS_cases x with h | ⟨_,h⟩
       ·exact absurd (hrk.trans h) hr1
       ·omega
      have z1 : decide (rk < 0) = false:=decide_eq_false hr2
      have HRS : Hid (∀ W e w',RkPost x W e w' → e = .returned (.int .i64 rk) ∧ Below W.heap.size W w'):=fun W e w' h=>by rw [hrk];exact h
      clear hc hx hxd hrk hr1 hr2 hgo
      go_upto_region 15 with (go_at_call 27;refine ((HRK _).out).mono ?_;intro e W2 hp;obtain ⟨rfl,hb⟩:=HRS.out _ _ _ hp;have HB3:=Lib.hid (bmore HBE.out hb);clear hp hb)
      go_upto_region 16 with (first | (go_at_call 29;refine (HTX.out _ HB3.out).mono ?_;intro e W4 hp;obtain ⟨rfl,hw4⟩:=hp;have HB4 : Hid (Below w2.heap.size w2 W4):=hw4 ▸ HB3.out;clear hw4) | (go_at_call 28;refine (HPP.out _).mono ?_;intro e W5 hp;obtain ⟨c,hnc,rfl,hok,hpcc,hb5⟩:=HPS.out _ _ _ hp;have HB5:=Lib.hid (bmore HB4.out hb5);have HNC:=Lib.hid hnc;have HOK:=Lib.hid hok;have HPC:=Lib.hid hpcc;have HSZ:=Lib.hid hb5.size;clear hp hnc hok hpcc hb5))
      obtain ⟨W6,hW6⟩ : ∃ W6,W6 = W5.alloc (.cells #[.int .i64 c.cats,.slice c.g.a c.g.l.length c.g.cap,.slice c.r.a c.r.l.length c.r.cap,.slice c.p.a c.p.l.length c.p.cap,.slice c.n.a c.n.l.length c.n.cap,.slice c.s.a c.s.l.length c.s.cap,.int .i64 c.gate,.int .i64 c.quota] 29):=⟨_,rfl⟩
      rw [← hW6]
      have HO9 : Hid (ObjAt W6 W5.heap.size 29 #[.int .i64 c.cats,.slice c.g.a c.g.l.length c.g.cap,.slice c.r.a c.r.l.length c.r.cap,.slice c.p.a c.p.l.length c.p.cap,.slice c.n.a c.n.l.length c.n.cap,.slice c.s.a c.s.l.length c.s.cap,.int .i64 c.gate,.int .i64 c.quota].toList):=by rw [hW6];exact ObjAt.new W5 _ _
      have hb6 : Below W5.heap.size W5 W6:=by rw [hW6];exact (Below.refl _ _).alloc (Nat.le_refl _) _
      have HB6:=Lib.hid (bmore HB5.out hb6)
      have HOK:=Lib.hid (HOK.out.below hb6)
      have HNX : Hid (w.heap.size + 1 < W4.heap.size):=Nat.lt_of_lt_of_le HO1.out.lt HB4.out.size
      have HSZ6 : Hid (W4.heap.size < W6.heap.size):=Nat.lt_of_le_of_lt HSZ.out (by rw [hW6];simp)
      have HS56 : Hid (W5.heap.size < W6.heap.size):=by rw [Hid,hW6];simp
      clear hW6 hb6
      by_cases hp0 : pe = 0
      ·have z9 : (pe != 0) = false:=by simp [hp0]
       have HSR : Hid (scV l = if F.2.1 ≠ 0 then (pcZ,sc0,F.2.1,F.2.2) else (pc,F.1,0,0)):=by rw [Hid,HSR.out,if_neg (by simp [hp0])]
       clear hp0
       by_cases hf0 : F.2.1 = 0
       ·have HSR : Hid (scV l = (pc,F.1,0,0)):=by rw [Hid,HSR.out,if_neg (by simp [hf0])]
        have HRP : Hid (∀ e w',RrPost W6 F e w' → Below W6.heap.size W6 w' ∧ ∃ v : Sv,scOf v = F.1 ∧ OS W6.heap.size v w' ∧ e = .returned (.tuple #[(.agg #[.slice v.ia v.im.length v.ic,.slice v.sa v.se.length v.sc,.slice v.na v.inp.length v.nc]),.int .i64 0,.int .i64 0])):=fun e w' h=>⟨h.1,h.2.1 hf0⟩
        clear hf0
        go_upto_region 19 with (go_at_call 30;refine (HPA.out _ HB6.out).mono ?_;intro e W7 h7;obtain ⟨hb7,v,hv,hos,rfl⟩:=HRP.out _ _ h7;have HV:=Lib.hid hv;have HOS:=Lib.hid hos;have HB7:=Lib.hid hb7;clear h7 hv hos hb7)
        obtain ⟨W8,hW8⟩ : ∃ W8,W8 = W7.alloc (.cells #[.slice v.ia v.im.length v.ic,.slice v.sa v.se.length v.sc,.slice v.na v.inp.length v.nc] 34):=⟨_,rfl⟩
        rw [← hW8]
        have hOA : ObjAt W8 W7.heap.size 34 [.slice v.ia v.im.length v.ic,.slice v.sa v.se.length v.sc,.slice v.na v.inp.length v.nc]:=by rw [hW8];exact ObjAt.new W7 _ _
        have hb8 : Below W7.heap.size W7 W8:=by rw [hW8];exact (Below.refl _ _).alloc (Nat.le_refl _) _
        have HB8:=Lib.hid (bmore HB7.out hb8)
        have HOS:=Lib.hid (HOS.out.more hb8)
        have hsz:=HB7.out.size
        clear hW8 hb8
        have hO0:=HO0.out.below (bmore HB6.out HB8.out)
        have hO1:=HO1.out.below (bmore HB6.out HB8.out)
        have hO9:=HO9.out.below HB8.out
        have HP0:=Lib.hid hO0
        have HP1:=Lib.hid hO1
        have s6:=hO0.lt
        have s7:=hO1.lt
        have a0:=(hO0).cell 0 _ rfl;have a1:=(hO0).cell 1 _ rfl;have a2:=(hO0).cell 2 _ rfl;have a3:=(hO0).cell 3 _ rfl;have a4:=(hO0).cell 4 _ rfl;have a5:=(hO0).cell 5 _ rfl;have a6:=(hO0).cell 6 _ rfl;have a7:=(hO0).cell 7 _ rfl;have g0:=(hO0).free 0;have g1:=(hO0).free 1;have g2:=(hO0).free 2;have g3:=(hO0).free 3;have g4:=(hO0).free 4;have g5:=(hO0).free 5;have g6:=(hO0).free 6;have g7:=(hO0).free 7
        have b0:=(hO1).cell 0 _ rfl;have b1:=(hO1).cell 1 _ rfl;have b2:=(hO1).cell 2 _ rfl;have p0:=(hO1).free 0;have p1:=(hO1).free 1;have p2:=(hO1).free 2
        have n0:=hO9.cell 0 _ rfl
        have n1:=hO9.cell 1 _ rfl
        have n2:=hO9.cell 2 _ rfl
        have n3:=hO9.cell 3 _ rfl
        have n4:=hO9.cell 4 _ rfl
        have n5:=hO9.cell 5 _ rfl
        have n6:=hO9.cell 6 _ rfl
        have n7:=hO9.cell 7 _ rfl
        have r3:=hOA.cell 0 _ rfl
        have r4:=hOA.cell 1 _ rfl
        have r5:=hOA.cell 2 _ rfl
        have q1 : ¬ W7.heap.size = w.heap.size:=by have:=HNX.out;have:=HSZ6.out;omega
        have q2 : ¬ w.heap.size = W7.heap.size:=fun e=>q1 e.symm
        have q3 : ¬ W7.heap.size = w.heap.size + 1:=by have:=HNX.out;have:=HSZ6.out;omega
        have q4 : ¬ w.heap.size + 1 = W7.heap.size:=fun e=>q3 e.symm
        have q5 : ¬ W5.heap.size = w.heap.size:=by have:=HNX.out;have:=HSZ.out;omega
        have q6 : ¬ w.heap.size = W5.heap.size:=fun e=>q5 e.symm
        have q7 : ¬ W5.heap.size = w.heap.size + 1:=by have:=HNX.out;have:=HSZ.out;omega
        have q8 : ¬ w.heap.size + 1 = W5.heap.size:=fun e=>q7 e.symm
        clear hO0 hO1 hO9 hOA hsz
        go_wp2_with fail
        go_region
        all_goals
         go_wp2_with fail
         refine bodyPost_ret (v:=.tuple #[(.agg #[.int .i64 c.cats,.slice c.g.a c.g.l.length c.g.cap,.slice c.r.a c.r.l.length c.r.cap,.slice c.p.a c.p.l.length c.p.cap,.slice c.n.a c.n.l.length c.n.cap,.slice c.s.a c.s.l.length c.s.cap,.int .i64 c.gate,.int .i64 c.quota]),(.agg #[.slice v.ia v.im.length v.ic,.slice v.sa v.se.length v.sc,.slice v.na v.inp.length v.nc]),.int .i64 0,.int .i64 0]) (by simp [results,Tryz.results9,go_sem,a0,a1,a2,a3,a4,a5,a6,a7,b0,b1,b2,s6,s7]) rfl ?_
         refine HG.out c v _ (by rw [HSR.out,HPC.out,HV.out]) ?_ ?_ ((((((((((((bmore HB2.out (bmore HB6.out HB8.out)).setCell (Nat.le_refl _) _).setCell (Nat.le_refl _) _).setCell (Nat.le_refl _) _).setCell (Nat.le_refl _) _).setCell (Nat.le_refl _) _).setCell (Nat.le_refl _) _).setCell (Nat.le_refl _) _).setCell (Nat.le_refl _) _).setCell (Nat.le_succ _) _).setCell (Nat.le_succ _) _).setCell (Nat.le_succ _) _).drew
         ·exact cfg_other (HOK.out.below HB8.out) HNC.out (by have:=HNX.out;omega) HNX.out (upd_put (upd_put (upd_put (upd_put (upd_put (upd_put (upd_put (upd_put (Upd.refl _ _))))))))) (upd_put (upd_put (upd_put (Upd.refl _ _)))).drew
         ·exact HOS.out.other HP0.out HP1.out (upd_put (upd_put (upd_put (upd_put (upd_put (upd_put (upd_put (upd_put (Upd.refl _ _))))))))) (upd_put (upd_put (upd_put (Upd.refl _ _)))).drew
       ·have HZ:=fun w' h=>Lib.hid (HZ.out F.2.1 F.2.2 w' (by rw [HSR.out,if_pos hf0]) h)
        have HRP : Hid (∀ e w',RrPost W6 F e w' → Below W6.heap.size W6 w' ∧ ∃ v : Sv,e = .returned (.tuple #[(.agg #[.slice v.ia v.im.length v.ic,.slice v.sa v.se.length v.sc,.slice v.na v.inp.length v.nc]),.int .i64 F.2.1,.int .i64 F.2.2])):=fun e w' h=>⟨h.1,h.2.2 hf0⟩
        have z8 : (F.2.1 != 0) = true:=by simp [hf0]
        clear hf0
        go_upto_region 19 with (go_at_call 30;refine (HPA.out _ HB6.out).mono ?_;intro e W7 h7;obtain ⟨hb7,v,rfl⟩:=HRP.out _ _ h7;have HB7:=Lib.hid hb7;clear h7 hb7)
        obtain ⟨W8,hW8⟩ : ∃ W8,W8 = W7.alloc (.cells #[.slice v.ia v.im.length v.ic,.slice v.sa v.se.length v.sc,.slice v.na v.inp.length v.nc] 34):=⟨_,rfl⟩
        rw [← hW8]
        have hb8 : Below W7.heap.size W7 W8:=by rw [hW8];exact (Below.refl _ _).alloc (Nat.le_refl _) _
        have HB8:=Lib.hid (bmore HB7.out hb8)
        clear hW8 hb8
        have hO0:=HO0.out.below (bmore HB6.out HB8.out)
        have hO1:=HO1.out.below (bmore HB6.out HB8.out)
        have s6:=hO0.lt
        have s7:=hO1.lt
        have a0:=(hO0).cell 0 _ rfl;have a1:=(hO0).cell 1 _ rfl;have a2:=(hO0).cell 2 _ rfl;have a3:=(hO0).cell 3 _ rfl;have a4:=(hO0).cell 4 _ rfl;have a5:=(hO0).cell 5 _ rfl;have a6:=(hO0).cell 6 _ rfl;have a7:=(hO0).cell 7 _ rfl;have g0:=(hO0).free 0;have g1:=(hO0).free 1;have g2:=(hO0).free 2;have g3:=(hO0).free 3;have g4:=(hO0).free 4;have g5:=(hO0).free 5;have g6:=(hO0).free 6;have g7:=(hO0).free 7
        have b0:=(hO1).cell 0 _ rfl;have b1:=(hO1).cell 1 _ rfl;have b2:=(hO1).cell 2 _ rfl;have p0:=(hO1).free 0;have p1:=(hO1).free 1;have p2:=(hO1).free 2
        clear hO0 hO1
        go_wp2_with fail
        (refine bodyPost_ret (v:=.tuple #[.agg #[.int .i64 0,.slice none 0 0,.slice none 0 0,.slice none 0 0,.slice none 0 0,.slice none 0 0,.int .i64 0,.int .i64 0],.agg #[.slice none 0 0,.slice none 0 0,.slice none 0 0],.int .i64 F.2.1,.int .i64 F.2.2]) (by simp [results,Tryz.results9,go_sem,a0,a1,a2,a3,a4,a5,a6,a7,b0,b1,b2,s6,s7]) rfl ?_)
        exact (HZ _ ((((((((((((bmore HB2.out (bmore HB6.out HB8.out)).setCell (Nat.le_refl _) _).setCell (Nat.le_refl _) _).setCell (Nat.le_refl _) _).setCell (Nat.le_refl _) _).setCell (Nat.le_refl _) _).setCell (Nat.le_refl _) _).setCell (Nat.le_refl _) _).setCell (Nat.le_refl _) _).setCell (Nat.le_succ _) _).setCell (Nat.le_succ _) _).setCell (Nat.le_succ _) _)).out
      ·have z9 : (pe != 0) = true:=by simp [hp0]
       have HZ:=fun w' h=>Lib.hid (HZ.out pe pa w' (by rw [HSR.out,if_pos hp0]) h)
       have hO0:=HO0.out.below HB6.out
       have hO1:=HO1.out.below HB6.out
       have s6:=hO0.lt
       have s7:=hO1.lt
       have a0:=(hO0).cell 0 _ rfl;have a1:=(hO0).cell 1 _ rfl;have a2:=(hO0).cell 2 _ rfl;have a3:=(hO0).cell 3 _ rfl;have a4:=(hO0).cell 4 _ rfl;have a5:=(hO0).cell 5 _ rfl;have a6:=(hO0).cell 6 _ rfl;have a7:=(hO0).cell 7 _ rfl;have g0:=(hO0).free 0;have g1:=(hO0).free 1;have g2:=(hO0).free 2;have g3:=(hO0).free 3;have g4:=(hO0).free 4;have g5:=(hO0).free 5;have g6:=(hO0).free 6;have g7:=(hO0).free 7
       have b0:=(hO1).cell 0 _ rfl;have b1:=(hO1).cell 1 _ rfl;have b2:=(hO1).cell 2 _ rfl;have p0:=(hO1).free 0;have p1:=(hO1).free 1;have p2:=(hO1).free 2
       clear hp0 hO0 hO1
       go_wp2_with fail
       (refine bodyPost_ret (v:=.tuple #[.agg #[.int .i64 0,.slice none 0 0,.slice none 0 0,.slice none 0 0,.slice none 0 0,.slice none 0 0,.int .i64 0,.int .i64 0],.agg #[.slice none 0 0,.slice none 0 0,.slice none 0 0],.int .i64 pe,.int .i64 pa]) (by simp [results,Tryz.results9,go_sem,a0,a1,a2,a3,a4,a5,a6,a7,b0,b1,b2,s6,s7]) rfl ?_)
       exact (HZ _ ((((((((((((bmore HB2.out HB6.out).setCell (Nat.le_refl _) _).setCell (Nat.le_refl _) _).setCell (Nat.le_refl _) _).setCell (Nat.le_refl _) _).setCell (Nat.le_refl _) _).setCell (Nat.le_refl _) _).setCell (Nat.le_refl _) _).setCell (Nat.le_refl _) _).setCell (Nat.le_succ _) _).setCell (Nat.le_succ _) _).setCell (Nat.le_succ _) _)).out
     ·have d2 : decide ((k : Int) < (L.length : Int)) = false:=decide_eq_false (by omega)
      have d2' : decide (k < L.length) = false:=decide_eq_false hlt
      have HB3:=HBE
      clear hgo
      go_upto_region 15 with fail
      go_upto_region 16 with (first | (go_at_call 29;refine (HTX.out _ HB3.out).mono ?_;intro e W4 hp;obtain ⟨rfl,hw4⟩:=hp;have HB4 : Hid (Below w2.heap.size w2 W4):=hw4 ▸ HB3.out;clear hw4) | (go_at_call 28;refine (HPP.out _).mono ?_;intro e W5 hp;obtain ⟨c,hnc,rfl,hok,hpcc,hb5⟩:=HPS.out _ _ _ hp;have HB5:=Lib.hid (bmore HB4.out hb5);have HNC:=Lib.hid hnc;have HOK:=Lib.hid hok;have HPC:=Lib.hid hpcc;have HSZ:=Lib.hid hb5.size;clear hp hnc hok hpcc hb5))
      obtain ⟨W6,hW6⟩ : ∃ W6,W6 = W5.alloc (.cells #[.int .i64 c.cats,.slice c.g.a c.g.l.length c.g.cap,.slice c.r.a c.r.l.length c.r.cap,.slice c.p.a c.p.l.length c.p.cap,.slice c.n.a c.n.l.length c.n.cap,.slice c.s.a c.s.l.length c.s.cap,.int .i64 c.gate,.int .i64 c.quota] 29):=⟨_,rfl⟩
      rw [← hW6]
      have HO9 : Hid (ObjAt W6 W5.heap.size 29 #[.int .i64 c.cats,.slice c.g.a c.g.l.length c.g.cap,.slice c.r.a c.r.l.length c.r.cap,.slice c.p.a c.p.l.length c.p.cap,.slice c.n.a c.n.l.length c.n.cap,.slice c.s.a c.s.l.length c.s.cap,.int .i64 c.gate,.int .i64 c.quota].toList):=by rw [hW6];exact ObjAt.new W5 _ _
      have hb6 : Below W5.heap.size W5 W6:=by rw [hW6];exact (Below.refl _ _).alloc (Nat.le_refl _) _
      have HB6:=Lib.hid (bmore HB5.out hb6)
      have HOK:=Lib.hid (HOK.out.below hb6)
      have HNX : Hid (w.heap.size + 1 < W4.heap.size):=Nat.lt_of_lt_of_le HO1.out.lt HB4.out.size
      have HSZ6 : Hid (W4.heap.size < W6.heap.size):=Nat.lt_of_le_of_lt HSZ.out (by rw [hW6];simp)
      have HS56 : Hid (W5.heap.size < W6.heap.size):=by rw [Hid,hW6];simp
      clear hW6 hb6
      by_cases hp0 : pe = 0
      ·have z9 : (pe != 0) = false:=by simp [hp0]
       have HSR : Hid (scV l = if F.2.1 ≠ 0 then (pcZ,sc0,F.2.1,F.2.2) else (pc,F.1,0,0)):=by rw [Hid,HSR.out,if_neg (by simp [hp0])]
       clear hp0
       by_cases hf0 : F.2.1 = 0
       ·have HSR : Hid (scV l = (pc,F.1,0,0)):=by rw [Hid,HSR.out,if_neg (by simp [hf0])]
        have HRP : Hid (∀ e w',RrPost W6 F e w' → Below W6.heap.size W6 w' ∧ ∃ v : Sv,scOf v = F.1 ∧ OS W6.heap.size v w' ∧ e = .returned (.tuple #[(.agg #[.slice v.ia v.im.length v.ic,.slice v.sa v.se.length v.sc,.slice v.na v.inp.length v.nc]),.int .i64 0,.int .i64 0])):=fun e w' h=>⟨h.1,h.2.1 hf0⟩
        clear hf0
        go_upto_region 19 with (go_at_call 30;refine (HPA.out _ HB6.out).mono ?_;intro e W7 h7;obtain ⟨hb7,v,hv,hos,rfl⟩:=HRP.out _ _ h7;have HV:=Lib.hid hv;have HOS:=Lib.hid hos;have HB7:=Lib.hid hb7;clear h7 hv hos hb7)
        obtain ⟨W8,hW8⟩ : ∃ W8,W8 = W7.alloc (.cells #[.slice v.ia v.im.length v.ic,.slice v.sa v.se.length v.sc,.slice v.na v.inp.length v.nc] 34):=⟨_,rfl⟩
        rw [← hW8]
        have hOA : ObjAt W8 W7.heap.size 34 [.slice v.ia v.im.length v.ic,.slice v.sa v.se.length v.sc,.slice v.na v.inp.length v.nc]:=by rw [hW8];exact ObjAt.new W7 _ _
        have hb8 : Below W7.heap.size W7 W8:=by rw [hW8];exact (Below.refl _ _).alloc (Nat.le_refl _) _
        have HB8:=Lib.hid (bmore HB7.out hb8)
        have HOS:=Lib.hid (HOS.out.more hb8)
        have hsz:=HB7.out.size
        clear hW8 hb8
        have hO0:=HO0.out.below (bmore HB6.out HB8.out)
        have hO1:=HO1.out.below (bmore HB6.out HB8.out)
        have hO9:=HO9.out.below HB8.out
        have HP0:=Lib.hid hO0
        have HP1:=Lib.hid hO1
        have s6:=hO0.lt
        have s7:=hO1.lt
        have a0:=(hO0).cell 0 _ rfl;have a1:=(hO0).cell 1 _ rfl;have a2:=(hO0).cell 2 _ rfl;have a3:=(hO0).cell 3 _ rfl;have a4:=(hO0).cell 4 _ rfl;have a5:=(hO0).cell 5 _ rfl;have a6:=(hO0).cell 6 _ rfl;have a7:=(hO0).cell 7 _ rfl;have g0:=(hO0).free 0;have g1:=(hO0).free 1;have g2:=(hO0).free 2;have g3:=(hO0).free 3;have g4:=(hO0).free 4;have g5:=(hO0).free 5;have g6:=(hO0).free 6;have g7:=(hO0).free 7
        have b0:=(hO1).cell 0 _ rfl;have b1:=(hO1).cell 1 _ rfl;have b2:=(hO1).cell 2 _ rfl;have p0:=(hO1).free 0;have p1:=(hO1).free 1;have p2:=(hO1).free 2
        have n0:=hO9.cell 0 _ rfl
        have n1:=hO9.cell 1 _ rfl
        have n2:=hO9.cell 2 _ rfl
        have n3:=hO9.cell 3 _ rfl
        have n4:=hO9.cell 4 _ rfl
        have n5:=hO9.cell 5 _ rfl
        have n6:=hO9.cell 6 _ rfl
        have n7:=hO9.cell 7 _ rfl
        have r3:=hOA.cell 0 _ rfl
        have r4:=hOA.cell 1 _ rfl
        have r5:=hOA.cell 2 _ rfl
        have q1 : ¬ W7.heap.size = w.heap.size:=by have:=HNX.out;have:=HSZ6.out;omega
        have q2 : ¬ w.heap.size = W7.heap.size:=fun e=>q1 e.symm
        have q3 : ¬ W7.heap.size = w.heap.size + 1:=by have:=HNX.out;have:=HSZ6.out;omega
        have q4 : ¬ w.heap.size + 1 = W7.heap.size:=fun e=>q3 e.symm
        have q5 : ¬ W5.heap.size = w.heap.size:=by have:=HNX.out;have:=HSZ.out;omega
        have q6 : ¬ w.heap.size = W5.heap.size:=fun e=>q5 e.symm
        have q7 : ¬ W5.heap.size = w.heap.size + 1:=by have:=HNX.out;have:=HSZ.out;omega
        have q8 : ¬ w.heap.size + 1 = W5.heap.size:=fun e=>q7 e.symm
        clear hO0 hO1 hO9 hOA hsz
        go_wp2_with fail
        go_region
        all_goals
         go_wp2_with fail
         refine bodyPost_ret (v:=.tuple #[(.agg #[.int .i64 c.cats,.slice c.g.a c.g.l.length c.g.cap,.slice c.r.a c.r.l.length c.r.cap,.slice c.p.a c.p.l.length c.p.cap,.slice c.n.a c.n.l.length c.n.cap,.slice c.s.a c.s.l.length c.s.cap,.int .i64 c.gate,.int .i64 c.quota]),(.agg #[.slice v.ia v.im.length v.ic,.slice v.sa v.se.length v.sc,.slice v.na v.inp.length v.nc]),.int .i64 0,.int .i64 0]) (by simp [results,Tryz.results9,go_sem,a0,a1,a2,a3,a4,a5,a6,a7,b0,b1,b2,s6,s7]) rfl ?_
         refine HG.out c v _ (by rw [HSR.out,HPC.out,HV.out]) ?_ ?_ ((((((((((((bmore HB2.out (bmore HB6.out HB8.out)).setCell (Nat.le_refl _) _).setCell (Nat.le_refl _) _).setCell (Nat.le_refl _) _).setCell (Nat.le_refl _) _).setCell (Nat.le_refl _) _).setCell (Nat.le_refl _) _).setCell (Nat.le_refl _) _).setCell (Nat.le_refl _) _).setCell (Nat.le_succ _) _).setCell (Nat.le_succ _) _).setCell (Nat.le_succ _) _).drew
         ·exact cfg_other (HOK.out.below HB8.out) HNC.out (by have:=HNX.out;omega) HNX.out (upd_put (upd_put (upd_put (upd_put (upd_put (upd_put (upd_put (upd_put (Upd.refl _ _))))))))) (upd_put (upd_put (upd_put (Upd.refl _ _)))).drew
         ·exact HOS.out.other HP0.out HP1.out (upd_put (upd_put (upd_put (upd_put (upd_put (upd_put (upd_put (upd_put (Upd.refl _ _))))))))) (upd_put (upd_put (upd_put (Upd.refl _ _)))).drew
       ·have HZ:=fun w' h=>Lib.hid (HZ.out F.2.1 F.2.2 w' (by rw [HSR.out,if_pos hf0]) h)
        have HRP : Hid (∀ e w',RrPost W6 F e w' → Below W6.heap.size W6 w' ∧ ∃ v : Sv,e = .returned (.tuple #[(.agg #[.slice v.ia v.im.length v.ic,.slice v.sa v.se.length v.sc,.slice v.na v.inp.length v.nc]),.int .i64 F.2.1,.int .i64 F.2.2])):=fun e w' h=>⟨h.1,h.2.2 hf0⟩
        have z8 : (F.2.1 != 0) = true:=by simp [hf0]
        clear hf0
        go_upto_region 19 with (go_at_call 30;refine (HPA.out _ HB6.out).mono ?_;intro e W7 h7;obtain ⟨hb7,v,rfl⟩:=HRP.out _ _ h7;have HB7:=Lib.hid hb7;clear h7 hb7)
        obtain ⟨W8,hW8⟩ : ∃ W8,W8 = W7.alloc (.cells #[.slice v.ia v.im.length v.ic,.slice v.sa v.se.length v.sc,.slice v.na v.inp.length v.nc] 34):=⟨_,rfl⟩
        rw [← hW8]
        have hb8 : Below W7.heap.size W7 W8:=by rw [hW8];exact (Below.refl _ _).alloc (Nat.le_refl _) _
        have HB8:=Lib.hid (bmore HB7.out hb8)
        clear hW8 hb8
        have hO0:=HO0.out.below (bmore HB6.out HB8.out)
        have hO1:=HO1.out.below (bmore HB6.out HB8.out)
        have s6:=hO0.lt
        have s7:=hO1.lt
        have a0:=(hO0).cell 0 _ rfl;have a1:=(hO0).cell 1 _ rfl;have a2:=(hO0).cell 2 _ rfl;have a3:=(hO0).cell 3 _ rfl;have a4:=(hO0).cell 4 _ rfl;have a5:=(hO0).cell 5 _ rfl;have a6:=(hO0).cell 6 _ rfl;have a7:=(hO0).cell 7 _ rfl;have g0:=(hO0).free 0;have g1:=(hO0).free 1;have g2:=(hO0).free 2;have g3:=(hO0).free 3;have g4:=(hO0).free 4;have g5:=(hO0).free 5;have g6:=(hO0).free 6;have g7:=(hO0).free 7
        have b0:=(hO1).cell 0 _ rfl;have b1:=(hO1).cell 1 _ rfl;have b2:=(hO1).cell 2 _ rfl;have p0:=(hO1).free 0;have p1:=(hO1).free 1;have p2:=(hO1).free 2
        clear hO0 hO1
        go_wp2_with fail
        (refine bodyPost_ret (v:=.tuple #[.agg #[.int .i64 0,.slice none 0 0,.slice none 0 0,.slice none 0 0,.slice none 0 0,.slice none 0 0,.int .i64 0,.int .i64 0],.agg #[.slice none 0 0,.slice none 0 0,.slice none 0 0],.int .i64 F.2.1,.int .i64 F.2.2]) (by simp [results,Tryz.results9,go_sem,a0,a1,a2,a3,a4,a5,a6,a7,b0,b1,b2,s6,s7]) rfl ?_)
        exact (HZ _ ((((((((((((bmore HB2.out (bmore HB6.out HB8.out)).setCell (Nat.le_refl _) _).setCell (Nat.le_refl _) _).setCell (Nat.le_refl _) _).setCell (Nat.le_refl _) _).setCell (Nat.le_refl _) _).setCell (Nat.le_refl _) _).setCell (Nat.le_refl _) _).setCell (Nat.le_refl _) _).setCell (Nat.le_succ _) _).setCell (Nat.le_succ _) _).setCell (Nat.le_succ _) _)).out
      ·have z9 : (pe != 0) = true:=by simp [hp0]
       have HZ:=fun w' h=>Lib.hid (HZ.out pe pa w' (by rw [HSR.out,if_pos hp0]) h)
       have hO0:=HO0.out.below HB6.out
       have hO1:=HO1.out.below HB6.out
       have s6:=hO0.lt
       have s7:=hO1.lt
       have a0:=(hO0).cell 0 _ rfl;have a1:=(hO0).cell 1 _ rfl;have a2:=(hO0).cell 2 _ rfl;have a3:=(hO0).cell 3 _ rfl;have a4:=(hO0).cell 4 _ rfl;have a5:=(hO0).cell 5 _ rfl;have a6:=(hO0).cell 6 _ rfl;have a7:=(hO0).cell 7 _ rfl;have g0:=(hO0).free 0;have g1:=(hO0).free 1;have g2:=(hO0).free 2;have g3:=(hO0).free 3;have g4:=(hO0).free 4;have g5:=(hO0).free 5;have g6:=(hO0).free 6;have g7:=(hO0).free 7
       have b0:=(hO1).cell 0 _ rfl;have b1:=(hO1).cell 1 _ rfl;have b2:=(hO1).cell 2 _ rfl;have p0:=(hO1).free 0;have p1:=(hO1).free 1;have p2:=(hO1).free 2
       clear hp0 hO0 hO1
       go_wp2_with fail
       (refine bodyPost_ret (v:=.tuple #[.agg #[.int .i64 0,.slice none 0 0,.slice none 0 0,.slice none 0 0,.slice none 0 0,.slice none 0 0,.int .i64 0,.int .i64 0],.agg #[.slice none 0 0,.slice none 0 0,.slice none 0 0],.int .i64 pe,.int .i64 pa]) (by simp [results,Tryz.results9,go_sem,a0,a1,a2,a3,a4,a5,a6,a7,b0,b1,b2,s6,s7]) rfl ?_)
       exact (HZ _ ((((((((((((bmore HB2.out HB6.out).setCell (Nat.le_refl _) _).setCell (Nat.le_refl _) _).setCell (Nat.le_refl _) _).setCell (Nat.le_refl _) _).setCell (Nat.le_refl _) _).setCell (Nat.le_refl _) _).setCell (Nat.le_refl _) _).setCell (Nat.le_refl _) _).setCell (Nat.le_succ _) _).setCell (Nat.le_succ _) _).setCell (Nat.le_succ _) _)).out
end Go.Proofs.YtoklonmiejdgmaaGreatDoor
/- The law of plan: the same configurations. -/
namespace Go.Proofs.YtoklonmiejdgmaaGreatDoor
set_option linter.unusedVariables false
set_option linter.unusedSimpArgs false
set_option linter.unnecessarySimpa false
open Go.RowKit Go.Sort
set_option maxHeartbeats 4000000
set_option maxRecDepth 100000
set_option linter.unusedVariables false
end Go.Proofs.YtoklonmiejdgmaaGreatDoor
/- The law of script: the same scripts, configurations alike. -/
namespace Go.Proofs.YtoklonmiejdgmaaGreatDoor
set_option linter.unusedVariables false
set_option linter.unusedSimpArgs false
set_option linter.unnecessarySimpa false
open Go.RowKit Go.Sort
set_option maxHeartbeats 4000000
set_option maxRecDepth 100000
set_option linter.unusedVariables false
theorem alike_any (W : World) (c d : Cv) (hc : CfgOk W c) (hd : CfgOk W d) (he : pcOf c = pcOf d) : Calls Tryz.prog 10 #[.agg #[.int .i64 c.cats,.slice c.g.a c.g.l.length c.g.cap,.slice c.r.a c.r.l.length c.r.cap,.slice c.p.a c.p.l.length c.p.cap,.slice c.n.a c.n.l.length c.n.cap,.slice c.s.a c.s.l.length c.s.cap,.int .i64 c.gate,.int .i64 c.quota],.agg #[.int .i64 d.cats,.slice d.g.a d.g.l.length d.g.cap,.slice d.r.a d.r.l.length d.r.cap,.slice d.p.a d.p.l.length d.p.cap,.slice d.n.a d.n.l.length d.n.cap,.slice d.s.a d.s.l.length d.s.cap,.int .i64 d.gate,.int .i64 d.quota]] W fun e w'=>e = .returned (.bool true) ∧ Below W.heap.size W w':=by
 have HB : Hid (Below W.heap.size W ((W.alloc (.cells #[.int .i64 c.cats,.slice c.g.a c.g.l.length c.g.cap,.slice c.r.a c.r.l.length c.r.cap,.slice c.p.a c.p.l.length c.p.cap,.slice c.n.a c.n.l.length c.n.cap,.slice c.s.a c.s.l.length c.s.cap,.int .i64 c.gate,.int .i64 c.quota] 29)).alloc (.cells #[.int .i64 d.cats,.slice d.g.a d.g.l.length d.g.cap,.slice d.r.a d.r.l.length d.r.cap,.slice d.p.a d.p.l.length d.p.cap,.slice d.n.a d.n.l.length d.n.cap,.slice d.s.a d.s.l.length d.s.cap,.int .i64 d.gate,.int .i64 d.quota] 29))):=((Below.refl _ _).alloc (Nat.le_refl _) _).alloc (by rw [World.size_alloc];omega) _
 have M1:=hc.g.mx
 have M2:=hc.r.mx
 have M3:=hc.p.mx
 have M4:=hc.n.mx
 have M5:=hc.s.mx
 clear hc hd
 obtain ⟨x,⟨a1,c1,l1⟩,⟨a2,c2,l2⟩,⟨a3,c3,l3⟩,⟨a4,c4,l4⟩,⟨a5,c5,l5⟩,y,z⟩:=c
 obtain ⟨x',⟨a1',c1',l1'⟩,⟨a2',c2',l2'⟩,⟨a3',c3',l3'⟩,⟨a4',c4',l4'⟩,⟨a5',c5',l5'⟩,y',z'⟩:=d
 simp only [pcOf,Pc.mk.injEq] at he
 obtain ⟨rfl,rfl,rfl,rfl,rfl,rfl,rfl,rfl⟩:=he
 have m1 : l1.length ≤ 9223372036854775807:=M1
 have m2 : l2.length ≤ 9223372036854775807:=M2
 have m3 : l3.length ≤ 9223372036854775807:=M3
 have m4 : l4.length ≤ 9223372036854775807:=M4
 have m5 : l5.length ≤ 9223372036854775807:=M5
 clear M1 M2 M3 M4 M5
 have nn1 : ((l1.length : Int) == (l1.length : Int)) = true:=by simp
 have nn2 : ((l2.length : Int) == (l2.length : Int)) = true:=by simp
 have nn3 : ((l3.length : Int) == (l3.length : Int)) = true:=by simp
 have nn4 : ((l4.length : Int) == (l4.length : Int)) = true:=by simp
 have nn5 : ((l5.length : Int) == (l5.length : Int)) = true:=by simp
 have nx : (x == x) = true:=by simp
 have ny : (y == y) = true:=by simp
 have nz : (z == z) = true:=by simp
 go_enter Tryz.func10,Tryz.ntmps10
 go_wp2_with fail
 go_ret
 exact ⟨rfl,HB.out⟩
theorem flat_get {α β : Type} (f : α → List β) (N : Nat) (hN : ∀ x,(f x).length = N) : ∀ (l : List α) (k : Nat) (hk : k < l.length) (j : Nat),j < N → (l.map f).flatten[k * N + j]? = (f l[k])[j]?
 | x :: r,0,_,j,hj=>by
  rw [List.map_cons,List.flatten_cons,List.getElem?_append_left (by rw [hN];omega)];simp
 | x :: r,k + 1,hk,j,hj=>by
  have:=flat_get f N hN r k (by simpa using hk) j hj
  rw [List.map_cons,List.flatten_cons,List.getElem?_append_right (by rw [hN,Nat.succ_mul];omega),hN,show (k + 1) * N + j - N = k * N + j by rw [Nat.succ_mul];omega,this];rfl
theorem Rd.get {W : World} {size n : Nat} {a : Option Addr} {xs : List Value} (h : Rd W size a n xs) (hn : 0 < n) (hs : 0 < size) : ∃ g o,a = some ⟨g,o,none⟩ ∧ g < W.heap.size ∧ ∀ j u,xs[j]? = some u → W.cell? ⟨g,o + j,none⟩ = some u:=by
 cases a with
 | none=>have:=h.2.1 rfl;omega
 | some p=>
  obtain ⟨b,o,rfl,hb,hc⟩:=h.2.2 p rfl (by intro e;have h1:=h.1;rw [e,List.length_nil] at h1;have:=Nat.mul_pos hn hs;omega)
  exact ⟨b,o,rfl,hb,hc⟩
theorem ScOk.im_at {W : World} {v : Sv} (h : ScOk W v) (k : Nat) (hk : k < v.im.length) : ∃ g o,v.ia = some ⟨g,o,none⟩ ∧ ∀ W',Below W.heap.size W W' → W'.cell? ⟨g,o + k,none⟩ = some (.slice v.im[k].a v.im[k].l.length v.im[k].cap):=by
 obtain ⟨g,o,e,hg,hc⟩:=h.im.get (by omega) (by decide)
 exact ⟨g,o,e,fun W' hb=>by rw [hb.cell (p:=⟨g,o + k,none⟩) hg];exact hc k _ (by simp [imC,hk])⟩
theorem ScOk.row_at {W : World} {v : Sv} (h : ScOk W v) (k : Nat) (hk : k < v.im.length) (j : Nat) (hj : j < v.im[k].l.length) : ∃ g o,v.im[k].a = some ⟨g,o,none⟩ ∧ ∀ W',Below W.heap.size W W' → W'.cell? ⟨g,o + j,none⟩ = some (.int .u32 v.im[k].l[j]):=by
 obtain ⟨g,o,e,hg,hc⟩:=(h.row _ (List.getElem_mem hk)).1.get (by omega) (by decide)
 exact ⟨g,o,e,fun W' hb=>by rw [hb.cell (p:=⟨g,o + j,none⟩) hg];exact hc j _ (by simp [As.uC,hj])⟩
theorem ScOk.se_at {W : World} {v : Sv} (h : ScOk W v) (k : Nat) (hk : k < v.se.length) : ∃ g o,v.sa = some ⟨g,o,none⟩ ∧ ∀ W',Below W.heap.size W W' → ∀ j u,j < 2 → (seR v.se[k])[j]? = some u → W'.cell? ⟨g,o + k * 2 + j,none⟩ = some u:=by
 obtain ⟨g,o,e,hg,hc⟩:=h.se.get (by omega) (by decide)
 exact ⟨g,o,e,fun W' hb j u hj hu=>by rw [hb.cell (p:=⟨g,o + k * 2 + j,none⟩) hg,Nat.add_assoc];exact hc _ _ (by rw [seC,flat_get seR 2 (fun _=>rfl) v.se k hk j hj];exact hu)⟩
theorem ScOk.in_at {W : World} {v : Sv} (h : ScOk W v) (k : Nat) (hk : k < v.inp.length) : ∃ g o,v.na = some ⟨g,o,none⟩ ∧ ∀ W',Below W.heap.size W W' → ∀ j u,j < 5 → (inR v.inp[k])[j]? = some u → W'.cell? ⟨g,o + k * 5 + j,none⟩ = some u:=by
 obtain ⟨g,o,e,hg,hc⟩:=h.inp.get (by omega) (by decide)
 exact ⟨g,o,e,fun W' hb j u hj hu=>by rw [hb.cell (p:=⟨g,o + k * 5 + j,none⟩) hg,Nat.add_assoc];exact hc _ _ (by rw [inC,flat_get inR 5 (fun _=>rfl) v.inp k hk j hj];exact hu)⟩
/-- Two scripts of one content, boxed. -/
structure SN (W W3 : World) (b1 b2 : Nat) (u v : Sv) : Prop where
 bel : Below W.heap.size W W3
 x : ObjAt W3 b1 34 #[.slice u.ia u.im.length u.ic,.slice u.sa u.se.length u.sc,.slice u.na u.inp.length u.nc].toList
 y : ObjAt W3 b2 34 #[.slice v.ia v.im.length v.ic,.slice v.sa v.se.length v.sc,.slice v.na v.inp.length v.nc].toList
 cx : ScOk W3 u
 cy : ScOk W3 v
theorem SN.more {W W3 W' : World} {b1 b2 : Nat} {u v : Sv} (h : SN W W3 b1 b2 u v) (hb : Below W3.heap.size W3 W') : SN W W' b1 b2 u v:=⟨bmore h.bel hb,h.x.below hb,h.y.below hb,h.cx.below hb,h.cy.below hb⟩
theorem sn_start (W : World) (u v : Sv) (hc : ScOk W u) (hd : ScOk W v) : SN W ((W.alloc (.cells #[.slice u.ia u.im.length u.ic,.slice u.sa u.se.length u.sc,.slice u.na u.inp.length u.nc] 34)).alloc (.cells #[.slice v.ia v.im.length v.ic,.slice v.sa v.se.length v.sc,.slice v.na v.inp.length v.nc] 34)) W.heap.size (W.heap.size + 1) u v:=by
 have s1 : (W.alloc (.cells #[.slice u.ia u.im.length u.ic,.slice u.sa u.se.length u.sc,.slice u.na u.inp.length u.nc] 34)).heap.size = W.heap.size + 1:=World.size_alloc _ _
 have hb : Below W.heap.size W ((W.alloc (.cells #[.slice u.ia u.im.length u.ic,.slice u.sa u.se.length u.sc,.slice u.na u.inp.length u.nc] 34)).alloc (.cells #[.slice v.ia v.im.length v.ic,.slice v.sa v.se.length v.sc,.slice v.na v.inp.length v.nc] 34)):=((Below.refl _ _).alloc (Nat.le_refl _) _).alloc (by rw [s1];omega) _
 refine ⟨hb,(ObjAt.new W 34 #[.slice u.ia u.im.length u.ic,.slice u.sa u.se.length u.sc,.slice u.na u.inp.length u.nc].toList).below ((Below.refl _ _).alloc (Nat.le_refl _) _),?_,hc.below hb,hd.below hb⟩
 have:=ObjAt.new (W.alloc (.cells #[.slice u.ia u.im.length u.ic,.slice u.sa u.se.length u.sc,.slice u.na u.inp.length u.nc] 34)) 34 #[.slice v.ia v.im.length v.ic,.slice v.sa v.se.length v.sc,.slice v.na v.inp.length v.nc].toList
 rw [s1] at this;exact this
theorem eqSe (a : Int) (s : ByteArray) (w : World) : Sem.run Tryz.prog (Op.equalIn 10000 72 (.agg #[.int .i64 a,.string s]) (.agg #[.int .i64 a,.string s])) w = .ok true w:=by go_simp
theorem eqIn (a b c d : Int) (s : ByteArray) (w : World) : Sem.run Tryz.prog (Op.equalIn 10000 74 (.agg #[.int .i64 a,.int .i64 b,.int .i64 c,.int .i64 d,.string s]) (.agg #[.int .i64 a,.int .i64 b,.int .i64 c,.int .i64 d,.string s])) w = .ok true w:=by go_simp
theorem ssame_any (W : World) (u v : Sv) (hc : ScOk W u) (hd : ScOk W v) (he : scOf u = scOf v) : Calls Tryz.prog 11 #[.agg #[.slice u.ia u.im.length u.ic,.slice u.sa u.se.length u.sc,.slice u.na u.inp.length u.nc],.agg #[.slice v.ia v.im.length v.ic,.slice v.sa v.se.length v.sc,.slice v.na v.inp.length v.nc]] W fun e w'=>e = .returned (.bool true) ∧ Below W.heap.size W w':=by
 obtain ⟨W3,hW3⟩ : ∃ W3,W3 = (W.alloc (.cells #[.slice u.ia u.im.length u.ic,.slice u.sa u.se.length u.sc,.slice u.na u.inp.length u.nc] 34)).alloc (.cells #[.slice v.ia v.im.length v.ic,.slice v.sa v.se.length v.sc,.slice v.na v.inp.length v.nc] 34):=⟨_,rfl⟩
 obtain ⟨b1,hb1⟩ : ∃ b,b = W.heap.size:=⟨_,rfl⟩
 obtain ⟨b2,hb2⟩ : ∃ b,b = W.heap.size + 1:=⟨_,rfl⟩
 have HSM : Hid (SN W W3 b1 b2 u v):=by rw [hW3,hb1,hb2];exact sn_start W u v hc hd
 have HE1:=Lib.hid hb1
 have HE2:=Lib.hid hb2
 have HW3:=Lib.hid hW3
 clear hW3 hb1 hb2
 obtain ⟨ia,ic,im,sa,sc,se,na,nc,inp⟩:=u
 obtain ⟨ia',ic',im',sa',sc',se',na',nc',inp'⟩:=v
 simp only [scOf,Sc.mk.injEq] at he
 obtain ⟨hm,rfl,rfl⟩:=he
 have hml : im'.length = im.length:=by have:=congrArg List.length hm;simpa using this.symm
 have HROW : Hid (∀ k (h1 : k < im.length) (h2 : k < im'.length),im'[k].l = im[k].l):=fun k h1 h2=>by
  have:=congrArg (fun l=>l[k]?) hm
  simp only [List.getElem?_map,List.getElem?_eq_getElem h1,List.getElem?_eq_getElem h2,Option.map_some,Option.some.injEq] at this
  exact this.symm
 have b3 : im.length ≤ 9223372036854775807:=Nat.le_trans hc.iml hc.imx
 have b4 : se.length ≤ 9223372036854775807:=Nat.le_trans hc.sel hc.sex
 have b5 : inp.length ≤ 9223372036854775807:=Nat.le_trans hc.inl hc.inx
 have nn1 : ((im.length : Int) != (im'.length : Int)) = false:=by simp [hml]
 have nn2 : ((se.length : Int) != (se.length : Int)) = false:=by simp
 have nn3 : ((inp.length : Int) != (inp.length : Int)) = false:=by simp
 have HML:=Lib.hid hml
 have b6 : im'.length ≤ 9223372036854775807:=by omega
 clear hc hd hm hml
 go_enter Tryz.func11,Tryz.ntmps11
 go_upto_region 1 with fail
 rw [← HW3.out]
 try rw [← HE2.out]
 try rw [← HE1.out]
 (have p0:=(HSM.out).x.cell 0 _ rfl;have p1:=(HSM.out).x.cell 1 _ rfl;have p2:=(HSM.out).x.cell 2 _ rfl;have q0:=(HSM.out).y.cell 0 _ rfl;have q1:=(HSM.out).y.cell 1 _ rfl;have q2:=(HSM.out).y.cell 2 _ rfl)
 go_upto_region 4 with fail
 go_loopw [5] (fun i wr=>∃ k : Nat,k ≤ im.length ∧ i = .int .i64 k ∧ SN W wr b1 b2 ⟨ia,ic,im,sa,sc,se,na,nc,inp⟩ ⟨ia',ic',im',sa',sc',se,na',nc',inp⟩) (fun i _=>im.length - (intOf i).toNat)
 case atStart=>exact ⟨0,by omega,rfl,HSM.out⟩
 clear HSM
 (clear p0 p1 p2 q0 q1 q2)
 obtain ⟨k,hk,rfl,hsm⟩:=hrel
 have HSM:=Lib.hid hsm
 clear hsm
 (have p0:=(HSM.out).x.cell 0 _ rfl;have p1:=(HSM.out).x.cell 1 _ rfl;have p2:=(HSM.out).x.cell 2 _ rfl;have q0:=(HSM.out).y.cell 0 _ rfl;have q1:=(HSM.out).y.cell 1 _ rfl;have q2:=(HSM.out).y.cell 2 _ rfl)
 by_cases hlt : k < im.length
 case pos=>
  have hlt' : k < im'.length:=by have:=HML.out;omega
  obtain ⟨g1,o1,ha1,hc1⟩:=HSM.out.cx.im_at k hlt
  obtain ⟨g2,o2,ha2,hc2⟩:=HSM.out.cy.im_at k hlt'
  have HC1:=Lib.hid hc1
  have HC2:=Lib.hid hc2
  have HD1:=Lib.hid (HSM.out.cx.row_at k hlt)
  have HD2:=Lib.hid (HSM.out.cy.row_at k hlt')
  have hrm:=HSM.out.cx.row _ (List.getElem_mem hlt)
  have hrm':=HSM.out.cy.row _ (List.getElem_mem hlt')
  have hre:=HROW.out k hlt hlt'
  simp only at ha1 ha2 HC1 HC2 HD1 HD2 hrm hrm'
  subst ha1;subst ha2
  generalize im[k] = y1 at HC1 HD1 hrm hre
  generalize im'[k] = y2 at HC2 HD2 hrm' hre
  obtain ⟨ra,rc,rl⟩:=y1
  obtain ⟨ra',rc',rl'⟩:=y2
  simp only at hre
  subst hre
  simp only at HC1 HC2 HD1 HD2 hrm hrm'
  have b7 : rl'.length ≤ 9223372036854775807:=Nat.le_trans hrm.2.1 hrm.2.2
  have b8 : rl'.length ≤ rc:=hrm.2.1
  have b9 : rl'.length ≤ rc':=hrm'.2.1
  have nr : ((rl'.length : Int) != (rl'.length : Int)) = false:=by simp
  have d1 : decide ((k : Int) < (im.length : Int)) = true:=decide_eq_true (by omega)
  have d1' : decide (k < im.length) = true:=decide_eq_true hlt
  have d2 : decide ((k : Int) < (im'.length : Int)) = true:=decide_eq_true (by omega)
  have d2' : decide (k < im'.length) = true:=decide_eq_true hlt'
  have w1 : IntKind.i64.wrap ((k : Int) + 1) = (k : Int) + 1:=by rw [IntKind.wrap_i64];omega
  clear hc1 hc2 hrm hrm'
  have u0:=HC1.out _ (Below.refl _ _)
  have v0:=HC2.out _ (Below.refl _ _)
  go_upto_region 6 with fail
  go_region
  all_goals
   go_upto_region 9 with fail
   (clear p0 p1 p2 q0 q1 q2)
   clear u0 v0
   go_loopw [6] (fun i wr2=>∃ j : Nat,j ≤ rl'.length ∧ i = .int .i64 j ∧ Below wr.heap.size wr wr2) (fun i _=>rl'.length - (intOf i).toNat)
   case atStart=>exact ⟨0,by omega,rfl,(Below.refl _ _).drew⟩
   case round=>
    obtain ⟨j,hj,rfl,hbj⟩:=hrel
    have HS3:=Lib.hid (HSM.out.more hbj)
    have HBJ:=Lib.hid hbj
    have u0:=HC1.out _ hbj
    have v0:=HC2.out _ hbj
    clear hbj
    (have p0:=(HS3.out).x.cell 0 _ rfl;have p1:=(HS3.out).x.cell 1 _ rfl;have p2:=(HS3.out).x.cell 2 _ rfl;have q0:=(HS3.out).y.cell 0 _ rfl;have q1:=(HS3.out).y.cell 1 _ rfl;have q2:=(HS3.out).y.cell 2 _ rfl)
    by_cases hlj : j < rl'.length
    ·obtain ⟨g3,o3,rfl,hc3⟩:=HD1.out j hlj
     obtain ⟨g4,o4,rfl,hc4⟩:=HD2.out j hlj
     have u1:=hc3 _ HBJ.out
     have v1:=hc4 _ HBJ.out
     have ne : (rl'[j] != rl'[j]) = false:=by simp
     have d3 : decide ((j : Int) < (rl'.length : Int)) = true:=decide_eq_true (by omega)
     have d3' : decide (j < rl'.length) = true:=decide_eq_true hlj
     have w2 : IntKind.i64.wrap ((j : Int) + 1) = (j : Int) + 1:=by rw [IntKind.wrap_i64];omega
     clear hc3 hc4
     generalize rl'[j] = y3 at u1 v1 ne
     go_upto_region 11 with fail
     go_region
     all_goals
      go_wp2_with fail
      go_roundw
      case rel=>exact ⟨j + 1,by omega,by go_num,HBJ.out.drew⟩
      case measure=>simp [intOf];omega
    ·obtain rfl : j = rl'.length:=by omega
     have d3 : decide ((rl'.length : Int) < (rl'.length : Int)) = false:=decide_eq_false (by omega)
     go_wp2_with fail
     go_roundw
     case rel=>exact ⟨k + 1,by omega,by go_num,HS3.out⟩
     case measure=>simp [intOf];omega
 obtain rfl : k = im.length:=by omega
 have dq0 : decide ((im.length : Int) < (im.length : Int)) = false:=decide_eq_false (by omega)
 go_upto_region 14 with fail
 go_loopw [7] (fun i wr=>∃ k : Nat,k ≤ se.length ∧ i = .int .i64 k ∧ SN W wr b1 b2 ⟨ia,ic,im,sa,sc,se,na,nc,inp⟩ ⟨ia',ic',im',sa',sc',se,na',nc',inp⟩) (fun i _=>se.length - (intOf i).toNat)
 case atStart=>exact ⟨0,by omega,rfl,HSM.out⟩
 clear HSM
 (clear p0 p1 p2 q0 q1 q2)
 obtain ⟨k,hk,rfl,hsm⟩:=hrel
 have HSM:=Lib.hid hsm
 clear hsm
 (have p0:=(HSM.out).x.cell 0 _ rfl;have p1:=(HSM.out).x.cell 1 _ rfl;have p2:=(HSM.out).x.cell 2 _ rfl;have q0:=(HSM.out).y.cell 0 _ rfl;have q1:=(HSM.out).y.cell 1 _ rfl;have q2:=(HSM.out).y.cell 2 _ rfl)
 by_cases hlt : k < se.length
 case pos=>
  obtain ⟨g1,o1,ha1,hc1⟩:=HSM.out.cx.se_at k hlt
  obtain ⟨g2,o2,ha2,hc2⟩:=HSM.out.cy.se_at k hlt
  obtain ⟨rw_,hrw⟩ : ∃ x,x = se[k]:=⟨_,rfl⟩
  simp only at ha1 ha2 hc1 hc2
  subst ha1;subst ha2
  rw [← hrw] at hc1 hc2
  clear hrw
  have u0:=hc1 _ (Below.refl _ _) 0 _ (by decide) rfl;have u1:=hc1 _ (Below.refl _ _) 1 _ (by decide) rfl
  have v0:=hc2 _ (Below.refl _ _) 0 _ (by decide) rfl;have v1:=hc2 _ (Below.refl _ _) 1 _ (by decide) rfl
  simp only [Nat.add_zero] at u0 v0
  have heq:=eqSe rw_.1 (ba rw_.2)
  have d1 : decide ((k : Int) < (se.length : Int)) = true:=decide_eq_true (by omega)
  have d1' : decide (k < se.length) = true:=decide_eq_true hlt
  have w1 : IntKind.i64.wrap ((k : Int) + 1) = (k : Int) + 1:=by rw [IntKind.wrap_i64];omega
  clear hc1 hc2
  go_upto_region 16 with fail
  go_region
  all_goals
   go_wp2_with fail
   go_roundw
   case rel=>exact ⟨k + 1,by omega,by go_num,HSM.out.more (by first | exact (Below.refl _ _).drew | exact Below.refl _ _)⟩
   case measure=>simp [intOf];omega
 obtain rfl : k = se.length:=by omega
 have dq : decide ((se.length : Int) < (se.length : Int)) = false:=decide_eq_false (by omega)
 go_upto_region 19 with fail
 go_loopw [8] (fun i wr=>∃ k : Nat,k ≤ inp.length ∧ i = .int .i64 k ∧ SN W wr b1 b2 ⟨ia,ic,im,sa,sc,se,na,nc,inp⟩ ⟨ia',ic',im',sa',sc',se,na',nc',inp⟩) (fun i _=>inp.length - (intOf i).toNat)
 case atStart=>exact ⟨0,by omega,rfl,HSM.out⟩
 clear HSM
 (clear p0 p1 p2 q0 q1 q2)
 obtain ⟨k,hk,rfl,hsm⟩:=hrel
 have HSM:=Lib.hid hsm
 clear hsm
 (have p0:=(HSM.out).x.cell 0 _ rfl;have p1:=(HSM.out).x.cell 1 _ rfl;have p2:=(HSM.out).x.cell 2 _ rfl;have q0:=(HSM.out).y.cell 0 _ rfl;have q1:=(HSM.out).y.cell 1 _ rfl;have q2:=(HSM.out).y.cell 2 _ rfl)
 by_cases hlt : k < inp.length
 case pos=>
  obtain ⟨g1,o1,ha1,hc1⟩:=HSM.out.cx.in_at k hlt
  obtain ⟨g2,o2,ha2,hc2⟩:=HSM.out.cy.in_at k hlt
  obtain ⟨rw_,hrw⟩ : ∃ x,x = inp[k]:=⟨_,rfl⟩
  simp only at ha1 ha2 hc1 hc2
  subst ha1;subst ha2
  rw [← hrw] at hc1 hc2
  clear hrw
  have u0:=hc1 _ (Below.refl _ _) 0 _ (by decide) rfl;have u1:=hc1 _ (Below.refl _ _) 1 _ (by decide) rfl
  have v0:=hc2 _ (Below.refl _ _) 0 _ (by decide) rfl;have v1:=hc2 _ (Below.refl _ _) 1 _ (by decide) rfl
  simp only [Nat.add_zero] at u0 v0
  have u2:=hc1 _ (Below.refl _ _) 2 _ (by decide) rfl;have v2:=hc2 _ (Below.refl _ _) 2 _ (by decide) rfl;have u3:=hc1 _ (Below.refl _ _) 3 _ (by decide) rfl;have v3:=hc2 _ (Below.refl _ _) 3 _ (by decide) rfl;have u4:=hc1 _ (Below.refl _ _) 4 _ (by decide) rfl;have v4:=hc2 _ (Below.refl _ _) 4 _ (by decide) rfl;have heq:=eqIn rw_.1 rw_.2.1 rw_.2.2.1 rw_.2.2.2.1 (ba rw_.2.2.2.2)
  have d1 : decide ((k : Int) < (inp.length : Int)) = true:=decide_eq_true (by omega)
  have d1' : decide (k < inp.length) = true:=decide_eq_true hlt
  have w1 : IntKind.i64.wrap ((k : Int) + 1) = (k : Int) + 1:=by rw [IntKind.wrap_i64];omega
  clear hc1 hc2
  go_upto_region 21 with fail
  go_region
  all_goals
   go_wp2_with fail
   go_roundw
   case rel=>exact ⟨k + 1,by omega,by go_num,HSM.out.more (by first | exact (Below.refl _ _).drew | exact Below.refl _ _)⟩
   case measure=>simp [intOf];omega
 obtain rfl : k = inp.length:=by omega
 have dq : decide ((inp.length : Int) < (inp.length : Int)) = false:=decide_eq_false (by omega)
 go_wp2_with fail
 go_ret
 exact ⟨rfl,HSM.out.bel⟩
end Go.Proofs.YtoklonmiejdgmaaGreatDoor
/- The walk of ScriptReads. -/
namespace Go.Proofs.YtoklonmiejdgmaaGreatDoor
set_option linter.unusedVariables false
set_option linter.unusedSimpArgs false
set_option linter.unnecessarySimpa false
open Go.RowKit Go.Sort
set_option maxHeartbeats 4000000
set_option maxRecDepth 100000
set_option linter.unusedVariables false
/-- A configuration and a script, boxed one after the other. -/
structure CS (W0 W : World) (x : Nat) (c : Cv) (v : Sv) : Prop where
 bel : Below W0.heap.size W0 W
 oc : ObjAt W x 29 (cfgL c)
 os : ObjAt W (x + 1) 34 #[.slice v.ia v.im.length v.ic,.slice v.sa v.se.length v.sc,.slice v.na v.inp.length v.nc].toList
 cok : CfgOk W c
 vok : ScOk W v
theorem cs_new (W0 : World) (c : Cv) (v : Sv) (hc : CfgOk W0 c) (hv : ScOk W0 v) : CS W0 ((W0.alloc (.cells #[.int .i64 c.cats,.slice c.g.a c.g.l.length c.g.cap,.slice c.r.a c.r.l.length c.r.cap,.slice c.p.a c.p.l.length c.p.cap,.slice c.n.a c.n.l.length c.n.cap,.slice c.s.a c.s.l.length c.s.cap,.int .i64 c.gate,.int .i64 c.quota] 29)).alloc (.cells #[.slice v.ia v.im.length v.ic,.slice v.sa v.se.length v.sc,.slice v.na v.inp.length v.nc] 34)) W0.heap.size c v:=by
 have s1 : (W0.alloc (.cells #[.int .i64 c.cats,.slice c.g.a c.g.l.length c.g.cap,.slice c.r.a c.r.l.length c.r.cap,.slice c.p.a c.p.l.length c.p.cap,.slice c.n.a c.n.l.length c.n.cap,.slice c.s.a c.s.l.length c.s.cap,.int .i64 c.gate,.int .i64 c.quota] 29)).heap.size = W0.heap.size + 1:=World.size_alloc _ _
 have hb : Below W0.heap.size W0 ((W0.alloc (.cells #[.int .i64 c.cats,.slice c.g.a c.g.l.length c.g.cap,.slice c.r.a c.r.l.length c.r.cap,.slice c.p.a c.p.l.length c.p.cap,.slice c.n.a c.n.l.length c.n.cap,.slice c.s.a c.s.l.length c.s.cap,.int .i64 c.gate,.int .i64 c.quota] 29)).alloc (.cells #[.slice v.ia v.im.length v.ic,.slice v.sa v.se.length v.sc,.slice v.na v.inp.length v.nc] 34)):=((Below.refl _ _).alloc (Nat.le_refl _) _).alloc (by rw [s1];omega) _
 refine ⟨hb,(ObjAt.new W0 29 (cfgL c)).below ((Below.refl _ _).alloc (Nat.le_refl _) _),?_,hc.below hb,hv.below hb⟩
 have:=ObjAt.new (W0.alloc (.cells #[.int .i64 c.cats,.slice c.g.a c.g.l.length c.g.cap,.slice c.r.a c.r.l.length c.r.cap,.slice c.p.a c.p.l.length c.p.cap,.slice c.n.a c.n.l.length c.n.cap,.slice c.s.a c.s.l.length c.s.cap,.int .i64 c.gate,.int .i64 c.quota] 29)) 34 #[.slice v.ia v.im.length v.ic,.slice v.sa v.se.length v.sc,.slice v.na v.inp.length v.nc].toList
 rw [s1] at this;exact this
theorem CS.more {W0 W W' : World} {x : Nat} {c : Cv} {v : Sv} (h : CS W0 W x c v) (hb : Below W.heap.size W W') : CS W0 W' x c v:=⟨bmore h.bel hb,h.oc.below hb,h.os.below hb,h.cok.below hb,h.vok.below hb⟩
theorem sreads_walk (s : ByteArray) (w : World) (hs : s.size ≤ maxLen) (hT : WdTab w) (hI : Isa.Tab w) : Calls Tryz.prog 3 #[.string s] w fun e w'=>e = .returned (.bool true) ∧ Below w.heap.size w w':=by
 have HAW : Hid (∀ W,Below w.heap.size w W → Calls Tryz.prog 7 #[] W fun e w'=>e = .returned (.bool true) ∧ Below W.heap.size W w'):=fun W h=>sawake_any W (hT.below h) (hI.below h)
 by_cases h2 : 5000 < s.size
 ·have d1 : decide ((s.size : Int) > 5000) = true:=decide_eq_true (by omega)
  have d1' : decide (5000 < s.size) = true:=decide_eq_true h2
  clear h2 hT hI
  go_enter Tryz.func3,Tryz.ntmps3
  go_wp2_with (go_at_call 7;refine (HAW.out _ (Below.refl _ _)).mono ?_;rintro e w3 ⟨rfl,hb3⟩)
  go_ret
  exact ⟨rfl,hb3⟩
 ·have d1 : decide ((s.size : Int) > 5000) = false:=decide_eq_false (by omega)
  have d1' : decide (5000 < s.size) = false:=decide_eq_false h2
  obtain ⟨t,ht⟩ : ∃ t,t = s.data.toList:=⟨_,rfl⟩
  have HP1:=Lib.hid (sparse_any s hs w hT hI)
  have HP2:=fun W=>Lib.hid (rsparse_any s hs W)
  rw [← ht] at HP1 HP2
  obtain ⟨ev,hev⟩ : ∃ v,Hid (v = (scV t).2.2.1):=⟨_,Lib.hid rfl⟩
  obtain ⟨av,hav⟩ : ∃ v,Hid (v = (scV t).2.2.2):=⟨_,Lib.hid rfl⟩
  obtain ⟨pv,hpv⟩ : ∃ v,Hid (v = (scV t).1):=⟨_,Lib.hid rfl⟩
  obtain ⟨qv,hqv⟩ : ∃ v,Hid (v = (scV t).2.1):=⟨_,Lib.hid rfl⟩
  have HPU : Hid (∀ W e w',SpPost t W e w' → ∃ (c : Cv) (v : Sv),e = .returned (.tuple #[.agg #[.int .i64 c.cats,.slice c.g.a c.g.l.length c.g.cap,.slice c.r.a c.r.l.length c.r.cap,.slice c.p.a c.p.l.length c.p.cap,.slice c.n.a c.n.l.length c.n.cap,.slice c.s.a c.s.l.length c.s.cap,.int .i64 c.gate,.int .i64 c.quota],.agg #[.slice v.ia v.im.length v.ic,.slice v.sa v.se.length v.sc,.slice v.na v.inp.length v.nc],.int .i64 ev,.int .i64 av]) ∧ CfgOk w' c ∧ ScOk w' v ∧ pcOf c = pv ∧ scOf v = qv ∧ Below W.heap.size W w'):=fun W e w' h=>by rw [hev.out,hav.out,hpv.out,hqv.out];exact h
  have ee : (ev == ev) = true:=by simp
  have aa : (av == av) = true:=by simp
  clear h2 ht hT hI hev hav hpv hqv
  go_enter Tryz.func3,Tryz.ntmps3
  go_wp2_with fail
  refine HP1.out.mono ?_;intro e w1 h1
  obtain ⟨c,v,rfl,ok1,vk1,p1,q1,b1⟩:=HPU.out _ _ _ h1
  obtain ⟨W1,hW1⟩ : ∃ W1,W1 = (w1.alloc (.cells #[.int .i64 c.cats,.slice c.g.a c.g.l.length c.g.cap,.slice c.r.a c.r.l.length c.r.cap,.slice c.p.a c.p.l.length c.p.cap,.slice c.n.a c.n.l.length c.n.cap,.slice c.s.a c.s.l.length c.s.cap,.int .i64 c.gate,.int .i64 c.quota] 29)).alloc (.cells #[.slice v.ia v.im.length v.ic,.slice v.sa v.se.length v.sc,.slice v.na v.inp.length v.nc] 34):=⟨_,rfl⟩
  have HX1 : Hid (CS w1 W1 w1.heap.size c v):=by rw [hW1];exact cs_new w1 c v ok1 vk1
  have HB1:=Lib.hid (bmore b1 HX1.out.bel)
  have HPC1:=Lib.hid p1
  have HQC1:=Lib.hid q1
  have HW1:=Lib.hid hW1
  clear h1 ok1 vk1 p1 q1 b1 hW1 HP1
  go_upto_region 4 with fail
  rw [← HW1.out]
  generalize w1.heap.size = x1 at HX1 ⊢
  go_wp2_with fail
  refine ((HP2 _).out).mono ?_;intro e w2 h2
  obtain ⟨d,u,rfl,ok2,vk2,p2,q2,b2⟩:=HPU.out _ _ _ h2
  obtain ⟨W2,hW2⟩ : ∃ W2,W2 = (w2.alloc (.cells #[.int .i64 d.cats,.slice d.g.a d.g.l.length d.g.cap,.slice d.r.a d.r.l.length d.r.cap,.slice d.p.a d.p.l.length d.p.cap,.slice d.n.a d.n.l.length d.n.cap,.slice d.s.a d.s.l.length d.s.cap,.int .i64 d.gate,.int .i64 d.quota] 29)).alloc (.cells #[.slice u.ia u.im.length u.ic,.slice u.sa u.se.length u.sc,.slice u.na u.inp.length u.nc] 34):=⟨_,rfl⟩
  have HX2 : Hid (CS w2 W2 w2.heap.size d u):=by rw [hW2];exact cs_new w2 d u ok2 vk2
  have HB2:=Lib.hid (bmore (bmore HB1.out b2) HX2.out.bel)
  have HX1b:=Lib.hid ((HX1.out.more b2).more HX2.out.bel)
  have HPC2:=Lib.hid p2
  have HQC2:=Lib.hid q2
  have HW2:=Lib.hid hW2
  clear h2 ok2 vk2 p2 q2 b2 hW2 HP2 HX1
  go_upto_region 5 with fail
  rw [← HW2.out]
  generalize w2.heap.size = x2 at HX2 ⊢
  have p0:=(HX1b.out.oc).cell 0 _ rfl;have p1:=(HX1b.out.oc).cell 1 _ rfl;have p2:=(HX1b.out.oc).cell 2 _ rfl;have p3:=(HX1b.out.oc).cell 3 _ rfl;have p4:=(HX1b.out.oc).cell 4 _ rfl;have p5:=(HX1b.out.oc).cell 5 _ rfl;have p6:=(HX1b.out.oc).cell 6 _ rfl;have p7:=(HX1b.out.oc).cell 7 _ rfl
  have q0:=(HX2.out.oc).cell 0 _ rfl;have q1:=(HX2.out.oc).cell 1 _ rfl;have q2:=(HX2.out.oc).cell 2 _ rfl;have q3:=(HX2.out.oc).cell 3 _ rfl;have q4:=(HX2.out.oc).cell 4 _ rfl;have q5:=(HX2.out.oc).cell 5 _ rfl;have q6:=(HX2.out.oc).cell 6 _ rfl;have q7:=(HX2.out.oc).cell 7 _ rfl
  have HSA:=Lib.hid (alike_any W2 c d HX1b.out.cok HX2.out.cok (HPC1.out.trans HPC2.out.symm))
  have HSS : Hid (∀ W',Below W2.heap.size W2 W' → Calls Tryz.prog 11 #[.agg #[.slice v.ia v.im.length v.ic,.slice v.sa v.se.length v.sc,.slice v.na v.inp.length v.nc],.agg #[.slice u.ia u.im.length u.ic,.slice u.sa u.se.length u.sc,.slice u.na u.inp.length u.nc]] W' fun e w'=>e = .returned (.bool true) ∧ Below W'.heap.size W' w'):=fun W' hb=>ssame_any W' v u (HX1b.out.vok.below hb) (HX2.out.vok.below hb) (HQC1.out.trans HQC2.out.symm)
  have HC8 : Hid (∀ W',Below W2.heap.size W2 W' → (W'.cell? ⟨x1 + 1,0,none⟩ = some (.slice v.ia v.im.length v.ic) ∧ W'.cell? ⟨x1 + 1,1,none⟩ = some (.slice v.sa v.se.length v.sc) ∧ W'.cell? ⟨x1 + 1,2,none⟩ = some (.slice v.na v.inp.length v.nc)) ∧ (W'.cell? ⟨x2 + 1,0,none⟩ = some (.slice u.ia u.im.length u.ic) ∧ W'.cell? ⟨x2 + 1,1,none⟩ = some (.slice u.sa u.se.length u.sc) ∧ W'.cell? ⟨x2 + 1,2,none⟩ = some (.slice u.na u.inp.length u.nc))):=fun W' hb=>by
   have h1:=(HX1b.out.more hb).os
   have h2:=(HX2.out.more hb).os
   exact ⟨⟨h1.cell 0 _ rfl,h1.cell 1 _ rfl,h1.cell 2 _ rfl⟩,h2.cell 0 _ rfl,h2.cell 1 _ rfl,h2.cell 2 _ rfl⟩
  go_wp2_with (first | (go_at_call 10;refine HSA.out.mono ?_;rintro e w7 ⟨rfl,b7⟩;have HB7:=Lib.hid b7;obtain ⟨⟨r0,r1,r2⟩,t0,t1,t2⟩:=HC8.out _ b7;clear b7 p0 p1 p2 p3 p4 p5 p6 p7 q0 q1 q2 q3 q4 q5 q6 q7) | (go_at_call 11;refine (HSS.out _ HB7.out).mono ?_;rintro e w8 ⟨rfl,b8⟩;have HB8:=Lib.hid (bmore HB2.out (bmore HB7.out b8));clear b8) | (go_at_call 7;refine (HAW.out _ HB8.out).mono ?_;rintro e w9 ⟨rfl,b9⟩;have HB9:=Lib.hid (bmore HB8.out b9);clear b9))
  go_ret
  exact ⟨rfl,HB9.out⟩
end Go.Proofs.YtoklonmiejdgmaaGreatDoor
/- The tables that the row of ScriptReads lists. -/
namespace Go.Proofs.YtoklonmiejdgmaaGreatDoor
set_option linter.unusedVariables false
set_option linter.unusedSimpArgs false
set_option linter.unnecessarySimpa false
open Go.ChangeShapes Go.WideShapes Go.ChangeAt Go.RowKit
set_option linter.unusedVariables false
set_option maxRecDepth 100000
def keepN (n : String) (x : String × DataW Unit) : Bool:=x.1 == n
def wordsI : List Int:=[2,4,4,3,3,3,3]
theorem word_of {W : World} (h : laidMetH Tryz.prog Rows.scriptReadsRow.laid W) : WdTab W:=by
 have h2 : laidMetH Tryz.prog [("hermitage/plan.words",Rows.laid_hermitage_plan_words)] W:=h.filter (keepN "hermitage/plan.words")
 have hg : Tryz.prog.globalNamed "hermitage/plan.words" = some 1:=by kernel_rfl
 have h3 : Lib.TabIs Tryz.prog W "hermitage/plan.words" .i64 wordsI:=Lib.tabIs_of_head (rest:=[]) (g:=1) (t:=152) (e:=3) (n:=7) hg (by kernel_rfl) Tryz.underlying152 Tryz.underlying3 (by kernel_rfl) (by kernel_rfl) h2
 intro k hk
 have:=h3.cell hg k hk
 rcases (by omega : k = 0 ∨ k = 1 ∨ k = 2 ∨ k = 3 ∨ k = 4 ∨ k = 5 ∨ k = 6) with rfl | rfl | rfl | rfl | rfl | rfl | rfl <;> exact this
theorem has_of {W : World} (h : laidMetH Tryz.prog Rows.scriptReadsRow.laid W) : Isa.Tab W:=by
 have h2 : laidMetH Tryz.prog [("hermitage/isa.has",Rows.laid_hermitage_isa_has)] W:=h.filter (keepN "hermitage/isa.has")
 have hg : Tryz.prog.globalNamed "hermitage/isa.has" = some 2:=by kernel_rfl
 have h3 : Lib.TabIs Tryz.prog W "hermitage/isa.has" .i64 Isa.hasL:=Lib.tabIs_of_head (rest:=[]) (g:=2) (t:=254) (e:=3) (n:=42) hg (by kernel_rfl) Tryz.underlying254 Tryz.underlying3 (by kernel_rfl) (by kernel_rfl) h2
 exact fun i hi=>h3.cell hg i hi
def tabAcc : List Int:=[128,191,160,191,128,159,144,191,128,143,0,0,0,0,0,0,0,0,0,0,0,0,0,0,0,0,0,0,0,0,0,0]
noncomputable def layT (g : Nat) (vs : List Value) (h : Array Obj) : Array Obj:=h.modify g fun
 | .cells _ t frozen=>.cells vs.toArray t frozen
 | o=>o
noncomputable def layAll (h : Array Obj) : Array Obj:=
 layT 4 (Go.Pinned.utf8FirstZ.map fun (n : Nat)=>Value.int .u8 n) (layT 5 (tabAcc.map (Value.int .u8)) (layT 1 (wordsI.map (Value.int .i64)) (layT 2 (Isa.hasL.map (Value.int .i64)) h)))
end Go.Proofs.YtoklonmiejdgmaaGreatDoor
