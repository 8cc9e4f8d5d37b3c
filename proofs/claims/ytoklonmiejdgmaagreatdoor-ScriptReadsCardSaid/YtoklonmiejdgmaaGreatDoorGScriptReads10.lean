/- The reference's rest: the walk. -/
import Derived.Test.YtoklonmiejdgmaaGreatDoorGScriptReads9
import Derived.Test.YtoklonmiejdgmaaGreatDoorGScriptReads7
namespace Go.Proofs.YtoklonmiejdgmaaGreatDoor
set_option linter.unusedVariables false
set_option linter.unusedSimpArgs false
set_option linter.unnecessarySimpa false
open Go.RowKit Go.Sort
set_option maxHeartbeats 4000000
set_option maxRecDepth 100000
set_option linter.unusedVariables false
/-- A script whose rows lie in blocks of their own from B on. -/
structure OS (B : Nat) (v : Sv) (W : World) : Prop where
 im : Own W B 69 1 v.ia v.im.length v.ic (imC v.im)
 row : ∀ x ∈ v.im,Own W B 70 1 x.a x.l.length x.cap (As.uC x.l)
 se : Own W B 72 2 v.sa v.se.length v.sc (seC v.se)
 inp : Own W B 74 5 v.na v.inp.length v.nc (inC v.inp)
theorem SB.os {w W : World} {b4 b7 : Nat} {v : Sv} (h : SB w b4 b7 v W) : OS w.heap.size v W:=⟨h.im,h.row,h.se,h.inp⟩
theorem OS.upd {W W' : World} {B b : Nat} {v : Sv} {cs : List Value} (h : OS B v W) (ho : ObjAt W b 34 cs) (hu : Upd b W W') : OS B v W':=
 ⟨h.im.upd hu (h.im.ne ho (by decide)),fun x hx=>(h.row x hx).upd hu ((h.row x hx).ne ho (by decide)),h.se.upd hu (h.se.ne ho (by decide)),h.inp.upd hu (h.inp.ne ho (by decide))⟩
def RrPost (w : World) (F : Sc × Int × Int) (e : Ending) (w' : World) : Prop:=
 Below w.heap.size w w' ∧ (F.2.1 = 0 → ∃ v : Sv,scOf v = F.1 ∧ OS w.heap.size v w' ∧ e = .returned (.tuple #[(.agg #[.slice v.ia v.im.length v.ic,.slice v.sa v.se.length v.sc,.slice v.na v.inp.length v.nc]),.int .i64 0,.int .i64 0])) ∧ (F.2.1 ≠ 0 → ∃ v : Sv,e = .returned (.tuple #[(.agg #[.slice v.ia v.im.length v.ic,.slice v.sa v.se.length v.sc,.slice v.na v.inp.length v.nc]),.int .i64 F.2.1,.int .i64 F.2.2]))
structure RQ (w : World) (b4 b7 : Nat) (L : List (List UInt8)) (F : Sc × Int × Int) (i : Nat) (last : Int) (v : Sv) (W : World) : Prop where
 sb : SB w b4 b7 v W
 fin : restS L i last (scOf v) = F
 lo : 0 ≤ last
 l1 : v.im.length ≤ i
 l2 : v.se.length ≤ i
 l3 : v.inp.length ≤ i
theorem sb_start (w : World) : SB w w.heap.size (w.heap.size + 1) sv0 ((w.alloc (.cells #[.slice none 0 0,.slice none 0 0,.slice none 0 0] 34)).alloc (.cells #[.slice none 0 0,.slice none 0 0,.slice none 0 0] 34)):=by
 have hz : (w.alloc (.cells #[.slice none 0 0,.slice none 0 0,.slice none 0 0] 34)).heap.size = w.heap.size + 1:=by simp
 refine ⟨((Below.refl _ _).alloc (Nat.le_refl _) _).alloc (by simp) _,Nat.le_refl _,Nat.le_succ _,by omega,?_,?_,Own.nil _ _ _ _,(fun x hx=>by cases hx),Own.nil _ _ _ _,Own.nil _ _ _ _⟩
 ·exact (ObjAt.new w 34 [.slice none 0 0,.slice none 0 0,.slice none 0 0]).below ((Below.refl _ _).alloc (Nat.le_refl _) _)
 ·have:=ObjAt.new (w.alloc (.cells #[.slice none 0 0,.slice none 0 0,.slice none 0 0] 34)) 34 [.slice none 0 0,.slice none 0 0,.slice none 0 0]
  rw [hz] at this;exact this
theorem rrest_any {w : World} {La : Option Addr} {Lc : Nat} {L : List (List UInt8)} (hr : RdW w La Lc L) (i : Nat) (hi : i ≤ L.length) (hll : L.length ≤ 100000) (hjl : (joinT L).length ≤ 100000) (hsm : ∀ x ∈ L,x.length ≤ 100000) :
  Calls Tryz.prog 30 #[.slice La L.length Lc,.int .i64 i] w (RrPost w (restS L i 0 sc0)):=by
 obtain ⟨i0,hi0,hz0,hz1,hz2⟩:=info_parts info_sec
 obtain ⟨i1,hi1,hy0,hy1,hy2⟩:=info_parts info_inp
 obtain ⟨F,hF⟩ : ∃ F,F = restS L i 0 sc0:=⟨_,rfl⟩
 obtain ⟨w1,hw1⟩ : ∃ w1,w1 = (w.alloc (.cells #[.slice none 0 0,.slice none 0 0,.slice none 0 0] 34)).alloc (.cells #[.slice none 0 0,.slice none 0 0,.slice none 0 0] 34):=⟨_,rfl⟩
 have hs:=sb_start w
 rw [← hw1] at hs
 have HQ0 : Hid (RQ w w.heap.size (w.heap.size + 1) L F i 0 sv0 w1):=⟨hs,by rw [hF];rfl,Int.le_refl _,Nat.zero_le _,Nat.zero_le _,Nat.zero_le _⟩
 have HW1:=Lib.hid hw1
 rw [← hF]
 have HEND : Hid (∀ i' last' v W' W'',L.length ≤ i' → RQ w w.heap.size (w.heap.size + 1) L F i' last' v W' → Upd w.heap.size W' W'' → RrPost w F (.returned (.tuple #[(.agg #[.slice v.ia v.im.length v.ic,.slice v.sa v.se.length v.sc,.slice v.na v.inp.length v.nc]),.int .i64 0,.int .i64 0])) W''):=fun i' last' v W' W'' hi hq hu=>by
  have:=hq.fin
  rw [restS_end hi] at this
  refine ⟨hq.sb.bel.trans (hu.below (Nat.le_refl _) hq.sb.bel.size),fun _=>⟨v,by rw [← this],hq.sb.os.upd hq.sb.o4 hu,rfl⟩,fun hn=>absurd (by rw [← this]) hn⟩
 have HERR : Hid (∀ i' last' v' W0 e at_ (v : Sv) W'',i' < L.length → RQ w w.heap.size (w.heap.size + 1) L F i' last' v' W0 → stepS L i' last' (scOf v') = .inl (e,at_) → Below w.heap.size w W'' → RrPost w F (.returned (.tuple #[(.agg #[.slice v.ia v.im.length v.ic,.slice v.sa v.se.length v.sc,.slice v.na v.inp.length v.nc]),.int .i64 e,.int .i64 at_])) W''):=fun i' last' v' W0 e at_ v W'' hi hq hs hb=>by
  have:=hq.fin
  rw [restS_bad hi hs] at this
  have hp:=stepS_pos hs
  rw [← this]
  exact ⟨hb,fun h0=>absurd h0 hp,fun _=>⟨v,rfl⟩⟩
 obtain ⟨R,hR⟩ : ∃ R,R = RrPost w F:=⟨_,rfl⟩
 rw [← hR] at HEND HERR ⊢
 have HSM:=Lib.hid hsm
 have HRD:=Lib.hid hr
 clear hF hR hsm hw1 hs hr
 go_enter Tryz.func30,Tryz.ntmps30
 go_upto_region 4 with fail
 rw [← HW1.out]
 go_loopw [8,9] (fun la x wr=>∃ (j : Nat) (last : Int) (v : Sv),la = .int .i64 last ∧ x = .int .i64 j ∧ j ≤ L.length ∧ RQ w w.heap.size (w.heap.size + 1) L F j last v wr) (fun _ x _=>L.length - (intOf x).toNat)
 case atStart=>exact ⟨i,0,sv0,rfl,rfl,hi,HQ0.out⟩
 case round=>
  clear HQ0
  obtain ⟨j,last,v,rfl,rfl,hj,hq⟩:=hrel
  have HQ:=Lib.hid hq
  clear hq
  by_cases hlt : j < L.length
  ·obtain ⟨g,o,rfl,hg,hc⟩:=HRD.out.at_ j hlt
   obtain ⟨y,hy⟩ : ∃ y,y = L[j]:=⟨_,rfl⟩
   have hyD : L.getD j [] = y:=by rw [List.getD_eq_getElem?_getD,List.getElem?_eq_getElem hlt,hy];rfl
   have hyl : y.length ≤ 100000:=by rw [hy];exact HSM.out _ (List.getElem_mem hlt)
   have HLC : Hid (∀ W',Below w.heap.size w W' → W'.cell? ⟨g,o + j,none⟩ = some (.string (ba y))):=fun W' hb=>by rw [hb.cell (p:=⟨g,o + j,none⟩) hg,hc j hlt,hy]
   have hle:=HRD.out.le
   have hmx:=HRD.out.mx
   unfold maxLen at hmx
   have d9 : decide ((j : Int) < (L.length : Int)) = true:=decide_eq_true (by omega)
   have d9' : decide (j < L.length) = true:=decide_eq_true hlt
   have wj : IntKind.i64.wrap ((j : Int) + 1) = (j : Int) + 1:=by rw [IntKind.wrap_i64];omega
   obtain ⟨k,hk⟩ : ∃ k,k = rankS y:=⟨_,rfl⟩
   obtain ⟨ws,hws⟩ : ∃ ws,ws = spW y:=⟨_,rfl⟩
   have HRK:=fun W=>Lib.hid (srank_any y hyl W)
   have HRS : Hid (∀ W e w',RkPost y W e w' → e = .returned (.int .i64 k) ∧ Below W.heap.size W w'):=fun W e w' h=>by rw [hk];exact h
   have HSP:=fun W=>Lib.hid (rsplit_any (ba y) (by rw [ba_size];omega) W)
   rw [ba_data] at HSP
   obtain ⟨wb,hwb⟩ : ∃ b,Hid (b = wordsB y):=⟨_,Lib.hid rfl⟩
   have HSS : Hid (∀ W e w',SplitPost y W e w' → ∃ a cap,e = .returned (.tuple #[.slice a ws.length cap,.bool wb]) ∧ RdW w' a cap ws ∧ Below W.heap.size W w'):=fun W e w' h=>by rw [hws,hwb.out];exact split_one h
   have HK:=Lib.hid hk
   have HW:=Lib.hid hws
   have HYD:=Lib.hid hyD
   clear hc hy hyD hk hws
   have n1:=HLC.out _ HQ.out.sb.bel
   by_cases h0 : k < last
   ·have HER:=fun W h=>Lib.hid (HERR.out j last v _ 6 ((j : Int) + 1) v W hlt HQ.out (by rw [stepS,HYD.out,← HK.out,if_pos h0]) h)
    have dk : decide (k < last) = true:=decide_eq_true h0
    clear h0
    go_upto_region 6 with (go_at_call 27;refine ((HRK _).out).mono ?_;intro e W2 hp;obtain ⟨rfl,hb⟩:=HRS.out _ _ _ hp;have HB:=Lib.hid (HQ.out.sb.more hb);clear hp hb)
    (have a0:=(HB.out).o4.cell 0 _ rfl;have a1:=(HB.out).o4.cell 1 _ rfl;have a2:=(HB.out).o4.cell 2 _ rfl;have g0:=(HB.out).o4.free 0;have g1:=(HB.out).o4.free 1;have g2:=(HB.out).o4.free 2;have d0:=(HB.out).o7.cell 0 _ rfl;have d1:=(HB.out).o7.cell 1 _ rfl;have d2:=(HB.out).o7.cell 2 _ rfl;have p0:=(HB.out).o7.free 0;have p1:=(HB.out).o7.free 1;have p2:=(HB.out).o7.free 2;have s6:=(HB.out).o4.lt;have s7:=(HB.out).o7.lt)
    go_wp2_with fail
    (refine bodyPost_ret (v:=.tuple #[(.agg #[.slice v.ia v.im.length v.ic,.slice v.sa v.se.length v.sc,.slice v.na v.inp.length v.nc]),.int .i64 6,.int .i64 ((j : Int) + 1)]) (by simp [results,Tryz.results30,go_sem,a0,a1,a2,s6]) rfl ?_)
    exact (HER _ (((HB.out.bel.setCell (Nat.le_refl _) _).setCell (Nat.le_refl _) _).setCell (Nat.le_refl _) _)).out
   ·have hk3 : wordsB y = true ∧ (k = 0 ∨ k = 1 ∨ k = 2):=by
     rcases rankS_cases y with h | h
     ·rw [← HK.out] at h;have:=HQ.out.lo;omega
     ·rw [← HK.out] at h;exact h
    have hwf : ws = fieldsC 32 y:=by rw [HW.out,spW,hk3.1];rfl
    have hwl : ws.length ≤ 1000000:=by
     rw [hwf,fieldsC_len]
     have:=List.count_le_length (a:=(32 : UInt8)) (l:=y);omega
    have HWSM : Hid (∀ x ∈ ws,x.length ≤ 100000):=fun x hx=>by
     rw [hwf] at hx
     have:=(fieldsC_mem 32 y x hx).2;omega
    have b1:=HQ.out.l1
    have b2:=HQ.out.l2
    have b3:=HQ.out.l3
    have HWF:=Lib.hid hwf
    have HK3:=Lib.hid hk3.2
    have dk : decide (k < last) = false:=decide_eq_false h0
    have H0:=Lib.hid h0
    clear hwf hk3 h0
    go_upto_region 6 with (go_at_call 27;refine ((HRK _).out).mono ?_;intro e W2 hp;obtain ⟨rfl,hb⟩:=HRS.out _ _ _ hp;have HB:=Lib.hid (HQ.out.sb.more hb);clear hp hb)
    clear n1
    have n1:=HLC.out _ HB.out.bel
    go_upto_region 10 with (go_at_call 57;refine ((HSP _).out).mono ?_;intro e W3 hp;obtain ⟨sa,sc,rfl,hR,hb⟩:=HSS.out _ _ _ hp;have HRW:=Lib.hid hR;have HB:=Lib.hid (HB.out.more hb);clear hp hb hR)
    clear n1
    rcases HK3.out with k0 | k0 | k0
    ·have z0 : (k == 0) = true:=by rw [k0];rfl
     have HK0:=Lib.hid k0
     have HST : Hid (stepS L j last (scOf v) = imgS L j (scOf v)):=by rw [Hid,stepS,HYD.out,← HK.out,if_neg (by have:=H0.out;omega),if_pos HK0.out]
     have HYF : Hid (fieldsC 32 (L.getD j []) = ws):=by rw [Hid,HYD.out,HWF.out]
     clear k0
     have w1 : IntKind.i64.wrap ((j : Int) + 1) = (j : Int) + 1:=wj
     obtain ⟨rv,hrv⟩ : ∃ x,Hid (x = rendV L (j + 1)):=⟨_,Lib.hid rfl⟩
     have HEN : Hid (∀ W',Below w.heap.size w W' → Calls Tryz.prog 60 #[.slice (some ⟨g,o,none⟩) L.length Lc,.int .i64 ((j : Int) + 1)] W' fun e w'=>e = .returned (.int .i64 rv) ∧ w' = W'):=fun W' hb=>by
      have:=rends_any (some ⟨g,o,none⟩) Lc L (j + 1) (by omega) W' (HRD.out.below hb)
      rw [← hrv.out] at this;exact this
     cases he : endS L (j + 1) with
     | none=>
      obtain rfl : rv = -1:=by rw [hrv.out,rendV,he]
      have HER:=fun W v' h=>Lib.hid (HERR.out j last v _ 6 ((j : Int) + 1) v' W hlt HQ.out (by rw [HST.out,imgS,he]) h)
      clear he hrv
      go_upto_region 17 with (go_at_call 60;refine (HEN.out _ HB.out.bel).mono ?_;intro e W4 hp;obtain ⟨rfl,hw4⟩:=hp;have HB : Hid (SB w w.heap.size (w.heap.size + 1) v W4):=hw4 ▸ HB.out;clear hw4)
      (have a0:=(HB.out).o4.cell 0 _ rfl;have a1:=(HB.out).o4.cell 1 _ rfl;have a2:=(HB.out).o4.cell 2 _ rfl;have g0:=(HB.out).o4.free 0;have g1:=(HB.out).o4.free 1;have g2:=(HB.out).o4.free 2;have d0:=(HB.out).o7.cell 0 _ rfl;have d1:=(HB.out).o7.cell 1 _ rfl;have d2:=(HB.out).o7.cell 2 _ rfl;have p0:=(HB.out).o7.free 0;have p1:=(HB.out).o7.free 1;have p2:=(HB.out).o7.free 2;have s6:=(HB.out).o4.lt;have s7:=(HB.out).o7.lt)
      by_cases hw1 : ws.length = 1
      ·have n1 : ((ws.length : Int) != 1) = false:=by simp [hw1]
       clear hw1
       go_wp2_with fail
       (refine bodyPost_ret (v:=.tuple #[(.agg #[.slice v.ia v.im.length v.ic,.slice v.sa v.se.length v.sc,.slice v.na v.inp.length v.nc]),.int .i64 6,.int .i64 ((j : Int) + 1)]) (by simp [results,Tryz.results30,go_sem,a0,a1,a2,s6]) rfl ?_)
       exact (HER _ _ (((HB.out.bel.setCell (Nat.le_refl _) _).setCell (Nat.le_refl _) _).setCell (Nat.le_refl _) _)).out
      ·have n1 : ((ws.length : Int) != 1) = true:=by rw [bne_iff_ne];omega
       clear hw1
       go_wp2_with fail
       (refine bodyPost_ret (v:=.tuple #[(.agg #[.slice v.ia v.im.length v.ic,.slice v.sa v.se.length v.sc,.slice v.na v.inp.length v.nc]),.int .i64 6,.int .i64 ((j : Int) + 1)]) (by simp [results,Tryz.results30,go_sem,a0,a1,a2,s6]) rfl ?_)
       exact (HER _ _ (((HB.out.bel.setCell (Nat.le_refl _) _).setCell (Nat.le_refl _) _).setCell (Nat.le_refl _) _)).out
     | some e_=>
      obtain rfl : rv = (e_ : Int):=by rw [hrv.out,rendV,he]
      clear hrv
      obtain ⟨x1,x2,x3⟩:=endS_some he
      have ne_ : decide ((e_ : Int) < 0) = false:=decide_eq_false (by omega)
      by_cases hw1 : ws.length = 1
      ·have n1 : ((ws.length : Int) != 1) = false:=by simp [hw1]
       obtain ⟨tx,htx⟩ : ∃ tx,tx = joinT ((L.take e_).drop (j + 1)):=⟨_,rfl⟩
       have htl : tx.length ≤ 1000000:=by
        rw [htx]
        have h1:=joinT_drop (L.take e_) (j + 1)
        have h2:=joinT_take L e_
        omega
       have hcl : ((L.take e_).drop (j + 1)).length = e_ - (j + 1):=by rw [List.length_drop,List.length_take];omega
       have HTX : Hid (∀ W',Below w.heap.size w W' → Calls Tryz.prog 29 #[.slice (some ⟨g,o + (j + 1),none⟩) (e_ - (j + 1)) (Lc - (j + 1))] W' fun e w'=>e = .returned (.string (ba tx)) ∧ w' = W'):=fun W' hb=>by
        have:=rjoin_any (some ⟨g,o + (j + 1),none⟩) (Lc - (j + 1)) ((L.take e_).drop (j + 1)) W' ((rd_cut HRD.out (j + 1) e_ x2 (by omega)).below hb) (by rw [← htx];exact htl)
        rw [hcl,← htx] at this;exact this
       have HPG : Hid (∀ W',Calls Tryz.prog 61 #[.string (ba tx)] W' (As.PgPost tx W')):=fun W'=>by
        have:=As.rprogram_any (ba tx) (by rw [ba_size];omega) W'
        rw [ba_data] at this;exact this
       obtain ⟨pe,hpe⟩ : ∃ x,Hid (x = As.pgE tx):=⟨_,Lib.hid rfl⟩
       obtain ⟨pa,hpa⟩ : ∃ x,Hid (x = As.pgAt tx):=⟨_,Lib.hid rfl⟩
       obtain ⟨pl,hpl⟩ : ∃ x,Hid (x = As.pgL tx):=⟨_,Lib.hid rfl⟩
       have HPS : Hid (∀ W' e w',As.PgPost tx W' e w' → ∃ a cap,e = .returned (.tuple #[.slice a pl.length cap,.int .i64 pe,.int .i64 pa]) ∧ Own w' W'.heap.size 70 1 a pl.length cap (As.uC pl) ∧ Below W'.heap.size W' w'):=fun W' e w' h=>by rw [hpe.out,hpa.out,hpl.out];exact h
       have HIM : Hid (stepS L j last (scOf v) = if pe ≠ 0 then (if pa = 0 then .inl (pe,0) else .inl (pe,pa + (j : Int) + 1)) else .inr (e_ + 1,0,{ scOf v with im:=(scOf v).im ++ [pl] })):=by
        rw [Hid,HST.out,imgS,he]
        simp only
        rw [if_neg (by rw [HYF.out,hw1];simp),← htx,← hpe.out,← hpa.out,← hpl.out,show pa + (j : Int) + 1 = (j : Int) + 1 + pa by omega]
       have hpa0 : 0 ≤ pa ∧ pa ≤ 100000000:=by
        rw [hpa.out]
        refine ⟨pgAt_nn tx,?_⟩
        unfold As.pgAt As.pgBad
        split
        ·omega
        ·split
         ·rename_i hk
          have:=List.mem_range.1 (List.mem_of_find?_eq_some hk)
          have h2 : (As.lnL tx).length ≤ tx.length + 1:=by
           unfold As.lnL
           have:=fieldsC_len 10 tx
           have:=List.count_le_length (a:=(10 : UInt8)) (l:=tx)
           split
           ·rw [List.length_dropLast];omega
           ·omega
          omega
         ·omega
       obtain ⟨pa1,pa2⟩:=hpa0
       have w2 : IntKind.i64.wrap (pa + (j : Int)) = pa + (j : Int):=by rw [IntKind.wrap_i64];omega
       have w3 : IntKind.i64.wrap (pa + (j : Int) + 1) = pa + (j : Int) + 1:=by rw [IntKind.wrap_i64];omega
       have w4 : IntKind.i64.wrap ((e_ : Int) + 1) = (e_ : Int) + 1:=by rw [IntKind.wrap_i64];omega
       have hcn : ¬ Lc = j + 1:=by omega
       have k1 : (0 : Int) ≤ (j : Int) + 1:=by omega
       have k2 : (j : Int) + 1 ≤ (e_ : Int):=by omega
       have k3 : (e_ : Int) ≤ (Lc : Int):=by omega
       have k4 : ((j : Int) + 1).toNat = j + 1:=by omega
       have k5 : e_ ≤ Lc:=by omega
       have k6 : j + 1 ≤ e_:=x2
       clear htx hcl he x3 hw1
       go_upto_region 17 with (go_at_call 60;refine (HEN.out _ HB.out.bel).mono ?_;intro e W4 hp;obtain ⟨rfl,hw4⟩:=hp;have HB : Hid (SB w w.heap.size (w.heap.size + 1) v W4):=hw4 ▸ HB.out;clear hw4)
       go_upto_region 20 with (first | (go_at_call 29;refine (HTX.out _ HB.out.bel).mono ?_;intro e W5 hp;obtain ⟨rfl,hw5⟩:=hp;have HB : Hid (SB w w.heap.size (w.heap.size + 1) v W5):=hw5 ▸ HB.out;clear hw5) | (go_at_call 61;refine (HPG.out _).mono ?_;intro e W6 hp;obtain ⟨pA,pC,rfl,ho,hb⟩:=HPS.out _ _ _ hp;have HOW:=Lib.hid (ho.mono HB.out.bel.size);have HB:=Lib.hid (HB.out.more hb);clear hp ho hb))
       by_cases hz : pe = 0
       ·have z2 : (pe != 0) = false:=by simp [hz]
        have HFN : Hid (restS L (e_ + 1) k { scOf v with im:=(scOf v).im ++ [pl] } = F):=by
         rw [Hid,← HQ.out.fin,restS_step (r:=(e_ + 1,0,{ scOf v with im:=(scOf v).im ++ [pl] })) hlt (by rw [HIM.out,if_neg (by simp [hz])]),HK0.out]
        obtain ⟨i2,hi2,hx0,hx1,hx2⟩:=info_parts info_sl
        have hsz:=HB.out.bel.size
        clear hz
        (have a0:=(HB.out).o4.cell 0 _ rfl;have a1:=(HB.out).o4.cell 1 _ rfl;have a2:=(HB.out).o4.cell 2 _ rfl;have g0:=(HB.out).o4.free 0;have g1:=(HB.out).o4.free 1;have g2:=(HB.out).o4.free 2;have d0:=(HB.out).o7.cell 0 _ rfl;have d1:=(HB.out).o7.cell 1 _ rfl;have d2:=(HB.out).o7.cell 2 _ rfl;have p0:=(HB.out).o7.free 0;have p1:=(HB.out).o7.free 1;have p2:=(HB.out).o7.free 2;have s6:=(HB.out).o4.lt;have s7:=(HB.out).o7.lt)
        go_wp2_with (at_builtin;(refine wpList_own rfl (.tmp 102) (.tmp 104) 30 rfl w.heap.size 69 i2 _ 1 24 Tryz.underlying30 hi2 hx0 hx1 hx2 rfl (by omega) v.ia v.im.length v.ic (imC v.im) rfl (HB.out.im.below ((Below.refl _ _).alloc (Nat.le_refl _) _)) W6.heap.size [.slice pA pl.length pC] rfl (new_block _ _ _ rfl) rfl (by simp [Value.oneCell']) (by simp only [maxLen];omega) (by omega) (by simp;omega) ?_);intro g' c' w4 hown1 hmod1 _;have HO:=Lib.hid hown1;have HM:=Lib.hid hmod1;have HS4 : Hid (ObjAt w4 (w.heap.size + 1) 34 [.slice v.ia v.im.length v.ic,.slice v.sa v.se.length v.sc,.slice v.na v.inp.length v.nc]):=((HB.out.more ((Below.refl _ _).alloc (Nat.le_refl _) _)).o7.mod hmod1 (HB.out.im.ne HB.out.o7 (by decide)));have ff0:=HS4.out.free 0;have dd0:=HS4.out.cell 0 _ rfl;clear hown1 hmod1;(clear a0 a1 a2 g0 g1 g2 d0 d1 d2 p0 p1 p2 s6 s7))
        have HQ7:=Lib.hid (HB.out.addIm (x:=⟨pA,pC,pl⟩) ((Below.refl _ _).alloc (Nat.le_refl _) _) (HOW.out.below ((Below.refl _ _).alloc (Nat.le_refl _) _)) HO.out HM.out)
        go_roundw
        case rel=>exact ⟨e_ + 1,k,_,rfl,by go_num,by omega,HQ7.out,by have:=HFN.out;simpa [scOf] using this,by have:=HQ.out.lo;have:=H0.out;omega,by simp;omega,by show v.se.length ≤ _;omega,by show v.inp.length ≤ _;omega⟩
        case measure=>simp [intOf];omega
       ·have z2 : (pe != 0) = true:=by simp [hz]
        by_cases ha : 0 < pa
        ·have z3 : decide (0 < pa) = true:=decide_eq_true ha
         have HER:=fun W v' h=>Lib.hid (HERR.out j last v _ pe (pa + (j : Int) + 1) v' W hlt HQ.out (by rw [HIM.out,if_pos hz,if_neg (by omega)]) h)
         clear hz ha
         (have a0:=(HB.out).o4.cell 0 _ rfl;have a1:=(HB.out).o4.cell 1 _ rfl;have a2:=(HB.out).o4.cell 2 _ rfl;have g0:=(HB.out).o4.free 0;have g1:=(HB.out).o4.free 1;have g2:=(HB.out).o4.free 2;have d0:=(HB.out).o7.cell 0 _ rfl;have d1:=(HB.out).o7.cell 1 _ rfl;have d2:=(HB.out).o7.cell 2 _ rfl;have p0:=(HB.out).o7.free 0;have p1:=(HB.out).o7.free 1;have p2:=(HB.out).o7.free 2;have s6:=(HB.out).o4.lt;have s7:=(HB.out).o7.lt)
         go_wp2_with fail
         (refine bodyPost_ret (v:=.tuple #[(.agg #[.slice v.ia v.im.length v.ic,.slice v.sa v.se.length v.sc,.slice v.na v.inp.length v.nc]),.int .i64 pe,.int .i64 (pa + (j : Int) + 1)]) (by simp [results,Tryz.results30,go_sem,a0,a1,a2,s6]) rfl ?_)
         exact (HER _ _ (((HB.out.bel.setCell (Nat.le_refl _) _).setCell (Nat.le_refl _) _).setCell (Nat.le_refl _) _)).out
        ·obtain rfl : pa = 0:=by omega
         have HER:=fun W v' h=>Lib.hid (HERR.out j last v _ pe 0 v' W hlt HQ.out (by rw [HIM.out,if_pos hz,if_pos rfl]) h)
         clear hz ha
         (have a0:=(HB.out).o4.cell 0 _ rfl;have a1:=(HB.out).o4.cell 1 _ rfl;have a2:=(HB.out).o4.cell 2 _ rfl;have g0:=(HB.out).o4.free 0;have g1:=(HB.out).o4.free 1;have g2:=(HB.out).o4.free 2;have d0:=(HB.out).o7.cell 0 _ rfl;have d1:=(HB.out).o7.cell 1 _ rfl;have d2:=(HB.out).o7.cell 2 _ rfl;have p0:=(HB.out).o7.free 0;have p1:=(HB.out).o7.free 1;have p2:=(HB.out).o7.free 2;have s6:=(HB.out).o4.lt;have s7:=(HB.out).o7.lt)
         go_wp2_with fail
         (refine bodyPost_ret (v:=.tuple #[(.agg #[.slice v.ia v.im.length v.ic,.slice v.sa v.se.length v.sc,.slice v.na v.inp.length v.nc]),.int .i64 pe,.int .i64 0]) (by simp [results,Tryz.results30,go_sem,a0,a1,a2,s6]) rfl ?_)
         exact (HER _ _ (((HB.out.bel.setCell (Nat.le_refl _) _).setCell (Nat.le_refl _) _).setCell (Nat.le_refl _) _)).out
      ·have n1 : ((ws.length : Int) != 1) = true:=by rw [bne_iff_ne];omega
       have HER:=fun W v' h=>Lib.hid (HERR.out j last v _ 6 ((j : Int) + 1) v' W hlt HQ.out (by rw [HST.out,imgS,he];simp only;rw [if_pos (by rw [HYF.out];exact hw1)]) h)
       clear he x1 x2 x3 hw1
       go_upto_region 17 with (go_at_call 60;refine (HEN.out _ HB.out.bel).mono ?_;intro e W4 hp;obtain ⟨rfl,hw4⟩:=hp;have HB : Hid (SB w w.heap.size (w.heap.size + 1) v W4):=hw4 ▸ HB.out;clear hw4)
       (have a0:=(HB.out).o4.cell 0 _ rfl;have a1:=(HB.out).o4.cell 1 _ rfl;have a2:=(HB.out).o4.cell 2 _ rfl;have g0:=(HB.out).o4.free 0;have g1:=(HB.out).o4.free 1;have g2:=(HB.out).o4.free 2;have d0:=(HB.out).o7.cell 0 _ rfl;have d1:=(HB.out).o7.cell 1 _ rfl;have d2:=(HB.out).o7.cell 2 _ rfl;have p0:=(HB.out).o7.free 0;have p1:=(HB.out).o7.free 1;have p2:=(HB.out).o7.free 2;have s6:=(HB.out).o4.lt;have s7:=(HB.out).o7.lt)
       go_wp2_with fail
       (refine bodyPost_ret (v:=.tuple #[(.agg #[.slice v.ia v.im.length v.ic,.slice v.sa v.se.length v.sc,.slice v.na v.inp.length v.nc]),.int .i64 6,.int .i64 ((j : Int) + 1)]) (by simp [results,Tryz.results30,go_sem,a0,a1,a2,s6]) rfl ?_)
       exact (HER _ _ (((HB.out.bel.setCell (Nat.le_refl _) _).setCell (Nat.le_refl _) _).setCell (Nat.le_refl _) _)).out
    ·have z0 : (k == 0) = false:=by rw [k0];rfl
     have z1 : (k == 1) = true:=by rw [k0];rfl
     have HK0:=Lib.hid k0
     have HST : Hid (stepS L j last (scOf v) = secS j v ws):=by rw [Hid,stepS,HYD.out,← HK.out,if_neg (by have:=H0.out;omega),if_neg (by have:=HK0.out;omega),if_pos HK0.out,← HWF.out];rfl
     clear k0
     cases hsv : secV ws with
     | none=>
      have HER:=fun W v' h=>Lib.hid (HERR.out j last v _ 6 ((j : Int) + 1) v' W hlt HQ.out (by rw [HST.out,secS,hsv]) h)
      have HPS : Hid (∀ W e w',RsPost ws W e w' → (∃ (n : Int) (d : ByteArray),e = .returned (.tuple #[.agg #[.int .i64 n,.string d],.bool false])) ∧ Below W.heap.size W w'):=fun W e w' h=>⟨h.2.2 hsv,h.1⟩
      clear hsv
      go_upto_region 28 with (go_at_call 62;refine (rsector_any ws HWSM.out sa sc _ HRW.out).mono ?_;intro e W4 hp;obtain ⟨⟨n,d,rfl⟩,hb⟩:=HPS.out _ _ _ hp;have HB:=Lib.hid (HB.out.more hb);clear hp hb)
      have HB5:=Lib.hid (HB.out.more ((Below.refl _ _).alloc (Nat.le_refl _) (.cells #[.int .i64 n,.string d] 72)))
      obtain ⟨W5,hW5⟩ : ∃ W5,W5 = W4.alloc (.cells #[.int .i64 n,.string d] 72):=⟨_,rfl⟩
      rw [← hW5] at HB5 ⊢
      clear hW5
      (have a0:=(HB5.out).o4.cell 0 _ rfl;have a1:=(HB5.out).o4.cell 1 _ rfl;have a2:=(HB5.out).o4.cell 2 _ rfl;have g0:=(HB5.out).o4.free 0;have g1:=(HB5.out).o4.free 1;have g2:=(HB5.out).o4.free 2;have d0:=(HB5.out).o7.cell 0 _ rfl;have d1:=(HB5.out).o7.cell 1 _ rfl;have d2:=(HB5.out).o7.cell 2 _ rfl;have p0:=(HB5.out).o7.free 0;have p1:=(HB5.out).o7.free 1;have p2:=(HB5.out).o7.free 2;have s6:=(HB5.out).o4.lt;have s7:=(HB5.out).o7.lt)
      go_wp2_with fail
      (refine bodyPost_ret (v:=.tuple #[(.agg #[.slice v.ia v.im.length v.ic,.slice v.sa v.se.length v.sc,.slice v.na v.inp.length v.nc]),.int .i64 6,.int .i64 ((j : Int) + 1)]) (by simp [results,Tryz.results30,go_sem,a0,a1,a2,s6]) rfl ?_)
      exact (HER _ _ (((HB5.out.bel.setCell (Nat.le_refl _) _).setCell (Nat.le_refl _) _).setCell (Nat.le_refl _) _)).out
     | some x=>
      have HPS : Hid (∀ W e w',RsPost ws W e w' → e = .returned (.tuple #[.agg #[.int .i64 x.1,.string (ba x.2)],.bool true]) ∧ Below W.heap.size W w'):=fun W e w' h=>⟨h.2.1 x hsv,h.1⟩
      have HFN : Hid (restS L (j + 1) k { scOf v with se:=(scOf v).se ++ [x] } = F):=by
       rw [Hid,← HQ.out.fin,restS_step (r:=(j + 1,1,{ scOf v with se:=(scOf v).se ++ [x] })) hlt (by rw [HST.out,secS,hsv]),HK0.out]
      clear hsv
      go_upto_region 28 with (go_at_call 62;refine (rsector_any ws HWSM.out sa sc _ HRW.out).mono ?_;intro e W4 hp;obtain ⟨rfl,hb⟩:=HPS.out _ _ _ hp;have HB:=Lib.hid (HB.out.more hb);clear hp hb)
      have HB5:=Lib.hid (HB.out.more ((Below.refl _ _).alloc (Nat.le_refl _) (.cells #[.int .i64 x.1,.string (ba x.2)] 72)))
      have HO5:=Lib.hid (ObjAt.new W4 72 [.int .i64 x.1,.string (ba x.2)])
      obtain ⟨W5,hW5⟩ : ∃ W5,W5 = W4.alloc (.cells #[.int .i64 x.1,.string (ba x.2)] 72):=⟨_,rfl⟩
      rw [show [Value.int .i64 x.1,.string (ba x.2)].toArray = #[.int .i64 x.1,.string (ba x.2)] from rfl,← hW5] at HO5
      rw [← hW5] at HB5 ⊢
      clear hW5
      have hsz:=HB5.out.bel.size
      have e0:=HO5.out.cell 0 _ rfl
      have e1:=HO5.out.cell 1 _ rfl
      have s8:=HO5.out.lt
      (have a0:=(HB5.out).o4.cell 0 _ rfl;have a1:=(HB5.out).o4.cell 1 _ rfl;have a2:=(HB5.out).o4.cell 2 _ rfl;have g0:=(HB5.out).o4.free 0;have g1:=(HB5.out).o4.free 1;have g2:=(HB5.out).o4.free 2;have d0:=(HB5.out).o7.cell 0 _ rfl;have d1:=(HB5.out).o7.cell 1 _ rfl;have d2:=(HB5.out).o7.cell 2 _ rfl;have p0:=(HB5.out).o7.free 0;have p1:=(HB5.out).o7.free 1;have p2:=(HB5.out).o7.free 2;have s6:=(HB5.out).o4.lt;have s7:=(HB5.out).o7.lt)
      go_wp2_with (at_builtin;(refine wpList_own rfl (.tmp 121) (.tmp 123) 31 rfl w.heap.size 72 i0 _ 2 24 Tryz.underlying31 hi0 hz0 hz1 hz2 rfl (by omega) v.sa v.se.length v.sc (seC v.se) rfl (HB5.out.se.below ((Below.refl _ _).alloc (Nat.le_refl _) _)) W5.heap.size [.int .i64 x.1,.string (ba x.2)] rfl (new_block _ _ _ rfl) rfl (by simp [Value.oneCell']) (by simp only [maxLen];omega) (by omega) (by simp;omega) ?_);intro g' c' w4 hown1 hmod1 _;have HO:=Lib.hid hown1;have HM:=Lib.hid hmod1;have HS4 : Hid (ObjAt w4 (w.heap.size + 1) 34 [.slice v.ia v.im.length v.ic,.slice v.sa v.se.length v.sc,.slice v.na v.inp.length v.nc]):=((HB5.out.more ((Below.refl _ _).alloc (Nat.le_refl _) _)).o7.mod hmod1 (HB5.out.se.ne HB5.out.o7 (by decide)));have ff1:=HS4.out.free 1;have dd1:=HS4.out.cell 1 _ rfl;clear hown1 hmod1;(clear a0 a1 a2 g0 g1 g2 d0 d1 d2 p0 p1 p2 s6 s7))
      have HQ7:=Lib.hid (HB5.out.addSe (x:=x) ((Below.refl _ _).alloc (Nat.le_refl _) _) HO.out HM.out)
      go_roundw
      case rel=>exact ⟨j + 1,k,_,rfl,by go_num,by omega,HQ7.out,HFN.out,by have:=HQ.out.lo;have:=H0.out;omega,by show v.im.length ≤ _;omega,by simp;omega,by show v.inp.length ≤ _;omega⟩
      case measure=>simp [intOf];omega
    ·have z0 : (k == 0) = false:=by rw [k0];rfl
     have z1 : (k == 1) = false:=by rw [k0];rfl
     have HK0:=Lib.hid k0
     have HST : Hid (stepS L j last (scOf v) = inpS j v ws):=by rw [Hid,stepS,HYD.out,← HK.out,if_neg (by have:=H0.out;omega),if_neg (by have:=HK0.out;omega),if_neg (by have:=HK0.out;omega),← HWF.out];rfl
     clear k0
     cases hsv : inpV ws with
     | none=>
      have HER:=fun W v' h=>Lib.hid (HERR.out j last v _ 6 ((j : Int) + 1) v' W hlt HQ.out (by rw [HST.out,inpS,hsv]) h)
      have HPS : Hid (∀ W e w',RtPost ws W e w' → (∃ (n1 n2 n3 n4 : Int) (d : ByteArray),e = .returned (.tuple #[.agg #[.int .i64 n1,.int .i64 n2,.int .i64 n3,.int .i64 n4,.string d],.bool false])) ∧ Below W.heap.size W w'):=fun W e w' h=>⟨h.2.2 hsv,h.1⟩
      clear hsv
      go_upto_region 12 with (go_at_call 63;refine (rtaken_any ws HWSM.out sa sc _ HRW.out).mono ?_;intro e W4 hp;obtain ⟨⟨n1,n2,n3,n4,d,rfl⟩,hb⟩:=HPS.out _ _ _ hp;have HB:=Lib.hid (HB.out.more hb);clear hp hb)
      have HB5:=Lib.hid (HB.out.more ((Below.refl _ _).alloc (Nat.le_refl _) (.cells #[.int .i64 n1,.int .i64 n2,.int .i64 n3,.int .i64 n4,.string d] 74)))
      obtain ⟨W5,hW5⟩ : ∃ W5,W5 = W4.alloc (.cells #[.int .i64 n1,.int .i64 n2,.int .i64 n3,.int .i64 n4,.string d] 74):=⟨_,rfl⟩
      rw [← hW5] at HB5 ⊢
      clear hW5
      (have a0:=(HB5.out).o4.cell 0 _ rfl;have a1:=(HB5.out).o4.cell 1 _ rfl;have a2:=(HB5.out).o4.cell 2 _ rfl;have g0:=(HB5.out).o4.free 0;have g1:=(HB5.out).o4.free 1;have g2:=(HB5.out).o4.free 2;have d0:=(HB5.out).o7.cell 0 _ rfl;have d1:=(HB5.out).o7.cell 1 _ rfl;have d2:=(HB5.out).o7.cell 2 _ rfl;have p0:=(HB5.out).o7.free 0;have p1:=(HB5.out).o7.free 1;have p2:=(HB5.out).o7.free 2;have s6:=(HB5.out).o4.lt;have s7:=(HB5.out).o7.lt)
      go_wp2_with fail
      (refine bodyPost_ret (v:=.tuple #[(.agg #[.slice v.ia v.im.length v.ic,.slice v.sa v.se.length v.sc,.slice v.na v.inp.length v.nc]),.int .i64 6,.int .i64 ((j : Int) + 1)]) (by simp [results,Tryz.results30,go_sem,a0,a1,a2,s6]) rfl ?_)
      exact (HER _ _ (((HB5.out.bel.setCell (Nat.le_refl _) _).setCell (Nat.le_refl _) _).setCell (Nat.le_refl _) _)).out
     | some x=>
      have HPS : Hid (∀ W e w',RtPost ws W e w' → e = .returned (.tuple #[.agg #[.int .i64 x.1,.int .i64 x.2.1,.int .i64 x.2.2.1,.int .i64 x.2.2.2.1,.string (ba x.2.2.2.2)],.bool true]) ∧ Below W.heap.size W w'):=fun W e w' h=>⟨h.2.1 x hsv,h.1⟩
      have HFN : Hid (restS L (j + 1) k { scOf v with inp:=(scOf v).inp ++ [x] } = F):=by
       rw [Hid,← HQ.out.fin,restS_step (r:=(j + 1,2,{ scOf v with inp:=(scOf v).inp ++ [x] })) hlt (by rw [HST.out,inpS,hsv]),HK0.out]
      clear hsv
      go_upto_region 12 with (go_at_call 63;refine (rtaken_any ws HWSM.out sa sc _ HRW.out).mono ?_;intro e W4 hp;obtain ⟨rfl,hb⟩:=HPS.out _ _ _ hp;have HB:=Lib.hid (HB.out.more hb);clear hp hb)
      have HB5:=Lib.hid (HB.out.more ((Below.refl _ _).alloc (Nat.le_refl _) (.cells #[.int .i64 x.1,.int .i64 x.2.1,.int .i64 x.2.2.1,.int .i64 x.2.2.2.1,.string (ba x.2.2.2.2)] 74)))
      have HO5:=Lib.hid (ObjAt.new W4 74 [.int .i64 x.1,.int .i64 x.2.1,.int .i64 x.2.2.1,.int .i64 x.2.2.2.1,.string (ba x.2.2.2.2)])
      obtain ⟨W5,hW5⟩ : ∃ W5,W5 = W4.alloc (.cells #[.int .i64 x.1,.int .i64 x.2.1,.int .i64 x.2.2.1,.int .i64 x.2.2.2.1,.string (ba x.2.2.2.2)] 74):=⟨_,rfl⟩
      rw [show [Value.int .i64 x.1,.int .i64 x.2.1,.int .i64 x.2.2.1,.int .i64 x.2.2.2.1,.string (ba x.2.2.2.2)].toArray = #[.int .i64 x.1,.int .i64 x.2.1,.int .i64 x.2.2.1,.int .i64 x.2.2.2.1,.string (ba x.2.2.2.2)] from rfl,← hW5] at HO5
      rw [← hW5] at HB5 ⊢
      clear hW5
      have hsz:=HB5.out.bel.size
      have e0:=HO5.out.cell 0 _ rfl
      have e1:=HO5.out.cell 1 _ rfl
      have e2:=HO5.out.cell 2 _ rfl
      have e3:=HO5.out.cell 3 _ rfl
      have e4:=HO5.out.cell 4 _ rfl
      have s8:=HO5.out.lt
      (have a0:=(HB5.out).o4.cell 0 _ rfl;have a1:=(HB5.out).o4.cell 1 _ rfl;have a2:=(HB5.out).o4.cell 2 _ rfl;have g0:=(HB5.out).o4.free 0;have g1:=(HB5.out).o4.free 1;have g2:=(HB5.out).o4.free 2;have d0:=(HB5.out).o7.cell 0 _ rfl;have d1:=(HB5.out).o7.cell 1 _ rfl;have d2:=(HB5.out).o7.cell 2 _ rfl;have p0:=(HB5.out).o7.free 0;have p1:=(HB5.out).o7.free 1;have p2:=(HB5.out).o7.free 2;have s6:=(HB5.out).o4.lt;have s7:=(HB5.out).o7.lt)
      go_wp2_with (at_builtin;(refine wpList_own rfl (.tmp 58) (.tmp 60) 32 rfl w.heap.size 74 i1 _ 5 48 Tryz.underlying32 hi1 hy0 hy1 hy2 rfl (by omega) v.na v.inp.length v.nc (inC v.inp) rfl (HB5.out.inp.below ((Below.refl _ _).alloc (Nat.le_refl _) _)) W5.heap.size [.int .i64 x.1,.int .i64 x.2.1,.int .i64 x.2.2.1,.int .i64 x.2.2.2.1,.string (ba x.2.2.2.2)] rfl (new_block _ _ _ rfl) rfl (by simp [Value.oneCell']) (by simp only [maxLen];omega) (by omega) (by simp;omega) ?_);intro g' c' w4 hown1 hmod1 _;have HO:=Lib.hid hown1;have HM:=Lib.hid hmod1;have HS4 : Hid (ObjAt w4 (w.heap.size + 1) 34 [.slice v.ia v.im.length v.ic,.slice v.sa v.se.length v.sc,.slice v.na v.inp.length v.nc]):=((HB5.out.more ((Below.refl _ _).alloc (Nat.le_refl _) _)).o7.mod hmod1 (HB5.out.inp.ne HB5.out.o7 (by decide)));have ff2:=HS4.out.free 2;have dd2:=HS4.out.cell 2 _ rfl;clear hown1 hmod1;(clear a0 a1 a2 g0 g1 g2 d0 d1 d2 p0 p1 p2 s6 s7))
      have HQ7:=Lib.hid (HB5.out.addIn (x:=x) ((Below.refl _ _).alloc (Nat.le_refl _) _) HO.out HM.out)
      go_roundw
      case rel=>exact ⟨j + 1,k,_,rfl,by go_num,by omega,HQ7.out,HFN.out,by have:=HQ.out.lo;have:=H0.out;omega,by show v.im.length ≤ _;omega,by show v.se.length ≤ _;omega,by simp;omega⟩
      case measure=>simp [intOf];omega
  ·obtain rfl : j = L.length:=by omega
   have d1' : decide ((L.length : Int) < (L.length : Int)) = false:=decide_eq_false (by omega)
   (have a0:=(HQ.out.sb).o4.cell 0 _ rfl;have a1:=(HQ.out.sb).o4.cell 1 _ rfl;have a2:=(HQ.out.sb).o4.cell 2 _ rfl;have g0:=(HQ.out.sb).o4.free 0;have g1:=(HQ.out.sb).o4.free 1;have g2:=(HQ.out.sb).o4.free 2;have d0:=(HQ.out.sb).o7.cell 0 _ rfl;have d1:=(HQ.out.sb).o7.cell 1 _ rfl;have d2:=(HQ.out.sb).o7.cell 2 _ rfl;have p0:=(HQ.out.sb).o7.free 0;have p1:=(HQ.out.sb).o7.free 1;have p2:=(HQ.out.sb).o7.free 2;have s6:=(HQ.out.sb).o4.lt;have s7:=(HQ.out.sb).o7.lt)
   go_wp2_with fail
   (refine bodyPost_ret (v:=.tuple #[(.agg #[.slice v.ia v.im.length v.ic,.slice v.sa v.se.length v.sc,.slice v.na v.inp.length v.nc]),.int .i64 0,.int .i64 0]) (by simp [results,Tryz.results30,go_sem,a0,a1,a2,s6]) rfl ?_)
   exact HEND.out _ _ _ _ _ (Nat.le_refl _) HQ.out (upd_put (upd_put (upd_put (Upd.refl _ _))))
end Go.Proofs.YtoklonmiejdgmaaGreatDoor
/- The reference of plan: numbers, labels, ports. -/
namespace Go.Proofs.YtoklonmiejdgmaaGreatDoor
set_option linter.unusedVariables false
set_option linter.unusedSimpArgs false
set_option linter.unnecessarySimpa false
open Go.RowKit Go.Sort
set_option maxHeartbeats 2000000
set_option maxRecDepth 100000
set_option linter.unusedVariables false
theorem find_v (s : List UInt8) : findV s = lbPV s:=by unfold findV lbPV;rw [lparse_eq]
theorem find_e (s : List UInt8) : findE s = lbPE s:=by unfold findE lbPE;rw [lparse_eq]
theorem rnumbers_any (a : Option Addr) (cap : Nat) (L : List (List UInt8)) (n0 : Nat) (h0 : n0 ≤ L.length) (l : List (List UInt8)) (hlD : l = L.drop n0) (hsm : ∀ x ∈ l,x.length ≤ 100000000) (hl : L.length ≤ 1000000000) (w : World) (h : Rd w 1 a L.length (strC L)) : Calls Tryz.prog 173 #[.slice a L.length cap,.int .i64 n0] w (NmPost l w):=by
 obtain ⟨ii,hii,hzi,hzi1,hzi2⟩:=info_parts info_in
 have HGET : Hid (∀ k,(hk : k < l.length) → ∃ g o,a = some ⟨g,o,none⟩ ∧ g < w.heap.size ∧ w.cell? ⟨g,o + (n0 + k),none⟩ = some (.string (ba l[k]))):=fun k hk=>by
  have hk2 : n0 + k < L.length:=by rw [hlD,List.length_drop] at hk;omega
  have hkv : l[k] = L[n0 + k]:=by simp only [hlD,List.getElem_drop]
  have ha : a ≠ none:=fun h0=>by have:=h.2.1 h0;omega
  obtain ⟨p,rfl⟩:=Option.ne_none_iff_exists'.1 ha
  obtain ⟨b,o,rfl,hb,hc⟩:=h.2.2 p rfl (fun h0=>by have:=strC_len L;rw [h0] at this;simp at this;omega)
  exact ⟨b,o,rfl,hb,by rw [hkv];exact hc (n0 + k) _ (strC_get L (n0 + k) hk2)⟩
 have HBAD : Hid (∀ w',nmsB l = false → Below w.heap.size w w' → NmPost l w (.returned (.tuple #[.slice none 0 0,.bool false])) w'):=fun w' h1 h2=>⟨fun h=>(by rw [h1] at h;cases h),fun _=>rfl,h2⟩
 have HGOOD : Hid (∀ w' a' c',nmsB l = true → Own w' w.heap.size 3 1 a' l.length c' (zC (nmsL l)) → Below w.heap.size w w' → NmPost l w (.returned (.tuple #[.slice a' l.length c',.bool true])) w'):=fun w' a' c' h1 h2 h3=>⟨fun _=>⟨a',c',rfl,h2⟩,fun h=>(by rw [h1] at h;cases h),h3⟩
 have HSM:=Lib.hid hsm
 have HO0 : Hid (Own w w.heap.size 3 1 none 0 0 (zC (nmsL (l.take 0)))):=Own.nil _ _ _ _
 have HLEN : Hid (l.length + n0 = L.length):=by rw [Hid,hlD,List.length_drop];omega
 have hll : l.length ≤ 1000000000:=by have:=HLEN.out;omega
 clear h hsm hlD
 go_enter Tryz.func173,Tryz.ntmps173
 go_wp2
 go_loopw [6,7] (fun o i wr=>∃ (j k : Nat) (ao : Option Addr) (co : Nat),k ≤ l.length ∧ Hid (j = n0 + k) ∧ i = .int .i64 j ∧ o = .slice ao k co ∧ Own wr w.heap.size 3 1 ao k co (zC (nmsL (l.take k))) ∧ Below w.heap.size w wr ∧ ∀ j (hj : j < l.length),j < k → numB l[j] = true) (fun _ i _=>L.length - (intOf i).toNat)
 case atStart=>exact ⟨n0,0,none,0,by omega,Lib.hid (by omega),rfl,rfl,HO0.out,Below.refl _ _,fun j _ hj=>by omega⟩
 case round=>
  clear HO0
  obtain ⟨j0,k,ao,co,hk,HJ,rfl,rfl,ho,hbe,hn⟩:=hrel
  have hjL : j0 ≤ L.length:=by have:=HJ.out;have:=HLEN.out;omega
  have HO:=Lib.hid ho
  have HB:=Lib.hid hbe
  have HN:=Lib.hid hn
  have hsz:=hbe.size
  clear ho hbe hn
  by_cases hlt : k < l.length
  ·obtain ⟨g,o,ha,hg,hc⟩:=HGET.out k hlt
   obtain ⟨x,hx⟩ : ∃ x,Hid (x = l[k]):=⟨_,Lib.hid rfl⟩
   have hcr : wr.cell? ⟨g,o + j0,none⟩ = some (.string (ba x)):=by rw [HJ.out,HB.out.cell (p:=⟨g,o + (n0 + k),none⟩) hg,hc,hx.out]
   have hjl : j0 < L.length:=by have:=HJ.out;have:=HLEN.out;omega
   have d1 : decide ((j0 : Int) < (L.length : Int)) = true:=decide_eq_true (by omega)
   have d1' : decide (j0 < L.length) = true:=decide_eq_true hjl
   have w1 : IntKind.i64.wrap ((j0 : Int) + 1) = (j0 : Int) + 1:=by rw [IntKind.wrap_i64];omega
   have hxl : x.length ≤ 100000000:=by rw [hx.out];exact HSM.out _ (List.getElem_mem hlt)
   have HNUM:=fun W=>Lib.hid (rnumber_any (ba x) (by rw [ba_size];unfold maxLen;omega) W)
   rw [ba_data] at HNUM
   subst ha
   clear hc
   cases hb : numB x
   ·have HBD:=Lib.hid (nmsB_bad hlt (by rw [← hx.out];exact hb))
    rw [hb] at HNUM
    clear hb
    go_wp2_with (go_at_call 108;refine ((HNUM _).out).mono ?_;rintro e w1 ⟨rfl,rfl⟩)
    go_ret2
    exact HBAD.out _ HBD.out HB.out
   ·have HN2 : Hid (∀ j (hj : j < l.length),j < k + 1 → numB l[j] = true):=fun j hj hjk=>by
     by_cases e : j = k
     ·subst e;rw [← hx.out];exact hb
     ·exact HN.out j hj (by omega)
    rw [hb] at HNUM
    have HV : Hid (zC (nmsL (l.take (k + 1))) = zC (nmsL (l.take k)) ++ [.int .i64 (numI x : Nat)]):=by
     rw [Hid,List.take_succ_eq_append_getElem hlt,nmsL,List.map_append,List.map_cons,List.map_nil,zC_snoc,hx.out];rfl
    have hlx:=numI_lt x
    clear hb
    generalize numI x = v at HNUM HV hlx
    go_wp2_with fail
    refine ((HNUM _).out).mono ?_;rintro e wr ⟨rfl,rfl⟩
    have hb3 : Below wr.heap.size wr wr:=Below.refl _ _
    have HB3:=Lib.hid (bmore HB.out hb3)
    have HO3:=Lib.hid (HO.out.below hb3)
    have hs3:=HB3.out.size
    clear hb3
    go_wp2_with (at_builtin;(refine wpList_own rfl (.tmp 27) (.tmp 29) 171 rfl w.heap.size 3 ii _ 1 8 Tryz.underlying171 hii hzi hzi1 hzi2 rfl (by omega) ao k co (zC (nmsL (l.take k))) rfl (HO3.out.below ((Below.refl _ _).alloc (Nat.le_refl _) _)) wr.heap.size [.int .i64 (v : Nat)] rfl (new_block _ _ _ rfl) rfl (by simp [Value.oneCell']) (by simp only [maxLen];omega) (by omega) (by simp;omega) ?_);intro g' c' w4 hown1 hmod1 _;have HO4:=Lib.hid hown1;have HM : Hid (Mod (blk ao) wr w4):=((Mod.ofBelow ((Below.refl wr.heap.size wr).alloc (Nat.le_refl _) _)).trans hmod1);clear hown1 hmod1)
    have HO5 : Hid (Own w4 w.heap.size 3 1 (some ⟨g',0,none⟩) (k + 1) c' (zC (nmsL (l.take (k + 1))))):=by rw [HV.out];exact HO4.out
    have HB4 : Hid (Below w.heap.size w w4):=HB3.out.trans (HM.out.below (fun j hj=>(HO3.out.ge j hj).1) hs3)
    go_roundw
    case rel=>exact ⟨j0 + 1,k + 1,some ⟨g',0,none⟩,c',by omega,Lib.hid (by have:=HJ.out;omega),by go_num,by go_num,HO5.out,HB4.out,HN2.out⟩
    case measure=>simp [intOf];omega
  ·obtain rfl : k = l.length:=by omega
   obtain rfl : j0 = L.length:=by have:=HJ.out;have:=HLEN.out;omega
   have d1 : decide ((L.length : Int) < (L.length : Int)) = false:=decide_eq_false (by omega)
   rw [List.take_length] at HO
   have HT:=Lib.hid (nmsB_all (fun j hj=>HN.out j hj hj))
   have HFIN:=Lib.hid (HGOOD.out wr ao co HT.out HO.out HB.out)
   go_wp2_with fail
   go_ret2
   exact HFIN.out
theorem nm_shape {l : List (List UInt8)} {w : World} {e : Ending} {w' : World} (h : NmPost l w e w') : ∃ a n cap,e = .returned (.tuple #[.slice a n cap,.bool (nmsB l)]) ∧ Below w.heap.size w w':=by
 cases hb : nmsB l
 ·exact ⟨none,0,0,h.2.1 hb,h.2.2⟩
 ·obtain ⟨a,cap,h1,_⟩:=h.1 hb
  exact ⟨a,l.length,cap,h1,h.2.2⟩
/-- What a line with a label is. -/
def labR (ws : List (List UInt8)) : (Int × Int × Int) × Bool:=match lbF (ws.getD 1 []) with
 | none=>((0,0,0),false)
 | some x=>if nmsB (ws.drop 2) then (((x : Nat),(numI (ws.getD 2 []) : Nat),(numI (ws.getD 3 []) : Nat)),true) else ((0,0,0),false)
theorem rlabelled_any (w0 w1 w2 w3 : List UInt8) (hsm : ∀ x ∈ [w0,w1,w2,w3],x.length ≤ 100000000) (a : Option Addr) (cap : Nat) (W : World) (h : RdW W a cap [w0,w1,w2,w3]) :
  Calls Tryz.prog 144 #[.slice a 4 cap] W fun e w'=>e = .returned (.tuple #[.int .i64 (labR [w0,w1,w2,w3]).1.1,.int .i64 (labR [w0,w1,w2,w3]).1.2.1,.int .i64 (labR [w0,w1,w2,w3]).1.2.2,.bool (labR [w0,w1,w2,w3]).2]) ∧ Below W.heap.size W w':=by
 obtain ⟨g,off,rfl,hg,hc⟩:=h.at_ 1 (by simp)
 have n1 : W.cell? ⟨g,off + 1,none⟩ = some (.string (ba w1)):=hc 1 (by simp)
 have HLP:=fun W=>Lib.hid (LParse_ref (ba w1) W)
 rw [ba_data,find_v,find_e] at HLP
 have HNM : Hid (∀ W',Below W.heap.size W W' → Calls Tryz.prog 173 #[.slice (some ⟨g,off,none⟩) 4 cap,.int .i64 2] W' (NmPost [w2,w3] W')):=fun W' hb=>
  rnumbers_any (some ⟨g,off,none⟩) cap [w0,w1,w2,w3] 2 (by simp) [w2,w3] rfl (fun y hy=>hsm y (by simp at hy ⊢;rcases hy with rfl | rfl <;> simp)) (by simp) W' (h.below hb).rd
 have hmx : cap ≤ 9223372036854775807:=h.mx
 have hle : 4 ≤ cap:=h.le
 obtain ⟨R,hR⟩ : ∃ R,R = labR [w0,w1,w2,w3]:=⟨_,rfl⟩
 rw [← hR]
 cases hl : lbF w1 with
 | none=>
  have e1 : lbPV w1 = 0 ∧ lbPE w1 = 6:=⟨by unfold lbPV;rw [hl];rfl,by unfold lbPE;rw [hl];rfl⟩
  rw [e1.1,e1.2] at HLP
  obtain rfl : R = ((0,0,0),false):=by rw [hR];unfold labR;simp [hl]
  clear e1 hl h hc hsm hR
  go_enter Tryz.func144,Tryz.ntmps144
  go_wp2_with fail
  refine ((HLP _).out).mono ?_;rintro e W1 ⟨rfl,b1⟩
  have HB1:=Lib.hid b1
  clear b1
  go_wp2_with fail
  refine (HNM.out _ HB1.out).mono ?_;intro e W2 h2
  obtain ⟨a2,m2,c2,rfl,b2⟩:=nm_shape h2
  have HB2:=Lib.hid (bmore HB1.out b2)
  clear h2 b2
  generalize nmsB [w2,w3] = bb
  go_wp2_with fail
  (refine bodyPost_ret (v:=.tuple #[.int .i64 _,.int .i64 _,.int .i64 _,.bool _]) (by simp [results,Tryz.results144,go_sem];exact ⟨rfl,rfl,rfl,rfl⟩) rfl ?_)
  exact ⟨rfl,HB2.out⟩
 | some x=>
  have e1 : lbPV w1 = x ∧ lbPE w1 = 0:=⟨by unfold lbPV;rw [hl];rfl,by unfold lbPE;rw [hl];rfl⟩
  rw [e1.1,e1.2] at HLP
  cases hb : nmsB [w2,w3]
  ·obtain rfl : R = ((0,0,0),false):=by rw [hR];unfold labR;simp [hl,hb]
   have HSH : Hid (∀ W e w',NmPost [w2,w3] W e w' → e = .returned (.tuple #[.slice none 0 0,.bool false]) ∧ Below W.heap.size W w'):=fun W e w' h=>⟨h.2.1 hb,h.2.2⟩
   clear e1 hl h hc hsm hR hb
   go_enter Tryz.func144,Tryz.ntmps144
   go_wp2_with fail
   refine ((HLP _).out).mono ?_;rintro e W1 ⟨rfl,b1⟩
   have HB1:=Lib.hid b1
   clear b1
   go_wp2_with fail
   refine (HNM.out _ HB1.out).mono ?_;intro e W2 h2
   obtain ⟨rfl,b2⟩:=HSH.out _ _ _ h2
   have HB2:=Lib.hid (bmore HB1.out b2)
   clear h2 b2
   go_wp2_with fail
   (refine bodyPost_ret (v:=.tuple #[.int .i64 _,.int .i64 _,.int .i64 _,.bool _]) (by simp [results,Tryz.results144,go_sem];exact ⟨rfl,rfl,rfl,rfl⟩) rfl ?_)
   exact ⟨rfl,HB2.out⟩
  ·obtain ⟨y0,hy0⟩ : ∃ y,Hid (y = ((numI w2 : Nat) : Int)):=⟨_,Lib.hid rfl⟩
   obtain ⟨y1,hy1⟩ : ∃ y,Hid (y = ((numI w3 : Nat) : Int)):=⟨_,Lib.hid rfl⟩
   obtain rfl : R = (((x : Int),y0,y1),true):=by rw [hR,hy0.out,hy1.out];unfold labR;simp [hl,hb]
   have HSH : Hid (∀ W e w',NmPost [w2,w3] W e w' → ∃ g c,e = .returned (.tuple #[.slice (some ⟨g,0,none⟩) 2 c,.bool true]) ∧ w'.cell? ⟨g,0,none⟩ = some (.int .i64 y0) ∧ w'.cell? ⟨g,1,none⟩ = some (.int .i64 y1) ∧ 2 ≤ c ∧ c ≤ 9223372036854775807 ∧ Below W.heap.size W w'):=fun W e w' h=>by
    obtain ⟨a,c,h1,h2⟩:=h.1 hb
    obtain ⟨g3,rfl,hg3,hg3'⟩:=h2.at_ (by simp)
    exact ⟨g3,c,h1,by rw [hy0.out];exact h2.cell 0 _ rfl,by rw [hy1.out];exact h2.cell 1 _ rfl,h2.le,h2.capMax,h.2.2⟩
   clear e1 hl h hc hsm hR hb
   go_enter Tryz.func144,Tryz.ntmps144
   go_wp2_with fail
   refine ((HLP _).out).mono ?_;rintro e W1 ⟨rfl,b1⟩
   have HB1:=Lib.hid b1
   clear b1
   go_wp2_with fail
   refine (HNM.out _ HB1.out).mono ?_;intro e W2 h2
   obtain ⟨g3,c3,rfl,m0,m1,hc3,hc4,b2⟩:=HSH.out _ _ _ h2
   have HB2:=Lib.hid (bmore HB1.out b2)
   clear h2 b2
   go_wp2_with fail
   go_region
   all_goals
    go_wp2_with fail
    (refine bodyPost_ret (v:=.tuple #[.int .i64 _,.int .i64 _,.int .i64 _,.bool _]) (by simp [results,Tryz.results144,go_sem];exact ⟨rfl,rfl,rfl,rfl⟩) rfl ?_)
    exact ⟨rfl,HB2.out.drew⟩
end Go.Proofs.YtoklonmiejdgmaaGreatDoor
/- The reference of plan: ports, ranks. -/
namespace Go.Proofs.YtoklonmiejdgmaaGreatDoor
set_option linter.unusedVariables false
set_option linter.unusedSimpArgs false
set_option linter.unnecessarySimpa false
open Go.RowKit Go.Sort
set_option maxHeartbeats 2000000
set_option maxRecDepth 100000
set_option linter.unusedVariables false
theorem ba_beq (a c : List UInt8) : ((ba a).toList == c) = decide (a = c):=by
 rw [ByteArray.toList_eq,ba_data]
 by_cases h : a = c <;> simp [h]
/-- A port's line. -/
def porR (ws : List (List UInt8)) : (Int × Int) × Bool:=match lbF (ws.getD 1 []) with
 | none=>((0,0),false)
 | some x=>if ws.getD 2 [] = [111,117,116] then (((x : Nat),-1),true) else (((x : Nat),(numI (ws.getD 2 []) : Nat)),numB (ws.getD 2 []))
theorem rport_any (w0 w1 w2 : List UInt8) (hsm : ∀ x ∈ [w0,w1,w2],x.length ≤ 100000000) (a : Option Addr) (cap : Nat) (w : World) (h : RdW w a cap [w0,w1,w2]) :
  Calls Tryz.prog 145 #[.slice a 3 cap] w fun e w'=>e = .returned (.tuple #[.agg #[.int .i64 (porR [w0,w1,w2]).1.1,.int .i64 (porR [w0,w1,w2]).1.2],.bool (porR [w0,w1,w2]).2]) ∧ Below w.heap.size w w':=by
 obtain ⟨g,off,rfl,hg,hc⟩:=h.at_ 1 (by simp)
 obtain ⟨W0,hW0⟩ : ∃ W0,W0 = w.alloc (.cells #[.int .i64 0,.int .i64 0] 134):=⟨_,rfl⟩
 have HO0 : Hid (ObjAt W0 w.heap.size 134 [.int .i64 0,.int .i64 0]):=by rw [hW0];exact ObjAt.new w _ _
 have HB0 : Hid (Below w.heap.size w W0):=by rw [hW0];exact (Below.refl _ _).alloc (Nat.le_refl _) _
 have HW0:=Lib.hid hW0
 have n1 : W0.cell? ⟨g,off + 1,none⟩ = some (.string (ba w1)):=by rw [HB0.out.cell (p:=⟨g,off + 1,none⟩) hg];exact hc 1 (by simp)
 have HN2 : Hid (∀ W,Below w.heap.size w W → W.cell? ⟨g,off + 2,none⟩ = some (.string (ba w2))):=fun W hb=>by rw [hb.cell (p:=⟨g,off + 2,none⟩) hg];exact hc 2 (by simp)
 have HLP:=fun W=>Lib.hid (LParse_ref (ba w1) W)
 rw [ba_data,find_v,find_e] at HLP
 have hmx : cap ≤ 9223372036854775807:=h.mx
 have hle : 3 ≤ cap:=h.le
 obtain ⟨R,hR⟩ : ∃ R,R = porR [w0,w1,w2]:=⟨_,rfl⟩
 rw [← hR]
 cases hl : lbF w1 with
 | none=>
  have e1 : lbPV w1 = 0 ∧ lbPE w1 = 6:=⟨by unfold lbPV;rw [hl];rfl,by unfold lbPE;rw [hl];rfl⟩
  rw [e1.1,e1.2] at HLP
  obtain rfl : R = ((0,0),false):=by rw [hR];unfold porR;simp [hl]
  clear e1 hl h hc hsm hR hW0
  go_enter Tryz.func145,Tryz.ntmps145
  go_upto_region 1 with fail
  rw [← HW0.out]
  go_wp2_with fail
  refine ((HLP _).out).mono ?_;rintro e W1 ⟨rfl,b1⟩
  have HB1:=Lib.hid (bmore HB0.out b1)
  have hO:=HO0.out.below b1
  have s6:=hO.lt
  have a0:=hO.cell 0 _ rfl
  have a1:=hO.cell 1 _ rfl
  have g0:=hO.free 0
  have g1:=hO.free 1
  clear b1 hO
  go_wp2_with fail
  (refine bodyPost_ret (v:=.tuple #[.agg #[.int .i64 0,.int .i64 0],.bool false]) (by simp [results,Tryz.results145,go_sem,a0,a1,s6]) rfl ?_)
  exact ⟨rfl,((HB1.out.setCell (Nat.le_refl _) _).setCell (Nat.le_refl _) _)⟩
 | some x=>
  have e1 : lbPV w1 = x ∧ lbPE w1 = 0:=⟨by unfold lbPV;rw [hl];rfl,by unfold lbPE;rw [hl];rfl⟩
  rw [e1.1,e1.2] at HLP
  have hoq:=ba_beq w2 [111,117,116]
  by_cases hout : w2 = [111,117,116]
  ·rw [decide_eq_true hout] at hoq
   obtain rfl : R = (((x : Int),-1),true):=by rw [hR];unfold porR;simp [hl,hout]
   clear e1 hl h hc hsm hR hW0 hout
   go_enter Tryz.func145,Tryz.ntmps145
   go_upto_region 1 with fail
   rw [← HW0.out]
   go_wp2_with fail
   refine ((HLP _).out).mono ?_;rintro e W1 ⟨rfl,b1⟩
   have HB1:=Lib.hid (bmore HB0.out b1)
   have n2:=HN2.out _ HB1.out
   have hO:=HO0.out.below b1
   have s6:=hO.lt
   have a0:=hO.cell 0 _ rfl
   have a1:=hO.cell 1 _ rfl
   have g0:=hO.free 0
   have g1:=hO.free 1
   clear b1 hO
   go_wp2_with fail
   (refine bodyPost_ret (v:=.tuple #[.agg #[.int .i64 x,.int .i64 (-1)],.bool true]) (by simp [results,Tryz.results145,go_sem,a0,a1,s6]) rfl ?_)
   exact ⟨rfl,((HB1.out.setCell (Nat.le_refl _) _).setCell (Nat.le_refl _) _)⟩
  ·rw [decide_eq_false hout] at hoq
   have HNU:=fun W=>Lib.hid (rnumber_any (ba w2) (by rw [ba_size];have:=hsm w2 (by simp);unfold maxLen;omega) W)
   rw [ba_data] at HNU
   obtain ⟨y,hy⟩ : ∃ y,Hid (y = ((numI w2 : Nat) : Int)):=⟨_,Lib.hid rfl⟩
   obtain ⟨b,hb⟩ : ∃ y,Hid (y = numB w2):=⟨_,Lib.hid rfl⟩
   rw [← hy.out,← hb.out] at HNU
   obtain rfl : R = (((x : Int),y),b):=by rw [hR,hy.out,hb.out];unfold porR;simp [hl,hout]
   clear e1 hl h hc hsm hR hW0 hout
   go_enter Tryz.func145,Tryz.ntmps145
   go_upto_region 1 with fail
   rw [← HW0.out]
   go_wp2_with fail
   refine ((HLP _).out).mono ?_;rintro e W1 ⟨rfl,b1⟩
   have HB1:=Lib.hid (bmore HB0.out b1)
   have n2:=HN2.out _ HB1.out
   have hO:=HO0.out.below b1
   have s6:=hO.lt
   have a0:=hO.cell 0 _ rfl
   have a1:=hO.cell 1 _ rfl
   have g0:=hO.free 0
   have g1:=hO.free 1
   clear b1 hO
   go_wp2_with fail
   refine ((HNU _).out).mono ?_;rintro e W2 ⟨rfl,rfl⟩
   go_wp2_with fail
   (refine bodyPost_ret (v:=.tuple #[.agg #[.int .i64 x,.int .i64 y],.bool b]) (by simp [results,Tryz.results145,go_sem,a0,a1,s6]) rfl ?_)
   exact ⟨rfl,((HB1.out.setCell (Nat.le_refl _) _).setCell (Nat.le_refl _) _)⟩
theorem rank7 {s : List UInt8} (h : rankV s = 7) : ∀ j,j < 7 → rkName j ≠ s:=by
 intro j hj e
 unfold rankV at h
 split at h
 ·rename_i i hf
  have:=List.mem_range.1 (List.mem_of_find?_eq_some hf);omega
 ·rename_i hf
  rw [List.find?_eq_none] at hf
  exact hf j (List.mem_range.2 hj) (by simp [e])
def rankR (s : List UInt8) : Int × Int:=if rankV s < 7 then ((rankV s : Nat),(wordsK (rankV s) : Nat)) else (-1,0)
theorem rrank_any (s : List UInt8) (w : World) : Calls Tryz.prog 98 #[.string (ba s)] w fun e w'=>e = .returned (.tuple #[.int .i64 (rankR s).1,.int .i64 (rankR s).2]) ∧ w = w':=by
 obtain ⟨R,hR⟩ : ∃ R,R = rankR s:=⟨_,rfl⟩
 rw [← hR]
 have hle:=rankV_le s
 by_cases h7 : rankV s < 7
 ·have hs:=rankV_some h7
  rcases (by omega : rankV s = 0 ∨ rankV s = 1 ∨ rankV s = 2 ∨ rankV s = 3 ∨ rankV s = 4 ∨ rankV s = 5 ∨ rankV s = 6) with hk | hk | hk | hk | hk | hk | hk
  all_goals rw [hk] at hs;rw [show rkName _ = _ from rfl] at hs
  ·have h0 : ((ba s).toList == [99,97,116,115]) = true:=by rw [ba_beq,← hs];decide
   have h1 : ((ba s).toList == [103,117,101,115,116]) = false:=by rw [ba_beq,← hs];decide
   have h2 : ((ba s).toList == [114,97,110,103,101]) = false:=by rw [ba_beq,← hs];decide
   have h3 : ((ba s).toList == [112,111,114,116]) = false:=by rw [ba_beq,← hs];decide
   have h4 : ((ba s).toList == [114,105,110,103]) = false:=by rw [ba_beq,← hs];decide
   have h5 : ((ba s).toList == [115,108,111,116]) = false:=by rw [ba_beq,← hs];decide
   have h6 : ((ba s).toList == [103,97,116,101]) = false:=by rw [ba_beq,← hs];decide
   (obtain rfl : R = (0,2):=(by rw [hR];unfold rankR;rw [hk];rfl);clear hR hk hs h7 hle;go_enter Tryz.func98,Tryz.ntmps98;go_wp2_with fail;go_ret2;exact ⟨rfl,rfl⟩)
  ·have h0 : ((ba s).toList == [99,97,116,115]) = false:=by rw [ba_beq,← hs];decide
   have h1 : ((ba s).toList == [103,117,101,115,116]) = true:=by rw [ba_beq,← hs];decide
   have h2 : ((ba s).toList == [114,97,110,103,101]) = false:=by rw [ba_beq,← hs];decide
   have h3 : ((ba s).toList == [112,111,114,116]) = false:=by rw [ba_beq,← hs];decide
   have h4 : ((ba s).toList == [114,105,110,103]) = false:=by rw [ba_beq,← hs];decide
   have h5 : ((ba s).toList == [115,108,111,116]) = false:=by rw [ba_beq,← hs];decide
   have h6 : ((ba s).toList == [103,97,116,101]) = false:=by rw [ba_beq,← hs];decide
   (obtain rfl : R = (1,4):=(by rw [hR];unfold rankR;rw [hk];rfl);clear hR hk hs h7 hle;go_enter Tryz.func98,Tryz.ntmps98;go_wp2_with fail;go_ret2;exact ⟨rfl,rfl⟩)
  ·have h0 : ((ba s).toList == [99,97,116,115]) = false:=by rw [ba_beq,← hs];decide
   have h1 : ((ba s).toList == [103,117,101,115,116]) = false:=by rw [ba_beq,← hs];decide
   have h2 : ((ba s).toList == [114,97,110,103,101]) = true:=by rw [ba_beq,← hs];decide
   have h3 : ((ba s).toList == [112,111,114,116]) = false:=by rw [ba_beq,← hs];decide
   have h4 : ((ba s).toList == [114,105,110,103]) = false:=by rw [ba_beq,← hs];decide
   have h5 : ((ba s).toList == [115,108,111,116]) = false:=by rw [ba_beq,← hs];decide
   have h6 : ((ba s).toList == [103,97,116,101]) = false:=by rw [ba_beq,← hs];decide
   (obtain rfl : R = (2,4):=(by rw [hR];unfold rankR;rw [hk];rfl);clear hR hk hs h7 hle;go_enter Tryz.func98,Tryz.ntmps98;go_wp2_with fail;go_ret2;exact ⟨rfl,rfl⟩)
  ·have h0 : ((ba s).toList == [99,97,116,115]) = false:=by rw [ba_beq,← hs];decide
   have h1 : ((ba s).toList == [103,117,101,115,116]) = false:=by rw [ba_beq,← hs];decide
   have h2 : ((ba s).toList == [114,97,110,103,101]) = false:=by rw [ba_beq,← hs];decide
   have h3 : ((ba s).toList == [112,111,114,116]) = true:=by rw [ba_beq,← hs];decide
   have h4 : ((ba s).toList == [114,105,110,103]) = false:=by rw [ba_beq,← hs];decide
   have h5 : ((ba s).toList == [115,108,111,116]) = false:=by rw [ba_beq,← hs];decide
   have h6 : ((ba s).toList == [103,97,116,101]) = false:=by rw [ba_beq,← hs];decide
   (obtain rfl : R = (3,3):=(by rw [hR];unfold rankR;rw [hk];rfl);clear hR hk hs h7 hle;go_enter Tryz.func98,Tryz.ntmps98;go_wp2_with fail;go_ret2;exact ⟨rfl,rfl⟩)
  ·have h0 : ((ba s).toList == [99,97,116,115]) = false:=by rw [ba_beq,← hs];decide
   have h1 : ((ba s).toList == [103,117,101,115,116]) = false:=by rw [ba_beq,← hs];decide
   have h2 : ((ba s).toList == [114,97,110,103,101]) = false:=by rw [ba_beq,← hs];decide
   have h3 : ((ba s).toList == [112,111,114,116]) = false:=by rw [ba_beq,← hs];decide
   have h4 : ((ba s).toList == [114,105,110,103]) = true:=by rw [ba_beq,← hs];decide
   have h5 : ((ba s).toList == [115,108,111,116]) = false:=by rw [ba_beq,← hs];decide
   have h6 : ((ba s).toList == [103,97,116,101]) = false:=by rw [ba_beq,← hs];decide
   (obtain rfl : R = (4,3):=(by rw [hR];unfold rankR;rw [hk];rfl);clear hR hk hs h7 hle;go_enter Tryz.func98,Tryz.ntmps98;go_wp2_with fail;go_ret2;exact ⟨rfl,rfl⟩)
  ·have h0 : ((ba s).toList == [99,97,116,115]) = false:=by rw [ba_beq,← hs];decide
   have h1 : ((ba s).toList == [103,117,101,115,116]) = false:=by rw [ba_beq,← hs];decide
   have h2 : ((ba s).toList == [114,97,110,103,101]) = false:=by rw [ba_beq,← hs];decide
   have h3 : ((ba s).toList == [112,111,114,116]) = false:=by rw [ba_beq,← hs];decide
   have h4 : ((ba s).toList == [114,105,110,103]) = false:=by rw [ba_beq,← hs];decide
   have h5 : ((ba s).toList == [115,108,111,116]) = true:=by rw [ba_beq,← hs];decide
   have h6 : ((ba s).toList == [103,97,116,101]) = false:=by rw [ba_beq,← hs];decide
   (obtain rfl : R = (5,3):=(by rw [hR];unfold rankR;rw [hk];rfl);clear hR hk hs h7 hle;go_enter Tryz.func98,Tryz.ntmps98;go_wp2_with fail;go_ret2;exact ⟨rfl,rfl⟩)
  ·have h0 : ((ba s).toList == [99,97,116,115]) = false:=by rw [ba_beq,← hs];decide
   have h1 : ((ba s).toList == [103,117,101,115,116]) = false:=by rw [ba_beq,← hs];decide
   have h2 : ((ba s).toList == [114,97,110,103,101]) = false:=by rw [ba_beq,← hs];decide
   have h3 : ((ba s).toList == [112,111,114,116]) = false:=by rw [ba_beq,← hs];decide
   have h4 : ((ba s).toList == [114,105,110,103]) = false:=by rw [ba_beq,← hs];decide
   have h5 : ((ba s).toList == [115,108,111,116]) = false:=by rw [ba_beq,← hs];decide
   have h6 : ((ba s).toList == [103,97,116,101]) = true:=by rw [ba_beq,← hs];decide
   (obtain rfl : R = (6,3):=(by rw [hR];unfold rankR;rw [hk];rfl);clear hR hk hs h7 hle;go_enter Tryz.func98,Tryz.ntmps98;go_wp2_with fail;go_ret2;exact ⟨rfl,rfl⟩)
 ·have hn:=rank7 (s:=s) (by omega)
  obtain rfl : R = (-1,0):=by rw [hR];unfold rankR;rw [if_neg h7]
  have hne : ∀ j (hj : j < 7),((ba s).toList == rkName j) = false:=fun j hj=>by rw [ba_beq,decide_eq_false (fun e=>hn j hj e.symm)]
  have h0 : ((ba s).toList == [99,97,116,115]) = false:=hne 0 (by omega)
  have h1 : ((ba s).toList == [103,117,101,115,116]) = false:=hne 1 (by omega)
  have h2 : ((ba s).toList == [114,97,110,103,101]) = false:=hne 2 (by omega)
  have h3 : ((ba s).toList == [112,111,114,116]) = false:=hne 3 (by omega)
  have h4 : ((ba s).toList == [114,105,110,103]) = false:=hne 4 (by omega)
  have h5 : ((ba s).toList == [115,108,111,116]) = false:=hne 5 (by omega)
  have h6 : ((ba s).toList == [103,97,116,101]) = false:=hne 6 (by omega)
  clear hn hne h7 hR hle
  go_enter Tryz.func98,Tryz.ntmps98
  go_wp2_with fail
  go_ret2
  exact ⟨rfl,rfl⟩
end Go.Proofs.YtoklonmiejdgmaaGreatDoor
/- The reference of plan: a line taken. -/
namespace Go.Proofs.YtoklonmiejdgmaaGreatDoor
set_option linter.unusedVariables false
set_option linter.unusedSimpArgs false
set_option linter.unnecessarySimpa false
open Go.RowKit Go.Sort
set_option maxHeartbeats 4000000
set_option maxRecDepth 100000
set_option linter.unusedVariables false
/-- A configuration at work whose rows are its own. -/
structure RO (w : World) (c : Cv) (W : World) : Prop where
 bel : Below w.heap.size w W
 g : Own W w.heap.size 130 3 c.g.a c.g.l.length c.g.cap (iF c.g.l)
 r : Own W w.heap.size 132 3 c.r.a c.r.l.length c.r.cap (iF c.r.l)
 p : Own W w.heap.size 134 2 c.p.a c.p.l.length c.p.cap (iF c.p.l)
 n : Own W w.heap.size 137 2 c.n.a c.n.l.length c.n.cap (iF c.n.l)
 s : Own W w.heap.size 139 2 c.s.a c.s.l.length c.s.cap (iF c.s.l)
 lg : ∀ x ∈ c.g.l,x.length = 3
 lr : ∀ x ∈ c.r.l,x.length = 3
 lp : ∀ x ∈ c.p.l,x.length = 2
 ln : ∀ x ∈ c.n.l,x.length = 2
 ls : ∀ x ∈ c.s.l,x.length = 2
theorem RO.more {w : World} {c : Cv} {W W' : World} (h : RO w c W) (hb : Below W.heap.size W W') : RO w c W':=
 ⟨bmore h.bel hb,h.g.below hb,h.r.below hb,h.p.below hb,h.n.below hb,h.s.below hb,h.lg,h.lr,h.lp,h.ln,h.ls⟩
theorem RO.upd {w : World} {c : Cv} {W W' : World} {b : Nat} {cs : List Value} (h : RO w c W) (ho : ObjAt W b 29 cs) (hb : w.heap.size ≤ b) (hu : Upd b W W') : RO w c W':=
 ⟨h.bel.trans (hu.below hb h.bel.size),h.g.upd hu (h.g.ne ho (by decide)),h.r.upd hu (h.r.ne ho (by decide)),h.p.upd hu (h.p.ne ho (by decide)),h.n.upd hu (h.n.ne ho (by decide)),h.s.upd hu (h.s.ne ho (by decide)),h.lg,h.lr,h.lp,h.ln,h.ls⟩
theorem RO.cfg {w : World} {c : Cv} {W : World} (h : RO w c W) : CfgOk W c:=
 ⟨⟨h.g.rd,h.g.le,h.g.capMax,h.lg⟩,⟨h.r.rd,h.r.le,h.r.capMax,h.lr⟩,⟨h.p.rd,h.p.le,h.p.capMax,h.lp⟩,⟨h.n.rd,h.n.le,h.n.capMax,h.ln⟩,⟨h.s.rd,h.s.le,h.s.capMax,h.ls⟩⟩
theorem RO.addG {w : World} {c : Cv} {W W2 : World} (h1 : RO w c W) {g' c' : Nat} {row : List Int} (ho : Own W2 w.heap.size 130 3 (some ⟨g',0,none⟩) (c.g.l.length + 1) c' (iF c.g.l ++ ivs row)) (hm : Mod (blk c.g.a) W W2) (hrow : row.length = 3) :
  RO w { c with g:=⟨some ⟨g',0,none⟩,c',c.g.l ++ [row]⟩ } W2:=by
 have hb2 : Below w.heap.size w W2:=h1.bel.trans (hm.below (fun k hk=>(h1.g.ge k hk).1) h1.bel.size)
 have hl : (c.g.l ++ [row]).length = c.g.l.length + 1:=by simp
 have hrows : ∀ x ∈ c.g.l ++ [row],x.length = 3:=fun x hx=>by
  rcases List.mem_append.1 hx with hx | hx
  ·exact h1.lg x hx
  ·rw [List.mem_singleton.1 hx];exact hrow
 have hown : Own W2 w.heap.size 130 3 (some ⟨g',0,none⟩) (c.g.l ++ [row]).length c' (iF (c.g.l ++ [row])):=by rw [hl,iF_snoc];exact ho
 exact ⟨hb2,hown,(h1.r.mod hm (h1.r.apart h1.g (by decide))),(h1.p.mod hm (h1.p.apart h1.g (by decide))),(h1.n.mod hm (h1.n.apart h1.g (by decide))),(h1.s.mod hm (h1.s.apart h1.g (by decide))),hrows,h1.lr,h1.lp,h1.ln,h1.ls⟩
theorem RO.addR {w : World} {c : Cv} {W W2 : World} (h1 : RO w c W) {g' c' : Nat} {row : List Int} (ho : Own W2 w.heap.size 132 3 (some ⟨g',0,none⟩) (c.r.l.length + 1) c' (iF c.r.l ++ ivs row)) (hm : Mod (blk c.r.a) W W2) (hrow : row.length = 3) :
  RO w { c with r:=⟨some ⟨g',0,none⟩,c',c.r.l ++ [row]⟩ } W2:=by
 have hb2 : Below w.heap.size w W2:=h1.bel.trans (hm.below (fun k hk=>(h1.r.ge k hk).1) h1.bel.size)
 have hl : (c.r.l ++ [row]).length = c.r.l.length + 1:=by simp
 have hrows : ∀ x ∈ c.r.l ++ [row],x.length = 3:=fun x hx=>by
  rcases List.mem_append.1 hx with hx | hx
  ·exact h1.lr x hx
  ·rw [List.mem_singleton.1 hx];exact hrow
 have hown : Own W2 w.heap.size 132 3 (some ⟨g',0,none⟩) (c.r.l ++ [row]).length c' (iF (c.r.l ++ [row])):=by rw [hl,iF_snoc];exact ho
 exact ⟨hb2,(h1.g.mod hm (h1.g.apart h1.r (by decide))),hown,(h1.p.mod hm (h1.p.apart h1.r (by decide))),(h1.n.mod hm (h1.n.apart h1.r (by decide))),(h1.s.mod hm (h1.s.apart h1.r (by decide))),h1.lg,hrows,h1.lp,h1.ln,h1.ls⟩
theorem RO.addP {w : World} {c : Cv} {W W2 : World} (h1 : RO w c W) {g' c' : Nat} {row : List Int} (ho : Own W2 w.heap.size 134 2 (some ⟨g',0,none⟩) (c.p.l.length + 1) c' (iF c.p.l ++ ivs row)) (hm : Mod (blk c.p.a) W W2) (hrow : row.length = 2) :
  RO w { c with p:=⟨some ⟨g',0,none⟩,c',c.p.l ++ [row]⟩ } W2:=by
 have hb2 : Below w.heap.size w W2:=h1.bel.trans (hm.below (fun k hk=>(h1.p.ge k hk).1) h1.bel.size)
 have hl : (c.p.l ++ [row]).length = c.p.l.length + 1:=by simp
 have hrows : ∀ x ∈ c.p.l ++ [row],x.length = 2:=fun x hx=>by
  rcases List.mem_append.1 hx with hx | hx
  ·exact h1.lp x hx
  ·rw [List.mem_singleton.1 hx];exact hrow
 have hown : Own W2 w.heap.size 134 2 (some ⟨g',0,none⟩) (c.p.l ++ [row]).length c' (iF (c.p.l ++ [row])):=by rw [hl,iF_snoc];exact ho
 exact ⟨hb2,(h1.g.mod hm (h1.g.apart h1.p (by decide))),(h1.r.mod hm (h1.r.apart h1.p (by decide))),hown,(h1.n.mod hm (h1.n.apart h1.p (by decide))),(h1.s.mod hm (h1.s.apart h1.p (by decide))),h1.lg,h1.lr,hrows,h1.ln,h1.ls⟩
theorem RO.addN {w : World} {c : Cv} {W W2 : World} (h1 : RO w c W) {g' c' : Nat} {row : List Int} (ho : Own W2 w.heap.size 137 2 (some ⟨g',0,none⟩) (c.n.l.length + 1) c' (iF c.n.l ++ ivs row)) (hm : Mod (blk c.n.a) W W2) (hrow : row.length = 2) :
  RO w { c with n:=⟨some ⟨g',0,none⟩,c',c.n.l ++ [row]⟩ } W2:=by
 have hb2 : Below w.heap.size w W2:=h1.bel.trans (hm.below (fun k hk=>(h1.n.ge k hk).1) h1.bel.size)
 have hl : (c.n.l ++ [row]).length = c.n.l.length + 1:=by simp
 have hrows : ∀ x ∈ c.n.l ++ [row],x.length = 2:=fun x hx=>by
  rcases List.mem_append.1 hx with hx | hx
  ·exact h1.ln x hx
  ·rw [List.mem_singleton.1 hx];exact hrow
 have hown : Own W2 w.heap.size 137 2 (some ⟨g',0,none⟩) (c.n.l ++ [row]).length c' (iF (c.n.l ++ [row])):=by rw [hl,iF_snoc];exact ho
 exact ⟨hb2,(h1.g.mod hm (h1.g.apart h1.n (by decide))),(h1.r.mod hm (h1.r.apart h1.n (by decide))),(h1.p.mod hm (h1.p.apart h1.n (by decide))),hown,(h1.s.mod hm (h1.s.apart h1.n (by decide))),h1.lg,h1.lr,h1.lp,hrows,h1.ls⟩
theorem RO.addS {w : World} {c : Cv} {W W2 : World} (h1 : RO w c W) {g' c' : Nat} {row : List Int} (ho : Own W2 w.heap.size 139 2 (some ⟨g',0,none⟩) (c.s.l.length + 1) c' (iF c.s.l ++ ivs row)) (hm : Mod (blk c.s.a) W W2) (hrow : row.length = 2) :
  RO w { c with s:=⟨some ⟨g',0,none⟩,c',c.s.l ++ [row]⟩ } W2:=by
 have hb2 : Below w.heap.size w W2:=h1.bel.trans (hm.below (fun k hk=>(h1.s.ge k hk).1) h1.bel.size)
 have hl : (c.s.l ++ [row]).length = c.s.l.length + 1:=by simp
 have hrows : ∀ x ∈ c.s.l ++ [row],x.length = 2:=fun x hx=>by
  rcases List.mem_append.1 hx with hx | hx
  ·exact h1.ls x hx
  ·rw [List.mem_singleton.1 hx];exact hrow
 have hown : Own W2 w.heap.size 139 2 (some ⟨g',0,none⟩) (c.s.l ++ [row]).length c' (iF (c.s.l ++ [row])):=by rw [hl,iF_snoc];exact ho
 exact ⟨hb2,(h1.g.mod hm (h1.g.apart h1.s (by decide))),(h1.r.mod hm (h1.r.apart h1.s (by decide))),(h1.p.mod hm (h1.p.apart h1.s (by decide))),(h1.n.mod hm (h1.n.apart h1.s (by decide))),hown,h1.lg,h1.lr,h1.lp,h1.ln,hrows⟩
/-- The boxes of configurations stay as they were. -/
def Keep (W W' : World) : Prop:=∀ b cs,ObjAt W b 29 cs → ObjAt W' b 29 cs
theorem keep_refl (W : World) : Keep W W:=fun _ _ h=>h
theorem keep_mod {W W' : World} {B size n cap : Nat} {e : TypeId} {a : Option Addr} {xs : List Value} (h : Own W B e size a n cap xs) (hne : 29 ≠ e) (hm : Mod (blk a) W W') : Keep W W':=fun b cs ho=>ho.mod hm (h.ne ho hne)
theorem keep_fin {W W4 W5 W6 W7 : World} {b1 b2 : Nat} (hb : Below W.heap.size W W4) (hk : Keep W4 W5) (h1 : Upd b2 W5 W6) (h2 : Upd b1 W6 W7) (n1 : W.heap.size ≤ b1) (n2 : W.heap.size ≤ b2) : Keep W W7:=fun b cs ho=>
 have hlt:=ho.lt
 ((hk b cs (ho.below hb)).upd h1 (by omega)).upd h2 (by omega)
/-- What a line's taking hands back. -/
def TkR (w : World) (c : Cv) (W : World) (k : Nat) (ws : List (List UInt8)) (e : Ending) (w' : World) : Prop:=
 ∃ c' : Cv,e = .returned (.tuple #[.agg #[.int .i64 c'.cats,.slice c'.g.a c'.g.l.length c'.g.cap,.slice c'.r.a c'.r.l.length c'.r.cap,.slice c'.p.a c'.p.l.length c'.p.cap,.slice c'.n.a c'.n.l.length c'.n.cap,.slice c'.s.a c'.s.l.length c'.s.cap,.int .i64 c'.gate,.int .i64 c'.quota],.bool (rowV k ws).isSome]) ∧ Below w.heap.size w w' ∧ Keep W w' ∧ ∀ row,rowV k ws = some row → pcOf c' = setV (pcOf c) k row ∧ RO w c' w'
theorem lab_row (k : Nat) (hk : k = 1 ∨ k = 2) (w0 w1 w2 w3 : List UInt8) : rowV k [w0,w1,w2,w3] = if (labR [w0,w1,w2,w3]).2 then some [(labR [w0,w1,w2,w3]).1.1,(labR [w0,w1,w2,w3]).1.2.1,(labR [w0,w1,w2,w3]).1.2.2] else none:=by
 unfold rowV labR
 rcases hk with rfl | rfl <;> (cases hl : lbF w1 <;> simp [hl,nmsL];split <;> simp [*])
theorem por_row (w0 w1 w2 : List UInt8) : rowV 3 [w0,w1,w2] = if (porR [w0,w1,w2]).2 then some [(porR [w0,w1,w2]).1.1,(porR [w0,w1,w2]).1.2] else none:=by
 unfold rowV porR
 cases hl : lbF w1 <;> simp [hl,nmsL,nmsB]
 split <;> simp [*]
/-- The boxes with which a line's taking begins. -/
structure TB (W W3 : World) (b1 b2 : Nat) (c : Cv) : Prop where
 bel : Below W.heap.size W W3
 z : ObjAt W3 b1 29 #[.int .i64 0,.slice none 0 0,.slice none 0 0,.slice none 0 0,.slice none 0 0,.slice none 0 0,.int .i64 0,.int .i64 0].toList
 o : ObjAt W3 b2 29 (cfgL c)
 n1 : W.heap.size ≤ b1
 n2 : W.heap.size ≤ b2
 ne : b1 ≠ b2
theorem tb_start (W : World) (c : Cv) : TB W (((W.alloc (.cells #[.int .i64 c.cats,.slice c.g.a c.g.l.length c.g.cap,.slice c.r.a c.r.l.length c.r.cap,.slice c.p.a c.p.l.length c.p.cap,.slice c.n.a c.n.l.length c.n.cap,.slice c.s.a c.s.l.length c.s.cap,.int .i64 c.gate,.int .i64 c.quota] 29)).alloc (.cells #[.int .i64 0,.slice none 0 0,.slice none 0 0,.slice none 0 0,.slice none 0 0,.slice none 0 0,.int .i64 0,.int .i64 0] 29)).alloc (.cells #[.int .i64 c.cats,.slice c.g.a c.g.l.length c.g.cap,.slice c.r.a c.r.l.length c.r.cap,.slice c.p.a c.p.l.length c.p.cap,.slice c.n.a c.n.l.length c.n.cap,.slice c.s.a c.s.l.length c.s.cap,.int .i64 c.gate,.int .i64 c.quota] 29)) (W.heap.size + 1) (W.heap.size + 1 + 1) c:=by
 have s1 : (W.alloc (.cells #[.int .i64 c.cats,.slice c.g.a c.g.l.length c.g.cap,.slice c.r.a c.r.l.length c.r.cap,.slice c.p.a c.p.l.length c.p.cap,.slice c.n.a c.n.l.length c.n.cap,.slice c.s.a c.s.l.length c.s.cap,.int .i64 c.gate,.int .i64 c.quota] 29)).heap.size = W.heap.size + 1:=World.size_alloc _ _
 have s2 : ((W.alloc (.cells #[.int .i64 c.cats,.slice c.g.a c.g.l.length c.g.cap,.slice c.r.a c.r.l.length c.r.cap,.slice c.p.a c.p.l.length c.p.cap,.slice c.n.a c.n.l.length c.n.cap,.slice c.s.a c.s.l.length c.s.cap,.int .i64 c.gate,.int .i64 c.quota] 29)).alloc (.cells #[.int .i64 0,.slice none 0 0,.slice none 0 0,.slice none 0 0,.slice none 0 0,.slice none 0 0,.int .i64 0,.int .i64 0] 29)).heap.size = W.heap.size + 1 + 1:=by rw [World.size_alloc,s1]
 refine ⟨(((Below.refl _ _).alloc (Nat.le_refl _) _).alloc (by rw [s1];omega) _).alloc (by rw [s2];omega) _,?_,?_,by omega,by omega,by omega⟩
 ·have:=(ObjAt.new (W.alloc (.cells #[.int .i64 c.cats,.slice c.g.a c.g.l.length c.g.cap,.slice c.r.a c.r.l.length c.r.cap,.slice c.p.a c.p.l.length c.p.cap,.slice c.n.a c.n.l.length c.n.cap,.slice c.s.a c.s.l.length c.s.cap,.int .i64 c.gate,.int .i64 c.quota] 29)) 29 #[.int .i64 0,.slice none 0 0,.slice none 0 0,.slice none 0 0,.slice none 0 0,.slice none 0 0,.int .i64 0,.int .i64 0].toList).below ((Below.refl _ _).alloc (Nat.le_refl _) (.cells #[.int .i64 c.cats,.slice c.g.a c.g.l.length c.g.cap,.slice c.r.a c.r.l.length c.r.cap,.slice c.p.a c.p.l.length c.p.cap,.slice c.n.a c.n.l.length c.n.cap,.slice c.s.a c.s.l.length c.s.cap,.int .i64 c.gate,.int .i64 c.quota] 29))
  rw [s1] at this;exact this
 ·have:=ObjAt.new ((W.alloc (.cells #[.int .i64 c.cats,.slice c.g.a c.g.l.length c.g.cap,.slice c.r.a c.r.l.length c.r.cap,.slice c.p.a c.p.l.length c.p.cap,.slice c.n.a c.n.l.length c.n.cap,.slice c.s.a c.s.l.length c.s.cap,.int .i64 c.gate,.int .i64 c.quota] 29)).alloc (.cells #[.int .i64 0,.slice none 0 0,.slice none 0 0,.slice none 0 0,.slice none 0 0,.slice none 0 0,.int .i64 0,.int .i64 0] 29)) 29 (cfgL c)
  rw [s2] at this;exact this
theorem TB.more {W W3 W' : World} {b1 b2 : Nat} {c : Cv} (h : TB W W3 b1 b2 c) (hb : Below W3.heap.size W3 W') : TB W W' b1 b2 c:=⟨bmore h.bel hb,h.z.below hb,h.o.below hb,h.n1,h.n2,h.ne⟩
theorem tkr_fin {w W0 : World} {c c1 : Cv} {k : Nat} {ws : List (List UInt8)} {row : List Int} {b : Bool} {W : World} {v : Value} (h : rowV k ws = if b then some row else none) (hc : pcOf c1 = setV (pcOf c) k row) (hr : RO w c1 W) (hk : Keep W0 W) (hv : v = .tuple #[.agg #[.int .i64 c1.cats,.slice c1.g.a c1.g.l.length c1.g.cap,.slice c1.r.a c1.r.l.length c1.r.cap,.slice c1.p.a c1.p.l.length c1.p.cap,.slice c1.n.a c1.n.l.length c1.n.cap,.slice c1.s.a c1.s.l.length c1.s.cap,.int .i64 c1.gate,.int .i64 c1.quota],.bool b]) : TkR w c W0 k ws (.returned v) W:=by
 refine ⟨c1,?_,hr.bel,hk,fun r hr2=>?_⟩
 ·rw [hv,h];cases b <;> rfl
 ·rw [h] at hr2
  cases b
  ·cases hr2
  ·injection hr2 with hr2;rw [← hr2];exact ⟨hc,hr⟩
theorem rtake_guest (w : World) (c : Cv) (w0 w1 w2 w3 : List UInt8) (hsm : ∀ x ∈ [w0,w1,w2,w3],x.length ≤ 100000000) (a : Option Addr) (cap : Nat) (W : World) (h : RO w c W) (hr : RdW W a cap [w0,w1,w2,w3]) (hn : FewC c) :
  Calls Tryz.prog 99 #[(.agg #[.int .i64 c.cats,.slice c.g.a c.g.l.length c.g.cap,.slice c.r.a c.r.l.length c.r.cap,.slice c.p.a c.p.l.length c.p.cap,.slice c.n.a c.n.l.length c.n.cap,.slice c.s.a c.s.l.length c.s.cap,.int .i64 c.gate,.int .i64 c.quota]),.int .i64 1,.slice a 4 cap] W (TkR w c W 1 [w0,w1,w2,w3]):=by
 obtain ⟨i0,hi0,hz0,hz1,hz2⟩:=info_parts info_gu
 obtain ⟨W3,hW3⟩ : ∃ W3,W3 = ((W.alloc (.cells #[.int .i64 c.cats,.slice c.g.a c.g.l.length c.g.cap,.slice c.r.a c.r.l.length c.r.cap,.slice c.p.a c.p.l.length c.p.cap,.slice c.n.a c.n.l.length c.n.cap,.slice c.s.a c.s.l.length c.s.cap,.int .i64 c.gate,.int .i64 c.quota] 29)).alloc (.cells #[.int .i64 0,.slice none 0 0,.slice none 0 0,.slice none 0 0,.slice none 0 0,.slice none 0 0,.int .i64 0,.int .i64 0] 29)).alloc (.cells #[.int .i64 c.cats,.slice c.g.a c.g.l.length c.g.cap,.slice c.r.a c.r.l.length c.r.cap,.slice c.p.a c.p.l.length c.p.cap,.slice c.n.a c.n.l.length c.n.cap,.slice c.s.a c.s.l.length c.s.cap,.int .i64 c.gate,.int .i64 c.quota] 29):=⟨_,rfl⟩
 obtain ⟨b1,hb1⟩ : ∃ b,b = W.heap.size + 1:=⟨_,rfl⟩
 obtain ⟨b2,hb2⟩ : ∃ b,b = W.heap.size + 1 + 1:=⟨_,rfl⟩
 have HTB : Hid (TB W W3 b1 b2 c):=by rw [hW3,hb1,hb2];exact tb_start W c
 have HRO:=Lib.hid (h.more HTB.out.bel)
 have HRW:=Lib.hid (hr.below HTB.out.bel)
 have HW3:=Lib.hid hW3
 have HE1:=Lib.hid hb1
 have HE2:=Lib.hid hb2
 have hwB:=h.bel.size
 clear hW3 hb1 hb2
 have HLB:=Lib.hid (rlabelled_any w0 w1 w2 w3 hsm a cap W3 HRW.out)
 have hrow:=lab_row 1 (by omega) w0 w1 w2 w3
 generalize labR [w0,w1,w2,w3] = R at HLB hrow
 obtain ⟨⟨x,y,z⟩,b⟩:=R
 have HROW:=Lib.hid hrow
 have hfew:=hn.1
 clear hrow h hr hsm
 go_enter Tryz.func99,Tryz.ntmps99
 (go_upto_region 2 with fail;rw [← HW3.out];try rw [← HE2.out];try rw [← HE1.out])
 go_wp2_with fail
 refine HLB.out.mono ?_;rintro e W4 ⟨rfl,hb4⟩
 have HTB4:=Lib.hid (HTB.out.more hb4)
 have HRO4:=Lib.hid (HRO.out.more hb4)
 have hs4:=HRO4.out.bel.size
 clear hb4
 have q0:=(HTB4.out.o).cell 0 _ rfl;have q1:=(HTB4.out.o).cell 1 _ rfl;have q2:=(HTB4.out.o).cell 2 _ rfl;have q3:=(HTB4.out.o).cell 3 _ rfl;have q4:=(HTB4.out.o).cell 4 _ rfl;have q5:=(HTB4.out.o).cell 5 _ rfl;have q6:=(HTB4.out.o).cell 6 _ rfl;have q7:=(HTB4.out.o).cell 7 _ rfl
 go_wp2_with (at_builtin;(refine wpList_own rfl (.tmp 32) (.tmp 37) 23 rfl w.heap.size 130 i0 _ 3 24 Tryz.underlying23 hi0 hz0 hz1 hz2 rfl (by omega) c.g.a c.g.l.length c.g.cap (iF c.g.l) rfl ((HRO4.out.g).below ((Below.refl _ _).alloc (Nat.le_refl _) _)) W4.heap.size (ivs [x,y,z]) rfl (new_block _ _ _ rfl) rfl (by simp [ivs,Value.oneCell']) (by simp only [maxLen];omega) (by omega) (by simp;omega) ?_);intro g' c' W5 hown1 hmod1 _;have HOWN:=Lib.hid hown1;have HMOD : Hid (Mod (blk c.g.a) W4 W5):=((Mod.ofBelow ((Below.refl W4.heap.size W4).alloc (Nat.le_refl _) _)).trans hmod1);clear hown1 hmod1;have HO5:=Lib.hid (HTB4.out.o.mod HMOD.out (HRO4.out.g.ne HTB4.out.o (by decide)));have HZ5:=Lib.hid (HTB4.out.z.mod HMOD.out (HRO4.out.g.ne HTB4.out.z (by decide)));have d5:=HO5.out.cell 1 _ rfl;have e5:=HO5.out.free 1;have HO6:=Lib.hid (HO5.out.set 1 (.slice (some ⟨g',0,none⟩) (c.g.l.length + 1) c'));have HZ6:=Lib.hid (HZ5.out.upd (Upd.setCell W5 ⟨b2,1,none⟩ (.slice (some ⟨g',0,none⟩) (c.g.l.length + 1) c')) HTB4.out.ne);clear q0 q1 q2 q3 q4 q5 q6 q7;have r0:=(HO6.out).cell 0 _ rfl;have r1:=(HO6.out).cell 1 _ rfl;have r2:=(HO6.out).cell 2 _ rfl;have r3:=(HO6.out).cell 3 _ rfl;have r4:=(HO6.out).cell 4 _ rfl;have r5:=(HO6.out).cell 5 _ rfl;have r6:=(HO6.out).cell 6 _ rfl;have r7:=(HO6.out).cell 7 _ rfl;have a0:=(HZ6.out).cell 0 _ rfl;have a1:=(HZ6.out).cell 1 _ rfl;have a2:=(HZ6.out).cell 2 _ rfl;have a3:=(HZ6.out).cell 3 _ rfl;have a4:=(HZ6.out).cell 4 _ rfl;have a5:=(HZ6.out).cell 5 _ rfl;have a6:=(HZ6.out).cell 6 _ rfl;have a7:=(HZ6.out).cell 7 _ rfl;have g0:=(HZ6.out).free 0;have g1:=(HZ6.out).free 1;have g2:=(HZ6.out).free 2;have g3:=(HZ6.out).free 3;have g4:=(HZ6.out).free 4;have g5:=(HZ6.out).free 5;have g6:=(HZ6.out).free 6;have g7:=(HZ6.out).free 7;have s6:=(HZ6.out).lt)
 refine bodyPost_ret (v:=.tuple #[.agg #[.int .i64 c.cats,.slice (some ⟨g',0,none⟩) (c.g.l.length + 1) c',.slice c.r.a c.r.l.length c.r.cap,.slice c.p.a c.p.l.length c.p.cap,.slice c.n.a c.n.l.length c.n.cap,.slice c.s.a c.s.l.length c.s.cap,.int .i64 c.gate,.int .i64 c.quota],.bool b]) (by simp [results,Tryz.results99,go_sem,a0,a1,a2,a3,a4,a5,a6,a7,s6]) rfl ?_
 have HU7:=(upd_put (k:=7) (v:=.int .i64 c.quota) (upd_put (k:=6) (v:=.int .i64 c.gate) (upd_put (k:=5) (v:=.slice c.s.a c.s.l.length c.s.cap) (upd_put (k:=4) (v:=.slice c.n.a c.n.l.length c.n.cap) (upd_put (k:=3) (v:=.slice c.p.a c.p.l.length c.p.cap) (upd_put (k:=2) (v:=.slice c.r.a c.r.l.length c.r.cap) (upd_put (k:=1) (v:=.slice (some ⟨g',0,none⟩) (c.g.l.length + 1) c') (upd_put (k:=0) (v:=.int .i64 c.cats) (Upd.refl b1 (W5.setCell ⟨b2,1,none⟩ (.slice (some ⟨g',0,none⟩) (c.g.l.length + 1) c')))))))))))
 have HR7 : RO w { c with g:=⟨some ⟨g',0,none⟩,c',c.g.l ++ [[x,y,z]]⟩ } _:=((HRO4.out.addG (row:=[x,y,z]) HOWN.out HMOD.out rfl).upd HO5.out (by have:=HTB4.out.n2;omega) (Upd.setCell W5 ⟨b2,1,none⟩ (.slice (some ⟨g',0,none⟩) (c.g.l.length + 1) c'))).upd HZ6.out (by have:=HTB4.out.n1;omega) HU7
 have HK7:=keep_fin HTB4.out.bel (keep_mod HRO4.out.g (by decide) HMOD.out) (Upd.setCell W5 ⟨b2,1,none⟩ (.slice (some ⟨g',0,none⟩) (c.g.l.length + 1) c')) HU7 HTB4.out.n1 HTB4.out.n2
 exact tkr_fin HROW.out rfl HR7 HK7 (by simp)
theorem rtake_range (w : World) (c : Cv) (w0 w1 w2 w3 : List UInt8) (hsm : ∀ x ∈ [w0,w1,w2,w3],x.length ≤ 100000000) (a : Option Addr) (cap : Nat) (W : World) (h : RO w c W) (hr : RdW W a cap [w0,w1,w2,w3]) (hn : FewC c) :
  Calls Tryz.prog 99 #[(.agg #[.int .i64 c.cats,.slice c.g.a c.g.l.length c.g.cap,.slice c.r.a c.r.l.length c.r.cap,.slice c.p.a c.p.l.length c.p.cap,.slice c.n.a c.n.l.length c.n.cap,.slice c.s.a c.s.l.length c.s.cap,.int .i64 c.gate,.int .i64 c.quota]),.int .i64 2,.slice a 4 cap] W (TkR w c W 2 [w0,w1,w2,w3]):=by
 obtain ⟨i0,hi0,hz0,hz1,hz2⟩:=info_parts info_ra
 obtain ⟨W3,hW3⟩ : ∃ W3,W3 = ((W.alloc (.cells #[.int .i64 c.cats,.slice c.g.a c.g.l.length c.g.cap,.slice c.r.a c.r.l.length c.r.cap,.slice c.p.a c.p.l.length c.p.cap,.slice c.n.a c.n.l.length c.n.cap,.slice c.s.a c.s.l.length c.s.cap,.int .i64 c.gate,.int .i64 c.quota] 29)).alloc (.cells #[.int .i64 0,.slice none 0 0,.slice none 0 0,.slice none 0 0,.slice none 0 0,.slice none 0 0,.int .i64 0,.int .i64 0] 29)).alloc (.cells #[.int .i64 c.cats,.slice c.g.a c.g.l.length c.g.cap,.slice c.r.a c.r.l.length c.r.cap,.slice c.p.a c.p.l.length c.p.cap,.slice c.n.a c.n.l.length c.n.cap,.slice c.s.a c.s.l.length c.s.cap,.int .i64 c.gate,.int .i64 c.quota] 29):=⟨_,rfl⟩
 obtain ⟨b1,hb1⟩ : ∃ b,b = W.heap.size + 1:=⟨_,rfl⟩
 obtain ⟨b2,hb2⟩ : ∃ b,b = W.heap.size + 1 + 1:=⟨_,rfl⟩
 have HTB : Hid (TB W W3 b1 b2 c):=by rw [hW3,hb1,hb2];exact tb_start W c
 have HRO:=Lib.hid (h.more HTB.out.bel)
 have HRW:=Lib.hid (hr.below HTB.out.bel)
 have HW3:=Lib.hid hW3
 have HE1:=Lib.hid hb1
 have HE2:=Lib.hid hb2
 have hwB:=h.bel.size
 clear hW3 hb1 hb2
 have HLB:=Lib.hid (rlabelled_any w0 w1 w2 w3 hsm a cap W3 HRW.out)
 have hrow:=lab_row 2 (by omega) w0 w1 w2 w3
 generalize labR [w0,w1,w2,w3] = R at HLB hrow
 obtain ⟨⟨x,y,z⟩,b⟩:=R
 have HROW:=Lib.hid hrow
 have hfew:=hn.2.1
 clear hrow h hr hsm
 go_enter Tryz.func99,Tryz.ntmps99
 (go_upto_region 2 with fail;rw [← HW3.out];try rw [← HE2.out];try rw [← HE1.out])
 go_wp2_with fail
 refine HLB.out.mono ?_;rintro e W4 ⟨rfl,hb4⟩
 have HTB4:=Lib.hid (HTB.out.more hb4)
 have HRO4:=Lib.hid (HRO.out.more hb4)
 have hs4:=HRO4.out.bel.size
 clear hb4
 have q0:=(HTB4.out.o).cell 0 _ rfl;have q1:=(HTB4.out.o).cell 1 _ rfl;have q2:=(HTB4.out.o).cell 2 _ rfl;have q3:=(HTB4.out.o).cell 3 _ rfl;have q4:=(HTB4.out.o).cell 4 _ rfl;have q5:=(HTB4.out.o).cell 5 _ rfl;have q6:=(HTB4.out.o).cell 6 _ rfl;have q7:=(HTB4.out.o).cell 7 _ rfl
 go_wp2_with (at_builtin;(refine wpList_own rfl (.tmp 41) (.tmp 46) 24 rfl w.heap.size 132 i0 _ 3 24 Tryz.underlying24 hi0 hz0 hz1 hz2 rfl (by omega) c.r.a c.r.l.length c.r.cap (iF c.r.l) rfl ((HRO4.out.r).below ((Below.refl _ _).alloc (Nat.le_refl _) _)) W4.heap.size (ivs [x,y,z]) rfl (new_block _ _ _ rfl) rfl (by simp [ivs,Value.oneCell']) (by simp only [maxLen];omega) (by omega) (by simp;omega) ?_);intro g' c' W5 hown1 hmod1 _;have HOWN:=Lib.hid hown1;have HMOD : Hid (Mod (blk c.r.a) W4 W5):=((Mod.ofBelow ((Below.refl W4.heap.size W4).alloc (Nat.le_refl _) _)).trans hmod1);clear hown1 hmod1;have HO5:=Lib.hid (HTB4.out.o.mod HMOD.out (HRO4.out.r.ne HTB4.out.o (by decide)));have HZ5:=Lib.hid (HTB4.out.z.mod HMOD.out (HRO4.out.r.ne HTB4.out.z (by decide)));have d5:=HO5.out.cell 2 _ rfl;have e5:=HO5.out.free 2;have HO6:=Lib.hid (HO5.out.set 2 (.slice (some ⟨g',0,none⟩) (c.r.l.length + 1) c'));have HZ6:=Lib.hid (HZ5.out.upd (Upd.setCell W5 ⟨b2,2,none⟩ (.slice (some ⟨g',0,none⟩) (c.r.l.length + 1) c')) HTB4.out.ne);clear q0 q1 q2 q3 q4 q5 q6 q7;have r0:=(HO6.out).cell 0 _ rfl;have r1:=(HO6.out).cell 1 _ rfl;have r2:=(HO6.out).cell 2 _ rfl;have r3:=(HO6.out).cell 3 _ rfl;have r4:=(HO6.out).cell 4 _ rfl;have r5:=(HO6.out).cell 5 _ rfl;have r6:=(HO6.out).cell 6 _ rfl;have r7:=(HO6.out).cell 7 _ rfl;have a0:=(HZ6.out).cell 0 _ rfl;have a1:=(HZ6.out).cell 1 _ rfl;have a2:=(HZ6.out).cell 2 _ rfl;have a3:=(HZ6.out).cell 3 _ rfl;have a4:=(HZ6.out).cell 4 _ rfl;have a5:=(HZ6.out).cell 5 _ rfl;have a6:=(HZ6.out).cell 6 _ rfl;have a7:=(HZ6.out).cell 7 _ rfl;have g0:=(HZ6.out).free 0;have g1:=(HZ6.out).free 1;have g2:=(HZ6.out).free 2;have g3:=(HZ6.out).free 3;have g4:=(HZ6.out).free 4;have g5:=(HZ6.out).free 5;have g6:=(HZ6.out).free 6;have g7:=(HZ6.out).free 7;have s6:=(HZ6.out).lt)
 refine bodyPost_ret (v:=.tuple #[.agg #[.int .i64 c.cats,.slice c.g.a c.g.l.length c.g.cap,.slice (some ⟨g',0,none⟩) (c.r.l.length + 1) c',.slice c.p.a c.p.l.length c.p.cap,.slice c.n.a c.n.l.length c.n.cap,.slice c.s.a c.s.l.length c.s.cap,.int .i64 c.gate,.int .i64 c.quota],.bool b]) (by simp [results,Tryz.results99,go_sem,a0,a1,a2,a3,a4,a5,a6,a7,s6]) rfl ?_
 have HU7:=(upd_put (k:=7) (v:=.int .i64 c.quota) (upd_put (k:=6) (v:=.int .i64 c.gate) (upd_put (k:=5) (v:=.slice c.s.a c.s.l.length c.s.cap) (upd_put (k:=4) (v:=.slice c.n.a c.n.l.length c.n.cap) (upd_put (k:=3) (v:=.slice c.p.a c.p.l.length c.p.cap) (upd_put (k:=2) (v:=.slice (some ⟨g',0,none⟩) (c.r.l.length + 1) c') (upd_put (k:=1) (v:=.slice c.g.a c.g.l.length c.g.cap) (upd_put (k:=0) (v:=.int .i64 c.cats) (Upd.refl b1 (W5.setCell ⟨b2,2,none⟩ (.slice (some ⟨g',0,none⟩) (c.r.l.length + 1) c')))))))))))
 have HR7 : RO w { c with r:=⟨some ⟨g',0,none⟩,c',c.r.l ++ [[x,y,z]]⟩ } _:=((HRO4.out.addR (row:=[x,y,z]) HOWN.out HMOD.out rfl).upd HO5.out (by have:=HTB4.out.n2;omega) (Upd.setCell W5 ⟨b2,2,none⟩ (.slice (some ⟨g',0,none⟩) (c.r.l.length + 1) c'))).upd HZ6.out (by have:=HTB4.out.n1;omega) HU7
 have HK7:=keep_fin HTB4.out.bel (keep_mod HRO4.out.r (by decide) HMOD.out) (Upd.setCell W5 ⟨b2,2,none⟩ (.slice (some ⟨g',0,none⟩) (c.r.l.length + 1) c')) HU7 HTB4.out.n1 HTB4.out.n2
 exact tkr_fin HROW.out rfl HR7 HK7 (by simp)
end Go.Proofs.YtoklonmiejdgmaaGreatDoor
/- The reference of plan: ports and plain lines taken. -/
namespace Go.Proofs.YtoklonmiejdgmaaGreatDoor
set_option linter.unusedVariables false
set_option linter.unusedSimpArgs false
set_option linter.unnecessarySimpa false
open Go.RowKit Go.Sort
set_option maxHeartbeats 4000000
set_option maxRecDepth 100000
set_option linter.unusedVariables false
theorem rtake_port (w : World) (c : Cv) (w0 w1 w2 : List UInt8) (hsm : ∀ x ∈ [w0,w1,w2],x.length ≤ 100000000) (a : Option Addr) (cap : Nat) (W : World) (h : RO w c W) (hr : RdW W a cap [w0,w1,w2]) (hn : FewC c) :
  Calls Tryz.prog 99 #[(.agg #[.int .i64 c.cats,.slice c.g.a c.g.l.length c.g.cap,.slice c.r.a c.r.l.length c.r.cap,.slice c.p.a c.p.l.length c.p.cap,.slice c.n.a c.n.l.length c.n.cap,.slice c.s.a c.s.l.length c.s.cap,.int .i64 c.gate,.int .i64 c.quota]),.int .i64 3,.slice a 3 cap] W (TkR w c W 3 [w0,w1,w2]):=by
 obtain ⟨i0,hi0,hz0,hz1,hz2⟩:=info_parts info_po
 obtain ⟨W3,hW3⟩ : ∃ W3,W3 = ((W.alloc (.cells #[.int .i64 c.cats,.slice c.g.a c.g.l.length c.g.cap,.slice c.r.a c.r.l.length c.r.cap,.slice c.p.a c.p.l.length c.p.cap,.slice c.n.a c.n.l.length c.n.cap,.slice c.s.a c.s.l.length c.s.cap,.int .i64 c.gate,.int .i64 c.quota] 29)).alloc (.cells #[.int .i64 0,.slice none 0 0,.slice none 0 0,.slice none 0 0,.slice none 0 0,.slice none 0 0,.int .i64 0,.int .i64 0] 29)).alloc (.cells #[.int .i64 c.cats,.slice c.g.a c.g.l.length c.g.cap,.slice c.r.a c.r.l.length c.r.cap,.slice c.p.a c.p.l.length c.p.cap,.slice c.n.a c.n.l.length c.n.cap,.slice c.s.a c.s.l.length c.s.cap,.int .i64 c.gate,.int .i64 c.quota] 29):=⟨_,rfl⟩
 obtain ⟨b1,hb1⟩ : ∃ b,b = W.heap.size + 1:=⟨_,rfl⟩
 obtain ⟨b2,hb2⟩ : ∃ b,b = W.heap.size + 1 + 1:=⟨_,rfl⟩
 have HTB : Hid (TB W W3 b1 b2 c):=by rw [hW3,hb1,hb2];exact tb_start W c
 have HRO:=Lib.hid (h.more HTB.out.bel)
 have HRW:=Lib.hid (hr.below HTB.out.bel)
 have HW3:=Lib.hid hW3
 have HE1:=Lib.hid hb1
 have HE2:=Lib.hid hb2
 have hwB:=h.bel.size
 clear hW3 hb1 hb2
 have HLB:=Lib.hid (rport_any w0 w1 w2 hsm a cap W3 HRW.out)
 have hrow:=por_row w0 w1 w2
 generalize porR [w0,w1,w2] = R at HLB hrow
 obtain ⟨⟨x,y⟩,b⟩:=R
 have HROW:=Lib.hid hrow
 have hfew:=hn.2.2.1
 clear hrow h hr hsm
 go_enter Tryz.func99,Tryz.ntmps99
 (go_upto_region 2 with fail;rw [← HW3.out];try rw [← HE2.out];try rw [← HE1.out])
 go_wp2_with fail
 refine HLB.out.mono ?_;rintro e Wa ⟨rfl,hb4⟩
 obtain ⟨W4,hW4⟩ : ∃ W4,W4 = Wa.alloc (.cells #[.int .i64 x,.int .i64 y] 134):=⟨_,rfl⟩
 have HP4 : ObjAt W4 Wa.heap.size 134 [.int .i64 x,.int .i64 y]:=by rw [hW4];exact ObjAt.new Wa _ _
 have hb5 : Below Wa.heap.size Wa W4:=by rw [hW4];exact (Below.refl _ _).alloc (Nat.le_refl _) _
 have HW4:=Lib.hid hW4
 have HTB4:=Lib.hid ((HTB.out.more hb4).more hb5)
 have HRO4:=Lib.hid ((HRO.out.more hb4).more hb5)
 have hs4:=HRO4.out.bel.size
 have p0:=HP4.cell 0 _ rfl
 have p1:=HP4.cell 1 _ rfl
 clear hb4 hb5 hW4 HP4
 have q0:=(HTB4.out.o).cell 0 _ rfl;have q1:=(HTB4.out.o).cell 1 _ rfl;have q2:=(HTB4.out.o).cell 2 _ rfl;have q3:=(HTB4.out.o).cell 3 _ rfl;have q4:=(HTB4.out.o).cell 4 _ rfl;have q5:=(HTB4.out.o).cell 5 _ rfl;have q6:=(HTB4.out.o).cell 6 _ rfl;have q7:=(HTB4.out.o).cell 7 _ rfl
 go_upto_region 10 with fail
 rw [← HW4.out]
 generalize Wa.heap.size = bp at p0 p1 ⊢
 go_wp2_with (at_builtin;(refine wpList_own rfl (.tmp 59) (.tmp 61) 25 rfl w.heap.size 134 i0 _ 2 16 Tryz.underlying25 hi0 hz0 hz1 hz2 rfl (by omega) c.p.a c.p.l.length c.p.cap (iF c.p.l) rfl ((HRO4.out.p).below ((Below.refl _ _).alloc (Nat.le_refl _) _)) W4.heap.size (ivs [x,y]) rfl (new_block _ _ _ rfl) rfl (by simp [ivs,Value.oneCell']) (by simp only [maxLen];omega) (by omega) (by simp;omega) ?_);intro g' c' W5 hown1 hmod1 _;have HOWN:=Lib.hid hown1;have HMOD : Hid (Mod (blk c.p.a) W4 W5):=((Mod.ofBelow ((Below.refl W4.heap.size W4).alloc (Nat.le_refl _) _)).trans hmod1);clear hown1 hmod1;have HO5:=Lib.hid (HTB4.out.o.mod HMOD.out (HRO4.out.p.ne HTB4.out.o (by decide)));have HZ5:=Lib.hid (HTB4.out.z.mod HMOD.out (HRO4.out.p.ne HTB4.out.z (by decide)));have d5:=HO5.out.cell 3 _ rfl;have e5:=HO5.out.free 3;have HO6:=Lib.hid (HO5.out.set 3 (.slice (some ⟨g',0,none⟩) (c.p.l.length + 1) c'));have HZ6:=Lib.hid (HZ5.out.upd (Upd.setCell W5 ⟨b2,3,none⟩ (.slice (some ⟨g',0,none⟩) (c.p.l.length + 1) c')) HTB4.out.ne);clear q0 q1 q2 q3 q4 q5 q6 q7;have r0:=(HO6.out).cell 0 _ rfl;have r1:=(HO6.out).cell 1 _ rfl;have r2:=(HO6.out).cell 2 _ rfl;have r3:=(HO6.out).cell 3 _ rfl;have r4:=(HO6.out).cell 4 _ rfl;have r5:=(HO6.out).cell 5 _ rfl;have r6:=(HO6.out).cell 6 _ rfl;have r7:=(HO6.out).cell 7 _ rfl;have a0:=(HZ6.out).cell 0 _ rfl;have a1:=(HZ6.out).cell 1 _ rfl;have a2:=(HZ6.out).cell 2 _ rfl;have a3:=(HZ6.out).cell 3 _ rfl;have a4:=(HZ6.out).cell 4 _ rfl;have a5:=(HZ6.out).cell 5 _ rfl;have a6:=(HZ6.out).cell 6 _ rfl;have a7:=(HZ6.out).cell 7 _ rfl;have g0:=(HZ6.out).free 0;have g1:=(HZ6.out).free 1;have g2:=(HZ6.out).free 2;have g3:=(HZ6.out).free 3;have g4:=(HZ6.out).free 4;have g5:=(HZ6.out).free 5;have g6:=(HZ6.out).free 6;have g7:=(HZ6.out).free 7;have s6:=(HZ6.out).lt)
 refine bodyPost_ret (v:=.tuple #[.agg #[.int .i64 c.cats,.slice c.g.a c.g.l.length c.g.cap,.slice c.r.a c.r.l.length c.r.cap,.slice (some ⟨g',0,none⟩) (c.p.l.length + 1) c',.slice c.n.a c.n.l.length c.n.cap,.slice c.s.a c.s.l.length c.s.cap,.int .i64 c.gate,.int .i64 c.quota],.bool b]) (by simp [results,Tryz.results99,go_sem,a0,a1,a2,a3,a4,a5,a6,a7,s6]) rfl ?_
 have HU7:=(upd_put (k:=7) (v:=.int .i64 c.quota) (upd_put (k:=6) (v:=.int .i64 c.gate) (upd_put (k:=5) (v:=.slice c.s.a c.s.l.length c.s.cap) (upd_put (k:=4) (v:=.slice c.n.a c.n.l.length c.n.cap) (upd_put (k:=3) (v:=.slice (some ⟨g',0,none⟩) (c.p.l.length + 1) c') (upd_put (k:=2) (v:=.slice c.r.a c.r.l.length c.r.cap) (upd_put (k:=1) (v:=.slice c.g.a c.g.l.length c.g.cap) (upd_put (k:=0) (v:=.int .i64 c.cats) (Upd.refl b1 (W5.setCell ⟨b2,3,none⟩ (.slice (some ⟨g',0,none⟩) (c.p.l.length + 1) c')))))))))))
 have HR7 : RO w { c with p:=⟨some ⟨g',0,none⟩,c',c.p.l ++ [[x,y]]⟩ } _:=((HRO4.out.addP (row:=[x,y]) HOWN.out HMOD.out rfl).upd HO5.out (by have:=HTB4.out.n2;omega) (Upd.setCell W5 ⟨b2,3,none⟩ (.slice (some ⟨g',0,none⟩) (c.p.l.length + 1) c'))).upd HZ6.out (by have:=HTB4.out.n1;omega) HU7
 have HK7:=keep_fin HTB4.out.bel (keep_mod HRO4.out.p (by decide) HMOD.out) (Upd.setCell W5 ⟨b2,3,none⟩ (.slice (some ⟨g',0,none⟩) (c.p.l.length + 1) c')) HU7 HTB4.out.n1 HTB4.out.n2
 exact tkr_fin HROW.out rfl HR7 HK7 (by simp)
theorem plain_row (k : Nat) (hk : k ≠ 1 ∧ k ≠ 2 ∧ k ≠ 3) (ws : List (List UInt8)) : rowV k ws = if nmsB (ws.drop 1) then some (nmsL (ws.drop 1)) else none:=by
 unfold rowV;rw [if_neg (by omega)]
theorem tkr_no {w W0 : World} {c c1 : Cv} {k : Nat} {ws : List (List UInt8)} {W : World} {v : Value} (h : rowV k ws = none) (hb : Below w.heap.size w W) (hk : Keep W0 W) (hv : v = .tuple #[.agg #[.int .i64 c1.cats,.slice c1.g.a c1.g.l.length c1.g.cap,.slice c1.r.a c1.r.l.length c1.r.cap,.slice c1.p.a c1.p.l.length c1.p.cap,.slice c1.n.a c1.n.l.length c1.n.cap,.slice c1.s.a c1.s.l.length c1.s.cap,.int .i64 c1.gate,.int .i64 c1.quota],.bool false]) : TkR w c W0 k ws (.returned v) W:=by
 refine ⟨c1,?_,hb,hk,fun r hr2=>?_⟩
 ·rw [hv,h];rfl
 ·rw [h] at hr2;cases hr2
end Go.Proofs.YtoklonmiejdgmaaGreatDoor
