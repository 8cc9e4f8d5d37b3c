/- Chapter 4, the reference: slots, need, rings. -/
import Derived.Test.YtoklonmiejdgmaaGreatDoorGScriptReads11
namespace Go.Proofs.YtoklonmiejdgmaaGreatDoor
set_option linter.unusedVariables false
set_option linter.unusedSimpArgs false
set_option linter.unnecessarySimpa false
open Go.RowKit Go.Sort
set_option maxHeartbeats 4000000
set_option maxRecDepth 100000
set_option linter.unusedVariables false
variable {W W' w : World} {c : Cv} {b N : Nat} {s : Sl}
theorem rslots_any (c : Cv) (w : World) (h : CfgOk w c) : Calls Tryz.prog 104 #[(.agg #[.int .i64 c.cats,.slice c.g.a c.g.l.length c.g.cap,.slice c.r.a c.r.l.length c.r.cap,.slice c.p.a c.p.l.length c.p.cap,.slice c.n.a c.n.l.length c.n.cap,.slice c.s.a c.s.l.length c.s.cap,.int .i64 c.gate,.int .i64 c.quota])] w fun e w'=>e = .returned (.tuple #[.bool (sFst c).2,.int .i64 (sFst c).1]) ∧ Below w.heap.size w w':=by
 have hm:=h.s.mx
 obtain ⟨x,hx⟩ : ∃ x,x = sFst c:=⟨_,rfl⟩
 rw [← hx]
 have HX:=Lib.hid hx
 clear hx
 by_cases h1 : c.s.l.length < 1
 ·have d1 : decide ((c.s.l.length : Int) < 1) = true:=by simp;omega
  have hx : x = (0,true):=by rw [HX.out,sFst,if_pos (Or.inl h1)]
  subst hx
  clear h1
  (have h0:=CX.new h;go_enter Tryz.func104,Tryz.ntmps104;go_upto_region 1 with fail;generalize w.alloc (.cells #[.int .i64 c.cats,.slice c.g.a c.g.l.length c.g.cap,.slice c.r.a c.r.l.length c.r.cap,.slice c.p.a c.p.l.length c.p.cap,.slice c.n.a c.n.l.length c.n.cap,.slice c.s.a c.s.l.length c.s.cap,.int .i64 c.gate,.int .i64 c.quota] 29) = W1 at h0 ⊢;generalize w.heap.size = b0 at h0 ⊢;have H0:=Lib.hid h0;clear h0 h)
  (have q0:=H0.out.ob.cell 0 _ rfl;have q1:=H0.out.ob.cell 1 _ rfl;have q2:=H0.out.ob.cell 2 _ rfl;have q3:=H0.out.ob.cell 3 _ rfl;have q4:=H0.out.ob.cell 4 _ rfl;have q5:=H0.out.ob.cell 5 _ rfl;have q6:=H0.out.ob.cell 6 _ rfl;have q7:=H0.out.ob.cell 7 _ rfl)
  go_wp2_with fail
  go_ret2
  exact ⟨rfl,H0.out.bel⟩
 ·have d1 : decide ((c.s.l.length : Int) < 1) = false:=by simp;omega
  by_cases h2 : 8 < c.s.l.length
  ·have d2 : decide ((c.s.l.length : Int) > 8) = true:=by simp;omega
   have hx : x = (0,true):=by rw [HX.out,sFst,if_pos (Or.inr h2)]
   subst hx
   clear h1 h2
   (have h0:=CX.new h;go_enter Tryz.func104,Tryz.ntmps104;go_upto_region 1 with fail;generalize w.alloc (.cells #[.int .i64 c.cats,.slice c.g.a c.g.l.length c.g.cap,.slice c.r.a c.r.l.length c.r.cap,.slice c.p.a c.p.l.length c.p.cap,.slice c.n.a c.n.l.length c.n.cap,.slice c.s.a c.s.l.length c.s.cap,.int .i64 c.gate,.int .i64 c.quota] 29) = W1 at h0 ⊢;generalize w.heap.size = b0 at h0 ⊢;have H0:=Lib.hid h0;clear h0 h)
   (have q0:=H0.out.ob.cell 0 _ rfl;have q1:=H0.out.ob.cell 1 _ rfl;have q2:=H0.out.ob.cell 2 _ rfl;have q3:=H0.out.ob.cell 3 _ rfl;have q4:=H0.out.ob.cell 4 _ rfl;have q5:=H0.out.ob.cell 5 _ rfl;have q6:=H0.out.ob.cell 6 _ rfl;have q7:=H0.out.ob.cell 7 _ rfl)
   go_wp2_with fail
   go_ret2
   exact ⟨rfl,H0.out.bel⟩
  ·have d2 : decide ((c.s.l.length : Int) > 8) = false:=by simp;omega
   replace HX : Hid (x = fstV (sBad c) c.s.l.length):=by rw [Hid,HX.out,sFst,if_neg (by omega)]
   clear h1 h2
   (have h0:=CX.new h;go_enter Tryz.func104,Tryz.ntmps104;go_upto_region 1 with fail;generalize w.alloc (.cells #[.int .i64 c.cats,.slice c.g.a c.g.l.length c.g.cap,.slice c.r.a c.r.l.length c.r.cap,.slice c.p.a c.p.l.length c.p.cap,.slice c.n.a c.n.l.length c.n.cap,.slice c.s.a c.s.l.length c.s.cap,.int .i64 c.gate,.int .i64 c.quota] 29) = W1 at h0 ⊢;generalize w.heap.size = b0 at h0 ⊢;have H0:=Lib.hid h0;clear h0 h)
   (have q0:=H0.out.ob.cell 0 _ rfl;have q1:=H0.out.ob.cell 1 _ rfl;have q2:=H0.out.ob.cell 2 _ rfl;have q3:=H0.out.ob.cell 3 _ rfl;have q4:=H0.out.ob.cell 4 _ rfl;have q5:=H0.out.ob.cell 5 _ rfl;have q6:=H0.out.ob.cell 6 _ rfl;have q7:=H0.out.ob.cell 7 _ rfl)
   go_upto_region 4 with fail
   clear q0 q1 q2 q3 q4 q5 q6 q7
   go_loopw [4] (fun z wr=>∃ k : Nat,k ≤ c.s.l.length ∧ z = .int .i64 k ∧ CX w wr b0 c ∧ ∀ j,j < k → sBad c j = false) (fun z _=>c.s.l.length - (intOf z).toNat)
   case atStart=>exact ⟨0,by omega,rfl,H0.out,fun j hj=>by omega⟩
   case round=>
    clear H0
    (obtain ⟨k,hk,rfl,hxk,hj⟩:=hrel;have XK:=Lib.hid hxk;have KP:=Lib.hid hj;clear hxk hj;(have q0:=XK.out.ob.cell 0 _ rfl;have q1:=XK.out.ob.cell 1 _ rfl;have q2:=XK.out.ob.cell 2 _ rfl;have q3:=XK.out.ob.cell 3 _ rfl;have q4:=XK.out.ob.cell 4 _ rfl;have q5:=XK.out.ob.cell 5 _ rfl;have q6:=XK.out.ob.cell 6 _ rfl;have q7:=XK.out.ob.cell 7 _ rfl))
    by_cases hkl : k < c.s.l.length
    ·have dk : decide ((k : Int) < (c.s.l.length : Int)) = true:=by simp;omega
     have kz : (0 : Int) ≤ (k : Int):=by omega
     have kl : (k : Int) < (c.s.l.length : Int):=by omega
     have w1 : IntKind.i64.wrap ((k : Int) + 1) = (k : Int) + 1:=by rw [IntKind.wrap_i64];omega
     obtain ⟨bx,ox,hax,hcx⟩:=XK.out.ok.s.cells (by omega) k hkl
     obtain ⟨gu,bu,hrow⟩:=row2 hkl XK.out.ok.s.len
     have HGB : Hid (sBad c k = (!(isG c gu) || (decide (bu < 1) || decide (32 < bu)))):=by rw [Hid,sBad,at_eq hkl,at_eq hkl,hrow];rfl
     rw [hrow] at hcx
     have c0:=hcx _ (Below.refl _ _) 0 _ rfl;have c1:=hcx _ (Below.refl _ _) 1 _ rfl
     simp only [Nat.add_zero] at c0
     rw [hax] at q5
     clear hcx hrow hax
     go_upto_region 7 with fail
     (have R1 : Hid (ObjAt (wr.alloc (.cells ([.int .i64 gu,.int .i64 bu] : List Value).toArray 139)) wr.heap.size 139 [.int .i64 gu,.int .i64 bu]):=ObjAt.new wr _ _;have X1 : Hid (CX w (wr.alloc (.cells ([.int .i64 gu,.int .i64 bu] : List Value).toArray 139)) b0 c):=XK.out.below ((Below.refl _ _).alloc (Nat.le_refl _) _);generalize wr.alloc (.cells ([.int .i64 gu,.int .i64 bu] : List Value).toArray 139) = W1r at R1 X1 ⊢;generalize wr.heap.size = rr at R1 ⊢)
     clear q0 q1 q2 q3 q4 q5 q6 q7 c0 c1
     have r0:=R1.out.cell 0 _ rfl;have r1:=R1.out.cell 1 _ rfl
     (have q0:=X1.out.ob.cell 0 _ rfl;have q1:=X1.out.ob.cell 1 _ rfl;have q2:=X1.out.ob.cell 2 _ rfl;have q3:=X1.out.ob.cell 3 _ rfl;have q4:=X1.out.ob.cell 4 _ rfl;have q5:=X1.out.ob.cell 5 _ rfl;have q6:=X1.out.ob.cell 6 _ rfl;have q7:=X1.out.ob.cell 7 _ rfl)
     cases hva : isG c gu with
     | false=>((have hx : x = ((k : Int),true):=(by rw [HX.out];exact fstV_hit hkl KP.out (by rw [HGB.out];simp [*]));subst hx);clear HGB;go_wp2_with (go_at_call 105;refine (isGuest_any c _ _ X1.out.ok).mono ?_;rintro e Wg ⟨rfl,hb⟩;replace X1:=Lib.hid (X1.out.below hb);replace R1:=Lib.hid (R1.out.below hb);clear hb;(replace q0:=X1.out.ob.cell 0 _ rfl;replace q1:=X1.out.ob.cell 1 _ rfl;replace q2:=X1.out.ob.cell 2 _ rfl;replace q3:=X1.out.ob.cell 3 _ rfl;replace q4:=X1.out.ob.cell 4 _ rfl;replace q5:=X1.out.ob.cell 5 _ rfl;replace q6:=X1.out.ob.cell 6 _ rfl;replace q7:=X1.out.ob.cell 7 _ rfl);replace r0:=R1.out.cell 0 _ rfl;replace r1:=R1.out.cell 1 _ rfl);go_ret2;exact ⟨rfl,X1.out.bel⟩)
     | true=>
      by_cases h1 : bu < 1
      ·have d1 : decide (bu < 1) = true:=by simp [h1]
       ((have hx : x = ((k : Int),true):=(by rw [HX.out];exact fstV_hit hkl KP.out (by rw [HGB.out];simp [*]));subst hx);clear HGB h1;go_wp2_with (go_at_call 105;refine (isGuest_any c _ _ X1.out.ok).mono ?_;rintro e Wg ⟨rfl,hb⟩;replace X1:=Lib.hid (X1.out.below hb);replace R1:=Lib.hid (R1.out.below hb);clear hb;(replace q0:=X1.out.ob.cell 0 _ rfl;replace q1:=X1.out.ob.cell 1 _ rfl;replace q2:=X1.out.ob.cell 2 _ rfl;replace q3:=X1.out.ob.cell 3 _ rfl;replace q4:=X1.out.ob.cell 4 _ rfl;replace q5:=X1.out.ob.cell 5 _ rfl;replace q6:=X1.out.ob.cell 6 _ rfl;replace q7:=X1.out.ob.cell 7 _ rfl);replace r0:=R1.out.cell 0 _ rfl;replace r1:=R1.out.cell 1 _ rfl);go_ret2;exact ⟨rfl,X1.out.bel⟩)
      ·have d1 : decide (bu < 1) = false:=by simp [h1]
       by_cases h2 : 32 < bu
       ·have d2 : decide (bu > 32) = true:=by simp [h2]
        ((have hx : x = ((k : Int),true):=(by rw [HX.out];exact fstV_hit hkl KP.out (by rw [HGB.out];simp [*]));subst hx);clear HGB h1 h2;go_wp2_with (go_at_call 105;refine (isGuest_any c _ _ X1.out.ok).mono ?_;rintro e Wg ⟨rfl,hb⟩;replace X1:=Lib.hid (X1.out.below hb);replace R1:=Lib.hid (R1.out.below hb);clear hb;(replace q0:=X1.out.ob.cell 0 _ rfl;replace q1:=X1.out.ob.cell 1 _ rfl;replace q2:=X1.out.ob.cell 2 _ rfl;replace q3:=X1.out.ob.cell 3 _ rfl;replace q4:=X1.out.ob.cell 4 _ rfl;replace q5:=X1.out.ob.cell 5 _ rfl;replace q6:=X1.out.ob.cell 6 _ rfl;replace q7:=X1.out.ob.cell 7 _ rfl);replace r0:=R1.out.cell 0 _ rfl;replace r1:=R1.out.cell 1 _ rfl);go_ret2;exact ⟨rfl,X1.out.bel⟩)
       ·have d2 : decide (bu > 32) = false:=by simpa using h2
        have hgb : sBad c k = false:=by rw [HGB.out];simp only [hva,h1,h2,decide_false,Bool.not_true,Bool.or_false]
        have KP2 : Hid (∀ j,j < k + 1 → sBad c j = false):=fun j hj=>by
         by_cases hjk : j = k
         ·rw [hjk];exact hgb
         ·exact KP.out j (by omega)
        clear h1 h2 hgb HGB
        go_wp2_with (go_at_call 105;refine (isGuest_any c _ _ X1.out.ok).mono ?_;rintro e Wg ⟨rfl,hb⟩;replace X1:=Lib.hid (X1.out.below hb);replace R1:=Lib.hid (R1.out.below hb);clear hb;(replace q0:=X1.out.ob.cell 0 _ rfl;replace q1:=X1.out.ob.cell 1 _ rfl;replace q2:=X1.out.ob.cell 2 _ rfl;replace q3:=X1.out.ob.cell 3 _ rfl;replace q4:=X1.out.ob.cell 4 _ rfl;replace q5:=X1.out.ob.cell 5 _ rfl;replace q6:=X1.out.ob.cell 6 _ rfl;replace q7:=X1.out.ob.cell 7 _ rfl);replace r0:=R1.out.cell 0 _ rfl;replace r1:=R1.out.cell 1 _ rfl)
        go_roundw
        case rel=>exact ⟨k + 1,by omega,by go_num,X1.out,KP2.out⟩
        case measure=>simp [intOf];omega
    ·have dk : decide ((k : Int) < (c.s.l.length : Int)) = false:=by simp;omega
     have hx : x = (0,false):=by rw [HX.out];exact fstV_none (fun j hj=>KP.out j (by omega))
     subst hx
     go_wp2_with fail
     go_ret2
     exact ⟨rfl,XK.out.bel⟩
theorem rneed_any (c : Cv) (hg : GOk c) (w : World) (h : CfgOk w c) : Calls Tryz.prog 106 #[(.agg #[.int .i64 c.cats,.slice c.g.a c.g.l.length c.g.cap,.slice c.r.a c.r.l.length c.r.cap,.slice c.p.a c.p.l.length c.p.cap,.slice c.n.a c.n.l.length c.n.cap,.slice c.s.a c.s.l.length c.s.cap,.int .i64 c.gate,.int .i64 c.quota])] w fun e w'=>e = .returned (.int .i64 (needV c)) ∧ Below w.heap.size w w':=by
 have HG:=Lib.hid hg
 clear hg
 (have h0:=CX.new h;go_enter Tryz.func106,Tryz.ntmps106;go_upto_region 1 with fail;generalize w.alloc (.cells #[.int .i64 c.cats,.slice c.g.a c.g.l.length c.g.cap,.slice c.r.a c.r.l.length c.r.cap,.slice c.p.a c.p.l.length c.p.cap,.slice c.n.a c.n.l.length c.n.cap,.slice c.s.a c.s.l.length c.s.cap,.int .i64 c.gate,.int .i64 c.quota] 29) = W1 at h0 ⊢;generalize w.heap.size = b0 at h0 ⊢;have H0:=Lib.hid h0;clear h0 h)
 (have q0:=H0.out.ob.cell 0 _ rfl;have q1:=H0.out.ob.cell 1 _ rfl;have q2:=H0.out.ob.cell 2 _ rfl;have q3:=H0.out.ob.cell 3 _ rfl;have q4:=H0.out.ob.cell 4 _ rfl;have q5:=H0.out.ob.cell 5 _ rfl;have q6:=H0.out.ob.cell 6 _ rfl;have q7:=H0.out.ob.cell 7 _ rfl)
 go_upto_region 3 with fail
 clear q0 q1 q2 q3 q4 q5 q6 q7
 go_loopw [3,4] (fun g3 g12 wr=>∃ k : Nat,k ≤ c.g.l.length ∧ g12 = .int .i64 k ∧ g3 = .int .i64 (c.n.l.length + sumG (c.g.l.take k)) ∧ CX w wr b0 c) (fun _ g12 _=>c.g.l.length - (intOf g12).toNat)
 case atStart=>exact ⟨0,by omega,rfl,by simp [sumG],H0.out⟩
 case round=>
  clear H0
  obtain ⟨k,hk,rfl,rfl,hxk⟩:=hrel
  have XK:=Lib.hid hxk
  clear hxk
  (have q0:=XK.out.ob.cell 0 _ rfl;have q1:=XK.out.ob.cell 1 _ rfl;have q2:=XK.out.ob.cell 2 _ rfl;have q3:=XK.out.ob.cell 3 _ rfl;have q4:=XK.out.ob.cell 4 _ rfl;have q5:=XK.out.ob.cell 5 _ rfl;have q6:=XK.out.ob.cell 6 _ rfl;have q7:=XK.out.ob.cell 7 _ rfl)
  obtain ⟨sk,hsk⟩ : ∃ x,x = c.n.l.length + sumG (c.g.l.take k):=⟨_,rfl⟩
  rw [← hsk]
  have HS:=Lib.hid hsk
  by_cases hkl : k < c.g.l.length
  ·have d1 : decide ((k : Int) < (c.g.l.length : Int)) = true:=by simp;omega
   have kz : (0 : Int) ≤ (k : Int):=by omega
   have kl : (k : Int) < (c.g.l.length : Int):=by omega
   have w1 : IntKind.i64.wrap ((k : Int) + 1) = (k : Int) + 1:=by have:=HG.out.g;rw [IntKind.wrap_i64];omega
   obtain ⟨bx,ox,hax,hcx⟩:=XK.out.ok.g.cells (by omega) k hkl
   obtain ⟨x,y,z,hrow⟩:=row3 hkl XK.out.ok.g.len
   have hgr:=HG.out.row _ (List.getElem_mem hkl)
   have hst:=sumG_take c.g.l k hkl
   have hsb:=sumG_takeb c.g.l HG.out.row k (by omega)
   rw [hrow] at hcx hgr hst
   simp only [GRow,List.getD_cons_succ,List.getD_cons_zero] at hgr hst
   have HST:=Lib.hid hst
   have c1:=hcx _ (Below.refl _ _) 1 _ rfl;have c2:=hcx _ (Below.refl _ _) 2 _ rfl
   have hgl:=HG.out.g;have hnl:=HG.out.n
   have w2 : IntKind.i64.wrap (sk + y) = sk + y:=by rw [IntKind.wrap_i64];omega
   have w3 : IntKind.i64.wrap (sk + y + z) = sk + y + z:=by rw [IntKind.wrap_i64];omega
   rw [hax] at q1
   clear hcx hrow hgr hst hsb hsk hgl hnl hax
   go_upto_region 5 with fail
   go_quiet (fail)
   go_wp2_with fail
   go_roundw
   case rel=>exact ⟨k + 1,by omega,by go_num,by rw [HST.out,HS.out];congr 1;omega,XK.out.below (below_drewN (Below.refl _ _) _)⟩
   case measure=>simp [intOf];omega
  ·have d1 : decide ((k : Int) < (c.g.l.length : Int)) = false:=by simp;omega
   go_wp2_with fail
   go_ret
   have hkk : k = c.g.l.length:=by omega
   refine ⟨?_,XK.out.bel⟩
   rw [HS.out,hkk,List.take_length];rfl
theorem rrings_any (c : Cv) (w : World) (h : CfgOk w c) : Calls Tryz.prog 103 #[(.agg #[.int .i64 c.cats,.slice c.g.a c.g.l.length c.g.cap,.slice c.r.a c.r.l.length c.r.cap,.slice c.p.a c.p.l.length c.p.cap,.slice c.n.a c.n.l.length c.n.cap,.slice c.s.a c.s.l.length c.s.cap,.int .i64 c.gate,.int .i64 c.quota])] w fun e w'=>e = .returned (.tuple #[.bool (nFst c).2,.int .i64 (nFst c).1]) ∧ Below w.heap.size w w':=by
 have hm:=h.n.mx
 obtain ⟨x,hx⟩ : ∃ x,x = nFst c:=⟨_,rfl⟩
 rw [← hx]
 have HX:=Lib.hid hx
 clear hx
 by_cases h2 : 4 < c.n.l.length
 ·have d2 : decide ((c.n.l.length : Int) > 4) = true:=by simp;omega
  have hx : x = (0,true):=by rw [HX.out,nFst,if_pos h2]
  subst hx
  clear h2
  (have h0:=CX.new h;go_enter Tryz.func103,Tryz.ntmps103;go_upto_region 1 with fail;generalize w.alloc (.cells #[.int .i64 c.cats,.slice c.g.a c.g.l.length c.g.cap,.slice c.r.a c.r.l.length c.r.cap,.slice c.p.a c.p.l.length c.p.cap,.slice c.n.a c.n.l.length c.n.cap,.slice c.s.a c.s.l.length c.s.cap,.int .i64 c.gate,.int .i64 c.quota] 29) = W1 at h0 ⊢;generalize w.heap.size = b0 at h0 ⊢;have H0:=Lib.hid h0;clear h0 h)
  (have q0:=H0.out.ob.cell 0 _ rfl;have q1:=H0.out.ob.cell 1 _ rfl;have q2:=H0.out.ob.cell 2 _ rfl;have q3:=H0.out.ob.cell 3 _ rfl;have q4:=H0.out.ob.cell 4 _ rfl;have q5:=H0.out.ob.cell 5 _ rfl;have q6:=H0.out.ob.cell 6 _ rfl;have q7:=H0.out.ob.cell 7 _ rfl)
  go_wp2_with fail
  go_ret2
  exact ⟨rfl,H0.out.bel⟩
 ·have d2 : decide ((c.n.l.length : Int) > 4) = false:=by simp;omega
  replace HX : Hid (x = fstV (nBad c) c.n.l.length):=by rw [Hid,HX.out,nFst,if_neg h2]
  clear h2
  (have h0:=CX.new h;go_enter Tryz.func103,Tryz.ntmps103;go_upto_region 1 with fail;generalize w.alloc (.cells #[.int .i64 c.cats,.slice c.g.a c.g.l.length c.g.cap,.slice c.r.a c.r.l.length c.r.cap,.slice c.p.a c.p.l.length c.p.cap,.slice c.n.a c.n.l.length c.n.cap,.slice c.s.a c.s.l.length c.s.cap,.int .i64 c.gate,.int .i64 c.quota] 29) = W1 at h0 ⊢;generalize w.heap.size = b0 at h0 ⊢;have H0:=Lib.hid h0;clear h0 h)
  (have q0:=H0.out.ob.cell 0 _ rfl;have q1:=H0.out.ob.cell 1 _ rfl;have q2:=H0.out.ob.cell 2 _ rfl;have q3:=H0.out.ob.cell 3 _ rfl;have q4:=H0.out.ob.cell 4 _ rfl;have q5:=H0.out.ob.cell 5 _ rfl;have q6:=H0.out.ob.cell 6 _ rfl;have q7:=H0.out.ob.cell 7 _ rfl)
  go_upto_region 4 with fail
  clear q0 q1 q2 q3 q4 q5 q6 q7
  go_loopw [4] (fun z wr=>∃ k : Nat,k ≤ c.n.l.length ∧ z = .int .i64 k ∧ CX w wr b0 c ∧ ∀ j,j < k → nBad c j = false) (fun z _=>c.n.l.length - (intOf z).toNat)
  case atStart=>exact ⟨0,by omega,rfl,H0.out,fun j hj=>by omega⟩
  case round=>
   clear H0
   (obtain ⟨k,hk,rfl,hxk,hj⟩:=hrel;have XK:=Lib.hid hxk;have KP:=Lib.hid hj;clear hxk hj;(have q0:=XK.out.ob.cell 0 _ rfl;have q1:=XK.out.ob.cell 1 _ rfl;have q2:=XK.out.ob.cell 2 _ rfl;have q3:=XK.out.ob.cell 3 _ rfl;have q4:=XK.out.ob.cell 4 _ rfl;have q5:=XK.out.ob.cell 5 _ rfl;have q6:=XK.out.ob.cell 6 _ rfl;have q7:=XK.out.ob.cell 7 _ rfl))
   by_cases hkl : k < c.n.l.length
   ·have dk : decide ((k : Int) < (c.n.l.length : Int)) = true:=by simp;omega
    have kz : (0 : Int) ≤ (k : Int):=by omega
    have kl : (k : Int) < (c.n.l.length : Int):=by omega
    have w1 : IntKind.i64.wrap ((k : Int) + 1) = (k : Int) + 1:=by rw [IntKind.wrap_i64];omega
    obtain ⟨bx,ox,hax,hcx⟩:=XK.out.ok.n.cells (by omega) k hkl
    obtain ⟨fr,tt,hrow⟩:=row2 hkl XK.out.ok.n.len
    have HGB : Hid (nBad c k = (!(isG c fr) || (!(isG c tt) || ((fr == tt) || !(flB (labG c fr) (labG c tt)))))):=by rw [Hid,nBad,at_eq hkl,at_eq hkl,hrow];rfl
    rw [hrow] at hcx
    have c0:=hcx _ (Below.refl _ _) 0 _ rfl;have c1:=hcx _ (Below.refl _ _) 1 _ rfl
    simp only [Nat.add_zero] at c0
    rw [hax] at q4
    clear hcx hrow hax
    go_upto_region 7 with fail
    (have R1 : Hid (ObjAt (wr.alloc (.cells ([.int .i64 fr,.int .i64 tt] : List Value).toArray 137)) wr.heap.size 137 [.int .i64 fr,.int .i64 tt]):=ObjAt.new wr _ _;have X1 : Hid (CX w (wr.alloc (.cells ([.int .i64 fr,.int .i64 tt] : List Value).toArray 137)) b0 c):=XK.out.below ((Below.refl _ _).alloc (Nat.le_refl _) _);generalize wr.alloc (.cells ([.int .i64 fr,.int .i64 tt] : List Value).toArray 137) = W1r at R1 X1 ⊢;generalize wr.heap.size = rr at R1 ⊢)
    clear q0 q1 q2 q3 q4 q5 q6 q7 c0 c1
    have r0:=cell_regrown (R1.out.cell 0 _ rfl);have r1:=cell_regrown (R1.out.cell 1 _ rfl)
    (have q0:=cell_regrown (X1.out.ob.cell 0 _ rfl);have q1:=cell_regrown (X1.out.ob.cell 1 _ rfl);have q2:=cell_regrown (X1.out.ob.cell 2 _ rfl);have q3:=cell_regrown (X1.out.ob.cell 3 _ rfl);have q4:=cell_regrown (X1.out.ob.cell 4 _ rfl);have q5:=cell_regrown (X1.out.ob.cell 5 _ rfl);have q6:=cell_regrown (X1.out.ob.cell 6 _ rfl);have q7:=cell_regrown (X1.out.ob.cell 7 _ rfl))
    have GUE : Hid (∀ i d os,Calls Tryz.prog 105 #[(.agg #[.int .i64 c.cats,.slice c.g.a c.g.l.length c.g.cap,.slice c.r.a c.r.l.length c.r.cap,.slice c.p.a c.p.l.length c.p.cap,.slice c.n.a c.n.l.length c.n.cap,.slice c.s.a c.s.l.length c.s.cap,.int .i64 c.gate,.int .i64 c.quota]),.int .i64 i] (grow (redrawn W1r d) os) fun e w''=>e = .returned (.bool (isG c i)) ∧ ∃ p : Regrown,w'' = grow (redrawn W1r p.d) p.os):=fun i d os=>Calls.regrown_of (isGuest_any c i _ (X1.out.ok.below (below_regrown W1r d os)))
    cases hva : isG c fr with
    | false=>((have hx : x = ((k : Int),true):=(by rw [HX.out];exact fstV_hit hkl KP.out (by rw [HGB.out];simp [*]));subst hx);clear HGB;refine wp_region_quiet_below (by kernel_rfl) (by kernel_rfl) ?_;(repeat (go_big_quiet_step ((first | (go_at_call 105;exact GUE.out _ _ _) | (go_at_call 150;exact FLO.out _ _)))));refine wpQuiet_nil ?_;intro _ hw';obtain ⟨⟨dq,osq⟩,hw''⟩:=hw';subst hw'';have hbq:=below_regrown W1r dq osq;generalize grow (redrawn W1r dq) osq = wq at *;go_wp2_with fail;go_ret2;exact ⟨rfl,X1.out.bel.trans (hbq.mono X1.out.bel.size)⟩)
    | true=>
     cases hvb : isG c tt with
     | false=>((have hx : x = ((k : Int),true):=(by rw [HX.out];exact fstV_hit hkl KP.out (by rw [HGB.out];simp [*]));subst hx);clear HGB;refine wp_region_quiet_below (by kernel_rfl) (by kernel_rfl) ?_;(repeat (go_big_quiet_step ((first | (go_at_call 105;exact GUE.out _ _ _) | (go_at_call 150;exact FLO.out _ _)))));refine wpQuiet_nil ?_;intro _ hw';obtain ⟨⟨dq,osq⟩,hw''⟩:=hw';subst hw'';have hbq:=below_regrown W1r dq osq;generalize grow (redrawn W1r dq) osq = wq at *;go_wp2_with fail;go_ret2;exact ⟨rfl,X1.out.bel.trans (hbq.mono X1.out.bel.size)⟩)
     | true=>
      by_cases hft : fr = tt
      ·have dq : (fr == tt) = true:=by simp [hft]
       have hq : nBad c k = true:=by rw [HGB.out,dq];simp
       have hx : x = ((k : Int),true):=by rw [HX.out];exact fstV_hit hkl KP.out hq
       subst hx
       clear hft hq HGB
       refine wp_region_quiet_below (by kernel_rfl) (by kernel_rfl) ?_;(repeat (go_big_quiet_step ((first | (go_at_call 105;exact GUE.out _ _ _) | (go_at_call 150;exact FLO.out _ _)))));refine wpQuiet_nil ?_;intro _ hw';obtain ⟨⟨dq,osq⟩,hw''⟩:=hw';subst hw'';have hbq:=below_regrown W1r dq osq;generalize grow (redrawn W1r dq) osq = wq at *
       go_wp2_with fail
       go_ret2
       exact ⟨rfl,X1.out.bel.trans (hbq.mono X1.out.bel.size)⟩
      ·have dq : (fr == tt) = false:=by simp [hft]
       have hq : nBad c k = !(flB (labG c fr) (labG c tt)):=by rw [HGB.out,dq,hva,hvb];simp
       clear hft HGB
       have ga:=(isG_iff c fr).1 hva;have gb:=(isG_iff c tt).1 hvb
       obtain ⟨f',rfl⟩ : ∃ f' : Nat,fr = f':=⟨fr.toNat,by omega⟩
       obtain ⟨t',rfl⟩ : ∃ t' : Nat,tt = t':=⟨tt.toNat,by omega⟩
       have hfl : f' < c.g.l.length:=by omega
       have htl : t' < c.g.l.length:=by omega
       obtain ⟨gx,go,hga,hgc⟩:=X1.out.ok.g.cells (by omega) f' hfl
       obtain ⟨gx2,go2,hga2,hgc2⟩:=X1.out.ok.g.cells (by omega) t' htl
       rw [hga] at hga2
       obtain ⟨rfl,rfl⟩ : gx = gx2 ∧ go = go2:=by simpa using hga2
       obtain ⟨la,y1,z1,hr1⟩:=row3 hfl X1.out.ok.g.len
       obtain ⟨lb,y2,z2,hr2⟩:=row3 htl X1.out.ok.g.len
       have l1 : labG c f' = la:=by rw [labG,Int.toNat_natCast,at_eq hfl,hr1];rfl
       have l2 : labG c t' = lb:=by rw [labG,Int.toNat_natCast,at_eq htl,hr2];rfl
       rw [l1,l2] at hq
       rw [hr1] at hgc;rw [hr2] at hgc2
       have g0:=cell_regrown (hgc _ (Below.refl _ _) 0 _ rfl);have g1:=cell_regrown (hgc2 _ (Below.refl _ _) 0 _ rfl)
       simp only [Nat.add_zero] at g0 g1
       have k1 : (f' : Int) < (c.g.l.length : Int):=by omega
       have k2 : (t' : Int) < (c.g.l.length : Int):=by omega
       have k3 : (0 : Int) ≤ (f' : Int):=by omega
       have k4 : (0 : Int) ≤ (t' : Int):=by omega
       rw [hga] at q1 GUE
       obtain ⟨vf,hvf⟩ : ∃ v,v = flB la lb:=⟨_,rfl⟩
       have FLO : Hid (∀ d os,Calls Tryz.prog 150 #[.int .i64 la,.int .i64 lb] (grow (redrawn W1r d) os) fun e w''=>e = .returned (.bool vf) ∧ ∃ p : Regrown,w'' = grow (redrawn W1r p.d) p.os):=fun d os=>regrown_same (by rw [hvf,← flowsR_eq];exact Flows_ref _ _ _)
       rw [← hvf] at hq
       clear hvf ga gb hga hgc hga2 hgc2 hr1 hr2 l1 l2 hfl htl
       have HQ:=Lib.hid hq
       clear hq
       cases vf with
       | false=>
        have hx : x = ((k : Int),true):=by rw [HX.out];exact fstV_hit hkl KP.out HQ.out
        subst hx
        refine wp_region_quiet_below (by kernel_rfl) (by kernel_rfl) ?_;(repeat (go_big_quiet_step ((first | (go_at_call 105;exact GUE.out _ _ _) | (go_at_call 150;exact FLO.out _ _)))));refine wpQuiet_nil ?_;intro _ hw';obtain ⟨⟨dq,osq⟩,hw''⟩:=hw';subst hw'';have hbq:=below_regrown W1r dq osq;generalize grow (redrawn W1r dq) osq = wq at *
        go_wp2_with fail
        go_ret2
        exact ⟨rfl,X1.out.bel.trans (hbq.mono X1.out.bel.size)⟩
       | true=>
        have KP2 : Hid (∀ j,j < k + 1 → nBad c j = false):=fun j hj=>by
         by_cases hjk : j = k
         ·rw [hjk];exact HQ.out
         ·exact KP.out j (by omega)
        refine wp_region_quiet_below (by kernel_rfl) (by kernel_rfl) ?_;(repeat (go_big_quiet_step ((first | (go_at_call 105;exact GUE.out _ _ _) | (go_at_call 150;exact FLO.out _ _)))));refine wpQuiet_nil ?_;intro _ hw';obtain ⟨⟨dq,osq⟩,hw''⟩:=hw';subst hw'';have hbq:=below_regrown W1r dq osq;generalize grow (redrawn W1r dq) osq = wq at *
        go_wp2_with fail
        go_roundw
        case rel=>exact ⟨k + 1,by omega,by go_num,X1.out.below hbq,KP2.out⟩
        case measure=>simp [intOf];omega
   ·have dk : decide ((k : Int) < (c.n.l.length : Int)) = false:=by simp;omega
    have hx : x = (0,false):=by rw [HX.out];exact fstV_none (fun j hj=>KP.out j (by omega))
    subst hx
    go_wp2_with fail
    go_ret2
    exact ⟨rfl,XK.out.bel⟩
end Go.Proofs.YtoklonmiejdgmaaGreatDoor
/- Chapter 4, the reference: ranges, ports. -/
namespace Go.Proofs.YtoklonmiejdgmaaGreatDoor
set_option linter.unusedVariables false
set_option linter.unusedSimpArgs false
set_option linter.unnecessarySimpa false
open Go.RowKit Go.Sort
set_option maxHeartbeats 4000000
set_option maxRecDepth 100000
set_option linter.unusedVariables false
variable {W W' w : World} {c : Cv} {b N : Nat} {s : Sl}
theorem give_okr {n : Nat} {R : List Rn} (h : Okr n R) (f m who : Int) : Okr n (giveV n R f m who).2:=by
 unfold giveV
 split
 ·rename_i hw
  have hw:=(wellG_iff _ _ _ _).1 hw
  split
  ·exact h
  ·rename_i hh
   exact h.add (by omega) (by omega) (by omega) (by simpa using hh)
 ·exact h
theorem stRg_ok (c : Cv) : ∀ i,Okr 32 (stRg c i)
 | 0=>Okr.nil (by omega)
 | i + 1=>give_okr (stRg_ok c i) _ _ _
structure RRI (w W : World) (b rr : Nat) (c : Cv) (i : Nat) : Prop where
 x : CX w W b c
 br : b < rr
 wb : w.heap.size ≤ b
 t : ∃ a cap,RT W rr rr a cap (ownV (stRg c i)) 32
theorem RRI.below {rr i : Nat} (h : RRI w W b rr c i) (hb : Below W.heap.size W W') : RRI w W' b rr c i:=by
 obtain ⟨a,cap,h1⟩:=h.t
 exact ⟨h.x.below hb,h.br,h.wb,a,cap,h1.below hb⟩
theorem rranges_any (c : Cv) (w : World) (h : CfgOk w c) : Calls Tryz.prog 101 #[(.agg #[.int .i64 c.cats,.slice c.g.a c.g.l.length c.g.cap,.slice c.r.a c.r.l.length c.r.cap,.slice c.p.a c.p.l.length c.p.cap,.slice c.n.a c.n.l.length c.n.cap,.slice c.s.a c.s.l.length c.s.cap,.int .i64 c.gate,.int .i64 c.quota])] w fun e w'=>e = .returned (.tuple #[.bool (rFst c).2,.int .i64 (rFst c).1]) ∧ Below w.heap.size w w':=by
 have hm:=h.r.mx
 have HW:=Lib.hid h
 obtain ⟨x,hx⟩ : ∃ x,x = rFst c:=⟨_,rfl⟩
 rw [← hx]
 have HX:=Lib.hid hx
 clear hx
 by_cases h2 : 8 < c.r.l.length
 ·have d2 : decide ((c.r.l.length : Int) > 8) = true:=by simp;omega
  have hx : x = (0,true):=by rw [HX.out,rFst,if_pos h2]
  subst hx
  clear h2
  (have h0:=CX.new h;go_enter Tryz.func101,Tryz.ntmps101;go_upto_region 1 with fail;generalize w.alloc (.cells #[.int .i64 c.cats,.slice c.g.a c.g.l.length c.g.cap,.slice c.r.a c.r.l.length c.r.cap,.slice c.p.a c.p.l.length c.p.cap,.slice c.n.a c.n.l.length c.n.cap,.slice c.s.a c.s.l.length c.s.cap,.int .i64 c.gate,.int .i64 c.quota] 29) = W1 at h0 ⊢;generalize w.heap.size = b0 at h0 ⊢;have H0:=Lib.hid h0;clear h0 h)
  (have q0:=H0.out.ob.cell 0 _ rfl;have q1:=H0.out.ob.cell 1 _ rfl;have q2:=H0.out.ob.cell 2 _ rfl;have q3:=H0.out.ob.cell 3 _ rfl;have q4:=H0.out.ob.cell 4 _ rfl;have q5:=H0.out.ob.cell 5 _ rfl;have q6:=H0.out.ob.cell 6 _ rfl;have q7:=H0.out.ob.cell 7 _ rfl)
  go_wp2_with fail
  go_ret2
  exact ⟨rfl,H0.out.bel⟩
 ·have d2 : decide ((c.r.l.length : Int) > 8) = false:=by simp;omega
  replace HX : Hid (x = fstV (rBad c) c.r.l.length):=by rw [Hid,HX.out,rFst,if_neg h2]
  clear h2
  have h0:=CX.new h
  go_enter Tryz.func101,Tryz.ntmps101
  go_upto_region 1 with fail
  have hlt:=h0.ob.lt
  generalize w.alloc (.cells #[.int .i64 c.cats,.slice c.g.a c.g.l.length c.g.cap,.slice c.r.a c.r.l.length c.r.cap,.slice c.p.a c.p.l.length c.p.cap,.slice c.n.a c.n.l.length c.n.cap,.slice c.s.a c.s.l.length c.s.cap,.int .i64 c.gate,.int .i64 c.quota] 29) = W1 at h0 hlt ⊢
  obtain ⟨b0,hb0⟩ : ∃ b,b = w.heap.size:=⟨_,rfl⟩
  rw [← hb0] at h0 hlt ⊢
  have HB0:=Lib.hid hb0
  have H0:=Lib.hid h0
  have HLT:=Lib.hid hlt
  clear h0 h hb0 hlt
  (have q0:=H0.out.ob.cell 0 _ rfl;have q1:=H0.out.ob.cell 1 _ rfl;have q2:=H0.out.ob.cell 2 _ rfl;have q3:=H0.out.ob.cell 3 _ rfl;have q4:=H0.out.ob.cell 4 _ rfl;have q5:=H0.out.ob.cell 5 _ rfl;have q6:=H0.out.ob.cell 6 _ rfl;have q7:=H0.out.ob.cell 7 _ rfl)
  go_upto_region 4 with (go_at_call 148;refine (rnew_yes 32 (by omega) _).mono ?_;rintro e W2 ⟨a0,cp0,rfl,ht,hb⟩;have T2:=Lib.hid ht;have B2:=Lib.hid hb;clear ht hb)
  have I0 : Hid (RRI w W2 b0 W1.heap.size c 0):=⟨H0.out.below B2.out,HLT.out,Nat.le_of_eq HB0.out.symm,a0,cp0,T2.out⟩
  generalize W1.heap.size = rr at I0 T2 ⊢
  clear q0 q1 q2 q3 q4 q5 q6 q7 T2 B2 H0 HLT HB0
  go_upto_region 5 with fail
  go_loopw [6] (fun z wr=>∃ k : Nat,k ≤ c.r.l.length ∧ z = .int .i64 k ∧ RRI w wr b0 rr c k ∧ ∀ j,j < k → rBad c j = false) (fun z _=>c.r.l.length - (intOf z).toNat)
  case atStart=>exact ⟨0,by omega,rfl,I0.out,fun j hj=>by omega⟩
  case round=>
   clear I0
   obtain ⟨k,hk,rfl,hik,hj⟩:=hrel
   have IK:=Lib.hid hik
   have XK:=Lib.hid hik.x
   have KP:=Lib.hid hj
   clear hik hj
   (have q0:=XK.out.ob.cell 0 _ rfl;have q1:=XK.out.ob.cell 1 _ rfl;have q2:=XK.out.ob.cell 2 _ rfl;have q3:=XK.out.ob.cell 3 _ rfl;have q4:=XK.out.ob.cell 4 _ rfl;have q5:=XK.out.ob.cell 5 _ rfl;have q6:=XK.out.ob.cell 6 _ rfl;have q7:=XK.out.ob.cell 7 _ rfl)
   by_cases hkl : k < c.r.l.length
   ·have dk : decide ((k : Int) < (c.r.l.length : Int)) = true:=by simp;omega
    have kz : (0 : Int) ≤ (k : Int):=by omega
    have kl : (k : Int) < (c.r.l.length : Int):=by omega
    have w1 : IntKind.i64.wrap ((k : Int) + 1) = (k : Int) + 1:=by rw [IntKind.wrap_i64];omega
    obtain ⟨bx,ox,hax,hcx⟩:=XK.out.ok.r.cells (by omega) k hkl
    obtain ⟨lb,fr,nn,hrow⟩:=row3 hkl XK.out.ok.r.len
    have HGB : Hid (rBad c k = (!(validB lb c.cats) || ((giveV 32 (stRg c k) fr nn k).1 != 0))):=by rw [Hid,rBad,at_eq hkl,at_eq hkl,at_eq hkl,hrow];rfl
    have HS : Hid (stRg c (k + 1) = (giveV 32 (stRg c k) fr nn k).2):=by rw [Hid,stRg,at_eq hkl,at_eq hkl,hrow];rfl
    rw [hrow] at hcx
    have c0:=hcx _ (Below.refl _ _) 0 _ rfl;have c1:=hcx _ (Below.refl _ _) 1 _ rfl;have c2:=hcx _ (Below.refl _ _) 2 _ rfl
    simp only [Nat.add_zero] at c0
    rw [hax] at q2
    clear hcx hrow hax
    go_upto_region 8 with fail
    have I1 : Hid (RRI w (wr.alloc (.cells #[.int .i64 lb,.int .i64 fr,.int .i64 nn] 132)) b0 rr c k):=IK.out.below ((Below.refl _ _).alloc (Nat.le_refl _) _)
    have R1 : Hid (ObjAt (wr.alloc (.cells #[.int .i64 lb,.int .i64 fr,.int .i64 nn] 132)) wr.heap.size 132 [.int .i64 lb,.int .i64 fr,.int .i64 nn]):=ObjAt.new wr _ _
    generalize wr.alloc (.cells #[.int .i64 lb,.int .i64 fr,.int .i64 nn] 132) = W1r at R1 I1 ⊢
    generalize wr.heap.size = rb at R1 ⊢
    clear q0 q1 q2 q3 q4 q5 q6 q7 c0 c1 c2 IK XK
    have r0:=R1.out.cell 0 _ rfl;have r1:=R1.out.cell 1 _ rfl;have r2:=R1.out.cell 2 _ rfl
    have q0:=I1.out.x.ob.cell 0 _ rfl
    obtain ⟨vb,hvb⟩ : ∃ v,v = validB lb c.cats:=⟨_,rfl⟩
    have VAL : Hid (∀ W,Calls Tryz.prog 147 #[.int .i64 lb,.int .i64 c.cats] W fun e w'=>e = .returned (.bool vb) ∧ W = w'):=fun W=>by rw [hvb];exact Valid_ref _ _ _
    rw [← hvb] at HGB
    clear hvb
    cases vb with
    | false=>
     have hx : x = ((k : Int),true):=by rw [HX.out];exact fstV_hit hkl KP.out (by rw [HGB.out];simp)
     subst hx
     go_wp2_with (go_at_call 147;refine (VAL.out _).mono ?_;rintro e Wv ⟨rfl,rfl⟩)
     go_ret2
     exact ⟨rfl,I1.out.x.bel⟩
    | true=>
     obtain ⟨a,cap,ht⟩:=I1.out.t
     obtain ⟨ge,hge⟩ : ∃ z,z = (giveV 32 (stRg c k) fr nn k).1:=⟨_,rfl⟩
     have GIV : Hid (Calls Tryz.prog 149 #[.pointer (some ⟨rr,0,none⟩),.int .i64 fr,.int .i64 nn,.int .i64 k] W1r (RPost rr rr 32 a (.int .i64 ge) (ownV (giveV 32 (stRg c k) fr nn k).2) W1r)):=by
      rw [hge];exact rgive_any _ _ _ _ _ _ _ _ _ _ (stRg_ok c k) ht (by have:=ht.obj.lt;omega)
     have HGE : Hid (rBad c k = (ge != 0)):=by rw [Hid,HGB.out,hge];simp
     have HT:=Lib.hid ht
     clear hge ht HGB
     have HBW : Hid (∀ W2,Mod (rr :: blk a) W1r W2 → Below w.heap.size w W2 ∧ b0 ∉ rr :: blk a):=fun W2 hm=>by
      have e1:=I1.out.wb;have e2:=I1.out.br
      refine ⟨below_tab hm I1.out.x.bel (by omega) (fun q hq=>by have:=(HT.out.own.ge q hq).1;omega),not_tab (by omega) (fun q hq=>by have:=(HT.out.own.ge q hq).1;omega)⟩
     by_cases h0 : ge = 0
     ·subst h0
      have KP2 : Hid (∀ j,j < k + 1 → rBad c j = false):=fun j hj=>by
       by_cases hjk : j = k
       ·rw [hjk,HGE.out];rfl
       ·exact KP.out j (by omega)
      go_wp2_with (first | (go_at_call 147;refine (VAL.out _).mono ?_;rintro e Wv ⟨rfl,rfl⟩) | (go_at_call 149;refine GIV.out.mono ?_;rintro e W2 ⟨a',cap',rfl,ht,hm,ha'⟩;have T2:=Lib.hid ht;have M2:=Lib.hid hm;clear ht hm ha'))
      have I2 : Hid (RRI w W2 b0 rr c (k + 1)):=⟨⟨I1.out.x.ob.mod M2.out (HBW.out _ M2.out).2,HW.out.below (HBW.out _ M2.out).1,(HBW.out _ M2.out).1⟩,I1.out.br,I1.out.wb,a',cap',by rw [HS.out];exact T2.out⟩
      go_roundw
      case rel=>exact ⟨k + 1,by omega,by go_num,I2.out,KP2.out⟩
      case measure=>simp [intOf];omega
     ·have hx : x = ((k : Int),true):=by rw [HX.out];exact fstV_hit hkl KP.out (by rw [HGE.out];simp [h0])
      subst hx
      have d0 : (ge != 0) = true:=by simp [h0]
      clear h0
      go_wp2_with (first | (go_at_call 147;refine (VAL.out _).mono ?_;rintro e Wv ⟨rfl,rfl⟩) | (go_at_call 149;refine GIV.out.mono ?_;rintro e W2 ⟨a',cap',rfl,ht,hm,ha'⟩;have T2:=Lib.hid ht;have M2:=Lib.hid hm;clear ht hm ha'))
      go_ret2
      exact ⟨rfl,(HBW.out _ M2.out).1⟩
   ·have dk : decide ((k : Int) < (c.r.l.length : Int)) = false:=by simp;omega
    have hx : x = (0,false):=by rw [HX.out];exact fstV_none (fun j hj=>KP.out j (by omega))
    subst hx
    go_wp2_with fail
    go_ret2
    exact ⟨rfl,XK.out.bel⟩
end Go.Proofs.YtoklonmiejdgmaaGreatDoor
/- Chapter 4, the reference: ports. -/
namespace Go.Proofs.YtoklonmiejdgmaaGreatDoor
set_option linter.unusedVariables false
set_option linter.unusedSimpArgs false
set_option linter.unnecessarySimpa false
open Go.RowKit Go.Sort
set_option maxHeartbeats 4000000
set_option maxRecDepth 100000
set_option linter.unusedVariables false
variable {W W' w : World} {c : Cv} {b N : Nat} {s : Sl}
set_option maxHeartbeats 8000000 in
theorem rports_any (c : Cv) (w : World) (h : CfgOk w c) : Calls Tryz.prog 102 #[(.agg #[.int .i64 c.cats,.slice c.g.a c.g.l.length c.g.cap,.slice c.r.a c.r.l.length c.r.cap,.slice c.p.a c.p.l.length c.p.cap,.slice c.n.a c.n.l.length c.n.cap,.slice c.s.a c.s.l.length c.s.cap,.int .i64 c.gate,.int .i64 c.quota])] w fun e w'=>e = .returned (.tuple #[.bool (pFst c).2,.int .i64 (pFst c).1]) ∧ Below w.heap.size w w':=by
 have hm:=h.p.mx
 obtain ⟨x,hx⟩ : ∃ x,x = pFst c:=⟨_,rfl⟩
 rw [← hx]
 have HX:=Lib.hid hx
 clear hx
 by_cases h2 : 8 < c.p.l.length
 ·have d2 : decide ((c.p.l.length : Int) > 8) = true:=by simp;omega
  have hx : x = (0,true):=by rw [HX.out,pFst,if_pos h2]
  subst hx
  clear h2
  (have h0:=CX.new h;go_enter Tryz.func102,Tryz.ntmps102;go_upto_region 1 with fail;generalize w.alloc (.cells #[.int .i64 c.cats,.slice c.g.a c.g.l.length c.g.cap,.slice c.r.a c.r.l.length c.r.cap,.slice c.p.a c.p.l.length c.p.cap,.slice c.n.a c.n.l.length c.n.cap,.slice c.s.a c.s.l.length c.s.cap,.int .i64 c.gate,.int .i64 c.quota] 29) = W1 at h0 ⊢;generalize w.heap.size = b0 at h0 ⊢;have H0:=Lib.hid h0;clear h0 h)
  (have q0:=H0.out.ob.cell 0 _ rfl;have q1:=H0.out.ob.cell 1 _ rfl;have q2:=H0.out.ob.cell 2 _ rfl;have q3:=H0.out.ob.cell 3 _ rfl;have q4:=H0.out.ob.cell 4 _ rfl;have q5:=H0.out.ob.cell 5 _ rfl;have q6:=H0.out.ob.cell 6 _ rfl;have q7:=H0.out.ob.cell 7 _ rfl)
  go_wp2_with fail
  go_ret2
  exact ⟨rfl,H0.out.bel⟩
 ·have d2 : decide ((c.p.l.length : Int) > 8) = false:=by simp;omega
  replace HX : Hid (x = fstV (pBad c) c.p.l.length):=by rw [Hid,HX.out,pFst,if_neg h2]
  clear h2
  (have h0:=CX.new h;go_enter Tryz.func102,Tryz.ntmps102;go_upto_region 1 with fail;generalize w.alloc (.cells #[.int .i64 c.cats,.slice c.g.a c.g.l.length c.g.cap,.slice c.r.a c.r.l.length c.r.cap,.slice c.p.a c.p.l.length c.p.cap,.slice c.n.a c.n.l.length c.n.cap,.slice c.s.a c.s.l.length c.s.cap,.int .i64 c.gate,.int .i64 c.quota] 29) = W1 at h0 ⊢;generalize w.heap.size = b0 at h0 ⊢;have H0:=Lib.hid h0;clear h0 h)
  (have q0:=H0.out.ob.cell 0 _ rfl;have q1:=H0.out.ob.cell 1 _ rfl;have q2:=H0.out.ob.cell 2 _ rfl;have q3:=H0.out.ob.cell 3 _ rfl;have q4:=H0.out.ob.cell 4 _ rfl;have q5:=H0.out.ob.cell 5 _ rfl;have q6:=H0.out.ob.cell 6 _ rfl;have q7:=H0.out.ob.cell 7 _ rfl)
  go_upto_region 4 with fail
  clear q0 q1 q2 q3 q4 q5 q6 q7
  go_loopw [4] (fun z wr=>∃ k : Nat,k ≤ c.p.l.length ∧ z = .int .i64 k ∧ CX w wr b0 c ∧ ∀ j,j < k → pBad c j = false) (fun z _=>c.p.l.length - (intOf z).toNat)
  case atStart=>exact ⟨0,by omega,rfl,H0.out,fun j hj=>by omega⟩
  case round=>
   clear H0
   (obtain ⟨k,hk,rfl,hxk,hj⟩:=hrel;have XK:=Lib.hid hxk;have KP:=Lib.hid hj;clear hxk hj;(have q0:=XK.out.ob.cell 0 _ rfl;have q1:=XK.out.ob.cell 1 _ rfl;have q2:=XK.out.ob.cell 2 _ rfl;have q3:=XK.out.ob.cell 3 _ rfl;have q4:=XK.out.ob.cell 4 _ rfl;have q5:=XK.out.ob.cell 5 _ rfl;have q6:=XK.out.ob.cell 6 _ rfl;have q7:=XK.out.ob.cell 7 _ rfl))
   by_cases hkl : k < c.p.l.length
   ·have dk : decide ((k : Int) < (c.p.l.length : Int)) = true:=by simp;omega
    have kz : (0 : Int) ≤ (k : Int):=by omega
    have kl : (k : Int) < (c.p.l.length : Int):=by omega
    have w1 : IntKind.i64.wrap ((k : Int) + 1) = (k : Int) + 1:=by rw [IntKind.wrap_i64];omega
    obtain ⟨bx,ox,hax,hcx⟩:=XK.out.ok.p.cells (by omega) k hkl
    obtain ⟨lb,gu,hrow⟩:=row2 hkl XK.out.ok.p.len
    have HGB : Hid (pBad c k = (!(validB lb c.cats) || (!(gu == -1) && (!(isG c gu) || (!(lb == labG c gu) || takenB c gu k))))):=by rw [Hid,pBad,at_eq hkl,at_eq hkl,hrow];rfl
    rw [hrow] at hcx
    have c0:=hcx _ (Below.refl _ _) 0 _ rfl;have c1:=hcx _ (Below.refl _ _) 1 _ rfl
    simp only [Nat.add_zero] at c0
    rw [hax] at q3
    have HAX:=Lib.hid hax
    clear hcx hrow hax
    go_upto_region 7 with fail
    (have R1 : Hid (ObjAt (wr.alloc (.cells ([.int .i64 lb,.int .i64 gu] : List Value).toArray 134)) wr.heap.size 134 [.int .i64 lb,.int .i64 gu]):=ObjAt.new wr _ _;have X1 : Hid (CX w (wr.alloc (.cells ([.int .i64 lb,.int .i64 gu] : List Value).toArray 134)) b0 c):=XK.out.below ((Below.refl _ _).alloc (Nat.le_refl _) _);generalize wr.alloc (.cells ([.int .i64 lb,.int .i64 gu] : List Value).toArray 134) = W1r at R1 X1 ⊢;generalize wr.heap.size = rr at R1 ⊢)
    clear q0 q1 q2 q3 q4 q5 q6 q7 c0 c1
    have r0:=R1.out.cell 0 _ rfl;have r1:=R1.out.cell 1 _ rfl
    (have q0:=X1.out.ob.cell 0 _ rfl;have q1:=X1.out.ob.cell 1 _ rfl;have q2:=X1.out.ob.cell 2 _ rfl;have q3:=X1.out.ob.cell 3 _ rfl;have q4:=X1.out.ob.cell 4 _ rfl;have q5:=X1.out.ob.cell 5 _ rfl;have q6:=X1.out.ob.cell 6 _ rfl;have q7:=X1.out.ob.cell 7 _ rfl)
    obtain ⟨vb,hvb⟩ : ∃ v,v = validB lb c.cats:=⟨_,rfl⟩
    have VAL : Hid (∀ W,Calls Tryz.prog 147 #[.int .i64 lb,.int .i64 c.cats] W fun e w'=>e = .returned (.bool vb) ∧ W = w'):=fun W=>by rw [hvb];exact Valid_ref _ _ _
    obtain ⟨vg,hvg⟩ : ∃ v,v = isG c gu:=⟨_,rfl⟩
    have GUE : Hid (∀ W,CfgOk W c → Calls Tryz.prog 105 #[(.agg #[.int .i64 c.cats,.slice c.g.a c.g.l.length c.g.cap,.slice c.r.a c.r.l.length c.r.cap,.slice c.p.a c.p.l.length c.p.cap,.slice c.n.a c.n.l.length c.n.cap,.slice c.s.a c.s.l.length c.s.cap,.int .i64 c.gate,.int .i64 c.quota]),.int .i64 gu] W fun e w'=>e = .returned (.bool vg) ∧ Below W.heap.size W w'):=fun W h=>by rw [hvg];exact isGuest_any _ _ _ h
    rw [← hvb] at HGB
    clear hvb
    cases vb with
    | false=>
     (have hx : x = ((k : Int),true):=(by rw [HX.out];exact fstV_hit hkl KP.out (by rw [HGB.out];simp));subst hx)
     clear HGB hvg
     go_wp2_with (first | (go_at_call 147;refine (VAL.out _).mono ?_;rintro e Wv ⟨rfl,rfl⟩) | (go_at_call 105;refine (GUE.out _ X1.out.ok).mono ?_;rintro e Wg ⟨rfl,hb⟩;replace X1:=Lib.hid (X1.out.below hb);replace R1:=Lib.hid (R1.out.below hb);clear hb;(replace q0:=X1.out.ob.cell 0 _ rfl;replace q1:=X1.out.ob.cell 1 _ rfl;replace q2:=X1.out.ob.cell 2 _ rfl;replace q3:=X1.out.ob.cell 3 _ rfl;replace q4:=X1.out.ob.cell 4 _ rfl;replace q5:=X1.out.ob.cell 5 _ rfl;replace q6:=X1.out.ob.cell 6 _ rfl;replace q7:=X1.out.ob.cell 7 _ rfl);replace r0:=R1.out.cell 0 _ rfl;replace r1:=R1.out.cell 1 _ rfl))
     go_ret2
     exact ⟨rfl,X1.out.bel⟩
    | true=>
     by_cases hg1 : gu = -1
     ·have dg : (gu != -1) = false:=by simp [hg1]
      have dz : decide (gu ≥ 0) = false:=by simp [hg1]
      have KP2 : Hid (∀ j,j < k + 1 → pBad c j = false):=fun j hj=>by
       by_cases hjk : j = k
       ·rw [hjk,HGB.out,hg1];rfl
       ·exact KP.out j (by omega)
      clear hg1 hvg HGB
      go_upto_region 9 with (first | (go_at_call 147;refine (VAL.out _).mono ?_;rintro e Wv ⟨rfl,rfl⟩) | (go_at_call 105;refine (GUE.out _ X1.out.ok).mono ?_;rintro e Wg ⟨rfl,hb⟩;replace X1:=Lib.hid (X1.out.below hb);replace R1:=Lib.hid (R1.out.below hb);clear hb;(replace q0:=X1.out.ob.cell 0 _ rfl;replace q1:=X1.out.ob.cell 1 _ rfl;replace q2:=X1.out.ob.cell 2 _ rfl;replace q3:=X1.out.ob.cell 3 _ rfl;replace q4:=X1.out.ob.cell 4 _ rfl;replace q5:=X1.out.ob.cell 5 _ rfl;replace q6:=X1.out.ob.cell 6 _ rfl;replace q7:=X1.out.ob.cell 7 _ rfl);replace r0:=R1.out.cell 0 _ rfl;replace r1:=R1.out.cell 1 _ rfl))
      go_quiet (fail)
      have X2 : Hid (CX w (W1r.drewN nq) b0 c):=X1.out.below (below_drewN (Below.refl _ _) _)
      have R2 : Hid (ObjAt (W1r.drewN nq) rr 134 [.int .i64 lb,.int .i64 gu]):=R1.out.below (below_drewN (Below.refl _ _) _)
      generalize W1r.drewN nq = W2 at X2 R2 ⊢
      clear q0 q1 q2 q3 q4 q5 q6 q7 r0 r1
      go_upto_region 12 with fail
      go_loopw [6] (fun z wr=>∃ j : Nat,j ≤ k ∧ z = .int .i64 j ∧ CX w wr b0 c ∧ ObjAt wr rr 134 [.int .i64 lb,.int .i64 gu]) (fun z _=>k - (intOf z).toNat)
      case atStart=>exact ⟨0,by omega,rfl,X2.out,R2.out⟩
      case round=>
       clear X1 R1 X2 R2
       obtain ⟨j,hj,rfl,hx1,hr1⟩:=hrel
       have X1:=Lib.hid hx1
       have R1:=Lib.hid hr1
       clear hx1 hr1
       have r0:=R1.out.cell 0 _ rfl;have r1:=R1.out.cell 1 _ rfl
       by_cases hjk : j < k
       ·have dj : decide ((j : Int) < (k : Int)) = true:=by simp;omega
        have w2 : IntKind.i64.wrap ((j : Int) + 1) = (j : Int) + 1:=by rw [IntKind.wrap_i64];omega
        go_upto_region 14 with fail
        go_quiet (fail)
        go_wp2_with fail
        go_roundw
        case rel=>exact ⟨j + 1,by omega,by go_num,X1.out.below (below_drewN (Below.refl _ _) _),R1.out.below (below_drewN (Below.refl _ _) _)⟩
        case measure=>simp [intOf];omega
       ·have dj : decide ((j : Int) < (k : Int)) = false:=by simp;omega
        go_wp2_with fail
        go_roundw
        case rel=>exact ⟨k + 1,by omega,by go_num,X1.out,KP2.out⟩
        case measure=>simp [intOf];omega
     ·have dg : (gu != -1) = true:=by simp [hg1]
      cases vg with
      | false=>
       (have hx : x = ((k : Int),true):=(by rw [HX.out];exact fstV_hit hkl KP.out (by rw [HGB.out,← hvg];simp [hg1]));subst hx)
       clear HGB hvg hg1
       go_wp2_with (first | (go_at_call 147;refine (VAL.out _).mono ?_;rintro e Wv ⟨rfl,rfl⟩) | (go_at_call 105;refine (GUE.out _ X1.out.ok).mono ?_;rintro e Wg ⟨rfl,hb⟩;replace X1:=Lib.hid (X1.out.below hb);replace R1:=Lib.hid (R1.out.below hb);clear hb;(replace q0:=X1.out.ob.cell 0 _ rfl;replace q1:=X1.out.ob.cell 1 _ rfl;replace q2:=X1.out.ob.cell 2 _ rfl;replace q3:=X1.out.ob.cell 3 _ rfl;replace q4:=X1.out.ob.cell 4 _ rfl;replace q5:=X1.out.ob.cell 5 _ rfl;replace q6:=X1.out.ob.cell 6 _ rfl;replace q7:=X1.out.ob.cell 7 _ rfl);replace r0:=R1.out.cell 0 _ rfl;replace r1:=R1.out.cell 1 _ rfl))
       go_ret2
       exact ⟨rfl,X1.out.bel⟩
      | true=>
       have hpb : pBad c k = (!(lb == labG c gu) || takenB c gu k):=by rw [HGB.out,← hvg];simp [hg1]
       have ga:=(isG_iff c gu).1 hvg.symm
       obtain ⟨f',rfl⟩ : ∃ f' : Nat,gu = f':=⟨gu.toNat,by omega⟩
       have hfl : f' < c.g.l.length:=by omega
       have dz : decide ((f' : Int) ≥ 0) = true:=by simp
       clear hg1 HGB hvg
       go_upto_region 9 with (first | (go_at_call 147;refine (VAL.out _).mono ?_;rintro e Wv ⟨rfl,rfl⟩) | (go_at_call 105;refine (GUE.out _ X1.out.ok).mono ?_;rintro e Wg ⟨rfl,hb⟩;replace X1:=Lib.hid (X1.out.below hb);replace R1:=Lib.hid (R1.out.below hb);clear hb;(replace q0:=X1.out.ob.cell 0 _ rfl;replace q1:=X1.out.ob.cell 1 _ rfl;replace q2:=X1.out.ob.cell 2 _ rfl;replace q3:=X1.out.ob.cell 3 _ rfl;replace q4:=X1.out.ob.cell 4 _ rfl;replace q5:=X1.out.ob.cell 5 _ rfl;replace q6:=X1.out.ob.cell 6 _ rfl;replace q7:=X1.out.ob.cell 7 _ rfl);replace r0:=R1.out.cell 0 _ rfl;replace r1:=R1.out.cell 1 _ rfl))
       obtain ⟨gx,go,hga,hgc⟩:=X1.out.ok.g.cells (by omega) f' hfl
       obtain ⟨la,y1,z1,hr1⟩:=row3 hfl X1.out.ok.g.len
       have l1 : labG c f' = la:=by rw [labG,Int.toNat_natCast,at_eq hfl,hr1];rfl
       rw [l1] at hpb
       rw [hr1] at hgc
       have g0:=hgc _ (Below.refl _ _) 0 _ rfl
       simp only [Nat.add_zero] at g0
       rw [hga] at q1
       have k1 : (f' : Int) < (c.g.l.length : Int):=by omega
       have k3 : (0 : Int) ≤ (f' : Int):=by omega
       clear ga hga hgc hr1 l1 hfl
       cases hq : (lb == la) with
       | false=>
        have dn : (lb != la) = true:=by rw [bne,hq];rfl
        (have hx : x = ((k : Int),true):=(by rw [HX.out];exact fstV_hit hkl KP.out (by rw [hpb,hq];rfl));subst hx)
        clear hq hpb
        go_quiet (fail)
        go_wp2_with fail
        go_ret2
        exact ⟨rfl,below_drewN X1.out.bel _⟩
       | true=>
        have dn : (lb != la) = false:=by rw [bne,hq];rfl
        have HPB : Hid (pBad c k = takenB c f' k):=by rw [Hid,hpb,hq];rfl
        clear hpb hq
        go_quiet (fail)
        have X2 : Hid (CX w (Wg.drewN nq) b0 c):=X1.out.below (below_drewN (Below.refl _ _) _)
        have R2 : Hid (ObjAt (Wg.drewN nq) rr 134 [.int .i64 lb,.int .i64 f']):=R1.out.below (below_drewN (Below.refl _ _) _)
        generalize Wg.drewN nq = W2 at X2 R2 ⊢
        clear q0 q1 q2 q3 q4 q5 q6 q7 r0 r1 g0
        go_upto_region 12 with fail
        go_loopw [6] (fun z wr=>∃ j : Nat,j ≤ k ∧ z = .int .i64 j ∧ CX w wr b0 c ∧ ObjAt wr rr 134 [.int .i64 lb,.int .i64 f'] ∧ ∀ i,i < j → at_ c.p.l i 1 ≠ f') (fun z _=>k - (intOf z).toNat)
        case atStart=>exact ⟨0,by omega,rfl,X2.out,R2.out,fun i hi=>by omega⟩
        case round=>
         clear X1 R1 X2 R2
         obtain ⟨j,hj,rfl,hx1,hr1,hnt⟩:=hrel
         have X1:=Lib.hid hx1
         have R1:=Lib.hid hr1
         have NT:=Lib.hid hnt
         clear hx1 hr1 hnt
         have r0:=R1.out.cell 0 _ rfl;have r1:=R1.out.cell 1 _ rfl
         by_cases hjk : j < k
         ·have dj : decide ((j : Int) < (k : Int)) = true:=by simp;omega
          have jz : (0 : Int) ≤ (j : Int):=by omega
          have jl : (j : Int) < (c.p.l.length : Int):=by omega
          have w2 : IntKind.i64.wrap ((j : Int) + 1) = (j : Int) + 1:=by rw [IntKind.wrap_i64];omega
          have hjp : j < c.p.l.length:=by omega
          obtain ⟨bx2,ox2,hax,hcx⟩:=X1.out.ok.p.cells (by omega) j hjp
          rw [HAX.out] at hax
          obtain ⟨rfl,rfl⟩ : bx = bx2 ∧ ox = ox2:=by simpa using hax
          obtain ⟨y,z,hrow⟩:=row2 hjp X1.out.ok.p.len
          have hat : at_ c.p.l j 1 = z:=by rw [at_eq hjp,hrow];rfl
          have HAT:=Lib.hid hat
          rw [hrow] at hcx
          have c1:=hcx _ (Below.refl _ _) 1 _ rfl
          have q3:=X1.out.ob.cell 3 _ rfl
          rw [HAX.out] at q3
          clear hcx hrow hat hax
          by_cases hz : z = f'
          ·have de : (z == (f' : Int)) = true:=by simp [hz]
           (have hx : x = ((k : Int),true):=(by rw [HX.out];exact fstV_hit hkl KP.out (by rw [HPB.out];exact taken_hit hjk (by rw [HAT.out,hz])));subst hx)
           clear hz
           go_upto_region 14 with fail
           go_quiet (fail)
           go_wp2_with fail
           go_ret2
           exact ⟨rfl,below_drewN X1.out.bel _⟩
          ·have de : (z == (f' : Int)) = false:=by simp [hz]
           have NT2 : Hid (∀ i,i < j + 1 → at_ c.p.l i 1 ≠ f'):=fun i hi=>by
            by_cases hij : i = j
            ·rw [hij,HAT.out];exact hz
            ·exact NT.out i (by omega)
           clear hz
           go_upto_region 14 with fail
           go_quiet (fail)
           go_wp2_with fail
           go_roundw
           case rel=>exact ⟨j + 1,by omega,by go_num,X1.out.below (below_drewN (Below.refl _ _) _),R1.out.below (below_drewN (Below.refl _ _) _),NT2.out⟩
           case measure=>simp [intOf];omega
         ·have dj : decide ((j : Int) < (k : Int)) = false:=by simp;omega
          have KP2 : Hid (∀ i,i < k + 1 → pBad c i = false):=fun i hi=>by
           by_cases hik : i = k
           ·rw [hik,HPB.out];exact taken_none (fun q hq=>NT.out q (by omega))
           ·exact KP.out i (by omega)
          go_wp2_with fail
          go_roundw
          case rel=>exact ⟨k + 1,by omega,by go_num,X1.out,KP2.out⟩
          case measure=>simp [intOf];omega
   ·have dk : decide ((k : Int) < (c.p.l.length : Int)) = false:=by simp;omega
    have hx : x = (0,false):=by rw [HX.out];exact fstV_none (fun j hj=>KP.out j (by omega))
    subst hx
    go_wp2_with fail
    go_ret2
    exact ⟨rfl,XK.out.bel⟩
end Go.Proofs.YtoklonmiejdgmaaGreatDoor
