/- Chapter 4, the reference: Check, Right, Frames, RingFrame, Bound. -/
import Derived.Test.YtoklonmiejdgmaaGreatDoorGScriptPrints11
import Derived.Test.YtoklonmiejdgmaaGreatDoorGScriptPrints10
namespace Go.Proofs.YtoklonmiejdgmaaGreatDoor
set_option linter.unusedVariables false
set_option linter.unusedSimpArgs false
set_option linter.unnecessarySimpa false
open Go.RowKit Go.Sort
set_option maxHeartbeats 8000000
set_option maxRecDepth 100000
set_option linter.unusedVariables false
variable {W W' w : World} {c : Cv} {b N : Nat} {s : Sl}
theorem rcheck_any (c : Cv) (w : World) (h : CfgOk w c) : Calls Tryz.prog 59 #[(.agg #[.int .i64 c.cats,.slice c.g.a c.g.l.length c.g.cap,.slice c.r.a c.r.l.length c.r.cap,.slice c.p.a c.p.l.length c.p.cap,.slice c.n.a c.n.l.length c.n.cap,.slice c.s.a c.s.l.length c.s.cap,.int .i64 c.gate,.int .i64 c.quota])] w fun e w'=>e = .returned (.tuple #[.int .i64 (chkV c).1,.int .i64 (chkV c).2]) ∧ Below w.heap.size w w':=by
 obtain ⟨x,hx⟩ : ∃ x,x = chkV c:=⟨_,rfl⟩
 rw [← hx]
 have HG : Hid (x = chkV c):=hx
 clear hx
 by_cases h1 : c.cats < 0
 ·have d1 : decide (c.cats < 0) = true:=by simp [h1]
  obtain rfl : x = (12,0):=by rw [HG.out,chkV,if_pos (Or.inl h1)]
  clear h1 HG
  ((have h0:=CX.new h;go_enter Tryz.func59,Tryz.ntmps59;go_upto_region 1 with fail;generalize w.alloc (.cells #[.int .i64 c.cats,.slice c.g.a c.g.l.length c.g.cap,.slice c.r.a c.r.l.length c.r.cap,.slice c.p.a c.p.l.length c.p.cap,.slice c.n.a c.n.l.length c.n.cap,.slice c.s.a c.s.l.length c.s.cap,.int .i64 c.gate,.int .i64 c.quota] 29) = W1 at h0 ⊢;generalize w.heap.size = b0 at h0 ⊢;have H0:=Lib.hid h0;clear h0 h);have XK:=H0;clear H0;(have q0:=XK.out.ob.cell 0 _ rfl;have q1:=XK.out.ob.cell 1 _ rfl;have q2:=XK.out.ob.cell 2 _ rfl;have q3:=XK.out.ob.cell 3 _ rfl;have q4:=XK.out.ob.cell 4 _ rfl;have q5:=XK.out.ob.cell 5 _ rfl;have q6:=XK.out.ob.cell 6 _ rfl;have q7:=XK.out.ob.cell 7 _ rfl))
  go_wp2_with fail
  go_ret2
  exact ⟨rfl,XK.out.bel⟩
 ·have d1 : decide (c.cats < 0) = false:=by simp [h1]
  by_cases h2 : 8 < c.cats
  ·have d2 : decide (c.cats > 8) = true:=by simp [h2]
   obtain rfl : x = (12,0):=by rw [HG.out,chkV,if_pos (Or.inr h2)]
   clear h1 h2 HG
   ((have h0:=CX.new h;go_enter Tryz.func59,Tryz.ntmps59;go_upto_region 1 with fail;generalize w.alloc (.cells #[.int .i64 c.cats,.slice c.g.a c.g.l.length c.g.cap,.slice c.r.a c.r.l.length c.r.cap,.slice c.p.a c.p.l.length c.p.cap,.slice c.n.a c.n.l.length c.n.cap,.slice c.s.a c.s.l.length c.s.cap,.int .i64 c.gate,.int .i64 c.quota] 29) = W1 at h0 ⊢;generalize w.heap.size = b0 at h0 ⊢;have H0:=Lib.hid h0;clear h0 h);have XK:=H0;clear H0;(have q0:=XK.out.ob.cell 0 _ rfl;have q1:=XK.out.ob.cell 1 _ rfl;have q2:=XK.out.ob.cell 2 _ rfl;have q3:=XK.out.ob.cell 3 _ rfl;have q4:=XK.out.ob.cell 4 _ rfl;have q5:=XK.out.ob.cell 5 _ rfl;have q6:=XK.out.ob.cell 6 _ rfl;have q7:=XK.out.ob.cell 7 _ rfl))
   go_wp2_with fail
   go_ret2
   exact ⟨rfl,XK.out.bel⟩
  ·have d2 : decide (c.cats > 8) = false:=by simpa using h2
   have hx : x = match (List.range 6).find? fun k=>(ruleV c k).2 with
    | some k=>((13 + k : Int),(ruleV c k).1)
    | none=>if 32 < needV c then (19,0) else (0,0):=by rw [HG.out,chkV,if_neg (by omega)];rfl
   replace HG:=Lib.hid hx
   clear h1 h2 hx
   have HC:=Lib.hid h
   obtain ⟨v0,hv0⟩ : ∃ v,v = ruleV c 0:=⟨_,rfl⟩
   obtain ⟨v1,hv1⟩ : ∃ v,v = ruleV c 1:=⟨_,rfl⟩
   obtain ⟨v2,hv2⟩ : ∃ v,v = ruleV c 2:=⟨_,rfl⟩
   obtain ⟨v3,hv3⟩ : ∃ v,v = ruleV c 3:=⟨_,rfl⟩
   obtain ⟨v4,hv4⟩ : ∃ v,v = ruleV c 4:=⟨_,rfl⟩
   obtain ⟨v5,hv5⟩ : ∃ v,v = isG c c.gate:=⟨_,rfl⟩
   have C0 : Hid (∀ W,CfgOk W c → Calls Tryz.prog 100 #[(.agg #[.int .i64 c.cats,.slice c.g.a c.g.l.length c.g.cap,.slice c.r.a c.r.l.length c.r.cap,.slice c.p.a c.p.l.length c.p.cap,.slice c.n.a c.n.l.length c.n.cap,.slice c.s.a c.s.l.length c.s.cap,.int .i64 c.gate,.int .i64 c.quota])] W fun e w'=>e = .returned (.tuple #[.bool v0.2,.int .i64 v0.1]) ∧ Below W.heap.size W w'):=fun W hc=>by rw [hv0];exact rguests_any c _ hc
   have C1 : Hid (∀ W,CfgOk W c → Calls Tryz.prog 101 #[(.agg #[.int .i64 c.cats,.slice c.g.a c.g.l.length c.g.cap,.slice c.r.a c.r.l.length c.r.cap,.slice c.p.a c.p.l.length c.p.cap,.slice c.n.a c.n.l.length c.n.cap,.slice c.s.a c.s.l.length c.s.cap,.int .i64 c.gate,.int .i64 c.quota])] W fun e w'=>e = .returned (.tuple #[.bool v1.2,.int .i64 v1.1]) ∧ Below W.heap.size W w'):=fun W hc=>by rw [hv1];exact rranges_any c _ hc
   have C2 : Hid (∀ W,CfgOk W c → Calls Tryz.prog 102 #[(.agg #[.int .i64 c.cats,.slice c.g.a c.g.l.length c.g.cap,.slice c.r.a c.r.l.length c.r.cap,.slice c.p.a c.p.l.length c.p.cap,.slice c.n.a c.n.l.length c.n.cap,.slice c.s.a c.s.l.length c.s.cap,.int .i64 c.gate,.int .i64 c.quota])] W fun e w'=>e = .returned (.tuple #[.bool v2.2,.int .i64 v2.1]) ∧ Below W.heap.size W w'):=fun W hc=>by rw [hv2];exact rports_any c _ hc
   have C3 : Hid (∀ W,CfgOk W c → Calls Tryz.prog 103 #[(.agg #[.int .i64 c.cats,.slice c.g.a c.g.l.length c.g.cap,.slice c.r.a c.r.l.length c.r.cap,.slice c.p.a c.p.l.length c.p.cap,.slice c.n.a c.n.l.length c.n.cap,.slice c.s.a c.s.l.length c.s.cap,.int .i64 c.gate,.int .i64 c.quota])] W fun e w'=>e = .returned (.tuple #[.bool v3.2,.int .i64 v3.1]) ∧ Below W.heap.size W w'):=fun W hc=>by rw [hv3];exact rrings_any c _ hc
   have C4 : Hid (∀ W,CfgOk W c → Calls Tryz.prog 104 #[(.agg #[.int .i64 c.cats,.slice c.g.a c.g.l.length c.g.cap,.slice c.r.a c.r.l.length c.r.cap,.slice c.p.a c.p.l.length c.p.cap,.slice c.n.a c.n.l.length c.n.cap,.slice c.s.a c.s.l.length c.s.cap,.int .i64 c.gate,.int .i64 c.quota])] W fun e w'=>e = .returned (.tuple #[.bool v4.2,.int .i64 v4.1]) ∧ Below W.heap.size W w'):=fun W hc=>by rw [hv4];exact rslots_any c _ hc
   have GUE : Hid (∀ W,CfgOk W c → Calls Tryz.prog 105 #[(.agg #[.int .i64 c.cats,.slice c.g.a c.g.l.length c.g.cap,.slice c.r.a c.r.l.length c.r.cap,.slice c.p.a c.p.l.length c.p.cap,.slice c.n.a c.n.l.length c.n.cap,.slice c.s.a c.s.l.length c.s.cap,.int .i64 c.gate,.int .i64 c.quota]),.int .i64 c.gate] W fun e w'=>e = .returned (.bool v5) ∧ Below W.heap.size W w'):=fun W h=>by rw [hv5];exact isGuest_any _ _ _ h
   have Hv0:=Lib.hid hv0;have Hv1:=Lib.hid hv1;have Hv2:=Lib.hid hv2;have Hv3:=Lib.hid hv3;have Hv4:=Lib.hid hv4
   clear hv0 hv1 hv2 hv3 hv4
   obtain ⟨i0,b0⟩:=v0
   dsimp only at C0
   cases b0 with
   | true=>
    have hx : x = (13 + 0,i0):=by rw [HG.out,rule_hit (k:=0) (by omega) (fun j hj=>by omega) (by rw [← Hv0.out])];dsimp only;rw [← Hv0.out];rfl
    subst hx
    clear HG hv5 Hv0 Hv1 Hv2 Hv3 Hv4 GUE C1 C2 C3 C4
    ((have h0:=CX.new h;go_enter Tryz.func59,Tryz.ntmps59;go_upto_region 1 with fail;generalize w.alloc (.cells #[.int .i64 c.cats,.slice c.g.a c.g.l.length c.g.cap,.slice c.r.a c.r.l.length c.r.cap,.slice c.p.a c.p.l.length c.p.cap,.slice c.n.a c.n.l.length c.n.cap,.slice c.s.a c.s.l.length c.s.cap,.int .i64 c.gate,.int .i64 c.quota] 29) = W1 at h0 ⊢;generalize w.heap.size = b0 at h0 ⊢;have H0:=Lib.hid h0;clear h0 h);have XK:=H0;clear H0;(have q0:=XK.out.ob.cell 0 _ rfl;have q1:=XK.out.ob.cell 1 _ rfl;have q2:=XK.out.ob.cell 2 _ rfl;have q3:=XK.out.ob.cell 3 _ rfl;have q4:=XK.out.ob.cell 4 _ rfl;have q5:=XK.out.ob.cell 5 _ rfl;have q6:=XK.out.ob.cell 6 _ rfl;have q7:=XK.out.ob.cell 7 _ rfl))
    go_wp2_with (go_at_call 100;refine (C0.out _ XK.out.ok).mono ?_;rintro e Wc ⟨rfl,hb⟩;replace XK:=Lib.hid (XK.out.below hb);clear hb;(replace q0:=XK.out.ob.cell 0 _ rfl;replace q1:=XK.out.ob.cell 1 _ rfl;replace q2:=XK.out.ob.cell 2 _ rfl;replace q3:=XK.out.ob.cell 3 _ rfl;replace q4:=XK.out.ob.cell 4 _ rfl;replace q5:=XK.out.ob.cell 5 _ rfl;replace q6:=XK.out.ob.cell 6 _ rfl;replace q7:=XK.out.ob.cell 7 _ rfl))
    go_ret2
    exact ⟨rfl,XK.out.bel⟩
   | false=>
    have F0 : Hid ((ruleV c 0).2 = false):=by rw [Hid,← Hv0.out]
    obtain ⟨i1,b1⟩:=v1
    dsimp only at C1
    cases b1 with
    | true=>
     have hx : x = (13 + 1,i1):=by rw [HG.out,rule_hit (k:=1) (by omega) (fun j hj=>by rw [show j = 0 by omega];exact F0.out) (by rw [← Hv1.out])];dsimp only;rw [← Hv1.out];rfl
     subst hx
     clear HG hv5 Hv0 Hv1 Hv2 Hv3 Hv4 GUE C2 C3 C4 F0
     ((have h0:=CX.new h;go_enter Tryz.func59,Tryz.ntmps59;go_upto_region 1 with fail;generalize w.alloc (.cells #[.int .i64 c.cats,.slice c.g.a c.g.l.length c.g.cap,.slice c.r.a c.r.l.length c.r.cap,.slice c.p.a c.p.l.length c.p.cap,.slice c.n.a c.n.l.length c.n.cap,.slice c.s.a c.s.l.length c.s.cap,.int .i64 c.gate,.int .i64 c.quota] 29) = W1 at h0 ⊢;generalize w.heap.size = b0 at h0 ⊢;have H0:=Lib.hid h0;clear h0 h);have XK:=H0;clear H0;(have q0:=XK.out.ob.cell 0 _ rfl;have q1:=XK.out.ob.cell 1 _ rfl;have q2:=XK.out.ob.cell 2 _ rfl;have q3:=XK.out.ob.cell 3 _ rfl;have q4:=XK.out.ob.cell 4 _ rfl;have q5:=XK.out.ob.cell 5 _ rfl;have q6:=XK.out.ob.cell 6 _ rfl;have q7:=XK.out.ob.cell 7 _ rfl))
     go_wp2_with (first | (go_at_call 100;refine (C0.out _ XK.out.ok).mono ?_;rintro e Wc ⟨rfl,hb⟩;replace XK:=Lib.hid (XK.out.below hb);clear hb;(replace q0:=XK.out.ob.cell 0 _ rfl;replace q1:=XK.out.ob.cell 1 _ rfl;replace q2:=XK.out.ob.cell 2 _ rfl;replace q3:=XK.out.ob.cell 3 _ rfl;replace q4:=XK.out.ob.cell 4 _ rfl;replace q5:=XK.out.ob.cell 5 _ rfl;replace q6:=XK.out.ob.cell 6 _ rfl;replace q7:=XK.out.ob.cell 7 _ rfl)) | (go_at_call 101;refine (C1.out _ XK.out.ok).mono ?_;rintro e Wc ⟨rfl,hb⟩;replace XK:=Lib.hid (XK.out.below hb);clear hb;(replace q0:=XK.out.ob.cell 0 _ rfl;replace q1:=XK.out.ob.cell 1 _ rfl;replace q2:=XK.out.ob.cell 2 _ rfl;replace q3:=XK.out.ob.cell 3 _ rfl;replace q4:=XK.out.ob.cell 4 _ rfl;replace q5:=XK.out.ob.cell 5 _ rfl;replace q6:=XK.out.ob.cell 6 _ rfl;replace q7:=XK.out.ob.cell 7 _ rfl)))
     go_ret2
     exact ⟨rfl,XK.out.bel⟩
    | false=>
     have F1 : Hid ((ruleV c 1).2 = false):=by rw [Hid,← Hv1.out]
     obtain ⟨i2,b2⟩:=v2
     dsimp only at C2
     cases b2 with
     | true=>
      have hx : x = (13 + 2,i2):=by rw [HG.out,rule_hit (k:=2) (by omega) (fun j hj=>by rcases (show j = 0 ∨ j = 1 by omega) with rfl | rfl;exact F0.out;exact F1.out) (by rw [← Hv2.out])];dsimp only;rw [← Hv2.out];rfl
      subst hx
      clear HG hv5 Hv0 Hv1 Hv2 Hv3 Hv4 GUE C3 C4 F0 F1
      ((have h0:=CX.new h;go_enter Tryz.func59,Tryz.ntmps59;go_upto_region 1 with fail;generalize w.alloc (.cells #[.int .i64 c.cats,.slice c.g.a c.g.l.length c.g.cap,.slice c.r.a c.r.l.length c.r.cap,.slice c.p.a c.p.l.length c.p.cap,.slice c.n.a c.n.l.length c.n.cap,.slice c.s.a c.s.l.length c.s.cap,.int .i64 c.gate,.int .i64 c.quota] 29) = W1 at h0 ⊢;generalize w.heap.size = b0 at h0 ⊢;have H0:=Lib.hid h0;clear h0 h);have XK:=H0;clear H0;(have q0:=XK.out.ob.cell 0 _ rfl;have q1:=XK.out.ob.cell 1 _ rfl;have q2:=XK.out.ob.cell 2 _ rfl;have q3:=XK.out.ob.cell 3 _ rfl;have q4:=XK.out.ob.cell 4 _ rfl;have q5:=XK.out.ob.cell 5 _ rfl;have q6:=XK.out.ob.cell 6 _ rfl;have q7:=XK.out.ob.cell 7 _ rfl))
      go_wp2_with (first | (go_at_call 100;refine (C0.out _ XK.out.ok).mono ?_;rintro e Wc ⟨rfl,hb⟩;replace XK:=Lib.hid (XK.out.below hb);clear hb;(replace q0:=XK.out.ob.cell 0 _ rfl;replace q1:=XK.out.ob.cell 1 _ rfl;replace q2:=XK.out.ob.cell 2 _ rfl;replace q3:=XK.out.ob.cell 3 _ rfl;replace q4:=XK.out.ob.cell 4 _ rfl;replace q5:=XK.out.ob.cell 5 _ rfl;replace q6:=XK.out.ob.cell 6 _ rfl;replace q7:=XK.out.ob.cell 7 _ rfl)) | (go_at_call 101;refine (C1.out _ XK.out.ok).mono ?_;rintro e Wc ⟨rfl,hb⟩;replace XK:=Lib.hid (XK.out.below hb);clear hb;(replace q0:=XK.out.ob.cell 0 _ rfl;replace q1:=XK.out.ob.cell 1 _ rfl;replace q2:=XK.out.ob.cell 2 _ rfl;replace q3:=XK.out.ob.cell 3 _ rfl;replace q4:=XK.out.ob.cell 4 _ rfl;replace q5:=XK.out.ob.cell 5 _ rfl;replace q6:=XK.out.ob.cell 6 _ rfl;replace q7:=XK.out.ob.cell 7 _ rfl)) | (go_at_call 102;refine (C2.out _ XK.out.ok).mono ?_;rintro e Wc ⟨rfl,hb⟩;replace XK:=Lib.hid (XK.out.below hb);clear hb;(replace q0:=XK.out.ob.cell 0 _ rfl;replace q1:=XK.out.ob.cell 1 _ rfl;replace q2:=XK.out.ob.cell 2 _ rfl;replace q3:=XK.out.ob.cell 3 _ rfl;replace q4:=XK.out.ob.cell 4 _ rfl;replace q5:=XK.out.ob.cell 5 _ rfl;replace q6:=XK.out.ob.cell 6 _ rfl;replace q7:=XK.out.ob.cell 7 _ rfl)))
      go_ret2
      exact ⟨rfl,XK.out.bel⟩
     | false=>
      have F2 : Hid ((ruleV c 2).2 = false):=by rw [Hid,← Hv2.out]
      obtain ⟨i3,b3⟩:=v3
      dsimp only at C3
      cases b3 with
      | true=>
       have hx : x = (13 + 3,i3):=by rw [HG.out,rule_hit (k:=3) (by omega) (fun j hj=>by rcases (show j = 0 ∨ j = 1 ∨ j = 2 by omega) with rfl | rfl | rfl;exact F0.out;exact F1.out;exact F2.out) (by rw [← Hv3.out])];dsimp only;rw [← Hv3.out];rfl
       subst hx
       clear HG hv5 Hv0 Hv1 Hv2 Hv3 Hv4 GUE C4 F0 F1 F2
       ((have h0:=CX.new h;go_enter Tryz.func59,Tryz.ntmps59;go_upto_region 1 with fail;generalize w.alloc (.cells #[.int .i64 c.cats,.slice c.g.a c.g.l.length c.g.cap,.slice c.r.a c.r.l.length c.r.cap,.slice c.p.a c.p.l.length c.p.cap,.slice c.n.a c.n.l.length c.n.cap,.slice c.s.a c.s.l.length c.s.cap,.int .i64 c.gate,.int .i64 c.quota] 29) = W1 at h0 ⊢;generalize w.heap.size = b0 at h0 ⊢;have H0:=Lib.hid h0;clear h0 h);have XK:=H0;clear H0;(have q0:=XK.out.ob.cell 0 _ rfl;have q1:=XK.out.ob.cell 1 _ rfl;have q2:=XK.out.ob.cell 2 _ rfl;have q3:=XK.out.ob.cell 3 _ rfl;have q4:=XK.out.ob.cell 4 _ rfl;have q5:=XK.out.ob.cell 5 _ rfl;have q6:=XK.out.ob.cell 6 _ rfl;have q7:=XK.out.ob.cell 7 _ rfl))
       go_wp2_with (first | (go_at_call 100;refine (C0.out _ XK.out.ok).mono ?_;rintro e Wc ⟨rfl,hb⟩;replace XK:=Lib.hid (XK.out.below hb);clear hb;(replace q0:=XK.out.ob.cell 0 _ rfl;replace q1:=XK.out.ob.cell 1 _ rfl;replace q2:=XK.out.ob.cell 2 _ rfl;replace q3:=XK.out.ob.cell 3 _ rfl;replace q4:=XK.out.ob.cell 4 _ rfl;replace q5:=XK.out.ob.cell 5 _ rfl;replace q6:=XK.out.ob.cell 6 _ rfl;replace q7:=XK.out.ob.cell 7 _ rfl)) | (go_at_call 101;refine (C1.out _ XK.out.ok).mono ?_;rintro e Wc ⟨rfl,hb⟩;replace XK:=Lib.hid (XK.out.below hb);clear hb;(replace q0:=XK.out.ob.cell 0 _ rfl;replace q1:=XK.out.ob.cell 1 _ rfl;replace q2:=XK.out.ob.cell 2 _ rfl;replace q3:=XK.out.ob.cell 3 _ rfl;replace q4:=XK.out.ob.cell 4 _ rfl;replace q5:=XK.out.ob.cell 5 _ rfl;replace q6:=XK.out.ob.cell 6 _ rfl;replace q7:=XK.out.ob.cell 7 _ rfl)) | (go_at_call 102;refine (C2.out _ XK.out.ok).mono ?_;rintro e Wc ⟨rfl,hb⟩;replace XK:=Lib.hid (XK.out.below hb);clear hb;(replace q0:=XK.out.ob.cell 0 _ rfl;replace q1:=XK.out.ob.cell 1 _ rfl;replace q2:=XK.out.ob.cell 2 _ rfl;replace q3:=XK.out.ob.cell 3 _ rfl;replace q4:=XK.out.ob.cell 4 _ rfl;replace q5:=XK.out.ob.cell 5 _ rfl;replace q6:=XK.out.ob.cell 6 _ rfl;replace q7:=XK.out.ob.cell 7 _ rfl)) | (go_at_call 103;refine (C3.out _ XK.out.ok).mono ?_;rintro e Wc ⟨rfl,hb⟩;replace XK:=Lib.hid (XK.out.below hb);clear hb;(replace q0:=XK.out.ob.cell 0 _ rfl;replace q1:=XK.out.ob.cell 1 _ rfl;replace q2:=XK.out.ob.cell 2 _ rfl;replace q3:=XK.out.ob.cell 3 _ rfl;replace q4:=XK.out.ob.cell 4 _ rfl;replace q5:=XK.out.ob.cell 5 _ rfl;replace q6:=XK.out.ob.cell 6 _ rfl;replace q7:=XK.out.ob.cell 7 _ rfl)))
       go_ret2
       exact ⟨rfl,XK.out.bel⟩
      | false=>
       have F3 : Hid ((ruleV c 3).2 = false):=by rw [Hid,← Hv3.out]
       obtain ⟨i4,b4⟩:=v4
       dsimp only at C4
       cases b4 with
       | true=>
        have hx : x = (13 + 4,i4):=by rw [HG.out,rule_hit (k:=4) (by omega) (fun j hj=>by rcases (show j = 0 ∨ j = 1 ∨ j = 2 ∨ j = 3 by omega) with rfl | rfl | rfl | rfl;exact F0.out;exact F1.out;exact F2.out;exact F3.out) (by rw [← Hv4.out])];dsimp only;rw [← Hv4.out];rfl
        subst hx
        clear HG hv5 Hv0 Hv1 Hv2 Hv3 Hv4 GUE F0 F1 F2 F3
        ((have h0:=CX.new h;go_enter Tryz.func59,Tryz.ntmps59;go_upto_region 1 with fail;generalize w.alloc (.cells #[.int .i64 c.cats,.slice c.g.a c.g.l.length c.g.cap,.slice c.r.a c.r.l.length c.r.cap,.slice c.p.a c.p.l.length c.p.cap,.slice c.n.a c.n.l.length c.n.cap,.slice c.s.a c.s.l.length c.s.cap,.int .i64 c.gate,.int .i64 c.quota] 29) = W1 at h0 ⊢;generalize w.heap.size = b0 at h0 ⊢;have H0:=Lib.hid h0;clear h0 h);have XK:=H0;clear H0;(have q0:=XK.out.ob.cell 0 _ rfl;have q1:=XK.out.ob.cell 1 _ rfl;have q2:=XK.out.ob.cell 2 _ rfl;have q3:=XK.out.ob.cell 3 _ rfl;have q4:=XK.out.ob.cell 4 _ rfl;have q5:=XK.out.ob.cell 5 _ rfl;have q6:=XK.out.ob.cell 6 _ rfl;have q7:=XK.out.ob.cell 7 _ rfl))
        go_wp2_with (first | (go_at_call 100;refine (C0.out _ XK.out.ok).mono ?_;rintro e Wc ⟨rfl,hb⟩;replace XK:=Lib.hid (XK.out.below hb);clear hb;(replace q0:=XK.out.ob.cell 0 _ rfl;replace q1:=XK.out.ob.cell 1 _ rfl;replace q2:=XK.out.ob.cell 2 _ rfl;replace q3:=XK.out.ob.cell 3 _ rfl;replace q4:=XK.out.ob.cell 4 _ rfl;replace q5:=XK.out.ob.cell 5 _ rfl;replace q6:=XK.out.ob.cell 6 _ rfl;replace q7:=XK.out.ob.cell 7 _ rfl)) | (go_at_call 101;refine (C1.out _ XK.out.ok).mono ?_;rintro e Wc ⟨rfl,hb⟩;replace XK:=Lib.hid (XK.out.below hb);clear hb;(replace q0:=XK.out.ob.cell 0 _ rfl;replace q1:=XK.out.ob.cell 1 _ rfl;replace q2:=XK.out.ob.cell 2 _ rfl;replace q3:=XK.out.ob.cell 3 _ rfl;replace q4:=XK.out.ob.cell 4 _ rfl;replace q5:=XK.out.ob.cell 5 _ rfl;replace q6:=XK.out.ob.cell 6 _ rfl;replace q7:=XK.out.ob.cell 7 _ rfl)) | (go_at_call 102;refine (C2.out _ XK.out.ok).mono ?_;rintro e Wc ⟨rfl,hb⟩;replace XK:=Lib.hid (XK.out.below hb);clear hb;(replace q0:=XK.out.ob.cell 0 _ rfl;replace q1:=XK.out.ob.cell 1 _ rfl;replace q2:=XK.out.ob.cell 2 _ rfl;replace q3:=XK.out.ob.cell 3 _ rfl;replace q4:=XK.out.ob.cell 4 _ rfl;replace q5:=XK.out.ob.cell 5 _ rfl;replace q6:=XK.out.ob.cell 6 _ rfl;replace q7:=XK.out.ob.cell 7 _ rfl)) | (go_at_call 103;refine (C3.out _ XK.out.ok).mono ?_;rintro e Wc ⟨rfl,hb⟩;replace XK:=Lib.hid (XK.out.below hb);clear hb;(replace q0:=XK.out.ob.cell 0 _ rfl;replace q1:=XK.out.ob.cell 1 _ rfl;replace q2:=XK.out.ob.cell 2 _ rfl;replace q3:=XK.out.ob.cell 3 _ rfl;replace q4:=XK.out.ob.cell 4 _ rfl;replace q5:=XK.out.ob.cell 5 _ rfl;replace q6:=XK.out.ob.cell 6 _ rfl;replace q7:=XK.out.ob.cell 7 _ rfl)) | (go_at_call 104;refine (C4.out _ XK.out.ok).mono ?_;rintro e Wc ⟨rfl,hb⟩;replace XK:=Lib.hid (XK.out.below hb);clear hb;(replace q0:=XK.out.ob.cell 0 _ rfl;replace q1:=XK.out.ob.cell 1 _ rfl;replace q2:=XK.out.ob.cell 2 _ rfl;replace q3:=XK.out.ob.cell 3 _ rfl;replace q4:=XK.out.ob.cell 4 _ rfl;replace q5:=XK.out.ob.cell 5 _ rfl;replace q6:=XK.out.ob.cell 6 _ rfl;replace q7:=XK.out.ob.cell 7 _ rfl)))
        go_ret2
        exact ⟨rfl,XK.out.bel⟩
       | false=>
        have F4 : Hid ((ruleV c 4).2 = false):=by rw [Hid,← Hv4.out]
        have hgk : GOk c:=gok_of F0.out F3.out
        have NEE : Hid (∀ W,CfgOk W c → Calls Tryz.prog 106 #[(.agg #[.int .i64 c.cats,.slice c.g.a c.g.l.length c.g.cap,.slice c.r.a c.r.l.length c.r.cap,.slice c.p.a c.p.l.length c.p.cap,.slice c.n.a c.n.l.length c.n.cap,.slice c.s.a c.s.l.length c.s.cap,.int .i64 c.gate,.int .i64 c.quota])] W fun e w'=>e = .returned (.int .i64 (needV c)) ∧ Below W.heap.size W w'):=fun W hc=>rneed_any c hgk _ hc
        have HBAD : Hid (gateB c = true → x = (18,0)):=fun hb=>by
         rw [HG.out,rule_hit (k:=5) (by omega) (fun j hj=>by rcases (show j = 0 ∨ j = 1 ∨ j = 2 ∨ j = 3 ∨ j = 4 by omega) with rfl | rfl | rfl | rfl | rfl;exact F0.out;exact F1.out;exact F2.out;exact F3.out;exact F4.out) hb];rfl
        have HGOOD : Hid (gateB c = false → x = if 32 < needV c then (19,0) else (0,0)):=fun hb=>by
         rw [HG.out,rule_none (fun j hj=>by rcases (show j = 0 ∨ j = 1 ∨ j = 2 ∨ j = 3 ∨ j = 4 ∨ j = 5 by omega) with rfl | rfl | rfl | rfl | rfl | rfl;exact F0.out;exact F1.out;exact F2.out;exact F3.out;exact F4.out;exact hb)]
        have GAT : Hid (gateB c = if c.gate = -1 then (c.quota != 0) else !v5 || (decide (c.quota < 0) || decide (64 < c.quota))):=by rw [Hid,hv5];rfl
        clear HG hv5 Hv0 Hv1 Hv2 Hv3 Hv4 F0 F1 F2 F3 F4 hgk
        ((have h0:=CX.new h;go_enter Tryz.func59,Tryz.ntmps59;go_upto_region 1 with fail;generalize w.alloc (.cells #[.int .i64 c.cats,.slice c.g.a c.g.l.length c.g.cap,.slice c.r.a c.r.l.length c.r.cap,.slice c.p.a c.p.l.length c.p.cap,.slice c.n.a c.n.l.length c.n.cap,.slice c.s.a c.s.l.length c.s.cap,.int .i64 c.gate,.int .i64 c.quota] 29) = W1 at h0 ⊢;generalize w.heap.size = b0 at h0 ⊢;have H0:=Lib.hid h0;clear h0 h);have XK:=H0;clear H0;(have q0:=XK.out.ob.cell 0 _ rfl;have q1:=XK.out.ob.cell 1 _ rfl;have q2:=XK.out.ob.cell 2 _ rfl;have q3:=XK.out.ob.cell 3 _ rfl;have q4:=XK.out.ob.cell 4 _ rfl;have q5:=XK.out.ob.cell 5 _ rfl;have q6:=XK.out.ob.cell 6 _ rfl;have q7:=XK.out.ob.cell 7 _ rfl))
        go_upto_region 18 with (first | (go_at_call 100;refine (C0.out _ XK.out.ok).mono ?_;rintro e Wc ⟨rfl,hb⟩;replace XK:=Lib.hid (XK.out.below hb);clear hb;(replace q0:=XK.out.ob.cell 0 _ rfl;replace q1:=XK.out.ob.cell 1 _ rfl;replace q2:=XK.out.ob.cell 2 _ rfl;replace q3:=XK.out.ob.cell 3 _ rfl;replace q4:=XK.out.ob.cell 4 _ rfl;replace q5:=XK.out.ob.cell 5 _ rfl;replace q6:=XK.out.ob.cell 6 _ rfl;replace q7:=XK.out.ob.cell 7 _ rfl)) | (go_at_call 101;refine (C1.out _ XK.out.ok).mono ?_;rintro e Wc ⟨rfl,hb⟩;replace XK:=Lib.hid (XK.out.below hb);clear hb;(replace q0:=XK.out.ob.cell 0 _ rfl;replace q1:=XK.out.ob.cell 1 _ rfl;replace q2:=XK.out.ob.cell 2 _ rfl;replace q3:=XK.out.ob.cell 3 _ rfl;replace q4:=XK.out.ob.cell 4 _ rfl;replace q5:=XK.out.ob.cell 5 _ rfl;replace q6:=XK.out.ob.cell 6 _ rfl;replace q7:=XK.out.ob.cell 7 _ rfl)) | (go_at_call 102;refine (C2.out _ XK.out.ok).mono ?_;rintro e Wc ⟨rfl,hb⟩;replace XK:=Lib.hid (XK.out.below hb);clear hb;(replace q0:=XK.out.ob.cell 0 _ rfl;replace q1:=XK.out.ob.cell 1 _ rfl;replace q2:=XK.out.ob.cell 2 _ rfl;replace q3:=XK.out.ob.cell 3 _ rfl;replace q4:=XK.out.ob.cell 4 _ rfl;replace q5:=XK.out.ob.cell 5 _ rfl;replace q6:=XK.out.ob.cell 6 _ rfl;replace q7:=XK.out.ob.cell 7 _ rfl)) | (go_at_call 103;refine (C3.out _ XK.out.ok).mono ?_;rintro e Wc ⟨rfl,hb⟩;replace XK:=Lib.hid (XK.out.below hb);clear hb;(replace q0:=XK.out.ob.cell 0 _ rfl;replace q1:=XK.out.ob.cell 1 _ rfl;replace q2:=XK.out.ob.cell 2 _ rfl;replace q3:=XK.out.ob.cell 3 _ rfl;replace q4:=XK.out.ob.cell 4 _ rfl;replace q5:=XK.out.ob.cell 5 _ rfl;replace q6:=XK.out.ob.cell 6 _ rfl;replace q7:=XK.out.ob.cell 7 _ rfl)) | (go_at_call 104;refine (C4.out _ XK.out.ok).mono ?_;rintro e Wc ⟨rfl,hb⟩;replace XK:=Lib.hid (XK.out.below hb);clear hb;(replace q0:=XK.out.ob.cell 0 _ rfl;replace q1:=XK.out.ob.cell 1 _ rfl;replace q2:=XK.out.ob.cell 2 _ rfl;replace q3:=XK.out.ob.cell 3 _ rfl;replace q4:=XK.out.ob.cell 4 _ rfl;replace q5:=XK.out.ob.cell 5 _ rfl;replace q6:=XK.out.ob.cell 6 _ rfl;replace q7:=XK.out.ob.cell 7 _ rfl)) | (go_at_call 105;refine (GUE.out _ XK.out.ok).mono ?_;rintro e Wc ⟨rfl,hb⟩;replace XK:=Lib.hid (XK.out.below hb);clear hb;(replace q0:=XK.out.ob.cell 0 _ rfl;replace q1:=XK.out.ob.cell 1 _ rfl;replace q2:=XK.out.ob.cell 2 _ rfl;replace q3:=XK.out.ob.cell 3 _ rfl;replace q4:=XK.out.ob.cell 4 _ rfl;replace q5:=XK.out.ob.cell 5 _ rfl;replace q6:=XK.out.ob.cell 6 _ rfl;replace q7:=XK.out.ob.cell 7 _ rfl)) | (go_at_call 106;refine (NEE.out _ XK.out.ok).mono ?_;rintro e Wc ⟨rfl,hb⟩;replace XK:=Lib.hid (XK.out.below hb);clear hb;(replace q0:=XK.out.ob.cell 0 _ rfl;replace q1:=XK.out.ob.cell 1 _ rfl;replace q2:=XK.out.ob.cell 2 _ rfl;replace q3:=XK.out.ob.cell 3 _ rfl;replace q4:=XK.out.ob.cell 4 _ rfl;replace q5:=XK.out.ob.cell 5 _ rfl;replace q6:=XK.out.ob.cell 6 _ rfl;replace q7:=XK.out.ob.cell 7 _ rfl)))
        by_cases hq1 : c.quota < 0
        ·have e1 : decide (c.quota < 0) = true:=by simp [hq1]
         obtain rfl : x = (18,0):=HBAD.out (by rw [GAT.out];split <;> simp <;> omega)
         by_cases hg : c.gate = -1
         ·have eg : (c.gate != -1) = false:=by simp [hg]
          clear hq1 hg HBAD HGOOD GAT
          go_wp2_with (first | (go_at_call 100;refine (C0.out _ XK.out.ok).mono ?_;rintro e Wc ⟨rfl,hb⟩;replace XK:=Lib.hid (XK.out.below hb);clear hb;(replace q0:=XK.out.ob.cell 0 _ rfl;replace q1:=XK.out.ob.cell 1 _ rfl;replace q2:=XK.out.ob.cell 2 _ rfl;replace q3:=XK.out.ob.cell 3 _ rfl;replace q4:=XK.out.ob.cell 4 _ rfl;replace q5:=XK.out.ob.cell 5 _ rfl;replace q6:=XK.out.ob.cell 6 _ rfl;replace q7:=XK.out.ob.cell 7 _ rfl)) | (go_at_call 101;refine (C1.out _ XK.out.ok).mono ?_;rintro e Wc ⟨rfl,hb⟩;replace XK:=Lib.hid (XK.out.below hb);clear hb;(replace q0:=XK.out.ob.cell 0 _ rfl;replace q1:=XK.out.ob.cell 1 _ rfl;replace q2:=XK.out.ob.cell 2 _ rfl;replace q3:=XK.out.ob.cell 3 _ rfl;replace q4:=XK.out.ob.cell 4 _ rfl;replace q5:=XK.out.ob.cell 5 _ rfl;replace q6:=XK.out.ob.cell 6 _ rfl;replace q7:=XK.out.ob.cell 7 _ rfl)) | (go_at_call 102;refine (C2.out _ XK.out.ok).mono ?_;rintro e Wc ⟨rfl,hb⟩;replace XK:=Lib.hid (XK.out.below hb);clear hb;(replace q0:=XK.out.ob.cell 0 _ rfl;replace q1:=XK.out.ob.cell 1 _ rfl;replace q2:=XK.out.ob.cell 2 _ rfl;replace q3:=XK.out.ob.cell 3 _ rfl;replace q4:=XK.out.ob.cell 4 _ rfl;replace q5:=XK.out.ob.cell 5 _ rfl;replace q6:=XK.out.ob.cell 6 _ rfl;replace q7:=XK.out.ob.cell 7 _ rfl)) | (go_at_call 103;refine (C3.out _ XK.out.ok).mono ?_;rintro e Wc ⟨rfl,hb⟩;replace XK:=Lib.hid (XK.out.below hb);clear hb;(replace q0:=XK.out.ob.cell 0 _ rfl;replace q1:=XK.out.ob.cell 1 _ rfl;replace q2:=XK.out.ob.cell 2 _ rfl;replace q3:=XK.out.ob.cell 3 _ rfl;replace q4:=XK.out.ob.cell 4 _ rfl;replace q5:=XK.out.ob.cell 5 _ rfl;replace q6:=XK.out.ob.cell 6 _ rfl;replace q7:=XK.out.ob.cell 7 _ rfl)) | (go_at_call 104;refine (C4.out _ XK.out.ok).mono ?_;rintro e Wc ⟨rfl,hb⟩;replace XK:=Lib.hid (XK.out.below hb);clear hb;(replace q0:=XK.out.ob.cell 0 _ rfl;replace q1:=XK.out.ob.cell 1 _ rfl;replace q2:=XK.out.ob.cell 2 _ rfl;replace q3:=XK.out.ob.cell 3 _ rfl;replace q4:=XK.out.ob.cell 4 _ rfl;replace q5:=XK.out.ob.cell 5 _ rfl;replace q6:=XK.out.ob.cell 6 _ rfl;replace q7:=XK.out.ob.cell 7 _ rfl)) | (go_at_call 105;refine (GUE.out _ XK.out.ok).mono ?_;rintro e Wc ⟨rfl,hb⟩;replace XK:=Lib.hid (XK.out.below hb);clear hb;(replace q0:=XK.out.ob.cell 0 _ rfl;replace q1:=XK.out.ob.cell 1 _ rfl;replace q2:=XK.out.ob.cell 2 _ rfl;replace q3:=XK.out.ob.cell 3 _ rfl;replace q4:=XK.out.ob.cell 4 _ rfl;replace q5:=XK.out.ob.cell 5 _ rfl;replace q6:=XK.out.ob.cell 6 _ rfl;replace q7:=XK.out.ob.cell 7 _ rfl)) | (go_at_call 106;refine (NEE.out _ XK.out.ok).mono ?_;rintro e Wc ⟨rfl,hb⟩;replace XK:=Lib.hid (XK.out.below hb);clear hb;(replace q0:=XK.out.ob.cell 0 _ rfl;replace q1:=XK.out.ob.cell 1 _ rfl;replace q2:=XK.out.ob.cell 2 _ rfl;replace q3:=XK.out.ob.cell 3 _ rfl;replace q4:=XK.out.ob.cell 4 _ rfl;replace q5:=XK.out.ob.cell 5 _ rfl;replace q6:=XK.out.ob.cell 6 _ rfl;replace q7:=XK.out.ob.cell 7 _ rfl)))
          go_ret2
          exact ⟨rfl,XK.out.bel⟩
         ·have eg : (c.gate != -1) = true:=by simp [hg]
          clear hq1 hg HBAD HGOOD GAT
          cases v5 with
          | true=>
           go_wp2_with (first | (go_at_call 100;refine (C0.out _ XK.out.ok).mono ?_;rintro e Wc ⟨rfl,hb⟩;replace XK:=Lib.hid (XK.out.below hb);clear hb;(replace q0:=XK.out.ob.cell 0 _ rfl;replace q1:=XK.out.ob.cell 1 _ rfl;replace q2:=XK.out.ob.cell 2 _ rfl;replace q3:=XK.out.ob.cell 3 _ rfl;replace q4:=XK.out.ob.cell 4 _ rfl;replace q5:=XK.out.ob.cell 5 _ rfl;replace q6:=XK.out.ob.cell 6 _ rfl;replace q7:=XK.out.ob.cell 7 _ rfl)) | (go_at_call 101;refine (C1.out _ XK.out.ok).mono ?_;rintro e Wc ⟨rfl,hb⟩;replace XK:=Lib.hid (XK.out.below hb);clear hb;(replace q0:=XK.out.ob.cell 0 _ rfl;replace q1:=XK.out.ob.cell 1 _ rfl;replace q2:=XK.out.ob.cell 2 _ rfl;replace q3:=XK.out.ob.cell 3 _ rfl;replace q4:=XK.out.ob.cell 4 _ rfl;replace q5:=XK.out.ob.cell 5 _ rfl;replace q6:=XK.out.ob.cell 6 _ rfl;replace q7:=XK.out.ob.cell 7 _ rfl)) | (go_at_call 102;refine (C2.out _ XK.out.ok).mono ?_;rintro e Wc ⟨rfl,hb⟩;replace XK:=Lib.hid (XK.out.below hb);clear hb;(replace q0:=XK.out.ob.cell 0 _ rfl;replace q1:=XK.out.ob.cell 1 _ rfl;replace q2:=XK.out.ob.cell 2 _ rfl;replace q3:=XK.out.ob.cell 3 _ rfl;replace q4:=XK.out.ob.cell 4 _ rfl;replace q5:=XK.out.ob.cell 5 _ rfl;replace q6:=XK.out.ob.cell 6 _ rfl;replace q7:=XK.out.ob.cell 7 _ rfl)) | (go_at_call 103;refine (C3.out _ XK.out.ok).mono ?_;rintro e Wc ⟨rfl,hb⟩;replace XK:=Lib.hid (XK.out.below hb);clear hb;(replace q0:=XK.out.ob.cell 0 _ rfl;replace q1:=XK.out.ob.cell 1 _ rfl;replace q2:=XK.out.ob.cell 2 _ rfl;replace q3:=XK.out.ob.cell 3 _ rfl;replace q4:=XK.out.ob.cell 4 _ rfl;replace q5:=XK.out.ob.cell 5 _ rfl;replace q6:=XK.out.ob.cell 6 _ rfl;replace q7:=XK.out.ob.cell 7 _ rfl)) | (go_at_call 104;refine (C4.out _ XK.out.ok).mono ?_;rintro e Wc ⟨rfl,hb⟩;replace XK:=Lib.hid (XK.out.below hb);clear hb;(replace q0:=XK.out.ob.cell 0 _ rfl;replace q1:=XK.out.ob.cell 1 _ rfl;replace q2:=XK.out.ob.cell 2 _ rfl;replace q3:=XK.out.ob.cell 3 _ rfl;replace q4:=XK.out.ob.cell 4 _ rfl;replace q5:=XK.out.ob.cell 5 _ rfl;replace q6:=XK.out.ob.cell 6 _ rfl;replace q7:=XK.out.ob.cell 7 _ rfl)) | (go_at_call 105;refine (GUE.out _ XK.out.ok).mono ?_;rintro e Wc ⟨rfl,hb⟩;replace XK:=Lib.hid (XK.out.below hb);clear hb;(replace q0:=XK.out.ob.cell 0 _ rfl;replace q1:=XK.out.ob.cell 1 _ rfl;replace q2:=XK.out.ob.cell 2 _ rfl;replace q3:=XK.out.ob.cell 3 _ rfl;replace q4:=XK.out.ob.cell 4 _ rfl;replace q5:=XK.out.ob.cell 5 _ rfl;replace q6:=XK.out.ob.cell 6 _ rfl;replace q7:=XK.out.ob.cell 7 _ rfl)) | (go_at_call 106;refine (NEE.out _ XK.out.ok).mono ?_;rintro e Wc ⟨rfl,hb⟩;replace XK:=Lib.hid (XK.out.below hb);clear hb;(replace q0:=XK.out.ob.cell 0 _ rfl;replace q1:=XK.out.ob.cell 1 _ rfl;replace q2:=XK.out.ob.cell 2 _ rfl;replace q3:=XK.out.ob.cell 3 _ rfl;replace q4:=XK.out.ob.cell 4 _ rfl;replace q5:=XK.out.ob.cell 5 _ rfl;replace q6:=XK.out.ob.cell 6 _ rfl;replace q7:=XK.out.ob.cell 7 _ rfl)))
           go_ret2
           exact ⟨rfl,XK.out.bel⟩
          | false=>
           go_wp2_with (first | (go_at_call 100;refine (C0.out _ XK.out.ok).mono ?_;rintro e Wc ⟨rfl,hb⟩;replace XK:=Lib.hid (XK.out.below hb);clear hb;(replace q0:=XK.out.ob.cell 0 _ rfl;replace q1:=XK.out.ob.cell 1 _ rfl;replace q2:=XK.out.ob.cell 2 _ rfl;replace q3:=XK.out.ob.cell 3 _ rfl;replace q4:=XK.out.ob.cell 4 _ rfl;replace q5:=XK.out.ob.cell 5 _ rfl;replace q6:=XK.out.ob.cell 6 _ rfl;replace q7:=XK.out.ob.cell 7 _ rfl)) | (go_at_call 101;refine (C1.out _ XK.out.ok).mono ?_;rintro e Wc ⟨rfl,hb⟩;replace XK:=Lib.hid (XK.out.below hb);clear hb;(replace q0:=XK.out.ob.cell 0 _ rfl;replace q1:=XK.out.ob.cell 1 _ rfl;replace q2:=XK.out.ob.cell 2 _ rfl;replace q3:=XK.out.ob.cell 3 _ rfl;replace q4:=XK.out.ob.cell 4 _ rfl;replace q5:=XK.out.ob.cell 5 _ rfl;replace q6:=XK.out.ob.cell 6 _ rfl;replace q7:=XK.out.ob.cell 7 _ rfl)) | (go_at_call 102;refine (C2.out _ XK.out.ok).mono ?_;rintro e Wc ⟨rfl,hb⟩;replace XK:=Lib.hid (XK.out.below hb);clear hb;(replace q0:=XK.out.ob.cell 0 _ rfl;replace q1:=XK.out.ob.cell 1 _ rfl;replace q2:=XK.out.ob.cell 2 _ rfl;replace q3:=XK.out.ob.cell 3 _ rfl;replace q4:=XK.out.ob.cell 4 _ rfl;replace q5:=XK.out.ob.cell 5 _ rfl;replace q6:=XK.out.ob.cell 6 _ rfl;replace q7:=XK.out.ob.cell 7 _ rfl)) | (go_at_call 103;refine (C3.out _ XK.out.ok).mono ?_;rintro e Wc ⟨rfl,hb⟩;replace XK:=Lib.hid (XK.out.below hb);clear hb;(replace q0:=XK.out.ob.cell 0 _ rfl;replace q1:=XK.out.ob.cell 1 _ rfl;replace q2:=XK.out.ob.cell 2 _ rfl;replace q3:=XK.out.ob.cell 3 _ rfl;replace q4:=XK.out.ob.cell 4 _ rfl;replace q5:=XK.out.ob.cell 5 _ rfl;replace q6:=XK.out.ob.cell 6 _ rfl;replace q7:=XK.out.ob.cell 7 _ rfl)) | (go_at_call 104;refine (C4.out _ XK.out.ok).mono ?_;rintro e Wc ⟨rfl,hb⟩;replace XK:=Lib.hid (XK.out.below hb);clear hb;(replace q0:=XK.out.ob.cell 0 _ rfl;replace q1:=XK.out.ob.cell 1 _ rfl;replace q2:=XK.out.ob.cell 2 _ rfl;replace q3:=XK.out.ob.cell 3 _ rfl;replace q4:=XK.out.ob.cell 4 _ rfl;replace q5:=XK.out.ob.cell 5 _ rfl;replace q6:=XK.out.ob.cell 6 _ rfl;replace q7:=XK.out.ob.cell 7 _ rfl)) | (go_at_call 105;refine (GUE.out _ XK.out.ok).mono ?_;rintro e Wc ⟨rfl,hb⟩;replace XK:=Lib.hid (XK.out.below hb);clear hb;(replace q0:=XK.out.ob.cell 0 _ rfl;replace q1:=XK.out.ob.cell 1 _ rfl;replace q2:=XK.out.ob.cell 2 _ rfl;replace q3:=XK.out.ob.cell 3 _ rfl;replace q4:=XK.out.ob.cell 4 _ rfl;replace q5:=XK.out.ob.cell 5 _ rfl;replace q6:=XK.out.ob.cell 6 _ rfl;replace q7:=XK.out.ob.cell 7 _ rfl)) | (go_at_call 106;refine (NEE.out _ XK.out.ok).mono ?_;rintro e Wc ⟨rfl,hb⟩;replace XK:=Lib.hid (XK.out.below hb);clear hb;(replace q0:=XK.out.ob.cell 0 _ rfl;replace q1:=XK.out.ob.cell 1 _ rfl;replace q2:=XK.out.ob.cell 2 _ rfl;replace q3:=XK.out.ob.cell 3 _ rfl;replace q4:=XK.out.ob.cell 4 _ rfl;replace q5:=XK.out.ob.cell 5 _ rfl;replace q6:=XK.out.ob.cell 6 _ rfl;replace q7:=XK.out.ob.cell 7 _ rfl)))
           go_ret2
           exact ⟨rfl,XK.out.bel⟩
        ·have e1 : decide (c.quota < 0) = false:=by simp [hq1]
         by_cases hq2 : 64 < c.quota
         ·have e2 : decide (c.quota > 64) = true:=by simp [hq2]
          obtain rfl : x = (18,0):=HBAD.out (by rw [GAT.out];split <;> simp <;> omega)
          by_cases hg : c.gate = -1
          ·have eg : (c.gate != -1) = false:=by simp [hg]
           clear hq1 hq2 hg HBAD HGOOD GAT
           go_wp2_with (first | (go_at_call 100;refine (C0.out _ XK.out.ok).mono ?_;rintro e Wc ⟨rfl,hb⟩;replace XK:=Lib.hid (XK.out.below hb);clear hb;(replace q0:=XK.out.ob.cell 0 _ rfl;replace q1:=XK.out.ob.cell 1 _ rfl;replace q2:=XK.out.ob.cell 2 _ rfl;replace q3:=XK.out.ob.cell 3 _ rfl;replace q4:=XK.out.ob.cell 4 _ rfl;replace q5:=XK.out.ob.cell 5 _ rfl;replace q6:=XK.out.ob.cell 6 _ rfl;replace q7:=XK.out.ob.cell 7 _ rfl)) | (go_at_call 101;refine (C1.out _ XK.out.ok).mono ?_;rintro e Wc ⟨rfl,hb⟩;replace XK:=Lib.hid (XK.out.below hb);clear hb;(replace q0:=XK.out.ob.cell 0 _ rfl;replace q1:=XK.out.ob.cell 1 _ rfl;replace q2:=XK.out.ob.cell 2 _ rfl;replace q3:=XK.out.ob.cell 3 _ rfl;replace q4:=XK.out.ob.cell 4 _ rfl;replace q5:=XK.out.ob.cell 5 _ rfl;replace q6:=XK.out.ob.cell 6 _ rfl;replace q7:=XK.out.ob.cell 7 _ rfl)) | (go_at_call 102;refine (C2.out _ XK.out.ok).mono ?_;rintro e Wc ⟨rfl,hb⟩;replace XK:=Lib.hid (XK.out.below hb);clear hb;(replace q0:=XK.out.ob.cell 0 _ rfl;replace q1:=XK.out.ob.cell 1 _ rfl;replace q2:=XK.out.ob.cell 2 _ rfl;replace q3:=XK.out.ob.cell 3 _ rfl;replace q4:=XK.out.ob.cell 4 _ rfl;replace q5:=XK.out.ob.cell 5 _ rfl;replace q6:=XK.out.ob.cell 6 _ rfl;replace q7:=XK.out.ob.cell 7 _ rfl)) | (go_at_call 103;refine (C3.out _ XK.out.ok).mono ?_;rintro e Wc ⟨rfl,hb⟩;replace XK:=Lib.hid (XK.out.below hb);clear hb;(replace q0:=XK.out.ob.cell 0 _ rfl;replace q1:=XK.out.ob.cell 1 _ rfl;replace q2:=XK.out.ob.cell 2 _ rfl;replace q3:=XK.out.ob.cell 3 _ rfl;replace q4:=XK.out.ob.cell 4 _ rfl;replace q5:=XK.out.ob.cell 5 _ rfl;replace q6:=XK.out.ob.cell 6 _ rfl;replace q7:=XK.out.ob.cell 7 _ rfl)) | (go_at_call 104;refine (C4.out _ XK.out.ok).mono ?_;rintro e Wc ⟨rfl,hb⟩;replace XK:=Lib.hid (XK.out.below hb);clear hb;(replace q0:=XK.out.ob.cell 0 _ rfl;replace q1:=XK.out.ob.cell 1 _ rfl;replace q2:=XK.out.ob.cell 2 _ rfl;replace q3:=XK.out.ob.cell 3 _ rfl;replace q4:=XK.out.ob.cell 4 _ rfl;replace q5:=XK.out.ob.cell 5 _ rfl;replace q6:=XK.out.ob.cell 6 _ rfl;replace q7:=XK.out.ob.cell 7 _ rfl)) | (go_at_call 105;refine (GUE.out _ XK.out.ok).mono ?_;rintro e Wc ⟨rfl,hb⟩;replace XK:=Lib.hid (XK.out.below hb);clear hb;(replace q0:=XK.out.ob.cell 0 _ rfl;replace q1:=XK.out.ob.cell 1 _ rfl;replace q2:=XK.out.ob.cell 2 _ rfl;replace q3:=XK.out.ob.cell 3 _ rfl;replace q4:=XK.out.ob.cell 4 _ rfl;replace q5:=XK.out.ob.cell 5 _ rfl;replace q6:=XK.out.ob.cell 6 _ rfl;replace q7:=XK.out.ob.cell 7 _ rfl)) | (go_at_call 106;refine (NEE.out _ XK.out.ok).mono ?_;rintro e Wc ⟨rfl,hb⟩;replace XK:=Lib.hid (XK.out.below hb);clear hb;(replace q0:=XK.out.ob.cell 0 _ rfl;replace q1:=XK.out.ob.cell 1 _ rfl;replace q2:=XK.out.ob.cell 2 _ rfl;replace q3:=XK.out.ob.cell 3 _ rfl;replace q4:=XK.out.ob.cell 4 _ rfl;replace q5:=XK.out.ob.cell 5 _ rfl;replace q6:=XK.out.ob.cell 6 _ rfl;replace q7:=XK.out.ob.cell 7 _ rfl)))
           go_ret2
           exact ⟨rfl,XK.out.bel⟩
          ·have eg : (c.gate != -1) = true:=by simp [hg]
           clear hq1 hq2 hg HBAD HGOOD GAT
           cases v5 with
           | true=>
            go_wp2_with (first | (go_at_call 100;refine (C0.out _ XK.out.ok).mono ?_;rintro e Wc ⟨rfl,hb⟩;replace XK:=Lib.hid (XK.out.below hb);clear hb;(replace q0:=XK.out.ob.cell 0 _ rfl;replace q1:=XK.out.ob.cell 1 _ rfl;replace q2:=XK.out.ob.cell 2 _ rfl;replace q3:=XK.out.ob.cell 3 _ rfl;replace q4:=XK.out.ob.cell 4 _ rfl;replace q5:=XK.out.ob.cell 5 _ rfl;replace q6:=XK.out.ob.cell 6 _ rfl;replace q7:=XK.out.ob.cell 7 _ rfl)) | (go_at_call 101;refine (C1.out _ XK.out.ok).mono ?_;rintro e Wc ⟨rfl,hb⟩;replace XK:=Lib.hid (XK.out.below hb);clear hb;(replace q0:=XK.out.ob.cell 0 _ rfl;replace q1:=XK.out.ob.cell 1 _ rfl;replace q2:=XK.out.ob.cell 2 _ rfl;replace q3:=XK.out.ob.cell 3 _ rfl;replace q4:=XK.out.ob.cell 4 _ rfl;replace q5:=XK.out.ob.cell 5 _ rfl;replace q6:=XK.out.ob.cell 6 _ rfl;replace q7:=XK.out.ob.cell 7 _ rfl)) | (go_at_call 102;refine (C2.out _ XK.out.ok).mono ?_;rintro e Wc ⟨rfl,hb⟩;replace XK:=Lib.hid (XK.out.below hb);clear hb;(replace q0:=XK.out.ob.cell 0 _ rfl;replace q1:=XK.out.ob.cell 1 _ rfl;replace q2:=XK.out.ob.cell 2 _ rfl;replace q3:=XK.out.ob.cell 3 _ rfl;replace q4:=XK.out.ob.cell 4 _ rfl;replace q5:=XK.out.ob.cell 5 _ rfl;replace q6:=XK.out.ob.cell 6 _ rfl;replace q7:=XK.out.ob.cell 7 _ rfl)) | (go_at_call 103;refine (C3.out _ XK.out.ok).mono ?_;rintro e Wc ⟨rfl,hb⟩;replace XK:=Lib.hid (XK.out.below hb);clear hb;(replace q0:=XK.out.ob.cell 0 _ rfl;replace q1:=XK.out.ob.cell 1 _ rfl;replace q2:=XK.out.ob.cell 2 _ rfl;replace q3:=XK.out.ob.cell 3 _ rfl;replace q4:=XK.out.ob.cell 4 _ rfl;replace q5:=XK.out.ob.cell 5 _ rfl;replace q6:=XK.out.ob.cell 6 _ rfl;replace q7:=XK.out.ob.cell 7 _ rfl)) | (go_at_call 104;refine (C4.out _ XK.out.ok).mono ?_;rintro e Wc ⟨rfl,hb⟩;replace XK:=Lib.hid (XK.out.below hb);clear hb;(replace q0:=XK.out.ob.cell 0 _ rfl;replace q1:=XK.out.ob.cell 1 _ rfl;replace q2:=XK.out.ob.cell 2 _ rfl;replace q3:=XK.out.ob.cell 3 _ rfl;replace q4:=XK.out.ob.cell 4 _ rfl;replace q5:=XK.out.ob.cell 5 _ rfl;replace q6:=XK.out.ob.cell 6 _ rfl;replace q7:=XK.out.ob.cell 7 _ rfl)) | (go_at_call 105;refine (GUE.out _ XK.out.ok).mono ?_;rintro e Wc ⟨rfl,hb⟩;replace XK:=Lib.hid (XK.out.below hb);clear hb;(replace q0:=XK.out.ob.cell 0 _ rfl;replace q1:=XK.out.ob.cell 1 _ rfl;replace q2:=XK.out.ob.cell 2 _ rfl;replace q3:=XK.out.ob.cell 3 _ rfl;replace q4:=XK.out.ob.cell 4 _ rfl;replace q5:=XK.out.ob.cell 5 _ rfl;replace q6:=XK.out.ob.cell 6 _ rfl;replace q7:=XK.out.ob.cell 7 _ rfl)) | (go_at_call 106;refine (NEE.out _ XK.out.ok).mono ?_;rintro e Wc ⟨rfl,hb⟩;replace XK:=Lib.hid (XK.out.below hb);clear hb;(replace q0:=XK.out.ob.cell 0 _ rfl;replace q1:=XK.out.ob.cell 1 _ rfl;replace q2:=XK.out.ob.cell 2 _ rfl;replace q3:=XK.out.ob.cell 3 _ rfl;replace q4:=XK.out.ob.cell 4 _ rfl;replace q5:=XK.out.ob.cell 5 _ rfl;replace q6:=XK.out.ob.cell 6 _ rfl;replace q7:=XK.out.ob.cell 7 _ rfl)))
            go_ret2
            exact ⟨rfl,XK.out.bel⟩
           | false=>
            go_wp2_with (first | (go_at_call 100;refine (C0.out _ XK.out.ok).mono ?_;rintro e Wc ⟨rfl,hb⟩;replace XK:=Lib.hid (XK.out.below hb);clear hb;(replace q0:=XK.out.ob.cell 0 _ rfl;replace q1:=XK.out.ob.cell 1 _ rfl;replace q2:=XK.out.ob.cell 2 _ rfl;replace q3:=XK.out.ob.cell 3 _ rfl;replace q4:=XK.out.ob.cell 4 _ rfl;replace q5:=XK.out.ob.cell 5 _ rfl;replace q6:=XK.out.ob.cell 6 _ rfl;replace q7:=XK.out.ob.cell 7 _ rfl)) | (go_at_call 101;refine (C1.out _ XK.out.ok).mono ?_;rintro e Wc ⟨rfl,hb⟩;replace XK:=Lib.hid (XK.out.below hb);clear hb;(replace q0:=XK.out.ob.cell 0 _ rfl;replace q1:=XK.out.ob.cell 1 _ rfl;replace q2:=XK.out.ob.cell 2 _ rfl;replace q3:=XK.out.ob.cell 3 _ rfl;replace q4:=XK.out.ob.cell 4 _ rfl;replace q5:=XK.out.ob.cell 5 _ rfl;replace q6:=XK.out.ob.cell 6 _ rfl;replace q7:=XK.out.ob.cell 7 _ rfl)) | (go_at_call 102;refine (C2.out _ XK.out.ok).mono ?_;rintro e Wc ⟨rfl,hb⟩;replace XK:=Lib.hid (XK.out.below hb);clear hb;(replace q0:=XK.out.ob.cell 0 _ rfl;replace q1:=XK.out.ob.cell 1 _ rfl;replace q2:=XK.out.ob.cell 2 _ rfl;replace q3:=XK.out.ob.cell 3 _ rfl;replace q4:=XK.out.ob.cell 4 _ rfl;replace q5:=XK.out.ob.cell 5 _ rfl;replace q6:=XK.out.ob.cell 6 _ rfl;replace q7:=XK.out.ob.cell 7 _ rfl)) | (go_at_call 103;refine (C3.out _ XK.out.ok).mono ?_;rintro e Wc ⟨rfl,hb⟩;replace XK:=Lib.hid (XK.out.below hb);clear hb;(replace q0:=XK.out.ob.cell 0 _ rfl;replace q1:=XK.out.ob.cell 1 _ rfl;replace q2:=XK.out.ob.cell 2 _ rfl;replace q3:=XK.out.ob.cell 3 _ rfl;replace q4:=XK.out.ob.cell 4 _ rfl;replace q5:=XK.out.ob.cell 5 _ rfl;replace q6:=XK.out.ob.cell 6 _ rfl;replace q7:=XK.out.ob.cell 7 _ rfl)) | (go_at_call 104;refine (C4.out _ XK.out.ok).mono ?_;rintro e Wc ⟨rfl,hb⟩;replace XK:=Lib.hid (XK.out.below hb);clear hb;(replace q0:=XK.out.ob.cell 0 _ rfl;replace q1:=XK.out.ob.cell 1 _ rfl;replace q2:=XK.out.ob.cell 2 _ rfl;replace q3:=XK.out.ob.cell 3 _ rfl;replace q4:=XK.out.ob.cell 4 _ rfl;replace q5:=XK.out.ob.cell 5 _ rfl;replace q6:=XK.out.ob.cell 6 _ rfl;replace q7:=XK.out.ob.cell 7 _ rfl)) | (go_at_call 105;refine (GUE.out _ XK.out.ok).mono ?_;rintro e Wc ⟨rfl,hb⟩;replace XK:=Lib.hid (XK.out.below hb);clear hb;(replace q0:=XK.out.ob.cell 0 _ rfl;replace q1:=XK.out.ob.cell 1 _ rfl;replace q2:=XK.out.ob.cell 2 _ rfl;replace q3:=XK.out.ob.cell 3 _ rfl;replace q4:=XK.out.ob.cell 4 _ rfl;replace q5:=XK.out.ob.cell 5 _ rfl;replace q6:=XK.out.ob.cell 6 _ rfl;replace q7:=XK.out.ob.cell 7 _ rfl)) | (go_at_call 106;refine (NEE.out _ XK.out.ok).mono ?_;rintro e Wc ⟨rfl,hb⟩;replace XK:=Lib.hid (XK.out.below hb);clear hb;(replace q0:=XK.out.ob.cell 0 _ rfl;replace q1:=XK.out.ob.cell 1 _ rfl;replace q2:=XK.out.ob.cell 2 _ rfl;replace q3:=XK.out.ob.cell 3 _ rfl;replace q4:=XK.out.ob.cell 4 _ rfl;replace q5:=XK.out.ob.cell 5 _ rfl;replace q6:=XK.out.ob.cell 6 _ rfl;replace q7:=XK.out.ob.cell 7 _ rfl)))
            go_ret2
            exact ⟨rfl,XK.out.bel⟩
         ·have e2 : decide (c.quota > 64) = false:=by simpa using hq2
          by_cases hg : c.gate = -1
          ·have eg : (c.gate != -1) = false:=by simp [hg]
           have eg2 : (c.gate == -1) = true:=by simp [hg]
           by_cases hq3 : c.quota = 0
           ·have e3 : (c.quota != 0) = false:=by simp [hq3]
            have hx:=HGOOD.out (by rw [GAT.out,if_pos hg,e3])
            clear hq1 hq2 hq3 hg HBAD HGOOD GAT
            by_cases hn : 32 < needV c
            ·have dn : decide (needV c > 32) = true:=by simp [hn]
             obtain rfl : x = (19,0):=by rw [hx,if_pos hn]
             clear hx hn
             go_wp2_with (first | (go_at_call 100;refine (C0.out _ XK.out.ok).mono ?_;rintro e Wc ⟨rfl,hb⟩;replace XK:=Lib.hid (XK.out.below hb);clear hb;(replace q0:=XK.out.ob.cell 0 _ rfl;replace q1:=XK.out.ob.cell 1 _ rfl;replace q2:=XK.out.ob.cell 2 _ rfl;replace q3:=XK.out.ob.cell 3 _ rfl;replace q4:=XK.out.ob.cell 4 _ rfl;replace q5:=XK.out.ob.cell 5 _ rfl;replace q6:=XK.out.ob.cell 6 _ rfl;replace q7:=XK.out.ob.cell 7 _ rfl)) | (go_at_call 101;refine (C1.out _ XK.out.ok).mono ?_;rintro e Wc ⟨rfl,hb⟩;replace XK:=Lib.hid (XK.out.below hb);clear hb;(replace q0:=XK.out.ob.cell 0 _ rfl;replace q1:=XK.out.ob.cell 1 _ rfl;replace q2:=XK.out.ob.cell 2 _ rfl;replace q3:=XK.out.ob.cell 3 _ rfl;replace q4:=XK.out.ob.cell 4 _ rfl;replace q5:=XK.out.ob.cell 5 _ rfl;replace q6:=XK.out.ob.cell 6 _ rfl;replace q7:=XK.out.ob.cell 7 _ rfl)) | (go_at_call 102;refine (C2.out _ XK.out.ok).mono ?_;rintro e Wc ⟨rfl,hb⟩;replace XK:=Lib.hid (XK.out.below hb);clear hb;(replace q0:=XK.out.ob.cell 0 _ rfl;replace q1:=XK.out.ob.cell 1 _ rfl;replace q2:=XK.out.ob.cell 2 _ rfl;replace q3:=XK.out.ob.cell 3 _ rfl;replace q4:=XK.out.ob.cell 4 _ rfl;replace q5:=XK.out.ob.cell 5 _ rfl;replace q6:=XK.out.ob.cell 6 _ rfl;replace q7:=XK.out.ob.cell 7 _ rfl)) | (go_at_call 103;refine (C3.out _ XK.out.ok).mono ?_;rintro e Wc ⟨rfl,hb⟩;replace XK:=Lib.hid (XK.out.below hb);clear hb;(replace q0:=XK.out.ob.cell 0 _ rfl;replace q1:=XK.out.ob.cell 1 _ rfl;replace q2:=XK.out.ob.cell 2 _ rfl;replace q3:=XK.out.ob.cell 3 _ rfl;replace q4:=XK.out.ob.cell 4 _ rfl;replace q5:=XK.out.ob.cell 5 _ rfl;replace q6:=XK.out.ob.cell 6 _ rfl;replace q7:=XK.out.ob.cell 7 _ rfl)) | (go_at_call 104;refine (C4.out _ XK.out.ok).mono ?_;rintro e Wc ⟨rfl,hb⟩;replace XK:=Lib.hid (XK.out.below hb);clear hb;(replace q0:=XK.out.ob.cell 0 _ rfl;replace q1:=XK.out.ob.cell 1 _ rfl;replace q2:=XK.out.ob.cell 2 _ rfl;replace q3:=XK.out.ob.cell 3 _ rfl;replace q4:=XK.out.ob.cell 4 _ rfl;replace q5:=XK.out.ob.cell 5 _ rfl;replace q6:=XK.out.ob.cell 6 _ rfl;replace q7:=XK.out.ob.cell 7 _ rfl)) | (go_at_call 105;refine (GUE.out _ XK.out.ok).mono ?_;rintro e Wc ⟨rfl,hb⟩;replace XK:=Lib.hid (XK.out.below hb);clear hb;(replace q0:=XK.out.ob.cell 0 _ rfl;replace q1:=XK.out.ob.cell 1 _ rfl;replace q2:=XK.out.ob.cell 2 _ rfl;replace q3:=XK.out.ob.cell 3 _ rfl;replace q4:=XK.out.ob.cell 4 _ rfl;replace q5:=XK.out.ob.cell 5 _ rfl;replace q6:=XK.out.ob.cell 6 _ rfl;replace q7:=XK.out.ob.cell 7 _ rfl)) | (go_at_call 106;refine (NEE.out _ XK.out.ok).mono ?_;rintro e Wc ⟨rfl,hb⟩;replace XK:=Lib.hid (XK.out.below hb);clear hb;(replace q0:=XK.out.ob.cell 0 _ rfl;replace q1:=XK.out.ob.cell 1 _ rfl;replace q2:=XK.out.ob.cell 2 _ rfl;replace q3:=XK.out.ob.cell 3 _ rfl;replace q4:=XK.out.ob.cell 4 _ rfl;replace q5:=XK.out.ob.cell 5 _ rfl;replace q6:=XK.out.ob.cell 6 _ rfl;replace q7:=XK.out.ob.cell 7 _ rfl)))
             go_ret2
             exact ⟨rfl,XK.out.bel⟩
            ·have dn : decide (needV c > 32) = false:=by simpa using hn
             obtain rfl : x = (0,0):=by rw [hx,if_neg hn]
             clear hx hn
             go_wp2_with (first | (go_at_call 100;refine (C0.out _ XK.out.ok).mono ?_;rintro e Wc ⟨rfl,hb⟩;replace XK:=Lib.hid (XK.out.below hb);clear hb;(replace q0:=XK.out.ob.cell 0 _ rfl;replace q1:=XK.out.ob.cell 1 _ rfl;replace q2:=XK.out.ob.cell 2 _ rfl;replace q3:=XK.out.ob.cell 3 _ rfl;replace q4:=XK.out.ob.cell 4 _ rfl;replace q5:=XK.out.ob.cell 5 _ rfl;replace q6:=XK.out.ob.cell 6 _ rfl;replace q7:=XK.out.ob.cell 7 _ rfl)) | (go_at_call 101;refine (C1.out _ XK.out.ok).mono ?_;rintro e Wc ⟨rfl,hb⟩;replace XK:=Lib.hid (XK.out.below hb);clear hb;(replace q0:=XK.out.ob.cell 0 _ rfl;replace q1:=XK.out.ob.cell 1 _ rfl;replace q2:=XK.out.ob.cell 2 _ rfl;replace q3:=XK.out.ob.cell 3 _ rfl;replace q4:=XK.out.ob.cell 4 _ rfl;replace q5:=XK.out.ob.cell 5 _ rfl;replace q6:=XK.out.ob.cell 6 _ rfl;replace q7:=XK.out.ob.cell 7 _ rfl)) | (go_at_call 102;refine (C2.out _ XK.out.ok).mono ?_;rintro e Wc ⟨rfl,hb⟩;replace XK:=Lib.hid (XK.out.below hb);clear hb;(replace q0:=XK.out.ob.cell 0 _ rfl;replace q1:=XK.out.ob.cell 1 _ rfl;replace q2:=XK.out.ob.cell 2 _ rfl;replace q3:=XK.out.ob.cell 3 _ rfl;replace q4:=XK.out.ob.cell 4 _ rfl;replace q5:=XK.out.ob.cell 5 _ rfl;replace q6:=XK.out.ob.cell 6 _ rfl;replace q7:=XK.out.ob.cell 7 _ rfl)) | (go_at_call 103;refine (C3.out _ XK.out.ok).mono ?_;rintro e Wc ⟨rfl,hb⟩;replace XK:=Lib.hid (XK.out.below hb);clear hb;(replace q0:=XK.out.ob.cell 0 _ rfl;replace q1:=XK.out.ob.cell 1 _ rfl;replace q2:=XK.out.ob.cell 2 _ rfl;replace q3:=XK.out.ob.cell 3 _ rfl;replace q4:=XK.out.ob.cell 4 _ rfl;replace q5:=XK.out.ob.cell 5 _ rfl;replace q6:=XK.out.ob.cell 6 _ rfl;replace q7:=XK.out.ob.cell 7 _ rfl)) | (go_at_call 104;refine (C4.out _ XK.out.ok).mono ?_;rintro e Wc ⟨rfl,hb⟩;replace XK:=Lib.hid (XK.out.below hb);clear hb;(replace q0:=XK.out.ob.cell 0 _ rfl;replace q1:=XK.out.ob.cell 1 _ rfl;replace q2:=XK.out.ob.cell 2 _ rfl;replace q3:=XK.out.ob.cell 3 _ rfl;replace q4:=XK.out.ob.cell 4 _ rfl;replace q5:=XK.out.ob.cell 5 _ rfl;replace q6:=XK.out.ob.cell 6 _ rfl;replace q7:=XK.out.ob.cell 7 _ rfl)) | (go_at_call 105;refine (GUE.out _ XK.out.ok).mono ?_;rintro e Wc ⟨rfl,hb⟩;replace XK:=Lib.hid (XK.out.below hb);clear hb;(replace q0:=XK.out.ob.cell 0 _ rfl;replace q1:=XK.out.ob.cell 1 _ rfl;replace q2:=XK.out.ob.cell 2 _ rfl;replace q3:=XK.out.ob.cell 3 _ rfl;replace q4:=XK.out.ob.cell 4 _ rfl;replace q5:=XK.out.ob.cell 5 _ rfl;replace q6:=XK.out.ob.cell 6 _ rfl;replace q7:=XK.out.ob.cell 7 _ rfl)) | (go_at_call 106;refine (NEE.out _ XK.out.ok).mono ?_;rintro e Wc ⟨rfl,hb⟩;replace XK:=Lib.hid (XK.out.below hb);clear hb;(replace q0:=XK.out.ob.cell 0 _ rfl;replace q1:=XK.out.ob.cell 1 _ rfl;replace q2:=XK.out.ob.cell 2 _ rfl;replace q3:=XK.out.ob.cell 3 _ rfl;replace q4:=XK.out.ob.cell 4 _ rfl;replace q5:=XK.out.ob.cell 5 _ rfl;replace q6:=XK.out.ob.cell 6 _ rfl;replace q7:=XK.out.ob.cell 7 _ rfl)))
             go_ret2
             exact ⟨rfl,XK.out.bel⟩
           ·have e3 : (c.quota != 0) = true:=by simp [hq3]
            obtain rfl : x = (18,0):=HBAD.out (by rw [GAT.out,if_pos hg,e3])
            clear hq1 hq2 hq3 hg HBAD HGOOD GAT
            go_wp2_with (first | (go_at_call 100;refine (C0.out _ XK.out.ok).mono ?_;rintro e Wc ⟨rfl,hb⟩;replace XK:=Lib.hid (XK.out.below hb);clear hb;(replace q0:=XK.out.ob.cell 0 _ rfl;replace q1:=XK.out.ob.cell 1 _ rfl;replace q2:=XK.out.ob.cell 2 _ rfl;replace q3:=XK.out.ob.cell 3 _ rfl;replace q4:=XK.out.ob.cell 4 _ rfl;replace q5:=XK.out.ob.cell 5 _ rfl;replace q6:=XK.out.ob.cell 6 _ rfl;replace q7:=XK.out.ob.cell 7 _ rfl)) | (go_at_call 101;refine (C1.out _ XK.out.ok).mono ?_;rintro e Wc ⟨rfl,hb⟩;replace XK:=Lib.hid (XK.out.below hb);clear hb;(replace q0:=XK.out.ob.cell 0 _ rfl;replace q1:=XK.out.ob.cell 1 _ rfl;replace q2:=XK.out.ob.cell 2 _ rfl;replace q3:=XK.out.ob.cell 3 _ rfl;replace q4:=XK.out.ob.cell 4 _ rfl;replace q5:=XK.out.ob.cell 5 _ rfl;replace q6:=XK.out.ob.cell 6 _ rfl;replace q7:=XK.out.ob.cell 7 _ rfl)) | (go_at_call 102;refine (C2.out _ XK.out.ok).mono ?_;rintro e Wc ⟨rfl,hb⟩;replace XK:=Lib.hid (XK.out.below hb);clear hb;(replace q0:=XK.out.ob.cell 0 _ rfl;replace q1:=XK.out.ob.cell 1 _ rfl;replace q2:=XK.out.ob.cell 2 _ rfl;replace q3:=XK.out.ob.cell 3 _ rfl;replace q4:=XK.out.ob.cell 4 _ rfl;replace q5:=XK.out.ob.cell 5 _ rfl;replace q6:=XK.out.ob.cell 6 _ rfl;replace q7:=XK.out.ob.cell 7 _ rfl)) | (go_at_call 103;refine (C3.out _ XK.out.ok).mono ?_;rintro e Wc ⟨rfl,hb⟩;replace XK:=Lib.hid (XK.out.below hb);clear hb;(replace q0:=XK.out.ob.cell 0 _ rfl;replace q1:=XK.out.ob.cell 1 _ rfl;replace q2:=XK.out.ob.cell 2 _ rfl;replace q3:=XK.out.ob.cell 3 _ rfl;replace q4:=XK.out.ob.cell 4 _ rfl;replace q5:=XK.out.ob.cell 5 _ rfl;replace q6:=XK.out.ob.cell 6 _ rfl;replace q7:=XK.out.ob.cell 7 _ rfl)) | (go_at_call 104;refine (C4.out _ XK.out.ok).mono ?_;rintro e Wc ⟨rfl,hb⟩;replace XK:=Lib.hid (XK.out.below hb);clear hb;(replace q0:=XK.out.ob.cell 0 _ rfl;replace q1:=XK.out.ob.cell 1 _ rfl;replace q2:=XK.out.ob.cell 2 _ rfl;replace q3:=XK.out.ob.cell 3 _ rfl;replace q4:=XK.out.ob.cell 4 _ rfl;replace q5:=XK.out.ob.cell 5 _ rfl;replace q6:=XK.out.ob.cell 6 _ rfl;replace q7:=XK.out.ob.cell 7 _ rfl)) | (go_at_call 105;refine (GUE.out _ XK.out.ok).mono ?_;rintro e Wc ⟨rfl,hb⟩;replace XK:=Lib.hid (XK.out.below hb);clear hb;(replace q0:=XK.out.ob.cell 0 _ rfl;replace q1:=XK.out.ob.cell 1 _ rfl;replace q2:=XK.out.ob.cell 2 _ rfl;replace q3:=XK.out.ob.cell 3 _ rfl;replace q4:=XK.out.ob.cell 4 _ rfl;replace q5:=XK.out.ob.cell 5 _ rfl;replace q6:=XK.out.ob.cell 6 _ rfl;replace q7:=XK.out.ob.cell 7 _ rfl)) | (go_at_call 106;refine (NEE.out _ XK.out.ok).mono ?_;rintro e Wc ⟨rfl,hb⟩;replace XK:=Lib.hid (XK.out.below hb);clear hb;(replace q0:=XK.out.ob.cell 0 _ rfl;replace q1:=XK.out.ob.cell 1 _ rfl;replace q2:=XK.out.ob.cell 2 _ rfl;replace q3:=XK.out.ob.cell 3 _ rfl;replace q4:=XK.out.ob.cell 4 _ rfl;replace q5:=XK.out.ob.cell 5 _ rfl;replace q6:=XK.out.ob.cell 6 _ rfl;replace q7:=XK.out.ob.cell 7 _ rfl)))
            go_ret2
            exact ⟨rfl,XK.out.bel⟩
          ·have eg : (c.gate != -1) = true:=by simp [hg]
           have eg2 : (c.gate == -1) = false:=by simp [hg]
           cases v5 with
           | false=>
            obtain rfl : x = (18,0):=HBAD.out (by rw [GAT.out,if_neg hg];rfl)
            clear hq1 hq2 hg HBAD HGOOD GAT
            go_wp2_with (first | (go_at_call 100;refine (C0.out _ XK.out.ok).mono ?_;rintro e Wc ⟨rfl,hb⟩;replace XK:=Lib.hid (XK.out.below hb);clear hb;(replace q0:=XK.out.ob.cell 0 _ rfl;replace q1:=XK.out.ob.cell 1 _ rfl;replace q2:=XK.out.ob.cell 2 _ rfl;replace q3:=XK.out.ob.cell 3 _ rfl;replace q4:=XK.out.ob.cell 4 _ rfl;replace q5:=XK.out.ob.cell 5 _ rfl;replace q6:=XK.out.ob.cell 6 _ rfl;replace q7:=XK.out.ob.cell 7 _ rfl)) | (go_at_call 101;refine (C1.out _ XK.out.ok).mono ?_;rintro e Wc ⟨rfl,hb⟩;replace XK:=Lib.hid (XK.out.below hb);clear hb;(replace q0:=XK.out.ob.cell 0 _ rfl;replace q1:=XK.out.ob.cell 1 _ rfl;replace q2:=XK.out.ob.cell 2 _ rfl;replace q3:=XK.out.ob.cell 3 _ rfl;replace q4:=XK.out.ob.cell 4 _ rfl;replace q5:=XK.out.ob.cell 5 _ rfl;replace q6:=XK.out.ob.cell 6 _ rfl;replace q7:=XK.out.ob.cell 7 _ rfl)) | (go_at_call 102;refine (C2.out _ XK.out.ok).mono ?_;rintro e Wc ⟨rfl,hb⟩;replace XK:=Lib.hid (XK.out.below hb);clear hb;(replace q0:=XK.out.ob.cell 0 _ rfl;replace q1:=XK.out.ob.cell 1 _ rfl;replace q2:=XK.out.ob.cell 2 _ rfl;replace q3:=XK.out.ob.cell 3 _ rfl;replace q4:=XK.out.ob.cell 4 _ rfl;replace q5:=XK.out.ob.cell 5 _ rfl;replace q6:=XK.out.ob.cell 6 _ rfl;replace q7:=XK.out.ob.cell 7 _ rfl)) | (go_at_call 103;refine (C3.out _ XK.out.ok).mono ?_;rintro e Wc ⟨rfl,hb⟩;replace XK:=Lib.hid (XK.out.below hb);clear hb;(replace q0:=XK.out.ob.cell 0 _ rfl;replace q1:=XK.out.ob.cell 1 _ rfl;replace q2:=XK.out.ob.cell 2 _ rfl;replace q3:=XK.out.ob.cell 3 _ rfl;replace q4:=XK.out.ob.cell 4 _ rfl;replace q5:=XK.out.ob.cell 5 _ rfl;replace q6:=XK.out.ob.cell 6 _ rfl;replace q7:=XK.out.ob.cell 7 _ rfl)) | (go_at_call 104;refine (C4.out _ XK.out.ok).mono ?_;rintro e Wc ⟨rfl,hb⟩;replace XK:=Lib.hid (XK.out.below hb);clear hb;(replace q0:=XK.out.ob.cell 0 _ rfl;replace q1:=XK.out.ob.cell 1 _ rfl;replace q2:=XK.out.ob.cell 2 _ rfl;replace q3:=XK.out.ob.cell 3 _ rfl;replace q4:=XK.out.ob.cell 4 _ rfl;replace q5:=XK.out.ob.cell 5 _ rfl;replace q6:=XK.out.ob.cell 6 _ rfl;replace q7:=XK.out.ob.cell 7 _ rfl)) | (go_at_call 105;refine (GUE.out _ XK.out.ok).mono ?_;rintro e Wc ⟨rfl,hb⟩;replace XK:=Lib.hid (XK.out.below hb);clear hb;(replace q0:=XK.out.ob.cell 0 _ rfl;replace q1:=XK.out.ob.cell 1 _ rfl;replace q2:=XK.out.ob.cell 2 _ rfl;replace q3:=XK.out.ob.cell 3 _ rfl;replace q4:=XK.out.ob.cell 4 _ rfl;replace q5:=XK.out.ob.cell 5 _ rfl;replace q6:=XK.out.ob.cell 6 _ rfl;replace q7:=XK.out.ob.cell 7 _ rfl)) | (go_at_call 106;refine (NEE.out _ XK.out.ok).mono ?_;rintro e Wc ⟨rfl,hb⟩;replace XK:=Lib.hid (XK.out.below hb);clear hb;(replace q0:=XK.out.ob.cell 0 _ rfl;replace q1:=XK.out.ob.cell 1 _ rfl;replace q2:=XK.out.ob.cell 2 _ rfl;replace q3:=XK.out.ob.cell 3 _ rfl;replace q4:=XK.out.ob.cell 4 _ rfl;replace q5:=XK.out.ob.cell 5 _ rfl;replace q6:=XK.out.ob.cell 6 _ rfl;replace q7:=XK.out.ob.cell 7 _ rfl)))
            go_ret2
            exact ⟨rfl,XK.out.bel⟩
           | true=>
            have hx:=HGOOD.out (by rw [GAT.out,if_neg hg];simp;omega)
            clear hq1 hq2 hg HBAD HGOOD GAT
            by_cases hn : 32 < needV c
            ·have dn : decide (needV c > 32) = true:=by simp [hn]
             obtain rfl : x = (19,0):=by rw [hx,if_pos hn]
             clear hx hn
             go_wp2_with (first | (go_at_call 100;refine (C0.out _ XK.out.ok).mono ?_;rintro e Wc ⟨rfl,hb⟩;replace XK:=Lib.hid (XK.out.below hb);clear hb;(replace q0:=XK.out.ob.cell 0 _ rfl;replace q1:=XK.out.ob.cell 1 _ rfl;replace q2:=XK.out.ob.cell 2 _ rfl;replace q3:=XK.out.ob.cell 3 _ rfl;replace q4:=XK.out.ob.cell 4 _ rfl;replace q5:=XK.out.ob.cell 5 _ rfl;replace q6:=XK.out.ob.cell 6 _ rfl;replace q7:=XK.out.ob.cell 7 _ rfl)) | (go_at_call 101;refine (C1.out _ XK.out.ok).mono ?_;rintro e Wc ⟨rfl,hb⟩;replace XK:=Lib.hid (XK.out.below hb);clear hb;(replace q0:=XK.out.ob.cell 0 _ rfl;replace q1:=XK.out.ob.cell 1 _ rfl;replace q2:=XK.out.ob.cell 2 _ rfl;replace q3:=XK.out.ob.cell 3 _ rfl;replace q4:=XK.out.ob.cell 4 _ rfl;replace q5:=XK.out.ob.cell 5 _ rfl;replace q6:=XK.out.ob.cell 6 _ rfl;replace q7:=XK.out.ob.cell 7 _ rfl)) | (go_at_call 102;refine (C2.out _ XK.out.ok).mono ?_;rintro e Wc ⟨rfl,hb⟩;replace XK:=Lib.hid (XK.out.below hb);clear hb;(replace q0:=XK.out.ob.cell 0 _ rfl;replace q1:=XK.out.ob.cell 1 _ rfl;replace q2:=XK.out.ob.cell 2 _ rfl;replace q3:=XK.out.ob.cell 3 _ rfl;replace q4:=XK.out.ob.cell 4 _ rfl;replace q5:=XK.out.ob.cell 5 _ rfl;replace q6:=XK.out.ob.cell 6 _ rfl;replace q7:=XK.out.ob.cell 7 _ rfl)) | (go_at_call 103;refine (C3.out _ XK.out.ok).mono ?_;rintro e Wc ⟨rfl,hb⟩;replace XK:=Lib.hid (XK.out.below hb);clear hb;(replace q0:=XK.out.ob.cell 0 _ rfl;replace q1:=XK.out.ob.cell 1 _ rfl;replace q2:=XK.out.ob.cell 2 _ rfl;replace q3:=XK.out.ob.cell 3 _ rfl;replace q4:=XK.out.ob.cell 4 _ rfl;replace q5:=XK.out.ob.cell 5 _ rfl;replace q6:=XK.out.ob.cell 6 _ rfl;replace q7:=XK.out.ob.cell 7 _ rfl)) | (go_at_call 104;refine (C4.out _ XK.out.ok).mono ?_;rintro e Wc ⟨rfl,hb⟩;replace XK:=Lib.hid (XK.out.below hb);clear hb;(replace q0:=XK.out.ob.cell 0 _ rfl;replace q1:=XK.out.ob.cell 1 _ rfl;replace q2:=XK.out.ob.cell 2 _ rfl;replace q3:=XK.out.ob.cell 3 _ rfl;replace q4:=XK.out.ob.cell 4 _ rfl;replace q5:=XK.out.ob.cell 5 _ rfl;replace q6:=XK.out.ob.cell 6 _ rfl;replace q7:=XK.out.ob.cell 7 _ rfl)) | (go_at_call 105;refine (GUE.out _ XK.out.ok).mono ?_;rintro e Wc ⟨rfl,hb⟩;replace XK:=Lib.hid (XK.out.below hb);clear hb;(replace q0:=XK.out.ob.cell 0 _ rfl;replace q1:=XK.out.ob.cell 1 _ rfl;replace q2:=XK.out.ob.cell 2 _ rfl;replace q3:=XK.out.ob.cell 3 _ rfl;replace q4:=XK.out.ob.cell 4 _ rfl;replace q5:=XK.out.ob.cell 5 _ rfl;replace q6:=XK.out.ob.cell 6 _ rfl;replace q7:=XK.out.ob.cell 7 _ rfl)) | (go_at_call 106;refine (NEE.out _ XK.out.ok).mono ?_;rintro e Wc ⟨rfl,hb⟩;replace XK:=Lib.hid (XK.out.below hb);clear hb;(replace q0:=XK.out.ob.cell 0 _ rfl;replace q1:=XK.out.ob.cell 1 _ rfl;replace q2:=XK.out.ob.cell 2 _ rfl;replace q3:=XK.out.ob.cell 3 _ rfl;replace q4:=XK.out.ob.cell 4 _ rfl;replace q5:=XK.out.ob.cell 5 _ rfl;replace q6:=XK.out.ob.cell 6 _ rfl;replace q7:=XK.out.ob.cell 7 _ rfl)))
             go_ret2
             exact ⟨rfl,XK.out.bel⟩
            ·have dn : decide (needV c > 32) = false:=by simpa using hn
             obtain rfl : x = (0,0):=by rw [hx,if_neg hn]
             clear hx hn
             go_wp2_with (first | (go_at_call 100;refine (C0.out _ XK.out.ok).mono ?_;rintro e Wc ⟨rfl,hb⟩;replace XK:=Lib.hid (XK.out.below hb);clear hb;(replace q0:=XK.out.ob.cell 0 _ rfl;replace q1:=XK.out.ob.cell 1 _ rfl;replace q2:=XK.out.ob.cell 2 _ rfl;replace q3:=XK.out.ob.cell 3 _ rfl;replace q4:=XK.out.ob.cell 4 _ rfl;replace q5:=XK.out.ob.cell 5 _ rfl;replace q6:=XK.out.ob.cell 6 _ rfl;replace q7:=XK.out.ob.cell 7 _ rfl)) | (go_at_call 101;refine (C1.out _ XK.out.ok).mono ?_;rintro e Wc ⟨rfl,hb⟩;replace XK:=Lib.hid (XK.out.below hb);clear hb;(replace q0:=XK.out.ob.cell 0 _ rfl;replace q1:=XK.out.ob.cell 1 _ rfl;replace q2:=XK.out.ob.cell 2 _ rfl;replace q3:=XK.out.ob.cell 3 _ rfl;replace q4:=XK.out.ob.cell 4 _ rfl;replace q5:=XK.out.ob.cell 5 _ rfl;replace q6:=XK.out.ob.cell 6 _ rfl;replace q7:=XK.out.ob.cell 7 _ rfl)) | (go_at_call 102;refine (C2.out _ XK.out.ok).mono ?_;rintro e Wc ⟨rfl,hb⟩;replace XK:=Lib.hid (XK.out.below hb);clear hb;(replace q0:=XK.out.ob.cell 0 _ rfl;replace q1:=XK.out.ob.cell 1 _ rfl;replace q2:=XK.out.ob.cell 2 _ rfl;replace q3:=XK.out.ob.cell 3 _ rfl;replace q4:=XK.out.ob.cell 4 _ rfl;replace q5:=XK.out.ob.cell 5 _ rfl;replace q6:=XK.out.ob.cell 6 _ rfl;replace q7:=XK.out.ob.cell 7 _ rfl)) | (go_at_call 103;refine (C3.out _ XK.out.ok).mono ?_;rintro e Wc ⟨rfl,hb⟩;replace XK:=Lib.hid (XK.out.below hb);clear hb;(replace q0:=XK.out.ob.cell 0 _ rfl;replace q1:=XK.out.ob.cell 1 _ rfl;replace q2:=XK.out.ob.cell 2 _ rfl;replace q3:=XK.out.ob.cell 3 _ rfl;replace q4:=XK.out.ob.cell 4 _ rfl;replace q5:=XK.out.ob.cell 5 _ rfl;replace q6:=XK.out.ob.cell 6 _ rfl;replace q7:=XK.out.ob.cell 7 _ rfl)) | (go_at_call 104;refine (C4.out _ XK.out.ok).mono ?_;rintro e Wc ⟨rfl,hb⟩;replace XK:=Lib.hid (XK.out.below hb);clear hb;(replace q0:=XK.out.ob.cell 0 _ rfl;replace q1:=XK.out.ob.cell 1 _ rfl;replace q2:=XK.out.ob.cell 2 _ rfl;replace q3:=XK.out.ob.cell 3 _ rfl;replace q4:=XK.out.ob.cell 4 _ rfl;replace q5:=XK.out.ob.cell 5 _ rfl;replace q6:=XK.out.ob.cell 6 _ rfl;replace q7:=XK.out.ob.cell 7 _ rfl)) | (go_at_call 105;refine (GUE.out _ XK.out.ok).mono ?_;rintro e Wc ⟨rfl,hb⟩;replace XK:=Lib.hid (XK.out.below hb);clear hb;(replace q0:=XK.out.ob.cell 0 _ rfl;replace q1:=XK.out.ob.cell 1 _ rfl;replace q2:=XK.out.ob.cell 2 _ rfl;replace q3:=XK.out.ob.cell 3 _ rfl;replace q4:=XK.out.ob.cell 4 _ rfl;replace q5:=XK.out.ob.cell 5 _ rfl;replace q6:=XK.out.ob.cell 6 _ rfl;replace q7:=XK.out.ob.cell 7 _ rfl)) | (go_at_call 106;refine (NEE.out _ XK.out.ok).mono ?_;rintro e Wc ⟨rfl,hb⟩;replace XK:=Lib.hid (XK.out.below hb);clear hb;(replace q0:=XK.out.ob.cell 0 _ rfl;replace q1:=XK.out.ob.cell 1 _ rfl;replace q2:=XK.out.ob.cell 2 _ rfl;replace q3:=XK.out.ob.cell 3 _ rfl;replace q4:=XK.out.ob.cell 4 _ rfl;replace q5:=XK.out.ob.cell 5 _ rfl;replace q6:=XK.out.ob.cell 6 _ rfl;replace q7:=XK.out.ob.cell 7 _ rfl)))
             go_ret2
             exact ⟨rfl,XK.out.bel⟩
end Go.Proofs.YtoklonmiejdgmaaGreatDoor
/- The reference of plan: Print. -/
namespace Go.Proofs.YtoklonmiejdgmaaGreatDoor
set_option linter.unusedVariables false
set_option linter.unusedSimpArgs false
set_option linter.unnecessarySimpa false
open Go.RowKit Go.Sort
set_option maxHeartbeats 8000000
set_option maxRecDepth 100000
set_option linter.unusedVariables false
theorem sm4 {k : Nat} (hk : k < 7) {a b c : List UInt8} (h1 : a.length ≤ 20) (h2 : b.length ≤ 20) (h3 : c.length ≤ 20) : ∀ x ∈ [rkName k,a,b,c],x.length ≤ 1000:=by
 have hle : ∀ k : Fin 7,(rkName k.val).length ≤ 5:=by decide
 have:=hle ⟨k,hk⟩
 simp only at this
 intro x hx
 simp only [List.mem_cons,List.not_mem_nil,or_false] at hx
 rcases hx with rfl | rfl | rfl | rfl <;> omega
theorem sm3 {k : Nat} (hk : k < 7) {a b : List UInt8} (h1 : a.length ≤ 20) (h2 : b.length ≤ 20) : ∀ x ∈ [rkName k,a,b],x.length ≤ 1000:=by
 have hle : ∀ k : Fin 7,(rkName k.val).length ≤ 5:=by decide
 have:=hle ⟨k,hk⟩
 simp only at this
 intro x hx
 simp only [List.mem_cons,List.not_mem_nil,or_false] at hx
 rcases hx with rfl | rfl | rfl <;> omega
theorem sm2 {k : Nat} (hk : k < 7) {a : List UInt8} (h1 : a.length ≤ 20) : ∀ x ∈ [rkName k,a],x.length ≤ 1000:=by
 have hle : ∀ k : Fin 7,(rkName k.val).length ≤ 5:=by decide
 have:=hle ⟨k,hk⟩
 simp only at this
 intro x hx
 simp only [List.mem_cons,List.not_mem_nil,or_false] at hx
 rcases hx with rfl | rfl <;> omega
def RLn (W : World) (T : List UInt8) (e : Ending) (w' : World) : Prop:=e = .returned (.string (ba T)) ∧ W = w'
theorem rprint_no (c : Cv) (w : World) (h : CfgOk w c) (h0 : (chkV c).1 ≠ 0) : Calls Tryz.prog 42 #[(.agg #[.int .i64 c.cats,.slice c.g.a c.g.l.length c.g.cap,.slice c.r.a c.r.l.length c.r.cap,.slice c.p.a c.p.l.length c.p.cap,.slice c.n.a c.n.l.length c.n.cap,.slice c.s.a c.s.l.length c.s.cap,.int .i64 c.gate,.int .i64 c.quota])] w (PrPost c w):=by
 obtain ⟨e0,he0⟩ : ∃ v,Hid (v = (chkV c).1):=⟨_,Lib.hid rfl⟩
 obtain ⟨e1,he1⟩ : ∃ v,Hid (v = (chkV c).2):=⟨_,Lib.hid rfl⟩
 have CHK : Hid (∀ W,CfgOk W c → Calls Tryz.prog 59 #[(.agg #[.int .i64 c.cats,.slice c.g.a c.g.l.length c.g.cap,.slice c.r.a c.r.l.length c.r.cap,.slice c.p.a c.p.l.length c.p.cap,.slice c.n.a c.n.l.length c.n.cap,.slice c.s.a c.s.l.length c.s.cap,.int .i64 c.gate,.int .i64 c.quota])] W fun e w'=>e = .returned (.tuple #[.int .i64 e0,.int .i64 e1]) ∧ Below W.heap.size W w'):=fun W hc=>by rw [he0.out,he1.out];exact rcheck_any c W hc
 have hz : e0 ≠ 0:=by rw [he0.out];exact h0
 have HP : Hid (∀ w',Below w.heap.size w w' → PrPost c w (.returned (.tuple #[.string ⟨#[]⟩,.int .i64 e0])) w'):=fun w' hb=>⟨fun _=>by rw [he0.out],fun h=>absurd h h0,hb⟩
 have n1 : (e0 == 0) = false:=by rw [beq_eq_false_iff_ne];exact hz
 have n2 : (e0 != 0) = true:=by rw [bne_iff_ne];exact hz
 clear h0 hz
 (have h0:=CX.new h;go_enter Tryz.func42,Tryz.ntmps42;go_upto_region 1 with fail;generalize w.alloc (.cells #[.int .i64 c.cats,.slice c.g.a c.g.l.length c.g.cap,.slice c.r.a c.r.l.length c.r.cap,.slice c.p.a c.p.l.length c.p.cap,.slice c.n.a c.n.l.length c.n.cap,.slice c.s.a c.s.l.length c.s.cap,.int .i64 c.gate,.int .i64 c.quota] 29) = W1 at h0 ⊢;generalize w.heap.size = b0 at h0 ⊢;have H0:=Lib.hid h0;clear h0 h)
 (have q0:=H0.out.ob.cell 0 _ rfl;have q1:=H0.out.ob.cell 1 _ rfl;have q2:=H0.out.ob.cell 2 _ rfl;have q3:=H0.out.ob.cell 3 _ rfl;have q4:=H0.out.ob.cell 4 _ rfl;have q5:=H0.out.ob.cell 5 _ rfl;have q6:=H0.out.ob.cell 6 _ rfl;have q7:=H0.out.ob.cell 7 _ rfl)
 go_wp2_with (go_at_call 59;refine (CHK.out _ H0.out.ok).mono ?_;rintro e W2 ⟨rfl,hb⟩;have H2:=Lib.hid (H0.out.below hb);clear hb)
 go_ret2
 exact HP.out _ H2.out.bel
theorem rprint_yes (c : Cv) (w : World) (h : CfgOk w c) (h0 : (chkV c).1 = 0) : Calls Tryz.prog 42 #[(.agg #[.int .i64 c.cats,.slice c.g.a c.g.l.length c.g.cap,.slice c.r.a c.r.l.length c.r.cap,.slice c.p.a c.p.l.length c.p.cap,.slice c.n.a c.n.l.length c.n.cap,.slice c.s.a c.s.l.length c.s.cap,.int .i64 c.gate,.int .i64 c.quota])] w (PrPost c w):=by
 obtain ⟨e1,he1⟩ : ∃ v,Hid (v = (chkV c).2):=⟨_,Lib.hid rfl⟩
 have CHK : Hid (∀ W,CfgOk W c → Calls Tryz.prog 59 #[(.agg #[.int .i64 c.cats,.slice c.g.a c.g.l.length c.g.cap,.slice c.r.a c.r.l.length c.r.cap,.slice c.p.a c.p.l.length c.p.cap,.slice c.n.a c.n.l.length c.n.cap,.slice c.s.a c.s.l.length c.s.cap,.int .i64 c.gate,.int .i64 c.quota])] W fun e w'=>e = .returned (.tuple #[.int .i64 0,.int .i64 e1]) ∧ Below W.heap.size W w'):=fun W hc=>by rw [he1.out,← h0];exact rcheck_any c W hc
 have HF : Hid (FitP (pcOf c)):=fit_of h0
 have HF0:=Lib.hid h0
 have HP : Hid (∀ T w',T = prT (pcOf c) → Below w.heap.size w w' → PrPost c w (.returned (.tuple #[.string (ba T),.int .i64 0])) w'):=fun T w' e hb=>⟨fun h=>absurd h0 h,fun _=>by rw [e],hb⟩
 obtain ⟨gl1,gl2⟩ : c.g.l.length ≤ 4 ∧ c.r.l.length ≤ 8:=⟨HF.out.gl,HF.out.rl⟩
 obtain ⟨gl3,gl4,gl5⟩ : c.p.l.length ≤ 8 ∧ c.n.l.length ≤ 4 ∧ c.s.l.length ≤ 8:=⟨HF.out.pl,HF.out.nl,HF.out.sl⟩
 have e1 : c.g.l.length ≤ c.g.cap:=h.g.le
 have e2 : c.r.l.length ≤ c.r.cap:=h.r.le
 have e3 : c.p.l.length ≤ c.p.cap:=h.p.le
 have e4 : c.n.l.length ≤ c.n.cap:=h.n.le
 have e5 : c.s.l.length ≤ c.s.cap:=h.s.le
 obtain ⟨fc1,fc2⟩ : 0 ≤ c.cats ∧ c.cats ≤ 8:=HF.out.cats
 clear h0
 (have h0:=CX.new h;go_enter Tryz.func42,Tryz.ntmps42;go_upto_region 1 with fail;generalize w.alloc (.cells #[.int .i64 c.cats,.slice c.g.a c.g.l.length c.g.cap,.slice c.r.a c.r.l.length c.r.cap,.slice c.p.a c.p.l.length c.p.cap,.slice c.n.a c.n.l.length c.n.cap,.slice c.s.a c.s.l.length c.s.cap,.int .i64 c.gate,.int .i64 c.quota] 29) = W1 at h0 ⊢;generalize w.heap.size = b0 at h0 ⊢;have H0:=Lib.hid h0;clear h0 h)
 (have q0:=H0.out.ob.cell 0 _ rfl;have q1:=H0.out.ob.cell 1 _ rfl;have q2:=H0.out.ob.cell 2 _ rfl;have q3:=H0.out.ob.cell 3 _ rfl;have q4:=H0.out.ob.cell 4 _ rfl;have q5:=H0.out.ob.cell 5 _ rfl;have q6:=H0.out.ob.cell 6 _ rfl;have q7:=H0.out.ob.cell 7 _ rfl)
 go_wp2_with fail
 refine (CHK.out _ H0.out.ok).mono ?_;rintro e W2 ⟨rfl,hb⟩
 have H2:=Lib.hid (H0.out.below hb)
 clear hb q0 q1 q2 q3 q4 q5 q6 q7
 (have q0:=H2.out.ob.cell 0 _ rfl;have q1:=H2.out.ob.cell 1 _ rfl;have q2:=H2.out.ob.cell 2 _ rfl;have q3:=H2.out.ob.cell 3 _ rfl;have q4:=H2.out.ob.cell 4 _ rfl;have q5:=H2.out.ob.cell 5 _ rfl;have q6:=H2.out.ob.cell 6 _ rfl;have q7:=H2.out.ob.cell 7 _ rfl)
 obtain ⟨t1,ht1⟩ : ∃ t1,t1 = lineT (0,[c.cats]) ++ [10]:=⟨_,rfl⟩
 have HLN : ∀ W g,Hid (ObjAt W g 9 [.string ⟨#[99,97,116,115]⟩,.string (ba (dc c.cats))] → Calls Tryz.prog 73 #[.slice (some ⟨g,0,none⟩) 2 2] W (RLn W t1)):=fun W g=>Lib.hid fun ho=>by
  rw [ht1]
  exact rline_any [rkName 0,dc c.cats] (by simp) (by simp) (sm2 (by decide) (by have:=dc_len (n:=c.cats) (by omega);omega)) W g ho
 have hlt1 : t1.length ≤ 60:=by
  have h1:=lnW_len 0 (by decide) [] [c.cats] (by intro n hn;rw [List.mem_singleton.1 hn];omega)
  simp only [List.length_cons,List.length_nil] at h1
  rw [ht1,← lnW_0];omega
 have HVt1 : Hid (t1 = textT [(0,[c.cats])]):=by rw [Hid,ht1,textT_one]
 clear ht1
 go_wp2_with fail
 refine (rdig_any c.cats fc1 (by omega) _).mono ?_;rintro e W3 ⟨rfl,hb⟩
 have HB:=Lib.hid hb
 have HX:=Lib.hid (H2.out.below hb)
 clear hb q0 q1 q2 q3 q4 q5 q6 q7
 go_upto_region 6 with (go_at_call 73;refine ((HLN _ _).out (ObjAt.new _ _ _)).mono ?_;rintro e Wn ⟨rfl,rfl⟩)
 have HB : Hid (Below W2.heap.size W2 (W3.alloc (.cells #[.string ⟨#[99,97,116,115]⟩,.string (ba (dc c.cats))] 9))):=HB.out.alloc HB.out.size _
 generalize W3.alloc (.cells #[.string ⟨#[99,97,116,115]⟩,.string (ba (dc c.cats))] 9) = W4 at HB ⊢
 clear HLN
 go_loopw [6,7] (fun sv i wr=>∃ j : Nat,j ≤ c.g.l.length ∧ i = .int .i64 j ∧ sv = .string (ba (t1 ++ tg 1 c.g.l j)) ∧ Below W2.heap.size W2 wr ∧ (t1 ++ tg 1 c.g.l j).length ≤ (t1).length + 60 * j) (fun _ i _=>c.g.l.length - (intOf i).toNat)
 case atStart=>exact ⟨0,by omega,rfl,by rw [tg_0,List.append_nil],HB.out,by rw [tg_0,List.append_nil];omega⟩
 clear HB
 obtain ⟨j,hj,rfl,rfl,hb,htl⟩:=hrel
 have HB:=Lib.hid hb
 have HX:=Lib.hid (H2.out.below hb)
 have HTL:=Lib.hid htl
 clear hb htl
 have hszt : (ba (t1 ++ tg 1 c.g.l j)).size ≤ 1000000:=by rw [ba_size];have:=HTL.out;omega
 by_cases hlt : j < c.g.l.length
 case pos=>
  obtain ⟨bx,ox,hax,hcx⟩:=H2.out.ok.g.cells (by omega) j hlt
  obtain ⟨lb,x,y,hrow⟩:=row3 hlt H2.out.ok.g.len
  have hfit:=HF.out.g _ (List.getElem_mem hlt)
  rw [hrow] at hcx hfit
  simp only [List.getD_cons_zero,List.getD_cons_succ] at hfit
  obtain ⟨f1,f2,f3⟩:=hfit
  have HCX : Hid (∀ W',Below wr.heap.size wr W' → W'.cell? ⟨b0,1,none⟩ = some (.slice (some ⟨bx,ox,none⟩) c.g.l.length c.g.cap) ∧ W'.cell? ⟨bx,ox + j * 3,none⟩ = some (.int .i64 lb) ∧ W'.cell? ⟨bx,ox + j * 3 + 1,none⟩ = some (.int .i64 x) ∧ W'.cell? ⟨bx,ox + j * 3 + 2,none⟩ = some (.int .i64 y)):=fun W' hb=>by
   have hb2:=bmore HB.out hb
   refine ⟨?_,?_,hcx _ hb2 1 _ rfl,hcx _ hb2 2 _ rfl⟩
   ·have:=(HX.out.below hb).ob.cell 1 _ rfl
    rw [hax] at this;exact this
   ·have:=hcx _ hb2 0 _ rfl
    rw [Nat.add_zero] at this;exact this
  have d1 : decide ((j : Int) < (c.g.l.length : Int)) = true:=decide_eq_true (by omega)
  have d1' : decide (j < c.g.l.length) = true:=decide_eq_true hlt
  have w1 : IntKind.i64.wrap ((j : Int) + 1) = (j : Int) + 1:=by rw [IntKind.wrap_i64];omega
  have kz : (0 : Int) ≤ (j : Int):=by omega
  have kl : (j : Int) < (c.g.l.length : Int):=by omega
  have y0 : 0 ≤ x:=f2.1
  have y1 : x < 1000000000:=by omega
  have z0 : 0 ≤ y:=f3.1
  have z1 : y < 1000000000:=by omega
  obtain ⟨ln,hln⟩ : ∃ ln,ln = lineT (1,[lb,x,y]) ++ [10]:=⟨_,rfl⟩
  have HLN : ∀ W g,Hid (ObjAt W g 9 [.string ⟨#[103,117,101,115,116]⟩,.string (ba (lbT lb)),.string (ba (dc x)),.string (ba (dc y))] → Calls Tryz.prog 73 #[.slice (some ⟨g,0,none⟩) 4 4] W (RLn W ln)):=fun W g=>Lib.hid fun ho=>by
   rw [hln]
   exact rline_any [rkName 1,lbT lb,dc x,dc y] (by simp) (by simp) (sm4 (by decide) (by have:=(lbT_ok f1).2.1;omega) (by have:=dc_len y1;omega) (by have:=dc_len z1;omega)) W g ho
  have hln2 : ln.length ≤ 60:=by
   rw [hln,← lnW_1 f1]
   have h1:=lnW_len 1 (by decide) (lbT lb) [x,y] (by intro n hn;simp at hn;rcases hn with rfl | rfl <;> omega)
   have h2:=(lbT_ok f1).2.1
   simp only [List.length_cons,List.length_nil] at h1
   omega
  have hszl : (ba ln).size ≤ 60:=by rw [ba_size];exact hln2
  have hnot : ¬ 9223372036854775807 < (ba (t1 ++ tg 1 c.g.l j)).size + (ba ln).size:=by omega
  have HV : Hid (ba (t1 ++ tg 1 c.g.l j) ++ ba ln = ba (t1 ++ tg 1 c.g.l (j + 1))):=by rw [Hid,ba_app,tg_succ 1 c.g.l j hlt,hrow,hln,List.append_assoc]
  have HVL : Hid ((t1 ++ tg 1 c.g.l (j + 1)).length ≤ (t1).length + 60 * (j + 1)):=by
   have h3:=HTL.out
   rw [Hid,tg_succ 1 c.g.l j hlt,hrow,← hln,← List.append_assoc,List.length_append]
   omega
  clear hcx hrow f2 f3 hax hln hln2
  have qq:=(HCX.out wr (Below.refl _ _)).1
  go_upto_region 8 with fail
  clear qq
  have HBR:=HB
  have HB : Hid (Below wr.heap.size wr wr.drew):=(Below.refl _ _).drew
  go_region_held3 (fun W'=>W'.cell? ⟨b0,1,none⟩ = some (.slice (some ⟨bx,ox,none⟩) c.g.l.length c.g.cap) ∧ W'.cell? ⟨bx,ox + j * 3,none⟩ = some (.int .i64 lb) ∧ W'.cell? ⟨bx,ox + j * 3 + 1,none⟩ = some (.int .i64 x) ∧ W'.cell? ⟨bx,ox + j * 3 + 2,none⟩ = some (.int .i64 y)) (first | exact HCX.out _ HB.out | exact HCX.out _ (HB.out.alloc HB.out.size _)) (first | (go_at_call 74;refine (rtext_any _ (by assumption) _).mono ?_;rintro e Wn ⟨rfl,hb⟩;have HB:=Lib.hid (bmore HB.out hb);clear hb) | (go_at_call 45;refine (rdig_any _ (by assumption) (by assumption) _).mono ?_;rintro e Wn ⟨rfl,hb⟩;have HB:=Lib.hid (bmore HB.out hb);clear hb) | (go_at_call 73;refine ((HLN _ _).out (ObjAt.new _ _ _)).mono ?_;rintro e Wn ⟨rfl,rfl⟩))
  all_goals
   go_wp2_with fail
   go_roundw
   case rel=>exact ⟨j + 1,by omega,by go_num,by rw [HV.out],bmore HBR.out (HB.out.alloc HB.out.size _),HVL.out⟩
   case measure=>simp [intOf];omega
 obtain rfl : j = c.g.l.length:=by omega
 have dq : decide ((c.g.l.length : Int) < (c.g.l.length : Int)) = false:=decide_eq_false (by omega)
 have HTL2:=Lib.hid HTL.out
 clear hszt
 obtain ⟨t2,ht2⟩ : ∃ tz,tz = t1 ++ tg 1 c.g.l c.g.l.length:=⟨_,rfl⟩
 rw [← ht2] at HTL2 ⊢
 rw [tg_all] at ht2
 have HVt2:=Lib.hid ht2
 have hlt2 : t2.length ≤ 400:=by have:=HTL2.out;omega
 clear HTL HTL2 ht2
 (have q0:=HX.out.ob.cell 0 _ rfl;have q1:=HX.out.ob.cell 1 _ rfl;have q2:=HX.out.ob.cell 2 _ rfl;have q3:=HX.out.ob.cell 3 _ rfl;have q4:=HX.out.ob.cell 4 _ rfl;have q5:=HX.out.ob.cell 5 _ rfl;have q6:=HX.out.ob.cell 6 _ rfl;have q7:=HX.out.ob.cell 7 _ rfl)
 go_upto_region 10 with fail
 clear q0 q1 q2 q3 q4 q5 q6 q7
 go_loopw [6,8] (fun sv i wr=>∃ j : Nat,j ≤ c.r.l.length ∧ i = .int .i64 j ∧ sv = .string (ba (t2 ++ tg 2 c.r.l j)) ∧ Below W2.heap.size W2 wr ∧ (t2 ++ tg 2 c.r.l j).length ≤ (t2).length + 60 * j) (fun _ i _=>c.r.l.length - (intOf i).toNat)
 case atStart=>exact ⟨0,by omega,rfl,by rw [tg_0,List.append_nil],HB.out,by rw [tg_0,List.append_nil];omega⟩
 clear HB
 obtain ⟨j,hj,rfl,rfl,hb,htl⟩:=hrel
 have HB:=Lib.hid hb
 have HX:=Lib.hid (H2.out.below hb)
 have HTL:=Lib.hid htl
 clear hb htl
 have hszt : (ba (t2 ++ tg 2 c.r.l j)).size ≤ 1000000:=by rw [ba_size];have:=HTL.out;omega
 by_cases hlt : j < c.r.l.length
 case pos=>
  obtain ⟨bx,ox,hax,hcx⟩:=H2.out.ok.r.cells (by omega) j hlt
  obtain ⟨lb,x,y,hrow⟩:=row3 hlt H2.out.ok.r.len
  have hfit:=HF.out.r _ (List.getElem_mem hlt)
  rw [hrow] at hcx hfit
  simp only [List.getD_cons_zero,List.getD_cons_succ] at hfit
  obtain ⟨f1,f2,f3⟩:=hfit
  have HCX : Hid (∀ W',Below wr.heap.size wr W' → W'.cell? ⟨b0,2,none⟩ = some (.slice (some ⟨bx,ox,none⟩) c.r.l.length c.r.cap) ∧ W'.cell? ⟨bx,ox + j * 3,none⟩ = some (.int .i64 lb) ∧ W'.cell? ⟨bx,ox + j * 3 + 1,none⟩ = some (.int .i64 x) ∧ W'.cell? ⟨bx,ox + j * 3 + 2,none⟩ = some (.int .i64 y)):=fun W' hb=>by
   have hb2:=bmore HB.out hb
   refine ⟨?_,?_,hcx _ hb2 1 _ rfl,hcx _ hb2 2 _ rfl⟩
   ·have:=(HX.out.below hb).ob.cell 2 _ rfl
    rw [hax] at this;exact this
   ·have:=hcx _ hb2 0 _ rfl
    rw [Nat.add_zero] at this;exact this
  have d1 : decide ((j : Int) < (c.r.l.length : Int)) = true:=decide_eq_true (by omega)
  have d1' : decide (j < c.r.l.length) = true:=decide_eq_true hlt
  have w1 : IntKind.i64.wrap ((j : Int) + 1) = (j : Int) + 1:=by rw [IntKind.wrap_i64];omega
  have kz : (0 : Int) ≤ (j : Int):=by omega
  have kl : (j : Int) < (c.r.l.length : Int):=by omega
  have y0 : 0 ≤ x:=f2.1
  have y1 : x < 1000000000:=by omega
  have z0 : 0 ≤ y:=f3.1
  have z1 : y < 1000000000:=by omega
  obtain ⟨ln,hln⟩ : ∃ ln,ln = lineT (2,[lb,x,y]) ++ [10]:=⟨_,rfl⟩
  have HLN : ∀ W g,Hid (ObjAt W g 9 [.string ⟨#[114,97,110,103,101]⟩,.string (ba (lbT lb)),.string (ba (dc x)),.string (ba (dc y))] → Calls Tryz.prog 73 #[.slice (some ⟨g,0,none⟩) 4 4] W (RLn W ln)):=fun W g=>Lib.hid fun ho=>by
   rw [hln]
   exact rline_any [rkName 2,lbT lb,dc x,dc y] (by simp) (by simp) (sm4 (by decide) (by have:=(lbT_ok f1).2.1;omega) (by have:=dc_len y1;omega) (by have:=dc_len z1;omega)) W g ho
  have hln2 : ln.length ≤ 60:=by
   rw [hln,← lnW_2 f1]
   have h1:=lnW_len 2 (by decide) (lbT lb) [x,y] (by intro n hn;simp at hn;rcases hn with rfl | rfl <;> omega)
   have h2:=(lbT_ok f1).2.1
   simp only [List.length_cons,List.length_nil] at h1
   omega
  have hszl : (ba ln).size ≤ 60:=by rw [ba_size];exact hln2
  have hnot : ¬ 9223372036854775807 < (ba (t2 ++ tg 2 c.r.l j)).size + (ba ln).size:=by omega
  have HV : Hid (ba (t2 ++ tg 2 c.r.l j) ++ ba ln = ba (t2 ++ tg 2 c.r.l (j + 1))):=by rw [Hid,ba_app,tg_succ 2 c.r.l j hlt,hrow,hln,List.append_assoc]
  have HVL : Hid ((t2 ++ tg 2 c.r.l (j + 1)).length ≤ (t2).length + 60 * (j + 1)):=by
   have h3:=HTL.out
   rw [Hid,tg_succ 2 c.r.l j hlt,hrow,← hln,← List.append_assoc,List.length_append]
   omega
  clear hcx hrow f2 f3 hax hln hln2
  have qq:=(HCX.out wr (Below.refl _ _)).1
  go_upto_region 12 with fail
  clear qq
  have HBR:=HB
  have HB : Hid (Below wr.heap.size wr wr.drew):=(Below.refl _ _).drew
  go_region_held3 (fun W'=>W'.cell? ⟨b0,2,none⟩ = some (.slice (some ⟨bx,ox,none⟩) c.r.l.length c.r.cap) ∧ W'.cell? ⟨bx,ox + j * 3,none⟩ = some (.int .i64 lb) ∧ W'.cell? ⟨bx,ox + j * 3 + 1,none⟩ = some (.int .i64 x) ∧ W'.cell? ⟨bx,ox + j * 3 + 2,none⟩ = some (.int .i64 y)) (first | exact HCX.out _ HB.out | exact HCX.out _ (HB.out.alloc HB.out.size _)) (first | (go_at_call 74;refine (rtext_any _ (by assumption) _).mono ?_;rintro e Wn ⟨rfl,hb⟩;have HB:=Lib.hid (bmore HB.out hb);clear hb) | (go_at_call 45;refine (rdig_any _ (by assumption) (by assumption) _).mono ?_;rintro e Wn ⟨rfl,hb⟩;have HB:=Lib.hid (bmore HB.out hb);clear hb) | (go_at_call 73;refine ((HLN _ _).out (ObjAt.new _ _ _)).mono ?_;rintro e Wn ⟨rfl,rfl⟩))
  all_goals
   go_wp2_with fail
   go_roundw
   case rel=>exact ⟨j + 1,by omega,by go_num,by rw [HV.out],bmore HBR.out (HB.out.alloc HB.out.size _),HVL.out⟩
   case measure=>simp [intOf];omega
 obtain rfl : j = c.r.l.length:=by omega
 have dq : decide ((c.r.l.length : Int) < (c.r.l.length : Int)) = false:=decide_eq_false (by omega)
 have HTL2:=Lib.hid HTL.out
 clear hszt
 obtain ⟨t3,ht2⟩ : ∃ tz,tz = t2 ++ tg 2 c.r.l c.r.l.length:=⟨_,rfl⟩
 rw [← ht2] at HTL2 ⊢
 rw [tg_all] at ht2
 have HVt3:=Lib.hid ht2
 have hlt3 : t3.length ≤ 900:=by have:=HTL2.out;omega
 clear HTL HTL2 ht2
 (have q0:=HX.out.ob.cell 0 _ rfl;have q1:=HX.out.ob.cell 1 _ rfl;have q2:=HX.out.ob.cell 2 _ rfl;have q3:=HX.out.ob.cell 3 _ rfl;have q4:=HX.out.ob.cell 4 _ rfl;have q5:=HX.out.ob.cell 5 _ rfl;have q6:=HX.out.ob.cell 6 _ rfl;have q7:=HX.out.ob.cell 7 _ rfl)
 go_upto_region 14 with fail
 clear q0 q1 q2 q3 q4 q5 q6 q7
 go_loopw [6,9] (fun sv i wr=>∃ j : Nat,j ≤ c.p.l.length ∧ i = .int .i64 j ∧ sv = .string (ba (t3 ++ tg 3 c.p.l j)) ∧ Below W2.heap.size W2 wr ∧ (t3 ++ tg 3 c.p.l j).length ≤ (t3).length + 60 * j) (fun _ i _=>c.p.l.length - (intOf i).toNat)
 case atStart=>exact ⟨0,by omega,rfl,by rw [tg_0,List.append_nil],HB.out,by rw [tg_0,List.append_nil];omega⟩
 clear HB
 obtain ⟨j,hj,rfl,rfl,hb,htl⟩:=hrel
 have HB:=Lib.hid hb
 have HX:=Lib.hid (H2.out.below hb)
 have HTL:=Lib.hid htl
 clear hb htl
 have hszt : (ba (t3 ++ tg 3 c.p.l j)).size ≤ 1000000:=by rw [ba_size];have:=HTL.out;omega
 by_cases hlt : j < c.p.l.length
 case pos=>
  obtain ⟨bx,ox,hax,hcx⟩:=H2.out.ok.p.cells (by omega) j hlt
  obtain ⟨x,y,hrow⟩:=row2 hlt H2.out.ok.p.len
  have hfit:=HF.out.p _ (List.getElem_mem hlt)
  rw [hrow] at hcx hfit
  simp only [List.getD_cons_zero,List.getD_cons_succ] at hfit
  obtain ⟨f2,f3⟩:=hfit
  have HCX : Hid (∀ W',Below wr.heap.size wr W' → W'.cell? ⟨b0,3,none⟩ = some (.slice (some ⟨bx,ox,none⟩) c.p.l.length c.p.cap) ∧ W'.cell? ⟨bx,ox + j * 2,none⟩ = some (.int .i64 x) ∧ W'.cell? ⟨bx,ox + j * 2 + 1,none⟩ = some (.int .i64 y)):=fun W' hb=>by
   have hb2:=bmore HB.out hb
   refine ⟨?_,?_,hcx _ hb2 1 _ rfl⟩
   ·have:=(HX.out.below hb).ob.cell 3 _ rfl
    rw [hax] at this;exact this
   ·have:=hcx _ hb2 0 _ rfl
    rw [Nat.add_zero] at this;exact this
  have d1 : decide ((j : Int) < (c.p.l.length : Int)) = true:=decide_eq_true (by omega)
  have d1' : decide (j < c.p.l.length) = true:=decide_eq_true hlt
  have w1 : IntKind.i64.wrap ((j : Int) + 1) = (j : Int) + 1:=by rw [IntKind.wrap_i64];omega
  have kz : (0 : Int) ≤ (j : Int):=by omega
  have kl : (j : Int) < (c.p.l.length : Int):=by omega
  obtain ⟨ln,hln⟩ : ∃ ln,ln = lineT (3,[x,y]) ++ [10]:=⟨_,rfl⟩
  have hln2 : ln.length ≤ 60:=by rw [hln];have:=port_len f2 f3;omega
  have hszl : (ba ln).size ≤ 60:=by rw [ba_size];exact hln2
  have hnot : ¬ 9223372036854775807 < (ba (t3 ++ tg 3 c.p.l j)).size + (ba ln).size:=by omega
  have HV : Hid (ba (t3 ++ tg 3 c.p.l j) ++ ba ln = ba (t3 ++ tg 3 c.p.l (j + 1))):=by rw [Hid,ba_app,tg_succ 3 c.p.l j hlt,hrow,hln,List.append_assoc]
  have HVL : Hid ((t3 ++ tg 3 c.p.l (j + 1)).length ≤ (t3).length + 60 * (j + 1)):=by
   have h3:=HTL.out
   rw [Hid,tg_succ 3 c.p.l j hlt,hrow,← hln,← List.append_assoc,List.length_append]
   omega
  have hqq:=HCX.out wr (Below.refl _ _)
  obtain ⟨qq,r0,r1⟩:=hqq
  by_cases hg : y = -1
  ·subst hg
   have HLN : ∀ W g,Hid (ObjAt W g 9 [.string ⟨#[112,111,114,116]⟩,.string (ba (lbT x)),.string ⟨#[111,117,116]⟩] → Calls Tryz.prog 73 #[.slice (some ⟨g,0,none⟩) 3 3] W (RLn W ln)):=fun W g=>Lib.hid fun ho=>by
    rw [hln]
    exact rline_any [rkName 3,lbT x,outT] (by simp) (by simp) (sm3 (by decide) (by have:=(lbT_ok f2).2.1;omega) (by decide)) W g ho
   clear hcx hrow f3 hax hln hln2
   go_wp2_with fail
   refine (rtext_any x f2 _).mono ?_;rintro e Wn ⟨rfl,hb⟩
   have HBN:=Lib.hid (bmore HB.out hb)
   clear hb
   go_wp2_with (go_at_call 73;refine ((HLN _ _).out (ObjAt.new _ _ _)).mono ?_;rintro e Wm ⟨rfl,rfl⟩)
   go_roundw
   case rel=>exact ⟨j + 1,by omega,by go_num,by rw [HV.out],HBN.out.alloc HBN.out.size _,HVL.out⟩
   case measure=>simp [intOf];omega
  ·have f4:=f3.resolve_left hg
   have y0 : 0 ≤ y:=f4.1
   have y1 : y < 1000000000:=by omega
   have nlt : decide (y < 0) = false:=decide_eq_false (by omega)
   have HLN : ∀ W g,Hid (ObjAt W g 9 [.string ⟨#[112,111,114,116]⟩,.string (ba (lbT x)),.string (ba (dc y))] → Calls Tryz.prog 73 #[.slice (some ⟨g,0,none⟩) 3 3] W (RLn W ln)):=fun W g=>Lib.hid fun ho=>by
    rw [hln]
    have e : lineT (3,[x,y]) = joinC 32 [rkName 3,lbT x,dc y]:=by simp [lineT,rowT,hg]
    rw [e]
    exact rline_any [rkName 3,lbT x,dc y] (by simp) (by simp) (sm3 (by decide) (by have:=(lbT_ok f2).2.1;omega) (by have:=dc_len y1;omega)) W g ho
   clear hcx hrow f3 hax hln hln2 hg f4
   go_upto_region 18 with fail
   clear qq r0 r1
   have HBR:=HB
   have HB : Hid (Below wr.heap.size wr wr.drew):=(Below.refl _ _).drew
   go_region_held3 (fun W'=>W'.cell? ⟨b0,3,none⟩ = some (.slice (some ⟨bx,ox,none⟩) c.p.l.length c.p.cap) ∧ W'.cell? ⟨bx,ox + j * 2,none⟩ = some (.int .i64 x) ∧ W'.cell? ⟨bx,ox + j * 2 + 1,none⟩ = some (.int .i64 y)) (first | exact HCX.out _ HB.out | exact HCX.out _ (HB.out.alloc HB.out.size _)) (first | (go_at_call 74;refine (rtext_any _ (by assumption) _).mono ?_;rintro e Wn ⟨rfl,hb⟩;have HB:=Lib.hid (bmore HB.out hb);clear hb) | (go_at_call 45;refine (rdig_any _ (by assumption) (by assumption) _).mono ?_;rintro e Wn ⟨rfl,hb⟩;have HB:=Lib.hid (bmore HB.out hb);clear hb) | (go_at_call 73;refine ((HLN _ _).out (ObjAt.new _ _ _)).mono ?_;rintro e Wn ⟨rfl,rfl⟩))
   all_goals
    go_wp2_with fail
    go_roundw
    case rel=>exact ⟨j + 1,by omega,by go_num,by rw [HV.out],bmore HBR.out (HB.out.alloc HB.out.size _),HVL.out⟩
    case measure=>simp [intOf];omega
 obtain rfl : j = c.p.l.length:=by omega
 have dq : decide ((c.p.l.length : Int) < (c.p.l.length : Int)) = false:=decide_eq_false (by omega)
 have HTL2:=Lib.hid HTL.out
 clear hszt
 obtain ⟨t4,ht2⟩ : ∃ tz,tz = t3 ++ tg 3 c.p.l c.p.l.length:=⟨_,rfl⟩
 rw [← ht2] at HTL2 ⊢
 rw [tg_all] at ht2
 have HVt4:=Lib.hid ht2
 have hlt4 : t4.length ≤ 1400:=by have:=HTL2.out;omega
 clear HTL HTL2 ht2
 (have q0:=HX.out.ob.cell 0 _ rfl;have q1:=HX.out.ob.cell 1 _ rfl;have q2:=HX.out.ob.cell 2 _ rfl;have q3:=HX.out.ob.cell 3 _ rfl;have q4:=HX.out.ob.cell 4 _ rfl;have q5:=HX.out.ob.cell 5 _ rfl;have q6:=HX.out.ob.cell 6 _ rfl;have q7:=HX.out.ob.cell 7 _ rfl)
 go_upto_region 20 with fail
 clear q0 q1 q2 q3 q4 q5 q6 q7
 go_loopw [6,10] (fun sv i wr=>∃ j : Nat,j ≤ c.n.l.length ∧ i = .int .i64 j ∧ sv = .string (ba (t4 ++ tg 4 c.n.l j)) ∧ Below W2.heap.size W2 wr ∧ (t4 ++ tg 4 c.n.l j).length ≤ (t4).length + 60 * j) (fun _ i _=>c.n.l.length - (intOf i).toNat)
 case atStart=>exact ⟨0,by omega,rfl,by rw [tg_0,List.append_nil],HB.out,by rw [tg_0,List.append_nil];omega⟩
 clear HB
 obtain ⟨j,hj,rfl,rfl,hb,htl⟩:=hrel
 have HB:=Lib.hid hb
 have HX:=Lib.hid (H2.out.below hb)
 have HTL:=Lib.hid htl
 clear hb htl
 have hszt : (ba (t4 ++ tg 4 c.n.l j)).size ≤ 1000000:=by rw [ba_size];have:=HTL.out;omega
 by_cases hlt : j < c.n.l.length
 case pos=>
  obtain ⟨bx,ox,hax,hcx⟩:=H2.out.ok.n.cells (by omega) j hlt
  obtain ⟨x,y,hrow⟩:=row2 hlt H2.out.ok.n.len
  have hfit:=HF.out.n _ (List.getElem_mem hlt)
  rw [hrow] at hcx hfit
  simp only [List.getD_cons_zero,List.getD_cons_succ] at hfit
  obtain ⟨f2,f3⟩:=hfit
  have HCX : Hid (∀ W',Below wr.heap.size wr W' → W'.cell? ⟨b0,4,none⟩ = some (.slice (some ⟨bx,ox,none⟩) c.n.l.length c.n.cap) ∧ W'.cell? ⟨bx,ox + j * 2,none⟩ = some (.int .i64 x) ∧ W'.cell? ⟨bx,ox + j * 2 + 1,none⟩ = some (.int .i64 y)):=fun W' hb=>by
   have hb2:=bmore HB.out hb
   refine ⟨?_,?_,hcx _ hb2 1 _ rfl⟩
   ·have:=(HX.out.below hb).ob.cell 4 _ rfl
    rw [hax] at this;exact this
   ·have:=hcx _ hb2 0 _ rfl
    rw [Nat.add_zero] at this;exact this
  have d1 : decide ((j : Int) < (c.n.l.length : Int)) = true:=decide_eq_true (by omega)
  have d1' : decide (j < c.n.l.length) = true:=decide_eq_true hlt
  have w1 : IntKind.i64.wrap ((j : Int) + 1) = (j : Int) + 1:=by rw [IntKind.wrap_i64];omega
  have kz : (0 : Int) ≤ (j : Int):=by omega
  have kl : (j : Int) < (c.n.l.length : Int):=by omega
  have y0 : 0 ≤ x:=f2.1
  have y1 : x < 1000000000:=by omega
  have z0 : 0 ≤ y:=f3.1
  have z1 : y < 1000000000:=by omega
  obtain ⟨ln,hln⟩ : ∃ ln,ln = lineT (4,[x,y]) ++ [10]:=⟨_,rfl⟩
  have HLN : ∀ W g,Hid (ObjAt W g 9 [.string ⟨#[114,105,110,103]⟩,.string (ba (dc x)),.string (ba (dc y))] → Calls Tryz.prog 73 #[.slice (some ⟨g,0,none⟩) 3 3] W (RLn W ln)):=fun W g=>Lib.hid fun ho=>by
   rw [hln]
   exact rline_any [rkName 4,dc x,dc y] (by simp) (by simp) (sm3 (by decide) (by have:=dc_len y1;omega) (by have:=dc_len z1;omega)) W g ho
  have hln2 : ln.length ≤ 60:=by
   rw [hln,show lineT (4,[x,y]) ++ [10] = lnW 4 [] [x,y] from (lnW_k (4 - 4) _ _).symm]
   have h1:=lnW_len 4 (by decide) [] [x,y] (by intro n hn;simp at hn;rcases hn with rfl | rfl <;> omega)
   simp only [List.length_cons,List.length_nil] at h1
   omega
  have hszl : (ba ln).size ≤ 60:=by rw [ba_size];exact hln2
  have hnot : ¬ 9223372036854775807 < (ba (t4 ++ tg 4 c.n.l j)).size + (ba ln).size:=by omega
  have HV : Hid (ba (t4 ++ tg 4 c.n.l j) ++ ba ln = ba (t4 ++ tg 4 c.n.l (j + 1))):=by rw [Hid,ba_app,tg_succ 4 c.n.l j hlt,hrow,hln,List.append_assoc]
  have HVL : Hid ((t4 ++ tg 4 c.n.l (j + 1)).length ≤ (t4).length + 60 * (j + 1)):=by
   have h3:=HTL.out
   rw [Hid,tg_succ 4 c.n.l j hlt,hrow,← hln,← List.append_assoc,List.length_append]
   omega
  clear hcx hrow f2 f3 hax hln hln2
  have qq:=(HCX.out wr (Below.refl _ _)).1
  go_upto_region 22 with fail
  clear qq
  have HBR:=HB
  have HB : Hid (Below wr.heap.size wr wr.drew):=(Below.refl _ _).drew
  go_region_held3 (fun W'=>W'.cell? ⟨b0,4,none⟩ = some (.slice (some ⟨bx,ox,none⟩) c.n.l.length c.n.cap) ∧ W'.cell? ⟨bx,ox + j * 2,none⟩ = some (.int .i64 x) ∧ W'.cell? ⟨bx,ox + j * 2 + 1,none⟩ = some (.int .i64 y)) (first | exact HCX.out _ HB.out | exact HCX.out _ (HB.out.alloc HB.out.size _)) (first | (go_at_call 74;refine (rtext_any _ (by assumption) _).mono ?_;rintro e Wn ⟨rfl,hb⟩;have HB:=Lib.hid (bmore HB.out hb);clear hb) | (go_at_call 45;refine (rdig_any _ (by assumption) (by assumption) _).mono ?_;rintro e Wn ⟨rfl,hb⟩;have HB:=Lib.hid (bmore HB.out hb);clear hb) | (go_at_call 73;refine ((HLN _ _).out (ObjAt.new _ _ _)).mono ?_;rintro e Wn ⟨rfl,rfl⟩))
  all_goals
   go_wp2_with fail
   go_roundw
   case rel=>exact ⟨j + 1,by omega,by go_num,by rw [HV.out],bmore HBR.out (HB.out.alloc HB.out.size _),HVL.out⟩
   case measure=>simp [intOf];omega
 obtain rfl : j = c.n.l.length:=by omega
 have dq : decide ((c.n.l.length : Int) < (c.n.l.length : Int)) = false:=decide_eq_false (by omega)
 have HTL2:=Lib.hid HTL.out
 clear hszt
 obtain ⟨t5,ht2⟩ : ∃ tz,tz = t4 ++ tg 4 c.n.l c.n.l.length:=⟨_,rfl⟩
 rw [← ht2] at HTL2 ⊢
 rw [tg_all] at ht2
 have HVt5:=Lib.hid ht2
 have hlt5 : t5.length ≤ 1700:=by have:=HTL2.out;omega
 clear HTL HTL2 ht2
 (have q0:=HX.out.ob.cell 0 _ rfl;have q1:=HX.out.ob.cell 1 _ rfl;have q2:=HX.out.ob.cell 2 _ rfl;have q3:=HX.out.ob.cell 3 _ rfl;have q4:=HX.out.ob.cell 4 _ rfl;have q5:=HX.out.ob.cell 5 _ rfl;have q6:=HX.out.ob.cell 6 _ rfl;have q7:=HX.out.ob.cell 7 _ rfl)
 go_upto_region 24 with fail
 clear q0 q1 q2 q3 q4 q5 q6 q7
 go_loopw [6,11] (fun sv i wr=>∃ j : Nat,j ≤ c.s.l.length ∧ i = .int .i64 j ∧ sv = .string (ba (t5 ++ tg 5 c.s.l j)) ∧ Below W2.heap.size W2 wr ∧ (t5 ++ tg 5 c.s.l j).length ≤ (t5).length + 60 * j) (fun _ i _=>c.s.l.length - (intOf i).toNat)
 case atStart=>exact ⟨0,by omega,rfl,by rw [tg_0,List.append_nil],HB.out,by rw [tg_0,List.append_nil];omega⟩
 clear HB
 obtain ⟨j,hj,rfl,rfl,hb,htl⟩:=hrel
 have HB:=Lib.hid hb
 have HX:=Lib.hid (H2.out.below hb)
 have HTL:=Lib.hid htl
 clear hb htl
 have hszt : (ba (t5 ++ tg 5 c.s.l j)).size ≤ 1000000:=by rw [ba_size];have:=HTL.out;omega
 by_cases hlt : j < c.s.l.length
 case pos=>
  obtain ⟨bx,ox,hax,hcx⟩:=H2.out.ok.s.cells (by omega) j hlt
  obtain ⟨x,y,hrow⟩:=row2 hlt H2.out.ok.s.len
  have hfit:=HF.out.s _ (List.getElem_mem hlt)
  rw [hrow] at hcx hfit
  simp only [List.getD_cons_zero,List.getD_cons_succ] at hfit
  obtain ⟨f2,f3⟩:=hfit
  have HCX : Hid (∀ W',Below wr.heap.size wr W' → W'.cell? ⟨b0,5,none⟩ = some (.slice (some ⟨bx,ox,none⟩) c.s.l.length c.s.cap) ∧ W'.cell? ⟨bx,ox + j * 2,none⟩ = some (.int .i64 x) ∧ W'.cell? ⟨bx,ox + j * 2 + 1,none⟩ = some (.int .i64 y)):=fun W' hb=>by
   have hb2:=bmore HB.out hb
   refine ⟨?_,?_,hcx _ hb2 1 _ rfl⟩
   ·have:=(HX.out.below hb).ob.cell 5 _ rfl
    rw [hax] at this;exact this
   ·have:=hcx _ hb2 0 _ rfl
    rw [Nat.add_zero] at this;exact this
  have d1 : decide ((j : Int) < (c.s.l.length : Int)) = true:=decide_eq_true (by omega)
  have d1' : decide (j < c.s.l.length) = true:=decide_eq_true hlt
  have w1 : IntKind.i64.wrap ((j : Int) + 1) = (j : Int) + 1:=by rw [IntKind.wrap_i64];omega
  have kz : (0 : Int) ≤ (j : Int):=by omega
  have kl : (j : Int) < (c.s.l.length : Int):=by omega
  have y0 : 0 ≤ x:=f2.1
  have y1 : x < 1000000000:=by omega
  have z0 : 0 ≤ y:=f3.1
  have z1 : y < 1000000000:=by omega
  obtain ⟨ln,hln⟩ : ∃ ln,ln = lineT (5,[x,y]) ++ [10]:=⟨_,rfl⟩
  have HLN : ∀ W g,Hid (ObjAt W g 9 [.string ⟨#[115,108,111,116]⟩,.string (ba (dc x)),.string (ba (dc y))] → Calls Tryz.prog 73 #[.slice (some ⟨g,0,none⟩) 3 3] W (RLn W ln)):=fun W g=>Lib.hid fun ho=>by
   rw [hln]
   exact rline_any [rkName 5,dc x,dc y] (by simp) (by simp) (sm3 (by decide) (by have:=dc_len y1;omega) (by have:=dc_len z1;omega)) W g ho
  have hln2 : ln.length ≤ 60:=by
   rw [hln,show lineT (5,[x,y]) ++ [10] = lnW 5 [] [x,y] from (lnW_k (5 - 4) _ _).symm]
   have h1:=lnW_len 5 (by decide) [] [x,y] (by intro n hn;simp at hn;rcases hn with rfl | rfl <;> omega)
   simp only [List.length_cons,List.length_nil] at h1
   omega
  have hszl : (ba ln).size ≤ 60:=by rw [ba_size];exact hln2
  have hnot : ¬ 9223372036854775807 < (ba (t5 ++ tg 5 c.s.l j)).size + (ba ln).size:=by omega
  have HV : Hid (ba (t5 ++ tg 5 c.s.l j) ++ ba ln = ba (t5 ++ tg 5 c.s.l (j + 1))):=by rw [Hid,ba_app,tg_succ 5 c.s.l j hlt,hrow,hln,List.append_assoc]
  have HVL : Hid ((t5 ++ tg 5 c.s.l (j + 1)).length ≤ (t5).length + 60 * (j + 1)):=by
   have h3:=HTL.out
   rw [Hid,tg_succ 5 c.s.l j hlt,hrow,← hln,← List.append_assoc,List.length_append]
   omega
  clear hcx hrow f2 f3 hax hln hln2
  have qq:=(HCX.out wr (Below.refl _ _)).1
  go_upto_region 26 with fail
  clear qq
  have HBR:=HB
  have HB : Hid (Below wr.heap.size wr wr.drew):=(Below.refl _ _).drew
  go_region_held3 (fun W'=>W'.cell? ⟨b0,5,none⟩ = some (.slice (some ⟨bx,ox,none⟩) c.s.l.length c.s.cap) ∧ W'.cell? ⟨bx,ox + j * 2,none⟩ = some (.int .i64 x) ∧ W'.cell? ⟨bx,ox + j * 2 + 1,none⟩ = some (.int .i64 y)) (first | exact HCX.out _ HB.out | exact HCX.out _ (HB.out.alloc HB.out.size _)) (first | (go_at_call 74;refine (rtext_any _ (by assumption) _).mono ?_;rintro e Wn ⟨rfl,hb⟩;have HB:=Lib.hid (bmore HB.out hb);clear hb) | (go_at_call 45;refine (rdig_any _ (by assumption) (by assumption) _).mono ?_;rintro e Wn ⟨rfl,hb⟩;have HB:=Lib.hid (bmore HB.out hb);clear hb) | (go_at_call 73;refine ((HLN _ _).out (ObjAt.new _ _ _)).mono ?_;rintro e Wn ⟨rfl,rfl⟩))
  all_goals
   go_wp2_with fail
   go_roundw
   case rel=>exact ⟨j + 1,by omega,by go_num,by rw [HV.out],bmore HBR.out (HB.out.alloc HB.out.size _),HVL.out⟩
   case measure=>simp [intOf];omega
 obtain rfl : j = c.s.l.length:=by omega
 have dq : decide ((c.s.l.length : Int) < (c.s.l.length : Int)) = false:=decide_eq_false (by omega)
 have HTL2:=Lib.hid HTL.out
 clear hszt
 obtain ⟨t6,ht2⟩ : ∃ tz,tz = t5 ++ tg 5 c.s.l c.s.l.length:=⟨_,rfl⟩
 rw [← ht2] at HTL2 ⊢
 rw [tg_all] at ht2
 have HVt6:=Lib.hid ht2
 have hlt6 : t6.length ≤ 2200:=by have:=HTL2.out;omega
 clear HTL HTL2 ht2
 (have q0:=HX.out.ob.cell 0 _ rfl;have q1:=HX.out.ob.cell 1 _ rfl;have q2:=HX.out.ob.cell 2 _ rfl;have q3:=HX.out.ob.cell 3 _ rfl;have q4:=HX.out.ob.cell 4 _ rfl;have q5:=HX.out.ob.cell 5 _ rfl;have q6:=HX.out.ob.cell 6 _ rfl;have q7:=HX.out.ob.cell 7 _ rfl)
 go_upto_region 27 with fail
 clear q0 q1 q2 q3 q4 q5 q6 q7
 have HVA : Hid (t6 ++ textT (gateR (pcOf c)) = prT (pcOf c)):=by
  rw [Hid,HVt6.out,HVt5.out,HVt4.out,HVt3.out,HVt2.out,HVt1.out]
  unfold prT rowsP
  rw [show ((0,[(pcOf c).cats]) :: (tag 1 (pcOf c).g ++ (tag 2 (pcOf c).r ++ (tag 3 (pcOf c).p ++ (tag 4 (pcOf c).n ++ (tag 5 (pcOf c).s ++ gateR (pcOf c))))))) = [(0,[(pcOf c).cats])] ++ (tag 1 (pcOf c).g ++ (tag 2 (pcOf c).r ++ (tag 3 (pcOf c).p ++ (tag 4 (pcOf c).n ++ (tag 5 (pcOf c).s ++ gateR (pcOf c)))))) from rfl]
  simp only [textT_app,List.append_assoc]
  rfl
 have hszt : (ba t6).size ≤ 2200:=by rw [ba_size];exact hlt6
 (have q0:=HX.out.ob.cell 0 _ rfl;have q1:=HX.out.ob.cell 1 _ rfl;have q2:=HX.out.ob.cell 2 _ rfl;have q3:=HX.out.ob.cell 3 _ rfl;have q4:=HX.out.ob.cell 4 _ rfl;have q5:=HX.out.ob.cell 5 _ rfl;have q6:=HX.out.ob.cell 6 _ rfl;have q7:=HX.out.ob.cell 7 _ rfl)
 by_cases hgt : c.gate = -1
 ·have n1 : decide (c.gate ≥ 0) = false:=decide_eq_false (by omega)
  have n2 : decide (0 ≤ c.gate) = false:=decide_eq_false (by omega)
  have HGR : Hid (t6 = prT (pcOf c)):=by
   have:=HVA.out
   rw [show gateR (pcOf c) = [] from by unfold gateR;rw [if_pos (show (pcOf c).gate = -1 from hgt)]] at this
   rw [Hid,← this];simp [textT]
  clear hgt
  go_wp2_with fail
  go_ret2
  exact HP.out t6 _ HGR.out (H2.out.bel.trans (HB.out.mono H2.out.bel.size))
 ·have hfg:=HF.out.gate.resolve_left (fun h=>hgt h.1)
  obtain ⟨⟨f1,f2⟩,f3,f4⟩ : (0 ≤ c.gate ∧ c.gate < 4) ∧ 0 ≤ c.quota ∧ c.quota ≤ 64:=hfg
  have n1 : decide (c.gate ≥ 0) = true:=decide_eq_true f1
  have n2 : decide (0 ≤ c.gate) = true:=decide_eq_true f1
  obtain ⟨x,hx⟩ : ∃ x,x = c.gate:=⟨_,rfl⟩
  obtain ⟨y,hy⟩ : ∃ y,y = c.quota:=⟨_,rfl⟩
  rw [← hx] at q6 f1 f2 n1 n2
  rw [← hy] at q7 f3 f4
  have y1 : x < 1000000000:=by omega
  have z1 : y < 1000000000:=by omega
  obtain ⟨ln,hln⟩ : ∃ ln,ln = lineT (6,[x,y]) ++ [10]:=⟨_,rfl⟩
  have HLN : ∀ W g,Hid (ObjAt W g 9 [.string ⟨#[103,97,116,101]⟩,.string (ba (dc x)),.string (ba (dc y))] → Calls Tryz.prog 73 #[.slice (some ⟨g,0,none⟩) 3 3] W (RLn W ln)):=fun W g=>Lib.hid fun ho=>by
   rw [hln]
   exact rline_any [rkName 6,dc x,dc y] (by simp) (by simp) (sm3 (by decide) (by have:=dc_len y1;omega) (by have:=dc_len z1;omega)) W g ho
  have hln2 : ln.length ≤ 60:=by
   rw [hln,show lineT (6,[x,y]) ++ [10] = lnW 6 [] [x,y] from (lnW_k 2 _ _).symm]
   have h1:=lnW_len 6 (by decide) [] [x,y] (by intro n hn;simp at hn;rcases hn with rfl | rfl <;> omega)
   simp only [List.length_cons,List.length_nil] at h1
   omega
  have hszl : (ba ln).size ≤ 60:=by rw [ba_size];exact hln2
  have hnot : ¬ 9223372036854775807 < (ba t6).size + (ba ln).size:=by omega
  have HGR : Hid (ba t6 ++ ba ln = ba (prT (pcOf c))):=by
   have:=HVA.out
   rw [show gateR (pcOf c) = [(6,[x,y])] from by rw [hx,hy];unfold gateR;rw [if_neg (show ¬ (pcOf c).gate = -1 from hgt)];rfl,textT_one,← hln] at this
   rw [Hid,ba_app,this]
  have HCX : Hid (∀ W',Below wr.heap.size wr W' → W'.cell? ⟨b0,6,none⟩ = some (.int .i64 x) ∧ W'.cell? ⟨b0,7,none⟩ = some (.int .i64 y)):=fun W' hb=>by
   rw [hx,hy]
   exact ⟨(HX.out.below hb).ob.cell 6 _ rfl,(HX.out.below hb).ob.cell 7 _ rfl⟩
  clear hgt hln hln2 hx hy
  go_upto_region 28 with fail
  clear q0 q1 q2 q3 q4 q5 q6 q7
  have HBR:=HB
  have HB : Hid (Below wr.heap.size wr wr.drew):=(Below.refl _ _).drew
  go_region_held3 (fun W'=>W'.cell? ⟨b0,6,none⟩ = some (.int .i64 x) ∧ W'.cell? ⟨b0,7,none⟩ = some (.int .i64 y)) (first | exact HCX.out _ HB.out | exact HCX.out _ (HB.out.alloc HB.out.size _)) (first | (go_at_call 74;refine (rtext_any _ (by assumption) _).mono ?_;rintro e Wn ⟨rfl,hb⟩;have HB:=Lib.hid (bmore HB.out hb);clear hb) | (go_at_call 45;refine (rdig_any _ (by assumption) (by assumption) _).mono ?_;rintro e Wn ⟨rfl,hb⟩;have HB:=Lib.hid (bmore HB.out hb);clear hb) | (go_at_call 73;refine ((HLN _ _).out (ObjAt.new _ _ _)).mono ?_;rintro e Wn ⟨rfl,rfl⟩))
  all_goals
   go_wp2_with fail
   go_ret2
   exact ⟨fun h=>absurd (HF0.out) h,fun _=>by rw [← HGR.out];rfl,H2.out.bel.trans ((bmore HBR.out (HB.out.alloc HB.out.size _)).mono H2.out.bel.size)⟩
theorem rprint_any (c : Cv) (w : World) (h : CfgOk w c) : Calls Tryz.prog 42 #[(.agg #[.int .i64 c.cats,.slice c.g.a c.g.l.length c.g.cap,.slice c.r.a c.r.l.length c.r.cap,.slice c.p.a c.p.l.length c.p.cap,.slice c.n.a c.n.l.length c.n.cap,.slice c.s.a c.s.l.length c.s.cap,.int .i64 c.gate,.int .i64 c.quota])] w (PrPost c w):=by
 by_cases h0 : (chkV c).1 = 0
 ·exact rprint_yes c w h h0
 ·exact rprint_no c w h h0
end Go.Proofs.YtoklonmiejdgmaaGreatDoor
