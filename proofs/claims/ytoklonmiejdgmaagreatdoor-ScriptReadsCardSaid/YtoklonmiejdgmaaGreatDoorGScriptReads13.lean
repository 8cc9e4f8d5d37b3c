/- Chapter 4, the reference: Check, Right, Frames, RingFrame, Bound. -/
import Derived.Test.YtoklonmiejdgmaaGreatDoorGScriptReads12
import Derived.Test.YtoklonmiejdgmaaGreatDoorGScriptReads11
namespace Go.Proofs.YtoklonmiejdgmaaGreatDoor
set_option linter.unusedVariables false
set_option linter.unusedSimpArgs false
set_option linter.unnecessarySimpa false
open Go.RowKit Go.Sort
set_option maxHeartbeats 8000000
set_option maxRecDepth 100000
set_option linter.unusedVariables false
variable {W W' w : World} {c : Cv} {b N : Nat} {s : Sl}
theorem rcheck_any (c : Cv) (w : World) (h : CfgOk w c) : Calls Tryz.prog 59 #[(.agg #[.int .i64 c.cats,.slice c.g.a c.g.l.length c.g.cap,.slice c.r.a c.r.l.length c.r.cap,.slice c.p.a c.p.l.length c.p.cap,.slice c.n.a c.n.l.length c.n.cap,.slice c.s.a c.s.l.length c.s.cap,.int .i64 c.gate,.int .i64 c.quota])] w fun e w'=>e = .returned (.tuple #[.int .i64 (chkV c).1,.int .i64 (chkV c).2]) ∧ Below w.heap.size w w':=by
 obtain ⟨x,hx⟩ : ∃ x,x = chkV c:=⟨_,rfl⟩
 rw [← hx]
 have HG : Hid (x = chkV c):=hx
 clear hx
 by_cases h1 : c.cats < 0
 ·have d1 : decide (c.cats < 0) = true:=by simp [h1]
  obtain rfl : x = (12,0):=by rw [HG.out,chkV,if_pos (Or.inl h1)]
  clear h1 HG
  ((have h0:=CX.new h;go_enter Tryz.func59,Tryz.ntmps59;go_upto_region 1 with fail;generalize w.alloc (.cells #[.int .i64 c.cats,.slice c.g.a c.g.l.length c.g.cap,.slice c.r.a c.r.l.length c.r.cap,.slice c.p.a c.p.l.length c.p.cap,.slice c.n.a c.n.l.length c.n.cap,.slice c.s.a c.s.l.length c.s.cap,.int .i64 c.gate,.int .i64 c.quota] 29) = W1 at h0 ⊢;generalize w.heap.size = b0 at h0 ⊢;have H0:=Lib.hid h0;clear h0 h);have XK:=H0;clear H0;(have q0:=XK.out.ob.cell 0 _ rfl;have q1:=XK.out.ob.cell 1 _ rfl;have q2:=XK.out.ob.cell 2 _ rfl;have q3:=XK.out.ob.cell 3 _ rfl;have q4:=XK.out.ob.cell 4 _ rfl;have q5:=XK.out.ob.cell 5 _ rfl;have q6:=XK.out.ob.cell 6 _ rfl;have q7:=XK.out.ob.cell 7 _ rfl))
  go_wp2_with fail
  go_ret2
  exact ⟨rfl,XK.out.bel⟩
 ·have d1 : decide (c.cats < 0) = false:=by simp [h1]
  by_cases h2 : 8 < c.cats
  ·have d2 : decide (c.cats > 8) = true:=by simp [h2]
   obtain rfl : x = (12,0):=by rw [HG.out,chkV,if_pos (Or.inr h2)]
   clear h1 h2 HG
   ((have h0:=CX.new h;go_enter Tryz.func59,Tryz.ntmps59;go_upto_region 1 with fail;generalize w.alloc (.cells #[.int .i64 c.cats,.slice c.g.a c.g.l.length c.g.cap,.slice c.r.a c.r.l.length c.r.cap,.slice c.p.a c.p.l.length c.p.cap,.slice c.n.a c.n.l.length c.n.cap,.slice c.s.a c.s.l.length c.s.cap,.int .i64 c.gate,.int .i64 c.quota] 29) = W1 at h0 ⊢;generalize w.heap.size = b0 at h0 ⊢;have H0:=Lib.hid h0;clear h0 h);have XK:=H0;clear H0;(have q0:=XK.out.ob.cell 0 _ rfl;have q1:=XK.out.ob.cell 1 _ rfl;have q2:=XK.out.ob.cell 2 _ rfl;have q3:=XK.out.ob.cell 3 _ rfl;have q4:=XK.out.ob.cell 4 _ rfl;have q5:=XK.out.ob.cell 5 _ rfl;have q6:=XK.out.ob.cell 6 _ rfl;have q7:=XK.out.ob.cell 7 _ rfl))
   go_wp2_with fail
   go_ret2
   exact ⟨rfl,XK.out.bel⟩
  ·have d2 : decide (c.cats > 8) = false:=by simpa using h2
   have hx : x = match (List.range 6).find? fun k=>(ruleV c k).2 with
    | some k=>((13 + k : Int),(ruleV c k).1)
    | none=>if 32 < needV c then (19,0) else (0,0):=by rw [HG.out,chkV,if_neg (by omega)];rfl
   replace HG:=Lib.hid hx
   clear h1 h2 hx
   have HC:=Lib.hid h
   obtain ⟨v0,hv0⟩ : ∃ v,v = ruleV c 0:=⟨_,rfl⟩
   obtain ⟨v1,hv1⟩ : ∃ v,v = ruleV c 1:=⟨_,rfl⟩
   obtain ⟨v2,hv2⟩ : ∃ v,v = ruleV c 2:=⟨_,rfl⟩
   obtain ⟨v3,hv3⟩ : ∃ v,v = ruleV c 3:=⟨_,rfl⟩
   obtain ⟨v4,hv4⟩ : ∃ v,v = ruleV c 4:=⟨_,rfl⟩
   obtain ⟨v5,hv5⟩ : ∃ v,v = isG c c.gate:=⟨_,rfl⟩
   have C0 : Hid (∀ W,CfgOk W c → Calls Tryz.prog 100 #[(.agg #[.int .i64 c.cats,.slice c.g.a c.g.l.length c.g.cap,.slice c.r.a c.r.l.length c.r.cap,.slice c.p.a c.p.l.length c.p.cap,.slice c.n.a c.n.l.length c.n.cap,.slice c.s.a c.s.l.length c.s.cap,.int .i64 c.gate,.int .i64 c.quota])] W fun e w'=>e = .returned (.tuple #[.bool v0.2,.int .i64 v0.1]) ∧ Below W.heap.size W w'):=fun W hc=>by rw [hv0];exact rguests_any c _ hc
   have C1 : Hid (∀ W,CfgOk W c → Calls Tryz.prog 101 #[(.agg #[.int .i64 c.cats,.slice c.g.a c.g.l.length c.g.cap,.slice c.r.a c.r.l.length c.r.cap,.slice c.p.a c.p.l.length c.p.cap,.slice c.n.a c.n.l.length c.n.cap,.slice c.s.a c.s.l.length c.s.cap,.int .i64 c.gate,.int .i64 c.quota])] W fun e w'=>e = .returned (.tuple #[.bool v1.2,.int .i64 v1.1]) ∧ Below W.heap.size W w'):=fun W hc=>by rw [hv1];exact rranges_any c _ hc
   have C2 : Hid (∀ W,CfgOk W c → Calls Tryz.prog 102 #[(.agg #[.int .i64 c.cats,.slice c.g.a c.g.l.length c.g.cap,.slice c.r.a c.r.l.length c.r.cap,.slice c.p.a c.p.l.length c.p.cap,.slice c.n.a c.n.l.length c.n.cap,.slice c.s.a c.s.l.length c.s.cap,.int .i64 c.gate,.int .i64 c.quota])] W fun e w'=>e = .returned (.tuple #[.bool v2.2,.int .i64 v2.1]) ∧ Below W.heap.size W w'):=fun W hc=>by rw [hv2];exact rports_any c _ hc
   have C3 : Hid (∀ W,CfgOk W c → Calls Tryz.prog 103 #[(.agg #[.int .i64 c.cats,.slice c.g.a c.g.l.length c.g.cap,.slice c.r.a c.r.l.length c.r.cap,.slice c.p.a c.p.l.length c.p.cap,.slice c.n.a c.n.l.length c.n.cap,.slice c.s.a c.s.l.length c.s.cap,.int .i64 c.gate,.int .i64 c.quota])] W fun e w'=>e = .returned (.tuple #[.bool v3.2,.int .i64 v3.1]) ∧ Below W.heap.size W w'):=fun W hc=>by rw [hv3];exact rrings_any c _ hc
   have C4 : Hid (∀ W,CfgOk W c → Calls Tryz.prog 104 #[(.agg #[.int .i64 c.cats,.slice c.g.a c.g.l.length c.g.cap,.slice c.r.a c.r.l.length c.r.cap,.slice c.p.a c.p.l.length c.p.cap,.slice c.n.a c.n.l.length c.n.cap,.slice c.s.a c.s.l.length c.s.cap,.int .i64 c.gate,.int .i64 c.quota])] W fun e w'=>e = .returned (.tuple #[.bool v4.2,.int .i64 v4.1]) ∧ Below W.heap.size W w'):=fun W hc=>by rw [hv4];exact rslots_any c _ hc
   have GUE : Hid (∀ W,CfgOk W c → Calls Tryz.prog 105 #[(.agg #[.int .i64 c.cats,.slice c.g.a c.g.l.length c.g.cap,.slice c.r.a c.r.l.length c.r.cap,.slice c.p.a c.p.l.length c.p.cap,.slice c.n.a c.n.l.length c.n.cap,.slice c.s.a c.s.l.length c.s.cap,.int .i64 c.gate,.int .i64 c.quota]),.int .i64 c.gate] W fun e w'=>e = .returned (.bool v5) ∧ Below W.heap.size W w'):=fun W h=>by rw [hv5];exact isGuest_any _ _ _ h
   have Hv0:=Lib.hid hv0;have Hv1:=Lib.hid hv1;have Hv2:=Lib.hid hv2;have Hv3:=Lib.hid hv3;have Hv4:=Lib.hid hv4
   clear hv0 hv1 hv2 hv3 hv4
   obtain ⟨i0,b0⟩:=v0
   dsimp only at C0
   cases b0 with
   | true=>
    have hx : x = (13 + 0,i0):=by rw [HG.out,rule_hit (k:=0) (by omega) (fun j hj=>by omega) (by rw [← Hv0.out])];dsimp only;rw [← Hv0.out];rfl
    subst hx
    clear HG hv5 Hv0 Hv1 Hv2 Hv3 Hv4 GUE C1 C2 C3 C4
    ((have h0:=CX.new h;go_enter Tryz.func59,Tryz.ntmps59;go_upto_region 1 with fail;generalize w.alloc (.cells #[.int .i64 c.cats,.slice c.g.a c.g.l.length c.g.cap,.slice c.r.a c.r.l.length c.r.cap,.slice c.p.a c.p.l.length c.p.cap,.slice c.n.a c.n.l.length c.n.cap,.slice c.s.a c.s.l.length c.s.cap,.int .i64 c.gate,.int .i64 c.quota] 29) = W1 at h0 ⊢;generalize w.heap.size = b0 at h0 ⊢;have H0:=Lib.hid h0;clear h0 h);have XK:=H0;clear H0;(have q0:=XK.out.ob.cell 0 _ rfl;have q1:=XK.out.ob.cell 1 _ rfl;have q2:=XK.out.ob.cell 2 _ rfl;have q3:=XK.out.ob.cell 3 _ rfl;have q4:=XK.out.ob.cell 4 _ rfl;have q5:=XK.out.ob.cell 5 _ rfl;have q6:=XK.out.ob.cell 6 _ rfl;have q7:=XK.out.ob.cell 7 _ rfl))
    go_wp2_with (go_at_call 100;refine (C0.out _ XK.out.ok).mono ?_;rintro e Wc ⟨rfl,hb⟩;replace XK:=Lib.hid (XK.out.below hb);clear hb;(replace q0:=XK.out.ob.cell 0 _ rfl;replace q1:=XK.out.ob.cell 1 _ rfl;replace q2:=XK.out.ob.cell 2 _ rfl;replace q3:=XK.out.ob.cell 3 _ rfl;replace q4:=XK.out.ob.cell 4 _ rfl;replace q5:=XK.out.ob.cell 5 _ rfl;replace q6:=XK.out.ob.cell 6 _ rfl;replace q7:=XK.out.ob.cell 7 _ rfl))
    go_ret2
    exact ⟨rfl,XK.out.bel⟩
   | false=>
    have F0 : Hid ((ruleV c 0).2 = false):=by rw [Hid,← Hv0.out]
    obtain ⟨i1,b1⟩:=v1
    dsimp only at C1
    cases b1 with
    | true=>
     have hx : x = (13 + 1,i1):=by rw [HG.out,rule_hit (k:=1) (by omega) (fun j hj=>by rw [show j = 0 by omega];exact F0.out) (by rw [← Hv1.out])];dsimp only;rw [← Hv1.out];rfl
     subst hx
     clear HG hv5 Hv0 Hv1 Hv2 Hv3 Hv4 GUE C2 C3 C4 F0
     ((have h0:=CX.new h;go_enter Tryz.func59,Tryz.ntmps59;go_upto_region 1 with fail;generalize w.alloc (.cells #[.int .i64 c.cats,.slice c.g.a c.g.l.length c.g.cap,.slice c.r.a c.r.l.length c.r.cap,.slice c.p.a c.p.l.length c.p.cap,.slice c.n.a c.n.l.length c.n.cap,.slice c.s.a c.s.l.length c.s.cap,.int .i64 c.gate,.int .i64 c.quota] 29) = W1 at h0 ⊢;generalize w.heap.size = b0 at h0 ⊢;have H0:=Lib.hid h0;clear h0 h);have XK:=H0;clear H0;(have q0:=XK.out.ob.cell 0 _ rfl;have q1:=XK.out.ob.cell 1 _ rfl;have q2:=XK.out.ob.cell 2 _ rfl;have q3:=XK.out.ob.cell 3 _ rfl;have q4:=XK.out.ob.cell 4 _ rfl;have q5:=XK.out.ob.cell 5 _ rfl;have q6:=XK.out.ob.cell 6 _ rfl;have q7:=XK.out.ob.cell 7 _ rfl))
     go_wp2_with (first | (go_at_call 100;refine (C0.out _ XK.out.ok).mono ?_;rintro e Wc ⟨rfl,hb⟩;replace XK:=Lib.hid (XK.out.below hb);clear hb;(replace q0:=XK.out.ob.cell 0 _ rfl;replace q1:=XK.out.ob.cell 1 _ rfl;replace q2:=XK.out.ob.cell 2 _ rfl;replace q3:=XK.out.ob.cell 3 _ rfl;replace q4:=XK.out.ob.cell 4 _ rfl;replace q5:=XK.out.ob.cell 5 _ rfl;replace q6:=XK.out.ob.cell 6 _ rfl;replace q7:=XK.out.ob.cell 7 _ rfl)) | (go_at_call 101;refine (C1.out _ XK.out.ok).mono ?_;rintro e Wc ⟨rfl,hb⟩;replace XK:=Lib.hid (XK.out.below hb);clear hb;(replace q0:=XK.out.ob.cell 0 _ rfl;replace q1:=XK.out.ob.cell 1 _ rfl;replace q2:=XK.out.ob.cell 2 _ rfl;replace q3:=XK.out.ob.cell 3 _ rfl;replace q4:=XK.out.ob.cell 4 _ rfl;replace q5:=XK.out.ob.cell 5 _ rfl;replace q6:=XK.out.ob.cell 6 _ rfl;replace q7:=XK.out.ob.cell 7 _ rfl)))
     go_ret2
     exact ⟨rfl,XK.out.bel⟩
    | false=>
     have F1 : Hid ((ruleV c 1).2 = false):=by rw [Hid,← Hv1.out]
     obtain ⟨i2,b2⟩:=v2
     dsimp only at C2
     cases b2 with
     | true=>
      have hx : x = (13 + 2,i2):=by rw [HG.out,rule_hit (k:=2) (by omega) (fun j hj=>by rcases (show j = 0 ∨ j = 1 by omega) with rfl | rfl;exact F0.out;exact F1.out) (by rw [← Hv2.out])];dsimp only;rw [← Hv2.out];rfl
      subst hx
      clear HG hv5 Hv0 Hv1 Hv2 Hv3 Hv4 GUE C3 C4 F0 F1
      ((have h0:=CX.new h;go_enter Tryz.func59,Tryz.ntmps59;go_upto_region 1 with fail;generalize w.alloc (.cells #[.int .i64 c.cats,.slice c.g.a c.g.l.length c.g.cap,.slice c.r.a c.r.l.length c.r.cap,.slice c.p.a c.p.l.length c.p.cap,.slice c.n.a c.n.l.length c.n.cap,.slice c.s.a c.s.l.length c.s.cap,.int .i64 c.gate,.int .i64 c.quota] 29) = W1 at h0 ⊢;generalize w.heap.size = b0 at h0 ⊢;have H0:=Lib.hid h0;clear h0 h);have XK:=H0;clear H0;(have q0:=XK.out.ob.cell 0 _ rfl;have q1:=XK.out.ob.cell 1 _ rfl;have q2:=XK.out.ob.cell 2 _ rfl;have q3:=XK.out.ob.cell 3 _ rfl;have q4:=XK.out.ob.cell 4 _ rfl;have q5:=XK.out.ob.cell 5 _ rfl;have q6:=XK.out.ob.cell 6 _ rfl;have q7:=XK.out.ob.cell 7 _ rfl))
      go_wp2_with (first | (go_at_call 100;refine (C0.out _ XK.out.ok).mono ?_;rintro e Wc ⟨rfl,hb⟩;replace XK:=Lib.hid (XK.out.below hb);clear hb;(replace q0:=XK.out.ob.cell 0 _ rfl;replace q1:=XK.out.ob.cell 1 _ rfl;replace q2:=XK.out.ob.cell 2 _ rfl;replace q3:=XK.out.ob.cell 3 _ rfl;replace q4:=XK.out.ob.cell 4 _ rfl;replace q5:=XK.out.ob.cell 5 _ rfl;replace q6:=XK.out.ob.cell 6 _ rfl;replace q7:=XK.out.ob.cell 7 _ rfl)) | (go_at_call 101;refine (C1.out _ XK.out.ok).mono ?_;rintro e Wc ⟨rfl,hb⟩;replace XK:=Lib.hid (XK.out.below hb);clear hb;(replace q0:=XK.out.ob.cell 0 _ rfl;replace q1:=XK.out.ob.cell 1 _ rfl;replace q2:=XK.out.ob.cell 2 _ rfl;replace q3:=XK.out.ob.cell 3 _ rfl;replace q4:=XK.out.ob.cell 4 _ rfl;replace q5:=XK.out.ob.cell 5 _ rfl;replace q6:=XK.out.ob.cell 6 _ rfl;replace q7:=XK.out.ob.cell 7 _ rfl)) | (go_at_call 102;refine (C2.out _ XK.out.ok).mono ?_;rintro e Wc ⟨rfl,hb⟩;replace XK:=Lib.hid (XK.out.below hb);clear hb;(replace q0:=XK.out.ob.cell 0 _ rfl;replace q1:=XK.out.ob.cell 1 _ rfl;replace q2:=XK.out.ob.cell 2 _ rfl;replace q3:=XK.out.ob.cell 3 _ rfl;replace q4:=XK.out.ob.cell 4 _ rfl;replace q5:=XK.out.ob.cell 5 _ rfl;replace q6:=XK.out.ob.cell 6 _ rfl;replace q7:=XK.out.ob.cell 7 _ rfl)))
      go_ret2
      exact ⟨rfl,XK.out.bel⟩
     | false=>
      have F2 : Hid ((ruleV c 2).2 = false):=by rw [Hid,← Hv2.out]
      obtain ⟨i3,b3⟩:=v3
      dsimp only at C3
      cases b3 with
      | true=>
       have hx : x = (13 + 3,i3):=by rw [HG.out,rule_hit (k:=3) (by omega) (fun j hj=>by rcases (show j = 0 ∨ j = 1 ∨ j = 2 by omega) with rfl | rfl | rfl;exact F0.out;exact F1.out;exact F2.out) (by rw [← Hv3.out])];dsimp only;rw [← Hv3.out];rfl
       subst hx
       clear HG hv5 Hv0 Hv1 Hv2 Hv3 Hv4 GUE C4 F0 F1 F2
       ((have h0:=CX.new h;go_enter Tryz.func59,Tryz.ntmps59;go_upto_region 1 with fail;generalize w.alloc (.cells #[.int .i64 c.cats,.slice c.g.a c.g.l.length c.g.cap,.slice c.r.a c.r.l.length c.r.cap,.slice c.p.a c.p.l.length c.p.cap,.slice c.n.a c.n.l.length c.n.cap,.slice c.s.a c.s.l.length c.s.cap,.int .i64 c.gate,.int .i64 c.quota] 29) = W1 at h0 ⊢;generalize w.heap.size = b0 at h0 ⊢;have H0:=Lib.hid h0;clear h0 h);have XK:=H0;clear H0;(have q0:=XK.out.ob.cell 0 _ rfl;have q1:=XK.out.ob.cell 1 _ rfl;have q2:=XK.out.ob.cell 2 _ rfl;have q3:=XK.out.ob.cell 3 _ rfl;have q4:=XK.out.ob.cell 4 _ rfl;have q5:=XK.out.ob.cell 5 _ rfl;have q6:=XK.out.ob.cell 6 _ rfl;have q7:=XK.out.ob.cell 7 _ rfl))
       go_wp2_with (first | (go_at_call 100;refine (C0.out _ XK.out.ok).mono ?_;rintro e Wc ⟨rfl,hb⟩;replace XK:=Lib.hid (XK.out.below hb);clear hb;(replace q0:=XK.out.ob.cell 0 _ rfl;replace q1:=XK.out.ob.cell 1 _ rfl;replace q2:=XK.out.ob.cell 2 _ rfl;replace q3:=XK.out.ob.cell 3 _ rfl;replace q4:=XK.out.ob.cell 4 _ rfl;replace q5:=XK.out.ob.cell 5 _ rfl;replace q6:=XK.out.ob.cell 6 _ rfl;replace q7:=XK.out.ob.cell 7 _ rfl)) | (go_at_call 101;refine (C1.out _ XK.out.ok).mono ?_;rintro e Wc ⟨rfl,hb⟩;replace XK:=Lib.hid (XK.out.below hb);clear hb;(replace q0:=XK.out.ob.cell 0 _ rfl;replace q1:=XK.out.ob.cell 1 _ rfl;replace q2:=XK.out.ob.cell 2 _ rfl;replace q3:=XK.out.ob.cell 3 _ rfl;replace q4:=XK.out.ob.cell 4 _ rfl;replace q5:=XK.out.ob.cell 5 _ rfl;replace q6:=XK.out.ob.cell 6 _ rfl;replace q7:=XK.out.ob.cell 7 _ rfl)) | (go_at_call 102;refine (C2.out _ XK.out.ok).mono ?_;rintro e Wc ⟨rfl,hb⟩;replace XK:=Lib.hid (XK.out.below hb);clear hb;(replace q0:=XK.out.ob.cell 0 _ rfl;replace q1:=XK.out.ob.cell 1 _ rfl;replace q2:=XK.out.ob.cell 2 _ rfl;replace q3:=XK.out.ob.cell 3 _ rfl;replace q4:=XK.out.ob.cell 4 _ rfl;replace q5:=XK.out.ob.cell 5 _ rfl;replace q6:=XK.out.ob.cell 6 _ rfl;replace q7:=XK.out.ob.cell 7 _ rfl)) | (go_at_call 103;refine (C3.out _ XK.out.ok).mono ?_;rintro e Wc ⟨rfl,hb⟩;replace XK:=Lib.hid (XK.out.below hb);clear hb;(replace q0:=XK.out.ob.cell 0 _ rfl;replace q1:=XK.out.ob.cell 1 _ rfl;replace q2:=XK.out.ob.cell 2 _ rfl;replace q3:=XK.out.ob.cell 3 _ rfl;replace q4:=XK.out.ob.cell 4 _ rfl;replace q5:=XK.out.ob.cell 5 _ rfl;replace q6:=XK.out.ob.cell 6 _ rfl;replace q7:=XK.out.ob.cell 7 _ rfl)))
       go_ret2
       exact ⟨rfl,XK.out.bel⟩
      | false=>
       have F3 : Hid ((ruleV c 3).2 = false):=by rw [Hid,← Hv3.out]
       obtain ⟨i4,b4⟩:=v4
       dsimp only at C4
       cases b4 with
       | true=>
        have hx : x = (13 + 4,i4):=by rw [HG.out,rule_hit (k:=4) (by omega) (fun j hj=>by rcases (show j = 0 ∨ j = 1 ∨ j = 2 ∨ j = 3 by omega) with rfl | rfl | rfl | rfl;exact F0.out;exact F1.out;exact F2.out;exact F3.out) (by rw [← Hv4.out])];dsimp only;rw [← Hv4.out];rfl
        subst hx
        clear HG hv5 Hv0 Hv1 Hv2 Hv3 Hv4 GUE F0 F1 F2 F3
        ((have h0:=CX.new h;go_enter Tryz.func59,Tryz.ntmps59;go_upto_region 1 with fail;generalize w.alloc (.cells #[.int .i64 c.cats,.slice c.g.a c.g.l.length c.g.cap,.slice c.r.a c.r.l.length c.r.cap,.slice c.p.a c.p.l.length c.p.cap,.slice c.n.a c.n.l.length c.n.cap,.slice c.s.a c.s.l.length c.s.cap,.int .i64 c.gate,.int .i64 c.quota] 29) = W1 at h0 ⊢;generalize w.heap.size = b0 at h0 ⊢;have H0:=Lib.hid h0;clear h0 h);have XK:=H0;clear H0;(have q0:=XK.out.ob.cell 0 _ rfl;have q1:=XK.out.ob.cell 1 _ rfl;have q2:=XK.out.ob.cell 2 _ rfl;have q3:=XK.out.ob.cell 3 _ rfl;have q4:=XK.out.ob.cell 4 _ rfl;have q5:=XK.out.ob.cell 5 _ rfl;have q6:=XK.out.ob.cell 6 _ rfl;have q7:=XK.out.ob.cell 7 _ rfl))
        go_wp2_with (first | (go_at_call 100;refine (C0.out _ XK.out.ok).mono ?_;rintro e Wc ⟨rfl,hb⟩;replace XK:=Lib.hid (XK.out.below hb);clear hb;(replace q0:=XK.out.ob.cell 0 _ rfl;replace q1:=XK.out.ob.cell 1 _ rfl;replace q2:=XK.out.ob.cell 2 _ rfl;replace q3:=XK.out.ob.cell 3 _ rfl;replace q4:=XK.out.ob.cell 4 _ rfl;replace q5:=XK.out.ob.cell 5 _ rfl;replace q6:=XK.out.ob.cell 6 _ rfl;replace q7:=XK.out.ob.cell 7 _ rfl)) | (go_at_call 101;refine (C1.out _ XK.out.ok).mono ?_;rintro e Wc ⟨rfl,hb⟩;replace XK:=Lib.hid (XK.out.below hb);clear hb;(replace q0:=XK.out.ob.cell 0 _ rfl;replace q1:=XK.out.ob.cell 1 _ rfl;replace q2:=XK.out.ob.cell 2 _ rfl;replace q3:=XK.out.ob.cell 3 _ rfl;replace q4:=XK.out.ob.cell 4 _ rfl;replace q5:=XK.out.ob.cell 5 _ rfl;replace q6:=XK.out.ob.cell 6 _ rfl;replace q7:=XK.out.ob.cell 7 _ rfl)) | (go_at_call 102;refine (C2.out _ XK.out.ok).mono ?_;rintro e Wc ⟨rfl,hb⟩;replace XK:=Lib.hid (XK.out.below hb);clear hb;(replace q0:=XK.out.ob.cell 0 _ rfl;replace q1:=XK.out.ob.cell 1 _ rfl;replace q2:=XK.out.ob.cell 2 _ rfl;replace q3:=XK.out.ob.cell 3 _ rfl;replace q4:=XK.out.ob.cell 4 _ rfl;replace q5:=XK.out.ob.cell 5 _ rfl;replace q6:=XK.out.ob.cell 6 _ rfl;replace q7:=XK.out.ob.cell 7 _ rfl)) | (go_at_call 103;refine (C3.out _ XK.out.ok).mono ?_;rintro e Wc ⟨rfl,hb⟩;replace XK:=Lib.hid (XK.out.below hb);clear hb;(replace q0:=XK.out.ob.cell 0 _ rfl;replace q1:=XK.out.ob.cell 1 _ rfl;replace q2:=XK.out.ob.cell 2 _ rfl;replace q3:=XK.out.ob.cell 3 _ rfl;replace q4:=XK.out.ob.cell 4 _ rfl;replace q5:=XK.out.ob.cell 5 _ rfl;replace q6:=XK.out.ob.cell 6 _ rfl;replace q7:=XK.out.ob.cell 7 _ rfl)) | (go_at_call 104;refine (C4.out _ XK.out.ok).mono ?_;rintro e Wc ⟨rfl,hb⟩;replace XK:=Lib.hid (XK.out.below hb);clear hb;(replace q0:=XK.out.ob.cell 0 _ rfl;replace q1:=XK.out.ob.cell 1 _ rfl;replace q2:=XK.out.ob.cell 2 _ rfl;replace q3:=XK.out.ob.cell 3 _ rfl;replace q4:=XK.out.ob.cell 4 _ rfl;replace q5:=XK.out.ob.cell 5 _ rfl;replace q6:=XK.out.ob.cell 6 _ rfl;replace q7:=XK.out.ob.cell 7 _ rfl)))
        go_ret2
        exact ⟨rfl,XK.out.bel⟩
       | false=>
        have F4 : Hid ((ruleV c 4).2 = false):=by rw [Hid,← Hv4.out]
        have hgk : GOk c:=gok_of F0.out F3.out
        have NEE : Hid (∀ W,CfgOk W c → Calls Tryz.prog 106 #[(.agg #[.int .i64 c.cats,.slice c.g.a c.g.l.length c.g.cap,.slice c.r.a c.r.l.length c.r.cap,.slice c.p.a c.p.l.length c.p.cap,.slice c.n.a c.n.l.length c.n.cap,.slice c.s.a c.s.l.length c.s.cap,.int .i64 c.gate,.int .i64 c.quota])] W fun e w'=>e = .returned (.int .i64 (needV c)) ∧ Below W.heap.size W w'):=fun W hc=>rneed_any c hgk _ hc
        have HBAD : Hid (gateB c = true → x = (18,0)):=fun hb=>by
         rw [HG.out,rule_hit (k:=5) (by omega) (fun j hj=>by rcases (show j = 0 ∨ j = 1 ∨ j = 2 ∨ j = 3 ∨ j = 4 by omega) with rfl | rfl | rfl | rfl | rfl;exact F0.out;exact F1.out;exact F2.out;exact F3.out;exact F4.out) hb];rfl
        have HGOOD : Hid (gateB c = false → x = if 32 < needV c then (19,0) else (0,0)):=fun hb=>by
         rw [HG.out,rule_none (fun j hj=>by rcases (show j = 0 ∨ j = 1 ∨ j = 2 ∨ j = 3 ∨ j = 4 ∨ j = 5 by omega) with rfl | rfl | rfl | rfl | rfl | rfl;exact F0.out;exact F1.out;exact F2.out;exact F3.out;exact F4.out;exact hb)]
        have GAT : Hid (gateB c = if c.gate = -1 then (c.quota != 0) else !v5 || (decide (c.quota < 0) || decide (64 < c.quota))):=by rw [Hid,hv5];rfl
        clear HG hv5 Hv0 Hv1 Hv2 Hv3 Hv4 F0 F1 F2 F3 F4 hgk
        ((have h0:=CX.new h;go_enter Tryz.func59,Tryz.ntmps59;go_upto_region 1 with fail;generalize w.alloc (.cells #[.int .i64 c.cats,.slice c.g.a c.g.l.length c.g.cap,.slice c.r.a c.r.l.length c.r.cap,.slice c.p.a c.p.l.length c.p.cap,.slice c.n.a c.n.l.length c.n.cap,.slice c.s.a c.s.l.length c.s.cap,.int .i64 c.gate,.int .i64 c.quota] 29) = W1 at h0 ⊢;generalize w.heap.size = b0 at h0 ⊢;have H0:=Lib.hid h0;clear h0 h);have XK:=H0;clear H0;(have q0:=XK.out.ob.cell 0 _ rfl;have q1:=XK.out.ob.cell 1 _ rfl;have q2:=XK.out.ob.cell 2 _ rfl;have q3:=XK.out.ob.cell 3 _ rfl;have q4:=XK.out.ob.cell 4 _ rfl;have q5:=XK.out.ob.cell 5 _ rfl;have q6:=XK.out.ob.cell 6 _ rfl;have q7:=XK.out.ob.cell 7 _ rfl))
        go_upto_region 18 with (first | (go_at_call 100;refine (C0.out _ XK.out.ok).mono ?_;rintro e Wc ⟨rfl,hb⟩;replace XK:=Lib.hid (XK.out.below hb);clear hb;(replace q0:=XK.out.ob.cell 0 _ rfl;replace q1:=XK.out.ob.cell 1 _ rfl;replace q2:=XK.out.ob.cell 2 _ rfl;replace q3:=XK.out.ob.cell 3 _ rfl;replace q4:=XK.out.ob.cell 4 _ rfl;replace q5:=XK.out.ob.cell 5 _ rfl;replace q6:=XK.out.ob.cell 6 _ rfl;replace q7:=XK.out.ob.cell 7 _ rfl)) | (go_at_call 101;refine (C1.out _ XK.out.ok).mono ?_;rintro e Wc ⟨rfl,hb⟩;replace XK:=Lib.hid (XK.out.below hb);clear hb;(replace q0:=XK.out.ob.cell 0 _ rfl;replace q1:=XK.out.ob.cell 1 _ rfl;replace q2:=XK.out.ob.cell 2 _ rfl;replace q3:=XK.out.ob.cell 3 _ rfl;replace q4:=XK.out.ob.cell 4 _ rfl;replace q5:=XK.out.ob.cell 5 _ rfl;replace q6:=XK.out.ob.cell 6 _ rfl;replace q7:=XK.out.ob.cell 7 _ rfl)) | (go_at_call 102;refine (C2.out _ XK.out.ok).mono ?_;rintro e Wc ⟨rfl,hb⟩;replace XK:=Lib.hid (XK.out.below hb);clear hb;(replace q0:=XK.out.ob.cell 0 _ rfl;replace q1:=XK.out.ob.cell 1 _ rfl;replace q2:=XK.out.ob.cell 2 _ rfl;replace q3:=XK.out.ob.cell 3 _ rfl;replace q4:=XK.out.ob.cell 4 _ rfl;replace q5:=XK.out.ob.cell 5 _ rfl;replace q6:=XK.out.ob.cell 6 _ rfl;replace q7:=XK.out.ob.cell 7 _ rfl)) | (go_at_call 103;refine (C3.out _ XK.out.ok).mono ?_;rintro e Wc ⟨rfl,hb⟩;replace XK:=Lib.hid (XK.out.below hb);clear hb;(replace q0:=XK.out.ob.cell 0 _ rfl;replace q1:=XK.out.ob.cell 1 _ rfl;replace q2:=XK.out.ob.cell 2 _ rfl;replace q3:=XK.out.ob.cell 3 _ rfl;replace q4:=XK.out.ob.cell 4 _ rfl;replace q5:=XK.out.ob.cell 5 _ rfl;replace q6:=XK.out.ob.cell 6 _ rfl;replace q7:=XK.out.ob.cell 7 _ rfl)) | (go_at_call 104;refine (C4.out _ XK.out.ok).mono ?_;rintro e Wc ⟨rfl,hb⟩;replace XK:=Lib.hid (XK.out.below hb);clear hb;(replace q0:=XK.out.ob.cell 0 _ rfl;replace q1:=XK.out.ob.cell 1 _ rfl;replace q2:=XK.out.ob.cell 2 _ rfl;replace q3:=XK.out.ob.cell 3 _ rfl;replace q4:=XK.out.ob.cell 4 _ rfl;replace q5:=XK.out.ob.cell 5 _ rfl;replace q6:=XK.out.ob.cell 6 _ rfl;replace q7:=XK.out.ob.cell 7 _ rfl)) | (go_at_call 105;refine (GUE.out _ XK.out.ok).mono ?_;rintro e Wc ⟨rfl,hb⟩;replace XK:=Lib.hid (XK.out.below hb);clear hb;(replace q0:=XK.out.ob.cell 0 _ rfl;replace q1:=XK.out.ob.cell 1 _ rfl;replace q2:=XK.out.ob.cell 2 _ rfl;replace q3:=XK.out.ob.cell 3 _ rfl;replace q4:=XK.out.ob.cell 4 _ rfl;replace q5:=XK.out.ob.cell 5 _ rfl;replace q6:=XK.out.ob.cell 6 _ rfl;replace q7:=XK.out.ob.cell 7 _ rfl)) | (go_at_call 106;refine (NEE.out _ XK.out.ok).mono ?_;rintro e Wc ⟨rfl,hb⟩;replace XK:=Lib.hid (XK.out.below hb);clear hb;(replace q0:=XK.out.ob.cell 0 _ rfl;replace q1:=XK.out.ob.cell 1 _ rfl;replace q2:=XK.out.ob.cell 2 _ rfl;replace q3:=XK.out.ob.cell 3 _ rfl;replace q4:=XK.out.ob.cell 4 _ rfl;replace q5:=XK.out.ob.cell 5 _ rfl;replace q6:=XK.out.ob.cell 6 _ rfl;replace q7:=XK.out.ob.cell 7 _ rfl)))
        by_cases hq1 : c.quota < 0
        ·have e1 : decide (c.quota < 0) = true:=by simp [hq1]
         obtain rfl : x = (18,0):=HBAD.out (by rw [GAT.out];split <;> simp <;> omega)
         by_cases hg : c.gate = -1
         ·have eg : (c.gate != -1) = false:=by simp [hg]
          clear hq1 hg HBAD HGOOD GAT
          go_wp2_with (first | (go_at_call 100;refine (C0.out _ XK.out.ok).mono ?_;rintro e Wc ⟨rfl,hb⟩;replace XK:=Lib.hid (XK.out.below hb);clear hb;(replace q0:=XK.out.ob.cell 0 _ rfl;replace q1:=XK.out.ob.cell 1 _ rfl;replace q2:=XK.out.ob.cell 2 _ rfl;replace q3:=XK.out.ob.cell 3 _ rfl;replace q4:=XK.out.ob.cell 4 _ rfl;replace q5:=XK.out.ob.cell 5 _ rfl;replace q6:=XK.out.ob.cell 6 _ rfl;replace q7:=XK.out.ob.cell 7 _ rfl)) | (go_at_call 101;refine (C1.out _ XK.out.ok).mono ?_;rintro e Wc ⟨rfl,hb⟩;replace XK:=Lib.hid (XK.out.below hb);clear hb;(replace q0:=XK.out.ob.cell 0 _ rfl;replace q1:=XK.out.ob.cell 1 _ rfl;replace q2:=XK.out.ob.cell 2 _ rfl;replace q3:=XK.out.ob.cell 3 _ rfl;replace q4:=XK.out.ob.cell 4 _ rfl;replace q5:=XK.out.ob.cell 5 _ rfl;replace q6:=XK.out.ob.cell 6 _ rfl;replace q7:=XK.out.ob.cell 7 _ rfl)) | (go_at_call 102;refine (C2.out _ XK.out.ok).mono ?_;rintro e Wc ⟨rfl,hb⟩;replace XK:=Lib.hid (XK.out.below hb);clear hb;(replace q0:=XK.out.ob.cell 0 _ rfl;replace q1:=XK.out.ob.cell 1 _ rfl;replace q2:=XK.out.ob.cell 2 _ rfl;replace q3:=XK.out.ob.cell 3 _ rfl;replace q4:=XK.out.ob.cell 4 _ rfl;replace q5:=XK.out.ob.cell 5 _ rfl;replace q6:=XK.out.ob.cell 6 _ rfl;replace q7:=XK.out.ob.cell 7 _ rfl)) | (go_at_call 103;refine (C3.out _ XK.out.ok).mono ?_;rintro e Wc ⟨rfl,hb⟩;replace XK:=Lib.hid (XK.out.below hb);clear hb;(replace q0:=XK.out.ob.cell 0 _ rfl;replace q1:=XK.out.ob.cell 1 _ rfl;replace q2:=XK.out.ob.cell 2 _ rfl;replace q3:=XK.out.ob.cell 3 _ rfl;replace q4:=XK.out.ob.cell 4 _ rfl;replace q5:=XK.out.ob.cell 5 _ rfl;replace q6:=XK.out.ob.cell 6 _ rfl;replace q7:=XK.out.ob.cell 7 _ rfl)) | (go_at_call 104;refine (C4.out _ XK.out.ok).mono ?_;rintro e Wc ⟨rfl,hb⟩;replace XK:=Lib.hid (XK.out.below hb);clear hb;(replace q0:=XK.out.ob.cell 0 _ rfl;replace q1:=XK.out.ob.cell 1 _ rfl;replace q2:=XK.out.ob.cell 2 _ rfl;replace q3:=XK.out.ob.cell 3 _ rfl;replace q4:=XK.out.ob.cell 4 _ rfl;replace q5:=XK.out.ob.cell 5 _ rfl;replace q6:=XK.out.ob.cell 6 _ rfl;replace q7:=XK.out.ob.cell 7 _ rfl)) | (go_at_call 105;refine (GUE.out _ XK.out.ok).mono ?_;rintro e Wc ⟨rfl,hb⟩;replace XK:=Lib.hid (XK.out.below hb);clear hb;(replace q0:=XK.out.ob.cell 0 _ rfl;replace q1:=XK.out.ob.cell 1 _ rfl;replace q2:=XK.out.ob.cell 2 _ rfl;replace q3:=XK.out.ob.cell 3 _ rfl;replace q4:=XK.out.ob.cell 4 _ rfl;replace q5:=XK.out.ob.cell 5 _ rfl;replace q6:=XK.out.ob.cell 6 _ rfl;replace q7:=XK.out.ob.cell 7 _ rfl)) | (go_at_call 106;refine (NEE.out _ XK.out.ok).mono ?_;rintro e Wc ⟨rfl,hb⟩;replace XK:=Lib.hid (XK.out.below hb);clear hb;(replace q0:=XK.out.ob.cell 0 _ rfl;replace q1:=XK.out.ob.cell 1 _ rfl;replace q2:=XK.out.ob.cell 2 _ rfl;replace q3:=XK.out.ob.cell 3 _ rfl;replace q4:=XK.out.ob.cell 4 _ rfl;replace q5:=XK.out.ob.cell 5 _ rfl;replace q6:=XK.out.ob.cell 6 _ rfl;replace q7:=XK.out.ob.cell 7 _ rfl)))
          go_ret2
          exact ⟨rfl,XK.out.bel⟩
         ·have eg : (c.gate != -1) = true:=by simp [hg]
          clear hq1 hg HBAD HGOOD GAT
          cases v5 with
          | true=>
           go_wp2_with (first | (go_at_call 100;refine (C0.out _ XK.out.ok).mono ?_;rintro e Wc ⟨rfl,hb⟩;replace XK:=Lib.hid (XK.out.below hb);clear hb;(replace q0:=XK.out.ob.cell 0 _ rfl;replace q1:=XK.out.ob.cell 1 _ rfl;replace q2:=XK.out.ob.cell 2 _ rfl;replace q3:=XK.out.ob.cell 3 _ rfl;replace q4:=XK.out.ob.cell 4 _ rfl;replace q5:=XK.out.ob.cell 5 _ rfl;replace q6:=XK.out.ob.cell 6 _ rfl;replace q7:=XK.out.ob.cell 7 _ rfl)) | (go_at_call 101;refine (C1.out _ XK.out.ok).mono ?_;rintro e Wc ⟨rfl,hb⟩;replace XK:=Lib.hid (XK.out.below hb);clear hb;(replace q0:=XK.out.ob.cell 0 _ rfl;replace q1:=XK.out.ob.cell 1 _ rfl;replace q2:=XK.out.ob.cell 2 _ rfl;replace q3:=XK.out.ob.cell 3 _ rfl;replace q4:=XK.out.ob.cell 4 _ rfl;replace q5:=XK.out.ob.cell 5 _ rfl;replace q6:=XK.out.ob.cell 6 _ rfl;replace q7:=XK.out.ob.cell 7 _ rfl)) | (go_at_call 102;refine (C2.out _ XK.out.ok).mono ?_;rintro e Wc ⟨rfl,hb⟩;replace XK:=Lib.hid (XK.out.below hb);clear hb;(replace q0:=XK.out.ob.cell 0 _ rfl;replace q1:=XK.out.ob.cell 1 _ rfl;replace q2:=XK.out.ob.cell 2 _ rfl;replace q3:=XK.out.ob.cell 3 _ rfl;replace q4:=XK.out.ob.cell 4 _ rfl;replace q5:=XK.out.ob.cell 5 _ rfl;replace q6:=XK.out.ob.cell 6 _ rfl;replace q7:=XK.out.ob.cell 7 _ rfl)) | (go_at_call 103;refine (C3.out _ XK.out.ok).mono ?_;rintro e Wc ⟨rfl,hb⟩;replace XK:=Lib.hid (XK.out.below hb);clear hb;(replace q0:=XK.out.ob.cell 0 _ rfl;replace q1:=XK.out.ob.cell 1 _ rfl;replace q2:=XK.out.ob.cell 2 _ rfl;replace q3:=XK.out.ob.cell 3 _ rfl;replace q4:=XK.out.ob.cell 4 _ rfl;replace q5:=XK.out.ob.cell 5 _ rfl;replace q6:=XK.out.ob.cell 6 _ rfl;replace q7:=XK.out.ob.cell 7 _ rfl)) | (go_at_call 104;refine (C4.out _ XK.out.ok).mono ?_;rintro e Wc ⟨rfl,hb⟩;replace XK:=Lib.hid (XK.out.below hb);clear hb;(replace q0:=XK.out.ob.cell 0 _ rfl;replace q1:=XK.out.ob.cell 1 _ rfl;replace q2:=XK.out.ob.cell 2 _ rfl;replace q3:=XK.out.ob.cell 3 _ rfl;replace q4:=XK.out.ob.cell 4 _ rfl;replace q5:=XK.out.ob.cell 5 _ rfl;replace q6:=XK.out.ob.cell 6 _ rfl;replace q7:=XK.out.ob.cell 7 _ rfl)) | (go_at_call 105;refine (GUE.out _ XK.out.ok).mono ?_;rintro e Wc ⟨rfl,hb⟩;replace XK:=Lib.hid (XK.out.below hb);clear hb;(replace q0:=XK.out.ob.cell 0 _ rfl;replace q1:=XK.out.ob.cell 1 _ rfl;replace q2:=XK.out.ob.cell 2 _ rfl;replace q3:=XK.out.ob.cell 3 _ rfl;replace q4:=XK.out.ob.cell 4 _ rfl;replace q5:=XK.out.ob.cell 5 _ rfl;replace q6:=XK.out.ob.cell 6 _ rfl;replace q7:=XK.out.ob.cell 7 _ rfl)) | (go_at_call 106;refine (NEE.out _ XK.out.ok).mono ?_;rintro e Wc ⟨rfl,hb⟩;replace XK:=Lib.hid (XK.out.below hb);clear hb;(replace q0:=XK.out.ob.cell 0 _ rfl;replace q1:=XK.out.ob.cell 1 _ rfl;replace q2:=XK.out.ob.cell 2 _ rfl;replace q3:=XK.out.ob.cell 3 _ rfl;replace q4:=XK.out.ob.cell 4 _ rfl;replace q5:=XK.out.ob.cell 5 _ rfl;replace q6:=XK.out.ob.cell 6 _ rfl;replace q7:=XK.out.ob.cell 7 _ rfl)))
           go_ret2
           exact ⟨rfl,XK.out.bel⟩
          | false=>
           go_wp2_with (first | (go_at_call 100;refine (C0.out _ XK.out.ok).mono ?_;rintro e Wc ⟨rfl,hb⟩;replace XK:=Lib.hid (XK.out.below hb);clear hb;(replace q0:=XK.out.ob.cell 0 _ rfl;replace q1:=XK.out.ob.cell 1 _ rfl;replace q2:=XK.out.ob.cell 2 _ rfl;replace q3:=XK.out.ob.cell 3 _ rfl;replace q4:=XK.out.ob.cell 4 _ rfl;replace q5:=XK.out.ob.cell 5 _ rfl;replace q6:=XK.out.ob.cell 6 _ rfl;replace q7:=XK.out.ob.cell 7 _ rfl)) | (go_at_call 101;refine (C1.out _ XK.out.ok).mono ?_;rintro e Wc ⟨rfl,hb⟩;replace XK:=Lib.hid (XK.out.below hb);clear hb;(replace q0:=XK.out.ob.cell 0 _ rfl;replace q1:=XK.out.ob.cell 1 _ rfl;replace q2:=XK.out.ob.cell 2 _ rfl;replace q3:=XK.out.ob.cell 3 _ rfl;replace q4:=XK.out.ob.cell 4 _ rfl;replace q5:=XK.out.ob.cell 5 _ rfl;replace q6:=XK.out.ob.cell 6 _ rfl;replace q7:=XK.out.ob.cell 7 _ rfl)) | (go_at_call 102;refine (C2.out _ XK.out.ok).mono ?_;rintro e Wc ⟨rfl,hb⟩;replace XK:=Lib.hid (XK.out.below hb);clear hb;(replace q0:=XK.out.ob.cell 0 _ rfl;replace q1:=XK.out.ob.cell 1 _ rfl;replace q2:=XK.out.ob.cell 2 _ rfl;replace q3:=XK.out.ob.cell 3 _ rfl;replace q4:=XK.out.ob.cell 4 _ rfl;replace q5:=XK.out.ob.cell 5 _ rfl;replace q6:=XK.out.ob.cell 6 _ rfl;replace q7:=XK.out.ob.cell 7 _ rfl)) | (go_at_call 103;refine (C3.out _ XK.out.ok).mono ?_;rintro e Wc ⟨rfl,hb⟩;replace XK:=Lib.hid (XK.out.below hb);clear hb;(replace q0:=XK.out.ob.cell 0 _ rfl;replace q1:=XK.out.ob.cell 1 _ rfl;replace q2:=XK.out.ob.cell 2 _ rfl;replace q3:=XK.out.ob.cell 3 _ rfl;replace q4:=XK.out.ob.cell 4 _ rfl;replace q5:=XK.out.ob.cell 5 _ rfl;replace q6:=XK.out.ob.cell 6 _ rfl;replace q7:=XK.out.ob.cell 7 _ rfl)) | (go_at_call 104;refine (C4.out _ XK.out.ok).mono ?_;rintro e Wc ⟨rfl,hb⟩;replace XK:=Lib.hid (XK.out.below hb);clear hb;(replace q0:=XK.out.ob.cell 0 _ rfl;replace q1:=XK.out.ob.cell 1 _ rfl;replace q2:=XK.out.ob.cell 2 _ rfl;replace q3:=XK.out.ob.cell 3 _ rfl;replace q4:=XK.out.ob.cell 4 _ rfl;replace q5:=XK.out.ob.cell 5 _ rfl;replace q6:=XK.out.ob.cell 6 _ rfl;replace q7:=XK.out.ob.cell 7 _ rfl)) | (go_at_call 105;refine (GUE.out _ XK.out.ok).mono ?_;rintro e Wc ⟨rfl,hb⟩;replace XK:=Lib.hid (XK.out.below hb);clear hb;(replace q0:=XK.out.ob.cell 0 _ rfl;replace q1:=XK.out.ob.cell 1 _ rfl;replace q2:=XK.out.ob.cell 2 _ rfl;replace q3:=XK.out.ob.cell 3 _ rfl;replace q4:=XK.out.ob.cell 4 _ rfl;replace q5:=XK.out.ob.cell 5 _ rfl;replace q6:=XK.out.ob.cell 6 _ rfl;replace q7:=XK.out.ob.cell 7 _ rfl)) | (go_at_call 106;refine (NEE.out _ XK.out.ok).mono ?_;rintro e Wc ⟨rfl,hb⟩;replace XK:=Lib.hid (XK.out.below hb);clear hb;(replace q0:=XK.out.ob.cell 0 _ rfl;replace q1:=XK.out.ob.cell 1 _ rfl;replace q2:=XK.out.ob.cell 2 _ rfl;replace q3:=XK.out.ob.cell 3 _ rfl;replace q4:=XK.out.ob.cell 4 _ rfl;replace q5:=XK.out.ob.cell 5 _ rfl;replace q6:=XK.out.ob.cell 6 _ rfl;replace q7:=XK.out.ob.cell 7 _ rfl)))
           go_ret2
           exact ⟨rfl,XK.out.bel⟩
        ·have e1 : decide (c.quota < 0) = false:=by simp [hq1]
         by_cases hq2 : 64 < c.quota
         ·have e2 : decide (c.quota > 64) = true:=by simp [hq2]
          obtain rfl : x = (18,0):=HBAD.out (by rw [GAT.out];split <;> simp <;> omega)
          by_cases hg : c.gate = -1
          ·have eg : (c.gate != -1) = false:=by simp [hg]
           clear hq1 hq2 hg HBAD HGOOD GAT
           go_wp2_with (first | (go_at_call 100;refine (C0.out _ XK.out.ok).mono ?_;rintro e Wc ⟨rfl,hb⟩;replace XK:=Lib.hid (XK.out.below hb);clear hb;(replace q0:=XK.out.ob.cell 0 _ rfl;replace q1:=XK.out.ob.cell 1 _ rfl;replace q2:=XK.out.ob.cell 2 _ rfl;replace q3:=XK.out.ob.cell 3 _ rfl;replace q4:=XK.out.ob.cell 4 _ rfl;replace q5:=XK.out.ob.cell 5 _ rfl;replace q6:=XK.out.ob.cell 6 _ rfl;replace q7:=XK.out.ob.cell 7 _ rfl)) | (go_at_call 101;refine (C1.out _ XK.out.ok).mono ?_;rintro e Wc ⟨rfl,hb⟩;replace XK:=Lib.hid (XK.out.below hb);clear hb;(replace q0:=XK.out.ob.cell 0 _ rfl;replace q1:=XK.out.ob.cell 1 _ rfl;replace q2:=XK.out.ob.cell 2 _ rfl;replace q3:=XK.out.ob.cell 3 _ rfl;replace q4:=XK.out.ob.cell 4 _ rfl;replace q5:=XK.out.ob.cell 5 _ rfl;replace q6:=XK.out.ob.cell 6 _ rfl;replace q7:=XK.out.ob.cell 7 _ rfl)) | (go_at_call 102;refine (C2.out _ XK.out.ok).mono ?_;rintro e Wc ⟨rfl,hb⟩;replace XK:=Lib.hid (XK.out.below hb);clear hb;(replace q0:=XK.out.ob.cell 0 _ rfl;replace q1:=XK.out.ob.cell 1 _ rfl;replace q2:=XK.out.ob.cell 2 _ rfl;replace q3:=XK.out.ob.cell 3 _ rfl;replace q4:=XK.out.ob.cell 4 _ rfl;replace q5:=XK.out.ob.cell 5 _ rfl;replace q6:=XK.out.ob.cell 6 _ rfl;replace q7:=XK.out.ob.cell 7 _ rfl)) | (go_at_call 103;refine (C3.out _ XK.out.ok).mono ?_;rintro e Wc ⟨rfl,hb⟩;replace XK:=Lib.hid (XK.out.below hb);clear hb;(replace q0:=XK.out.ob.cell 0 _ rfl;replace q1:=XK.out.ob.cell 1 _ rfl;replace q2:=XK.out.ob.cell 2 _ rfl;replace q3:=XK.out.ob.cell 3 _ rfl;replace q4:=XK.out.ob.cell 4 _ rfl;replace q5:=XK.out.ob.cell 5 _ rfl;replace q6:=XK.out.ob.cell 6 _ rfl;replace q7:=XK.out.ob.cell 7 _ rfl)) | (go_at_call 104;refine (C4.out _ XK.out.ok).mono ?_;rintro e Wc ⟨rfl,hb⟩;replace XK:=Lib.hid (XK.out.below hb);clear hb;(replace q0:=XK.out.ob.cell 0 _ rfl;replace q1:=XK.out.ob.cell 1 _ rfl;replace q2:=XK.out.ob.cell 2 _ rfl;replace q3:=XK.out.ob.cell 3 _ rfl;replace q4:=XK.out.ob.cell 4 _ rfl;replace q5:=XK.out.ob.cell 5 _ rfl;replace q6:=XK.out.ob.cell 6 _ rfl;replace q7:=XK.out.ob.cell 7 _ rfl)) | (go_at_call 105;refine (GUE.out _ XK.out.ok).mono ?_;rintro e Wc ⟨rfl,hb⟩;replace XK:=Lib.hid (XK.out.below hb);clear hb;(replace q0:=XK.out.ob.cell 0 _ rfl;replace q1:=XK.out.ob.cell 1 _ rfl;replace q2:=XK.out.ob.cell 2 _ rfl;replace q3:=XK.out.ob.cell 3 _ rfl;replace q4:=XK.out.ob.cell 4 _ rfl;replace q5:=XK.out.ob.cell 5 _ rfl;replace q6:=XK.out.ob.cell 6 _ rfl;replace q7:=XK.out.ob.cell 7 _ rfl)) | (go_at_call 106;refine (NEE.out _ XK.out.ok).mono ?_;rintro e Wc ⟨rfl,hb⟩;replace XK:=Lib.hid (XK.out.below hb);clear hb;(replace q0:=XK.out.ob.cell 0 _ rfl;replace q1:=XK.out.ob.cell 1 _ rfl;replace q2:=XK.out.ob.cell 2 _ rfl;replace q3:=XK.out.ob.cell 3 _ rfl;replace q4:=XK.out.ob.cell 4 _ rfl;replace q5:=XK.out.ob.cell 5 _ rfl;replace q6:=XK.out.ob.cell 6 _ rfl;replace q7:=XK.out.ob.cell 7 _ rfl)))
           go_ret2
           exact ⟨rfl,XK.out.bel⟩
          ·have eg : (c.gate != -1) = true:=by simp [hg]
           clear hq1 hq2 hg HBAD HGOOD GAT
           cases v5 with
           | true=>
            go_wp2_with (first | (go_at_call 100;refine (C0.out _ XK.out.ok).mono ?_;rintro e Wc ⟨rfl,hb⟩;replace XK:=Lib.hid (XK.out.below hb);clear hb;(replace q0:=XK.out.ob.cell 0 _ rfl;replace q1:=XK.out.ob.cell 1 _ rfl;replace q2:=XK.out.ob.cell 2 _ rfl;replace q3:=XK.out.ob.cell 3 _ rfl;replace q4:=XK.out.ob.cell 4 _ rfl;replace q5:=XK.out.ob.cell 5 _ rfl;replace q6:=XK.out.ob.cell 6 _ rfl;replace q7:=XK.out.ob.cell 7 _ rfl)) | (go_at_call 101;refine (C1.out _ XK.out.ok).mono ?_;rintro e Wc ⟨rfl,hb⟩;replace XK:=Lib.hid (XK.out.below hb);clear hb;(replace q0:=XK.out.ob.cell 0 _ rfl;replace q1:=XK.out.ob.cell 1 _ rfl;replace q2:=XK.out.ob.cell 2 _ rfl;replace q3:=XK.out.ob.cell 3 _ rfl;replace q4:=XK.out.ob.cell 4 _ rfl;replace q5:=XK.out.ob.cell 5 _ rfl;replace q6:=XK.out.ob.cell 6 _ rfl;replace q7:=XK.out.ob.cell 7 _ rfl)) | (go_at_call 102;refine (C2.out _ XK.out.ok).mono ?_;rintro e Wc ⟨rfl,hb⟩;replace XK:=Lib.hid (XK.out.below hb);clear hb;(replace q0:=XK.out.ob.cell 0 _ rfl;replace q1:=XK.out.ob.cell 1 _ rfl;replace q2:=XK.out.ob.cell 2 _ rfl;replace q3:=XK.out.ob.cell 3 _ rfl;replace q4:=XK.out.ob.cell 4 _ rfl;replace q5:=XK.out.ob.cell 5 _ rfl;replace q6:=XK.out.ob.cell 6 _ rfl;replace q7:=XK.out.ob.cell 7 _ rfl)) | (go_at_call 103;refine (C3.out _ XK.out.ok).mono ?_;rintro e Wc ⟨rfl,hb⟩;replace XK:=Lib.hid (XK.out.below hb);clear hb;(replace q0:=XK.out.ob.cell 0 _ rfl;replace q1:=XK.out.ob.cell 1 _ rfl;replace q2:=XK.out.ob.cell 2 _ rfl;replace q3:=XK.out.ob.cell 3 _ rfl;replace q4:=XK.out.ob.cell 4 _ rfl;replace q5:=XK.out.ob.cell 5 _ rfl;replace q6:=XK.out.ob.cell 6 _ rfl;replace q7:=XK.out.ob.cell 7 _ rfl)) | (go_at_call 104;refine (C4.out _ XK.out.ok).mono ?_;rintro e Wc ⟨rfl,hb⟩;replace XK:=Lib.hid (XK.out.below hb);clear hb;(replace q0:=XK.out.ob.cell 0 _ rfl;replace q1:=XK.out.ob.cell 1 _ rfl;replace q2:=XK.out.ob.cell 2 _ rfl;replace q3:=XK.out.ob.cell 3 _ rfl;replace q4:=XK.out.ob.cell 4 _ rfl;replace q5:=XK.out.ob.cell 5 _ rfl;replace q6:=XK.out.ob.cell 6 _ rfl;replace q7:=XK.out.ob.cell 7 _ rfl)) | (go_at_call 105;refine (GUE.out _ XK.out.ok).mono ?_;rintro e Wc ⟨rfl,hb⟩;replace XK:=Lib.hid (XK.out.below hb);clear hb;(replace q0:=XK.out.ob.cell 0 _ rfl;replace q1:=XK.out.ob.cell 1 _ rfl;replace q2:=XK.out.ob.cell 2 _ rfl;replace q3:=XK.out.ob.cell 3 _ rfl;replace q4:=XK.out.ob.cell 4 _ rfl;replace q5:=XK.out.ob.cell 5 _ rfl;replace q6:=XK.out.ob.cell 6 _ rfl;replace q7:=XK.out.ob.cell 7 _ rfl)) | (go_at_call 106;refine (NEE.out _ XK.out.ok).mono ?_;rintro e Wc ⟨rfl,hb⟩;replace XK:=Lib.hid (XK.out.below hb);clear hb;(replace q0:=XK.out.ob.cell 0 _ rfl;replace q1:=XK.out.ob.cell 1 _ rfl;replace q2:=XK.out.ob.cell 2 _ rfl;replace q3:=XK.out.ob.cell 3 _ rfl;replace q4:=XK.out.ob.cell 4 _ rfl;replace q5:=XK.out.ob.cell 5 _ rfl;replace q6:=XK.out.ob.cell 6 _ rfl;replace q7:=XK.out.ob.cell 7 _ rfl)))
            go_ret2
            exact ⟨rfl,XK.out.bel⟩
           | false=>
            go_wp2_with (first | (go_at_call 100;refine (C0.out _ XK.out.ok).mono ?_;rintro e Wc ⟨rfl,hb⟩;replace XK:=Lib.hid (XK.out.below hb);clear hb;(replace q0:=XK.out.ob.cell 0 _ rfl;replace q1:=XK.out.ob.cell 1 _ rfl;replace q2:=XK.out.ob.cell 2 _ rfl;replace q3:=XK.out.ob.cell 3 _ rfl;replace q4:=XK.out.ob.cell 4 _ rfl;replace q5:=XK.out.ob.cell 5 _ rfl;replace q6:=XK.out.ob.cell 6 _ rfl;replace q7:=XK.out.ob.cell 7 _ rfl)) | (go_at_call 101;refine (C1.out _ XK.out.ok).mono ?_;rintro e Wc ⟨rfl,hb⟩;replace XK:=Lib.hid (XK.out.below hb);clear hb;(replace q0:=XK.out.ob.cell 0 _ rfl;replace q1:=XK.out.ob.cell 1 _ rfl;replace q2:=XK.out.ob.cell 2 _ rfl;replace q3:=XK.out.ob.cell 3 _ rfl;replace q4:=XK.out.ob.cell 4 _ rfl;replace q5:=XK.out.ob.cell 5 _ rfl;replace q6:=XK.out.ob.cell 6 _ rfl;replace q7:=XK.out.ob.cell 7 _ rfl)) | (go_at_call 102;refine (C2.out _ XK.out.ok).mono ?_;rintro e Wc ⟨rfl,hb⟩;replace XK:=Lib.hid (XK.out.below hb);clear hb;(replace q0:=XK.out.ob.cell 0 _ rfl;replace q1:=XK.out.ob.cell 1 _ rfl;replace q2:=XK.out.ob.cell 2 _ rfl;replace q3:=XK.out.ob.cell 3 _ rfl;replace q4:=XK.out.ob.cell 4 _ rfl;replace q5:=XK.out.ob.cell 5 _ rfl;replace q6:=XK.out.ob.cell 6 _ rfl;replace q7:=XK.out.ob.cell 7 _ rfl)) | (go_at_call 103;refine (C3.out _ XK.out.ok).mono ?_;rintro e Wc ⟨rfl,hb⟩;replace XK:=Lib.hid (XK.out.below hb);clear hb;(replace q0:=XK.out.ob.cell 0 _ rfl;replace q1:=XK.out.ob.cell 1 _ rfl;replace q2:=XK.out.ob.cell 2 _ rfl;replace q3:=XK.out.ob.cell 3 _ rfl;replace q4:=XK.out.ob.cell 4 _ rfl;replace q5:=XK.out.ob.cell 5 _ rfl;replace q6:=XK.out.ob.cell 6 _ rfl;replace q7:=XK.out.ob.cell 7 _ rfl)) | (go_at_call 104;refine (C4.out _ XK.out.ok).mono ?_;rintro e Wc ⟨rfl,hb⟩;replace XK:=Lib.hid (XK.out.below hb);clear hb;(replace q0:=XK.out.ob.cell 0 _ rfl;replace q1:=XK.out.ob.cell 1 _ rfl;replace q2:=XK.out.ob.cell 2 _ rfl;replace q3:=XK.out.ob.cell 3 _ rfl;replace q4:=XK.out.ob.cell 4 _ rfl;replace q5:=XK.out.ob.cell 5 _ rfl;replace q6:=XK.out.ob.cell 6 _ rfl;replace q7:=XK.out.ob.cell 7 _ rfl)) | (go_at_call 105;refine (GUE.out _ XK.out.ok).mono ?_;rintro e Wc ⟨rfl,hb⟩;replace XK:=Lib.hid (XK.out.below hb);clear hb;(replace q0:=XK.out.ob.cell 0 _ rfl;replace q1:=XK.out.ob.cell 1 _ rfl;replace q2:=XK.out.ob.cell 2 _ rfl;replace q3:=XK.out.ob.cell 3 _ rfl;replace q4:=XK.out.ob.cell 4 _ rfl;replace q5:=XK.out.ob.cell 5 _ rfl;replace q6:=XK.out.ob.cell 6 _ rfl;replace q7:=XK.out.ob.cell 7 _ rfl)) | (go_at_call 106;refine (NEE.out _ XK.out.ok).mono ?_;rintro e Wc ⟨rfl,hb⟩;replace XK:=Lib.hid (XK.out.below hb);clear hb;(replace q0:=XK.out.ob.cell 0 _ rfl;replace q1:=XK.out.ob.cell 1 _ rfl;replace q2:=XK.out.ob.cell 2 _ rfl;replace q3:=XK.out.ob.cell 3 _ rfl;replace q4:=XK.out.ob.cell 4 _ rfl;replace q5:=XK.out.ob.cell 5 _ rfl;replace q6:=XK.out.ob.cell 6 _ rfl;replace q7:=XK.out.ob.cell 7 _ rfl)))
            go_ret2
            exact ⟨rfl,XK.out.bel⟩
         ·have e2 : decide (c.quota > 64) = false:=by simpa using hq2
          by_cases hg : c.gate = -1
          ·have eg : (c.gate != -1) = false:=by simp [hg]
           have eg2 : (c.gate == -1) = true:=by simp [hg]
           by_cases hq3 : c.quota = 0
           ·have e3 : (c.quota != 0) = false:=by simp [hq3]
            have hx:=HGOOD.out (by rw [GAT.out,if_pos hg,e3])
            clear hq1 hq2 hq3 hg HBAD HGOOD GAT
            by_cases hn : 32 < needV c
            ·have dn : decide (needV c > 32) = true:=by simp [hn]
             obtain rfl : x = (19,0):=by rw [hx,if_pos hn]
             clear hx hn
             go_wp2_with (first | (go_at_call 100;refine (C0.out _ XK.out.ok).mono ?_;rintro e Wc ⟨rfl,hb⟩;replace XK:=Lib.hid (XK.out.below hb);clear hb;(replace q0:=XK.out.ob.cell 0 _ rfl;replace q1:=XK.out.ob.cell 1 _ rfl;replace q2:=XK.out.ob.cell 2 _ rfl;replace q3:=XK.out.ob.cell 3 _ rfl;replace q4:=XK.out.ob.cell 4 _ rfl;replace q5:=XK.out.ob.cell 5 _ rfl;replace q6:=XK.out.ob.cell 6 _ rfl;replace q7:=XK.out.ob.cell 7 _ rfl)) | (go_at_call 101;refine (C1.out _ XK.out.ok).mono ?_;rintro e Wc ⟨rfl,hb⟩;replace XK:=Lib.hid (XK.out.below hb);clear hb;(replace q0:=XK.out.ob.cell 0 _ rfl;replace q1:=XK.out.ob.cell 1 _ rfl;replace q2:=XK.out.ob.cell 2 _ rfl;replace q3:=XK.out.ob.cell 3 _ rfl;replace q4:=XK.out.ob.cell 4 _ rfl;replace q5:=XK.out.ob.cell 5 _ rfl;replace q6:=XK.out.ob.cell 6 _ rfl;replace q7:=XK.out.ob.cell 7 _ rfl)) | (go_at_call 102;refine (C2.out _ XK.out.ok).mono ?_;rintro e Wc ⟨rfl,hb⟩;replace XK:=Lib.hid (XK.out.below hb);clear hb;(replace q0:=XK.out.ob.cell 0 _ rfl;replace q1:=XK.out.ob.cell 1 _ rfl;replace q2:=XK.out.ob.cell 2 _ rfl;replace q3:=XK.out.ob.cell 3 _ rfl;replace q4:=XK.out.ob.cell 4 _ rfl;replace q5:=XK.out.ob.cell 5 _ rfl;replace q6:=XK.out.ob.cell 6 _ rfl;replace q7:=XK.out.ob.cell 7 _ rfl)) | (go_at_call 103;refine (C3.out _ XK.out.ok).mono ?_;rintro e Wc ⟨rfl,hb⟩;replace XK:=Lib.hid (XK.out.below hb);clear hb;(replace q0:=XK.out.ob.cell 0 _ rfl;replace q1:=XK.out.ob.cell 1 _ rfl;replace q2:=XK.out.ob.cell 2 _ rfl;replace q3:=XK.out.ob.cell 3 _ rfl;replace q4:=XK.out.ob.cell 4 _ rfl;replace q5:=XK.out.ob.cell 5 _ rfl;replace q6:=XK.out.ob.cell 6 _ rfl;replace q7:=XK.out.ob.cell 7 _ rfl)) | (go_at_call 104;refine (C4.out _ XK.out.ok).mono ?_;rintro e Wc ⟨rfl,hb⟩;replace XK:=Lib.hid (XK.out.below hb);clear hb;(replace q0:=XK.out.ob.cell 0 _ rfl;replace q1:=XK.out.ob.cell 1 _ rfl;replace q2:=XK.out.ob.cell 2 _ rfl;replace q3:=XK.out.ob.cell 3 _ rfl;replace q4:=XK.out.ob.cell 4 _ rfl;replace q5:=XK.out.ob.cell 5 _ rfl;replace q6:=XK.out.ob.cell 6 _ rfl;replace q7:=XK.out.ob.cell 7 _ rfl)) | (go_at_call 105;refine (GUE.out _ XK.out.ok).mono ?_;rintro e Wc ⟨rfl,hb⟩;replace XK:=Lib.hid (XK.out.below hb);clear hb;(replace q0:=XK.out.ob.cell 0 _ rfl;replace q1:=XK.out.ob.cell 1 _ rfl;replace q2:=XK.out.ob.cell 2 _ rfl;replace q3:=XK.out.ob.cell 3 _ rfl;replace q4:=XK.out.ob.cell 4 _ rfl;replace q5:=XK.out.ob.cell 5 _ rfl;replace q6:=XK.out.ob.cell 6 _ rfl;replace q7:=XK.out.ob.cell 7 _ rfl)) | (go_at_call 106;refine (NEE.out _ XK.out.ok).mono ?_;rintro e Wc ⟨rfl,hb⟩;replace XK:=Lib.hid (XK.out.below hb);clear hb;(replace q0:=XK.out.ob.cell 0 _ rfl;replace q1:=XK.out.ob.cell 1 _ rfl;replace q2:=XK.out.ob.cell 2 _ rfl;replace q3:=XK.out.ob.cell 3 _ rfl;replace q4:=XK.out.ob.cell 4 _ rfl;replace q5:=XK.out.ob.cell 5 _ rfl;replace q6:=XK.out.ob.cell 6 _ rfl;replace q7:=XK.out.ob.cell 7 _ rfl)))
             go_ret2
             exact ⟨rfl,XK.out.bel⟩
            ·have dn : decide (needV c > 32) = false:=by simpa using hn
             obtain rfl : x = (0,0):=by rw [hx,if_neg hn]
             clear hx hn
             go_wp2_with (first | (go_at_call 100;refine (C0.out _ XK.out.ok).mono ?_;rintro e Wc ⟨rfl,hb⟩;replace XK:=Lib.hid (XK.out.below hb);clear hb;(replace q0:=XK.out.ob.cell 0 _ rfl;replace q1:=XK.out.ob.cell 1 _ rfl;replace q2:=XK.out.ob.cell 2 _ rfl;replace q3:=XK.out.ob.cell 3 _ rfl;replace q4:=XK.out.ob.cell 4 _ rfl;replace q5:=XK.out.ob.cell 5 _ rfl;replace q6:=XK.out.ob.cell 6 _ rfl;replace q7:=XK.out.ob.cell 7 _ rfl)) | (go_at_call 101;refine (C1.out _ XK.out.ok).mono ?_;rintro e Wc ⟨rfl,hb⟩;replace XK:=Lib.hid (XK.out.below hb);clear hb;(replace q0:=XK.out.ob.cell 0 _ rfl;replace q1:=XK.out.ob.cell 1 _ rfl;replace q2:=XK.out.ob.cell 2 _ rfl;replace q3:=XK.out.ob.cell 3 _ rfl;replace q4:=XK.out.ob.cell 4 _ rfl;replace q5:=XK.out.ob.cell 5 _ rfl;replace q6:=XK.out.ob.cell 6 _ rfl;replace q7:=XK.out.ob.cell 7 _ rfl)) | (go_at_call 102;refine (C2.out _ XK.out.ok).mono ?_;rintro e Wc ⟨rfl,hb⟩;replace XK:=Lib.hid (XK.out.below hb);clear hb;(replace q0:=XK.out.ob.cell 0 _ rfl;replace q1:=XK.out.ob.cell 1 _ rfl;replace q2:=XK.out.ob.cell 2 _ rfl;replace q3:=XK.out.ob.cell 3 _ rfl;replace q4:=XK.out.ob.cell 4 _ rfl;replace q5:=XK.out.ob.cell 5 _ rfl;replace q6:=XK.out.ob.cell 6 _ rfl;replace q7:=XK.out.ob.cell 7 _ rfl)) | (go_at_call 103;refine (C3.out _ XK.out.ok).mono ?_;rintro e Wc ⟨rfl,hb⟩;replace XK:=Lib.hid (XK.out.below hb);clear hb;(replace q0:=XK.out.ob.cell 0 _ rfl;replace q1:=XK.out.ob.cell 1 _ rfl;replace q2:=XK.out.ob.cell 2 _ rfl;replace q3:=XK.out.ob.cell 3 _ rfl;replace q4:=XK.out.ob.cell 4 _ rfl;replace q5:=XK.out.ob.cell 5 _ rfl;replace q6:=XK.out.ob.cell 6 _ rfl;replace q7:=XK.out.ob.cell 7 _ rfl)) | (go_at_call 104;refine (C4.out _ XK.out.ok).mono ?_;rintro e Wc ⟨rfl,hb⟩;replace XK:=Lib.hid (XK.out.below hb);clear hb;(replace q0:=XK.out.ob.cell 0 _ rfl;replace q1:=XK.out.ob.cell 1 _ rfl;replace q2:=XK.out.ob.cell 2 _ rfl;replace q3:=XK.out.ob.cell 3 _ rfl;replace q4:=XK.out.ob.cell 4 _ rfl;replace q5:=XK.out.ob.cell 5 _ rfl;replace q6:=XK.out.ob.cell 6 _ rfl;replace q7:=XK.out.ob.cell 7 _ rfl)) | (go_at_call 105;refine (GUE.out _ XK.out.ok).mono ?_;rintro e Wc ⟨rfl,hb⟩;replace XK:=Lib.hid (XK.out.below hb);clear hb;(replace q0:=XK.out.ob.cell 0 _ rfl;replace q1:=XK.out.ob.cell 1 _ rfl;replace q2:=XK.out.ob.cell 2 _ rfl;replace q3:=XK.out.ob.cell 3 _ rfl;replace q4:=XK.out.ob.cell 4 _ rfl;replace q5:=XK.out.ob.cell 5 _ rfl;replace q6:=XK.out.ob.cell 6 _ rfl;replace q7:=XK.out.ob.cell 7 _ rfl)) | (go_at_call 106;refine (NEE.out _ XK.out.ok).mono ?_;rintro e Wc ⟨rfl,hb⟩;replace XK:=Lib.hid (XK.out.below hb);clear hb;(replace q0:=XK.out.ob.cell 0 _ rfl;replace q1:=XK.out.ob.cell 1 _ rfl;replace q2:=XK.out.ob.cell 2 _ rfl;replace q3:=XK.out.ob.cell 3 _ rfl;replace q4:=XK.out.ob.cell 4 _ rfl;replace q5:=XK.out.ob.cell 5 _ rfl;replace q6:=XK.out.ob.cell 6 _ rfl;replace q7:=XK.out.ob.cell 7 _ rfl)))
             go_ret2
             exact ⟨rfl,XK.out.bel⟩
           ·have e3 : (c.quota != 0) = true:=by simp [hq3]
            obtain rfl : x = (18,0):=HBAD.out (by rw [GAT.out,if_pos hg,e3])
            clear hq1 hq2 hq3 hg HBAD HGOOD GAT
            go_wp2_with (first | (go_at_call 100;refine (C0.out _ XK.out.ok).mono ?_;rintro e Wc ⟨rfl,hb⟩;replace XK:=Lib.hid (XK.out.below hb);clear hb;(replace q0:=XK.out.ob.cell 0 _ rfl;replace q1:=XK.out.ob.cell 1 _ rfl;replace q2:=XK.out.ob.cell 2 _ rfl;replace q3:=XK.out.ob.cell 3 _ rfl;replace q4:=XK.out.ob.cell 4 _ rfl;replace q5:=XK.out.ob.cell 5 _ rfl;replace q6:=XK.out.ob.cell 6 _ rfl;replace q7:=XK.out.ob.cell 7 _ rfl)) | (go_at_call 101;refine (C1.out _ XK.out.ok).mono ?_;rintro e Wc ⟨rfl,hb⟩;replace XK:=Lib.hid (XK.out.below hb);clear hb;(replace q0:=XK.out.ob.cell 0 _ rfl;replace q1:=XK.out.ob.cell 1 _ rfl;replace q2:=XK.out.ob.cell 2 _ rfl;replace q3:=XK.out.ob.cell 3 _ rfl;replace q4:=XK.out.ob.cell 4 _ rfl;replace q5:=XK.out.ob.cell 5 _ rfl;replace q6:=XK.out.ob.cell 6 _ rfl;replace q7:=XK.out.ob.cell 7 _ rfl)) | (go_at_call 102;refine (C2.out _ XK.out.ok).mono ?_;rintro e Wc ⟨rfl,hb⟩;replace XK:=Lib.hid (XK.out.below hb);clear hb;(replace q0:=XK.out.ob.cell 0 _ rfl;replace q1:=XK.out.ob.cell 1 _ rfl;replace q2:=XK.out.ob.cell 2 _ rfl;replace q3:=XK.out.ob.cell 3 _ rfl;replace q4:=XK.out.ob.cell 4 _ rfl;replace q5:=XK.out.ob.cell 5 _ rfl;replace q6:=XK.out.ob.cell 6 _ rfl;replace q7:=XK.out.ob.cell 7 _ rfl)) | (go_at_call 103;refine (C3.out _ XK.out.ok).mono ?_;rintro e Wc ⟨rfl,hb⟩;replace XK:=Lib.hid (XK.out.below hb);clear hb;(replace q0:=XK.out.ob.cell 0 _ rfl;replace q1:=XK.out.ob.cell 1 _ rfl;replace q2:=XK.out.ob.cell 2 _ rfl;replace q3:=XK.out.ob.cell 3 _ rfl;replace q4:=XK.out.ob.cell 4 _ rfl;replace q5:=XK.out.ob.cell 5 _ rfl;replace q6:=XK.out.ob.cell 6 _ rfl;replace q7:=XK.out.ob.cell 7 _ rfl)) | (go_at_call 104;refine (C4.out _ XK.out.ok).mono ?_;rintro e Wc ⟨rfl,hb⟩;replace XK:=Lib.hid (XK.out.below hb);clear hb;(replace q0:=XK.out.ob.cell 0 _ rfl;replace q1:=XK.out.ob.cell 1 _ rfl;replace q2:=XK.out.ob.cell 2 _ rfl;replace q3:=XK.out.ob.cell 3 _ rfl;replace q4:=XK.out.ob.cell 4 _ rfl;replace q5:=XK.out.ob.cell 5 _ rfl;replace q6:=XK.out.ob.cell 6 _ rfl;replace q7:=XK.out.ob.cell 7 _ rfl)) | (go_at_call 105;refine (GUE.out _ XK.out.ok).mono ?_;rintro e Wc ⟨rfl,hb⟩;replace XK:=Lib.hid (XK.out.below hb);clear hb;(replace q0:=XK.out.ob.cell 0 _ rfl;replace q1:=XK.out.ob.cell 1 _ rfl;replace q2:=XK.out.ob.cell 2 _ rfl;replace q3:=XK.out.ob.cell 3 _ rfl;replace q4:=XK.out.ob.cell 4 _ rfl;replace q5:=XK.out.ob.cell 5 _ rfl;replace q6:=XK.out.ob.cell 6 _ rfl;replace q7:=XK.out.ob.cell 7 _ rfl)) | (go_at_call 106;refine (NEE.out _ XK.out.ok).mono ?_;rintro e Wc ⟨rfl,hb⟩;replace XK:=Lib.hid (XK.out.below hb);clear hb;(replace q0:=XK.out.ob.cell 0 _ rfl;replace q1:=XK.out.ob.cell 1 _ rfl;replace q2:=XK.out.ob.cell 2 _ rfl;replace q3:=XK.out.ob.cell 3 _ rfl;replace q4:=XK.out.ob.cell 4 _ rfl;replace q5:=XK.out.ob.cell 5 _ rfl;replace q6:=XK.out.ob.cell 6 _ rfl;replace q7:=XK.out.ob.cell 7 _ rfl)))
            go_ret2
            exact ⟨rfl,XK.out.bel⟩
          ·have eg : (c.gate != -1) = true:=by simp [hg]
           have eg2 : (c.gate == -1) = false:=by simp [hg]
           cases v5 with
           | false=>
            obtain rfl : x = (18,0):=HBAD.out (by rw [GAT.out,if_neg hg];rfl)
            clear hq1 hq2 hg HBAD HGOOD GAT
            go_wp2_with (first | (go_at_call 100;refine (C0.out _ XK.out.ok).mono ?_;rintro e Wc ⟨rfl,hb⟩;replace XK:=Lib.hid (XK.out.below hb);clear hb;(replace q0:=XK.out.ob.cell 0 _ rfl;replace q1:=XK.out.ob.cell 1 _ rfl;replace q2:=XK.out.ob.cell 2 _ rfl;replace q3:=XK.out.ob.cell 3 _ rfl;replace q4:=XK.out.ob.cell 4 _ rfl;replace q5:=XK.out.ob.cell 5 _ rfl;replace q6:=XK.out.ob.cell 6 _ rfl;replace q7:=XK.out.ob.cell 7 _ rfl)) | (go_at_call 101;refine (C1.out _ XK.out.ok).mono ?_;rintro e Wc ⟨rfl,hb⟩;replace XK:=Lib.hid (XK.out.below hb);clear hb;(replace q0:=XK.out.ob.cell 0 _ rfl;replace q1:=XK.out.ob.cell 1 _ rfl;replace q2:=XK.out.ob.cell 2 _ rfl;replace q3:=XK.out.ob.cell 3 _ rfl;replace q4:=XK.out.ob.cell 4 _ rfl;replace q5:=XK.out.ob.cell 5 _ rfl;replace q6:=XK.out.ob.cell 6 _ rfl;replace q7:=XK.out.ob.cell 7 _ rfl)) | (go_at_call 102;refine (C2.out _ XK.out.ok).mono ?_;rintro e Wc ⟨rfl,hb⟩;replace XK:=Lib.hid (XK.out.below hb);clear hb;(replace q0:=XK.out.ob.cell 0 _ rfl;replace q1:=XK.out.ob.cell 1 _ rfl;replace q2:=XK.out.ob.cell 2 _ rfl;replace q3:=XK.out.ob.cell 3 _ rfl;replace q4:=XK.out.ob.cell 4 _ rfl;replace q5:=XK.out.ob.cell 5 _ rfl;replace q6:=XK.out.ob.cell 6 _ rfl;replace q7:=XK.out.ob.cell 7 _ rfl)) | (go_at_call 103;refine (C3.out _ XK.out.ok).mono ?_;rintro e Wc ⟨rfl,hb⟩;replace XK:=Lib.hid (XK.out.below hb);clear hb;(replace q0:=XK.out.ob.cell 0 _ rfl;replace q1:=XK.out.ob.cell 1 _ rfl;replace q2:=XK.out.ob.cell 2 _ rfl;replace q3:=XK.out.ob.cell 3 _ rfl;replace q4:=XK.out.ob.cell 4 _ rfl;replace q5:=XK.out.ob.cell 5 _ rfl;replace q6:=XK.out.ob.cell 6 _ rfl;replace q7:=XK.out.ob.cell 7 _ rfl)) | (go_at_call 104;refine (C4.out _ XK.out.ok).mono ?_;rintro e Wc ⟨rfl,hb⟩;replace XK:=Lib.hid (XK.out.below hb);clear hb;(replace q0:=XK.out.ob.cell 0 _ rfl;replace q1:=XK.out.ob.cell 1 _ rfl;replace q2:=XK.out.ob.cell 2 _ rfl;replace q3:=XK.out.ob.cell 3 _ rfl;replace q4:=XK.out.ob.cell 4 _ rfl;replace q5:=XK.out.ob.cell 5 _ rfl;replace q6:=XK.out.ob.cell 6 _ rfl;replace q7:=XK.out.ob.cell 7 _ rfl)) | (go_at_call 105;refine (GUE.out _ XK.out.ok).mono ?_;rintro e Wc ⟨rfl,hb⟩;replace XK:=Lib.hid (XK.out.below hb);clear hb;(replace q0:=XK.out.ob.cell 0 _ rfl;replace q1:=XK.out.ob.cell 1 _ rfl;replace q2:=XK.out.ob.cell 2 _ rfl;replace q3:=XK.out.ob.cell 3 _ rfl;replace q4:=XK.out.ob.cell 4 _ rfl;replace q5:=XK.out.ob.cell 5 _ rfl;replace q6:=XK.out.ob.cell 6 _ rfl;replace q7:=XK.out.ob.cell 7 _ rfl)) | (go_at_call 106;refine (NEE.out _ XK.out.ok).mono ?_;rintro e Wc ⟨rfl,hb⟩;replace XK:=Lib.hid (XK.out.below hb);clear hb;(replace q0:=XK.out.ob.cell 0 _ rfl;replace q1:=XK.out.ob.cell 1 _ rfl;replace q2:=XK.out.ob.cell 2 _ rfl;replace q3:=XK.out.ob.cell 3 _ rfl;replace q4:=XK.out.ob.cell 4 _ rfl;replace q5:=XK.out.ob.cell 5 _ rfl;replace q6:=XK.out.ob.cell 6 _ rfl;replace q7:=XK.out.ob.cell 7 _ rfl)))
            go_ret2
            exact ⟨rfl,XK.out.bel⟩
           | true=>
            have hx:=HGOOD.out (by rw [GAT.out,if_neg hg];simp;omega)
            clear hq1 hq2 hg HBAD HGOOD GAT
            by_cases hn : 32 < needV c
            ·have dn : decide (needV c > 32) = true:=by simp [hn]
             obtain rfl : x = (19,0):=by rw [hx,if_pos hn]
             clear hx hn
             go_wp2_with (first | (go_at_call 100;refine (C0.out _ XK.out.ok).mono ?_;rintro e Wc ⟨rfl,hb⟩;replace XK:=Lib.hid (XK.out.below hb);clear hb;(replace q0:=XK.out.ob.cell 0 _ rfl;replace q1:=XK.out.ob.cell 1 _ rfl;replace q2:=XK.out.ob.cell 2 _ rfl;replace q3:=XK.out.ob.cell 3 _ rfl;replace q4:=XK.out.ob.cell 4 _ rfl;replace q5:=XK.out.ob.cell 5 _ rfl;replace q6:=XK.out.ob.cell 6 _ rfl;replace q7:=XK.out.ob.cell 7 _ rfl)) | (go_at_call 101;refine (C1.out _ XK.out.ok).mono ?_;rintro e Wc ⟨rfl,hb⟩;replace XK:=Lib.hid (XK.out.below hb);clear hb;(replace q0:=XK.out.ob.cell 0 _ rfl;replace q1:=XK.out.ob.cell 1 _ rfl;replace q2:=XK.out.ob.cell 2 _ rfl;replace q3:=XK.out.ob.cell 3 _ rfl;replace q4:=XK.out.ob.cell 4 _ rfl;replace q5:=XK.out.ob.cell 5 _ rfl;replace q6:=XK.out.ob.cell 6 _ rfl;replace q7:=XK.out.ob.cell 7 _ rfl)) | (go_at_call 102;refine (C2.out _ XK.out.ok).mono ?_;rintro e Wc ⟨rfl,hb⟩;replace XK:=Lib.hid (XK.out.below hb);clear hb;(replace q0:=XK.out.ob.cell 0 _ rfl;replace q1:=XK.out.ob.cell 1 _ rfl;replace q2:=XK.out.ob.cell 2 _ rfl;replace q3:=XK.out.ob.cell 3 _ rfl;replace q4:=XK.out.ob.cell 4 _ rfl;replace q5:=XK.out.ob.cell 5 _ rfl;replace q6:=XK.out.ob.cell 6 _ rfl;replace q7:=XK.out.ob.cell 7 _ rfl)) | (go_at_call 103;refine (C3.out _ XK.out.ok).mono ?_;rintro e Wc ⟨rfl,hb⟩;replace XK:=Lib.hid (XK.out.below hb);clear hb;(replace q0:=XK.out.ob.cell 0 _ rfl;replace q1:=XK.out.ob.cell 1 _ rfl;replace q2:=XK.out.ob.cell 2 _ rfl;replace q3:=XK.out.ob.cell 3 _ rfl;replace q4:=XK.out.ob.cell 4 _ rfl;replace q5:=XK.out.ob.cell 5 _ rfl;replace q6:=XK.out.ob.cell 6 _ rfl;replace q7:=XK.out.ob.cell 7 _ rfl)) | (go_at_call 104;refine (C4.out _ XK.out.ok).mono ?_;rintro e Wc ⟨rfl,hb⟩;replace XK:=Lib.hid (XK.out.below hb);clear hb;(replace q0:=XK.out.ob.cell 0 _ rfl;replace q1:=XK.out.ob.cell 1 _ rfl;replace q2:=XK.out.ob.cell 2 _ rfl;replace q3:=XK.out.ob.cell 3 _ rfl;replace q4:=XK.out.ob.cell 4 _ rfl;replace q5:=XK.out.ob.cell 5 _ rfl;replace q6:=XK.out.ob.cell 6 _ rfl;replace q7:=XK.out.ob.cell 7 _ rfl)) | (go_at_call 105;refine (GUE.out _ XK.out.ok).mono ?_;rintro e Wc ⟨rfl,hb⟩;replace XK:=Lib.hid (XK.out.below hb);clear hb;(replace q0:=XK.out.ob.cell 0 _ rfl;replace q1:=XK.out.ob.cell 1 _ rfl;replace q2:=XK.out.ob.cell 2 _ rfl;replace q3:=XK.out.ob.cell 3 _ rfl;replace q4:=XK.out.ob.cell 4 _ rfl;replace q5:=XK.out.ob.cell 5 _ rfl;replace q6:=XK.out.ob.cell 6 _ rfl;replace q7:=XK.out.ob.cell 7 _ rfl)) | (go_at_call 106;refine (NEE.out _ XK.out.ok).mono ?_;rintro e Wc ⟨rfl,hb⟩;replace XK:=Lib.hid (XK.out.below hb);clear hb;(replace q0:=XK.out.ob.cell 0 _ rfl;replace q1:=XK.out.ob.cell 1 _ rfl;replace q2:=XK.out.ob.cell 2 _ rfl;replace q3:=XK.out.ob.cell 3 _ rfl;replace q4:=XK.out.ob.cell 4 _ rfl;replace q5:=XK.out.ob.cell 5 _ rfl;replace q6:=XK.out.ob.cell 6 _ rfl;replace q7:=XK.out.ob.cell 7 _ rfl)))
             go_ret2
             exact ⟨rfl,XK.out.bel⟩
            ·have dn : decide (needV c > 32) = false:=by simpa using hn
             obtain rfl : x = (0,0):=by rw [hx,if_neg hn]
             clear hx hn
             go_wp2_with (first | (go_at_call 100;refine (C0.out _ XK.out.ok).mono ?_;rintro e Wc ⟨rfl,hb⟩;replace XK:=Lib.hid (XK.out.below hb);clear hb;(replace q0:=XK.out.ob.cell 0 _ rfl;replace q1:=XK.out.ob.cell 1 _ rfl;replace q2:=XK.out.ob.cell 2 _ rfl;replace q3:=XK.out.ob.cell 3 _ rfl;replace q4:=XK.out.ob.cell 4 _ rfl;replace q5:=XK.out.ob.cell 5 _ rfl;replace q6:=XK.out.ob.cell 6 _ rfl;replace q7:=XK.out.ob.cell 7 _ rfl)) | (go_at_call 101;refine (C1.out _ XK.out.ok).mono ?_;rintro e Wc ⟨rfl,hb⟩;replace XK:=Lib.hid (XK.out.below hb);clear hb;(replace q0:=XK.out.ob.cell 0 _ rfl;replace q1:=XK.out.ob.cell 1 _ rfl;replace q2:=XK.out.ob.cell 2 _ rfl;replace q3:=XK.out.ob.cell 3 _ rfl;replace q4:=XK.out.ob.cell 4 _ rfl;replace q5:=XK.out.ob.cell 5 _ rfl;replace q6:=XK.out.ob.cell 6 _ rfl;replace q7:=XK.out.ob.cell 7 _ rfl)) | (go_at_call 102;refine (C2.out _ XK.out.ok).mono ?_;rintro e Wc ⟨rfl,hb⟩;replace XK:=Lib.hid (XK.out.below hb);clear hb;(replace q0:=XK.out.ob.cell 0 _ rfl;replace q1:=XK.out.ob.cell 1 _ rfl;replace q2:=XK.out.ob.cell 2 _ rfl;replace q3:=XK.out.ob.cell 3 _ rfl;replace q4:=XK.out.ob.cell 4 _ rfl;replace q5:=XK.out.ob.cell 5 _ rfl;replace q6:=XK.out.ob.cell 6 _ rfl;replace q7:=XK.out.ob.cell 7 _ rfl)) | (go_at_call 103;refine (C3.out _ XK.out.ok).mono ?_;rintro e Wc ⟨rfl,hb⟩;replace XK:=Lib.hid (XK.out.below hb);clear hb;(replace q0:=XK.out.ob.cell 0 _ rfl;replace q1:=XK.out.ob.cell 1 _ rfl;replace q2:=XK.out.ob.cell 2 _ rfl;replace q3:=XK.out.ob.cell 3 _ rfl;replace q4:=XK.out.ob.cell 4 _ rfl;replace q5:=XK.out.ob.cell 5 _ rfl;replace q6:=XK.out.ob.cell 6 _ rfl;replace q7:=XK.out.ob.cell 7 _ rfl)) | (go_at_call 104;refine (C4.out _ XK.out.ok).mono ?_;rintro e Wc ⟨rfl,hb⟩;replace XK:=Lib.hid (XK.out.below hb);clear hb;(replace q0:=XK.out.ob.cell 0 _ rfl;replace q1:=XK.out.ob.cell 1 _ rfl;replace q2:=XK.out.ob.cell 2 _ rfl;replace q3:=XK.out.ob.cell 3 _ rfl;replace q4:=XK.out.ob.cell 4 _ rfl;replace q5:=XK.out.ob.cell 5 _ rfl;replace q6:=XK.out.ob.cell 6 _ rfl;replace q7:=XK.out.ob.cell 7 _ rfl)) | (go_at_call 105;refine (GUE.out _ XK.out.ok).mono ?_;rintro e Wc ⟨rfl,hb⟩;replace XK:=Lib.hid (XK.out.below hb);clear hb;(replace q0:=XK.out.ob.cell 0 _ rfl;replace q1:=XK.out.ob.cell 1 _ rfl;replace q2:=XK.out.ob.cell 2 _ rfl;replace q3:=XK.out.ob.cell 3 _ rfl;replace q4:=XK.out.ob.cell 4 _ rfl;replace q5:=XK.out.ob.cell 5 _ rfl;replace q6:=XK.out.ob.cell 6 _ rfl;replace q7:=XK.out.ob.cell 7 _ rfl)) | (go_at_call 106;refine (NEE.out _ XK.out.ok).mono ?_;rintro e Wc ⟨rfl,hb⟩;replace XK:=Lib.hid (XK.out.below hb);clear hb;(replace q0:=XK.out.ob.cell 0 _ rfl;replace q1:=XK.out.ob.cell 1 _ rfl;replace q2:=XK.out.ob.cell 2 _ rfl;replace q3:=XK.out.ob.cell 3 _ rfl;replace q4:=XK.out.ob.cell 4 _ rfl;replace q5:=XK.out.ob.cell 5 _ rfl;replace q6:=XK.out.ob.cell 6 _ rfl;replace q7:=XK.out.ob.cell 7 _ rfl)))
             go_ret2
             exact ⟨rfl,XK.out.bel⟩
end Go.Proofs.YtoklonmiejdgmaaGreatDoor
/- The reference of plan: Parse. -/
namespace Go.Proofs.YtoklonmiejdgmaaGreatDoor
set_option linter.unusedVariables false
set_option linter.unusedSimpArgs false
set_option linter.unnecessarySimpa false
open Go.RowKit Go.Sort
set_option maxHeartbeats 4000000
set_option maxRecDepth 100000
set_option linter.unusedVariables false
theorem rparse_long (s : ByteArray) (h16 : 16384 < s.size) (hs : s.size ≤ maxLen) (w : World) : Calls Tryz.prog 28 #[.string s] w (PsPostN s.data.toList w):=by
 obtain ⟨l,hl⟩ : ∃ l,l = s.data.toList:=⟨_,rfl⟩
 have hsl : l.length = s.size:=by rw [hl,ba_len]
 rw [← hl]
 obtain ⟨w0,hw0⟩ : ∃ w0,w0 = w.alloc (.cells #[.int .i64 0,.slice none 0 0,.slice none 0 0,.slice none 0 0,.slice none 0 0,.slice none 0 0,.int .i64 0,.int .i64 0] 29):=⟨_,rfl⟩
 have HO0 : Hid (ObjAt w0 w.heap.size 29 #[.int .i64 0,.slice none 0 0,.slice none 0 0,.slice none 0 0,.slice none 0 0,.slice none 0 0,.int .i64 0,.int .i64 0].toList):=by rw [hw0];exact ObjAt.new w _ _
 have HB0 : Hid (Below w.heap.size w w0):=by rw [hw0];exact (Below.refl _ _).alloc (Nat.le_refl _) _
 have HW0:=Lib.hid hw0
 obtain ⟨P,hP⟩ : ∃ P,P = PsPostN l w:=⟨_,rfl⟩
 have HZ : Hid (∀ e at_ w',psV l = (pcZ,e,at_) → Below w.heap.size w w' → P (.returned (.tuple #[.agg #[.int .i64 0,.slice none 0 0,.slice none 0 0,.slice none 0 0,.slice none 0 0,.slice none 0 0,.int .i64 0,.int .i64 0],.int .i64 e,.int .i64 at_])) w'):=fun e at_ w' h hb=>by rw [hP];exact psn_zero h hb
 rw [← hP]
 clear hP hw0
 unfold maxLen at hs
 have d1 : decide ((s.size : Int) > 16384) = true:=decide_eq_true (by omega)
 have d1' : decide (16384 < s.size) = true:=decide_eq_true h16
 have HZ:=fun w' h=>Lib.hid (HZ.out 10 0 w' (psV_long (by omega)) h)
 clear h16 hl hsl
 go_enter Tryz.func28,Tryz.ntmps28
 go_upto_region 1 with fail
 rw [← HW0.out]
 have hO0:=HO0.out
 have s6:=hO0.lt
 have a0:=(hO0).cell 0 _ rfl;have a1:=(hO0).cell 1 _ rfl;have a2:=(hO0).cell 2 _ rfl;have a3:=(hO0).cell 3 _ rfl;have a4:=(hO0).cell 4 _ rfl;have a5:=(hO0).cell 5 _ rfl;have a6:=(hO0).cell 6 _ rfl;have a7:=(hO0).cell 7 _ rfl;have g0:=(hO0).free 0;have g1:=(hO0).free 1;have g2:=(hO0).free 2;have g3:=(hO0).free 3;have g4:=(hO0).free 4;have g5:=(hO0).free 5;have g6:=(hO0).free 6;have g7:=(hO0).free 7
 clear hO0
 go_wp2_with fail
 (refine bodyPost_ret (v:=.tuple #[.agg #[.int .i64 0,.slice none 0 0,.slice none 0 0,.slice none 0 0,.slice none 0 0,.slice none 0 0,.int .i64 0,.int .i64 0],.int .i64 10,.int .i64 0]) (by simp [results,Tryz.results28,go_sem,a0,a1,a2,a3,a4,a5,a6,a7,s6]) rfl ?_)
 exact (HZ _ ((((((((HB0.out.setCell (Nat.le_refl _) _).setCell (Nat.le_refl _) _).setCell (Nat.le_refl _) _).setCell (Nat.le_refl _) _).setCell (Nat.le_refl _) _).setCell (Nat.le_refl _) _).setCell (Nat.le_refl _) _).setCell (Nat.le_refl _) _)).out
end Go.Proofs.YtoklonmiejdgmaaGreatDoor
/- The reference of plan: Parse of a text whose last line is ended. -/
namespace Go.Proofs.YtoklonmiejdgmaaGreatDoor
set_option linter.unusedVariables false
set_option linter.unusedSimpArgs false
set_option linter.unnecessarySimpa false
open Go.RowKit Go.Sort
set_option maxHeartbeats 4000000
set_option maxRecDepth 100000
set_option linter.unusedVariables false
theorem RO.other {w W W' : World} {b : Nat} {c : Cv} {cs : List Value} (h : RO w c W) (ho : ObjAt W b 29 cs) (hu : Upd b W W') : CfgOk W' c:=
 have g:=h.g.upd hu (h.g.ne ho (by decide))
 have r:=h.r.upd hu (h.r.ne ho (by decide))
 have p:=h.p.upd hu (h.p.ne ho (by decide))
 have n:=h.n.upd hu (h.n.ne ho (by decide))
 have s:=h.s.upd hu (h.s.ne ho (by decide))
 ⟨⟨g.rd,g.le,g.capMax,h.lg⟩,⟨r.rd,r.le,r.capMax,h.lr⟩,⟨p.rd,p.le,p.capMax,h.lp⟩,⟨n.rd,n.le,n.capMax,h.ln⟩,⟨s.rd,s.le,s.capMax,h.ls⟩⟩
theorem RO.newc {w W : World} {c : Cv} {B : Nat} (h : RO w c W) (hB : B ≤ w.heap.size) : NewC B c:=fun s hs k hk=>by
 simp only [List.mem_cons,List.not_mem_nil,or_false] at hs
 rcases hs with rfl | rfl | rfl | rfl | rfl
 ·exact Nat.le_trans hB (h.g.ge k hk).1
 ·exact Nat.le_trans hB (h.r.ge k hk).1
 ·exact Nat.le_trans hB (h.p.ge k hk).1
 ·exact Nat.le_trans hB (h.n.ge k hk).1
 ·exact Nat.le_trans hB (h.s.ge k hk).1
theorem rparse_whole (s : ByteArray) (h16 : ¬ 16384 < s.size) (hw : lsB s.data.toList = true) (w : World) : Calls Tryz.prog 28 #[.string s] w (PsPostN s.data.toList w):=by
 obtain ⟨l,hl⟩ : ∃ l,l = s.data.toList:=⟨_,rfl⟩
 have hsl : l.length = s.size:=by rw [hl,ba_len]
 have HLN0:=rlines_any s (by omega)
 rw [← hl] at hw HLN0 ⊢
 obtain ⟨w0,hw0⟩ : ∃ w0,w0 = w.alloc (.cells #[.int .i64 0,.slice none 0 0,.slice none 0 0,.slice none 0 0,.slice none 0 0,.slice none 0 0,.int .i64 0,.int .i64 0] 29):=⟨_,rfl⟩
 have HO0 : Hid (ObjAt w0 w.heap.size 29 #[.int .i64 0,.slice none 0 0,.slice none 0 0,.slice none 0 0,.slice none 0 0,.slice none 0 0,.int .i64 0,.int .i64 0].toList):=by rw [hw0];exact ObjAt.new w _ _
 have HB0 : Hid (Below w.heap.size w w0):=by rw [hw0];exact (Below.refl _ _).alloc (Nat.le_refl _) _
 have HW0:=Lib.hid hw0
 obtain ⟨P,hP⟩ : ∃ P,P = PsPostN l w:=⟨_,rfl⟩
 have HZ : Hid (∀ e at_ w',psV l = (pcZ,e,at_) → Below w.heap.size w w' → P (.returned (.tuple #[.agg #[.int .i64 0,.slice none 0 0,.slice none 0 0,.slice none 0 0,.slice none 0 0,.slice none 0 0,.int .i64 0,.int .i64 0],.int .i64 e,.int .i64 at_])) w'):=fun e at_ w' h hb=>by rw [hP];exact psn_zero h hb
 have HG : Hid (∀ c w',psV l = (pcOf c,0,0) → CfgOk w' c → NewC w.heap.size c → Below w.heap.size w w' → P (.returned (.tuple #[(.agg #[.int .i64 c.cats,.slice c.g.a c.g.l.length c.g.cap,.slice c.r.a c.r.l.length c.r.cap,.slice c.p.a c.p.l.length c.p.cap,.slice c.n.a c.n.l.length c.n.cap,.slice c.s.a c.s.l.length c.s.cap,.int .i64 c.gate,.int .i64 c.quota]),.int .i64 0,.int .i64 0])) w'):=fun c w' h hc hn hb=>by rw [hP];exact psn_good h hc hn hb
 rw [← hP]
 clear hP hw0
 have d1 : decide ((s.size : Int) > 16384) = false:=decide_eq_false (by omega)
 have d1' : decide (16384 < s.size) = false:=decide_eq_false h16
 obtain ⟨L,hL⟩ : ∃ L,L = lsL l:=⟨_,rfl⟩
 have hdl : (fieldsC 10 l).dropLast = L:=by rw [hL];rfl
 have hgl : (fieldsC 10 l).getLast? = some []:=by unfold lsB at hw;exact of_decide_eq_true hw
 have hLl : L.length ≤ s.size:=by
  rw [← hdl,List.length_dropLast,fieldsC_len,← hsl]
  have:=List.count_le_length (a:=(10 : UInt8)) (l:=l);omega
 have HSM : Hid (∀ x ∈ L,x.length ≤ 100000):=fun x hx=>by
  rw [← hdl] at hx
  have:=(fieldsC_mem 10 l x (List.dropLast_subset _ hx)).2;omega
 have HBAD : Hid (∀ k w',k < L.length → stP L k ≠ none → stP L (k + 1) = none → Below w.heap.size w w' → P (.returned (.tuple #[.agg #[.int .i64 0,.slice none 0 0,.slice none 0 0,.slice none 0 0,.slice none 0 0,.slice none 0 0,.int .i64 0,.int .i64 0],.int .i64 6,.int .i64 ((k : Int) + 1)])) w'):=fun k w' hk h0 h1 hb=>
  HZ.out _ _ _ (psV_bad (by omega) (by rw [hdl];exact badP_some hk h0 h1)) hb
 have HNO : Hid (∀ w',L.length = 0 → Below w.heap.size w w' → P (.returned (.tuple #[.agg #[.int .i64 0,.slice none 0 0,.slice none 0 0,.slice none 0 0,.slice none 0 0,.slice none 0 0,.int .i64 0,.int .i64 0],.int .i64 6,.int .i64 1])) w'):=fun w' h0 hb=>
  HZ.out _ _ _ (by
   have:=psV_none (s:=l) (by omega) (by rw [hdl];exact badP_none (by rw [h0];simp [stP])) (by rw [hdl];exact Or.inl h0)
   rw [hdl,h0] at this;exact this) hb
 have HPS : Hid (∀ c last,stP L L.length = some (pcOf c,last) → L.length ≠ 0 → psV l = if chkP (pcOf c) = 0 then (pcOf c,0,0) else (pcZ,chkP (pcOf c),0)):=fun c last h0 h1=>by
  rw [psV_end (by omega) (by rw [hdl];exact badP_none (by rw [h0];simp)) (by rw [hdl,hgl];simp [h1]),hdl]
  split
  ·rename_i he;exact endP_yes h0 he
  ·rename_i he;exact endP_no h0 he
 have HEN : Hid (∀ w' c last,stP L L.length = some (pcOf c,last) → L.length ≠ 0 → (chkV c).1 ≠ 0 → Below w.heap.size w w' → P (.returned (.tuple #[.agg #[.int .i64 0,.slice none 0 0,.slice none 0 0,.slice none 0 0,.slice none 0 0,.slice none 0 0,.int .i64 0,.int .i64 0],.int .i64 (chkV c).1,.int .i64 0])) w'):=fun w' c last h0 h1 h3 hb=>
  HZ.out _ _ _ (by rw [HPS.out c last h0 h1,← chkP_of,if_neg h3]) hb
 have HEY : Hid (∀ w' c last,stP L L.length = some (pcOf c,last) → L.length ≠ 0 → (chkV c).1 = 0 → CfgOk w' c → NewC w.heap.size c → Below w.heap.size w w' → P (.returned (.tuple #[(.agg #[.int .i64 c.cats,.slice c.g.a c.g.l.length c.g.cap,.slice c.r.a c.r.l.length c.r.cap,.slice c.p.a c.p.l.length c.p.cap,.slice c.n.a c.n.l.length c.n.cap,.slice c.s.a c.s.l.length c.s.cap,.int .i64 c.gate,.int .i64 c.quota]),.int .i64 0,.int .i64 0])) w'):=fun w' c last h0 h1 h3 hc hn hb=>
  HG.out c w' (by rw [HPS.out c last h0 h1,← chkP_of,if_pos h3]) hc hn hb
 have HLN : Hid (Calls Tryz.prog 26 #[.string s] w0 fun e w'=>∃ a cap,e = .returned (.tuple #[.slice a L.length cap,.bool true]) ∧ RdW w' a cap L ∧ Below w0.heap.size w0 w'):=(HLN0 w0).mono fun e w' h=>by
  obtain ⟨a,cap,h1,h2⟩:=h.1 hw
  rw [← hL] at h1 h2
  exact ⟨a,cap,h1,h2,h.2.2⟩
 have HRL : Hid (∀ a cap W,RdW W a cap L → Calls Tryz.prog 58 #[.slice a L.length cap] W (RlPost L W)):=fun a cap W h=>rlines_loop a cap L (by omega) HSM.out W h
 have hLm : L.length ≤ 16384:=by omega
 clear hL hdl hgl hLl h16 hl hsl hw HLN0 HPS HG HZ HSM
 go_enter Tryz.func28,Tryz.ntmps28
 go_upto_region 1 with fail
 rw [← HW0.out]
 go_wp2_with fail
 refine HLN.out.mono ?_;rintro e w1 ⟨a,cap,rfl,hR,hb1⟩
 have HB1:=Lib.hid (bmore HB0.out hb1)
 have HO1:=Lib.hid (HO0.out.below hb1)
 have HRW:=Lib.hid hR
 clear hR hb1 HLN
 go_wp2_with fail
 refine (HRL.out _ _ _ HRW.out).mono ?_;rintro e w2 ⟨c,at_,rfl,hb2,hc⟩
 obtain ⟨w3,hw3⟩ : ∃ w3,w3 = w2.alloc (.cells #[.int .i64 c.cats,.slice c.g.a c.g.l.length c.g.cap,.slice c.r.a c.r.l.length c.r.cap,.slice c.p.a c.p.l.length c.p.cap,.slice c.n.a c.n.l.length c.n.cap,.slice c.s.a c.s.l.length c.s.cap,.int .i64 c.gate,.int .i64 c.quota] 29):=⟨_,rfl⟩
 have hb23 : Below w2.heap.size w2 w3:=by rw [hw3];exact (Below.refl _ _).alloc (Nat.le_refl _) _
 have HX3 : Hid (ObjAt w3 w2.heap.size 29 (cfgL c)):=by rw [hw3];exact ObjAt.new w2 _ _
 have HB3:=Lib.hid (bmore (bmore HB1.out hb2) hb23)
 have HO3:=Lib.hid ((HO1.out.below hb2).below hb23)
 have HNE : Hid (w2.heap.size ≠ w.heap.size):=by have:=HO1.out.lt;have:=hb2.size;intro e;omega
 have HC : Hid ((at_ = 0 ∧ (∃ last,stP L L.length = some (pcOf c,last)) ∧ RO w1 c w3) ∨ ∃ k : Nat,at_ = (k : Int) + 1 ∧ k < L.length ∧ stP L k ≠ none ∧ stP L (k + 1) = none):=hc.imp (fun h=>⟨h.1,h.2.1,h.2.2.more hb23⟩) id
 have HW3:=Lib.hid hw3
 clear hb2 hb23 hc hw3 HRL HO1
 go_upto_region 25 with fail
 rw [← HW3.out]
 generalize w2.heap.size = b3 at HX3 HNE ⊢
 have hO3:=HO3.out
 have s6:=hO3.lt
 rcases HC.out with ⟨rfl,⟨last,hst⟩,hok⟩ | ⟨k,rfl,hk,h0,h1⟩
 ·have HST:=Lib.hid hst
  have HOK:=Lib.hid hok
  clear hst hok HC
  by_cases hz : L.length = 0
  ·have z0 : ((L.length : Int) == 0) = true:=by simp [hz]
   have HL0:=Lib.hid hz
   have a0:=(hO3).cell 0 _ rfl;have a1:=(hO3).cell 1 _ rfl;have a2:=(hO3).cell 2 _ rfl;have a3:=(hO3).cell 3 _ rfl;have a4:=(hO3).cell 4 _ rfl;have a5:=(hO3).cell 5 _ rfl;have a6:=(hO3).cell 6 _ rfl;have a7:=(hO3).cell 7 _ rfl;have g0:=(hO3).free 0;have g1:=(hO3).free 1;have g2:=(hO3).free 2;have g3:=(hO3).free 3;have g4:=(hO3).free 4;have g5:=(hO3).free 5;have g6:=(hO3).free 6;have g7:=(hO3).free 7
   clear hO3 hz
   go_wp2_with fail
   (refine bodyPost_ret (v:=.tuple #[.agg #[.int .i64 0,.slice none 0 0,.slice none 0 0,.slice none 0 0,.slice none 0 0,.slice none 0 0,.int .i64 0,.int .i64 0],.int .i64 6,.int .i64 1]) (by simp [results,Tryz.results28,go_sem,a0,a1,a2,a3,a4,a5,a6,a7,s6]) rfl ?_)
   exact HNO.out _ HL0.out ((((((((HB3.out.setCell (Nat.le_refl _) _).setCell (Nat.le_refl _) _).setCell (Nat.le_refl _) _).setCell (Nat.le_refl _) _).setCell (Nat.le_refl _) _).setCell (Nat.le_refl _) _).setCell (Nat.le_refl _) _).setCell (Nat.le_refl _) _)
  ·have z0 : ((L.length : Int) == 0) = false:=by rw [beq_eq_false_iff_ne];omega
   have HL0:=Lib.hid hz
   obtain ⟨e0,he0⟩ : ∃ v,Hid (v = (chkV c).1):=⟨_,Lib.hid rfl⟩
   obtain ⟨e1,he1⟩ : ∃ v,Hid (v = (chkV c).2):=⟨_,Lib.hid rfl⟩
   have CHK : Hid (Calls Tryz.prog 59 #[(.agg #[.int .i64 c.cats,.slice c.g.a c.g.l.length c.g.cap,.slice c.r.a c.r.l.length c.r.cap,.slice c.p.a c.p.l.length c.p.cap,.slice c.n.a c.n.l.length c.n.cap,.slice c.s.a c.s.l.length c.s.cap,.int .i64 c.gate,.int .i64 c.quota])] w3 fun e w'=>e = .returned (.tuple #[.int .i64 e0,.int .i64 e1]) ∧ Below w3.heap.size w3 w'):=by
    rw [he0.out,he1.out];exact rcheck_any c w3 HOK.out.cfg
   have q0:=(HX3.out).cell 0 _ rfl;have q1:=(HX3.out).cell 1 _ rfl;have q2:=(HX3.out).cell 2 _ rfl;have q3:=(HX3.out).cell 3 _ rfl;have q4:=(HX3.out).cell 4 _ rfl;have q5:=(HX3.out).cell 5 _ rfl;have q6:=(HX3.out).cell 6 _ rfl;have q7:=(HX3.out).cell 7 _ rfl
   clear hO3 hz s6
   go_wp2_with fail
   refine CHK.out.mono ?_;rintro e w4 ⟨rfl,h4⟩
   have HX4:=Lib.hid (HX3.out.below h4)
   have HB4:=Lib.hid (bmore HB3.out h4)
   have HO4:=Lib.hid (HO3.out.below h4)
   have HOK4:=Lib.hid (HOK.out.more h4)
   have s6:=HO4.out.lt
   clear h4 q0 q1 q2 q3 q4 q5 q6 q7 CHK HX3 HB3 HO3 HOK
   have a0:=(HO4.out).cell 0 _ rfl;have a1:=(HO4.out).cell 1 _ rfl;have a2:=(HO4.out).cell 2 _ rfl;have a3:=(HO4.out).cell 3 _ rfl;have a4:=(HO4.out).cell 4 _ rfl;have a5:=(HO4.out).cell 5 _ rfl;have a6:=(HO4.out).cell 6 _ rfl;have a7:=(HO4.out).cell 7 _ rfl;have g0:=(HO4.out).free 0;have g1:=(HO4.out).free 1;have g2:=(HO4.out).free 2;have g3:=(HO4.out).free 3;have g4:=(HO4.out).free 4;have g5:=(HO4.out).free 5;have g6:=(HO4.out).free 6;have g7:=(HO4.out).free 7
   by_cases hz : e0 = 0
   ·subst hz
    have q0:=(HX4.out).cell 0 _ rfl;have q1:=(HX4.out).cell 1 _ rfl;have q2:=(HX4.out).cell 2 _ rfl;have q3:=(HX4.out).cell 3 _ rfl;have q4:=(HX4.out).cell 4 _ rfl;have q5:=(HX4.out).cell 5 _ rfl;have q6:=(HX4.out).cell 6 _ rfl;have q7:=(HX4.out).cell 7 _ rfl
    go_wp2_with fail
    refine bodyPost_ret (v:=.tuple #[(.agg #[.int .i64 c.cats,.slice c.g.a c.g.l.length c.g.cap,.slice c.r.a c.r.l.length c.r.cap,.slice c.p.a c.p.l.length c.p.cap,.slice c.n.a c.n.l.length c.n.cap,.slice c.s.a c.s.l.length c.s.cap,.int .i64 c.gate,.int .i64 c.quota]),.int .i64 0,.int .i64 0]) (by simp [results,Tryz.results28,go_sem,a0,a1,a2,a3,a4,a5,a6,a7,s6]) rfl ?_
    refine HEY.out _ c last HST.out HL0.out he0.out.symm ?_ (HOK4.out.newc HB1.out.size) ?_
    ·exact HOK4.out.other HO4.out (upd_put (upd_put (upd_put (upd_put (upd_put (upd_put (upd_put (upd_put (Upd.refl _ _)))))))))
    ·exact ((((((((HB4.out.setCell (Nat.le_refl _) _).setCell (Nat.le_refl _) _).setCell (Nat.le_refl _) _).setCell (Nat.le_refl _) _).setCell (Nat.le_refl _) _).setCell (Nat.le_refl _) _).setCell (Nat.le_refl _) _).setCell (Nat.le_refl _) _)
   ·have n1 : (e0 == 0) = false:=by rw [beq_eq_false_iff_ne];exact hz
    have n2 : (e0 != 0) = true:=by rw [bne_iff_ne];exact hz
    have n3 : decide (e0 = 0) = false:=decide_eq_false hz
    have HNZ : Hid ((chkV c).1 ≠ 0):=by rw [← he0.out];exact hz
    clear hz
    go_wp2_with fail
    (refine bodyPost_ret (v:=.tuple #[.agg #[.int .i64 0,.slice none 0 0,.slice none 0 0,.slice none 0 0,.slice none 0 0,.slice none 0 0,.int .i64 0,.int .i64 0],.int .i64 e0,.int .i64 0]) (by simp [results,Tryz.results28,go_sem,a0,a1,a2,a3,a4,a5,a6,a7,s6]) rfl ?_)
    rw [he0.out]
    exact HEN.out _ c last HST.out HL0.out HNZ.out ((((((((HB4.out.setCell (Nat.le_refl _) _).setCell (Nat.le_refl _) _).setCell (Nat.le_refl _) _).setCell (Nat.le_refl _) _).setCell (Nat.le_refl _) _).setCell (Nat.le_refl _) _).setCell (Nat.le_refl _) _).setCell (Nat.le_refl _) _)
 ·have H0:=Lib.hid h0
  have H1:=Lib.hid h1
  have w5 : decide ((k : Int) + 1 > 0) = true:=decide_eq_true (by omega)
  have a0:=(hO3).cell 0 _ rfl;have a1:=(hO3).cell 1 _ rfl;have a2:=(hO3).cell 2 _ rfl;have a3:=(hO3).cell 3 _ rfl;have a4:=(hO3).cell 4 _ rfl;have a5:=(hO3).cell 5 _ rfl;have a6:=(hO3).cell 6 _ rfl;have a7:=(hO3).cell 7 _ rfl;have g0:=(hO3).free 0;have g1:=(hO3).free 1;have g2:=(hO3).free 2;have g3:=(hO3).free 3;have g4:=(hO3).free 4;have g5:=(hO3).free 5;have g6:=(hO3).free 6;have g7:=(hO3).free 7
  clear hO3 h0 h1 HC
  go_wp2_with fail
  (refine bodyPost_ret (v:=.tuple #[.agg #[.int .i64 0,.slice none 0 0,.slice none 0 0,.slice none 0 0,.slice none 0 0,.slice none 0 0,.int .i64 0,.int .i64 0],.int .i64 6,.int .i64 ((k : Int) + 1)]) (by simp [results,Tryz.results28,go_sem,a0,a1,a2,a3,a4,a5,a6,a7,s6]) rfl ?_)
  exact HBAD.out k _ hk H0.out H1.out ((((((((HB3.out.setCell (Nat.le_refl _) _).setCell (Nat.le_refl _) _).setCell (Nat.le_refl _) _).setCell (Nat.le_refl _) _).setCell (Nat.le_refl _) _).setCell (Nat.le_refl _) _).setCell (Nat.le_refl _) _).setCell (Nat.le_refl _) _)
end Go.Proofs.YtoklonmiejdgmaaGreatDoor
/- The reference of plan: Parse of a text whose last line has no end; of any text. -/
namespace Go.Proofs.YtoklonmiejdgmaaGreatDoor
set_option linter.unusedVariables false
set_option linter.unusedSimpArgs false
set_option linter.unnecessarySimpa false
open Go.RowKit Go.Sort
set_option maxHeartbeats 4000000
set_option maxRecDepth 100000
set_option linter.unusedVariables false
/-- The search for the last feed, from behind. -/
structure QFa (s : ByteArray) (k : Nat) : Prop where
 pos : 1 ≤ k
 le : k ≤ s.size
 no : ∀ j (hj : j < s.size),k ≤ j → s[j] ≠ 10
def QF (s : ByteArray) (L : List (List UInt8)) (w : World) (lv wv : Value) (k : Nat) (wr : World) : Prop:=
 (lv = .slice none 0 0 ∧ wv = .bool false ∧ QFa s k ∧ wr = w) ∨ ∃ a cap,lv = .slice a L.length cap ∧ wv = .bool true ∧ RdW wr a cap L ∧ Below w.heap.size w wr
theorem extract_take (s : ByteArray) (k : Nat) : (s.extract 0 k).data.toList = s.data.toList.take k:=by
 rw [ByteArray.data_extract,Array.toList_extract];simp
theorem count_take (s : ByteArray) (k : Nat) (h : k < s.size) : (s.data.toList.take (k + 1)).count 10 = (s.data.toList.take k).count 10 + if s[k] = 10 then 1 else 0:=by
 rw [take_all_succ s k h,List.count_append,List.count_singleton]
 simp only [beq_iff_eq]
theorem qf_cut {s : ByteArray} {k : Nat} (h : QFa s k) (hx : s[k - 1]'(by have:=h.pos;have:=h.le;omega) = 10) : (fieldsC 10 s.data.toList).dropLast = lsL (s.data.toList.take k) ∧ lsB (s.data.toList.take k) = true:=by
 have h1:=h.pos
 have h2:=h.le
 have:=cut_lines (s:=s.data.toList) (t:=s.data.toList.take k) (u:=s.data.toList.drop k) (List.take_append_drop _ _).symm (Or.inr (by
  rw [List.getLast?_eq_getElem?,List.length_take,ba_len,Nat.min_eq_left h2,List.getElem?_take,if_pos (by omega),List.getElem?_eq_getElem (by rw [ba_len];omega),ba_get s (k - 1) (by omega),hx])) (fun b hb=>by
  obtain ⟨j,hj,rfl⟩:=List.mem_iff_getElem.1 hb
  rw [List.length_drop,ba_len] at hj
  rw [List.getElem_drop,ba_get s (k + j) (by omega)]
  exact h.no (k + j) (by omega) (by omega))
 exact ⟨this.1,this.2.1⟩
theorem qf_none {s : ByteArray} (h : QFa s 1) (hx : s[0]'(by have:=h.le;omega) ≠ 10) : (fieldsC 10 s.data.toList).dropLast = lsL (s.data.toList.take 0) ∧ lsB (s.data.toList.take 0) = true:=by
 have:=cut_lines (s:=s.data.toList) (t:=[]) (u:=s.data.toList) rfl (Or.inl rfl) (fun b hb=>by
  obtain ⟨j,hj,rfl⟩:=List.mem_iff_getElem.1 hb
  rw [ba_len] at hj
  rw [ba_get s j hj]
  by_cases h0 : j = 0
  ·subst h0;exact hx
  ·exact h.no j hj (by omega))
 exact ⟨this.1,this.2.1⟩
theorem qf_down {s : ByteArray} {k : Nat} (h : QFa s k) (h1 : k ≠ 1) (hx : s[k - 1]'(by have:=h.pos;have:=h.le;omega) ≠ 10) : QFa s (k - 1):=by
 have:=h.pos
 have:=h.le
 refine ⟨by omega,by omega,fun j hj hk=>?_⟩
 by_cases e : j = k - 1
 ·subst e;exact hx
 ·exact h.no j hj (by omega)
theorem rparse_part (s : ByteArray) (h16 : ¬ 16384 < s.size) (hw : lsB s.data.toList = false) (w : World) : Calls Tryz.prog 28 #[.string s] w (PsPostN s.data.toList w):=by
 have HC1 : Hid (∀ k (h : QFa s k) (hx : s[k - 1]'(by have:=h.pos;have:=h.le;omega) = 10),(fieldsC 10 s.data.toList).dropLast = lsL (s.extract 0 k).data.toList ∧ lsB (s.extract 0 k).data.toList = true):=fun k h hx=>by rw [extract_take];exact qf_cut h hx
 have HC2 : Hid (∀ (h : QFa s 1) (hx : s[0]'(by have:=h.le;omega) ≠ 10),(fieldsC 10 s.data.toList).dropLast = lsL (s.extract 0 0).data.toList ∧ lsB (s.extract 0 0).data.toList = true):=fun h hx=>by rw [extract_take];exact qf_none h hx
 obtain ⟨l,hl⟩ : ∃ l,l = s.data.toList:=⟨_,rfl⟩
 have hsl : l.length = s.size:=by rw [hl,ba_len]
 have hs0 : s.size ≠ 0:=fun e=>by
  have : s.data.toList = []:=List.eq_nil_of_length_eq_zero (by rw [ba_len];exact e)
  rw [this] at hw;cases hw
 have HLN0:=rlines_any s (by omega)
 have HLT0:=fun (k : Nat) (hk : k ≤ s.size)=>rlines_any (s.extract 0 k) (by rw [ByteArray.size_extract];omega)
 have HCT : Hid (∀ k (h : k < s.size),(l.take (k + 1)).count 10 = (l.take k).count 10 + if s[k] = 10 then 1 else 0):=fun k h=>by rw [hl];exact count_take s k h
 rw [← hl] at hw HLN0 HC1 HC2 ⊢
 obtain ⟨w0,hw0⟩ : ∃ w0,w0 = w.alloc (.cells #[.int .i64 0,.slice none 0 0,.slice none 0 0,.slice none 0 0,.slice none 0 0,.slice none 0 0,.int .i64 0,.int .i64 0] 29):=⟨_,rfl⟩
 have HO0 : Hid (ObjAt w0 w.heap.size 29 #[.int .i64 0,.slice none 0 0,.slice none 0 0,.slice none 0 0,.slice none 0 0,.slice none 0 0,.int .i64 0,.int .i64 0].toList):=by rw [hw0];exact ObjAt.new w _ _
 have HB0 : Hid (Below w.heap.size w w0):=by rw [hw0];exact (Below.refl _ _).alloc (Nat.le_refl _) _
 have HW0:=Lib.hid hw0
 obtain ⟨P,hP⟩ : ∃ P,P = PsPostN l w:=⟨_,rfl⟩
 have HZ : Hid (∀ e at_ w',psV l = (pcZ,e,at_) → Below w.heap.size w w' → P (.returned (.tuple #[.agg #[.int .i64 0,.slice none 0 0,.slice none 0 0,.slice none 0 0,.slice none 0 0,.slice none 0 0,.int .i64 0,.int .i64 0],.int .i64 e,.int .i64 at_])) w'):=fun e at_ w' h hb=>by rw [hP];exact psn_zero h hb
 rw [← hP]
 clear hP hw0
 have d1 : decide ((s.size : Int) > 16384) = false:=decide_eq_false (by omega)
 have d1' : decide (16384 < s.size) = false:=decide_eq_false h16
 obtain ⟨L,hL⟩ : ∃ L,L = (fieldsC 10 l).dropLast:=⟨_,rfl⟩
 have hgl : (fieldsC 10 l).getLast? ≠ some []:=by unfold lsB at hw;exact of_decide_eq_false hw
 have hLc : L.length = l.count 10:=by rw [hL,List.length_dropLast,fieldsC_len];omega
 have hLl : L.length ≤ s.size:=by
  rw [hLc,← hsl];exact List.count_le_length
 have HSM : Hid (∀ x ∈ L,x.length ≤ 100000):=fun x hx=>by
  rw [hL] at hx
  have:=(fieldsC_mem 10 l x (List.dropLast_subset _ hx)).2;omega
 rw [← hL] at HC1 HC2
 have HBAD : Hid (∀ k w',k < L.length → stP L k ≠ none → stP L (k + 1) = none → Below w.heap.size w w' → P (.returned (.tuple #[.agg #[.int .i64 0,.slice none 0 0,.slice none 0 0,.slice none 0 0,.slice none 0 0,.slice none 0 0,.int .i64 0,.int .i64 0],.int .i64 6,.int .i64 ((k : Int) + 1)])) w'):=fun k w' hk h0 h1 hb=>
  HZ.out _ _ _ (psV_bad (by omega) (by rw [← hL];exact badP_some hk h0 h1)) hb
 have HNO : Hid (∀ w',stP L L.length ≠ none → Below w.heap.size w w' → P (.returned (.tuple #[.agg #[.int .i64 0,.slice none 0 0,.slice none 0 0,.slice none 0 0,.slice none 0 0,.slice none 0 0,.int .i64 0,.int .i64 0],.int .i64 6,.int .i64 ((L.length : Int) + 1)])) w'):=fun w' h0 hb=>
  HZ.out _ _ _ (by
   have:=psV_none (s:=l) (by omega) (by rw [← hL];exact badP_none h0) (Or.inr hgl)
   rw [← hL] at this;exact this) hb
 have HLN : Hid (Calls Tryz.prog 26 #[.string s] w0 fun e w'=>e = .returned (.tuple #[.slice none 0 0,.bool false]) ∧ Below w0.heap.size w0 w'):=(HLN0 w0).mono fun e w' h=>⟨h.2.1 hw,h.2.2⟩
 have HLT : Hid (∀ k (hk : k ≤ s.size) W,L = lsL (s.extract 0 k).data.toList ∧ lsB (s.extract 0 k).data.toList = true → Calls Tryz.prog 26 #[.string (s.extract 0 k)] W fun e w'=>∃ a cap,e = .returned (.tuple #[.slice a L.length cap,.bool true]) ∧ RdW w' a cap L ∧ Below W.heap.size W w'):=fun k hk W he=>(HLT0 k hk W).mono fun e w' h=>by
  obtain ⟨a,cap,h1,h2⟩:=h.1 he.2
  rw [← he.1] at h1 h2
  exact ⟨a,cap,h1,h2,h.2.2⟩
 have HRL : Hid (∀ a cap W,RdW W a cap L → Calls Tryz.prog 58 #[.slice a L.length cap] W (RlPost L W)):=fun a cap W h=>rlines_loop a cap L (by omega) HSM.out W h
 have hLm : L.length ≤ 16384:=by omega
 have HLC:=Lib.hid hLc
 have HTK : Hid (l.take s.size = l):=List.take_of_length_le (by omega)
 have HT0 : Hid ((l.take 0).count 10 = 0):=by rw [Hid,List.take_zero];rfl
 have HQ0 : Hid (QFa s s.size):=⟨by omega,Nat.le_refl _,fun j hj hk=>by omega⟩
 clear hL hgl hLc hLl hl hsl hw HLN0 HLT0 HZ HSM hs0
 go_enter Tryz.func28,Tryz.ntmps28
 go_upto_region 1 with fail
 rw [← HW0.out]
 go_wp2_with fail
 refine HLN.out.mono ?_;rintro e w1 ⟨rfl,hb1⟩
 have HB1:=Lib.hid (bmore HB0.out hb1)
 have HO1:=Lib.hid (HO0.out.below hb1)
 clear hb1 HLN
 go_wp2_with fail
 go_loop [7,8] (fun n i=>∃ k : Nat,k ≤ s.size ∧ i = .int .i64 k ∧ n = .int .i64 ((l.take k).count 10 + 1 : Nat)) (fun _ i=>s.size - (intOf i).toNat)
 case atStart=>exact ⟨0,by omega,rfl,by rw [HT0.out];rfl⟩
 case round=>
  obtain ⟨k,hk,rfl,rfl⟩:=hrel
  by_cases hlt : k < s.size
  ·have HC:=Lib.hid (HCT.out k hlt)
   have hcl : (l.take k).count 10 ≤ k:=Nat.le_trans List.count_le_length (by rw [List.length_take];omega)
   obtain ⟨m,hm⟩ : ∃ m,m = (l.take k).count 10:=⟨_,rfl⟩
   rw [← hm] at hcl HC
   have HM:=Lib.hid hm
   have w1 : IntKind.i64.wrap ((k : Int) + 1) = (k : Int) + 1:=by rw [IntKind.wrap_i64];omega
   have w2 : IntKind.i64.wrap (((m + 1 : Nat) : Int) + 1) = ((m + 1 : Nat) : Int) + 1:=by rw [IntKind.wrap_i64];omega
   have w2' : IntKind.i64.wrap ((m : Int) + 1 + 1) = ((m : Int) + 1 + 1):=by rw [IntKind.wrap_i64];omega
   rw [← hm]
   clear hm
   by_cases h10 : s[k].toNat = 10
   ·have hb : s[k] = 10:=by rw [← UInt8.toNat_inj];exact h10
    have HC2 : Hid ((l.take (k + 1)).count 10 = m + 1):=by rw [Hid,HC.out,if_pos hb]
    have dn : ((s[k].toNat : Int) == 10) = true:=by simp [h10]
    clear hb h10 HC
    go_wp2_with fail
    go_round
    case rel=>exact ⟨k + 1,by omega,by go_num,by rw [HC2.out];go_num⟩
    case measure=>simp [intOf];omega
   ·have hb : s[k] ≠ 10:=fun e=>h10 (by rw [e];rfl)
    have HC2 : Hid ((l.take (k + 1)).count 10 = m):=by rw [Hid,HC.out,if_neg hb];rfl
    have dn : ((s[k].toNat : Int) == 10) = false:=by rw [beq_eq_false_iff_ne];omega
    clear hb h10 HC
    go_wp2_with fail
    go_round
    case rel=>exact ⟨k + 1,by omega,by go_num,by rw [HC2.out]⟩
    case measure=>simp [intOf];omega
  ·obtain rfl : k = s.size:=by omega
   rw [HTK.out,← HLC.out]
   obtain ⟨nn,hnn⟩ : ∃ nn : Int,nn = (L.length : Int) + 1:=⟨_,rfl⟩
   rw [show ((L.length + 1 : Nat) : Int) = nn from by rw [hnn];rfl]
   rw [← hnn] at HNO
   clear hnn HCT HT0
   have HQ1 : Hid (QF s L w1 (.slice none 0 0) (.bool false) s.size w1):=Or.inl ⟨rfl,rfl,HQ0.out,rfl⟩
   go_upto_region 12 with fail
   go_loopw [5,6,9] (fun lv wv i wr=>∃ k : Nat,k ≤ s.size ∧ i = .int .i64 k ∧ QF s L w1 lv wv k wr) (fun _ _ i _=>(intOf i).toNat)
   case atStart=>exact ⟨s.size,Nat.le_refl _,rfl,HQ1.out⟩
   case round=>
    clear HQ1 HQ0
    obtain ⟨k,hk,rfl,hq⟩:=hrel
    rcases hq with ⟨rfl,rfl,hq,rfl⟩ | ⟨a,cap,rfl,rfl,hR,hb⟩
    ·have hpos:=hq.pos
     have d2 : decide ((k : Int) > 0) = true:=decide_eq_true (by omega)
     have d2' : decide (0 < k) = true:=decide_eq_true (by omega)
     have w6 : IntKind.i64.wrap ((k : Int) - 1) = ((k - 1 : Nat) : Int):=by rw [IntKind.wrap_i64];omega
     have hlt : k - 1 < s.size:=by omega
     by_cases h10 : s[k - 1].toNat = 10
     ·have hx : s[k - 1] = 10:=by rw [← UInt8.toNat_inj];exact h10
      have HCC:=Lib.hid (HC1.out k hq hx)
      have HLK:=fun W=>Lib.hid (HLT.out k hk W HCC.out)
      have dn : ((s[k - 1].toNat : Int) == 10) = true:=by simp [h10]
      have dn2 : ((s[k - 1].toNat : Int) != 10) = false:=by simp [h10]
      clear h10 hx hq HCC
      go_wp2_with fail
      refine ((HLK _).out).mono ?_;rintro e w5 ⟨a,cap,rfl,hR,hb⟩
      have HF : Hid (QF s L wr (.slice a L.length cap) (.bool true) (k - 1) w5):=Or.inr ⟨a,cap,rfl,rfl,hR,hb⟩
      clear hR hb
      go_wp2_with fail
      go_roundw
      case rel=>exact ⟨k - 1,by omega,rfl,HF.out⟩
      case measure=>simp [intOf];omega
     ·have hx : s[k - 1] ≠ 10:=fun e=>h10 (by rw [e];rfl)
      have dn : ((s[k - 1].toNat : Int) == 10) = false:=by rw [beq_eq_false_iff_ne];omega
      have dn2 : ((s[k - 1].toNat : Int) != 10) = true:=by rw [bne_iff_ne];omega
      by_cases h1 : k = 1
      ·have HCC : Hid (L = lsL (s.extract 0 0).data.toList ∧ lsB (s.extract 0 0).data.toList = true):=by
        subst h1;exact HC2.out hq hx
       have HLK:=fun W=>Lib.hid (HLT.out 0 (Nat.zero_le _) W HCC.out)
       have k1 : ((k : Int) == 1) = true:=by simp [h1]
       have e00 : s.extract 0 0 = ByteArray.empty:=by simp
       rw [e00] at HLK
       clear e00
       clear h10 hx hq HCC h1
       go_wp2_with fail
       refine ((HLK _).out).mono ?_;rintro e w5 ⟨a,cap,rfl,hR,hb⟩
       have HF : Hid (QF s L wr (.slice a L.length cap) (.bool true) (k - 1) w5):=Or.inr ⟨a,cap,rfl,rfl,hR,hb⟩
       clear hR hb
       go_wp2_with fail
       go_roundw
       case rel=>exact ⟨k - 1,by omega,rfl,HF.out⟩
       case measure=>simp [intOf];omega
      ·have HF : Hid (QF s L wr (.slice none 0 0) (.bool false) (k - 1) wr):=Or.inl ⟨rfl,rfl,qf_down hq h1 hx,rfl⟩
       have k1 : ((k : Int) == 1) = false:=by rw [beq_eq_false_iff_ne];omega
       clear h10 hx hq h1
       go_wp2_with fail
       go_roundw
       case rel=>exact ⟨k - 1,by omega,rfl,HF.out⟩
       case measure=>simp [intOf];omega
    ·have HR:=Lib.hid hR
     have HB4:=Lib.hid (bmore HB1.out hb)
     have HO4:=Lib.hid (HO1.out.below hb)
     obtain ⟨b,hb0⟩ : ∃ b,decide ((k : Int) > 0) = b:=⟨_,rfl⟩
     have hb0' : decide (0 < k) = b:=by rw [← hb0,Bool.eq_iff_iff];simp
     clear hR hb
     cases b
     all_goals
      go_wp2_with fail
      refine (HRL.out _ _ _ HR.out).mono ?_;rintro e w2 ⟨c,at_,rfl,hb2,hc⟩
      obtain ⟨w3,hw3⟩ : ∃ w3,w3 = w2.alloc (.cells #[.int .i64 c.cats,.slice c.g.a c.g.l.length c.g.cap,.slice c.r.a c.r.l.length c.r.cap,.slice c.p.a c.p.l.length c.p.cap,.slice c.n.a c.n.l.length c.n.cap,.slice c.s.a c.s.l.length c.s.cap,.int .i64 c.gate,.int .i64 c.quota] 29):=⟨_,rfl⟩
      have hb23 : Below w2.heap.size w2 w3:=by rw [hw3];exact (Below.refl _ _).alloc (Nat.le_refl _) _
      have HB3:=Lib.hid (bmore (bmore HB4.out hb2) hb23)
      have HO3:=Lib.hid ((HO4.out.below hb2).below hb23)
      have HW3:=Lib.hid hw3
      have HC:=Lib.hid hc
      clear hb2 hb23 hc hw3 hb0 hb0'
      go_upto_region 21 with fail
      rw [← HW3.out]
      have hO3:=HO3.out
      have s6:=hO3.lt
      have a0:=(hO3).cell 0 _ rfl;have a1:=(hO3).cell 1 _ rfl;have a2:=(hO3).cell 2 _ rfl;have a3:=(hO3).cell 3 _ rfl;have a4:=(hO3).cell 4 _ rfl;have a5:=(hO3).cell 5 _ rfl;have a6:=(hO3).cell 6 _ rfl;have a7:=(hO3).cell 7 _ rfl;have g0:=(hO3).free 0;have g1:=(hO3).free 1;have g2:=(hO3).free 2;have g3:=(hO3).free 3;have g4:=(hO3).free 4;have g5:=(hO3).free 5;have g6:=(hO3).free 6;have g7:=(hO3).free 7
      clear hO3
      rcases HC.out with ⟨rfl,⟨last,hst⟩,hok⟩ | ⟨j,rfl,hj,h0,h1⟩
      ·have HST:=Lib.hid hst
       clear hst hok HC
       go_wp2_with fail
       (refine bodyPost_ret (v:=.tuple #[.agg #[.int .i64 0,.slice none 0 0,.slice none 0 0,.slice none 0 0,.slice none 0 0,.slice none 0 0,.int .i64 0,.int .i64 0],.int .i64 6,.int .i64 nn]) (by simp [results,Tryz.results28,go_sem,a0,a1,a2,a3,a4,a5,a6,a7,s6]) rfl ?_)
       exact HNO.out _ (by rw [HST.out];simp) ((((((((HB3.out.setCell (Nat.le_refl _) _).setCell (Nat.le_refl _) _).setCell (Nat.le_refl _) _).setCell (Nat.le_refl _) _).setCell (Nat.le_refl _) _).setCell (Nat.le_refl _) _).setCell (Nat.le_refl _) _).setCell (Nat.le_refl _) _)
      ·have H0:=Lib.hid h0
       have H1:=Lib.hid h1
       have w5 : decide ((j : Int) + 1 > 0) = true:=decide_eq_true (by omega)
       clear h0 h1 HC
       go_wp2_with fail
       (refine bodyPost_ret (v:=.tuple #[.agg #[.int .i64 0,.slice none 0 0,.slice none 0 0,.slice none 0 0,.slice none 0 0,.slice none 0 0,.int .i64 0,.int .i64 0],.int .i64 6,.int .i64 ((j : Int) + 1)]) (by simp [results,Tryz.results28,go_sem,a0,a1,a2,a3,a4,a5,a6,a7,s6]) rfl ?_)
       exact HBAD.out j _ hj H0.out H1.out ((((((((HB3.out.setCell (Nat.le_refl _) _).setCell (Nat.le_refl _) _).setCell (Nat.le_refl _) _).setCell (Nat.le_refl _) _).setCell (Nat.le_refl _) _).setCell (Nat.le_refl _) _).setCell (Nat.le_refl _) _).setCell (Nat.le_refl _) _)
theorem rparse_new (s : ByteArray) (hs : s.size ≤ maxLen) (w : World) : Calls Tryz.prog 28 #[.string s] w (PsPostN s.data.toList w):=by
 by_cases h16 : 16384 < s.size
 ·exact rparse_long s h16 hs w
 ·cases hw : lsB s.data.toList
  ·exact rparse_part s h16 hw w
  ·exact rparse_whole s h16 hw w
theorem rparse_any (s : ByteArray) (hs : s.size ≤ maxLen) (w : World) : Calls Tryz.prog 28 #[.string s] w (PsPost s.data.toList w):=(rparse_new s hs w).mono fun _ _ ⟨c,_,h⟩=>⟨c,h⟩
end Go.Proofs.YtoklonmiejdgmaaGreatDoor
