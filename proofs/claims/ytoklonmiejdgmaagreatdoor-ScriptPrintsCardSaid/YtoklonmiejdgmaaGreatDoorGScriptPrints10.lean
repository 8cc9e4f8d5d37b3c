/- Package plan: Print of a configuration. -/
import Derived.Test.YtoklonmiejdgmaaGreatDoorGScriptPrints9
import Derived.Test.YtoklonmiejdgmaaGreatDoorGScriptPrints5
import Derived.Deep.RegionHeld3
import Derived.Test.YtoklonmiejdgmaaGreatDoorGScriptPrints6
import Derived.Test.YtoklonmiejdgmaaGreatDoorGScriptPrints8
namespace Go.Proofs.YtoklonmiejdgmaaGreatDoor
set_option linter.unusedVariables false
set_option linter.unusedSimpArgs false
set_option linter.unnecessarySimpa false
open Go.RowKit Go.Sort
set_option maxHeartbeats 8000000
set_option maxRecDepth 100000
set_option linter.unusedVariables false
/-- What Print hands back. -/
def PrPost (c : Cv) (w : World) (e : Ending) (w' : World) : Prop:=
 ((chkV c).1 ≠ 0 → e = .returned (.tuple #[.string ⟨#[]⟩,.int .i64 (chkV c).1])) ∧ ((chkV c).1 = 0 → e = .returned (.tuple #[.string (ba (prT (pcOf c))),.int .i64 0])) ∧ Below w.heap.size w w'
theorem pprint_no (c : Cv) (w : World) (h : CfgOk w c) (h0 : (chkV c).1 ≠ 0) : Calls Tryz.prog 36 #[(.agg #[.int .i64 c.cats,.slice c.g.a c.g.l.length c.g.cap,.slice c.r.a c.r.l.length c.r.cap,.slice c.p.a c.p.l.length c.p.cap,.slice c.n.a c.n.l.length c.n.cap,.slice c.s.a c.s.l.length c.s.cap,.int .i64 c.gate,.int .i64 c.quota])] w (PrPost c w):=by
 obtain ⟨e0,he0⟩ : ∃ v,Hid (v = (chkV c).1):=⟨_,Lib.hid rfl⟩
 obtain ⟨e1,he1⟩ : ∃ v,Hid (v = (chkV c).2):=⟨_,Lib.hid rfl⟩
 have CHK : Hid (∀ W,CfgOk W c → Calls Tryz.prog 54 #[(.agg #[.int .i64 c.cats,.slice c.g.a c.g.l.length c.g.cap,.slice c.r.a c.r.l.length c.r.cap,.slice c.p.a c.p.l.length c.p.cap,.slice c.n.a c.n.l.length c.n.cap,.slice c.s.a c.s.l.length c.s.cap,.int .i64 c.gate,.int .i64 c.quota])] W fun e w'=>e = .returned (.tuple #[.int .i64 e0,.int .i64 e1]) ∧ Below W.heap.size W w'):=fun W hc=>by rw [he0.out,he1.out];exact check_any c W hc
 have hz : e0 ≠ 0:=by rw [he0.out];exact h0
 have HP : Hid (∀ w',Below w.heap.size w w' → PrPost c w (.returned (.tuple #[.string ⟨#[]⟩,.int .i64 e0])) w'):=fun w' hb=>⟨fun _=>by rw [he0.out],fun h=>absurd h h0,hb⟩
 have n1 : (e0 == 0) = false:=by rw [beq_eq_false_iff_ne];exact hz
 have n2 : (e0 != 0) = true:=by rw [bne_iff_ne];exact hz
 clear h0 hz
 (have h0:=CX.new h;go_enter Tryz.func36,Tryz.ntmps36;go_upto_region 1 with fail;generalize w.alloc (.cells #[.int .i64 c.cats,.slice c.g.a c.g.l.length c.g.cap,.slice c.r.a c.r.l.length c.r.cap,.slice c.p.a c.p.l.length c.p.cap,.slice c.n.a c.n.l.length c.n.cap,.slice c.s.a c.s.l.length c.s.cap,.int .i64 c.gate,.int .i64 c.quota] 29) = W1 at h0 ⊢;generalize w.heap.size = b0 at h0 ⊢;have H0:=Lib.hid h0;clear h0 h)
 (have q0:=H0.out.ob.cell 0 _ rfl;have q1:=H0.out.ob.cell 1 _ rfl;have q2:=H0.out.ob.cell 2 _ rfl;have q3:=H0.out.ob.cell 3 _ rfl;have q4:=H0.out.ob.cell 4 _ rfl;have q5:=H0.out.ob.cell 5 _ rfl;have q6:=H0.out.ob.cell 6 _ rfl;have q7:=H0.out.ob.cell 7 _ rfl)
 go_wp2_with (go_at_call 54;refine (CHK.out _ H0.out.ok).mono ?_;rintro e W2 ⟨rfl,hb⟩;have H2:=Lib.hid (H0.out.below hb);clear hb)
 go_ret2
 exact HP.out _ H2.out.bel
def tg (k : Nat) (l : List (List Int)) (j : Nat) : List UInt8:=textT (tag k (l.take j))
theorem tg_0 (k : Nat) (l : List (List Int)) : tg k l 0 = []:=by simp [tg,tag,textT]
theorem tg_succ (k : Nat) (l : List (List Int)) (j : Nat) (hj : j < l.length) : tg k l (j + 1) = tg k l j ++ (lineT (k,l[j]) ++ [10]):=by
 unfold tg tag
 rw [List.take_succ_eq_append_getElem hj,List.map_append,textT_app]
 simp [textT]
theorem tg_all (k : Nat) (l : List (List Int)) : tg k l l.length = textT (tag k l):=by unfold tg;rw [List.take_length]
theorem port_len {x y : Int} (h : 0 ≤ x ∧ x < 256) (hy : y = -1 ∨ 0 ≤ y ∧ y < 4) : (lineT (3,[x,y]) ++ [10]).length ≤ 40:=by
 have h2:=(lbT_ok h).2.1
 rcases hy with rfl | hy
 ·rw [← lnW_out h]
  have:=lnW_len 3 (by decide) (lbT x ++ 32 :: outT) [] (by simp)
  simp only [List.length_append,List.length_cons,List.length_nil] at this
  have : outT.length = 3:=rfl
  omega
 ·rw [← lnW_3 h (by omega)]
  have:=lnW_len 3 (by decide) (lbT x) [y] (by intro n hn;rw [List.mem_singleton.1 hn];omega)
  simp only [List.length_cons,List.length_nil] at this
  omega
theorem pprint_yes (c : Cv) (w : World) (h : CfgOk w c) (h0 : (chkV c).1 = 0) (hP : PowIs w) : Calls Tryz.prog 36 #[(.agg #[.int .i64 c.cats,.slice c.g.a c.g.l.length c.g.cap,.slice c.r.a c.r.l.length c.r.cap,.slice c.p.a c.p.l.length c.p.cap,.slice c.n.a c.n.l.length c.n.cap,.slice c.s.a c.s.l.length c.s.cap,.int .i64 c.gate,.int .i64 c.quota])] w (PrPost c w):=by
 obtain ⟨e1,he1⟩ : ∃ v,Hid (v = (chkV c).2):=⟨_,Lib.hid rfl⟩
 have CHK : Hid (∀ W,CfgOk W c → Calls Tryz.prog 54 #[(.agg #[.int .i64 c.cats,.slice c.g.a c.g.l.length c.g.cap,.slice c.r.a c.r.l.length c.r.cap,.slice c.p.a c.p.l.length c.p.cap,.slice c.n.a c.n.l.length c.n.cap,.slice c.s.a c.s.l.length c.s.cap,.int .i64 c.gate,.int .i64 c.quota])] W fun e w'=>e = .returned (.tuple #[.int .i64 0,.int .i64 e1]) ∧ Below W.heap.size W w'):=fun W hc=>by rw [he1.out,← h0];exact check_any c W hc
 have HF : Hid (FitP (pcOf c)):=fit_of h0
 have HP : Hid (∀ T w',T = prT (pcOf c) → Below w.heap.size w w' → PrPost c w (.returned (.tuple #[.string (ba T),.int .i64 0])) w'):=fun T w' e hb=>⟨fun h=>absurd h0 h,fun _=>by rw [e],hb⟩
 obtain ⟨gl1,gl2⟩ : c.g.l.length ≤ 4 ∧ c.r.l.length ≤ 8:=⟨HF.out.gl,HF.out.rl⟩
 obtain ⟨gl3,gl4,gl5⟩ : c.p.l.length ≤ 8 ∧ c.n.l.length ≤ 4 ∧ c.s.l.length ≤ 8:=⟨HF.out.pl,HF.out.nl,HF.out.sl⟩
 have e1 : c.g.l.length ≤ c.g.cap:=h.g.le
 have e2 : c.r.l.length ≤ c.r.cap:=h.r.le
 have e3 : c.p.l.length ≤ c.p.cap:=h.p.le
 have e4 : c.n.l.length ≤ c.n.cap:=h.n.le
 have e5 : c.s.l.length ≤ c.s.cap:=h.s.le
 obtain ⟨fc1,fc2⟩ : 0 ≤ c.cats ∧ c.cats ≤ 8:=HF.out.cats
 have HPW:=Lib.hid hP
 clear h0 hP
 (have h0:=CX.new h;go_enter Tryz.func36,Tryz.ntmps36;go_upto_region 1 with fail;generalize w.alloc (.cells #[.int .i64 c.cats,.slice c.g.a c.g.l.length c.g.cap,.slice c.r.a c.r.l.length c.r.cap,.slice c.p.a c.p.l.length c.p.cap,.slice c.n.a c.n.l.length c.n.cap,.slice c.s.a c.s.l.length c.s.cap,.int .i64 c.gate,.int .i64 c.quota] 29) = W1 at h0 ⊢;generalize w.heap.size = b0 at h0 ⊢;have H0:=Lib.hid h0;clear h0 h)
 (have q0:=H0.out.ob.cell 0 _ rfl;have q1:=H0.out.ob.cell 1 _ rfl;have q2:=H0.out.ob.cell 2 _ rfl;have q3:=H0.out.ob.cell 3 _ rfl;have q4:=H0.out.ob.cell 4 _ rfl;have q5:=H0.out.ob.cell 5 _ rfl;have q6:=H0.out.ob.cell 6 _ rfl;have q7:=H0.out.ob.cell 7 _ rfl)
 go_wp2_with fail
 refine (CHK.out _ H0.out.ok).mono ?_;rintro e W2 ⟨rfl,hb⟩
 have H2:=Lib.hid (H0.out.below hb)
 clear hb q0 q1 q2 q3 q4 q5 q6 q7
 go_upto_region 5 with fail
 have HG0 : Hid (PG W2 W2.heap.size [] (W2.alloc (.cells #[.pointer none,.slice none 0 0] 127))):=⟨((Below.refl _ _).alloc (Nat.le_refl _) _),HPW.out.below H2.out.bel,PgIs.fresh W2⟩
 generalize W2.alloc (.cells #[.pointer none,.slice none 0 0] 127) = W3 at HG0 ⊢
 obtain ⟨b,hb⟩ : ∃ b,b = W2.heap.size:=⟨_,rfl⟩
 rw [← hb] at HG0 ⊢
 clear hb
 have HX:=Lib.hid (H2.out.below HG0.out.bel)
 (have q0:=HX.out.ob.cell 0 _ rfl;have q1:=HX.out.ob.cell 1 _ rfl;have q2:=HX.out.ob.cell 2 _ rfl;have q3:=HX.out.ob.cell 3 _ rfl;have q4:=HX.out.ob.cell 4 _ rfl;have q5:=HX.out.ob.cell 5 _ rfl;have q6:=HX.out.ob.cell 6 _ rfl;have q7:=HX.out.ob.cell 7 _ rfl)
 go_wp2_with fail
 refine (pline1 0 (by decide) [] c.cats ⟨fc1,by omega⟩ (w:=W2) (b:=b) (t:=[]) (by simp) (by simp) _ _ (HG0.out.more ((Below.refl _ _).alloc (Nat.le_refl _) _)) (ObjAt.new _ _ _)).mono ?_;rintro e W4 ⟨rfl,h7,h8⟩
 obtain ⟨t1,ht1⟩ : ∃ t1,t1 = [] ++ lnW 0 [] [c.cats]:=⟨_,rfl⟩
 rw [← ht1] at h7
 have HG:=Lib.hid h7
 have hlt1 : t1.length ≤ 60:=by
  have h1:=lnW_len 0 (by decide) [] [c.cats] (by intro n hn;rw [List.mem_singleton.1 hn];omega)
  simp only [List.length_cons,List.length_nil] at h1
  rw [ht1,List.nil_append];omega
 have HVt1 : Hid (t1 = textT [(0,[c.cats])]):=by rw [Hid,ht1,List.nil_append,lnW_0,textT_one]
 replace HX:=Lib.hid (H2.out.below HG.out.bel)
 clear h7 h8 ht1 q0 q1 q2 q3 q4 q5 q6 q7
 (have q0:=HX.out.ob.cell 0 _ rfl;have q1:=HX.out.ob.cell 1 _ rfl;have q2:=HX.out.ob.cell 2 _ rfl;have q3:=HX.out.ob.cell 3 _ rfl;have q4:=HX.out.ob.cell 4 _ rfl;have q5:=HX.out.ob.cell 5 _ rfl;have q6:=HX.out.ob.cell 6 _ rfl;have q7:=HX.out.ob.cell 7 _ rfl)
 go_upto_region 7 with fail
 clear q0 q1 q2 q3 q4 q5 q6 q7
 go_loopw [35] (fun i wr=>∃ j : Nat,j ≤ c.g.l.length ∧ i = .int .i64 j ∧ PG W2 b (t1 ++ tg 1 c.g.l j) wr ∧ (t1 ++ tg 1 c.g.l j).length ≤ (t1).length + 60 * j) (fun i _=>c.g.l.length - (intOf i).toNat)
 case atStart=>exact ⟨0,by omega,rfl,by rw [tg_0,List.append_nil];exact HG.out,by rw [tg_0,List.append_nil];omega⟩
 clear HG
 obtain ⟨j,hj,rfl,hg,htl⟩:=hrel
 have HG:=Lib.hid hg
 have HX:=Lib.hid (H2.out.below hg.bel)
 have HTL:=Lib.hid htl
 clear hg htl
 by_cases hlt : j < c.g.l.length
 case pos=>
  obtain ⟨bx,ox,hax,hcx⟩:=H2.out.ok.g.cells (by omega) j hlt
  obtain ⟨lb,x,y,hrow⟩:=row3 hlt H2.out.ok.g.len
  have hfit:=HF.out.g _ (List.getElem_mem hlt)
  rw [hrow] at hcx hfit
  simp only [List.getD_cons_zero,List.getD_cons_succ] at hfit
  obtain ⟨f1,f2,f3⟩:=hfit
  have c0:=hcx _ HG.out.bel 0 _ rfl;have c1:=hcx _ HG.out.bel 1 _ rfl;have c2:=hcx _ HG.out.bel 2 _ rfl
  simp only [Nat.add_zero] at c0
  have d1 : decide ((j : Int) < (c.g.l.length : Int)) = true:=decide_eq_true (by omega)
  have d1' : decide (j < c.g.l.length) = true:=decide_eq_true hlt
  have w1 : IntKind.i64.wrap ((j : Int) + 1) = (j : Int) + 1:=by rw [IntKind.wrap_i64];omega
  have kz : (0 : Int) ≤ (j : Int):=by omega
  have kl : (j : Int) < (c.g.l.length : Int):=by omega
  have HLB:=Lib.hid (lbS_lbT f1)
  have htl : (t1 ++ tg 1 c.g.l j).length ≤ 1000000:=by have:=HTL.out;omega
  have HLINE:=fun W g=>Lib.hid (pline2 1 (by decide) (lbT lb) x y ⟨f2.1,by omega⟩ ⟨f3.1,by omega⟩ (w:=W2) (b:=b) (t:=t1 ++ tg 1 c.g.l j) htl (by have:=(lbT_ok f1).2.1;omega) W g)
  have HV : Hid ((t1 ++ tg 1 c.g.l j) ++ lnW 1 (lbT lb) [x,y] = t1 ++ tg 1 c.g.l (j + 1)):=by rw [Hid,lnW_1 f1,tg_succ 1 c.g.l j hlt,hrow,List.append_assoc]
  have HVL : Hid ((t1 ++ tg 1 c.g.l (j + 1)).length ≤ (t1).length + 60 * (j + 1)):=by
   rw [← HV.out,Hid,List.length_append]
   have h1:=lnW_len 1 (by decide) (lbT lb) [x,y] (by intro n hn;simp at hn;rcases hn with rfl | rfl <;> omega)
   have h2:=(lbT_ok f1).2.1
   have h3:=HTL.out
   simp only [List.length_cons,List.length_nil] at h1
   omega
  have HAX:=Lib.hid hax
  rw [hax]
  clear hcx hrow htl f1 f2 f3 hax
  go_upto_region 9 with fail
  clear c0 c1 c2
  have R1 : Hid (ObjAt (wr.alloc (.cells #[.int .i64 lb,.int .i64 x,.int .i64 y] 130)) wr.heap.size 130 [.int .i64 lb,.int .i64 x,.int .i64 y]):=ObjAt.new wr _ _
  have HG1 : Hid (PG W2 b (t1 ++ tg 1 c.g.l j) (wr.alloc (.cells #[.int .i64 lb,.int .i64 x,.int .i64 y] 130))):=HG.out.more ((Below.refl _ _).alloc (Nat.le_refl _) _)
  generalize wr.alloc (.cells #[.int .i64 lb,.int .i64 x,.int .i64 y] 130) = W4 at R1 HG1 ⊢
  generalize wr.heap.size = rr at R1 ⊢
  have R1d : Hid (ObjAt W4.drew rr 130 [.int .i64 lb,.int .i64 x,.int .i64 y]):=R1.out.below (Below.refl _ _).drew
  have HG1d : Hid (PG W2 b (t1 ++ tg 1 c.g.l j) W4.drew):=HG1.out.more (Below.refl _ _).drew
  go_region_held3 (fun W'=>W'.cell? ⟨rr,0,none⟩ = some (.int .i64 lb) ∧ W'.cell? ⟨rr,1,none⟩ = some (.int .i64 x) ∧ W'.cell? ⟨rr,2,none⟩ = some (.int .i64 y)) (first | exact ⟨(R1d.out).cell 0 _ rfl,(R1d.out).cell 1 _ rfl,(R1d.out).cell 2 _ rfl⟩ | exact ⟨(R7.out).cell 0 _ rfl,(R7.out).cell 1 _ rfl,(R7.out).cell 2 _ rfl⟩ | exact ⟨(R6.out).cell 0 _ rfl,(R6.out).cell 1 _ rfl,(R6.out).cell 2 _ rfl⟩ | exact ⟨(R1d.out.below ((Below.refl _ _).alloc (Nat.le_refl _) _)).cell 0 _ rfl,(R1d.out.below ((Below.refl _ _).alloc (Nat.le_refl _) _)).cell 1 _ rfl,(R1d.out.below ((Below.refl _ _).alloc (Nat.le_refl _) _)).cell 2 _ rfl⟩ | exact ⟨(R6.out.below ((Below.refl _ _).alloc (Nat.le_refl _) _)).cell 0 _ rfl,(R6.out.below ((Below.refl _ _).alloc (Nat.le_refl _) _)).cell 1 _ rfl,(R6.out.below ((Below.refl _ _).alloc (Nat.le_refl _) _)).cell 2 _ rfl⟩) (first | (go_at_call 66;refine (letters_str lb _).mono ?_;rintro e W6 ⟨rfl,hb6⟩;rw [HLB.out];have HG6 : Hid (PG W2 b (t1 ++ tg 1 c.g.l j) W6):=(by first | exact HG1d.out.more hb6 | exact (HG1d.out.more ((Below.refl _ _).alloc (Nat.le_refl _) _)).more hb6);have R6 : Hid (ObjAt W6 rr 130 [.int .i64 lb,.int .i64 x,.int .i64 y]):=(by first | exact R1d.out.below hb6 | exact (R1d.out.below ((Below.refl _ _).alloc (Nat.le_refl _) _)).below hb6);have HB6:=Lib.hid hb6;clear hb6) | (go_at_call 65;refine ((HLINE _ _).out (by first | exact HG6.out | exact HG6.out.more ((Below.refl _ _).alloc (Nat.le_refl _) _)) (by first | exact ObjAt.new _ _ _ | exact (ObjAt.new W4.drew 3 [.int .i64 x,.int .i64 y]).below HB6.out)).mono ?_;rintro e W7 ⟨rfl,h7,h8⟩;have HG7:=Lib.hid h7;have R7 : Hid (ObjAt W7 rr 130 [.int .i64 lb,.int .i64 x,.int .i64 y]):=(by first | exact h8.obj R6.out (HG6.out.ne R6.out (by decide)) (by decide) | exact h8.obj (R6.out.below ((Below.refl _ _).alloc (Nat.le_refl _) _)) (HG6.out.ne R6.out (by decide)) (by decide));clear h7 h8))
  all_goals
   go_wp2_with fail
   go_roundw
   case rel=>exact ⟨j + 1,by omega,by go_num,by rw [← HV.out];exact HG7.out,HVL.out⟩
   case measure=>simp [intOf];omega
 obtain rfl : j = c.g.l.length:=by omega
 have dq : decide ((c.g.l.length : Int) < (c.g.l.length : Int)) = false:=decide_eq_false (by omega)
 have HTL2:=Lib.hid HTL.out
 obtain ⟨t2,ht2⟩ : ∃ tz,tz = t1 ++ tg 1 c.g.l c.g.l.length:=⟨_,rfl⟩
 rw [← ht2] at HG HTL2
 rw [tg_all] at ht2
 have HVt2:=Lib.hid ht2
 have hlt2 : t2.length ≤ 400:=by have:=HTL2.out;omega
 clear HTL HTL2 ht2
 (have q0:=HX.out.ob.cell 0 _ rfl;have q1:=HX.out.ob.cell 1 _ rfl;have q2:=HX.out.ob.cell 2 _ rfl;have q3:=HX.out.ob.cell 3 _ rfl;have q4:=HX.out.ob.cell 4 _ rfl;have q5:=HX.out.ob.cell 5 _ rfl;have q6:=HX.out.ob.cell 6 _ rfl;have q7:=HX.out.ob.cell 7 _ rfl)
 go_upto_region 12 with fail
 clear q0 q1 q2 q3 q4 q5 q6 q7
 go_loopw [53] (fun i wr=>∃ j : Nat,j ≤ c.r.l.length ∧ i = .int .i64 j ∧ PG W2 b (t2 ++ tg 2 c.r.l j) wr ∧ (t2 ++ tg 2 c.r.l j).length ≤ (t2).length + 60 * j) (fun i _=>c.r.l.length - (intOf i).toNat)
 case atStart=>exact ⟨0,by omega,rfl,by rw [tg_0,List.append_nil];exact HG.out,by rw [tg_0,List.append_nil];omega⟩
 clear HG
 obtain ⟨j,hj,rfl,hg,htl⟩:=hrel
 have HG:=Lib.hid hg
 have HX:=Lib.hid (H2.out.below hg.bel)
 have HTL:=Lib.hid htl
 clear hg htl
 by_cases hlt : j < c.r.l.length
 case pos=>
  obtain ⟨bx,ox,hax,hcx⟩:=H2.out.ok.r.cells (by omega) j hlt
  obtain ⟨lb,x,y,hrow⟩:=row3 hlt H2.out.ok.r.len
  have hfit:=HF.out.r _ (List.getElem_mem hlt)
  rw [hrow] at hcx hfit
  simp only [List.getD_cons_zero,List.getD_cons_succ] at hfit
  obtain ⟨f1,f2,f3⟩:=hfit
  have c0:=hcx _ HG.out.bel 0 _ rfl;have c1:=hcx _ HG.out.bel 1 _ rfl;have c2:=hcx _ HG.out.bel 2 _ rfl
  simp only [Nat.add_zero] at c0
  have d1 : decide ((j : Int) < (c.r.l.length : Int)) = true:=decide_eq_true (by omega)
  have d1' : decide (j < c.r.l.length) = true:=decide_eq_true hlt
  have w1 : IntKind.i64.wrap ((j : Int) + 1) = (j : Int) + 1:=by rw [IntKind.wrap_i64];omega
  have kz : (0 : Int) ≤ (j : Int):=by omega
  have kl : (j : Int) < (c.r.l.length : Int):=by omega
  have HLB:=Lib.hid (lbS_lbT f1)
  have htl : (t2 ++ tg 2 c.r.l j).length ≤ 1000000:=by have:=HTL.out;omega
  have HLINE:=fun W g=>Lib.hid (pline2 2 (by decide) (lbT lb) x y ⟨f2.1,by omega⟩ ⟨f3.1,by omega⟩ (w:=W2) (b:=b) (t:=t2 ++ tg 2 c.r.l j) htl (by have:=(lbT_ok f1).2.1;omega) W g)
  have HV : Hid ((t2 ++ tg 2 c.r.l j) ++ lnW 2 (lbT lb) [x,y] = t2 ++ tg 2 c.r.l (j + 1)):=by rw [Hid,lnW_2 f1,tg_succ 2 c.r.l j hlt,hrow,List.append_assoc]
  have HVL : Hid ((t2 ++ tg 2 c.r.l (j + 1)).length ≤ (t2).length + 60 * (j + 1)):=by
   rw [← HV.out,Hid,List.length_append]
   have h1:=lnW_len 2 (by decide) (lbT lb) [x,y] (by intro n hn;simp at hn;rcases hn with rfl | rfl <;> omega)
   have h2:=(lbT_ok f1).2.1
   have h3:=HTL.out
   simp only [List.length_cons,List.length_nil] at h1
   omega
  have HAX:=Lib.hid hax
  rw [hax]
  clear hcx hrow htl f1 f2 f3 hax
  go_upto_region 14 with fail
  clear c0 c1 c2
  have R1 : Hid (ObjAt (wr.alloc (.cells #[.int .i64 lb,.int .i64 x,.int .i64 y] 132)) wr.heap.size 132 [.int .i64 lb,.int .i64 x,.int .i64 y]):=ObjAt.new wr _ _
  have HG1 : Hid (PG W2 b (t2 ++ tg 2 c.r.l j) (wr.alloc (.cells #[.int .i64 lb,.int .i64 x,.int .i64 y] 132))):=HG.out.more ((Below.refl _ _).alloc (Nat.le_refl _) _)
  generalize wr.alloc (.cells #[.int .i64 lb,.int .i64 x,.int .i64 y] 132) = W4 at R1 HG1 ⊢
  generalize wr.heap.size = rr at R1 ⊢
  have R1d : Hid (ObjAt W4.drew rr 132 [.int .i64 lb,.int .i64 x,.int .i64 y]):=R1.out.below (Below.refl _ _).drew
  have HG1d : Hid (PG W2 b (t2 ++ tg 2 c.r.l j) W4.drew):=HG1.out.more (Below.refl _ _).drew
  go_region_held3 (fun W'=>W'.cell? ⟨rr,0,none⟩ = some (.int .i64 lb) ∧ W'.cell? ⟨rr,1,none⟩ = some (.int .i64 x) ∧ W'.cell? ⟨rr,2,none⟩ = some (.int .i64 y)) (first | exact ⟨(R1d.out).cell 0 _ rfl,(R1d.out).cell 1 _ rfl,(R1d.out).cell 2 _ rfl⟩ | exact ⟨(R7.out).cell 0 _ rfl,(R7.out).cell 1 _ rfl,(R7.out).cell 2 _ rfl⟩ | exact ⟨(R6.out).cell 0 _ rfl,(R6.out).cell 1 _ rfl,(R6.out).cell 2 _ rfl⟩ | exact ⟨(R1d.out.below ((Below.refl _ _).alloc (Nat.le_refl _) _)).cell 0 _ rfl,(R1d.out.below ((Below.refl _ _).alloc (Nat.le_refl _) _)).cell 1 _ rfl,(R1d.out.below ((Below.refl _ _).alloc (Nat.le_refl _) _)).cell 2 _ rfl⟩ | exact ⟨(R6.out.below ((Below.refl _ _).alloc (Nat.le_refl _) _)).cell 0 _ rfl,(R6.out.below ((Below.refl _ _).alloc (Nat.le_refl _) _)).cell 1 _ rfl,(R6.out.below ((Below.refl _ _).alloc (Nat.le_refl _) _)).cell 2 _ rfl⟩) (first | (go_at_call 66;refine (letters_str lb _).mono ?_;rintro e W6 ⟨rfl,hb6⟩;rw [HLB.out];have HG6 : Hid (PG W2 b (t2 ++ tg 2 c.r.l j) W6):=(by first | exact HG1d.out.more hb6 | exact (HG1d.out.more ((Below.refl _ _).alloc (Nat.le_refl _) _)).more hb6);have R6 : Hid (ObjAt W6 rr 132 [.int .i64 lb,.int .i64 x,.int .i64 y]):=(by first | exact R1d.out.below hb6 | exact (R1d.out.below ((Below.refl _ _).alloc (Nat.le_refl _) _)).below hb6);have HB6:=Lib.hid hb6;clear hb6) | (go_at_call 65;refine ((HLINE _ _).out (by first | exact HG6.out | exact HG6.out.more ((Below.refl _ _).alloc (Nat.le_refl _) _)) (by first | exact ObjAt.new _ _ _ | exact (ObjAt.new W4.drew 3 [.int .i64 x,.int .i64 y]).below HB6.out)).mono ?_;rintro e W7 ⟨rfl,h7,h8⟩;have HG7:=Lib.hid h7;have R7 : Hid (ObjAt W7 rr 132 [.int .i64 lb,.int .i64 x,.int .i64 y]):=(by first | exact h8.obj R6.out (HG6.out.ne R6.out (by decide)) (by decide) | exact h8.obj (R6.out.below ((Below.refl _ _).alloc (Nat.le_refl _) _)) (HG6.out.ne R6.out (by decide)) (by decide));clear h7 h8))
  all_goals
   go_wp2_with fail
   go_roundw
   case rel=>exact ⟨j + 1,by omega,by go_num,by rw [← HV.out];exact HG7.out,HVL.out⟩
   case measure=>simp [intOf];omega
 obtain rfl : j = c.r.l.length:=by omega
 have dq : decide ((c.r.l.length : Int) < (c.r.l.length : Int)) = false:=decide_eq_false (by omega)
 have HTL2:=Lib.hid HTL.out
 obtain ⟨t3,ht2⟩ : ∃ tz,tz = t2 ++ tg 2 c.r.l c.r.l.length:=⟨_,rfl⟩
 rw [← ht2] at HG HTL2
 rw [tg_all] at ht2
 have HVt3:=Lib.hid ht2
 have hlt3 : t3.length ≤ 900:=by have:=HTL2.out;omega
 clear HTL HTL2 ht2
 (have q0:=HX.out.ob.cell 0 _ rfl;have q1:=HX.out.ob.cell 1 _ rfl;have q2:=HX.out.ob.cell 2 _ rfl;have q3:=HX.out.ob.cell 3 _ rfl;have q4:=HX.out.ob.cell 4 _ rfl;have q5:=HX.out.ob.cell 5 _ rfl;have q6:=HX.out.ob.cell 6 _ rfl;have q7:=HX.out.ob.cell 7 _ rfl)
 go_upto_region 17 with fail
 clear q0 q1 q2 q3 q4 q5 q6 q7
 go_loopw [71] (fun i wr=>∃ j : Nat,j ≤ c.p.l.length ∧ i = .int .i64 j ∧ PG W2 b (t3 ++ tg 3 c.p.l j) wr ∧ (t3 ++ tg 3 c.p.l j).length ≤ (t3).length + 60 * j) (fun i _=>c.p.l.length - (intOf i).toNat)
 case atStart=>exact ⟨0,by omega,rfl,by rw [tg_0,List.append_nil];exact HG.out,by rw [tg_0,List.append_nil];omega⟩
 clear HG
 obtain ⟨j,hj,rfl,hg,htl⟩:=hrel
 have HG:=Lib.hid hg
 have HX:=Lib.hid (H2.out.below hg.bel)
 have HTL:=Lib.hid htl
 clear hg htl
 by_cases hlt : j < c.p.l.length
 case pos=>
  obtain ⟨bx,ox,hax,hcx⟩:=H2.out.ok.p.cells (by omega) j hlt
  obtain ⟨x,y,hrow⟩:=row2 hlt H2.out.ok.p.len
  have hfit:=HF.out.p _ (List.getElem_mem hlt)
  rw [hrow] at hcx hfit
  simp only [List.getD_cons_zero,List.getD_cons_succ] at hfit
  obtain ⟨f2,f3⟩:=hfit
  have c0:=hcx _ HG.out.bel 0 _ rfl;have c1:=hcx _ HG.out.bel 1 _ rfl
  simp only [Nat.add_zero] at c0
  have d1 : decide ((j : Int) < (c.p.l.length : Int)) = true:=decide_eq_true (by omega)
  have d1' : decide (j < c.p.l.length) = true:=decide_eq_true hlt
  have w1 : IntKind.i64.wrap ((j : Int) + 1) = (j : Int) + 1:=by rw [IntKind.wrap_i64];omega
  have kz : (0 : Int) ≤ (j : Int):=by omega
  have kl : (j : Int) < (c.p.l.length : Int):=by omega
  have htl : (t3 ++ tg 3 c.p.l j).length ≤ 1000000:=by have:=HTL.out;omega
  have HLINE:=fun W=>Lib.hid (fun hg=>pport_any x y f2 (f3.imp id fun h=>⟨h.1,by omega⟩) W2 b (t3 ++ tg 3 c.p.l j) W hg htl)
  have HV : Hid ((t3 ++ tg 3 c.p.l j) ++ (lineT (3,[x,y]) ++ [10]) = t3 ++ tg 3 c.p.l (j + 1)):=by rw [Hid,tg_succ 3 c.p.l j hlt,hrow,List.append_assoc]
  have HVL : Hid ((t3 ++ tg 3 c.p.l (j + 1)).length ≤ (t3).length + 60 * (j + 1)):=by
   rw [← HV.out,Hid,List.length_append]
   have h1:=port_len f2 f3
   have h3:=HTL.out
   omega
  have HAX:=Lib.hid hax
  rw [hax]
  clear hcx hrow htl f2 f3 hax
  go_upto_region 19 with fail
  clear c0 c1
  have R1 : Hid (ObjAt (wr.alloc (.cells #[.int .i64 x,.int .i64 y] 134)) wr.heap.size 134 [.int .i64 x,.int .i64 y]):=ObjAt.new wr _ _
  have HG1 : Hid (PG W2 b (t3 ++ tg 3 c.p.l j) (wr.alloc (.cells #[.int .i64 x,.int .i64 y] 134))):=HG.out.more ((Below.refl _ _).alloc (Nat.le_refl _) _)
  generalize wr.alloc (.cells #[.int .i64 x,.int .i64 y] 134) = W4 at R1 HG1 ⊢
  generalize wr.heap.size = rr at R1 ⊢
  have c0:=R1.out.cell 0 _ rfl
  have c1:=R1.out.cell 1 _ rfl
  go_wp2_with (go_at_call 67;refine ((HLINE _).out HG1.out).mono ?_;rintro e W7 ⟨rfl,h7,h8⟩;have HG7:=Lib.hid h7;clear h7 h8 c0 c1)
  go_roundw
  case rel=>exact ⟨j + 1,by omega,by go_num,by rw [← HV.out];exact HG7.out,HVL.out⟩
  case measure=>simp [intOf];omega
 obtain rfl : j = c.p.l.length:=by omega
 have dq : decide ((c.p.l.length : Int) < (c.p.l.length : Int)) = false:=decide_eq_false (by omega)
 have HTL2:=Lib.hid HTL.out
 obtain ⟨t4,ht2⟩ : ∃ tz,tz = t3 ++ tg 3 c.p.l c.p.l.length:=⟨_,rfl⟩
 rw [← ht2] at HG HTL2
 rw [tg_all] at ht2
 have HVt4:=Lib.hid ht2
 have hlt4 : t4.length ≤ 1400:=by have:=HTL2.out;omega
 clear HTL HTL2 ht2
 (have q0:=HX.out.ob.cell 0 _ rfl;have q1:=HX.out.ob.cell 1 _ rfl;have q2:=HX.out.ob.cell 2 _ rfl;have q3:=HX.out.ob.cell 3 _ rfl;have q4:=HX.out.ob.cell 4 _ rfl;have q5:=HX.out.ob.cell 5 _ rfl;have q6:=HX.out.ob.cell 6 _ rfl;have q7:=HX.out.ob.cell 7 _ rfl)
 go_upto_region 22 with fail
 clear q0 q1 q2 q3 q4 q5 q6 q7
 go_loopw [82] (fun i wr=>∃ j : Nat,j ≤ c.n.l.length ∧ i = .int .i64 j ∧ PG W2 b (t4 ++ tg 4 c.n.l j) wr ∧ (t4 ++ tg 4 c.n.l j).length ≤ (t4).length + 60 * j) (fun i _=>c.n.l.length - (intOf i).toNat)
 case atStart=>exact ⟨0,by omega,rfl,by rw [tg_0,List.append_nil];exact HG.out,by rw [tg_0,List.append_nil];omega⟩
 clear HG
 obtain ⟨j,hj,rfl,hg,htl⟩:=hrel
 have HG:=Lib.hid hg
 have HX:=Lib.hid (H2.out.below hg.bel)
 have HTL:=Lib.hid htl
 clear hg htl
 by_cases hlt : j < c.n.l.length
 case pos=>
  obtain ⟨bx,ox,hax,hcx⟩:=H2.out.ok.n.cells (by omega) j hlt
  obtain ⟨x,y,hrow⟩:=row2 hlt H2.out.ok.n.len
  have hfit:=HF.out.n _ (List.getElem_mem hlt)
  rw [hrow] at hcx hfit
  simp only [List.getD_cons_zero,List.getD_cons_succ] at hfit
  obtain ⟨f2,f3⟩:=hfit
  have c0:=hcx _ HG.out.bel 0 _ rfl;have c1:=hcx _ HG.out.bel 1 _ rfl
  simp only [Nat.add_zero] at c0
  have d1 : decide ((j : Int) < (c.n.l.length : Int)) = true:=decide_eq_true (by omega)
  have d1' : decide (j < c.n.l.length) = true:=decide_eq_true hlt
  have w1 : IntKind.i64.wrap ((j : Int) + 1) = (j : Int) + 1:=by rw [IntKind.wrap_i64];omega
  have kz : (0 : Int) ≤ (j : Int):=by omega
  have kl : (j : Int) < (c.n.l.length : Int):=by omega
  have htl : (t4 ++ tg 4 c.n.l j).length ≤ 1000000:=by have:=HTL.out;omega
  have HLINE:=fun W g=>Lib.hid (pline2 4 (by decide) [] x y ⟨f2.1,by omega⟩ ⟨f3.1,by omega⟩ (w:=W2) (b:=b) (t:=t4 ++ tg 4 c.n.l j) htl (by simp) W g)
  have HV : Hid ((t4 ++ tg 4 c.n.l j) ++ lnW 4 [] [x,y] = t4 ++ tg 4 c.n.l (j + 1)):=by rw [Hid,lnW_k,tg_succ 4 c.n.l j hlt,hrow,List.append_assoc]
  have HVL : Hid ((t4 ++ tg 4 c.n.l (j + 1)).length ≤ (t4).length + 60 * (j + 1)):=by
   rw [← HV.out,Hid,List.length_append]
   have h1:=lnW_len 4 (by decide) [] [x,y] (by intro n hn;simp at hn;rcases hn with rfl | rfl <;> omega)
   have h3:=HTL.out
   simp only [List.length_cons,List.length_nil] at h1
   omega
  have HAX:=Lib.hid hax
  rw [hax]
  clear hcx hrow htl f2 f3 hax
  go_upto_region 24 with fail
  clear c0 c1
  have R1 : Hid (ObjAt (wr.alloc (.cells #[.int .i64 x,.int .i64 y] 137)) wr.heap.size 137 [.int .i64 x,.int .i64 y]):=ObjAt.new wr _ _
  have HG1 : Hid (PG W2 b (t4 ++ tg 4 c.n.l j) (wr.alloc (.cells #[.int .i64 x,.int .i64 y] 137))):=HG.out.more ((Below.refl _ _).alloc (Nat.le_refl _) _)
  generalize wr.alloc (.cells #[.int .i64 x,.int .i64 y] 137) = W4 at R1 HG1 ⊢
  generalize wr.heap.size = rr at R1 ⊢
  have c0:=R1.out.cell 0 _ rfl
  have c1:=R1.out.cell 1 _ rfl
  go_wp2_with (go_at_call 65;refine ((HLINE _ _).out (HG1.out.more ((Below.refl _ _).alloc (Nat.le_refl _) _)) (ObjAt.new _ _ _)).mono ?_;rintro e W7 ⟨rfl,h7,h8⟩;have HG7:=Lib.hid h7;clear h7 h8 c0 c1)
  go_roundw
  case rel=>exact ⟨j + 1,by omega,by go_num,by rw [← HV.out];exact HG7.out,HVL.out⟩
  case measure=>simp [intOf];omega
 obtain rfl : j = c.n.l.length:=by omega
 have dq : decide ((c.n.l.length : Int) < (c.n.l.length : Int)) = false:=decide_eq_false (by omega)
 have HTL2:=Lib.hid HTL.out
 obtain ⟨t5,ht2⟩ : ∃ tz,tz = t4 ++ tg 4 c.n.l c.n.l.length:=⟨_,rfl⟩
 rw [← ht2] at HG HTL2
 rw [tg_all] at ht2
 have HVt5:=Lib.hid ht2
 have hlt5 : t5.length ≤ 1700:=by have:=HTL2.out;omega
 clear HTL HTL2 ht2
 (have q0:=HX.out.ob.cell 0 _ rfl;have q1:=HX.out.ob.cell 1 _ rfl;have q2:=HX.out.ob.cell 2 _ rfl;have q3:=HX.out.ob.cell 3 _ rfl;have q4:=HX.out.ob.cell 4 _ rfl;have q5:=HX.out.ob.cell 5 _ rfl;have q6:=HX.out.ob.cell 6 _ rfl;have q7:=HX.out.ob.cell 7 _ rfl)
 go_upto_region 27 with fail
 clear q0 q1 q2 q3 q4 q5 q6 q7
 go_loopw [97] (fun i wr=>∃ j : Nat,j ≤ c.s.l.length ∧ i = .int .i64 j ∧ PG W2 b (t5 ++ tg 5 c.s.l j) wr ∧ (t5 ++ tg 5 c.s.l j).length ≤ (t5).length + 60 * j) (fun i _=>c.s.l.length - (intOf i).toNat)
 case atStart=>exact ⟨0,by omega,rfl,by rw [tg_0,List.append_nil];exact HG.out,by rw [tg_0,List.append_nil];omega⟩
 clear HG
 obtain ⟨j,hj,rfl,hg,htl⟩:=hrel
 have HG:=Lib.hid hg
 have HX:=Lib.hid (H2.out.below hg.bel)
 have HTL:=Lib.hid htl
 clear hg htl
 by_cases hlt : j < c.s.l.length
 case pos=>
  obtain ⟨bx,ox,hax,hcx⟩:=H2.out.ok.s.cells (by omega) j hlt
  obtain ⟨x,y,hrow⟩:=row2 hlt H2.out.ok.s.len
  have hfit:=HF.out.s _ (List.getElem_mem hlt)
  rw [hrow] at hcx hfit
  simp only [List.getD_cons_zero,List.getD_cons_succ] at hfit
  obtain ⟨f2,f3⟩:=hfit
  have c0:=hcx _ HG.out.bel 0 _ rfl;have c1:=hcx _ HG.out.bel 1 _ rfl
  simp only [Nat.add_zero] at c0
  have d1 : decide ((j : Int) < (c.s.l.length : Int)) = true:=decide_eq_true (by omega)
  have d1' : decide (j < c.s.l.length) = true:=decide_eq_true hlt
  have w1 : IntKind.i64.wrap ((j : Int) + 1) = (j : Int) + 1:=by rw [IntKind.wrap_i64];omega
  have kz : (0 : Int) ≤ (j : Int):=by omega
  have kl : (j : Int) < (c.s.l.length : Int):=by omega
  have htl : (t5 ++ tg 5 c.s.l j).length ≤ 1000000:=by have:=HTL.out;omega
  have HLINE:=fun W g=>Lib.hid (pline2 5 (by decide) [] x y ⟨f2.1,by omega⟩ ⟨f3.1,by omega⟩ (w:=W2) (b:=b) (t:=t5 ++ tg 5 c.s.l j) htl (by simp) W g)
  have HV : Hid ((t5 ++ tg 5 c.s.l j) ++ lnW 5 [] [x,y] = t5 ++ tg 5 c.s.l (j + 1)):=by rw [Hid,lnW_k,tg_succ 5 c.s.l j hlt,hrow,List.append_assoc]
  have HVL : Hid ((t5 ++ tg 5 c.s.l (j + 1)).length ≤ (t5).length + 60 * (j + 1)):=by
   rw [← HV.out,Hid,List.length_append]
   have h1:=lnW_len 5 (by decide) [] [x,y] (by intro n hn;simp at hn;rcases hn with rfl | rfl <;> omega)
   have h3:=HTL.out
   simp only [List.length_cons,List.length_nil] at h1
   omega
  have HAX:=Lib.hid hax
  rw [hax]
  clear hcx hrow htl f2 f3 hax
  go_upto_region 29 with fail
  clear c0 c1
  have R1 : Hid (ObjAt (wr.alloc (.cells #[.int .i64 x,.int .i64 y] 139)) wr.heap.size 139 [.int .i64 x,.int .i64 y]):=ObjAt.new wr _ _
  have HG1 : Hid (PG W2 b (t5 ++ tg 5 c.s.l j) (wr.alloc (.cells #[.int .i64 x,.int .i64 y] 139))):=HG.out.more ((Below.refl _ _).alloc (Nat.le_refl _) _)
  generalize wr.alloc (.cells #[.int .i64 x,.int .i64 y] 139) = W4 at R1 HG1 ⊢
  generalize wr.heap.size = rr at R1 ⊢
  have c0:=R1.out.cell 0 _ rfl
  have c1:=R1.out.cell 1 _ rfl
  go_wp2_with (go_at_call 65;refine ((HLINE _ _).out (HG1.out.more ((Below.refl _ _).alloc (Nat.le_refl _) _)) (ObjAt.new _ _ _)).mono ?_;rintro e W7 ⟨rfl,h7,h8⟩;have HG7:=Lib.hid h7;clear h7 h8 c0 c1)
  go_roundw
  case rel=>exact ⟨j + 1,by omega,by go_num,by rw [← HV.out];exact HG7.out,HVL.out⟩
  case measure=>simp [intOf];omega
 obtain rfl : j = c.s.l.length:=by omega
 have dq : decide ((c.s.l.length : Int) < (c.s.l.length : Int)) = false:=decide_eq_false (by omega)
 have HTL2:=Lib.hid HTL.out
 obtain ⟨t6,ht2⟩ : ∃ tz,tz = t5 ++ tg 5 c.s.l c.s.l.length:=⟨_,rfl⟩
 rw [← ht2] at HG HTL2
 rw [tg_all] at ht2
 have HVt6:=Lib.hid ht2
 have hlt6 : t6.length ≤ 2200:=by have:=HTL2.out;omega
 clear HTL HTL2 ht2
 (have q0:=HX.out.ob.cell 0 _ rfl;have q1:=HX.out.ob.cell 1 _ rfl;have q2:=HX.out.ob.cell 2 _ rfl;have q3:=HX.out.ob.cell 3 _ rfl;have q4:=HX.out.ob.cell 4 _ rfl;have q5:=HX.out.ob.cell 5 _ rfl;have q6:=HX.out.ob.cell 6 _ rfl;have q7:=HX.out.ob.cell 7 _ rfl)
 go_upto_region 31 with fail
 clear q0 q1 q2 q3 q4 q5 q6 q7
 have HVA : Hid (t6 ++ textT (gateR (pcOf c)) = prT (pcOf c)):=by
  rw [Hid,HVt6.out,HVt5.out,HVt4.out,HVt3.out,HVt2.out,HVt1.out]
  unfold prT rowsP
  rw [show ((0,[(pcOf c).cats]) :: (tag 1 (pcOf c).g ++ (tag 2 (pcOf c).r ++ (tag 3 (pcOf c).p ++ (tag 4 (pcOf c).n ++ (tag 5 (pcOf c).s ++ gateR (pcOf c))))))) = [(0,[(pcOf c).cats])] ++ (tag 1 (pcOf c).g ++ (tag 2 (pcOf c).r ++ (tag 3 (pcOf c).p ++ (tag 4 (pcOf c).n ++ (tag 5 (pcOf c).s ++ gateR (pcOf c)))))) from rfl]
  simp only [textT_app,List.append_assoc]
  rfl
 have HNE : Hid (t6 ≠ []):=fun e=>by
  have h1:=HVt6.out;have h2:=HVt5.out;have h3:=HVt4.out;have h4:=HVt3.out;have h5:=HVt2.out;have h6:=HVt1.out
  rw [h2,h3,h4,h5,h6,textT_one] at h1
  rw [e] at h1
  have:=congrArg List.length h1
  simp at this
 (have q0:=HX.out.ob.cell 0 _ rfl;have q1:=HX.out.ob.cell 1 _ rfl;have q2:=HX.out.ob.cell 2 _ rfl;have q3:=HX.out.ob.cell 3 _ rfl;have q4:=HX.out.ob.cell 4 _ rfl;have q5:=HX.out.ob.cell 5 _ rfl;have q6:=HX.out.ob.cell 6 _ rfl;have q7:=HX.out.ob.cell 7 _ rfl)
 by_cases hgt : c.gate = -1
 ·have n1 : (c.gate != -1) = false:=by simp [hgt]
  have HGR : Hid (t6 = prT (pcOf c)):=by
   have:=HVA.out
   rw [show gateR (pcOf c) = [] from by unfold gateR;rw [if_pos (show (pcOf c).gate = -1 from hgt)]] at this
   rw [Hid,← this];simp [textT]
  clear hgt
  go_wp2_with (go_at_call 32;refine (pgstring _ _ _ _ HG.out.pg HNE.out).mono ?_;rintro e W8 ⟨rfl,_,h3,_⟩;have HB8:=Lib.hid (HG.out.bel.trans h3);clear h3)
  go_ret2
  exact HP.out t6 _ HGR.out (H2.out.bel.trans (HB8.out.mono H2.out.bel.size))
 ·have n1 : (c.gate != -1) = true:=by rw [bne_iff_ne];exact hgt
  have hfg:=HF.out.gate.resolve_left (fun h=>hgt h.1)
  obtain ⟨⟨f1,f2⟩,f3,f4⟩ : (0 ≤ c.gate ∧ c.gate < 4) ∧ 0 ≤ c.quota ∧ c.quota ≤ 64:=hfg
  have HLINE:=fun W g=>Lib.hid (pline2 6 (by decide) [] c.gate c.quota ⟨f1,by omega⟩ ⟨f3,by omega⟩ (w:=W2) (b:=b) (t:=t6) (by omega) (by simp) W g)
  have HGR : Hid (t6 ++ lnW 6 [] [c.gate,c.quota] = prT (pcOf c)):=by
   have:=HVA.out
   rw [show gateR (pcOf c) = [(6,[c.gate,c.quota])] from by unfold gateR;rw [if_neg (show ¬ (pcOf c).gate = -1 from hgt)];rfl,textT_one] at this
   rw [Hid,← this,show lnW 6 [] [c.gate,c.quota] = lineT (6,[c.gate,c.quota]) ++ [10] from lnW_k 2 _ _]
  clear hgt f1 f2 f3 f4
  go_wp2_with fail
  refine ((HLINE _ _).out (HG.out.more ((Below.refl _ _).alloc (Nat.le_refl _) _)) (ObjAt.new _ _ _)).mono ?_;rintro e W7 ⟨rfl,h7,h8⟩
  have HG7:=Lib.hid h7
  clear h7 h8 q0 q1 q2 q3 q4 q5 q6 q7
  go_wp2_with (go_at_call 32;refine (pgstring _ _ _ _ HG7.out.pg (by simp [HNE.out])).mono ?_;rintro e W8 ⟨rfl,_,h3,_⟩;have HB8:=Lib.hid (HG7.out.bel.trans h3);clear h3)
  go_ret2
  exact HP.out _ _ HGR.out (H2.out.bel.trans (HB8.out.mono H2.out.bel.size))
theorem pprint_any (c : Cv) (w : World) (h : CfgOk w c) (hP : PowIs w) : Calls Tryz.prog 36 #[(.agg #[.int .i64 c.cats,.slice c.g.a c.g.l.length c.g.cap,.slice c.r.a c.r.l.length c.r.cap,.slice c.p.a c.p.l.length c.p.cap,.slice c.n.a c.n.l.length c.n.cap,.slice c.s.a c.s.l.length c.s.cap,.int .i64 c.gate,.int .i64 c.quota])] w (PrPost c w):=by
 by_cases h0 : (chkV c).1 = 0
 ·exact pprint_yes c w h h0 hP
 ·exact pprint_no c w h h0
end Go.Proofs.YtoklonmiejdgmaaGreatDoor
/- Package script: Print. -/
namespace Go.Proofs.YtoklonmiejdgmaaGreatDoor.Sp
set_option linter.unusedVariables false
set_option linter.unusedSimpArgs false
set_option linter.unnecessarySimpa false
open Go.RowKit Go.Sort
set_option maxHeartbeats 4000000
set_option maxRecDepth 100000
set_option linter.unusedVariables false
/-- A configuration and a script, boxed one after the other. -/
structure CS (W0 W : World) (x : Nat) (c : Cv) (v : Sv) : Prop where
 bel : Below W0.heap.size W0 W
 oc : ObjAt W x 29 (cfgL c)
 os : ObjAt W (x + 1) 34 #[.slice v.ia v.im.length v.ic,.slice v.sa v.se.length v.sc,.slice v.na v.inp.length v.nc].toList
 cok : CfgOk W c
 vok : ScOk W v
theorem cs_new (W0 : World) (c : Cv) (v : Sv) (hc : CfgOk W0 c) (hv : ScOk W0 v) : CS W0 ((W0.alloc (.cells #[.int .i64 c.cats,.slice c.g.a c.g.l.length c.g.cap,.slice c.r.a c.r.l.length c.r.cap,.slice c.p.a c.p.l.length c.p.cap,.slice c.n.a c.n.l.length c.n.cap,.slice c.s.a c.s.l.length c.s.cap,.int .i64 c.gate,.int .i64 c.quota] 29)).alloc (.cells #[.slice v.ia v.im.length v.ic,.slice v.sa v.se.length v.sc,.slice v.na v.inp.length v.nc] 34)) W0.heap.size c v:=by
 have s1 : (W0.alloc (.cells #[.int .i64 c.cats,.slice c.g.a c.g.l.length c.g.cap,.slice c.r.a c.r.l.length c.r.cap,.slice c.p.a c.p.l.length c.p.cap,.slice c.n.a c.n.l.length c.n.cap,.slice c.s.a c.s.l.length c.s.cap,.int .i64 c.gate,.int .i64 c.quota] 29)).heap.size = W0.heap.size + 1:=World.size_alloc _ _
 have hb : Below W0.heap.size W0 ((W0.alloc (.cells #[.int .i64 c.cats,.slice c.g.a c.g.l.length c.g.cap,.slice c.r.a c.r.l.length c.r.cap,.slice c.p.a c.p.l.length c.p.cap,.slice c.n.a c.n.l.length c.n.cap,.slice c.s.a c.s.l.length c.s.cap,.int .i64 c.gate,.int .i64 c.quota] 29)).alloc (.cells #[.slice v.ia v.im.length v.ic,.slice v.sa v.se.length v.sc,.slice v.na v.inp.length v.nc] 34)):=((Below.refl _ _).alloc (Nat.le_refl _) _).alloc (by rw [s1];omega) _
 refine ⟨hb,(ObjAt.new W0 29 (cfgL c)).below ((Below.refl _ _).alloc (Nat.le_refl _) _),?_,hc.below hb,hv.below hb⟩
 have:=ObjAt.new (W0.alloc (.cells #[.int .i64 c.cats,.slice c.g.a c.g.l.length c.g.cap,.slice c.r.a c.r.l.length c.r.cap,.slice c.p.a c.p.l.length c.p.cap,.slice c.n.a c.n.l.length c.n.cap,.slice c.s.a c.s.l.length c.s.cap,.int .i64 c.gate,.int .i64 c.quota] 29)) 34 #[.slice v.ia v.im.length v.ic,.slice v.sa v.se.length v.sc,.slice v.na v.inp.length v.nc].toList
 rw [s1] at this;exact this
theorem CS.more {W0 W W' : World} {x : Nat} {c : Cv} {v : Sv} (h : CS W0 W x c v) (hb : Below W.heap.size W W') : CS W0 W' x c v:=⟨bmore h.bel hb,h.oc.below hb,h.os.below hb,h.cok.below hb,h.vok.below hb⟩
theorem plen_any {w W : World} {b : Nat} {t : List UInt8} (h : PG w b t W) : Calls Tryz.prog 41 #[.pointer (some ⟨b,0,none⟩)] W fun e w'=>e = .returned (.int .i64 t.length) ∧ w' = W:=by
 obtain ⟨p,a,cap,hb⟩ : ∃ p a cap,W.heap[b]? = some (.cells #[p,.slice a t.length cap] 90 (0,0)):=by
  rcases h.pg with ⟨_,v,h2,h3,_⟩ | ⟨_,v,h2,h3,_⟩
  all_goals
   rw [Lib.byteCells_length] at h3
   rcases h3.2 with ⟨rfl,h0⟩ | ⟨g,cap,cur,fz,rfl,_⟩
   ·exact ⟨_,none,0,by rw [h0];exact h2⟩
   ·exact ⟨_,some ⟨g,0,none⟩,cap,h2⟩
 have c1 : W.cell? ⟨b,1,none⟩ = some (.slice a t.length cap):=by rw [Lib.cell_of_heap hb];rfl
 clear hb h
 go_enter Tryz.func41,Tryz.ntmps41
 go_wp2_with fail
 go_ret
 exact ⟨rfl,rfl⟩
def SPrPost (c : Cv) (v : Sv) (w : World) (e : Ending) (w' : World) : Prop:=
 e = .returned (.tuple #[.string (ba (prS (pcOf c) (scOf v)).1),.int .i64 (prS (pcOf c) (scOf v)).2]) ∧ Below w.heap.size w w'
theorem secs_take_len (l : List (Int × List UInt8)) (hd : ∀ x ∈ l,x.2.length ≤ 1048576) (hl : l.length ≤ 1048576) (k : Nat) (hk : k ≤ l.length) (hs : ∀ j (hj : j < l.length),j < k → fitB l[j].1 = true) : (secsT (l.take k)).length ≤ 4000000000000:=by
 have:=flatMap_le (fun x=>lnT (secW x)) 3000001 (l.take k) (fun x hx=>by
  obtain ⟨j,hj,rfl⟩:=List.mem_iff_getElem.1 hx
  rw [List.length_take] at hj
  rw [List.getElem_take]
  exact secT_len' (hs j (by omega) (by omega)) (hd _ (List.getElem_mem _)))
 rw [List.length_take] at this
 have h2 : min k l.length * 3000001 ≤ 1048576 * 3000001:=Nat.mul_le_mul_right _ (by omega)
 unfold secsT;omega
theorem inps_take_len (l : List (Int × Int × Int × Int × List UInt8)) (hd : ∀ x ∈ l,x.2.2.2.2.length ≤ 1048576) (hl : l.length ≤ 1048576) (k : Nat) (hk : k ≤ l.length) (hs : ∀ j (hj : j < l.length),j < k → (inpW l[j]).isSome = true) : (inpsT (l.take k)).length ≤ 5000000000000:=by
 have:=flatMap_le (fun x=>lnT ((inpW x).getD [])) 4000001 (l.take k) (fun x hx=>by
  obtain ⟨j,hj,rfl⟩:=List.mem_iff_getElem.1 hx
  rw [List.length_take] at hj
  rw [List.getElem_take]
  exact inpT_len' (hs j (by omega) (by omega)) (hd _ (List.getElem_mem _)))
 rw [List.length_take] at this
 have h2 : min k l.length * 4000001 ≤ 1048576 * 4000001:=Nat.mul_le_mul_right _ (by omega)
 unfold inpsT;omega
theorem prT_ne (c : Pc) : prT c ≠ []:=by simp [prT,textT,rowsP]
theorem prS_0 {c : Pc} {s : Sc} (h : chkP c = 0) (h1 : longB s.im = true) : prS c s = ([],10):=by rw [prS,if_neg (by rw [h];simp),if_pos h1]
theorem prS_1 {c : Pc} {s : Sc} (h : chkP c = 0) (h1 : longB s.im = false) (h2 : s.se.all (fun x=>fitB x.1) = false) : prS c s = ([],6):=by rw [prS,if_neg (by rw [h];simp),if_neg (by rw [h1];simp),if_pos h2]
theorem prS_2 {c : Pc} {s : Sc} (h : chkP c = 0) (h1 : longB s.im = false) (h2 : s.se.all (fun x=>fitB x.1) = true) (h3 : s.inp.all (fun x=>(inpW x).isSome) = false) : prS c s = ([],6):=by
 rw [prS,if_neg (by rw [h];simp),if_neg (by rw [h1];simp),if_neg (by rw [h2];simp),if_pos h3]
theorem prS_3 {c : Pc} {s : Sc} (h : chkP c = 0) (h1 : longB s.im = false) (h2 : s.se.all (fun x=>fitB x.1) = true) (h3 : s.inp.all (fun x=>(inpW x).isSome) = true) : prS c s = if 16384 < (prT c ++ bodyT s).length then ([],10) else (prT c ++ bodyT s,0):=by
 rw [prS,if_neg (by rw [h];simp),if_neg (by rw [h1];simp),if_neg (by rw [h2];simp),if_neg (by rw [h3];simp)]
theorem sprint_any (c : Cv) (v : Sv) (w : World) (hc : CfgOk w c) (hv : ScOk w v) (hm : Mild (scOf v)) (hp : chkP (pcOf c) = 0 → (prT (pcOf c)).length ≤ 16384) (hP : PowIs w) (hI : Isa.Tab w) : Calls Tryz.prog 18 #[.agg #[.int .i64 c.cats,.slice c.g.a c.g.l.length c.g.cap,.slice c.r.a c.r.l.length c.r.cap,.slice c.p.a c.p.l.length c.p.cap,.slice c.n.a c.n.l.length c.n.cap,.slice c.s.a c.s.l.length c.s.cap,.int .i64 c.gate,.int .i64 c.quota],.agg #[.slice v.ia v.im.length v.ic,.slice v.sa v.se.length v.sc,.slice v.na v.inp.length v.nc]] w (SPrPost c v w):=by
 obtain ⟨C,hC⟩ : ∃ C,C = pcOf c:=⟨_,rfl⟩
 obtain ⟨L,hL⟩ : ∃ L,L = (scOf v).im:=⟨_,rfl⟩
 obtain ⟨W1,hW1⟩ : ∃ W1,W1 = (w.alloc (.cells #[.int .i64 c.cats,.slice c.g.a c.g.l.length c.g.cap,.slice c.r.a c.r.l.length c.r.cap,.slice c.p.a c.p.l.length c.p.cap,.slice c.n.a c.n.l.length c.n.cap,.slice c.s.a c.s.l.length c.s.cap,.int .i64 c.gate,.int .i64 c.quota] 29)).alloc (.cells #[.slice v.ia v.im.length v.ic,.slice v.sa v.se.length v.sc,.slice v.na v.inp.length v.nc] 34):=⟨_,rfl⟩
 have HX1 : Hid (CS w W1 w.heap.size c v):=by rw [hW1];exact cs_new w c v hc hv
 have HW1:=Lib.hid hW1
 obtain ⟨k0,hk0⟩ : ∃ k,k = chkP C:=⟨_,rfl⟩
 have hck : (chkV c).1 = k0:=by rw [hk0,hC,chkP_of]
 have HPR0:=fun W h1 h2=>pprint_any c W h1 h2
 obtain ⟨P,hPP⟩ : ∃ P,P = SPrPost c v w:=⟨_,rfl⟩
 have HR : Hid (∀ t e w',prS C (scOf v) = (t,e) → Below w.heap.size w w' → P (.returned (.tuple #[.string (ba t),.int .i64 e])) w'):=fun t e w' h hb=>by rw [hPP];exact ⟨by rw [← hC,h],hb⟩
 rw [← hPP]
 have HPW:=Lib.hid (hP.below HX1.out.bel)
 have HTB:=Lib.hid (hI.below HX1.out.bel)
 have HMD:=Lib.hid hm
 rw [← hC] at hp
 by_cases hk : k0 = 0
 ·have HPR : Hid (∀ W,CfgOk W c → PowIs W → Calls Tryz.prog 36 #[.agg #[.int .i64 c.cats,.slice c.g.a c.g.l.length c.g.cap,.slice c.r.a c.r.l.length c.r.cap,.slice c.p.a c.p.l.length c.p.cap,.slice c.n.a c.n.l.length c.n.cap,.slice c.s.a c.s.l.length c.s.cap,.int .i64 c.gate,.int .i64 c.quota]] W fun e w'=>e = .returned (.tuple #[.string (ba (prT C)),.int .i64 0]) ∧ Below W.heap.size W w'):=fun W h1 h2=>(HPR0 W h1 h2).mono fun e w' h=>⟨by rw [hC];exact h.2.1 (by rw [hck];exact hk),h.2.2⟩
  have hz : chkP C = 0:=by rw [← hk0];exact hk
  have hpl:=hp hz
  have HE1 : Hid (longB L = true → ∀ w',Below w.heap.size w w' → P (.returned (.tuple #[.string ⟨#[]⟩,.int .i64 10])) w'):=fun h1 w' hb=>HR.out [] 10 w' (prS_0 hz (by rw [← hL];exact h1)) hb
  have HE2 : Hid (longB L = false → ∀ k (hk : k < v.se.length),fitB v.se[k].1 = false → ∀ w',Below w.heap.size w w' → P (.returned (.tuple #[.string ⟨#[]⟩,.int .i64 6])) w'):=fun h1 k hk h2 w' hb=>HR.out [] 6 w' (prS_1 hz (by rw [← hL];exact h1) (by rw [List.all_eq_false];exact ⟨v.se[k],List.getElem_mem hk,by rw [h2];simp⟩)) hb
  have HE3 : Hid (longB L = false → (∀ k (hk : k < v.se.length),k < v.se.length → fitB v.se[k].1 = true) → ∀ k (hk : k < v.inp.length),(inpW v.inp[k]).isSome = false → ∀ w',Below w.heap.size w w' → P (.returned (.tuple #[.string ⟨#[]⟩,.int .i64 6])) w'):=fun h1 h2 k hk h3 w' hb=>HR.out [] 6 w' (prS_2 hz (by rw [← hL];exact h1) (by
   rw [List.all_eq_true];intro x hx
   obtain ⟨j,hj,rfl⟩:=List.mem_iff_getElem.1 hx
   exact h2 j hj hj) (by rw [List.all_eq_false];exact ⟨v.inp[k],List.getElem_mem hk,by rw [h3];simp⟩)) hb
  have HE4 : Hid (longB L = false → (∀ k (hk : k < v.se.length),k < v.se.length → fitB v.se[k].1 = true) → (∀ k (hk : k < v.inp.length),k < v.inp.length → (inpW v.inp[k]).isSome = true) → ∀ T,T = ((prT C ++ imgsT L) ++ secsT v.se) ++ inpsT v.inp → ∀ t e w',(if 16384 < T.length then ([],10) else (T,0)) = (t,e) → Below w.heap.size w w' → P (.returned (.tuple #[.string (ba t),.int .i64 e])) w'):=fun h1 h2 h3 T hT t e w' he hb=>HR.out t e w' (by
   rw [prS_3 hz (by rw [← hL];exact h1) (by
    rw [List.all_eq_true];intro x hx
    obtain ⟨j,hj,rfl⟩:=List.mem_iff_getElem.1 hx
    exact h2 j hj hj) (by
    rw [List.all_eq_true];intro x hx
    obtain ⟨j,hj,rfl⟩:=List.mem_iff_getElem.1 hx
    exact h3 j hj hj),show prT C ++ bodyT (scOf v) = T by rw [hT,bodyT,← hL];simp [scOf,List.append_assoc]]
   exact he) hb
  have HNE:=Lib.hid (prT_ne C)
  have hsl : v.se.length ≤ 1048576:=hm.se
  have hnl : v.inp.length ≤ 1048576:=hm.inp
  have HIMG : Hid (∀ (W2 W' : World) b,ScOk W2 v → PG W2 b (prT C) W' → Calls Tryz.prog 38 #[.pointer (some ⟨b,0,none⟩),.slice v.ia v.im.length v.ic] W' (ImPost W2 b (prT C) W' L)):=fun W2 W' b h1 h2=>by
   rw [hL];exact simages_any v W2 h1 hm b (prT C) W' h2 (by omega)
  have HIL : Hid (longB L = false → (imgsT L).length ≤ 116000000000):=fun h=>by
   have:=imgs_take_len L (by rw [hL];exact hm.w) (by rw [hL];exact hm.im) L.length (Nat.le_refl _) (fun j hj _ h5=>by
    rw [longB,List.any_eq_false] at h
    exact absurd (h L[j] (List.getElem_mem hj)) (by simp;omega))
   rw [List.take_length] at this;exact this
  clear HPR0 hck hk0 hk hC hL hz hp HR hPP hc hv hm hP hI hW1
  have p0:=(HX1.out.oc).cell 0 _ rfl;have p1:=(HX1.out.oc).cell 1 _ rfl;have p2:=(HX1.out.oc).cell 2 _ rfl;have p3:=(HX1.out.oc).cell 3 _ rfl;have p4:=(HX1.out.oc).cell 4 _ rfl;have p5:=(HX1.out.oc).cell 5 _ rfl;have p6:=(HX1.out.oc).cell 6 _ rfl;have p7:=(HX1.out.oc).cell 7 _ rfl
  go_enter Tryz.func18,Tryz.ntmps18
  go_upto_region 1 with fail
  rw [← HW1.out]
  go_upto_region 4 with (go_at_call 36;refine (HPR.out _ HX1.out.cok HPW.out).mono ?_;rintro e W2 ⟨rfl,hb⟩;have HX2:=Lib.hid (HX1.out.more hb);have HPW2:=Lib.hid (HPW.out.below hb);have HTB2:=Lib.hid (HTB.out.below hb);clear hb)
  clear p0 p1 p2 p3 p4 p5 p6 p7
  obtain ⟨W3,hW3⟩ : ∃ W3,W3 = W2.alloc (.cells #[.pointer none,.slice none 0 0] 90):=⟨_,rfl⟩
  obtain ⟨b,hb⟩ : ∃ b,b = W2.heap.size:=⟨_,rfl⟩
  have HG3 : Hid (PG W2 b [] W3):=by rw [hW3,hb];exact ⟨((Below.refl _ _).alloc (Nat.le_refl _) _),HPW2.out,HTB2.out,PgIs.fresh W2⟩
  have HW3:=Lib.hid hW3
  have HBB:=Lib.hid hb
  have HUW : Hid (([] : List UInt8).length + (prT C).length ≤ 140737488355328):=by rw [Hid];simp;omega
  clear hW3 hb
  go_upto_region 5 with fail
  rw [← HW3.out,← HBB.out]
  go_upto_region 6 with (go_at_call 37;refine (pg_write HG3.out (prT C) HUW.out).mono ?_;rintro e W4 ⟨rfl,h5,_⟩;rw [List.nil_append] at h5;have HG4:=Lib.hid h5;clear h5)
  have HX4:=Lib.hid (HX2.out.more HG4.out.bel)
  have q0:=(HX4.out.os).cell 0 _ rfl;have q1:=(HX4.out.os).cell 1 _ rfl;have q2:=(HX4.out.os).cell 2 _ rfl
  cases hlb : longB L with
  | true=>
   have HIP : Hid (∀ e w',ImPost W2 b (prT C) W4 L e w' → e = .returned (.int .i64 10) ∧ ∃ t',PG W2 b t' w'):=fun e w' h=>h.2.1 hlb
   have HE:=Lib.hid (HE1.out hlb)
   clear hlb
   go_wp2_with (go_at_call 38;refine (HIMG.out _ _ _ HX2.out.vok HG4.out).mono ?_;intro e W5 hp;obtain ⟨rfl,t',h5⟩:=HIP.out _ _ hp;have HG5:=Lib.hid h5;clear hp h5)
   exact HE.out _ (bmore HX2.out.bel HG5.out.bel)
  | false=>
   have HIP : Hid (∀ e w',ImPost W2 b (prT C) W4 L e w' → e = .returned (.int .i64 0) ∧ PG W2 b (prT C ++ imgsT L) w'):=fun e w' h=>h.2.2 hlb
   have HE2:=Lib.hid (HE2.out hlb)
   have HE3:=Lib.hid (HE3.out hlb)
   have HE4:=Lib.hid (HE4.out hlb)
   obtain ⟨T1,hT1⟩ : ∃ T1,T1 = prT C ++ imgsT L:=⟨_,rfl⟩
   have hT1l : T1.length ≤ 117000000000:=by have:=HIL.out hlb;rw [hT1,List.length_append];omega
   rw [← hT1] at HIP HE4
   have HT1:=Lib.hid hT1
   have HSL:=Lib.hid (secs_take_len v.se HMD.out.sd hsl)
   have HNL:=Lib.hid (inps_take_len v.inp HMD.out.nd hnl)
   clear hlb hT1 HE1 HIL
   go_upto_region 9 with (go_at_call 38;refine (HIMG.out _ _ _ HX2.out.vok HG4.out).mono ?_;intro e W5 hp;obtain ⟨rfl,h5⟩:=HIP.out _ _ hp;have HG5:=Lib.hid h5;clear hp h5)
   clear q0 q1 q2
   have HX5:=Lib.hid (HX2.out.more HG5.out.bel)
   have q0:=(HX5.out.os).cell 0 _ rfl;have q1:=(HX5.out.os).cell 1 _ rfl;have q2:=(HX5.out.os).cell 2 _ rfl
   have HS0 : Hid (T1 ++ secsT (v.se.take 0) = T1):=by rw [Hid,List.take_zero];simp [secsT]
   go_upto_region 10 with fail
   clear q0 q1 q2
   go_loopw [39] (fun i wr=>∃ k : Nat,k ≤ v.se.length ∧ i = .int .i64 k ∧ (∀ j (hj : j < v.se.length),j < k → fitB v.se[j].1 = true) ∧ PG W2 b (T1 ++ secsT (v.se.take k)) wr) (fun i _=>v.se.length - (intOf i).toNat)
   case atStart=>exact ⟨0,by omega,rfl,(fun j _ h=>by omega),by rw [HS0.out];exact HG5.out⟩
   clear HS0 HG5 HX5
   obtain ⟨k,hk,rfl,hs,hg⟩:=hrel
   have HS:=Lib.hid hs
   have HG:=Lib.hid hg
   clear hs hg
   by_cases hlt : k < v.se.length
   case pos=>
    obtain ⟨g,o,ha,hc⟩:=(HX2.out.more HG.out.bel).vok.se_at k hlt
    obtain ⟨y,hy⟩ : ∃ y,y = v.se[k]:=⟨_,rfl⟩
    have hyd : y.2.length ≤ 1048576:=by rw [hy];exact HMD.out.sd _ (List.getElem_mem hlt)
    rw [← hy] at hc
    have u0:=hc _ (Below.refl _ _) 0 _ (by decide) rfl
    have u1:=hc _ (Below.refl _ _) 1 _ (by decide) rfl
    simp only [Nat.add_zero] at u0
    have htl:=HSL.out k hk HS.out
    have hTk : (T1 ++ secsT (v.se.take k)).length ≤ 100000000000000:=by rw [List.length_append];omega
    have HTS : Hid (secsT (v.se.take (k + 1)) = secsT (v.se.take k) ++ lnT (secW y)):=by rw [Hid,take_snoc v.se k hlt,secsT_snoc,← hy]
    have HSEC:=fun W' h=>Lib.hid (ssector_any y hyd W2 b (T1 ++ secsT (v.se.take k)) W' h hTk)
    obtain ⟨W6,hW6⟩ : ∃ W6,W6 = wr.alloc (.cells #[.int .i64 y.1,.string (ba y.2)] 72):=⟨_,rfl⟩
    have HG6 : Hid (PG W2 b (T1 ++ secsT (v.se.take k)) W6):=by rw [hW6];exact HG.out.more ((Below.refl _ _).alloc (Nat.le_refl _) _)
    have HO6 : Hid (ObjAt W6 wr.heap.size 72 [.int .i64 y.1,.string (ba y.2)]):=by rw [hW6];exact ObjAt.new wr _ _
    have HW6:=Lib.hid hW6
    have HY:=Lib.hid hy
    have d1 : decide ((k : Int) < (v.se.length : Int)) = true:=decide_eq_true (by omega)
    have d1' : decide (k < v.se.length) = true:=decide_eq_true hlt
    have w1 : IntKind.i64.wrap ((k : Int) + 1) = (k : Int) + 1:=by rw [IntKind.wrap_i64];omega
    rw [ha]
    clear hW6 hy ha hc hyd htl hTk
    cases hf : fitB y.1 with
    | false=>
     have HE:=fun w' h=>Lib.hid (HE2.out k hlt (by rw [← HY.out];exact hf) w' h)
     have HSP : Hid (∀ e w',SmPost W2 b (T1 ++ secsT (v.se.take k)) W6 (if fitB y.1 then some (lnT (secW y)) else none) e w' → e = .returned (.bool false) ∧ PG W2 b (T1 ++ secsT (v.se.take k)) w'):=fun e w' h=>by rw [hf] at h;exact ⟨h.1,h.2.1⟩
     clear hf
     go_upto_region 12 with fail
     rw [← HW6.out]
     have e0:=HO6.out.cell 0 _ rfl
     have e1:=HO6.out.cell 1 _ rfl
     go_wp2_with (go_at_call 39;refine ((HSEC _ HG6.out).out).mono ?_;intro e W7 hp;obtain ⟨rfl,h7⟩:=HSP.out _ _ hp;have HG7:=Lib.hid h7;clear hp h7)
     exact (HE _ (bmore HX2.out.bel HG7.out.bel)).out
    | true=>
     have HSP : Hid (∀ e w',SmPost W2 b (T1 ++ secsT (v.se.take k)) W6 (if fitB y.1 then some (lnT (secW y)) else none) e w' → e = .returned (.bool true) ∧ PG W2 b (T1 ++ secsT (v.se.take k) ++ lnT (secW y)) w'):=fun e w' h=>by rw [hf] at h;exact ⟨h.1,h.2.1⟩
     have HS2 : Hid (∀ j (hj : j < v.se.length),j < k + 1 → fitB v.se[j].1 = true):=fun j hj h=>by
      by_cases e : j = k
      ·subst e;rw [← HY.out];exact hf
      ·exact HS.out j hj (by omega)
     clear hf
     go_upto_region 12 with fail
     rw [← HW6.out]
     have e0:=HO6.out.cell 0 _ rfl
     have e1:=HO6.out.cell 1 _ rfl
     go_wp2_with (go_at_call 39;refine ((HSEC _ HG6.out).out).mono ?_;intro e W7 hp;obtain ⟨rfl,h7⟩:=HSP.out _ _ hp;have HG7:=Lib.hid h7;clear hp h7 e0 e1 u0 u1)
     go_roundw
     case rel=>exact ⟨k + 1,by omega,by go_num,HS2.out,by rw [HTS.out,← List.append_assoc];exact HG7.out⟩
     case measure=>simp [intOf];omega
   obtain rfl : k = v.se.length:=by omega
   have dq1 : decide ((v.se.length : Int) < (v.se.length : Int)) = false:=decide_eq_false (by omega)
   rw [List.take_length] at HG
   have hsl2:=HSL.out v.se.length (Nat.le_refl _) HS.out
   rw [List.take_length] at hsl2
   obtain ⟨T2,hT2⟩ : ∃ T2,T2 = T1 ++ secsT v.se:=⟨_,rfl⟩
   have hT2l : T2.length ≤ 5000000000000:=by rw [hT2,List.length_append];omega
   rw [← hT2] at HG HE4
   have HE3:=Lib.hid (HE3.out HS.out)
   have HE4:=Lib.hid (HE4.out HS.out)
   have HT2:=Lib.hid hT2
   clear hT2 HE2 HSL hsl2
   have HX6:=Lib.hid (HX2.out.more HG.out.bel)
   have q0:=(HX6.out.os).cell 0 _ rfl;have q1:=(HX6.out.os).cell 1 _ rfl;have q2:=(HX6.out.os).cell 2 _ rfl
   have HS0 : Hid (T2 ++ inpsT (v.inp.take 0) = T2):=by rw [Hid,List.take_zero];simp [inpsT]
   go_upto_region 16 with fail
   clear q0 q1 q2
   go_loopw [51] (fun i wr=>∃ k : Nat,k ≤ v.inp.length ∧ i = .int .i64 k ∧ (∀ j (hj : j < v.inp.length),j < k → (inpW v.inp[j]).isSome = true) ∧ PG W2 b (T2 ++ inpsT (v.inp.take k)) wr) (fun i _=>v.inp.length - (intOf i).toNat)
   case atStart=>exact ⟨0,by omega,rfl,(fun j _ h=>by omega),by rw [HS0.out];exact HG.out⟩
   clear HS0 HG HX6 HS
   obtain ⟨k,hk,rfl,hs,hg⟩:=hrel
   have HS:=Lib.hid hs
   have HG:=Lib.hid hg
   clear hs hg
   by_cases hlt : k < v.inp.length
   case pos=>
    obtain ⟨g,o,ha,hc⟩:=(HX2.out.more HG.out.bel).vok.in_at k hlt
    obtain ⟨y,hy⟩ : ∃ y,y = v.inp[k]:=⟨_,rfl⟩
    have hyd : y.2.2.2.2.length ≤ 1048576:=by rw [hy];exact HMD.out.nd _ (List.getElem_mem hlt)
    rw [← hy] at hc
    have u0:=hc _ (Below.refl _ _) 0 _ (by decide) rfl
    have u1:=hc _ (Below.refl _ _) 1 _ (by decide) rfl
    have u2:=hc _ (Below.refl _ _) 2 _ (by decide) rfl
    have u3:=hc _ (Below.refl _ _) 3 _ (by decide) rfl
    have u4:=hc _ (Below.refl _ _) 4 _ (by decide) rfl
    simp only [Nat.add_zero] at u0
    have htl:=HNL.out k hk HS.out
    have hTk : (T2 ++ inpsT (v.inp.take k)).length ≤ 100000000000000:=by rw [List.length_append];omega
    have HTS : Hid (inpsT (v.inp.take (k + 1)) = inpsT (v.inp.take k) ++ lnT ((inpW y).getD [])):=by rw [Hid,take_snoc v.inp k hlt,inpsT_snoc,← hy]
    have HSEC:=fun W' h=>Lib.hid (sinput_any y hyd W2 b (T2 ++ inpsT (v.inp.take k)) W' h hTk)
    obtain ⟨W6,hW6⟩ : ∃ W6,W6 = wr.alloc (.cells #[.int .i64 y.1,.int .i64 y.2.1,.int .i64 y.2.2.1,.int .i64 y.2.2.2.1,.string (ba y.2.2.2.2)] 74):=⟨_,rfl⟩
    have HG6 : Hid (PG W2 b (T2 ++ inpsT (v.inp.take k)) W6):=by rw [hW6];exact HG.out.more ((Below.refl _ _).alloc (Nat.le_refl _) _)
    have HO6 : Hid (ObjAt W6 wr.heap.size 74 [.int .i64 y.1,.int .i64 y.2.1,.int .i64 y.2.2.1,.int .i64 y.2.2.2.1,.string (ba y.2.2.2.2)]):=by rw [hW6];exact ObjAt.new wr _ _
    have HW6:=Lib.hid hW6
    have HY:=Lib.hid hy
    have d1 : decide ((k : Int) < (v.inp.length : Int)) = true:=decide_eq_true (by omega)
    have d1' : decide (k < v.inp.length) = true:=decide_eq_true hlt
    have w1 : IntKind.i64.wrap ((k : Int) + 1) = (k : Int) + 1:=by rw [IntKind.wrap_i64];omega
    rw [ha]
    clear hW6 hy ha hc hyd htl hTk
    cases hf : inpW y with
    | none=>
     have HE:=fun w' h=>Lib.hid (HE3.out k hlt (by rw [← HY.out,hf];rfl) w' h)
     have HSP : Hid (∀ e w',SmPost W2 b (T2 ++ inpsT (v.inp.take k)) W6 ((inpW y).map lnT) e w' → e = .returned (.bool false) ∧ PG W2 b (T2 ++ inpsT (v.inp.take k)) w'):=fun e w' h=>by rw [hf] at h;exact ⟨h.1,h.2.1⟩
     clear hf
     go_upto_region 18 with fail
     rw [← HW6.out]
     have e0:=HO6.out.cell 0 _ rfl
     have e1:=HO6.out.cell 1 _ rfl
     have e2:=HO6.out.cell 2 _ rfl
     have e3:=HO6.out.cell 3 _ rfl
     have e4:=HO6.out.cell 4 _ rfl
     go_wp2_with (go_at_call 40;refine ((HSEC _ HG6.out).out).mono ?_;intro e W7 hp;obtain ⟨rfl,h7⟩:=HSP.out _ _ hp;have HG7:=Lib.hid h7;clear hp h7)
     exact (HE _ (bmore HX2.out.bel HG7.out.bel)).out
    | some ws=>
     have HSP : Hid (∀ e w',SmPost W2 b (T2 ++ inpsT (v.inp.take k)) W6 ((inpW y).map lnT) e w' → e = .returned (.bool true) ∧ PG W2 b (T2 ++ inpsT (v.inp.take k) ++ lnT ((inpW y).getD [])) w'):=fun e w' h=>by rw [hf] at h ⊢;exact ⟨h.1,h.2.1⟩
     have HS2 : Hid (∀ j (hj : j < v.inp.length),j < k + 1 → (inpW v.inp[j]).isSome = true):=fun j hj h=>by
      by_cases e : j = k
      ·subst e;rw [← HY.out,hf];rfl
      ·exact HS.out j hj (by omega)
     clear hf
     go_upto_region 18 with fail
     rw [← HW6.out]
     have e0:=HO6.out.cell 0 _ rfl
     have e1:=HO6.out.cell 1 _ rfl
     have e2:=HO6.out.cell 2 _ rfl
     have e3:=HO6.out.cell 3 _ rfl
     have e4:=HO6.out.cell 4 _ rfl
     go_wp2_with (go_at_call 40;refine ((HSEC _ HG6.out).out).mono ?_;intro e W7 hp;obtain ⟨rfl,h7⟩:=HSP.out _ _ hp;have HG7:=Lib.hid h7;clear hp h7 e0 e1 e2 e3 e4 u0 u1 u2 u3 u4)
     go_roundw
     case rel=>exact ⟨k + 1,by omega,by go_num,HS2.out,by rw [HTS.out,← List.append_assoc];exact HG7.out⟩
     case measure=>simp [intOf];omega
   obtain rfl : k = v.inp.length:=by omega
   have dq2 : decide ((v.inp.length : Int) < (v.inp.length : Int)) = false:=decide_eq_false (by omega)
   rw [List.take_length] at HG
   have hnl2:=HNL.out v.inp.length (Nat.le_refl _) HS.out
   rw [List.take_length] at hnl2
   obtain ⟨T3,hT3⟩ : ∃ T3,T3 = T2 ++ inpsT v.inp:=⟨_,rfl⟩
   rw [← hT3] at HG
   have hT3l : T3.length ≤ 10000000000000:=by rw [hT3,List.length_append];omega
   have HT3N : Hid (T3 ≠ []):=by
    rw [Hid,hT3,HT2.out,HT1.out]
    intro e
    have:=HNE.out
    simp only [List.append_eq_nil_iff] at e
    exact this e.1.1.1
   have HE5:=Lib.hid (HE4.out HS.out T3 hT3)
   clear hT3 HE3 HE4 HNL hnl2
   by_cases h16 : 16384 < T3.length
   ·have d1 : decide ((T3.length : Int) > 16384) = true:=decide_eq_true (by omega)
    have d1' : decide (16384 < T3.length) = true:=decide_eq_true h16
    have HE:=fun w' h=>Lib.hid (HE5.out [] 10 w' (by rw [if_pos h16]) h)
    clear h16
    go_wp2_with (go_at_call 41;refine (plen_any HG.out).mono ?_;intro e W8 hp;obtain ⟨rfl,hw8⟩:=hp;have HG8 : Hid (PG W2 b T3 W8):=hw8 ▸ HG.out;clear hw8)
    exact (HE _ (bmore HX2.out.bel HG8.out.bel)).out
   ·have d1 : decide ((T3.length : Int) > 16384) = false:=decide_eq_false (by omega)
    have d1' : decide (16384 < T3.length) = false:=decide_eq_false h16
    have HE:=fun w' h=>Lib.hid (HE5.out T3 0 w' (by rw [if_neg h16]) h)
    clear h16
    go_wp2_with (first | (go_at_call 41;refine (plen_any HG.out).mono ?_;intro e W8 hp;obtain ⟨rfl,hw8⟩:=hp;have HG8 : Hid (PG W2 b T3 W8):=hw8 ▸ HG.out;clear hw8) | (go_at_call 32;refine (pgstring _ _ _ _ HG8.out.pg HT3N.out).mono ?_;rintro e W9 ⟨rfl,_,h9,_⟩;have HB9:=Lib.hid (HG8.out.bel.trans h9);clear h9))
    exact (HE _ (bmore HX2.out.bel HB9.out)).out
 ·have HPR : Hid (∀ W,CfgOk W c → PowIs W → Calls Tryz.prog 36 #[.agg #[.int .i64 c.cats,.slice c.g.a c.g.l.length c.g.cap,.slice c.r.a c.r.l.length c.r.cap,.slice c.p.a c.p.l.length c.p.cap,.slice c.n.a c.n.l.length c.n.cap,.slice c.s.a c.s.l.length c.s.cap,.int .i64 c.gate,.int .i64 c.quota]] W fun e w'=>e = .returned (.tuple #[.string ⟨#[]⟩,.int .i64 k0]) ∧ Below W.heap.size W w'):=fun W h1 h2=>(HPR0 W h1 h2).mono fun e w' h=>⟨by rw [← hck];exact h.1 (by rw [hck];exact hk),h.2.2⟩
  have n1 : (k0 != 0) = true:=by simp [hk]
  have HE:=fun w' h=>Lib.hid (HR.out [] k0 w' (by rw [prS,if_pos (by rw [← hk0];exact hk),← hk0]) h)
  clear HPR0 hck hk0 hk hC hL hPP hc hv hm hP hI hp hW1
  have p0:=(HX1.out.oc).cell 0 _ rfl;have p1:=(HX1.out.oc).cell 1 _ rfl;have p2:=(HX1.out.oc).cell 2 _ rfl;have p3:=(HX1.out.oc).cell 3 _ rfl;have p4:=(HX1.out.oc).cell 4 _ rfl;have p5:=(HX1.out.oc).cell 5 _ rfl;have p6:=(HX1.out.oc).cell 6 _ rfl;have p7:=(HX1.out.oc).cell 7 _ rfl
  go_enter Tryz.func18,Tryz.ntmps18
  go_upto_region 1 with fail
  rw [← HW1.out]
  go_wp2_with (go_at_call 36;refine (HPR.out _ HX1.out.cok HPW.out).mono ?_;rintro e W2 ⟨rfl,hb⟩;have HB2:=Lib.hid (bmore HX1.out.bel hb);clear hb)
  exact (HE _ HB2.out).out
end Go.Proofs.YtoklonmiejdgmaaGreatDoor.Sp
/- The law's awake; the reference's digits. -/
namespace Go.Proofs.YtoklonmiejdgmaaGreatDoor
set_option linter.unusedVariables false
set_option linter.unusedSimpArgs false
set_option linter.unnecessarySimpa false
open Go.RowKit Go.Sort
set_option maxHeartbeats 4000000
set_option maxRecDepth 100000
set_option linter.unusedVariables false
def swkT : List UInt8:=[99,97,116,115,32,48,10,103,117,101,115,116,32,45,32,50,32,48,10,115,108,111,116,32,48,32,49,10,105,109,97,103,101,10,104,97,108,116,10,101,110,100,10]
theorem swkP : ((scV swkT).1.g.length,(scV swkT).2.1.im.length,(scV swkT).2.2.1,(scV swkT).2.2.2) = (1,1,0,0):=by decide +kernel
theorem swkU : unV [54,49,54,50] = [97,98] ∧ unB [54,49,54,50] = true:=by decide +kernel
theorem sawake_any (w : World) (hT : WdTab w) (hI : Isa.Tab w) : Calls Tryz.prog 7 #[] w fun e w'=>e = .returned (.bool true) ∧ Below w.heap.size w w':=by
 have HU : Hid (Calls Tryz.prog 13 #[.string ⟨#[54,49,54,50]⟩] w fun e w'=>e = .returned (.tuple #[.string ⟨#[97,98]⟩,.bool true]) ∧ Below w.heap.size w w'):=by
  refine (unhex_any ⟨#[54,49,54,50]⟩ (by decide) w).mono ?_
  rintro e w' ⟨h1,h2⟩
  rw [show (⟨#[54,49,54,50]⟩ : ByteArray).data.toList = [54,49,54,50] from rfl,swkU.1,swkU.2] at h1
  exact ⟨h1,h2⟩
 have HA : Hid (∀ W,Below w.heap.size w W → Calls Tryz.prog 8 #[.string ⟨#[99,97,116,115,32,48,10,103,117,101,115,116,32,45,32,50,32,48,10,115,108,111,116,32,48,32,49,10,105,109,97,103,101,10,104,97,108,116,10,101,110,100,10]⟩] W fun e w'=>∃ (c : Cv) (v : Sv),e = .returned (.tuple #[(.agg #[.int .i64 c.cats,.slice c.g.a c.g.l.length c.g.cap,.slice c.r.a c.r.l.length c.r.cap,.slice c.p.a c.p.l.length c.p.cap,.slice c.n.a c.n.l.length c.n.cap,.slice c.s.a c.s.l.length c.s.cap,.int .i64 c.gate,.int .i64 c.quota]),(.agg #[.slice v.ia v.im.length v.ic,.slice v.sa v.se.length v.sc,.slice v.na v.inp.length v.nc]),.int .i64 0,.int .i64 0]) ∧ c.g.l.length = 1 ∧ v.im.length = 1 ∧ Below W.heap.size W w'):=fun W hb=>by
  refine (sparse_any ⟨#[99,97,116,115,32,48,10,103,117,101,115,116,32,45,32,50,32,48,10,115,108,111,116,32,48,32,49,10,105,109,97,103,101,10,104,97,108,116,10,101,110,100,10]⟩ (by decide) W (hT.below hb) (hI.below hb)).mono ?_
  rintro e w' ⟨c,v,h1,_,_,h3,h5,h4⟩
  have hp:=swkP
  rw [Prod.mk.injEq,Prod.mk.injEq,Prod.mk.injEq] at hp
  obtain ⟨p1,p2,p3,p4⟩:=hp
  have e0 : (⟨#[99,97,116,115,32,48,10,103,117,101,115,116,32,45,32,50,32,48,10,115,108,111,116,32,48,32,49,10,105,109,97,103,101,10,104,97,108,116,10,101,110,100,10]⟩ : ByteArray).data.toList = swkT:=rfl
  rw [e0] at h1 h3 h5
  rw [p3,p4] at h1
  rw [← h3] at p1
  rw [← h5] at p2
  exact ⟨c,v,h1,p1,by simpa [scOf] using p2,h4⟩
 have HX : Hid (∀ W,Calls Tryz.prog 12 #[.string ByteArray.empty] W fun e w'=>e = .returned (.string ⟨#[45]⟩) ∧ Below W.heap.size W w'):=fun W=>hex_any ByteArray.empty (by decide) W
 clear hT hI
 go_enter Tryz.func7,Tryz.ntmps7
 go_wp2_with fail
 refine HU.out.mono ?_;rintro e w1 ⟨rfl,hb1⟩
 have HB1:=Lib.hid hb1
 clear hb1
 go_wp2_with fail
 refine (HA.out _ HB1.out).mono ?_;rintro e w2 ⟨c,v,rfl,hl,hg,hb2⟩
 have HB:=Lib.hid (bmore HB1.out hb2)
 rw [hl,hg]
 clear hb2 hl hg
 go_wp2_with (go_at_call 12;refine (HX.out _).mono ?_;rintro e w3 ⟨rfl,hb3⟩;have HB3:=Lib.hid hb3;clear hb3)
 go_ret
 exact ⟨rfl,bmore ((HB.out.alloc HB.out.size _).alloc (HB.out.alloc HB.out.size _).size _) HB3.out⟩
end Go.Proofs.YtoklonmiejdgmaaGreatDoor
/- The reference's digits: Hex, Unhex. -/
namespace Go.Proofs.YtoklonmiejdgmaaGreatDoor
set_option linter.unusedVariables false
set_option linter.unusedSimpArgs false
set_option linter.unnecessarySimpa false
open Go.RowKit Go.Sort
set_option maxHeartbeats 4000000
set_option maxRecDepth 100000
set_option linter.unusedVariables false
theorem step_own2 {P : Program} {w : World} {ops : Array Oper} {o : Oper} {a : Act} {K : Act → World → Prop} {Q : Exit → Act → World → Prop} {F : Prop} (hgd : o.guard = none) (s x : Operand) (t : TypeId)
  (ho : o.op = .call { callee:=.builtin .append,args:=#[s,x],argTypes:=#[t,t] })
  (B : Nat) (e : TypeId) (i : TypeInfo) (z : Value) (size bytes : Nat) (ht : P.underlying t = some (.slice e)) (hi : P.info? e = some i) (hz : i.zero = some z)
  (hsize : i.size = size) (hby : i.bytes = bytes) (hzs : z.cells.size = size) (hsz : 0 < size)
  (A : Option Addr) (n cap : Nat) (xs : List Value) (hs : a.eval s = .slice A n cap) (hown : Own w B e size A n cap xs)
  (g m : Nat) (news : List Value) (hx : a.eval x = .slice (some ⟨g,0,none⟩) m m) (hnews : w.heap[g]? = some (.cells news.toArray e (0,0))) (hl : news.length = m * size) (h1 : ∀ u ∈ news,u.oneCell' = true)
  (hm : 0 < m) (h63 : n + m ≤ maxLen) (hbytes : (n + m) * bytes ≤ 140737488355328) (hbase : B ≤ w.heap.size)
  (h : ∀ g' cap' w',Own w' B e size (some ⟨g',0,none⟩) (n + m) cap' (xs ++ news) → Mod (blk A) w w' → (g' ∈ blk A ∨ w.heap.size ≤ g') → K (a.put o.dst (.slice (some ⟨g',0,none⟩) (n + m) cap')) w') :
  if Region.wanted o (yielded ops a.tmps) = true then Oper.wp P o a w K Q else F:=by
 refine step_append_lies w hgd s x t ho B e i z size bytes ht hi hz hsize hby hzs hsz (.slice A n cap) n xs hs hown ⟨g,0,none⟩ m m news hx hl (World.news_of_block hnews) h1 hm h63 hbytes hbase w.heap.size rfl ?_
 intro g' cap' w' h2 h3 h4 h5
 refine h g' cap' w' h2 (Mod.ofGrown h3 (fun k hk=>?_)) ?_
 ·cases A with
  | none=>simp [Value.ownBlock] at hk
  | some p=>exact mem_blk.2 ⟨p,rfl,by simpa [Value.ownBlock] using hk⟩
 ·rcases h4 with h4 | h4
  ·left
   cases A with
   | none=>simp [Value.ownBlock] at h4
   | some p=>exact mem_blk.2 ⟨p,rfl,by simpa [Value.ownBlock] using h4⟩
  ·right;omega
theorem hexD_cases : ∀ n : Fin 16,((hexD n.val).toNat : Int) = if n.val < 10 then (48 + (n.val : Int)) else 97 + (n.val : Int) - 10:=by decide +kernel
theorem rdigit_any (n : Nat) (hn : n < 16) (w : World) : Calls Tryz.prog 34 #[.int .u8 n] w fun e w'=>e = .returned (.int .u8 ((hexD n).toNat : Int)) ∧ w = w':=by
 have h:=hexD_cases ⟨n,hn⟩
 simp only at h
 by_cases h10 : n < 10
 ·rw [if_pos h10] at h
  have H:=Lib.hid h
  have d1 : decide ((n : Int) < 10) = true:=decide_eq_true (by omega)
  have d1' : decide (n < 10) = true:=decide_eq_true h10
  have w1 : IntKind.u8.wrap (48 + (n : Int)) = 48 + (n : Int):=by rw [IntKind.wrap_u8];omega
  clear h h10
  go_enter Tryz.func34,Tryz.ntmps34
  go_wp2_with fail
  go_ret
  exact ⟨by rw [H.out];rfl,rfl⟩
 ·rw [if_neg h10] at h
  have H:=Lib.hid h
  have d1 : decide ((n : Int) < 10) = false:=decide_eq_false (by omega)
  have d1' : decide (n < 10) = false:=decide_eq_false h10
  have w1 : IntKind.u8.wrap (97 + (n : Int)) = 97 + (n : Int):=by rw [IntKind.wrap_u8];omega
  have w2 : IntKind.u8.wrap (97 + (n : Int) - 10) = 97 + (n : Int) - 10:=by rw [IntKind.wrap_u8];omega
  clear h h10
  go_enter Tryz.func34,Tryz.ntmps34
  go_wp2_with fail
  go_ret
  exact ⟨by rw [H.out];rfl,rfl⟩
theorem rhex_any (s : ByteArray) (hs : s.size ≤ 1000000) (w : World) : Calls Tryz.prog 14 #[.string s] w fun e w'=>e = .returned (.string (ba (hexV s.data.toList))) ∧ Below w.heap.size w w':=by
 obtain ⟨ib,hib,hzb,hzb1,hzb2⟩:=info_parts info_byte
 by_cases h0 : s.size = 0
 ·have z1 : ((s.size : Int) == 0) = true:=by simp [h0]
  have H : Hid (hexV s.data.toList = [45]):=by rw [Hid,show s.data.toList = [] from List.eq_nil_of_length_eq_zero (by rw [ba_len];exact h0)];rfl
  clear h0
  go_enter Tryz.func14,Tryz.ntmps14
  go_wp2_with fail
  go_ret
  exact ⟨by rw [H.out];rfl,Below.refl _ _⟩
 ·have z1 : ((s.size : Int) == 0) = false:=by rw [beq_eq_false_iff_ne];omega
  have HH : Hid (hexV s.data.toList = s.data.toList.flatMap hxB):=by rw [Hid,hexV,if_neg (fun e=>h0 (by rw [← ba_len,e];rfl))]
  obtain ⟨R,hR⟩ : ∃ R,Hid (R = s.data.toList.flatMap hxB):=⟨_,Lib.hid rfl⟩
  clear h0
  go_enter Tryz.func14,Tryz.ntmps14
  go_upto_region 5 with fail
  go_loopw [3,4] (fun v i wr=>∃ (k : Nat) (ab : Option Addr) (cb : Nat),k ≤ s.size ∧ i = .int .i64 k ∧ v = .slice ab ((s.data.toList.take k).flatMap hxB).length cb ∧ Own wr w.heap.size 5 1 ab ((s.data.toList.take k).flatMap hxB).length cb (bC ((s.data.toList.take k).flatMap hxB)) ∧ Below w.heap.size w wr) (fun _ i _=>s.size - (intOf i).toNat)
  case atStart=>exact ⟨0,none,0,by omega,rfl,rfl,Own.nil _ _ _ _,Below.refl _ _⟩
  case round=>
   obtain ⟨k,ab,cb,hk,rfl,rfl,hown,hbe⟩:=hrel
   have HOW:=Lib.hid hown
   have HB:=Lib.hid hbe
   clear hown hbe
   obtain ⟨D,hD⟩ : ∃ D,D = (s.data.toList.take k).flatMap hxB:=⟨_,rfl⟩
   rw [← hD] at HOW ⊢
   have hDl : D.length ≤ 2000000:=by rw [hD,flat_len,List.length_take,ba_len];omega
   have hDe : k = s.size → D = s.data.toList.flatMap hxB:=fun e=>by rw [hD,e,← ba_len,List.take_length]
   have HDE:=Lib.hid hDe
   clear hDe
   by_cases hlt : k < s.size
   ·have d1 : decide ((k : Int) < (s.size : Int)) = true:=decide_eq_true (by omega)
    have d1' : decide (k < s.size) = true:=decide_eq_true hlt
    have w1 : IntKind.i64.wrap ((k : Int) + 1) = (k : Int) + 1:=by rw [IntKind.wrap_i64];omega
    have hb:=s[k].toNat_lt
    have hst : (s.data.toList.take (k + 1)).flatMap hxB = D ++ hxB s[k]:=by
     rw [List.take_succ_eq_append_getElem (by rw [ba_len];exact hlt),List.flatMap_append,← hD]
     simp;rfl
    have HST:=Lib.hid hst
    obtain ⟨q,hq⟩ : ∃ q,q = s[k].toNat / 16:=⟨_,rfl⟩
    obtain ⟨m,hm⟩ : ∃ m,m = s[k].toNat % 16:=⟨_,rfl⟩
    have HXB : Hid (hxB s[k] = [hexD q,hexD m]):=by rw [Hid,hq,hm];rfl
    have t1 : (s[k].toNat : Int).tdiv 16 = (q : Int):=by rw [Int.tdiv_eq_ediv_of_nonneg (by omega)];omega
    have t2 : (s[k].toNat : Int).tmod 16 = (m : Int):=by rw [Int.tmod_eq_emod_of_nonneg (by omega)];omega
    have t3 : (s[k].toNat : Int) / 16 = (q : Int):=by omega
    have t4 : (s[k].toNat : Int) % 16 = (m : Int):=by omega
    have u1 : IntKind.u8.wrap (q : Int) = (q : Int):=by rw [IntKind.wrap_u8];omega
    have u2 : IntKind.u8.wrap (m : Int) = (m : Int):=by rw [IntKind.wrap_u8];omega
    have q16 : q < 16:=by omega
    have m16 : m < 16:=by omega
    have hsz:=HB.out.size
    clear hD hst hq hm
    go_upto_region 7 with fail
    go_region_held3 (fun _=>True) (exact trivial) (first | (go_at_call 34;refine (rdigit_any _ (by assumption) _).mono ?_;rintro e Wh ⟨rfl,rfl⟩) | ((refine step_own2 rfl (.tmp 14) (.tmp 25) 76 rfl w.heap.size 5 ib _ 1 1 Tryz.underlying76 hib hzb hzb1 hzb2 rfl (by omega) ab D.length cb (bC D) rfl (HOW.out.below ((Below.refl _ _).drew.alloc (Nat.le_refl _) _)) wr.drew.heap.size 2 [.int .u8 ((hexD q).toNat : Int),.int .u8 ((hexD m).toNat : Int)] rfl (new_block _ _ _ rfl) rfl (by simp [Value.oneCell']) (by omega) (by simp only [maxLen];omega) (by omega) (by simp;omega) ?_);intro g' c' w2 hown1 hmod1 _;have HO:=Lib.hid hown1;have HM:=Lib.hid hmod1;clear hown1 hmod1))
    all_goals
     have HM2 : Hid (Below w.heap.size w w2):=HB.out.drew.alloc (by simpa using hsz) _ |>.trans (HM.out.below (fun j hj=>(HOW.out.ge j hj).1) (by simp;omega))
     have HO2 : Hid (Own w2 w.heap.size 5 1 (some ⟨g',0,none⟩) ((s.data.toList.take (k + 1)).flatMap hxB).length c' (bC ((s.data.toList.take (k + 1)).flatMap hxB))):=by
      rw [Hid,HST.out,HXB.out,List.length_append,bC,List.map_append];exact HO.out
     go_wp2_with fail
     go_roundw
     case rel=>exact ⟨k + 1,some ⟨g',0,none⟩,c',by omega,by go_num,by rw [HST.out,HXB.out,List.length_append];rfl,HO2.out,HM2.out⟩
     case measure=>simp [intOf];omega
   ·obtain rfl : k = s.size:=by omega
    have d1 : decide ((s.size : Int) < (s.size : Int)) = false:=decide_eq_false (by omega)
    have hconv:=run_own_str wr _ _ _ _ _ HOW.out
    have HE:=Lib.hid (HDE.out rfl)
    clear hlt hD
    go_wp2_with fail
    go_ret
    exact ⟨by rw [HH.out,← HE.out];rfl,HB.out⟩
end Go.Proofs.YtoklonmiejdgmaaGreatDoor
/- The reference of plan: a line, a label's text, a number. -/
namespace Go.Proofs.YtoklonmiejdgmaaGreatDoor
set_option linter.unusedVariables false
set_option linter.unusedSimpArgs false
set_option linter.unnecessarySimpa false
open Go.RowKit Go.Sort
set_option maxHeartbeats 4000000
set_option maxRecDepth 100000
set_option linter.unusedVariables false
theorem rtext_any (l : Int) (h : 0 ≤ l ∧ l < 256) (w : World) : Calls Tryz.prog 74 #[.int .i64 l] w fun e w'=>e = .returned (.string (ba (lbT l))) ∧ Below w.heap.size w w':=by
 have HLB:=Lib.hid (lbS_lbT h)
 clear h
 go_enter Tryz.func74,Tryz.ntmps74
 go_wp2_with (go_at_call 114;refine (LText_ref _ _).mono ?_;rintro e w1 ⟨rfl,hb1⟩;rw [HLB.out])
 go_ret
 exact ⟨rfl,hb1⟩
theorem rdig_any (n : Int) (h0 : 0 ≤ n) (h1 : n < 1000000000) (w : World) : Calls Tryz.prog 45 #[.int .i64 n] w fun e w'=>e = .returned (.string (ba (dc n))) ∧ Below w.heap.size w w':=by
 have:=digits_any n.toNat w (by omega)
 rw [show ((n.toNat : Nat) : Int) = n by omega] at this
 exact this
theorem join_snoc (c : UInt8) : ∀ (L : List (List UInt8)) (x : List UInt8),L ≠ [] → joinC c (L ++ [x]) = joinC c L ++ c :: x
 | [],x,h=>absurd rfl h
 | [y],x,_=>by simp [joinC]
 | y :: z :: r,x,_=>by
  have:=join_snoc c (z :: r) x (by simp)
  rw [List.cons_append,List.cons_append,joinC,← List.cons_append,this,joinC];simp
theorem joinC_len (c : UInt8) : ∀ (L : List (List UInt8)),(∀ x ∈ L,x.length ≤ 1000) → (joinC c L).length ≤ 1001 * L.length
 | [],_=>by simp [joinC]
 | [y],h=>by have:=h y (by simp);simp [joinC];omega
 | y :: z :: r,h=>by
  have h1:=h y (by simp)
  have:=joinC_len c (z :: r) (fun x hx=>h x (by simp [hx]))
  rw [joinC]
  simp only [List.length_append,List.length_cons] at this ⊢
  omega
theorem ba_app (a b : List UInt8) : ba a ++ ba b = ba (a ++ b):=by unfold ba;rw [ba_append]
theorem nl_ba (x : List UInt8) : ba x ++ (⟨#[10]⟩ : ByteArray) = ba (x ++ [10]):=by rw [show (⟨#[10]⟩ : ByteArray) = ba [10] from rfl,ba_app]
theorem ba_sp (x y : List UInt8) : ba x ++ (⟨#[32]⟩ : ByteArray) ++ ba y = ba (x ++ 32 :: y):=by rw [show (⟨#[32]⟩ : ByteArray) = ba [32] from rfl,ba_app,ba_app,List.append_assoc];rfl
theorem rline_any (L : List (List UInt8)) (hne : L ≠ []) (hll : L.length ≤ 10) (hsm : ∀ x ∈ L,x.length ≤ 1000) (W : World) (g : Nat) (ho : ObjAt W g 9 (strC L)) :
  Calls Tryz.prog 73 #[.slice (some ⟨g,0,none⟩) L.length L.length] W fun e w'=>e = .returned (.string (ba (joinC 32 L ++ [10]))) ∧ W = w':=by
 have hpos : 0 < L.length:=List.length_pos_iff.2 hne
 have HC : Hid (∀ k (hk : k < L.length),W.cell? ⟨g,k,none⟩ = some (.string (ba L[k]))):=fun k hk=>ho.cell k _ (strC_get L k hk)
 have c0 : W.cell? ⟨g,0,none⟩ = some (.string (ba L[0])):=HC.out 0 hpos
 obtain ⟨x0,hx0⟩ : ∃ x,x = L[0]:=⟨_,rfl⟩
 rw [← hx0] at c0
 have HX0:=Lib.hid hx0
 have HNL:=fun x=>Lib.hid (nl_ba x)
 have HJL : Hid (∀ k,k ≤ L.length → (joinC 32 (L.take k)).length ≤ 10010):=fun k hk=>by
  have:=joinC_len 32 (L.take k) (fun x hx=>hsm x (List.mem_of_mem_take hx))
  rw [List.length_take] at this;omega
 have HSM:=Lib.hid hsm
 have HJ1 : Hid (joinC 32 (L.take 1) = x0):=by
  rw [Hid,List.take_one,hx0]
  rw [show L.head? = some L[0] from by rw [List.head?_eq_getElem?,List.getElem?_eq_getElem hpos]];rfl
 clear ho hsm hx0 hne
 go_enter Tryz.func73,Tryz.ntmps73
 go_upto_region 3 with fail
 clear c0
 go_loop [3,4] (fun sv i=>∃ k : Nat,1 ≤ k ∧ k ≤ L.length ∧ i = .int .i64 k ∧ sv = .string (ba (joinC 32 (L.take k)))) (fun _ i=>L.length - (intOf i).toNat)
 case atStart=>exact ⟨1,by omega,by omega,rfl,by rw [HJ1.out]⟩
 case round=>
  obtain ⟨k,hk1,hk,rfl,rfl⟩:=hrel
  have hs1 : (ba (joinC 32 (L.take k))).size ≤ 10010:=by rw [ba_size];exact HJL.out k hk
  have hs2 : (ba (joinC 32 (L.take k)) ++ (⟨#[32]⟩ : ByteArray)).size ≤ 10011:=by rw [ByteArray.size_append];show _ + 1 ≤ _;omega
  by_cases hlt : k < L.length
  ·have ck:=HC.out k hlt
   obtain ⟨x,hx⟩ : ∃ x,x = L[k]:=⟨_,rfl⟩
   rw [← hx] at ck
   have hsx : (ba x).size ≤ 1000:=by rw [ba_size,hx];exact HSM.out _ (List.getElem_mem hlt)
   have HJ : Hid (ba (joinC 32 (L.take k)) ++ (⟨#[32]⟩ : ByteArray) ++ ba x = ba (joinC 32 (L.take (k + 1)))):=by
    rw [Hid,ba_sp,List.take_succ_eq_append_getElem hlt,join_snoc,← hx]
    intro e
    have h0 : (L.take k).length = 0:=by rw [e];rfl
    rw [List.length_take] at h0;omega
   have d1 : decide ((k : Int) < (L.length : Int)) = true:=decide_eq_true (by omega)
   have d1' : decide (k < L.length) = true:=decide_eq_true hlt
   have w1 : IntKind.i64.wrap ((k : Int) + 1) = (k : Int) + 1:=by rw [IntKind.wrap_i64];omega
   clear hx
   go_wp2_with fail
   go_round
   case rel=>exact ⟨k + 1,by omega,by omega,by go_num,by rw [HJ.out]⟩
   case measure=>simp [intOf];omega
  ·obtain rfl : k = L.length:=by omega
   rw [List.take_length] at hs1 hs2 ⊢
   have d1 : decide ((L.length : Int) < (L.length : Int)) = false:=decide_eq_false (by omega)
   go_wp2_with fail
   go_ret
   exact ⟨by rw [← (HNL _).out];rfl,rfl⟩
end Go.Proofs.YtoklonmiejdgmaaGreatDoor
/- The reference of script: fits, an input's line. -/
namespace Go.Proofs.YtoklonmiejdgmaaGreatDoor.Sp
set_option linter.unusedVariables false
set_option linter.unusedSimpArgs false
set_option linter.unnecessarySimpa false
open Go.RowKit Go.Sort
set_option maxHeartbeats 4000000
set_option maxRecDepth 100000
set_option linter.unusedVariables false
theorem rfits_any (n : Int) (w : World) : Calls Tryz.prog 44 #[.int .i64 n] w fun e w'=>e = .returned (.bool (fitB n)) ∧ w' = w:=by
 by_cases h0 : 0 ≤ n
 ·have d0 : decide (n ≥ 0) = true:=decide_eq_true h0
  by_cases h1 : n ≤ 999999999
  ·have d1 : decide (n ≤ 999999999) = true:=decide_eq_true h1
   have HF:=Lib.hid (fitB_iff.2 ⟨h0,h1⟩)
   clear h0 h1
   go_enter Tryz.func44,Tryz.ntmps44
   go_wp2_with fail
   go_ret
   exact ⟨by rw [HF.out];rfl,rfl⟩
  ·have d1 : decide (n ≤ 999999999) = false:=decide_eq_false h1
   have HF : Hid (fitB n = false):=by rw [Hid,fitB];simp [h1]
   clear h0 h1
   go_enter Tryz.func44,Tryz.ntmps44
   go_wp2_with fail
   go_ret
   exact ⟨by rw [HF.out];rfl,rfl⟩
 ·have d0 : decide (n ≥ 0) = false:=decide_eq_false h0
  have HF : Hid (fitB n = false):=by rw [Hid,fitB];simp [h0]
  clear h0
  go_enter Tryz.func44,Tryz.ntmps44
  go_wp2_with fail
  go_ret
  exact ⟨by rw [HF.out];rfl,rfl⟩
/-- What the reference hands back for an input: its line's text, or something and 'no'. -/
def RiPost (x : Int × Int × Int × Int × List UInt8) (w : World) (e : Ending) (w' : World) : Prop:=
 Below w.heap.size w w' ∧ (∀ ws,inpW x = some ws → e = .returned (.tuple #[.string (ba (joinC 32 ws)),.bool true])) ∧ (inpW x = none → ∃ s : ByteArray,e = .returned (.tuple #[.string s,.bool false]))
theorem ba_cat (a b : List UInt8) : ba a ++ ba b = ba (a ++ b):=(ba_append a b).symm
theorem in_text (a b : List UInt8) : (((⟨#[105,110,112,117,116,32]⟩ : ByteArray) ++ ba a) ++ (⟨#[32]⟩ : ByteArray)) ++ ba b = ba (joinC 32 [wInput,a,b]):=by
 rw [show (⟨#[105,110,112,117,116,32]⟩ : ByteArray) = ba [105,110,112,117,116,32] from rfl,show (⟨#[32]⟩ : ByteArray) = ba [32] from rfl,ba_cat,ba_cat,ba_cat]
 congr 1
 simp [joinC,wInput]
theorem in_packet (a b d : List UInt8) : (ba (joinC 32 [wInput,a,b]) ++ (⟨#[32,112,97,99,107,101,116,32]⟩ : ByteArray)) ++ ba d = ba (joinC 32 ([wInput,a,b] ++ [wPacket,d])):=by
 rw [show (⟨#[32,112,97,99,107,101,116,32]⟩ : ByteArray) = ba [32,112,97,99,107,101,116,32] from rfl,ba_cat,ba_cat]
 congr 1
 simp [joinC,wInput,wPacket]
theorem in_line (a b d : List UInt8) : (ba (joinC 32 [wInput,a,b]) ++ (⟨#[32,108,105,110,101,32]⟩ : ByteArray)) ++ ba d = ba (joinC 32 ([wInput,a,b] ++ [wLine,d])):=by
 rw [show (⟨#[32,108,105,110,101,32]⟩ : ByteArray) = ba [32,108,105,110,101,32] from rfl,ba_cat,ba_cat]
 congr 1
 simp [joinC,wInput,wLine]
theorem in_restart (a b : List UInt8) : ba (joinC 32 [wInput,a,b]) ++ (⟨#[32,114,101,115,116,97,114,116]⟩ : ByteArray) = ba (joinC 32 ([wInput,a,b] ++ [wRestart])):=by
 rw [show (⟨#[32,114,101,115,116,97,114,116]⟩ : ByteArray) = ba [32,114,101,115,116,97,114,116] from rfl,ba_cat]
 congr 1
 simp [joinC,wInput,wRestart]
theorem rinput_any (x : Int × Int × Int × Int × List UInt8) (hd : x.2.2.2.2.length ≤ 400000) (w : World) :
  Calls Tryz.prog 46 #[.agg #[.int .i64 x.1,.int .i64 x.2.1,.int .i64 x.2.2.1,.int .i64 x.2.2.2.1,.string (ba x.2.2.2.2)]] w (RiPost x w):=by
 obtain ⟨x0,x1,k,n,d⟩:=x
 simp only at hd ⊢
 obtain ⟨W1,hW1⟩ : ∃ W1,W1 = w.alloc (.cells #[.int .i64 x0,.int .i64 x1,.int .i64 k,.int .i64 n,.string (ba d)] 74):=⟨_,rfl⟩
 obtain ⟨b1,hb1⟩ : ∃ b1,b1 = w.heap.size:=⟨_,rfl⟩
 have HO1 : Hid (ObjAt W1 b1 74 [.int .i64 x0,.int .i64 x1,.int .i64 k,.int .i64 n,.string (ba d)]):=by rw [hW1,hb1];exact ObjAt.new w _ _
 have HB1 : Hid (Below w.heap.size w W1):=by rw [hW1];exact ((Below.refl _ _).alloc (Nat.le_refl _) _)
 have HW1:=Lib.hid hW1
 have HBB:=Lib.hid hb1
 obtain ⟨P,hP⟩ : ∃ P,P = RiPost (x0,x1,k,n,d) w:=⟨_,rfl⟩
 have HNO : Hid (inpW (x0,x1,k,n,d) = none → ∀ s w',Below w.heap.size w w' → P (.returned (.tuple #[.string s,.bool false])) w'):=fun h s w' hb=>by
  rw [hP];exact ⟨hb,(fun ws e=>by rw [h] at e;cases e),fun _=>⟨s,rfl⟩⟩
 have HYES : Hid (∀ ws,inpW (x0,x1,k,n,d) = some ws → ∀ w',Below w.heap.size w w' → P (.returned (.tuple #[.string (ba (joinC 32 ws)),.bool true])) w'):=fun ws h w' hb=>by
  rw [hP];exact ⟨hb,(fun ws' e=>by rw [h] at e;injection e with e;rw [e]),fun e=>by rw [h] at e;cases e⟩
 rw [← hP]
 clear hP hW1 hb1
 cases hf : (fitB x0 && (fitB x1 && fitB n))
 ·have hno : inpW (x0,x1,k,n,d) = none:=by rw [inpW];rw [if_neg (by simp only;rw [hf];simp)]
  have HE:=Lib.hid (HNO.out hno)
  clear hno HYES
  cases f0 : fitB x0
  ·go_enter Tryz.func46,Tryz.ntmps46
   go_upto_region 1 with fail
   rw [← HW1.out,← HBB.out]
   have c0:=HO1.out.cell 0 _ rfl
   have c1:=HO1.out.cell 1 _ rfl
   have c3:=HO1.out.cell 3 _ rfl
   clear hf
   go_wp2_with (go_at_call 44;refine (rfits_any _ _).mono ?_;rintro e w3 ⟨rfl,rfl⟩)
   exact HE.out _ _ HB1.out
  ·cases f1 : fitB x1
   ·go_enter Tryz.func46,Tryz.ntmps46
    go_upto_region 1 with fail
    rw [← HW1.out,← HBB.out]
    have c0:=HO1.out.cell 0 _ rfl
    have c1:=HO1.out.cell 1 _ rfl
    have c3:=HO1.out.cell 3 _ rfl
    clear hf
    go_wp2_with (go_at_call 44;refine (rfits_any _ _).mono ?_;rintro e w3 ⟨rfl,rfl⟩)
    exact HE.out _ _ HB1.out
   ·have f2 : fitB n = false:=by rw [f0,f1] at hf;simpa using hf
    go_enter Tryz.func46,Tryz.ntmps46
    go_upto_region 1 with fail
    rw [← HW1.out,← HBB.out]
    have c0:=HO1.out.cell 0 _ rfl
    have c1:=HO1.out.cell 1 _ rfl
    have c3:=HO1.out.cell 3 _ rfl
    clear hf
    go_wp2_with (go_at_call 44;refine (rfits_any _ _).mono ?_;rintro e w3 ⟨rfl,rfl⟩)
    exact HE.out _ _ HB1.out
 ·have HIW:=Lib.hid (inpW_of (k:=k) (d:=d) hf)
  simp only [Bool.and_eq_true] at hf
  obtain ⟨f0,f1,f2⟩:=hf
  obtain ⟨a0,a1⟩:=fitB_iff.1 f0
  obtain ⟨e0,e1⟩:=fitB_iff.1 f1
  obtain ⟨n0,n1⟩:=fitB_iff.1 f2
  have bx:=ba_isEmpty d
  have HDE : Hid (d.isEmpty = true ↔ d = []):=List.isEmpty_iff
  have y0 : (ba (dc x0)).size ≤ 9:=by rw [ba_size];exact dc_len (by omega)
  have y1 : (ba (dc x1)).size ≤ 9:=by rw [ba_size];exact dc_len (by omega)
  have s1 : ¬ 9223372036854775807 < 6 + (ba (dc x0)).size:=by omega
  have s2 : ¬ 9223372036854775807 < 6 + (ba (dc x0)).size + 1:=by omega
  have s3 : ¬ 9223372036854775807 < 6 + (ba (dc x0)).size + 1 + (ba (dc x1)).size:=by omega
  obtain ⟨T0,hT0⟩ : ∃ T0,T0 = joinC 32 [wInput,dc x0,dc x1]:=⟨_,rfl⟩
  have hT0l : (ba T0).size ≤ 100:=by
   rw [ba_size] at y0 y1 ⊢
   rw [hT0];simp only [joinC,wInput,List.length_append,List.length_cons,List.length_nil];omega
  have HT0:=Lib.hid (in_text (dc x0) (dc x1))
  rw [← hT0] at HT0
  have HPK:=Lib.hid (in_packet (dc x0) (dc x1) (hexV d))
  have HLI:=Lib.hid (in_line (dc x0) (dc x1) (dc n))
  have HRE:=Lib.hid (in_restart (dc x0) (dc x1))
  rw [← hT0] at HPK HLI HRE
  have HD0:=fun W=>Lib.hid (rdig_any x0 a0 (by omega) W)
  have HD1:=fun W=>Lib.hid (rdig_any x1 e0 (by omega) W)
  have HOd : Hid (ObjAt W1.drew b1 74 [.int .i64 x0,.int .i64 x1,.int .i64 k,.int .i64 n,.string (ba d)]):=HO1.out.below (Below.refl _ _).drew
  have HBd : Hid (Below w.heap.size w W1.drew):=bmore HB1.out (Below.refl _ _).drew
  clear hT0 a0 a1 e0 e1
  go_enter Tryz.func46,Tryz.ntmps46
  go_upto_region 1 with fail
  rw [← HW1.out,← HBB.out]
  have c0:=HO1.out.cell 0 _ rfl
  have c1:=HO1.out.cell 1 _ rfl
  have c3:=HO1.out.cell 3 _ rfl
  go_upto_region 3 with (go_at_call 44;refine (rfits_any _ _).mono ?_;rintro e w3 ⟨rfl,rfl⟩)
  clear c0 c1 c3
  go_region_held3 (fun W'=>W'.cell? ⟨b1,0,none⟩ = some (.int .i64 x0) ∧ W'.cell? ⟨b1,1,none⟩ = some (.int .i64 x1)) (first | exact ⟨HOd.out.cell 0 _ rfl,HOd.out.cell 1 _ rfl⟩) (first | (go_at_call 45;(with_reducible refine ((HD0 _).out).mono ?_);rintro e W4 ⟨rfl,hb⟩;have HOd:=Lib.hid (HOd.out.below hb);have HBd:=Lib.hid (bmore HBd.out hb);clear hb) | (go_at_call 45;(with_reducible refine ((HD1 _).out).mono ?_);rintro e W5 ⟨rfl,hb⟩;have HOd:=Lib.hid (HOd.out.below hb);have HBd:=Lib.hid (bmore HBd.out hb);clear hb))
  rw [HT0.out]
  clear s1 s2 s3 y0 y1 HT0 HD0 HD1
  have c2:=HOd.out.cell 2 _ rfl
  by_cases k0 : k = 0
  ·have z0 : (k == 0) = true:=by simp [k0]
   have hxl : (ba (hexV d)).size ≤ 800001:=by rw [ba_size];have:=hexV_len d;omega
   have s4 : ¬ 9223372036854775807 < (ba T0).size + 8:=by omega
   have s5 : ¬ 9223372036854775807 < (ba T0).size + 8 + (ba (hexV d)).size:=by omega
   have HHX:=fun W=>Lib.hid (rhex_any (ba d) (by rw [ba_size];omega) W)
   rw [ba_data] at HHX
   go_upto_region 6 with fail
   clear c2
   have HOd : Hid (ObjAt W5.drew b1 74 [.int .i64 x0,.int .i64 x1,.int .i64 k,.int .i64 n,.string (ba d)]):=HOd.out.below (Below.refl _ _).drew
   have HBd : Hid (Below w.heap.size w W5.drew):=bmore HBd.out (Below.refl _ _).drew
   by_cases hn : n = 0
   ·have z1 : (n == 0) = true:=by simp [hn]
    have HY:=Lib.hid (HYES.out ([wInput,dc x0,dc x1] ++ [wPacket,hexV d]) (by rw [HIW.out,tailW,if_pos ⟨k0,hn⟩];rfl))
    clear hn k0
    go_region_held3 (fun W'=>W'.cell? ⟨b1,3,none⟩ = some (.int .i64 n) ∧ W'.cell? ⟨b1,4,none⟩ = some (.string (ba d))) (first | exact ⟨HOd.out.cell 3 _ rfl,HOd.out.cell 4 _ rfl⟩) (first | (go_at_call 14;refine ((HHX _).out).mono ?_;rintro e W6 ⟨rfl,hb⟩;have HOd:=Lib.hid (HOd.out.below hb);have HBd:=Lib.hid (bmore HBd.out hb);clear hb))
    rw [HPK.out]
    go_wp2_with fail
    exact HY.out _ HBd.out
   ·have z1 : (n == 0) = false:=by rw [beq_eq_false_iff_ne];exact hn
    have HE:=Lib.hid (HNO.out (by rw [HIW.out,tailW,if_neg (fun h=>hn h.2),if_neg (fun h=>by have:=h.1;omega),if_neg (fun h=>by have:=h.1;omega)];rfl))
    clear hn k0
    go_region_held3 (fun W'=>W'.cell? ⟨b1,3,none⟩ = some (.int .i64 n) ∧ W'.cell? ⟨b1,4,none⟩ = some (.string (ba d))) (first | exact ⟨HOd.out.cell 3 _ rfl,HOd.out.cell 4 _ rfl⟩) (first | (go_at_call 14;refine ((HHX _).out).mono ?_;rintro e W6 ⟨rfl,hb⟩;have HOd:=Lib.hid (HOd.out.below hb);have HBd:=Lib.hid (bmore HBd.out hb);clear hb))
    go_wp2_with fail
    exact HE.out _ _ HBd.out
  ·have z0 : (k == 0) = false:=by rw [beq_eq_false_iff_ne];exact k0
   by_cases k1 : k = 1
   ·have z1 : (k == 1) = true:=by simp [k1]
    have y2 : (ba (dc n)).size ≤ 9:=by rw [ba_size];exact dc_len (by omega)
    have s4 : ¬ 9223372036854775807 < (ba T0).size + 6:=by omega
    have s5 : ¬ 9223372036854775807 < (ba T0).size + 6 + (ba (dc n)).size:=by omega
    have HD2:=fun W=>Lib.hid (rdig_any n n0 (by omega) W)
    go_upto_region 8 with fail
    clear c2
    have HOd : Hid (ObjAt W5.drew b1 74 [.int .i64 x0,.int .i64 x1,.int .i64 k,.int .i64 n,.string (ba d)]):=HOd.out.below (Below.refl _ _).drew
    have HBd : Hid (Below w.heap.size w W5.drew):=bmore HBd.out (Below.refl _ _).drew
    by_cases hdd : d = []
    ·rw [HDE.out.2 hdd] at bx
     have HY:=Lib.hid (HYES.out ([wInput,dc x0,dc x1] ++ [wLine,dc n]) (by rw [HIW.out,tailW,if_neg (fun h=>k0 h.1),if_pos ⟨k1,hdd⟩];rfl))
     clear hdd k0 k1
     go_region_held3 (fun W'=>W'.cell? ⟨b1,3,none⟩ = some (.int .i64 n) ∧ W'.cell? ⟨b1,4,none⟩ = some (.string (ba d))) (first | exact ⟨HOd.out.cell 3 _ rfl,HOd.out.cell 4 _ rfl⟩) (first | (go_at_call 45;refine ((HD2 _).out).mono ?_;rintro e W6 ⟨rfl,hb⟩;have HOd:=Lib.hid (HOd.out.below hb);have HBd:=Lib.hid (bmore HBd.out hb);clear hb))
     rw [HLI.out]
     go_wp2_with fail
     exact HY.out _ HBd.out
    ·have hde : d.isEmpty = false:=by rw [Bool.eq_false_iff];exact fun e=>hdd (HDE.out.1 e)
     rw [hde] at bx
     have HE:=Lib.hid (HNO.out (by rw [HIW.out,tailW,if_neg (fun h=>k0 h.1),if_neg (fun h=>hdd h.2),if_neg (fun h=>hdd h.2.2)];rfl))
     clear hdd k0 k1 hde
     go_region_held3 (fun W'=>W'.cell? ⟨b1,3,none⟩ = some (.int .i64 n) ∧ W'.cell? ⟨b1,4,none⟩ = some (.string (ba d))) (first | exact ⟨HOd.out.cell 3 _ rfl,HOd.out.cell 4 _ rfl⟩) (first | (go_at_call 45;refine ((HD2 _).out).mono ?_;rintro e W6 ⟨rfl,hb⟩;have HOd:=Lib.hid (HOd.out.below hb);have HBd:=Lib.hid (bmore HBd.out hb);clear hb))
     go_wp2_with fail
     exact HE.out _ _ HBd.out
   ·have z1 : (k == 1) = false:=by rw [beq_eq_false_iff_ne];exact k1
    by_cases k2 : k = 2
    ·have z2 : (k == 2) = true:=by simp [k2]
     have s4 : ¬ 9223372036854775807 < (ba T0).size + 8:=by omega
     go_upto_region 10 with fail
     clear c2
     have c3:=HOd.out.cell 3 _ rfl
     have c4:=HOd.out.cell 4 _ rfl
     have HBe : Hid (Below w.heap.size w W5.drew):=bmore HBd.out (Below.refl _ _).drew
     by_cases hn : n = 0 ∧ d = []
     ·obtain ⟨hn,hdd⟩:=hn
      have z3 : (n == 0) = true:=by simp [hn]
      rw [HDE.out.2 hdd] at bx
      have HY:=Lib.hid (HYES.out ([wInput,dc x0,dc x1] ++ [wRestart]) (by rw [HIW.out,tailW,if_neg (fun h=>k0 h.1),if_neg (fun h=>k1 h.1),if_pos ⟨k2,hn,hdd⟩];rfl))
      clear hn hdd k0 k1 k2
      go_region
      all_goals
       rw [HRE.out]
       go_wp2_with fail
       exact HY.out _ HBe.out
     ·have HE:=Lib.hid (HNO.out (by rw [HIW.out,tailW,if_neg (fun h=>k0 h.1),if_neg (fun h=>k1 h.1),if_neg (fun h=>hn h.2)];rfl))
      by_cases hn0 : n = 0
      ·have z3 : (n == 0) = true:=by simp [hn0]
       have hde : d.isEmpty = false:=by rw [Bool.eq_false_iff];exact fun e=>hn ⟨hn0,HDE.out.1 e⟩
       rw [hde] at bx
       clear hn hn0 hde k0 k1 k2
       go_region
       all_goals
        go_wp2_with fail
        exact HE.out _ _ HBe.out
      ·have z3 : (n == 0) = false:=by rw [beq_eq_false_iff_ne];exact hn0
       clear hn hn0 k0 k1 k2
       go_region
       all_goals
        go_wp2_with fail
        exact HE.out _ _ HBe.out
    ·have z2 : (k == 2) = false:=by rw [beq_eq_false_iff_ne];exact k2
     have HE:=Lib.hid (HNO.out (by rw [HIW.out,tailW,if_neg (fun h=>k0 h.1),if_neg (fun h=>k1 h.1),if_neg (fun h=>k2 h.1)];rfl))
     clear k0 k1 k2
     go_wp2_with fail
     exact HE.out _ _ HBd.out
end Go.Proofs.YtoklonmiejdgmaaGreatDoor.Sp
