/- Package script: an input's line. -/
import Derived.Test.YtoklonmiejdgmaaGreatDoorGScriptBack7
import Derived.Deep.RegionHeld3
import Derived.Test.YtoklonmiejdgmaaGreatDoorGScriptBack5
namespace Go.Proofs.YtoklonmiejdgmaaGreatDoor
set_option linter.unusedVariables false
set_option linter.unusedSimpArgs false
set_option linter.unnecessarySimpa false
open Go.RowKit Go.Sort
set_option maxHeartbeats 4000000
set_option maxRecDepth 100000
set_option linter.unusedVariables false
theorem info_inp : (Tryz.prog.info? 74).map (fun i=>(i.zero,i.size,i.bytes)) = some (some (.agg #[.int .i64 0,.int .i64 0,.int .i64 0,.int .i64 0,.string ByteArray.empty]),5,48):=by kernel_rfl
def inpS (i : Nat) (v : Sv) (ws : List (List UInt8)) : (Int × Int) ⊕ (Nat × Int × Sc):=match inpV ws with
 | none=>.inl (6,(i : Int) + 1)
 | some x=>.inr (i + 1,2,{ scOf v with inp:=(scOf v).inp ++ [x] })
theorem input_any {w W : World} {rb : Nat} {La : Option Addr} {Lc : Nat} {L : List (List UInt8)} {i : Nat} {last : Int} {v : Sv} (h : SR w rb La Lc L i last v 0 0 W) (hi : i ≤ 1000000) (hvl : v.inp.length ≤ 1000000)
  (ws : List (List UInt8)) (hsm : ∀ x ∈ ws,x.length ≤ 100000) (hwl : ws.length ≤ 1000000) (a : Option Addr) (cap : Nat) (hr : RdW W a cap ws) :
  Calls Tryz.prog 97 #[.pointer (some ⟨rb,0,none⟩),.slice a ws.length cap] W (StP w rb La Lc L last (inpS i v ws)):=by
 obtain ⟨i0,hi0,hz0,hz1,hz2⟩:=info_parts info_inp
 have H:=Lib.hid h
 have hle:=hr.le
 have hmx:=hr.mx
 unfold maxLen at hmx
 have w1 : IntKind.i64.wrap ((i : Int) + 1) = (i : Int) + 1:=by rw [IntKind.wrap_i64];omega
 have HN0 : Hid (inpV ws = none → ∀ w',(∃ i' v',SR w rb La Lc L i' last v' 6 ((i : Int) + 1) w') → StP w rb La Lc L last (inpS i v ws) (.returned (.bool false)) w'):=fun hn w' hs=>by unfold inpS;rw [hn];exact ⟨rfl,hs⟩
 have HY0 : Hid (∀ x,inpV ws = some x → ∀ w' v',scOf v' = { scOf v with inp:=(scOf v).inp ++ [x] } → SR w rb La Lc L i last v' 0 0 w' → StP w rb La Lc L last (inpS i v ws) (.returned (.bool true)) w'):=fun x hx w' v' h1 h2=>by unfold inpS;rw [hx];exact ⟨rfl,v',i,rfl,h1,h2⟩
 obtain ⟨R,hR⟩ : ∃ R,R = StP w rb La Lc L last (inpS i v ws):=⟨_,rfl⟩
 rw [← hR] at HN0 HY0 ⊢
 clear hR
 by_cases hl : ws.length < 4
 ·have e3 : decide ((ws.length : Int) < 4) = true:=decide_eq_true (by omega)
  have e3' : decide (ws.length < 4) = true:=decide_eq_true hl
  have HNO:=Lib.hid (HN0.out (by unfold inpV;rw [if_neg (fun h=>by omega)]))
  (have r0:=(h).ob.cell 0 _ rfl;have r1:=(h).ob.cell 1 _ rfl;have r2:=(h).ob.cell 2 _ rfl;have r3:=(h).ob.cell 3 _ rfl;have r4:=(h).ob.cell 4 _ rfl;have r5:=(h).ob.cell 5 _ rfl;have r6:=(h).ob.cell 6 _ rfl;have r7:=(h).ob.cell 7 _ rfl;have f1:=(h).ob.free 1;have f2:=(h).ob.free 2;have f3:=(h).ob.free 3;have f4:=(h).ob.free 4;have f5:=(h).ob.free 5;have f6:=(h).ob.free 6;have f7:=(h).ob.free 7)
  clear hl hr h
  go_enter Tryz.func97,Tryz.ntmps97
  go_wp2_with (go_at_call 139;refine (fail_any H.out 6 ((i : Int) + 1)).mono ?_;rintro e W2 ⟨rfl,h2⟩)
  exact HNO.out _ ⟨i,v,h2⟩
 ·obtain ⟨q0,q1,q2,r,hws⟩ : ∃ q0 q1 q2 r,ws = q0 :: q1 :: q2 :: r:=by
   match ws,hl with
   | q0 :: q1 :: q2 :: r,_=>exact ⟨q0,q1,q2,r,rfl⟩
   | [],hl=>simp at hl
   | [_],hl=>simp at hl
   | [_,_],hl=>simp at hl
  obtain ⟨g,o,rfl,hg,hc⟩:=hr.at_ 0 (by omega)
  have c1 : W.cell? ⟨g,o + 1,none⟩ = some (.string (ba q1)):=by have:=hc 1 (by omega);simp only [hws] at this;exact this
  have c2 : W.cell? ⟨g,o + 2,none⟩ = some (.string (ba q2)):=by have:=hc 2 (by omega);simp only [hws] at this;exact this
  have s1:=hsm q1 (by rw [hws];simp)
  have s2:=hsm q2 (by rw [hws];simp)
  have hrl : ws.length = r.length + 3:=by rw [hws];simp
  obtain ⟨n,hn⟩ : ∃ n,n = ws.length:=⟨_,rfl⟩
  have HNU:=fun W=>Lib.hid (number_any (ba q1) (by rw [ba_size];unfold maxLen;omega) W)
  have HNU2:=fun W=>Lib.hid (number_any (ba q2) (by rw [ba_size];unfold maxLen;omega) W)
  rw [ba_data] at HNU HNU2
  obtain ⟨nb,hnb⟩ : ∃ b,Hid (b = numB q1):=⟨_,Lib.hid rfl⟩
  obtain ⟨nv,hnv⟩ : ∃ b,Hid (b = numI q1):=⟨_,Lib.hid rfl⟩
  obtain ⟨mb,hmb⟩ : ∃ b,Hid (b = numB q2):=⟨_,Lib.hid rfl⟩
  obtain ⟨mv,hmv⟩ : ∃ b,Hid (b = numI q2):=⟨_,Lib.hid rfl⟩
  rw [← hnb.out,← hnv.out] at HNU
  rw [← hmb.out,← hmv.out] at HNU2
  have HIV : Hid (inpV ws = if nb && mb then (whatV r).map fun x=>((nv : Int),(mv : Int),x.1,x.2.1,x.2.2) else none):=by
   rw [Hid,hnb.out,hmb.out,hnv.out,hmv.out,inpV,hws]
   have h4 : 4 ≤ (q0 :: q1 :: q2 :: r).length:=by simp only [List.length_cons];omega
   cases h1 : numB q1
   ·rw [if_neg (fun h=>by have:=h.2.1;simp [h1] at this)];rfl
   ·cases h2 : numB q2
    ·rw [if_neg (fun h=>by have:=h.2.2;simp [h2] at this)];rfl
    ·rw [if_pos ⟨h4,h1,h2⟩];rfl
  have HWH : Hid (∀ W' xb,Below W.heap.size W W' → ObjAt W' xb 74 [.int .i64 (nv : Int),.int .i64 (mv : Int),.int .i64 0,.int .i64 0,.string ⟨#[]⟩] → Calls Tryz.prog 143 #[.pointer (some ⟨xb,0,none⟩),.slice (some ⟨g,o + 3,none⟩) (n - 3) (cap - 3)] W' (WhPost (nv : Int) (mv : Int) r xb W')):=fun W' xb hb ho=>by
   have hnr : n - 3 = r.length:=by omega
   rw [hnr]
   have hcell : ∀ j (hj : j < r.length),W'.cell? ⟨g,o + 3 + j,none⟩ = some (.string (ba r[j])):=fun j hj=>by
    rw [hb.cell (p:=⟨g,o + 3 + j,none⟩) hg]
    have:=hc (j + 3) (by omega)
    simp only [hws] at this
    rw [show o + 3 + j = o + (j + 3) by omega];exact this
   have hrs : ∀ x ∈ r,x.length ≤ 100000:=fun x hx=>hsm x (by rw [hws];simp [hx])
   have hrl4 : 1 ≤ r.length:=by omega
   match r,hcell,hrs,hrl4 with
   | [q],hcell,_,_=>exact what_1 _ _ q xb g (o + 3) (cap - 3) W' ho (by simp at hrl;omega) (hcell 0 (by simp))
   | [q,y],hcell,hrs,_=>exact what_2 _ _ q y (hrs y (by simp)) xb g (o + 3) (cap - 3) W' ho (by simp at hrl;omega) (hcell 0 (by simp)) (hcell 1 (by simp))
   | q :: y :: z :: t,_,_,_=>exact what_3 _ _ _ (by simp) (by omega) xb g (o + 3) (cap - 3) W'
  have e3 : decide ((n : Int) < 4) = false:=decide_eq_false (by omega)
  have e3' : decide (n < 4) = false:=decide_eq_false (by omega)
  have n3 : (3 : Int) ≤ (n : Int):=by omega
  have n3' : 3 ≤ n:=by omega
  have nc : n ≤ cap:=by omega
  have hc3 : ¬ cap = 3:=by omega
  have k1 : 1 < n:=by omega
  have k2 : 2 < n:=by omega
  have HCB : Hid (∀ W',Below W.heap.size W W' → W'.cell? ⟨g,o + 2,none⟩ = some (.string (ba q2))):=fun W' hb=>by rw [hb.cell (p:=⟨g,o + 2,none⟩) hg];exact c2
  rw [← hn]
  clear hl hsm hr hc h c2 hle hwl hws hrl hn
  go_enter Tryz.func97,Tryz.ntmps97
  go_wp2_with fail
  refine ((HNU _).out).mono ?_;rintro e w1' ⟨rfl,hb1⟩
  have H1:=Lib.hid (H.out.more hb1)
  have HB1:=Lib.hid hb1
  have c2:=HCB.out _ hb1
  clear hb1
  go_wp2_with fail
  refine ((HNU2 _).out).mono ?_;rintro e w2' ⟨rfl,hb2⟩
  have H2:=Lib.hid (H1.out.more hb2)
  have HB2:=Lib.hid (bmore HB1.out hb2)
  clear hb2 c2 c1
  go_upto_region 6 with fail
  have HXO : Hid (ObjAt (w2'.alloc (.cells #[.int .i64 (nv : Int),.int .i64 (mv : Int),.int .i64 0,.int .i64 0,.string ⟨#[]⟩] 74)) w2'.heap.size 74 [.int .i64 (nv : Int),.int .i64 (mv : Int),.int .i64 0,.int .i64 0,.string ⟨#[]⟩]):=ObjAt.new w2' _ _
  have HBX : Hid (Below w2'.heap.size w2' (w2'.alloc (.cells #[.int .i64 (nv : Int),.int .i64 (mv : Int),.int .i64 0,.int .i64 0,.string ⟨#[]⟩] 74))):=((Below.refl _ _).alloc (Nat.le_refl _) _)
  generalize w2'.alloc (.cells #[.int .i64 (nv : Int),.int .i64 (mv : Int),.int .i64 0,.int .i64 0,.string ⟨#[]⟩] 74) = w3' at HXO HBX ⊢
  obtain ⟨xb,hxb⟩ : ∃ xb,xb = w2'.heap.size:=⟨_,rfl⟩
  rw [← hxb] at HXO ⊢
  have HXB:=Lib.hid hxb
  clear hxb
  have H3:=Lib.hid (H2.out.more HBX.out)
  have HB3:=Lib.hid (bmore HB2.out HBX.out)
  (have r0:=(H3.out).ob.cell 0 _ rfl;have r1:=(H3.out).ob.cell 1 _ rfl;have r2:=(H3.out).ob.cell 2 _ rfl;have r3:=(H3.out).ob.cell 3 _ rfl;have r4:=(H3.out).ob.cell 4 _ rfl;have r5:=(H3.out).ob.cell 5 _ rfl;have r6:=(H3.out).ob.cell 6 _ rfl;have r7:=(H3.out).ob.cell 7 _ rfl;have f1:=(H3.out).ob.free 1;have f2:=(H3.out).ob.free 2;have f3:=(H3.out).ob.free 3;have f4:=(H3.out).ob.free 4;have f5:=(H3.out).ob.free 5;have f6:=(H3.out).ob.free 6;have f7:=(H3.out).ob.free 7)
  cases nb
  ·have HNO:=Lib.hid (HN0.out (by rw [HIV.out];rfl))
   go_wp2_with (go_at_call 139;refine (fail_any H3.out 6 ((i : Int) + 1)).mono ?_;rintro e W2 ⟨rfl,h2⟩)
   exact HNO.out _ ⟨i,v,h2⟩
  ·cases mb
   ·have HNO:=Lib.hid (HN0.out (by rw [HIV.out];rfl))
    go_wp2_with (go_at_call 139;refine (fail_any H3.out 6 ((i : Int) + 1)).mono ?_;rintro e W2 ⟨rfl,h2⟩)
    exact HNO.out _ ⟨i,v,h2⟩
   ·clear r0 r1 r2 r3 r4 r5 r6 r7 f1 f2 f3 f4 f5 f6 f7
    go_wp2_with fail
    refine (HWH.out _ xb HB3.out HXO.out).mono ?_;intro e w4' hp
    obtain ⟨hu,hp⟩:=hp
    have H4:=Lib.hid (H2.out.more (HBX.out.trans (hu.below (by have:=HXB.out;omega) HBX.out.size)))
    clear hu
    (have r0:=(H4.out).ob.cell 0 _ rfl;have r1:=(H4.out).ob.cell 1 _ rfl;have r2:=(H4.out).ob.cell 2 _ rfl;have r3:=(H4.out).ob.cell 3 _ rfl;have r4:=(H4.out).ob.cell 4 _ rfl;have r5:=(H4.out).ob.cell 5 _ rfl;have r6:=(H4.out).ob.cell 6 _ rfl;have r7:=(H4.out).ob.cell 7 _ rfl;have f1:=(H4.out).ob.free 1;have f2:=(H4.out).ob.free 2;have f3:=(H4.out).ob.free 3;have f4:=(H4.out).ob.free 4;have f5:=(H4.out).ob.free 5;have f6:=(H4.out).ob.free 6;have f7:=(H4.out).ob.free 7)
    cases hv : whatV r with
    | none=>
     rw [hv] at hp
     obtain rfl:=hp
     have HNO:=Lib.hid (HN0.out (by rw [HIV.out,hv];rfl))
     clear hv
     go_wp2_with (go_at_call 139;refine (fail_any H4.out 6 ((i : Int) + 1)).mono ?_;rintro e W2 ⟨rfl,h2⟩)
     exact HNO.out _ ⟨i,v,h2⟩
    | some x=>
     rw [hv] at hp
     obtain ⟨rfl,hox⟩:=hp
     obtain ⟨xk,xc,xd⟩:=x
     have HYY:=Lib.hid (HY0.out ((nv : Int),(mv : Int),xk,xc,xd) (by rw [HIV.out,hv];rfl))
     have x0:=hox.cell 0 _ rfl
     have x1:=hox.cell 1 _ rfl
     have x2:=hox.cell 2 _ rfl
     have x3:=hox.cell 3 _ rfl
     have x4:=hox.cell 4 _ rfl
     have hsz:=H4.out.bel.size
     have hrb:=H4.out.ob.lt
     have hxl:=hox.lt
     clear hv hox
     go_upto_region 8 with fail
     go_region_law (refine step_own rfl (.tmp 61) (.tmp 63) 32 rfl w.heap.size 74 i0 _ 5 48 Tryz.underlying32 hi0 hz0 hz1 hz2 rfl (by omega) v.na v.inp.length v.nc (inC v.inp) rfl (H4.out.inp.below ((Below.refl _ _).drew.alloc (Nat.le_refl _) _)) w4'.heap.size (inR ((nv : Int),(mv : Int),xk,xc,xd)) rfl (new_block _ _ _ rfl) rfl (by simp [inR,Value.oneCell']) (by simp only [maxLen];omega) (by omega) (by simp;omega) ?_;intro g' cap' W4 hown hmod hat;have h4:=(H4.out.ob.below ((Below.refl _ _).drew.alloc (Nat.le_refl _) _)).mod hmod (H4.out.inp.ne H4.out.ob (by decide));have d0:=h4.cell 5 _ rfl;have e0:=h4.free 5)
     all_goals
      go_wp2_with fail
      exact HYY.out _ _ (by simp [scOf]) (H4.out.addIn (x:=((nv : Int),(mv : Int),xk,xc,xd)) ((Below.refl _ _).drew.alloc (Nat.le_refl _) _) hown hmod)
end Go.Proofs.YtoklonmiejdgmaaGreatDoor
/- Package script: an image. -/
namespace Go.Proofs.YtoklonmiejdgmaaGreatDoor
set_option linter.unusedVariables false
set_option linter.unusedSimpArgs false
set_option linter.unnecessarySimpa false
open Go.RowKit Go.Sort
set_option maxHeartbeats 4000000
set_option maxRecDepth 100000
set_option linter.unusedVariables false
theorem joinT_app (A B : List (List UInt8)) : joinT (A ++ B) = joinT A ++ joinT B:=by simp [joinT]
theorem joinT_take (L : List (List UInt8)) (k : Nat) : (joinT (L.take k)).length ≤ (joinT L).length:=by
 have:=congrArg List.length (joinT_app (L.take k) (L.drop k))
 rw [List.take_append_drop,List.length_append] at this;omega
theorem joinT_drop (L : List (List UInt8)) (k : Nat) : (joinT (L.drop k)).length ≤ (joinT L).length:=by
 have:=congrArg List.length (joinT_app (L.take k) (L.drop k))
 rw [List.take_append_drop,List.length_append] at this;omega
theorem info_sl : (Tryz.prog.info? 69).map (fun i=>(i.zero,i.size,i.bytes)) = some (some (.slice none 0 0),1,24):=by kernel_rfl
def imgR (i : Nat) (v : Sv) (L : List (List UInt8)) : (Int × Int) ⊕ (Nat × Int × Sc):=imgS L i (scOf v)
theorem rd_cut {W : World} {g o cap : Nat} {L : List (List UInt8)} (h : RdW W (some ⟨g,o,none⟩) cap L) (x y : Nat) (hxy : x ≤ y) (hy : y ≤ L.length) : RdW W (some ⟨g,o + x,none⟩) (cap - x) ((L.take y).drop x):=by
 have hlen : ((L.take y).drop x).length = y - x:=by rw [List.length_drop,List.length_take];omega
 refine ⟨⟨by rw [strC_len,Nat.mul_one],(fun h=>by cases h),fun p hp hne=>?_⟩,by rw [hlen];have:=h.le;omega,by have:=h.mx;omega⟩
 injection hp with hp
 subst hp
 have hpos : 0 < L.length:=by
  rcases Nat.eq_zero_or_pos L.length with h0 | h0
  ·exfalso;apply hne;rw [List.eq_nil_of_length_eq_zero h0];simp [strC]
  ·exact h0
 obtain ⟨g',o',he,hg,hc⟩:=h.at_ 0 hpos
 injection he with he
 injection he with e1 e2
 subst e1;subst e2
 refine ⟨g,o + x,rfl,hg,fun j u hu=>?_⟩
 have hj : j < y - x:=by have:=(List.getElem?_eq_some_iff.1 hu).1;rw [strC_len,hlen] at this;exact this
 rw [strC_get _ j (by rw [hlen];exact hj),List.getElem_drop,List.getElem_take] at hu
 rw [← hu,show o + x + j = o + (x + j) by omega]
 exact hc (x + j) (by omega)
theorem image_any {w W : World} {rb : Nat} {La : Option Addr} {Lc : Nat} {L : List (List UInt8)} {i : Nat} {last : Int} {v : Sv} (h : SR w rb La Lc L i last v 0 0 W) (hi : i < L.length) (hll : L.length ≤ 1000000) (hjl : (joinT L).length ≤ 1000000) (hvl : v.im.length ≤ 1000000) (hT : Isa.Tab w)
  (ws : List (List UInt8)) (hws : ws = fieldsC 32 (L.getD i [])) (a : Option Addr) (cap : Nat) (hmx : ws.length ≤ 1000000) :
  Calls Tryz.prog 95 #[.pointer (some ⟨rb,0,none⟩),.slice a ws.length cap] W (StP w rb La Lc L last (imgR i v L)):=by
 obtain ⟨i0,hi0,hz0,hz1,hz2⟩:=info_parts info_sl
 have H:=Lib.hid h
 have w1 : IntKind.i64.wrap ((i : Int) + 1) = (i : Int) + 1:=by rw [IntKind.wrap_i64];omega
 have HE:=Lib.hid (send_any h hi hll)
 have HN0 : Hid (∀ p,imgR i v L = .inl p → ∀ w',(∃ i' v',SR w rb La Lc L i' last v' p.1 p.2 w') → StP w rb La Lc L last (imgR i v L) (.returned (.bool false)) w'):=fun p hn w' hs=>by rw [hn];exact ⟨rfl,hs⟩
 have HY0 : Hid (∀ p,imgR i v L = .inr p → ∀ w' v' j,j + 1 = p.1 → scOf v' = p.2.2 → SR w rb La Lc L j last v' 0 0 w' → StP w rb La Lc L last (imgR i v L) (.returned (.bool true)) w'):=fun p hx w' v' j h1 h2 h3=>by rw [hx];exact ⟨rfl,v',j,h1,h2,h3⟩
 obtain ⟨R,hR⟩ : ∃ R,R = StP w rb La Lc L last (imgR i v L):=⟨_,rfl⟩
 rw [← hR] at HN0 HY0 ⊢
 clear hR
 cases he : endS L (i + 1) with
 | none=>
  have HNO:=Lib.hid (HN0.out (6,(i : Int) + 1) (by unfold imgR imgS;rw [he]))
  have HER : Hid (EndR L (i + 1) = .tuple #[.int .i64 0,.bool false]):=by rw [Hid,EndR,he]
  rw [HER.out] at HE
  (have r0:=(h).ob.cell 0 _ rfl;have r1:=(h).ob.cell 1 _ rfl;have r2:=(h).ob.cell 2 _ rfl;have r3:=(h).ob.cell 3 _ rfl;have r4:=(h).ob.cell 4 _ rfl;have r5:=(h).ob.cell 5 _ rfl;have r6:=(h).ob.cell 6 _ rfl;have r7:=(h).ob.cell 7 _ rfl;have f1:=(h).ob.free 1;have f2:=(h).ob.free 2;have f3:=(h).ob.free 3;have f4:=(h).ob.free 4;have f5:=(h).ob.free 5;have f6:=(h).ob.free 6;have f7:=(h).ob.free 7)
  clear he h hT
  go_enter Tryz.func95,Tryz.ntmps95
  go_wp2_with (first | (go_at_call 140;refine HE.out.mono ?_;rintro e Wx ⟨rfl,rfl⟩) | (go_at_call 139;refine (fail_any H.out 6 ((i : Int) + 1)).mono ?_;rintro e W2 ⟨rfl,h2⟩))
  exact HNO.out _ ⟨i,v,h2⟩
 | some e_=>
  have HER : Hid (EndR L (i + 1) = .tuple #[.int .i64 e_,.bool true]):=by rw [Hid,EndR,he]
  rw [HER.out] at HE
  obtain ⟨x1,x2,x3⟩:=endS_some he
  by_cases hw1 : ws.length = 1
  ·have n1 : ((ws.length : Int) != 1) = false:=by simp [hw1]
   obtain ⟨g,o,rfl,hg,hc⟩:=h.ln.at_ 0 (by omega)
   have hle:=h.ln.le
   have hmx2:=h.ln.mx
   unfold maxLen at hmx2
   obtain ⟨tx,htx⟩ : ∃ tx,tx = joinT ((L.take e_).drop (i + 1)):=⟨_,rfl⟩
   have htl : tx.length ≤ 1000000:=by
    rw [htx]
    have h1:=joinT_drop (L.take e_) (i + 1)
    have h2:=joinT_take L e_
    omega
   have hcl : ((L.take e_).drop (i + 1)).length = e_ - (i + 1):=by rw [List.length_drop,List.length_take];omega
   have HTX : Hid (∀ W',Below W.heap.size W W' → Calls Tryz.prog 24 #[.slice (some ⟨g,o + (i + 1),none⟩) (e_ - (i + 1)) (Lc - (i + 1))] W' fun e w'=>e = .returned (.string (ba tx)) ∧ Below W'.heap.size W' w'):=fun W' hb=>by
    have:=text_any (some ⟨g,o + (i + 1),none⟩) (Lc - (i + 1)) ((L.take e_).drop (i + 1)) W' ((rd_cut h.ln (i + 1) e_ x2 (by omega)).below (bmore h.bel hb)) (by rw [← htx];exact htl) (by omega)
    rw [hcl,← htx] at this;exact this
   have HPG : Hid (∀ W',Below W.heap.size W W' → Calls Tryz.prog 141 #[.string (ba tx)] W' (As.PgPost tx W')):=fun W' hb=>by
    have:=As.program_any (ba tx) (by rw [ba_size];omega) W' (hT.below (bmore h.bel hb))
    rw [ba_data] at this;exact this
   obtain ⟨pe,hpe⟩ : ∃ x,Hid (x = As.pgE tx):=⟨_,Lib.hid rfl⟩
   obtain ⟨pa,hpa⟩ : ∃ x,Hid (x = As.pgAt tx):=⟨_,Lib.hid rfl⟩
   obtain ⟨pl,hpl⟩ : ∃ x,Hid (x = As.pgL tx):=⟨_,Lib.hid rfl⟩
   have HPS : Hid (∀ W' e w',As.PgPost tx W' e w' → ∃ a cap,e = .returned (.tuple #[.slice a pl.length cap,.int .i64 pe,.int .i64 pa]) ∧ Own w' W'.heap.size 70 1 a pl.length cap (As.uC pl) ∧ Below W'.heap.size W' w'):=fun W' e w' h=>by rw [hpe.out,hpa.out,hpl.out];exact h
   have HIM : Hid (imgR i v L = if pe ≠ 0 then (if pa = 0 then .inl (pe,0) else .inl (pe,(i : Int) + 1 + pa)) else .inr (e_ + 1,0,{ scOf v with im:=(scOf v).im ++ [pl] })):=by
    rw [Hid,imgR,imgS,he]
    simp only
    rw [if_neg (by rw [← hws,hw1];simp),← htx,← hpe.out,← hpa.out,← hpl.out]
   have hpa0 : 0 ≤ pa ∧ pa ≤ 100000000:=by
    rw [hpa.out]
    refine ⟨pgAt_nn tx,?_⟩
    unfold As.pgAt As.pgBad
    split
    ·omega
    ·split
     ·rename_i hk
      have:=List.mem_range.1 (List.mem_of_find?_eq_some hk)
      have h2 : (As.lnL tx).length ≤ tx.length + 1:=by
       unfold As.lnL
       have:=fieldsC_len 10 tx
       have:=List.count_le_length (a:=(10 : UInt8)) (l:=tx)
       split
       ·rw [List.length_dropLast];omega
       ·omega
      omega
     ·omega
   obtain ⟨pa1,pa2⟩:=hpa0
   have w2 : IntKind.i64.wrap ((i : Int) + 1 + pa) = (i : Int) + 1 + pa:=by rw [IntKind.wrap_i64];omega
   have hcn : ¬ Lc = i + 1:=by omega
   have k1 : (0 : Int) ≤ (i : Int) + 1:=by omega
   have k2 : (i : Int) + 1 ≤ (e_ : Int):=by omega
   have k3 : (e_ : Int) ≤ (Lc : Int):=by omega
   have k4 : ((i : Int) + 1).toNat = i + 1:=by omega
   have k5 : e_ ≤ Lc:=by omega
   have k6 : i + 1 ≤ e_:=x2
   have HLN:=Lib.hid h.ln
   clear hc htx hws hcl he x1 x2 x3 hT hw1
   have HD : Hid (SR w rb (some ⟨g,o,none⟩) Lc L i last v 0 0 W.drew):=h.more (Below.refl _ _).drew
   have HBD : Hid (Below W.heap.size W W.drew):=(Below.refl _ _).drew
   (have r0:=(h).ob.cell 0 _ rfl;have r1:=(h).ob.cell 1 _ rfl;have r2:=(h).ob.cell 2 _ rfl;have r3:=(h).ob.cell 3 _ rfl;have r4:=(h).ob.cell 4 _ rfl;have r5:=(h).ob.cell 5 _ rfl;have r6:=(h).ob.cell 6 _ rfl;have r7:=(h).ob.cell 7 _ rfl;have f1:=(h).ob.free 1;have f2:=(h).ob.free 2;have f3:=(h).ob.free 3;have f4:=(h).ob.free 4;have f5:=(h).ob.free 5;have f6:=(h).ob.free 6;have f7:=(h).ob.free 7)
   clear h
   go_enter Tryz.func95,Tryz.ntmps95
   go_upto_region 4 with (go_at_call 140;refine HE.out.mono ?_;rintro e Wx ⟨rfl,rfl⟩)
   (clear r0 r1 r2 r3 r4 r5 r6 r7 f1 f2 f3 f4 f5 f6 f7)
   go_region_held3 (fun W'=>W'.cell? ⟨rb,0,none⟩ = some (.slice (some ⟨g,o,none⟩) L.length Lc) ∧ W'.cell? ⟨rb,1,none⟩ = some (.int .i64 i)) (first | exact ⟨HD.out.ob.cell 0 _ rfl,HD.out.ob.cell 1 _ rfl⟩) (first | (go_at_call 24;refine (HTX.out _ HBD.out).mono ?_;rintro e W2 ⟨rfl,hb⟩;have HD:=Lib.hid (HD.out.more hb);have HBD:=Lib.hid (bmore HBD.out hb);clear hb) | (go_at_call 141;refine (HPG.out _ HBD.out).mono ?_;intro e W3 hp;obtain ⟨pA,pC,rfl,ho,hb⟩:=HPS.out _ _ _ hp;have HOW:=Lib.hid (ho.mono HD.out.bel.size);have HD:=Lib.hid (HD.out.more hb);clear hp ho hb))
   all_goals
    ((have r0:=(HD.out).ob.cell 0 _ rfl;have r1:=(HD.out).ob.cell 1 _ rfl;have r2:=(HD.out).ob.cell 2 _ rfl;have r3:=(HD.out).ob.cell 3 _ rfl;have r4:=(HD.out).ob.cell 4 _ rfl;have r5:=(HD.out).ob.cell 5 _ rfl;have r6:=(HD.out).ob.cell 6 _ rfl;have r7:=(HD.out).ob.cell 7 _ rfl;have f1:=(HD.out).ob.free 1;have f2:=(HD.out).ob.free 2;have f3:=(HD.out).ob.free 3;have f4:=(HD.out).ob.free 4;have f5:=(HD.out).ob.free 5;have f6:=(HD.out).ob.free 6;have f7:=(HD.out).ob.free 7))
    by_cases hz : pe = 0
    ·have z1 : (pe == 0) = true:=by simp [hz]
     have HYY:=Lib.hid (HY0.out (e_ + 1,0,{ scOf v with im:=(scOf v).im ++ [pl] }) (by rw [HIM.out,if_neg (by simp [hz])]))
     have hsz:=HD.out.bel.size
     have hrb:=HD.out.ob.lt
     clear hz
     go_wp2_with (at_builtin;(refine wpList_own rfl (.tmp 70) (.tmp 72) 30 rfl w.heap.size 69 i0 _ 1 24 Tryz.underlying30 hi0 hz0 hz1 hz2 rfl (by omega) v.ia v.im.length v.ic (imC v.im) rfl (HD.out.im.below ((Below.refl _ _).alloc (Nat.le_refl _) _)) W3.heap.size [.slice pA pl.length pC] rfl (new_block _ _ _ rfl) rfl (by simp [Value.oneCell']) (by simp only [maxLen];omega) (by omega) (by simp;omega) ?_);intro g' c' w4 hown1 hmod1 _;have HO:=Lib.hid hown1;have HM:=Lib.hid hmod1;have HS4 : Hid (ObjAt w4 rb 64 [.slice (some ⟨g,o,none⟩) L.length Lc,.int .i64 i,.int .i64 last,.slice v.ia v.im.length v.ic,.slice v.sa v.se.length v.sc,.slice v.na v.inp.length v.nc,.int .i64 0,.int .i64 0]):=((HD.out.more ((Below.refl _ _).alloc (Nat.le_refl _) _)).ob.mod hmod1 (HD.out.im.ne HD.out.ob (by decide)));have ff3:=HS4.out.free 3;have dd3:=HS4.out.cell 3 _ rfl;have ff1:=HS4.out.free 1;have dd1:=HS4.out.cell 1 _ rfl;clear hown1 hmod1;clear r0 r1 r2 r3 r4 r5 r6 r7 f1 f2 f3 f4 f5 f6 f7)
     exact HYY.out _ _ e_ rfl (by simp [scOf]) ((HD.out.addIm (x:=⟨pA,pC,pl⟩) ((Below.refl _ _).alloc (Nat.le_refl _) _) (HOW.out.below ((Below.refl _ _).alloc (Nat.le_refl _) _)) HO.out HM.out).setAt e_)
    ·have z1 : (pe == 0) = false:=by rw [beq_eq_false_iff_ne];exact hz
     by_cases ha : pa = 0
     ·have z2 : (pa == 0) = true:=by simp [ha]
      have HNO:=Lib.hid (HN0.out (pe,0) (by rw [HIM.out,if_pos hz,if_pos ha]))
      clear hz ha
      go_wp2_with (go_at_call 139;refine (fail_any HD.out pe 0).mono ?_;rintro e Wf ⟨rfl,h2⟩)
      exact HNO.out _ ⟨i,v,h2⟩
     ·have z2 : (pa == 0) = false:=by rw [beq_eq_false_iff_ne];exact ha
      have HNO:=Lib.hid (HN0.out (pe,(i : Int) + 1 + pa) (by rw [HIM.out,if_pos hz,if_neg ha]))
      clear hz ha
      go_wp2_with (go_at_call 139;refine (fail_any HD.out pe ((i : Int) + 1 + pa)).mono ?_;rintro e Wf ⟨rfl,h2⟩)
      exact HNO.out _ ⟨i,v,h2⟩
  ·have n1 : ((ws.length : Int) != 1) = true:=by rw [bne_iff_ne];omega
   have HNO:=Lib.hid (HN0.out (6,(i : Int) + 1) (by unfold imgR imgS;rw [he];simp only;rw [if_pos (by rw [← hws];exact hw1)]))
   (have r0:=(h).ob.cell 0 _ rfl;have r1:=(h).ob.cell 1 _ rfl;have r2:=(h).ob.cell 2 _ rfl;have r3:=(h).ob.cell 3 _ rfl;have r4:=(h).ob.cell 4 _ rfl;have r5:=(h).ob.cell 5 _ rfl;have r6:=(h).ob.cell 6 _ rfl;have r7:=(h).ob.cell 7 _ rfl;have f1:=(h).ob.free 1;have f2:=(h).ob.free 2;have f3:=(h).ob.free 3;have f4:=(h).ob.free 4;have f5:=(h).ob.free 5;have f6:=(h).ob.free 6;have f7:=(h).ob.free 7)
   clear he h hT x1 x2 x3 hw1 hws
   go_enter Tryz.func95,Tryz.ntmps95
   go_wp2_with (first | (go_at_call 140;refine HE.out.mono ?_;rintro e Wx ⟨rfl,rfl⟩) | (go_at_call 139;refine (fail_any H.out 6 ((i : Int) + 1)).mono ?_;rintro e W2 ⟨rfl,h2⟩))
   exact HNO.out _ ⟨i,v,h2⟩
end Go.Proofs.YtoklonmiejdgmaaGreatDoor
/- Package script: all lines behind the configuration's. -/
namespace Go.Proofs.YtoklonmiejdgmaaGreatDoor
set_option linter.unusedVariables false
set_option linter.unusedSimpArgs false
set_option linter.unnecessarySimpa false
open Go.RowKit Go.Sort
set_option maxHeartbeats 4000000
set_option maxRecDepth 100000
set_option linter.unusedVariables false
theorem how_wrong {w W : World} {rb : Nat} {La : Option Addr} {Lc : Nat} {L : List (List UInt8)} {i : Nat} {last : Int} {v : Sv} {e0 bad : Int} (h : SR w rb La Lc L i last v e0 bad W) (k : Int) (hk : k < last) :
  Calls Tryz.prog 56 #[.pointer (some ⟨rb,0,none⟩),.int .i64 k] W fun e w'=>e = .returned (.func (Fn.func 94) #[.pointer (some ⟨rb,0,none⟩)] #[]) ∧ W = w':=by
 have d1 : decide (k < last) = true:=decide_eq_true hk;clear hk
 (have r0:=(h).ob.cell 0 _ rfl;have r1:=(h).ob.cell 1 _ rfl;have r2:=(h).ob.cell 2 _ rfl;have r3:=(h).ob.cell 3 _ rfl;have r4:=(h).ob.cell 4 _ rfl;have r5:=(h).ob.cell 5 _ rfl;have r6:=(h).ob.cell 6 _ rfl;have r7:=(h).ob.cell 7 _ rfl;have f1:=(h).ob.free 1;have f2:=(h).ob.free 2;have f3:=(h).ob.free 3;have f4:=(h).ob.free 4;have f5:=(h).ob.free 5;have f6:=(h).ob.free 6;have f7:=(h).ob.free 7)
 clear h
 go_enter Tryz.func56,Tryz.ntmps56
 go_wp2_with fail
 go_ret
 exact ⟨rfl,rfl⟩
theorem how_image {w W : World} {rb : Nat} {La : Option Addr} {Lc : Nat} {L : List (List UInt8)} {i : Nat} {last : Int} {v : Sv} {e0 bad : Int} (h : SR w rb La Lc L i last v e0 bad W) (k : Int) (hk : ¬ k < last) (h0 : k = 0) :
  Calls Tryz.prog 56 #[.pointer (some ⟨rb,0,none⟩),.int .i64 k] W fun e w'=>e = .returned (.func (Fn.func 95) #[.pointer (some ⟨rb,0,none⟩)] #[]) ∧ W = w':=by
 have d1 : decide (k < last) = false:=decide_eq_false hk;subst h0;clear hk
 (have r0:=(h).ob.cell 0 _ rfl;have r1:=(h).ob.cell 1 _ rfl;have r2:=(h).ob.cell 2 _ rfl;have r3:=(h).ob.cell 3 _ rfl;have r4:=(h).ob.cell 4 _ rfl;have r5:=(h).ob.cell 5 _ rfl;have r6:=(h).ob.cell 6 _ rfl;have r7:=(h).ob.cell 7 _ rfl;have f1:=(h).ob.free 1;have f2:=(h).ob.free 2;have f3:=(h).ob.free 3;have f4:=(h).ob.free 4;have f5:=(h).ob.free 5;have f6:=(h).ob.free 6;have f7:=(h).ob.free 7)
 clear h
 go_enter Tryz.func56,Tryz.ntmps56
 go_wp2_with fail
 go_ret
 exact ⟨rfl,rfl⟩
theorem how_sector {w W : World} {rb : Nat} {La : Option Addr} {Lc : Nat} {L : List (List UInt8)} {i : Nat} {last : Int} {v : Sv} {e0 bad : Int} (h : SR w rb La Lc L i last v e0 bad W) (k : Int) (hk : ¬ k < last) (h0 : k = 1) :
  Calls Tryz.prog 56 #[.pointer (some ⟨rb,0,none⟩),.int .i64 k] W fun e w'=>e = .returned (.func (Fn.func 96) #[.pointer (some ⟨rb,0,none⟩)] #[]) ∧ W = w':=by
 have d1 : decide (k < last) = false:=decide_eq_false hk;subst h0;clear hk
 (have r0:=(h).ob.cell 0 _ rfl;have r1:=(h).ob.cell 1 _ rfl;have r2:=(h).ob.cell 2 _ rfl;have r3:=(h).ob.cell 3 _ rfl;have r4:=(h).ob.cell 4 _ rfl;have r5:=(h).ob.cell 5 _ rfl;have r6:=(h).ob.cell 6 _ rfl;have r7:=(h).ob.cell 7 _ rfl;have f1:=(h).ob.free 1;have f2:=(h).ob.free 2;have f3:=(h).ob.free 3;have f4:=(h).ob.free 4;have f5:=(h).ob.free 5;have f6:=(h).ob.free 6;have f7:=(h).ob.free 7)
 clear h
 go_enter Tryz.func56,Tryz.ntmps56
 go_wp2_with fail
 go_ret
 exact ⟨rfl,rfl⟩
theorem how_input {w W : World} {rb : Nat} {La : Option Addr} {Lc : Nat} {L : List (List UInt8)} {i : Nat} {last : Int} {v : Sv} {e0 bad : Int} (h : SR w rb La Lc L i last v e0 bad W) (k : Int) (hk : ¬ k < last) (h0 : k = 2) :
  Calls Tryz.prog 56 #[.pointer (some ⟨rb,0,none⟩),.int .i64 k] W fun e w'=>e = .returned (.func (Fn.func 97) #[.pointer (some ⟨rb,0,none⟩)] #[]) ∧ W = w':=by
 have d1 : decide (k < last) = false:=decide_eq_false hk;subst h0;clear hk
 (have r0:=(h).ob.cell 0 _ rfl;have r1:=(h).ob.cell 1 _ rfl;have r2:=(h).ob.cell 2 _ rfl;have r3:=(h).ob.cell 3 _ rfl;have r4:=(h).ob.cell 4 _ rfl;have r5:=(h).ob.cell 5 _ rfl;have r6:=(h).ob.cell 6 _ rfl;have r7:=(h).ob.cell 7 _ rfl;have f1:=(h).ob.free 1;have f2:=(h).ob.free 2;have f3:=(h).ob.free 3;have f4:=(h).ob.free 4;have f5:=(h).ob.free 5;have f6:=(h).ob.free 6;have f7:=(h).ob.free 7)
 clear h
 go_enter Tryz.func56,Tryz.ntmps56
 go_wp2_with fail
 go_ret
 exact ⟨rfl,rfl⟩
def spW (s : List UInt8) : List (List UInt8):=if wordsB s then fieldsC 32 s else []
theorem rdW_none (w : World) : RdW w none 0 []:=⟨⟨rfl,fun _=>rfl,fun p hp=>by cases hp⟩,Nat.le_refl _,by decide⟩
theorem split_one {s : List UInt8} {w w' : World} {e : Ending} (h : SplitPost s w e w') : ∃ a cap,e = .returned (.tuple #[.slice a (spW s).length cap,.bool (wordsB s)]) ∧ RdW w' a cap (spW s) ∧ Below w.heap.size w w':=by
 unfold spW
 cases hw : wordsB s
 ·exact ⟨none,0,by rw [h.2.1 hw];rfl,rdW_none w',h.2.2⟩
 ·obtain ⟨a,cap,h1,h2⟩:=h.1 hw
  exact ⟨a,cap,by rw [h1];rfl,by simpa using h2,h.2.2⟩
def atOf (rb : Nat) (W : World) : Nat:=match W.cell? ⟨rb,1,none⟩ with
 | some (.int _ z)=>z.toNat
 | _=>0
theorem atOf_sr {w W : World} {rb : Nat} {La : Option Addr} {Lc : Nat} {L : List (List UInt8)} {i : Nat} {last : Int} {v : Sv} {e0 bad : Int} (h : SR w rb La Lc L i last v e0 bad W) : atOf rb W = i:=by
 unfold atOf;rw [h.ob.cell 1 _ rfl];simp
theorem rankS_cases (y : List UInt8) : rankS y = -1 ∨ (wordsB y = true ∧ (rankS y = 0 ∨ rankS y = 1 ∨ rankS y = 2)):=by
 unfold rankS
 split
 ·rename_i h
  unfold rankH
  split
  ·exact Or.inr ⟨h,Or.inl rfl⟩
  ·split
   ·exact Or.inr ⟨h,Or.inr (Or.inl rfl)⟩
   ·split
    ·exact Or.inr ⟨h,Or.inr (Or.inr rfl)⟩
    ·exact Or.inl rfl
 ·exact Or.inl rfl
theorem stepS_len {L : List (List UInt8)} {i : Nat} {last : Int} {s : Sc} {p : Nat × Int × Sc} (h : stepS L i last s = .inr p) : p.2.2.im.length ≤ s.im.length + 1 ∧ p.2.2.se.length ≤ s.se.length + 1 ∧ p.2.2.inp.length ≤ s.inp.length + 1:=by
 unfold stepS imgS at h
 split at h
 ·cases h
 ·split at h
  ·split at h
   ·cases h
   ·split at h
    ·cases h
    ·split at h
     ·split at h <;> cases h
     ·injection h with h;rw [← h];simp
  ·split at h
   ·split at h
    ·cases h
    ·injection h with h;rw [← h];simp
   ·split at h
    ·cases h
    ·injection h with h;rw [← h];simp
theorem stepS_rank {L : List (List UInt8)} {i : Nat} {last : Int} {s : Sc} {p : Nat × Int × Sc} (h : stepS L i last s = .inr p) (hr : rankS (L.getD i []) = 0 ∨ rankS (L.getD i []) = 1 ∨ rankS (L.getD i []) = 2) : p.2.1 = rankS (L.getD i []):=by
 unfold stepS imgS at h
 split at h
 ·cases h
 ·split at h
  ·rename_i h0
   split at h
   ·cases h
   ·split at h
    ·cases h
    ·split at h
     ·split at h <;> cases h
     ·injection h with h;rw [← h];exact h0.symm
  ·rename_i h0
   split at h
   ·rename_i h1
    split at h
    ·cases h
    ·injection h with h;rw [← h];exact h1.symm
   ·rename_i h1
    split at h
    ·cases h
    ·injection h with h;rw [← h];show (2 : Int) = _;omega
/-- What the reading leaves. -/
def RePost (w : World) (rb : Nat) (La : Option Addr) (Lc : Nat) (L : List (List UInt8)) (F : Sc × Int × Int) (e : Ending) (w' : World) : Prop:=
 (F.2.1 = 0 → e = .returned (.bool true) ∧ ∃ i last v,scOf v = F.1 ∧ SR w rb La Lc L i last v 0 0 w') ∧ (F.2.1 ≠ 0 → e = .returned (.bool false) ∧ ∃ i last v,SR w rb La Lc L i last v F.2.1 F.2.2 w')
structure ReQ (w : World) (rb : Nat) (La : Option Addr) (Lc : Nat) (L : List (List UInt8)) (F : Sc × Int × Int) (i : Nat) (last : Int) (v : Sv) (W : World) : Prop where
 sr : SR w rb La Lc L i last v 0 0 W
 fin : restS L i last (scOf v) = F
 lo : 0 ≤ last
 l1 : v.im.length ≤ i
 l2 : v.se.length ≤ i
 l3 : v.inp.length ≤ i
theorem stepS_in {L : List (List UInt8)} {i : Nat} {last : Int} {s : Sc} {p : Nat × Int × Sc} (h : stepS L i last s = .inr p) (hi : i < L.length) : p.1 ≤ L.length:=by
 unfold stepS imgS at h
 split at h
 ·cases h
 ·split at h
  ·split at h
   ·cases h
   ·rename_i e_ he
    have:=(endS_some he).1
    split at h
    ·cases h
    ·split at h
     ·split at h <;> cases h
     ·injection h with h;rw [← h];show e_ + 1 ≤ L.length;omega
  ·split at h
   ·split at h
    ·cases h
    ·injection h with h;rw [← h];show i + 1 ≤ L.length;omega
   ·split at h
    ·cases h
    ·injection h with h;rw [← h];show i + 1 ≤ L.length;omega
theorem read_any {w W : World} {rb : Nat} {La : Option Addr} {Lc : Nat} {L : List (List UInt8)} {i : Nat} (h : SR w rb La Lc L i 0 sv0 0 0 W) (hll : L.length ≤ 100000) (hjl : (joinT L).length ≤ 100000) (hsm : ∀ x ∈ L,x.length ≤ 100000) (hT : Isa.Tab w) :
  Calls Tryz.prog 25 #[.pointer (some ⟨rb,0,none⟩)] W (RePost w rb La Lc L (restS L i 0 sc0)):=by
 obtain ⟨F,hF⟩ : ∃ F,F = restS L i 0 sc0:=⟨_,rfl⟩
 have HQ0 : Hid (ReQ w rb La Lc L F i 0 sv0 W):=⟨h,by rw [hF];rfl,Int.le_refl _,Nat.zero_le _,Nat.zero_le _,Nat.zero_le _⟩
 rw [← hF]
 have HY : Hid (∀ i' last' v' W',L.length ≤ i' → ReQ w rb La Lc L F i' last' v' W' → RePost w rb La Lc L F (.returned (.bool true)) W'):=fun i' last' v' W' hi hq=>by
  have:=hq.fin
  rw [restS_end hi] at this
  refine ⟨fun _=>⟨rfl,i',last',v',by rw [← this],hq.sr⟩,fun hn=>absurd (by rw [← this]) hn⟩
 have HNB : Hid (∀ i' last' v' W0 p W',i' < L.length → ReQ w rb La Lc L F i' last' v' W0 → stepS L i' last' (scOf v') = .inl p → (∃ i2 v2,SR w rb La Lc L i2 last' v2 p.1 p.2 W') → RePost w rb La Lc L F (.returned (.bool false)) W'):=fun i' last' v' W0 p W' hi hq hs hx=>by
  obtain ⟨i2,v2,hx⟩:=hx
  have:=hq.fin
  rw [restS_bad hi hs] at this
  have hp:=stepS_pos hs
  rw [← this]
  exact ⟨fun h0=>absurd h0 hp,fun _=>⟨rfl,i2,last',v2,hx⟩⟩
 obtain ⟨R,hR⟩ : ∃ R,R = RePost w rb La Lc L F:=⟨_,rfl⟩
 rw [← hR] at HY HNB ⊢
 have HSM:=Lib.hid hsm
 have HTT:=Lib.hid hT
 clear hF hR h hsm hT
 go_enter Tryz.func25,Tryz.ntmps25
 go_upto_region 1 with fail
 go_loopw [3] (fun _ wr=>∃ (j : Nat) (last : Int) (v : Sv),ReQ w rb La Lc L F j last v wr) (fun _ wr=>L.length - atOf rb wr)
 case atStart=>exact ⟨i,0,sv0,HQ0.out⟩
 case round=>
  clear HQ0
  obtain ⟨j,last,v,hq⟩:=hrel
  have HQ:=Lib.hid hq
  have hat:=atOf_sr hq.sr
  have HAT:=Lib.hid hat
  clear hq hat
  have hle:=HQ.out.sr.ln.le
  have hmx:=HQ.out.sr.ln.mx
  unfold maxLen at hmx
  by_cases hlt : j < L.length
  ·obtain ⟨g,o,rfl,hg,hc⟩:=HQ.out.sr.ln.at_ j hlt
   obtain ⟨y,hy⟩ : ∃ y,y = L[j]:=⟨_,rfl⟩
   have hyD : L.getD j [] = y:=by rw [List.getD_eq_getElem?_getD,List.getElem?_eq_getElem hlt,hy];rfl
   have hyl : y.length ≤ 100000:=by rw [hy];exact HSM.out _ (List.getElem_mem hlt)
   have HLC : Hid (∀ W',Below w.heap.size w W' → W'.cell? ⟨g,o + j,none⟩ = some (.string (ba y))):=fun W' hb=>by rw [hb.cell (p:=⟨g,o + j,none⟩) hg,hc j hlt,hy]
   have d1 : decide ((j : Int) < (L.length : Int)) = true:=decide_eq_true (by omega)
   have d1' : decide (j < L.length) = true:=decide_eq_true hlt
   have w1 : IntKind.i64.wrap ((j : Int) + 1) = (j : Int) + 1:=by rw [IntKind.wrap_i64];omega
   obtain ⟨k,hk⟩ : ∃ k,k = rankS y:=⟨_,rfl⟩
   obtain ⟨ws,hws⟩ : ∃ ws,ws = spW y:=⟨_,rfl⟩
   have HRK:=fun W=>Lib.hid (rank_any y hyl W)
   have HRS : Hid (∀ W e w',RkPost y W e w' → e = .returned (.int .i64 k) ∧ Below W.heap.size W w'):=fun W e w' h=>by rw [hk];exact h
   have HSP:=fun W=>Lib.hid (split_any (ba y) (by rw [ba_size];omega) W)
   rw [ba_data] at HSP
   obtain ⟨wb,hwb⟩ : ∃ b,Hid (b = wordsB y):=⟨_,Lib.hid rfl⟩
   have HSS : Hid (∀ W e w',SplitPost y W e w' → ∃ a cap,e = .returned (.tuple #[.slice a ws.length cap,.bool wb]) ∧ RdW w' a cap ws ∧ Below W.heap.size W w'):=fun W e w' h=>by rw [hws,hwb.out];exact split_one h
   have HK:=Lib.hid hk
   have HW:=Lib.hid hws
   have HYD:=Lib.hid hyD
   clear hc hy hyD hk hws
   (have r0:=(HQ.out.sr).ob.cell 0 _ rfl;have r1:=(HQ.out.sr).ob.cell 1 _ rfl;have r2:=(HQ.out.sr).ob.cell 2 _ rfl;have r3:=(HQ.out.sr).ob.cell 3 _ rfl;have r4:=(HQ.out.sr).ob.cell 4 _ rfl;have r5:=(HQ.out.sr).ob.cell 5 _ rfl;have r6:=(HQ.out.sr).ob.cell 6 _ rfl;have r7:=(HQ.out.sr).ob.cell 7 _ rfl;have f1:=(HQ.out.sr).ob.free 1;have f2:=(HQ.out.sr).ob.free 2;have f3:=(HQ.out.sr).ob.free 3;have f4:=(HQ.out.sr).ob.free 4;have f5:=(HQ.out.sr).ob.free 5;have f6:=(HQ.out.sr).ob.free 6;have f7:=(HQ.out.sr).ob.free 7)
   go_wp2_with fail
   go_region
   (clear r0 r1 r2 r3 r4 r5 r6 r7 f1 f2 f3 f4 f5 f6 f7)
   all_goals
    have HD:=Lib.hid (HQ.out.sr.more (Below.refl _ _).drew)
    go_upto_region 3 with fail
    have HD:=Lib.hid (HD.out.more (Below.refl _ _).drew)
    go_region_held3 (fun W'=>W'.cell? ⟨rb,0,none⟩ = some (.slice (some ⟨g,o,none⟩) L.length Lc) ∧ W'.cell? ⟨rb,1,none⟩ = some (.int .i64 j) ∧ W'.cell? ⟨g,o + j,none⟩ = some (.string (ba y))) (first | exact ⟨HD.out.ob.cell 0 _ rfl,HD.out.ob.cell 1 _ rfl,HLC.out _ HD.out.bel⟩) (first | (go_at_call 22;refine ((HRK _).out).mono ?_;intro e W2 hp;obtain ⟨rfl,hb⟩:=HRS.out _ _ _ hp;have HD:=Lib.hid (HD.out.more hb);clear hp hb))
    go_upto_region 4 with fail
    have HD:=Lib.hid (HD.out.more (Below.refl _ _).drew)
    go_region_held3 (fun W'=>W'.cell? ⟨rb,0,none⟩ = some (.slice (some ⟨g,o,none⟩) L.length Lc) ∧ W'.cell? ⟨rb,1,none⟩ = some (.int .i64 j) ∧ W'.cell? ⟨g,o + j,none⟩ = some (.string (ba y))) (first | exact ⟨HD.out.ob.cell 0 _ rfl,HD.out.ob.cell 1 _ rfl,HLC.out _ HD.out.bel⟩) (first | (go_at_call 52;refine ((HSP _).out).mono ?_;intro e W3 hp;obtain ⟨sa,sc,rfl,hR,hb⟩:=HSS.out _ _ _ hp;have HRW:=Lib.hid hR;have HD:=Lib.hid (HD.out.more hb);clear hp hb hR))
    by_cases h0 : k < last
    ·have HST : Hid (stepS L j last (scOf v) = .inl (6,(j : Int) + 1)):=by rw [Hid,stepS,HYD.out,← HK.out,if_pos h0]
     go_wp2_with (go_at_call 56;refine (how_wrong HD.out k h0).mono ?_;rintro e Wh ⟨rfl,rfl⟩)
     refine (wrong_any HD.out (by omega) sa ws.length sc).mono ?_;rintro e W6 ⟨rfl,h6⟩
     have HF:=Lib.hid (HNB.out j last v _ (6,(j : Int) + 1) W6 hlt HQ.out HST.out ⟨j,v,h6⟩)
     clear h6
     go_wp2_with fail
     exact HF.out
    ·have hk3 : wordsB y = true ∧ (k = 0 ∨ k = 1 ∨ k = 2):=by
      rcases rankS_cases y with h | h
      ·rw [← HK.out] at h;have:=HQ.out.lo;omega
      ·rw [← HK.out] at h;exact h
     have hwf : ws = fieldsC 32 y:=by rw [HW.out,spW,hk3.1];rfl
     have hwl : ws.length ≤ 1000000:=by
      rw [hwf,fieldsC_len]
      have:=List.count_le_length (a:=(32 : UInt8)) (l:=y);omega
     have HWSM : Hid (∀ x ∈ ws,x.length ≤ 100000):=fun x hx=>by
      rw [hwf] at hx
      have:=(fieldsC_mem 32 y x hx).2;omega
     have b1:=HQ.out.l1
     have b2:=HQ.out.l2
     have b3:=HQ.out.l3
     have HWF:=Lib.hid hwf
     have HK3:=Lib.hid hk3.2
     clear hwf hk3
     rcases HK3.out with k0 | k0 | k0
     ·have HK0:=Lib.hid k0
      clear k0
      have HST : Hid (stepS L j last (scOf v) = imgR j v L):=(by rw [Hid,stepS,HYD.out,← HK.out,if_neg h0,if_pos HK0.out];rfl)
      have HTK:=Lib.hid (image_any HD.out hlt (by omega) (by omega) (by omega) HTT.out ws (by rw [HYD.out,HWF.out]) sa sc hwl)
      obtain ⟨r,hr⟩ : ∃ r,r = imgR j v L:=⟨_,rfl⟩
      rw [← hr] at HST HTK
      clear hr
      go_wp2_with (go_at_call 56;refine (how_image HD.out k h0 HK0.out).mono ?_;rintro e Wh ⟨rfl,rfl⟩)
      refine HTK.out.mono ?_;intro e W6 h6
      clear HTK
      cases r with
      | inl p=>
       obtain ⟨rfl,i2,v2,h2⟩:=h6
       have HF:=Lib.hid (HNB.out j last v _ p W6 hlt HQ.out HST.out ⟨i2,v2,h2⟩)
       clear h2
       go_wp2_with fail
       exact HF.out
      | inr p=>
       obtain ⟨rfl,v2,j2,hj2,hs2,h2⟩:=h6
       have hle2:=stepS_len HST.out
       rw [← hs2] at hle2
       have hrk:=stepS_rank HST.out (by rw [HYD.out,← HK.out];exact HK3.out)
       rw [HYD.out,← HK.out] at hrk
       have hnx:=stepS_next HST.out
       have hin:=stepS_in HST.out hlt
       have HFN : Hid (restS L (j2 + 1) k (scOf v2) = F):=by rw [Hid,← HQ.out.fin,restS_step hlt HST.out,hj2,hs2,hrk]
       have HQ7 : Hid (ReQ w rb (some ⟨g,o,none⟩) Lc L F (j2 + 1) k v2 ((W6.setCell ⟨rb,2,none⟩ (.int .i64 k)).setCell ⟨rb,1,none⟩ (.int .i64 ((j2 + 1 : Nat) : Int)))):=
        ⟨(h2.setLast k).setAt (j2 + 1),HFN.out,by have:=HQ.out.lo;have:=HK3.out;omega,by have:=hle2.1;simp only [scOf,List.length_map] at this;omega,by have:=hle2.2.1;simp only [scOf] at this;omega,by have:=hle2.2.2;simp only [scOf] at this;omega⟩
       have w2 : IntKind.i64.wrap ((j2 : Int) + 1) = (j2 : Int) + 1:=by rw [IntKind.wrap_i64];omega
       have HJ:=Lib.hid hnx
       have HJ2:=Lib.hid hj2
       (have r0:=(h2).ob.cell 0 _ rfl;have r1:=(h2).ob.cell 1 _ rfl;have r2:=(h2).ob.cell 2 _ rfl;have r3:=(h2).ob.cell 3 _ rfl;have r4:=(h2).ob.cell 4 _ rfl;have r5:=(h2).ob.cell 5 _ rfl;have r6:=(h2).ob.cell 6 _ rfl;have r7:=(h2).ob.cell 7 _ rfl;have f1:=(h2).ob.free 1;have f2:=(h2).ob.free 2;have f3:=(h2).ob.free 3;have f4:=(h2).ob.free 4;have f5:=(h2).ob.free 5;have f6:=(h2).ob.free 6;have f7:=(h2).ob.free 7)
       clear hle2 hrk hnx hj2 hs2 h2 hin
       go_wp2_with fail
       go_roundw
       case rel=>exact ⟨j2 + 1,k,v2,HQ7.out⟩
       case measure=>
        have e7:=atOf_sr HQ7.out.sr
        have:=HJ.out
        have:=HJ2.out
        rw [HAT.out]
        have e8 : ((j2 + 1 : Nat) : Int) = (j2 : Int) + 1:=by omega
        rw [e8] at e7
        rw [e7];omega
     ·have HK0:=Lib.hid k0
      clear k0
      have HST : Hid (stepS L j last (scOf v) = secS j v ws):=(by rw [Hid,stepS,HYD.out,← HK.out,if_neg h0,if_neg (by have:=HK0.out;omega),if_pos HK0.out,← HWF.out];rfl)
      have HTK:=Lib.hid (sector_any HD.out (by omega) (by omega) ws HWSM.out sa sc HRW.out)
      obtain ⟨r,hr⟩ : ∃ r,r = secS j v ws:=⟨_,rfl⟩
      rw [← hr] at HST HTK
      clear hr
      go_wp2_with (go_at_call 56;refine (how_sector HD.out k h0 HK0.out).mono ?_;rintro e Wh ⟨rfl,rfl⟩)
      refine HTK.out.mono ?_;intro e W6 h6
      clear HTK
      cases r with
      | inl p=>
       obtain ⟨rfl,i2,v2,h2⟩:=h6
       have HF:=Lib.hid (HNB.out j last v _ p W6 hlt HQ.out HST.out ⟨i2,v2,h2⟩)
       clear h2
       go_wp2_with fail
       exact HF.out
      | inr p=>
       obtain ⟨rfl,v2,j2,hj2,hs2,h2⟩:=h6
       have hle2:=stepS_len HST.out
       rw [← hs2] at hle2
       have hrk:=stepS_rank HST.out (by rw [HYD.out,← HK.out];exact HK3.out)
       rw [HYD.out,← HK.out] at hrk
       have hnx:=stepS_next HST.out
       have hin:=stepS_in HST.out hlt
       have HFN : Hid (restS L (j2 + 1) k (scOf v2) = F):=by rw [Hid,← HQ.out.fin,restS_step hlt HST.out,hj2,hs2,hrk]
       have HQ7 : Hid (ReQ w rb (some ⟨g,o,none⟩) Lc L F (j2 + 1) k v2 ((W6.setCell ⟨rb,2,none⟩ (.int .i64 k)).setCell ⟨rb,1,none⟩ (.int .i64 ((j2 + 1 : Nat) : Int)))):=
        ⟨(h2.setLast k).setAt (j2 + 1),HFN.out,by have:=HQ.out.lo;have:=HK3.out;omega,by have:=hle2.1;simp only [scOf,List.length_map] at this;omega,by have:=hle2.2.1;simp only [scOf] at this;omega,by have:=hle2.2.2;simp only [scOf] at this;omega⟩
       have w2 : IntKind.i64.wrap ((j2 : Int) + 1) = (j2 : Int) + 1:=by rw [IntKind.wrap_i64];omega
       have HJ:=Lib.hid hnx
       have HJ2:=Lib.hid hj2
       (have r0:=(h2).ob.cell 0 _ rfl;have r1:=(h2).ob.cell 1 _ rfl;have r2:=(h2).ob.cell 2 _ rfl;have r3:=(h2).ob.cell 3 _ rfl;have r4:=(h2).ob.cell 4 _ rfl;have r5:=(h2).ob.cell 5 _ rfl;have r6:=(h2).ob.cell 6 _ rfl;have r7:=(h2).ob.cell 7 _ rfl;have f1:=(h2).ob.free 1;have f2:=(h2).ob.free 2;have f3:=(h2).ob.free 3;have f4:=(h2).ob.free 4;have f5:=(h2).ob.free 5;have f6:=(h2).ob.free 6;have f7:=(h2).ob.free 7)
       clear hle2 hrk hnx hj2 hs2 h2 hin
       go_wp2_with fail
       go_roundw
       case rel=>exact ⟨j2 + 1,k,v2,HQ7.out⟩
       case measure=>
        have e7:=atOf_sr HQ7.out.sr
        have:=HJ.out
        have:=HJ2.out
        rw [HAT.out]
        have e8 : ((j2 + 1 : Nat) : Int) = (j2 : Int) + 1:=by omega
        rw [e8] at e7
        rw [e7];omega
     ·have HK0:=Lib.hid k0
      clear k0
      have HST : Hid (stepS L j last (scOf v) = inpS j v ws):=(by rw [Hid,stepS,HYD.out,← HK.out,if_neg h0,if_neg (by have:=HK0.out;omega),if_neg (by have:=HK0.out;omega),← HWF.out];rfl)
      have HTK:=Lib.hid (input_any HD.out (by omega) (by omega) ws HWSM.out hwl sa sc HRW.out)
      obtain ⟨r,hr⟩ : ∃ r,r = inpS j v ws:=⟨_,rfl⟩
      rw [← hr] at HST HTK
      clear hr
      go_wp2_with (go_at_call 56;refine (how_input HD.out k h0 HK0.out).mono ?_;rintro e Wh ⟨rfl,rfl⟩)
      refine HTK.out.mono ?_;intro e W6 h6
      clear HTK
      cases r with
      | inl p=>
       obtain ⟨rfl,i2,v2,h2⟩:=h6
       have HF:=Lib.hid (HNB.out j last v _ p W6 hlt HQ.out HST.out ⟨i2,v2,h2⟩)
       clear h2
       go_wp2_with fail
       exact HF.out
      | inr p=>
       obtain ⟨rfl,v2,j2,hj2,hs2,h2⟩:=h6
       have hle2:=stepS_len HST.out
       rw [← hs2] at hle2
       have hrk:=stepS_rank HST.out (by rw [HYD.out,← HK.out];exact HK3.out)
       rw [HYD.out,← HK.out] at hrk
       have hnx:=stepS_next HST.out
       have hin:=stepS_in HST.out hlt
       have HFN : Hid (restS L (j2 + 1) k (scOf v2) = F):=by rw [Hid,← HQ.out.fin,restS_step hlt HST.out,hj2,hs2,hrk]
       have HQ7 : Hid (ReQ w rb (some ⟨g,o,none⟩) Lc L F (j2 + 1) k v2 ((W6.setCell ⟨rb,2,none⟩ (.int .i64 k)).setCell ⟨rb,1,none⟩ (.int .i64 ((j2 + 1 : Nat) : Int)))):=
        ⟨(h2.setLast k).setAt (j2 + 1),HFN.out,by have:=HQ.out.lo;have:=HK3.out;omega,by have:=hle2.1;simp only [scOf,List.length_map] at this;omega,by have:=hle2.2.1;simp only [scOf] at this;omega,by have:=hle2.2.2;simp only [scOf] at this;omega⟩
       have w2 : IntKind.i64.wrap ((j2 : Int) + 1) = (j2 : Int) + 1:=by rw [IntKind.wrap_i64];omega
       have HJ:=Lib.hid hnx
       have HJ2:=Lib.hid hj2
       (have r0:=(h2).ob.cell 0 _ rfl;have r1:=(h2).ob.cell 1 _ rfl;have r2:=(h2).ob.cell 2 _ rfl;have r3:=(h2).ob.cell 3 _ rfl;have r4:=(h2).ob.cell 4 _ rfl;have r5:=(h2).ob.cell 5 _ rfl;have r6:=(h2).ob.cell 6 _ rfl;have r7:=(h2).ob.cell 7 _ rfl;have f1:=(h2).ob.free 1;have f2:=(h2).ob.free 2;have f3:=(h2).ob.free 3;have f4:=(h2).ob.free 4;have f5:=(h2).ob.free 5;have f6:=(h2).ob.free 6;have f7:=(h2).ob.free 7)
       clear hle2 hrk hnx hj2 hs2 h2 hin
       go_wp2_with fail
       go_roundw
       case rel=>exact ⟨j2 + 1,k,v2,HQ7.out⟩
       case measure=>
        have e7:=atOf_sr HQ7.out.sr
        have:=HJ.out
        have:=HJ2.out
        rw [HAT.out]
        have e8 : ((j2 + 1 : Nat) : Int) = (j2 : Int) + 1:=by omega
        rw [e8] at e7
        rw [e7];omega
  ·have d1 : decide ((j : Int) < (L.length : Int)) = false:=decide_eq_false (by omega)
   have d1' : decide (j < L.length) = false:=decide_eq_false hlt
   have HQD : Hid (ReQ w rb La Lc L F j last v wr.drew):=⟨HQ.out.sr.more (Below.refl _ _).drew,HQ.out.fin,HQ.out.lo,HQ.out.l1,HQ.out.l2,HQ.out.l3⟩
   have HF:=Lib.hid (HY.out j last v wr.drew (by omega) HQD.out)
   (have r0:=(HQ.out.sr).ob.cell 0 _ rfl;have r1:=(HQ.out.sr).ob.cell 1 _ rfl;have r2:=(HQ.out.sr).ob.cell 2 _ rfl;have r3:=(HQ.out.sr).ob.cell 3 _ rfl;have r4:=(HQ.out.sr).ob.cell 4 _ rfl;have r5:=(HQ.out.sr).ob.cell 5 _ rfl;have r6:=(HQ.out.sr).ob.cell 6 _ rfl;have r7:=(HQ.out.sr).ob.cell 7 _ rfl;have f1:=(HQ.out.sr).ob.free 1;have f2:=(HQ.out.sr).ob.free 2;have f3:=(HQ.out.sr).ob.free 3;have f4:=(HQ.out.sr).ob.free 4;have f5:=(HQ.out.sr).ob.free 5;have f6:=(HQ.out.sr).ob.free 6;have f7:=(HQ.out.sr).ob.free 7)
   go_wp2_with fail
   go_region
   all_goals
    go_wp2_with fail
    exact HF.out
end Go.Proofs.YtoklonmiejdgmaaGreatDoor
/- The walk of PlanWords. -/
namespace Go.Proofs.YtoklonmiejdgmaaGreatDoor
set_option linter.unusedVariables false
set_option linter.unusedSimpArgs false
set_option linter.unnecessarySimpa false
open Go.RowKit Go.Sort
set_option maxHeartbeats 2000000
set_option maxRecDepth 100000
set_option linter.unusedVariables false
def lnsL (s : List UInt8) : List (List UInt8):=if lsB s then lsL s else []
end Go.Proofs.YtoklonmiejdgmaaGreatDoor
/- Package script: Parse. -/
namespace Go.Proofs.YtoklonmiejdgmaaGreatDoor
set_option linter.unusedVariables false
set_option linter.unusedSimpArgs false
set_option linter.unnecessarySimpa false
open Go.RowKit Go.Sort
set_option maxHeartbeats 4000000
set_option maxRecDepth 100000
set_option linter.unusedVariables false
/-- A script that may be read. -/
structure ScOk (W : World) (v : Sv) : Prop where
 im : Rd W 1 v.ia v.im.length (imC v.im)
 iml : v.im.length ≤ v.ic
 imx : v.ic ≤ maxLen
 row : ∀ x ∈ v.im,Rd W 1 x.a x.l.length (As.uC x.l) ∧ x.l.length ≤ x.cap ∧ x.cap ≤ maxLen
 se : Rd W 2 v.sa v.se.length (seC v.se)
 sel : v.se.length ≤ v.sc
 sex : v.sc ≤ maxLen
 inp : Rd W 5 v.na v.inp.length (inC v.inp)
 inl : v.inp.length ≤ v.nc
 inx : v.nc ≤ maxLen
theorem ScOk.below {W W' : World} {v : Sv} (h : ScOk W v) (hb : Below W.heap.size W W') : ScOk W' v:=⟨h.im.below hb,h.iml,h.imx,fun x hx=>⟨(h.row x hx).1.below hb,(h.row x hx).2⟩,h.se.below hb,h.sel,h.sex,h.inp.below hb,h.inl,h.inx⟩
def SpPost (s : List UInt8) (w : World) (e : Ending) (w' : World) : Prop:=
 ∃ (c : Cv) (v : Sv),e = .returned (.tuple #[(.agg #[.int .i64 c.cats,.slice c.g.a c.g.l.length c.g.cap,.slice c.r.a c.r.l.length c.r.cap,.slice c.p.a c.p.l.length c.p.cap,.slice c.n.a c.n.l.length c.n.cap,.slice c.s.a c.s.l.length c.s.cap,.int .i64 c.gate,.int .i64 c.quota]),(.agg #[.slice v.ia v.im.length v.ic,.slice v.sa v.se.length v.sc,.slice v.na v.inp.length v.nc]),.int .i64 (scV s).2.2.1,.int .i64 (scV s).2.2.2]) ∧ CfgOk w' c ∧ ScOk w' v ∧ pcOf c = (scV s).1 ∧ scOf v = (scV s).2.1 ∧ Below w.heap.size w w'
theorem rd_none (W : World) (n : Nat) : Rd W n none 0 []:=⟨by simp,fun _=>rfl,fun p hp=>by cases hp⟩
theorem sv0_ok (W : World) : ScOk W sv0:=⟨rd_none W 1,Nat.le_refl _,Nat.zero_le _,(fun x hx=>by cases hx),rd_none W 2,Nat.le_refl _,Nat.zero_le _,rd_none W 5,Nat.le_refl _,Nat.zero_le _⟩
theorem sp_zero {s : List UInt8} {w w' : World} {e at_ : Int} (h : scV s = (pcZ,sc0,e,at_)) (hb : Below w.heap.size w w') : SpPost s w (.returned (.tuple #[.agg #[.int .i64 0,.slice none 0 0,.slice none 0 0,.slice none 0 0,.slice none 0 0,.slice none 0 0,.int .i64 0,.int .i64 0],.agg #[.slice none 0 0,.slice none 0 0,.slice none 0 0],.int .i64 e,.int .i64 at_])) w':=
 ⟨cvZ,sv0,by rw [h];rfl,cvZ_ok w',sv0_ok w',by rw [h];rfl,by rw [h];rfl,hb⟩
theorem sp_good {s : List UInt8} {w w' : World} {c : Cv} {v : Sv} (h : scV s = (pcOf c,scOf v,0,0)) (hc : CfgOk w' c) (hv : ScOk w' v) (hb : Below w.heap.size w w') : SpPost s w (.returned (.tuple #[(.agg #[.int .i64 c.cats,.slice c.g.a c.g.l.length c.g.cap,.slice c.r.a c.r.l.length c.r.cap,.slice c.p.a c.p.l.length c.p.cap,.slice c.n.a c.n.l.length c.n.cap,.slice c.s.a c.s.l.length c.s.cap,.int .i64 c.gate,.int .i64 c.quota]),(.agg #[.slice v.ia v.im.length v.ic,.slice v.sa v.se.length v.sc,.slice v.na v.inp.length v.nc]),.int .i64 0,.int .i64 0])) w':=
 ⟨c,v,by rw [h],hc,hv,by rw [h],by rw [h],hb⟩
theorem fromS_eq {L : List (List UInt8)} : ∀ {k : Nat},(∀ m,m < k → rankS (L.getD m []) = -1) → k ≤ L.length → (k = L.length ∨ rankS (L.getD k []) ≠ -1) → fromS L = k:=by
 unfold fromS
 induction L with
 | nil=>intro k _ h _;simp at h;subst h;rfl
 | cons x r ih=>
  intro k hl hk he
  cases k with
  | zero=>
   rcases he with he | he
   ·simp at he
   ·rw [List.takeWhile_cons,if_neg (by simpa using he)];rfl
  | succ k=>
   have h0:=hl 0 (by omega)
   have he2 : k = r.length ∨ rankS (r.getD k []) ≠ -1:=by
    rcases he with he | he
    ·left;simp at he;omega
    ·right;simpa using he
   rw [List.takeWhile_cons,if_pos (by simpa using h0),List.length_cons,ih (k:=k) (fun m hm=>by have:=hl (m + 1) (by omega);simpa using this) (by simp at hk;omega) he2]
theorem sr_start {W : World} {La : Option Addr} {Lc : Nat} {L : List (List UInt8)} (h : RdW W La Lc L) (i : Nat) :
  SR W W.heap.size La Lc L i 0 sv0 0 0 (W.alloc (.cells #[.slice La L.length Lc,.int .i64 i,.int .i64 0,.slice none 0 0,.slice none 0 0,.slice none 0 0,.int .i64 0,.int .i64 0] 64)):=
 ⟨(Below.refl _ _).alloc (Nat.le_refl _) _,Nat.le_refl _,ObjAt.new W _ [.slice La L.length Lc,.int .i64 i,.int .i64 0,.slice none 0 0,.slice none 0 0,.slice none 0 0,.int .i64 0,.int .i64 0],h,Own.nil _ _ _ _,(fun x hx=>by cases hx),Own.nil _ _ _ _,Own.nil _ _ _ _⟩
/-- The reader's script stays, where two boxes of results turn. -/
theorem SR.other {w W W' W'' : World} {rb b1 b2 : Nat} {La : Option Addr} {Lc : Nat} {L : List (List UInt8)} {i : Nat} {last : Int} {v : Sv} {e bad : Int} {cs1 cs2 : List Value} (h : SR w rb La Lc L i last v e bad W) (ho : ObjAt W b1 29 cs1) (ho2 : ObjAt W b2 34 cs2) (hu : Upd b1 W W') (hu2 : Upd b2 W' W'') : ScOk W'' v:=
 have i1:=(h.im.upd hu (h.im.ne ho (by decide))).upd hu2 (h.im.ne ho2 (by decide))
 have s1:=(h.se.upd hu (h.se.ne ho (by decide))).upd hu2 (h.se.ne ho2 (by decide))
 have n1:=(h.inp.upd hu (h.inp.ne ho (by decide))).upd hu2 (h.inp.ne ho2 (by decide))
 ⟨i1.rd,i1.le,i1.capMax,fun x hx=>
  have r1:=((h.row x hx).upd hu ((h.row x hx).ne ho (by decide))).upd hu2 ((h.row x hx).ne ho2 (by decide))
  ⟨r1.rd,r1.le,r1.capMax⟩,s1.rd,s1.le,s1.capMax,n1.rd,n1.le,n1.capMax⟩
theorem cfg_other {W W' W'' : World} {b1 b2 B : Nat} {c : Cv} (h : CfgOk W c) (hn : NewC B c) (h1 : b1 < B) (h2 : b2 < B) (hu : Upd b1 W W') (hu2 : Upd b2 W' W'') : CfgOk W'' c:=by
 have hne : ∀ s ∈ [c.g.a,c.r.a,c.p.a,c.n.a,c.s.a],b1 ∉ blk s ∧ b2 ∉ blk s:=fun s hs=>⟨fun hk=>by have:=hn s hs _ hk;omega,fun hk=>by have:=hn s hs _ hk;omega⟩
 have n1:=hne c.g.a (by simp)
 have n2:=hne c.r.a (by simp)
 have n3:=hne c.p.a (by simp)
 have n4:=hne c.n.a (by simp)
 have n5:=hne c.s.a (by simp)
 exact ⟨⟨(h.g.rd.upd hu n1.1).upd hu2 n1.2,h.g.le,h.g.cap,h.g.len⟩,⟨(h.r.rd.upd hu n2.1).upd hu2 n2.2,h.r.le,h.r.cap,h.r.len⟩,⟨(h.p.rd.upd hu n3.1).upd hu2 n3.2,h.p.le,h.p.cap,h.p.len⟩,⟨(h.n.rd.upd hu n4.1).upd hu2 n4.2,h.n.le,h.n.cap,h.n.len⟩,⟨(h.s.rd.upd hu n5.1).upd hu2 n5.2,h.s.le,h.s.cap,h.s.len⟩⟩
theorem lnsL_len (t : List UInt8) : (lnsL t).length ≤ t.length + 1:=by
 unfold lnsL lsL
 have:=fieldsC_len 10 t
 have:=List.count_le_length (a:=(10 : UInt8)) (l:=t)
 split
 ·rw [List.length_dropLast];omega
 ·exact Nat.zero_le _
theorem joinC_end : ∀ L : List (List UInt8),joinC 10 (L ++ [[]]) = joinT L
 | []=>rfl
 | x :: r=>by
  have:=joinC_end r
  cases r with
  | nil=>simp [joinC,joinT]
  | cons y r=>rw [List.cons_append,List.cons_append,joinC,← List.cons_append,this];simp [joinT]
theorem lns_form {t : List UInt8} (h : lsB t = true) : fieldsC 10 t = lsL t ++ [[]]:=by
 unfold lsB at h
 obtain ⟨D,hD⟩:=List.getLast?_eq_some_iff.1 (of_decide_eq_true h)
 unfold lsL
 rw [hD,List.dropLast_concat]
theorem lns_join {t : List UInt8} (h : lsB t = true) : joinT (lsL t) = t:=by
 rw [← joinC_end,← lns_form h];exact join_fields 10 t
theorem lsL_row {t : List UInt8} : ∀ x ∈ lsL t,x.length ≤ t.length:=fun x hx=>(fieldsC_mem 10 t x (List.dropLast_subset _ hx)).2
theorem scV_long {t : List UInt8} (h : 16384 < t.length) : scV t = (pcZ,sc0,10,0):=by unfold scV;rw [if_pos h]
theorem scV_open {t : List UInt8} (h : ¬ 16384 < t.length) (hl : lsB t = false) : scV t = (pcZ,sc0,6,(t.count 10 : Int) + 1):=by unfold scV;rw [if_neg h,hl];rfl
theorem scV_lines {t : List UInt8} (h : ¬ 16384 < t.length) (hl : lsB t = true) : scV t = scR (lsL t):=by unfold scV;rw [if_neg h,hl];rfl
theorem rd_take {W : World} {a : Option Addr} {cap : Nat} {L : List (List UInt8)} (h : RdW W a cap L) (k : Nat) (hk : k ≤ L.length) : RdW W a cap (L.take k):=by
 have hlen : (L.take k).length = k:=by rw [List.length_take];omega
 refine ⟨⟨by rw [strC_len,Nat.mul_one],(fun h0=>by have:=h.rd.2.1 h0;omega),fun p hp hne=>?_⟩,by rw [hlen];have:=h.le;omega,h.mx⟩
 have hpos : 0 < k:=by
  rcases Nat.eq_zero_or_pos k with h0 | h0
  ·exfalso;apply hne;subst h0;rfl
  ·exact h0
 obtain ⟨g,o,he,hg,hc⟩:=h.at_ 0 (by omega)
 rw [he] at hp
 injection hp with hp
 refine ⟨g,o,hp.symm,hg,fun j u hu=>?_⟩
 have hj : j < k:=by have:=(List.getElem?_eq_some_iff.1 hu).1;rw [strC_len,hlen] at this;exact this
 rw [strC_get _ j (by rw [hlen];exact hj),List.getElem_take] at hu
 rw [← hu]
 exact hc j (by omega)
theorem sparse_any (s : ByteArray) (hs : s.size ≤ maxLen) (w : World) (hT : WdTab w) (hI : Isa.Tab w) : Calls Tryz.prog 8 #[.string s] w (SpPost s.data.toList w):=by
 obtain ⟨l,hl⟩ : ∃ l,l = s.data.toList:=⟨_,rfl⟩
 have hsl : l.length = s.size:=by rw [hl,ba_len]
 rw [← hl]
 obtain ⟨w0,hw0⟩ : ∃ w0,w0 = w.alloc (.cells #[.int .i64 0,.slice none 0 0,.slice none 0 0,.slice none 0 0,.slice none 0 0,.slice none 0 0,.int .i64 0,.int .i64 0] 29):=⟨_,rfl⟩
 obtain ⟨w1,hw1⟩ : ∃ w1,w1 = w0.alloc (.cells #[.slice none 0 0,.slice none 0 0,.slice none 0 0] 34):=⟨_,rfl⟩
 have HO0 : Hid (ObjAt w1 w.heap.size 29 #[.int .i64 0,.slice none 0 0,.slice none 0 0,.slice none 0 0,.slice none 0 0,.slice none 0 0,.int .i64 0,.int .i64 0].toList):=by rw [hw1];exact ObjAt.below (by rw [hw0];exact ObjAt.new w _ _) ((Below.refl _ _).alloc (Nat.le_refl _) _)
 have hz : w0.heap.size = w.heap.size + 1:=by rw [hw0];simp
 have HO1 : Hid (ObjAt w1 (w.heap.size + 1) 34 #[.slice none 0 0,.slice none 0 0,.slice none 0 0].toList):=by rw [← hz,hw1];exact ObjAt.new w0 _ _
 have HB1 : Hid (Below w.heap.size w w1):=by rw [hw1,hw0];exact ((Below.refl _ _).alloc (Nat.le_refl _) _).alloc (by simp) _
 have HW0:=Lib.hid hw0
 have HW1:=Lib.hid hw1
 have HZ0:=Lib.hid hz
 obtain ⟨P,hP⟩ : ∃ P,P = SpPost l w:=⟨_,rfl⟩
 have HZ : Hid (∀ e at_ w',scV l = (pcZ,sc0,e,at_) → Below w.heap.size w w' → P (.returned (.tuple #[.agg #[.int .i64 0,.slice none 0 0,.slice none 0 0,.slice none 0 0,.slice none 0 0,.slice none 0 0,.int .i64 0,.int .i64 0],.agg #[.slice none 0 0,.slice none 0 0,.slice none 0 0],.int .i64 e,.int .i64 at_])) w'):=fun e at_ w' h hb=>by rw [hP];exact sp_zero h hb
 have HG : Hid (∀ c v w',scV l = (pcOf c,scOf v,0,0) → CfgOk w' c → ScOk w' v → Below w.heap.size w w' → P (.returned (.tuple #[(.agg #[.int .i64 c.cats,.slice c.g.a c.g.l.length c.g.cap,.slice c.r.a c.r.l.length c.r.cap,.slice c.p.a c.p.l.length c.p.cap,.slice c.n.a c.n.l.length c.n.cap,.slice c.s.a c.s.l.length c.s.cap,.int .i64 c.gate,.int .i64 c.quota]),(.agg #[.slice v.ia v.im.length v.ic,.slice v.sa v.se.length v.sc,.slice v.na v.inp.length v.nc]),.int .i64 0,.int .i64 0])) w'):=fun c v w' h hc hn hb=>by rw [hP];exact sp_good h hc hn hb
 rw [← hP]
 clear hP hw0 hw1 hz
 unfold maxLen at hs
 by_cases h16 : 16384 < s.size
 ·have d1 : decide ((s.size : Int) > 16384) = true:=decide_eq_true (by omega)
  have d1' : decide (16384 < s.size) = true:=decide_eq_true h16
  have HZ:=fun w' h=>Lib.hid (HZ.out 10 0 w' (scV_long (by omega)) h)
  clear h16 hl hsl hT hI HG
  go_enter Tryz.func8,Tryz.ntmps8
  go_upto_region 1 with fail
  rw [← HW0.out,← HW1.out]
  have hO0:=HO0.out
  have hO1:=HO1.out
  have s6:=hO0.lt
  have s7:=hO1.lt
  have a0:=(hO0).cell 0 _ rfl;have a1:=(hO0).cell 1 _ rfl;have a2:=(hO0).cell 2 _ rfl;have a3:=(hO0).cell 3 _ rfl;have a4:=(hO0).cell 4 _ rfl;have a5:=(hO0).cell 5 _ rfl;have a6:=(hO0).cell 6 _ rfl;have a7:=(hO0).cell 7 _ rfl;have g0:=(hO0).free 0;have g1:=(hO0).free 1;have g2:=(hO0).free 2;have g3:=(hO0).free 3;have g4:=(hO0).free 4;have g5:=(hO0).free 5;have g6:=(hO0).free 6;have g7:=(hO0).free 7
  have b0:=(hO1).cell 0 _ rfl;have b1:=(hO1).cell 1 _ rfl;have b2:=(hO1).cell 2 _ rfl;have p0:=(hO1).free 0;have p1:=(hO1).free 1;have p2:=(hO1).free 2
  clear hO0 hO1
  go_wp2_with fail
  (refine bodyPost_ret (v:=.tuple #[.agg #[.int .i64 0,.slice none 0 0,.slice none 0 0,.slice none 0 0,.slice none 0 0,.slice none 0 0,.int .i64 0,.int .i64 0],.agg #[.slice none 0 0,.slice none 0 0,.slice none 0 0],.int .i64 10,.int .i64 0]) (by simp [results,Tryz.results8,go_sem,a0,a1,a2,a3,a4,a5,a6,a7,b0,b1,b2,s6,s7]) rfl ?_)
  exact (HZ _ (((((((((((HB1.out.setCell (Nat.le_refl _) _).setCell (Nat.le_refl _) _).setCell (Nat.le_refl _) _).setCell (Nat.le_refl _) _).setCell (Nat.le_refl _) _).setCell (Nat.le_refl _) _).setCell (Nat.le_refl _) _).setCell (Nat.le_refl _) _).setCell (Nat.le_succ _) _).setCell (Nat.le_succ _) _).setCell (Nat.le_succ _) _)).out
 ·have d1 : decide ((s.size : Int) > 16384) = false:=decide_eq_false (by omega)
  have d1' : decide (16384 < s.size) = false:=decide_eq_false h16
  have HLN:=Lib.hid (lines_any s (by omega) w1)
  rw [← hl] at HLN
  have HT1:=Lib.hid (hT.below HB1.out)
  have HI1:=Lib.hid (hI.below HB1.out)
  cases hb : lsB l
  ·have HZ:=fun w' h=>Lib.hid (HZ.out 6 ((l.count 10 : Int) + 1) w' (scV_open (by omega) hb) h)
   have HLS : Hid (∀ e w',LsPost l w1 e w' → e = .returned (.tuple #[.slice none 0 0,.bool false]) ∧ Below w1.heap.size w1 w'):=fun e w' h=>⟨h.2.1 hb,h.2.2⟩
   have HC : Hid (∀ W,Calls Tryz.prog 21 #[.string s,.string ⟨#[10]⟩] W fun e w'=>e = .returned (.int .i64 (l.count 10 : Nat)) ∧ w' = W):=fun W=>by
    have:=count1 s 10 W
    rw [show Lib.countB s ⟨#[10]⟩ = l.count 10 from by rw [hl];exact Lib.count_one 10 _] at this
    exact this
   have hcl : l.count 10 ≤ l.length:=List.count_le_length
   have w5 : IntKind.i64.wrap ((l.count 10 : Int) + 1) = (l.count 10 : Int) + 1:=by rw [IntKind.wrap_i64];omega
   clear h16 hl hsl hT hI HG hb hcl
   go_enter Tryz.func8,Tryz.ntmps8
   go_upto_region 1 with fail
   rw [← HW0.out,← HW1.out]
   go_wp2_with fail
   refine HLN.out.mono ?_;intro e w2 h2
   obtain ⟨rfl,hb2⟩:=HLS.out _ _ h2
   have HB2:=Lib.hid hb2
   clear h2 hb2
   go_wp2_with fail
   refine (HC.out _).mono ?_;rintro e w3 ⟨rfl,rfl⟩
   have hO0:=HO0.out.below HB2.out
   have hO1:=HO1.out.below HB2.out
   have s6:=hO0.lt
   have s7:=hO1.lt
   have a0:=(hO0).cell 0 _ rfl;have a1:=(hO0).cell 1 _ rfl;have a2:=(hO0).cell 2 _ rfl;have a3:=(hO0).cell 3 _ rfl;have a4:=(hO0).cell 4 _ rfl;have a5:=(hO0).cell 5 _ rfl;have a6:=(hO0).cell 6 _ rfl;have a7:=(hO0).cell 7 _ rfl;have g0:=(hO0).free 0;have g1:=(hO0).free 1;have g2:=(hO0).free 2;have g3:=(hO0).free 3;have g4:=(hO0).free 4;have g5:=(hO0).free 5;have g6:=(hO0).free 6;have g7:=(hO0).free 7
   have b0:=(hO1).cell 0 _ rfl;have b1:=(hO1).cell 1 _ rfl;have b2:=(hO1).cell 2 _ rfl;have p0:=(hO1).free 0;have p1:=(hO1).free 1;have p2:=(hO1).free 2
   clear hO0 hO1
   go_wp2_with fail
   (refine bodyPost_ret (v:=.tuple #[.agg #[.int .i64 0,.slice none 0 0,.slice none 0 0,.slice none 0 0,.slice none 0 0,.slice none 0 0,.int .i64 0,.int .i64 0],.agg #[.slice none 0 0,.slice none 0 0,.slice none 0 0],.int .i64 6,.int .i64 ((l.count 10 : Int) + 1)]) (by simp [results,Tryz.results8,go_sem,a0,a1,a2,a3,a4,a5,a6,a7,b0,b1,b2,s6,s7]) rfl ?_)
   exact (HZ _ ((((((((((((bmore HB1.out HB2.out).setCell (Nat.le_refl _) _).setCell (Nat.le_refl _) _).setCell (Nat.le_refl _) _).setCell (Nat.le_refl _) _).setCell (Nat.le_refl _) _).setCell (Nat.le_refl _) _).setCell (Nat.le_refl _) _).setCell (Nat.le_refl _) _).setCell (Nat.le_succ _) _).setCell (Nat.le_succ _) _).setCell (Nat.le_succ _) _)).out
  ·obtain ⟨L,hL⟩ : ∃ L,L = lsL l:=⟨_,rfl⟩
   have HLS : Hid (∀ e w',LsPost l w1 e w' → ∃ a cap,e = .returned (.tuple #[.slice a L.length cap,.bool true]) ∧ RdW w' a cap L ∧ Below w1.heap.size w1 w'):=fun e w' h=>by
    obtain ⟨a,cap,h1,h2⟩:=h.1 hb
    rw [hL];exact ⟨a,cap,h1,h2,h.2.2⟩
   have HSC : Hid (scV l = scR L):=by rw [hL];exact scV_lines (by omega) hb
   have hjl : (joinT L).length ≤ 16384:=by rw [hL,lns_join hb];omega
   have HSM : Hid (∀ x ∈ L,x.length ≤ 16384):=fun x hx=>by rw [hL] at hx;have:=lsL_row x hx;omega
   have hll : L.length ≤ 16385:=by
    have h1:=lnsL_len l
    unfold lnsL at h1
    rw [hb,if_pos rfl,← hL] at h1;omega
   clear h16 hl hb hT hI hL
   go_enter Tryz.func8,Tryz.ntmps8
   go_upto_region 1 with fail
   rw [← HW0.out,← HW1.out]
   go_upto_region 3 with fail
   go_wp2_with fail
   refine HLN.out.mono ?_;intro e w2 h2
   obtain ⟨La,Lc,rfl,hr2,hb2⟩:=HLS.out _ _ h2
   have HB2:=Lib.hid (bmore HB1.out hb2)
   have HB2':=Lib.hid hb2
   have HR2:=Lib.hid hr2
   have hle:=hr2.le
   have hmx:=hr2.mx
   unfold maxLen at hmx
   have HO0:=Lib.hid (HO0.out.below hb2)
   have HO1:=Lib.hid (HO1.out.below hb2)
   have HT2:=Lib.hid (HT1.out.below hb2)
   have HI2:=Lib.hid (HI1.out.below hb2)
   clear h2 hb2 hr2 HLN HLS HT1 HI1
   go_upto_region 7 with fail
   go_loopw [8] (fun x wr=>∃ k : Nat,k ≤ L.length ∧ x = .int .i64 k ∧ (∀ m,m < k → rankS (L.getD m []) = -1) ∧ Below w2.heap.size w2 wr) (fun x _=>L.length - (intOf x).toNat)
   case atStart=>exact ⟨0,by omega,rfl,(fun m h=>by omega),Below.refl _ _⟩
   case round=>
    obtain ⟨k,hk,rfl,hn,hbe⟩:=hrel
    have HNO:=Lib.hid hn
    have HBE:=Lib.hid hbe
    clear hn hbe
    have wk : IntKind.i64.wrap ((k : Int) + 1) = (k : Int) + 1:=by rw [IntKind.wrap_i64];omega
    by_cases hgo : k < L.length ∧ rankS (L.getD k []) = -1
    ·obtain ⟨hlt,hrk⟩:=hgo
     obtain ⟨g,o,rfl,hg,hc⟩:=HR2.out.at_ k hlt
     have hcr : wr.cell? ⟨g,o + k,none⟩ = some (.string (ba L[k])):=by rw [HBE.out.cell (p:=⟨g,o + k,none⟩) hg];exact hc k hlt
     obtain ⟨x,hx⟩ : ∃ x,x = L[k]:=⟨_,rfl⟩
     rw [← hx] at hcr
     have hxd : L.getD k [] = x:=by rw [List.getD_eq_getElem?_getD,List.getElem?_eq_getElem hlt,hx];rfl
     have HN2 : Hid (∀ m,m < k + 1 → rankS (L.getD m []) = -1):=fun m h2=>by
      by_cases e : m = k
      ·subst e;exact hrk
      ·exact HNO.out m (by omega)
     have d2 : decide ((k : Int) < (L.length : Int)) = true:=decide_eq_true (by omega)
     have d2' : decide (k < L.length) = true:=decide_eq_true hlt
     have HRK:=fun W=>Lib.hid (rank_any x (by rw [hx];have:=HSM.out _ (List.getElem_mem hlt);omega) W)
     have HRS : Hid (∀ W e w',RkPost x W e w' → e = .returned (.int .i64 (-1)) ∧ Below W.heap.size W w'):=fun W e w' h=>by rw [← hrk,hxd];exact h
     clear hc hx hxd hrk
     go_wp2_with (go_at_call 22;refine ((HRK _).out).mono ?_;intro e W2 hp;obtain ⟨rfl,hb⟩:=HRS.out _ _ _ hp;have HB3:=Lib.hid (bmore HBE.out hb);clear hp hb)
     go_roundw
     case rel=>exact ⟨k + 1,by omega,by go_num,HN2.out,HB3.out⟩
     case measure=>simp [intOf];omega
    ·have HFR : Hid (fromS L = k):=fromS_eq HNO.out hk (by omega)
     obtain ⟨tx,htx⟩ : ∃ tx,tx = joinT (L.take k):=⟨_,rfl⟩
     have htl : tx.length ≤ 16384:=by rw [htx];have:=joinT_take L k;omega
     have hkl : (L.take k).length = k:=by rw [List.length_take];omega
     have HTX : Hid (∀ W',Below w2.heap.size w2 W' → Calls Tryz.prog 24 #[.slice La k Lc] W' fun e w'=>e = .returned (.string (ba tx)) ∧ Below W'.heap.size W' w'):=fun W' hb=>by
      have:=text_any La Lc (L.take k) W' ((rd_take HR2.out k hk).below hb) (by rw [← htx];omega) (by omega)
      rw [hkl,← htx] at this;exact this
     have HPP : Hid (∀ W',Below w2.heap.size w2 W' → Calls Tryz.prog 23 #[.string (ba tx)] W' (PsPostN tx W')):=fun W' hb=>by
      have:=pparse_new (ba tx) (by rw [ba_size];unfold maxLen;omega) W' (HT2.out.below hb)
      rw [ba_data] at this;exact this
     obtain ⟨pe,hpe⟩ : ∃ x,Hid (x = (psV tx).2.1):=⟨_,Lib.hid rfl⟩
     obtain ⟨pa,hpa⟩ : ∃ x,Hid (x = (psV tx).2.2):=⟨_,Lib.hid rfl⟩
     obtain ⟨pc,hpc⟩ : ∃ x,Hid (x = (psV tx).1):=⟨_,Lib.hid rfl⟩
     have HPS : Hid (∀ W' e w',PsPostN tx W' e w' → ∃ c : Cv,NewC W'.heap.size c ∧ e = .returned (.tuple #[(.agg #[.int .i64 c.cats,.slice c.g.a c.g.l.length c.g.cap,.slice c.r.a c.r.l.length c.r.cap,.slice c.p.a c.p.l.length c.p.cap,.slice c.n.a c.n.l.length c.n.cap,.slice c.s.a c.s.l.length c.s.cap,.int .i64 c.gate,.int .i64 c.quota]),.int .i64 pe,.int .i64 pa]) ∧ CfgOk w' c ∧ pcOf c = pc ∧ Below W'.heap.size W' w'):=fun W' e w' h=>by rw [hpe.out,hpa.out,hpc.out];exact h
     have HSR : Hid (scV l = if pe ≠ 0 then (pcZ,sc0,pe,pa) else if (restS L k 0 sc0).2.1 ≠ 0 then (pcZ,sc0,(restS L k 0 sc0).2.1,(restS L k 0 sc0).2.2) else (pc,(restS L k 0 sc0).1,0,0)):=by
      rw [Hid,HSC.out,scR,HFR.out,← htx,runS_rest,← hpe.out,← hpa.out,← hpc.out]
     obtain ⟨F,hF⟩ : ∃ F,F = restS L k 0 sc0:=⟨_,rfl⟩
     rw [← hF] at HSR
     have HF:=Lib.hid hF
     have hkc : k ≤ Lc:=by omega
     have k1 : (k : Int) ≤ (Lc : Int):=by omega
     have HPA : Hid (∀ W6,Below w2.heap.size w2 W6 → Calls Tryz.prog 25 #[.pointer (some ⟨W6.heap.size,0,none⟩)] (W6.alloc (.cells #[.slice La L.length Lc,.int .i64 k,.int .i64 0,.slice none 0 0,.slice none 0 0,.slice none 0 0,.int .i64 0,.int .i64 0] 64)) (RePost W6 W6.heap.size La Lc L F)):=fun W6 hb=>by
      rw [hF]
      exact read_any (sr_start (HR2.out.below hb) k) (by omega) (by omega) (fun x hx=>by have:=HSM.out x hx;omega) (HI2.out.below hb)
     clear hF htx htl hkl
     by_cases hlt : k < L.length
     ·obtain ⟨g,o,rfl,hg,hc⟩:=HR2.out.at_ k hlt
      have hcr : wr.cell? ⟨g,o + k,none⟩ = some (.string (ba L[k])):=by rw [HBE.out.cell (p:=⟨g,o + k,none⟩) hg];exact hc k hlt
      obtain ⟨x,hx⟩ : ∃ x,x = L[k]:=⟨_,rfl⟩
      rw [← hx] at hcr
      have hxd : L.getD k [] = x:=by rw [List.getD_eq_getElem?_getD,List.getElem?_eq_getElem hlt,hx];rfl
      have d2 : decide ((k : Int) < (L.length : Int)) = true:=decide_eq_true (by omega)
      have d2' : decide (k < L.length) = true:=decide_eq_true hlt
      have HRK:=fun W=>Lib.hid (rank_any x (by rw [hx];have:=HSM.out _ (List.getElem_mem hlt);omega) W)
      obtain ⟨rk,hrk⟩ : ∃ z,z = rankS x:=⟨_,rfl⟩
      have hr1 : rk ≠ -1:=fun e=>hgo ⟨hlt,by rw [hxd,← hrk,e]⟩
      have z1 : (rk == -1) = false:=by rw [beq_eq_false_iff_ne];exact hr1
      have HRS : Hid (∀ W e w',RkPost x W e w' → e = .returned (.int .i64 rk) ∧ Below W.heap.size W w'):=fun W e w' h=>by rw [hrk];exact h
      clear hc hx hxd hrk hr1 hgo
      go_upto_region 9 with (go_at_call 22;refine ((HRK _).out).mono ?_;intro e W2 hp;obtain ⟨rfl,hb⟩:=HRS.out _ _ _ hp;have HB3:=Lib.hid (bmore HBE.out hb);clear hp hb)
      go_upto_region 10 with (first | (go_at_call 24;refine (HTX.out _ HB3.out).mono ?_;rintro e W4 ⟨rfl,hb4⟩;have HB4:=Lib.hid (bmore HB3.out hb4);clear hb4) | (go_at_call 23;refine (HPP.out _ HB4.out).mono ?_;intro e W5 hp;obtain ⟨c,hnc,rfl,hok,hpcc,hb5⟩:=HPS.out _ _ _ hp;have HB5:=Lib.hid (bmore HB4.out hb5);have HNC:=Lib.hid hnc;have HOK:=Lib.hid hok;have HPC:=Lib.hid hpcc;have HSZ:=Lib.hid hb5.size;clear hp hnc hok hpcc hb5))
      obtain ⟨W6,hW6⟩ : ∃ W6,W6 = W5.alloc (.cells #[.int .i64 c.cats,.slice c.g.a c.g.l.length c.g.cap,.slice c.r.a c.r.l.length c.r.cap,.slice c.p.a c.p.l.length c.p.cap,.slice c.n.a c.n.l.length c.n.cap,.slice c.s.a c.s.l.length c.s.cap,.int .i64 c.gate,.int .i64 c.quota] 29):=⟨_,rfl⟩
      rw [← hW6]
      have HO9 : Hid (ObjAt W6 W5.heap.size 29 #[.int .i64 c.cats,.slice c.g.a c.g.l.length c.g.cap,.slice c.r.a c.r.l.length c.r.cap,.slice c.p.a c.p.l.length c.p.cap,.slice c.n.a c.n.l.length c.n.cap,.slice c.s.a c.s.l.length c.s.cap,.int .i64 c.gate,.int .i64 c.quota].toList):=by rw [hW6];exact ObjAt.new W5 _ _
      have hb6 : Below W5.heap.size W5 W6:=by rw [hW6];exact (Below.refl _ _).alloc (Nat.le_refl _) _
      have HB6:=Lib.hid (bmore HB5.out hb6)
      have HOK:=Lib.hid (HOK.out.below hb6)
      have HNX : Hid (w.heap.size + 1 < W4.heap.size):=Nat.lt_of_lt_of_le HO1.out.lt HB4.out.size
      have HSZ6 : Hid (W4.heap.size < W6.heap.size):=Nat.lt_of_le_of_lt HSZ.out (by rw [hW6];simp)
      clear hW6 hb6
      by_cases hp0 : pe = 0
      ·have z9 : (pe != 0) = false:=by simp [hp0]
       have HSR : Hid (scV l = if F.2.1 ≠ 0 then (pcZ,sc0,F.2.1,F.2.2) else (pc,F.1,0,0)):=by rw [Hid,HSR.out,if_neg (by simp [hp0])]
       clear hp0
       by_cases hf0 : F.2.1 = 0
       ·have HSR : Hid (scV l = (pc,F.1,0,0)):=by rw [Hid,HSR.out,if_neg (by simp [hf0])]
        have HRP : Hid (∀ e w',RePost W6 W6.heap.size (some ⟨g,o,none⟩) Lc L F e w' → e = .returned (.bool true) ∧ ∃ i last v,scOf v = F.1 ∧ SR W6 W6.heap.size (some ⟨g,o,none⟩) Lc L i last v 0 0 w'):=fun e w' h=>h.1 hf0
        clear hf0
        go_upto_region 15 with (go_at_call 25;refine (HPA.out _ HB6.out).mono ?_;intro e W7 h7;obtain ⟨rfl,i7,last7,v,hv,hsr⟩:=HRP.out _ _ h7;have HV:=Lib.hid hv;have HSR7:=Lib.hid hsr;clear h7 hv hsr)
        have hO0:=HO0.out.below (bmore HB6.out HSR7.out.bel)
        have hO1:=HO1.out.below (bmore HB6.out HSR7.out.bel)
        have hO9:=HO9.out.below HSR7.out.bel
        have HP0:=Lib.hid hO0
        have HP1:=Lib.hid hO1
        have s6:=hO0.lt
        have s7:=hO1.lt
        have a0:=(hO0).cell 0 _ rfl;have a1:=(hO0).cell 1 _ rfl;have a2:=(hO0).cell 2 _ rfl;have a3:=(hO0).cell 3 _ rfl;have a4:=(hO0).cell 4 _ rfl;have a5:=(hO0).cell 5 _ rfl;have a6:=(hO0).cell 6 _ rfl;have a7:=(hO0).cell 7 _ rfl;have g0:=(hO0).free 0;have g1:=(hO0).free 1;have g2:=(hO0).free 2;have g3:=(hO0).free 3;have g4:=(hO0).free 4;have g5:=(hO0).free 5;have g6:=(hO0).free 6;have g7:=(hO0).free 7
        have b0:=(hO1).cell 0 _ rfl;have b1:=(hO1).cell 1 _ rfl;have b2:=(hO1).cell 2 _ rfl;have p0:=(hO1).free 0;have p1:=(hO1).free 1;have p2:=(hO1).free 2
        have n0:=hO9.cell 0 _ rfl
        have n1:=hO9.cell 1 _ rfl
        have n2:=hO9.cell 2 _ rfl
        have n3:=hO9.cell 3 _ rfl
        have n4:=hO9.cell 4 _ rfl
        have n5:=hO9.cell 5 _ rfl
        have n6:=hO9.cell 6 _ rfl
        have n7:=hO9.cell 7 _ rfl
        have r3:=HSR7.out.ob.cell 3 _ rfl
        have r4:=HSR7.out.ob.cell 4 _ rfl
        have r5:=HSR7.out.ob.cell 5 _ rfl
        have q1 : ¬ W6.heap.size = w.heap.size:=by have:=HNX.out;have:=HSZ6.out;omega
        have q2 : ¬ w.heap.size = W6.heap.size:=fun e=>q1 e.symm
        have q3 : ¬ W6.heap.size = w.heap.size + 1:=by have:=HNX.out;have:=HSZ6.out;omega
        have q4 : ¬ w.heap.size + 1 = W6.heap.size:=fun e=>q3 e.symm
        have q5 : ¬ W5.heap.size = w.heap.size:=by have:=HNX.out;have:=HSZ.out;omega
        have q6 : ¬ w.heap.size = W5.heap.size:=fun e=>q5 e.symm
        have q7 : ¬ W5.heap.size = w.heap.size + 1:=by have:=HNX.out;have:=HSZ.out;omega
        have q8 : ¬ w.heap.size + 1 = W5.heap.size:=fun e=>q7 e.symm
        clear hO0 hO1 hO9
        go_region
        all_goals
         go_wp2_with fail
         refine bodyPost_ret (v:=.tuple #[(.agg #[.int .i64 c.cats,.slice c.g.a c.g.l.length c.g.cap,.slice c.r.a c.r.l.length c.r.cap,.slice c.p.a c.p.l.length c.p.cap,.slice c.n.a c.n.l.length c.n.cap,.slice c.s.a c.s.l.length c.s.cap,.int .i64 c.gate,.int .i64 c.quota]),(.agg #[.slice v.ia v.im.length v.ic,.slice v.sa v.se.length v.sc,.slice v.na v.inp.length v.nc]),.int .i64 0,.int .i64 0]) (by simp [results,Tryz.results8,go_sem,a0,a1,a2,a3,a4,a5,a6,a7,b0,b1,b2,s6,s7]) rfl ?_
         refine HG.out c v _ (by rw [HSR.out,HPC.out,HV.out]) ?_ ?_ ((((((((((((bmore HB2.out (bmore HB6.out HSR7.out.bel)).setCell (Nat.le_refl _) _).setCell (Nat.le_refl _) _).setCell (Nat.le_refl _) _).setCell (Nat.le_refl _) _).setCell (Nat.le_refl _) _).setCell (Nat.le_refl _) _).setCell (Nat.le_refl _) _).setCell (Nat.le_refl _) _).setCell (Nat.le_succ _) _).setCell (Nat.le_succ _) _).setCell (Nat.le_succ _) _).drew
         ·exact cfg_other (HOK.out.below HSR7.out.bel) HNC.out (by have:=HNX.out;omega) HNX.out (upd_put (upd_put (upd_put (upd_put (upd_put (upd_put (upd_put (upd_put (Upd.refl _ _))))))))) (upd_put (upd_put (upd_put (Upd.refl _ _)))).drew
         ·exact HSR7.out.other HP0.out HP1.out (upd_put (upd_put (upd_put (upd_put (upd_put (upd_put (upd_put (upd_put (Upd.refl _ _))))))))) (upd_put (upd_put (upd_put (Upd.refl _ _)))).drew
       ·have HZ:=fun w' h=>Lib.hid (HZ.out F.2.1 F.2.2 w' (by rw [HSR.out,if_pos hf0]) h)
        have HRP : Hid (∀ e w',RePost W6 W6.heap.size (some ⟨g,o,none⟩) Lc L F e w' → e = .returned (.bool false) ∧ ∃ i last v,SR W6 W6.heap.size (some ⟨g,o,none⟩) Lc L i last v F.2.1 F.2.2 w'):=fun e w' h=>h.2 hf0
        clear hf0
        go_upto_region 14 with (go_at_call 25;refine (HPA.out _ HB6.out).mono ?_;intro e W7 h7;obtain ⟨rfl,i7,last7,v,hsr⟩:=HRP.out _ _ h7;have HSR7:=Lib.hid hsr;clear h7 hsr)
        have hO0:=HO0.out.below (bmore HB6.out HSR7.out.bel)
        have hO1:=HO1.out.below (bmore HB6.out HSR7.out.bel)
        have s6:=hO0.lt
        have s7:=hO1.lt
        have a0:=(hO0).cell 0 _ rfl;have a1:=(hO0).cell 1 _ rfl;have a2:=(hO0).cell 2 _ rfl;have a3:=(hO0).cell 3 _ rfl;have a4:=(hO0).cell 4 _ rfl;have a5:=(hO0).cell 5 _ rfl;have a6:=(hO0).cell 6 _ rfl;have a7:=(hO0).cell 7 _ rfl;have g0:=(hO0).free 0;have g1:=(hO0).free 1;have g2:=(hO0).free 2;have g3:=(hO0).free 3;have g4:=(hO0).free 4;have g5:=(hO0).free 5;have g6:=(hO0).free 6;have g7:=(hO0).free 7
        have b0:=(hO1).cell 0 _ rfl;have b1:=(hO1).cell 1 _ rfl;have b2:=(hO1).cell 2 _ rfl;have p0:=(hO1).free 0;have p1:=(hO1).free 1;have p2:=(hO1).free 2
        have r6:=HSR7.out.ob.cell 6 _ rfl
        have r7:=HSR7.out.ob.cell 7 _ rfl
        have q0:=HO1.out.lt
        have q1 : ¬ W6.heap.size = w.heap.size:=by have:=HNX.out;have:=HSZ6.out;omega
        have q2 : ¬ w.heap.size = W6.heap.size:=fun e=>q1 e.symm
        have q3 : ¬ W6.heap.size = w.heap.size + 1:=by have:=HNX.out;have:=HSZ6.out;omega
        have q4 : ¬ w.heap.size + 1 = W6.heap.size:=fun e=>q3 e.symm
        clear hO0 hO1 q0
        go_region
        all_goals
         go_wp2_with fail
         (refine bodyPost_ret (v:=.tuple #[.agg #[.int .i64 0,.slice none 0 0,.slice none 0 0,.slice none 0 0,.slice none 0 0,.slice none 0 0,.int .i64 0,.int .i64 0],.agg #[.slice none 0 0,.slice none 0 0,.slice none 0 0],.int .i64 F.2.1,.int .i64 F.2.2]) (by simp [results,Tryz.results8,go_sem,a0,a1,a2,a3,a4,a5,a6,a7,b0,b1,b2,s6,s7]) rfl ?_)
         exact (HZ _ ((((((((((((bmore HB2.out (bmore HB6.out HSR7.out.bel)).setCell (Nat.le_refl _) _).setCell (Nat.le_refl _) _).setCell (Nat.le_refl _) _).setCell (Nat.le_refl _) _).setCell (Nat.le_refl _) _).setCell (Nat.le_refl _) _).setCell (Nat.le_refl _) _).setCell (Nat.le_refl _) _).setCell (Nat.le_succ _) _).setCell (Nat.le_succ _) _).setCell (Nat.le_succ _) _).drew).out
      ·have z9 : (pe != 0) = true:=by simp [hp0]
       have HZ:=fun w' h=>Lib.hid (HZ.out pe pa w' (by rw [HSR.out,if_pos hp0]) h)
       have hO0:=HO0.out.below HB6.out
       have hO1:=HO1.out.below HB6.out
       have s6:=hO0.lt
       have s7:=hO1.lt
       have a0:=(hO0).cell 0 _ rfl;have a1:=(hO0).cell 1 _ rfl;have a2:=(hO0).cell 2 _ rfl;have a3:=(hO0).cell 3 _ rfl;have a4:=(hO0).cell 4 _ rfl;have a5:=(hO0).cell 5 _ rfl;have a6:=(hO0).cell 6 _ rfl;have a7:=(hO0).cell 7 _ rfl;have g0:=(hO0).free 0;have g1:=(hO0).free 1;have g2:=(hO0).free 2;have g3:=(hO0).free 3;have g4:=(hO0).free 4;have g5:=(hO0).free 5;have g6:=(hO0).free 6;have g7:=(hO0).free 7
       have b0:=(hO1).cell 0 _ rfl;have b1:=(hO1).cell 1 _ rfl;have b2:=(hO1).cell 2 _ rfl;have p0:=(hO1).free 0;have p1:=(hO1).free 1;have p2:=(hO1).free 2
       clear hp0 hO0 hO1
       go_wp2_with fail
       (refine bodyPost_ret (v:=.tuple #[.agg #[.int .i64 0,.slice none 0 0,.slice none 0 0,.slice none 0 0,.slice none 0 0,.slice none 0 0,.int .i64 0,.int .i64 0],.agg #[.slice none 0 0,.slice none 0 0,.slice none 0 0],.int .i64 pe,.int .i64 pa]) (by simp [results,Tryz.results8,go_sem,a0,a1,a2,a3,a4,a5,a6,a7,b0,b1,b2,s6,s7]) rfl ?_)
       exact (HZ _ ((((((((((((bmore HB2.out HB6.out).setCell (Nat.le_refl _) _).setCell (Nat.le_refl _) _).setCell (Nat.le_refl _) _).setCell (Nat.le_refl _) _).setCell (Nat.le_refl _) _).setCell (Nat.le_refl _) _).setCell (Nat.le_refl _) _).setCell (Nat.le_refl _) _).setCell (Nat.le_succ _) _).setCell (Nat.le_succ _) _).setCell (Nat.le_succ _) _)).out
     ·have d2 : decide ((k : Int) < (L.length : Int)) = false:=decide_eq_false (by omega)
      have d2' : decide (k < L.length) = false:=decide_eq_false hlt
      have HB3:=HBE
      clear hgo
      go_upto_region 9 with fail
      go_upto_region 10 with (first | (go_at_call 24;refine (HTX.out _ HB3.out).mono ?_;rintro e W4 ⟨rfl,hb4⟩;have HB4:=Lib.hid (bmore HB3.out hb4);clear hb4) | (go_at_call 23;refine (HPP.out _ HB4.out).mono ?_;intro e W5 hp;obtain ⟨c,hnc,rfl,hok,hpcc,hb5⟩:=HPS.out _ _ _ hp;have HB5:=Lib.hid (bmore HB4.out hb5);have HNC:=Lib.hid hnc;have HOK:=Lib.hid hok;have HPC:=Lib.hid hpcc;have HSZ:=Lib.hid hb5.size;clear hp hnc hok hpcc hb5))
      obtain ⟨W6,hW6⟩ : ∃ W6,W6 = W5.alloc (.cells #[.int .i64 c.cats,.slice c.g.a c.g.l.length c.g.cap,.slice c.r.a c.r.l.length c.r.cap,.slice c.p.a c.p.l.length c.p.cap,.slice c.n.a c.n.l.length c.n.cap,.slice c.s.a c.s.l.length c.s.cap,.int .i64 c.gate,.int .i64 c.quota] 29):=⟨_,rfl⟩
      rw [← hW6]
      have HO9 : Hid (ObjAt W6 W5.heap.size 29 #[.int .i64 c.cats,.slice c.g.a c.g.l.length c.g.cap,.slice c.r.a c.r.l.length c.r.cap,.slice c.p.a c.p.l.length c.p.cap,.slice c.n.a c.n.l.length c.n.cap,.slice c.s.a c.s.l.length c.s.cap,.int .i64 c.gate,.int .i64 c.quota].toList):=by rw [hW6];exact ObjAt.new W5 _ _
      have hb6 : Below W5.heap.size W5 W6:=by rw [hW6];exact (Below.refl _ _).alloc (Nat.le_refl _) _
      have HB6:=Lib.hid (bmore HB5.out hb6)
      have HOK:=Lib.hid (HOK.out.below hb6)
      have HNX : Hid (w.heap.size + 1 < W4.heap.size):=Nat.lt_of_lt_of_le HO1.out.lt HB4.out.size
      have HSZ6 : Hid (W4.heap.size < W6.heap.size):=Nat.lt_of_le_of_lt HSZ.out (by rw [hW6];simp)
      clear hW6 hb6
      by_cases hp0 : pe = 0
      ·have z9 : (pe != 0) = false:=by simp [hp0]
       have HSR : Hid (scV l = if F.2.1 ≠ 0 then (pcZ,sc0,F.2.1,F.2.2) else (pc,F.1,0,0)):=by rw [Hid,HSR.out,if_neg (by simp [hp0])]
       clear hp0
       by_cases hf0 : F.2.1 = 0
       ·have HSR : Hid (scV l = (pc,F.1,0,0)):=by rw [Hid,HSR.out,if_neg (by simp [hf0])]
        have HRP : Hid (∀ e w',RePost W6 W6.heap.size La Lc L F e w' → e = .returned (.bool true) ∧ ∃ i last v,scOf v = F.1 ∧ SR W6 W6.heap.size La Lc L i last v 0 0 w'):=fun e w' h=>h.1 hf0
        clear hf0
        go_upto_region 15 with (go_at_call 25;refine (HPA.out _ HB6.out).mono ?_;intro e W7 h7;obtain ⟨rfl,i7,last7,v,hv,hsr⟩:=HRP.out _ _ h7;have HV:=Lib.hid hv;have HSR7:=Lib.hid hsr;clear h7 hv hsr)
        have hO0:=HO0.out.below (bmore HB6.out HSR7.out.bel)
        have hO1:=HO1.out.below (bmore HB6.out HSR7.out.bel)
        have hO9:=HO9.out.below HSR7.out.bel
        have HP0:=Lib.hid hO0
        have HP1:=Lib.hid hO1
        have s6:=hO0.lt
        have s7:=hO1.lt
        have a0:=(hO0).cell 0 _ rfl;have a1:=(hO0).cell 1 _ rfl;have a2:=(hO0).cell 2 _ rfl;have a3:=(hO0).cell 3 _ rfl;have a4:=(hO0).cell 4 _ rfl;have a5:=(hO0).cell 5 _ rfl;have a6:=(hO0).cell 6 _ rfl;have a7:=(hO0).cell 7 _ rfl;have g0:=(hO0).free 0;have g1:=(hO0).free 1;have g2:=(hO0).free 2;have g3:=(hO0).free 3;have g4:=(hO0).free 4;have g5:=(hO0).free 5;have g6:=(hO0).free 6;have g7:=(hO0).free 7
        have b0:=(hO1).cell 0 _ rfl;have b1:=(hO1).cell 1 _ rfl;have b2:=(hO1).cell 2 _ rfl;have p0:=(hO1).free 0;have p1:=(hO1).free 1;have p2:=(hO1).free 2
        have n0:=hO9.cell 0 _ rfl
        have n1:=hO9.cell 1 _ rfl
        have n2:=hO9.cell 2 _ rfl
        have n3:=hO9.cell 3 _ rfl
        have n4:=hO9.cell 4 _ rfl
        have n5:=hO9.cell 5 _ rfl
        have n6:=hO9.cell 6 _ rfl
        have n7:=hO9.cell 7 _ rfl
        have r3:=HSR7.out.ob.cell 3 _ rfl
        have r4:=HSR7.out.ob.cell 4 _ rfl
        have r5:=HSR7.out.ob.cell 5 _ rfl
        have q1 : ¬ W6.heap.size = w.heap.size:=by have:=HNX.out;have:=HSZ6.out;omega
        have q2 : ¬ w.heap.size = W6.heap.size:=fun e=>q1 e.symm
        have q3 : ¬ W6.heap.size = w.heap.size + 1:=by have:=HNX.out;have:=HSZ6.out;omega
        have q4 : ¬ w.heap.size + 1 = W6.heap.size:=fun e=>q3 e.symm
        have q5 : ¬ W5.heap.size = w.heap.size:=by have:=HNX.out;have:=HSZ.out;omega
        have q6 : ¬ w.heap.size = W5.heap.size:=fun e=>q5 e.symm
        have q7 : ¬ W5.heap.size = w.heap.size + 1:=by have:=HNX.out;have:=HSZ.out;omega
        have q8 : ¬ w.heap.size + 1 = W5.heap.size:=fun e=>q7 e.symm
        clear hO0 hO1 hO9
        go_region
        all_goals
         go_wp2_with fail
         refine bodyPost_ret (v:=.tuple #[(.agg #[.int .i64 c.cats,.slice c.g.a c.g.l.length c.g.cap,.slice c.r.a c.r.l.length c.r.cap,.slice c.p.a c.p.l.length c.p.cap,.slice c.n.a c.n.l.length c.n.cap,.slice c.s.a c.s.l.length c.s.cap,.int .i64 c.gate,.int .i64 c.quota]),(.agg #[.slice v.ia v.im.length v.ic,.slice v.sa v.se.length v.sc,.slice v.na v.inp.length v.nc]),.int .i64 0,.int .i64 0]) (by simp [results,Tryz.results8,go_sem,a0,a1,a2,a3,a4,a5,a6,a7,b0,b1,b2,s6,s7]) rfl ?_
         refine HG.out c v _ (by rw [HSR.out,HPC.out,HV.out]) ?_ ?_ ((((((((((((bmore HB2.out (bmore HB6.out HSR7.out.bel)).setCell (Nat.le_refl _) _).setCell (Nat.le_refl _) _).setCell (Nat.le_refl _) _).setCell (Nat.le_refl _) _).setCell (Nat.le_refl _) _).setCell (Nat.le_refl _) _).setCell (Nat.le_refl _) _).setCell (Nat.le_refl _) _).setCell (Nat.le_succ _) _).setCell (Nat.le_succ _) _).setCell (Nat.le_succ _) _).drew
         ·exact cfg_other (HOK.out.below HSR7.out.bel) HNC.out (by have:=HNX.out;omega) HNX.out (upd_put (upd_put (upd_put (upd_put (upd_put (upd_put (upd_put (upd_put (Upd.refl _ _))))))))) (upd_put (upd_put (upd_put (Upd.refl _ _)))).drew
         ·exact HSR7.out.other HP0.out HP1.out (upd_put (upd_put (upd_put (upd_put (upd_put (upd_put (upd_put (upd_put (Upd.refl _ _))))))))) (upd_put (upd_put (upd_put (Upd.refl _ _)))).drew
       ·have HZ:=fun w' h=>Lib.hid (HZ.out F.2.1 F.2.2 w' (by rw [HSR.out,if_pos hf0]) h)
        have HRP : Hid (∀ e w',RePost W6 W6.heap.size La Lc L F e w' → e = .returned (.bool false) ∧ ∃ i last v,SR W6 W6.heap.size La Lc L i last v F.2.1 F.2.2 w'):=fun e w' h=>h.2 hf0
        clear hf0
        go_upto_region 14 with (go_at_call 25;refine (HPA.out _ HB6.out).mono ?_;intro e W7 h7;obtain ⟨rfl,i7,last7,v,hsr⟩:=HRP.out _ _ h7;have HSR7:=Lib.hid hsr;clear h7 hsr)
        have hO0:=HO0.out.below (bmore HB6.out HSR7.out.bel)
        have hO1:=HO1.out.below (bmore HB6.out HSR7.out.bel)
        have s6:=hO0.lt
        have s7:=hO1.lt
        have a0:=(hO0).cell 0 _ rfl;have a1:=(hO0).cell 1 _ rfl;have a2:=(hO0).cell 2 _ rfl;have a3:=(hO0).cell 3 _ rfl;have a4:=(hO0).cell 4 _ rfl;have a5:=(hO0).cell 5 _ rfl;have a6:=(hO0).cell 6 _ rfl;have a7:=(hO0).cell 7 _ rfl;have g0:=(hO0).free 0;have g1:=(hO0).free 1;have g2:=(hO0).free 2;have g3:=(hO0).free 3;have g4:=(hO0).free 4;have g5:=(hO0).free 5;have g6:=(hO0).free 6;have g7:=(hO0).free 7
        have b0:=(hO1).cell 0 _ rfl;have b1:=(hO1).cell 1 _ rfl;have b2:=(hO1).cell 2 _ rfl;have p0:=(hO1).free 0;have p1:=(hO1).free 1;have p2:=(hO1).free 2
        have r6:=HSR7.out.ob.cell 6 _ rfl
        have r7:=HSR7.out.ob.cell 7 _ rfl
        have q0:=HO1.out.lt
        have q1 : ¬ W6.heap.size = w.heap.size:=by have:=HNX.out;have:=HSZ6.out;omega
        have q2 : ¬ w.heap.size = W6.heap.size:=fun e=>q1 e.symm
        have q3 : ¬ W6.heap.size = w.heap.size + 1:=by have:=HNX.out;have:=HSZ6.out;omega
        have q4 : ¬ w.heap.size + 1 = W6.heap.size:=fun e=>q3 e.symm
        clear hO0 hO1 q0
        go_region
        all_goals
         go_wp2_with fail
         (refine bodyPost_ret (v:=.tuple #[.agg #[.int .i64 0,.slice none 0 0,.slice none 0 0,.slice none 0 0,.slice none 0 0,.slice none 0 0,.int .i64 0,.int .i64 0],.agg #[.slice none 0 0,.slice none 0 0,.slice none 0 0],.int .i64 F.2.1,.int .i64 F.2.2]) (by simp [results,Tryz.results8,go_sem,a0,a1,a2,a3,a4,a5,a6,a7,b0,b1,b2,s6,s7]) rfl ?_)
         exact (HZ _ ((((((((((((bmore HB2.out (bmore HB6.out HSR7.out.bel)).setCell (Nat.le_refl _) _).setCell (Nat.le_refl _) _).setCell (Nat.le_refl _) _).setCell (Nat.le_refl _) _).setCell (Nat.le_refl _) _).setCell (Nat.le_refl _) _).setCell (Nat.le_refl _) _).setCell (Nat.le_refl _) _).setCell (Nat.le_succ _) _).setCell (Nat.le_succ _) _).setCell (Nat.le_succ _) _).drew).out
      ·have z9 : (pe != 0) = true:=by simp [hp0]
       have HZ:=fun w' h=>Lib.hid (HZ.out pe pa w' (by rw [HSR.out,if_pos hp0]) h)
       have hO0:=HO0.out.below HB6.out
       have hO1:=HO1.out.below HB6.out
       have s6:=hO0.lt
       have s7:=hO1.lt
       have a0:=(hO0).cell 0 _ rfl;have a1:=(hO0).cell 1 _ rfl;have a2:=(hO0).cell 2 _ rfl;have a3:=(hO0).cell 3 _ rfl;have a4:=(hO0).cell 4 _ rfl;have a5:=(hO0).cell 5 _ rfl;have a6:=(hO0).cell 6 _ rfl;have a7:=(hO0).cell 7 _ rfl;have g0:=(hO0).free 0;have g1:=(hO0).free 1;have g2:=(hO0).free 2;have g3:=(hO0).free 3;have g4:=(hO0).free 4;have g5:=(hO0).free 5;have g6:=(hO0).free 6;have g7:=(hO0).free 7
       have b0:=(hO1).cell 0 _ rfl;have b1:=(hO1).cell 1 _ rfl;have b2:=(hO1).cell 2 _ rfl;have p0:=(hO1).free 0;have p1:=(hO1).free 1;have p2:=(hO1).free 2
       clear hp0 hO0 hO1
       go_wp2_with fail
       (refine bodyPost_ret (v:=.tuple #[.agg #[.int .i64 0,.slice none 0 0,.slice none 0 0,.slice none 0 0,.slice none 0 0,.slice none 0 0,.int .i64 0,.int .i64 0],.agg #[.slice none 0 0,.slice none 0 0,.slice none 0 0],.int .i64 pe,.int .i64 pa]) (by simp [results,Tryz.results8,go_sem,a0,a1,a2,a3,a4,a5,a6,a7,b0,b1,b2,s6,s7]) rfl ?_)
       exact (HZ _ ((((((((((((bmore HB2.out HB6.out).setCell (Nat.le_refl _) _).setCell (Nat.le_refl _) _).setCell (Nat.le_refl _) _).setCell (Nat.le_refl _) _).setCell (Nat.le_refl _) _).setCell (Nat.le_refl _) _).setCell (Nat.le_refl _) _).setCell (Nat.le_refl _) _).setCell (Nat.le_succ _) _).setCell (Nat.le_succ _) _).setCell (Nat.le_succ _) _)).out
end Go.Proofs.YtoklonmiejdgmaaGreatDoor
/- The law of plan: the same configurations. -/
namespace Go.Proofs.YtoklonmiejdgmaaGreatDoor
set_option linter.unusedVariables false
set_option linter.unusedSimpArgs false
set_option linter.unnecessarySimpa false
open Go.RowKit Go.Sort
set_option maxHeartbeats 4000000
set_option maxRecDepth 100000
set_option linter.unusedVariables false
end Go.Proofs.YtoklonmiejdgmaaGreatDoor
/- The law of script: the same scripts, configurations alike. -/
namespace Go.Proofs.YtoklonmiejdgmaaGreatDoor
set_option linter.unusedVariables false
set_option linter.unusedSimpArgs false
set_option linter.unnecessarySimpa false
open Go.RowKit Go.Sort
set_option maxHeartbeats 4000000
set_option maxRecDepth 100000
set_option linter.unusedVariables false
theorem alike_any (W : World) (c d : Cv) (hc : CfgOk W c) (hd : CfgOk W d) (he : pcOf c = pcOf d) : Calls Tryz.prog 10 #[.agg #[.int .i64 c.cats,.slice c.g.a c.g.l.length c.g.cap,.slice c.r.a c.r.l.length c.r.cap,.slice c.p.a c.p.l.length c.p.cap,.slice c.n.a c.n.l.length c.n.cap,.slice c.s.a c.s.l.length c.s.cap,.int .i64 c.gate,.int .i64 c.quota],.agg #[.int .i64 d.cats,.slice d.g.a d.g.l.length d.g.cap,.slice d.r.a d.r.l.length d.r.cap,.slice d.p.a d.p.l.length d.p.cap,.slice d.n.a d.n.l.length d.n.cap,.slice d.s.a d.s.l.length d.s.cap,.int .i64 d.gate,.int .i64 d.quota]] W fun e w'=>e = .returned (.bool true) ∧ Below W.heap.size W w':=by
 have HB : Hid (Below W.heap.size W ((W.alloc (.cells #[.int .i64 c.cats,.slice c.g.a c.g.l.length c.g.cap,.slice c.r.a c.r.l.length c.r.cap,.slice c.p.a c.p.l.length c.p.cap,.slice c.n.a c.n.l.length c.n.cap,.slice c.s.a c.s.l.length c.s.cap,.int .i64 c.gate,.int .i64 c.quota] 29)).alloc (.cells #[.int .i64 d.cats,.slice d.g.a d.g.l.length d.g.cap,.slice d.r.a d.r.l.length d.r.cap,.slice d.p.a d.p.l.length d.p.cap,.slice d.n.a d.n.l.length d.n.cap,.slice d.s.a d.s.l.length d.s.cap,.int .i64 d.gate,.int .i64 d.quota] 29))):=((Below.refl _ _).alloc (Nat.le_refl _) _).alloc (by rw [World.size_alloc];omega) _
 have M1:=hc.g.mx
 have M2:=hc.r.mx
 have M3:=hc.p.mx
 have M4:=hc.n.mx
 have M5:=hc.s.mx
 clear hc hd
 obtain ⟨x,⟨a1,c1,l1⟩,⟨a2,c2,l2⟩,⟨a3,c3,l3⟩,⟨a4,c4,l4⟩,⟨a5,c5,l5⟩,y,z⟩:=c
 obtain ⟨x',⟨a1',c1',l1'⟩,⟨a2',c2',l2'⟩,⟨a3',c3',l3'⟩,⟨a4',c4',l4'⟩,⟨a5',c5',l5'⟩,y',z'⟩:=d
 simp only [pcOf,Pc.mk.injEq] at he
 obtain ⟨rfl,rfl,rfl,rfl,rfl,rfl,rfl,rfl⟩:=he
 have m1 : l1.length ≤ 9223372036854775807:=M1
 have m2 : l2.length ≤ 9223372036854775807:=M2
 have m3 : l3.length ≤ 9223372036854775807:=M3
 have m4 : l4.length ≤ 9223372036854775807:=M4
 have m5 : l5.length ≤ 9223372036854775807:=M5
 clear M1 M2 M3 M4 M5
 have nn1 : ((l1.length : Int) == (l1.length : Int)) = true:=by simp
 have nn2 : ((l2.length : Int) == (l2.length : Int)) = true:=by simp
 have nn3 : ((l3.length : Int) == (l3.length : Int)) = true:=by simp
 have nn4 : ((l4.length : Int) == (l4.length : Int)) = true:=by simp
 have nn5 : ((l5.length : Int) == (l5.length : Int)) = true:=by simp
 have nx : (x == x) = true:=by simp
 have ny : (y == y) = true:=by simp
 have nz : (z == z) = true:=by simp
 go_enter Tryz.func10,Tryz.ntmps10
 go_wp2_with fail
 go_ret
 exact ⟨rfl,HB.out⟩
theorem flat_get {α β : Type} (f : α → List β) (N : Nat) (hN : ∀ x,(f x).length = N) : ∀ (l : List α) (k : Nat) (hk : k < l.length) (j : Nat),j < N → (l.map f).flatten[k * N + j]? = (f l[k])[j]?
 | x :: r,0,_,j,hj=>by
  rw [List.map_cons,List.flatten_cons,List.getElem?_append_left (by rw [hN];omega)];simp
 | x :: r,k + 1,hk,j,hj=>by
  have:=flat_get f N hN r k (by simpa using hk) j hj
  rw [List.map_cons,List.flatten_cons,List.getElem?_append_right (by rw [hN,Nat.succ_mul];omega),hN,show (k + 1) * N + j - N = k * N + j by rw [Nat.succ_mul];omega,this];rfl
theorem Rd.get {W : World} {size n : Nat} {a : Option Addr} {xs : List Value} (h : Rd W size a n xs) (hn : 0 < n) (hs : 0 < size) : ∃ g o,a = some ⟨g,o,none⟩ ∧ g < W.heap.size ∧ ∀ j u,xs[j]? = some u → W.cell? ⟨g,o + j,none⟩ = some u:=by
 cases a with
 | none=>have:=h.2.1 rfl;omega
 | some p=>
  obtain ⟨b,o,rfl,hb,hc⟩:=h.2.2 p rfl (by intro e;have h1:=h.1;rw [e,List.length_nil] at h1;have:=Nat.mul_pos hn hs;omega)
  exact ⟨b,o,rfl,hb,hc⟩
theorem ScOk.im_at {W : World} {v : Sv} (h : ScOk W v) (k : Nat) (hk : k < v.im.length) : ∃ g o,v.ia = some ⟨g,o,none⟩ ∧ ∀ W',Below W.heap.size W W' → W'.cell? ⟨g,o + k,none⟩ = some (.slice v.im[k].a v.im[k].l.length v.im[k].cap):=by
 obtain ⟨g,o,e,hg,hc⟩:=h.im.get (by omega) (by decide)
 exact ⟨g,o,e,fun W' hb=>by rw [hb.cell (p:=⟨g,o + k,none⟩) hg];exact hc k _ (by simp [imC,hk])⟩
theorem ScOk.row_at {W : World} {v : Sv} (h : ScOk W v) (k : Nat) (hk : k < v.im.length) (j : Nat) (hj : j < v.im[k].l.length) : ∃ g o,v.im[k].a = some ⟨g,o,none⟩ ∧ ∀ W',Below W.heap.size W W' → W'.cell? ⟨g,o + j,none⟩ = some (.int .u32 v.im[k].l[j]):=by
 obtain ⟨g,o,e,hg,hc⟩:=(h.row _ (List.getElem_mem hk)).1.get (by omega) (by decide)
 exact ⟨g,o,e,fun W' hb=>by rw [hb.cell (p:=⟨g,o + j,none⟩) hg];exact hc j _ (by simp [As.uC,hj])⟩
theorem ScOk.se_at {W : World} {v : Sv} (h : ScOk W v) (k : Nat) (hk : k < v.se.length) : ∃ g o,v.sa = some ⟨g,o,none⟩ ∧ ∀ W',Below W.heap.size W W' → ∀ j u,j < 2 → (seR v.se[k])[j]? = some u → W'.cell? ⟨g,o + k * 2 + j,none⟩ = some u:=by
 obtain ⟨g,o,e,hg,hc⟩:=h.se.get (by omega) (by decide)
 exact ⟨g,o,e,fun W' hb j u hj hu=>by rw [hb.cell (p:=⟨g,o + k * 2 + j,none⟩) hg,Nat.add_assoc];exact hc _ _ (by rw [seC,flat_get seR 2 (fun _=>rfl) v.se k hk j hj];exact hu)⟩
theorem ScOk.in_at {W : World} {v : Sv} (h : ScOk W v) (k : Nat) (hk : k < v.inp.length) : ∃ g o,v.na = some ⟨g,o,none⟩ ∧ ∀ W',Below W.heap.size W W' → ∀ j u,j < 5 → (inR v.inp[k])[j]? = some u → W'.cell? ⟨g,o + k * 5 + j,none⟩ = some u:=by
 obtain ⟨g,o,e,hg,hc⟩:=h.inp.get (by omega) (by decide)
 exact ⟨g,o,e,fun W' hb j u hj hu=>by rw [hb.cell (p:=⟨g,o + k * 5 + j,none⟩) hg,Nat.add_assoc];exact hc _ _ (by rw [inC,flat_get inR 5 (fun _=>rfl) v.inp k hk j hj];exact hu)⟩
/-- Two scripts of one content, boxed. -/
structure SN (W W3 : World) (b1 b2 : Nat) (u v : Sv) : Prop where
 bel : Below W.heap.size W W3
 x : ObjAt W3 b1 34 #[.slice u.ia u.im.length u.ic,.slice u.sa u.se.length u.sc,.slice u.na u.inp.length u.nc].toList
 y : ObjAt W3 b2 34 #[.slice v.ia v.im.length v.ic,.slice v.sa v.se.length v.sc,.slice v.na v.inp.length v.nc].toList
 cx : ScOk W3 u
 cy : ScOk W3 v
theorem SN.more {W W3 W' : World} {b1 b2 : Nat} {u v : Sv} (h : SN W W3 b1 b2 u v) (hb : Below W3.heap.size W3 W') : SN W W' b1 b2 u v:=⟨bmore h.bel hb,h.x.below hb,h.y.below hb,h.cx.below hb,h.cy.below hb⟩
theorem sn_start (W : World) (u v : Sv) (hc : ScOk W u) (hd : ScOk W v) : SN W ((W.alloc (.cells #[.slice u.ia u.im.length u.ic,.slice u.sa u.se.length u.sc,.slice u.na u.inp.length u.nc] 34)).alloc (.cells #[.slice v.ia v.im.length v.ic,.slice v.sa v.se.length v.sc,.slice v.na v.inp.length v.nc] 34)) W.heap.size (W.heap.size + 1) u v:=by
 have s1 : (W.alloc (.cells #[.slice u.ia u.im.length u.ic,.slice u.sa u.se.length u.sc,.slice u.na u.inp.length u.nc] 34)).heap.size = W.heap.size + 1:=World.size_alloc _ _
 have hb : Below W.heap.size W ((W.alloc (.cells #[.slice u.ia u.im.length u.ic,.slice u.sa u.se.length u.sc,.slice u.na u.inp.length u.nc] 34)).alloc (.cells #[.slice v.ia v.im.length v.ic,.slice v.sa v.se.length v.sc,.slice v.na v.inp.length v.nc] 34)):=((Below.refl _ _).alloc (Nat.le_refl _) _).alloc (by rw [s1];omega) _
 refine ⟨hb,(ObjAt.new W 34 #[.slice u.ia u.im.length u.ic,.slice u.sa u.se.length u.sc,.slice u.na u.inp.length u.nc].toList).below ((Below.refl _ _).alloc (Nat.le_refl _) _),?_,hc.below hb,hd.below hb⟩
 have:=ObjAt.new (W.alloc (.cells #[.slice u.ia u.im.length u.ic,.slice u.sa u.se.length u.sc,.slice u.na u.inp.length u.nc] 34)) 34 #[.slice v.ia v.im.length v.ic,.slice v.sa v.se.length v.sc,.slice v.na v.inp.length v.nc].toList
 rw [s1] at this;exact this
theorem eqSe (a : Int) (s : ByteArray) (w : World) : Sem.run Tryz.prog (Op.equalIn 10000 72 (.agg #[.int .i64 a,.string s]) (.agg #[.int .i64 a,.string s])) w = .ok true w:=by go_simp
theorem eqIn (a b c d : Int) (s : ByteArray) (w : World) : Sem.run Tryz.prog (Op.equalIn 10000 74 (.agg #[.int .i64 a,.int .i64 b,.int .i64 c,.int .i64 d,.string s]) (.agg #[.int .i64 a,.int .i64 b,.int .i64 c,.int .i64 d,.string s])) w = .ok true w:=by go_simp
theorem ssame_any (W : World) (u v : Sv) (hc : ScOk W u) (hd : ScOk W v) (he : scOf u = scOf v) : Calls Tryz.prog 11 #[.agg #[.slice u.ia u.im.length u.ic,.slice u.sa u.se.length u.sc,.slice u.na u.inp.length u.nc],.agg #[.slice v.ia v.im.length v.ic,.slice v.sa v.se.length v.sc,.slice v.na v.inp.length v.nc]] W fun e w'=>e = .returned (.bool true) ∧ Below W.heap.size W w':=by
 obtain ⟨W3,hW3⟩ : ∃ W3,W3 = (W.alloc (.cells #[.slice u.ia u.im.length u.ic,.slice u.sa u.se.length u.sc,.slice u.na u.inp.length u.nc] 34)).alloc (.cells #[.slice v.ia v.im.length v.ic,.slice v.sa v.se.length v.sc,.slice v.na v.inp.length v.nc] 34):=⟨_,rfl⟩
 obtain ⟨b1,hb1⟩ : ∃ b,b = W.heap.size:=⟨_,rfl⟩
 obtain ⟨b2,hb2⟩ : ∃ b,b = W.heap.size + 1:=⟨_,rfl⟩
 have HSM : Hid (SN W W3 b1 b2 u v):=by rw [hW3,hb1,hb2];exact sn_start W u v hc hd
 have HE1:=Lib.hid hb1
 have HE2:=Lib.hid hb2
 have HW3:=Lib.hid hW3
 clear hW3 hb1 hb2
 obtain ⟨ia,ic,im,sa,sc,se,na,nc,inp⟩:=u
 obtain ⟨ia',ic',im',sa',sc',se',na',nc',inp'⟩:=v
 simp only [scOf,Sc.mk.injEq] at he
 obtain ⟨hm,rfl,rfl⟩:=he
 have hml : im'.length = im.length:=by have:=congrArg List.length hm;simpa using this.symm
 have HROW : Hid (∀ k (h1 : k < im.length) (h2 : k < im'.length),im'[k].l = im[k].l):=fun k h1 h2=>by
  have:=congrArg (fun l=>l[k]?) hm
  simp only [List.getElem?_map,List.getElem?_eq_getElem h1,List.getElem?_eq_getElem h2,Option.map_some,Option.some.injEq] at this
  exact this.symm
 have b3 : im.length ≤ 9223372036854775807:=Nat.le_trans hc.iml hc.imx
 have b4 : se.length ≤ 9223372036854775807:=Nat.le_trans hc.sel hc.sex
 have b5 : inp.length ≤ 9223372036854775807:=Nat.le_trans hc.inl hc.inx
 have nn1 : ((im.length : Int) != (im'.length : Int)) = false:=by simp [hml]
 have nn2 : ((se.length : Int) != (se.length : Int)) = false:=by simp
 have nn3 : ((inp.length : Int) != (inp.length : Int)) = false:=by simp
 have HML:=Lib.hid hml
 have b6 : im'.length ≤ 9223372036854775807:=by omega
 clear hc hd hm hml
 go_enter Tryz.func11,Tryz.ntmps11
 go_upto_region 1 with fail
 rw [← HW3.out]
 try rw [← HE2.out]
 try rw [← HE1.out]
 (have p0:=(HSM.out).x.cell 0 _ rfl;have p1:=(HSM.out).x.cell 1 _ rfl;have p2:=(HSM.out).x.cell 2 _ rfl;have q0:=(HSM.out).y.cell 0 _ rfl;have q1:=(HSM.out).y.cell 1 _ rfl;have q2:=(HSM.out).y.cell 2 _ rfl)
 go_upto_region 4 with fail
 go_loopw [5] (fun i wr=>∃ k : Nat,k ≤ im.length ∧ i = .int .i64 k ∧ SN W wr b1 b2 ⟨ia,ic,im,sa,sc,se,na,nc,inp⟩ ⟨ia',ic',im',sa',sc',se,na',nc',inp⟩) (fun i _=>im.length - (intOf i).toNat)
 case atStart=>exact ⟨0,by omega,rfl,HSM.out⟩
 clear HSM
 (clear p0 p1 p2 q0 q1 q2)
 obtain ⟨k,hk,rfl,hsm⟩:=hrel
 have HSM:=Lib.hid hsm
 clear hsm
 (have p0:=(HSM.out).x.cell 0 _ rfl;have p1:=(HSM.out).x.cell 1 _ rfl;have p2:=(HSM.out).x.cell 2 _ rfl;have q0:=(HSM.out).y.cell 0 _ rfl;have q1:=(HSM.out).y.cell 1 _ rfl;have q2:=(HSM.out).y.cell 2 _ rfl)
 by_cases hlt : k < im.length
 case pos=>
  have hlt' : k < im'.length:=by have:=HML.out;omega
  obtain ⟨g1,o1,ha1,hc1⟩:=HSM.out.cx.im_at k hlt
  obtain ⟨g2,o2,ha2,hc2⟩:=HSM.out.cy.im_at k hlt'
  have HC1:=Lib.hid hc1
  have HC2:=Lib.hid hc2
  have HD1:=Lib.hid (HSM.out.cx.row_at k hlt)
  have HD2:=Lib.hid (HSM.out.cy.row_at k hlt')
  have hrm:=HSM.out.cx.row _ (List.getElem_mem hlt)
  have hrm':=HSM.out.cy.row _ (List.getElem_mem hlt')
  have hre:=HROW.out k hlt hlt'
  simp only at ha1 ha2 HC1 HC2 HD1 HD2 hrm hrm'
  subst ha1;subst ha2
  generalize im[k] = y1 at HC1 HD1 hrm hre
  generalize im'[k] = y2 at HC2 HD2 hrm' hre
  obtain ⟨ra,rc,rl⟩:=y1
  obtain ⟨ra',rc',rl'⟩:=y2
  simp only at hre
  subst hre
  simp only at HC1 HC2 HD1 HD2 hrm hrm'
  have b7 : rl'.length ≤ 9223372036854775807:=Nat.le_trans hrm.2.1 hrm.2.2
  have b8 : rl'.length ≤ rc:=hrm.2.1
  have b9 : rl'.length ≤ rc':=hrm'.2.1
  have nr : ((rl'.length : Int) != (rl'.length : Int)) = false:=by simp
  have d1 : decide ((k : Int) < (im.length : Int)) = true:=decide_eq_true (by omega)
  have d1' : decide (k < im.length) = true:=decide_eq_true hlt
  have d2 : decide ((k : Int) < (im'.length : Int)) = true:=decide_eq_true (by omega)
  have d2' : decide (k < im'.length) = true:=decide_eq_true hlt'
  have w1 : IntKind.i64.wrap ((k : Int) + 1) = (k : Int) + 1:=by rw [IntKind.wrap_i64];omega
  clear hc1 hc2 hrm hrm'
  have u0:=HC1.out _ (Below.refl _ _)
  have v0:=HC2.out _ (Below.refl _ _)
  go_upto_region 6 with fail
  go_region
  all_goals
   go_upto_region 9 with fail
   (clear p0 p1 p2 q0 q1 q2)
   clear u0 v0
   go_loopw [6] (fun i wr2=>∃ j : Nat,j ≤ rl'.length ∧ i = .int .i64 j ∧ Below wr.heap.size wr wr2) (fun i _=>rl'.length - (intOf i).toNat)
   case atStart=>exact ⟨0,by omega,rfl,(Below.refl _ _).drew⟩
   case round=>
    obtain ⟨j,hj,rfl,hbj⟩:=hrel
    have HS3:=Lib.hid (HSM.out.more hbj)
    have HBJ:=Lib.hid hbj
    have u0:=HC1.out _ hbj
    have v0:=HC2.out _ hbj
    clear hbj
    (have p0:=(HS3.out).x.cell 0 _ rfl;have p1:=(HS3.out).x.cell 1 _ rfl;have p2:=(HS3.out).x.cell 2 _ rfl;have q0:=(HS3.out).y.cell 0 _ rfl;have q1:=(HS3.out).y.cell 1 _ rfl;have q2:=(HS3.out).y.cell 2 _ rfl)
    by_cases hlj : j < rl'.length
    ·obtain ⟨g3,o3,rfl,hc3⟩:=HD1.out j hlj
     obtain ⟨g4,o4,rfl,hc4⟩:=HD2.out j hlj
     have u1:=hc3 _ HBJ.out
     have v1:=hc4 _ HBJ.out
     have ne : (rl'[j] != rl'[j]) = false:=by simp
     have d3 : decide ((j : Int) < (rl'.length : Int)) = true:=decide_eq_true (by omega)
     have d3' : decide (j < rl'.length) = true:=decide_eq_true hlj
     have w2 : IntKind.i64.wrap ((j : Int) + 1) = (j : Int) + 1:=by rw [IntKind.wrap_i64];omega
     clear hc3 hc4
     generalize rl'[j] = y3 at u1 v1 ne
     go_upto_region 11 with fail
     go_region
     all_goals
      go_wp2_with fail
      go_roundw
      case rel=>exact ⟨j + 1,by omega,by go_num,HBJ.out.drew⟩
      case measure=>simp [intOf];omega
    ·obtain rfl : j = rl'.length:=by omega
     have d3 : decide ((rl'.length : Int) < (rl'.length : Int)) = false:=decide_eq_false (by omega)
     go_wp2_with fail
     go_roundw
     case rel=>exact ⟨k + 1,by omega,by go_num,HS3.out⟩
     case measure=>simp [intOf];omega
 obtain rfl : k = im.length:=by omega
 have dq0 : decide ((im.length : Int) < (im.length : Int)) = false:=decide_eq_false (by omega)
 go_upto_region 14 with fail
 go_loopw [7] (fun i wr=>∃ k : Nat,k ≤ se.length ∧ i = .int .i64 k ∧ SN W wr b1 b2 ⟨ia,ic,im,sa,sc,se,na,nc,inp⟩ ⟨ia',ic',im',sa',sc',se,na',nc',inp⟩) (fun i _=>se.length - (intOf i).toNat)
 case atStart=>exact ⟨0,by omega,rfl,HSM.out⟩
 clear HSM
 (clear p0 p1 p2 q0 q1 q2)
 obtain ⟨k,hk,rfl,hsm⟩:=hrel
 have HSM:=Lib.hid hsm
 clear hsm
 (have p0:=(HSM.out).x.cell 0 _ rfl;have p1:=(HSM.out).x.cell 1 _ rfl;have p2:=(HSM.out).x.cell 2 _ rfl;have q0:=(HSM.out).y.cell 0 _ rfl;have q1:=(HSM.out).y.cell 1 _ rfl;have q2:=(HSM.out).y.cell 2 _ rfl)
 by_cases hlt : k < se.length
 case pos=>
  obtain ⟨g1,o1,ha1,hc1⟩:=HSM.out.cx.se_at k hlt
  obtain ⟨g2,o2,ha2,hc2⟩:=HSM.out.cy.se_at k hlt
  obtain ⟨rw_,hrw⟩ : ∃ x,x = se[k]:=⟨_,rfl⟩
  simp only at ha1 ha2 hc1 hc2
  subst ha1;subst ha2
  rw [← hrw] at hc1 hc2
  clear hrw
  have u0:=hc1 _ (Below.refl _ _) 0 _ (by decide) rfl;have u1:=hc1 _ (Below.refl _ _) 1 _ (by decide) rfl
  have v0:=hc2 _ (Below.refl _ _) 0 _ (by decide) rfl;have v1:=hc2 _ (Below.refl _ _) 1 _ (by decide) rfl
  simp only [Nat.add_zero] at u0 v0
  have heq:=eqSe rw_.1 (ba rw_.2)
  have d1 : decide ((k : Int) < (se.length : Int)) = true:=decide_eq_true (by omega)
  have d1' : decide (k < se.length) = true:=decide_eq_true hlt
  have w1 : IntKind.i64.wrap ((k : Int) + 1) = (k : Int) + 1:=by rw [IntKind.wrap_i64];omega
  clear hc1 hc2
  go_upto_region 16 with fail
  go_region
  all_goals
   go_wp2_with fail
   go_roundw
   case rel=>exact ⟨k + 1,by omega,by go_num,HSM.out.more (by first | exact (Below.refl _ _).drew | exact Below.refl _ _)⟩
   case measure=>simp [intOf];omega
 obtain rfl : k = se.length:=by omega
 have dq : decide ((se.length : Int) < (se.length : Int)) = false:=decide_eq_false (by omega)
 go_upto_region 19 with fail
 go_loopw [8] (fun i wr=>∃ k : Nat,k ≤ inp.length ∧ i = .int .i64 k ∧ SN W wr b1 b2 ⟨ia,ic,im,sa,sc,se,na,nc,inp⟩ ⟨ia',ic',im',sa',sc',se,na',nc',inp⟩) (fun i _=>inp.length - (intOf i).toNat)
 case atStart=>exact ⟨0,by omega,rfl,HSM.out⟩
 clear HSM
 (clear p0 p1 p2 q0 q1 q2)
 obtain ⟨k,hk,rfl,hsm⟩:=hrel
 have HSM:=Lib.hid hsm
 clear hsm
 (have p0:=(HSM.out).x.cell 0 _ rfl;have p1:=(HSM.out).x.cell 1 _ rfl;have p2:=(HSM.out).x.cell 2 _ rfl;have q0:=(HSM.out).y.cell 0 _ rfl;have q1:=(HSM.out).y.cell 1 _ rfl;have q2:=(HSM.out).y.cell 2 _ rfl)
 by_cases hlt : k < inp.length
 case pos=>
  obtain ⟨g1,o1,ha1,hc1⟩:=HSM.out.cx.in_at k hlt
  obtain ⟨g2,o2,ha2,hc2⟩:=HSM.out.cy.in_at k hlt
  obtain ⟨rw_,hrw⟩ : ∃ x,x = inp[k]:=⟨_,rfl⟩
  simp only at ha1 ha2 hc1 hc2
  subst ha1;subst ha2
  rw [← hrw] at hc1 hc2
  clear hrw
  have u0:=hc1 _ (Below.refl _ _) 0 _ (by decide) rfl;have u1:=hc1 _ (Below.refl _ _) 1 _ (by decide) rfl
  have v0:=hc2 _ (Below.refl _ _) 0 _ (by decide) rfl;have v1:=hc2 _ (Below.refl _ _) 1 _ (by decide) rfl
  simp only [Nat.add_zero] at u0 v0
  have u2:=hc1 _ (Below.refl _ _) 2 _ (by decide) rfl;have v2:=hc2 _ (Below.refl _ _) 2 _ (by decide) rfl;have u3:=hc1 _ (Below.refl _ _) 3 _ (by decide) rfl;have v3:=hc2 _ (Below.refl _ _) 3 _ (by decide) rfl;have u4:=hc1 _ (Below.refl _ _) 4 _ (by decide) rfl;have v4:=hc2 _ (Below.refl _ _) 4 _ (by decide) rfl;have heq:=eqIn rw_.1 rw_.2.1 rw_.2.2.1 rw_.2.2.2.1 (ba rw_.2.2.2.2)
  have d1 : decide ((k : Int) < (inp.length : Int)) = true:=decide_eq_true (by omega)
  have d1' : decide (k < inp.length) = true:=decide_eq_true hlt
  have w1 : IntKind.i64.wrap ((k : Int) + 1) = (k : Int) + 1:=by rw [IntKind.wrap_i64];omega
  clear hc1 hc2
  go_upto_region 21 with fail
  go_region
  all_goals
   go_wp2_with fail
   go_roundw
   case rel=>exact ⟨k + 1,by omega,by go_num,HSM.out.more (by first | exact (Below.refl _ _).drew | exact Below.refl _ _)⟩
   case measure=>simp [intOf];omega
 obtain rfl : k = inp.length:=by omega
 have dq : decide ((inp.length : Int) < (inp.length : Int)) = false:=decide_eq_false (by omega)
 go_wp2_with fail
 go_ret
 exact ⟨rfl,HSM.out.bel⟩
end Go.Proofs.YtoklonmiejdgmaaGreatDoor
