/- Chapter 4: what is wrong: ports. -/
import Derived.Test.YtoklonmiejdgmaaGreatDoorGScriptPrints3
import Derived.WalkMore
import Derived.Laws.EntriesVeiled
namespace Go.Proofs.YtoklonmiejdgmaaGreatDoor
set_option linter.unusedVariables false
set_option linter.unusedSimpArgs false
set_option linter.unnecessarySimpa false
open Go.RowKit
set_option maxHeartbeats 2000000
set_option maxRecDepth 100000
set_option linter.unusedVariables false
variable {W W' w : World} {c : Cv} {b N : Nat} {s : Sl}
theorem taken_hit {c : Cv} {who : Int} {n k : Nat} (hk : k < n) (h : at_ c.p.l k 1 = who) : takenB c who n = true:=by
 unfold takenB;rw [List.any_eq_true];exact ⟨k,List.mem_range.2 hk,by simp [h]⟩
theorem taken_none {c : Cv} {who : Int} {n : Nat} (h : ∀ k,k < n → at_ c.p.l k 1 ≠ who) : takenB c who n = false:=by
 unfold takenB;rw [List.any_eq_false];intro x hx;simpa using h x (List.mem_range.1 hx)
theorem taken_any (c : Cv) (who : Int) (n : Nat) (hn : n < c.p.l.length) (w : World) (h : CfgOk w c) : Calls Tryz.prog 134 #[(.agg #[.int .i64 c.cats,.slice c.g.a c.g.l.length c.g.cap,.slice c.r.a c.r.l.length c.r.cap,.slice c.p.a c.p.l.length c.p.cap,.slice c.n.a c.n.l.length c.n.cap,.slice c.s.a c.s.l.length c.s.cap,.int .i64 c.gate,.int .i64 c.quota]),.int .i64 who,.int .i64 n] w fun e w'=>e = .returned (.bool (takenB c who n)) ∧ Below w.heap.size w w':=by
 obtain ⟨x,hx⟩ : ∃ x,x = takenB c who n:=⟨_,rfl⟩
 rw [← hx]
 have HX:=Lib.hid hx
 have HC:=Lib.hid h
 obtain ⟨bx,ox,hax,_⟩:=h.p.cells (by omega) n hn
 have HAX:=Lib.hid hax
 have hcp:=h.p.le
 have nz : (0 : Int) ≤ (n : Int):=by omega
 have nc : (n : Int) ≤ (c.p.cap : Int):=by omega
 have nm:=h.p.mx
 clear hx hax
 (have h0:=CX.new h;go_enter Tryz.func134,Tryz.ntmps134;go_upto_region 1 with fail;generalize w.alloc (.cells #[.int .i64 c.cats,.slice c.g.a c.g.l.length c.g.cap,.slice c.r.a c.r.l.length c.r.cap,.slice c.p.a c.p.l.length c.p.cap,.slice c.n.a c.n.l.length c.n.cap,.slice c.s.a c.s.l.length c.s.cap,.int .i64 c.gate,.int .i64 c.quota] 29) = W1 at h0 ⊢;generalize w.heap.size = b0 at h0 ⊢;have H0:=Lib.hid h0;clear h0 h)
 (have q0:=H0.out.ob.cell 0 _ rfl;have q1:=H0.out.ob.cell 1 _ rfl;have q2:=H0.out.ob.cell 2 _ rfl;have q3:=H0.out.ob.cell 3 _ rfl;have q4:=H0.out.ob.cell 4 _ rfl;have q5:=H0.out.ob.cell 5 _ rfl;have q6:=H0.out.ob.cell 6 _ rfl;have q7:=H0.out.ob.cell 7 _ rfl)
 rw [HAX.out] at q3
 go_upto_region 2 with fail
 clear q0 q1 q2 q3 q4 q5 q6 q7
 go_loopw [14] (fun z wr=>∃ k : Nat,k ≤ n ∧ z = .int .i64 k ∧ Below W1.heap.size W1 wr ∧ ∀ j,j < k → at_ c.p.l j 1 ≠ who) (fun z _=>n - (intOf z).toNat)
 case atStart=>exact ⟨0,by omega,rfl,Below.refl _ _,fun j hj=>by omega⟩
 case round=>
  obtain ⟨k,hk,rfl,hb,hnt⟩:=hrel
  have HB:=Lib.hid hb
  have NT:=Lib.hid hnt
  clear hb hnt
  by_cases hkl : k < n
  ·have d1 : decide ((k : Int) < (n : Int)) = true:=by simp;omega
   have kz : (0 : Int) ≤ (k : Int):=by omega
   have kl : (k : Int) < (n : Int):=by omega
   have w1 : IntKind.i64.wrap ((k : Int) + 1) = (k : Int) + 1:=by rw [IntKind.wrap_i64];omega
   have hkp : k < c.p.l.length:=by omega
   obtain ⟨bx2,ox2,hax,hcx⟩:=HC.out.p.cells (by omega) k hkp
   rw [HAX.out] at hax
   obtain ⟨rfl,rfl⟩ : bx = bx2 ∧ ox = ox2:=by simpa using hax
   obtain ⟨y,z,hrow⟩:=row2 hkp HC.out.p.len
   have hat : at_ c.p.l k 1 = z:=by rw [at_eq hkp,hrow];rfl
   have HAT:=Lib.hid hat
   rw [hrow] at hcx
   have hb2:=H0.out.bel.trans (HB.out.mono H0.out.bel.size)
   have c0:=hcx _ hb2 0 _ rfl;have c1:=hcx _ hb2 1 _ rfl
   simp only [Nat.add_zero] at c0
   clear hb2 hcx hrow hat hax
   by_cases hz : z = who
   ·have dz : (z == who) = true:=by simp [hz]
    have hx : x = true:=by rw [HX.out];exact taken_hit hkl (by rw [HAT.out,hz])
    subst hx
    clear hz
    go_wp2_with fail
    go_ret
    exact ⟨rfl,(H0.out.bel.trans (HB.out.mono H0.out.bel.size)).alloc (H0.out.bel.trans (HB.out.mono H0.out.bel.size)).size _⟩
   ·have dz : (z == who) = false:=by simp [hz]
    have HZ:=Lib.hid hz
    clear hz
    go_wp2_with fail
    go_roundw
    case rel=>exact ⟨k + 1,by omega,by go_num,HB.out.alloc HB.out.size _,fun j hj=>by
     by_cases hjk : j = k
     ·rw [hjk,HAT.out];exact HZ.out
     ·exact NT.out j (by omega)⟩
    case measure=>simp [intOf];omega
  ·have d1 : decide ((k : Int) < (n : Int)) = false:=by simp;omega
   have hx : x = false:=by rw [HX.out];exact taken_none (fun j hj=>NT.out j (by omega))
   subst hx
   go_wp2_with fail
   go_ret
   exact ⟨rfl,H0.out.bel.trans (HB.out.mono H0.out.bel.size)⟩
theorem ports1_any (c : Cv) (i : Nat) (hi : i < c.p.l.length) (b : Nat) (w W : World) (h : CX w W b c) : Calls Tryz.prog 132 #[.int .i64 i,.pointer (some ⟨b,0,none⟩)] W fun e W'=>e = .returned (.bool (pBad c i)) ∧ Below W.heap.size W W':=by
 obtain ⟨bx,ox,hax,hcx⟩:=h.ok.p.cells (by omega) i hi
 obtain ⟨lb,gu,hrow⟩:=row2 hi h.ok.p.len
 rw [hrow] at hcx
 have c0:=hcx _ (Below.refl _ _) 0 _ rfl;have c1:=hcx _ (Below.refl _ _) 1 _ rfl
 simp only [Nat.add_zero] at c0
 have kz : (0 : Int) ≤ (i : Int):=by omega
 have kl : (i : Int) < (c.p.l.length : Int):=by omega
 obtain ⟨x,hx⟩ : ∃ x,x = pBad c i:=⟨_,rfl⟩
 have HG : Hid (x = (!(validB lb c.cats) || (!(gu == -1) && (!(isG c gu) || (!(lb == labG c gu) || takenB c gu i))))):=by rw [Hid,hx,pBad,at_eq hi,at_eq hi,hrow];rfl
 rw [← hx]
 have HX:=Lib.hid h
 have q3:=HX.out.ob.cell 3 _ rfl
 rw [hax] at q3
 clear hx hrow hcx h hax
 go_enter Tryz.func132,Tryz.ntmps132
 go_upto_region 2 with fail
 clear q3 c0 c1
 (have R1 : Hid (ObjAt (W.alloc (.cells ([.int .i64 lb,.int .i64 gu] : List Value).toArray 134)) W.heap.size 134 [.int .i64 lb,.int .i64 gu]):=ObjAt.new W _ _;have B1 : Hid (Below W.heap.size W (W.alloc (.cells ([.int .i64 lb,.int .i64 gu] : List Value).toArray 134))):=(Below.refl _ _).alloc (Nat.le_refl _) _;generalize W.alloc (.cells ([.int .i64 lb,.int .i64 gu] : List Value).toArray 134) = W1 at R1 B1 ⊢;have X1 : Hid (CX w W1 b c):=HX.out.below B1.out)
 generalize W.heap.size = rb at R1 ⊢
 have XK:=X1
 have BL : Hid (Below W1.heap.size W1 W1):=Below.refl _ _
 have RR : Hid (∀ W',Below W1.heap.size W1 W' → W'.cell? ⟨rb,0,none⟩ = some (.int .i64 lb) ∧ W'.cell? ⟨rb,1,none⟩ = some (.int .i64 gu)):=fun W' hb=>⟨(R1.out.below hb).cell 0 _ rfl,(R1.out.below hb).cell 1 _ rfl⟩
 have r0:=(RR.out _ BL.out).1;have r1:=(RR.out _ BL.out).2
 (have q0:=XK.out.ob.cell 0 _ rfl;have q1:=XK.out.ob.cell 1 _ rfl;have q2:=XK.out.ob.cell 2 _ rfl;have q3:=XK.out.ob.cell 3 _ rfl;have q4:=XK.out.ob.cell 4 _ rfl;have q5:=XK.out.ob.cell 5 _ rfl;have q6:=XK.out.ob.cell 6 _ rfl;have q7:=XK.out.ob.cell 7 _ rfl)
 obtain ⟨vb,hvb⟩ : ∃ v,v = validB lb c.cats:=⟨_,rfl⟩
 have VAL : Hid (∀ W,Calls Tryz.prog 128 #[.int .i64 lb,.int .i64 c.cats] W fun e w'=>e = .returned (.bool vb) ∧ W = w'):=fun W=>by rw [hvb];exact valid_any _ _ _
 rw [← hvb] at HG
 clear hvb
 cases vb with
 | false=>
  (have hx : x = true:=(by rw [HG.out];simp [*]);subst hx)
  (go_wp2_with (first | (go_at_call 128;refine (VAL.out _).mono ?_;rintro e Wv ⟨rfl,rfl⟩) | (go_at_call 133;refine (guest_any c _ _ XK.out.ok).mono ?_;rintro e Wg ⟨rfl,hb⟩;replace XK:=Lib.hid (XK.out.below hb);replace BL:=Lib.hid (bmore BL.out hb);clear hb;replace r0:=(RR.out _ BL.out).1;replace r1:=(RR.out _ BL.out).2;replace q0:=XK.out.ob.cell 0 _ rfl;replace q1:=XK.out.ob.cell 1 _ rfl;replace q2:=XK.out.ob.cell 2 _ rfl;replace q3:=XK.out.ob.cell 3 _ rfl;replace q4:=XK.out.ob.cell 4 _ rfl;replace q5:=XK.out.ob.cell 5 _ rfl;replace q6:=XK.out.ob.cell 6 _ rfl;replace q7:=XK.out.ob.cell 7 _ rfl));go_ret;exact ⟨rfl,B1.out.trans (BL.out.mono B1.out.size)⟩)
 | true=>
  by_cases hm : gu = -1
  ·have dm : (gu == -1) = true:=by simp [hm]
   have hx : x = false:=by rw [HG.out,dm];simp
   subst hx
   clear hm
   (go_wp2_with (first | (go_at_call 128;refine (VAL.out _).mono ?_;rintro e Wv ⟨rfl,rfl⟩) | (go_at_call 133;refine (guest_any c _ _ XK.out.ok).mono ?_;rintro e Wg ⟨rfl,hb⟩;replace XK:=Lib.hid (XK.out.below hb);replace BL:=Lib.hid (bmore BL.out hb);clear hb;replace r0:=(RR.out _ BL.out).1;replace r1:=(RR.out _ BL.out).2;replace q0:=XK.out.ob.cell 0 _ rfl;replace q1:=XK.out.ob.cell 1 _ rfl;replace q2:=XK.out.ob.cell 2 _ rfl;replace q3:=XK.out.ob.cell 3 _ rfl;replace q4:=XK.out.ob.cell 4 _ rfl;replace q5:=XK.out.ob.cell 5 _ rfl;replace q6:=XK.out.ob.cell 6 _ rfl;replace q7:=XK.out.ob.cell 7 _ rfl));go_ret;exact ⟨rfl,B1.out.trans (BL.out.mono B1.out.size)⟩)
  ·have dm : (gu == -1) = false:=by simp [hm]
   clear hm
   cases hva : isG c gu with
   | false=>
    have hx : x = true:=by rw [HG.out,dm,hva];simp
    subst hx
    (go_wp2_with (first | (go_at_call 128;refine (VAL.out _).mono ?_;rintro e Wv ⟨rfl,rfl⟩) | (go_at_call 133;refine (guest_any c _ _ XK.out.ok).mono ?_;rintro e Wg ⟨rfl,hb⟩;replace XK:=Lib.hid (XK.out.below hb);replace BL:=Lib.hid (bmore BL.out hb);clear hb;replace r0:=(RR.out _ BL.out).1;replace r1:=(RR.out _ BL.out).2;replace q0:=XK.out.ob.cell 0 _ rfl;replace q1:=XK.out.ob.cell 1 _ rfl;replace q2:=XK.out.ob.cell 2 _ rfl;replace q3:=XK.out.ob.cell 3 _ rfl;replace q4:=XK.out.ob.cell 4 _ rfl;replace q5:=XK.out.ob.cell 5 _ rfl;replace q6:=XK.out.ob.cell 6 _ rfl;replace q7:=XK.out.ob.cell 7 _ rfl));go_ret;exact ⟨rfl,B1.out.trans (BL.out.mono B1.out.size)⟩)
   | true=>
    have hx0 : x = (!(lb == labG c gu) || takenB c gu i):=by rw [HG.out,dm,hva];simp
    have HG2:=Lib.hid hx0
    clear hx0 HG
    go_upto_region 8 with (first | (go_at_call 128;refine (VAL.out _).mono ?_;rintro e Wv ⟨rfl,rfl⟩) | (go_at_call 133;refine (guest_any c _ _ XK.out.ok).mono ?_;rintro e Wg ⟨rfl,hb⟩;replace XK:=Lib.hid (XK.out.below hb);replace BL:=Lib.hid (bmore BL.out hb);clear hb;replace r0:=(RR.out _ BL.out).1;replace r1:=(RR.out _ BL.out).2;replace q0:=XK.out.ob.cell 0 _ rfl;replace q1:=XK.out.ob.cell 1 _ rfl;replace q2:=XK.out.ob.cell 2 _ rfl;replace q3:=XK.out.ob.cell 3 _ rfl;replace q4:=XK.out.ob.cell 4 _ rfl;replace q5:=XK.out.ob.cell 5 _ rfl;replace q6:=XK.out.ob.cell 6 _ rfl;replace q7:=XK.out.ob.cell 7 _ rfl))
    have ga:=(isG_iff c gu).1 hva
    obtain ⟨g',hf'⟩ : ∃ f' : Nat,gu = f':=⟨gu.toNat,by omega⟩
    have hfl : g' < c.g.l.length:=by omega
    obtain ⟨gx,go,hga,hgc⟩:=XK.out.ok.g.cells (by omega) g' hfl
    obtain ⟨la,y1,z1,hr1⟩:=row3 hfl XK.out.ok.g.len
    have l1 : labG c gu = la:=by rw [labG,hf',Int.toNat_natCast,at_eq hfl,hr1];rfl
    rw [hr1] at hgc
    obtain ⟨tb,htb⟩ : ∃ v,v = takenB c gu i:=⟨_,rfl⟩
    have TAK : Hid (∀ W,CfgOk W c → Calls Tryz.prog 134 #[.agg #[.int .i64 c.cats,.slice (some ⟨gx,go,none⟩) c.g.l.length c.g.cap,.slice c.r.a c.r.l.length c.r.cap,.slice c.p.a c.p.l.length c.p.cap,.slice c.n.a c.n.l.length c.n.cap,.slice c.s.a c.s.l.length c.s.cap,.int .i64 c.gate,.int .i64 c.quota],.int .i64 g',.int .i64 i] W fun e w'=>e = .returned (.bool tb) ∧ Below W.heap.size W w'):=fun W h=>by rw [htb,hf',← hga];exact taken_any _ _ _ hi _ h
    have HG3 : Hid (x = (!(lb == la) || tb)):=by rw [Hid,HG2.out,l1,htb]
    have S3K : Hid (∀ W',Below W1.heap.size W1 W' → Below Wg.heap.size Wg W' → W'.cell? ⟨rb,0,none⟩ = some (.int .i64 lb) ∧ W'.cell? ⟨rb,1,none⟩ = some (.int .i64 g') ∧ W'.cell? ⟨b,0,none⟩ = some (.int .i64 c.cats) ∧ W'.cell? ⟨b,1,none⟩ = some (.slice (some ⟨gx,go,none⟩) c.g.l.length c.g.cap) ∧ W'.cell? ⟨b,2,none⟩ = some (.slice c.r.a c.r.l.length c.r.cap) ∧ W'.cell? ⟨b,3,none⟩ = some (.slice c.p.a c.p.l.length c.p.cap) ∧ W'.cell? ⟨b,4,none⟩ = some (.slice c.n.a c.n.l.length c.n.cap) ∧ W'.cell? ⟨b,5,none⟩ = some (.slice c.s.a c.s.l.length c.s.cap) ∧ W'.cell? ⟨b,6,none⟩ = some (.int .i64 c.gate) ∧ W'.cell? ⟨b,7,none⟩ = some (.int .i64 c.quota) ∧ W'.cell? ⟨gx,go + g' * 3,none⟩ = some (.int .i64 la)):=fun W' hb hb2=>by
     have X:=(XK.out.below hb2).ob
     refine ⟨(RR.out _ hb).1,by rw [← hf'];exact (RR.out _ hb).2,X.cell 0 _ rfl,by rw [← hga];exact X.cell 1 _ rfl,X.cell 2 _ rfl,X.cell 3 _ rfl,X.cell 4 _ rfl,X.cell 5 _ rfl,X.cell 6 _ rfl,X.cell 7 _ rfl,?_⟩
     have:=hgc _ hb2 0 _ rfl
     simpa only [Nat.add_zero] using this
    have k1 : (g' : Int) < (c.g.l.length : Int):=by omega
    have k3 : (0 : Int) ≤ (g' : Int):=by omega
    clear ga hga hgc hr1 l1 hva dm RR hf' hfl HG2 htb q0 q1 q2 q3 q4 q5 q6 q7 r0 r1
    replace BL:=Lib.hid BL.out.drew
    have BL2 : Hid (Below Wg.heap.size Wg Wg.drew):=(Below.refl _ _).drew
    replace XK:=Lib.hid (XK.out.below BL2.out)
    cases hq : (lb == la) with
    | false=>
     have dn : (lb != la) = true:=by rw [bne,hq];rfl
     have hx : x = true:=by rw [HG3.out,hq];simp
     subst hx
     clear hq HG3
     (refine wp_region_held_drew (S:=fun W'=>W'.cell? ⟨rb,0,none⟩ = some (.int .i64 lb) ∧ W'.cell? ⟨rb,1,none⟩ = some (.int .i64 g') ∧ W'.cell? ⟨b,0,none⟩ = some (.int .i64 c.cats) ∧ W'.cell? ⟨b,1,none⟩ = some (.slice (some ⟨gx,go,none⟩) c.g.l.length c.g.cap) ∧ W'.cell? ⟨b,2,none⟩ = some (.slice c.r.a c.r.l.length c.r.cap) ∧ W'.cell? ⟨b,3,none⟩ = some (.slice c.p.a c.p.l.length c.p.cap) ∧ W'.cell? ⟨b,4,none⟩ = some (.slice c.n.a c.n.l.length c.n.cap) ∧ W'.cell? ⟨b,5,none⟩ = some (.slice c.s.a c.s.l.length c.s.cap) ∧ W'.cell? ⟨b,6,none⟩ = some (.int .i64 c.gate) ∧ W'.cell? ⟨b,7,none⟩ = some (.int .i64 c.quota) ∧ W'.cell? ⟨gx,go + g' * 3,none⟩ = some (.int .i64 la)) (by kernel_rfl) (S3K.out _ BL.out BL2.out) (fun hHeld=>?_);((first | (refine wpAnyH_take (i:=0) (v:=undef) rfl (by kernel_rfl) (by kernel_rfl) (by kernel_rfl) (fun _ _ _ h=>h) (Or.inr ⟨?_,rfl⟩) (by assumption) ?_;(exact rfl);(try simp only [Act.put,List.getElem_toArray,List.getElem_cons_succ,List.getElem_cons_zero,List.setIfInBounds_toArray,List.set_cons_zero,List.set_cons_succ])) | (refine wpAnyH_take (i:=0) (v:=?_) rfl (by kernel_rfl) (by kernel_rfl) (by kernel_rfl) (fun _ _ _ h=>h) (Or.inl ⟨by rfl,?_⟩) (by assumption) ?_;rotate_left;(focus ((intro w hSw;(try dsimp only at hSw);go_simp);try with_reducible rfl));(try simp only [Act.put,List.getElem_toArray,List.getElem_cons_succ,List.getElem_cons_zero,List.setIfInBounds_toArray,List.set_cons_zero,List.set_cons_succ])));(first | (refine wpAnyH_take (i:=1) (v:=undef) rfl (by kernel_rfl) (by kernel_rfl) (by kernel_rfl) (fun _ _ _ h=>h) (Or.inr ⟨?_,rfl⟩) (by assumption) ?_;(exact rfl);(try simp only [Act.put,List.getElem_toArray,List.getElem_cons_succ,List.getElem_cons_zero,List.setIfInBounds_toArray,List.set_cons_zero,List.set_cons_succ])) | (refine wpAnyH_take (i:=1) (v:=?_) rfl (by kernel_rfl) (by kernel_rfl) (by kernel_rfl) (fun _ _ _ h=>h) (Or.inl ⟨by rfl,?_⟩) (by assumption) ?_;rotate_left;(focus ((intro w hSw;(try dsimp only at hSw);go_simp);try with_reducible rfl));(try simp only [Act.put,List.getElem_toArray,List.getElem_cons_succ,List.getElem_cons_zero,List.setIfInBounds_toArray,List.set_cons_zero,List.set_cons_succ])));(first | (refine wpAnyH_take (i:=2) (v:=undef) rfl (by kernel_rfl) (by kernel_rfl) (by kernel_rfl) (fun _ _ _ h=>h) (Or.inr ⟨?_,rfl⟩) (by assumption) ?_;(exact rfl);(try simp only [Act.put,List.getElem_toArray,List.getElem_cons_succ,List.getElem_cons_zero,List.setIfInBounds_toArray,List.set_cons_zero,List.set_cons_succ])) | (refine wpAnyH_take (i:=2) (v:=?_) rfl (by kernel_rfl) (by kernel_rfl) (by kernel_rfl) (fun _ _ _ h=>h) (Or.inl ⟨by rfl,?_⟩) (by assumption) ?_;rotate_left;(focus ((intro w hSw;(try dsimp only at hSw);go_simp);try with_reducible rfl));(try simp only [Act.put,List.getElem_toArray,List.getElem_cons_succ,List.getElem_cons_zero,List.setIfInBounds_toArray,List.set_cons_zero,List.set_cons_succ])));(first | (refine wpAnyH_take (i:=3) (v:=undef) rfl (by kernel_rfl) (by kernel_rfl) (by kernel_rfl) (fun _ _ _ h=>h) (Or.inr ⟨?_,rfl⟩) (by assumption) ?_;(exact rfl);(try simp only [Act.put,List.getElem_toArray,List.getElem_cons_succ,List.getElem_cons_zero,List.setIfInBounds_toArray,List.set_cons_zero,List.set_cons_succ])) | (refine wpAnyH_take (i:=3) (v:=?_) rfl (by kernel_rfl) (by kernel_rfl) (by kernel_rfl) (fun _ _ _ h=>h) (Or.inl ⟨by rfl,?_⟩) (by assumption) ?_;rotate_left;(focus ((intro w hSw;(try dsimp only at hSw);go_simp);try with_reducible rfl));(try simp only [Act.put,List.getElem_toArray,List.getElem_cons_succ,List.getElem_cons_zero,List.setIfInBounds_toArray,List.set_cons_zero,List.set_cons_succ])));(first | (refine wpAnyH_take (i:=4) (v:=undef) rfl (by kernel_rfl) (by kernel_rfl) (by kernel_rfl) (fun _ _ _ h=>h) (Or.inr ⟨?_,rfl⟩) (by assumption) ?_;(exact rfl);(try simp only [Act.put,List.getElem_toArray,List.getElem_cons_succ,List.getElem_cons_zero,List.setIfInBounds_toArray,List.set_cons_zero,List.set_cons_succ])) | (refine wpAnyH_take (i:=4) (v:=?_) rfl (by kernel_rfl) (by kernel_rfl) (by kernel_rfl) (fun _ _ _ h=>h) (Or.inl ⟨by rfl,?_⟩) (by assumption) ?_;rotate_left;(focus ((intro w hSw;(try dsimp only at hSw);go_simp);try with_reducible rfl));(try simp only [Act.put,List.getElem_toArray,List.getElem_cons_succ,List.getElem_cons_zero,List.setIfInBounds_toArray,List.set_cons_zero,List.set_cons_succ])));(first | (refine wpAnyH_take (i:=5) (v:=undef) rfl (by kernel_rfl) (by kernel_rfl) (by kernel_rfl) (fun _ _ _ h=>h) (Or.inr ⟨?_,rfl⟩) (by assumption) ?_;(exact rfl);(try simp only [Act.put,List.getElem_toArray,List.getElem_cons_succ,List.getElem_cons_zero,List.setIfInBounds_toArray,List.set_cons_zero,List.set_cons_succ])) | (refine wpAnyH_take (i:=5) (v:=?_) rfl (by kernel_rfl) (by kernel_rfl) (by kernel_rfl) (fun _ _ _ h=>h) (Or.inl ⟨by rfl,?_⟩) (by assumption) ?_;rotate_left;(focus ((intro w hSw;(try dsimp only at hSw);go_simp);try with_reducible rfl));(try simp only [Act.put,List.getElem_toArray,List.getElem_cons_succ,List.getElem_cons_zero,List.setIfInBounds_toArray,List.set_cons_zero,List.set_cons_succ])));(first | (refine wpAnyH_take (i:=6) (v:=undef) rfl (by kernel_rfl) (by kernel_rfl) (by kernel_rfl) (fun _ _ _ h=>h) (Or.inr ⟨?_,rfl⟩) (by assumption) ?_;(exact rfl);(try simp only [Act.put,List.getElem_toArray,List.getElem_cons_succ,List.getElem_cons_zero,List.setIfInBounds_toArray,List.set_cons_zero,List.set_cons_succ])) | (refine wpAnyH_take (i:=6) (v:=?_) rfl (by kernel_rfl) (by kernel_rfl) (by kernel_rfl) (fun _ _ _ h=>h) (Or.inl ⟨by rfl,?_⟩) (by assumption) ?_;rotate_left;(focus ((intro w hSw;(try dsimp only at hSw);go_simp);try with_reducible rfl));(try simp only [Act.put,List.getElem_toArray,List.getElem_cons_succ,List.getElem_cons_zero,List.setIfInBounds_toArray,List.set_cons_zero,List.set_cons_succ])));(first | (refine wpAnyH_take (i:=7) (v:=undef) rfl (by kernel_rfl) (by kernel_rfl) (by kernel_rfl) (fun _ _ _ h=>h) (Or.inr ⟨?_,rfl⟩) (by assumption) ?_;(exact rfl);(try simp only [Act.put,List.getElem_toArray,List.getElem_cons_succ,List.getElem_cons_zero,List.setIfInBounds_toArray,List.set_cons_zero,List.set_cons_succ])) | (refine wpAnyH_take (i:=7) (v:=?_) rfl (by kernel_rfl) (by kernel_rfl) (by kernel_rfl) (fun _ _ _ h=>h) (Or.inl ⟨by rfl,?_⟩) (by assumption) ?_;rotate_left;(focus ((intro w hSw;(try dsimp only at hSw);go_simp);try with_reducible rfl));(try simp only [Act.put,List.getElem_toArray,List.getElem_cons_succ,List.getElem_cons_zero,List.setIfInBounds_toArray,List.set_cons_zero,List.set_cons_succ])));(first | (refine wpAnyH_take (i:=8) (v:=undef) rfl (by kernel_rfl) (by kernel_rfl) (by kernel_rfl) (fun _ _ _ h=>h) (Or.inr ⟨?_,rfl⟩) (by assumption) ?_;(exact rfl);(try simp only [Act.put,List.getElem_toArray,List.getElem_cons_succ,List.getElem_cons_zero,List.setIfInBounds_toArray,List.set_cons_zero,List.set_cons_succ])) | (refine wpAnyH_take (i:=8) (v:=?_) rfl (by kernel_rfl) (by kernel_rfl) (by kernel_rfl) (fun _ _ _ h=>h) (Or.inl ⟨by rfl,?_⟩) (by assumption) ?_;rotate_left;(focus ((intro w hSw;(try dsimp only at hSw);go_simp);try with_reducible rfl));(try simp only [Act.put,List.getElem_toArray,List.getElem_cons_succ,List.getElem_cons_zero,List.setIfInBounds_toArray,List.set_cons_zero,List.set_cons_succ])));(first | (refine wpAnyH_take (i:=9) (v:=undef) rfl (by kernel_rfl) (by kernel_rfl) (by kernel_rfl) (fun _ _ _ h=>h) (Or.inr ⟨?_,rfl⟩) (by assumption) ?_;(exact rfl);(try simp only [Act.put,List.getElem_toArray,List.getElem_cons_succ,List.getElem_cons_zero,List.setIfInBounds_toArray,List.set_cons_zero,List.set_cons_succ])) | (refine wpAnyH_take (i:=9) (v:=?_) rfl (by kernel_rfl) (by kernel_rfl) (by kernel_rfl) (fun _ _ _ h=>h) (Or.inl ⟨by rfl,?_⟩) (by assumption) ?_;rotate_left;(focus ((intro w hSw;(try dsimp only at hSw);go_simp);try with_reducible rfl));(try simp only [Act.put,List.getElem_toArray,List.getElem_cons_succ,List.getElem_cons_zero,List.setIfInBounds_toArray,List.set_cons_zero,List.set_cons_succ])));(first | (refine wpAnyH_take (i:=10) (v:=undef) rfl (by kernel_rfl) (by kernel_rfl) (by kernel_rfl) (fun _ _ _ h=>h) (Or.inr ⟨?_,rfl⟩) (by assumption) ?_;(exact rfl);(try simp only [Act.put,List.getElem_toArray,List.getElem_cons_succ,List.getElem_cons_zero,List.setIfInBounds_toArray,List.set_cons_zero,List.set_cons_succ])) | (refine wpAnyH_take (i:=10) (v:=?_) rfl (by kernel_rfl) (by kernel_rfl) (by kernel_rfl) (fun _ _ _ h=>h) (Or.inl ⟨by rfl,?_⟩) (by assumption) ?_;rotate_left;(focus ((intro w hSw;(try dsimp only at hSw);go_simp);try with_reducible rfl));(try simp only [Act.put,List.getElem_toArray,List.getElem_cons_succ,List.getElem_cons_zero,List.setIfInBounds_toArray,List.set_cons_zero,List.set_cons_succ])));(first | (refine wpAnyH_take (i:=11) (v:=undef) rfl (by kernel_rfl) (by kernel_rfl) (by kernel_rfl) (fun _ _ _ h=>h) (Or.inr ⟨?_,rfl⟩) (by assumption) ?_;(exact rfl);(try simp only [Act.put,List.getElem_toArray,List.getElem_cons_succ,List.getElem_cons_zero,List.setIfInBounds_toArray,List.set_cons_zero,List.set_cons_succ])) | (refine wpAnyH_take (i:=11) (v:=?_) rfl (by kernel_rfl) (by kernel_rfl) (by kernel_rfl) (fun _ _ _ h=>h) (Or.inl ⟨by rfl,?_⟩) (by assumption) ?_;rotate_left;(focus ((intro w hSw;(try dsimp only at hSw);go_simp);try with_reducible rfl));(try simp only [Act.put,List.getElem_toArray,List.getElem_cons_succ,List.getElem_cons_zero,List.setIfInBounds_toArray,List.set_cons_zero,List.set_cons_succ])));(first | (refine wpAnyH_take (i:=12) (v:=undef) rfl (by kernel_rfl) (by kernel_rfl) (by kernel_rfl) (fun _ _ _ h=>h) (Or.inr ⟨?_,rfl⟩) (by assumption) ?_;(exact rfl);(try simp only [Act.put,List.getElem_toArray,List.getElem_cons_succ,List.getElem_cons_zero,List.setIfInBounds_toArray,List.set_cons_zero,List.set_cons_succ])) | (refine wpAnyH_take (i:=12) (v:=?_) rfl (by kernel_rfl) (by kernel_rfl) (by kernel_rfl) (fun _ _ _ h=>h) (Or.inl ⟨by rfl,?_⟩) (by assumption) ?_;rotate_left;(focus ((intro w hSw;(try dsimp only at hSw);go_simp);try with_reducible rfl));(try simp only [Act.put,List.getElem_toArray,List.getElem_cons_succ,List.getElem_cons_zero,List.setIfInBounds_toArray,List.set_cons_zero,List.set_cons_succ])));(first | (refine wpAnyH_take (i:=13) (v:=undef) rfl (by kernel_rfl) (by kernel_rfl) (by kernel_rfl) (fun _ _ _ h=>h) (Or.inr ⟨?_,rfl⟩) (by assumption) ?_;(exact rfl);(try simp only [Act.put,List.getElem_toArray,List.getElem_cons_succ,List.getElem_cons_zero,List.setIfInBounds_toArray,List.set_cons_zero,List.set_cons_succ])) | (refine wpAnyH_take (i:=13) (v:=?_) rfl (by kernel_rfl) (by kernel_rfl) (by kernel_rfl) (fun _ _ _ h=>h) (Or.inl ⟨by rfl,?_⟩) (by assumption) ?_;rotate_left;(focus ((intro w hSw;(try dsimp only at hSw);go_simp);try with_reducible rfl));(try simp only [Act.put,List.getElem_toArray,List.getElem_cons_succ,List.getElem_cons_zero,List.setIfInBounds_toArray,List.set_cons_zero,List.set_cons_succ])));(first | (refine wpAnyH_take (i:=14) (v:=undef) rfl (by kernel_rfl) (by kernel_rfl) (by kernel_rfl) (fun _ _ _ h=>h) (Or.inr ⟨?_,rfl⟩) (by assumption) ?_;(exact rfl);(try simp only [Act.put,List.getElem_toArray,List.getElem_cons_succ,List.getElem_cons_zero,List.setIfInBounds_toArray,List.set_cons_zero,List.set_cons_succ])) | (refine wpAnyH_take (i:=14) (v:=?_) rfl (by kernel_rfl) (by kernel_rfl) (by kernel_rfl) (fun _ _ _ h=>h) (Or.inl ⟨by rfl,?_⟩) (by assumption) ?_;rotate_left;(focus ((intro w hSw;(try dsimp only at hSw);go_simp);try with_reducible rfl));(try simp only [Act.put,List.getElem_toArray,List.getElem_cons_succ,List.getElem_cons_zero,List.setIfInBounds_toArray,List.set_cons_zero,List.set_cons_succ])));(first | (refine wpAnyH_take (i:=15) (v:=undef) rfl (by kernel_rfl) (by kernel_rfl) (by kernel_rfl) (fun _ _ _ h=>h) (Or.inr ⟨?_,rfl⟩) (by assumption) ?_;(exact rfl);(try simp only [Act.put,List.getElem_toArray,List.getElem_cons_succ,List.getElem_cons_zero,List.setIfInBounds_toArray,List.set_cons_zero,List.set_cons_succ])) | (refine wpAnyH_ready (rs:=[15]) (by kernel_rfl) (by simp) ?_;refine AllReadyH.cons rfl (fun Kq hKq=>?_) AllReadyH.nil;go_simp;(go_at_call 134;refine (TAK.out _ XK.out.ok).mono ?_;rintro e Wt ⟨rfl,hb⟩;replace XK:=Lib.hid (XK.out.below hb);replace BL:=Lib.hid (bmore BL.out hb);replace BL2:=Lib.hid (bmore BL2.out hb);clear hb);(try dsimp only);refine hKq.out _ _ (S3K.out _ BL.out BL2.out) (fun hHeld=>?_);clear hKq Kq;(try simp only [Act.put,List.getElem_toArray,List.getElem_cons_succ,List.getElem_cons_zero,List.setIfInBounds_toArray,List.set_cons_zero,List.set_cons_succ])));(first | (refine wpAnyH_take (i:=16) (v:=undef) rfl (by kernel_rfl) (by kernel_rfl) (by kernel_rfl) (fun _ _ _ h=>h) (Or.inr ⟨?_,rfl⟩) (by assumption) ?_;(exact rfl);(try simp only [Act.put,List.getElem_toArray,List.getElem_cons_succ,List.getElem_cons_zero,List.setIfInBounds_toArray,List.set_cons_zero,List.set_cons_succ])) | (refine wpAnyH_take (i:=16) (v:=?_) rfl (by kernel_rfl) (by kernel_rfl) (by kernel_rfl) (fun _ _ _ h=>h) (Or.inl ⟨by rfl,?_⟩) (by assumption) ?_;rotate_left;(focus ((intro w hSw;(try dsimp only at hSw);go_simp);try with_reducible rfl));(try simp only [Act.put,List.getElem_toArray,List.getElem_cons_succ,List.getElem_cons_zero,List.setIfInBounds_toArray,List.set_cons_zero,List.set_cons_succ])));(first | (refine wpAnyH_take (i:=17) (v:=undef) rfl (by kernel_rfl) (by kernel_rfl) (by kernel_rfl) (fun _ _ _ h=>h) (Or.inr ⟨?_,rfl⟩) (by assumption) ?_;(exact rfl);(try simp only [Act.put,List.getElem_toArray,List.getElem_cons_succ,List.getElem_cons_zero,List.setIfInBounds_toArray,List.set_cons_zero,List.set_cons_succ])) | (refine wpAnyH_take (i:=17) (v:=?_) rfl (by kernel_rfl) (by kernel_rfl) (by kernel_rfl) (fun _ _ _ h=>h) (Or.inl ⟨by rfl,?_⟩) (by assumption) ?_;rotate_left;(focus ((intro w hSw;(try dsimp only at hSw);go_simp);try with_reducible rfl));(try simp only [Act.put,List.getElem_toArray,List.getElem_cons_succ,List.getElem_cons_zero,List.setIfInBounds_toArray,List.set_cons_zero,List.set_cons_succ])));refine wpAnyH_done (by kernel_rfl) ?_ _);go_wp2_with fail;go_ret;exact ⟨rfl,B1.out.trans (BL.out.mono B1.out.size)⟩)
    | true=>
     have dn : (lb != la) = false:=by rw [bne,hq];rfl
     have hx : x = tb:=by rw [HG3.out,hq];simp
     subst hx
     clear hq HG3
     cases x with
     | false=>(refine wp_region_held_drew (S:=fun W'=>W'.cell? ⟨rb,0,none⟩ = some (.int .i64 lb) ∧ W'.cell? ⟨rb,1,none⟩ = some (.int .i64 g') ∧ W'.cell? ⟨b,0,none⟩ = some (.int .i64 c.cats) ∧ W'.cell? ⟨b,1,none⟩ = some (.slice (some ⟨gx,go,none⟩) c.g.l.length c.g.cap) ∧ W'.cell? ⟨b,2,none⟩ = some (.slice c.r.a c.r.l.length c.r.cap) ∧ W'.cell? ⟨b,3,none⟩ = some (.slice c.p.a c.p.l.length c.p.cap) ∧ W'.cell? ⟨b,4,none⟩ = some (.slice c.n.a c.n.l.length c.n.cap) ∧ W'.cell? ⟨b,5,none⟩ = some (.slice c.s.a c.s.l.length c.s.cap) ∧ W'.cell? ⟨b,6,none⟩ = some (.int .i64 c.gate) ∧ W'.cell? ⟨b,7,none⟩ = some (.int .i64 c.quota) ∧ W'.cell? ⟨gx,go + g' * 3,none⟩ = some (.int .i64 la)) (by kernel_rfl) (S3K.out _ BL.out BL2.out) (fun hHeld=>?_);((first | (refine wpAnyH_take (i:=0) (v:=undef) rfl (by kernel_rfl) (by kernel_rfl) (by kernel_rfl) (fun _ _ _ h=>h) (Or.inr ⟨?_,rfl⟩) (by assumption) ?_;(exact rfl);(try simp only [Act.put,List.getElem_toArray,List.getElem_cons_succ,List.getElem_cons_zero,List.setIfInBounds_toArray,List.set_cons_zero,List.set_cons_succ])) | (refine wpAnyH_take (i:=0) (v:=?_) rfl (by kernel_rfl) (by kernel_rfl) (by kernel_rfl) (fun _ _ _ h=>h) (Or.inl ⟨by rfl,?_⟩) (by assumption) ?_;rotate_left;(focus ((intro w hSw;(try dsimp only at hSw);go_simp);try with_reducible rfl));(try simp only [Act.put,List.getElem_toArray,List.getElem_cons_succ,List.getElem_cons_zero,List.setIfInBounds_toArray,List.set_cons_zero,List.set_cons_succ])));(first | (refine wpAnyH_take (i:=1) (v:=undef) rfl (by kernel_rfl) (by kernel_rfl) (by kernel_rfl) (fun _ _ _ h=>h) (Or.inr ⟨?_,rfl⟩) (by assumption) ?_;(exact rfl);(try simp only [Act.put,List.getElem_toArray,List.getElem_cons_succ,List.getElem_cons_zero,List.setIfInBounds_toArray,List.set_cons_zero,List.set_cons_succ])) | (refine wpAnyH_take (i:=1) (v:=?_) rfl (by kernel_rfl) (by kernel_rfl) (by kernel_rfl) (fun _ _ _ h=>h) (Or.inl ⟨by rfl,?_⟩) (by assumption) ?_;rotate_left;(focus ((intro w hSw;(try dsimp only at hSw);go_simp);try with_reducible rfl));(try simp only [Act.put,List.getElem_toArray,List.getElem_cons_succ,List.getElem_cons_zero,List.setIfInBounds_toArray,List.set_cons_zero,List.set_cons_succ])));(first | (refine wpAnyH_take (i:=2) (v:=undef) rfl (by kernel_rfl) (by kernel_rfl) (by kernel_rfl) (fun _ _ _ h=>h) (Or.inr ⟨?_,rfl⟩) (by assumption) ?_;(exact rfl);(try simp only [Act.put,List.getElem_toArray,List.getElem_cons_succ,List.getElem_cons_zero,List.setIfInBounds_toArray,List.set_cons_zero,List.set_cons_succ])) | (refine wpAnyH_take (i:=2) (v:=?_) rfl (by kernel_rfl) (by kernel_rfl) (by kernel_rfl) (fun _ _ _ h=>h) (Or.inl ⟨by rfl,?_⟩) (by assumption) ?_;rotate_left;(focus ((intro w hSw;(try dsimp only at hSw);go_simp);try with_reducible rfl));(try simp only [Act.put,List.getElem_toArray,List.getElem_cons_succ,List.getElem_cons_zero,List.setIfInBounds_toArray,List.set_cons_zero,List.set_cons_succ])));(first | (refine wpAnyH_take (i:=3) (v:=undef) rfl (by kernel_rfl) (by kernel_rfl) (by kernel_rfl) (fun _ _ _ h=>h) (Or.inr ⟨?_,rfl⟩) (by assumption) ?_;(exact rfl);(try simp only [Act.put,List.getElem_toArray,List.getElem_cons_succ,List.getElem_cons_zero,List.setIfInBounds_toArray,List.set_cons_zero,List.set_cons_succ])) | (refine wpAnyH_take (i:=3) (v:=?_) rfl (by kernel_rfl) (by kernel_rfl) (by kernel_rfl) (fun _ _ _ h=>h) (Or.inl ⟨by rfl,?_⟩) (by assumption) ?_;rotate_left;(focus ((intro w hSw;(try dsimp only at hSw);go_simp);try with_reducible rfl));(try simp only [Act.put,List.getElem_toArray,List.getElem_cons_succ,List.getElem_cons_zero,List.setIfInBounds_toArray,List.set_cons_zero,List.set_cons_succ])));(first | (refine wpAnyH_take (i:=4) (v:=undef) rfl (by kernel_rfl) (by kernel_rfl) (by kernel_rfl) (fun _ _ _ h=>h) (Or.inr ⟨?_,rfl⟩) (by assumption) ?_;(exact rfl);(try simp only [Act.put,List.getElem_toArray,List.getElem_cons_succ,List.getElem_cons_zero,List.setIfInBounds_toArray,List.set_cons_zero,List.set_cons_succ])) | (refine wpAnyH_take (i:=4) (v:=?_) rfl (by kernel_rfl) (by kernel_rfl) (by kernel_rfl) (fun _ _ _ h=>h) (Or.inl ⟨by rfl,?_⟩) (by assumption) ?_;rotate_left;(focus ((intro w hSw;(try dsimp only at hSw);go_simp);try with_reducible rfl));(try simp only [Act.put,List.getElem_toArray,List.getElem_cons_succ,List.getElem_cons_zero,List.setIfInBounds_toArray,List.set_cons_zero,List.set_cons_succ])));(first | (refine wpAnyH_take (i:=5) (v:=undef) rfl (by kernel_rfl) (by kernel_rfl) (by kernel_rfl) (fun _ _ _ h=>h) (Or.inr ⟨?_,rfl⟩) (by assumption) ?_;(exact rfl);(try simp only [Act.put,List.getElem_toArray,List.getElem_cons_succ,List.getElem_cons_zero,List.setIfInBounds_toArray,List.set_cons_zero,List.set_cons_succ])) | (refine wpAnyH_take (i:=5) (v:=?_) rfl (by kernel_rfl) (by kernel_rfl) (by kernel_rfl) (fun _ _ _ h=>h) (Or.inl ⟨by rfl,?_⟩) (by assumption) ?_;rotate_left;(focus ((intro w hSw;(try dsimp only at hSw);go_simp);try with_reducible rfl));(try simp only [Act.put,List.getElem_toArray,List.getElem_cons_succ,List.getElem_cons_zero,List.setIfInBounds_toArray,List.set_cons_zero,List.set_cons_succ])));(first | (refine wpAnyH_take (i:=6) (v:=undef) rfl (by kernel_rfl) (by kernel_rfl) (by kernel_rfl) (fun _ _ _ h=>h) (Or.inr ⟨?_,rfl⟩) (by assumption) ?_;(exact rfl);(try simp only [Act.put,List.getElem_toArray,List.getElem_cons_succ,List.getElem_cons_zero,List.setIfInBounds_toArray,List.set_cons_zero,List.set_cons_succ])) | (refine wpAnyH_take (i:=6) (v:=?_) rfl (by kernel_rfl) (by kernel_rfl) (by kernel_rfl) (fun _ _ _ h=>h) (Or.inl ⟨by rfl,?_⟩) (by assumption) ?_;rotate_left;(focus ((intro w hSw;(try dsimp only at hSw);go_simp);try with_reducible rfl));(try simp only [Act.put,List.getElem_toArray,List.getElem_cons_succ,List.getElem_cons_zero,List.setIfInBounds_toArray,List.set_cons_zero,List.set_cons_succ])));(first | (refine wpAnyH_take (i:=7) (v:=undef) rfl (by kernel_rfl) (by kernel_rfl) (by kernel_rfl) (fun _ _ _ h=>h) (Or.inr ⟨?_,rfl⟩) (by assumption) ?_;(exact rfl);(try simp only [Act.put,List.getElem_toArray,List.getElem_cons_succ,List.getElem_cons_zero,List.setIfInBounds_toArray,List.set_cons_zero,List.set_cons_succ])) | (refine wpAnyH_take (i:=7) (v:=?_) rfl (by kernel_rfl) (by kernel_rfl) (by kernel_rfl) (fun _ _ _ h=>h) (Or.inl ⟨by rfl,?_⟩) (by assumption) ?_;rotate_left;(focus ((intro w hSw;(try dsimp only at hSw);go_simp);try with_reducible rfl));(try simp only [Act.put,List.getElem_toArray,List.getElem_cons_succ,List.getElem_cons_zero,List.setIfInBounds_toArray,List.set_cons_zero,List.set_cons_succ])));(first | (refine wpAnyH_take (i:=8) (v:=undef) rfl (by kernel_rfl) (by kernel_rfl) (by kernel_rfl) (fun _ _ _ h=>h) (Or.inr ⟨?_,rfl⟩) (by assumption) ?_;(exact rfl);(try simp only [Act.put,List.getElem_toArray,List.getElem_cons_succ,List.getElem_cons_zero,List.setIfInBounds_toArray,List.set_cons_zero,List.set_cons_succ])) | (refine wpAnyH_take (i:=8) (v:=?_) rfl (by kernel_rfl) (by kernel_rfl) (by kernel_rfl) (fun _ _ _ h=>h) (Or.inl ⟨by rfl,?_⟩) (by assumption) ?_;rotate_left;(focus ((intro w hSw;(try dsimp only at hSw);go_simp);try with_reducible rfl));(try simp only [Act.put,List.getElem_toArray,List.getElem_cons_succ,List.getElem_cons_zero,List.setIfInBounds_toArray,List.set_cons_zero,List.set_cons_succ])));(first | (refine wpAnyH_take (i:=9) (v:=undef) rfl (by kernel_rfl) (by kernel_rfl) (by kernel_rfl) (fun _ _ _ h=>h) (Or.inr ⟨?_,rfl⟩) (by assumption) ?_;(exact rfl);(try simp only [Act.put,List.getElem_toArray,List.getElem_cons_succ,List.getElem_cons_zero,List.setIfInBounds_toArray,List.set_cons_zero,List.set_cons_succ])) | (refine wpAnyH_take (i:=9) (v:=?_) rfl (by kernel_rfl) (by kernel_rfl) (by kernel_rfl) (fun _ _ _ h=>h) (Or.inl ⟨by rfl,?_⟩) (by assumption) ?_;rotate_left;(focus ((intro w hSw;(try dsimp only at hSw);go_simp);try with_reducible rfl));(try simp only [Act.put,List.getElem_toArray,List.getElem_cons_succ,List.getElem_cons_zero,List.setIfInBounds_toArray,List.set_cons_zero,List.set_cons_succ])));(first | (refine wpAnyH_take (i:=10) (v:=undef) rfl (by kernel_rfl) (by kernel_rfl) (by kernel_rfl) (fun _ _ _ h=>h) (Or.inr ⟨?_,rfl⟩) (by assumption) ?_;(exact rfl);(try simp only [Act.put,List.getElem_toArray,List.getElem_cons_succ,List.getElem_cons_zero,List.setIfInBounds_toArray,List.set_cons_zero,List.set_cons_succ])) | (refine wpAnyH_take (i:=10) (v:=?_) rfl (by kernel_rfl) (by kernel_rfl) (by kernel_rfl) (fun _ _ _ h=>h) (Or.inl ⟨by rfl,?_⟩) (by assumption) ?_;rotate_left;(focus ((intro w hSw;(try dsimp only at hSw);go_simp);try with_reducible rfl));(try simp only [Act.put,List.getElem_toArray,List.getElem_cons_succ,List.getElem_cons_zero,List.setIfInBounds_toArray,List.set_cons_zero,List.set_cons_succ])));(first | (refine wpAnyH_take (i:=11) (v:=undef) rfl (by kernel_rfl) (by kernel_rfl) (by kernel_rfl) (fun _ _ _ h=>h) (Or.inr ⟨?_,rfl⟩) (by assumption) ?_;(exact rfl);(try simp only [Act.put,List.getElem_toArray,List.getElem_cons_succ,List.getElem_cons_zero,List.setIfInBounds_toArray,List.set_cons_zero,List.set_cons_succ])) | (refine wpAnyH_take (i:=11) (v:=?_) rfl (by kernel_rfl) (by kernel_rfl) (by kernel_rfl) (fun _ _ _ h=>h) (Or.inl ⟨by rfl,?_⟩) (by assumption) ?_;rotate_left;(focus ((intro w hSw;(try dsimp only at hSw);go_simp);try with_reducible rfl));(try simp only [Act.put,List.getElem_toArray,List.getElem_cons_succ,List.getElem_cons_zero,List.setIfInBounds_toArray,List.set_cons_zero,List.set_cons_succ])));(first | (refine wpAnyH_take (i:=12) (v:=undef) rfl (by kernel_rfl) (by kernel_rfl) (by kernel_rfl) (fun _ _ _ h=>h) (Or.inr ⟨?_,rfl⟩) (by assumption) ?_;(exact rfl);(try simp only [Act.put,List.getElem_toArray,List.getElem_cons_succ,List.getElem_cons_zero,List.setIfInBounds_toArray,List.set_cons_zero,List.set_cons_succ])) | (refine wpAnyH_take (i:=12) (v:=?_) rfl (by kernel_rfl) (by kernel_rfl) (by kernel_rfl) (fun _ _ _ h=>h) (Or.inl ⟨by rfl,?_⟩) (by assumption) ?_;rotate_left;(focus ((intro w hSw;(try dsimp only at hSw);go_simp);try with_reducible rfl));(try simp only [Act.put,List.getElem_toArray,List.getElem_cons_succ,List.getElem_cons_zero,List.setIfInBounds_toArray,List.set_cons_zero,List.set_cons_succ])));(first | (refine wpAnyH_take (i:=13) (v:=undef) rfl (by kernel_rfl) (by kernel_rfl) (by kernel_rfl) (fun _ _ _ h=>h) (Or.inr ⟨?_,rfl⟩) (by assumption) ?_;(exact rfl);(try simp only [Act.put,List.getElem_toArray,List.getElem_cons_succ,List.getElem_cons_zero,List.setIfInBounds_toArray,List.set_cons_zero,List.set_cons_succ])) | (refine wpAnyH_take (i:=13) (v:=?_) rfl (by kernel_rfl) (by kernel_rfl) (by kernel_rfl) (fun _ _ _ h=>h) (Or.inl ⟨by rfl,?_⟩) (by assumption) ?_;rotate_left;(focus ((intro w hSw;(try dsimp only at hSw);go_simp);try with_reducible rfl));(try simp only [Act.put,List.getElem_toArray,List.getElem_cons_succ,List.getElem_cons_zero,List.setIfInBounds_toArray,List.set_cons_zero,List.set_cons_succ])));(first | (refine wpAnyH_take (i:=14) (v:=undef) rfl (by kernel_rfl) (by kernel_rfl) (by kernel_rfl) (fun _ _ _ h=>h) (Or.inr ⟨?_,rfl⟩) (by assumption) ?_;(exact rfl);(try simp only [Act.put,List.getElem_toArray,List.getElem_cons_succ,List.getElem_cons_zero,List.setIfInBounds_toArray,List.set_cons_zero,List.set_cons_succ])) | (refine wpAnyH_take (i:=14) (v:=?_) rfl (by kernel_rfl) (by kernel_rfl) (by kernel_rfl) (fun _ _ _ h=>h) (Or.inl ⟨by rfl,?_⟩) (by assumption) ?_;rotate_left;(focus ((intro w hSw;(try dsimp only at hSw);go_simp);try with_reducible rfl));(try simp only [Act.put,List.getElem_toArray,List.getElem_cons_succ,List.getElem_cons_zero,List.setIfInBounds_toArray,List.set_cons_zero,List.set_cons_succ])));(first | (refine wpAnyH_take (i:=15) (v:=undef) rfl (by kernel_rfl) (by kernel_rfl) (by kernel_rfl) (fun _ _ _ h=>h) (Or.inr ⟨?_,rfl⟩) (by assumption) ?_;(exact rfl);(try simp only [Act.put,List.getElem_toArray,List.getElem_cons_succ,List.getElem_cons_zero,List.setIfInBounds_toArray,List.set_cons_zero,List.set_cons_succ])) | (refine wpAnyH_ready (rs:=[15]) (by kernel_rfl) (by simp) ?_;refine AllReadyH.cons rfl (fun Kq hKq=>?_) AllReadyH.nil;go_simp;(go_at_call 134;refine (TAK.out _ XK.out.ok).mono ?_;rintro e Wt ⟨rfl,hb⟩;replace XK:=Lib.hid (XK.out.below hb);replace BL:=Lib.hid (bmore BL.out hb);replace BL2:=Lib.hid (bmore BL2.out hb);clear hb);(try dsimp only);refine hKq.out _ _ (S3K.out _ BL.out BL2.out) (fun hHeld=>?_);clear hKq Kq;(try simp only [Act.put,List.getElem_toArray,List.getElem_cons_succ,List.getElem_cons_zero,List.setIfInBounds_toArray,List.set_cons_zero,List.set_cons_succ])));(first | (refine wpAnyH_take (i:=16) (v:=undef) rfl (by kernel_rfl) (by kernel_rfl) (by kernel_rfl) (fun _ _ _ h=>h) (Or.inr ⟨?_,rfl⟩) (by assumption) ?_;(exact rfl);(try simp only [Act.put,List.getElem_toArray,List.getElem_cons_succ,List.getElem_cons_zero,List.setIfInBounds_toArray,List.set_cons_zero,List.set_cons_succ])) | (refine wpAnyH_take (i:=16) (v:=?_) rfl (by kernel_rfl) (by kernel_rfl) (by kernel_rfl) (fun _ _ _ h=>h) (Or.inl ⟨by rfl,?_⟩) (by assumption) ?_;rotate_left;(focus ((intro w hSw;(try dsimp only at hSw);go_simp);try with_reducible rfl));(try simp only [Act.put,List.getElem_toArray,List.getElem_cons_succ,List.getElem_cons_zero,List.setIfInBounds_toArray,List.set_cons_zero,List.set_cons_succ])));(first | (refine wpAnyH_take (i:=17) (v:=undef) rfl (by kernel_rfl) (by kernel_rfl) (by kernel_rfl) (fun _ _ _ h=>h) (Or.inr ⟨?_,rfl⟩) (by assumption) ?_;(exact rfl);(try simp only [Act.put,List.getElem_toArray,List.getElem_cons_succ,List.getElem_cons_zero,List.setIfInBounds_toArray,List.set_cons_zero,List.set_cons_succ])) | (refine wpAnyH_take (i:=17) (v:=?_) rfl (by kernel_rfl) (by kernel_rfl) (by kernel_rfl) (fun _ _ _ h=>h) (Or.inl ⟨by rfl,?_⟩) (by assumption) ?_;rotate_left;(focus ((intro w hSw;(try dsimp only at hSw);go_simp);try with_reducible rfl));(try simp only [Act.put,List.getElem_toArray,List.getElem_cons_succ,List.getElem_cons_zero,List.setIfInBounds_toArray,List.set_cons_zero,List.set_cons_succ])));refine wpAnyH_done (by kernel_rfl) ?_ _);go_wp2_with fail;go_ret;exact ⟨rfl,B1.out.trans (BL.out.mono B1.out.size)⟩)
     | true=>(refine wp_region_held_drew (S:=fun W'=>W'.cell? ⟨rb,0,none⟩ = some (.int .i64 lb) ∧ W'.cell? ⟨rb,1,none⟩ = some (.int .i64 g') ∧ W'.cell? ⟨b,0,none⟩ = some (.int .i64 c.cats) ∧ W'.cell? ⟨b,1,none⟩ = some (.slice (some ⟨gx,go,none⟩) c.g.l.length c.g.cap) ∧ W'.cell? ⟨b,2,none⟩ = some (.slice c.r.a c.r.l.length c.r.cap) ∧ W'.cell? ⟨b,3,none⟩ = some (.slice c.p.a c.p.l.length c.p.cap) ∧ W'.cell? ⟨b,4,none⟩ = some (.slice c.n.a c.n.l.length c.n.cap) ∧ W'.cell? ⟨b,5,none⟩ = some (.slice c.s.a c.s.l.length c.s.cap) ∧ W'.cell? ⟨b,6,none⟩ = some (.int .i64 c.gate) ∧ W'.cell? ⟨b,7,none⟩ = some (.int .i64 c.quota) ∧ W'.cell? ⟨gx,go + g' * 3,none⟩ = some (.int .i64 la)) (by kernel_rfl) (S3K.out _ BL.out BL2.out) (fun hHeld=>?_);((first | (refine wpAnyH_take (i:=0) (v:=undef) rfl (by kernel_rfl) (by kernel_rfl) (by kernel_rfl) (fun _ _ _ h=>h) (Or.inr ⟨?_,rfl⟩) (by assumption) ?_;(exact rfl);(try simp only [Act.put,List.getElem_toArray,List.getElem_cons_succ,List.getElem_cons_zero,List.setIfInBounds_toArray,List.set_cons_zero,List.set_cons_succ])) | (refine wpAnyH_take (i:=0) (v:=?_) rfl (by kernel_rfl) (by kernel_rfl) (by kernel_rfl) (fun _ _ _ h=>h) (Or.inl ⟨by rfl,?_⟩) (by assumption) ?_;rotate_left;(focus ((intro w hSw;(try dsimp only at hSw);go_simp);try with_reducible rfl));(try simp only [Act.put,List.getElem_toArray,List.getElem_cons_succ,List.getElem_cons_zero,List.setIfInBounds_toArray,List.set_cons_zero,List.set_cons_succ])));(first | (refine wpAnyH_take (i:=1) (v:=undef) rfl (by kernel_rfl) (by kernel_rfl) (by kernel_rfl) (fun _ _ _ h=>h) (Or.inr ⟨?_,rfl⟩) (by assumption) ?_;(exact rfl);(try simp only [Act.put,List.getElem_toArray,List.getElem_cons_succ,List.getElem_cons_zero,List.setIfInBounds_toArray,List.set_cons_zero,List.set_cons_succ])) | (refine wpAnyH_take (i:=1) (v:=?_) rfl (by kernel_rfl) (by kernel_rfl) (by kernel_rfl) (fun _ _ _ h=>h) (Or.inl ⟨by rfl,?_⟩) (by assumption) ?_;rotate_left;(focus ((intro w hSw;(try dsimp only at hSw);go_simp);try with_reducible rfl));(try simp only [Act.put,List.getElem_toArray,List.getElem_cons_succ,List.getElem_cons_zero,List.setIfInBounds_toArray,List.set_cons_zero,List.set_cons_succ])));(first | (refine wpAnyH_take (i:=2) (v:=undef) rfl (by kernel_rfl) (by kernel_rfl) (by kernel_rfl) (fun _ _ _ h=>h) (Or.inr ⟨?_,rfl⟩) (by assumption) ?_;(exact rfl);(try simp only [Act.put,List.getElem_toArray,List.getElem_cons_succ,List.getElem_cons_zero,List.setIfInBounds_toArray,List.set_cons_zero,List.set_cons_succ])) | (refine wpAnyH_take (i:=2) (v:=?_) rfl (by kernel_rfl) (by kernel_rfl) (by kernel_rfl) (fun _ _ _ h=>h) (Or.inl ⟨by rfl,?_⟩) (by assumption) ?_;rotate_left;(focus ((intro w hSw;(try dsimp only at hSw);go_simp);try with_reducible rfl));(try simp only [Act.put,List.getElem_toArray,List.getElem_cons_succ,List.getElem_cons_zero,List.setIfInBounds_toArray,List.set_cons_zero,List.set_cons_succ])));(first | (refine wpAnyH_take (i:=3) (v:=undef) rfl (by kernel_rfl) (by kernel_rfl) (by kernel_rfl) (fun _ _ _ h=>h) (Or.inr ⟨?_,rfl⟩) (by assumption) ?_;(exact rfl);(try simp only [Act.put,List.getElem_toArray,List.getElem_cons_succ,List.getElem_cons_zero,List.setIfInBounds_toArray,List.set_cons_zero,List.set_cons_succ])) | (refine wpAnyH_take (i:=3) (v:=?_) rfl (by kernel_rfl) (by kernel_rfl) (by kernel_rfl) (fun _ _ _ h=>h) (Or.inl ⟨by rfl,?_⟩) (by assumption) ?_;rotate_left;(focus ((intro w hSw;(try dsimp only at hSw);go_simp);try with_reducible rfl));(try simp only [Act.put,List.getElem_toArray,List.getElem_cons_succ,List.getElem_cons_zero,List.setIfInBounds_toArray,List.set_cons_zero,List.set_cons_succ])));(first | (refine wpAnyH_take (i:=4) (v:=undef) rfl (by kernel_rfl) (by kernel_rfl) (by kernel_rfl) (fun _ _ _ h=>h) (Or.inr ⟨?_,rfl⟩) (by assumption) ?_;(exact rfl);(try simp only [Act.put,List.getElem_toArray,List.getElem_cons_succ,List.getElem_cons_zero,List.setIfInBounds_toArray,List.set_cons_zero,List.set_cons_succ])) | (refine wpAnyH_take (i:=4) (v:=?_) rfl (by kernel_rfl) (by kernel_rfl) (by kernel_rfl) (fun _ _ _ h=>h) (Or.inl ⟨by rfl,?_⟩) (by assumption) ?_;rotate_left;(focus ((intro w hSw;(try dsimp only at hSw);go_simp);try with_reducible rfl));(try simp only [Act.put,List.getElem_toArray,List.getElem_cons_succ,List.getElem_cons_zero,List.setIfInBounds_toArray,List.set_cons_zero,List.set_cons_succ])));(first | (refine wpAnyH_take (i:=5) (v:=undef) rfl (by kernel_rfl) (by kernel_rfl) (by kernel_rfl) (fun _ _ _ h=>h) (Or.inr ⟨?_,rfl⟩) (by assumption) ?_;(exact rfl);(try simp only [Act.put,List.getElem_toArray,List.getElem_cons_succ,List.getElem_cons_zero,List.setIfInBounds_toArray,List.set_cons_zero,List.set_cons_succ])) | (refine wpAnyH_take (i:=5) (v:=?_) rfl (by kernel_rfl) (by kernel_rfl) (by kernel_rfl) (fun _ _ _ h=>h) (Or.inl ⟨by rfl,?_⟩) (by assumption) ?_;rotate_left;(focus ((intro w hSw;(try dsimp only at hSw);go_simp);try with_reducible rfl));(try simp only [Act.put,List.getElem_toArray,List.getElem_cons_succ,List.getElem_cons_zero,List.setIfInBounds_toArray,List.set_cons_zero,List.set_cons_succ])));(first | (refine wpAnyH_take (i:=6) (v:=undef) rfl (by kernel_rfl) (by kernel_rfl) (by kernel_rfl) (fun _ _ _ h=>h) (Or.inr ⟨?_,rfl⟩) (by assumption) ?_;(exact rfl);(try simp only [Act.put,List.getElem_toArray,List.getElem_cons_succ,List.getElem_cons_zero,List.setIfInBounds_toArray,List.set_cons_zero,List.set_cons_succ])) | (refine wpAnyH_take (i:=6) (v:=?_) rfl (by kernel_rfl) (by kernel_rfl) (by kernel_rfl) (fun _ _ _ h=>h) (Or.inl ⟨by rfl,?_⟩) (by assumption) ?_;rotate_left;(focus ((intro w hSw;(try dsimp only at hSw);go_simp);try with_reducible rfl));(try simp only [Act.put,List.getElem_toArray,List.getElem_cons_succ,List.getElem_cons_zero,List.setIfInBounds_toArray,List.set_cons_zero,List.set_cons_succ])));(first | (refine wpAnyH_take (i:=7) (v:=undef) rfl (by kernel_rfl) (by kernel_rfl) (by kernel_rfl) (fun _ _ _ h=>h) (Or.inr ⟨?_,rfl⟩) (by assumption) ?_;(exact rfl);(try simp only [Act.put,List.getElem_toArray,List.getElem_cons_succ,List.getElem_cons_zero,List.setIfInBounds_toArray,List.set_cons_zero,List.set_cons_succ])) | (refine wpAnyH_take (i:=7) (v:=?_) rfl (by kernel_rfl) (by kernel_rfl) (by kernel_rfl) (fun _ _ _ h=>h) (Or.inl ⟨by rfl,?_⟩) (by assumption) ?_;rotate_left;(focus ((intro w hSw;(try dsimp only at hSw);go_simp);try with_reducible rfl));(try simp only [Act.put,List.getElem_toArray,List.getElem_cons_succ,List.getElem_cons_zero,List.setIfInBounds_toArray,List.set_cons_zero,List.set_cons_succ])));(first | (refine wpAnyH_take (i:=8) (v:=undef) rfl (by kernel_rfl) (by kernel_rfl) (by kernel_rfl) (fun _ _ _ h=>h) (Or.inr ⟨?_,rfl⟩) (by assumption) ?_;(exact rfl);(try simp only [Act.put,List.getElem_toArray,List.getElem_cons_succ,List.getElem_cons_zero,List.setIfInBounds_toArray,List.set_cons_zero,List.set_cons_succ])) | (refine wpAnyH_take (i:=8) (v:=?_) rfl (by kernel_rfl) (by kernel_rfl) (by kernel_rfl) (fun _ _ _ h=>h) (Or.inl ⟨by rfl,?_⟩) (by assumption) ?_;rotate_left;(focus ((intro w hSw;(try dsimp only at hSw);go_simp);try with_reducible rfl));(try simp only [Act.put,List.getElem_toArray,List.getElem_cons_succ,List.getElem_cons_zero,List.setIfInBounds_toArray,List.set_cons_zero,List.set_cons_succ])));(first | (refine wpAnyH_take (i:=9) (v:=undef) rfl (by kernel_rfl) (by kernel_rfl) (by kernel_rfl) (fun _ _ _ h=>h) (Or.inr ⟨?_,rfl⟩) (by assumption) ?_;(exact rfl);(try simp only [Act.put,List.getElem_toArray,List.getElem_cons_succ,List.getElem_cons_zero,List.setIfInBounds_toArray,List.set_cons_zero,List.set_cons_succ])) | (refine wpAnyH_take (i:=9) (v:=?_) rfl (by kernel_rfl) (by kernel_rfl) (by kernel_rfl) (fun _ _ _ h=>h) (Or.inl ⟨by rfl,?_⟩) (by assumption) ?_;rotate_left;(focus ((intro w hSw;(try dsimp only at hSw);go_simp);try with_reducible rfl));(try simp only [Act.put,List.getElem_toArray,List.getElem_cons_succ,List.getElem_cons_zero,List.setIfInBounds_toArray,List.set_cons_zero,List.set_cons_succ])));(first | (refine wpAnyH_take (i:=10) (v:=undef) rfl (by kernel_rfl) (by kernel_rfl) (by kernel_rfl) (fun _ _ _ h=>h) (Or.inr ⟨?_,rfl⟩) (by assumption) ?_;(exact rfl);(try simp only [Act.put,List.getElem_toArray,List.getElem_cons_succ,List.getElem_cons_zero,List.setIfInBounds_toArray,List.set_cons_zero,List.set_cons_succ])) | (refine wpAnyH_take (i:=10) (v:=?_) rfl (by kernel_rfl) (by kernel_rfl) (by kernel_rfl) (fun _ _ _ h=>h) (Or.inl ⟨by rfl,?_⟩) (by assumption) ?_;rotate_left;(focus ((intro w hSw;(try dsimp only at hSw);go_simp);try with_reducible rfl));(try simp only [Act.put,List.getElem_toArray,List.getElem_cons_succ,List.getElem_cons_zero,List.setIfInBounds_toArray,List.set_cons_zero,List.set_cons_succ])));(first | (refine wpAnyH_take (i:=11) (v:=undef) rfl (by kernel_rfl) (by kernel_rfl) (by kernel_rfl) (fun _ _ _ h=>h) (Or.inr ⟨?_,rfl⟩) (by assumption) ?_;(exact rfl);(try simp only [Act.put,List.getElem_toArray,List.getElem_cons_succ,List.getElem_cons_zero,List.setIfInBounds_toArray,List.set_cons_zero,List.set_cons_succ])) | (refine wpAnyH_take (i:=11) (v:=?_) rfl (by kernel_rfl) (by kernel_rfl) (by kernel_rfl) (fun _ _ _ h=>h) (Or.inl ⟨by rfl,?_⟩) (by assumption) ?_;rotate_left;(focus ((intro w hSw;(try dsimp only at hSw);go_simp);try with_reducible rfl));(try simp only [Act.put,List.getElem_toArray,List.getElem_cons_succ,List.getElem_cons_zero,List.setIfInBounds_toArray,List.set_cons_zero,List.set_cons_succ])));(first | (refine wpAnyH_take (i:=12) (v:=undef) rfl (by kernel_rfl) (by kernel_rfl) (by kernel_rfl) (fun _ _ _ h=>h) (Or.inr ⟨?_,rfl⟩) (by assumption) ?_;(exact rfl);(try simp only [Act.put,List.getElem_toArray,List.getElem_cons_succ,List.getElem_cons_zero,List.setIfInBounds_toArray,List.set_cons_zero,List.set_cons_succ])) | (refine wpAnyH_take (i:=12) (v:=?_) rfl (by kernel_rfl) (by kernel_rfl) (by kernel_rfl) (fun _ _ _ h=>h) (Or.inl ⟨by rfl,?_⟩) (by assumption) ?_;rotate_left;(focus ((intro w hSw;(try dsimp only at hSw);go_simp);try with_reducible rfl));(try simp only [Act.put,List.getElem_toArray,List.getElem_cons_succ,List.getElem_cons_zero,List.setIfInBounds_toArray,List.set_cons_zero,List.set_cons_succ])));(first | (refine wpAnyH_take (i:=13) (v:=undef) rfl (by kernel_rfl) (by kernel_rfl) (by kernel_rfl) (fun _ _ _ h=>h) (Or.inr ⟨?_,rfl⟩) (by assumption) ?_;(exact rfl);(try simp only [Act.put,List.getElem_toArray,List.getElem_cons_succ,List.getElem_cons_zero,List.setIfInBounds_toArray,List.set_cons_zero,List.set_cons_succ])) | (refine wpAnyH_take (i:=13) (v:=?_) rfl (by kernel_rfl) (by kernel_rfl) (by kernel_rfl) (fun _ _ _ h=>h) (Or.inl ⟨by rfl,?_⟩) (by assumption) ?_;rotate_left;(focus ((intro w hSw;(try dsimp only at hSw);go_simp);try with_reducible rfl));(try simp only [Act.put,List.getElem_toArray,List.getElem_cons_succ,List.getElem_cons_zero,List.setIfInBounds_toArray,List.set_cons_zero,List.set_cons_succ])));(first | (refine wpAnyH_take (i:=14) (v:=undef) rfl (by kernel_rfl) (by kernel_rfl) (by kernel_rfl) (fun _ _ _ h=>h) (Or.inr ⟨?_,rfl⟩) (by assumption) ?_;(exact rfl);(try simp only [Act.put,List.getElem_toArray,List.getElem_cons_succ,List.getElem_cons_zero,List.setIfInBounds_toArray,List.set_cons_zero,List.set_cons_succ])) | (refine wpAnyH_take (i:=14) (v:=?_) rfl (by kernel_rfl) (by kernel_rfl) (by kernel_rfl) (fun _ _ _ h=>h) (Or.inl ⟨by rfl,?_⟩) (by assumption) ?_;rotate_left;(focus ((intro w hSw;(try dsimp only at hSw);go_simp);try with_reducible rfl));(try simp only [Act.put,List.getElem_toArray,List.getElem_cons_succ,List.getElem_cons_zero,List.setIfInBounds_toArray,List.set_cons_zero,List.set_cons_succ])));(first | (refine wpAnyH_take (i:=15) (v:=undef) rfl (by kernel_rfl) (by kernel_rfl) (by kernel_rfl) (fun _ _ _ h=>h) (Or.inr ⟨?_,rfl⟩) (by assumption) ?_;(exact rfl);(try simp only [Act.put,List.getElem_toArray,List.getElem_cons_succ,List.getElem_cons_zero,List.setIfInBounds_toArray,List.set_cons_zero,List.set_cons_succ])) | (refine wpAnyH_ready (rs:=[15]) (by kernel_rfl) (by simp) ?_;refine AllReadyH.cons rfl (fun Kq hKq=>?_) AllReadyH.nil;go_simp;(go_at_call 134;refine (TAK.out _ XK.out.ok).mono ?_;rintro e Wt ⟨rfl,hb⟩;replace XK:=Lib.hid (XK.out.below hb);replace BL:=Lib.hid (bmore BL.out hb);replace BL2:=Lib.hid (bmore BL2.out hb);clear hb);(try dsimp only);refine hKq.out _ _ (S3K.out _ BL.out BL2.out) (fun hHeld=>?_);clear hKq Kq;(try simp only [Act.put,List.getElem_toArray,List.getElem_cons_succ,List.getElem_cons_zero,List.setIfInBounds_toArray,List.set_cons_zero,List.set_cons_succ])));(first | (refine wpAnyH_take (i:=16) (v:=undef) rfl (by kernel_rfl) (by kernel_rfl) (by kernel_rfl) (fun _ _ _ h=>h) (Or.inr ⟨?_,rfl⟩) (by assumption) ?_;(exact rfl);(try simp only [Act.put,List.getElem_toArray,List.getElem_cons_succ,List.getElem_cons_zero,List.setIfInBounds_toArray,List.set_cons_zero,List.set_cons_succ])) | (refine wpAnyH_take (i:=16) (v:=?_) rfl (by kernel_rfl) (by kernel_rfl) (by kernel_rfl) (fun _ _ _ h=>h) (Or.inl ⟨by rfl,?_⟩) (by assumption) ?_;rotate_left;(focus ((intro w hSw;(try dsimp only at hSw);go_simp);try with_reducible rfl));(try simp only [Act.put,List.getElem_toArray,List.getElem_cons_succ,List.getElem_cons_zero,List.setIfInBounds_toArray,List.set_cons_zero,List.set_cons_succ])));(first | (refine wpAnyH_take (i:=17) (v:=undef) rfl (by kernel_rfl) (by kernel_rfl) (by kernel_rfl) (fun _ _ _ h=>h) (Or.inr ⟨?_,rfl⟩) (by assumption) ?_;(exact rfl);(try simp only [Act.put,List.getElem_toArray,List.getElem_cons_succ,List.getElem_cons_zero,List.setIfInBounds_toArray,List.set_cons_zero,List.set_cons_succ])) | (refine wpAnyH_take (i:=17) (v:=?_) rfl (by kernel_rfl) (by kernel_rfl) (by kernel_rfl) (fun _ _ _ h=>h) (Or.inl ⟨by rfl,?_⟩) (by assumption) ?_;rotate_left;(focus ((intro w hSw;(try dsimp only at hSw);go_simp);try with_reducible rfl));(try simp only [Act.put,List.getElem_toArray,List.getElem_cons_succ,List.getElem_cons_zero,List.setIfInBounds_toArray,List.set_cons_zero,List.set_cons_succ])));refine wpAnyH_done (by kernel_rfl) ?_ _);go_wp2_with fail;go_ret;exact ⟨rfl,B1.out.trans (BL.out.mono B1.out.size)⟩)
theorem ports_any (c : Cv) (w : World) (h : CfgOk w c) : Calls Tryz.prog 88 #[(.agg #[.int .i64 c.cats,.slice c.g.a c.g.l.length c.g.cap,.slice c.r.a c.r.l.length c.r.cap,.slice c.p.a c.p.l.length c.p.cap,.slice c.n.a c.n.l.length c.n.cap,.slice c.s.a c.s.l.length c.s.cap,.int .i64 c.gate,.int .i64 c.quota])] w fun e w'=>e = .returned (.tuple #[.int .i64 (pFst c).1,.bool (pFst c).2]) ∧ Below w.heap.size w w':=by
 have hm:=h.p.mx
 obtain ⟨x,hx⟩ : ∃ x,x = pFst c:=⟨_,rfl⟩
 rw [← hx]
 have HX:=Lib.hid hx
 clear hx
 by_cases h2 : 8 < c.p.l.length
 ·have d2 : decide ((c.p.l.length : Int) > 8) = true:=by simp;omega
  have hx : x = (0,true):=by rw [HX.out,pFst,if_pos h2]
  subst hx
  clear h2
  (have h0:=CX.new h;go_enter Tryz.func88,Tryz.ntmps88;go_upto_region 1 with fail;generalize w.alloc (.cells #[.int .i64 c.cats,.slice c.g.a c.g.l.length c.g.cap,.slice c.r.a c.r.l.length c.r.cap,.slice c.p.a c.p.l.length c.p.cap,.slice c.n.a c.n.l.length c.n.cap,.slice c.s.a c.s.l.length c.s.cap,.int .i64 c.gate,.int .i64 c.quota] 29) = W1 at h0 ⊢;generalize w.heap.size = b0 at h0 ⊢;have H0:=Lib.hid h0;clear h0 h)
  (have q0:=H0.out.ob.cell 0 _ rfl;have q1:=H0.out.ob.cell 1 _ rfl;have q2:=H0.out.ob.cell 2 _ rfl;have q3:=H0.out.ob.cell 3 _ rfl;have q4:=H0.out.ob.cell 4 _ rfl;have q5:=H0.out.ob.cell 5 _ rfl;have q6:=H0.out.ob.cell 6 _ rfl;have q7:=H0.out.ob.cell 7 _ rfl)
  go_wp2_with fail
  go_ret2
  exact ⟨rfl,H0.out.bel⟩
 ·have d2 : decide ((c.p.l.length : Int) > 8) = false:=by simp;omega
  have hx : x = fstV (pBad c) c.p.l.length:=by rw [HX.out,pFst,if_neg h2]
  subst hx
  clear h2
  (have h0:=CX.new h;go_enter Tryz.func88,Tryz.ntmps88;go_upto_region 1 with fail;generalize w.alloc (.cells #[.int .i64 c.cats,.slice c.g.a c.g.l.length c.g.cap,.slice c.r.a c.r.l.length c.r.cap,.slice c.p.a c.p.l.length c.p.cap,.slice c.n.a c.n.l.length c.n.cap,.slice c.s.a c.s.l.length c.s.cap,.int .i64 c.gate,.int .i64 c.quota] 29) = W1 at h0 ⊢;generalize w.heap.size = b0 at h0 ⊢;have H0:=Lib.hid h0;clear h0 h)
  (have q0:=H0.out.ob.cell 0 _ rfl;have q1:=H0.out.ob.cell 1 _ rfl;have q2:=H0.out.ob.cell 2 _ rfl;have q3:=H0.out.ob.cell 3 _ rfl;have q4:=H0.out.ob.cell 4 _ rfl;have q5:=H0.out.ob.cell 5 _ rfl;have q6:=H0.out.ob.cell 6 _ rfl;have q7:=H0.out.ob.cell 7 _ rfl)
  have FIR : Hid (Calls Tryz.prog 126 #[.int .i64 c.p.l.length,.func (Fn.func 132) #[] #[.pointer (some ⟨b0,0,none⟩)]] W1 (fun e W'=>e = .returned (.tuple #[.int .i64 (fstV (pBad c) c.p.l.length).1,.bool (fstV (pBad c) c.p.l.length).2]) ∧ CX w W' b0 c)):=
   first1 132 (.pointer (some ⟨b0,0,none⟩)) c.p.l.length hm (pBad c) (fun _ W=>CX w W b0 c) (fun W=>CX w W b0 c) W1 (enter_of Tryz.func132 (by kernel_rfl) rfl) H0.out (fun _ _ h=>h)
    (fun i hi W hW=>(ports1_any c i hi b0 w W hW).mono (fun e W' h=>⟨h.1,fun _=>hW.below h.2,hW.below h.2⟩))
  go_wp2_with (go_at_call 126;refine FIR.out.mono ?_;rintro e W2 ⟨rfl,hx2⟩;have H2:=Lib.hid hx2;clear hx2)
  go_ret2
  exact ⟨rfl,H2.out.bel⟩
end Go.Proofs.YtoklonmiejdgmaaGreatDoor
/- Chapter 4: what is wrong: ranges. -/
namespace Go.Proofs.YtoklonmiejdgmaaGreatDoor
set_option linter.unusedVariables false
set_option linter.unusedSimpArgs false
set_option linter.unnecessarySimpa false
open Go.RowKit
set_option maxHeartbeats 2000000
set_option maxRecDepth 100000
set_option linter.unusedVariables false
variable {W W' w : World} {c : Cv} {b N : Nat} {s : Sl}
def stRg (c : Cv) : Nat → List Rn
 | 0=>[]
 | i + 1=>(giveV 32 (stRg c i) (at_ c.r.l i 1) (at_ c.r.l i 2) i).2
def rBad (c : Cv) (i : Nat) : Bool:=!(validB (at_ c.r.l i 0) c.cats) || ((giveV 32 (stRg c i) (at_ c.r.l i 1) (at_ c.r.l i 2) i).1 != 0)
def rFst (c : Cv) : Int × Bool:=if 8 < c.r.l.length then (0,true) else fstV (rBad c) c.r.l.length
structure RI (w W : World) (b tb tt : Nat) (c : Cv) (i : Nat) : Prop where
 x : CX w W b c
 tp : ObjAt W tb 188 [.pointer (some ⟨tt,0,none⟩)]
 bt : b < tt
 wb : w.heap.size ≤ b
 ttb : tt < tb
 t : ∃ a cap,TSt W w.heap.size tt a cap 32 (stRg c i) ∧ ∀ k ∈ blk a,tb < k
theorem RI.below {tb tt i : Nat} (h : RI w W b tb tt c i) (hb : Below W.heap.size W W') : RI w W' b tb tt c i:=by
 obtain ⟨a,cap,h1,h2⟩:=h.t
 exact ⟨h.x.below hb,h.tp.below hb,h.bt,h.wb,h.ttb,a,cap,h1.below hb,h2⟩
theorem below_tab {tt : Nat} {a : Option Addr} (hm : Mod (tt :: blk a) W W') (hb : Below w.heap.size w W) (h1 : w.heap.size ≤ tt) (h2 : ∀ k ∈ blk a,w.heap.size ≤ k) : Below w.heap.size w W':=
 hb.trans (hm.below (fun k hk=>by
  rcases List.mem_cons.1 hk with rfl | h
  ·exact h1
  ·exact h2 k h) hb.size)
theorem not_tab {x tt : Nat} {a : Option Addr} (h1 : x ≠ tt) (h2 : ∀ k ∈ blk a,x < k) : x ∉ tt :: blk a:=fun hk=>by
 rcases List.mem_cons.1 hk with h | h
 ·exact h1 h
 ·exact Nat.lt_irrefl _ (h2 _ h)
theorem ranges1_any (c : Cv) (i : Nat) (hi : i < c.r.l.length) (b tb tt : Nat) (w W : World) (hw : CfgOk w c) (h : RI w W b tb tt c i) : Calls Tryz.prog 130 #[.int .i64 i,.pointer (some ⟨b,0,none⟩),.pointer (some ⟨tb,0,none⟩)] W fun e W'=>e = .returned (.bool (rBad c i)) ∧ (rBad c i = false → RI w W' b tb tt c (i + 1)) ∧ Below w.heap.size w W':=by
 obtain ⟨bx,ox,hax,hcx⟩:=h.x.ok.r.cells (by omega) i hi
 obtain ⟨lb,fr,nn,hrow⟩:=row3 hi h.x.ok.r.len
 rw [hrow] at hcx
 have c0:=hcx _ (Below.refl _ _) 0 _ rfl;have c1:=hcx _ (Below.refl _ _) 1 _ rfl;have c2:=hcx _ (Below.refl _ _) 2 _ rfl
 simp only [Nat.add_zero] at c0
 have kz : (0 : Int) ≤ (i : Int):=by omega
 have kl : (i : Int) < (c.r.l.length : Int):=by omega
 obtain ⟨x,hx⟩ : ∃ x,x = rBad c i:=⟨_,rfl⟩
 have HG : Hid (x = (!(validB lb c.cats) || ((giveV 32 (stRg c i) fr nn i).1 != 0))):=by rw [Hid,hx,rBad,at_eq hi,at_eq hi,at_eq hi,hrow];rfl
 have HS : Hid (stRg c (i + 1) = (giveV 32 (stRg c i) fr nn i).2):=by rw [Hid,stRg,at_eq hi,at_eq hi,hrow];rfl
 rw [← hx]
 have HI:=Lib.hid h
 have HW:=Lib.hid hw
 have q2:=HI.out.x.ob.cell 2 _ rfl
 rw [hax] at q2
 clear hx hrow hcx h hax hw
 go_enter Tryz.func130,Tryz.ntmps130
 go_upto_region 2 with fail
 clear q2 c0 c1 c2
 have R1 : Hid (ObjAt (W.alloc (.cells #[.int .i64 lb,.int .i64 fr,.int .i64 nn] 132)) W.heap.size 132 [.int .i64 lb,.int .i64 fr,.int .i64 nn]):=ObjAt.new W _ _
 have B1 : Hid (Below W.heap.size W (W.alloc (.cells #[.int .i64 lb,.int .i64 fr,.int .i64 nn] 132))):=(Below.refl _ _).alloc (Nat.le_refl _) _
 generalize W.alloc (.cells #[.int .i64 lb,.int .i64 fr,.int .i64 nn] 132) = W1 at R1 B1 ⊢
 have I1:=Lib.hid (HI.out.below B1.out)
 have r0:=R1.out.cell 0 _ rfl;have r1:=R1.out.cell 1 _ rfl;have r2:=R1.out.cell 2 _ rfl
 have q0:=I1.out.x.ob.cell 0 _ rfl
 have t0:=I1.out.tp.cell 0 _ rfl
 obtain ⟨vb,hvb⟩ : ∃ v,v = validB lb c.cats:=⟨_,rfl⟩
 have VAL : Hid (∀ W,Calls Tryz.prog 128 #[.int .i64 lb,.int .i64 c.cats] W fun e w'=>e = .returned (.bool vb) ∧ W = w'):=fun W=>by rw [hvb];exact valid_any _ _ _
 rw [← hvb] at HG
 clear hvb
 cases vb with
 | false=>
  have hx : x = true:=by rw [HG.out];simp
  subst hx
  go_wp2_with (go_at_call 128;refine (VAL.out _).mono ?_;rintro e Wv ⟨rfl,rfl⟩)
  go_ret
  exact ⟨rfl,(fun h=>by cases h),I1.out.x.bel⟩
 | true=>
  obtain ⟨a,cap,ht,hblk⟩:=I1.out.t
  obtain ⟨ge,hge⟩ : ∃ z,z = (giveV 32 (stRg c i) fr nn i).1:=⟨_,rfl⟩
  have GIV : Hid (Calls Tryz.prog 131 #[.pointer (some ⟨tt,0,none⟩),.int .i64 fr,.int .i64 nn,.int .i64 i] W1 (TPost w.heap.size tt 32 a (.int .i64 ge) (giveV 32 (stRg c i) fr nn i).2 W1)):=by
   rw [hge];exact give_any _ _ _ _ _ _ _ _ _ _ ht I1.out.x.bel.size
  have HX : Hid (x = (ge != 0)):=by rw [Hid,HG.out,hge];simp
  have BLK:=Lib.hid hblk
  have HT:=Lib.hid ht
  clear hge ht hblk HG
  by_cases h0 : ge = 0
  ·subst h0
   have hx : x = false:=by rw [HX.out];rfl
   subst hx
   go_wp2_with (first | (go_at_call 128;refine (VAL.out _).mono ?_;rintro e Wv ⟨rfl,rfl⟩) | (go_at_call 131;refine GIV.out.mono ?_;rintro e W2 ⟨a',cap',rfl,ht,hm,ha'⟩;have T2:=Lib.hid ht;have M2:=Lib.hid hm;have A2:=Lib.hid ha';clear ht hm ha'))
   go_ret
   have e1:=HI.out.wb;have e2:=HI.out.bt;have e3:=HI.out.ttb
   have hbw : Below w.heap.size w W2:=below_tab M2.out I1.out.x.bel (by omega) (fun k hk=>by have:=BLK.out _ hk;omega)
   refine ⟨rfl,⟨⟨I1.out.x.ob.mod M2.out (not_tab (by omega) (fun k hk=>by have:=BLK.out _ hk;omega)),HW.out.below hbw,hbw⟩,I1.out.tp.mod M2.out (not_tab (by omega) BLK.out),HI.out.bt,HI.out.wb,HI.out.ttb,a',cap',by rw [HS.out];exact T2.out,fun k hk=>?_⟩,hbw⟩
   rcases A2.out k hk with h1 | h1
   ·exact BLK.out k h1
   ·exact Nat.lt_of_lt_of_le I1.out.tp.lt h1
  ·have hx : x = true:=by rw [HX.out];simp [h0]
   subst hx
   have d0 : (ge != 0) = true:=by simp [h0]
   clear h0
   go_wp2_with (first | (go_at_call 128;refine (VAL.out _).mono ?_;rintro e Wv ⟨rfl,rfl⟩) | (go_at_call 131;refine GIV.out.mono ?_;rintro e W2 ⟨a',cap',rfl,ht,hm,ha'⟩;have T2:=Lib.hid ht;have M2:=Lib.hid hm;have A2:=Lib.hid ha';clear ht hm ha'))
   go_ret
   have e1:=HI.out.wb;have e2:=HI.out.bt;have e3:=HI.out.ttb
   have hbw : Below w.heap.size w W2:=below_tab M2.out I1.out.x.bel (by omega) (fun k hk=>by have:=BLK.out _ hk;omega)
   exact ⟨rfl,fun h=>(by cases h),hbw⟩
theorem ranges_any (c : Cv) (w : World) (h : CfgOk w c) : Calls Tryz.prog 87 #[(.agg #[.int .i64 c.cats,.slice c.g.a c.g.l.length c.g.cap,.slice c.r.a c.r.l.length c.r.cap,.slice c.p.a c.p.l.length c.p.cap,.slice c.n.a c.n.l.length c.n.cap,.slice c.s.a c.s.l.length c.s.cap,.int .i64 c.gate,.int .i64 c.quota])] w fun e w'=>e = .returned (.tuple #[.int .i64 (rFst c).1,.bool (rFst c).2]) ∧ Below w.heap.size w w':=by
 have hm:=h.r.mx
 have HW:=Lib.hid h
 obtain ⟨x,hx⟩ : ∃ x,x = rFst c:=⟨_,rfl⟩
 rw [← hx]
 have HX:=Lib.hid hx
 clear hx
 by_cases h2 : 8 < c.r.l.length
 ·have d2 : decide ((c.r.l.length : Int) > 8) = true:=by simp;omega
  have hx : x = (0,true):=by rw [HX.out,rFst,if_pos h2]
  subst hx
  clear h2
  (have h0:=CX.new h;go_enter Tryz.func87,Tryz.ntmps87;go_upto_region 1 with fail;generalize w.alloc (.cells #[.int .i64 c.cats,.slice c.g.a c.g.l.length c.g.cap,.slice c.r.a c.r.l.length c.r.cap,.slice c.p.a c.p.l.length c.p.cap,.slice c.n.a c.n.l.length c.n.cap,.slice c.s.a c.s.l.length c.s.cap,.int .i64 c.gate,.int .i64 c.quota] 29) = W1 at h0 ⊢;generalize w.heap.size = b0 at h0 ⊢;have H0:=Lib.hid h0;clear h0 h)
  (have q0:=H0.out.ob.cell 0 _ rfl;have q1:=H0.out.ob.cell 1 _ rfl;have q2:=H0.out.ob.cell 2 _ rfl;have q3:=H0.out.ob.cell 3 _ rfl;have q4:=H0.out.ob.cell 4 _ rfl;have q5:=H0.out.ob.cell 5 _ rfl;have q6:=H0.out.ob.cell 6 _ rfl;have q7:=H0.out.ob.cell 7 _ rfl)
  go_wp2_with fail
  go_ret2
  exact ⟨rfl,H0.out.bel⟩
 ·have d2 : decide ((c.r.l.length : Int) > 8) = false:=by simp;omega
  have hx : x = fstV (rBad c) c.r.l.length:=by rw [HX.out,rFst,if_neg h2]
  subst hx
  clear h2
  have h0:=CX.new h
  go_enter Tryz.func87,Tryz.ntmps87
  go_upto_region 1 with fail
  have hwb : w.heap.size ≤ w.heap.size:=Nat.le_refl _
  have hlt:=h0.ob.lt
  generalize w.alloc (.cells #[.int .i64 c.cats,.slice c.g.a c.g.l.length c.g.cap,.slice c.r.a c.r.l.length c.r.cap,.slice c.p.a c.p.l.length c.p.cap,.slice c.n.a c.n.l.length c.n.cap,.slice c.s.a c.s.l.length c.s.cap,.int .i64 c.gate,.int .i64 c.quota] 29) = W1 at h0 hlt ⊢
  obtain ⟨b0,hb0⟩ : ∃ b,b = w.heap.size:=⟨_,rfl⟩
  rw [← hb0] at h0 hlt ⊢
  have HB0:=Lib.hid hb0
  have H0:=Lib.hid h0
  have HLT:=Lib.hid hlt
  clear h0 h hb0 hwb hlt
  (have q0:=H0.out.ob.cell 0 _ rfl;have q1:=H0.out.ob.cell 1 _ rfl;have q2:=H0.out.ob.cell 2 _ rfl;have q3:=H0.out.ob.cell 3 _ rfl;have q4:=H0.out.ob.cell 4 _ rfl;have q5:=H0.out.ob.cell 5 _ rfl;have q6:=H0.out.ob.cell 6 _ rfl;have q7:=H0.out.ob.cell 7 _ rfl)
  go_upto_region 4 with (first | (go_at_call 129;refine (tnew_yes 32 (by omega) _).mono ?_;rintro e W2 ⟨rfl,ht,hb⟩;have T2:=Lib.hid ht;have B2:=Lib.hid hb;clear ht hb))
  have NB : Hid (ObjAt (W2.alloc (.cells #[.pointer (some ⟨W1.heap.size,0,none⟩)] 188)) W2.heap.size 188 [.pointer (some ⟨W1.heap.size,0,none⟩)]):=ObjAt.new W2 _ _
  have B3 : Hid (Below W2.heap.size W2 (W2.alloc (.cells #[.pointer (some ⟨W1.heap.size,0,none⟩)] 188))):=(Below.refl _ _).alloc (Nat.le_refl _) _
  generalize W2.alloc (.cells #[.pointer (some ⟨W1.heap.size,0,none⟩)] 188) = W3 at NB B3 ⊢
  have HI : Hid (RI w W3 b0 W2.heap.size W1.heap.size c 0):=⟨(H0.out.below B2.out).below B3.out,NB.out,HLT.out,Nat.le_of_eq HB0.out.symm,T2.out.obj.lt,none,0,(T2.out.below B3.out).mono H0.out.bel.size,fun k hk=>(by simp [blk] at hk)⟩
  generalize W2.heap.size = tb at HI NB ⊢
  generalize W1.heap.size = tt at HI NB T2 ⊢
  clear q0 q1 q2 q3 q4 q5 q6 q7 NB
  have FIR : Hid (Calls Tryz.prog 126 #[.int .i64 c.r.l.length,.func (Fn.func 130) #[] #[.pointer (some ⟨b0,0,none⟩),.pointer (some ⟨tb,0,none⟩)]] W3 (fun e W'=>e = .returned (.tuple #[.int .i64 (fstV (rBad c) c.r.l.length).1,.bool (fstV (rBad c) c.r.l.length).2]) ∧ Below w.heap.size w W')):=
   first2 130 (.pointer (some ⟨b0,0,none⟩)) (.pointer (some ⟨tb,0,none⟩)) c.r.l.length hm (rBad c) (fun i W=>RI w W b0 tb tt c i) (fun W=>Below w.heap.size w W) W3 (enter_of Tryz.func130 (by kernel_rfl) rfl) HI.out (fun _ _ h=>h.x.bel)
    (fun i hi W hW=>ranges1_any c i hi b0 tb tt w W HW.out hW)
  have q2:=HI.out.x.ob.cell 2 _ rfl
  go_wp2_with (go_at_call 126;refine FIR.out.mono ?_;rintro e W4 ⟨rfl,hx2⟩;have H2:=Lib.hid hx2;clear hx2)
  go_ret2
  exact ⟨rfl,H2.out⟩
end Go.Proofs.YtoklonmiejdgmaaGreatDoor
/- Chapter 4: the gate, and Check. -/
namespace Go.Proofs.YtoklonmiejdgmaaGreatDoor
set_option linter.unusedVariables false
set_option linter.unusedSimpArgs false
set_option linter.unnecessarySimpa false
open Go.RowKit
set_option maxHeartbeats 2000000
set_option maxRecDepth 100000
set_option linter.unusedVariables false
variable {W W' w : World} {c : Cv} {b N : Nat} {s : Sl}
def gateB (c : Cv) : Bool:=if c.gate = -1 then (c.quota != 0) else !(isG c c.gate) || (decide (c.quota < 0) || decide (64 < c.quota))
theorem gate_any (c : Cv) (w : World) (h : CfgOk w c) : Calls Tryz.prog 91 #[(.agg #[.int .i64 c.cats,.slice c.g.a c.g.l.length c.g.cap,.slice c.r.a c.r.l.length c.r.cap,.slice c.p.a c.p.l.length c.p.cap,.slice c.n.a c.n.l.length c.n.cap,.slice c.s.a c.s.l.length c.s.cap,.int .i64 c.gate,.int .i64 c.quota])] w fun e w'=>e = .returned (.bool (gateB c)) ∧ Below w.heap.size w w':=by
 obtain ⟨x,hx⟩ : ∃ x,x = gateB c:=⟨_,rfl⟩
 rw [← hx]
 have HG : Hid (x = if c.gate = -1 then (c.quota != 0) else !(isG c c.gate) || (decide (c.quota < 0) || decide (64 < c.quota))):=hx
 clear hx
 by_cases h1 : c.gate = -1
 ·have d1 : (c.gate == -1) = true:=by simp [h1]
  have hx : x = (c.quota != 0):=by rw [HG.out,if_pos h1]
  subst hx
  clear h1 HG
  (have h0:=CX.new h;go_enter Tryz.func91,Tryz.ntmps91;go_upto_region 1 with fail;generalize w.alloc (.cells #[.int .i64 c.cats,.slice c.g.a c.g.l.length c.g.cap,.slice c.r.a c.r.l.length c.r.cap,.slice c.p.a c.p.l.length c.p.cap,.slice c.n.a c.n.l.length c.n.cap,.slice c.s.a c.s.l.length c.s.cap,.int .i64 c.gate,.int .i64 c.quota] 29) = W1 at h0 ⊢;generalize w.heap.size = b0 at h0 ⊢;have H0:=Lib.hid h0;clear h0 h)
  (have q0:=H0.out.ob.cell 0 _ rfl;have q1:=H0.out.ob.cell 1 _ rfl;have q2:=H0.out.ob.cell 2 _ rfl;have q3:=H0.out.ob.cell 3 _ rfl;have q4:=H0.out.ob.cell 4 _ rfl;have q5:=H0.out.ob.cell 5 _ rfl;have q6:=H0.out.ob.cell 6 _ rfl;have q7:=H0.out.ob.cell 7 _ rfl)
  go_wp2_with fail
  go_ret
  exact ⟨rfl,H0.out.bel⟩
 ·have d1 : (c.gate == -1) = false:=by simp [h1]
  have hx : x = (!(isG c c.gate) || (decide (c.quota < 0) || decide (64 < c.quota))):=by rw [HG.out,if_neg h1]
  obtain ⟨vg,hvg⟩ : ∃ v,v = isG c c.gate:=⟨_,rfl⟩
  have GUE : Hid (∀ W,CfgOk W c → Calls Tryz.prog 133 #[(.agg #[.int .i64 c.cats,.slice c.g.a c.g.l.length c.g.cap,.slice c.r.a c.r.l.length c.r.cap,.slice c.p.a c.p.l.length c.p.cap,.slice c.n.a c.n.l.length c.n.cap,.slice c.s.a c.s.l.length c.s.cap,.int .i64 c.gate,.int .i64 c.quota]),.int .i64 c.gate] W fun e w'=>e = .returned (.bool vg) ∧ Below W.heap.size W w'):=fun W h=>by rw [hvg];exact guest_any _ _ _ h
  rw [← hvg] at hx
  clear h1 HG hvg
  cases vg with
  | false=>
   obtain rfl : x = true:=by rw [hx];rfl
   clear hx
   (have h0:=CX.new h;go_enter Tryz.func91,Tryz.ntmps91;go_upto_region 1 with fail;generalize w.alloc (.cells #[.int .i64 c.cats,.slice c.g.a c.g.l.length c.g.cap,.slice c.r.a c.r.l.length c.r.cap,.slice c.p.a c.p.l.length c.p.cap,.slice c.n.a c.n.l.length c.n.cap,.slice c.s.a c.s.l.length c.s.cap,.int .i64 c.gate,.int .i64 c.quota] 29) = W1 at h0 ⊢;generalize w.heap.size = b0 at h0 ⊢;have H0:=Lib.hid h0;clear h0 h)
   (have q0:=H0.out.ob.cell 0 _ rfl;have q1:=H0.out.ob.cell 1 _ rfl;have q2:=H0.out.ob.cell 2 _ rfl;have q3:=H0.out.ob.cell 3 _ rfl;have q4:=H0.out.ob.cell 4 _ rfl;have q5:=H0.out.ob.cell 5 _ rfl;have q6:=H0.out.ob.cell 6 _ rfl;have q7:=H0.out.ob.cell 7 _ rfl)
   (go_wp2_with (go_at_call 133;refine (GUE.out _ H0.out.ok).mono ?_;rintro e Wg ⟨rfl,hb⟩;have H1:=Lib.hid (H0.out.below hb);clear hb;replace q6:=H1.out.ob.cell 6 _ rfl;replace q7:=H1.out.ob.cell 7 _ rfl);go_ret;exact ⟨rfl,H1.out.bel⟩)
  | true=>
   by_cases h2 : c.quota < 0
   ·have d2 : decide (c.quota < 0) = true:=by simp [h2]
    obtain rfl : x = true:=by rw [hx];simp [h2]
    clear hx h2
    (have h0:=CX.new h;go_enter Tryz.func91,Tryz.ntmps91;go_upto_region 1 with fail;generalize w.alloc (.cells #[.int .i64 c.cats,.slice c.g.a c.g.l.length c.g.cap,.slice c.r.a c.r.l.length c.r.cap,.slice c.p.a c.p.l.length c.p.cap,.slice c.n.a c.n.l.length c.n.cap,.slice c.s.a c.s.l.length c.s.cap,.int .i64 c.gate,.int .i64 c.quota] 29) = W1 at h0 ⊢;generalize w.heap.size = b0 at h0 ⊢;have H0:=Lib.hid h0;clear h0 h)
    (have q0:=H0.out.ob.cell 0 _ rfl;have q1:=H0.out.ob.cell 1 _ rfl;have q2:=H0.out.ob.cell 2 _ rfl;have q3:=H0.out.ob.cell 3 _ rfl;have q4:=H0.out.ob.cell 4 _ rfl;have q5:=H0.out.ob.cell 5 _ rfl;have q6:=H0.out.ob.cell 6 _ rfl;have q7:=H0.out.ob.cell 7 _ rfl)
    (go_wp2_with (go_at_call 133;refine (GUE.out _ H0.out.ok).mono ?_;rintro e Wg ⟨rfl,hb⟩;have H1:=Lib.hid (H0.out.below hb);clear hb;replace q6:=H1.out.ob.cell 6 _ rfl;replace q7:=H1.out.ob.cell 7 _ rfl);go_ret;exact ⟨rfl,H1.out.bel⟩)
   ·have d2 : decide (c.quota < 0) = false:=by simpa using h2
    by_cases h3 : 64 < c.quota
    ·have d3 : decide (c.quota > 64) = true:=by simp [h3]
     obtain rfl : x = true:=by rw [hx];simp [h3]
     clear hx h2 h3
     (have h0:=CX.new h;go_enter Tryz.func91,Tryz.ntmps91;go_upto_region 1 with fail;generalize w.alloc (.cells #[.int .i64 c.cats,.slice c.g.a c.g.l.length c.g.cap,.slice c.r.a c.r.l.length c.r.cap,.slice c.p.a c.p.l.length c.p.cap,.slice c.n.a c.n.l.length c.n.cap,.slice c.s.a c.s.l.length c.s.cap,.int .i64 c.gate,.int .i64 c.quota] 29) = W1 at h0 ⊢;generalize w.heap.size = b0 at h0 ⊢;have H0:=Lib.hid h0;clear h0 h)
     (have q0:=H0.out.ob.cell 0 _ rfl;have q1:=H0.out.ob.cell 1 _ rfl;have q2:=H0.out.ob.cell 2 _ rfl;have q3:=H0.out.ob.cell 3 _ rfl;have q4:=H0.out.ob.cell 4 _ rfl;have q5:=H0.out.ob.cell 5 _ rfl;have q6:=H0.out.ob.cell 6 _ rfl;have q7:=H0.out.ob.cell 7 _ rfl)
     (go_wp2_with (go_at_call 133;refine (GUE.out _ H0.out.ok).mono ?_;rintro e Wg ⟨rfl,hb⟩;have H1:=Lib.hid (H0.out.below hb);clear hb;replace q6:=H1.out.ob.cell 6 _ rfl;replace q7:=H1.out.ob.cell 7 _ rfl);go_ret;exact ⟨rfl,H1.out.bel⟩)
    ·have d3 : decide (c.quota > 64) = false:=by simpa using h3
     obtain rfl : x = false:=by rw [hx];simp [h2,h3]
     clear hx h2 h3
     (have h0:=CX.new h;go_enter Tryz.func91,Tryz.ntmps91;go_upto_region 1 with fail;generalize w.alloc (.cells #[.int .i64 c.cats,.slice c.g.a c.g.l.length c.g.cap,.slice c.r.a c.r.l.length c.r.cap,.slice c.p.a c.p.l.length c.p.cap,.slice c.n.a c.n.l.length c.n.cap,.slice c.s.a c.s.l.length c.s.cap,.int .i64 c.gate,.int .i64 c.quota] 29) = W1 at h0 ⊢;generalize w.heap.size = b0 at h0 ⊢;have H0:=Lib.hid h0;clear h0 h)
     (have q0:=H0.out.ob.cell 0 _ rfl;have q1:=H0.out.ob.cell 1 _ rfl;have q2:=H0.out.ob.cell 2 _ rfl;have q3:=H0.out.ob.cell 3 _ rfl;have q4:=H0.out.ob.cell 4 _ rfl;have q5:=H0.out.ob.cell 5 _ rfl;have q6:=H0.out.ob.cell 6 _ rfl;have q7:=H0.out.ob.cell 7 _ rfl)
     (go_wp2_with (go_at_call 133;refine (GUE.out _ H0.out.ok).mono ?_;rintro e Wg ⟨rfl,hb⟩;have H1:=Lib.hid (H0.out.below hb);clear hb;replace q6:=H1.out.ob.cell 6 _ rfl;replace q7:=H1.out.ob.cell 7 _ rfl);go_ret;exact ⟨rfl,H1.out.bel⟩)
theorem one1_any (c : Cv) (bad : Bool) (b : Nat) (w : World) (h : CfgOk w c) (hb : ObjAt w b 4 [.bool bad]) : Calls Tryz.prog 85 #[(.agg #[.int .i64 c.cats,.slice c.g.a c.g.l.length c.g.cap,.slice c.r.a c.r.l.length c.r.cap,.slice c.p.a c.p.l.length c.p.cap,.slice c.n.a c.n.l.length c.n.cap,.slice c.s.a c.s.l.length c.s.cap,.int .i64 c.gate,.int .i64 c.quota]),.pointer (some ⟨b,0,none⟩)] w fun e w'=>e = .returned (.tuple #[.int .i64 0,.bool bad]) ∧ Below w.heap.size w w':=by
 have hb1:=hb.below ((Below.refl w.heap.size w).alloc (Nat.le_refl _) (.cells #[.int .i64 c.cats,.slice c.g.a c.g.l.length c.g.cap,.slice c.r.a c.r.l.length c.r.cap,.slice c.p.a c.p.l.length c.p.cap,.slice c.n.a c.n.l.length c.n.cap,.slice c.s.a c.s.l.length c.s.cap,.int .i64 c.gate,.int .i64 c.quota] 29))
 have HB:=Lib.hid hb1
 clear hb hb1
 have h0:=CX.new h
 go_enter Tryz.func85,Tryz.ntmps85
 go_upto_region 1 with fail
 generalize w.alloc (.cells #[.int .i64 c.cats,.slice c.g.a c.g.l.length c.g.cap,.slice c.r.a c.r.l.length c.r.cap,.slice c.p.a c.p.l.length c.p.cap,.slice c.n.a c.n.l.length c.n.cap,.slice c.s.a c.s.l.length c.s.cap,.int .i64 c.gate,.int .i64 c.quota] 29) = W1 at h0 HB ⊢
 have H0:=Lib.hid h0;clear h0 h
 have k0:=HB.out.cell 0 _ rfl
 go_quiet (fail)
 go_wp2_with fail
 go_ret2
 exact ⟨rfl,below_drewN H0.out.bel _⟩
theorem one_any (bad : Bool) (w : World) : Calls Tryz.prog 84 #[.bool bad] w fun e w'=>e = .returned (.func (.func 85) #[] #[.pointer (some ⟨w.heap.size,0,none⟩)]) ∧ ObjAt w' w.heap.size 4 [.bool bad] ∧ Below w.heap.size w w':=by
 have N1 : Hid (ObjAt (w.alloc (.cells #[.bool bad] 4)) w.heap.size 4 [.bool bad]):=ObjAt.new w _ _
 have B1 : Hid (Below w.heap.size w (w.alloc (.cells #[.bool bad] 4))):=(Below.refl _ _).alloc (Nat.le_refl _) _
 go_enter Tryz.func84,Tryz.ntmps84
 go_wp2_with fail
 go_ret
 exact ⟨rfl,N1.out,B1.out⟩
/-- The six rules. -/
def ruleV (c : Cv) : Nat → Int × Bool
 | 0=>gFst c
 | 1=>rFst c
 | 2=>pFst c
 | 3=>nFst c
 | 4=>sFst c
 | _=>(0,gateB c)
def chkV (c : Cv) : Int × Int:=
 if c.cats < 0 ∨ 8 < c.cats then (12,0) else
 match (List.range 6).find? fun k=>(ruleV c k).2 with
 | some k=>(13 + k,(ruleV c k).1)
 | none=>if 32 < needV c then (19,0) else (0,0)
theorem rule_hit {c : Cv} {k : Nat} (hk : k < 6) (h : ∀ j,j < k → (ruleV c j).2 = false) (hp : (ruleV c k).2 = true) : (List.range 6).find? (fun k=>(ruleV c k).2) = some k:=by
 rw [List.find?_range_eq_some]
 exact ⟨hp,List.mem_range.2 hk,fun j hj=>by simp [h j hj]⟩
theorem rule_none {c : Cv} (h : ∀ j,j < 6 → (ruleV c j).2 = false) : (List.range 6).find? (fun k=>(ruleV c k).2) = none:=by
 rw [List.find?_eq_none];intro x hx;simp [h x (List.mem_range.1 hx)]
theorem fstV_false {P : Nat → Bool} {n : Nat} (h : (fstV P n).2 = false) : ∀ j,j < n → P j = false:=by
 intro j hj
 unfold fstV at h
 cases hf : (List.range n).find? P with
 | some i=>rw [hf] at h;cases h
 | none=>rw [List.find?_eq_none] at hf;simpa using hf j (List.mem_range.2 hj)
theorem gok_of {c : Cv} (h0 : (gFst c).2 = false) (h3 : (nFst c).2 = false) : GOk c:=by
 unfold gFst at h0
 unfold nFst at h3
 split at h0
 ·cases h0
 ·split at h3
  ·cases h3
  ·refine ⟨by omega,by omega,fun r hr=>?_⟩
   obtain ⟨i,hi,rfl⟩:=List.mem_iff_getElem.1 hr
   have:=fstV_false h0 i hi
   simp only [gBad,at_eq hi,Bool.or_eq_false_iff,decide_eq_false_iff_not] at this
   unfold GRow
   omega
set_option maxHeartbeats 8000000 in
theorem check_any (c : Cv) (w : World) (h : CfgOk w c) : Calls Tryz.prog 54 #[(.agg #[.int .i64 c.cats,.slice c.g.a c.g.l.length c.g.cap,.slice c.r.a c.r.l.length c.r.cap,.slice c.p.a c.p.l.length c.p.cap,.slice c.n.a c.n.l.length c.n.cap,.slice c.s.a c.s.l.length c.s.cap,.int .i64 c.gate,.int .i64 c.quota])] w fun e w'=>e = .returned (.tuple #[.int .i64 (chkV c).1,.int .i64 (chkV c).2]) ∧ Below w.heap.size w w':=by
 obtain ⟨x,hx⟩ : ∃ x,x = chkV c:=⟨_,rfl⟩
 rw [← hx]
 have HG : Hid (x = chkV c):=hx
 clear hx
 by_cases h1 : c.cats < 0
 ·have d1 : decide (c.cats < 0) = true:=by simp [h1]
  obtain rfl : x = (12,0):=by rw [HG.out,chkV,if_pos (Or.inl h1)]
  clear h1 HG
  (have h0:=CX.new h;go_enter Tryz.func54,Tryz.ntmps54;go_upto_region 1 with fail;generalize w.alloc (.cells #[.int .i64 c.cats,.slice c.g.a c.g.l.length c.g.cap,.slice c.r.a c.r.l.length c.r.cap,.slice c.p.a c.p.l.length c.p.cap,.slice c.n.a c.n.l.length c.n.cap,.slice c.s.a c.s.l.length c.s.cap,.int .i64 c.gate,.int .i64 c.quota] 29) = W1 at h0 ⊢;generalize w.heap.size = b0 at h0 ⊢;have H0:=Lib.hid h0;clear h0 h);go_step3
  (have q0:=H0.out.ob.cell 0 _ rfl;have q1:=H0.out.ob.cell 1 _ rfl;have q2:=H0.out.ob.cell 2 _ rfl;have q3:=H0.out.ob.cell 3 _ rfl;have q4:=H0.out.ob.cell 4 _ rfl;have q5:=H0.out.ob.cell 5 _ rfl;have q6:=H0.out.ob.cell 6 _ rfl;have q7:=H0.out.ob.cell 7 _ rfl)
  go_wp2_with fail
  rw [Exit.noGoto_ret];go_ret2
  exact ⟨rfl,H0.out.bel⟩
 ·have d1 : decide (c.cats < 0) = false:=by simp [h1]
  by_cases h2 : 8 < c.cats
  ·have d2 : decide (c.cats > 8) = true:=by simp [h2]
   obtain rfl : x = (12,0):=by rw [HG.out,chkV,if_pos (Or.inr h2)]
   clear h1 h2 HG
   (have h0:=CX.new h;go_enter Tryz.func54,Tryz.ntmps54;go_upto_region 1 with fail;generalize w.alloc (.cells #[.int .i64 c.cats,.slice c.g.a c.g.l.length c.g.cap,.slice c.r.a c.r.l.length c.r.cap,.slice c.p.a c.p.l.length c.p.cap,.slice c.n.a c.n.l.length c.n.cap,.slice c.s.a c.s.l.length c.s.cap,.int .i64 c.gate,.int .i64 c.quota] 29) = W1 at h0 ⊢;generalize w.heap.size = b0 at h0 ⊢;have H0:=Lib.hid h0;clear h0 h);go_step3
   (have q0:=H0.out.ob.cell 0 _ rfl;have q1:=H0.out.ob.cell 1 _ rfl;have q2:=H0.out.ob.cell 2 _ rfl;have q3:=H0.out.ob.cell 3 _ rfl;have q4:=H0.out.ob.cell 4 _ rfl;have q5:=H0.out.ob.cell 5 _ rfl;have q6:=H0.out.ob.cell 6 _ rfl;have q7:=H0.out.ob.cell 7 _ rfl)
   go_wp2_with fail
   rw [Exit.noGoto_ret];go_ret2
   exact ⟨rfl,H0.out.bel⟩
  ·have d2 : decide (c.cats > 8) = false:=by simpa using h2
   have hx : x = match (List.range 6).find? fun k=>(ruleV c k).2 with
    | some k=>((13 + k : Int),(ruleV c k).1)
    | none=>if 32 < needV c then (19,0) else (0,0):=by rw [HG.out,chkV,if_neg (by omega)]
   replace HG:=Lib.hid hx
   clear h1 h2 hx
   (have h0:=CX.new h;go_enter Tryz.func54,Tryz.ntmps54;go_upto_region 1 with fail;generalize w.alloc (.cells #[.int .i64 c.cats,.slice c.g.a c.g.l.length c.g.cap,.slice c.r.a c.r.l.length c.r.cap,.slice c.p.a c.p.l.length c.p.cap,.slice c.n.a c.n.l.length c.n.cap,.slice c.s.a c.s.l.length c.s.cap,.int .i64 c.gate,.int .i64 c.quota] 29) = W1 at h0 ⊢;generalize w.heap.size = b0 at h0 ⊢;have H0:=Lib.hid h0;clear h0 h);go_step3
   (have q0:=H0.out.ob.cell 0 _ rfl;have q1:=H0.out.ob.cell 1 _ rfl;have q2:=H0.out.ob.cell 2 _ rfl;have q3:=H0.out.ob.cell 3 _ rfl;have q4:=H0.out.ob.cell 4 _ rfl;have q5:=H0.out.ob.cell 5 _ rfl;have q6:=H0.out.ob.cell 6 _ rfl;have q7:=H0.out.ob.cell 7 _ rfl)
   go_upto_region 5 with fail
   go_step3
   go_upto_region 6 with (first | (go_at_call 91;refine (gate_any c _ H0.out.ok).mono ?_;rintro e Wg ⟨rfl,hb⟩;have H1:=Lib.hid (H0.out.below hb);clear hb;clear q0 q1 q2 q3 q4 q5 q6 q7) | (go_at_call 84;refine (one_any _ _).mono ?_;rintro e W2 ⟨rfl,ho,hb⟩;have O2:=Lib.hid ho;have H2:=Lib.hid (H1.out.below hb);clear ho hb))
   have NB : Hid (ObjAt (W2.alloc (.cells #[.func (Fn.func 86) #[] #[],.int .i64 13,.func (Fn.func 87) #[] #[],.int .i64 14,.func (Fn.func 88) #[] #[],.int .i64 15,.func (Fn.func 89) #[] #[],.int .i64 16,.func (Fn.func 90) #[] #[],.int .i64 17,.func (Fn.func 85) #[] #[.pointer (some ⟨Wg.heap.size,0,none⟩)],.int .i64 18] 157)) W2.heap.size 157 [.func (Fn.func 86) #[] #[],.int .i64 13,.func (Fn.func 87) #[] #[],.int .i64 14,.func (Fn.func 88) #[] #[],.int .i64 15,.func (Fn.func 89) #[] #[],.int .i64 16,.func (Fn.func 90) #[] #[],.int .i64 17,.func (Fn.func 85) #[] #[.pointer (some ⟨Wg.heap.size,0,none⟩)],.int .i64 18]):=ObjAt.new W2 _ _
   have B3 : Hid (Below W2.heap.size W2 (W2.alloc (.cells #[.func (Fn.func 86) #[] #[],.int .i64 13,.func (Fn.func 87) #[] #[],.int .i64 14,.func (Fn.func 88) #[] #[],.int .i64 15,.func (Fn.func 89) #[] #[],.int .i64 16,.func (Fn.func 90) #[] #[],.int .i64 17,.func (Fn.func 85) #[] #[.pointer (some ⟨Wg.heap.size,0,none⟩)],.int .i64 18] 157))):=(Below.refl _ _).alloc (Nat.le_refl _) _
   have O3 : Hid (ObjAt (W2.alloc (.cells #[.func (Fn.func 86) #[] #[],.int .i64 13,.func (Fn.func 87) #[] #[],.int .i64 14,.func (Fn.func 88) #[] #[],.int .i64 15,.func (Fn.func 89) #[] #[],.int .i64 16,.func (Fn.func 90) #[] #[],.int .i64 17,.func (Fn.func 85) #[] #[.pointer (some ⟨Wg.heap.size,0,none⟩)],.int .i64 18] 157)) Wg.heap.size 4 [.bool (gateB c)]):=O2.out.below B3.out
   have H3 : Hid (CX w (W2.alloc (.cells #[.func (Fn.func 86) #[] #[],.int .i64 13,.func (Fn.func 87) #[] #[],.int .i64 14,.func (Fn.func 88) #[] #[],.int .i64 15,.func (Fn.func 89) #[] #[],.int .i64 16,.func (Fn.func 90) #[] #[],.int .i64 17,.func (Fn.func 85) #[] #[.pointer (some ⟨Wg.heap.size,0,none⟩)],.int .i64 18] 157)) b0 c):=H2.out.below B3.out
   generalize W2.alloc (.cells #[.func (Fn.func 86) #[] #[],.int .i64 13,.func (Fn.func 87) #[] #[],.int .i64 14,.func (Fn.func 88) #[] #[],.int .i64 15,.func (Fn.func 89) #[] #[],.int .i64 16,.func (Fn.func 90) #[] #[],.int .i64 17,.func (Fn.func 85) #[] #[.pointer (some ⟨Wg.heap.size,0,none⟩)],.int .i64 18] 157) = W3 at NB O3 H3 ⊢
   generalize W2.heap.size = rb at NB ⊢
   generalize Wg.heap.size = gb at NB O3 ⊢
   clear B3 O2 H2 H1
   go_loopw [5,6,31] (fun g5 g6 g31 wr=>∃ k : Nat,k ≤ 6 ∧ g31 = .int .i64 k ∧ g5 = .int .i64 0 ∧ g6 = .int .i64 0 ∧ Below W3.heap.size W3 wr ∧ ∀ j,j < k → (ruleV c j).2 = false) (fun _ _ g31 _=>6 - (intOf g31).toNat)
   case atStart=>exact ⟨0,by omega,rfl,rfl,rfl,Below.refl _ _,fun j hj=>by omega⟩
   case round=>
    obtain ⟨k,hk,rfl,rfl,rfl,hb,hj⟩:=hrel
    have HB:=Lib.hid hb
    have HJ:=Lib.hid hj
    clear hb hj
    have X1:=Lib.hid (H3.out.below HB.out)
    have N1:=Lib.hid (NB.out.below HB.out)
    have O1:=Lib.hid (O3.out.below HB.out)
    match k,hk with
    | 0,_=>(
     have r0:=N1.out.cell (2 * 0) _ rfl
     have r1:=N1.out.cell (2 * 0 + 1) _ rfl
     (have q0:=X1.out.ob.cell 0 _ rfl;have q1:=X1.out.ob.cell 1 _ rfl;have q2:=X1.out.ob.cell 2 _ rfl;have q3:=X1.out.ob.cell 3 _ rfl;have q4:=X1.out.ob.cell 4 _ rfl;have q5:=X1.out.ob.cell 5 _ rfl;have q6:=X1.out.ob.cell 6 _ rfl;have q7:=X1.out.ob.cell 7 _ rfl)
     obtain ⟨v,hv⟩ : ∃ v,v = ruleV c 0:=⟨_,rfl⟩
     have CON : Hid (∀ W,CfgOk W c → ObjAt W gb 4 [.bool (gateB c)] → Calls Tryz.prog 86 #[(.agg #[.int .i64 c.cats,.slice c.g.a c.g.l.length c.g.cap,.slice c.r.a c.r.l.length c.r.cap,.slice c.p.a c.p.l.length c.p.cap,.slice c.n.a c.n.l.length c.n.cap,.slice c.s.a c.s.l.length c.s.cap,.int .i64 c.gate,.int .i64 c.quota])] W fun e w'=>e = .returned (.tuple #[.int .i64 v.1,.bool v.2]) ∧ Below W.heap.size W w'):=fun W hc ho=>by rw [hv];exact (guests_any c _ hc)
     go_upto_region 8 with fail
     have R4 : Hid (ObjAt (wr.alloc (.cells #[.func (Fn.func 86) #[] #[],.int .i64 13] 157)) wr.heap.size 157 [.func (Fn.func 86) #[] #[],.int .i64 13]):=ObjAt.new wr _ _
     have B4 : Hid (Below wr.heap.size wr (wr.alloc (.cells #[.func (Fn.func 86) #[] #[],.int .i64 13] 157))):=(Below.refl _ _).alloc (Nat.le_refl _) _
     generalize wr.alloc (.cells #[.func (Fn.func 86) #[] #[],.int .i64 13] 157) = W4 at R4 B4 ⊢
     generalize wr.heap.size = rr at R4 ⊢
     have X4:=Lib.hid (X1.out.below B4.out)
     have O4:=Lib.hid (O1.out.below B4.out)
     clear r0 r1
     (replace q0:=X4.out.ob.cell 0 _ rfl;replace q1:=X4.out.ob.cell 1 _ rfl;replace q2:=X4.out.ob.cell 2 _ rfl;replace q3:=X4.out.ob.cell 3 _ rfl;replace q4:=X4.out.ob.cell 4 _ rfl;replace q5:=X4.out.ob.cell 5 _ rfl;replace q6:=X4.out.ob.cell 6 _ rfl;replace q7:=X4.out.ob.cell 7 _ rfl)
     have r0:=R4.out.cell 0 _ rfl
     obtain ⟨vi,vb⟩:=v
     have HV:=Lib.hid hv
     clear hv
     dsimp only at CON
     cases vb with
     | false=>
      have HJ2 : Hid (∀ j,j < 0 + 1 → (ruleV c j).2 = false):=fun j hj=>by
       rcases Nat.lt_or_ge j 0 with h | h
       ·exact HJ.out j h
       ·rw [show j = 0 by omega,← HV.out]
      go_wp2_with (go_at_call 86;refine (CON.out _ X4.out.ok O4.out).mono ?_;rintro e W5 ⟨rfl,hb⟩;have HB5:=Lib.hid (HB.out.trans ((B4.out.trans (hb.mono B4.out.size)).mono HB.out.size));clear hb)
      go_roundw
      case rel=>exact ⟨0 + 1,by omega,by go_num,rfl,rfl,HB5.out,HJ2.out⟩
      case measure=>simp [intOf]
     | true=>
      have hx : x = (13 + 0,vi):=by rw [HG.out,rule_hit (k:=0) (by omega) HJ.out (by rw [← HV.out])];dsimp only;rw [← HV.out];rfl
      subst hx
      go_wp2_with (go_at_call 86;refine (CON.out _ X4.out.ok O4.out).mono ?_;rintro e W5 ⟨rfl,hb⟩;have X5:=Lib.hid (X4.out.below hb);have R5:=Lib.hid (R4.out.below hb);clear hb)
      have t1:=R5.out.cell 1 _ rfl
      go_quiet (fail)
      go_wp2_with fail
      rw [Exit.noGoto_ret];go_ret2
      exact ⟨rfl,below_drewN X5.out.bel _⟩
)
    | 1,_=>(
     have r0:=N1.out.cell (2 * 1) _ rfl
     have r1:=N1.out.cell (2 * 1 + 1) _ rfl
     (have q0:=X1.out.ob.cell 0 _ rfl;have q1:=X1.out.ob.cell 1 _ rfl;have q2:=X1.out.ob.cell 2 _ rfl;have q3:=X1.out.ob.cell 3 _ rfl;have q4:=X1.out.ob.cell 4 _ rfl;have q5:=X1.out.ob.cell 5 _ rfl;have q6:=X1.out.ob.cell 6 _ rfl;have q7:=X1.out.ob.cell 7 _ rfl)
     obtain ⟨v,hv⟩ : ∃ v,v = ruleV c 1:=⟨_,rfl⟩
     have CON : Hid (∀ W,CfgOk W c → ObjAt W gb 4 [.bool (gateB c)] → Calls Tryz.prog 87 #[(.agg #[.int .i64 c.cats,.slice c.g.a c.g.l.length c.g.cap,.slice c.r.a c.r.l.length c.r.cap,.slice c.p.a c.p.l.length c.p.cap,.slice c.n.a c.n.l.length c.n.cap,.slice c.s.a c.s.l.length c.s.cap,.int .i64 c.gate,.int .i64 c.quota])] W fun e w'=>e = .returned (.tuple #[.int .i64 v.1,.bool v.2]) ∧ Below W.heap.size W w'):=fun W hc ho=>by rw [hv];exact (ranges_any c _ hc)
     go_upto_region 8 with fail
     have R4 : Hid (ObjAt (wr.alloc (.cells #[.func (Fn.func 87) #[] #[],.int .i64 14] 157)) wr.heap.size 157 [.func (Fn.func 87) #[] #[],.int .i64 14]):=ObjAt.new wr _ _
     have B4 : Hid (Below wr.heap.size wr (wr.alloc (.cells #[.func (Fn.func 87) #[] #[],.int .i64 14] 157))):=(Below.refl _ _).alloc (Nat.le_refl _) _
     generalize wr.alloc (.cells #[.func (Fn.func 87) #[] #[],.int .i64 14] 157) = W4 at R4 B4 ⊢
     generalize wr.heap.size = rr at R4 ⊢
     have X4:=Lib.hid (X1.out.below B4.out)
     have O4:=Lib.hid (O1.out.below B4.out)
     clear r0 r1
     (replace q0:=X4.out.ob.cell 0 _ rfl;replace q1:=X4.out.ob.cell 1 _ rfl;replace q2:=X4.out.ob.cell 2 _ rfl;replace q3:=X4.out.ob.cell 3 _ rfl;replace q4:=X4.out.ob.cell 4 _ rfl;replace q5:=X4.out.ob.cell 5 _ rfl;replace q6:=X4.out.ob.cell 6 _ rfl;replace q7:=X4.out.ob.cell 7 _ rfl)
     have r0:=R4.out.cell 0 _ rfl
     obtain ⟨vi,vb⟩:=v
     have HV:=Lib.hid hv
     clear hv
     dsimp only at CON
     cases vb with
     | false=>
      have HJ2 : Hid (∀ j,j < 1 + 1 → (ruleV c j).2 = false):=fun j hj=>by
       rcases Nat.lt_or_ge j 1 with h | h
       ·exact HJ.out j h
       ·rw [show j = 1 by omega,← HV.out]
      go_wp2_with (go_at_call 87;refine (CON.out _ X4.out.ok O4.out).mono ?_;rintro e W5 ⟨rfl,hb⟩;have HB5:=Lib.hid (HB.out.trans ((B4.out.trans (hb.mono B4.out.size)).mono HB.out.size));clear hb)
      go_roundw
      case rel=>exact ⟨1 + 1,by omega,by go_num,rfl,rfl,HB5.out,HJ2.out⟩
      case measure=>simp [intOf]
     | true=>
      have hx : x = (13 + 1,vi):=by rw [HG.out,rule_hit (k:=1) (by omega) HJ.out (by rw [← HV.out])];dsimp only;rw [← HV.out];rfl
      subst hx
      go_wp2_with (go_at_call 87;refine (CON.out _ X4.out.ok O4.out).mono ?_;rintro e W5 ⟨rfl,hb⟩;have X5:=Lib.hid (X4.out.below hb);have R5:=Lib.hid (R4.out.below hb);clear hb)
      have t1:=R5.out.cell 1 _ rfl
      go_quiet (fail)
      go_wp2_with fail
      rw [Exit.noGoto_ret];go_ret2
      exact ⟨rfl,below_drewN X5.out.bel _⟩
)
    | 2,_=>(
     have r0:=N1.out.cell (2 * 2) _ rfl
     have r1:=N1.out.cell (2 * 2 + 1) _ rfl
     (have q0:=X1.out.ob.cell 0 _ rfl;have q1:=X1.out.ob.cell 1 _ rfl;have q2:=X1.out.ob.cell 2 _ rfl;have q3:=X1.out.ob.cell 3 _ rfl;have q4:=X1.out.ob.cell 4 _ rfl;have q5:=X1.out.ob.cell 5 _ rfl;have q6:=X1.out.ob.cell 6 _ rfl;have q7:=X1.out.ob.cell 7 _ rfl)
     obtain ⟨v,hv⟩ : ∃ v,v = ruleV c 2:=⟨_,rfl⟩
     have CON : Hid (∀ W,CfgOk W c → ObjAt W gb 4 [.bool (gateB c)] → Calls Tryz.prog 88 #[(.agg #[.int .i64 c.cats,.slice c.g.a c.g.l.length c.g.cap,.slice c.r.a c.r.l.length c.r.cap,.slice c.p.a c.p.l.length c.p.cap,.slice c.n.a c.n.l.length c.n.cap,.slice c.s.a c.s.l.length c.s.cap,.int .i64 c.gate,.int .i64 c.quota])] W fun e w'=>e = .returned (.tuple #[.int .i64 v.1,.bool v.2]) ∧ Below W.heap.size W w'):=fun W hc ho=>by rw [hv];exact (ports_any c _ hc)
     go_upto_region 8 with fail
     have R4 : Hid (ObjAt (wr.alloc (.cells #[.func (Fn.func 88) #[] #[],.int .i64 15] 157)) wr.heap.size 157 [.func (Fn.func 88) #[] #[],.int .i64 15]):=ObjAt.new wr _ _
     have B4 : Hid (Below wr.heap.size wr (wr.alloc (.cells #[.func (Fn.func 88) #[] #[],.int .i64 15] 157))):=(Below.refl _ _).alloc (Nat.le_refl _) _
     generalize wr.alloc (.cells #[.func (Fn.func 88) #[] #[],.int .i64 15] 157) = W4 at R4 B4 ⊢
     generalize wr.heap.size = rr at R4 ⊢
     have X4:=Lib.hid (X1.out.below B4.out)
     have O4:=Lib.hid (O1.out.below B4.out)
     clear r0 r1
     (replace q0:=X4.out.ob.cell 0 _ rfl;replace q1:=X4.out.ob.cell 1 _ rfl;replace q2:=X4.out.ob.cell 2 _ rfl;replace q3:=X4.out.ob.cell 3 _ rfl;replace q4:=X4.out.ob.cell 4 _ rfl;replace q5:=X4.out.ob.cell 5 _ rfl;replace q6:=X4.out.ob.cell 6 _ rfl;replace q7:=X4.out.ob.cell 7 _ rfl)
     have r0:=R4.out.cell 0 _ rfl
     obtain ⟨vi,vb⟩:=v
     have HV:=Lib.hid hv
     clear hv
     dsimp only at CON
     cases vb with
     | false=>
      have HJ2 : Hid (∀ j,j < 2 + 1 → (ruleV c j).2 = false):=fun j hj=>by
       rcases Nat.lt_or_ge j 2 with h | h
       ·exact HJ.out j h
       ·rw [show j = 2 by omega,← HV.out]
      go_wp2_with (go_at_call 88;refine (CON.out _ X4.out.ok O4.out).mono ?_;rintro e W5 ⟨rfl,hb⟩;have HB5:=Lib.hid (HB.out.trans ((B4.out.trans (hb.mono B4.out.size)).mono HB.out.size));clear hb)
      go_roundw
      case rel=>exact ⟨2 + 1,by omega,by go_num,rfl,rfl,HB5.out,HJ2.out⟩
      case measure=>simp [intOf]
     | true=>
      have hx : x = (13 + 2,vi):=by rw [HG.out,rule_hit (k:=2) (by omega) HJ.out (by rw [← HV.out])];dsimp only;rw [← HV.out];rfl
      subst hx
      go_wp2_with (go_at_call 88;refine (CON.out _ X4.out.ok O4.out).mono ?_;rintro e W5 ⟨rfl,hb⟩;have X5:=Lib.hid (X4.out.below hb);have R5:=Lib.hid (R4.out.below hb);clear hb)
      have t1:=R5.out.cell 1 _ rfl
      go_quiet (fail)
      go_wp2_with fail
      rw [Exit.noGoto_ret];go_ret2
      exact ⟨rfl,below_drewN X5.out.bel _⟩
)
    | 3,_=>(
     have r0:=N1.out.cell (2 * 3) _ rfl
     have r1:=N1.out.cell (2 * 3 + 1) _ rfl
     (have q0:=X1.out.ob.cell 0 _ rfl;have q1:=X1.out.ob.cell 1 _ rfl;have q2:=X1.out.ob.cell 2 _ rfl;have q3:=X1.out.ob.cell 3 _ rfl;have q4:=X1.out.ob.cell 4 _ rfl;have q5:=X1.out.ob.cell 5 _ rfl;have q6:=X1.out.ob.cell 6 _ rfl;have q7:=X1.out.ob.cell 7 _ rfl)
     obtain ⟨v,hv⟩ : ∃ v,v = ruleV c 3:=⟨_,rfl⟩
     have CON : Hid (∀ W,CfgOk W c → ObjAt W gb 4 [.bool (gateB c)] → Calls Tryz.prog 89 #[(.agg #[.int .i64 c.cats,.slice c.g.a c.g.l.length c.g.cap,.slice c.r.a c.r.l.length c.r.cap,.slice c.p.a c.p.l.length c.p.cap,.slice c.n.a c.n.l.length c.n.cap,.slice c.s.a c.s.l.length c.s.cap,.int .i64 c.gate,.int .i64 c.quota])] W fun e w'=>e = .returned (.tuple #[.int .i64 v.1,.bool v.2]) ∧ Below W.heap.size W w'):=fun W hc ho=>by rw [hv];exact (rings_any c _ hc)
     go_upto_region 8 with fail
     have R4 : Hid (ObjAt (wr.alloc (.cells #[.func (Fn.func 89) #[] #[],.int .i64 16] 157)) wr.heap.size 157 [.func (Fn.func 89) #[] #[],.int .i64 16]):=ObjAt.new wr _ _
     have B4 : Hid (Below wr.heap.size wr (wr.alloc (.cells #[.func (Fn.func 89) #[] #[],.int .i64 16] 157))):=(Below.refl _ _).alloc (Nat.le_refl _) _
     generalize wr.alloc (.cells #[.func (Fn.func 89) #[] #[],.int .i64 16] 157) = W4 at R4 B4 ⊢
     generalize wr.heap.size = rr at R4 ⊢
     have X4:=Lib.hid (X1.out.below B4.out)
     have O4:=Lib.hid (O1.out.below B4.out)
     clear r0 r1
     (replace q0:=X4.out.ob.cell 0 _ rfl;replace q1:=X4.out.ob.cell 1 _ rfl;replace q2:=X4.out.ob.cell 2 _ rfl;replace q3:=X4.out.ob.cell 3 _ rfl;replace q4:=X4.out.ob.cell 4 _ rfl;replace q5:=X4.out.ob.cell 5 _ rfl;replace q6:=X4.out.ob.cell 6 _ rfl;replace q7:=X4.out.ob.cell 7 _ rfl)
     have r0:=R4.out.cell 0 _ rfl
     obtain ⟨vi,vb⟩:=v
     have HV:=Lib.hid hv
     clear hv
     dsimp only at CON
     cases vb with
     | false=>
      have HJ2 : Hid (∀ j,j < 3 + 1 → (ruleV c j).2 = false):=fun j hj=>by
       rcases Nat.lt_or_ge j 3 with h | h
       ·exact HJ.out j h
       ·rw [show j = 3 by omega,← HV.out]
      go_wp2_with (go_at_call 89;refine (CON.out _ X4.out.ok O4.out).mono ?_;rintro e W5 ⟨rfl,hb⟩;have HB5:=Lib.hid (HB.out.trans ((B4.out.trans (hb.mono B4.out.size)).mono HB.out.size));clear hb)
      go_roundw
      case rel=>exact ⟨3 + 1,by omega,by go_num,rfl,rfl,HB5.out,HJ2.out⟩
      case measure=>simp [intOf]
     | true=>
      have hx : x = (13 + 3,vi):=by rw [HG.out,rule_hit (k:=3) (by omega) HJ.out (by rw [← HV.out])];dsimp only;rw [← HV.out];rfl
      subst hx
      go_wp2_with (go_at_call 89;refine (CON.out _ X4.out.ok O4.out).mono ?_;rintro e W5 ⟨rfl,hb⟩;have X5:=Lib.hid (X4.out.below hb);have R5:=Lib.hid (R4.out.below hb);clear hb)
      have t1:=R5.out.cell 1 _ rfl
      go_quiet (fail)
      go_wp2_with fail
      rw [Exit.noGoto_ret];go_ret2
      exact ⟨rfl,below_drewN X5.out.bel _⟩
)
    | 4,_=>(
     have r0:=N1.out.cell (2 * 4) _ rfl
     have r1:=N1.out.cell (2 * 4 + 1) _ rfl
     (have q0:=X1.out.ob.cell 0 _ rfl;have q1:=X1.out.ob.cell 1 _ rfl;have q2:=X1.out.ob.cell 2 _ rfl;have q3:=X1.out.ob.cell 3 _ rfl;have q4:=X1.out.ob.cell 4 _ rfl;have q5:=X1.out.ob.cell 5 _ rfl;have q6:=X1.out.ob.cell 6 _ rfl;have q7:=X1.out.ob.cell 7 _ rfl)
     obtain ⟨v,hv⟩ : ∃ v,v = ruleV c 4:=⟨_,rfl⟩
     have CON : Hid (∀ W,CfgOk W c → ObjAt W gb 4 [.bool (gateB c)] → Calls Tryz.prog 90 #[(.agg #[.int .i64 c.cats,.slice c.g.a c.g.l.length c.g.cap,.slice c.r.a c.r.l.length c.r.cap,.slice c.p.a c.p.l.length c.p.cap,.slice c.n.a c.n.l.length c.n.cap,.slice c.s.a c.s.l.length c.s.cap,.int .i64 c.gate,.int .i64 c.quota])] W fun e w'=>e = .returned (.tuple #[.int .i64 v.1,.bool v.2]) ∧ Below W.heap.size W w'):=fun W hc ho=>by rw [hv];exact (slots_any c _ hc)
     go_upto_region 8 with fail
     have R4 : Hid (ObjAt (wr.alloc (.cells #[.func (Fn.func 90) #[] #[],.int .i64 17] 157)) wr.heap.size 157 [.func (Fn.func 90) #[] #[],.int .i64 17]):=ObjAt.new wr _ _
     have B4 : Hid (Below wr.heap.size wr (wr.alloc (.cells #[.func (Fn.func 90) #[] #[],.int .i64 17] 157))):=(Below.refl _ _).alloc (Nat.le_refl _) _
     generalize wr.alloc (.cells #[.func (Fn.func 90) #[] #[],.int .i64 17] 157) = W4 at R4 B4 ⊢
     generalize wr.heap.size = rr at R4 ⊢
     have X4:=Lib.hid (X1.out.below B4.out)
     have O4:=Lib.hid (O1.out.below B4.out)
     clear r0 r1
     (replace q0:=X4.out.ob.cell 0 _ rfl;replace q1:=X4.out.ob.cell 1 _ rfl;replace q2:=X4.out.ob.cell 2 _ rfl;replace q3:=X4.out.ob.cell 3 _ rfl;replace q4:=X4.out.ob.cell 4 _ rfl;replace q5:=X4.out.ob.cell 5 _ rfl;replace q6:=X4.out.ob.cell 6 _ rfl;replace q7:=X4.out.ob.cell 7 _ rfl)
     have r0:=R4.out.cell 0 _ rfl
     obtain ⟨vi,vb⟩:=v
     have HV:=Lib.hid hv
     clear hv
     dsimp only at CON
     cases vb with
     | false=>
      have HJ2 : Hid (∀ j,j < 4 + 1 → (ruleV c j).2 = false):=fun j hj=>by
       rcases Nat.lt_or_ge j 4 with h | h
       ·exact HJ.out j h
       ·rw [show j = 4 by omega,← HV.out]
      go_wp2_with (go_at_call 90;refine (CON.out _ X4.out.ok O4.out).mono ?_;rintro e W5 ⟨rfl,hb⟩;have HB5:=Lib.hid (HB.out.trans ((B4.out.trans (hb.mono B4.out.size)).mono HB.out.size));clear hb)
      go_roundw
      case rel=>exact ⟨4 + 1,by omega,by go_num,rfl,rfl,HB5.out,HJ2.out⟩
      case measure=>simp [intOf]
     | true=>
      have hx : x = (13 + 4,vi):=by rw [HG.out,rule_hit (k:=4) (by omega) HJ.out (by rw [← HV.out])];dsimp only;rw [← HV.out];rfl
      subst hx
      go_wp2_with (go_at_call 90;refine (CON.out _ X4.out.ok O4.out).mono ?_;rintro e W5 ⟨rfl,hb⟩;have X5:=Lib.hid (X4.out.below hb);have R5:=Lib.hid (R4.out.below hb);clear hb)
      have t1:=R5.out.cell 1 _ rfl
      go_quiet (fail)
      go_wp2_with fail
      rw [Exit.noGoto_ret];go_ret2
      exact ⟨rfl,below_drewN X5.out.bel _⟩
)
    | 5,_=>(
     have r0:=N1.out.cell (2 * 5) _ rfl
     have r1:=N1.out.cell (2 * 5 + 1) _ rfl
     (have q0:=X1.out.ob.cell 0 _ rfl;have q1:=X1.out.ob.cell 1 _ rfl;have q2:=X1.out.ob.cell 2 _ rfl;have q3:=X1.out.ob.cell 3 _ rfl;have q4:=X1.out.ob.cell 4 _ rfl;have q5:=X1.out.ob.cell 5 _ rfl;have q6:=X1.out.ob.cell 6 _ rfl;have q7:=X1.out.ob.cell 7 _ rfl)
     obtain ⟨v,hv⟩ : ∃ v,v = ruleV c 5:=⟨_,rfl⟩
     have CON : Hid (∀ W,CfgOk W c → ObjAt W gb 4 [.bool (gateB c)] → Calls Tryz.prog 85 #[(.agg #[.int .i64 c.cats,.slice c.g.a c.g.l.length c.g.cap,.slice c.r.a c.r.l.length c.r.cap,.slice c.p.a c.p.l.length c.p.cap,.slice c.n.a c.n.l.length c.n.cap,.slice c.s.a c.s.l.length c.s.cap,.int .i64 c.gate,.int .i64 c.quota]),.pointer (some ⟨gb,0,none⟩)] W fun e w'=>e = .returned (.tuple #[.int .i64 v.1,.bool v.2]) ∧ Below W.heap.size W w'):=fun W hc ho=>by rw [hv];exact (one1_any c _ gb _ hc ho)
     go_upto_region 8 with fail
     have R4 : Hid (ObjAt (wr.alloc (.cells #[.func (Fn.func 85) #[] #[.pointer (some ⟨gb,0,none⟩)],.int .i64 18] 157)) wr.heap.size 157 [.func (Fn.func 85) #[] #[.pointer (some ⟨gb,0,none⟩)],.int .i64 18]):=ObjAt.new wr _ _
     have B4 : Hid (Below wr.heap.size wr (wr.alloc (.cells #[.func (Fn.func 85) #[] #[.pointer (some ⟨gb,0,none⟩)],.int .i64 18] 157))):=(Below.refl _ _).alloc (Nat.le_refl _) _
     generalize wr.alloc (.cells #[.func (Fn.func 85) #[] #[.pointer (some ⟨gb,0,none⟩)],.int .i64 18] 157) = W4 at R4 B4 ⊢
     generalize wr.heap.size = rr at R4 ⊢
     have X4:=Lib.hid (X1.out.below B4.out)
     have O4:=Lib.hid (O1.out.below B4.out)
     clear r0 r1
     (replace q0:=X4.out.ob.cell 0 _ rfl;replace q1:=X4.out.ob.cell 1 _ rfl;replace q2:=X4.out.ob.cell 2 _ rfl;replace q3:=X4.out.ob.cell 3 _ rfl;replace q4:=X4.out.ob.cell 4 _ rfl;replace q5:=X4.out.ob.cell 5 _ rfl;replace q6:=X4.out.ob.cell 6 _ rfl;replace q7:=X4.out.ob.cell 7 _ rfl)
     have r0:=R4.out.cell 0 _ rfl
     obtain ⟨vi,vb⟩:=v
     have HV:=Lib.hid hv
     clear hv
     dsimp only at CON
     cases vb with
     | false=>
      have HJ2 : Hid (∀ j,j < 5 + 1 → (ruleV c j).2 = false):=fun j hj=>by
       rcases Nat.lt_or_ge j 5 with h | h
       ·exact HJ.out j h
       ·rw [show j = 5 by omega,← HV.out]
      go_wp2_with (go_at_call 85;refine (CON.out _ X4.out.ok O4.out).mono ?_;rintro e W5 ⟨rfl,hb⟩;have HB5:=Lib.hid (HB.out.trans ((B4.out.trans (hb.mono B4.out.size)).mono HB.out.size));clear hb)
      go_roundw
      case rel=>exact ⟨5 + 1,by omega,by go_num,rfl,rfl,HB5.out,HJ2.out⟩
      case measure=>simp [intOf]
     | true=>
      have hx : x = (13 + 5,vi):=by rw [HG.out,rule_hit (k:=5) (by omega) HJ.out (by rw [← HV.out])];dsimp only;rw [← HV.out];rfl
      subst hx
      go_wp2_with (go_at_call 85;refine (CON.out _ X4.out.ok O4.out).mono ?_;rintro e W5 ⟨rfl,hb⟩;have X5:=Lib.hid (X4.out.below hb);have R5:=Lib.hid (R4.out.below hb);clear hb)
      have t1:=R5.out.cell 1 _ rfl
      go_quiet (fail)
      go_wp2_with fail
      rw [Exit.noGoto_ret];go_ret2
      exact ⟨rfl,below_drewN X5.out.bel _⟩
)
    | 6,_=>
     have hgk : GOk c:=gok_of (HJ.out 0 (by omega)) (HJ.out 3 (by omega))
     have NEE : Hid (∀ W,CfgOk W c → Calls Tryz.prog 92 #[(.agg #[.int .i64 c.cats,.slice c.g.a c.g.l.length c.g.cap,.slice c.r.a c.r.l.length c.r.cap,.slice c.p.a c.p.l.length c.p.cap,.slice c.n.a c.n.l.length c.n.cap,.slice c.s.a c.s.l.length c.s.cap,.int .i64 c.gate,.int .i64 c.quota])] W fun e w'=>e = .returned (.int .i64 (needV c)) ∧ Below W.heap.size W w'):=fun W hc=>need_any c hgk _ hc
     have hx : x = if 32 < needV c then (19,0) else (0,0):=by rw [HG.out,rule_none HJ.out]
     clear hgk HG
     (have q0:=X1.out.ob.cell 0 _ rfl;have q1:=X1.out.ob.cell 1 _ rfl;have q2:=X1.out.ob.cell 2 _ rfl;have q3:=X1.out.ob.cell 3 _ rfl;have q4:=X1.out.ob.cell 4 _ rfl;have q5:=X1.out.ob.cell 5 _ rfl;have q6:=X1.out.ob.cell 6 _ rfl;have q7:=X1.out.ob.cell 7 _ rfl)
     by_cases hn : 32 < needV c
     ·have dn : decide (needV c > 32) = true:=by simp [hn]
      obtain rfl : x = (19,0):=by rw [hx,if_pos hn]
      clear hx hn
      go_wp2_with (go_at_call 92;refine (NEE.out _ X1.out.ok).mono ?_;rintro e W5 ⟨rfl,hb⟩;have X5:=Lib.hid (X1.out.below hb);clear hb)
      rw [Exit.noGoto_ret];go_ret2
      exact ⟨rfl,X5.out.bel⟩
     ·have dn : decide (needV c > 32) = false:=by simpa using hn
      obtain rfl : x = (0,0):=by rw [hx,if_neg hn]
      clear hx hn
      go_wp2_with (go_at_call 92;refine (NEE.out _ X1.out.ok).mono ?_;rintro e W5 ⟨rfl,hb⟩;have X5:=Lib.hid (X1.out.below hb);clear hb)
      rw [Exit.noGoto_ret];go_ret2
      exact ⟨rfl,X5.out.bel⟩
end Go.Proofs.YtoklonmiejdgmaaGreatDoor
