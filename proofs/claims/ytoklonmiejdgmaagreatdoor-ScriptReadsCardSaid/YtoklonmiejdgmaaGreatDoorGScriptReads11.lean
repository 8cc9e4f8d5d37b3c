/- The reference of plan: plain lines. -/
import Derived.Test.YtoklonmiejdgmaaGreatDoorGScriptReads10
import Derived.Test.YtoklonmiejdgmaaGreatDoorGScriptReads2
import Derived.Test.YtoklonmiejdgmaaGreatDoorGScriptReads1
import Derived.Test.YtoklonmiejdgmaaGreatDoorGScriptReads4
namespace Go.Proofs.YtoklonmiejdgmaaGreatDoor
set_option linter.unusedVariables false
set_option linter.unusedSimpArgs false
set_option linter.unnecessarySimpa false
open Go.RowKit Go.Sort
set_option maxHeartbeats 4000000
set_option maxRecDepth 100000
set_option linter.unusedVariables false
theorem RO.nums {w : World} {c : Cv} {W : World} (h : RO w c W) (x y z : Int) : RO w { c with cats:=x,gate:=y,quota:=z } W:=
 ⟨h.bel,h.g,h.r,h.p,h.n,h.s,h.lg,h.lr,h.lp,h.ln,h.ls⟩
theorem rplain_cats (w : World) (c : Cv) (w0 v1 : List UInt8) (hsm : ∀ x ∈ [w0,v1],x.length ≤ 100000000) (a : Option Addr) (cap : Nat) (W : World) (h : RO w c W) (hr : RdW W a cap [w0,v1]) (hn : FewC c) :
  Calls Tryz.prog 146 #[(.agg #[.int .i64 c.cats,.slice c.g.a c.g.l.length c.g.cap,.slice c.r.a c.r.l.length c.r.cap,.slice c.p.a c.p.l.length c.p.cap,.slice c.n.a c.n.l.length c.n.cap,.slice c.s.a c.s.l.length c.s.cap,.int .i64 c.gate,.int .i64 c.quota]),.int .i64 0,.slice a 2 cap] W (TkR w c W 0 [w0,v1]):=by
 obtain ⟨W3,hW3⟩ : ∃ W3,W3 = ((W.alloc (.cells #[.int .i64 c.cats,.slice c.g.a c.g.l.length c.g.cap,.slice c.r.a c.r.l.length c.r.cap,.slice c.p.a c.p.l.length c.p.cap,.slice c.n.a c.n.l.length c.n.cap,.slice c.s.a c.s.l.length c.s.cap,.int .i64 c.gate,.int .i64 c.quota] 29)).alloc (.cells #[.int .i64 0,.slice none 0 0,.slice none 0 0,.slice none 0 0,.slice none 0 0,.slice none 0 0,.int .i64 0,.int .i64 0] 29)).alloc (.cells #[.int .i64 c.cats,.slice c.g.a c.g.l.length c.g.cap,.slice c.r.a c.r.l.length c.r.cap,.slice c.p.a c.p.l.length c.p.cap,.slice c.n.a c.n.l.length c.n.cap,.slice c.s.a c.s.l.length c.s.cap,.int .i64 c.gate,.int .i64 c.quota] 29):=⟨_,rfl⟩
 obtain ⟨b1,hb1⟩ : ∃ b,b = W.heap.size + 1:=⟨_,rfl⟩
 obtain ⟨b2,hb2⟩ : ∃ b,b = W.heap.size + 1 + 1:=⟨_,rfl⟩
 have HTB : Hid (TB W W3 b1 b2 c):=by rw [hW3,hb1,hb2];exact tb_start W c
 have HRO:=Lib.hid (h.more HTB.out.bel)
 have HRW:=Lib.hid (hr.below HTB.out.bel)
 have HW3:=Lib.hid hW3
 have HE1:=Lib.hid hb1
 have HE2:=Lib.hid hb2
 have hwB:=h.bel.size
 clear hW3 hb1 hb2
 have HNB : Hid (Calls Tryz.prog 173 #[.slice a 2 cap,.int .i64 1] W3 (NmPost [v1] W3)):=rnumbers_any a cap [w0,v1] 1 (by simp) [v1] rfl (fun y hy=>hsm y (List.mem_cons_of_mem _ hy)) (by simp) W3 HRW.out.rd
 have hrow:=plain_row 0 (by omega) [w0,v1]
 rw [show [w0,v1].drop 1 = [v1] from rfl] at hrow
 have HROW:=Lib.hid hrow
 clear hrow h hr hsm
 go_enter Tryz.func146,Tryz.ntmps146
 (go_upto_region 2 with fail;rw [← HW3.out];try rw [← HE2.out];try rw [← HE1.out])
 go_wp2_with fail
 refine HNB.out.mono ?_;intro e W4 h4
 obtain ⟨hy,hno,hb4⟩:=h4
 have HTB4:=Lib.hid (HTB.out.more hb4)
 have HRO4:=Lib.hid (HRO.out.more hb4)
 have hs4:=HRO4.out.bel.size
 have q0:=(HTB4.out.o).cell 0 _ rfl;have q1:=(HTB4.out.o).cell 1 _ rfl;have q2:=(HTB4.out.o).cell 2 _ rfl;have q3:=(HTB4.out.o).cell 3 _ rfl;have q4:=(HTB4.out.o).cell 4 _ rfl;have q5:=(HTB4.out.o).cell 5 _ rfl;have q6:=(HTB4.out.o).cell 6 _ rfl;have q7:=(HTB4.out.o).cell 7 _ rfl
 cases hb : nmsB [v1]
 ·obtain rfl:=hno hb
  have HNN : Hid (rowV 0 [w0,v1] = none):=by rw [Hid,HROW.out,hb];rfl
  have a0:=(HTB4.out.z).cell 0 _ rfl;have a1:=(HTB4.out.z).cell 1 _ rfl;have a2:=(HTB4.out.z).cell 2 _ rfl;have a3:=(HTB4.out.z).cell 3 _ rfl;have a4:=(HTB4.out.z).cell 4 _ rfl;have a5:=(HTB4.out.z).cell 5 _ rfl;have a6:=(HTB4.out.z).cell 6 _ rfl;have a7:=(HTB4.out.z).cell 7 _ rfl;have g0:=(HTB4.out.z).free 0;have g1:=(HTB4.out.z).free 1;have g2:=(HTB4.out.z).free 2;have g3:=(HTB4.out.z).free 3;have g4:=(HTB4.out.z).free 4;have g5:=(HTB4.out.z).free 5;have g6:=(HTB4.out.z).free 6;have g7:=(HTB4.out.z).free 7;have s6:=(HTB4.out.z).lt
  clear hy hno hb4 hb HROW
  go_wp2_with fail
  refine bodyPost_ret (v:=.tuple #[(.agg #[.int .i64 c.cats,.slice c.g.a c.g.l.length c.g.cap,.slice c.r.a c.r.l.length c.r.cap,.slice c.p.a c.p.l.length c.p.cap,.slice c.n.a c.n.l.length c.n.cap,.slice c.s.a c.s.l.length c.s.cap,.int .i64 c.gate,.int .i64 c.quota]),.bool false]) (by simp [results,Tryz.results146,go_sem,a0,a1,a2,a3,a4,a5,a6,a7,s6]) rfl ?_
  have HU7:=(upd_put (k:=7) (v:=.int .i64 c.quota) (upd_put (k:=6) (v:=.int .i64 c.gate) (upd_put (k:=5) (v:=.slice c.s.a c.s.l.length c.s.cap) (upd_put (k:=4) (v:=.slice c.n.a c.n.l.length c.n.cap) (upd_put (k:=3) (v:=.slice c.p.a c.p.l.length c.p.cap) (upd_put (k:=2) (v:=.slice c.r.a c.r.l.length c.r.cap) (upd_put (k:=1) (v:=.slice c.g.a c.g.l.length c.g.cap) (upd_put (k:=0) (v:=.int .i64 c.cats) (Upd.refl b1 W4)))))))))
  exact tkr_no HNN.out (HRO4.out.upd HTB4.out.z (by have:=HTB4.out.n1;omega) HU7).bel (keep_fin HTB4.out.bel (keep_refl W4) (Upd.refl b2 W4) HU7 HTB4.out.n1 HTB4.out.n2) rfl
 ·obtain ⟨a3,c3,rfl,hown3⟩:=hy hb
  obtain ⟨g3,rfl,hg3,hg3'⟩:=hown3.at_ (by simp)
  have hc3:=hown3.le
  have hc4 : c3 ≤ 9223372036854775807:=hown3.capMax
  obtain ⟨y0,hy0⟩ : ∃ y,Hid (y = ((numI v1 : Nat) : Int)):=⟨_,Lib.hid rfl⟩
  have m0 : W4.cell? ⟨g3,0,none⟩ = some (.int .i64 y0):=by rw [hy0.out];exact hown3.cell 0 _ rfl
  have hne:=hown3.ne HTB4.out.o (by decide)
  have HRR : Hid (rowV 0 [w0,v1] = some [y0]):=by rw [Hid,HROW.out,hb,hy0.out];rfl
  have f0:=HTB4.out.o.free 0
  have HO6:=Lib.hid (HTB4.out.o.set 0 (.int .i64 y0))
  have HZ6:=Lib.hid (HTB4.out.z.upd (Upd.setCell W4 ⟨b2,0,none⟩ (.int .i64 y0)) HTB4.out.ne)
  have r0:=(HO6.out).cell 0 _ rfl;have r1:=(HO6.out).cell 1 _ rfl;have r2:=(HO6.out).cell 2 _ rfl;have r3:=(HO6.out).cell 3 _ rfl;have r4:=(HO6.out).cell 4 _ rfl;have r5:=(HO6.out).cell 5 _ rfl;have r6:=(HO6.out).cell 6 _ rfl;have r7:=(HO6.out).cell 7 _ rfl
  have a0:=(HZ6.out).cell 0 _ rfl;have a1:=(HZ6.out).cell 1 _ rfl;have a2:=(HZ6.out).cell 2 _ rfl;have a3:=(HZ6.out).cell 3 _ rfl;have a4:=(HZ6.out).cell 4 _ rfl;have a5:=(HZ6.out).cell 5 _ rfl;have a6:=(HZ6.out).cell 6 _ rfl;have a7:=(HZ6.out).cell 7 _ rfl;have g0:=(HZ6.out).free 0;have g1:=(HZ6.out).free 1;have g2:=(HZ6.out).free 2;have g3:=(HZ6.out).free 3;have g4:=(HZ6.out).free 4;have g5:=(HZ6.out).free 5;have g6:=(HZ6.out).free 6;have g7:=(HZ6.out).free 7;have s6:=(HZ6.out).lt
  clear hy hno hb4 hb HROW hown3 hne
  go_wp2_with fail
  refine bodyPost_ret (v:=.tuple #[.agg #[.int .i64 y0,.slice c.g.a c.g.l.length c.g.cap,.slice c.r.a c.r.l.length c.r.cap,.slice c.p.a c.p.l.length c.p.cap,.slice c.n.a c.n.l.length c.n.cap,.slice c.s.a c.s.l.length c.s.cap,.int .i64 c.gate,.int .i64 c.quota],.bool true]) (by simp [results,Tryz.results146,go_sem,a0,a1,a2,a3,a4,a5,a6,a7,s6]) rfl ?_
  have HU7:=(upd_put (k:=7) (v:=.int .i64 c.quota) (upd_put (k:=6) (v:=.int .i64 c.gate) (upd_put (k:=5) (v:=.slice c.s.a c.s.l.length c.s.cap) (upd_put (k:=4) (v:=.slice c.n.a c.n.l.length c.n.cap) (upd_put (k:=3) (v:=.slice c.p.a c.p.l.length c.p.cap) (upd_put (k:=2) (v:=.slice c.r.a c.r.l.length c.r.cap) (upd_put (k:=1) (v:=.slice c.g.a c.g.l.length c.g.cap) (upd_put (k:=0) (v:=.int .i64 y0) (Upd.refl b1 (W4.setCell ⟨b2,0,none⟩ (.int .i64 y0)))))))))))
  have HR7 : RO w { c with cats:=y0 } _:=((HRO4.out.upd HTB4.out.o (by have:=HTB4.out.n2;omega) (Upd.setCell W4 ⟨b2,0,none⟩ (.int .i64 y0))).upd HZ6.out (by have:=HTB4.out.n1;omega) HU7).nums y0 c.gate c.quota
  have HK7:=keep_fin HTB4.out.bel (keep_refl W4) (Upd.setCell W4 ⟨b2,0,none⟩ (.int .i64 y0)) HU7 HTB4.out.n1 HTB4.out.n2
  exact tkr_fin (row:=[y0]) (b:=true) (by rw [HRR.out];rfl) rfl HR7 HK7 rfl
theorem rplain_gate (w : World) (c : Cv) (w0 v1 v2 : List UInt8) (hsm : ∀ x ∈ [w0,v1,v2],x.length ≤ 100000000) (a : Option Addr) (cap : Nat) (W : World) (h : RO w c W) (hr : RdW W a cap [w0,v1,v2]) (hn : FewC c) :
  Calls Tryz.prog 146 #[(.agg #[.int .i64 c.cats,.slice c.g.a c.g.l.length c.g.cap,.slice c.r.a c.r.l.length c.r.cap,.slice c.p.a c.p.l.length c.p.cap,.slice c.n.a c.n.l.length c.n.cap,.slice c.s.a c.s.l.length c.s.cap,.int .i64 c.gate,.int .i64 c.quota]),.int .i64 6,.slice a 3 cap] W (TkR w c W 6 [w0,v1,v2]):=by
 obtain ⟨W3,hW3⟩ : ∃ W3,W3 = ((W.alloc (.cells #[.int .i64 c.cats,.slice c.g.a c.g.l.length c.g.cap,.slice c.r.a c.r.l.length c.r.cap,.slice c.p.a c.p.l.length c.p.cap,.slice c.n.a c.n.l.length c.n.cap,.slice c.s.a c.s.l.length c.s.cap,.int .i64 c.gate,.int .i64 c.quota] 29)).alloc (.cells #[.int .i64 0,.slice none 0 0,.slice none 0 0,.slice none 0 0,.slice none 0 0,.slice none 0 0,.int .i64 0,.int .i64 0] 29)).alloc (.cells #[.int .i64 c.cats,.slice c.g.a c.g.l.length c.g.cap,.slice c.r.a c.r.l.length c.r.cap,.slice c.p.a c.p.l.length c.p.cap,.slice c.n.a c.n.l.length c.n.cap,.slice c.s.a c.s.l.length c.s.cap,.int .i64 c.gate,.int .i64 c.quota] 29):=⟨_,rfl⟩
 obtain ⟨b1,hb1⟩ : ∃ b,b = W.heap.size + 1:=⟨_,rfl⟩
 obtain ⟨b2,hb2⟩ : ∃ b,b = W.heap.size + 1 + 1:=⟨_,rfl⟩
 have HTB : Hid (TB W W3 b1 b2 c):=by rw [hW3,hb1,hb2];exact tb_start W c
 have HRO:=Lib.hid (h.more HTB.out.bel)
 have HRW:=Lib.hid (hr.below HTB.out.bel)
 have HW3:=Lib.hid hW3
 have HE1:=Lib.hid hb1
 have HE2:=Lib.hid hb2
 have hwB:=h.bel.size
 clear hW3 hb1 hb2
 have HNB : Hid (Calls Tryz.prog 173 #[.slice a 3 cap,.int .i64 1] W3 (NmPost [v1,v2] W3)):=rnumbers_any a cap [w0,v1,v2] 1 (by simp) [v1,v2] rfl (fun y hy=>hsm y (List.mem_cons_of_mem _ hy)) (by simp) W3 HRW.out.rd
 have hrow:=plain_row 6 (by omega) [w0,v1,v2]
 rw [show [w0,v1,v2].drop 1 = [v1,v2] from rfl] at hrow
 have HROW:=Lib.hid hrow
 clear hrow h hr hsm
 go_enter Tryz.func146,Tryz.ntmps146
 (go_upto_region 2 with fail;rw [← HW3.out];try rw [← HE2.out];try rw [← HE1.out])
 go_wp2_with fail
 refine HNB.out.mono ?_;intro e W4 h4
 obtain ⟨hy,hno,hb4⟩:=h4
 have HTB4:=Lib.hid (HTB.out.more hb4)
 have HRO4:=Lib.hid (HRO.out.more hb4)
 have hs4:=HRO4.out.bel.size
 have q0:=(HTB4.out.o).cell 0 _ rfl;have q1:=(HTB4.out.o).cell 1 _ rfl;have q2:=(HTB4.out.o).cell 2 _ rfl;have q3:=(HTB4.out.o).cell 3 _ rfl;have q4:=(HTB4.out.o).cell 4 _ rfl;have q5:=(HTB4.out.o).cell 5 _ rfl;have q6:=(HTB4.out.o).cell 6 _ rfl;have q7:=(HTB4.out.o).cell 7 _ rfl
 cases hb : nmsB [v1,v2]
 ·obtain rfl:=hno hb
  have HNN : Hid (rowV 6 [w0,v1,v2] = none):=by rw [Hid,HROW.out,hb];rfl
  have a0:=(HTB4.out.z).cell 0 _ rfl;have a1:=(HTB4.out.z).cell 1 _ rfl;have a2:=(HTB4.out.z).cell 2 _ rfl;have a3:=(HTB4.out.z).cell 3 _ rfl;have a4:=(HTB4.out.z).cell 4 _ rfl;have a5:=(HTB4.out.z).cell 5 _ rfl;have a6:=(HTB4.out.z).cell 6 _ rfl;have a7:=(HTB4.out.z).cell 7 _ rfl;have g0:=(HTB4.out.z).free 0;have g1:=(HTB4.out.z).free 1;have g2:=(HTB4.out.z).free 2;have g3:=(HTB4.out.z).free 3;have g4:=(HTB4.out.z).free 4;have g5:=(HTB4.out.z).free 5;have g6:=(HTB4.out.z).free 6;have g7:=(HTB4.out.z).free 7;have s6:=(HTB4.out.z).lt
  clear hy hno hb4 hb HROW
  go_wp2_with fail
  refine bodyPost_ret (v:=.tuple #[(.agg #[.int .i64 c.cats,.slice c.g.a c.g.l.length c.g.cap,.slice c.r.a c.r.l.length c.r.cap,.slice c.p.a c.p.l.length c.p.cap,.slice c.n.a c.n.l.length c.n.cap,.slice c.s.a c.s.l.length c.s.cap,.int .i64 c.gate,.int .i64 c.quota]),.bool false]) (by simp [results,Tryz.results146,go_sem,a0,a1,a2,a3,a4,a5,a6,a7,s6]) rfl ?_
  have HU7:=(upd_put (k:=7) (v:=.int .i64 c.quota) (upd_put (k:=6) (v:=.int .i64 c.gate) (upd_put (k:=5) (v:=.slice c.s.a c.s.l.length c.s.cap) (upd_put (k:=4) (v:=.slice c.n.a c.n.l.length c.n.cap) (upd_put (k:=3) (v:=.slice c.p.a c.p.l.length c.p.cap) (upd_put (k:=2) (v:=.slice c.r.a c.r.l.length c.r.cap) (upd_put (k:=1) (v:=.slice c.g.a c.g.l.length c.g.cap) (upd_put (k:=0) (v:=.int .i64 c.cats) (Upd.refl b1 W4)))))))))
  exact tkr_no HNN.out (HRO4.out.upd HTB4.out.z (by have:=HTB4.out.n1;omega) HU7).bel (keep_fin HTB4.out.bel (keep_refl W4) (Upd.refl b2 W4) HU7 HTB4.out.n1 HTB4.out.n2) rfl
 ·obtain ⟨a3,c3,rfl,hown3⟩:=hy hb
  obtain ⟨g3,rfl,hg3,hg3'⟩:=hown3.at_ (by simp)
  have hc3:=hown3.le
  have hc4 : c3 ≤ 9223372036854775807:=hown3.capMax
  obtain ⟨y0,hy0⟩ : ∃ y,Hid (y = ((numI v1 : Nat) : Int)):=⟨_,Lib.hid rfl⟩
  have m0 : W4.cell? ⟨g3,0,none⟩ = some (.int .i64 y0):=by rw [hy0.out];exact hown3.cell 0 _ rfl
  obtain ⟨y1,hy1⟩ : ∃ y,Hid (y = ((numI v2 : Nat) : Int)):=⟨_,Lib.hid rfl⟩
  have m1 : W4.cell? ⟨g3,1,none⟩ = some (.int .i64 y1):=by rw [hy1.out];exact hown3.cell 1 _ rfl
  have hne:=hown3.ne HTB4.out.o (by decide)
  have HRR : Hid (rowV 6 [w0,v1,v2] = some [y0,y1]):=by rw [Hid,HROW.out,hb,hy0.out,hy1.out];rfl
  have f6:=HTB4.out.o.free 6
  have HU5:=Lib.hid (Upd.setCell W4 ⟨b2,6,none⟩ (.int .i64 y0))
  have hown5:=hown3.upd HU5.out hne
  have m1' : (W4.setCell ⟨b2,6,none⟩ (.int .i64 y0)).cell? ⟨g3,1,none⟩ = some (.int .i64 y1):=by rw [hy1.out];exact hown5.cell 1 _ rfl
  have HO5:=Lib.hid (HTB4.out.o.set 6 (.int .i64 y0))
  have HZ5:=Lib.hid (HTB4.out.z.upd HU5.out HTB4.out.ne)
  have x7:=HO5.out.cell 7 _ rfl
  have f7:=HO5.out.free 7
  have HO6:=Lib.hid (HO5.out.set 7 (.int .i64 y1))
  have HZ6:=Lib.hid (HZ5.out.upd (Upd.setCell (W4.setCell ⟨b2,6,none⟩ (.int .i64 y0)) ⟨b2,7,none⟩ (.int .i64 y1)) HTB4.out.ne)
  have r0:=(HO6.out).cell 0 _ rfl;have r1:=(HO6.out).cell 1 _ rfl;have r2:=(HO6.out).cell 2 _ rfl;have r3:=(HO6.out).cell 3 _ rfl;have r4:=(HO6.out).cell 4 _ rfl;have r5:=(HO6.out).cell 5 _ rfl;have r6:=(HO6.out).cell 6 _ rfl;have r7:=(HO6.out).cell 7 _ rfl
  have a0:=(HZ6.out).cell 0 _ rfl;have a1:=(HZ6.out).cell 1 _ rfl;have a2:=(HZ6.out).cell 2 _ rfl;have a3:=(HZ6.out).cell 3 _ rfl;have a4:=(HZ6.out).cell 4 _ rfl;have a5:=(HZ6.out).cell 5 _ rfl;have a6:=(HZ6.out).cell 6 _ rfl;have a7:=(HZ6.out).cell 7 _ rfl;have g0:=(HZ6.out).free 0;have g1:=(HZ6.out).free 1;have g2:=(HZ6.out).free 2;have g3:=(HZ6.out).free 3;have g4:=(HZ6.out).free 4;have g5:=(HZ6.out).free 5;have g6:=(HZ6.out).free 6;have g7:=(HZ6.out).free 7;have s6:=(HZ6.out).lt
  clear hy hno hb4 hb HROW hown3 hown5 hne
  go_wp2_with fail
  refine bodyPost_ret (v:=.tuple #[.agg #[.int .i64 c.cats,.slice c.g.a c.g.l.length c.g.cap,.slice c.r.a c.r.l.length c.r.cap,.slice c.p.a c.p.l.length c.p.cap,.slice c.n.a c.n.l.length c.n.cap,.slice c.s.a c.s.l.length c.s.cap,.int .i64 y0,.int .i64 y1],.bool true]) (by simp [results,Tryz.results146,go_sem,a0,a1,a2,a3,a4,a5,a6,a7,s6]) rfl ?_
  have HU7:=(upd_put (k:=7) (v:=.int .i64 y1) (upd_put (k:=6) (v:=.int .i64 y0) (upd_put (k:=5) (v:=.slice c.s.a c.s.l.length c.s.cap) (upd_put (k:=4) (v:=.slice c.n.a c.n.l.length c.n.cap) (upd_put (k:=3) (v:=.slice c.p.a c.p.l.length c.p.cap) (upd_put (k:=2) (v:=.slice c.r.a c.r.l.length c.r.cap) (upd_put (k:=1) (v:=.slice c.g.a c.g.l.length c.g.cap) (upd_put (k:=0) (v:=.int .i64 c.cats) (Upd.refl b1 ((W4.setCell ⟨b2,6,none⟩ (.int .i64 y0)).setCell ⟨b2,7,none⟩ (.int .i64 y1)))))))))))
  have HR7 : RO w { c with gate:=y0,quota:=y1 } _:=((HRO4.out.upd HTB4.out.o (by have:=HTB4.out.n2;omega) ((Upd.setCell W4 ⟨b2,6,none⟩ (.int .i64 y0)).trans (Upd.setCell _ ⟨b2,7,none⟩ (.int .i64 y1)))).upd HZ6.out (by have:=HTB4.out.n1;omega) HU7).nums c.cats y0 y1
  have HK7:=keep_fin HTB4.out.bel (keep_refl W4) ((Upd.setCell W4 ⟨b2,6,none⟩ (.int .i64 y0)).trans (Upd.setCell _ ⟨b2,7,none⟩ (.int .i64 y1))) HU7 HTB4.out.n1 HTB4.out.n2
  exact tkr_fin (row:=[y0,y1]) (b:=true) (by rw [HRR.out];rfl) rfl HR7 HK7 rfl
theorem rplain_ring (w : World) (c : Cv) (w0 v1 v2 : List UInt8) (hsm : ∀ x ∈ [w0,v1,v2],x.length ≤ 100000000) (a : Option Addr) (cap : Nat) (W : World) (h : RO w c W) (hr : RdW W a cap [w0,v1,v2]) (hn : FewC c) :
  Calls Tryz.prog 146 #[(.agg #[.int .i64 c.cats,.slice c.g.a c.g.l.length c.g.cap,.slice c.r.a c.r.l.length c.r.cap,.slice c.p.a c.p.l.length c.p.cap,.slice c.n.a c.n.l.length c.n.cap,.slice c.s.a c.s.l.length c.s.cap,.int .i64 c.gate,.int .i64 c.quota]),.int .i64 4,.slice a 3 cap] W (TkR w c W 4 [w0,v1,v2]):=by
 obtain ⟨i0,hi0,hz0,hz1,hz2⟩:=info_parts info_ri
 have hfew:=hn.2.2.2.1
 obtain ⟨W3,hW3⟩ : ∃ W3,W3 = ((W.alloc (.cells #[.int .i64 c.cats,.slice c.g.a c.g.l.length c.g.cap,.slice c.r.a c.r.l.length c.r.cap,.slice c.p.a c.p.l.length c.p.cap,.slice c.n.a c.n.l.length c.n.cap,.slice c.s.a c.s.l.length c.s.cap,.int .i64 c.gate,.int .i64 c.quota] 29)).alloc (.cells #[.int .i64 0,.slice none 0 0,.slice none 0 0,.slice none 0 0,.slice none 0 0,.slice none 0 0,.int .i64 0,.int .i64 0] 29)).alloc (.cells #[.int .i64 c.cats,.slice c.g.a c.g.l.length c.g.cap,.slice c.r.a c.r.l.length c.r.cap,.slice c.p.a c.p.l.length c.p.cap,.slice c.n.a c.n.l.length c.n.cap,.slice c.s.a c.s.l.length c.s.cap,.int .i64 c.gate,.int .i64 c.quota] 29):=⟨_,rfl⟩
 obtain ⟨b1,hb1⟩ : ∃ b,b = W.heap.size + 1:=⟨_,rfl⟩
 obtain ⟨b2,hb2⟩ : ∃ b,b = W.heap.size + 1 + 1:=⟨_,rfl⟩
 have HTB : Hid (TB W W3 b1 b2 c):=by rw [hW3,hb1,hb2];exact tb_start W c
 have HRO:=Lib.hid (h.more HTB.out.bel)
 have HRW:=Lib.hid (hr.below HTB.out.bel)
 have HW3:=Lib.hid hW3
 have HE1:=Lib.hid hb1
 have HE2:=Lib.hid hb2
 have hwB:=h.bel.size
 clear hW3 hb1 hb2
 have HNB : Hid (Calls Tryz.prog 173 #[.slice a 3 cap,.int .i64 1] W3 (NmPost [v1,v2] W3)):=rnumbers_any a cap [w0,v1,v2] 1 (by simp) [v1,v2] rfl (fun y hy=>hsm y (List.mem_cons_of_mem _ hy)) (by simp) W3 HRW.out.rd
 have hrow:=plain_row 4 (by omega) [w0,v1,v2]
 rw [show [w0,v1,v2].drop 1 = [v1,v2] from rfl] at hrow
 have HROW:=Lib.hid hrow
 clear hrow h hr hsm
 go_enter Tryz.func146,Tryz.ntmps146
 (go_upto_region 2 with fail;rw [← HW3.out];try rw [← HE2.out];try rw [← HE1.out])
 go_wp2_with fail
 refine HNB.out.mono ?_;intro e W4 h4
 obtain ⟨hy,hno,hb4⟩:=h4
 have HTB4:=Lib.hid (HTB.out.more hb4)
 have HRO4:=Lib.hid (HRO.out.more hb4)
 have hs4:=HRO4.out.bel.size
 have q0:=(HTB4.out.o).cell 0 _ rfl;have q1:=(HTB4.out.o).cell 1 _ rfl;have q2:=(HTB4.out.o).cell 2 _ rfl;have q3:=(HTB4.out.o).cell 3 _ rfl;have q4:=(HTB4.out.o).cell 4 _ rfl;have q5:=(HTB4.out.o).cell 5 _ rfl;have q6:=(HTB4.out.o).cell 6 _ rfl;have q7:=(HTB4.out.o).cell 7 _ rfl
 cases hb : nmsB [v1,v2]
 ·obtain rfl:=hno hb
  have HNN : Hid (rowV 4 [w0,v1,v2] = none):=by rw [Hid,HROW.out,hb];rfl
  have a0:=(HTB4.out.z).cell 0 _ rfl;have a1:=(HTB4.out.z).cell 1 _ rfl;have a2:=(HTB4.out.z).cell 2 _ rfl;have a3:=(HTB4.out.z).cell 3 _ rfl;have a4:=(HTB4.out.z).cell 4 _ rfl;have a5:=(HTB4.out.z).cell 5 _ rfl;have a6:=(HTB4.out.z).cell 6 _ rfl;have a7:=(HTB4.out.z).cell 7 _ rfl;have g0:=(HTB4.out.z).free 0;have g1:=(HTB4.out.z).free 1;have g2:=(HTB4.out.z).free 2;have g3:=(HTB4.out.z).free 3;have g4:=(HTB4.out.z).free 4;have g5:=(HTB4.out.z).free 5;have g6:=(HTB4.out.z).free 6;have g7:=(HTB4.out.z).free 7;have s6:=(HTB4.out.z).lt
  clear hy hno hb4 hb HROW
  go_wp2_with fail
  refine bodyPost_ret (v:=.tuple #[(.agg #[.int .i64 c.cats,.slice c.g.a c.g.l.length c.g.cap,.slice c.r.a c.r.l.length c.r.cap,.slice c.p.a c.p.l.length c.p.cap,.slice c.n.a c.n.l.length c.n.cap,.slice c.s.a c.s.l.length c.s.cap,.int .i64 c.gate,.int .i64 c.quota]),.bool false]) (by simp [results,Tryz.results146,go_sem,a0,a1,a2,a3,a4,a5,a6,a7,s6]) rfl ?_
  have HU7:=(upd_put (k:=7) (v:=.int .i64 c.quota) (upd_put (k:=6) (v:=.int .i64 c.gate) (upd_put (k:=5) (v:=.slice c.s.a c.s.l.length c.s.cap) (upd_put (k:=4) (v:=.slice c.n.a c.n.l.length c.n.cap) (upd_put (k:=3) (v:=.slice c.p.a c.p.l.length c.p.cap) (upd_put (k:=2) (v:=.slice c.r.a c.r.l.length c.r.cap) (upd_put (k:=1) (v:=.slice c.g.a c.g.l.length c.g.cap) (upd_put (k:=0) (v:=.int .i64 c.cats) (Upd.refl b1 W4)))))))))
  exact tkr_no HNN.out (HRO4.out.upd HTB4.out.z (by have:=HTB4.out.n1;omega) HU7).bel (keep_fin HTB4.out.bel (keep_refl W4) (Upd.refl b2 W4) HU7 HTB4.out.n1 HTB4.out.n2) rfl
 ·obtain ⟨a3,c3,rfl,hown3⟩:=hy hb
  obtain ⟨g3,rfl,hg3,hg3'⟩:=hown3.at_ (by simp)
  have hc3:=hown3.le
  have hc4 : c3 ≤ 9223372036854775807:=hown3.capMax
  obtain ⟨y0,hy0⟩ : ∃ y,Hid (y = ((numI v1 : Nat) : Int)):=⟨_,Lib.hid rfl⟩
  have m0 : W4.cell? ⟨g3,0,none⟩ = some (.int .i64 y0):=by rw [hy0.out];exact hown3.cell 0 _ rfl
  obtain ⟨y1,hy1⟩ : ∃ y,Hid (y = ((numI v2 : Nat) : Int)):=⟨_,Lib.hid rfl⟩
  have m1 : W4.cell? ⟨g3,1,none⟩ = some (.int .i64 y1):=by rw [hy1.out];exact hown3.cell 1 _ rfl
  have HRR : Hid (rowV 4 [w0,v1,v2] = some [y0,y1]):=by rw [Hid,HROW.out,hb,hy0.out,hy1.out];rfl
  have hlt2:=HTB4.out.o.lt
  clear hy hno hb4 hb HROW hown3
  go_wp2_with fail
  go_region_law (refine step_own rfl (.tmp 38) (.tmp 46) 26 rfl w.heap.size 137 i0 _ 2 16 Tryz.underlying26 hi0 hz0 hz1 hz2 rfl (by omega) c.n.a c.n.l.length c.n.cap (iF c.n.l) rfl (HRO4.out.n.below ((Below.refl _ _).drew.alloc (Nat.le_refl _) _)) W4.heap.size (ivs [y0,y1]) rfl (new_block _ _ _ rfl) rfl (by simp [ivs,Value.oneCell']) (by simp only [maxLen];omega) (by omega) (by simp;omega) ?_;intro g' c' W5 hown1 hmod1 _;have HOWN:=Lib.hid hown1;have HMOD : Hid (Mod (blk c.n.a) W4 W5):=((Mod.ofBelow ((Below.refl W4.heap.size W4).drew.alloc (Nat.le_refl _) _)).trans hmod1);clear hown1 hmod1;have HO5:=Lib.hid (HTB4.out.o.mod HMOD.out (HRO4.out.n.ne HTB4.out.o (by decide)));have HZ5:=Lib.hid (HTB4.out.z.mod HMOD.out (HRO4.out.n.ne HTB4.out.z (by decide)));have d5:=HO5.out.cell 4 _ rfl;have e5:=HO5.out.free 4;have HO6:=Lib.hid (HO5.out.set 4 (.slice (some ⟨g',0,none⟩) (c.n.l.length + 1) c'));have HZ6:=Lib.hid (HZ5.out.upd (Upd.setCell W5 ⟨b2,4,none⟩ (.slice (some ⟨g',0,none⟩) (c.n.l.length + 1) c')) HTB4.out.ne);clear q0 q1 q2 q3 q4 q5 q6 q7;have r0:=(HO6.out).cell 0 _ rfl;have r1:=(HO6.out).cell 1 _ rfl;have r2:=(HO6.out).cell 2 _ rfl;have r3:=(HO6.out).cell 3 _ rfl;have r4:=(HO6.out).cell 4 _ rfl;have r5:=(HO6.out).cell 5 _ rfl;have r6:=(HO6.out).cell 6 _ rfl;have r7:=(HO6.out).cell 7 _ rfl;have a0:=(HZ6.out).cell 0 _ rfl;have a1:=(HZ6.out).cell 1 _ rfl;have a2:=(HZ6.out).cell 2 _ rfl;have a3:=(HZ6.out).cell 3 _ rfl;have a4:=(HZ6.out).cell 4 _ rfl;have a5:=(HZ6.out).cell 5 _ rfl;have a6:=(HZ6.out).cell 6 _ rfl;have a7:=(HZ6.out).cell 7 _ rfl;have g0:=(HZ6.out).free 0;have g1:=(HZ6.out).free 1;have g2:=(HZ6.out).free 2;have g3:=(HZ6.out).free 3;have g4:=(HZ6.out).free 4;have g5:=(HZ6.out).free 5;have g6:=(HZ6.out).free 6;have g7:=(HZ6.out).free 7;have s6:=(HZ6.out).lt)
  all_goals
   go_wp2_with fail
   refine bodyPost_ret (v:=.tuple #[.agg #[.int .i64 c.cats,.slice c.g.a c.g.l.length c.g.cap,.slice c.r.a c.r.l.length c.r.cap,.slice c.p.a c.p.l.length c.p.cap,.slice (some ⟨g',0,none⟩) (c.n.l.length + 1) c',.slice c.s.a c.s.l.length c.s.cap,.int .i64 c.gate,.int .i64 c.quota],.bool true]) (by simp [results,Tryz.results146,go_sem,a0,a1,a2,a3,a4,a5,a6,a7,s6]) rfl ?_
   have HU7:=(upd_put (k:=7) (v:=.int .i64 c.quota) (upd_put (k:=6) (v:=.int .i64 c.gate) (upd_put (k:=5) (v:=.slice c.s.a c.s.l.length c.s.cap) (upd_put (k:=4) (v:=.slice (some ⟨g',0,none⟩) (c.n.l.length + 1) c') (upd_put (k:=3) (v:=.slice c.p.a c.p.l.length c.p.cap) (upd_put (k:=2) (v:=.slice c.r.a c.r.l.length c.r.cap) (upd_put (k:=1) (v:=.slice c.g.a c.g.l.length c.g.cap) (upd_put (k:=0) (v:=.int .i64 c.cats) (Upd.refl b1 (W5.setCell ⟨b2,4,none⟩ (.slice (some ⟨g',0,none⟩) (c.n.l.length + 1) c')))))))))))
   have HR7 : RO w { c with n:=⟨some ⟨g',0,none⟩,c',c.n.l ++ [[y0,y1]]⟩ } _:=((HRO4.out.addN (row:=[y0,y1]) HOWN.out HMOD.out rfl).upd HO5.out (by have:=HTB4.out.n2;omega) (Upd.setCell W5 ⟨b2,4,none⟩ (.slice (some ⟨g',0,none⟩) (c.n.l.length + 1) c'))).upd HZ6.out (by have:=HTB4.out.n1;omega) HU7
   have HK7:=keep_fin HTB4.out.bel (keep_mod HRO4.out.n (by decide) HMOD.out) (Upd.setCell W5 ⟨b2,4,none⟩ (.slice (some ⟨g',0,none⟩) (c.n.l.length + 1) c')) HU7 HTB4.out.n1 HTB4.out.n2
   exact tkr_fin (row:=[y0,y1]) (b:=true) (by rw [HRR.out];rfl) rfl HR7 HK7 (by simp)
theorem rplain_slot (w : World) (c : Cv) (w0 v1 v2 : List UInt8) (hsm : ∀ x ∈ [w0,v1,v2],x.length ≤ 100000000) (a : Option Addr) (cap : Nat) (W : World) (h : RO w c W) (hr : RdW W a cap [w0,v1,v2]) (hn : FewC c) :
  Calls Tryz.prog 146 #[(.agg #[.int .i64 c.cats,.slice c.g.a c.g.l.length c.g.cap,.slice c.r.a c.r.l.length c.r.cap,.slice c.p.a c.p.l.length c.p.cap,.slice c.n.a c.n.l.length c.n.cap,.slice c.s.a c.s.l.length c.s.cap,.int .i64 c.gate,.int .i64 c.quota]),.int .i64 5,.slice a 3 cap] W (TkR w c W 5 [w0,v1,v2]):=by
 obtain ⟨i0,hi0,hz0,hz1,hz2⟩:=info_parts info_so
 have hfew:=hn.2.2.2.2
 obtain ⟨W3,hW3⟩ : ∃ W3,W3 = ((W.alloc (.cells #[.int .i64 c.cats,.slice c.g.a c.g.l.length c.g.cap,.slice c.r.a c.r.l.length c.r.cap,.slice c.p.a c.p.l.length c.p.cap,.slice c.n.a c.n.l.length c.n.cap,.slice c.s.a c.s.l.length c.s.cap,.int .i64 c.gate,.int .i64 c.quota] 29)).alloc (.cells #[.int .i64 0,.slice none 0 0,.slice none 0 0,.slice none 0 0,.slice none 0 0,.slice none 0 0,.int .i64 0,.int .i64 0] 29)).alloc (.cells #[.int .i64 c.cats,.slice c.g.a c.g.l.length c.g.cap,.slice c.r.a c.r.l.length c.r.cap,.slice c.p.a c.p.l.length c.p.cap,.slice c.n.a c.n.l.length c.n.cap,.slice c.s.a c.s.l.length c.s.cap,.int .i64 c.gate,.int .i64 c.quota] 29):=⟨_,rfl⟩
 obtain ⟨b1,hb1⟩ : ∃ b,b = W.heap.size + 1:=⟨_,rfl⟩
 obtain ⟨b2,hb2⟩ : ∃ b,b = W.heap.size + 1 + 1:=⟨_,rfl⟩
 have HTB : Hid (TB W W3 b1 b2 c):=by rw [hW3,hb1,hb2];exact tb_start W c
 have HRO:=Lib.hid (h.more HTB.out.bel)
 have HRW:=Lib.hid (hr.below HTB.out.bel)
 have HW3:=Lib.hid hW3
 have HE1:=Lib.hid hb1
 have HE2:=Lib.hid hb2
 have hwB:=h.bel.size
 clear hW3 hb1 hb2
 have HNB : Hid (Calls Tryz.prog 173 #[.slice a 3 cap,.int .i64 1] W3 (NmPost [v1,v2] W3)):=rnumbers_any a cap [w0,v1,v2] 1 (by simp) [v1,v2] rfl (fun y hy=>hsm y (List.mem_cons_of_mem _ hy)) (by simp) W3 HRW.out.rd
 have hrow:=plain_row 5 (by omega) [w0,v1,v2]
 rw [show [w0,v1,v2].drop 1 = [v1,v2] from rfl] at hrow
 have HROW:=Lib.hid hrow
 clear hrow h hr hsm
 go_enter Tryz.func146,Tryz.ntmps146
 (go_upto_region 2 with fail;rw [← HW3.out];try rw [← HE2.out];try rw [← HE1.out])
 go_wp2_with fail
 refine HNB.out.mono ?_;intro e W4 h4
 obtain ⟨hy,hno,hb4⟩:=h4
 have HTB4:=Lib.hid (HTB.out.more hb4)
 have HRO4:=Lib.hid (HRO.out.more hb4)
 have hs4:=HRO4.out.bel.size
 have q0:=(HTB4.out.o).cell 0 _ rfl;have q1:=(HTB4.out.o).cell 1 _ rfl;have q2:=(HTB4.out.o).cell 2 _ rfl;have q3:=(HTB4.out.o).cell 3 _ rfl;have q4:=(HTB4.out.o).cell 4 _ rfl;have q5:=(HTB4.out.o).cell 5 _ rfl;have q6:=(HTB4.out.o).cell 6 _ rfl;have q7:=(HTB4.out.o).cell 7 _ rfl
 cases hb : nmsB [v1,v2]
 ·obtain rfl:=hno hb
  have HNN : Hid (rowV 5 [w0,v1,v2] = none):=by rw [Hid,HROW.out,hb];rfl
  have a0:=(HTB4.out.z).cell 0 _ rfl;have a1:=(HTB4.out.z).cell 1 _ rfl;have a2:=(HTB4.out.z).cell 2 _ rfl;have a3:=(HTB4.out.z).cell 3 _ rfl;have a4:=(HTB4.out.z).cell 4 _ rfl;have a5:=(HTB4.out.z).cell 5 _ rfl;have a6:=(HTB4.out.z).cell 6 _ rfl;have a7:=(HTB4.out.z).cell 7 _ rfl;have g0:=(HTB4.out.z).free 0;have g1:=(HTB4.out.z).free 1;have g2:=(HTB4.out.z).free 2;have g3:=(HTB4.out.z).free 3;have g4:=(HTB4.out.z).free 4;have g5:=(HTB4.out.z).free 5;have g6:=(HTB4.out.z).free 6;have g7:=(HTB4.out.z).free 7;have s6:=(HTB4.out.z).lt
  clear hy hno hb4 hb HROW
  go_wp2_with fail
  refine bodyPost_ret (v:=.tuple #[(.agg #[.int .i64 c.cats,.slice c.g.a c.g.l.length c.g.cap,.slice c.r.a c.r.l.length c.r.cap,.slice c.p.a c.p.l.length c.p.cap,.slice c.n.a c.n.l.length c.n.cap,.slice c.s.a c.s.l.length c.s.cap,.int .i64 c.gate,.int .i64 c.quota]),.bool false]) (by simp [results,Tryz.results146,go_sem,a0,a1,a2,a3,a4,a5,a6,a7,s6]) rfl ?_
  have HU7:=(upd_put (k:=7) (v:=.int .i64 c.quota) (upd_put (k:=6) (v:=.int .i64 c.gate) (upd_put (k:=5) (v:=.slice c.s.a c.s.l.length c.s.cap) (upd_put (k:=4) (v:=.slice c.n.a c.n.l.length c.n.cap) (upd_put (k:=3) (v:=.slice c.p.a c.p.l.length c.p.cap) (upd_put (k:=2) (v:=.slice c.r.a c.r.l.length c.r.cap) (upd_put (k:=1) (v:=.slice c.g.a c.g.l.length c.g.cap) (upd_put (k:=0) (v:=.int .i64 c.cats) (Upd.refl b1 W4)))))))))
  exact tkr_no HNN.out (HRO4.out.upd HTB4.out.z (by have:=HTB4.out.n1;omega) HU7).bel (keep_fin HTB4.out.bel (keep_refl W4) (Upd.refl b2 W4) HU7 HTB4.out.n1 HTB4.out.n2) rfl
 ·obtain ⟨a3,c3,rfl,hown3⟩:=hy hb
  obtain ⟨g3,rfl,hg3,hg3'⟩:=hown3.at_ (by simp)
  have hc3:=hown3.le
  have hc4 : c3 ≤ 9223372036854775807:=hown3.capMax
  obtain ⟨y0,hy0⟩ : ∃ y,Hid (y = ((numI v1 : Nat) : Int)):=⟨_,Lib.hid rfl⟩
  have m0 : W4.cell? ⟨g3,0,none⟩ = some (.int .i64 y0):=by rw [hy0.out];exact hown3.cell 0 _ rfl
  obtain ⟨y1,hy1⟩ : ∃ y,Hid (y = ((numI v2 : Nat) : Int)):=⟨_,Lib.hid rfl⟩
  have m1 : W4.cell? ⟨g3,1,none⟩ = some (.int .i64 y1):=by rw [hy1.out];exact hown3.cell 1 _ rfl
  have HRR : Hid (rowV 5 [w0,v1,v2] = some [y0,y1]):=by rw [Hid,HROW.out,hb,hy0.out,hy1.out];rfl
  have hlt2:=HTB4.out.o.lt
  clear hy hno hb4 hb HROW hown3
  go_wp2_with fail
  go_region_law (refine step_own rfl (.tmp 52) (.tmp 60) 27 rfl w.heap.size 139 i0 _ 2 16 Tryz.underlying27 hi0 hz0 hz1 hz2 rfl (by omega) c.s.a c.s.l.length c.s.cap (iF c.s.l) rfl (HRO4.out.s.below ((Below.refl _ _).drew.alloc (Nat.le_refl _) _)) W4.heap.size (ivs [y0,y1]) rfl (new_block _ _ _ rfl) rfl (by simp [ivs,Value.oneCell']) (by simp only [maxLen];omega) (by omega) (by simp;omega) ?_;intro g' c' W5 hown1 hmod1 _;have HOWN:=Lib.hid hown1;have HMOD : Hid (Mod (blk c.s.a) W4 W5):=((Mod.ofBelow ((Below.refl W4.heap.size W4).drew.alloc (Nat.le_refl _) _)).trans hmod1);clear hown1 hmod1;have HO5:=Lib.hid (HTB4.out.o.mod HMOD.out (HRO4.out.s.ne HTB4.out.o (by decide)));have HZ5:=Lib.hid (HTB4.out.z.mod HMOD.out (HRO4.out.s.ne HTB4.out.z (by decide)));have d5:=HO5.out.cell 5 _ rfl;have e5:=HO5.out.free 5;have HO6:=Lib.hid (HO5.out.set 5 (.slice (some ⟨g',0,none⟩) (c.s.l.length + 1) c'));have HZ6:=Lib.hid (HZ5.out.upd (Upd.setCell W5 ⟨b2,5,none⟩ (.slice (some ⟨g',0,none⟩) (c.s.l.length + 1) c')) HTB4.out.ne);clear q0 q1 q2 q3 q4 q5 q6 q7;have r0:=(HO6.out).cell 0 _ rfl;have r1:=(HO6.out).cell 1 _ rfl;have r2:=(HO6.out).cell 2 _ rfl;have r3:=(HO6.out).cell 3 _ rfl;have r4:=(HO6.out).cell 4 _ rfl;have r5:=(HO6.out).cell 5 _ rfl;have r6:=(HO6.out).cell 6 _ rfl;have r7:=(HO6.out).cell 7 _ rfl;have a0:=(HZ6.out).cell 0 _ rfl;have a1:=(HZ6.out).cell 1 _ rfl;have a2:=(HZ6.out).cell 2 _ rfl;have a3:=(HZ6.out).cell 3 _ rfl;have a4:=(HZ6.out).cell 4 _ rfl;have a5:=(HZ6.out).cell 5 _ rfl;have a6:=(HZ6.out).cell 6 _ rfl;have a7:=(HZ6.out).cell 7 _ rfl;have g0:=(HZ6.out).free 0;have g1:=(HZ6.out).free 1;have g2:=(HZ6.out).free 2;have g3:=(HZ6.out).free 3;have g4:=(HZ6.out).free 4;have g5:=(HZ6.out).free 5;have g6:=(HZ6.out).free 6;have g7:=(HZ6.out).free 7;have s6:=(HZ6.out).lt)
  all_goals
   go_wp2_with fail
   refine bodyPost_ret (v:=.tuple #[.agg #[.int .i64 c.cats,.slice c.g.a c.g.l.length c.g.cap,.slice c.r.a c.r.l.length c.r.cap,.slice c.p.a c.p.l.length c.p.cap,.slice c.n.a c.n.l.length c.n.cap,.slice (some ⟨g',0,none⟩) (c.s.l.length + 1) c',.int .i64 c.gate,.int .i64 c.quota],.bool true]) (by simp [results,Tryz.results146,go_sem,a0,a1,a2,a3,a4,a5,a6,a7,s6]) rfl ?_
   have HU7:=(upd_put (k:=7) (v:=.int .i64 c.quota) (upd_put (k:=6) (v:=.int .i64 c.gate) (upd_put (k:=5) (v:=.slice (some ⟨g',0,none⟩) (c.s.l.length + 1) c') (upd_put (k:=4) (v:=.slice c.n.a c.n.l.length c.n.cap) (upd_put (k:=3) (v:=.slice c.p.a c.p.l.length c.p.cap) (upd_put (k:=2) (v:=.slice c.r.a c.r.l.length c.r.cap) (upd_put (k:=1) (v:=.slice c.g.a c.g.l.length c.g.cap) (upd_put (k:=0) (v:=.int .i64 c.cats) (Upd.refl b1 (W5.setCell ⟨b2,5,none⟩ (.slice (some ⟨g',0,none⟩) (c.s.l.length + 1) c')))))))))))
   have HR7 : RO w { c with s:=⟨some ⟨g',0,none⟩,c',c.s.l ++ [[y0,y1]]⟩ } _:=((HRO4.out.addS (row:=[y0,y1]) HOWN.out HMOD.out rfl).upd HO5.out (by have:=HTB4.out.n2;omega) (Upd.setCell W5 ⟨b2,5,none⟩ (.slice (some ⟨g',0,none⟩) (c.s.l.length + 1) c'))).upd HZ6.out (by have:=HTB4.out.n1;omega) HU7
   have HK7:=keep_fin HTB4.out.bel (keep_mod HRO4.out.s (by decide) HMOD.out) (Upd.setCell W5 ⟨b2,5,none⟩ (.slice (some ⟨g',0,none⟩) (c.s.l.length + 1) c')) HU7 HTB4.out.n1 HTB4.out.n2
   exact tkr_fin (row:=[y0,y1]) (b:=true) (by rw [HRR.out];rfl) rfl HR7 HK7 (by simp)
end Go.Proofs.YtoklonmiejdgmaaGreatDoor
/- The reference of plan: a line taken, whatever its rank. -/
namespace Go.Proofs.YtoklonmiejdgmaaGreatDoor
set_option linter.unusedVariables false
set_option linter.unusedSimpArgs false
set_option linter.unnecessarySimpa false
open Go.RowKit Go.Sort
set_option maxHeartbeats 4000000
set_option maxRecDepth 100000
set_option linter.unusedVariables false
/-- A plain line, when its own function is known. -/
theorem rtake_plain (w : World) (c : Cv) (k : Nat) (hk : k ≠ 1 ∧ k ≠ 2 ∧ k ≠ 3) (hk7 : k < 7) (ws : List (List UInt8)) (n : Nat) (a : Option Addr) (cap : Nat) (W : World) (h : RO w c W) (hr : RdW W a cap ws)
  (hP : ∀ W',RO w c W' → RdW W' a cap ws → Calls Tryz.prog 146 #[(.agg #[.int .i64 c.cats,.slice c.g.a c.g.l.length c.g.cap,.slice c.r.a c.r.l.length c.r.cap,.slice c.p.a c.p.l.length c.p.cap,.slice c.n.a c.n.l.length c.n.cap,.slice c.s.a c.s.l.length c.s.cap,.int .i64 c.gate,.int .i64 c.quota]),.int .i64 k,.slice a n cap] W' (TkR w c W' k ws)) :
  Calls Tryz.prog 99 #[(.agg #[.int .i64 c.cats,.slice c.g.a c.g.l.length c.g.cap,.slice c.r.a c.r.l.length c.r.cap,.slice c.p.a c.p.l.length c.p.cap,.slice c.n.a c.n.l.length c.n.cap,.slice c.s.a c.s.l.length c.s.cap,.int .i64 c.gate,.int .i64 c.quota]),.int .i64 k,.slice a n cap] W (TkR w c W k ws):=by
 obtain ⟨W3,hW3⟩ : ∃ W3,W3 = ((W.alloc (.cells #[.int .i64 c.cats,.slice c.g.a c.g.l.length c.g.cap,.slice c.r.a c.r.l.length c.r.cap,.slice c.p.a c.p.l.length c.p.cap,.slice c.n.a c.n.l.length c.n.cap,.slice c.s.a c.s.l.length c.s.cap,.int .i64 c.gate,.int .i64 c.quota] 29)).alloc (.cells #[.int .i64 0,.slice none 0 0,.slice none 0 0,.slice none 0 0,.slice none 0 0,.slice none 0 0,.int .i64 0,.int .i64 0] 29)).alloc (.cells #[.int .i64 c.cats,.slice c.g.a c.g.l.length c.g.cap,.slice c.r.a c.r.l.length c.r.cap,.slice c.p.a c.p.l.length c.p.cap,.slice c.n.a c.n.l.length c.n.cap,.slice c.s.a c.s.l.length c.s.cap,.int .i64 c.gate,.int .i64 c.quota] 29):=⟨_,rfl⟩
 obtain ⟨b1,hb1⟩ : ∃ b,b = W.heap.size + 1:=⟨_,rfl⟩
 obtain ⟨b2,hb2⟩ : ∃ b,b = W.heap.size + 1 + 1:=⟨_,rfl⟩
 have HTB : Hid (TB W W3 b1 b2 c):=by rw [hW3,hb1,hb2];exact tb_start W c
 have HRO:=Lib.hid (h.more HTB.out.bel)
 have HRW:=Lib.hid (hr.below HTB.out.bel)
 have HW3:=Lib.hid hW3
 have HE1:=Lib.hid hb1
 have HE2:=Lib.hid hb2
 have hwB:=h.bel.size
 clear hW3 hb1 hb2
 have HPL:=Lib.hid (hP W3 HRO.out HRW.out)
 have k1 : ((k : Int) == 1) = false:=by rw [beq_eq_false_iff_ne];omega
 have k2 : ((k : Int) == 2) = false:=by rw [beq_eq_false_iff_ne];omega
 have k3 : ((k : Int) == 3) = false:=by rw [beq_eq_false_iff_ne];omega
 have z1 : decide (k = 1) = false:=decide_eq_false hk.1
 have z2 : decide (k = 2) = false:=decide_eq_false hk.2.1
 have z3 : decide (k = 3) = false:=decide_eq_false hk.2.2
 obtain ⟨R,hR⟩ : ∃ R,R = rowV k ws:=⟨_,rfl⟩
 obtain ⟨b,hb⟩ : ∃ b,b = R.isSome:=⟨_,rfl⟩
 have HSH : Hid (∀ e w',TkR w c W3 k ws e w' → ∃ c1 : Cv,e = .returned (.tuple #[(.agg #[.int .i64 c1.cats,.slice c1.g.a c1.g.l.length c1.g.cap,.slice c1.r.a c1.r.l.length c1.r.cap,.slice c1.p.a c1.p.l.length c1.p.cap,.slice c1.n.a c1.n.l.length c1.n.cap,.slice c1.s.a c1.s.l.length c1.s.cap,.int .i64 c1.gate,.int .i64 c1.quota]),.bool b]) ∧ Below w.heap.size w w' ∧ Keep W3 w' ∧ ∀ row,R = some row → pcOf c1 = setV (pcOf c) k row ∧ RO w c1 w'):=fun e w' h=>by rw [hb,hR];exact h
 have HFN : Hid (∀ v w' (c1 : Cv),v = .tuple #[(.agg #[.int .i64 c1.cats,.slice c1.g.a c1.g.l.length c1.g.cap,.slice c1.r.a c1.r.l.length c1.r.cap,.slice c1.p.a c1.p.l.length c1.p.cap,.slice c1.n.a c1.n.l.length c1.n.cap,.slice c1.s.a c1.s.l.length c1.s.cap,.int .i64 c1.gate,.int .i64 c1.quota]),.bool b] → Below w.heap.size w w' → Keep W w' → (∀ row,R = some row → pcOf c1 = setV (pcOf c) k row ∧ RO w c1 w') → TkR w c W k ws (.returned v) w'):=fun v w' c1 h1 h2 h3 h4=>⟨c1,by rw [h1,hb,hR],h2,h3,by rw [← hR];exact h4⟩
 clear h hr hP hk hk7 hR hb
 have q0:=(HTB.out.o).cell 0 _ rfl;have q1:=(HTB.out.o).cell 1 _ rfl;have q2:=(HTB.out.o).cell 2 _ rfl;have q3:=(HTB.out.o).cell 3 _ rfl;have q4:=(HTB.out.o).cell 4 _ rfl;have q5:=(HTB.out.o).cell 5 _ rfl;have q6:=(HTB.out.o).cell 6 _ rfl;have q7:=(HTB.out.o).cell 7 _ rfl
 go_enter Tryz.func99,Tryz.ntmps99
 (go_upto_region 2 with fail;rw [← HW3.out];try rw [← HE2.out];try rw [← HE1.out])
 go_wp2_with fail
 refine HPL.out.mono ?_;intro e W4 h4
 obtain ⟨c1,rfl,hb4,hk4,hr4⟩:=HSH.out _ _ h4
 have HZ4:=Lib.hid (hk4 _ _ HTB.out.z)
 have HB4:=Lib.hid hb4
 have HK4:=Lib.hid hk4
 have HR4:=Lib.hid hr4
 have a0:=(HZ4.out).cell 0 _ rfl;have a1:=(HZ4.out).cell 1 _ rfl;have a2:=(HZ4.out).cell 2 _ rfl;have a3:=(HZ4.out).cell 3 _ rfl;have a4:=(HZ4.out).cell 4 _ rfl;have a5:=(HZ4.out).cell 5 _ rfl;have a6:=(HZ4.out).cell 6 _ rfl;have a7:=(HZ4.out).cell 7 _ rfl;have g0:=(HZ4.out).free 0;have g1:=(HZ4.out).free 1;have g2:=(HZ4.out).free 2;have g3:=(HZ4.out).free 3;have g4:=(HZ4.out).free 4;have g5:=(HZ4.out).free 5;have g6:=(HZ4.out).free 6;have g7:=(HZ4.out).free 7;have s6:=(HZ4.out).lt
 clear h4 hb4 hk4 hr4
 go_wp2_with fail
 refine bodyPost_ret (v:=.tuple #[(.agg #[.int .i64 c1.cats,.slice c1.g.a c1.g.l.length c1.g.cap,.slice c1.r.a c1.r.l.length c1.r.cap,.slice c1.p.a c1.p.l.length c1.p.cap,.slice c1.n.a c1.n.l.length c1.n.cap,.slice c1.s.a c1.s.l.length c1.s.cap,.int .i64 c1.gate,.int .i64 c1.quota]),.bool b]) (by simp [results,Tryz.results99,go_sem,a0,a1,a2,a3,a4,a5,a6,a7,s6]) rfl ?_
 have HU7:=(upd_put (k:=7) (v:=.int .i64 c1.quota) (upd_put (k:=6) (v:=.int .i64 c1.gate) (upd_put (k:=5) (v:=.slice c1.s.a c1.s.l.length c1.s.cap) (upd_put (k:=4) (v:=.slice c1.n.a c1.n.l.length c1.n.cap) (upd_put (k:=3) (v:=.slice c1.p.a c1.p.l.length c1.p.cap) (upd_put (k:=2) (v:=.slice c1.r.a c1.r.l.length c1.r.cap) (upd_put (k:=1) (v:=.slice c1.g.a c1.g.l.length c1.g.cap) (upd_put (k:=0) (v:=.int .i64 c1.cats) (Upd.refl b1 W4)))))))))
 refine HFN.out _ _ c1 rfl (HB4.out.trans (HU7.below (by have:=HTB.out.n1;omega) HB4.out.size)) (fun b cs ho=>(HK4.out b cs (ho.below HTB.out.bel)).upd HU7 (by have:=ho.lt;have:=HTB.out.n1;omega)) (fun row hrow=>⟨(HR4.out row hrow).1,(HR4.out row hrow).2.upd HZ4.out (by have:=HTB.out.n1;omega) HU7⟩)
/-- A line taken. -/
theorem rtake_any (w : World) (c : Cv) (k : Nat) (hk : k < 7) (ws : List (List UInt8)) (hl : ws.length = wordsK k) (hsm : ∀ x ∈ ws,x.length ≤ 100000000) (a : Option Addr) (cap : Nat) (W : World) (h : RO w c W) (hr : RdW W a cap ws) (hn : FewC c) :
  Calls Tryz.prog 99 #[(.agg #[.int .i64 c.cats,.slice c.g.a c.g.l.length c.g.cap,.slice c.r.a c.r.l.length c.r.cap,.slice c.p.a c.p.l.length c.p.cap,.slice c.n.a c.n.l.length c.n.cap,.slice c.s.a c.s.l.length c.s.cap,.int .i64 c.gate,.int .i64 c.quota]),.int .i64 k,.slice a ws.length cap] W (TkR w c W k ws):=by
 rcases (by omega : k = 0 ∨ k = 1 ∨ k = 2 ∨ k = 3 ∨ k = 4 ∨ k = 5 ∨ k = 6) with rfl | rfl | rfl | rfl | rfl | rfl | rfl
 ·match ws,hl with
  | [x0,x1],_=>exact rtake_plain w c 0 (by omega) hk _ _ a cap W h hr (fun W' h' hr'=>rplain_cats w c x0 x1 hsm a cap W' h' hr' hn)
 ·match ws,hl with
  | [x0,x1,x2,x3],_=>exact rtake_guest w c x0 x1 x2 x3 hsm a cap W h hr hn
 ·match ws,hl with
  | [x0,x1,x2,x3],_=>exact rtake_range w c x0 x1 x2 x3 hsm a cap W h hr hn
 ·match ws,hl with
  | [x0,x1,x2],_=>exact rtake_port w c x0 x1 x2 hsm a cap W h hr hn
 ·match ws,hl with
  | [x0,x1,x2],_=>exact rtake_plain w c 4 (by omega) hk _ _ a cap W h hr (fun W' h' hr'=>rplain_ring w c x0 x1 x2 hsm a cap W' h' hr' hn)
 ·match ws,hl with
  | [x0,x1,x2],_=>exact rtake_plain w c 5 (by omega) hk _ _ a cap W h hr (fun W' h' hr'=>rplain_slot w c x0 x1 x2 hsm a cap W' h' hr' hn)
 ·match ws,hl with
  | [x0,x1,x2],_=>exact rtake_plain w c 6 (by omega) hk _ _ a cap W h hr (fun W' h' hr'=>rplain_gate w c x0 x1 x2 hsm a cap W' h' hr' hn)
end Go.Proofs.YtoklonmiejdgmaaGreatDoor
/- The reference of plan: all lines. -/
namespace Go.Proofs.YtoklonmiejdgmaaGreatDoor
set_option linter.unusedVariables false
set_option linter.unusedSimpArgs false
set_option linter.unnecessarySimpa false
open Go.RowKit Go.Sort
set_option maxHeartbeats 4000000
set_option maxRecDepth 100000
set_option linter.unusedVariables false
/-- The reference's loop over the lines. -/
structure RL (L : List (List UInt8)) (w : World) (b1 b2 k : Nat) (c : Cv) (last : Int) (W : World) : Prop where
 st : stP L k = some (pcOf c,last)
 len : LenP k (pcOf c)
 ro : RO w c W
 z : ObjAt W b1 29 #[.int .i64 0,.slice none 0 0,.slice none 0 0,.slice none 0 0,.slice none 0 0,.slice none 0 0,.int .i64 0,.int .i64 0].toList
 o : ObjAt W b2 29 (cfgL c)
theorem RL.few {L : List (List UInt8)} {w W : World} {b1 b2 k : Nat} {c : Cv} {last : Int} (h : RL L w b1 b2 k c last W) (hk : k ≤ 100000) : FewC c:=by
 have h1 : c.g.l.length ≤ k:=h.len.1
 have h2 : c.r.l.length ≤ k:=h.len.2.1
 have h3 : c.p.l.length ≤ k:=h.len.2.2.1
 have h4 : c.n.l.length ≤ k:=h.len.2.2.2.1
 have h5 : c.s.l.length ≤ k:=h.len.2.2.2.2
 exact ⟨by omega,by omega,by omega,by omega,by omega⟩
theorem RL.more {L : List (List UInt8)} {w W W' : World} {b1 b2 k : Nat} {c : Cv} {last : Int} (h : RL L w b1 b2 k c last W) (hb : Below W.heap.size W W') : RL L w b1 b2 k c last W':=⟨h.st,h.len,h.ro.more hb,h.z.below hb,h.o.below hb⟩
/-- What the lines' reading hands back. -/
def RlPost (L : List (List UInt8)) (w : World) (e : Ending) (w' : World) : Prop:=
 ∃ (c : Cv) (at_ : Int),e = .returned (.tuple #[(.agg #[.int .i64 c.cats,.slice c.g.a c.g.l.length c.g.cap,.slice c.r.a c.r.l.length c.r.cap,.slice c.p.a c.p.l.length c.p.cap,.slice c.n.a c.n.l.length c.n.cap,.slice c.s.a c.s.l.length c.s.cap,.int .i64 c.gate,.int .i64 c.quota]),.int .i64 at_]) ∧ Below w.heap.size w w' ∧ ((at_ = 0 ∧ (∃ last,stP L L.length = some (pcOf c,last)) ∧ RO w c w') ∨ ∃ k : Nat,at_ = (k : Int) + 1 ∧ k < L.length ∧ stP L k ≠ none ∧ stP L (k + 1) = none)
theorem rl_start (L : List (List UInt8)) (w : World) : RL L w w.heap.size (w.heap.size + 1) 0 cvN (-1) ((w.alloc (.cells #[.int .i64 0,.slice none 0 0,.slice none 0 0,.slice none 0 0,.slice none 0 0,.slice none 0 0,.int .i64 0,.int .i64 0] 29)).alloc (.cells #[.int .i64 0,.slice none 0 0,.slice none 0 0,.slice none 0 0,.slice none 0 0,.slice none 0 0,.int .i64 (-1),.int .i64 0] 29)):=by
 have s1 : (w.alloc (.cells #[.int .i64 0,.slice none 0 0,.slice none 0 0,.slice none 0 0,.slice none 0 0,.slice none 0 0,.int .i64 0,.int .i64 0] 29)).heap.size = w.heap.size + 1:=World.size_alloc _ _
 refine ⟨rfl,⟨by simp [pcOf,cvN,cvOf,pcN,slE],by simp [pcOf,cvN,cvOf,pcN,slE],by simp [pcOf,cvN,cvOf,pcN,slE],by simp [pcOf,cvN,cvOf,pcN,slE],by simp [pcOf,cvN,cvOf,pcN,slE]⟩,?_,?_,?_⟩
 ·exact ⟨((Below.refl _ _).alloc (Nat.le_refl _) _).alloc (by rw [s1];omega) _,Own.nil _ _ _ _,Own.nil _ _ _ _,Own.nil _ _ _ _,Own.nil _ _ _ _,Own.nil _ _ _ _,(fun x hx=>by cases hx),(fun x hx=>by cases hx),(fun x hx=>by cases hx),(fun x hx=>by cases hx),(fun x hx=>by cases hx)⟩
 ·exact (ObjAt.new w 29 #[.int .i64 0,.slice none 0 0,.slice none 0 0,.slice none 0 0,.slice none 0 0,.slice none 0 0,.int .i64 0,.int .i64 0].toList).below ((Below.refl _ _).alloc (Nat.le_refl _) _)
 ·have:=ObjAt.new (w.alloc (.cells #[.int .i64 0,.slice none 0 0,.slice none 0 0,.slice none 0 0,.slice none 0 0,.slice none 0 0,.int .i64 0,.int .i64 0] 29)) 29 #[.int .i64 0,.slice none 0 0,.slice none 0 0,.slice none 0 0,.slice none 0 0,.slice none 0 0,.int .i64 (-1),.int .i64 0].toList
  rw [s1] at this;exact this
/-- A line that stops the reading. -/
theorem rl_stop {L : List (List UInt8)} {w W : World} {b1 b2 k : Nat} {c : Cv} {last : Int} {y : List UInt8} (h : RL L w b1 b2 k c last W) (hk : k < L.length) (hy : L.getD k [] = y) (he : lineV (pcOf c) last (decide (k = 0)) y = none) {w' : World} (hb : Below w.heap.size w w') : RlPost L w (.returned (.tuple #[(.agg #[.int .i64 c.cats,.slice c.g.a c.g.l.length c.g.cap,.slice c.r.a c.r.l.length c.r.cap,.slice c.p.a c.p.l.length c.p.cap,.slice c.n.a c.n.l.length c.n.cap,.slice c.s.a c.s.l.length c.s.cap,.int .i64 c.gate,.int .i64 c.quota]),.int .i64 ((k : Int) + 1)])) w':=
 ⟨c,_,rfl,hb,Or.inr ⟨k,rfl,hk,by rw [h.st];simp,by unfold stP;rw [h.st];simp only [Option.bind_some];rw [hy];exact he⟩⟩
theorem lineV_no {c : Pc} {last : Int} {b : Bool} {s : List UInt8} (h : ¬ (wordsB s = true ∧ rankV ((fieldsC 32 s).headD []) < 7 ∧ ordB (rankV ((fieldsC 32 s).headD [])) b last = true ∧ (fieldsC 32 s).length = wordsK (rankV ((fieldsC 32 s).headD [])))) : lineV c last b s = none:=by
 unfold lineV;rw [if_neg h]
theorem lineV_go {c : Pc} {last : Int} {b : Bool} {s : List UInt8} (h : wordsB s = true ∧ rankV ((fieldsC 32 s).headD []) < 7 ∧ ordB (rankV ((fieldsC 32 s).headD [])) b last = true ∧ (fieldsC 32 s).length = wordsK (rankV ((fieldsC 32 s).headD []))) : lineV c last b s = (rowV (rankV ((fieldsC 32 s).headD [])) (fieldsC 32 s)).map fun row=>(setV c (rankV ((fieldsC 32 s).headD [])) row,((rankV ((fieldsC 32 s).headD []) : Nat) : Int)):=by
 unfold lineV;rw [if_pos h]
theorem rlines_loop (a : Option Addr) (cap : Nat) (L : List (List UInt8)) (hl : L.length ≤ 100000) (hsm : ∀ x ∈ L,x.length ≤ 100000) (w : World) (h : RdW w a cap L) : Calls Tryz.prog 58 #[.slice a L.length cap] w (RlPost L w):=by
 obtain ⟨W3,hW3⟩ : ∃ W3,W3 = (w.alloc (.cells #[.int .i64 0,.slice none 0 0,.slice none 0 0,.slice none 0 0,.slice none 0 0,.slice none 0 0,.int .i64 0,.int .i64 0] 29)).alloc (.cells #[.int .i64 0,.slice none 0 0,.slice none 0 0,.slice none 0 0,.slice none 0 0,.slice none 0 0,.int .i64 (-1),.int .i64 0] 29):=⟨_,rfl⟩
 obtain ⟨b1,hb1⟩ : ∃ b,b = w.heap.size:=⟨_,rfl⟩
 obtain ⟨b2,hb2⟩ : ∃ b,b = w.heap.size + 1:=⟨_,rfl⟩
 have HRL0 : Hid (RL L w b1 b2 0 cvN (-1) W3):=by rw [hW3,hb1,hb2];exact rl_start L w
 have HE1:=Lib.hid hb1
 have HE2:=Lib.hid hb2
 have HW3:=Lib.hid hW3
 have HH:=Lib.hid h
 have HSM:=Lib.hid hsm
 clear hW3 hb1 hb2 h hsm
 go_enter Tryz.func58,Tryz.ntmps58
 go_upto_region 3 with fail
 rw [← HW3.out]
 try rw [← HE2.out]
 try rw [← HE1.out]
 go_wp2_with fail
 go_loopw [5,6] (fun la i wr=>∃ (k : Nat) (c : Cv) (last : Int),k ≤ L.length ∧ i = .int .i64 k ∧ la = .int .i64 last ∧ RL L w b1 b2 k c last wr) (fun _ i _=>L.length - (intOf i).toNat)
 case atStart=>exact ⟨0,cvN,-1,by omega,rfl,rfl,HRL0.out⟩
 case round=>
  clear HRL0
  obtain ⟨k,c,last,hk,rfl,rfl,hrl⟩:=hrel
  have HQ:=Lib.hid hrl
  clear hrl
  have w5 : IntKind.i64.wrap ((k : Int) + 1) = (k : Int) + 1:=by rw [IntKind.wrap_i64];omega
  have hwB:=HQ.out.ro.bel.size
  have n1 : w.heap.size ≤ b1:=by have:=HE1.out;omega
  have n2 : w.heap.size ≤ b2:=by have:=HE2.out;omega
  have n12 : b1 ≠ b2:=by have:=HE1.out;have:=HE2.out;omega
  by_cases hlt : k < L.length
  ·obtain ⟨g,off,rfl,hg,hc⟩:=HH.out.at_ k hlt
   obtain ⟨y,hy⟩ : ∃ y,y = L[k]:=⟨_,rfl⟩
   have hcr : wr.cell? ⟨g,off + k,none⟩ = some (.string (ba y)):=by rw [HQ.out.ro.bel.cell (p:=⟨g,off + k,none⟩) hg,hc k hlt,hy]
   have hys : y.length ≤ 100000:=by rw [hy];exact HSM.out _ (List.getElem_mem hlt)
   have hyD : L.getD k [] = y:=by rw [List.getD_eq_getElem?_getD,List.getElem?_eq_getElem hlt,hy];rfl
   have HSPL:=Lib.hid (rsplit_any (ba y) (by rw [ba_size];omega) wr)
   rw [ba_data] at HSPL
   have HST : Hid (lineV (pcOf c) last (decide (k = 0)) y = none → ∀ w',Below w.heap.size w w' → RlPost L w (.returned (.tuple #[(.agg #[.int .i64 c.cats,.slice c.g.a c.g.l.length c.g.cap,.slice c.r.a c.r.l.length c.r.cap,.slice c.p.a c.p.l.length c.p.cap,.slice c.n.a c.n.l.length c.n.cap,.slice c.s.a c.s.l.length c.s.cap,.int .i64 c.gate,.int .i64 c.quota]),.int .i64 ((k : Int) + 1)])) w'):=fun he w' hb=>rl_stop HQ.out hlt hyD he hb
   have hleL:=HH.out.le
   have hmxL:=HH.out.mx
   unfold maxLen at hmxL
   clear hc hy
   cases hw : wordsB y
   ·have HSH : Hid (∀ e w',SplitPost y wr e w' → e = .returned (.tuple #[.slice none 0 0,.bool false]) ∧ Below wr.heap.size wr w'):=fun e w' h=>⟨h.2.1 hw,h.2.2⟩
    have HS2:=Lib.hid (HST.out (lineV_no (by rw [hw];simp)))
    clear hw hyD hys
    go_wp2_with fail
    refine HSPL.out.mono ?_;intro e w1 h1
    obtain ⟨rfl,hb1⟩:=HSH.out _ _ h1
    have HQ1:=Lib.hid (HQ.out.more hb1)
    have q0:=(HQ1.out.o).cell 0 _ rfl;have q1:=(HQ1.out.o).cell 1 _ rfl;have q2:=(HQ1.out.o).cell 2 _ rfl;have q3:=(HQ1.out.o).cell 3 _ rfl;have q4:=(HQ1.out.o).cell 4 _ rfl;have q5:=(HQ1.out.o).cell 5 _ rfl;have q6:=(HQ1.out.o).cell 6 _ rfl;have q7:=(HQ1.out.o).cell 7 _ rfl
    have a0:=(HQ1.out.z).cell 0 _ rfl;have a1:=(HQ1.out.z).cell 1 _ rfl;have a2:=(HQ1.out.z).cell 2 _ rfl;have a3:=(HQ1.out.z).cell 3 _ rfl;have a4:=(HQ1.out.z).cell 4 _ rfl;have a5:=(HQ1.out.z).cell 5 _ rfl;have a6:=(HQ1.out.z).cell 6 _ rfl;have a7:=(HQ1.out.z).cell 7 _ rfl;have g0:=(HQ1.out.z).free 0;have g1:=(HQ1.out.z).free 1;have g2:=(HQ1.out.z).free 2;have g3:=(HQ1.out.z).free 3;have g4:=(HQ1.out.z).free 4;have g5:=(HQ1.out.z).free 5;have g6:=(HQ1.out.z).free 6;have g7:=(HQ1.out.z).free 7;have s6:=(HQ1.out.z).lt
    clear h1 hb1
    go_wp2_with fail
    (refine bodyPost_ret (v:=.tuple #[(.agg #[.int .i64 c.cats,.slice c.g.a c.g.l.length c.g.cap,.slice c.r.a c.r.l.length c.r.cap,.slice c.p.a c.p.l.length c.p.cap,.slice c.n.a c.n.l.length c.n.cap,.slice c.s.a c.s.l.length c.s.cap,.int .i64 c.gate,.int .i64 c.quota]),.int .i64 ((k : Int) + 1)]) (by simp [results,Tryz.results58,go_sem,a0,a1,a2,a3,a4,a5,a6,a7,s6]) rfl ?_)
    exact HS2.out _ (HQ1.out.ro.upd HQ1.out.z n1 (upd_put (k:=7) (v:=.int .i64 c.quota) (upd_put (k:=6) (v:=.int .i64 c.gate) (upd_put (k:=5) (v:=.slice c.s.a c.s.l.length c.s.cap) (upd_put (k:=4) (v:=.slice c.n.a c.n.l.length c.n.cap) (upd_put (k:=3) (v:=.slice c.p.a c.p.l.length c.p.cap) (upd_put (k:=2) (v:=.slice c.r.a c.r.l.length c.r.cap) (upd_put (k:=1) (v:=.slice c.g.a c.g.l.length c.g.cap) (upd_put (k:=0) (v:=.int .i64 c.cats) (Upd.refl b1 w1)))))))))).bel
   ·obtain ⟨ws,hws⟩ : ∃ ws,ws = fieldsC 32 y:=⟨_,rfl⟩
    have HSH : Hid (∀ e w',SplitPost y wr e w' → (∃ a cap,e = .returned (.tuple #[.slice a ws.length cap,.bool true]) ∧ RdW w' a cap ws) ∧ Below wr.heap.size wr w'):=fun e w' h=>by rw [hws];exact ⟨h.1 hw,h.2.2⟩
    have hne : ws ≠ []:=by rw [hws];exact fieldsC_ne 32 _
    have hpos : 0 < ws.length:=List.length_pos_iff.2 hne
    have HWS : Hid (∀ x ∈ ws,x.length ≤ 100000000):=fun x hx=>by
     rw [hws] at hx
     have:=(fieldsC_mem 32 y x hx).2;omega
    obtain ⟨x,hx⟩ : ∃ x,x = ws[0]:=⟨_,rfl⟩
    have hxh : (fieldsC 32 y).headD [] = x:=by
     rw [← hws,hx]
     cases ws with
     | nil=>exact absurd rfl hne
     | cons a l=>rfl
    obtain ⟨r,hr⟩ : ∃ r,r = rankV x:=⟨_,rfl⟩
    have hr7 : r ≤ 7:=by rw [hr];exact rankV_le x
    have HRK:=fun W=>Lib.hid (rrank_any x W)
    have HNO : Hid (¬ (r < 7 ∧ ordB r (decide (k = 0)) last = true ∧ ws.length = wordsK r) → ∀ w',Below w.heap.size w w' → RlPost L w (.returned (.tuple #[(.agg #[.int .i64 c.cats,.slice c.g.a c.g.l.length c.g.cap,.slice c.r.a c.r.l.length c.r.cap,.slice c.p.a c.p.l.length c.p.cap,.slice c.n.a c.n.l.length c.n.cap,.slice c.s.a c.s.l.length c.s.cap,.int .i64 c.gate,.int .i64 c.quota]),.int .i64 ((k : Int) + 1)])) w'):=fun hn=>HST.out (lineV_no (by rw [hxh,← hr,← hws];rintro ⟨_,h1,h2,h3⟩;exact hn ⟨h1,h2,h3⟩))
    have HGO : Hid (r < 7 → ordB r (decide (k = 0)) last = true → ws.length = wordsK r → lineV (pcOf c) last (decide (k = 0)) y = (rowV r ws).map fun row=>(setV (pcOf c) r row,((r : Nat) : Int))):=fun h1 h2 h3=>by
     have:=lineV_go (c:=pcOf c) (last:=last) (b:=decide (k = 0)) (s:=y) (by rw [hxh,← hr,← hws];exact ⟨hw,h1,h2,h3⟩)
     rw [hxh,← hr,← hws] at this;exact this
    have HRR : Hid (rankR x = if r < 7 then (((r : Nat) : Int),((wordsK r : Nat) : Int)) else (-1,0)):=by rw [Hid,hr];rfl
    clear hws hne hw hxh hr hys
    go_wp2_with fail
    refine HSPL.out.mono ?_;intro e w1 h1
    obtain ⟨⟨aw,cw,rfl,hR⟩,hb1⟩:=HSH.out _ _ h1
    obtain ⟨gw,ow,rfl,hgw,hcw⟩:=hR.at_ 0 hpos
    have c0 : w1.cell? ⟨gw,ow,none⟩ = some (.string (ba x)):=by rw [hx];exact hcw 0 hpos
    have hlew:=hR.le
    have hmxw:=hR.mx
    unfold maxLen at hmxw
    have HQ1:=Lib.hid (HQ.out.more hb1)
    have HRW:=Lib.hid hR
    have q0:=(HQ1.out.o).cell 0 _ rfl;have q1:=(HQ1.out.o).cell 1 _ rfl;have q2:=(HQ1.out.o).cell 2 _ rfl;have q3:=(HQ1.out.o).cell 3 _ rfl;have q4:=(HQ1.out.o).cell 4 _ rfl;have q5:=(HQ1.out.o).cell 5 _ rfl;have q6:=(HQ1.out.o).cell 6 _ rfl;have q7:=(HQ1.out.o).cell 7 _ rfl
    have a0:=(HQ1.out.z).cell 0 _ rfl;have a1:=(HQ1.out.z).cell 1 _ rfl;have a2:=(HQ1.out.z).cell 2 _ rfl;have a3:=(HQ1.out.z).cell 3 _ rfl;have a4:=(HQ1.out.z).cell 4 _ rfl;have a5:=(HQ1.out.z).cell 5 _ rfl;have a6:=(HQ1.out.z).cell 6 _ rfl;have a7:=(HQ1.out.z).cell 7 _ rfl;have g0:=(HQ1.out.z).free 0;have g1:=(HQ1.out.z).free 1;have g2:=(HQ1.out.z).free 2;have g3:=(HQ1.out.z).free 3;have g4:=(HQ1.out.z).free 4;have g5:=(HQ1.out.z).free 5;have g6:=(HQ1.out.z).free 6;have g7:=(HQ1.out.z).free 7;have s6:=(HQ1.out.z).lt
    clear h1 hb1 hcw hR hx
    by_cases h7 : r < 7
    ·rw [HRR.out,if_pos h7] at HRK
     obtain ⟨n,hn⟩ : ∃ n,n = wordsK r:=⟨_,rfl⟩
     rw [← hn] at HRK HNO HGO
     have lt0 : decide (((r : Nat) : Int) < 0) = false:=decide_eq_false (by omega)
     by_cases hlast : ((r : Nat) : Int) < last
     ·have HS2:=Lib.hid (HNO.out (fun h=>by
       have h2:=h.2.1
       unfold ordB at h2
       split at h2
       ·cases h2
       ·split at h2
        ·cases h2
        ·have:=of_decide_eq_true h2;omega))
      have l1 : decide (((r : Nat) : Int) < last) = true:=decide_eq_true hlast
      clear hlast
      (go_wp2_with (go_at_call 98;refine ((HRK _).out).mono ?_;rintro e w2 ⟨rfl,rfl⟩);(refine bodyPost_ret (v:=.tuple #[(.agg #[.int .i64 c.cats,.slice c.g.a c.g.l.length c.g.cap,.slice c.r.a c.r.l.length c.r.cap,.slice c.p.a c.p.l.length c.p.cap,.slice c.n.a c.n.l.length c.n.cap,.slice c.s.a c.s.l.length c.s.cap,.int .i64 c.gate,.int .i64 c.quota]),.int .i64 ((k : Int) + 1)]) (by simp [results,Tryz.results58,go_sem,a0,a1,a2,a3,a4,a5,a6,a7,s6]) rfl ?_);exact HS2.out _ (HQ1.out.ro.upd HQ1.out.z n1 (upd_put (k:=7) (v:=.int .i64 c.quota) (upd_put (k:=6) (v:=.int .i64 c.gate) (upd_put (k:=5) (v:=.slice c.s.a c.s.l.length c.s.cap) (upd_put (k:=4) (v:=.slice c.n.a c.n.l.length c.n.cap) (upd_put (k:=3) (v:=.slice c.p.a c.p.l.length c.p.cap) (upd_put (k:=2) (v:=.slice c.r.a c.r.l.length c.r.cap) (upd_put (k:=1) (v:=.slice c.g.a c.g.l.length c.g.cap) (upd_put (k:=0) (v:=.int .i64 c.cats) (Upd.refl b1 w1)))))))))).bel)
     ·have l1 : decide (((r : Nat) : Int) < last) = false:=decide_eq_false hlast
      obtain ⟨p0,hp0⟩ : ∃ p,p = decide (r = 0):=⟨_,rfl⟩
      obtain ⟨qq,hqq⟩ : ∃ p,p = decide (k = 0):=⟨_,rfl⟩
      have e0 : (((r : Nat) : Int) == 0) = p0:=by rw [hp0,Bool.eq_iff_iff];simp
      have i0 : ((k : Int) == 0) = qq:=by rw [hqq,Bool.eq_iff_iff];simp
      have HOK : Hid (p0 = qq → ¬ (r = 6 ∧ last = 6) → ordB r (decide (k = 0)) last = true):=fun h1 h2=>by
       unfold ordB
       rw [← hp0,← hqq,if_neg (by rw [h1];simp),if_neg h2]
       exact decide_eq_true (by omega)
      have HMM : Hid (p0 ≠ qq → ¬ (r < 7 ∧ ordB r (decide (k = 0)) last = true ∧ ws.length = n)):=fun h1 h2=>by
       have h3:=h2.2.1
       unfold ordB at h3
       rw [← hp0,← hqq,if_pos (by rw [bne_iff_ne];exact fun e=>h1 e.symm)] at h3
       cases h3
      have H66 : Hid (r = 6 → last = 6 → ¬ (r < 7 ∧ ordB r (decide (k = 0)) last = true ∧ ws.length = n)):=fun h1 h4 h2=>by
       have h3:=h2.2.1
       unfold ordB at h3
       split at h3
       ·cases h3
       ·rw [if_pos ⟨h1,h4⟩] at h3;cases h3
      clear hp0 hqq hlast
      cases p0 <;> cases qq
      case true.false=>
       have HS2:=Lib.hid (HNO.out (HMM.out (by simp)))
       (go_wp2_with (go_at_call 98;refine ((HRK _).out).mono ?_;rintro e w2 ⟨rfl,rfl⟩);(refine bodyPost_ret (v:=.tuple #[(.agg #[.int .i64 c.cats,.slice c.g.a c.g.l.length c.g.cap,.slice c.r.a c.r.l.length c.r.cap,.slice c.p.a c.p.l.length c.p.cap,.slice c.n.a c.n.l.length c.n.cap,.slice c.s.a c.s.l.length c.s.cap,.int .i64 c.gate,.int .i64 c.quota]),.int .i64 ((k : Int) + 1)]) (by simp [results,Tryz.results58,go_sem,a0,a1,a2,a3,a4,a5,a6,a7,s6]) rfl ?_);exact HS2.out _ (HQ1.out.ro.upd HQ1.out.z n1 (upd_put (k:=7) (v:=.int .i64 c.quota) (upd_put (k:=6) (v:=.int .i64 c.gate) (upd_put (k:=5) (v:=.slice c.s.a c.s.l.length c.s.cap) (upd_put (k:=4) (v:=.slice c.n.a c.n.l.length c.n.cap) (upd_put (k:=3) (v:=.slice c.p.a c.p.l.length c.p.cap) (upd_put (k:=2) (v:=.slice c.r.a c.r.l.length c.r.cap) (upd_put (k:=1) (v:=.slice c.g.a c.g.l.length c.g.cap) (upd_put (k:=0) (v:=.int .i64 c.cats) (Upd.refl b1 w1)))))))))).bel)
      case false.true=>
       have HS2:=Lib.hid (HNO.out (HMM.out (by simp)))
       (go_wp2_with (go_at_call 98;refine ((HRK _).out).mono ?_;rintro e w2 ⟨rfl,rfl⟩);(refine bodyPost_ret (v:=.tuple #[(.agg #[.int .i64 c.cats,.slice c.g.a c.g.l.length c.g.cap,.slice c.r.a c.r.l.length c.r.cap,.slice c.p.a c.p.l.length c.p.cap,.slice c.n.a c.n.l.length c.n.cap,.slice c.s.a c.s.l.length c.s.cap,.int .i64 c.gate,.int .i64 c.quota]),.int .i64 ((k : Int) + 1)]) (by simp [results,Tryz.results58,go_sem,a0,a1,a2,a3,a4,a5,a6,a7,s6]) rfl ?_);exact HS2.out _ (HQ1.out.ro.upd HQ1.out.z n1 (upd_put (k:=7) (v:=.int .i64 c.quota) (upd_put (k:=6) (v:=.int .i64 c.gate) (upd_put (k:=5) (v:=.slice c.s.a c.s.l.length c.s.cap) (upd_put (k:=4) (v:=.slice c.n.a c.n.l.length c.n.cap) (upd_put (k:=3) (v:=.slice c.p.a c.p.l.length c.p.cap) (upd_put (k:=2) (v:=.slice c.r.a c.r.l.length c.r.cap) (upd_put (k:=1) (v:=.slice c.g.a c.g.l.length c.g.cap) (upd_put (k:=0) (v:=.int .i64 c.cats) (Upd.refl b1 w1)))))))))).bel)
      all_goals
       by_cases h66 : r = 6 ∧ last = 6
       ·have HS2:=Lib.hid (HNO.out (H66.out h66.1 h66.2))
        have s6r : (((r : Nat) : Int) == 6) = true:=by simp [h66.1]
        have l6 : (last == 6) = true:=by simp [h66.2]
        clear h66
        (go_wp2_with (go_at_call 98;refine ((HRK _).out).mono ?_;rintro e w2 ⟨rfl,rfl⟩);(refine bodyPost_ret (v:=.tuple #[(.agg #[.int .i64 c.cats,.slice c.g.a c.g.l.length c.g.cap,.slice c.r.a c.r.l.length c.r.cap,.slice c.p.a c.p.l.length c.p.cap,.slice c.n.a c.n.l.length c.n.cap,.slice c.s.a c.s.l.length c.s.cap,.int .i64 c.gate,.int .i64 c.quota]),.int .i64 ((k : Int) + 1)]) (by simp [results,Tryz.results58,go_sem,a0,a1,a2,a3,a4,a5,a6,a7,s6]) rfl ?_);exact HS2.out _ (HQ1.out.ro.upd HQ1.out.z n1 (upd_put (k:=7) (v:=.int .i64 c.quota) (upd_put (k:=6) (v:=.int .i64 c.gate) (upd_put (k:=5) (v:=.slice c.s.a c.s.l.length c.s.cap) (upd_put (k:=4) (v:=.slice c.n.a c.n.l.length c.n.cap) (upd_put (k:=3) (v:=.slice c.p.a c.p.l.length c.p.cap) (upd_put (k:=2) (v:=.slice c.r.a c.r.l.length c.r.cap) (upd_put (k:=1) (v:=.slice c.g.a c.g.l.length c.g.cap) (upd_put (k:=0) (v:=.int .i64 c.cats) (Upd.refl b1 w1)))))))))).bel)
       ·have HOR:=Lib.hid (HOK.out rfl h66)
        obtain ⟨t6,ht6⟩ : ∃ t,(last == 6) = t:=⟨_,rfl⟩
        obtain ⟨r6,hr6⟩ : ∃ t,(((r : Nat) : Int) == 6) = t:=⟨_,rfl⟩
        have hno6 : (r6 && t6) = false:=by
         rw [← hr6,← ht6,Bool.and_eq_false_iff]
         by_cases h : r = 6
         ·exact Or.inr (by rw [beq_eq_false_iff_ne];exact fun e=>h66 ⟨h,e⟩)
         ·exact Or.inl (by rw [beq_eq_false_iff_ne];omega)
        clear h66
        by_cases hlen : ws.length = n
        ·have nl : (((ws.length : Nat) : Int) != ((n : Nat) : Int)) = false:=by rw [hlen];simp
         have HTK:=Lib.hid (rtake_any w c r h7 ws (by rw [hlen,hn]) HWS.out (some ⟨gw,ow,none⟩) cw w1 HQ1.out.ro HRW.out (HQ1.out.few (by omega)))
         have HLV:=Lib.hid (HGO.out h7 HOR.out hlen)
         have HS3 : Hid (rowV r ws = none → ∀ w',Below w.heap.size w w' → RlPost L w (.returned (.tuple #[(.agg #[.int .i64 c.cats,.slice c.g.a c.g.l.length c.g.cap,.slice c.r.a c.r.l.length c.r.cap,.slice c.p.a c.p.l.length c.p.cap,.slice c.n.a c.n.l.length c.n.cap,.slice c.s.a c.s.l.length c.s.cap,.int .i64 c.gate,.int .i64 c.quota]),.int .i64 ((k : Int) + 1)])) w'):=fun h0=>HST.out (by rw [HLV.out,h0];rfl)
         have HS4 : Hid (∀ row c1,rowV r ws = some row → pcOf c1 = setV (pcOf c) r row → stP L (k + 1) = some (pcOf c1,((r : Nat) : Int)) ∧ LenP (k + 1) (pcOf c1)):=fun row c1 h0 h1=>by
          have e1 : lineV (pcOf c) last (decide (k = 0)) y = some (pcOf c1,((r : Nat) : Int)):=by rw [HLV.out,h0,h1];rfl
          exact ⟨by unfold stP;rw [HQ1.out.st];simp only [Option.bind_some];rw [hyD];exact e1,lineV_len HQ1.out.len e1⟩
         obtain ⟨R,hR⟩ : ∃ R,Hid (R = rowV r ws):=⟨_,Lib.hid rfl⟩
         obtain ⟨bb,hbb⟩ : ∃ b,Hid (b = R.isSome):=⟨_,Lib.hid rfl⟩
         have HTS : Hid (∀ e w',TkR w c w1 r ws e w' → ∃ c1 : Cv,e = .returned (.tuple #[(.agg #[.int .i64 c1.cats,.slice c1.g.a c1.g.l.length c1.g.cap,.slice c1.r.a c1.r.l.length c1.r.cap,.slice c1.p.a c1.p.l.length c1.p.cap,.slice c1.n.a c1.n.l.length c1.n.cap,.slice c1.s.a c1.s.l.length c1.s.cap,.int .i64 c1.gate,.int .i64 c1.quota]),.bool bb]) ∧ Below w.heap.size w w' ∧ Keep w1 w' ∧ ∀ row,R = some row → pcOf c1 = setV (pcOf c) r row ∧ RO w c1 w'):=fun e w' h=>by rw [hbb.out,hR.out];exact h
         clear hlen hn hyD
         cases r6 <;> cases t6
         case true.true=>cases hno6
         all_goals
          clear hno6
          go_wp2_with (go_at_call 98;refine ((HRK _).out).mono ?_;rintro e w2 ⟨rfl,rfl⟩)
          refine HTK.out.mono ?_;intro e W4 h4
          obtain ⟨c1,rfl,hb4,hk4,hr4⟩:=HTS.out _ _ h4
          obtain ⟨W5,hW5⟩ : ∃ W5,W5 = W4.alloc (.cells #[.int .i64 c1.cats,.slice c1.g.a c1.g.l.length c1.g.cap,.slice c1.r.a c1.r.l.length c1.r.cap,.slice c1.p.a c1.p.l.length c1.p.cap,.slice c1.n.a c1.n.l.length c1.n.cap,.slice c1.s.a c1.s.l.length c1.s.cap,.int .i64 c1.gate,.int .i64 c1.quota] 29):=⟨_,rfl⟩
          have hb45 : Below W4.heap.size W4 W5:=by rw [hW5];exact (Below.refl _ _).alloc (Nat.le_refl _) _
          have HX5 : ObjAt W5 W4.heap.size 29 (cfgL c1):=by rw [hW5];exact ObjAt.new W4 _ _
          have HZ5:=Lib.hid ((hk4 _ _ HQ1.out.z).below hb45)
          have HO5:=Lib.hid ((hk4 _ _ HQ1.out.o).below hb45)
          have HB5:=Lib.hid (bmore hb4 hb45)
          have HR5 : Hid (∀ row,R = some row → pcOf c1 = setV (pcOf c) r row ∧ RO w c1 W5):=fun row h=>⟨(hr4 row h).1,(hr4 row h).2.more hb45⟩
          have HW5:=Lib.hid hW5
          clear h4 hb4 hk4 hr4 hb45 hW5 q0 q1 q2 q3 q4 q5 q6 q7 a0 a1 a2 a3 a4 a5 a6 a7 g0 g1 g2 g3 g4 g5 g6 g7 s6
          go_upto_region 13 with fail
          rw [← HW5.out]
          generalize W4.heap.size = b3 at HX5 ⊢
          have x0:=HX5.cell 0 _ rfl
          have x1:=HX5.cell 1 _ rfl
          have x2:=HX5.cell 2 _ rfl
          have x3:=HX5.cell 3 _ rfl
          have x4:=HX5.cell 4 _ rfl
          have x5:=HX5.cell 5 _ rfl
          have x6:=HX5.cell 6 _ rfl
          have x7:=HX5.cell 7 _ rfl
          have q0:=(HO5.out).cell 0 _ rfl;have q1:=(HO5.out).cell 1 _ rfl;have q2:=(HO5.out).cell 2 _ rfl;have q3:=(HO5.out).cell 3 _ rfl;have q4:=(HO5.out).cell 4 _ rfl;have q5:=(HO5.out).cell 5 _ rfl;have q6:=(HO5.out).cell 6 _ rfl;have q7:=(HO5.out).cell 7 _ rfl
          cases bb
          ·have HN3:=Lib.hid (HS3.out (by rw [← hR.out];have:=hbb.out;cases R with | none=>rfl | some v=>cases this))
           have a0:=(HZ5.out).cell 0 _ rfl;have a1:=(HZ5.out).cell 1 _ rfl;have a2:=(HZ5.out).cell 2 _ rfl;have a3:=(HZ5.out).cell 3 _ rfl;have a4:=(HZ5.out).cell 4 _ rfl;have a5:=(HZ5.out).cell 5 _ rfl;have a6:=(HZ5.out).cell 6 _ rfl;have a7:=(HZ5.out).cell 7 _ rfl;have g0:=(HZ5.out).free 0;have g1:=(HZ5.out).free 1;have g2:=(HZ5.out).free 2;have g3:=(HZ5.out).free 3;have g4:=(HZ5.out).free 4;have g5:=(HZ5.out).free 5;have g6:=(HZ5.out).free 6;have g7:=(HZ5.out).free 7;have s6:=(HZ5.out).lt
           go_wp2_with fail
           (refine bodyPost_ret (v:=.tuple #[(.agg #[.int .i64 c.cats,.slice c.g.a c.g.l.length c.g.cap,.slice c.r.a c.r.l.length c.r.cap,.slice c.p.a c.p.l.length c.p.cap,.slice c.n.a c.n.l.length c.n.cap,.slice c.s.a c.s.l.length c.s.cap,.int .i64 c.gate,.int .i64 c.quota]),.int .i64 ((k : Int) + 1)]) (by simp [results,Tryz.results58,go_sem,a0,a1,a2,a3,a4,a5,a6,a7,s6]) rfl ?_)
           exact HN3.out _ (HB5.out.trans ((upd_put (k:=7) (v:=.int .i64 c.quota) (upd_put (k:=6) (v:=.int .i64 c.gate) (upd_put (k:=5) (v:=.slice c.s.a c.s.l.length c.s.cap) (upd_put (k:=4) (v:=.slice c.n.a c.n.l.length c.n.cap) (upd_put (k:=3) (v:=.slice c.p.a c.p.l.length c.p.cap) (upd_put (k:=2) (v:=.slice c.r.a c.r.l.length c.r.cap) (upd_put (k:=1) (v:=.slice c.g.a c.g.l.length c.g.cap) (upd_put (k:=0) (v:=.int .i64 c.cats) (Upd.refl b1 W5))))))))).below n1 HB5.out.size))
          ·obtain ⟨row,hrow⟩ : ∃ row,R = some row:=by
            have:=hbb.out
            cases R with
            | none=>cases this
            | some v=>exact ⟨v,rfl⟩
           have HU5:=(upd_put (k:=7) (v:=.int .i64 c1.quota) (upd_put (k:=6) (v:=.int .i64 c1.gate) (upd_put (k:=5) (v:=.slice c1.s.a c1.s.l.length c1.s.cap) (upd_put (k:=4) (v:=.slice c1.n.a c1.n.l.length c1.n.cap) (upd_put (k:=3) (v:=.slice c1.p.a c1.p.l.length c1.p.cap) (upd_put (k:=2) (v:=.slice c1.r.a c1.r.l.length c1.r.cap) (upd_put (k:=1) (v:=.slice c1.g.a c1.g.l.length c1.g.cap) (upd_put (k:=0) (v:=.int .i64 c1.cats) (Upd.refl b2 W5)))))))))
           have HQ2 : Hid (RL L w b1 b2 (k + 1) c1 ((r : Nat) : Int) ((((((((W5.setCell ⟨b2,0,none⟩ (.int .i64 c1.cats)).setCell ⟨b2,1,none⟩ (.slice c1.g.a c1.g.l.length c1.g.cap)).setCell ⟨b2,2,none⟩ (.slice c1.r.a c1.r.l.length c1.r.cap)).setCell ⟨b2,3,none⟩ (.slice c1.p.a c1.p.l.length c1.p.cap)).setCell ⟨b2,4,none⟩ (.slice c1.n.a c1.n.l.length c1.n.cap)).setCell ⟨b2,5,none⟩ (.slice c1.s.a c1.s.l.length c1.s.cap)).setCell ⟨b2,6,none⟩ (.int .i64 c1.gate)).setCell ⟨b2,7,none⟩ (.int .i64 c1.quota))):=⟨(HS4.out row c1 (by rw [← hR.out];exact hrow) (HR5.out row hrow).1).1,(HS4.out row c1 (by rw [← hR.out];exact hrow) (HR5.out row hrow).1).2,(HR5.out row hrow).2.upd HO5.out n2 HU5,HZ5.out.upd HU5 n12,((((((((HO5.out.set 0 (.int .i64 c1.cats)).set 1 (.slice c1.g.a c1.g.l.length c1.g.cap)).set 2 (.slice c1.r.a c1.r.l.length c1.r.cap)).set 3 (.slice c1.p.a c1.p.l.length c1.p.cap)).set 4 (.slice c1.n.a c1.n.l.length c1.n.cap)).set 5 (.slice c1.s.a c1.s.l.length c1.s.cap)).set 6 (.int .i64 c1.gate)).set 7 (.int .i64 c1.quota))⟩
           have f0:=HO5.out.free 0
           have f1:=HO5.out.free 1
           have f2:=HO5.out.free 2
           have f3:=HO5.out.free 3
           have f4:=HO5.out.free 4
           have f5:=HO5.out.free 5
           have f6:=HO5.out.free 6
           have f7:=HO5.out.free 7
           clear HU5 hrow
           go_wp2_with fail
           go_roundw
           case rel=>exact ⟨k + 1,c1,((r : Nat) : Int),by omega,by go_num,rfl,HQ2.out⟩
           case measure=>simp [intOf];omega
        ·have nl : (((ws.length : Nat) : Int) != ((n : Nat) : Int)) = true:=by rw [bne_iff_ne];omega
         have HS2:=Lib.hid (HNO.out (fun h=>hlen h.2.2))
         clear hlen
         cases r6 <;> cases t6
         case true.true=>cases hno6
         all_goals
          clear hno6
          (go_wp2_with (go_at_call 98;refine ((HRK _).out).mono ?_;rintro e w2 ⟨rfl,rfl⟩);all_goals ((refine bodyPost_ret (v:=.tuple #[(.agg #[.int .i64 c.cats,.slice c.g.a c.g.l.length c.g.cap,.slice c.r.a c.r.l.length c.r.cap,.slice c.p.a c.p.l.length c.p.cap,.slice c.n.a c.n.l.length c.n.cap,.slice c.s.a c.s.l.length c.s.cap,.int .i64 c.gate,.int .i64 c.quota]),.int .i64 ((k : Int) + 1)]) (by simp [results,Tryz.results58,go_sem,a0,a1,a2,a3,a4,a5,a6,a7,s6]) rfl ?_);exact HS2.out _ (HQ1.out.ro.upd HQ1.out.z n1 (upd_put (k:=7) (v:=.int .i64 c.quota) (upd_put (k:=6) (v:=.int .i64 c.gate) (upd_put (k:=5) (v:=.slice c.s.a c.s.l.length c.s.cap) (upd_put (k:=4) (v:=.slice c.n.a c.n.l.length c.n.cap) (upd_put (k:=3) (v:=.slice c.p.a c.p.l.length c.p.cap) (upd_put (k:=2) (v:=.slice c.r.a c.r.l.length c.r.cap) (upd_put (k:=1) (v:=.slice c.g.a c.g.l.length c.g.cap) (upd_put (k:=0) (v:=.int .i64 c.cats) (Upd.refl b1 w1)))))))))).bel))
    ·rw [HRR.out,if_neg h7] at HRK
     have HS2:=Lib.hid (HNO.out (fun h=>h7 h.1))
     clear h7
     (go_wp2_with (go_at_call 98;refine ((HRK _).out).mono ?_;rintro e w2 ⟨rfl,rfl⟩);(refine bodyPost_ret (v:=.tuple #[(.agg #[.int .i64 c.cats,.slice c.g.a c.g.l.length c.g.cap,.slice c.r.a c.r.l.length c.r.cap,.slice c.p.a c.p.l.length c.p.cap,.slice c.n.a c.n.l.length c.n.cap,.slice c.s.a c.s.l.length c.s.cap,.int .i64 c.gate,.int .i64 c.quota]),.int .i64 ((k : Int) + 1)]) (by simp [results,Tryz.results58,go_sem,a0,a1,a2,a3,a4,a5,a6,a7,s6]) rfl ?_);exact HS2.out _ (HQ1.out.ro.upd HQ1.out.z n1 (upd_put (k:=7) (v:=.int .i64 c.quota) (upd_put (k:=6) (v:=.int .i64 c.gate) (upd_put (k:=5) (v:=.slice c.s.a c.s.l.length c.s.cap) (upd_put (k:=4) (v:=.slice c.n.a c.n.l.length c.n.cap) (upd_put (k:=3) (v:=.slice c.p.a c.p.l.length c.p.cap) (upd_put (k:=2) (v:=.slice c.r.a c.r.l.length c.r.cap) (upd_put (k:=1) (v:=.slice c.g.a c.g.l.length c.g.cap) (upd_put (k:=0) (v:=.int .i64 c.cats) (Upd.refl b1 w1)))))))))).bel)
  ·obtain rfl : k = L.length:=by omega
   have q0:=(HQ.out.o).cell 0 _ rfl;have q1:=(HQ.out.o).cell 1 _ rfl;have q2:=(HQ.out.o).cell 2 _ rfl;have q3:=(HQ.out.o).cell 3 _ rfl;have q4:=(HQ.out.o).cell 4 _ rfl;have q5:=(HQ.out.o).cell 5 _ rfl;have q6:=(HQ.out.o).cell 6 _ rfl;have q7:=(HQ.out.o).cell 7 _ rfl
   have a0:=(HQ.out.z).cell 0 _ rfl;have a1:=(HQ.out.z).cell 1 _ rfl;have a2:=(HQ.out.z).cell 2 _ rfl;have a3:=(HQ.out.z).cell 3 _ rfl;have a4:=(HQ.out.z).cell 4 _ rfl;have a5:=(HQ.out.z).cell 5 _ rfl;have a6:=(HQ.out.z).cell 6 _ rfl;have a7:=(HQ.out.z).cell 7 _ rfl;have g0:=(HQ.out.z).free 0;have g1:=(HQ.out.z).free 1;have g2:=(HQ.out.z).free 2;have g3:=(HQ.out.z).free 3;have g4:=(HQ.out.z).free 4;have g5:=(HQ.out.z).free 5;have g6:=(HQ.out.z).free 6;have g7:=(HQ.out.z).free 7;have s6:=(HQ.out.z).lt
   go_wp2_with fail
   (refine bodyPost_ret (v:=.tuple #[(.agg #[.int .i64 c.cats,.slice c.g.a c.g.l.length c.g.cap,.slice c.r.a c.r.l.length c.r.cap,.slice c.p.a c.p.l.length c.p.cap,.slice c.n.a c.n.l.length c.n.cap,.slice c.s.a c.s.l.length c.s.cap,.int .i64 c.gate,.int .i64 c.quota]),.int .i64 0]) (by simp [results,Tryz.results58,go_sem,a0,a1,a2,a3,a4,a5,a6,a7,s6]) rfl ?_)
   have HU7:=(upd_put (k:=7) (v:=.int .i64 c.quota) (upd_put (k:=6) (v:=.int .i64 c.gate) (upd_put (k:=5) (v:=.slice c.s.a c.s.l.length c.s.cap) (upd_put (k:=4) (v:=.slice c.n.a c.n.l.length c.n.cap) (upd_put (k:=3) (v:=.slice c.p.a c.p.l.length c.p.cap) (upd_put (k:=2) (v:=.slice c.r.a c.r.l.length c.r.cap) (upd_put (k:=1) (v:=.slice c.g.a c.g.l.length c.g.cap) (upd_put (k:=0) (v:=.int .i64 c.cats) (Upd.refl b1 wr)))))))))
   exact ⟨c,0,rfl,(HQ.out.ro.upd HQ.out.z n1 HU7).bel,Or.inl ⟨rfl,⟨last,HQ.out.st⟩,HQ.out.ro.upd HQ.out.z n1 HU7⟩⟩
end Go.Proofs.YtoklonmiejdgmaaGreatDoor
/- The reference of plan: Parse, plain laws. -/
namespace Go.Proofs.YtoklonmiejdgmaaGreatDoor
set_option linter.unusedVariables false
set_option linter.unusedSimpArgs false
set_option linter.unnecessarySimpa false
open Go.RowKit Go.Sort
set_option maxHeartbeats 2000000
set_option maxRecDepth 100000
set_option linter.unusedVariables false
theorem fieldsC_mid (c : UInt8) : ∀ a b : List UInt8,fieldsC c (a ++ c :: b) = fieldsC c a ++ fieldsC c b
 | [],b=>by
  rw [List.nil_append]
  exact fieldsC_app c [] b (by simp)
 | x :: t,b=>by
  have ih:=fieldsC_mid c t b
  by_cases h : x = c
  ·rw [List.cons_append,fieldsC,if_pos h,ih,fieldsC,if_pos h];rfl
  ·obtain ⟨y,r,h1,h2⟩:=fieldsC_cons h t
   obtain ⟨y',r',h1',h2'⟩:=fieldsC_cons h (t ++ c :: b)
   rw [List.cons_append,h2',h2]
   rw [h1,h1',List.cons_append] at ih
   injection ih with ih1 ih2
   rw [ih1,ih2];rfl
/-- A text whose last line has no end: the part ahead of that line. -/
theorem cut_lines {s t u : List UInt8} (h : s = t ++ u) (ht : t = [] ∨ t.getLast? = some 10) (hu : ∀ b ∈ u,b ≠ 10) : (fieldsC 10 s).dropLast = lsL t ∧ lsB t = true ∧ (fieldsC 10 s).getLast? = some u:=by
 rcases ht with rfl | ht
 ·rw [List.nil_append] at h
  subst h
  rw [fieldsC_free 10 s hu]
  exact ⟨rfl,rfl,rfl⟩
 ·obtain ⟨t',rfl⟩:=List.getLast?_eq_some_iff.1 ht
  have e1 : fieldsC 10 s = fieldsC 10 t' ++ [u]:=by
   rw [h,List.append_assoc,List.singleton_append,fieldsC_mid,fieldsC_free 10 u hu]
  have e2 : fieldsC 10 (t' ++ [10]) = fieldsC 10 t' ++ [[]]:=fieldsC_sep 10 t'
  refine ⟨?_,?_,?_⟩
  ·rw [e1,lsL,e2,List.dropLast_concat,List.dropLast_concat]
  ·rw [lsB,e2];simp
  ·rw [e1];simp
end Go.Proofs.YtoklonmiejdgmaaGreatDoor
/- Package hermitageref03 (for disk): New, Who, Give. Lines of XPartsV, XPartsRef and XPartsRef3. -/
namespace Go.Proofs.YtoklonmiejdgmaaGreatDoor
set_option linter.unusedVariables false
set_option linter.unusedSimpArgs false
set_option linter.unnecessarySimpa false
open Go.RowKit Go.Sort
set_option maxHeartbeats 400000
set_option maxRecDepth 100000
/-- Whose a place is; nobody: -1. -/
theorem info_int : (Tryz.prog.info? 3).map (fun i=>(i.zero,i.size,i.bytes)) = some (some (.int .i64 0),1,8):=by kernel_rfl
def ownV (R : List Rn) (i : Nat) : Int:=match R.find? (hits i) with
 | some r=>r.2.2
 | none=>-1
theorem hits_nat (i : Nat) (r : Rn) : hits i r = (decide (r.1 ≤ i) && decide (i < r.1 + r.2.1)):=by
 unfold hits
 congr 1
 ·exact decide_eq_decide.2 (by omega)
 ·exact decide_eq_decide.2 (by omega)
theorem ownV_off {R : List Rn} {i : Nat} (h : ∀ r ∈ R,¬ (r.1 ≤ i ∧ i < r.1 + r.2.1)) : ownV R i = -1:=by
 have : R.find? (hits i) = none:=by
  rw [List.find?_eq_none]
  intro r hr
  have:=h r hr
  rw [hits_nat]
  simpa using fun h1=>by omega
 rw [ownV,this]
theorem ownV_app {R S : List Rn} {i : Nat} (h : ∀ r ∈ R,¬ (r.1 ≤ i ∧ i < r.1 + r.2.1)) : ownV (R ++ S) i = ownV S i:=by
 have : R.find? (hits i) = none:=by
  rw [List.find?_eq_none]
  intro r hr
  have:=h r hr
  rw [hits_nat]
  simpa using fun h1=>by omega
 unfold ownV
 rw [List.find?_append,this,Option.none_or]
theorem ownV_app0 {R S : List Rn} {i : Nat} (h : ∀ r ∈ S,¬ (r.1 ≤ i ∧ i < r.1 + r.2.1)) : ownV (R ++ S) i = ownV R i:=by
 have : S.find? (hits i) = none:=by
  rw [List.find?_eq_none]
  intro r hr
  have:=h r hr
  rw [hits_nat]
  simpa using fun h1=>by omega
 unfold ownV
 rw [List.find?_append,this,Option.or_none]
theorem ownV_cons (r : Rn) (R : List Rn) (i : Nat) : ownV (r :: R) i = if r.1 ≤ i ∧ i < r.1 + r.2.1 then (r.2.2 : Int) else ownV R i:=by
 unfold ownV
 rw [List.find?_cons,hits_nat]
 by_cases h : r.1 ≤ i ∧ i < r.1 + r.2.1
 ·rw [if_pos h];simp [h.1,h.2]
 ·rw [if_neg h]
  have : (decide (r.1 ≤ i) && decide (i < r.1 + r.2.1)) = false:=by simpa using fun h1=>by omega
  rw [this]
/-- What Give leaves. -/
theorem ownV_add {n : Nat} {R : List Rn} (hok : Okr n R) {f m who : Nat} (hm : 1 ≤ m) (hh : (meetV f m R).2 = false) (i : Nat) : ownV (addR R f m who) i = if f ≤ i ∧ i < f + m then (who : Int) else ownV R i:=by
 obtain ⟨h1,h2⟩:=meet_parts f m R hok.sorted (fun r hr=>(hok.each r hr).1) hh
 have hR : ownV R i = ownV (R.take (meetV f m R).1 ++ R.drop (meetV f m R).1) i:=by rw [List.take_append_drop]
 rw [hR]
 unfold addR
 by_cases hi : f ≤ i
 ·rw [ownV_app (fun r hr=>by have:=h1 r hr;omega),ownV_cons,ownV_app (fun r hr=>by have:=h1 r hr;omega)]
 ·rw [if_neg (by omega),ownV_app0 (S:=(f,m,who) :: _) (fun r hr=>by
   rcases List.mem_cons.1 hr with rfl | hr
   ·dsimp only;omega
   ·have:=h2 r hr;omega),ownV_app0 (fun r hr=>by have:=h2 r hr;omega)]
theorem meet_hit {n : Nat} {R : List Rn} (hok : Okr n R) {f m : Nat} (hm : 1 ≤ m) : (meetV f m R).2 = true ↔ ∃ i,f ≤ i ∧ i < f + m ∧ 0 ≤ ownV R i:=by
 constructor
 ·intro h
  have key : ∀ S : List Rn,(meetV f m S).2 = true → (∀ r ∈ S,1 ≤ r.2.1) → ∃ i,f ≤ i ∧ i < f + m ∧ 0 ≤ ownV S i:=by
   intro S
   induction S with
   | nil=>intro h;simp [meetV] at h
   | cons r S ih=>
    intro h hn
    unfold meetV at h
    by_cases e : r.1 + r.2.1 ≤ f
    ·rw [if_pos e] at h
     obtain ⟨i,a,b,c⟩:=ih h (fun s hs=>hn s (by simp [hs]))
     exact ⟨i,a,b,by rw [ownV_cons,if_neg (by omega)];exact c⟩
    ·rw [if_neg e] at h
     simp only [decide_eq_true_eq] at h
     have:=hn r (by simp)
     refine ⟨max f r.1,by omega,by omega,?_⟩
     rw [ownV_cons,if_pos ⟨by omega,by omega⟩]
     omega
  exact key R h (fun r hr=>(hok.each r hr).1)
 ·rintro ⟨i,h1,h2,h3⟩
  cases hh : (meetV f m R).2
  ·obtain ⟨a,b⟩:=meet_parts f m R hok.sorted (fun r hr=>(hok.each r hr).1) hh
   have : ownV R i = -1:=ownV_off (fun r hr=>by
    rw [← List.take_append_drop (meetV f m R).1 R,List.mem_append] at hr
    rcases hr with hr | hr
    ·have:=a r hr;omega
    ·have:=b r hr;omega)
   omega
  ·rfl
def fC (f : Nat → Int) (n : Nat) : List Value:=(List.range n).map (fun i=>Value.int .i64 (f i))
theorem fC_len (f : Nat → Int) (n : Nat) : (fC f n).length = n:=by simp [fC]
theorem fC_get (f : Nat → Int) {n i : Nat} (h : i < n) : (fC f n)[i]? = some (.int .i64 (f i)):=by simp [fC,h]
theorem fC_succ (f : Nat → Int) (n : Nat) : fC f (n + 1) = fC f n ++ [.int .i64 (f n)]:=by simp [fC,List.range_succ]
theorem fC_congr {f g : Nat → Int} {n : Nat} (h : ∀ i,i < n → f i = g i) : fC f n = fC g n:=by
 refine List.map_congr_left (fun i hi=>?_)
 rw [h i (by simpa using hi)]
theorem fC_set (f : Nat → Int) (n j : Nat) (v : Int) : (fC f n).set j (.int .i64 v) = fC (fun i=>if i = j then v else f i) n:=by
 apply List.ext_getElem?
 intro i
 rw [List.getElem?_set]
 by_cases hi : i < n
 ·rw [fC_get (fun i=>if i = j then v else f i) hi]
  by_cases e : j = i
  ·subst e;simp [fC_len,hi]
  ·rw [if_neg e,fC_get _ hi,if_neg (Ne.symm e)]
 ·have h1 : (fC f n)[i]? = none:=by simp [fC];omega
  have h2 : (fC (fun i=>if i = j then v else f i) n)[i]? = none:=by simp [fC];omega
  rw [h2]
  by_cases e : j = i
  ·subst e;simp [fC_len,hi]
  ·rw [if_neg e,h1]
theorem fC_one (f : Nat → Int) (n : Nat) : ∀ u ∈ fC f n,u.oneCell' = true:=by
 intro u hu
 obtain ⟨i,_,rfl⟩:=List.mem_map.1 hu
 rfl
/-- The reference's table: whose each place is. -/
structure RT (w : World) (B rr : Nat) (a : Option Addr) (c : Nat) (f : Nat → Int) (n : Nat) : Prop where
 obj : ObjAt w rr 231 [.slice a n c]
 own : Own w B 3 1 a n c (fC f n)
namespace RT
variable {w w' : World} {B rr c n : Nat} {a : Option Addr} {f : Nat → Int}
theorem below (h : RT w B rr a c f n) (hb : Below w.heap.size w w') : RT w' B rr a c f n:=⟨h.obj.below hb,h.own.below hb⟩
theorem mono {B' : Nat} (h : RT w B rr a c f n) (hB : B' ≤ B) : RT w B' rr a c f n:=⟨h.obj,h.own.mono hB⟩
theorem mod {S : List Nat} (h : RT w B rr a c f n) (hm : Mod S w w') (h1 : rr ∉ S) (h2 : ∀ k ∈ blk a,k ∉ S) : RT w' B rr a c f n:=⟨h.obj.mod hm h1,h.own.mod hm h2⟩
theorem at_ (h : RT w B rr a c f n) (i : Nat) (hi : i < n) : ∃ g,a = some ⟨g,0,none⟩ ∧ w.cell? ⟨g,i,none⟩ = some (.int .i64 (f i)):=by
 obtain ⟨g,rfl,_,_⟩:=h.own.at_ (by omega)
 exact ⟨g,rfl,h.own.cell i _ (fC_get f hi)⟩
end RT
set_option maxHeartbeats 1600000 in
theorem rnew_yes (N : Nat) (hN : N ≤ 64) (w : World) : Calls Tryz.prog 148 #[.int .i64 N] w fun e w'=>∃ a c,e = .returned (.tuple #[.pointer (some ⟨w.heap.size,0,none⟩),.int .i64 0]) ∧ RT w' w.heap.size w.heap.size a c (fun _=>-1) N ∧ Below w.heap.size w w':=by
 obtain ⟨i0,hi0,hz0,hz1,hz2⟩:=info_parts info_int
 have e1 : decide ((N : Int) < 0) = false:=by simp
 have e2 : decide ((64 : Int) < (N : Int)) = false:=by simp;omega
 have HR0 : Hid (RT (w.alloc (.cells #[.slice none 0 0] 231)) w.heap.size w.heap.size none 0 (fun _=>-1) 0):=⟨new_block w _ _ rfl,Own.nil _ _ _ _⟩
 go_enter Tryz.func148,Tryz.ntmps148
 go_wp2_with fail
 go_loopw [5] (fun i wr=>∃ (k : Nat) (a : Option Addr) (c : Nat),k ≤ N ∧ i = .int .i64 k ∧ RT wr w.heap.size w.heap.size a c (fun _=>-1) k ∧ Below w.heap.size w wr) (fun i _=>N - (intOf i).toNat)
 case atStart=>exact ⟨0,none,0,Nat.zero_le _,rfl,HR0.out,(Below.refl _ _).alloc (Nat.le_refl _) _⟩
 case round=>
  clear HR0
  obtain ⟨k,a,c,hk,rfl,hr,hb⟩:=hrel
  have HR:=Lib.hid hr;have HB:=Lib.hid hb
  have c0:=hr.obj.cell 0 _ rfl
  have hbz:=hb.size
  clear hr hb
  by_cases g : k < N
  ·have d : decide ((k : Int) < (N : Int)) = true:=by simp;omega
   go_wp2_with (at_builtin;(refine wpList_own rfl (.tmp 23) (.tmp 24) 171 rfl w.heap.size 3 i0 _ 1 8 Tryz.underlying171 hi0 hz0 hz1 hz2 rfl (by omega) a k c (fC (fun _=>-1) k) rfl ((HR.out.below ((Below.refl _ _).alloc (Nat.le_refl _) _)).own) wr.heap.size [.int .i64 (-1)] rfl (new_block _ _ _ rfl) rfl (by simp [Value.oneCell']) (by simp only [maxLen];omega) (by omega) (by simp;omega) ?_);intro g' c' w1 hown1 hmod1 _;have HM1 : Hid (Mod (blk a) wr w1):=((Mod.ofBelow ((Below.refl wr.heap.size wr).alloc (Nat.le_refl _) _)).trans hmod1);have HO1:=Lib.hid hown1;have ho1:=HR.out.obj.mod HM1.out (HR.out.own.ne HR.out.obj (by decide));have q0:=ho1.cell 0 _ rfl;have qf:=ho1.free 0;have HOB:=Lib.hid ho1;clear hown1 hmod1 ho1)
   have h1 : w.heap.size ∉ blk (some ⟨g',0,none⟩):=HO1.out.ne HOB.out (by decide)
   have hb2 : Below w.heap.size w (w1.setCell ⟨w.heap.size,0,none⟩ (.slice (some ⟨g',0,none⟩) (k + 1) c')):=HB.out.trans ((HM1.out.below (B:=w.heap.size) (fun j hj=>(HR.out.own.ge j hj).1) hbz).setCell (p:=⟨w.heap.size,0,none⟩) (Nat.le_refl _) _)
   have hr2 : RT (w1.setCell ⟨w.heap.size,0,none⟩ (.slice (some ⟨g',0,none⟩) (k + 1) c')) w.heap.size w.heap.size (some ⟨g',0,none⟩) c' (fun _=>-1) (k + 1):=⟨HOB.out.set 0 _,by rw [fC_succ];exact HO1.out.upd (Upd.setCell w1 ⟨w.heap.size,0,none⟩ _) h1⟩
   go_roundw
   case rel=>exact ⟨k + 1,_,c',by omega,by go_num,hr2,hb2⟩
   case measure=>simp [intOf];omega
  ·obtain rfl : k = N:=by omega
   have d : decide ((k : Int) < (k : Int)) = false:=by simp
   go_wp2_with fail
   go_ret2
   exact ⟨a,c,rfl,HR.out,HB.out⟩
def RPost (B rr N : Nat) (a : Option Addr) (r : Value) (f : Nat → Int) (w : World) (e : Ending) (w' : World) : Prop:=
 ∃ a' c',e = .returned r ∧ RT w' B rr a' c' f N ∧ Mod (rr :: blk a) w w' ∧ ∀ k ∈ blk a',k ∈ blk a ∨ w.heap.size ≤ k
set_option maxHeartbeats 3200000 in
theorem rgive_any (B rr c N : Nat) (a : Option Addr) (R : List Rn) (x y z : Int) (w : World) (hok : Okr N R) (h : RT w B rr a c (ownV R) N) (hB : B ≤ w.heap.size) : Calls Tryz.prog 149 #[.pointer (some ⟨rr,0,none⟩),.int .i64 x,.int .i64 y,.int .i64 z] w (RPost B rr N a (.int .i64 (giveV N R x y z).1) (ownV (giveV N R x y z).2) w):=by
 obtain ⟨i0,hi0,hz0,hz1,hz2⟩:=info_parts info_int
 have c0:=h.obj.cell 0 _ rfl
 have H:=Lib.hid h
 have hn64:=hok.n64
 have hrr:=h.obj.lt
 have HE : Hid (∀ r,RPost B rr N a r (ownV R) w (.returned r) w):=fun r=>⟨a,c,rfl,H.out,Mod.refl _ _,fun k hk=>.inl hk⟩
 by_cases hw : wellG N x y z = true
 ·obtain ⟨w1,w2,w3,w4,w5,w6⟩:=(wellG_iff _ _ _ _).1 hw
  obtain ⟨F,rfl⟩:=Int.eq_ofNat_of_zero_le w1
  obtain ⟨M,rfl⟩:=Int.eq_ofNat_of_zero_le (show 0 ≤ y by omega)
  obtain ⟨V,rfl⟩:=Int.eq_ofNat_of_zero_le w5
  have HG : Hid (giveV N R F M V = if (meetV F M R).2 then (5,R) else (0,addR R F M V)):=by rw [Hid,giveV,if_pos hw];rfl
  have hM1 : 1 ≤ M:=by omega
  have hFM : F + M ≤ N:=by omega
  have e1 : decide ((F : Int) < 0) = false:=by simp
  have e2 : decide ((M : Int) < 1) = false:=by simp;omega
  have e3 : decide ((N : Int) < (F : Int)) = false:=by simp;omega
  have e3' : decide (N < F) = false:=by simp;omega
  have e4 : decide ((N : Int) - F < (M : Int)) = false:=by simp;omega
  have e5 : decide ((V : Int) < 0) = false:=by simp
  have e6 : decide ((64 : Int) ≤ (V : Int)) = false:=by simp;omega
  have hwr : IntKind.i64.wrap ((N : Int) - F) = (N : Int) - F:=IntWalk.i64_in _ (by omega)
  clear w1 w2 w3 w4 w5 w6 hw h
  cases hh : (meetV F M R).2
  ·have HGV : Hid (giveV N R F M V = (0,addR R F M V)):=by rw [Hid,HG.out,hh];rfl
   have HNO : Hid (∀ j,j < M → ownV R (F + j) < 0):=fun j hj=>by
    by_cases h1 : 0 ≤ ownV R (F + j)
    ·have:=(meet_hit (f:=F) hok hM1).2 ⟨F + j,by omega,by omega,h1⟩
     rw [hh] at this
     cases this
    ·omega
   have HAD:=Lib.hid (fun i=>ownV_add (who:=V) hok hM1 hh i)
   have HL : Hid ((fC (ownV R) N).length = N * 1):=by rw [Hid,fC_len,Nat.mul_one]
   have HEM:=Lib.hid (own_empty w 3 1)
   clear hh HG HE
   go_enter Tryz.func149,Tryz.ntmps149
   go_wp2_with fail
   go_loopw [9] (fun i wr=>∃ k : Nat,k ≤ M ∧ i = .int .i64 k ∧ w = wr) (fun i _=>M - (intOf i).toNat)
   case atStart=>exact ⟨0,Nat.zero_le _,rfl,rfl⟩
   case round=>
    obtain ⟨k,hk,rfl,rfl⟩:=hrel
    by_cases g : k < M
    ·have d : decide ((k : Int) < (M : Int)) = true:=by simp;omega
     obtain ⟨g',rfl,k0⟩:=H.out.at_ (F + k) (by omega)
     have hb0 : (0 : Int) ≤ (F : Int) + k:=by omega
     have hb1 : (F : Int) + k < (N : Int):=by omega
     have hws : IntKind.i64.wrap ((F : Int) + k) = (F : Int) + k:=IntWalk.i64_in _ (by omega)
     have hlo:=HNO.out k g
     have d2 : decide (0 ≤ ownV R (F + k)) = false:=by simp;omega
     generalize ownV R (F + k) = u at k0 d2
     clear hlo
     go_wp2_with fail
     go_roundw
     case rel=>exact ⟨k + 1,by omega,by go_num,by first | rfl | trivial⟩
     case measure=>simp [intOf];omega
    ·obtain rfl : k = M:=by omega
     have d : decide ((k : Int) < (k : Int)) = false:=by simp
     obtain ⟨g',rfl,_,hg'⟩:=H.out.own.at_ (by omega)
     have HN2 : Hid (∀ W,Below w.heap.size w W → ∀ j u,(fC (ownV R) N)[j]? = some u → W.cell? ((⟨g',0,none⟩ : Addr).add j) = some u):=fun W hW j u hu=>by
      have e : (⟨g',0,none⟩ : Addr).add j = ⟨g',j,none⟩:=by unfold Addr.add;split <;> simp_all
      rw [e];exact (hW.cell (p:=⟨g',j,none⟩) hg').trans (H.out.own.cell j u hu)
     go_wp2_with (at_builtin;(refine wpList_append_own_at _ rfl (.tmp 61) (.tmp 65) _ rfl w.heap.size 3 i0 _ 1 8 Tryz.underlying171 hi0 hz0 hz1 hz2 rfl (by omega) (.slice (some ⟨w.heap.size,0,none⟩) 0 0) 0 [] rfl HEM.out ⟨g',0,none⟩ N c (fC (ownV R) N) rfl HL.out (HN2.out _ ((Below.refl _ _).alloc (Nat.le_refl _) _)) (fC_one _ _) (by simp only [maxLen];omega) (by omega) (by simp) ?_);intro v1 w1 hown1 hg1 hz hat1)
     obtain ⟨a4,c4,he4,hown4,hb4⟩:=clone_post (n:=N) hown1 hg1
     cases he4
     have HO4:=Lib.hid hown4;have HB4:=Lib.hid hb4
     obtain ⟨g4,rfl,hg4,_⟩:=hown4.at_ (by omega)
     have hc4:=hown4.le
     clear hown1 hg1 hz hat1 hown4 hb4
     go_loopw [11] (fun i wr=>∃ j : Nat,j ≤ k ∧ i = .int .i64 j ∧ Own wr w.heap.size 3 1 (some ⟨g4,0,none⟩) N c4 (fC (fun i=>if F ≤ i ∧ i < F + j then (V : Int) else ownV R i) N) ∧ Below w.heap.size w wr) (fun i _=>k - (intOf i).toNat)
     case atStart=>exact ⟨0,Nat.zero_le _,rfl,by rw [fC_congr (g:=ownV R) (fun i _=>if_neg (by omega))];exact HO4.out,HB4.out⟩
     case round=>
      clear HO4 HB4
      obtain ⟨j,hj,rfl,ho,hb⟩:=hrel
      have HO:=Lib.hid ho;have HB:=Lib.hid hb
      clear ho hb
      by_cases gj : j < k
      ·have dj : decide ((j : Int) < (k : Int)) = true:=by simp;omega
       have k0:=HO.out.cell (F + j) _ (fC_get _ (by omega))
       have kf:=HO.out.free (F + j)
       have hb0 : (0 : Int) ≤ (F : Int) + j:=by omega
       have hb1 : (F : Int) + j < (N : Int):=by omega
       have hws : IntKind.i64.wrap ((F : Int) + j) = (F : Int) + j:=IntWalk.i64_in _ (by omega)
       have hs:=Own.put HO.out (j:=F + j) (by omega) (.int .i64 (V : Int))
       rw [fC_set,fC_congr (g:=fun i=>if F ≤ i ∧ i < F + (j + 1) then (V : Int) else ownV R i) (fun i hi=>by
        by_cases h1 : i = F + j
        ·rw [if_pos h1,if_pos (by omega)]
        ·rw [if_neg h1]
         by_cases h2 : F ≤ i ∧ i < F + j
         ·rw [if_pos h2,if_pos (by omega)]
         ·rw [if_neg h2,if_neg (by omega)])] at hs
       have hb2:=HB.out.setCell (p:=⟨g4,F + j,none⟩) hg4 (.int .i64 (V : Int))
       have HS:=Lib.hid hs;have HB2:=Lib.hid hb2
       clear hs hb2
       generalize (if F ≤ F + j ∧ F + j < F + j then (V : Int) else ownV R (F + j)) = u at k0
       go_wp2_with fail
       go_roundw
       case rel=>exact ⟨j + 1,by omega,by go_num,HS.out,HB2.out⟩
       case measure=>simp [intOf];omega
      ·obtain rfl : j = k:=by omega
       have dj : decide ((j : Int) < (j : Int)) = false:=by simp
       have q0:=(HB.out.cell (p:=⟨rr,0,none⟩) hrr).trans c0
       have ho:=H.out.obj.below HB.out
       have qf:=ho.free 0
       have hrn : rr ∉ blk (some ⟨g4,0,none⟩):=fun hk=>by have:=(HO.out.ge rr hk).1;omega
       have HX : Hid (RPost B rr N (some ⟨g',0,none⟩) (.int .i64 0) (ownV (addR R F j V)) w (.returned (.int .i64 0)) (wr.setCell ⟨rr,0,none⟩ (.slice (some ⟨g4,0,none⟩) N c4))):=by
        refine ⟨some ⟨g4,0,none⟩,c4,rfl,⟨ho.set 0 _,?_⟩,(Mod.ofBelow HB.out).setCell ⟨rr,0,none⟩ _ (.inl (by simp)),fun q hq=>.inr ?_⟩
        ·rw [fC_congr (g:=fun i=>if F ≤ i ∧ i < F + j then (V : Int) else ownV R i) (fun i _=>HAD.out i)]
         exact (HO.out.mono hB).upd (Upd.setCell wr ⟨rr,0,none⟩ _) hrn
        ·exact (HO.out.ge q hq).1
       clear ho
       go_wp2_with fail
       go_ret
       rw [HGV.out]
       exact HX.out
  ·have HGV : Hid (giveV N R F M V = (5,R)):=by rw [Hid,HG.out,hh];rfl
   have HH:=Lib.hid ((meet_hit hok hM1).1 hh)
   clear hh HG
   go_enter Tryz.func149,Tryz.ntmps149
   go_wp2_with fail
   go_loopw [9] (fun i wr=>∃ k : Nat,k ≤ M ∧ i = .int .i64 k ∧ w = wr ∧ ∀ j,j < k → ownV R (F + j) < 0) (fun i _=>M - (intOf i).toNat)
   case atStart=>exact ⟨0,Nat.zero_le _,rfl,rfl,fun j hj=>by omega⟩
   case round=>
    obtain ⟨k,hk,rfl,rfl,hlo⟩:=hrel
    have HLO:=Lib.hid hlo
    clear hlo
    by_cases g : k < M
    ·have d : decide ((k : Int) < (M : Int)) = true:=by simp;omega
     obtain ⟨g',rfl,k0⟩:=H.out.at_ (F + k) (by omega)
     have hb0 : (0 : Int) ≤ (F : Int) + k:=by omega
     have hb1 : (F : Int) + k < (N : Int):=by omega
     have hws : IntKind.i64.wrap ((F : Int) + k) = (F : Int) + k:=IntWalk.i64_in _ (by omega)
     by_cases g2 : 0 ≤ ownV R (F + k)
     ·have d2 : decide (0 ≤ ownV R (F + k)) = true:=by simpa using g2
      generalize ownV R (F + k) = u at k0 d2
      clear g2 HLO HH
      go_wp2_with fail
      go_ret
      rw [HGV.out]
      exact HE.out _
     ·have d2 : decide (0 ≤ ownV R (F + k)) = false:=by simpa using g2
      have HL2 : Hid (∀ j,j < k + 1 → ownV R (F + j) < 0):=fun j hj=>by
       rcases Nat.lt_or_ge j k with h | h
       ·exact HLO.out j h
       ·rw [show j = k by omega];omega
      generalize ownV R (F + k) = u at k0 d2
      clear g2 HLO
      go_wp2_with fail
      go_roundw
      case rel=>exact ⟨k + 1,by omega,by go_num,by first | rfl | trivial,HL2.out⟩
      case measure=>simp [intOf];omega
    ·obtain rfl : k = M:=by omega
     exfalso
     obtain ⟨i,h1,h2,h3⟩:=HH.out
     have:=HLO.out (i - F) (by omega)
     rw [show F + (i - F) = i by omega] at this
     omega
 ·have HG : Hid (giveV N R x y z = (1,R)):=by rw [Hid,giveV,if_neg hw]
  have hw' : ¬ (0 ≤ x ∧ 1 ≤ y ∧ x ≤ N ∧ y ≤ N - x ∧ 0 ≤ z ∧ z < 64):=fun hc=>hw ((wellG_iff N x y z).2 hc)
  clear h hw
  by_cases g1 : x < 0
  ·have e1 : decide (x < 0) = true:=by simpa using g1
   clear hw'
   ((go_enter Tryz.func149,Tryz.ntmps149);(go_wp2_with fail);go_ret;(rw [HG.out]);exact HE.out _)
  ·have e1 : decide (x < 0) = false:=by simpa using g1
   by_cases g2 : y < 1
   ·have e2 : decide (y < 1) = true:=by simpa using g2
    clear hw'
    ((go_enter Tryz.func149,Tryz.ntmps149);(go_wp2_with fail);go_ret;(rw [HG.out]);exact HE.out _)
   ·have e2 : decide (y < 1) = false:=by simpa using g2
    by_cases g3 : (N : Int) < x
    ·have e3 : decide ((N : Int) < x) = true:=by simpa using g3
     clear hw'
     ((go_enter Tryz.func149,Tryz.ntmps149);(go_wp2_with fail);go_ret;(rw [HG.out]);exact HE.out _)
    ·have e3 : decide ((N : Int) < x) = false:=by simpa using g3
     have hwr : IntKind.i64.wrap ((N : Int) - x) = (N : Int) - x:=IntWalk.i64_in _ (by omega)
     by_cases g4 : (N : Int) - x < y
     ·have e4 : decide ((N : Int) - x < y) = true:=by simpa using g4
      clear hw'
      ((go_enter Tryz.func149,Tryz.ntmps149);(go_wp2_with fail);go_ret;(rw [HG.out]);exact HE.out _)
     ·have e4 : decide ((N : Int) - x < y) = false:=by simpa using g4
      by_cases g5 : z < 0
      ·have e5 : decide (z < 0) = true:=by simpa using g5
       clear hw'
       ((go_enter Tryz.func149,Tryz.ntmps149);(go_wp2_with fail);go_ret;(rw [HG.out]);exact HE.out _)
      ·have e5 : decide (z < 0) = false:=by simpa using g5
       have e6 : decide ((64 : Int) ≤ z) = true:=by simp;omega
       clear hw'
       ((go_enter Tryz.func149,Tryz.ntmps149);(go_wp2_with fail);go_ret;(rw [HG.out]);exact HE.out _)
end Go.Proofs.YtoklonmiejdgmaaGreatDoor
/- Chapter 4, the reference: guests, isGuest, slots, need. -/
namespace Go.Proofs.YtoklonmiejdgmaaGreatDoor
set_option linter.unusedVariables false
set_option linter.unusedSimpArgs false
set_option linter.unnecessarySimpa false
open Go.RowKit
set_option maxHeartbeats 4000000
set_option maxRecDepth 100000
set_option linter.unusedVariables false
variable {W W' w : World} {c : Cv} {b N : Nat} {s : Sl}
theorem isGuest_any (c : Cv) (i : Int) (w : World) (h : CfgOk w c) : Calls Tryz.prog 105 #[(.agg #[.int .i64 c.cats,.slice c.g.a c.g.l.length c.g.cap,.slice c.r.a c.r.l.length c.r.cap,.slice c.p.a c.p.l.length c.p.cap,.slice c.n.a c.n.l.length c.n.cap,.slice c.s.a c.s.l.length c.s.cap,.int .i64 c.gate,.int .i64 c.quota]),.int .i64 i] w fun e w'=>e = .returned (.bool (isG c i)) ∧ Below w.heap.size w w':=by
 have HI : Hid (isG c i = (decide (0 ≤ i) && decide (i < c.g.l.length))):=rfl
 obtain ⟨x,hx⟩ : ∃ x,x = isG c i:=⟨_,rfl⟩
 rw [← hx] at HI ⊢
 have h0:=CX.new h
 have H0:=Lib.hid h0
 clear h0 h hx
 by_cases h0 : 0 ≤ i
 ·have d0 : decide (i ≥ 0) = true:=by simp [h0]
  by_cases h1 : i < c.g.l.length
  ·have d1 : decide (i < c.g.l.length) = true:=by simp [h1]
   have hx : x = true:=by rw [HI.out];simp [h0,h1]
   subst hx
   go_enter Tryz.func105,Tryz.ntmps105
   go_upto_region 1 with fail
   (have q0:=H0.out.ob.cell 0 _ rfl;have q1:=H0.out.ob.cell 1 _ rfl;have q2:=H0.out.ob.cell 2 _ rfl;have q3:=H0.out.ob.cell 3 _ rfl;have q4:=H0.out.ob.cell 4 _ rfl;have q5:=H0.out.ob.cell 5 _ rfl;have q6:=H0.out.ob.cell 6 _ rfl;have q7:=H0.out.ob.cell 7 _ rfl)
   go_wp2_with fail
   go_ret
   exact ⟨rfl,H0.out.bel⟩
  ·have d1 : decide (i < c.g.l.length) = false:=by simpa using h1
   have hx : x = false:=by rw [HI.out];simp [h1]
   subst hx
   go_enter Tryz.func105,Tryz.ntmps105
   go_upto_region 1 with fail
   (have q0:=H0.out.ob.cell 0 _ rfl;have q1:=H0.out.ob.cell 1 _ rfl;have q2:=H0.out.ob.cell 2 _ rfl;have q3:=H0.out.ob.cell 3 _ rfl;have q4:=H0.out.ob.cell 4 _ rfl;have q5:=H0.out.ob.cell 5 _ rfl;have q6:=H0.out.ob.cell 6 _ rfl;have q7:=H0.out.ob.cell 7 _ rfl)
   go_wp2_with fail
   go_ret
   exact ⟨rfl,H0.out.bel⟩
 ·have d0 : decide (i ≥ 0) = false:=by simp;omega
  have hx : x = false:=by rw [HI.out];simp [h0]
  subst hx
  go_enter Tryz.func105,Tryz.ntmps105
  go_upto_region 1 with fail
  (have q0:=H0.out.ob.cell 0 _ rfl;have q1:=H0.out.ob.cell 1 _ rfl;have q2:=H0.out.ob.cell 2 _ rfl;have q3:=H0.out.ob.cell 3 _ rfl;have q4:=H0.out.ob.cell 4 _ rfl;have q5:=H0.out.ob.cell 5 _ rfl;have q6:=H0.out.ob.cell 6 _ rfl;have q7:=H0.out.ob.cell 7 _ rfl)
  go_wp2_with fail
  go_ret
  exact ⟨rfl,H0.out.bel⟩
theorem rguests_any (c : Cv) (w : World) (h : CfgOk w c) : Calls Tryz.prog 100 #[(.agg #[.int .i64 c.cats,.slice c.g.a c.g.l.length c.g.cap,.slice c.r.a c.r.l.length c.r.cap,.slice c.p.a c.p.l.length c.p.cap,.slice c.n.a c.n.l.length c.n.cap,.slice c.s.a c.s.l.length c.s.cap,.int .i64 c.gate,.int .i64 c.quota])] w fun e w'=>e = .returned (.tuple #[.bool (gFst c).2,.int .i64 (gFst c).1]) ∧ Below w.heap.size w w':=by
 have hm:=h.g.mx
 obtain ⟨x,hx⟩ : ∃ x,x = gFst c:=⟨_,rfl⟩
 rw [← hx]
 have HX:=Lib.hid hx
 clear hx
 by_cases h1 : c.g.l.length < 1
 ·have d1 : decide ((c.g.l.length : Int) < 1) = true:=by simp;omega
  have hx : x = (0,true):=by rw [HX.out,gFst,if_pos (Or.inl h1)]
  subst hx
  clear h1
  (have h0:=CX.new h;go_enter Tryz.func100,Tryz.ntmps100;go_upto_region 1 with fail;generalize w.alloc (.cells #[.int .i64 c.cats,.slice c.g.a c.g.l.length c.g.cap,.slice c.r.a c.r.l.length c.r.cap,.slice c.p.a c.p.l.length c.p.cap,.slice c.n.a c.n.l.length c.n.cap,.slice c.s.a c.s.l.length c.s.cap,.int .i64 c.gate,.int .i64 c.quota] 29) = W1 at h0 ⊢;generalize w.heap.size = b0 at h0 ⊢;have H0:=Lib.hid h0;clear h0 h)
  (have q0:=H0.out.ob.cell 0 _ rfl;have q1:=H0.out.ob.cell 1 _ rfl;have q2:=H0.out.ob.cell 2 _ rfl;have q3:=H0.out.ob.cell 3 _ rfl;have q4:=H0.out.ob.cell 4 _ rfl;have q5:=H0.out.ob.cell 5 _ rfl;have q6:=H0.out.ob.cell 6 _ rfl;have q7:=H0.out.ob.cell 7 _ rfl)
  go_wp2_with fail
  go_ret2
  exact ⟨rfl,H0.out.bel⟩
 ·have d1 : decide ((c.g.l.length : Int) < 1) = false:=by simp;omega
  by_cases h2 : 4 < c.g.l.length
  ·have d2 : decide ((c.g.l.length : Int) > 4) = true:=by simp;omega
   have hx : x = (0,true):=by rw [HX.out,gFst,if_pos (Or.inr h2)]
   subst hx
   clear h1 h2
   (have h0:=CX.new h;go_enter Tryz.func100,Tryz.ntmps100;go_upto_region 1 with fail;generalize w.alloc (.cells #[.int .i64 c.cats,.slice c.g.a c.g.l.length c.g.cap,.slice c.r.a c.r.l.length c.r.cap,.slice c.p.a c.p.l.length c.p.cap,.slice c.n.a c.n.l.length c.n.cap,.slice c.s.a c.s.l.length c.s.cap,.int .i64 c.gate,.int .i64 c.quota] 29) = W1 at h0 ⊢;generalize w.heap.size = b0 at h0 ⊢;have H0:=Lib.hid h0;clear h0 h)
   (have q0:=H0.out.ob.cell 0 _ rfl;have q1:=H0.out.ob.cell 1 _ rfl;have q2:=H0.out.ob.cell 2 _ rfl;have q3:=H0.out.ob.cell 3 _ rfl;have q4:=H0.out.ob.cell 4 _ rfl;have q5:=H0.out.ob.cell 5 _ rfl;have q6:=H0.out.ob.cell 6 _ rfl;have q7:=H0.out.ob.cell 7 _ rfl)
   go_wp2_with fail
   go_ret2
   exact ⟨rfl,H0.out.bel⟩
  ·have d2 : decide ((c.g.l.length : Int) > 4) = false:=by simp;omega
   replace HX : Hid (x = fstV (gBad c) c.g.l.length):=by rw [Hid,HX.out,gFst,if_neg (by omega)]
   clear h1 h2
   (have h0:=CX.new h;go_enter Tryz.func100,Tryz.ntmps100;go_upto_region 1 with fail;generalize w.alloc (.cells #[.int .i64 c.cats,.slice c.g.a c.g.l.length c.g.cap,.slice c.r.a c.r.l.length c.r.cap,.slice c.p.a c.p.l.length c.p.cap,.slice c.n.a c.n.l.length c.n.cap,.slice c.s.a c.s.l.length c.s.cap,.int .i64 c.gate,.int .i64 c.quota] 29) = W1 at h0 ⊢;generalize w.heap.size = b0 at h0 ⊢;have H0:=Lib.hid h0;clear h0 h)
   (have q0:=H0.out.ob.cell 0 _ rfl;have q1:=H0.out.ob.cell 1 _ rfl;have q2:=H0.out.ob.cell 2 _ rfl;have q3:=H0.out.ob.cell 3 _ rfl;have q4:=H0.out.ob.cell 4 _ rfl;have q5:=H0.out.ob.cell 5 _ rfl;have q6:=H0.out.ob.cell 6 _ rfl;have q7:=H0.out.ob.cell 7 _ rfl)
   go_upto_region 4 with fail
   clear q0 q1 q2 q3 q4 q5 q6 q7
   go_loopw [4] (fun z wr=>∃ k : Nat,k ≤ c.g.l.length ∧ z = .int .i64 k ∧ CX w wr b0 c ∧ ∀ j,j < k → gBad c j = false) (fun z _=>c.g.l.length - (intOf z).toNat)
   case atStart=>exact ⟨0,by omega,rfl,H0.out,fun j hj=>by omega⟩
   case round=>
    clear H0
    (obtain ⟨k,hk,rfl,hxk,hj⟩:=hrel;have XK:=Lib.hid hxk;have KP:=Lib.hid hj;clear hxk hj;(have q0:=XK.out.ob.cell 0 _ rfl;have q1:=XK.out.ob.cell 1 _ rfl;have q2:=XK.out.ob.cell 2 _ rfl;have q3:=XK.out.ob.cell 3 _ rfl;have q4:=XK.out.ob.cell 4 _ rfl;have q5:=XK.out.ob.cell 5 _ rfl;have q6:=XK.out.ob.cell 6 _ rfl;have q7:=XK.out.ob.cell 7 _ rfl))
    by_cases hkl : k < c.g.l.length
    ·have dk : decide ((k : Int) < (c.g.l.length : Int)) = true:=by simp;omega
     have kz : (0 : Int) ≤ (k : Int):=by omega
     have kl : (k : Int) < (c.g.l.length : Int):=by omega
     have w1 : IntKind.i64.wrap ((k : Int) + 1) = (k : Int) + 1:=by rw [IntKind.wrap_i64];omega
     obtain ⟨bx,ox,hax,hcx⟩:=XK.out.ok.g.cells (by omega) k hkl
     obtain ⟨lb,pg,sp,hrow⟩:=row3 hkl XK.out.ok.g.len
     have HGB : Hid (gBad c k = (!(validB lb c.cats) || (decide (pg < 1) || (decide (8 < pg) || (decide (sp < 0) || decide (8 - pg < sp)))))):=by rw [Hid,gBad,at_eq hkl,at_eq hkl,at_eq hkl,hrow];rfl
     rw [hrow] at hcx
     have c0:=hcx _ (Below.refl _ _) 0 _ rfl;have c1:=hcx _ (Below.refl _ _) 1 _ rfl;have c2:=hcx _ (Below.refl _ _) 2 _ rfl
     simp only [Nat.add_zero] at c0
     rw [hax] at q1
     clear hcx hrow hax
     go_upto_region 7 with fail
     (have R1 : Hid (ObjAt (wr.alloc (.cells ([.int .i64 lb,.int .i64 pg,.int .i64 sp] : List Value).toArray 130)) wr.heap.size 130 [.int .i64 lb,.int .i64 pg,.int .i64 sp]):=ObjAt.new wr _ _;have X1 : Hid (CX w (wr.alloc (.cells ([.int .i64 lb,.int .i64 pg,.int .i64 sp] : List Value).toArray 130)) b0 c):=XK.out.below ((Below.refl _ _).alloc (Nat.le_refl _) _);generalize wr.alloc (.cells ([.int .i64 lb,.int .i64 pg,.int .i64 sp] : List Value).toArray 130) = W1r at R1 X1 ⊢;generalize wr.heap.size = rr at R1 ⊢)
     clear q0 q1 q2 q3 q4 q5 q6 q7 c0 c1 c2
     have r0:=R1.out.cell 0 _ rfl;have r1:=R1.out.cell 1 _ rfl;have r2:=R1.out.cell 2 _ rfl
     have q0:=X1.out.ob.cell 0 _ rfl
     obtain ⟨vb,hvb⟩ : ∃ v,v = validB lb c.cats:=⟨_,rfl⟩
     have VAL : Hid (∀ W,Calls Tryz.prog 147 #[.int .i64 lb,.int .i64 c.cats] W fun e w'=>e = .returned (.bool vb) ∧ W = w'):=fun W=>by rw [hvb];exact Valid_ref _ _ _
     rw [← hvb] at HGB
     clear hvb
     cases vb with
     | false=>((have hx : x = ((k : Int),true):=(by rw [HX.out];exact fstV_hit hkl KP.out (by rw [HGB.out];simp [*]));subst hx);clear HGB;go_wp2_with (go_at_call 147;refine (VAL.out _).mono ?_;rintro e Wv ⟨rfl,rfl⟩);go_ret2;exact ⟨rfl,X1.out.bel⟩)
     | true=>
      by_cases h1 : pg < 1
      ·have d1 : decide (pg < 1) = true:=by simp [h1]
       ((have hx : x = ((k : Int),true):=(by rw [HX.out];exact fstV_hit hkl KP.out (by rw [HGB.out];simp [*]));subst hx);clear HGB h1;go_wp2_with (go_at_call 147;refine (VAL.out _).mono ?_;rintro e Wv ⟨rfl,rfl⟩);go_ret2;exact ⟨rfl,X1.out.bel⟩)
      ·have d1 : decide (pg < 1) = false:=by simp [h1]
       by_cases h2 : 8 < pg
       ·have d2 : decide (pg > 8) = true:=by simp [h2]
        ((have hx : x = ((k : Int),true):=(by rw [HX.out];exact fstV_hit hkl KP.out (by rw [HGB.out];simp [*]));subst hx);clear HGB h1 h2;go_wp2_with (go_at_call 147;refine (VAL.out _).mono ?_;rintro e Wv ⟨rfl,rfl⟩);go_ret2;exact ⟨rfl,X1.out.bel⟩)
       ·have d2 : decide (pg > 8) = false:=by simpa using h2
        have w8 : IntKind.i64.wrap (8 - pg) = 8 - pg:=by rw [IntKind.wrap_i64];omega
        by_cases h3 : sp < 0
        ·have d3 : decide (sp < 0) = true:=by simp [h3]
         ((have hx : x = ((k : Int),true):=(by rw [HX.out];exact fstV_hit hkl KP.out (by rw [HGB.out];simp [*]));subst hx);clear HGB h1 h2 h3;go_wp2_with (go_at_call 147;refine (VAL.out _).mono ?_;rintro e Wv ⟨rfl,rfl⟩);go_ret2;exact ⟨rfl,X1.out.bel⟩)
        ·have d3 : decide (sp < 0) = false:=by simpa using h3
         by_cases h4 : 8 - pg < sp
         ·have d4 : decide (sp > 8 - pg) = true:=by simp [h4]
          ((have hx : x = ((k : Int),true):=(by rw [HX.out];exact fstV_hit hkl KP.out (by rw [HGB.out];simp [*]));subst hx);clear HGB h1 h2 h3 h4;go_wp2_with (go_at_call 147;refine (VAL.out _).mono ?_;rintro e Wv ⟨rfl,rfl⟩);go_ret2;exact ⟨rfl,X1.out.bel⟩)
         ·have d4 : decide (sp > 8 - pg) = false:=by simpa using h4
          have hgb : gBad c k = false:=by rw [HGB.out];simp only [h1,h2,h3,h4,decide_false,Bool.not_true,Bool.or_false]
          have KP2 : Hid (∀ j,j < k + 1 → gBad c j = false):=fun j hj=>by
           by_cases hjk : j = k
           ·rw [hjk];exact hgb
           ·exact KP.out j (by omega)
          clear h1 h2 h3 h4 hgb HGB
          go_wp2_with (go_at_call 147;refine (VAL.out _).mono ?_;rintro e Wv ⟨rfl,rfl⟩)
          go_roundw
          case rel=>exact ⟨k + 1,by omega,by go_num,X1.out,KP2.out⟩
          case measure=>simp [intOf];omega
    ·have dk : decide ((k : Int) < (c.g.l.length : Int)) = false:=by simp;omega
     have hx : x = (0,false):=by rw [HX.out];exact fstV_none (fun j hj=>KP.out j (by omega))
     subst hx
     go_wp2_with fail
     go_ret2
     exact ⟨rfl,XK.out.bel⟩
end Go.Proofs.YtoklonmiejdgmaaGreatDoor
