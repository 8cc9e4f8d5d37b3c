/- Package plan: a line of numbers alone. -/
import Derived.Test.YtoklonmiejdgmaaGreatDoorGScriptPrints2
namespace Go.Proofs.YtoklonmiejdgmaaGreatDoor
set_option linter.unusedVariables false
set_option linter.unusedSimpArgs false
set_option linter.unnecessarySimpa false
open Go.RowKit Go.Sort
set_option maxHeartbeats 4000000
set_option maxRecDepth 100000
set_option linter.unusedVariables false
theorem plain_cats (w : World) (rb : Nat) (c : Cv) (last : Int) (w0 w1 : List UInt8) (hsm : ∀ x ∈ [w0,w1],x.length ≤ 100000000) (g off cap : Nat) (W : World) (h : RD w rb c last W) (hg : g < W.heap.size)
  (hr : ∀ j (hj : j < 2),W.cell? ⟨g,off + j,none⟩ = some (.string (ba ([w0,w1].getD j [])))) (hcap : 2 ≤ cap) (hmx : cap ≤ maxLen) (hn : FewC c) :
  Calls Tryz.prog 83 #[.pointer (some ⟨rb,0,none⟩),.int .i64 0,.slice (some ⟨g,off,none⟩) 2 cap] W (TkPost w rb c last 0 [w0,w1] W):=by
 unfold maxLen at hmx
 have H:=Lib.hid h
 have hB:=h.bel.size
 have hrd : Rd W 1 (some ⟨g,off + 1,none⟩) 1 (strC [w1]):=by
  refine ⟨rfl,(fun h0=>by cases h0),fun p hp _=>?_⟩
  injection hp with hp
  subst hp
  refine ⟨g,off + 1,rfl,hg,fun j u hu=>?_⟩
  obtain rfl : j = 0:=by have:=(List.getElem?_eq_some_iff.1 hu).1;simp [strC] at this;omega
  injection hu with hu;rw [← hu];exact hr 1 (by omega)
 have HNB : Hid (Calls Tryz.prog 125 #[.slice (some ⟨g,off + 1,none⟩) 1 (cap - 1)] W (NmPost [w1] W)):=numbers_any (some ⟨g,off + 1,none⟩) (cap - 1) [w1] (fun y hy=>hsm y (List.mem_cons_of_mem _ hy)) (by simp) W hrd
 have HTN : Hid (nmsB [w1] = false → ∀ w',Below w.heap.size w w' → TkPost w rb c last 0 [w0,w1] W (.returned (.bool false)) w'):=fun hb w' hbe=>tk_no (by unfold rowV;simp [hb]) hbe
 have HTY : Hid (nmsB [w1] = true → ∀ (w' : World) (c' : Cv),pcOf c' = setV (pcOf c) 0 [(numI w1 : Nat)] → RD w rb c' last w' → TkPost w rb c last 0 [w0,w1] W (.returned (.bool true)) w'):=fun hb w' c' hc hr=>tk_yes (by unfold rowV;simp [hb,nmsL]) hc hr
 have hc1 : ¬ cap = 1:=by omega
 clear hr hsm hrd h
 go_enter Tryz.func83,Tryz.ntmps83
 go_wp2_with fail
 refine HNB.out.mono ?_
 intro e W3 h3
 obtain ⟨hy,hno,hb3⟩:=h3
 have H3:=Lib.hid (H.out.more hb3)
 cases hb : nmsB [w1]
 ·obtain rfl:=hno hb
  have HT:=Lib.hid (HTN.out hb)
  clear hy hno hb3 hb
  go_wp2_with fail
  go_ret
  exact HT.out _ H3.out.bel
 ·obtain ⟨a3,c3',rfl,hown3⟩:=hy hb
  obtain ⟨g3,rfl,hg3,hg3'⟩:=hown3.at_ (by simp)
  have HT:=Lib.hid (HTY.out hb)
  obtain ⟨y0,hy0⟩ : ∃ y,Hid (y = ((numI w1 : Nat) : Int)):=⟨_,Lib.hid rfl⟩
  have m0 : W3.cell? ⟨g3,0,none⟩ = some (.int .i64 y0):=by rw [hy0.out];exact hown3.cell 0 _ rfl
  rw [← hy0.out] at HT
  have hsz:=hb3.size
  have hrb:=H3.out.ob.lt
  have hB3:=H3.out.bel.size
  have c0:=(H3.out).ob.cell 0 _ rfl;have c1:=(H3.out).ob.cell 1 _ rfl;have c2:=(H3.out).ob.cell 2 _ rfl;have c3:=(H3.out).ob.cell 3 _ rfl;have c4:=(H3.out).ob.cell 4 _ rfl;have c5:=(H3.out).ob.cell 5 _ rfl;have c6:=(H3.out).ob.cell 6 _ rfl;have c7:=(H3.out).ob.cell 7 _ rfl;have c8:=(H3.out).ob.cell 8 _ rfl
  have f0:=H3.out.ob.free 0
  clear hy hno hb3 hb hown3 HTY HTN
  go_wp2_with fail
  go_ret
  exact HT.out _ _ rfl (H3.out.setCats y0)
theorem plain_ring (w : World) (rb : Nat) (c : Cv) (last : Int) (w0 w1 w2 : List UInt8) (hsm : ∀ x ∈ [w0,w1,w2],x.length ≤ 100000000) (g off cap : Nat) (W : World) (h : RD w rb c last W) (hg : g < W.heap.size)
  (hr : ∀ j (hj : j < 3),W.cell? ⟨g,off + j,none⟩ = some (.string (ba ([w0,w1,w2].getD j [])))) (hcap : 3 ≤ cap) (hmx : cap ≤ maxLen) (hn : FewC c) :
  Calls Tryz.prog 83 #[.pointer (some ⟨rb,0,none⟩),.int .i64 4,.slice (some ⟨g,off,none⟩) 3 cap] W (TkPost w rb c last 4 [w0,w1,w2] W):=by
 obtain ⟨i0,hi0,hz0,hz1,hz2⟩:=info_parts info_ri
 unfold maxLen at hmx
 have H:=Lib.hid h
 have hB:=h.bel.size
 have hrd : Rd W 1 (some ⟨g,off + 1,none⟩) 2 (strC [w1,w2]):=by
  refine ⟨rfl,(fun h0=>by cases h0),fun p hp _=>?_⟩
  injection hp with hp
  subst hp
  refine ⟨g,off + 1,rfl,hg,fun j u hu=>?_⟩
  rcases (by have:=(List.getElem?_eq_some_iff.1 hu).1;simp [strC] at this;omega : j = 0 ∨ j = 1) with rfl | rfl
  ·injection hu with hu;rw [← hu];exact hr 1 (by omega)
  ·injection hu with hu;rw [← hu];exact hr 2 (by omega)
 have HNB : Hid (Calls Tryz.prog 125 #[.slice (some ⟨g,off + 1,none⟩) 2 (cap - 1)] W (NmPost [w1,w2] W)):=numbers_any (some ⟨g,off + 1,none⟩) (cap - 1) [w1,w2] (fun y hy=>hsm y (List.mem_cons_of_mem _ hy)) (by simp) W hrd
 have HTN : Hid (nmsB [w1,w2] = false → ∀ w',Below w.heap.size w w' → TkPost w rb c last 4 [w0,w1,w2] W (.returned (.bool false)) w'):=fun hb w' hbe=>tk_no (by unfold rowV;simp [hb]) hbe
 have HTY : Hid (nmsB [w1,w2] = true → ∀ (w' : World) (c' : Cv),pcOf c' = setV (pcOf c) 4 [(numI w1 : Nat),(numI w2 : Nat)] → RD w rb c' last w' → TkPost w rb c last 4 [w0,w1,w2] W (.returned (.bool true)) w'):=fun hb w' c' hc hr=>tk_yes (by unfold rowV;simp [hb,nmsL]) hc hr
 have hc1 : ¬ cap = 1:=by omega
 clear hr hsm hrd h
 go_enter Tryz.func83,Tryz.ntmps83
 go_wp2_with fail
 refine HNB.out.mono ?_
 intro e W3 h3
 obtain ⟨hy,hno,hb3⟩:=h3
 have H3:=Lib.hid (H.out.more hb3)
 cases hb : nmsB [w1,w2]
 ·obtain rfl:=hno hb
  have HT:=Lib.hid (HTN.out hb)
  clear hy hno hb3 hb
  go_wp2_with fail
  go_ret
  exact HT.out _ H3.out.bel
 ·obtain ⟨a3,c3',rfl,hown3⟩:=hy hb
  obtain ⟨g3,rfl,hg3,hg3'⟩:=hown3.at_ (by simp)
  have HT:=Lib.hid (HTY.out hb)
  obtain ⟨y0,hy0⟩ : ∃ y,Hid (y = ((numI w1 : Nat) : Int)):=⟨_,Lib.hid rfl⟩
  obtain ⟨y1,hy1⟩ : ∃ y,Hid (y = ((numI w2 : Nat) : Int)):=⟨_,Lib.hid rfl⟩
  have m0 : W3.cell? ⟨g3,0,none⟩ = some (.int .i64 y0):=by rw [hy0.out];exact hown3.cell 0 _ rfl
  have m1 : W3.cell? ⟨g3,1,none⟩ = some (.int .i64 y1):=by rw [hy1.out];exact hown3.cell 1 _ rfl
  rw [← hy0.out,← hy1.out] at HT
  have hsz:=hb3.size
  have hrb:=H3.out.ob.lt
  have hB3:=H3.out.bel.size
  have c0:=(H3.out).ob.cell 0 _ rfl;have c1:=(H3.out).ob.cell 1 _ rfl;have c2:=(H3.out).ob.cell 2 _ rfl;have c3:=(H3.out).ob.cell 3 _ rfl;have c4:=(H3.out).ob.cell 4 _ rfl;have c5:=(H3.out).ob.cell 5 _ rfl;have c6:=(H3.out).ob.cell 6 _ rfl;have c7:=(H3.out).ob.cell 7 _ rfl;have c8:=(H3.out).ob.cell 8 _ rfl
  have hfew:=hn.2.2.2.1
  have f4:=H3.out.ob.free 4
  clear hy hno hb3 hb hown3 HTY HTN
  go_wp2_with fail
  go_region_law (refine step_own rfl (.tmp 48) (.tmp 56) 26 rfl w.heap.size 137 i0 _ 2 16 Tryz.underlying26 hi0 hz0 hz1 hz2 rfl (by omega) c.n.a c.n.l.length c.n.cap (iF c.n.l) rfl (H3.out.n.below ((Below.refl _ _).drew.alloc (Nat.le_refl _) _)) W3.heap.size (ivs [y0,y1]) rfl (new_block _ _ _ rfl) rfl (by simp [ivs,Value.oneCell']) (by simp only [maxLen];omega) (by omega) (by simp;omega) ?_;intro g' cap' W4 hown hmod hat;have h4:=(H3.out.ob.below ((Below.refl _ _).drew.alloc (Nat.le_refl _) _)).mod hmod (H3.out.n.ne H3.out.ob (by decide));have d0:=h4.cell 4 _ rfl;have e0:=h4.free 4)
  all_goals
   go_wp2_with fail
   go_ret
   refine HT.out _ _ rfl (H3.out.addN (c':=cap') (row:=[y0,y1]) ((Below.refl _ _).drew.alloc (Nat.le_refl _) _) hown hmod rfl)
theorem plain_slot (w : World) (rb : Nat) (c : Cv) (last : Int) (w0 w1 w2 : List UInt8) (hsm : ∀ x ∈ [w0,w1,w2],x.length ≤ 100000000) (g off cap : Nat) (W : World) (h : RD w rb c last W) (hg : g < W.heap.size)
  (hr : ∀ j (hj : j < 3),W.cell? ⟨g,off + j,none⟩ = some (.string (ba ([w0,w1,w2].getD j [])))) (hcap : 3 ≤ cap) (hmx : cap ≤ maxLen) (hn : FewC c) :
  Calls Tryz.prog 83 #[.pointer (some ⟨rb,0,none⟩),.int .i64 5,.slice (some ⟨g,off,none⟩) 3 cap] W (TkPost w rb c last 5 [w0,w1,w2] W):=by
 obtain ⟨i0,hi0,hz0,hz1,hz2⟩:=info_parts info_so
 unfold maxLen at hmx
 have H:=Lib.hid h
 have hB:=h.bel.size
 have hrd : Rd W 1 (some ⟨g,off + 1,none⟩) 2 (strC [w1,w2]):=by
  refine ⟨rfl,(fun h0=>by cases h0),fun p hp _=>?_⟩
  injection hp with hp
  subst hp
  refine ⟨g,off + 1,rfl,hg,fun j u hu=>?_⟩
  rcases (by have:=(List.getElem?_eq_some_iff.1 hu).1;simp [strC] at this;omega : j = 0 ∨ j = 1) with rfl | rfl
  ·injection hu with hu;rw [← hu];exact hr 1 (by omega)
  ·injection hu with hu;rw [← hu];exact hr 2 (by omega)
 have HNB : Hid (Calls Tryz.prog 125 #[.slice (some ⟨g,off + 1,none⟩) 2 (cap - 1)] W (NmPost [w1,w2] W)):=numbers_any (some ⟨g,off + 1,none⟩) (cap - 1) [w1,w2] (fun y hy=>hsm y (List.mem_cons_of_mem _ hy)) (by simp) W hrd
 have HTN : Hid (nmsB [w1,w2] = false → ∀ w',Below w.heap.size w w' → TkPost w rb c last 5 [w0,w1,w2] W (.returned (.bool false)) w'):=fun hb w' hbe=>tk_no (by unfold rowV;simp [hb]) hbe
 have HTY : Hid (nmsB [w1,w2] = true → ∀ (w' : World) (c' : Cv),pcOf c' = setV (pcOf c) 5 [(numI w1 : Nat),(numI w2 : Nat)] → RD w rb c' last w' → TkPost w rb c last 5 [w0,w1,w2] W (.returned (.bool true)) w'):=fun hb w' c' hc hr=>tk_yes (by unfold rowV;simp [hb,nmsL]) hc hr
 have hc1 : ¬ cap = 1:=by omega
 clear hr hsm hrd h
 go_enter Tryz.func83,Tryz.ntmps83
 go_wp2_with fail
 refine HNB.out.mono ?_
 intro e W3 h3
 obtain ⟨hy,hno,hb3⟩:=h3
 have H3:=Lib.hid (H.out.more hb3)
 cases hb : nmsB [w1,w2]
 ·obtain rfl:=hno hb
  have HT:=Lib.hid (HTN.out hb)
  clear hy hno hb3 hb
  go_wp2_with fail
  go_ret
  exact HT.out _ H3.out.bel
 ·obtain ⟨a3,c3',rfl,hown3⟩:=hy hb
  obtain ⟨g3,rfl,hg3,hg3'⟩:=hown3.at_ (by simp)
  have HT:=Lib.hid (HTY.out hb)
  obtain ⟨y0,hy0⟩ : ∃ y,Hid (y = ((numI w1 : Nat) : Int)):=⟨_,Lib.hid rfl⟩
  obtain ⟨y1,hy1⟩ : ∃ y,Hid (y = ((numI w2 : Nat) : Int)):=⟨_,Lib.hid rfl⟩
  have m0 : W3.cell? ⟨g3,0,none⟩ = some (.int .i64 y0):=by rw [hy0.out];exact hown3.cell 0 _ rfl
  have m1 : W3.cell? ⟨g3,1,none⟩ = some (.int .i64 y1):=by rw [hy1.out];exact hown3.cell 1 _ rfl
  rw [← hy0.out,← hy1.out] at HT
  have hsz:=hb3.size
  have hrb:=H3.out.ob.lt
  have hB3:=H3.out.bel.size
  have c0:=(H3.out).ob.cell 0 _ rfl;have c1:=(H3.out).ob.cell 1 _ rfl;have c2:=(H3.out).ob.cell 2 _ rfl;have c3:=(H3.out).ob.cell 3 _ rfl;have c4:=(H3.out).ob.cell 4 _ rfl;have c5:=(H3.out).ob.cell 5 _ rfl;have c6:=(H3.out).ob.cell 6 _ rfl;have c7:=(H3.out).ob.cell 7 _ rfl;have c8:=(H3.out).ob.cell 8 _ rfl
  have hfew:=hn.2.2.2.2
  have f5:=H3.out.ob.free 5
  clear hy hno hb3 hb hown3 HTY HTN
  go_wp2_with fail
  go_region_law (refine step_own rfl (.tmp 68) (.tmp 76) 27 rfl w.heap.size 139 i0 _ 2 16 Tryz.underlying27 hi0 hz0 hz1 hz2 rfl (by omega) c.s.a c.s.l.length c.s.cap (iF c.s.l) rfl (H3.out.s.below ((Below.refl _ _).drew.alloc (Nat.le_refl _) _)) W3.heap.size (ivs [y0,y1]) rfl (new_block _ _ _ rfl) rfl (by simp [ivs,Value.oneCell']) (by simp only [maxLen];omega) (by omega) (by simp;omega) ?_;intro g' cap' W4 hown hmod hat;have h4:=(H3.out.ob.below ((Below.refl _ _).drew.alloc (Nat.le_refl _) _)).mod hmod (H3.out.s.ne H3.out.ob (by decide));have d0:=h4.cell 5 _ rfl;have e0:=h4.free 5)
  all_goals
   go_wp2_with fail
   go_ret
   refine HT.out _ _ rfl (H3.out.addS (c':=cap') (row:=[y0,y1]) ((Below.refl _ _).drew.alloc (Nat.le_refl _) _) hown hmod rfl)
theorem plain_gate (w : World) (rb : Nat) (c : Cv) (last : Int) (w0 w1 w2 : List UInt8) (hsm : ∀ x ∈ [w0,w1,w2],x.length ≤ 100000000) (g off cap : Nat) (W : World) (h : RD w rb c last W) (hg : g < W.heap.size)
  (hr : ∀ j (hj : j < 3),W.cell? ⟨g,off + j,none⟩ = some (.string (ba ([w0,w1,w2].getD j [])))) (hcap : 3 ≤ cap) (hmx : cap ≤ maxLen) (hn : FewC c) :
  Calls Tryz.prog 83 #[.pointer (some ⟨rb,0,none⟩),.int .i64 6,.slice (some ⟨g,off,none⟩) 3 cap] W (TkPost w rb c last 6 [w0,w1,w2] W):=by
 unfold maxLen at hmx
 have H:=Lib.hid h
 have hB:=h.bel.size
 have hrd : Rd W 1 (some ⟨g,off + 1,none⟩) 2 (strC [w1,w2]):=by
  refine ⟨rfl,(fun h0=>by cases h0),fun p hp _=>?_⟩
  injection hp with hp
  subst hp
  refine ⟨g,off + 1,rfl,hg,fun j u hu=>?_⟩
  rcases (by have:=(List.getElem?_eq_some_iff.1 hu).1;simp [strC] at this;omega : j = 0 ∨ j = 1) with rfl | rfl
  ·injection hu with hu;rw [← hu];exact hr 1 (by omega)
  ·injection hu with hu;rw [← hu];exact hr 2 (by omega)
 have HNB : Hid (Calls Tryz.prog 125 #[.slice (some ⟨g,off + 1,none⟩) 2 (cap - 1)] W (NmPost [w1,w2] W)):=numbers_any (some ⟨g,off + 1,none⟩) (cap - 1) [w1,w2] (fun y hy=>hsm y (List.mem_cons_of_mem _ hy)) (by simp) W hrd
 have HTN : Hid (nmsB [w1,w2] = false → ∀ w',Below w.heap.size w w' → TkPost w rb c last 6 [w0,w1,w2] W (.returned (.bool false)) w'):=fun hb w' hbe=>tk_no (by unfold rowV;simp [hb]) hbe
 have HTY : Hid (nmsB [w1,w2] = true → ∀ (w' : World) (c' : Cv),pcOf c' = setV (pcOf c) 6 [(numI w1 : Nat),(numI w2 : Nat)] → RD w rb c' last w' → TkPost w rb c last 6 [w0,w1,w2] W (.returned (.bool true)) w'):=fun hb w' c' hc hr=>tk_yes (by unfold rowV;simp [hb,nmsL]) hc hr
 have hc1 : ¬ cap = 1:=by omega
 clear hr hsm hrd h
 go_enter Tryz.func83,Tryz.ntmps83
 go_wp2_with fail
 refine HNB.out.mono ?_
 intro e W3 h3
 obtain ⟨hy,hno,hb3⟩:=h3
 have H3:=Lib.hid (H.out.more hb3)
 cases hb : nmsB [w1,w2]
 ·obtain rfl:=hno hb
  have HT:=Lib.hid (HTN.out hb)
  clear hy hno hb3 hb
  go_wp2_with fail
  go_ret
  exact HT.out _ H3.out.bel
 ·obtain ⟨a3,c3',rfl,hown3⟩:=hy hb
  obtain ⟨g3,rfl,hg3,hg3'⟩:=hown3.at_ (by simp)
  have HT:=Lib.hid (HTY.out hb)
  obtain ⟨y0,hy0⟩ : ∃ y,Hid (y = ((numI w1 : Nat) : Int)):=⟨_,Lib.hid rfl⟩
  obtain ⟨y1,hy1⟩ : ∃ y,Hid (y = ((numI w2 : Nat) : Int)):=⟨_,Lib.hid rfl⟩
  have m0 : W3.cell? ⟨g3,0,none⟩ = some (.int .i64 y0):=by rw [hy0.out];exact hown3.cell 0 _ rfl
  have m1 : W3.cell? ⟨g3,1,none⟩ = some (.int .i64 y1):=by rw [hy1.out];exact hown3.cell 1 _ rfl
  rw [← hy0.out,← hy1.out] at HT
  have hsz:=hb3.size
  have hrb:=H3.out.ob.lt
  have hB3:=H3.out.bel.size
  have c0:=(H3.out).ob.cell 0 _ rfl;have c1:=(H3.out).ob.cell 1 _ rfl;have c2:=(H3.out).ob.cell 2 _ rfl;have c3:=(H3.out).ob.cell 3 _ rfl;have c4:=(H3.out).ob.cell 4 _ rfl;have c5:=(H3.out).ob.cell 5 _ rfl;have c6:=(H3.out).ob.cell 6 _ rfl;have c7:=(H3.out).ob.cell 7 _ rfl;have c8:=(H3.out).ob.cell 8 _ rfl
  have f6:=H3.out.ob.free 6
  have f7:=H3.out.ob.free 7
  clear hy hno hb3 hb hown3 HTY HTN
  go_wp2_with fail
  have HD:=Lib.hid (H3.out.more (Below.refl _ _).drew)
  go_region
  all_goals
   go_wp2_with fail
   go_ret
   exact HT.out _ _ rfl (HD.out.setGate y0 y1)
end Go.Proofs.YtoklonmiejdgmaaGreatDoor
/- Package plan: a line. -/
namespace Go.Proofs.YtoklonmiejdgmaaGreatDoor
set_option linter.unusedVariables false
set_option linter.unusedSimpArgs false
set_option linter.unnecessarySimpa false
open Go.RowKit Go.Sort
set_option maxHeartbeats 4000000
set_option maxRecDepth 100000
set_option linter.unusedVariables false
def WdTab (W : World) : Prop:=∀ k,k < 7 → W.cell? ⟨1,k,none⟩ = some (.int .i64 (wordsK k : Nat))
theorem WdTab.below {w w' : World} (h : WdTab w) (hb : Below w.heap.size w w') : WdTab w':=fun k hk=>by
 have hc:=h k hk
 rw [hb.cell (p:=⟨1,k,none⟩) (World.block_lt_of_cell? w ⟨1,k,none⟩ hc)]
 exact hc
/-- May a rank come now? -/
def ordB (k : Nat) (b : Bool) (last : Int) : Bool:=if b != (decide (k = 0)) then false else if k = 6 ∧ last = 6 then false else decide (last ≤ k)
theorem ordB_no {k : Nat} {b : Bool} {last : Int} (h : b = !(decide (k = 0))) : ordB k b last = false:=by
 unfold ordB;subst h;cases decide (k = 0) <;> rfl
theorem ordB_gate {k : Nat} {b : Bool} {last : Int} (h6 : k = 6) (hl : last = 6) : ordB k b last = false:=by
 unfold ordB;split
 ·rfl
 ·rw [if_pos ⟨h6,hl⟩]
theorem ordB_go {k : Nat} {b : Bool} {last : Int} (h : b = decide (k = 0)) (h6 : ¬ (k = 6 ∧ last = 6)) : ordB k b last = decide (last ≤ k):=by
 unfold ordB;rw [if_neg (by rw [h];simp),if_neg h6]
theorem order_any (rb : Nat) (k : Nat) (b : Bool) (last : Int) (W : World) (h8 : W.cell? ⟨rb,8,none⟩ = some (.int .i64 last)) : Calls Tryz.prog 81 #[.pointer (some ⟨rb,0,none⟩),.int .i64 k,.bool b] W fun e w'=>e = .returned (.bool (ordB k b last)) ∧ W = w':=by
 have e0 : ((k : Int) == 0) = decide (k = 0):=by rw [Bool.eq_iff_iff];simp
 have e6 : ((k : Int) == 6) = decide (k = 6):=by rw [Bool.eq_iff_iff];simp;omega
 have el : (last == 6) = decide (last = 6):=by rw [Bool.eq_iff_iff];simp
 by_cases h0 : k = 0
 ·rw [decide_eq_true h0] at e0
  have e6' : ((k : Int) == 6) = false:=by rw [beq_eq_false_iff_ne];omega
  clear e6
  cases b
  ·have HR:=Lib.hid (ordB_no (last:=last) (show false = !(decide (k = 0)) by rw [decide_eq_true h0];rfl))
   clear h0
   (go_enter Tryz.func81,Tryz.ntmps81;go_wp2;go_ret;exact ⟨by rw [HR.out];rfl,rfl⟩)
  ·have HR:=Lib.hid (ordB_go (last:=last) (show true = decide (k = 0) by rw [decide_eq_true h0]) (by omega))
   clear h0
   (go_enter Tryz.func81,Tryz.ntmps81;go_wp2;go_ret;exact ⟨by rw [HR.out];rfl,rfl⟩)
 ·rw [decide_eq_false h0] at e0
  cases b
  ·by_cases h6 : k = 6
   ·rw [decide_eq_true h6] at e6
    by_cases hl : last = 6
    ·rw [decide_eq_true hl] at el
     have HR:=Lib.hid (ordB_gate (b:=false) h6 hl)
     clear h0 h6 hl
     (go_enter Tryz.func81,Tryz.ntmps81;go_wp2;go_ret;exact ⟨by rw [HR.out];rfl,rfl⟩)
    ·rw [decide_eq_false hl] at el
     have HR:=Lib.hid (ordB_go (last:=last) (show false = decide (k = 0) by rw [decide_eq_false h0]) (by omega))
     clear h0 h6 hl
     (go_enter Tryz.func81,Tryz.ntmps81;go_wp2;go_ret;exact ⟨by rw [HR.out];rfl,rfl⟩)
   ·rw [decide_eq_false h6] at e6
    have HR:=Lib.hid (ordB_go (last:=last) (show false = decide (k = 0) by rw [decide_eq_false h0]) (by omega))
    clear h0 h6
    (go_enter Tryz.func81,Tryz.ntmps81;go_wp2;go_ret;exact ⟨by rw [HR.out];rfl,rfl⟩)
  ·have HR:=Lib.hid (ordB_no (last:=last) (show true = !(decide (k = 0)) by rw [decide_eq_false h0];rfl))
   clear h0
   (go_enter Tryz.func81,Tryz.ntmps81;go_wp2;go_ret;exact ⟨by rw [HR.out];rfl,rfl⟩)
def lineV (c : Pc) (last : Int) (b : Bool) (s : List UInt8) : Option (Pc × Int):=
 if wordsB s = true ∧ rankV ((fieldsC 32 s).headD []) < 7 ∧ ordB (rankV ((fieldsC 32 s).headD [])) b last = true ∧ (fieldsC 32 s).length = wordsK (rankV ((fieldsC 32 s).headD [])) then
  (rowV (rankV ((fieldsC 32 s).headD [])) (fieldsC 32 s)).map fun row=>(setV c (rankV ((fieldsC 32 s).headD [])) row,((rankV ((fieldsC 32 s).headD []) : Nat) : Int))
 else none
def LnPost (w : World) (rb : Nat) (c : Cv) (last : Int) (b : Bool) (s : List UInt8) (e : Ending) (w' : World) : Prop:=
 match lineV (pcOf c) last b s with
 | some r=>e = .returned (.bool true) ∧ ∃ c',pcOf c' = r.1 ∧ RD w rb c' r.2 w'
 | none=>e = .returned (.bool false) ∧ Below w.heap.size w w'
theorem ln_no {w : World} {rb : Nat} {c : Cv} {last : Int} {b : Bool} {s : List UInt8} {w' : World} (h : lineV (pcOf c) last b s = none) (hb : Below w.heap.size w w') : LnPost w rb c last b s (.returned (.bool false)) w':=by
 unfold LnPost;rw [h];exact ⟨rfl,hb⟩
/-- What the taking of a line's words leaves is what the line leaves. -/
theorem ln_take {w : World} {rb : Nat} {c : Cv} {last : Int} {b : Bool} {s : List UInt8} {k : Nat} {ws : List (List UInt8)} {W w' : World} {e : Ending} (hws : fieldsC 32 s = ws) (hk : rankV (ws.headD []) = k) (hw : wordsB s = true) (h7 : k < 7) (ho : ordB k b last = true) (hl : ws.length = wordsK k) (h : TkPost w rb c k k ws W e w') : LnPost w rb c last b s e w':=by
 have hv : lineV (pcOf c) last b s = (rowV k ws).map fun row=>(setV (pcOf c) k row,(k : Int)):=by
  unfold lineV
  rw [hws,hk,if_pos ⟨hw,h7,ho,hl⟩]
 unfold LnPost
 unfold TkPost at h
 rw [hv]
 cases hr : rowV k ws with
 | none=>rw [hr] at h;exact h
 | some row=>rw [hr] at h;exact h
theorem tk_shape {w : World} {rb : Nat} {c : Cv} {last : Int} {k : Nat} {ws : List (List UInt8)} {W : World} {e : Ending} {w' : World} (h : TkPost w rb c last k ws W e w') : ∃ b,e = .returned (.bool b):=by
 unfold TkPost at h
 split at h
 ·exact ⟨true,h.1⟩
 ·exact ⟨false,h.1⟩
theorem line_none (w : World) (rb : Nat) (c : Cv) (last : Int) (b : Bool) (s : List UInt8) (hs : s.length ≤ 100000) (W : World) (h : RD w rb c last W) (hw : wordsB s = false) :
  Calls Tryz.prog 53 #[.pointer (some ⟨rb,0,none⟩),.string (ba s),.bool b] W (LnPost w rb c last b s):=by
 have HN : Hid (∀ w',Below w.heap.size w w' → LnPost w rb c last b s (.returned (.bool false)) w'):=fun w' hb=>ln_no (by unfold lineV;rw [hw];simp) hb
 have HSP:=Lib.hid (split_any (ba s) (by rw [ba_size];omega) W)
 have HQ : Hid (∀ e w',SplitPost (ba s).data.toList W e w' → e = .returned (.tuple #[.slice none 0 0,.bool false]) ∧ Below W.heap.size W w'):=fun e w' h=>⟨h.2.1 hw,h.2.2⟩
 have H:=Lib.hid h
 clear h hw hs
 go_enter Tryz.func53,Tryz.ntmps53
 go_wp2_with fail
 refine HSP.out.mono ?_;intro e w1 h1
 obtain ⟨rfl,hb1⟩:=HQ.out _ _ h1
 have HB:=Lib.hid (bmore H.out.bel hb1)
 clear h1 hb1
 go_wp2_with fail
 go_ret
 exact HN.out _ HB.out
theorem line_cats (w : World) (rb : Nat) (c : Cv) (last : Int) (b : Bool) (s : List UInt8) (hs : s.length ≤ 100000) (W : World) (h : RD w rb c last W) (hT : WdTab w) (hn : FewC c) (hw : wordsB s = true) (hk : rankV ((fieldsC 32 s).headD []) = 0) :
  Calls Tryz.prog 53 #[.pointer (some ⟨rb,0,none⟩),.string (ba s),.bool b] W (LnPost w rb c last b s):=by
 obtain ⟨L,hL⟩ : ∃ L,L = fieldsC 32 s:=⟨_,rfl⟩
 have hsm : ∀ y ∈ L,y.length ≤ 100000000:=fun y hy=>by
  rw [hL] at hy
  have:=(fieldsC_mem 32 s y hy).2
  omega
 have hlL : L.length ≤ 100001:=by
  rw [hL,fieldsC_len]
  have:=List.count_le_length (a:=(32 : UInt8)) (l:=s);omega
 have hne : L ≠ []:=by rw [hL];exact fieldsC_ne 32 _
 have HSP:=Lib.hid (split_any (ba s) (by rw [ba_size];omega) W)
 have HQ : Hid (∀ e w',SplitPost (ba s).data.toList W e w' → (∃ a cap,e = .returned (.tuple #[.slice a L.length cap,.bool true]) ∧ RdW w' a cap L) ∧ Below W.heap.size W w'):=fun e w' h=>by rw [hL];exact ⟨h.1 hw,h.2.2⟩
 have HNO : Hid (ordB 0 b last = false → ∀ w',Below w.heap.size w w' → LnPost w rb c last b s (.returned (.bool false)) w'):=fun ho w' hb=>ln_no (by unfold lineV;rw [hk,if_neg (by rw [ho];simp)]) hb
 have HNL : Hid (L.length ≠ 2 → ∀ w',Below w.heap.size w w' → LnPost w rb c last b s (.returned (.bool false)) w'):=fun hl w' hb=>ln_no (by unfold lineV;rw [hk,if_neg (by rw [← hL];rintro ⟨_,_,_,h⟩;exact hl h)]) hb
 have HTK : Hid (∀ W' e w',ordB 0 b last = true → L.length = 2 → TkPost w rb c 0 0 L W' e w' → LnPost w rb c last b s e w'):=fun W' e w' ho hl h=>ln_take hL.symm (by rw [hL];exact hk) hw (by decide) ho hl h
 rw [← hL] at hk
 obtain ⟨x,r,rfl⟩ : ∃ x r,L = x :: r:=by cases L with
  | nil=>exact absurd rfl hne
  | cons x r=>exact ⟨x,r,rfl⟩
 have HRK:=fun W=>Lib.hid (rankOf_any (ba x) W)
 rw [ba_data,show rankV x = 0 from hk] at HRK
 have H:=Lib.hid h
 have h8:=h.ob.cell 8 _ rfl
 have HT:=Lib.hid hT
 rw [show (x :: r).length = r.length + 1 from rfl] at HQ
 clear hL hne hk hw h hs hT
 go_enter Tryz.func53,Tryz.ntmps53
 go_wp2_with fail
 refine HSP.out.mono ?_;intro e w1 h1
 obtain ⟨⟨a,cap,rfl,hR⟩,hb1⟩:=HQ.out _ _ h1
 obtain ⟨g,off,rfl,hg,hc⟩:=hR.at_ 0 (by simp)
 have c0 : w1.cell? ⟨g,off,none⟩ = some (.string (ba x)):=hc 0 (by simp)
 have hle:=hR.le
 have hmx : cap ≤ 9223372036854775807:=hR.mx
 rw [show (x :: r).length = r.length + 1 from rfl] at hle
 have H1:=Lib.hid (H.out.more hb1)
 have HC:=Lib.hid hc
 have t0 : w1.cell? ⟨1,0,none⟩ = some (.int .i64 2):=(HT.out.below H1.out.bel) 0 (by decide)
 have h8':=H1.out.ob.cell 8 _ rfl
 have ORD:=fun W h=>Lib.hid (order_any rb 0 b last W h)
 clear h1 hb1 hR hc
 cases ho : ordB 0 b last
 ·have HF:=Lib.hid (HNO.out ho)
  rw [ho] at ORD
  clear ho
  go_wp2_with (first | (go_at_call 80;refine ((HRK _).out).mono ?_;rintro e w2 ⟨rfl,rfl⟩) | (go_at_call 81;refine ((ORD _ h8').out).mono ?_;rintro e w2 ⟨rfl,rfl⟩))
  go_ret
  exact HF.out _ H1.out.bel
 ·rw [ho] at ORD
  by_cases hl : r.length + 1 = 2
  ·obtain ⟨v1,rfl⟩ : ∃ v1,r = [v1]:=by
    match r,hl with
    | [v1],_=>exact ⟨v1,rfl⟩
   have HTT:=fun W' e w' h=>Lib.hid (HTK.out W' e w' ho hl h)
   have nl : (((([v1].length : Nat) : Int) + 1) != 2) = false:=by rfl
   have f8:=H1.out.ob.free 8
   have HST:=Lib.hid (H1.out.setLast 0)
   have HCC : Hid (∀ j (hj : j < 2),(w1.setCell ⟨rb,8,none⟩ (.int .i64 0)).cell? ⟨g,off + j,none⟩ = some (.string (ba ([x,v1].getD j [])))):=fun j hj=>by
    have hcj:=HC.out j hj
    have hgr : rb ≠ g:=fun e=>by
     subst e
     have e8:=H1.out.ob
     unfold ObjAt at e8
     have : w1.cell? ⟨rb,off,none⟩ = some (.string (ba x)):=c0
     simp only [World.cell?,e8] at this
     rcases (by omega : off = 0 ∨ off = 1 ∨ off = 2 ∨ off = 3 ∨ off = 4 ∨ off = 5 ∨ off = 6 ∨ off = 7 ∨ off = 8 ∨ 9 ≤ off) with rfl | rfl | rfl | rfl | rfl | rfl | rfl | rfl | rfl | h9
     all_goals first | (simp at this;done) | (rw [List.getElem?_toArray,List.getElem?_eq_none (by simpa using h9)] at this;simp at this)
    rw [World.cell?_setCell_far _ _ _ _ hgr,hcj,List.getD_eq_getElem?_getD,List.getElem?_eq_getElem hj];rfl
   have HGG : Hid (g < (w1.setCell ⟨rb,8,none⟩ (.int .i64 0)).heap.size):=by simpa [World.setCell,Hid] using hg
   have HCN:=Lib.hid (plain_cats w rb c 0 x v1 hsm g off cap _ HST.out HGG.out HCC.out (by simp at hle;omega) (by unfold maxLen;omega) hn)
   clear ho hl HTK HNL HNO HC hsm
   go_wp2_with (first | (go_at_call 80;refine ((HRK _).out).mono ?_;rintro e w2 ⟨rfl,rfl⟩) | (go_at_call 81;refine ((ORD _ h8').out).mono ?_;rintro e w2 ⟨rfl,rfl⟩))
   refine HCN.out.mono ?_;intro e w3 h3
   have HLN:=HTT _ _ _ h3
   obtain ⟨bb,rfl⟩:=tk_shape h3
   clear h3
   go_wp2_with fail
   go_ret
   exact HLN.out
  ·have HF:=Lib.hid (HNL.out hl)
   have n1 : (((r.length : Nat) : Int) + 1 == 2) = false:=by rw [beq_eq_false_iff_ne];omega
   have n2 : (((r.length + 1 : Nat) : Int) == 2) = false:=by rw [beq_eq_false_iff_ne];omega
   have n3 : ((((r.length : Nat) : Int) + 1) != 2) = true:=by rw [bne_iff_ne];omega
   have n4 : (((r.length + 1 : Nat) : Int) != 2) = true:=by rw [bne_iff_ne];omega
   clear ho hl
   go_wp2_with (first | (go_at_call 80;refine ((HRK _).out).mono ?_;rintro e w2 ⟨rfl,rfl⟩) | (go_at_call 81;refine ((ORD _ h8').out).mono ?_;rintro e w2 ⟨rfl,rfl⟩))
   go_ret
   exact HF.out _ H1.out.bel
theorem line_guest (w : World) (rb : Nat) (c : Cv) (last : Int) (b : Bool) (s : List UInt8) (hs : s.length ≤ 100000) (W : World) (h : RD w rb c last W) (hT : WdTab w) (hn : FewC c) (hw : wordsB s = true) (hk : rankV ((fieldsC 32 s).headD []) = 1) :
  Calls Tryz.prog 53 #[.pointer (some ⟨rb,0,none⟩),.string (ba s),.bool b] W (LnPost w rb c last b s):=by
 obtain ⟨L,hL⟩ : ∃ L,L = fieldsC 32 s:=⟨_,rfl⟩
 have hsm : ∀ y ∈ L,y.length ≤ 100000000:=fun y hy=>by
  rw [hL] at hy
  have:=(fieldsC_mem 32 s y hy).2
  omega
 have hlL : L.length ≤ 100001:=by
  rw [hL,fieldsC_len]
  have:=List.count_le_length (a:=(32 : UInt8)) (l:=s);omega
 have hne : L ≠ []:=by rw [hL];exact fieldsC_ne 32 _
 have HSP:=Lib.hid (split_any (ba s) (by rw [ba_size];omega) W)
 have HQ : Hid (∀ e w',SplitPost (ba s).data.toList W e w' → (∃ a cap,e = .returned (.tuple #[.slice a L.length cap,.bool true]) ∧ RdW w' a cap L) ∧ Below W.heap.size W w'):=fun e w' h=>by rw [hL];exact ⟨h.1 hw,h.2.2⟩
 have HNO : Hid (ordB 1 b last = false → ∀ w',Below w.heap.size w w' → LnPost w rb c last b s (.returned (.bool false)) w'):=fun ho w' hb=>ln_no (by unfold lineV;rw [hk,if_neg (by rw [ho];simp)]) hb
 have HNL : Hid (L.length ≠ 4 → ∀ w',Below w.heap.size w w' → LnPost w rb c last b s (.returned (.bool false)) w'):=fun hl w' hb=>ln_no (by unfold lineV;rw [hk,if_neg (by rw [← hL];rintro ⟨_,_,_,h⟩;exact hl h)]) hb
 have HTK : Hid (∀ W' e w',ordB 1 b last = true → L.length = 4 → TkPost w rb c 1 1 L W' e w' → LnPost w rb c last b s e w'):=fun W' e w' ho hl h=>ln_take hL.symm (by rw [hL];exact hk) hw (by decide) ho hl h
 rw [← hL] at hk
 obtain ⟨x,r,rfl⟩ : ∃ x r,L = x :: r:=by cases L with
  | nil=>exact absurd rfl hne
  | cons x r=>exact ⟨x,r,rfl⟩
 have HRK:=fun W=>Lib.hid (rankOf_any (ba x) W)
 rw [ba_data,show rankV x = 1 from hk] at HRK
 have H:=Lib.hid h
 have h8:=h.ob.cell 8 _ rfl
 have HT:=Lib.hid hT
 rw [show (x :: r).length = r.length + 1 from rfl] at HQ
 clear hL hne hk hw h hs hT
 go_enter Tryz.func53,Tryz.ntmps53
 go_wp2_with fail
 refine HSP.out.mono ?_;intro e w1 h1
 obtain ⟨⟨a,cap,rfl,hR⟩,hb1⟩:=HQ.out _ _ h1
 obtain ⟨g,off,rfl,hg,hc⟩:=hR.at_ 0 (by simp)
 have c0 : w1.cell? ⟨g,off,none⟩ = some (.string (ba x)):=hc 0 (by simp)
 have hle:=hR.le
 have hmx : cap ≤ 9223372036854775807:=hR.mx
 rw [show (x :: r).length = r.length + 1 from rfl] at hle
 have H1:=Lib.hid (H.out.more hb1)
 have HC:=Lib.hid hc
 have t0 : w1.cell? ⟨1,1,none⟩ = some (.int .i64 4):=(HT.out.below H1.out.bel) 1 (by decide)
 have h8':=H1.out.ob.cell 8 _ rfl
 have ORD:=fun W h=>Lib.hid (order_any rb 1 b last W h)
 clear h1 hb1 hR hc
 cases ho : ordB 1 b last
 ·have HF:=Lib.hid (HNO.out ho)
  rw [ho] at ORD
  clear ho
  go_wp2_with (first | (go_at_call 80;refine ((HRK _).out).mono ?_;rintro e w2 ⟨rfl,rfl⟩) | (go_at_call 81;refine ((ORD _ h8').out).mono ?_;rintro e w2 ⟨rfl,rfl⟩))
  go_ret
  exact HF.out _ H1.out.bel
 ·rw [ho] at ORD
  by_cases hl : r.length + 1 = 4
  ·obtain ⟨v1,v2,v3,rfl⟩ : ∃ v1 v2 v3,r = [v1,v2,v3]:=by
    match r,hl with
    | [v1,v2,v3],_=>exact ⟨v1,v2,v3,rfl⟩
   have HTT:=fun W' e w' h=>Lib.hid (HTK.out W' e w' ho hl h)
   have nl : (((([v1,v2,v3].length : Nat) : Int) + 1) != 4) = false:=by rfl
   have f8:=H1.out.ob.free 8
   have HST:=Lib.hid (H1.out.setLast 1)
   have HCC : Hid (∀ j (hj : j < 4),(w1.setCell ⟨rb,8,none⟩ (.int .i64 1)).cell? ⟨g,off + j,none⟩ = some (.string (ba ([x,v1,v2,v3].getD j [])))):=fun j hj=>by
    have hcj:=HC.out j hj
    have hgr : rb ≠ g:=fun e=>by
     subst e
     have e8:=H1.out.ob
     unfold ObjAt at e8
     have : w1.cell? ⟨rb,off,none⟩ = some (.string (ba x)):=c0
     simp only [World.cell?,e8] at this
     rcases (by omega : off = 0 ∨ off = 1 ∨ off = 2 ∨ off = 3 ∨ off = 4 ∨ off = 5 ∨ off = 6 ∨ off = 7 ∨ off = 8 ∨ 9 ≤ off) with rfl | rfl | rfl | rfl | rfl | rfl | rfl | rfl | rfl | h9
     all_goals first | (simp at this;done) | (rw [List.getElem?_toArray,List.getElem?_eq_none (by simpa using h9)] at this;simp at this)
    rw [World.cell?_setCell_far _ _ _ _ hgr,hcj,List.getD_eq_getElem?_getD,List.getElem?_eq_getElem hj];rfl
   have HGG : Hid (g < (w1.setCell ⟨rb,8,none⟩ (.int .i64 1)).heap.size):=by simpa [World.setCell,Hid] using hg
   have HCN:=Lib.hid (labelled_guest w rb c 1 x v1 v2 v3 hsm g off cap _ HST.out HGG.out HCC.out (by simp at hle;omega) (by unfold maxLen;omega) hn)
   clear ho hl HTK HNL HNO HC hsm
   go_wp2_with (first | (go_at_call 80;refine ((HRK _).out).mono ?_;rintro e w2 ⟨rfl,rfl⟩) | (go_at_call 81;refine ((ORD _ h8').out).mono ?_;rintro e w2 ⟨rfl,rfl⟩))
   refine HCN.out.mono ?_;intro e w3 h3
   have HLN:=HTT _ _ _ h3
   obtain ⟨bb,rfl⟩:=tk_shape h3
   clear h3
   go_wp2_with fail
   go_ret
   exact HLN.out
  ·have HF:=Lib.hid (HNL.out hl)
   have n1 : (((r.length : Nat) : Int) + 1 == 4) = false:=by rw [beq_eq_false_iff_ne];omega
   have n2 : (((r.length + 1 : Nat) : Int) == 4) = false:=by rw [beq_eq_false_iff_ne];omega
   have n3 : ((((r.length : Nat) : Int) + 1) != 4) = true:=by rw [bne_iff_ne];omega
   have n4 : (((r.length + 1 : Nat) : Int) != 4) = true:=by rw [bne_iff_ne];omega
   clear ho hl
   go_wp2_with (first | (go_at_call 80;refine ((HRK _).out).mono ?_;rintro e w2 ⟨rfl,rfl⟩) | (go_at_call 81;refine ((ORD _ h8').out).mono ?_;rintro e w2 ⟨rfl,rfl⟩))
   go_ret
   exact HF.out _ H1.out.bel
theorem line_range (w : World) (rb : Nat) (c : Cv) (last : Int) (b : Bool) (s : List UInt8) (hs : s.length ≤ 100000) (W : World) (h : RD w rb c last W) (hT : WdTab w) (hn : FewC c) (hw : wordsB s = true) (hk : rankV ((fieldsC 32 s).headD []) = 2) :
  Calls Tryz.prog 53 #[.pointer (some ⟨rb,0,none⟩),.string (ba s),.bool b] W (LnPost w rb c last b s):=by
 obtain ⟨L,hL⟩ : ∃ L,L = fieldsC 32 s:=⟨_,rfl⟩
 have hsm : ∀ y ∈ L,y.length ≤ 100000000:=fun y hy=>by
  rw [hL] at hy
  have:=(fieldsC_mem 32 s y hy).2
  omega
 have hlL : L.length ≤ 100001:=by
  rw [hL,fieldsC_len]
  have:=List.count_le_length (a:=(32 : UInt8)) (l:=s);omega
 have hne : L ≠ []:=by rw [hL];exact fieldsC_ne 32 _
 have HSP:=Lib.hid (split_any (ba s) (by rw [ba_size];omega) W)
 have HQ : Hid (∀ e w',SplitPost (ba s).data.toList W e w' → (∃ a cap,e = .returned (.tuple #[.slice a L.length cap,.bool true]) ∧ RdW w' a cap L) ∧ Below W.heap.size W w'):=fun e w' h=>by rw [hL];exact ⟨h.1 hw,h.2.2⟩
 have HNO : Hid (ordB 2 b last = false → ∀ w',Below w.heap.size w w' → LnPost w rb c last b s (.returned (.bool false)) w'):=fun ho w' hb=>ln_no (by unfold lineV;rw [hk,if_neg (by rw [ho];simp)]) hb
 have HNL : Hid (L.length ≠ 4 → ∀ w',Below w.heap.size w w' → LnPost w rb c last b s (.returned (.bool false)) w'):=fun hl w' hb=>ln_no (by unfold lineV;rw [hk,if_neg (by rw [← hL];rintro ⟨_,_,_,h⟩;exact hl h)]) hb
 have HTK : Hid (∀ W' e w',ordB 2 b last = true → L.length = 4 → TkPost w rb c 2 2 L W' e w' → LnPost w rb c last b s e w'):=fun W' e w' ho hl h=>ln_take hL.symm (by rw [hL];exact hk) hw (by decide) ho hl h
 rw [← hL] at hk
 obtain ⟨x,r,rfl⟩ : ∃ x r,L = x :: r:=by cases L with
  | nil=>exact absurd rfl hne
  | cons x r=>exact ⟨x,r,rfl⟩
 have HRK:=fun W=>Lib.hid (rankOf_any (ba x) W)
 rw [ba_data,show rankV x = 2 from hk] at HRK
 have H:=Lib.hid h
 have h8:=h.ob.cell 8 _ rfl
 have HT:=Lib.hid hT
 rw [show (x :: r).length = r.length + 1 from rfl] at HQ
 clear hL hne hk hw h hs hT
 go_enter Tryz.func53,Tryz.ntmps53
 go_wp2_with fail
 refine HSP.out.mono ?_;intro e w1 h1
 obtain ⟨⟨a,cap,rfl,hR⟩,hb1⟩:=HQ.out _ _ h1
 obtain ⟨g,off,rfl,hg,hc⟩:=hR.at_ 0 (by simp)
 have c0 : w1.cell? ⟨g,off,none⟩ = some (.string (ba x)):=hc 0 (by simp)
 have hle:=hR.le
 have hmx : cap ≤ 9223372036854775807:=hR.mx
 rw [show (x :: r).length = r.length + 1 from rfl] at hle
 have H1:=Lib.hid (H.out.more hb1)
 have HC:=Lib.hid hc
 have t0 : w1.cell? ⟨1,2,none⟩ = some (.int .i64 4):=(HT.out.below H1.out.bel) 2 (by decide)
 have h8':=H1.out.ob.cell 8 _ rfl
 have ORD:=fun W h=>Lib.hid (order_any rb 2 b last W h)
 clear h1 hb1 hR hc
 cases ho : ordB 2 b last
 ·have HF:=Lib.hid (HNO.out ho)
  rw [ho] at ORD
  clear ho
  go_wp2_with (first | (go_at_call 80;refine ((HRK _).out).mono ?_;rintro e w2 ⟨rfl,rfl⟩) | (go_at_call 81;refine ((ORD _ h8').out).mono ?_;rintro e w2 ⟨rfl,rfl⟩))
  go_ret
  exact HF.out _ H1.out.bel
 ·rw [ho] at ORD
  by_cases hl : r.length + 1 = 4
  ·obtain ⟨v1,v2,v3,rfl⟩ : ∃ v1 v2 v3,r = [v1,v2,v3]:=by
    match r,hl with
    | [v1,v2,v3],_=>exact ⟨v1,v2,v3,rfl⟩
   have HTT:=fun W' e w' h=>Lib.hid (HTK.out W' e w' ho hl h)
   have nl : (((([v1,v2,v3].length : Nat) : Int) + 1) != 4) = false:=by rfl
   have f8:=H1.out.ob.free 8
   have HST:=Lib.hid (H1.out.setLast 2)
   have HCC : Hid (∀ j (hj : j < 4),(w1.setCell ⟨rb,8,none⟩ (.int .i64 2)).cell? ⟨g,off + j,none⟩ = some (.string (ba ([x,v1,v2,v3].getD j [])))):=fun j hj=>by
    have hcj:=HC.out j hj
    have hgr : rb ≠ g:=fun e=>by
     subst e
     have e8:=H1.out.ob
     unfold ObjAt at e8
     have : w1.cell? ⟨rb,off,none⟩ = some (.string (ba x)):=c0
     simp only [World.cell?,e8] at this
     rcases (by omega : off = 0 ∨ off = 1 ∨ off = 2 ∨ off = 3 ∨ off = 4 ∨ off = 5 ∨ off = 6 ∨ off = 7 ∨ off = 8 ∨ 9 ≤ off) with rfl | rfl | rfl | rfl | rfl | rfl | rfl | rfl | rfl | h9
     all_goals first | (simp at this;done) | (rw [List.getElem?_toArray,List.getElem?_eq_none (by simpa using h9)] at this;simp at this)
    rw [World.cell?_setCell_far _ _ _ _ hgr,hcj,List.getD_eq_getElem?_getD,List.getElem?_eq_getElem hj];rfl
   have HGG : Hid (g < (w1.setCell ⟨rb,8,none⟩ (.int .i64 2)).heap.size):=by simpa [World.setCell,Hid] using hg
   have HCN:=Lib.hid (labelled_range w rb c 2 x v1 v2 v3 hsm g off cap _ HST.out HGG.out HCC.out (by simp at hle;omega) (by unfold maxLen;omega) hn)
   clear ho hl HTK HNL HNO HC hsm
   go_wp2_with (first | (go_at_call 80;refine ((HRK _).out).mono ?_;rintro e w2 ⟨rfl,rfl⟩) | (go_at_call 81;refine ((ORD _ h8').out).mono ?_;rintro e w2 ⟨rfl,rfl⟩))
   refine HCN.out.mono ?_;intro e w3 h3
   have HLN:=HTT _ _ _ h3
   obtain ⟨bb,rfl⟩:=tk_shape h3
   clear h3
   go_wp2_with fail
   go_ret
   exact HLN.out
  ·have HF:=Lib.hid (HNL.out hl)
   have n1 : (((r.length : Nat) : Int) + 1 == 4) = false:=by rw [beq_eq_false_iff_ne];omega
   have n2 : (((r.length + 1 : Nat) : Int) == 4) = false:=by rw [beq_eq_false_iff_ne];omega
   have n3 : ((((r.length : Nat) : Int) + 1) != 4) = true:=by rw [bne_iff_ne];omega
   have n4 : (((r.length + 1 : Nat) : Int) != 4) = true:=by rw [bne_iff_ne];omega
   clear ho hl
   go_wp2_with (first | (go_at_call 80;refine ((HRK _).out).mono ?_;rintro e w2 ⟨rfl,rfl⟩) | (go_at_call 81;refine ((ORD _ h8').out).mono ?_;rintro e w2 ⟨rfl,rfl⟩))
   go_ret
   exact HF.out _ H1.out.bel
theorem line_port (w : World) (rb : Nat) (c : Cv) (last : Int) (b : Bool) (s : List UInt8) (hs : s.length ≤ 100000) (W : World) (h : RD w rb c last W) (hT : WdTab w) (hn : FewC c) (hw : wordsB s = true) (hk : rankV ((fieldsC 32 s).headD []) = 3) :
  Calls Tryz.prog 53 #[.pointer (some ⟨rb,0,none⟩),.string (ba s),.bool b] W (LnPost w rb c last b s):=by
 obtain ⟨L,hL⟩ : ∃ L,L = fieldsC 32 s:=⟨_,rfl⟩
 have hsm : ∀ y ∈ L,y.length ≤ 100000000:=fun y hy=>by
  rw [hL] at hy
  have:=(fieldsC_mem 32 s y hy).2
  omega
 have hlL : L.length ≤ 100001:=by
  rw [hL,fieldsC_len]
  have:=List.count_le_length (a:=(32 : UInt8)) (l:=s);omega
 have hne : L ≠ []:=by rw [hL];exact fieldsC_ne 32 _
 have HSP:=Lib.hid (split_any (ba s) (by rw [ba_size];omega) W)
 have HQ : Hid (∀ e w',SplitPost (ba s).data.toList W e w' → (∃ a cap,e = .returned (.tuple #[.slice a L.length cap,.bool true]) ∧ RdW w' a cap L) ∧ Below W.heap.size W w'):=fun e w' h=>by rw [hL];exact ⟨h.1 hw,h.2.2⟩
 have HNO : Hid (ordB 3 b last = false → ∀ w',Below w.heap.size w w' → LnPost w rb c last b s (.returned (.bool false)) w'):=fun ho w' hb=>ln_no (by unfold lineV;rw [hk,if_neg (by rw [ho];simp)]) hb
 have HNL : Hid (L.length ≠ 3 → ∀ w',Below w.heap.size w w' → LnPost w rb c last b s (.returned (.bool false)) w'):=fun hl w' hb=>ln_no (by unfold lineV;rw [hk,if_neg (by rw [← hL];rintro ⟨_,_,_,h⟩;exact hl h)]) hb
 have HTK : Hid (∀ W' e w',ordB 3 b last = true → L.length = 3 → TkPost w rb c 3 3 L W' e w' → LnPost w rb c last b s e w'):=fun W' e w' ho hl h=>ln_take hL.symm (by rw [hL];exact hk) hw (by decide) ho hl h
 rw [← hL] at hk
 obtain ⟨x,r,rfl⟩ : ∃ x r,L = x :: r:=by cases L with
  | nil=>exact absurd rfl hne
  | cons x r=>exact ⟨x,r,rfl⟩
 have HRK:=fun W=>Lib.hid (rankOf_any (ba x) W)
 rw [ba_data,show rankV x = 3 from hk] at HRK
 have H:=Lib.hid h
 have h8:=h.ob.cell 8 _ rfl
 have HT:=Lib.hid hT
 rw [show (x :: r).length = r.length + 1 from rfl] at HQ
 clear hL hne hk hw h hs hT
 go_enter Tryz.func53,Tryz.ntmps53
 go_wp2_with fail
 refine HSP.out.mono ?_;intro e w1 h1
 obtain ⟨⟨a,cap,rfl,hR⟩,hb1⟩:=HQ.out _ _ h1
 obtain ⟨g,off,rfl,hg,hc⟩:=hR.at_ 0 (by simp)
 have c0 : w1.cell? ⟨g,off,none⟩ = some (.string (ba x)):=hc 0 (by simp)
 have hle:=hR.le
 have hmx : cap ≤ 9223372036854775807:=hR.mx
 rw [show (x :: r).length = r.length + 1 from rfl] at hle
 have H1:=Lib.hid (H.out.more hb1)
 have HC:=Lib.hid hc
 have t0 : w1.cell? ⟨1,3,none⟩ = some (.int .i64 3):=(HT.out.below H1.out.bel) 3 (by decide)
 have h8':=H1.out.ob.cell 8 _ rfl
 have ORD:=fun W h=>Lib.hid (order_any rb 3 b last W h)
 clear h1 hb1 hR hc
 cases ho : ordB 3 b last
 ·have HF:=Lib.hid (HNO.out ho)
  rw [ho] at ORD
  clear ho
  go_wp2_with (first | (go_at_call 80;refine ((HRK _).out).mono ?_;rintro e w2 ⟨rfl,rfl⟩) | (go_at_call 81;refine ((ORD _ h8').out).mono ?_;rintro e w2 ⟨rfl,rfl⟩))
  go_ret
  exact HF.out _ H1.out.bel
 ·rw [ho] at ORD
  by_cases hl : r.length + 1 = 3
  ·obtain ⟨v1,v2,rfl⟩ : ∃ v1 v2,r = [v1,v2]:=by
    match r,hl with
    | [v1,v2],_=>exact ⟨v1,v2,rfl⟩
   have HTT:=fun W' e w' h=>Lib.hid (HTK.out W' e w' ho hl h)
   have nl : (((([v1,v2].length : Nat) : Int) + 1) != 3) = false:=by rfl
   have f8:=H1.out.ob.free 8
   have HST:=Lib.hid (H1.out.setLast 3)
   have HCC : Hid (∀ j (hj : j < 3),(w1.setCell ⟨rb,8,none⟩ (.int .i64 3)).cell? ⟨g,off + j,none⟩ = some (.string (ba ([x,v1,v2].getD j [])))):=fun j hj=>by
    have hcj:=HC.out j hj
    have hgr : rb ≠ g:=fun e=>by
     subst e
     have e8:=H1.out.ob
     unfold ObjAt at e8
     have : w1.cell? ⟨rb,off,none⟩ = some (.string (ba x)):=c0
     simp only [World.cell?,e8] at this
     rcases (by omega : off = 0 ∨ off = 1 ∨ off = 2 ∨ off = 3 ∨ off = 4 ∨ off = 5 ∨ off = 6 ∨ off = 7 ∨ off = 8 ∨ 9 ≤ off) with rfl | rfl | rfl | rfl | rfl | rfl | rfl | rfl | rfl | h9
     all_goals first | (simp at this;done) | (rw [List.getElem?_toArray,List.getElem?_eq_none (by simpa using h9)] at this;simp at this)
    rw [World.cell?_setCell_far _ _ _ _ hgr,hcj,List.getD_eq_getElem?_getD,List.getElem?_eq_getElem hj];rfl
   have HGG : Hid (g < (w1.setCell ⟨rb,8,none⟩ (.int .i64 3)).heap.size):=by simpa [World.setCell,Hid] using hg
   have HCN:=Lib.hid (labelled_port w rb c 3 x v1 v2 hsm g off cap _ HST.out HGG.out HCC.out (by simp at hle;omega) (by unfold maxLen;omega) hn)
   clear ho hl HTK HNL HNO HC hsm
   go_wp2_with (first | (go_at_call 80;refine ((HRK _).out).mono ?_;rintro e w2 ⟨rfl,rfl⟩) | (go_at_call 81;refine ((ORD _ h8').out).mono ?_;rintro e w2 ⟨rfl,rfl⟩))
   refine HCN.out.mono ?_;intro e w3 h3
   have HLN:=HTT _ _ _ h3
   obtain ⟨bb,rfl⟩:=tk_shape h3
   clear h3
   go_wp2_with fail
   go_ret
   exact HLN.out
  ·have HF:=Lib.hid (HNL.out hl)
   have n1 : (((r.length : Nat) : Int) + 1 == 3) = false:=by rw [beq_eq_false_iff_ne];omega
   have n2 : (((r.length + 1 : Nat) : Int) == 3) = false:=by rw [beq_eq_false_iff_ne];omega
   have n3 : ((((r.length : Nat) : Int) + 1) != 3) = true:=by rw [bne_iff_ne];omega
   have n4 : (((r.length + 1 : Nat) : Int) != 3) = true:=by rw [bne_iff_ne];omega
   clear ho hl
   go_wp2_with (first | (go_at_call 80;refine ((HRK _).out).mono ?_;rintro e w2 ⟨rfl,rfl⟩) | (go_at_call 81;refine ((ORD _ h8').out).mono ?_;rintro e w2 ⟨rfl,rfl⟩))
   go_ret
   exact HF.out _ H1.out.bel
theorem line_ring (w : World) (rb : Nat) (c : Cv) (last : Int) (b : Bool) (s : List UInt8) (hs : s.length ≤ 100000) (W : World) (h : RD w rb c last W) (hT : WdTab w) (hn : FewC c) (hw : wordsB s = true) (hk : rankV ((fieldsC 32 s).headD []) = 4) :
  Calls Tryz.prog 53 #[.pointer (some ⟨rb,0,none⟩),.string (ba s),.bool b] W (LnPost w rb c last b s):=by
 obtain ⟨L,hL⟩ : ∃ L,L = fieldsC 32 s:=⟨_,rfl⟩
 have hsm : ∀ y ∈ L,y.length ≤ 100000000:=fun y hy=>by
  rw [hL] at hy
  have:=(fieldsC_mem 32 s y hy).2
  omega
 have hlL : L.length ≤ 100001:=by
  rw [hL,fieldsC_len]
  have:=List.count_le_length (a:=(32 : UInt8)) (l:=s);omega
 have hne : L ≠ []:=by rw [hL];exact fieldsC_ne 32 _
 have HSP:=Lib.hid (split_any (ba s) (by rw [ba_size];omega) W)
 have HQ : Hid (∀ e w',SplitPost (ba s).data.toList W e w' → (∃ a cap,e = .returned (.tuple #[.slice a L.length cap,.bool true]) ∧ RdW w' a cap L) ∧ Below W.heap.size W w'):=fun e w' h=>by rw [hL];exact ⟨h.1 hw,h.2.2⟩
 have HNO : Hid (ordB 4 b last = false → ∀ w',Below w.heap.size w w' → LnPost w rb c last b s (.returned (.bool false)) w'):=fun ho w' hb=>ln_no (by unfold lineV;rw [hk,if_neg (by rw [ho];simp)]) hb
 have HNL : Hid (L.length ≠ 3 → ∀ w',Below w.heap.size w w' → LnPost w rb c last b s (.returned (.bool false)) w'):=fun hl w' hb=>ln_no (by unfold lineV;rw [hk,if_neg (by rw [← hL];rintro ⟨_,_,_,h⟩;exact hl h)]) hb
 have HTK : Hid (∀ W' e w',ordB 4 b last = true → L.length = 3 → TkPost w rb c 4 4 L W' e w' → LnPost w rb c last b s e w'):=fun W' e w' ho hl h=>ln_take hL.symm (by rw [hL];exact hk) hw (by decide) ho hl h
 rw [← hL] at hk
 obtain ⟨x,r,rfl⟩ : ∃ x r,L = x :: r:=by cases L with
  | nil=>exact absurd rfl hne
  | cons x r=>exact ⟨x,r,rfl⟩
 have HRK:=fun W=>Lib.hid (rankOf_any (ba x) W)
 rw [ba_data,show rankV x = 4 from hk] at HRK
 have H:=Lib.hid h
 have h8:=h.ob.cell 8 _ rfl
 have HT:=Lib.hid hT
 rw [show (x :: r).length = r.length + 1 from rfl] at HQ
 clear hL hne hk hw h hs hT
 go_enter Tryz.func53,Tryz.ntmps53
 go_wp2_with fail
 refine HSP.out.mono ?_;intro e w1 h1
 obtain ⟨⟨a,cap,rfl,hR⟩,hb1⟩:=HQ.out _ _ h1
 obtain ⟨g,off,rfl,hg,hc⟩:=hR.at_ 0 (by simp)
 have c0 : w1.cell? ⟨g,off,none⟩ = some (.string (ba x)):=hc 0 (by simp)
 have hle:=hR.le
 have hmx : cap ≤ 9223372036854775807:=hR.mx
 rw [show (x :: r).length = r.length + 1 from rfl] at hle
 have H1:=Lib.hid (H.out.more hb1)
 have HC:=Lib.hid hc
 have t0 : w1.cell? ⟨1,4,none⟩ = some (.int .i64 3):=(HT.out.below H1.out.bel) 4 (by decide)
 have h8':=H1.out.ob.cell 8 _ rfl
 have ORD:=fun W h=>Lib.hid (order_any rb 4 b last W h)
 clear h1 hb1 hR hc
 cases ho : ordB 4 b last
 ·have HF:=Lib.hid (HNO.out ho)
  rw [ho] at ORD
  clear ho
  go_wp2_with (first | (go_at_call 80;refine ((HRK _).out).mono ?_;rintro e w2 ⟨rfl,rfl⟩) | (go_at_call 81;refine ((ORD _ h8').out).mono ?_;rintro e w2 ⟨rfl,rfl⟩))
  go_ret
  exact HF.out _ H1.out.bel
 ·rw [ho] at ORD
  by_cases hl : r.length + 1 = 3
  ·obtain ⟨v1,v2,rfl⟩ : ∃ v1 v2,r = [v1,v2]:=by
    match r,hl with
    | [v1,v2],_=>exact ⟨v1,v2,rfl⟩
   have HTT:=fun W' e w' h=>Lib.hid (HTK.out W' e w' ho hl h)
   have nl : (((([v1,v2].length : Nat) : Int) + 1) != 3) = false:=by rfl
   have f8:=H1.out.ob.free 8
   have HST:=Lib.hid (H1.out.setLast 4)
   have HCC : Hid (∀ j (hj : j < 3),(w1.setCell ⟨rb,8,none⟩ (.int .i64 4)).cell? ⟨g,off + j,none⟩ = some (.string (ba ([x,v1,v2].getD j [])))):=fun j hj=>by
    have hcj:=HC.out j hj
    have hgr : rb ≠ g:=fun e=>by
     subst e
     have e8:=H1.out.ob
     unfold ObjAt at e8
     have : w1.cell? ⟨rb,off,none⟩ = some (.string (ba x)):=c0
     simp only [World.cell?,e8] at this
     rcases (by omega : off = 0 ∨ off = 1 ∨ off = 2 ∨ off = 3 ∨ off = 4 ∨ off = 5 ∨ off = 6 ∨ off = 7 ∨ off = 8 ∨ 9 ≤ off) with rfl | rfl | rfl | rfl | rfl | rfl | rfl | rfl | rfl | h9
     all_goals first | (simp at this;done) | (rw [List.getElem?_toArray,List.getElem?_eq_none (by simpa using h9)] at this;simp at this)
    rw [World.cell?_setCell_far _ _ _ _ hgr,hcj,List.getD_eq_getElem?_getD,List.getElem?_eq_getElem hj];rfl
   have HGG : Hid (g < (w1.setCell ⟨rb,8,none⟩ (.int .i64 4)).heap.size):=by simpa [World.setCell,Hid] using hg
   have HCN:=Lib.hid (plain_ring w rb c 4 x v1 v2 hsm g off cap _ HST.out HGG.out HCC.out (by simp at hle;omega) (by unfold maxLen;omega) hn)
   clear ho hl HTK HNL HNO HC hsm
   go_wp2_with (first | (go_at_call 80;refine ((HRK _).out).mono ?_;rintro e w2 ⟨rfl,rfl⟩) | (go_at_call 81;refine ((ORD _ h8').out).mono ?_;rintro e w2 ⟨rfl,rfl⟩))
   refine HCN.out.mono ?_;intro e w3 h3
   have HLN:=HTT _ _ _ h3
   obtain ⟨bb,rfl⟩:=tk_shape h3
   clear h3
   go_wp2_with fail
   go_ret
   exact HLN.out
  ·have HF:=Lib.hid (HNL.out hl)
   have n1 : (((r.length : Nat) : Int) + 1 == 3) = false:=by rw [beq_eq_false_iff_ne];omega
   have n2 : (((r.length + 1 : Nat) : Int) == 3) = false:=by rw [beq_eq_false_iff_ne];omega
   have n3 : ((((r.length : Nat) : Int) + 1) != 3) = true:=by rw [bne_iff_ne];omega
   have n4 : (((r.length + 1 : Nat) : Int) != 3) = true:=by rw [bne_iff_ne];omega
   clear ho hl
   go_wp2_with (first | (go_at_call 80;refine ((HRK _).out).mono ?_;rintro e w2 ⟨rfl,rfl⟩) | (go_at_call 81;refine ((ORD _ h8').out).mono ?_;rintro e w2 ⟨rfl,rfl⟩))
   go_ret
   exact HF.out _ H1.out.bel
theorem line_slot (w : World) (rb : Nat) (c : Cv) (last : Int) (b : Bool) (s : List UInt8) (hs : s.length ≤ 100000) (W : World) (h : RD w rb c last W) (hT : WdTab w) (hn : FewC c) (hw : wordsB s = true) (hk : rankV ((fieldsC 32 s).headD []) = 5) :
  Calls Tryz.prog 53 #[.pointer (some ⟨rb,0,none⟩),.string (ba s),.bool b] W (LnPost w rb c last b s):=by
 obtain ⟨L,hL⟩ : ∃ L,L = fieldsC 32 s:=⟨_,rfl⟩
 have hsm : ∀ y ∈ L,y.length ≤ 100000000:=fun y hy=>by
  rw [hL] at hy
  have:=(fieldsC_mem 32 s y hy).2
  omega
 have hlL : L.length ≤ 100001:=by
  rw [hL,fieldsC_len]
  have:=List.count_le_length (a:=(32 : UInt8)) (l:=s);omega
 have hne : L ≠ []:=by rw [hL];exact fieldsC_ne 32 _
 have HSP:=Lib.hid (split_any (ba s) (by rw [ba_size];omega) W)
 have HQ : Hid (∀ e w',SplitPost (ba s).data.toList W e w' → (∃ a cap,e = .returned (.tuple #[.slice a L.length cap,.bool true]) ∧ RdW w' a cap L) ∧ Below W.heap.size W w'):=fun e w' h=>by rw [hL];exact ⟨h.1 hw,h.2.2⟩
 have HNO : Hid (ordB 5 b last = false → ∀ w',Below w.heap.size w w' → LnPost w rb c last b s (.returned (.bool false)) w'):=fun ho w' hb=>ln_no (by unfold lineV;rw [hk,if_neg (by rw [ho];simp)]) hb
 have HNL : Hid (L.length ≠ 3 → ∀ w',Below w.heap.size w w' → LnPost w rb c last b s (.returned (.bool false)) w'):=fun hl w' hb=>ln_no (by unfold lineV;rw [hk,if_neg (by rw [← hL];rintro ⟨_,_,_,h⟩;exact hl h)]) hb
 have HTK : Hid (∀ W' e w',ordB 5 b last = true → L.length = 3 → TkPost w rb c 5 5 L W' e w' → LnPost w rb c last b s e w'):=fun W' e w' ho hl h=>ln_take hL.symm (by rw [hL];exact hk) hw (by decide) ho hl h
 rw [← hL] at hk
 obtain ⟨x,r,rfl⟩ : ∃ x r,L = x :: r:=by cases L with
  | nil=>exact absurd rfl hne
  | cons x r=>exact ⟨x,r,rfl⟩
 have HRK:=fun W=>Lib.hid (rankOf_any (ba x) W)
 rw [ba_data,show rankV x = 5 from hk] at HRK
 have H:=Lib.hid h
 have h8:=h.ob.cell 8 _ rfl
 have HT:=Lib.hid hT
 rw [show (x :: r).length = r.length + 1 from rfl] at HQ
 clear hL hne hk hw h hs hT
 go_enter Tryz.func53,Tryz.ntmps53
 go_wp2_with fail
 refine HSP.out.mono ?_;intro e w1 h1
 obtain ⟨⟨a,cap,rfl,hR⟩,hb1⟩:=HQ.out _ _ h1
 obtain ⟨g,off,rfl,hg,hc⟩:=hR.at_ 0 (by simp)
 have c0 : w1.cell? ⟨g,off,none⟩ = some (.string (ba x)):=hc 0 (by simp)
 have hle:=hR.le
 have hmx : cap ≤ 9223372036854775807:=hR.mx
 rw [show (x :: r).length = r.length + 1 from rfl] at hle
 have H1:=Lib.hid (H.out.more hb1)
 have HC:=Lib.hid hc
 have t0 : w1.cell? ⟨1,5,none⟩ = some (.int .i64 3):=(HT.out.below H1.out.bel) 5 (by decide)
 have h8':=H1.out.ob.cell 8 _ rfl
 have ORD:=fun W h=>Lib.hid (order_any rb 5 b last W h)
 clear h1 hb1 hR hc
 cases ho : ordB 5 b last
 ·have HF:=Lib.hid (HNO.out ho)
  rw [ho] at ORD
  clear ho
  go_wp2_with (first | (go_at_call 80;refine ((HRK _).out).mono ?_;rintro e w2 ⟨rfl,rfl⟩) | (go_at_call 81;refine ((ORD _ h8').out).mono ?_;rintro e w2 ⟨rfl,rfl⟩))
  go_ret
  exact HF.out _ H1.out.bel
 ·rw [ho] at ORD
  by_cases hl : r.length + 1 = 3
  ·obtain ⟨v1,v2,rfl⟩ : ∃ v1 v2,r = [v1,v2]:=by
    match r,hl with
    | [v1,v2],_=>exact ⟨v1,v2,rfl⟩
   have HTT:=fun W' e w' h=>Lib.hid (HTK.out W' e w' ho hl h)
   have nl : (((([v1,v2].length : Nat) : Int) + 1) != 3) = false:=by rfl
   have f8:=H1.out.ob.free 8
   have HST:=Lib.hid (H1.out.setLast 5)
   have HCC : Hid (∀ j (hj : j < 3),(w1.setCell ⟨rb,8,none⟩ (.int .i64 5)).cell? ⟨g,off + j,none⟩ = some (.string (ba ([x,v1,v2].getD j [])))):=fun j hj=>by
    have hcj:=HC.out j hj
    have hgr : rb ≠ g:=fun e=>by
     subst e
     have e8:=H1.out.ob
     unfold ObjAt at e8
     have : w1.cell? ⟨rb,off,none⟩ = some (.string (ba x)):=c0
     simp only [World.cell?,e8] at this
     rcases (by omega : off = 0 ∨ off = 1 ∨ off = 2 ∨ off = 3 ∨ off = 4 ∨ off = 5 ∨ off = 6 ∨ off = 7 ∨ off = 8 ∨ 9 ≤ off) with rfl | rfl | rfl | rfl | rfl | rfl | rfl | rfl | rfl | h9
     all_goals first | (simp at this;done) | (rw [List.getElem?_toArray,List.getElem?_eq_none (by simpa using h9)] at this;simp at this)
    rw [World.cell?_setCell_far _ _ _ _ hgr,hcj,List.getD_eq_getElem?_getD,List.getElem?_eq_getElem hj];rfl
   have HGG : Hid (g < (w1.setCell ⟨rb,8,none⟩ (.int .i64 5)).heap.size):=by simpa [World.setCell,Hid] using hg
   have HCN:=Lib.hid (plain_slot w rb c 5 x v1 v2 hsm g off cap _ HST.out HGG.out HCC.out (by simp at hle;omega) (by unfold maxLen;omega) hn)
   clear ho hl HTK HNL HNO HC hsm
   go_wp2_with (first | (go_at_call 80;refine ((HRK _).out).mono ?_;rintro e w2 ⟨rfl,rfl⟩) | (go_at_call 81;refine ((ORD _ h8').out).mono ?_;rintro e w2 ⟨rfl,rfl⟩))
   refine HCN.out.mono ?_;intro e w3 h3
   have HLN:=HTT _ _ _ h3
   obtain ⟨bb,rfl⟩:=tk_shape h3
   clear h3
   go_wp2_with fail
   go_ret
   exact HLN.out
  ·have HF:=Lib.hid (HNL.out hl)
   have n1 : (((r.length : Nat) : Int) + 1 == 3) = false:=by rw [beq_eq_false_iff_ne];omega
   have n2 : (((r.length + 1 : Nat) : Int) == 3) = false:=by rw [beq_eq_false_iff_ne];omega
   have n3 : ((((r.length : Nat) : Int) + 1) != 3) = true:=by rw [bne_iff_ne];omega
   have n4 : (((r.length + 1 : Nat) : Int) != 3) = true:=by rw [bne_iff_ne];omega
   clear ho hl
   go_wp2_with (first | (go_at_call 80;refine ((HRK _).out).mono ?_;rintro e w2 ⟨rfl,rfl⟩) | (go_at_call 81;refine ((ORD _ h8').out).mono ?_;rintro e w2 ⟨rfl,rfl⟩))
   go_ret
   exact HF.out _ H1.out.bel
theorem line_gate (w : World) (rb : Nat) (c : Cv) (last : Int) (b : Bool) (s : List UInt8) (hs : s.length ≤ 100000) (W : World) (h : RD w rb c last W) (hT : WdTab w) (hn : FewC c) (hw : wordsB s = true) (hk : rankV ((fieldsC 32 s).headD []) = 6) :
  Calls Tryz.prog 53 #[.pointer (some ⟨rb,0,none⟩),.string (ba s),.bool b] W (LnPost w rb c last b s):=by
 obtain ⟨L,hL⟩ : ∃ L,L = fieldsC 32 s:=⟨_,rfl⟩
 have hsm : ∀ y ∈ L,y.length ≤ 100000000:=fun y hy=>by
  rw [hL] at hy
  have:=(fieldsC_mem 32 s y hy).2
  omega
 have hlL : L.length ≤ 100001:=by
  rw [hL,fieldsC_len]
  have:=List.count_le_length (a:=(32 : UInt8)) (l:=s);omega
 have hne : L ≠ []:=by rw [hL];exact fieldsC_ne 32 _
 have HSP:=Lib.hid (split_any (ba s) (by rw [ba_size];omega) W)
 have HQ : Hid (∀ e w',SplitPost (ba s).data.toList W e w' → (∃ a cap,e = .returned (.tuple #[.slice a L.length cap,.bool true]) ∧ RdW w' a cap L) ∧ Below W.heap.size W w'):=fun e w' h=>by rw [hL];exact ⟨h.1 hw,h.2.2⟩
 have HNO : Hid (ordB 6 b last = false → ∀ w',Below w.heap.size w w' → LnPost w rb c last b s (.returned (.bool false)) w'):=fun ho w' hb=>ln_no (by unfold lineV;rw [hk,if_neg (by rw [ho];simp)]) hb
 have HNL : Hid (L.length ≠ 3 → ∀ w',Below w.heap.size w w' → LnPost w rb c last b s (.returned (.bool false)) w'):=fun hl w' hb=>ln_no (by unfold lineV;rw [hk,if_neg (by rw [← hL];rintro ⟨_,_,_,h⟩;exact hl h)]) hb
 have HTK : Hid (∀ W' e w',ordB 6 b last = true → L.length = 3 → TkPost w rb c 6 6 L W' e w' → LnPost w rb c last b s e w'):=fun W' e w' ho hl h=>ln_take hL.symm (by rw [hL];exact hk) hw (by decide) ho hl h
 rw [← hL] at hk
 obtain ⟨x,r,rfl⟩ : ∃ x r,L = x :: r:=by cases L with
  | nil=>exact absurd rfl hne
  | cons x r=>exact ⟨x,r,rfl⟩
 have HRK:=fun W=>Lib.hid (rankOf_any (ba x) W)
 rw [ba_data,show rankV x = 6 from hk] at HRK
 have H:=Lib.hid h
 have h8:=h.ob.cell 8 _ rfl
 have HT:=Lib.hid hT
 rw [show (x :: r).length = r.length + 1 from rfl] at HQ
 clear hL hne hk hw h hs hT
 go_enter Tryz.func53,Tryz.ntmps53
 go_wp2_with fail
 refine HSP.out.mono ?_;intro e w1 h1
 obtain ⟨⟨a,cap,rfl,hR⟩,hb1⟩:=HQ.out _ _ h1
 obtain ⟨g,off,rfl,hg,hc⟩:=hR.at_ 0 (by simp)
 have c0 : w1.cell? ⟨g,off,none⟩ = some (.string (ba x)):=hc 0 (by simp)
 have hle:=hR.le
 have hmx : cap ≤ 9223372036854775807:=hR.mx
 rw [show (x :: r).length = r.length + 1 from rfl] at hle
 have H1:=Lib.hid (H.out.more hb1)
 have HC:=Lib.hid hc
 have t0 : w1.cell? ⟨1,6,none⟩ = some (.int .i64 3):=(HT.out.below H1.out.bel) 6 (by decide)
 have h8':=H1.out.ob.cell 8 _ rfl
 have ORD:=fun W h=>Lib.hid (order_any rb 6 b last W h)
 clear h1 hb1 hR hc
 cases ho : ordB 6 b last
 ·have HF:=Lib.hid (HNO.out ho)
  rw [ho] at ORD
  clear ho
  go_wp2_with (first | (go_at_call 80;refine ((HRK _).out).mono ?_;rintro e w2 ⟨rfl,rfl⟩) | (go_at_call 81;refine ((ORD _ h8').out).mono ?_;rintro e w2 ⟨rfl,rfl⟩))
  go_ret
  exact HF.out _ H1.out.bel
 ·rw [ho] at ORD
  by_cases hl : r.length + 1 = 3
  ·obtain ⟨v1,v2,rfl⟩ : ∃ v1 v2,r = [v1,v2]:=by
    match r,hl with
    | [v1,v2],_=>exact ⟨v1,v2,rfl⟩
   have HTT:=fun W' e w' h=>Lib.hid (HTK.out W' e w' ho hl h)
   have nl : (((([v1,v2].length : Nat) : Int) + 1) != 3) = false:=by rfl
   have f8:=H1.out.ob.free 8
   have HST:=Lib.hid (H1.out.setLast 6)
   have HCC : Hid (∀ j (hj : j < 3),(w1.setCell ⟨rb,8,none⟩ (.int .i64 6)).cell? ⟨g,off + j,none⟩ = some (.string (ba ([x,v1,v2].getD j [])))):=fun j hj=>by
    have hcj:=HC.out j hj
    have hgr : rb ≠ g:=fun e=>by
     subst e
     have e8:=H1.out.ob
     unfold ObjAt at e8
     have : w1.cell? ⟨rb,off,none⟩ = some (.string (ba x)):=c0
     simp only [World.cell?,e8] at this
     rcases (by omega : off = 0 ∨ off = 1 ∨ off = 2 ∨ off = 3 ∨ off = 4 ∨ off = 5 ∨ off = 6 ∨ off = 7 ∨ off = 8 ∨ 9 ≤ off) with rfl | rfl | rfl | rfl | rfl | rfl | rfl | rfl | rfl | h9
     all_goals first | (simp at this;done) | (rw [List.getElem?_toArray,List.getElem?_eq_none (by simpa using h9)] at this;simp at this)
    rw [World.cell?_setCell_far _ _ _ _ hgr,hcj,List.getD_eq_getElem?_getD,List.getElem?_eq_getElem hj];rfl
   have HGG : Hid (g < (w1.setCell ⟨rb,8,none⟩ (.int .i64 6)).heap.size):=by simpa [World.setCell,Hid] using hg
   have HCN:=Lib.hid (plain_gate w rb c 6 x v1 v2 hsm g off cap _ HST.out HGG.out HCC.out (by simp at hle;omega) (by unfold maxLen;omega) hn)
   clear ho hl HTK HNL HNO HC hsm
   go_wp2_with (first | (go_at_call 80;refine ((HRK _).out).mono ?_;rintro e w2 ⟨rfl,rfl⟩) | (go_at_call 81;refine ((ORD _ h8').out).mono ?_;rintro e w2 ⟨rfl,rfl⟩))
   refine HCN.out.mono ?_;intro e w3 h3
   have HLN:=HTT _ _ _ h3
   obtain ⟨bb,rfl⟩:=tk_shape h3
   clear h3
   go_wp2_with fail
   go_ret
   exact HLN.out
  ·have HF:=Lib.hid (HNL.out hl)
   have n1 : (((r.length : Nat) : Int) + 1 == 3) = false:=by rw [beq_eq_false_iff_ne];omega
   have n2 : (((r.length + 1 : Nat) : Int) == 3) = false:=by rw [beq_eq_false_iff_ne];omega
   have n3 : ((((r.length : Nat) : Int) + 1) != 3) = true:=by rw [bne_iff_ne];omega
   have n4 : (((r.length + 1 : Nat) : Int) != 3) = true:=by rw [bne_iff_ne];omega
   clear ho hl
   go_wp2_with (first | (go_at_call 80;refine ((HRK _).out).mono ?_;rintro e w2 ⟨rfl,rfl⟩) | (go_at_call 81;refine ((ORD _ h8').out).mono ?_;rintro e w2 ⟨rfl,rfl⟩))
   go_ret
   exact HF.out _ H1.out.bel
theorem line_other (w : World) (rb : Nat) (c : Cv) (last : Int) (b : Bool) (s : List UInt8) (hs : s.length ≤ 100000) (W : World) (h : RD w rb c last W) (hw : wordsB s = true) (hk : rankV ((fieldsC 32 s).headD []) = 7) :
  Calls Tryz.prog 53 #[.pointer (some ⟨rb,0,none⟩),.string (ba s),.bool b] W (LnPost w rb c last b s):=by
 obtain ⟨L,hL⟩ : ∃ L,L = fieldsC 32 s:=⟨_,rfl⟩
 have hlL : L.length ≤ 100001:=by
  rw [hL,fieldsC_len]
  have:=List.count_le_length (a:=(32 : UInt8)) (l:=s);omega
 have hne : L ≠ []:=by rw [hL];exact fieldsC_ne 32 _
 have HSP:=Lib.hid (split_any (ba s) (by rw [ba_size];omega) W)
 have HQ : Hid (∀ e w',SplitPost (ba s).data.toList W e w' → (∃ a cap,e = .returned (.tuple #[.slice a L.length cap,.bool true]) ∧ RdW w' a cap L) ∧ Below W.heap.size W w'):=fun e w' h=>by rw [hL];exact ⟨h.1 hw,h.2.2⟩
 have HNO : Hid (∀ w',Below w.heap.size w w' → LnPost w rb c last b s (.returned (.bool false)) w'):=fun w' hb=>ln_no (by unfold lineV;rw [hk,if_neg (by omega)]) hb
 rw [← hL] at hk
 obtain ⟨x,r,rfl⟩ : ∃ x r,L = x :: r:=by cases L with
  | nil=>exact absurd rfl hne
  | cons x r=>exact ⟨x,r,rfl⟩
 have HRK:=fun W=>Lib.hid (rankOf_any (ba x) W)
 rw [ba_data,show rankV x = 7 from hk] at HRK
 have H:=Lib.hid h
 rw [show (x :: r).length = r.length + 1 from rfl] at HQ
 clear hL hne hk hw h hs
 go_enter Tryz.func53,Tryz.ntmps53
 go_wp2_with fail
 refine HSP.out.mono ?_;intro e w1 h1
 obtain ⟨⟨a,cap,rfl,hR⟩,hb1⟩:=HQ.out _ _ h1
 obtain ⟨g,off,rfl,hg,hc⟩:=hR.at_ 0 (by simp)
 have c0 : w1.cell? ⟨g,off,none⟩ = some (.string (ba x)):=hc 0 (by simp)
 have hle:=hR.le
 have hmx : cap ≤ 9223372036854775807:=hR.mx
 rw [show (x :: r).length = r.length + 1 from rfl] at hle
 have H1:=Lib.hid (H.out.more hb1)
 clear h1 hb1 hR hc
 go_wp2_with (go_at_call 80;refine ((HRK _).out).mono ?_;rintro e w2 ⟨rfl,rfl⟩)
 go_ret
 exact HNO.out _ H1.out.bel
/-- A line. -/
theorem line_any (w : World) (rb : Nat) (c : Cv) (last : Int) (b : Bool) (s : List UInt8) (hs : s.length ≤ 100000) (W : World) (h : RD w rb c last W) (hT : WdTab w) (hn : FewC c) :
  Calls Tryz.prog 53 #[.pointer (some ⟨rb,0,none⟩),.string (ba s),.bool b] W (LnPost w rb c last b s):=by
 by_cases hw : wordsB s = true
 ·have hle:=rankV_le ((fieldsC 32 s).headD [])
  rcases (by omega : rankV ((fieldsC 32 s).headD []) = 0 ∨ rankV ((fieldsC 32 s).headD []) = 1 ∨ rankV ((fieldsC 32 s).headD []) = 2 ∨ rankV ((fieldsC 32 s).headD []) = 3 ∨ rankV ((fieldsC 32 s).headD []) = 4 ∨ rankV ((fieldsC 32 s).headD []) = 5 ∨ rankV ((fieldsC 32 s).headD []) = 6 ∨ rankV ((fieldsC 32 s).headD []) = 7) with hk | hk | hk | hk | hk | hk | hk | hk
  ·exact line_cats w rb c last b s hs W h hT hn hw hk
  ·exact line_guest w rb c last b s hs W h hT hn hw hk
  ·exact line_range w rb c last b s hs W h hT hn hw hk
  ·exact line_port w rb c last b s hs W h hT hn hw hk
  ·exact line_ring w rb c last b s hs W h hT hn hw hk
  ·exact line_slot w rb c last b s hs W h hT hn hw hk
  ·exact line_gate w rb c last b s hs W h hT hn hw hk
  ·exact line_other w rb c last b s hs W h hw hk
 ·exact line_none w rb c last b s hs W h (by simpa using hw)
end Go.Proofs.YtoklonmiejdgmaaGreatDoor
/- Chapter 4: what is wrong: guests, slots, rings, ports. -/
namespace Go.Proofs.YtoklonmiejdgmaaGreatDoor
set_option linter.unusedVariables false
set_option linter.unusedSimpArgs false
set_option linter.unnecessarySimpa false
open Go.RowKit
set_option maxHeartbeats 2000000
set_option maxRecDepth 100000
set_option linter.unusedVariables false
def at_ (l : List (List Int)) (i j : Nat) : Int:=(l.getD i []).getD j 0
theorem at_eq {l : List (List Int)} {i : Nat} (hi : i < l.length) (j : Nat) : at_ l i j = l[i].getD j 0:=by unfold at_;rw [show l.getD i [] = l[i] from by simp [List.getD_eq_getElem?_getD,hi]]
def gBad (c : Cv) (i : Nat) : Bool:=!(validB (at_ c.g.l i 0) c.cats) || (decide (at_ c.g.l i 1 < 1) || (decide (8 < at_ c.g.l i 1) || (decide (at_ c.g.l i 2 < 0) || decide (8 - at_ c.g.l i 1 < at_ c.g.l i 2))))
def sBad (c : Cv) (i : Nat) : Bool:=!(isG c (at_ c.s.l i 0)) || (decide (at_ c.s.l i 1 < 1) || decide (32 < at_ c.s.l i 1))
def labG (c : Cv) (i : Int) : Int:=at_ c.g.l i.toNat 0
def nBad (c : Cv) (i : Nat) : Bool:=!(isG c (at_ c.n.l i 0)) || (!(isG c (at_ c.n.l i 1)) || ((at_ c.n.l i 0 == at_ c.n.l i 1) || !(flB (labG c (at_ c.n.l i 0)) (labG c (at_ c.n.l i 1)))))
def takenB (c : Cv) (who : Int) (n : Nat) : Bool:=(List.range n).any fun k=>at_ c.p.l k 1 == who
def pBad (c : Cv) (i : Nat) : Bool:=!(validB (at_ c.p.l i 0) c.cats) || (!(at_ c.p.l i 1 == -1) && (!(isG c (at_ c.p.l i 1)) || (!(at_ c.p.l i 0 == labG c (at_ c.p.l i 1)) || takenB c (at_ c.p.l i 1) i)))
def gFst (c : Cv) : Int × Bool:=if c.g.l.length < 1 ∨ 4 < c.g.l.length then (0,true) else fstV (gBad c) c.g.l.length
def sFst (c : Cv) : Int × Bool:=if c.s.l.length < 1 ∨ 8 < c.s.l.length then (0,true) else fstV (sBad c) c.s.l.length
def nFst (c : Cv) : Int × Bool:=if 4 < c.n.l.length then (0,true) else fstV (nBad c) c.n.l.length
def pFst (c : Cv) : Int × Bool:=if 8 < c.p.l.length then (0,true) else fstV (pBad c) c.p.l.length
variable {W W' w : World} {c : Cv} {b N : Nat} {s : Sl}
/-- A row that lies in a block of its own. -/
theorem guests1_any (c : Cv) (i : Nat) (hi : i < c.g.l.length) (b : Nat) (w W : World) (h : CX w W b c) : Calls Tryz.prog 127 #[.int .i64 i,.pointer (some ⟨b,0,none⟩)] W fun e W'=>e = .returned (.bool (gBad c i)) ∧ Below W.heap.size W W':=by
 obtain ⟨bx,ox,hax,hcx⟩:=h.ok.g.cells (by omega) i hi
 obtain ⟨lb,pg,sp,hrow⟩:=row3 hi h.ok.g.len
 rw [hrow] at hcx
 have c0:=hcx _ (Below.refl _ _) 0 _ rfl;have c1:=hcx _ (Below.refl _ _) 1 _ rfl;have c2:=hcx _ (Below.refl _ _) 2 _ rfl
 simp only [Nat.add_zero] at c0
 have kz : (0 : Int) ≤ (i : Int):=by omega
 have kl : (i : Int) < (c.g.l.length : Int):=by omega
 obtain ⟨x,hx⟩ : ∃ x,x = gBad c i:=⟨_,rfl⟩
 have HG : Hid (x = (!(validB lb c.cats) || (decide (pg < 1) || (decide (8 < pg) || (decide (sp < 0) || decide (8 - pg < sp)))))):=by rw [Hid,hx,gBad,at_eq hi,at_eq hi,at_eq hi,hrow];rfl
 rw [← hx]
 have HX:=Lib.hid h
 have q1:=HX.out.ob.cell 1 _ rfl
 rw [hax] at q1
 clear hx hrow hcx h hax
 go_enter Tryz.func127,Tryz.ntmps127
 go_upto_region 2 with fail
 clear q1 c0 c1 c2
 (have R1 : Hid (ObjAt (W.alloc (.cells ([.int .i64 lb,.int .i64 pg,.int .i64 sp] : List Value).toArray 130)) W.heap.size 130 [.int .i64 lb,.int .i64 pg,.int .i64 sp]):=ObjAt.new W _ _;have B1 : Hid (Below W.heap.size W (W.alloc (.cells ([.int .i64 lb,.int .i64 pg,.int .i64 sp] : List Value).toArray 130))):=(Below.refl _ _).alloc (Nat.le_refl _) _;generalize W.alloc (.cells ([.int .i64 lb,.int .i64 pg,.int .i64 sp] : List Value).toArray 130) = W1 at R1 B1 ⊢;have X1 : Hid (CX w W1 b c):=HX.out.below B1.out)
 have r0:=R1.out.cell 0 _ rfl;have r1:=R1.out.cell 1 _ rfl;have r2:=R1.out.cell 2 _ rfl
 have q0:=X1.out.ob.cell 0 _ rfl
 obtain ⟨vb,hvb⟩ : ∃ v,v = validB lb c.cats:=⟨_,rfl⟩
 have VAL : Hid (∀ W,Calls Tryz.prog 128 #[.int .i64 lb,.int .i64 c.cats] W fun e w'=>e = .returned (.bool vb) ∧ W = w'):=fun W=>by rw [hvb];exact valid_any _ _ _
 rw [← hvb] at HG
 clear hvb
 cases vb with
 | false=>
  (have hx : x = true:=(by rw [HG.out];simp [*]);subst hx)
  go_wp2_with (go_at_call 128;refine (VAL.out _).mono ?_;rintro e Wv ⟨rfl,rfl⟩)
  go_ret
  exact ⟨rfl,B1.out⟩
 | true=>
  by_cases h1 : pg < 1
  ·(have hx : x = true:=(by rw [HG.out];simp [*]);subst hx)
   have d1 : decide (pg < 1) = true:=by simp [h1]
   clear h1
   go_wp2_with (go_at_call 128;refine (VAL.out _).mono ?_;rintro e Wv ⟨rfl,rfl⟩)
   go_ret
   exact ⟨rfl,B1.out⟩
  ·have d1 : decide (pg < 1) = false:=by simp [h1]
   by_cases h2 : 8 < pg
   ·(have hx : x = true:=(by rw [HG.out];simp [*]);subst hx)
    have d2 : decide (pg > 8) = true:=by simp [h2]
    clear h1 h2
    go_wp2_with (go_at_call 128;refine (VAL.out _).mono ?_;rintro e Wv ⟨rfl,rfl⟩)
    go_ret
    exact ⟨rfl,B1.out⟩
   ·have d2 : decide (pg > 8) = false:=by simpa using h2
    have w8 : IntKind.i64.wrap (8 - pg) = 8 - pg:=by rw [IntKind.wrap_i64];omega
    by_cases h3 : sp < 0
    ·(have hx : x = true:=(by rw [HG.out];simp [*]);subst hx)
     have d3 : decide (sp < 0) = true:=by simp [h3]
     clear h1 h2 h3
     go_wp2_with (go_at_call 128;refine (VAL.out _).mono ?_;rintro e Wv ⟨rfl,rfl⟩)
     go_ret
     exact ⟨rfl,B1.out⟩
    ·have d3 : decide (sp < 0) = false:=by simpa using h3
     by_cases h4 : 8 - pg < sp
     ·(have hx : x = true:=(by rw [HG.out];simp [*]);subst hx)
      have d4 : decide (sp > 8 - pg) = true:=by simp [h4]
      clear h1 h2 h3 h4
      go_wp2_with (go_at_call 128;refine (VAL.out _).mono ?_;rintro e Wv ⟨rfl,rfl⟩)
      go_ret
      exact ⟨rfl,B1.out⟩
     ·have d4 : decide (sp > 8 - pg) = false:=by simpa using h4
      have hx : x = false:=by rw [HG.out];simp only [h1,h2,h3,h4,decide_false,Bool.not_true,Bool.or_false]
      subst hx
      clear h1 h2 h3 h4
      go_wp2_with (go_at_call 128;refine (VAL.out _).mono ?_;rintro e Wv ⟨rfl,rfl⟩)
      go_ret
      exact ⟨rfl,B1.out⟩
theorem enter_of {f : FuncId} {fn : Func} {x : Code} (hf : Tryz.prog.funcs[f]? = some fn) (hname : (fn.name == "runtime.NumGoroutine") = false) (hb : fn.body = some x) (args : Array Value) (w : World) : Sem.run Tryz.prog (callFunc f args) w = .ok (.enter f args) w:=by
 have h1 : fn.name ≠ "runtime.NumGoroutine":=by simpa using hname
 simp [callFunc,hf,h1,hb]
theorem guests_any (c : Cv) (w : World) (h : CfgOk w c) : Calls Tryz.prog 86 #[(.agg #[.int .i64 c.cats,.slice c.g.a c.g.l.length c.g.cap,.slice c.r.a c.r.l.length c.r.cap,.slice c.p.a c.p.l.length c.p.cap,.slice c.n.a c.n.l.length c.n.cap,.slice c.s.a c.s.l.length c.s.cap,.int .i64 c.gate,.int .i64 c.quota])] w fun e w'=>e = .returned (.tuple #[.int .i64 (gFst c).1,.bool (gFst c).2]) ∧ Below w.heap.size w w':=by
 have hm:=h.g.mx
 obtain ⟨x,hx⟩ : ∃ x,x = gFst c:=⟨_,rfl⟩
 rw [← hx]
 have HX:=Lib.hid hx
 clear hx
 by_cases h1 : c.g.l.length < 1
 ·have d1 : decide ((c.g.l.length : Int) < 1) = true:=by simp;omega
  have hx : x = (0,true):=by rw [HX.out,gFst,if_pos (Or.inl h1)]
  subst hx
  clear h1
  (have h0:=CX.new h;go_enter Tryz.func86,Tryz.ntmps86;go_upto_region 1 with fail;generalize w.alloc (.cells #[.int .i64 c.cats,.slice c.g.a c.g.l.length c.g.cap,.slice c.r.a c.r.l.length c.r.cap,.slice c.p.a c.p.l.length c.p.cap,.slice c.n.a c.n.l.length c.n.cap,.slice c.s.a c.s.l.length c.s.cap,.int .i64 c.gate,.int .i64 c.quota] 29) = W1 at h0 ⊢;generalize w.heap.size = b0 at h0 ⊢;have H0:=Lib.hid h0;clear h0 h)
  (have q0:=H0.out.ob.cell 0 _ rfl;have q1:=H0.out.ob.cell 1 _ rfl;have q2:=H0.out.ob.cell 2 _ rfl;have q3:=H0.out.ob.cell 3 _ rfl;have q4:=H0.out.ob.cell 4 _ rfl;have q5:=H0.out.ob.cell 5 _ rfl;have q6:=H0.out.ob.cell 6 _ rfl;have q7:=H0.out.ob.cell 7 _ rfl)
  go_wp2_with fail
  go_ret2
  exact ⟨rfl,H0.out.bel⟩
 ·have d1 : decide ((c.g.l.length : Int) < 1) = false:=by simp;omega
  by_cases h2 : 4 < c.g.l.length
  ·have d2 : decide ((c.g.l.length : Int) > 4) = true:=by simp;omega
   have hx : x = (0,true):=by rw [HX.out,gFst,if_pos (Or.inr h2)]
   subst hx
   clear h1 h2
   (have h0:=CX.new h;go_enter Tryz.func86,Tryz.ntmps86;go_upto_region 1 with fail;generalize w.alloc (.cells #[.int .i64 c.cats,.slice c.g.a c.g.l.length c.g.cap,.slice c.r.a c.r.l.length c.r.cap,.slice c.p.a c.p.l.length c.p.cap,.slice c.n.a c.n.l.length c.n.cap,.slice c.s.a c.s.l.length c.s.cap,.int .i64 c.gate,.int .i64 c.quota] 29) = W1 at h0 ⊢;generalize w.heap.size = b0 at h0 ⊢;have H0:=Lib.hid h0;clear h0 h)
   (have q0:=H0.out.ob.cell 0 _ rfl;have q1:=H0.out.ob.cell 1 _ rfl;have q2:=H0.out.ob.cell 2 _ rfl;have q3:=H0.out.ob.cell 3 _ rfl;have q4:=H0.out.ob.cell 4 _ rfl;have q5:=H0.out.ob.cell 5 _ rfl;have q6:=H0.out.ob.cell 6 _ rfl;have q7:=H0.out.ob.cell 7 _ rfl)
   go_wp2_with fail
   go_ret2
   exact ⟨rfl,H0.out.bel⟩
  ·have d2 : decide ((c.g.l.length : Int) > 4) = false:=by simp;omega
   have hx : x = fstV (gBad c) c.g.l.length:=by rw [HX.out,gFst,if_neg (by omega)]
   subst hx
   clear h1 h2
   (have h0:=CX.new h;go_enter Tryz.func86,Tryz.ntmps86;go_upto_region 1 with fail;generalize w.alloc (.cells #[.int .i64 c.cats,.slice c.g.a c.g.l.length c.g.cap,.slice c.r.a c.r.l.length c.r.cap,.slice c.p.a c.p.l.length c.p.cap,.slice c.n.a c.n.l.length c.n.cap,.slice c.s.a c.s.l.length c.s.cap,.int .i64 c.gate,.int .i64 c.quota] 29) = W1 at h0 ⊢;generalize w.heap.size = b0 at h0 ⊢;have H0:=Lib.hid h0;clear h0 h)
   (have q0:=H0.out.ob.cell 0 _ rfl;have q1:=H0.out.ob.cell 1 _ rfl;have q2:=H0.out.ob.cell 2 _ rfl;have q3:=H0.out.ob.cell 3 _ rfl;have q4:=H0.out.ob.cell 4 _ rfl;have q5:=H0.out.ob.cell 5 _ rfl;have q6:=H0.out.ob.cell 6 _ rfl;have q7:=H0.out.ob.cell 7 _ rfl)
   have FST : Hid (Calls Tryz.prog 126 #[.int .i64 c.g.l.length,.func (Fn.func 127) #[] #[.pointer (some ⟨b0,0,none⟩)]] W1 (fun e W'=>e = .returned (.tuple #[.int .i64 (fstV (gBad c) c.g.l.length).1,.bool (fstV (gBad c) c.g.l.length).2]) ∧ CX w W' b0 c)):=
    first1 127 (.pointer (some ⟨b0,0,none⟩)) c.g.l.length hm (gBad c) (fun _ W=>CX w W b0 c) (fun W=>CX w W b0 c) W1 (enter_of Tryz.func127 (by kernel_rfl) rfl) H0.out (fun _ _ h=>h)
     (fun i hi W hW=>(guests1_any c i hi b0 w W hW).mono (fun e W' h=>⟨h.1,fun _=>hW.below h.2,hW.below h.2⟩))
   go_wp2_with (go_at_call 126;refine FST.out.mono ?_;rintro e W2 ⟨rfl,hx2⟩;have H2:=Lib.hid hx2;clear hx2)
   go_ret2
   exact ⟨rfl,H2.out.bel⟩
theorem slots1_any (c : Cv) (i : Nat) (hi : i < c.s.l.length) (b : Nat) (w W : World) (h : CX w W b c) : Calls Tryz.prog 137 #[.int .i64 i,.pointer (some ⟨b,0,none⟩)] W fun e W'=>e = .returned (.bool (sBad c i)) ∧ Below W.heap.size W W':=by
 obtain ⟨bx,ox,hax,hcx⟩:=h.ok.s.cells (by omega) i hi
 obtain ⟨gu,bu,hrow⟩:=row2 hi h.ok.s.len
 rw [hrow] at hcx
 have c0:=hcx _ (Below.refl _ _) 0 _ rfl;have c1:=hcx _ (Below.refl _ _) 1 _ rfl
 simp only [Nat.add_zero] at c0
 have kz : (0 : Int) ≤ (i : Int):=by omega
 have kl : (i : Int) < (c.s.l.length : Int):=by omega
 obtain ⟨x,hx⟩ : ∃ x,x = sBad c i:=⟨_,rfl⟩
 obtain ⟨vb,hvb⟩ : ∃ v,v = isG c gu:=⟨_,rfl⟩
 have HG : Hid (x = (!vb || (decide (bu < 1) || decide (32 < bu)))):=by rw [Hid,hx,sBad,at_eq hi,at_eq hi,hrow,hvb];rfl
 rw [← hx]
 have HX:=Lib.hid h
 have GUE : Hid (∀ W,CfgOk W c → Calls Tryz.prog 133 #[(.agg #[.int .i64 c.cats,.slice c.g.a c.g.l.length c.g.cap,.slice c.r.a c.r.l.length c.r.cap,.slice c.p.a c.p.l.length c.p.cap,.slice c.n.a c.n.l.length c.n.cap,.slice c.s.a c.s.l.length c.s.cap,.int .i64 c.gate,.int .i64 c.quota]),.int .i64 gu] W fun e w'=>e = .returned (.bool vb) ∧ Below W.heap.size W w'):=fun W h=>by rw [hvb];exact guest_any _ _ _ h
 have q5:=HX.out.ob.cell 5 _ rfl
 rw [hax] at q5
 clear hx hvb hrow hcx h hax
 go_enter Tryz.func137,Tryz.ntmps137
 go_upto_region 2 with fail
 clear q5 c0 c1
 (have R1 : Hid (ObjAt (W.alloc (.cells ([.int .i64 gu,.int .i64 bu] : List Value).toArray 139)) W.heap.size 139 [.int .i64 gu,.int .i64 bu]):=ObjAt.new W _ _;have B1 : Hid (Below W.heap.size W (W.alloc (.cells ([.int .i64 gu,.int .i64 bu] : List Value).toArray 139))):=(Below.refl _ _).alloc (Nat.le_refl _) _;generalize W.alloc (.cells ([.int .i64 gu,.int .i64 bu] : List Value).toArray 139) = W1 at R1 B1 ⊢;have X1 : Hid (CX w W1 b c):=HX.out.below B1.out)
 have r0:=R1.out.cell 0 _ rfl;have r1:=R1.out.cell 1 _ rfl
 have r1' : Hid (∀ W',Below W1.heap.size W1 W' → W'.cell? ⟨W.heap.size,1,none⟩ = some (.int .i64 bu)):=fun W' hb=>(R1.out.below hb).cell 1 _ rfl
 (have q0:=X1.out.ob.cell 0 _ rfl;have q1:=X1.out.ob.cell 1 _ rfl;have q2:=X1.out.ob.cell 2 _ rfl;have q3:=X1.out.ob.cell 3 _ rfl;have q4:=X1.out.ob.cell 4 _ rfl;have q5:=X1.out.ob.cell 5 _ rfl;have q6:=X1.out.ob.cell 6 _ rfl;have q7:=X1.out.ob.cell 7 _ rfl)
 cases vb with
 | false=>
  (have hx : x = true:=(by rw [HG.out];simp [*]);subst hx)
  go_wp2_with (go_at_call 133;refine (GUE.out _ X1.out.ok).mono ?_;rintro e W2 ⟨rfl,hb⟩;have B2:=Lib.hid (B1.out.trans (hb.mono B1.out.size));have r1:=r1'.out _ hb;clear hb)
  go_ret
  exact ⟨rfl,B2.out⟩
 | true=>
  by_cases h1 : bu < 1
  ·(have hx : x = true:=(by rw [HG.out];simp [*]);subst hx)
   have d1 : decide (bu < 1) = true:=by simp [h1]
   clear h1
   go_wp2_with (go_at_call 133;refine (GUE.out _ X1.out.ok).mono ?_;rintro e W2 ⟨rfl,hb⟩;have B2:=Lib.hid (B1.out.trans (hb.mono B1.out.size));have r1:=r1'.out _ hb;clear hb)
   go_ret
   exact ⟨rfl,B2.out⟩
  ·have d1 : decide (bu < 1) = false:=by simp [h1]
   by_cases h2 : 32 < bu
   ·(have hx : x = true:=(by rw [HG.out];simp [*]);subst hx)
    have d2 : decide (bu > 32) = true:=by simp [h2]
    clear h1 h2
    go_wp2_with (go_at_call 133;refine (GUE.out _ X1.out.ok).mono ?_;rintro e W2 ⟨rfl,hb⟩;have B2:=Lib.hid (B1.out.trans (hb.mono B1.out.size));have r1:=r1'.out _ hb;clear hb)
    go_ret
    exact ⟨rfl,B2.out⟩
   ·have d2 : decide (bu > 32) = false:=by simpa using h2
    have hx : x = false:=by rw [HG.out];simp only [h1,h2,decide_false,Bool.not_true,Bool.or_false]
    subst hx
    clear h1 h2
    go_wp2_with (go_at_call 133;refine (GUE.out _ X1.out.ok).mono ?_;rintro e W2 ⟨rfl,hb⟩;have B2:=Lib.hid (B1.out.trans (hb.mono B1.out.size));have r1:=r1'.out _ hb;clear hb)
    go_ret
    exact ⟨rfl,B2.out⟩
theorem slots_any (c : Cv) (w : World) (h : CfgOk w c) : Calls Tryz.prog 90 #[(.agg #[.int .i64 c.cats,.slice c.g.a c.g.l.length c.g.cap,.slice c.r.a c.r.l.length c.r.cap,.slice c.p.a c.p.l.length c.p.cap,.slice c.n.a c.n.l.length c.n.cap,.slice c.s.a c.s.l.length c.s.cap,.int .i64 c.gate,.int .i64 c.quota])] w fun e w'=>e = .returned (.tuple #[.int .i64 (sFst c).1,.bool (sFst c).2]) ∧ Below w.heap.size w w':=by
 have hm:=h.s.mx
 obtain ⟨x,hx⟩ : ∃ x,x = sFst c:=⟨_,rfl⟩
 rw [← hx]
 have HX:=Lib.hid hx
 clear hx
 by_cases h1 : c.s.l.length < 1
 ·have d1 : decide ((c.s.l.length : Int) < 1) = true:=by simp;omega
  have hx : x = (0,true):=by rw [HX.out,sFst,if_pos (Or.inl h1)]
  subst hx
  clear h1
  (have h0:=CX.new h;go_enter Tryz.func90,Tryz.ntmps90;go_upto_region 1 with fail;generalize w.alloc (.cells #[.int .i64 c.cats,.slice c.g.a c.g.l.length c.g.cap,.slice c.r.a c.r.l.length c.r.cap,.slice c.p.a c.p.l.length c.p.cap,.slice c.n.a c.n.l.length c.n.cap,.slice c.s.a c.s.l.length c.s.cap,.int .i64 c.gate,.int .i64 c.quota] 29) = W1 at h0 ⊢;generalize w.heap.size = b0 at h0 ⊢;have H0:=Lib.hid h0;clear h0 h)
  (have q0:=H0.out.ob.cell 0 _ rfl;have q1:=H0.out.ob.cell 1 _ rfl;have q2:=H0.out.ob.cell 2 _ rfl;have q3:=H0.out.ob.cell 3 _ rfl;have q4:=H0.out.ob.cell 4 _ rfl;have q5:=H0.out.ob.cell 5 _ rfl;have q6:=H0.out.ob.cell 6 _ rfl;have q7:=H0.out.ob.cell 7 _ rfl)
  go_wp2_with fail
  go_ret2
  exact ⟨rfl,H0.out.bel⟩
 ·have d1 : decide ((c.s.l.length : Int) < 1) = false:=by simp;omega
  by_cases h2 : 8 < c.s.l.length
  ·have d2 : decide ((c.s.l.length : Int) > 8) = true:=by simp;omega
   have hx : x = (0,true):=by rw [HX.out,sFst,if_pos (Or.inr h2)]
   subst hx
   clear h1 h2
   (have h0:=CX.new h;go_enter Tryz.func90,Tryz.ntmps90;go_upto_region 1 with fail;generalize w.alloc (.cells #[.int .i64 c.cats,.slice c.g.a c.g.l.length c.g.cap,.slice c.r.a c.r.l.length c.r.cap,.slice c.p.a c.p.l.length c.p.cap,.slice c.n.a c.n.l.length c.n.cap,.slice c.s.a c.s.l.length c.s.cap,.int .i64 c.gate,.int .i64 c.quota] 29) = W1 at h0 ⊢;generalize w.heap.size = b0 at h0 ⊢;have H0:=Lib.hid h0;clear h0 h)
   (have q0:=H0.out.ob.cell 0 _ rfl;have q1:=H0.out.ob.cell 1 _ rfl;have q2:=H0.out.ob.cell 2 _ rfl;have q3:=H0.out.ob.cell 3 _ rfl;have q4:=H0.out.ob.cell 4 _ rfl;have q5:=H0.out.ob.cell 5 _ rfl;have q6:=H0.out.ob.cell 6 _ rfl;have q7:=H0.out.ob.cell 7 _ rfl)
   go_wp2_with fail
   go_ret2
   exact ⟨rfl,H0.out.bel⟩
  ·have d2 : decide ((c.s.l.length : Int) > 8) = false:=by simp;omega
   have hx : x = fstV (sBad c) c.s.l.length:=by rw [HX.out,sFst,if_neg (by omega)]
   subst hx
   clear h1 h2
   (have h0:=CX.new h;go_enter Tryz.func90,Tryz.ntmps90;go_upto_region 1 with fail;generalize w.alloc (.cells #[.int .i64 c.cats,.slice c.g.a c.g.l.length c.g.cap,.slice c.r.a c.r.l.length c.r.cap,.slice c.p.a c.p.l.length c.p.cap,.slice c.n.a c.n.l.length c.n.cap,.slice c.s.a c.s.l.length c.s.cap,.int .i64 c.gate,.int .i64 c.quota] 29) = W1 at h0 ⊢;generalize w.heap.size = b0 at h0 ⊢;have H0:=Lib.hid h0;clear h0 h)
   (have q0:=H0.out.ob.cell 0 _ rfl;have q1:=H0.out.ob.cell 1 _ rfl;have q2:=H0.out.ob.cell 2 _ rfl;have q3:=H0.out.ob.cell 3 _ rfl;have q4:=H0.out.ob.cell 4 _ rfl;have q5:=H0.out.ob.cell 5 _ rfl;have q6:=H0.out.ob.cell 6 _ rfl;have q7:=H0.out.ob.cell 7 _ rfl)
   have FST : Hid (Calls Tryz.prog 126 #[.int .i64 c.s.l.length,.func (Fn.func 137) #[] #[.pointer (some ⟨b0,0,none⟩)]] W1 (fun e W'=>e = .returned (.tuple #[.int .i64 (fstV (sBad c) c.s.l.length).1,.bool (fstV (sBad c) c.s.l.length).2]) ∧ CX w W' b0 c)):=
    first1 137 (.pointer (some ⟨b0,0,none⟩)) c.s.l.length hm (sBad c) (fun _ W=>CX w W b0 c) (fun W=>CX w W b0 c) W1 (enter_of Tryz.func137 (by kernel_rfl) rfl) H0.out (fun _ _ h=>h)
     (fun i hi W hW=>(slots1_any c i hi b0 w W hW).mono (fun e W' h=>⟨h.1,fun _=>hW.below h.2,hW.below h.2⟩))
   go_wp2_with (go_at_call 126;refine FST.out.mono ?_;rintro e W2 ⟨rfl,hx2⟩;have H2:=Lib.hid hx2;clear hx2)
   go_ret2
   exact ⟨rfl,H2.out.bel⟩
end Go.Proofs.YtoklonmiejdgmaaGreatDoor
/- Chapter 4: what is wrong: rings, ports. -/
namespace Go.Proofs.YtoklonmiejdgmaaGreatDoor
set_option linter.unusedVariables false
set_option linter.unusedSimpArgs false
set_option linter.unnecessarySimpa false
open Go.RowKit
set_option maxHeartbeats 2000000
set_option maxRecDepth 100000
set_option linter.unusedVariables false
variable {W W' w : World} {c : Cv} {b N : Nat} {s : Sl}
theorem rings1_any (c : Cv) (i : Nat) (hi : i < c.n.l.length) (b : Nat) (w W : World) (h : CX w W b c) : Calls Tryz.prog 135 #[.int .i64 i,.pointer (some ⟨b,0,none⟩)] W fun e W'=>e = .returned (.bool (nBad c i)) ∧ Below W.heap.size W W':=by
 obtain ⟨bx,ox,hax,hcx⟩:=h.ok.n.cells (by omega) i hi
 obtain ⟨fr,tt,hrow⟩:=row2 hi h.ok.n.len
 rw [hrow] at hcx
 have c0:=hcx _ (Below.refl _ _) 0 _ rfl;have c1:=hcx _ (Below.refl _ _) 1 _ rfl
 simp only [Nat.add_zero] at c0
 have kz : (0 : Int) ≤ (i : Int):=by omega
 have kl : (i : Int) < (c.n.l.length : Int):=by omega
 obtain ⟨x,hx⟩ : ∃ x,x = nBad c i:=⟨_,rfl⟩
 have HG : Hid (x = (!(isG c fr) || (!(isG c tt) || ((fr == tt) || !(flB (labG c fr) (labG c tt)))))):=by rw [Hid,hx,nBad,at_eq hi,at_eq hi,hrow];rfl
 rw [← hx]
 have HX:=Lib.hid h
 have q4:=HX.out.ob.cell 4 _ rfl
 rw [hax] at q4
 clear hx hrow hcx h hax
 go_enter Tryz.func135,Tryz.ntmps135
 go_upto_region 2 with fail
 clear q4 c0 c1
 (have R1 : Hid (ObjAt (W.alloc (.cells ([.int .i64 fr,.int .i64 tt] : List Value).toArray 137)) W.heap.size 137 [.int .i64 fr,.int .i64 tt]):=ObjAt.new W _ _;have B1 : Hid (Below W.heap.size W (W.alloc (.cells ([.int .i64 fr,.int .i64 tt] : List Value).toArray 137))):=(Below.refl _ _).alloc (Nat.le_refl _) _;generalize W.alloc (.cells ([.int .i64 fr,.int .i64 tt] : List Value).toArray 137) = W1 at R1 B1 ⊢;have X1 : Hid (CX w W1 b c):=HX.out.below B1.out)
 generalize W.heap.size = rb at R1 ⊢
 have XK:=X1
 have BL : Hid (Below W1.heap.size W1 W1):=Below.refl _ _
 have RR : Hid (∀ W',Below W1.heap.size W1 W' → W'.cell? ⟨rb,0,none⟩ = some (.int .i64 fr) ∧ W'.cell? ⟨rb,1,none⟩ = some (.int .i64 tt)):=fun W' hb=>⟨(R1.out.below hb).cell 0 _ rfl,(R1.out.below hb).cell 1 _ rfl⟩
 have r0:=(RR.out _ BL.out).1;have r1:=(RR.out _ BL.out).2
 (have q0:=XK.out.ob.cell 0 _ rfl;have q1:=XK.out.ob.cell 1 _ rfl;have q2:=XK.out.ob.cell 2 _ rfl;have q3:=XK.out.ob.cell 3 _ rfl;have q4:=XK.out.ob.cell 4 _ rfl;have q5:=XK.out.ob.cell 5 _ rfl;have q6:=XK.out.ob.cell 6 _ rfl;have q7:=XK.out.ob.cell 7 _ rfl)
 cases hva : isG c fr with
 | false=>
  (have hx : x = true:=(by rw [HG.out];simp [*]);subst hx)
  (go_wp2_with (go_at_call 133;refine (guest_any c _ _ XK.out.ok).mono ?_;rintro e Wg ⟨rfl,hb⟩;replace XK:=Lib.hid (XK.out.below hb);replace BL:=Lib.hid (bmore BL.out hb);clear hb;replace r0:=(RR.out _ BL.out).1;replace r1:=(RR.out _ BL.out).2;replace q0:=XK.out.ob.cell 0 _ rfl;replace q1:=XK.out.ob.cell 1 _ rfl;replace q2:=XK.out.ob.cell 2 _ rfl;replace q3:=XK.out.ob.cell 3 _ rfl;replace q4:=XK.out.ob.cell 4 _ rfl;replace q5:=XK.out.ob.cell 5 _ rfl;replace q6:=XK.out.ob.cell 6 _ rfl;replace q7:=XK.out.ob.cell 7 _ rfl);go_ret;exact ⟨rfl,B1.out.trans (BL.out.mono B1.out.size)⟩)
 | true=>
  cases hvb : isG c tt with
  | false=>
   (have hx : x = true:=(by rw [HG.out];simp [*]);subst hx)
   (go_wp2_with (go_at_call 133;refine (guest_any c _ _ XK.out.ok).mono ?_;rintro e Wg ⟨rfl,hb⟩;replace XK:=Lib.hid (XK.out.below hb);replace BL:=Lib.hid (bmore BL.out hb);clear hb;replace r0:=(RR.out _ BL.out).1;replace r1:=(RR.out _ BL.out).2;replace q0:=XK.out.ob.cell 0 _ rfl;replace q1:=XK.out.ob.cell 1 _ rfl;replace q2:=XK.out.ob.cell 2 _ rfl;replace q3:=XK.out.ob.cell 3 _ rfl;replace q4:=XK.out.ob.cell 4 _ rfl;replace q5:=XK.out.ob.cell 5 _ rfl;replace q6:=XK.out.ob.cell 6 _ rfl;replace q7:=XK.out.ob.cell 7 _ rfl);go_ret;exact ⟨rfl,B1.out.trans (BL.out.mono B1.out.size)⟩)
  | true=>
   by_cases hft : fr = tt
   ·have dq : (fr == tt) = true:=by simp [hft]
    have hx : x = true:=by rw [HG.out,dq];simp
    subst hx
    clear hft
    (go_wp2_with (go_at_call 133;refine (guest_any c _ _ XK.out.ok).mono ?_;rintro e Wg ⟨rfl,hb⟩;replace XK:=Lib.hid (XK.out.below hb);replace BL:=Lib.hid (bmore BL.out hb);clear hb;replace r0:=(RR.out _ BL.out).1;replace r1:=(RR.out _ BL.out).2;replace q0:=XK.out.ob.cell 0 _ rfl;replace q1:=XK.out.ob.cell 1 _ rfl;replace q2:=XK.out.ob.cell 2 _ rfl;replace q3:=XK.out.ob.cell 3 _ rfl;replace q4:=XK.out.ob.cell 4 _ rfl;replace q5:=XK.out.ob.cell 5 _ rfl;replace q6:=XK.out.ob.cell 6 _ rfl;replace q7:=XK.out.ob.cell 7 _ rfl);go_ret;exact ⟨rfl,B1.out.trans (BL.out.mono B1.out.size)⟩)
   ·have dq : (fr == tt) = false:=by simp [hft]
    have hx : x = !(flB (labG c fr) (labG c tt)):=by rw [HG.out,dq,hva,hvb];simp
    subst hx
    clear HG hft
    go_upto_region 4 with (go_at_call 133;refine (guest_any c _ _ XK.out.ok).mono ?_;rintro e Wg ⟨rfl,hb⟩;replace XK:=Lib.hid (XK.out.below hb);replace BL:=Lib.hid (bmore BL.out hb);clear hb;replace r0:=(RR.out _ BL.out).1;replace r1:=(RR.out _ BL.out).2;replace q0:=XK.out.ob.cell 0 _ rfl;replace q1:=XK.out.ob.cell 1 _ rfl;replace q2:=XK.out.ob.cell 2 _ rfl;replace q3:=XK.out.ob.cell 3 _ rfl;replace q4:=XK.out.ob.cell 4 _ rfl;replace q5:=XK.out.ob.cell 5 _ rfl;replace q6:=XK.out.ob.cell 6 _ rfl;replace q7:=XK.out.ob.cell 7 _ rfl)
    have ga:=(isG_iff c fr).1 hva;have gb:=(isG_iff c tt).1 hvb
    obtain ⟨f',hf'⟩ : ∃ f' : Nat,fr = f':=⟨fr.toNat,by omega⟩
    obtain ⟨t',ht'⟩ : ∃ t' : Nat,tt = t':=⟨tt.toNat,by omega⟩
    have hfl : f' < c.g.l.length:=by omega
    have htl : t' < c.g.l.length:=by omega
    obtain ⟨gx,go,hga,hgc⟩:=XK.out.ok.g.cells (by omega) f' hfl
    obtain ⟨gx2,go2,hga2,hgc2⟩:=XK.out.ok.g.cells (by omega) t' htl
    rw [hga] at hga2
    obtain ⟨rfl,rfl⟩ : gx = gx2 ∧ go = go2:=by simpa using hga2
    obtain ⟨la,y1,z1,hr1⟩:=row3 hfl XK.out.ok.g.len
    obtain ⟨lb,y2,z2,hr2⟩:=row3 htl XK.out.ok.g.len
    have l1 : labG c fr = la:=by rw [labG,hf',Int.toNat_natCast,at_eq hfl,hr1];rfl
    have l2 : labG c tt = lb:=by rw [labG,ht',Int.toNat_natCast,at_eq htl,hr2];rfl
    rw [hr1] at hgc;rw [hr2] at hgc2
    have g0:=hgc _ (Below.refl _ _) 0 _ rfl;have g1:=hgc2 _ (Below.refl _ _) 0 _ rfl
    simp only [Nat.add_zero] at g0 g1
    rw [hga] at q1
    have HL1:=Lib.hid l1;have HL2:=Lib.hid l2
    have k1 : (f' : Int) < (c.g.l.length : Int):=by omega
    have k2 : (t' : Int) < (c.g.l.length : Int):=by omega
    have k3 : (0 : Int) ≤ (f' : Int):=by omega
    have k4 : (0 : Int) ≤ (t' : Int):=by omega
    rw [hf'] at r0;rw [ht'] at r1
    clear ga gb hga hgc hga2 hgc2 hr1 hr2 l1 l2 hva hvb dq RR hf' ht' hfl htl
    go_quiet ((go_at_call 136;exact quiet_same (flows_any _ _ _)))
    go_wp2_with fail
    go_ret
    exact ⟨by rw [HL1.out,HL2.out];rfl,B1.out.trans ((below_drewN BL.out _).mono B1.out.size)⟩
theorem rings_any (c : Cv) (w : World) (h : CfgOk w c) : Calls Tryz.prog 89 #[(.agg #[.int .i64 c.cats,.slice c.g.a c.g.l.length c.g.cap,.slice c.r.a c.r.l.length c.r.cap,.slice c.p.a c.p.l.length c.p.cap,.slice c.n.a c.n.l.length c.n.cap,.slice c.s.a c.s.l.length c.s.cap,.int .i64 c.gate,.int .i64 c.quota])] w fun e w'=>e = .returned (.tuple #[.int .i64 (nFst c).1,.bool (nFst c).2]) ∧ Below w.heap.size w w':=by
 have hm:=h.n.mx
 obtain ⟨x,hx⟩ : ∃ x,x = nFst c:=⟨_,rfl⟩
 rw [← hx]
 have HX:=Lib.hid hx
 clear hx
 by_cases h2 : 4 < c.n.l.length
 ·have d2 : decide ((c.n.l.length : Int) > 4) = true:=by simp;omega
  have hx : x = (0,true):=by rw [HX.out,nFst,if_pos h2]
  subst hx
  clear h2
  (have h0:=CX.new h;go_enter Tryz.func89,Tryz.ntmps89;go_upto_region 1 with fail;generalize w.alloc (.cells #[.int .i64 c.cats,.slice c.g.a c.g.l.length c.g.cap,.slice c.r.a c.r.l.length c.r.cap,.slice c.p.a c.p.l.length c.p.cap,.slice c.n.a c.n.l.length c.n.cap,.slice c.s.a c.s.l.length c.s.cap,.int .i64 c.gate,.int .i64 c.quota] 29) = W1 at h0 ⊢;generalize w.heap.size = b0 at h0 ⊢;have H0:=Lib.hid h0;clear h0 h)
  (have q0:=H0.out.ob.cell 0 _ rfl;have q1:=H0.out.ob.cell 1 _ rfl;have q2:=H0.out.ob.cell 2 _ rfl;have q3:=H0.out.ob.cell 3 _ rfl;have q4:=H0.out.ob.cell 4 _ rfl;have q5:=H0.out.ob.cell 5 _ rfl;have q6:=H0.out.ob.cell 6 _ rfl;have q7:=H0.out.ob.cell 7 _ rfl)
  go_wp2_with fail
  go_ret2
  exact ⟨rfl,H0.out.bel⟩
 ·have d2 : decide ((c.n.l.length : Int) > 4) = false:=by simp;omega
  have hx : x = fstV (nBad c) c.n.l.length:=by rw [HX.out,nFst,if_neg h2]
  subst hx
  clear h2
  (have h0:=CX.new h;go_enter Tryz.func89,Tryz.ntmps89;go_upto_region 1 with fail;generalize w.alloc (.cells #[.int .i64 c.cats,.slice c.g.a c.g.l.length c.g.cap,.slice c.r.a c.r.l.length c.r.cap,.slice c.p.a c.p.l.length c.p.cap,.slice c.n.a c.n.l.length c.n.cap,.slice c.s.a c.s.l.length c.s.cap,.int .i64 c.gate,.int .i64 c.quota] 29) = W1 at h0 ⊢;generalize w.heap.size = b0 at h0 ⊢;have H0:=Lib.hid h0;clear h0 h)
  (have q0:=H0.out.ob.cell 0 _ rfl;have q1:=H0.out.ob.cell 1 _ rfl;have q2:=H0.out.ob.cell 2 _ rfl;have q3:=H0.out.ob.cell 3 _ rfl;have q4:=H0.out.ob.cell 4 _ rfl;have q5:=H0.out.ob.cell 5 _ rfl;have q6:=H0.out.ob.cell 6 _ rfl;have q7:=H0.out.ob.cell 7 _ rfl)
  have FIR : Hid (Calls Tryz.prog 126 #[.int .i64 c.n.l.length,.func (Fn.func 135) #[] #[.pointer (some ⟨b0,0,none⟩)]] W1 (fun e W'=>e = .returned (.tuple #[.int .i64 (fstV (nBad c) c.n.l.length).1,.bool (fstV (nBad c) c.n.l.length).2]) ∧ CX w W' b0 c)):=
   first1 135 (.pointer (some ⟨b0,0,none⟩)) c.n.l.length hm (nBad c) (fun _ W=>CX w W b0 c) (fun W=>CX w W b0 c) W1 (enter_of Tryz.func135 (by kernel_rfl) rfl) H0.out (fun _ _ h=>h)
    (fun i hi W hW=>(rings1_any c i hi b0 w W hW).mono (fun e W' h=>⟨h.1,fun _=>hW.below h.2,hW.below h.2⟩))
  go_wp2_with (go_at_call 126;refine FIR.out.mono ?_;rintro e W2 ⟨rfl,hx2⟩;have H2:=Lib.hid hx2;clear hx2)
  go_ret2
  exact ⟨rfl,H2.out.bel⟩
end Go.Proofs.YtoklonmiejdgmaaGreatDoor
