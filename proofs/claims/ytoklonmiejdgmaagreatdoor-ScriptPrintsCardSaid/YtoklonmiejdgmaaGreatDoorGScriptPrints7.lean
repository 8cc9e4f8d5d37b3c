/- Package asm: a text as an instruction. -/
import Derived.Test.YtoklonmiejdgmaaGreatDoorGScriptPrints6
import Derived.Deep.Cut
import Derived.Deep.CutBlock
import Derived.Test.YtoklonmiejdgmaaGreatDoorGScriptPrints0
import Derived.Lib.Walk
import Derived.Lib.ItoaMem
import Derived.Lib.ItoaLen
import Derived.Lib.OthersKept
import Derived.Lib.QuietBelow
import Derived.Test.YtoklonmiejdgmaaGreatDoorGScriptPrints5
import Derived.Test.YtoklonmiejdgmaaGreatDoorGScriptPrints1
import Derived.Lib.Join
namespace Go.Proofs.YtoklonmiejdgmaaGreatDoor.As
set_option linter.unusedVariables false
set_option linter.unusedSimpArgs false
set_option linter.unnecessarySimpa false
open Go.RowKit Go.Sort
set_option maxHeartbeats 2000000
set_option maxRecDepth 100000
set_option linter.unusedVariables false
abbrev Words:=List (List UInt8)
def rdB (l : Words) (bad : Bool) : Bool:=(bad || l.isEmpty) || !regOk (l.headD [])
def ndB (l : Words) (bad : Bool) : Bool:=(bad || l.isEmpty) || !numOk (l.headD [])
structure PS (w : World) (rb g ib : Nat) (l : Words) (bad : Bool) (o : Int) (W : World) : Prop where
 rs : RS w rb g l bad W
 ins : ObjAt W ib 145 [.int .i64 o,.int .i64 0,.int .i64 0,.int .i64 0,.int .i64 0]
 ne : ib ≠ rb
 ng : ib ≠ g
 nw : w.heap.size ≤ ib
def wd0 (l : Words) : List UInt8:=l.headD []
theorem reg_ps {w : World} {rb g ib : Nat} {l : Words} {bad : Bool} {o : Int} {W : World} (h : PS w rb g ib l bad o W) (v : Int) (hv : v = regN (wd0 l)) :
  Calls Tryz.prog 209 #[.pointer (some ⟨rb,0,none⟩)] W fun e w'=>e = .returned (.int .i64 v) ∧ PS w rb g ib l.tail (rdB l bad) o w':=
 (reg_rs h.rs).mono fun e w' ⟨h1,h2,h3⟩=>⟨by rw [hv];exact h1,h2,h.ins.upd h3 h.ne,h.ne,h.ng,h.nw⟩
theorem num_ps {w : World} {rb g ib : Nat} {l : Words} {bad : Bool} {o : Int} {W : World} (h : PS w rb g ib l bad o W) (v : Int) (hv : v = numN (wd0 l)) :
  Calls Tryz.prog 210 #[.pointer (some ⟨rb,0,none⟩)] W fun e w'=>e = .returned (.int .i64 v) ∧ PS w rb g ib l.tail (ndB l bad) o w':=
 (num_rs h.rs).mono fun e w' ⟨h1,h2,h3⟩=>⟨by rw [hv];exact h1,h2,h.ins.upd h3 h.ne,h.ne,h.ng,h.nw⟩
theorem PS.tail {w : World} {rb g ib : Nat} {l : Words} {bad : Bool} {o : Int} {W W' : World} (h : PS w rb g ib l bad o W) (hu : Upd ib W W') :
  (∃ a cap,W'.cell? ⟨rb,0,none⟩ = some (.slice a l.length cap)) ∧ W'.cell? ⟨rb,1,none⟩ = some (.bool bad) ∧ Below w.heap.size w W':=by
 obtain ⟨a,o,cap,hobj,_⟩:=h.rs.obj
 have hne:=h.ne
 have hobj':=hobj.upd hu (fun e=>hne e.symm)
 exact ⟨⟨a,cap,hobj'.cell 0 _ rfl⟩,hobj'.cell 1 _ rfl,h.rs.bel.trans (hu.below h.nw h.rs.bel.size)⟩
theorem ps_start {w w1 w2 : World} {g off : Nat} {r : Words} {cap : Nat} {o : Int} (hb1 : Below w.heap.size w w1) (hb2 : Below w1.heap.size w1 w2) (hg : g < w1.heap.size) (hle : r.length ≤ cap) (hmx : cap ≤ maxLen)
  (hc : ∀ j (hj : j < r.length),w1.cell? ⟨g,off + j,none⟩ = some (.string (ba r[j]))) (hsm : ∀ y ∈ r,y.length ≤ 100000000) :
  PS w w2.heap.size g (w2.heap.size + 1) r false o ((w2.alloc (.cells #[.slice (some ⟨g,off,none⟩) r.length cap,.bool false] 266)).alloc (.cells #[.int .i64 o,.int .i64 0,.int .i64 0,.int .i64 0,.int .i64 0] 145)):=by
 have s1:=hb1.size
 have s2:=hb2.size
 have hB : Below w2.heap.size w2 ((w2.alloc (.cells #[.slice (some ⟨g,off,none⟩) r.length cap,.bool false] 266)).alloc (.cells #[.int .i64 o,.int .i64 0,.int .i64 0,.int .i64 0,.int .i64 0] 145)):=
  ((Below.refl _ _).alloc (Nat.le_refl _) _).alloc (by simp) _
 have hN:=(ObjAt.new w2 266 [.slice (some ⟨g,off,none⟩) r.length cap,.bool false]).below ((Below.refl _ _).alloc (Nat.le_refl _) (.cells #[.int .i64 o,.int .i64 0,.int .i64 0,.int .i64 0,.int .i64 0] 145))
 have hI:=ObjAt.new (w2.alloc (.cells #[.slice (some ⟨g,off,none⟩) r.length cap,.bool false] 266)) 145 [.int .i64 o,.int .i64 0,.int .i64 0,.int .i64 0,.int .i64 0]
 rw [World.size_alloc] at hI
 refine ⟨⟨bmore (bmore hb1 hb2) hB,by omega,by omega,⟨_,off,cap,hN,hle,hmx,fun _=>⟨rfl,?_⟩,fun j hj=>?_⟩,hsm⟩,hI,by omega,by omega,by omega⟩
 ·simp only [World.size_alloc];omega
 ·rw [hB.cell (show g < w2.heap.size by omega),hb2.cell (show g < w1.heap.size from hg)]
  exact hc j hj
def finB (k : Nat) (l : Words) : Bool:=match k with
 | 0=>rdB l.tail.tail (rdB l.tail (rdB l false))
 | 1=>ndB l.tail.tail (rdB l.tail (rdB l false))
 | 2=>ndB l.tail (rdB l false)
 | 3=>ndB l.tail.tail (rdB l.tail (rdB l false))
 | 4=>ndB l.tail (rdB l false)
 | _=>false
def finL (k : Nat) (l : Words) : Words:=match k with
 | 0=>l.tail.tail.tail
 | 1=>l.tail.tail.tail
 | 2=>l.tail.tail
 | 3=>l.tail.tail.tail
 | 4=>l.tail.tail
 | _=>l
def wd1 (l : Words) : List UInt8:=wd0 l.tail
def wd2 (l : Words) : List UInt8:=wd0 l.tail.tail
def finD (k : Nat) (l : Words) : Int:=match k with | 0=>regN (wd0 l) | 1=>regN (wd0 l) | 2=>regN (wd0 l) | _=>0
def finA (k : Nat) (l : Words) : Int:=match k with | 0=>regN (wd1 l) | 1=>regN (wd1 l) | 3=>regN (wd0 l) | 4=>regN (wd0 l) | _=>0
def finC (k : Nat) (l : Words) : Int:=match k with | 0=>regN (wd2 l) | 3=>regN (wd1 l) | _=>0
def finN (k : Nat) (l : Words) : Int:=match k with | 1=>numN (wd2 l) | 2=>numN (wd1 l) | 3=>numN (wd2 l) | 4=>numN (wd1 l) | _=>0
def zeroI : List Value:=[.int .i64 0,.int .i64 0,.int .i64 0,.int .i64 0,.int .i64 0]
def wantK (k : Nat) : List Nat:=match k with | 0=>[0,1,2] | 1=>[0,1,3] | 2=>[0,3] | 3=>[1,2,3] | 4=>[1,3] | _=>[]
def okP (p : Nat) (s : List UInt8) : Bool:=if p < 3 then regOk s else numOk s
def vaP (p : Nat) (s : List UInt8) : Int:=if p < 3 then regN s else numN s
def takeP : List Nat → Words → Bool
 | [],[]=>true
 | p :: ps,x :: xs=>okP p x && takeP ps xs
 | _,_=>false
def valP (q : Nat) : List Nat → Words → Int
 | p :: ps,x :: xs=>if p = q then vaP p x else valP q ps xs
 | _,_=>0
theorem fin_take (k : Nat) (hk : k ≤ 5) (l : Words) : (!finB k l && (finL k l).isEmpty) = takeP (wantK k) l:=by
 rcases (by omega : k = 0 ∨ k = 1 ∨ k = 2 ∨ k = 3 ∨ k = 4 ∨ k = 5) with rfl | rfl | rfl | rfl | rfl | rfl
 all_goals
  rcases l with _ | ⟨x,_ | ⟨y,_ | ⟨z,_ | ⟨u,r⟩⟩⟩⟩
  all_goals simp [wd0,finB,finL,rdB,ndB,takeP,wantK,okP,Bool.and_assoc,Bool.and_comm,Bool.and_left_comm]
theorem fin_vals (k : Nat) (hk : k ≤ 5) (l : Words) (h : takeP (wantK k) l = true) : finD k l = valP 0 (wantK k) l ∧ finA k l = valP 1 (wantK k) l ∧ finC k l = valP 2 (wantK k) l ∧ finN k l = valP 3 (wantK k) l:=by
 rcases (by omega : k = 0 ∨ k = 1 ∨ k = 2 ∨ k = 3 ∨ k = 4 ∨ k = 5) with rfl | rfl | rfl | rfl | rfl | rfl
 all_goals
  rcases l with _ | ⟨x,_ | ⟨y,_ | ⟨z,_ | ⟨u,r⟩⟩⟩⟩
  all_goals first | (simp [takeP,wantK] at h;done) | (simp [finD,finA,finC,finN,valP,wantK,vaP,wd0,wd1,wd2];done) | (exfalso;simp [takeP,wantK] at h)
def insP (o : Nat) (l : Words) : Int × Int × Int × Int:=(valP 0 (wantK (kindN o)) l,valP 1 (wantK (kindN o)) l,valP 2 (wantK (kindN o)) l,valP 3 (wantK (kindN o)) l)
/-- Whether a text is an instruction's. -/
def parB (s : List UInt8) : Bool:=wordsB s && (decide (opV ((fieldsC 32 s).headD []) ≠ 0) && (takeP (wantK (kindN (opV ((fieldsC 32 s).headD [])))) (fieldsC 32 s).tail &&
 Isa.validB (opV ((fieldsC 32 s).headD [])) (insP (opV ((fieldsC 32 s).headD [])) (fieldsC 32 s).tail).1 (insP (opV ((fieldsC 32 s).headD [])) (fieldsC 32 s).tail).2.1 (insP (opV ((fieldsC 32 s).headD [])) (fieldsC 32 s).tail).2.2.1 (insP (opV ((fieldsC 32 s).headD [])) (fieldsC 32 s).tail).2.2.2))
def parO (s : List UInt8) : Int:=if parB s then opV ((fieldsC 32 s).headD []) else 0
def parD (s : List UInt8) : Int:=if parB s then (insP (opV ((fieldsC 32 s).headD [])) (fieldsC 32 s).tail).1 else 0
def parA (s : List UInt8) : Int:=if parB s then (insP (opV ((fieldsC 32 s).headD [])) (fieldsC 32 s).tail).2.1 else 0
def parC (s : List UInt8) : Int:=if parB s then (insP (opV ((fieldsC 32 s).headD [])) (fieldsC 32 s).tail).2.2.1 else 0
def parN (s : List UInt8) : Int:=if parB s then (insP (opV ((fieldsC 32 s).headD [])) (fieldsC 32 s).tail).2.2.2 else 0
def parE (s : List UInt8) : Int:=if parB s then 0 else 6
def parV (s : List UInt8) : Value:=.tuple #[(.agg #[.int .i64 (parO s),.int .i64 (parD s),.int .i64 (parA s),.int .i64 (parC s),.int .i64 (parN s)]),.int .i64 (parE s)]
theorem parV_no {s : List UInt8} (h : parB s = false) : parV s = .tuple #[(.agg #[.int .i64 (0),.int .i64 (0),.int .i64 (0),.int .i64 (0),.int .i64 (0)]),.int .i64 6]:=by
 simp [parV,parO,parD,parA,parC,parN,parE,h]
end Go.Proofs.YtoklonmiejdgmaaGreatDoor.As
/- Package asm: Parse walked. -/
namespace Go.Proofs.YtoklonmiejdgmaaGreatDoor.As
set_option linter.unusedVariables false
set_option linter.unusedSimpArgs false
set_option linter.unnecessarySimpa false
open Go.RowKit Go.Sort
set_option maxHeartbeats 4000000
set_option maxRecDepth 100000
set_option linter.unusedVariables false
def MidP (W0 : World) (rb ib o k : Nat) (r : Words) (wc : World) : Prop:=
 ObjAt wc ib 145 [.int .i64 o,.int .i64 (finD k r),.int .i64 (finA k r),.int .i64 (finC k r),.int .i64 (finN k r)] ∧ (∃ a cap,wc.cell? ⟨rb,0,none⟩ = some (.slice a (finL k r).length cap)) ∧ wc.cell? ⟨rb,1,none⟩ = some (.bool (finB k r)) ∧ Below W0.heap.size W0 wc
theorem mid_5 {W0 W : World} {rb g ib o : Nat} {r : Words} (hX : PS W0 rb g ib r false o W) : MidP W0 rb ib o 5 r W:=by
 obtain ⟨t0,t1,hB⟩:=hX.tail (Upd.refl _ _)
 exact ⟨hX.ins,t0,t1,hB⟩
theorem mid_0 {W0 W : World} {rb g ib o : Nat} {r : Words} {vd va vc : Int} (hX : PS W0 rb g ib (finL 0 r) (finB 0 r) o W) (hd : vd = regN (wd0 r)) (ha : va = regN (wd1 r)) (hc : vc = regN (wd2 r)) :
  MidP W0 rb ib o 0 r (((W.setCell ⟨ib,1,none⟩ (.int .i64 vd)).setCell ⟨ib,2,none⟩ (.int .i64 va)).setCell ⟨ib,3,none⟩ (.int .i64 vc)):=by
 subst hd ha hc
 obtain ⟨t0,t1,hB⟩:=hX.tail (((Upd.setCell W ⟨ib,1,none⟩ (.int .i64 (regN (wd0 r)))).trans (Upd.setCell _ ⟨ib,2,none⟩ (.int .i64 (regN (wd1 r))))).trans (Upd.setCell _ ⟨ib,3,none⟩ (.int .i64 (regN (wd2 r)))))
 exact ⟨((hX.ins.set 1 _).set 2 _).set 3 _,t0,t1,hB⟩
theorem mid_1 {W0 W : World} {rb g ib o : Nat} {r : Words} {vd va vn : Int} (hX : PS W0 rb g ib (finL 1 r) (finB 1 r) o W) (hd : vd = regN (wd0 r)) (ha : va = regN (wd1 r)) (hc : vn = numN (wd2 r)) :
  MidP W0 rb ib o 1 r (((W.setCell ⟨ib,1,none⟩ (.int .i64 vd)).setCell ⟨ib,2,none⟩ (.int .i64 va)).setCell ⟨ib,4,none⟩ (.int .i64 vn)):=by
 subst hd ha hc
 obtain ⟨t0,t1,hB⟩:=hX.tail (((Upd.setCell W ⟨ib,1,none⟩ (.int .i64 (regN (wd0 r)))).trans (Upd.setCell _ ⟨ib,2,none⟩ (.int .i64 (regN (wd1 r))))).trans (Upd.setCell _ ⟨ib,4,none⟩ (.int .i64 (numN (wd2 r)))))
 exact ⟨((hX.ins.set 1 _).set 2 _).set 4 _,t0,t1,hB⟩
theorem mid_2 {W0 W : World} {rb g ib o : Nat} {r : Words} {vd vn : Int} (hX : PS W0 rb g ib (finL 2 r) (finB 2 r) o W) (hd : vd = regN (wd0 r)) (hc : vn = numN (wd1 r)) :
  MidP W0 rb ib o 2 r ((W.setCell ⟨ib,1,none⟩ (.int .i64 vd)).setCell ⟨ib,4,none⟩ (.int .i64 vn)):=by
 subst hd hc
 obtain ⟨t0,t1,hB⟩:=hX.tail ((Upd.setCell W ⟨ib,1,none⟩ (.int .i64 (regN (wd0 r)))).trans (Upd.setCell _ ⟨ib,4,none⟩ (.int .i64 (numN (wd1 r)))))
 exact ⟨(hX.ins.set 1 _).set 4 _,t0,t1,hB⟩
theorem mid_3 {W0 W : World} {rb g ib o : Nat} {r : Words} {va vc vn : Int} (hX : PS W0 rb g ib (finL 3 r) (finB 3 r) o W) (hd : va = regN (wd0 r)) (ha : vc = regN (wd1 r)) (hc : vn = numN (wd2 r)) :
  MidP W0 rb ib o 3 r (((W.setCell ⟨ib,2,none⟩ (.int .i64 va)).setCell ⟨ib,3,none⟩ (.int .i64 vc)).setCell ⟨ib,4,none⟩ (.int .i64 vn)):=by
 subst hd ha hc
 obtain ⟨t0,t1,hB⟩:=hX.tail (((Upd.setCell W ⟨ib,2,none⟩ (.int .i64 (regN (wd0 r)))).trans (Upd.setCell _ ⟨ib,3,none⟩ (.int .i64 (regN (wd1 r))))).trans (Upd.setCell _ ⟨ib,4,none⟩ (.int .i64 (numN (wd2 r)))))
 exact ⟨((hX.ins.set 2 _).set 3 _).set 4 _,t0,t1,hB⟩
theorem mid_4 {W0 W : World} {rb g ib o : Nat} {r : Words} {va vn : Int} (hX : PS W0 rb g ib (finL 4 r) (finB 4 r) o W) (hd : va = regN (wd0 r)) (hc : vn = numN (wd1 r)) :
  MidP W0 rb ib o 4 r ((W.setCell ⟨ib,2,none⟩ (.int .i64 va)).setCell ⟨ib,4,none⟩ (.int .i64 vn)):=by
 subst hd hc
 obtain ⟨t0,t1,hB⟩:=hX.tail ((Upd.setCell W ⟨ib,2,none⟩ (.int .i64 (regN (wd0 r)))).trans (Upd.setCell _ ⟨ib,4,none⟩ (.int .i64 (numN (wd1 r)))))
 exact ⟨(hX.ins.set 2 _).set 4 _,t0,t1,hB⟩
theorem parse_none (s : ByteArray) (hs : s.size ≤ 100000000) (w : World) (hw : wordsB s.data.toList = false) :
  Calls Tryz.prog 193 #[.string s] w fun e w'=>e = .returned (parV s.data.toList) ∧ Below w.heap.size w w':=by
 have HE : Hid (parV s.data.toList = .tuple #[(.agg #[.int .i64 (0),.int .i64 (0),.int .i64 (0),.int .i64 (0),.int .i64 (0)]),.int .i64 6]):=parV_no (by simp [parB,hw])
 go_enter Tryz.func193,Tryz.ntmps193
 go_wp2_with fail
 refine (split_any s hs _).mono ?_;rintro e w1 ⟨_,h2,hb⟩;obtain rfl:=h2 hw
 have hO : ObjAt w1 w.heap.size 145 zeroI:=(ObjAt.new w 145 zeroI).below hb
 have HB : Hid (Below w.heap.size w w1):=bmore ((Below.refl _ _).alloc (Nat.le_refl _) _) hb
 have s6:=hO.lt
 have a0:=(hO).cell 0 _ rfl;have a1:=(hO).cell 1 _ rfl;have a2:=(hO).cell 2 _ rfl;have a3:=(hO).cell 3 _ rfl;have a4:=(hO).cell 4 _ rfl;have g0:=(hO).free 0;have g1:=(hO).free 1;have g2:=(hO).free 2;have g3:=(hO).free 3;have g4:=(hO).free 4
 clear hb h2
 go_wp2_with fail
 (refine bodyPost_ret (v:=.tuple #[(.agg #[.int .i64 (0),.int .i64 (0),.int .i64 (0),.int .i64 (0),.int .i64 (0)]),.int .i64 6]) (by simp [results,Tryz.results193,go_sem,a0,a1,a2,a3,a4,s6]) rfl ⟨by rw [HE.out],?_⟩;exact (((((HB.out.setCell (Nat.le_refl _) _).setCell (Nat.le_refl _) _).setCell (Nat.le_refl _) _).setCell (Nat.le_refl _) _).setCell (Nat.le_refl _) _))
theorem parse_noop (s : ByteArray) (hs : s.size ≤ 100000000) (w : World) (hw : wordsB s.data.toList = true) (hz : opV ((fieldsC 32 s.data.toList).headD []) = 0) :
  Calls Tryz.prog 193 #[.string s] w fun e w'=>e = .returned (parV s.data.toList) ∧ Below w.heap.size w w':=by
 have HE : Hid (parV s.data.toList = .tuple #[(.agg #[.int .i64 (0),.int .i64 (0),.int .i64 (0),.int .i64 (0),.int .i64 (0)]),.int .i64 6]):=parV_no (by unfold parB;rw [hz];simp)
 obtain ⟨L,hL⟩ : ∃ L,L = fieldsC 32 s.data.toList:=⟨_,rfl⟩
 have hne : L ≠ []:=by rw [hL];exact fieldsC_ne 32 _
 have HSP:=Lib.hid (split_any s hs (w.alloc (.cells #[.int .i64 0,.int .i64 0,.int .i64 0,.int .i64 0,.int .i64 0] 145)))
 have HP : Hid (∀ e w',SplitPost s.data.toList (w.alloc (.cells #[.int .i64 0,.int .i64 0,.int .i64 0,.int .i64 0,.int .i64 0] 145)) e w' → (∃ a cap,e = .returned (.tuple #[.slice a L.length cap,.bool true]) ∧ RdW w' a cap L) ∧ Below (w.alloc (.cells #[.int .i64 0,.int .i64 0,.int .i64 0,.int .i64 0,.int .i64 0] 145)).heap.size (w.alloc (.cells #[.int .i64 0,.int .i64 0,.int .i64 0,.int .i64 0,.int .i64 0] 145)) w'):=fun e w' h=>by rw [hL];exact ⟨h.1 hw,h.2.2⟩
 rw [← hL] at hz
 obtain ⟨x,r,rfl⟩ : ∃ x r,L = x :: r:=by cases L with
  | nil=>exact absurd rfl hne
  | cons x r=>exact ⟨x,r,rfl⟩
 have HX : Hid (opV x = 0):=hz
 clear hL hne hw hz
 go_enter Tryz.func193,Tryz.ntmps193
 go_wp2_with fail
 refine HSP.out.mono ?_;rintro e w1 h
 obtain ⟨⟨a,cap,rfl,hR⟩,hb⟩:=HP.out _ _ h
 obtain ⟨g,o,rfl,hg,hc⟩:=hR.at_ 0 (by simp)
 have c0 : w1.cell? ⟨g,o,none⟩ = some (.string (ba x)):=hc 0 (by simp)
 have hO : ObjAt w1 w.heap.size 145 zeroI:=(ObjAt.new w 145 zeroI).below hb
 have HB1 : Hid (Below w.heap.size w w1):=bmore ((Below.refl _ _).alloc (Nat.le_refl _) _) hb
 have HO1:=Lib.hid hO
 clear hb h hc hR hO HSP HP
 go_wp2_with fail
 refine (opOf_any (ba x) _).mono ?_;rintro e w2 ⟨rfl,hb2⟩
 rw [ba_data,HX.out]
 have hO:=HO1.out.below hb2
 have HB : Hid (Below w.heap.size w w2):=bmore HB1.out hb2
 have s6:=hO.lt
 have a0:=(hO).cell 0 _ rfl;have a1:=(hO).cell 1 _ rfl;have a2:=(hO).cell 2 _ rfl;have a3:=(hO).cell 3 _ rfl;have a4:=(hO).cell 4 _ rfl;have g0:=(hO).free 0;have g1:=(hO).free 1;have g2:=(hO).free 2;have g3:=(hO).free 3;have g4:=(hO).free 4
 clear hb2
 go_wp2_with fail
 (refine bodyPost_ret (v:=.tuple #[(.agg #[.int .i64 (0),.int .i64 (0),.int .i64 (0),.int .i64 (0),.int .i64 (0)]),.int .i64 6]) (by simp [results,Tryz.results193,go_sem,a0,a1,a2,a3,a4,s6]) rfl ⟨by rw [HE.out],?_⟩;exact (((((HB.out.setCell (Nat.le_refl _) _).setCell (Nat.le_refl _) _).setCell (Nat.le_refl _) _).setCell (Nat.le_refl _) _).setCell (Nat.le_refl _) _))
theorem par_val {s : List UInt8} {L : Words} {o : Nat} (hL : L = fieldsC 32 s) (ho : o = opV (L.headD [])) (hw : wordsB s = true) (h0 : o ≠ 0) (h41 : o ≤ 41) :
  ((finB (kindN o) L.tail = true ∨ finL (kindN o) L.tail ≠ [] ∨ Isa.validB o (finD (kindN o) L.tail) (finA (kindN o) L.tail) (finC (kindN o) L.tail) (finN (kindN o) L.tail) = false) → parV s = .tuple #[(.agg #[.int .i64 (0),.int .i64 (0),.int .i64 (0),.int .i64 (0),.int .i64 (0)]),.int .i64 6]) ∧
  (finB (kindN o) L.tail = false → finL (kindN o) L.tail = [] → Isa.validB o (finD (kindN o) L.tail) (finA (kindN o) L.tail) (finC (kindN o) L.tail) (finN (kindN o) L.tail) = true →
   parV s = .tuple #[(.agg #[.int .i64 (o),.int .i64 (finD (kindN o) L.tail),.int .i64 (finA (kindN o) L.tail),.int .i64 (finC (kindN o) L.tail),.int .i64 (finN (kindN o) L.tail)]),.int .i64 0]):=by
 have hk:=kindN_le ⟨o,by omega⟩
 dsimp only at hk
 have ht:=fin_take (kindN o) hk L.tail
 have hv:=fin_vals (kindN o) hk L.tail
 have hP : parB s = (takeP (wantK (kindN o)) L.tail && Isa.validB o (insP o L.tail).1 (insP o L.tail).2.1 (insP o L.tail).2.2.1 (insP o L.tail).2.2.2):=by
  unfold parB
  rw [hw,← hL,← ho,decide_eq_true h0]
  rfl
 constructor
 ·intro h
  apply parV_no
  rw [hP]
  cases hb : takeP (wantK (kindN o)) L.tail with
  | false=>rfl
  | true=>
   rw [hb,Bool.and_eq_true] at ht
   obtain ⟨e1,e2⟩:=ht
   obtain ⟨v1,v2,v3,v4⟩:=hv hb
   rcases h with h | h | h
   ·rw [h] at e1;cases e1
   ·exact absurd (List.isEmpty_iff.1 e2) h
   ·unfold insP
    dsimp only
    rw [← v1,← v2,← v3,← v4,h];rfl
 ·intro h1 h2 h3
  rw [h1,h2] at ht
  obtain ⟨v1,v2,v3,v4⟩:=hv ht.symm
  have hT : parB s = true:=by
   rw [hP,← ht]
   unfold insP
   dsimp only
   rw [← v1,← v2,← v3,← v4,h3];rfl
  unfold parV parO parD parA parC parN parE
  rw [if_pos hT,if_pos hT,if_pos hT,if_pos hT,if_pos hT,if_pos hT,← hL,← ho]
  unfold insP
  dsimp only
  rw [← v1,← v2,← v3,← v4]
theorem parse_op (s : ByteArray) (hs : s.size ≤ 100000000) (w : World) (ht : Isa.Tab w) (hw : wordsB s.data.toList = true) (hz : opV ((fieldsC 32 s.data.toList).headD []) ≠ 0) :
  Calls Tryz.prog 193 #[.string s] w fun e w'=>e = .returned (parV s.data.toList) ∧ Below w.heap.size w w':=by
 obtain ⟨L,hL⟩ : ∃ L,L = fieldsC 32 s.data.toList:=⟨_,rfl⟩
 have hne : L ≠ []:=by rw [hL];exact fieldsC_ne 32 _
 have hsm : ∀ y ∈ L,y.length ≤ 100000000:=fun y hy=>by
  rw [hL] at hy
  have:=(fieldsC_mem 32 s.data.toList y hy).2
  rw [ba_len] at this;omega
 have HSP:=Lib.hid (split_any s hs (w.alloc (.cells #[.int .i64 0,.int .i64 0,.int .i64 0,.int .i64 0,.int .i64 0] 145)))
 have HP : Hid (∀ e w',SplitPost s.data.toList (w.alloc (.cells #[.int .i64 0,.int .i64 0,.int .i64 0,.int .i64 0,.int .i64 0] 145)) e w' → (∃ a cap,e = .returned (.tuple #[.slice a L.length cap,.bool true]) ∧ RdW w' a cap L) ∧ Below (w.alloc (.cells #[.int .i64 0,.int .i64 0,.int .i64 0,.int .i64 0,.int .i64 0] 145)).heap.size (w.alloc (.cells #[.int .i64 0,.int .i64 0,.int .i64 0,.int .i64 0,.int .i64 0] 145)) w'):=fun e w' h=>by rw [hL];exact ⟨h.1 hw,h.2.2⟩
 rw [← hL] at hz
 obtain ⟨o,ho⟩ : ∃ o,o = opV (L.headD []):=⟨_,rfl⟩
 rw [← ho] at hz
 have h41 : o ≤ 41:=by rw [ho];exact opV_le _
 have HV:=Lib.hid (par_val hL ho hw hz h41)
 obtain ⟨R,hR⟩ : ∃ R,R = parV s.data.toList:=⟨_,rfl⟩
 rw [← hR] at HV ⊢
 obtain ⟨x,r,rfl⟩ : ∃ x r,L = x :: r:=by cases L with
  | nil=>exact absurd rfl hne
  | cons x r=>exact ⟨x,r,rfl⟩
 have HX : Hid (opV x = o):=ho.symm
 have HO : Hid (1 ≤ o ∧ o < 42):=⟨by omega,by omega⟩
 have HSM : Hid (∀ y ∈ r,y.length ≤ 100000000):=fun y hy=>hsm y (List.mem_cons_of_mem _ hy)
 have HT:=Lib.hid ht
 rw [show (x :: r).tail = r from rfl] at HV
 clear hL hne hw hz ho hR hsm ht h41
 go_enter Tryz.func193,Tryz.ntmps193
 go_wp2_with fail
 refine HSP.out.mono ?_;rintro e w1 h
 obtain ⟨⟨a,cap,rfl,hR⟩,hb⟩:=HP.out _ _ h
 obtain ⟨g,off,rfl,hg,hc⟩:=hR.at_ 0 (by simp)
 have c0 : w1.cell? ⟨g,off,none⟩ = some (.string (ba x)):=hc 0 (by simp)
 have hO : ObjAt w1 w.heap.size 145 zeroI:=(ObjAt.new w 145 zeroI).below hb
 have HB1 : Hid (Below w.heap.size w w1):=bmore ((Below.refl _ _).alloc (Nat.le_refl _) _) hb
 have HB0:=Lib.hid hb
 have HO1:=Lib.hid hO
 have HR:=Lib.hid hR
 have HC:=Lib.hid hc
 have HG:=Lib.hid hg
 have hlen : (x :: r).length = r.length + 1:=rfl
 have hle:=hR.le
 have hmx : cap ≤ 9223372036854775807:=hR.mx
 rw [hlen] at hle ⊢
 clear hb h hc hR hO HSP HP hg hlen
 go_wp2_with fail
 refine (opOf_any (ba x) _).mono ?_;rintro e w2 ⟨rfl,hb2⟩
 rw [ba_data,HX.out,decide_eq_true (show o ≠ 0 from fun h=>absurd HO.out.1 (by omega))]
 have hst:=fun off' cap' h1 h2 h3=>ps_start (off:=off') (r:=r) (cap:=cap') (o:=(o : Int)) HB0.out hb2 HG.out h1 h2 h3 HSM.out
 have HST:=Lib.hid hst
 have HB2:=Lib.hid hb2
 clear hst hb2
 go_upto_region 7 with fail
 go_cut [7] from 29 (fun s7 wc=>s7 = .pointer (some ⟨w2.heap.size,0,none⟩) ∧ ∃ off' cap',r.length ≤ cap' ∧ cap' ≤ maxLen ∧ (∀ j (hj : j < r.length),w1.cell? ⟨g,off' + j,none⟩ = some (.string (ba r[j]))) ∧ wc = w2.alloc (.cells #[.slice (some ⟨g,off',none⟩) r.length cap',.bool false] 266))
 case first=>
  go_wp2_with fail
  case inl=>
   subst h
   have hr : r = []:=List.length_eq_zero_iff.1 (by omega)
   go_meet
   case rel=>exact ⟨rfl,off,0,by rw [hr];simp,by simp,(fun j hj=>absurd hj (by rw [hr];simp)),rfl⟩
  case inr=>
   go_meet
   case rel=>exact ⟨rfl,off + 1,cap - 1,by omega,by unfold maxLen;omega,(fun j hj=>by rw [show off + 1 + j = off + (j + 1) by omega];exact HC.out (j + 1) (by simp;omega)),rfl⟩
 case rest=>
  obtain ⟨rfl,off',cap',c1,c2,c3,rfl⟩:=hcut
  have HPS:=Lib.hid (HST.out off' cap' c1 c2 c3)
  clear HST HC HR c0 c1 c2 c3 hle hmx
  go_upto_block 0 with (go_at_call 180;refine (kind_any o HO.out.1 HO.out.2 _).mono ?_;rintro e w3 ⟨rfl,rfl⟩)
  have HK : Hid (kindN o = 0 ∨ kindN o = 1 ∨ kindN o = 2 ∨ kindN o = 3 ∨ kindN o = 4 ∨ kindN o = 5):=by have h41:=HO.out.2;have:=kindN_le ⟨o,h41⟩;dsimp only at this;unfold Hid;omega
  go_cut [7] from 40 (fun s7 wc=>s7 = .pointer (some ⟨w2.heap.size,0,none⟩) ∧ MidP (w.alloc (.cells #[.int .i64 0,.int .i64 0,.int .i64 0,.int .i64 0,.int .i64 0] 145)) w2.heap.size (w2.heap.size + 1) o (kindN o) r wc)
  case first=>
   rcases HK.out with hK | hK | hK | hK | hK | hK
   ·rw [hK]
    have HKN:=Lib.hid hK
    clear HK hK
    obtain ⟨vd,hvd⟩ : ∃ v,Hid (v = regN (wd0 r)):=⟨_,Lib.hid rfl⟩
    obtain ⟨va,hva⟩ : ∃ v,Hid (v = regN (wd1 r)):=⟨_,Lib.hid rfl⟩
    obtain ⟨vc,hvc⟩ : ∃ v,Hid (v = regN (wd2 r)):=⟨_,Lib.hid rfl⟩
    go_wp2_with fail;refine (reg_ps HPS.out vd hvd.out).mono ?_;rintro e Wa ⟨rfl,hA⟩
    go_wp2_with fail;refine (reg_ps hA va hva.out).mono ?_;rintro e Wb ⟨rfl,hB⟩
    go_wp2_with fail;refine (reg_ps hB vc hvc.out).mono ?_;rintro e Wc ⟨rfl,hC⟩
    have HM:=Lib.hid (mid_0 (r:=r) hC hvd.out hva.out hvc.out)
    have i1:=hC.ins.cell 1 _ rfl;have j1:=hC.ins.free 1
    have i2:=hC.ins.cell 2 _ rfl;have j2:=hC.ins.free 2
    have i3:=hC.ins.cell 3 _ rfl;have j3:=hC.ins.free 3
    clear hA hB hC HPS
    go_wp2_with fail
    go_meet
    case rel=>rw [HKN.out];exact ⟨rfl,HM.out⟩
   ·rw [hK]
    have HKN:=Lib.hid hK
    clear HK hK
    obtain ⟨vd,hvd⟩ : ∃ v,Hid (v = regN (wd0 r)):=⟨_,Lib.hid rfl⟩
    obtain ⟨va,hva⟩ : ∃ v,Hid (v = regN (wd1 r)):=⟨_,Lib.hid rfl⟩
    obtain ⟨vn,hvn⟩ : ∃ v,Hid (v = numN (wd2 r)):=⟨_,Lib.hid rfl⟩
    go_wp2_with fail;refine (reg_ps HPS.out vd hvd.out).mono ?_;rintro e Wa ⟨rfl,hA⟩
    go_wp2_with fail;refine (reg_ps hA va hva.out).mono ?_;rintro e Wb ⟨rfl,hB⟩
    go_wp2_with fail;refine (num_ps hB vn hvn.out).mono ?_;rintro e Wc ⟨rfl,hC⟩
    have HM:=Lib.hid (mid_1 (r:=r) hC hvd.out hva.out hvn.out)
    have i1:=hC.ins.cell 1 _ rfl;have j1:=hC.ins.free 1
    have i2:=hC.ins.cell 2 _ rfl;have j2:=hC.ins.free 2
    have i4:=hC.ins.cell 4 _ rfl;have j4:=hC.ins.free 4
    clear hA hB hC HPS
    go_wp2_with fail
    go_meet
    case rel=>rw [HKN.out];exact ⟨rfl,HM.out⟩
   ·rw [hK]
    have HKN:=Lib.hid hK
    clear HK hK
    obtain ⟨vd,hvd⟩ : ∃ v,Hid (v = regN (wd0 r)):=⟨_,Lib.hid rfl⟩
    obtain ⟨vn,hvn⟩ : ∃ v,Hid (v = numN (wd1 r)):=⟨_,Lib.hid rfl⟩
    go_wp2_with fail;refine (reg_ps HPS.out vd hvd.out).mono ?_;rintro e Wa ⟨rfl,hA⟩
    go_wp2_with fail;refine (num_ps hA vn hvn.out).mono ?_;rintro e Wb ⟨rfl,hB⟩
    have HM:=Lib.hid (mid_2 (r:=r) hB hvd.out hvn.out)
    have i1:=hB.ins.cell 1 _ rfl;have j1:=hB.ins.free 1
    have i4:=hB.ins.cell 4 _ rfl;have j4:=hB.ins.free 4
    clear hA hB HPS
    go_wp2_with fail
    go_meet
    case rel=>rw [HKN.out];exact ⟨rfl,HM.out⟩
   ·rw [hK]
    have HKN:=Lib.hid hK
    clear HK hK
    obtain ⟨va,hva⟩ : ∃ v,Hid (v = regN (wd0 r)):=⟨_,Lib.hid rfl⟩
    obtain ⟨vc,hvc⟩ : ∃ v,Hid (v = regN (wd1 r)):=⟨_,Lib.hid rfl⟩
    obtain ⟨vn,hvn⟩ : ∃ v,Hid (v = numN (wd2 r)):=⟨_,Lib.hid rfl⟩
    go_wp2_with fail;refine (reg_ps HPS.out va hva.out).mono ?_;rintro e Wa ⟨rfl,hA⟩
    go_wp2_with fail;refine (reg_ps hA vc hvc.out).mono ?_;rintro e Wb ⟨rfl,hB⟩
    go_wp2_with fail;refine (num_ps hB vn hvn.out).mono ?_;rintro e Wc ⟨rfl,hC⟩
    have HM:=Lib.hid (mid_3 (r:=r) hC hva.out hvc.out hvn.out)
    have i2:=hC.ins.cell 2 _ rfl;have j2:=hC.ins.free 2
    have i3:=hC.ins.cell 3 _ rfl;have j3:=hC.ins.free 3
    have i4:=hC.ins.cell 4 _ rfl;have j4:=hC.ins.free 4
    clear hA hB hC HPS
    go_wp2_with fail
    go_meet
    case rel=>rw [HKN.out];exact ⟨rfl,HM.out⟩
   ·rw [hK]
    have HKN:=Lib.hid hK
    clear HK hK
    obtain ⟨va,hva⟩ : ∃ v,Hid (v = regN (wd0 r)):=⟨_,Lib.hid rfl⟩
    obtain ⟨vn,hvn⟩ : ∃ v,Hid (v = numN (wd1 r)):=⟨_,Lib.hid rfl⟩
    go_wp2_with fail;refine (reg_ps HPS.out va hva.out).mono ?_;rintro e Wa ⟨rfl,hA⟩
    go_wp2_with fail;refine (num_ps hA vn hvn.out).mono ?_;rintro e Wb ⟨rfl,hB⟩
    have HM:=Lib.hid (mid_4 (r:=r) hB hva.out hvn.out)
    have i2:=hB.ins.cell 2 _ rfl;have j2:=hB.ins.free 2
    have i4:=hB.ins.cell 4 _ rfl;have j4:=hB.ins.free 4
    clear hA hB HPS
    go_wp2_with fail
    go_meet
    case rel=>rw [HKN.out];exact ⟨rfl,HM.out⟩
   ·rw [hK]
    have HKN:=Lib.hid hK
    clear HK hK
    have HM:=Lib.hid (mid_5 HPS.out)
    clear HPS
    go_wp2_with fail
    go_meet
    case rel=>rw [HKN.out];exact ⟨rfl,HM.out⟩
  case rest=>
   obtain ⟨rfl,hI,⟨ta,tc,t0⟩,t1,hBd⟩:=hcut
   obtain ⟨vd,hvd⟩ : ∃ v,v = finD (kindN o) r:=⟨_,rfl⟩
   obtain ⟨va,hva⟩ : ∃ v,v = finA (kindN o) r:=⟨_,rfl⟩
   obtain ⟨vc,hvc⟩ : ∃ v,v = finC (kindN o) r:=⟨_,rfl⟩
   obtain ⟨vn,hvn⟩ : ∃ v,v = finN (kindN o) r:=⟨_,rfl⟩
   rw [← hvd,← hva,← hvc,← hvn] at HV hI
   generalize finL (kindN o) r = lf at HV t0
   generalize finB (kindN o) r = bd at HV t1
   have hO:=(ObjAt.new w 145 zeroI).below hBd
   have a0:=(hO).cell 0 _ rfl;have a1:=(hO).cell 1 _ rfl;have a2:=(hO).cell 2 _ rfl;have a3:=(hO).cell 3 _ rfl;have a4:=(hO).cell 4 _ rfl;have g0:=(hO).free 0;have g1:=(hO).free 1;have g2:=(hO).free 2;have g3:=(hO).free 3;have g4:=(hO).free 4
   have HB : Hid (Below w.heap.size w wc):=bmore ((Below.refl _ _).alloc (Nat.le_refl _) _) hBd
   have s6:=hO.lt
   have HTd:=Lib.hid (HT.out.below HB.out)
   have HO2:=Lib.hid hO
   have HS:=Lib.hid hI
   have k0:=hI.cell 0 _ rfl;have k1:=hI.cell 1 _ rfl;have k2:=hI.cell 2 _ rfl;have k3:=hI.cell 3 _ rfl;have k4:=hI.cell 4 _ rfl
   clear hO hI hBd hvd hva hvc hvn HK HPS HSM HO1
   cases bd
   ·cases lf with
    | nil=>
     rw [show ([] : Words).length = 0 from rfl] at t0
     cases hval : Isa.validB o vd va vc vn
     ·have HE : Hid (R = .tuple #[(.agg #[.int .i64 (0),.int .i64 (0),.int .i64 (0),.int .i64 (0),.int .i64 (0)]),.int .i64 6]):=HV.out.1 (Or.inr (Or.inr hval))
      clear HV
      have HVB : Hid (Isa.validB o vd va vc vn = false):=hval
      clear hval
      go_wp2_with (go_at_call 176;refine (Isa.valid_any _ _ _ _ _ _ HTd.out).mono ?_;rintro e w5 ⟨rfl,hb5⟩;rw [HVB.out];have hO:=HO2.out.below hb5;have HB : Hid (Below w.heap.size w w5):=bmore HB.out hb5;have s6:=hO.lt;have hS5:=HS.out.below hb5;have k0:=hS5.cell 0 _ rfl;have k1:=hS5.cell 1 _ rfl;have k2:=hS5.cell 2 _ rfl;have k3:=hS5.cell 3 _ rfl;have k4:=hS5.cell 4 _ rfl;have a0:=(hO).cell 0 _ rfl;have a1:=(hO).cell 1 _ rfl;have a2:=(hO).cell 2 _ rfl;have a3:=(hO).cell 3 _ rfl;have a4:=(hO).cell 4 _ rfl;have g0:=(hO).free 0;have g1:=(hO).free 1;have g2:=(hO).free 2;have g3:=(hO).free 3;have g4:=(hO).free 4;clear hO hb5 hS5)
      (refine bodyPost_ret (v:=.tuple #[(.agg #[.int .i64 (0),.int .i64 (0),.int .i64 (0),.int .i64 (0),.int .i64 (0)]),.int .i64 6]) (by simp [results,Tryz.results193,go_sem,a0,a1,a2,a3,a4,s6]) rfl ⟨by rw [HE.out],?_⟩;exact (((((HB.out.setCell (Nat.le_refl _) _).setCell (Nat.le_refl _) _).setCell (Nat.le_refl _) _).setCell (Nat.le_refl _) _).setCell (Nat.le_refl _) _))
     ·have HE : Hid (R = .tuple #[(.agg #[.int .i64 (o),.int .i64 (vd),.int .i64 (va),.int .i64 (vc),.int .i64 (vn)]),.int .i64 0]):=HV.out.2 rfl rfl hval
      clear HV
      have HVB : Hid (Isa.validB o vd va vc vn = true):=hval
      clear hval
      go_wp2_with (go_at_call 176;refine (Isa.valid_any _ _ _ _ _ _ HTd.out).mono ?_;rintro e w5 ⟨rfl,hb5⟩;rw [HVB.out];have hO:=HO2.out.below hb5;have HB : Hid (Below w.heap.size w w5):=bmore HB.out hb5;have s6:=hO.lt;have hS5:=HS.out.below hb5;have k0:=hS5.cell 0 _ rfl;have k1:=hS5.cell 1 _ rfl;have k2:=hS5.cell 2 _ rfl;have k3:=hS5.cell 3 _ rfl;have k4:=hS5.cell 4 _ rfl;have a0:=(hO).cell 0 _ rfl;have a1:=(hO).cell 1 _ rfl;have a2:=(hO).cell 2 _ rfl;have a3:=(hO).cell 3 _ rfl;have a4:=(hO).cell 4 _ rfl;have g0:=(hO).free 0;have g1:=(hO).free 1;have g2:=(hO).free 2;have g3:=(hO).free 3;have g4:=(hO).free 4;clear hO hb5 hS5)
      (refine bodyPost_ret (v:=.tuple #[(.agg #[.int .i64 (o),.int .i64 (vd),.int .i64 (va),.int .i64 (vc),.int .i64 (vn)]),.int .i64 0]) (by simp [results,Tryz.results193,go_sem,a0,a1,a2,a3,a4,s6]) rfl ⟨by rw [HE.out],?_⟩;exact (((((HB.out.setCell (Nat.le_refl _) _).setCell (Nat.le_refl _) _).setCell (Nat.le_refl _) _).setCell (Nat.le_refl _) _).setCell (Nat.le_refl _) _))
    | cons y ys=>
     have HE : Hid (R = .tuple #[(.agg #[.int .i64 (0),.int .i64 (0),.int .i64 (0),.int .i64 (0),.int .i64 (0)]),.int .i64 6]):=HV.out.1 (Or.inr (Or.inl (by simp)))
     clear HV
     rw [show (y :: ys).length = ys.length + 1 from rfl] at t0
     have d1 : decide (((ys.length + 1 : Nat) : Int) > 0) = true:=decide_eq_true (by omega)
     have d2 : decide (0 < ys.length + 1) = true:=decide_eq_true (by omega)
     have d3 : decide ((0 : Int) < (ys.length : Int) + 1) = true:=decide_eq_true (by omega)
     go_wp2_with fail
     (refine bodyPost_ret (v:=.tuple #[(.agg #[.int .i64 (0),.int .i64 (0),.int .i64 (0),.int .i64 (0),.int .i64 (0)]),.int .i64 6]) (by simp [results,Tryz.results193,go_sem,a0,a1,a2,a3,a4,s6]) rfl ⟨by rw [HE.out],?_⟩;exact (((((HB.out.setCell (Nat.le_refl _) _).setCell (Nat.le_refl _) _).setCell (Nat.le_refl _) _).setCell (Nat.le_refl _) _).setCell (Nat.le_refl _) _))
   ·have HE : Hid (R = .tuple #[(.agg #[.int .i64 (0),.int .i64 (0),.int .i64 (0),.int .i64 (0),.int .i64 (0)]),.int .i64 6]):=HV.out.1 (Or.inl rfl)
    clear HV
    go_wp2_with fail
    (refine bodyPost_ret (v:=.tuple #[(.agg #[.int .i64 (0),.int .i64 (0),.int .i64 (0),.int .i64 (0),.int .i64 (0)]),.int .i64 6]) (by simp [results,Tryz.results193,go_sem,a0,a1,a2,a3,a4,s6]) rfl ⟨by rw [HE.out],?_⟩;exact (((((HB.out.setCell (Nat.le_refl _) _).setCell (Nat.le_refl _) _).setCell (Nat.le_refl _) _).setCell (Nat.le_refl _) _).setCell (Nat.le_refl _) _))
end Go.Proofs.YtoklonmiejdgmaaGreatDoor.As
/- Package asm and its reference: numbers of up to 32 bits. -/
namespace Go.Proofs.YtoklonmiejdgmaaGreatDoor.As
set_option linter.unusedVariables false
set_option linter.unusedSimpArgs false
set_option linter.unnecessarySimpa false
open Go.RowKit Go.Sort
set_option maxHeartbeats 1000000
set_option maxRecDepth 100000
set_option linter.unusedVariables false
def bigW (s : List UInt8) : Bool:=decide (s ≠ []) && (decide (s.length ≤ 10) && !(decide (1 < s.length) && decide (s.head? = some 48)))
def bigD (s : List UInt8) : Bool:=bigW s && s.all isDig
def lgN (s : List UInt8) : Nat:=if bigD s then numGo 0 s % 4294967296 else 0
def lgB (s : List UInt8) : Bool:=bigD s && decide (numGo 0 s < 4294967296)
theorem lg_bad {l : List UInt8} (h : bigD l = false) : lgN l = 0 ∧ lgB l = false:=by
 constructor
 ·rw [lgN,h];rfl
 ·rw [lgB,h];rfl
theorem bigD_all (s : ByteArray) (k : Nat) (h : k < s.size) (hd : isDig s[k] = false) : bigD s.data.toList = false:=by
 have : s.data.toList.all isDig = false:=by
  rw [List.all_eq_false]
  exact ⟨s[k],by rw [← ba_get s k h];exact List.getElem_mem _,by simp [hd]⟩
 rw [bigD,this,Bool.and_false]
theorem bigW_well (s : ByteArray) (h0 : s.size ≠ 0) (h1 : s.size ≤ 10) (h2 : s.size ≤ 1 ∨ (s[0]'(by omega)).toNat ≠ 48) : bigW s.data.toList = true:=by
 have hne : s.data.toList ≠ []:=fun e=>h0 (by rw [← ba_len,e];rfl)
 rw [bigW,ba_len,head_get s (by omega)]
 simp only [hne,ne_eq,not_false_eq_true,decide_true,Bool.true_and,h1]
 rw [Bool.not_eq_true',Bool.and_eq_false_iff,decide_eq_false_iff_not,decide_eq_false_iff_not]
 rcases h2 with h2 | h2
 ·left;omega
 ·right;intro e;injection e with e;exact h2 ((u8_48 _).1 e)
theorem bigW_zero (s : ByteArray) (h1 : 1 < s.size) (h2 : (s[0]'(by omega)).toNat = 48) : bigD s.data.toList = false:=by
 rw [bigD,bigW,ba_len,head_get s (by omega),(u8_48 _).2 h2]
 simp [h1]
theorem numGo_small10 (s : ByteArray) (k : Nat) (h : k ≤ 10) (hd : ∀ j (hj : j < s.size),j < k → isDig s[j] = true) : numGo 0 (s.data.toList.take k) < 10000000000:=by
 have ha : (s.data.toList.take k).all isDig = true:=by
  rw [List.all_eq_true]
  intro b hb
  obtain ⟨j,hj,rfl⟩:=List.mem_iff_getElem.1 hb
  rw [List.length_take,ba_len] at hj
  rw [List.getElem_take]
  exact hd j (by omega) (by omega)
 have h1:=numGo_lt _ 0 ha
 have h2 : 10 ^ (s.data.toList.take k).length ≤ 10 ^ 10:=Nat.pow_le_pow_right (by omega) (by rw [List.length_take];omega)
 omega
theorem lg_done (s : ByteArray) (hw : bigW s.data.toList = true) (hd : ∀ j (hj : j < s.size),isDig s[j] = true) : lgN s.data.toList = numGo 0 (s.data.toList.take s.size) % 4294967296 ∧ lgB s.data.toList = decide (numGo 0 (s.data.toList.take s.size) < 4294967296):=by
 have hb : bigD s.data.toList = true:=by
  rw [bigD,hw,Bool.true_and,List.all_eq_true]
  intro b hb
  obtain ⟨j,hj,rfl⟩:=List.mem_iff_getElem.1 hb
  exact hd j (by rw [ba_len] at hj;exact hj)
 rw [lgN,lgB,hb,List.take_of_length_le (by rw [ba_len];omega)]
 exact ⟨rfl,rfl⟩
theorem ret_ub {a a' : Int} {b b' : Bool} (h : a = a') (h' : b = b') : Ending.returned (.tuple #[.int .u32 a,.bool b]) = .returned (.tuple #[.int .u32 a',.bool b']):=by rw [h,h']
theorem rbig_any (s : ByteArray) (hs : s.size ≤ maxLen) (w : World) : Calls Tryz.prog 151 #[.string s] w fun e w'=>e = .returned (.tuple #[.int .u32 (lgN s.data.toList),.bool (lgB s.data.toList)]) ∧ w = w':=by
 unfold maxLen at hs
 by_cases h0 : s.size = 0
 ·have d0 : decide ((s.size : Int) < 1) = true:=by simp [h0]
  have d0' : decide (s.size < 1) = true:=by simp [h0]
  (have hnb : bigD s.data.toList = false:=(by (rw [bigD,bigW,show s.data.toList = [] from List.eq_nil_of_length_eq_zero (by rw [ba_len];exact h0)];rfl));have HNI:=Lib.hid (lg_bad hnb).1;have HNB:=Lib.hid (lg_bad hnb).2;clear hnb)
  clear h0
  go_enter Tryz.func151,Tryz.ntmps151
  go_wp2
  go_ret2
  exact ⟨by rw [HNI.out,HNB.out];rfl,rfl⟩
 ·have d0 : decide ((s.size : Int) < 1) = false:=decide_eq_false (by omega)
  have d0' : decide (s.size < 1) = false:=decide_eq_false (by omega)
  by_cases h1 : 10 < s.size
  ·have d1 : decide ((s.size : Int) > 10) = true:=decide_eq_true (by omega)
   have d1' : decide (10 < s.size) = true:=decide_eq_true h1
   (have hnb : bigD s.data.toList = false:=(by (rw [bigD,bigW,ba_len,show decide (s.size ≤ 10) = false from decide_eq_false (by omega)];simp));have HNI:=Lib.hid (lg_bad hnb).1;have HNB:=Lib.hid (lg_bad hnb).2;clear hnb)
   clear h0 h1
   go_enter Tryz.func151,Tryz.ntmps151
   go_wp2
   go_ret2
   exact ⟨by rw [HNI.out,HNB.out];rfl,rfl⟩
  ·have d1 : decide ((s.size : Int) > 10) = false:=decide_eq_false (by omega)
   have d1' : decide (10 < s.size) = false:=decide_eq_false h1
   have hsz : 0 < s.size:=by omega
   have hb0:=byte_lt s[0]
   by_cases h2 : 1 < s.size ∧ s[0].toNat = 48
   ·have d2 : decide ((s.size : Int) > 1) = true:=decide_eq_true (by omega)
    have d2' : decide (1 < s.size) = true:=decide_eq_true h2.1
    have d3 : ((s[0].toNat : Int) == 48) = true:=by simp [h2.2]
    (have hnb : bigD s.data.toList = false:=(by (exact bigW_zero s h2.1 h2.2));have HNI:=Lib.hid (lg_bad hnb).1;have HNB:=Lib.hid (lg_bad hnb).2;clear hnb)
    clear h0 h1 h2 hb0
    go_enter Tryz.func151,Tryz.ntmps151
    go_wp2
    go_ret2
    exact ⟨by rw [HNI.out,HNB.out];rfl,rfl⟩
   ·have HW:=Lib.hid (bigW_well s h0 (by omega) (by omega))
    have HS9 : Hid (s.size ≤ 10):=by rw [Hid];omega
    have key : ∀ (goal : Prop),(((s[0].toNat : Int) == 48) = true → decide ((s.size : Int) > 1) = false → decide (1 < s.size) = false → goal) → (((s[0].toNat : Int) == 48) = false → goal) → goal:=fun goal ha hb=>by
     by_cases e : s[0].toNat = 48
     ·exact ha (by simp [e]) (decide_eq_false (by omega)) (decide_eq_false (by omega))
     ·exact hb (by simp;omega)
    refine key _ (fun d3 d2 d2'=>?_) (fun d3=>?_)
    all_goals
     clear h0 h1 h2 hb0 key
     go_enter Tryz.func151,Tryz.ntmps151
     go_wp2
     go_loop [4,5] (fun x i=>∃ k : Nat,k ≤ s.size ∧ i = .int .i64 k ∧ x = .int .i64 (numGo 0 (s.data.toList.take k)) ∧ ∀ j (hj : j < s.size),j < k → isDig s[j] = true) (fun _ i=>s.size - (intOf i).toNat)
     case atStart=>exact ⟨0,by omega,rfl,rfl,fun j _ hj=>by omega⟩
     case round=>
      obtain ⟨k,hk,rfl,rfl,hd⟩:=hrel
      have HD:=Lib.hid hd
      clear hd
      by_cases hlt : k < s.size
      ·have hb : s[k].toNat < 256:=s[k].toNat_lt
       by_cases hdig : isDig s[k] = true
       ·have hg:=(isDig_iff _).1 hdig
        have e1 : decide ((s[k].toNat : Int) < 48) = false:=decide_eq_false (by omega)
        have e2 : decide ((s[k].toNat : Int) > 57) = false:=decide_eq_false (by omega)
        have hgs:=numGo_step s k hlt
        have hsm:=numGo_small10 s k (by have:=HS9.out;omega) HD.out
        have HD2 : Hid (∀ j (hj : j < s.size),j < k + 1 → isDig s[j] = true):=fun j hj hjk=>by
         by_cases e : j = k
         ·subst e;exact hdig
         ·exact HD.out j hj (by omega)
        have HGS:=Lib.hid hgs
        clear hgs hdig
        generalize numGo 0 (s.data.toList.take k) = q at hsm HGS ⊢
        have w1 : IntKind.i64.wrap (10 * (q : Int)) = 10 * (q : Int):=by rw [IntKind.wrap_i64];omega
        have w2 : IntKind.u8.wrap ((s[k].toNat : Int) - 48) = (s[k].toNat : Int) - 48:=by rw [IntKind.wrap_u8];omega
        have w3 : IntKind.i64.wrap (10 * (q : Int) + ((s[k].toNat : Int) - 48)) = 10 * (q : Int) + ((s[k].toNat : Int) - 48):=by rw [IntKind.wrap_i64];omega
        have w4 : IntKind.i64.wrap ((k : Int) + 1) = (k : Int) + 1:=by rw [IntKind.wrap_i64];omega
        go_wp2
        go_round
        case rel=>exact ⟨k + 1,by omega,by go_num,by rw [HGS.out];congr 1;omega,HD2.out⟩
        case measure=>simp [intOf];omega
       ·have hdf : isDig s[k] = false:=by simpa using hdig
        (have hnb : bigD s.data.toList = false:=(by (exact bigD_all s k hlt hdf));have HNI:=Lib.hid (lg_bad hnb).1;have HNB:=Lib.hid (lg_bad hnb).2;clear hnb)
        by_cases h3 : s[k].toNat < 48
        ·have e1 : decide ((s[k].toNat : Int) < 48) = true:=decide_eq_true (by omega)
         clear hdig hdf h3
         go_wp2
         go_ret2
         exact ⟨by rw [HNI.out,HNB.out];rfl,rfl⟩
        ·have e1 : decide ((s[k].toNat : Int) < 48) = false:=decide_eq_false (by omega)
         have e2 : decide ((s[k].toNat : Int) > 57) = true:=decide_eq_true (by
          have:=(not_congr (isDig_iff s[k])).1 hdig;omega)
         clear hdig hdf h3
         go_wp2
         go_ret2
         exact ⟨by rw [HNI.out,HNB.out];rfl,rfl⟩
      ·obtain rfl : k = s.size:=by omega
       obtain ⟨hq1,hq2⟩:=lg_done s HW.out (fun j hj=>HD.out j hj hj)
       have HQ1:=Lib.hid hq1;have HQ2:=Lib.hid hq2
       have hsm:=numGo_small10 s s.size HS9.out (fun j hj _=>HD.out j hj hj)
       clear hq1 hq2
       generalize numGo 0 (s.data.toList.take s.size) = q at HQ1 HQ2 hsm ⊢
       have HX : Hid ((q : Int) % 4294967296 = ((q % 4294967296 : Nat) : Int)):=by rw [Hid];omega
       have HY : Hid (decide ((q : Int) < 4294967296) = decide (q < 4294967296)):=by rw [Hid,Bool.eq_iff_iff];simp;omega
       go_wp2
       go_ret2
       exact ⟨by rw [HQ1.out,HQ2.out];exact ret_ub HX.out HY.out,rfl⟩
theorem large_any (s : ByteArray) (hs : s.size ≤ maxLen) (w : World) : Calls Tryz.prog 192 #[.string s] w fun e w'=>e = .returned (.tuple #[.int .u32 (lgN s.data.toList),.bool (lgB s.data.toList)]) ∧ Below w.heap.size w w':=by
 unfold maxLen at hs
 by_cases h0 : s.size = 0
 ·have d0 : s.toList.isEmpty = true:=isB_empty0 s h0
  (have hnb : bigD s.data.toList = false:=(by (rw [bigD,bigW,show s.data.toList = [] from List.eq_nil_of_length_eq_zero (by rw [ba_len];exact h0)];rfl));have HNI:=Lib.hid (lg_bad hnb).1;have HNB:=Lib.hid (lg_bad hnb).2;clear hnb)
  clear h0
  go_enter Tryz.func192,Tryz.ntmps192
  go_wp2
  go_ret2
  exact ⟨by rw [HNI.out,HNB.out];rfl,Below.refl _ _⟩
 ·have d0 : s.toList.isEmpty = false:=by rw [toList_empty];exact decide_eq_false h0
  by_cases h1 : 10 < s.size
  ·have d1 : decide ((s.size : Int) > 10) = true:=decide_eq_true (by omega)
   have d1' : decide (10 < s.size) = true:=decide_eq_true h1
   (have hnb : bigD s.data.toList = false:=(by (rw [bigD,bigW,ba_len,show decide (s.size ≤ 10) = false from decide_eq_false (by omega)];simp));have HNI:=Lib.hid (lg_bad hnb).1;have HNB:=Lib.hid (lg_bad hnb).2;clear hnb)
   clear h0 h1
   go_enter Tryz.func192,Tryz.ntmps192
   go_wp2
   go_ret2
   exact ⟨by rw [HNI.out,HNB.out];rfl,Below.refl _ _⟩
  ·have d1 : decide ((s.size : Int) > 10) = false:=decide_eq_false (by omega)
   have d1' : decide (10 < s.size) = false:=decide_eq_false h1
   have hsz : 0 < s.size:=by omega
   have hb0:=byte_lt s[0]
   by_cases h2 : 1 < s.size ∧ s[0].toNat = 48
   ·have d2 : decide ((s.size : Int) > 1) = true:=decide_eq_true (by omega)
    have d2' : decide (1 < s.size) = true:=decide_eq_true h2.1
    have d3 : ((s[0].toNat : Int) == 48) = true:=by simp [h2.2]
    (have hnb : bigD s.data.toList = false:=(by (exact bigW_zero s h2.1 h2.2));have HNI:=Lib.hid (lg_bad hnb).1;have HNB:=Lib.hid (lg_bad hnb).2;clear hnb)
    clear h0 h1 h2 hb0
    go_enter Tryz.func192,Tryz.ntmps192
    go_wp2
    go_ret2
    exact ⟨by rw [HNI.out,HNB.out];rfl,Below.refl _ _⟩
   ·have HW:=Lib.hid (bigW_well s h0 (by omega) (by omega))
    have HS9 : Hid (s.size ≤ 10):=by rw [Hid];omega
    have HBL : Hid (∀ p,Below w.heap.size w (w.iter s p)):=fun p=>(Below.refl _ _).alloc (Nat.le_refl _) _
    have key : ∀ (goal : Prop),(((s[0].toNat : Int) == 48) = false → decide ((s.size : Int) > 1) = true → decide (1 < s.size) = true → goal) → (decide ((s.size : Int) > 1) = false → decide (1 < s.size) = false → goal) → goal:=fun goal ha hb=>by
     by_cases e : 1 < s.size
     ·exact ha (by simp;omega) (decide_eq_true (by omega)) (decide_eq_true (by omega))
     ·exact hb (decide_eq_false (by omega)) (decide_eq_false (by omega))
    refine key _ (fun d3 d2 d2'=>?_) (fun d2 d2'=>?_)
    all_goals
     clear h0 h1 h2 hb0 key
     go_enter Tryz.func192,Tryz.ntmps192
     go_wp2
     go_loopw [4] (fun x wr=>∃ k : Nat,k ≤ s.size ∧ wr = w.iter s k ∧ x = .int .u64 (numGo 0 (s.data.toList.take k)) ∧ ∀ j (hj : j < s.size),j < k → isDig s[j] = true) (fun _ wr=>s.size - wr.iterPos w.heap.size)
     case atStart=>exact ⟨0,by omega,rfl,rfl,fun j _ hj=>by omega⟩
     case round=>
      obtain ⟨k,hk,rfl,rfl,hd⟩:=hrel
      have HD:=Lib.hid hd
      clear hd
      by_cases hlt : k < s.size
      ·have hb : s[k].toNat < 256:=s[k].toNat_lt
       by_cases hdig : isDig s[k] = true
       ·have hg:=(isDig_iff _).1 hdig
        have hnx:=fun ty=>run_next_ascii (P:=Tryz.prog) w s k ty hlt (by omega)
        have e1 : decide ((s[k].toNat : Int) < 48) = false:=decide_eq_false (by omega)
        have e2 : decide ((s[k].toNat : Int) > 57) = false:=decide_eq_false (by omega)
        have hgs:=numGo_step s k hlt
        have hsm:=numGo_small10 s k (by have:=HS9.out;omega) HD.out
        have HD2 : Hid (∀ j (hj : j < s.size),j < k + 1 → isDig s[j] = true):=fun j hj hjk=>by
         by_cases e : j = k
         ·subst e;exact hdig
         ·exact HD.out j hj (by omega)
        have HGS:=Lib.hid hgs
        clear hgs hdig
        generalize numGo 0 (s.data.toList.take k) = q at hsm HGS ⊢
        have w1 : IntKind.u64.wrap (10 * (q : Int)) = 10 * (q : Int):=by rw [IntKind.wrap_u64];omega
        have w2 : IntKind.i32.wrap ((s[k].toNat : Int) - 48) = (s[k].toNat : Int) - 48:=by rw [IntKind.wrap_i32];omega
        have w2' : IntKind.u64.wrap ((s[k].toNat : Int) - 48) = (s[k].toNat : Int) - 48:=by rw [IntKind.wrap_u64];omega
        have w3 : IntKind.u64.wrap (10 * (q : Int) + ((s[k].toNat : Int) - 48)) = 10 * (q : Int) + ((s[k].toNat : Int) - 48):=by rw [IntKind.wrap_u64];omega
        go_wp2
        go_roundw
        case rel=>exact ⟨k + 1,by omega,rfl,by rw [HGS.out];congr 1;omega,HD2.out⟩
        case measure=>simp;omega
       ·have hdf : isDig s[k] = false:=by simpa using hdig
        (have hnb : bigD s.data.toList = false:=(by (exact bigD_all s k hlt hdf));have HNI:=Lib.hid (lg_bad hnb).1;have HNB:=Lib.hid (lg_bad hnb).2;clear hnb)
        have hnd:=(not_congr (isDig_iff s[k])).1 hdig
        by_cases h3 : s[k].toNat < 128
        ·have hnx:=fun ty=>run_next_ascii (P:=Tryz.prog) w s k ty hlt h3
         by_cases h4 : s[k].toNat < 48
         ·have e1 : decide ((s[k].toNat : Int) < 48) = true:=decide_eq_true (by omega)
          clear hdig hdf h3 h4 hnd
          go_wp2
          go_ret2
          exact ⟨by rw [HNI.out,HNB.out];rfl,HBL.out _⟩
         ·have e1 : decide ((s[k].toNat : Int) < 48) = false:=decide_eq_false (by omega)
          have e2 : decide ((s[k].toNat : Int) > 57) = true:=decide_eq_true (by omega)
          clear hdig hdf h3 h4 hnd
          go_wp2
          go_ret2
          exact ⟨by rw [HNI.out,HNB.out];rfl,HBL.out _⟩
        ·have hnx:=fun ty=>run_next_any (P:=Tryz.prog) w s k ty hlt
         have hhi:=decode_high s k hlt (by omega)
         generalize (Utf8.decode s k).2 = dw at hnx
         generalize (Utf8.decode s k).1 = dc at hnx hhi
         have e1 : decide ((dc : Int) < 48) = false:=decide_eq_false (by omega)
         have e2 : decide ((dc : Int) > 57) = true:=decide_eq_true (by omega)
         have e1' : decide (dc < 48) = false:=decide_eq_false (by omega)
         have e2' : decide (57 < dc) = true:=decide_eq_true (by omega)
         clear hdig hdf h3 hnd hhi
         go_wp2
         go_ret2
         exact ⟨by rw [HNI.out,HNB.out];rfl,HBL.out _⟩
      ·obtain rfl : k = s.size:=by omega
       have hnx:=fun ty=>run_next_end (P:=Tryz.prog) w s s.size ty (by omega)
       obtain ⟨hq1,hq2⟩:=lg_done s HW.out (fun j hj=>HD.out j hj hj)
       have HQ1:=Lib.hid hq1;have HQ2:=Lib.hid hq2
       have hsm:=numGo_small10 s s.size HS9.out (fun j hj _=>HD.out j hj hj)
       clear hq1 hq2
       generalize numGo 0 (s.data.toList.take s.size) = q at HQ1 HQ2 hsm ⊢
       have HX : Hid ((q : Int) % 4294967296 = ((q % 4294967296 : Nat) : Int)):=by rw [Hid];omega
       have HY : Hid (((q : Int) / 4294967296 == 0) = decide (q < 4294967296)):=by rw [Hid,Bool.eq_iff_iff];simp;omega
       go_wp2
       go_ret2
       exact ⟨by rw [HQ1.out,HQ2.out];exact ret_ub HX.out HY.out,HBL.out _⟩
end Go.Proofs.YtoklonmiejdgmaaGreatDoor.As
/- The library's FormatUint at base 10, over the kit's contracts of its callees. -/
namespace Go.Proofs.YtoklonmiejdgmaaGreatDoor
set_option linter.unusedVariables false
set_option linter.unusedSimpArgs false
set_option linter.unnecessarySimpa false
open Go.RowKit Go.Sort Go.Lib
set_option maxRecDepth 100000
set_option linter.unusedVariables false
theorem holds_zero0 (w : World) (T : TypeId) (nd : Nat) (hs : nd ≤ 24) : Holds (fun (b : UInt8)=>Value.int .u8 (b.toNat : Int)) (w.alloc (.cells Lib.zeros24 T)) w.heap.size 0 (Array.replicate nd (0 : UInt8)):=fun j hj=>by
 have hj' : j < nd:=by simpa using hj
 refine ⟨?_,World.frozen?_alloc_new _ _ _ _⟩
 rw [World.cell?_alloc_new,Lib.zeros24_at _ (by omega),getElem!_pos _ j hj]
 simp
theorem fin_pos0 (w : World) (o : Obj) (dk : Array UInt8) (k : Nat) : ∃ os,(putRow (fun (b : UInt8)=>Value.int .u8 (b.toNat : Int)) (w.alloc o) w.heap.size 0 dk).drewN k = grow (w.drewN k) os:=by
 rw [alloc_eq_grow]
 obtain ⟨os',_,e⟩:=putRow_grow_new (fun (b : UInt8)=>Value.int .u8 (b.toNat : Int)) w #[o] w.heap.size 0 dk (Nat.le_refl _)
 exact ⟨os',by rw [e];rfl⟩
theorem fmtu_in (u : Nat) (hu64 : u < 18446744073709551616) (w : World) (htab : PowIs w) :
  Calls Tryz.prog 181 #[.int .u64 u,.int .i64 10] w fun e w'=>e = .returned (.string ⟨(Lib.decDigits u).toArray⟩) ∧ ∃ k os,w' = grow (w.drewN k) os:=by
 by_cases hs : u < 100
 ·have hwr : IntKind.i64.wrap (u : Int) = (u : Int):=by rw [IntKind.wrap_i64];omega
  go_enter Tryz.func181,Tryz.ntmps181
  go_wp2_with (go_at_call 182;refine (Tryz.internal_strconv_small u hs _).mono ?_;rintro e w' ⟨rfl,rfl⟩)
  go_ret
  exact ⟨rfl,0,#[],by simp [World.drewN_zero]⟩
 ·have hu1 : 1 ≤ u:=by omega
  have hnd20 : Lib.nDigits u ≤ 20:=by have:=Lib.numDigits_eq u hu1 hu64;split at this <;> omega
  have hal : (Tryz.prog).arrayLen 238 = 24:=by kernel_rfl
  have hsl1 : ∀ W,(Instr.sliceAt 238 (.pointer (some ⟨w.heap.size,0,none⟩)) none (some (.int .i64 (Lib.nDigits u : Int))) none).run Tryz.prog W = .ok (.slice (some ⟨w.heap.size,0,none⟩) (Lib.nDigits u) 24) W:=fun W=>by
   rw [run_sliceAt_array_h W 238 ⟨w.heap.size,0,none⟩ (by kernel_rfl) .i64 (Lib.nDigits u : Int) (by omega) (by rw [hal];omega)]
   go_simp
  have hH0:=holds_zero0 w 238 (Lib.nDigits u) (by omega)
  have hfmt:=Tryz.internal_strconv_formatBase10 w.heap.size 0 24 u (Array.replicate (Lib.nDigits u) 0) (w.alloc (.cells Lib.zeros24 238)) hH0 (by rw [Array.size_replicate];exact Lib.lt_pow_nDigits u) hu64 (by rw [Array.size_replicate];omega)
  rw [Array.size_replicate] at hfmt
  have HH0:=Lib.hid hH0
  clear hH0 hal
  go_enter Tryz.func181,Tryz.ntmps181
  go_wp2_with (first
   | (go_at_call 183;refine (Tryz.internal_strconv_numDigits u hu1 hu64 _ (Lib.tabIs_alloc htab _)).mono ?_;rintro e w' ⟨rfl,rfl⟩))
  go_at_call 184
  refine hfmt.mono ?_
  rintro e w' ⟨rfl,k,v',dk,rfl,hF⟩
  have hcv : (convert 76 9 (.slice (some ⟨w.heap.size,0,none⟩) (Lib.nDigits u) 24)).run Tryz.prog ((putRow (fun (b : UInt8)=>Value.int .u8 (b.toNat : Int)) (w.alloc (.cells Lib.zeros24 238)) w.heap.size 0 dk).drewN k) = .ok (.string ⟨(Lib.decDigits u).toArray⟩) ((putRow (fun (b : UInt8)=>Value.int .u8 (b.toNat : Int)) (w.alloc (.cells Lib.zeros24 238)) w.heap.size 0 dk).drewN k):=by
   have h:=run_convert_bytes_back (P:=Tryz.prog) ((putRow (fun (b : UInt8)=>Value.int .u8 (b.toNat : Int)) (w.alloc (.cells Lib.zeros24 238)) w.heap.size 0 dk).drewN k) 76 9 5 ⟨w.heap.size,0,none⟩ 24 (Lib.decDigits u) Tryz.underlying76 Tryz.underlying5 Tryz.underlying9 (fun j hj=>by
    rw [Lib.row_is_numeral hF j hj,Lib.add_plain,World.cell?_drewN]
    exact cell?_putRow (fun (b : UInt8)=>Value.int .u8 (b.toNat : Int)) _ w.heap.size 0 _ dk HH0.out (by rw [hF.size,Array.size_replicate]) j (by rw [hF.size];rw [Lib.decDigits_length] at hj;exact hj))
   rw [Lib.decDigits_length] at h
   exact h
  go_wp2
  go_ret
  obtain ⟨os,eo⟩:=fin_pos0 w (.cells Lib.zeros24 238) dk k
  exact ⟨rfl,k,os,eo⟩
theorem fmtu (u : Nat) (hu64 : u < 18446744073709551616) (w : World) (htab : PowIs w) :
  Calls Tryz.prog 158 #[.int .u64 u,.int .i64 10] w fun e w'=>e = .returned (.string ⟨(Lib.decDigits u).toArray⟩) ∧ ∃ k os,w' = grow (w.drewN k) os:=by
 go_enter Tryz.func158,Tryz.ntmps158
 go_wp2_with (go_at_call 181;refine (fmtu_in u hu64 _ htab).mono ?_;rintro e w' ⟨rfl,k,os,rfl⟩)
 go_ret
 exact ⟨rfl,k,os,rfl⟩
theorem fmtu_b (u : Nat) (hu64 : u < 18446744073709551616) (w : World) (htab : PowIs w) :
  Calls Tryz.prog 158 #[.int .u64 u,.int .i64 10] w fun e w'=>e = .returned (.string ⟨(Lib.decDigits u).toArray⟩) ∧ Below w.heap.size w w':=
 (fmtu u hu64 w htab).mono fun _ _ ⟨h1,h2⟩=>⟨h1,below_grown h2⟩
end Go.Proofs.YtoklonmiejdgmaaGreatDoor
/- Package asm: a word's text, a line's word. -/
namespace Go.Proofs.YtoklonmiejdgmaaGreatDoor.As
set_option linter.unusedVariables false
set_option linter.unusedSimpArgs false
set_option linter.unnecessarySimpa false
open Go.RowKit Go.Sort
set_option maxHeartbeats 2000000
set_option maxRecDepth 100000
set_option linter.unusedVariables false
theorem parse_any (s : ByteArray) (hs : s.size ≤ 100000000) (w : World) (ht : Isa.Tab w) :
  Calls Tryz.prog 193 #[.string s] w fun e w'=>e = .returned (parV s.data.toList) ∧ Below w.heap.size w w':=by
 cases hw : wordsB s.data.toList
 ·exact parse_none s hs w hw
 ·by_cases hz : opV ((fieldsC 32 s.data.toList).headD []) = 0
  ·exact parse_noop s hs w hw hz
  ·exact parse_op s hs w ht hw hz
theorem parV_yes {s : List UInt8} (h : parB s = true) : parV s = .tuple #[(.agg #[.int .i64 (parO s),.int .i64 (parD s),.int .i64 (parA s),.int .i64 (parC s),.int .i64 (parN s)]),.int .i64 0] ∧ Isa.validB (parO s) (parD s) (parA s) (parC s) (parN s) = true:=by
 refine ⟨by unfold parV parE;rw [if_pos h],?_⟩
 unfold parO parD parA parC parN
 rw [if_pos h,if_pos h,if_pos h,if_pos h,if_pos h]
 unfold parB at h
 rw [Bool.and_eq_true,Bool.and_eq_true,Bool.and_eq_true] at h
 exact h.2.2.2
def wdP : List UInt8:=[46,119,111,114,100,32]
def lineL (x : Nat) : List UInt8:=if Isa.decB x then textV ((x : Int) % 64) ((x : Int) / 64 % 16) ((x : Int) / 1024 % 16) ((x : Int) / 16384 % 16) (Isa.decN x) else wdP ++ Lib.decDigits x
def wdB (s : List UInt8) : Bool:=if Lib.hasPrefix s wdP then lgB (Lib.trimPrefix s wdP) else parB s
def wdV (s : List UInt8) : Int:=if Lib.hasPrefix s wdP then lgN (Lib.trimPrefix s wdP) else if parB s then Isa.wordI (parO s) (parD s) (parA s) (parC s) (parN s) else 0
theorem trim_le (s p : List UInt8) : (Lib.trimPrefix s p).length ≤ s.length:=by
 unfold Lib.trimPrefix
 split <;> simp
theorem text_len (op d a b n : Int) : (textV op d a b n).length ≤ 200:=by
 unfold textV
 split
 ·rename_i h
  obtain ⟨⟨o1,o2⟩,⟨d1,d2⟩,⟨a1,a2⟩,⟨b1,b2⟩,⟨n1,n2⟩⟩:=Isa.validB_bounds h
  have hn:=opName_le ⟨op.toNat,by omega⟩
  have l1:=wregL_len d (by omega) (by omega)
  have l2:=wregL_len a (by omega) (by omega)
  have l3:=wregL_len b (by omega) (by omega)
  have l4:=wnumL_len n (by omega) (by omega)
  unfold textL
  dsimp only at hn
  split <;> (try simp only [List.length_append]) <;> omega
 ·simp
theorem dec_len (u : Nat) (h : u < 18446744073709551616) : (Lib.decDigits u).length ≤ 30:=by
 rw [Lib.decDigits_length]
 have:=Lib.nDigits_le20 u (by omega)
 omega
theorem line_len (x : Nat) (hx : x < 4294967296) : (lineL x).length ≤ 200:=by
 unfold lineL
 split
 ·exact text_len _ _ _ _ _
 ·have:=dec_len x (by omega)
  simp only [List.length_append,wdP,List.length_cons,List.length_nil];omega
theorem line_any (x : Nat) (hx : x < 4294967296) (w : World) (hP : PowIs w) (ht : Isa.Tab w) :
  Calls Tryz.prog 112 #[.int .u32 x] w fun e w'=>e = .returned (.string (ba (lineL x))) ∧ Below w.heap.size w w':=by
 have HD:=Lib.hid (Isa.decode_any x hx w ht)
 obtain ⟨t,hT⟩ : ∃ t : ByteArray,t = ba (Lib.decDigits x):=⟨_,rfl⟩
 have hz:=dec_len x (by omega)
 have z1 : t.size ≤ 30:=by rw [hT,ba_size];exact hz
 have q1 : ¬ 9223372036854775807 < 6 + t.size:=by omega
 have FMT : Hid (∀ W,Below w.heap.size w W → Calls Tryz.prog 158 #[.int .u64 x,.int .i64 10] W fun e w'=>e = .returned (.string t) ∧ Below W.heap.size W w'):=fun W hb=>by rw [hT];exact fmtu_b x (by omega) W (hP.below hb)
 obtain ⟨r,hr⟩ : ∃ r : ByteArray,r = ba (wdP ++ Lib.decDigits x):=⟨_,rfl⟩
 have HCAT : Hid ((⟨#[46,119,111,114,100,32]⟩ : ByteArray) ++ t = r):=by rw [hT,hr];unfold ba;rw [show (⟨#[46,119,111,114,100,32]⟩ : ByteArray) = ⟨wdP.toArray⟩ from rfl,ba_append];rfl
 have HL : Hid (Isa.decB x = false → ba (lineL x) = r):=fun h=>by rw [hr];unfold lineL;rw [if_neg (by rw [h];simp)]
 have HL2 : Hid (Isa.decB x = true → lineL x = textV ((x : Int) % 64) ((x : Int) / 64 % 16) ((x : Int) / 1024 % 16) ((x : Int) / 16384 % 16) (Isa.decN x)):=fun h=>by unfold lineL;rw [if_pos h]
 have HP:=Lib.hid hP
 have HT:=Lib.hid ht
 have hx64 : IntKind.u64.wrap (x : Int) = (x : Int):=by rw [IntKind.wrap_u64];omega
 clear hP ht hT hr hz
 go_enter Tryz.func112,Tryz.ntmps112
 go_wp2_with fail
 refine HD.out.mono ?_;rintro e w1 ⟨rfl,hb1⟩
 have HB1:=Lib.hid hb1
 clear hb1
 cases hb : Isa.decB x
 ·rw [if_neg (by simp)]
  have HR:=HL.out hb
  have HRR:=Lib.hid HR
  clear HR HL HL2 hb
  go_wp2_with (go_at_call 158;refine (FMT.out _ (by first | exact HB1.out.alloc (Nat.le_of_lt (Nat.lt_succ_of_le HB1.out.size)) _ | exact HB1.out.alloc HB1.out.size _)).mono ?_;rintro e w2 ⟨rfl,hb2⟩)
  rw [HCAT.out]
  go_ret
  refine ⟨by rw [HRR.out];rfl,?_⟩
  exact bmore (HB1.out.alloc HB1.out.size _) hb2
 ·rw [if_pos rfl]
  have HR:=Lib.hid (HL2.out hb)
  clear HL HL2 hb
  obtain ⟨o,ho⟩ : ∃ o,o = (x : Int) % 64:=⟨_,rfl⟩
  obtain ⟨d,hd⟩ : ∃ d,d = (x : Int) / 64 % 16:=⟨_,rfl⟩
  obtain ⟨a,ha⟩ : ∃ a,a = (x : Int) / 1024 % 16:=⟨_,rfl⟩
  obtain ⟨b,hB⟩ : ∃ b,b = (x : Int) / 16384 % 16:=⟨_,rfl⟩
  obtain ⟨n,hn⟩ : ∃ n,n = Isa.decN x:=⟨_,rfl⟩
  rw [← ho,← hd,← ha,← hB,← hn] at HR ⊢
  clear ho hd ha hB hn
  have HB2 : Hid (∀ o,Below w.heap.size w (w1.alloc o)):=fun o=>HB1.out.alloc HB1.out.size _
  go_wp2_with (go_at_call 157;refine (text_asm _ _ _ _ _ _ (HP.out.below (HB2.out _)) (HT.out.below (HB2.out _))).mono ?_;rintro e w2 ⟨rfl,hb2⟩)
  go_ret
  exact ⟨by rw [HR.out];rfl,bmore (HB2.out _) hb2⟩
theorem word_any (s : List UInt8) (hs : s.length ≤ 100000000) (w : World) (ht : Isa.Tab w) :
  Calls Tryz.prog 171 #[.string (ba s)] w fun e w'=>e = .returned (.tuple #[.int .u32 (wdV s),.bool (wdB s)]) ∧ Below w.heap.size w w':=by
 have HC : Hid (∀ W : World,Calls Tryz.prog 191 #[.string (ba s),.string ⟨#[46,119,111,114,100,32]⟩] W fun e w'=>e = .returned (.tuple #[.string (ba (Lib.trimPrefix s wdP)),.bool (Lib.hasPrefix s wdP)]) ∧ w' = W):=fun W=>Tryz.strings_CutPrefix (ba s) ⟨#[46,119,111,114,100,32]⟩ W
 have hle:=trim_le s wdP
 have HLG : Hid (∀ W,Calls Tryz.prog 192 #[.string (ba (Lib.trimPrefix s wdP))] W fun e w'=>e = .returned (.tuple #[.int .u32 (lgN (Lib.trimPrefix s wdP)),.bool (lgB (Lib.trimPrefix s wdP))]) ∧ Below W.heap.size W w'):=fun W=>large_any (ba (Lib.trimPrefix s wdP)) (by rw [ba_size];unfold maxLen;omega) W
 have HPA : Hid (∀ W,Isa.Tab W → Calls Tryz.prog 193 #[.string (ba s)] W fun e w'=>e = .returned (parV s) ∧ Below W.heap.size W w'):=fun W h=>parse_any (ba s) (by rw [ba_size];exact hs) W h
 have HT:=Lib.hid ht
 clear ht hle hs
 cases hp : Lib.hasPrefix s wdP
 ·rw [hp] at HC
  have HV : Hid (wdV s = if parB s then Isa.wordI (parO s) (parD s) (parA s) (parC s) (parN s) else 0):=by unfold wdV Hid;rw [if_neg (by rw [hp];simp)]
  have HBB : Hid (wdB s = parB s):=by unfold wdB Hid;rw [if_neg (by rw [hp];simp)]
  clear hp HLG
  cases hb : parB s
  ·have HPV:=Lib.hid (parV_no hb)
   have HV2 : Hid (wdV s = 0):=by rw [Hid,HV.out,if_neg (by rw [hb];simp)]
   have HB2 : Hid (wdB s = false):=by rw [Hid,HBB.out,hb]
   clear hb HV HBB
   go_enter Tryz.func171,Tryz.ntmps171
   go_wp2_with fail
   refine (HC.out _).mono ?_;rintro e w1 ⟨rfl,rfl⟩
   go_wp2_with fail
   refine (HPA.out _ HT.out).mono ?_;rintro e w2 ⟨rfl,hb2⟩
   rw [HPV.out]
   go_wp2_with fail
   go_ret2
   exact ⟨by rw [HV2.out,HB2.out];rfl,hb2.alloc hb2.size _⟩
  ·obtain ⟨hpv,hvd⟩:=parV_yes hb
   have HV2 : Hid (wdV s = Isa.wordI (parO s) (parD s) (parA s) (parC s) (parN s)):=by rw [Hid,HV.out,if_pos hb]
   have HB2 : Hid (wdB s = true):=by rw [Hid,HBB.out,hb]
   clear hb HV HBB
   have HPV:=Lib.hid hpv
   clear hpv
   have HE : Hid (∀ W,Isa.Tab W → Calls Tryz.prog 194 #[(.agg #[.int .i64 (parO s),.int .i64 (parD s),.int .i64 (parA s),.int .i64 (parC s),.int .i64 (parN s)])] W fun e w'=>e = .returned (.tuple #[.int .u32 (Isa.wordI (parO s) (parD s) (parA s) (parC s) (parN s)),.int .i64 0]) ∧ Below W.heap.size W w'):=fun W h=>by
    have:=Isa.encode_any (parO s) (parD s) (parA s) (parC s) (parN s) W h
    unfold Isa.encW Isa.encE at this
    rw [if_pos hvd,if_pos hvd] at this
    exact this
   clear hvd
   generalize parO s = o at HPV HE HV2
   generalize parD s = d at HPV HE HV2
   generalize parA s = a at HPV HE HV2
   generalize parC s = c at HPV HE HV2
   generalize parN s = n at HPV HE HV2
   go_enter Tryz.func171,Tryz.ntmps171
   go_wp2_with fail
   refine (HC.out _).mono ?_;rintro e w1 ⟨rfl,rfl⟩
   go_wp2_with fail
   refine (HPA.out _ HT.out).mono ?_;rintro e w2 ⟨rfl,hb2⟩
   rw [HPV.out]
   have HB3 : Hid (∀ o,Below w1.heap.size w1 (w2.alloc o)):=fun o=>hb2.alloc hb2.size _
   clear hb2
   go_wp2_with (go_at_call 194;refine (HE.out _ (HT.out.below (HB3.out _))).mono ?_;rintro e w3 ⟨rfl,hb3⟩)
   go_ret2
   exact ⟨by rw [HV2.out,HB2.out];rfl,bmore (HB3.out _) hb3⟩
 ·rw [hp] at HC
  have HV2 : Hid (wdV s = lgN (Lib.trimPrefix s wdP)):=by unfold wdV Hid;rw [if_pos hp]
  have HB2 : Hid (wdB s = lgB (Lib.trimPrefix s wdP)):=by unfold wdB Hid;rw [if_pos hp]
  clear hp HPA
  go_enter Tryz.func171,Tryz.ntmps171
  go_wp2_with fail
  refine (HC.out _).mono ?_;rintro e w1 ⟨rfl,rfl⟩
  go_wp2_with fail
  refine (HLG.out _).mono ?_;rintro e w2 ⟨rfl,hb2⟩
  go_wp2_with fail
  go_ret2
  exact ⟨by rw [HV2.out,HB2.out];rfl,hb2⟩
end Go.Proofs.YtoklonmiejdgmaaGreatDoor.As
/- Package asm: List. -/
namespace Go.Proofs.YtoklonmiejdgmaaGreatDoor.As
set_option linter.unusedVariables false
set_option linter.unusedSimpArgs false
set_option linter.unnecessarySimpa false
open Go.RowKit Go.Sort
set_option maxHeartbeats 2000000
set_option maxRecDepth 100000
set_option linter.unusedVariables false
/-- Words as cells. -/
def wC (l : List Nat) : List Value:=l.map fun (x : Nat)=>Value.int .u32 (x : Int)
theorem wC_len (l : List Nat) : (wC l).length = l.length:=by simp [wC]
theorem wC_get (l : List Nat) (k : Nat) (h : k < l.length) : (wC l)[k]? = some (.int .u32 (l[k] : Int)):=by simp [wC,h]
def listL (l : List Nat) : List UInt8:=(l.map fun x=>lineL x ++ [10]).flatten
theorem listL_snoc (l : List Nat) (x : Nat) : listL (l ++ [x]) = listL l ++ (lineL x ++ [10]):=by simp [listL]
theorem listL_len (l : List Nat) (h : ∀ x ∈ l,x < 4294967296) : (listL l).length ≤ 201 * l.length:=by
 induction l with
 | nil=>simp [listL]
 | cons x r ih=>
  have h1:=line_len x (h x (List.mem_cons_self ..))
  have h2:=ih (fun y hy=>h y (List.mem_cons_of_mem _ hy))
  unfold listL at h2 ⊢
  rw [List.map_cons,List.flatten_cons,List.length_append,List.length_append,List.length_cons,List.length_cons,List.length_nil]
  omega
/-- What List hands back. -/
def lsV (l : List Nat) : List UInt8:=if 512 < l.length then [] else listL l
def lsE (l : List Nat) : Int:=if 512 < l.length then 10 else 0
theorem rd_get {w : World} {a : Option Addr} {n : Nat} {l : List Nat} (h : Rd w 1 a n (wC l)) (hn : 0 < l.length) : ∃ g o,a = some ⟨g,o,none⟩ ∧ g < w.heap.size ∧ ∀ j (hj : j < l.length),w.cell? ⟨g,o + j,none⟩ = some (.int .u32 (l[j] : Int)):=by
 have hl:=h.1
 rw [wC_len] at hl
 cases a with
 | none=>have:=h.2.1 rfl;omega
 | some p=>
  obtain ⟨g,o,rfl,h2,h3⟩:=h.2.2 p rfl (by intro e;have:=congrArg List.length e;rw [wC_len] at this;simp at this;rw [this] at hn;simp at hn)
  exact ⟨g,o,rfl,h2,fun j hj=>h3 j _ (wC_get l j hj)⟩
theorem list_asm (a : Option Addr) (cap : Nat) (l : List Nat) (hl : ∀ x ∈ l,x < 4294967296) (w : World) (h : Rd w 1 a l.length (wC l)) (hcap : l.length ≤ maxLen) (hP : PowIs w) (ht : Isa.Tab w) :
  Calls Tryz.prog 68 #[.slice a l.length cap] w fun e w'=>e = .returned (.tuple #[.string (ba (lsV l)),.int .i64 (lsE l)]) ∧ Below w.heap.size w w':=by
 unfold maxLen at hcap
 by_cases h512 : 512 < l.length
 ·have d1 : decide ((l.length : Int) > 512) = true:=decide_eq_true (by omega)
  have d1' : decide (512 < l.length) = true:=decide_eq_true h512
  have HV : Hid (lsV l = [] ∧ lsE l = 10):=⟨by rw [lsV,if_pos h512],by rw [lsE,if_pos h512]⟩
  clear h512
  go_enter Tryz.func68,Tryz.ntmps68
  go_wp2
  go_ret2
  exact ⟨by rw [HV.out.1,HV.out.2];rfl,Below.refl _ _⟩
 ·have d1 : decide ((l.length : Int) > 512) = false:=decide_eq_false (by omega)
  have d1' : decide (512 < l.length) = false:=decide_eq_false h512
  have HV : Hid (lsV l = listL l ∧ lsE l = 0):=⟨by rw [lsV,if_neg h512],by rw [lsE,if_neg h512]⟩
  have HGET : Hid (∀ k,(hk : k < l.length) → ∃ g o,a = some ⟨g,o,none⟩ ∧ g < w.heap.size ∧ w.cell? ⟨g,o + k,none⟩ = some (.int .u32 (l[k] : Int))):=fun k hk=>by
   obtain ⟨g,o,h1,h2,h3⟩:=rd_get h (by omega)
   exact ⟨g,o,h1,h2,h3 k hk⟩
  have HL:=Lib.hid hl
  have HP:=Lib.hid hP
  have HT:=Lib.hid ht
  have hl512 : l.length ≤ 512:=by omega
  clear hl hP ht h h512
  have HB0:=Lib.hid (BIs.fresh w)
  go_enter Tryz.func68,Tryz.ntmps68
  go_wp2
  go_loopw [12] (fun i wr=>∃ k : Nat,k ≤ l.length ∧ i = .int .i64 k ∧ BIs wr w.heap.size w.heap.size (listL (l.take k)) ∧ Below w.heap.size w wr) (fun i _=>l.length - (intOf i).toNat)
  case atStart=>exact ⟨0,by omega,rfl,HB0.out,(Below.refl _ _).alloc (Nat.le_refl _) _⟩
  case round=>
   clear HB0
   obtain ⟨k,hk,rfl,hbi,hbe⟩:=hrel
   have HBI:=Lib.hid hbi
   have HBE:=Lib.hid hbe
   clear hbi hbe
   by_cases hlt : k < l.length
   ·obtain ⟨g,o,ha,hg,hc⟩:=HGET.out k hlt
    obtain ⟨x,hx⟩ : ∃ x,x = l[k]:=⟨_,rfl⟩
    have hxl : x < 4294967296:=by rw [hx];exact HL.out _ (List.getElem_mem hlt)
    have htk : l.take (k + 1) = l.take k ++ [x]:=by rw [hx];exact List.take_succ_eq_append_getElem hlt
    have HNEW : Hid (listL (l.take (k + 1)) = listL (l.take k) ++ (lineL x ++ [10])):=by rw [Hid,htk,listL_snoc]
    have hlen:=listL_len (l.take k) (fun y hy=>HL.out y (List.mem_of_mem_take hy))
    have hlen2:=line_len x hxl
    rw [List.length_take] at hlen
    have hcr : wr.cell? ⟨g,o + k,none⟩ = some (.int .u32 (x : Int)):=by rw [HBE.out.cell (p:=⟨g,o + k,none⟩) hg,hc,hx]
    obtain ⟨t,hT⟩ : ∃ t : ByteArray,Hid (t = ba (lineL x)):=⟨_,Lib.hid rfl⟩
    have z1 : t.size ≤ 200:=by rw [hT.out,ba_size];exact hlen2
    have q1 : ¬ 9223372036854775807 < t.size + 1:=by omega
    have HLI : Hid (∀ W,Below w.heap.size w W → Calls Tryz.prog 112 #[.int .u32 x] W fun e w'=>e = .returned (.string t) ∧ Below W.heap.size W w'):=fun W hb=>by rw [hT.out];exact line_any x hxl W (HP.out.below hb) (HT.out.below hb)
    have HCT : Hid (t ++ (⟨#[10]⟩ : ByteArray) = ba (lineL x ++ [10])):=by rw [hT.out];unfold ba;rw [show (⟨#[10]⟩ : ByteArray) = ⟨[10].toArray⟩ from rfl,ba_append];rfl
    have HLE : Hid ((listL (l.take k)).length + (lineL x ++ [10]).length ≤ 140737488355328):=by rw [Hid,List.length_append];simp;omega
    subst ha
    clear hx htk hc hlen hlen2
    go_wp2_with fail
    refine (HLI.out _ HBE.out).mono ?_;rintro e w1 ⟨rfl,hb1⟩
    have HB1:=Lib.hid (bmore HBE.out hb1)
    have HBI1 : Hid (BIs w1 w.heap.size w.heap.size (listL (l.take k))):=HBI.out.below hb1
    clear hb1
    go_wp2_with fail
    rw [HCT.out]
    refine (bwrite _ _ _ _ _ HBI1.out HLE.out HB1.out.size).mono ?_;rintro e w2 ⟨rfl,h2,h3,h4⟩
    have HBI2 : Hid (BIs w2 w.heap.size w.heap.size (listL (l.take (k + 1)))):=by rw [HNEW.out];exact h2
    have HB2 : Hid (Below w.heap.size w w2):=HB1.out.trans h3
    clear h2 h3 h4
    go_wp2_with fail
    go_roundw
    case rel=>exact ⟨k + 1,by omega,by go_num,HBI2.out,HB2.out⟩
    case measure=>simp [intOf];omega
   ·obtain rfl : k = l.length:=by omega
    have HBI2 : Hid (BIs wr w.heap.size w.heap.size (listL l)):=by have:=HBI.out;rw [List.take_length] at this;exact this
    go_wp2_with fail
    refine (bstring _ _ _ _ HBI2.out HBE.out.size).mono ?_;rintro e w2 ⟨rfl,h2,h3,h4⟩
    have HB2 : Hid (Below w.heap.size w w2):=HBE.out.trans h3
    clear h2 h3 h4
    go_wp2_with fail
    go_ret2
    exact ⟨by rw [HV.out.1,HV.out.2];rfl,HB2.out⟩
end Go.Proofs.YtoklonmiejdgmaaGreatDoor.As
/- Package asm: Program. -/
namespace Go.Proofs.YtoklonmiejdgmaaGreatDoor.As
set_option linter.unusedVariables false
set_option linter.unusedSimpArgs false
set_option linter.unnecessarySimpa false
open Go.RowKit Go.Sort
set_option maxHeartbeats 2000000
set_option maxRecDepth 100000
set_option linter.unusedVariables false
theorem info_u32 : (Tryz.prog.info? 70).map (fun i=>(i.zero,i.size,i.bytes)) = some (some (.int .u32 0),1,4):=by kernel_rfl
/-- A text's lines: a last one that is empty is none. -/
def lnL (s : List UInt8) : Words:=if (fieldsC 10 s).getLast? = some [] then (fieldsC 10 s).dropLast else fieldsC 10 s
def lnE (s : List UInt8) : Bool:=Lib.hasSuffix s [10]
def badAt (en : Bool) (L : Words) (k : Nat) : Bool:=!wdB (L.getD k []) || (decide (k + 1 = L.length) && !en)
def pgLong (s : List UInt8) : Bool:=decide (16384 < s.length) || decide (512 < (lnL s).length)
def pgBad (s : List UInt8) : Option Nat:=(List.range (lnL s).length).find? (badAt (lnE s) (lnL s))
def pgL (s : List UInt8) : List Int:=if pgLong s then [] else match pgBad s with | some _=>[] | none=>(lnL s).map wdV
def pgE (s : List UInt8) : Int:=if pgLong s then 10 else match pgBad s with | some _=>6 | none=>0
def pgAt (s : List UInt8) : Int:=if pgLong s then 0 else match pgBad s with | some k=>k + 1 | none=>0
def uC (l : List Int) : List Value:=l.map fun (x : Int)=>Value.int .u32 x
theorem uC_snoc (l : List Int) (x : Int) : uC (l ++ [x]) = uC l ++ [.int .u32 x]:=by simp [uC]
def PgPost (s : List UInt8) (w : World) (e : Ending) (w' : World) : Prop:=∃ a cap,e = .returned (.tuple #[.slice a (pgL s).length cap,.int .i64 (pgE s),.int .i64 (pgAt s)]) ∧ Own w' w.heap.size 70 1 a (pgL s).length cap (uC (pgL s)) ∧ Below w.heap.size w w'
theorem pg_long {s : List UInt8} {w w' : World} (h : pgLong s = true) (hb : Below w.heap.size w w') : PgPost s w (.returned (.tuple #[.slice none 0 0,.int .i64 10,.int .i64 0])) w':=by
 refine ⟨none,0,?_,?_,hb⟩
 ·rw [pgL,pgE,pgAt,if_pos h,if_pos h,if_pos h];rfl
 ·rw [pgL,if_pos h];exact Own.nil w' w.heap.size 70 1
theorem pg_bad {s : List UInt8} {k : Nat} {w w' : World} (h : pgLong s = false) (hk : k < (lnL s).length) (hb : badAt (lnE s) (lnL s) k = true) (hn : ∀ j,j < k → badAt (lnE s) (lnL s) j = false) (hbe : Below w.heap.size w w') :
  PgPost s w (.returned (.tuple #[.slice none 0 0,.int .i64 6,.int .i64 ((k : Int) + 1)])) w':=by
 have hf : pgBad s = some k:=by
  rw [pgBad,List.find?_range_eq_some]
  exact ⟨hb,List.mem_range.2 hk,fun j hj=>by rw [hn j hj];rfl⟩
 refine ⟨none,0,?_,?_,hbe⟩
 ·rw [pgL,pgE,pgAt,if_neg (by rw [h];simp),if_neg (by rw [h];simp),if_neg (by rw [h];simp),hf];rfl
 ·rw [pgL,if_neg (by rw [h];simp),hf];exact Own.nil w' w.heap.size 70 1
theorem pg_good {s : List UInt8} {w w' : World} {a : Option Addr} {n cap : Nat} (h : pgLong s = false) (hn : ∀ j,j < (lnL s).length → badAt (lnE s) (lnL s) j = false) (hl : n = (lnL s).length) (hr : Own w' w.heap.size 70 1 a n cap (uC ((lnL s).map wdV))) (hbe : Below w.heap.size w w') :
  PgPost s w (.returned (.tuple #[.slice a n cap,.int .i64 0,.int .i64 0])) w':=by
 have hf : pgBad s = none:=by
  rw [pgBad,List.find?_eq_none]
  intro j hj
  rw [hn j (List.mem_range.1 hj)];simp
 have e : pgL s = (lnL s).map wdV:=by rw [pgL,if_neg (by rw [h];simp),hf]
 refine ⟨a,cap,?_,?_,hbe⟩
 ·rw [e,pgE,pgAt,if_neg (by rw [h];simp),if_neg (by rw [h];simp),hf,List.length_map,hl]
 ·rw [e,List.length_map,← hl];exact hr
theorem lnL_some {s : List UInt8} (h : (fieldsC 10 s).getLast? = some []) : lnL s = (fieldsC 10 s).dropLast:=by rw [lnL,if_pos h]
theorem lnL_none {s : List UInt8} (h : (fieldsC 10 s).getLast? ≠ some []) : lnL s = fieldsC 10 s:=by rw [lnL,if_neg h]
theorem lnL_get (s : List UInt8) (j : Nat) (hj : j < (lnL s).length) : ∃ h : j < (fieldsC 10 s).length,(lnL s)[j] = (fieldsC 10 s)[j]:=by
 by_cases h : (fieldsC 10 s).getLast? = some []
 ·have e:=lnL_some h
  have hj' : j < (fieldsC 10 s).length:=by rw [e,List.length_dropLast] at hj;omega
  refine ⟨hj',?_⟩
  simp only [e,List.getElem_dropLast]
 ·have e:=lnL_none h
  have hj' : j < (fieldsC 10 s).length:=by rw [e] at hj;exact hj
  exact ⟨hj',by simp only [e]⟩
theorem lnL_small (s : List UInt8) (j : Nat) (hj : j < (lnL s).length) : (lnL s)[j].length ≤ s.length:=by
 obtain ⟨h,e⟩:=lnL_get s j hj
 rw [e]
 exact (fieldsC_mem 10 s _ (List.getElem_mem h)).2
theorem bad_at {en : Bool} {L : Words} {k : Nat} (hk : k < L.length) : badAt en L k = (!wdB L[k] || (decide (k + 1 = L.length) && !en)):=by
 rw [badAt,List.getD_eq_getElem?_getD,List.getElem?_eq_getElem hk];rfl
structure QS (w : World) (a : Option Addr) (k c : Nat) (L : Words) (W : World) : Prop where
 own : Own W w.heap.size 70 1 a k c (uC ((L.take k).map wdV))
 bel : Below w.heap.size w W
theorem program_any (s : ByteArray) (hs : s.size ≤ 100000000) (w : World) (ht : Isa.Tab w) : Calls Tryz.prog 141 #[.string s] w (PgPost s.data.toList w):=by
 obtain ⟨iu,hiu,hzu,hzu1,hzu2⟩:=info_parts info_u32
 obtain ⟨l,hl⟩ : ∃ l,l = s.data.toList:=⟨_,rfl⟩
 have hsl : l.length = s.size:=by rw [hl,ba_len]
 obtain ⟨F,hF⟩ : ∃ F,F = fieldsC 10 l:=⟨_,rfl⟩
 have hne : F ≠ []:=by rw [hF];exact fieldsC_ne 10 _
 have HSP : Hid (∀ W,Calls Tryz.prog 48 #[.string s,.string ⟨#[10]⟩] W fun e w'=>e = .returned (.slice (some ⟨W.heap.size,0,none⟩) F.length F.length) ∧ w' = W.alloc (.cells (strC F).toArray 9)):=fun W=>by
  have:=split1L s 10 W (by omega)
  rw [← hl,← hF] at this;exact this
 have HSU : Hid (∀ W,Calls Tryz.prog 47 #[.string s,.string ⟨#[10]⟩] W fun e w'=>e = .returned (.bool (lnE l)) ∧ w' = W):=fun W=>by
  have:=Tryz.strings_HasSuffix s ⟨#[10]⟩ W (by omega)
  rw [← hl] at this;exact this
 rw [← hl]
 obtain ⟨L,hL⟩ : ∃ L,L = lnL l:=⟨_,rfl⟩
 have HLG : Hid (pgLong l = (decide (16384 < s.size) || decide (512 < L.length))):=by rw [Hid,pgLong,hsl,hL]
 have HPL : Hid (∀ w',pgLong l = true → Below w.heap.size w w' → PgPost l w (.returned (.tuple #[.slice none 0 0,.int .i64 10,.int .i64 0])) w'):=fun w' h hb=>pg_long h hb
 have HPB : Hid (∀ (k : Nat) (w' : World),pgLong l = false → k < L.length → badAt (lnE l) L k = true → (∀ j,j < k → badAt (lnE l) L j = false) → Below w.heap.size w w' → PgPost l w (.returned (.tuple #[.slice none 0 0,.int .i64 6,.int .i64 ((k : Int) + 1)])) w'):=fun k w' h1 h2 h3 h4 h5=>by subst hL;exact pg_bad h1 h2 h3 h4 h5
 have HPG : Hid (∀ (w' : World) (a : Option Addr) (n cap : Nat),pgLong l = false → (∀ j,j < L.length → badAt (lnE l) L j = false) → n = L.length → Own w' w.heap.size 70 1 a n cap (uC (L.map wdV)) → Below w.heap.size w w' → PgPost l w (.returned (.tuple #[.slice a n cap,.int .i64 0,.int .i64 0])) w'):=fun w' a n cap h1 h2 h3 h4 h5=>by subst hL;exact pg_good h1 h2 h3 h4 h5
 have HLF : Hid (∀ j (hj : j < L.length),F[j]? = some L[j]):=fun j hj=>by subst hL;subst hF;obtain ⟨h1,h2⟩:=lnL_get l j hj;rw [h2];exact List.getElem?_eq_getElem h1
 have HSM : Hid (∀ j (hj : j < L.length),L[j].length ≤ 100000000):=fun j hj=>by subst hL;have:=lnL_small l j hj;omega
 have hfl : F.length ≤ s.size + 1:=by
  rw [hF,fieldsC_len,← hsl]
  have:=List.count_le_length (a:=(10 : UInt8)) (l:=l);omega
 have HF : Hid (L = if F.getLast? = some [] then F.dropLast else F):=by rw [Hid,hL,hF];rfl
 obtain ⟨en,hen⟩ : ∃ en,en = lnE l:=⟨_,rfl⟩
 rw [← hen] at HSU HPB HPG
 clear hen
 have HT:=Lib.hid ht
 have HNE:=Lib.hid hne
 obtain ⟨m,hm⟩ : ∃ m,F.length = m + 1:=by cases F with
  | nil=>exact absurd rfl hne
  | cons x r=>exact ⟨r.length,rfl⟩
 obtain ⟨x,hx⟩ : ∃ x,F[m]? = some x:=⟨_,List.getElem?_eq_getElem (by omega)⟩
 have HLAST : Hid (F.getLast? = some x):=by rw [Hid,List.getLast?_eq_getElem?,hm];exact hx
 have HCELL : Hid (ObjAt (w.alloc (.cells (strC F).toArray 9)) w.heap.size 9 (strC F)):=ObjAt.new w 9 (strC F)
 have HCX : (w.alloc (.cells (strC F).toArray 9)).cell? ⟨w.heap.size,m,none⟩ = some (.string (ba x)):=HCELL.out.cell m _ (by simp [strC,hx])
 have HMM:=Lib.hid hm
 obtain ⟨W1,hW1⟩ : ∃ W,W = w.alloc (.cells (strC F).toArray 9):=⟨_,rfl⟩
 have HW1:=Lib.hid hW1
 have HB1 : Hid (Below w.heap.size w W1):=by rw [hW1];exact (Below.refl _ _).alloc (Nat.le_refl _) _
 rw [← hW1] at HCELL HCX
 rw [hm] at HSP hfl
 clear hl hsl hF hne ht hL hm hx hW1
 go_enter Tryz.func141,Tryz.ntmps141
 go_wp2_with fail
 refine (HSP.out _).mono ?_;rintro e w1 ⟨rfl,h1⟩
 obtain rfl : w1 = W1:=by rw [h1,HW1.out]
 clear h1
 have bx:=ba_isEmpty x
 go_upto_if 20 with fail
 go_cut [5] from 20 (fun s5 wc=>s5 = .slice (some ⟨w.heap.size,0,none⟩) L.length (m + 1) ∧ wc = w1)
 case first=>
  cases hxe : x.isEmpty
  ·have HLL : Hid (L.length = m + 1):=by
    rw [Hid,HF.out,if_neg (by rw [HLAST.out];intro e;injection e with e;rw [e] at hxe;cases hxe),HMM.out]
   rw [hxe] at bx
   clear hxe
   go_wp2_with fail
   go_meet
   case rel=>exact ⟨by rw [HLL.out],rfl⟩
  ·have HLL : Hid (L.length = m):=by
    rw [Hid,HF.out,if_pos (by rw [HLAST.out,List.isEmpty_iff.1 hxe]),List.length_dropLast,HMM.out];rfl
   rw [hxe] at bx
   clear hxe
   go_wp2_with fail
   go_meet
   case rel=>exact ⟨by rw [HLL.out],rfl⟩
 case rest=>
 obtain ⟨rfl,rfl⟩:=hcut
 have HLC : Hid (∀ j (hj : j < L.length),wc.cell? ⟨w.heap.size,j,none⟩ = some (.string (ba L[j]))):=fun j hj=>HCELL.out.cell j _ (by simp [strC,HLF.out j hj])
 have hLm : L.length ≤ m + 1:=by
  rcases Nat.lt_or_ge (m + 1) L.length with h | h
  ·have:=HLF.out (m + 1) h
   rw [List.getElem?_eq_none (by rw [HMM.out];exact Nat.le_refl _)] at this;cases this
  ·exact h
 have hblk:=HCELL.out.lt
 clear HCX bx HCELL HW1
 by_cases h16 : 16384 < s.size
 ·have d1 : decide ((s.size : Int) > 16384) = true:=decide_eq_true (by omega)
  have d1' : decide (16384 < s.size) = true:=decide_eq_true h16
  have HLO : Hid (pgLong l = true):=by rw [Hid,HLG.out,decide_eq_true h16];rfl
  clear h16
  go_wp2_with fail
  go_ret3
  exact HPL.out _ HLO.out HB1.out
 ·have d1 : decide ((s.size : Int) > 16384) = false:=decide_eq_false (by omega)
  have d1' : decide (16384 < s.size) = false:=decide_eq_false h16
  by_cases h512 : 512 < L.length
  ·have d2 : decide ((L.length : Int) > 512) = true:=decide_eq_true (by omega)
   have d2' : decide (512 < L.length) = true:=decide_eq_true h512
   have HLO : Hid (pgLong l = true):=by rw [Hid,HLG.out,decide_eq_true h512,Bool.or_true]
   clear h16 h512
   go_wp2_with fail
   go_ret3
   exact HPL.out _ HLO.out HB1.out
  ·have d2 : decide ((L.length : Int) > 512) = false:=decide_eq_false (by omega)
   have d2' : decide (512 < L.length) = false:=decide_eq_false h512
   have HLO : Hid (pgLong l = false):=by rw [Hid,HLG.out,decide_eq_false h512,decide_eq_false h16];rfl
   clear h16 h512
   go_wp2_with fail
   refine (HSU.out _).mono ?_;rintro e w2 ⟨rfl,rfl⟩
   have HQ0 : Hid (QS w2 none 0 0 L w2):=⟨Own.nil _ _ _ _,Below.refl _ _⟩
   go_wp2_with fail
   go_loopw [7,38] (fun o i wr=>∃ (k : Nat) (ao : Option Addr) (co : Nat),k ≤ L.length ∧ i = .int .i64 k ∧ o = .slice ao k co ∧ QS w2 ao k co L wr ∧ ∀ j,j < k → badAt (en) L j = false) (fun _ i _=>L.length - (intOf i).toNat)
   case atStart=>exact ⟨0,none,0,by omega,rfl,rfl,HQ0.out,fun j hj=>by omega⟩
   case round=>
    clear HQ0
    obtain ⟨k,ao,co,hk,rfl,rfl,hq,hn⟩:=hrel
    have HQ:=Lib.hid hq
    have HBB:=Lib.hid hq.bel
    have HBO:=Lib.hid (bmore HB1.out hq.bel)
    have HN:=Lib.hid hn
    have hsz:=hq.bel.size
    clear hq hn
    by_cases hlt : k < L.length
    ·have hcr : wr.cell? ⟨w.heap.size,k,none⟩ = some (.string (ba L[k])):=by
      rw [HBB.out.cell (p:=⟨w.heap.size,k,none⟩) hblk];exact HLC.out k hlt
     have HWD:=Lib.hid (word_any L[k] (HSM.out k hlt) wr (HT.out.below HBO.out))
     have hba:=bad_at (en:=en) hlt
     have HBA:=Lib.hid hba
     clear hba
     obtain ⟨v,hv⟩ : ∃ v,v = wdV L[k]:=⟨_,rfl⟩
     have HV : Hid (uC ((L.take (k + 1)).map wdV) = uC ((L.take k).map wdV) ++ [.int .u32 v]):=by
      rw [Hid,List.take_succ_eq_append_getElem hlt,List.map_append,List.map_cons,List.map_nil,uC_snoc,hv]
     rw [← hv] at HWD
     clear hv
     have w1 : IntKind.i64.wrap ((k : Int) + 1) = (k : Int) + 1:=by rw [IntKind.wrap_i64];omega
     have w3 : IntKind.i64.wrap ((L.length : Int) - 1) = (L.length : Int) - 1:=by rw [IntKind.wrap_i64];omega
     cases hwd : wdB L[k]
     ·have HBAD : Hid (badAt (en) L k = true):=by rw [Hid,HBA.out,hwd];rfl
      rw [hwd] at HWD
      clear hwd
      go_wp2_with fail
      refine HWD.out.mono ?_;rintro e w3 ⟨rfl,hb3⟩
      have HBE : Hid (Below w.heap.size w w3):=bmore HBO.out hb3
      clear hb3
      go_wp2_with fail
      go_ret3
      exact HPB.out k _ HLO.out hlt HBAD.out HN.out HBE.out
     ·have hdl : ((k : Int) == (L.length : Int) - 1) = decide (k + 1 = L.length):=by rw [Bool.eq_iff_iff];simp;omega
      have HBT : Hid ((decide (k + 1 = L.length) && !en) = true → badAt en L k = true):=fun h=>by rw [HBA.out,h,Bool.or_true]
      have HGG : Hid ((decide (k + 1 = L.length) && !en) = false → ∀ j,j < k + 1 → badAt en L j = false):=fun h j hj=>by
       by_cases e : j = k
       ·subst e;rw [HBA.out,hwd,h];rfl
       ·exact HN.out j (by omega)
      cases hde : decide (k + 1 = L.length) <;> cases en
      case true.false=>
       have HBAD:=Lib.hid (HBT.out (by rw [hde];rfl))
       rw [hwd] at HWD
       rw [hde] at hdl
       clear hwd hde
       go_wp2_with fail
       refine HWD.out.mono ?_;rintro e w3 ⟨rfl,hb3⟩
       have HBE : Hid (Below w.heap.size w w3):=bmore HBO.out hb3
       clear hb3
       go_wp2_with fail
       go_ret3
       exact HPB.out k _ HLO.out hlt HBAD.out HN.out HBE.out
      all_goals
       have HN2:=Lib.hid (HGG.out (by rw [hde];rfl))
       rw [hwd] at HWD
       rw [hde] at hdl
       clear hwd hde
       go_wp2_with fail
       refine HWD.out.mono ?_;rintro e w3 ⟨rfl,hb3⟩
       have HBE : Hid (Below w.heap.size w w3):=bmore HBO.out hb3
       have HBW : Hid (Below w2.heap.size w2 w3):=bmore HBB.out hb3
       have HO3:=Lib.hid (HQ.out.own.below hb3)
       have hs3:=HBW.out.size
       clear hb3
       go_wp2_with (at_builtin;(refine wpList_own rfl (.tmp 63) (.tmp 65) 69 rfl w2.heap.size 70 iu _ 1 4 Tryz.underlying69 hiu hzu hzu1 hzu2 rfl (by omega) ao k co (uC ((L.take k).map wdV)) rfl (HO3.out.below ((Below.refl _ _).alloc (Nat.le_refl _) _)) w3.heap.size [.int .u32 v] rfl (new_block _ _ _ rfl) rfl (by simp [Value.oneCell']) (by simp only [maxLen];omega) (by omega) (by simp;omega) ?_);intro g' c' w4 hown1 hmod1 _;have HO:=Lib.hid hown1;have HM : Hid (Mod (blk ao) w3 w4):=((Mod.ofBelow ((Below.refl w3.heap.size w3).alloc (Nat.le_refl _) _)).trans hmod1);clear hown1 hmod1)
       have HQ2 : Hid (QS w2 (some ⟨g',0,none⟩) (k + 1) c' L w4):=⟨by rw [HV.out];exact HO.out,HBW.out.trans (HM.out.below (fun j hj=>(HO3.out.ge j hj).1) hs3)⟩
       go_roundw
       case rel=>exact ⟨k + 1,some ⟨g',0,none⟩,c',by omega,by go_num,by go_num,HQ2.out,HN2.out⟩
       case measure=>simp [intOf];omega
    ·obtain rfl : k = L.length:=by omega
     have HRD : Hid (Own wr w.heap.size 70 1 ao L.length co (uC (L.map wdV))):=by have:=HQ.out.own.mono HB1.out.size;rw [List.take_length] at this;exact this
     have HFIN:=HPG.out wr ao L.length co HLO.out HN.out rfl HRD.out HBO.out
     have HFN:=Lib.hid HFIN
     clear HFIN
     go_wp2_with fail
     go_ret3
     exact HFN.out
end Go.Proofs.YtoklonmiejdgmaaGreatDoor.As
/- Scripts as values: what a text is. -/
namespace Go.Proofs.YtoklonmiejdgmaaGreatDoor
set_option linter.unusedVariables false
set_option linter.unusedSimpArgs false
set_option linter.unnecessarySimpa false
open Go.RowKit Go.Sort
set_option maxHeartbeats 4000000
set_option maxRecDepth 100000
set_option linter.unusedVariables false
/-- A script, plain. -/
structure Sc where
 im : List (List Int)
 se : List (Int × List UInt8)
 inp : List (Int × Int × Int × Int × List UInt8)
def sc0 : Sc:=⟨[],[],[]⟩
def wImage : List UInt8:=[105,109,97,103,101]
def wSector : List UInt8:=[115,101,99,116,111,114]
def wInput : List UInt8:=[105,110,112,117,116]
def wEnd : List UInt8:=[101,110,100]
def wPacket : List UInt8:=[112,97,99,107,101,116]
def wLine : List UInt8:=[108,105,110,101]
def wRestart : List UInt8:=[114,101,115,116,97,114,116]
def wHead (y : List UInt8) : List UInt8:=(fieldsC 32 y).headD []
def rankH (x : List UInt8) : Int:=if x = wImage then 0 else if x = wSector then 1 else if x = wInput then 2 else -1
def rankS (y : List UInt8) : Int:=if wordsB y then rankH (wHead y) else -1
def joinT (L : List (List UInt8)) : List UInt8:=L.flatMap fun x=>x ++ [10]
/-- The next line that ends an image, from i on. -/
def endS (L : List (List UInt8)) (i : Nat) : Option Nat:=(List.range L.length).find? fun j=>decide (i ≤ j) && decide (L.getD j [] = wEnd)
def secV (ws : List (List UInt8)) : Option (Int × List UInt8):=
 if ws.length = 3 ∧ numB (ws.getD 1 []) = true ∧ unB (ws.getD 2 []) = true then some ((numI (ws.getD 1 []) : Nat),unV (ws.getD 2 [])) else none
/-- What an input is: its kind, number and bytes. -/
def whatV (r : List (List UInt8)) : Option (Int × Int × List UInt8):=
 if r.length = 1 ∧ r.getD 0 [] = wRestart then some (2,0,[])
 else if r.length = 2 ∧ r.getD 0 [] = wPacket then (if unB (r.getD 1 []) then some (0,0,unV (r.getD 1 [])) else none)
 else if r.length = 2 ∧ r.getD 0 [] = wLine then (if numB (r.getD 1 []) then some (1,(numI (r.getD 1 []) : Nat),[]) else none)
 else none
def inpV (ws : List (List UInt8)) : Option (Int × Int × Int × Int × List UInt8):=
 if 4 ≤ ws.length ∧ numB (ws.getD 1 []) = true ∧ numB (ws.getD 2 []) = true then
  (whatV (ws.drop 3)).map fun r=>(((numI (ws.getD 1 []) : Nat) : Int),((numI (ws.getD 2 []) : Nat) : Int),r.1,r.2.1,r.2.2)
 else none
/-- One line: an error and its line, or the next line, its rank and the script. -/
def imgS (L : List (List UInt8)) (i : Nat) (s : Sc) : (Int × Int) ⊕ (Nat × Int × Sc):=
 match endS L (i + 1) with
 | none=>.inl (6,(i : Int) + 1)
 | some e_=>if (fieldsC 32 (L.getD i [])).length ≠ 1 then .inl (6,(i : Int) + 1) else
  if As.pgE (joinT ((L.take e_).drop (i + 1))) ≠ 0 then
   (if As.pgAt (joinT ((L.take e_).drop (i + 1))) = 0 then .inl (As.pgE (joinT ((L.take e_).drop (i + 1))),0) else .inl (As.pgE (joinT ((L.take e_).drop (i + 1))),(i : Int) + 1 + As.pgAt (joinT ((L.take e_).drop (i + 1)))))
  else .inr (e_ + 1,0,{ s with im:=s.im ++ [As.pgL (joinT ((L.take e_).drop (i + 1)))] })
def stepS (L : List (List UInt8)) (i : Nat) (last : Int) (s : Sc) : (Int × Int) ⊕ (Nat × Int × Sc):=
 if rankS (L.getD i []) < last then .inl (6,(i : Int) + 1)
 else if rankS (L.getD i []) = 0 then imgS L i s
 else if rankS (L.getD i []) = 1 then (match secV (fieldsC 32 (L.getD i [])) with
  | none=>.inl (6,(i : Int) + 1)
  | some x=>.inr (i + 1,1,{ s with se:=s.se ++ [x] }))
 else (match inpV (fieldsC 32 (L.getD i [])) with
  | none=>.inl (6,(i : Int) + 1)
  | some x=>.inr (i + 1,2,{ s with inp:=s.inp ++ [x] }))
def runS (L : List (List UInt8)) : Nat → Nat → Int → Sc → Sc × Int × Int
 | 0,_,_,s=>(s,0,0)
 | f + 1,i,last,s=>if i < L.length then (match stepS L i last s with
   | .inl r=>(sc0,r.1,r.2)
   | .inr r=>runS L f r.1 r.2.1 r.2.2) else (s,0,0)
def fromS (L : List (List UInt8)) : Nat:=(L.takeWhile fun y=>rankS y == -1).length
def scR (L : List (List UInt8)) : Pc × Sc × Int × Int:=
 if (psV (joinT (L.take (fromS L)))).2.1 ≠ 0 then (pcZ,sc0,(psV (joinT (L.take (fromS L)))).2.1,(psV (joinT (L.take (fromS L)))).2.2)
 else if (runS L L.length (fromS L) 0 sc0).2.1 ≠ 0 then (pcZ,sc0,(runS L L.length (fromS L) 0 sc0).2.1,(runS L L.length (fromS L) 0 sc0).2.2)
 else ((psV (joinT (L.take (fromS L)))).1,(runS L L.length (fromS L) 0 sc0).1,0,0)
/-- What a text is as a script. -/
def scV (t : List UInt8) : Pc × Sc × Int × Int:=
 if 16384 < t.length then (pcZ,sc0,10,0) else if lsB t then scR (lsL t) else (pcZ,sc0,6,(t.count 10 : Int) + 1)
theorem endS_some {L : List (List UInt8)} {i j : Nat} (h : endS L i = some j) : j < L.length ∧ i ≤ j ∧ L.getD j [] = wEnd:=by
 unfold endS at h
 rw [List.find?_range_eq_some] at h
 obtain ⟨h1,h2,_⟩:=h
 simp only [Bool.and_eq_true,decide_eq_true_eq] at h1
 exact ⟨List.mem_range.1 h2,h1.1,h1.2⟩
theorem endS_hit {L : List (List UInt8)} {i j : Nat} (hj : j < L.length) (hi : i ≤ j) (he : L.getD j [] = wEnd) (hn : ∀ m,i ≤ m → m < j → L.getD m [] ≠ wEnd) : endS L i = some j:=by
 unfold endS
 rw [List.find?_range_eq_some]
 refine ⟨by rw [he,decide_eq_true hi];rfl,List.mem_range.2 hj,fun m hm=>?_⟩
 by_cases h : i ≤ m
 ·rw [decide_eq_false (hn m h hm),Bool.and_false];rfl
 ·rw [decide_eq_false h];rfl
theorem endS_none {L : List (List UInt8)} {i : Nat} (hn : ∀ m,i ≤ m → m < L.length → L.getD m [] ≠ wEnd) : endS L i = none:=by
 unfold endS
 rw [List.find?_eq_none]
 intro m hm
 by_cases h : i ≤ m
 ·simp only [Bool.and_eq_true,decide_eq_true_eq,not_and];intro _;exact hn m h (List.mem_range.1 hm)
 ·simp [h]
theorem stepS_next {L : List (List UInt8)} {i : Nat} {last : Int} {s : Sc} {r : Nat × Int × Sc} (h : stepS L i last s = .inr r) : i < r.1:=by
 unfold stepS imgS at h
 split at h
 ·cases h
 ·split at h
  ·split at h
   ·cases h
   ·rename_i e_ hto
    have:=endS_some hto
    split at h
    ·cases h
    ·split at h
     ·split at h <;> cases h
     ·injection h with h;rw [← h];show i < e_ + 1;omega
  ·split at h
   ·split at h
    ·cases h
    ·injection h with h;rw [← h];exact Nat.lt_succ_self i
   ·split at h
    ·cases h
    ·injection h with h;rw [← h];exact Nat.lt_succ_self i
theorem runS_fuel (L : List (List UInt8)) : ∀ (f g i : Nat) (last : Int) (s : Sc),L.length ≤ i + f → L.length ≤ i + g → runS L f i last s = runS L g i last s
 | 0,0,_,_,_,_,_=>rfl
 | 0,g + 1,i,last,s,h,_=>by unfold runS;rw [if_neg (by omega)]
 | f + 1,0,i,last,s,_,h=>by unfold runS;rw [if_neg (by omega)]
 | f + 1,g + 1,i,last,s,h1,h2=>by
  unfold runS
  split
  ·cases hs : stepS L i last s with
   | inl r=>rfl
   | inr r=>
    have:=stepS_next hs
    simp only
    exact runS_fuel L f g r.1 r.2.1 r.2.2 (by omega) (by omega)
  ·rfl
/-- What is left to be read from line i on. -/
def restS (L : List (List UInt8)) (i : Nat) (last : Int) (s : Sc) : Sc × Int × Int:=runS L (L.length - i) i last s
theorem restS_end {L : List (List UInt8)} {i : Nat} {last : Int} {s : Sc} (h : L.length ≤ i) : restS L i last s = (s,0,0):=by
 unfold restS;rw [show L.length - i = 0 by omega];rfl
theorem restS_bad {L : List (List UInt8)} {i : Nat} {last : Int} {s : Sc} {r : Int × Int} (h : i < L.length) (hs : stepS L i last s = .inl r) : restS L i last s = (sc0,r.1,r.2):=by
 unfold restS;rw [show L.length - i = (L.length - i - 1) + 1 by omega];unfold runS;rw [if_pos h,hs]
theorem restS_step {L : List (List UInt8)} {i : Nat} {last : Int} {s : Sc} {r : Nat × Int × Sc} (h : i < L.length) (hs : stepS L i last s = .inr r) : restS L i last s = restS L r.1 r.2.1 r.2.2:=by
 have:=stepS_next hs
 unfold restS;rw [show L.length - i = (L.length - i - 1) + 1 by omega,runS,if_pos h,hs]
 simp only
 exact runS_fuel L _ _ _ _ _ (by omega) (by omega)
theorem runS_rest (L : List (List UInt8)) (i : Nat) (last : Int) (s : Sc) : runS L L.length i last s = restS L i last s:=runS_fuel L _ _ _ _ _ (by omega) (by omega)
theorem pgAt_nn (s : List UInt8) : 0 ≤ As.pgAt s:=by
 unfold As.pgAt;split
 ·omega
 ·split <;> omega
theorem stepS_pos {L : List (List UInt8)} {i : Nat} {last : Int} {s : Sc} {r : Int × Int} (h : stepS L i last s = .inl r) : r.1 ≠ 0:=by
 unfold stepS imgS at h
 split at h
 ·injection h with h;rw [← h];show (6 : Int) ≠ 0;decide
 ·split at h
  ·split at h
   ·injection h with h;rw [← h];show (6 : Int) ≠ 0;decide
   ·split at h
    ·injection h with h;rw [← h];show (6 : Int) ≠ 0;decide
    ·split at h
     ·rename_i hp
      split at h <;> (injection h with h;rw [← h];exact hp)
     ·cases h
  ·split at h
   ·split at h
    ·injection h with h;rw [← h];show (6 : Int) ≠ 0;decide
    ·cases h
   ·split at h
    ·injection h with h;rw [← h];show (6 : Int) ≠ 0;decide
    ·cases h
end Go.Proofs.YtoklonmiejdgmaaGreatDoor
/- Package script: rank, text. -/
namespace Go.Proofs.YtoklonmiejdgmaaGreatDoor
set_option linter.unusedVariables false
set_option linter.unusedSimpArgs false
set_option linter.unnecessarySimpa false
open Go.RowKit Go.Sort
set_option maxHeartbeats 4000000
set_option maxRecDepth 100000
set_option linter.unusedVariables false
theorem ba_lit (x c : List UInt8) : ((ba x).toList == c) = decide (x = c):=by rw [ByteArray.toList_eq,ba_data,Bool.eq_iff_iff];simp
def RkPost (y : List UInt8) (w : World) (e : Ending) (w' : World) : Prop:=e = .returned (.int .i64 (rankS y)) ∧ Below w.heap.size w w'
theorem rankS_no {y : List UInt8} (h : wordsB y = false) : rankS y = -1:=by unfold rankS;rw [h];rfl
theorem rankS_yes {y : List UInt8} (h : wordsB y = true) : rankS y = rankH (wHead y):=by unfold rankS;rw [h];rfl
theorem rankH_0 {x : List UInt8} (h : x = wImage) : rankH x = 0:=by unfold rankH;rw [if_pos h]
theorem rankH_1 {x : List UInt8} (h : x ≠ wImage) (h1 : x = wSector) : rankH x = 1:=by unfold rankH;rw [if_neg h,if_pos h1]
theorem rankH_2 {x : List UInt8} (h : x ≠ wImage) (h1 : x ≠ wSector) (h2 : x = wInput) : rankH x = 2:=by unfold rankH;rw [if_neg h,if_neg h1,if_pos h2]
theorem rankH_3 {x : List UInt8} (h : x ≠ wImage) (h1 : x ≠ wSector) (h2 : x ≠ wInput) : rankH x = -1:=by unfold rankH;rw [if_neg h,if_neg h1,if_neg h2]
theorem rank_any (y : List UInt8) (hy : y.length ≤ 100000) (w : World) : Calls Tryz.prog 22 #[.string (ba y)] w (RkPost y w):=by
 have HSPL:=Lib.hid (split_any (ba y) (by rw [ba_size];omega) w)
 rw [ba_data] at HSPL
 cases hw : wordsB y
 ·have HSH : Hid (∀ e w',SplitPost y w e w' → e = .returned (.tuple #[.slice none 0 0,.bool false]) ∧ Below w.heap.size w w'):=fun e w' h=>⟨h.2.1 hw,h.2.2⟩
  have HR:=Lib.hid (rankS_no hw)
  clear hw hy
  go_enter Tryz.func22,Tryz.ntmps22
  go_wp2_with fail
  refine HSPL.out.mono ?_;intro e w1 h1
  obtain ⟨rfl,hb1⟩:=HSH.out _ _ h1
  clear h1
  go_wp2_with fail
  go_ret
  exact ⟨by rw [HR.out];rfl,hb1⟩
 ·obtain ⟨ws,hws⟩ : ∃ ws,ws = fieldsC 32 y:=⟨_,rfl⟩
  have HSH : Hid (∀ e w',SplitPost y w e w' → (∃ a cap,e = .returned (.tuple #[.slice a ws.length cap,.bool true]) ∧ RdW w' a cap ws) ∧ Below w.heap.size w w'):=fun e w' h=>by rw [hws];exact ⟨h.1 hw,h.2.2⟩
  have hne : ws ≠ []:=by rw [hws];exact fieldsC_ne 32 _
  have hpos : 0 < ws.length:=List.length_pos_iff.2 hne
  obtain ⟨x,hx⟩ : ∃ x,x = ws[0]:=⟨_,rfl⟩
  have hxh : wHead y = x:=by
   unfold wHead
   rw [← hws,hx]
   cases ws with
   | nil=>exact absurd rfl hne
   | cons a l=>rfl
  have HR : Hid (rankS y = rankH x):=by rw [Hid,rankS_yes hw,hxh]
  have b0:=ba_lit x [105,109,97,103,101]
  have b1:=ba_lit x [115,101,99,116,111,114]
  have b2:=ba_lit x [105,110,112,117,116]
  clear hw hy hws hne hxh
  go_enter Tryz.func22,Tryz.ntmps22
  go_wp2_with fail
  refine HSPL.out.mono ?_;intro e w1 h1
  obtain ⟨⟨aw,cw,rfl,hR⟩,hb1⟩:=HSH.out _ _ h1
  obtain ⟨gw,ow,rfl,hgw,hcw⟩:=hR.at_ 0 hpos
  have c0 : w1.cell? ⟨gw,ow,none⟩ = some (.string (ba x)):=by rw [hx];exact hcw 0 hpos
  have hlew:=hR.le
  have HB:=Lib.hid hb1
  clear h1 hb1 hcw hR hx
  by_cases h0 : x = wImage
  ·have HF:=Lib.hid (rankH_0 h0)
   rw [decide_eq_true (show x = [105,109,97,103,101] from h0)] at b0
   clear h0 b1 b2
   go_wp2_with fail
   go_ret
   exact ⟨by rw [HR.out,HF.out];rfl,HB.out⟩
  ·rw [decide_eq_false (show ¬ x = [105,109,97,103,101] from h0)] at b0
   by_cases h1 : x = wSector
   ·have HF:=Lib.hid (rankH_1 h0 h1)
    rw [decide_eq_true (show x = [115,101,99,116,111,114] from h1)] at b1
    clear h0 h1 b2
    go_wp2_with fail
    go_ret
    exact ⟨by rw [HR.out,HF.out];rfl,HB.out⟩
   ·rw [decide_eq_false (show ¬ x = [115,101,99,116,111,114] from h1)] at b1
    by_cases h2 : x = wInput
    ·have HF:=Lib.hid (rankH_2 h0 h1 h2)
     rw [decide_eq_true (show x = [105,110,112,117,116] from h2)] at b2
     clear h0 h1 h2
     go_wp2_with fail
     go_ret
     exact ⟨by rw [HR.out,HF.out];rfl,HB.out⟩
    ·have HF:=Lib.hid (rankH_3 h0 h1 h2)
     rw [decide_eq_false (show ¬ x = [105,110,112,117,116] from h2)] at b2
     clear h0 h1 h2
     go_wp2_with fail
     go_ret
     exact ⟨by rw [HR.out,HF.out];rfl,HB.out⟩
theorem join_joinC (c : UInt8) : ∀ L : List (List UInt8),Lib.join L [c] = joinC c L
 | []=>rfl
 | [x]=>Lib.join_one x [c]
 | x :: y :: r=>by
  have:=join_joinC c (y :: r)
  rw [Lib.join_cons] at this ⊢
  rw [joinC,← this]
  simp [Lib.joinTail]
theorem joinC_T : ∀ L : List (List UInt8),L ≠ [] → joinC 10 L ++ [10] = joinT L
 | [],h=>absurd rfl h
 | [x],_=>by simp [joinC,joinT]
 | x :: y :: r,_=>by
  have:=joinC_T (y :: r) (by simp)
  rw [joinC]
  unfold joinT at this ⊢
  rw [List.flatMap_cons,← this];simp
theorem nlc_ba (x : List UInt8) : ba x ++ (⟨#[10]⟩ : ByteArray) = ba (x ++ [10]):=by
 unfold ba;rw [show (⟨#[10]⟩ : ByteArray) = ⟨[10].toArray⟩ from rfl,ba_append]
theorem text_any (a : Option Addr) (cap : Nat) (L : List (List UInt8)) (W : World) (h : RdW W a cap L) (hl : (joinT L).length ≤ 1000000) (hll : L.length ≤ 1000000) :
  Calls Tryz.prog 24 #[.slice a L.length cap] W fun e w'=>e = .returned (.string (ba (joinT L))) ∧ Below W.heap.size W w':=by
 have hmx:=h.mx
 unfold maxLen at hmx
 have hle:=h.le
 by_cases h0 : L.length = 0
 ·have e0 : ((L.length : Int) == 0) = true:=by simp [h0]
  have HJ : Hid (joinT L = []):=by rw [List.eq_nil_of_length_eq_zero h0];rfl
  clear h0 hl hll h
  go_enter Tryz.func24,Tryz.ntmps24
  go_wp2_with fail
  go_ret
  exact ⟨by rw [HJ.out];rfl,Below.refl _ _⟩
 ·have e0 : ((L.length : Int) == 0) = false:=by rw [beq_eq_false_iff_ne];omega
  have hne : L ≠ []:=fun e=>h0 (by rw [e];rfl)
  have HJ:=Lib.hid (joinC_T L hne)
  obtain ⟨g,o,rfl,hg,hc⟩:=h.at_ 0 (by omega)
  have hjl : (joinC 10 L).length ≤ 1000000:=by have:=congrArg List.length HJ.out;rw [List.length_append] at this;simp at this;omega
  have HJN : Hid (Calls Tryz.prog 55 #[.slice (some ⟨g,o,none⟩) L.length cap,.string ⟨#[10]⟩] W fun e w'=>e = .returned (.string (ba (joinC 10 L))) ∧ Below W.heap.size W w'):=by
   have hm : (L.map ba).map (fun x=>x.data.toList) = L:=by rw [List.map_map];exact List.map_id' L
   have:=Tryz.strings_Join g o cap (L.map ba) ⟨#[10]⟩ W (fun j x hx=>by
    rw [List.getElem?_map] at hx
    obtain ⟨y,hy,rfl⟩:=Option.map_eq_some_iff.1 hx
    obtain ⟨hj,rfl⟩:=List.getElem?_eq_some_iff.1 hy
    exact hc j hj) hg (by rw [List.length_map];omega) (by rw [List.length_map];exact hle) (by rw [hm,show (⟨#[10]⟩ : ByteArray).data.toList = [10] from rfl,join_joinC];omega)
   rw [List.length_map,hm,show (⟨#[10]⟩ : ByteArray).data.toList = [10] from rfl,join_joinC] at this
   exact this
  have hsz : (ba (joinC 10 L)).size ≤ 1000000:=by rw [ba_size];exact hjl
  have HNL:=Lib.hid (nlc_ba (joinC 10 L))
  clear h0 hne hc hl hjl h
  go_enter Tryz.func24,Tryz.ntmps24
  go_wp2_with fail
  refine HJN.out.mono ?_;rintro e w1 ⟨rfl,hb⟩
  go_wp2_with fail
  go_ret
  exact ⟨by rw [← HJ.out,← HNL.out];rfl,hb⟩
end Go.Proofs.YtoklonmiejdgmaaGreatDoor
/- Package script: a page's line. -/
namespace Go.Proofs.YtoklonmiejdgmaaGreatDoor.Sp
set_option linter.unusedVariables false
set_option linter.unusedSimpArgs false
set_option linter.unnecessarySimpa false
open Go.RowKit Go.Sort
set_option maxHeartbeats 4000000
set_option maxRecDepth 100000
set_option linter.unusedVariables false
/-- A page at work: it lies in block b, of the call's own. -/
structure PG (w : World) (b : Nat) (t : List UInt8) (W : World) : Prop where
 bel : Below w.heap.size w W
 pow : PowIs w
 tab : Isa.Tab w
 pg : PgIs W w.heap.size b t
theorem PG.more {w W W' : World} {b : Nat} {t : List UInt8} (h : PG w b t W) (hb : Below W.heap.size W W') : PG w b t W':=⟨bmore h.bel hb,h.pow,h.tab,h.pg.below hb⟩
theorem PG.powW {w W : World} {b : Nat} {t : List UInt8} (h : PG w b t W) : PowIs W:=h.pow.below h.bel
theorem PG.tabW {w W : World} {b : Nat} {t : List UInt8} (h : PG w b t W) : Isa.Tab W:=h.tab.below h.bel
theorem pg_write {w W : World} {b : Nat} {t : List UInt8} (h : PG w b t W) (m : List UInt8) (hl : t.length + m.length ≤ 140737488355328) :
  Calls Tryz.prog 37 #[.pointer (some ⟨b,0,none⟩),.string (ba m)] W fun e w'=>e = .returned (.tuple #[.int .i64 (ba m).size,.nilIface]) ∧ PG w b (t ++ m) w' ∧ Kept b W w':=by
 refine (pgwrite _ _ _ m W h.pg hl h.bel.size).mono ?_
 rintro e w' ⟨h1,h2,h3,h4⟩
 exact ⟨h1,⟨h.bel.trans h3,h.pow,h.tab,h2⟩,h4⟩
def LinePost (w : World) (b : Nat) (t : List UInt8) (W : World) (e : Ending) (w' : World) : Prop:=e = .returned (.tuple #[]) ∧ PG w b t w' ∧ Kept b W w'
theorem sline_any (g o cap : Nat) (l : List (List UInt8)) (w : World) (b : Nat) (t : List UInt8) (W : World) (hg : PG w b t W) (hr : RdW W (some ⟨g,o,none⟩) cap l) (hn : l ≠ []) (hl : (joinC 32 l).length ≤ 1000000000) (hll : l.length ≤ 1000000) (ht : t.length ≤ 100000000000000) :
  Calls Tryz.prog 69 #[.pointer (some ⟨b,0,none⟩),.slice (some ⟨g,o,none⟩) l.length cap] W (LinePost w b (t ++ (joinC 32 l ++ [10])) W):=by
 have hpos : 0 < l.length:=List.length_pos_iff.2 hn
 have hle:=hr.le
 have hmx:=hr.mx
 unfold maxLen at hmx
 have HG0 : Hid (PG w b t W.drew):=hg.more (Below.refl _ _).drew
 have HK0 : Hid (Kept b W W.drew):=Kept.ofBelow (Below.refl _ _).drew
 have HJN : Hid (∀ W',Below W.heap.size W W' → Calls Tryz.prog 55 #[.slice (some ⟨g,o,none⟩) l.length cap,.string ⟨#[32]⟩] W' fun e w'=>e = .returned (.string (ba (joinC 32 l))) ∧ Below W'.heap.size W' w'):=fun W' hb=>by
  obtain ⟨g',o',he,hg',hc⟩:=(hr.below hb).at_ 0 hpos
  injection he with he
  injection he with e1 e2
  subst e1;subst e2
  have hm : (l.map ba).map (fun x=>x.data.toList) = l:=by rw [List.map_map];exact List.map_id' l
  have:=Tryz.strings_Join g o cap (l.map ba) ⟨#[32]⟩ W' (fun j x hx=>by
   rw [List.getElem?_map] at hx
   obtain ⟨y,hy,rfl⟩:=Option.map_eq_some_iff.1 hx
   obtain ⟨hj,rfl⟩:=List.getElem?_eq_some_iff.1 hy
   exact hc j hj) hg' (by rw [List.length_map];omega) (by rw [List.length_map];exact hle) (by rw [hm,show (⟨#[32]⟩ : ByteArray).data.toList = [32] from rfl,join_joinC];omega)
  rw [List.length_map,hm,show (⟨#[32]⟩ : ByteArray).data.toList = [32] from rfl,join_joinC] at this
  exact this
 have hsz : (ba (joinC 32 l)).size ≤ 1000000000:=by rw [ba_size];exact hl
 have HNL:=Lib.hid (nlc_ba (joinC 32 l))
 have s1 : ¬ 9223372036854775807 < (ba (joinC 32 l)).size + 1:=by omega
 have HTL : Hid (t.length + (joinC 32 l ++ [10]).length ≤ 140737488355328):=by rw [Hid,List.length_append];simp;omega
 clear hg hr hn hl
 go_enter Tryz.func69,Tryz.ntmps69
 go_wp2_with fail
 go_region_held3 (fun _=>True) (trivial) (first | (go_at_call 55;refine (HJN.out _ (Below.refl _ _).drew).mono ?_;rintro e W4 ⟨rfl,hb⟩;have HG1:=Lib.hid (HG0.out.more hb);have HK1 : Hid (Kept b W W4):=HK0.out.trans (Kept.ofBelow hb);clear hb) | (go_at_call 37;rw [HNL.out];refine (pg_write HG1.out _ HTL.out).mono ?_;rintro e W5 ⟨rfl,h5,h6⟩;have HG2:=Lib.hid h5;have HK2 : Hid (Kept b W W5):=HK1.out.trans h6;clear h5 h6))
 go_wp2_with fail
 go_end0
 exact ⟨rfl,HG2.out,HK2.out⟩
end Go.Proofs.YtoklonmiejdgmaaGreatDoor.Sp
