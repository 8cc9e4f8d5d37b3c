/- Package hermitageref03 (for disk): New, Who, Give. Lines of XPartsV, XPartsRef and XPartsRef3. -/
import Derived.Test.YtoklonmiejdgmaaGreatDoorGScriptPrints2
import Derived.Test.YtoklonmiejdgmaaGreatDoorGScriptPrints1
import Derived.Test.YtoklonmiejdgmaaGreatDoorGScriptPrints4
namespace Go.Proofs.YtoklonmiejdgmaaGreatDoor
set_option linter.unusedVariables false
set_option linter.unusedSimpArgs false
set_option linter.unnecessarySimpa false
open Go.RowKit Go.Sort
set_option maxHeartbeats 400000
set_option maxRecDepth 100000
/-- Whose a place is; nobody: -1. -/
theorem info_int : (Tryz.prog.info? 3).map (fun i=>(i.zero,i.size,i.bytes)) = some (some (.int .i64 0),1,8):=by kernel_rfl
def ownV (R : List Rn) (i : Nat) : Int:=match R.find? (hits i) with
 | some r=>r.2.2
 | none=>-1
theorem hits_nat (i : Nat) (r : Rn) : hits i r = (decide (r.1 ≤ i) && decide (i < r.1 + r.2.1)):=by
 unfold hits
 congr 1
 ·exact decide_eq_decide.2 (by omega)
 ·exact decide_eq_decide.2 (by omega)
theorem ownV_off {R : List Rn} {i : Nat} (h : ∀ r ∈ R,¬ (r.1 ≤ i ∧ i < r.1 + r.2.1)) : ownV R i = -1:=by
 have : R.find? (hits i) = none:=by
  rw [List.find?_eq_none]
  intro r hr
  have:=h r hr
  rw [hits_nat]
  simpa using fun h1=>by omega
 rw [ownV,this]
theorem ownV_app {R S : List Rn} {i : Nat} (h : ∀ r ∈ R,¬ (r.1 ≤ i ∧ i < r.1 + r.2.1)) : ownV (R ++ S) i = ownV S i:=by
 have : R.find? (hits i) = none:=by
  rw [List.find?_eq_none]
  intro r hr
  have:=h r hr
  rw [hits_nat]
  simpa using fun h1=>by omega
 unfold ownV
 rw [List.find?_append,this,Option.none_or]
theorem ownV_app0 {R S : List Rn} {i : Nat} (h : ∀ r ∈ S,¬ (r.1 ≤ i ∧ i < r.1 + r.2.1)) : ownV (R ++ S) i = ownV R i:=by
 have : S.find? (hits i) = none:=by
  rw [List.find?_eq_none]
  intro r hr
  have:=h r hr
  rw [hits_nat]
  simpa using fun h1=>by omega
 unfold ownV
 rw [List.find?_append,this,Option.or_none]
theorem ownV_cons (r : Rn) (R : List Rn) (i : Nat) : ownV (r :: R) i = if r.1 ≤ i ∧ i < r.1 + r.2.1 then (r.2.2 : Int) else ownV R i:=by
 unfold ownV
 rw [List.find?_cons,hits_nat]
 by_cases h : r.1 ≤ i ∧ i < r.1 + r.2.1
 ·rw [if_pos h];simp [h.1,h.2]
 ·rw [if_neg h]
  have : (decide (r.1 ≤ i) && decide (i < r.1 + r.2.1)) = false:=by simpa using fun h1=>by omega
  rw [this]
/-- What Give leaves. -/
theorem ownV_add {n : Nat} {R : List Rn} (hok : Okr n R) {f m who : Nat} (hm : 1 ≤ m) (hh : (meetV f m R).2 = false) (i : Nat) : ownV (addR R f m who) i = if f ≤ i ∧ i < f + m then (who : Int) else ownV R i:=by
 obtain ⟨h1,h2⟩:=meet_parts f m R hok.sorted (fun r hr=>(hok.each r hr).1) hh
 have hR : ownV R i = ownV (R.take (meetV f m R).1 ++ R.drop (meetV f m R).1) i:=by rw [List.take_append_drop]
 rw [hR]
 unfold addR
 by_cases hi : f ≤ i
 ·rw [ownV_app (fun r hr=>by have:=h1 r hr;omega),ownV_cons,ownV_app (fun r hr=>by have:=h1 r hr;omega)]
 ·rw [if_neg (by omega),ownV_app0 (S:=(f,m,who) :: _) (fun r hr=>by
   rcases List.mem_cons.1 hr with rfl | hr
   ·dsimp only;omega
   ·have:=h2 r hr;omega),ownV_app0 (fun r hr=>by have:=h2 r hr;omega)]
theorem meet_hit {n : Nat} {R : List Rn} (hok : Okr n R) {f m : Nat} (hm : 1 ≤ m) : (meetV f m R).2 = true ↔ ∃ i,f ≤ i ∧ i < f + m ∧ 0 ≤ ownV R i:=by
 constructor
 ·intro h
  have key : ∀ S : List Rn,(meetV f m S).2 = true → (∀ r ∈ S,1 ≤ r.2.1) → ∃ i,f ≤ i ∧ i < f + m ∧ 0 ≤ ownV S i:=by
   intro S
   induction S with
   | nil=>intro h;simp [meetV] at h
   | cons r S ih=>
    intro h hn
    unfold meetV at h
    by_cases e : r.1 + r.2.1 ≤ f
    ·rw [if_pos e] at h
     obtain ⟨i,a,b,c⟩:=ih h (fun s hs=>hn s (by simp [hs]))
     exact ⟨i,a,b,by rw [ownV_cons,if_neg (by omega)];exact c⟩
    ·rw [if_neg e] at h
     simp only [decide_eq_true_eq] at h
     have:=hn r (by simp)
     refine ⟨max f r.1,by omega,by omega,?_⟩
     rw [ownV_cons,if_pos ⟨by omega,by omega⟩]
     omega
  exact key R h (fun r hr=>(hok.each r hr).1)
 ·rintro ⟨i,h1,h2,h3⟩
  cases hh : (meetV f m R).2
  ·obtain ⟨a,b⟩:=meet_parts f m R hok.sorted (fun r hr=>(hok.each r hr).1) hh
   have : ownV R i = -1:=ownV_off (fun r hr=>by
    rw [← List.take_append_drop (meetV f m R).1 R,List.mem_append] at hr
    rcases hr with hr | hr
    ·have:=a r hr;omega
    ·have:=b r hr;omega)
   omega
  ·rfl
def fC (f : Nat → Int) (n : Nat) : List Value:=(List.range n).map (fun i=>Value.int .i64 (f i))
theorem fC_len (f : Nat → Int) (n : Nat) : (fC f n).length = n:=by simp [fC]
theorem fC_get (f : Nat → Int) {n i : Nat} (h : i < n) : (fC f n)[i]? = some (.int .i64 (f i)):=by simp [fC,h]
theorem fC_succ (f : Nat → Int) (n : Nat) : fC f (n + 1) = fC f n ++ [.int .i64 (f n)]:=by simp [fC,List.range_succ]
theorem fC_congr {f g : Nat → Int} {n : Nat} (h : ∀ i,i < n → f i = g i) : fC f n = fC g n:=by
 refine List.map_congr_left (fun i hi=>?_)
 rw [h i (by simpa using hi)]
theorem fC_set (f : Nat → Int) (n j : Nat) (v : Int) : (fC f n).set j (.int .i64 v) = fC (fun i=>if i = j then v else f i) n:=by
 apply List.ext_getElem?
 intro i
 rw [List.getElem?_set]
 by_cases hi : i < n
 ·rw [fC_get (fun i=>if i = j then v else f i) hi]
  by_cases e : j = i
  ·subst e;simp [fC_len,hi]
  ·rw [if_neg e,fC_get _ hi,if_neg (Ne.symm e)]
 ·have h1 : (fC f n)[i]? = none:=by simp [fC];omega
  have h2 : (fC (fun i=>if i = j then v else f i) n)[i]? = none:=by simp [fC];omega
  rw [h2]
  by_cases e : j = i
  ·subst e;simp [fC_len,hi]
  ·rw [if_neg e,h1]
theorem fC_one (f : Nat → Int) (n : Nat) : ∀ u ∈ fC f n,u.oneCell' = true:=by
 intro u hu
 obtain ⟨i,_,rfl⟩:=List.mem_map.1 hu
 rfl
/-- The reference's table: whose each place is. -/
structure RT (w : World) (B rr : Nat) (a : Option Addr) (c : Nat) (f : Nat → Int) (n : Nat) : Prop where
 obj : ObjAt w rr 231 [.slice a n c]
 own : Own w B 3 1 a n c (fC f n)
namespace RT
variable {w w' : World} {B rr c n : Nat} {a : Option Addr} {f : Nat → Int}
theorem below (h : RT w B rr a c f n) (hb : Below w.heap.size w w') : RT w' B rr a c f n:=⟨h.obj.below hb,h.own.below hb⟩
theorem mod {S : List Nat} (h : RT w B rr a c f n) (hm : Mod S w w') (h1 : rr ∉ S) (h2 : ∀ k ∈ blk a,k ∉ S) : RT w' B rr a c f n:=⟨h.obj.mod hm h1,h.own.mod hm h2⟩
theorem at_ (h : RT w B rr a c f n) (i : Nat) (hi : i < n) : ∃ g,a = some ⟨g,0,none⟩ ∧ w.cell? ⟨g,i,none⟩ = some (.int .i64 (f i)):=by
 obtain ⟨g,rfl,_,_⟩:=h.own.at_ (by omega)
 exact ⟨g,rfl,h.own.cell i _ (fC_get f hi)⟩
end RT
set_option maxHeartbeats 1600000 in
theorem rnew_yes (N : Nat) (hN : N ≤ 64) (w : World) : Calls Tryz.prog 148 #[.int .i64 N] w fun e w'=>∃ a c,e = .returned (.tuple #[.pointer (some ⟨w.heap.size,0,none⟩),.int .i64 0]) ∧ RT w' w.heap.size w.heap.size a c (fun _=>-1) N ∧ Below w.heap.size w w':=by
 obtain ⟨i0,hi0,hz0,hz1,hz2⟩:=info_parts info_int
 have e1 : decide ((N : Int) < 0) = false:=by simp
 have e2 : decide ((64 : Int) < (N : Int)) = false:=by simp;omega
 have HR0 : Hid (RT (w.alloc (.cells #[.slice none 0 0] 231)) w.heap.size w.heap.size none 0 (fun _=>-1) 0):=⟨new_block w _ _ rfl,Own.nil _ _ _ _⟩
 go_enter Tryz.func148,Tryz.ntmps148
 go_wp2_with fail
 go_loopw [5] (fun i wr=>∃ (k : Nat) (a : Option Addr) (c : Nat),k ≤ N ∧ i = .int .i64 k ∧ RT wr w.heap.size w.heap.size a c (fun _=>-1) k ∧ Below w.heap.size w wr) (fun i _=>N - (intOf i).toNat)
 case atStart=>exact ⟨0,none,0,Nat.zero_le _,rfl,HR0.out,(Below.refl _ _).alloc (Nat.le_refl _) _⟩
 case round=>
  clear HR0
  obtain ⟨k,a,c,hk,rfl,hr,hb⟩:=hrel
  have HR:=Lib.hid hr;have HB:=Lib.hid hb
  have c0:=hr.obj.cell 0 _ rfl
  have hbz:=hb.size
  clear hr hb
  by_cases g : k < N
  ·have d : decide ((k : Int) < (N : Int)) = true:=by simp;omega
   go_wp2_with (at_builtin;(refine wpList_own rfl (.tmp 23) (.tmp 24) 171 rfl w.heap.size 3 i0 _ 1 8 Tryz.underlying171 hi0 hz0 hz1 hz2 rfl (by omega) a k c (fC (fun _=>-1) k) rfl ((HR.out.below ((Below.refl _ _).alloc (Nat.le_refl _) _)).own) wr.heap.size [.int .i64 (-1)] rfl (new_block _ _ _ rfl) rfl (by simp [Value.oneCell']) (by simp only [maxLen];omega) (by omega) (by simp;omega) ?_);intro g' c' w1 hown1 hmod1 _;have HM1 : Hid (Mod (blk a) wr w1):=((Mod.ofBelow ((Below.refl wr.heap.size wr).alloc (Nat.le_refl _) _)).trans hmod1);have HO1:=Lib.hid hown1;have ho1:=HR.out.obj.mod HM1.out (HR.out.own.ne HR.out.obj (by decide));have q0:=ho1.cell 0 _ rfl;have qf:=ho1.free 0;have HOB:=Lib.hid ho1;clear hown1 hmod1 ho1)
   have h1 : w.heap.size ∉ blk (some ⟨g',0,none⟩):=HO1.out.ne HOB.out (by decide)
   have hb2 : Below w.heap.size w (w1.setCell ⟨w.heap.size,0,none⟩ (.slice (some ⟨g',0,none⟩) (k + 1) c')):=HB.out.trans ((HM1.out.below (B:=w.heap.size) (fun j hj=>(HR.out.own.ge j hj).1) hbz).setCell (p:=⟨w.heap.size,0,none⟩) (Nat.le_refl _) _)
   have hr2 : RT (w1.setCell ⟨w.heap.size,0,none⟩ (.slice (some ⟨g',0,none⟩) (k + 1) c')) w.heap.size w.heap.size (some ⟨g',0,none⟩) c' (fun _=>-1) (k + 1):=⟨HOB.out.set 0 _,by rw [fC_succ];exact HO1.out.upd (Upd.setCell w1 ⟨w.heap.size,0,none⟩ _) h1⟩
   go_roundw
   case rel=>exact ⟨k + 1,_,c',by omega,by go_num,hr2,hb2⟩
   case measure=>simp [intOf];omega
  ·obtain rfl : k = N:=by omega
   have d : decide ((k : Int) < (k : Int)) = false:=by simp
   go_wp2_with fail
   go_ret2
   exact ⟨a,c,rfl,HR.out,HB.out⟩
def RPost (B rr N : Nat) (a : Option Addr) (r : Value) (f : Nat → Int) (w : World) (e : Ending) (w' : World) : Prop:=
 ∃ a' c',e = .returned r ∧ RT w' B rr a' c' f N ∧ Mod (rr :: blk a) w w' ∧ ∀ k ∈ blk a',k ∈ blk a ∨ w.heap.size ≤ k
set_option maxHeartbeats 3200000 in
theorem rgive_any (B rr c N : Nat) (a : Option Addr) (R : List Rn) (x y z : Int) (w : World) (hok : Okr N R) (h : RT w B rr a c (ownV R) N) (hB : B ≤ w.heap.size) : Calls Tryz.prog 149 #[.pointer (some ⟨rr,0,none⟩),.int .i64 x,.int .i64 y,.int .i64 z] w (RPost B rr N a (.int .i64 (giveV N R x y z).1) (ownV (giveV N R x y z).2) w):=by
 obtain ⟨i0,hi0,hz0,hz1,hz2⟩:=info_parts info_int
 have c0:=h.obj.cell 0 _ rfl
 have H:=Lib.hid h
 have hn64:=hok.n64
 have hrr:=h.obj.lt
 have HE : Hid (∀ r,RPost B rr N a r (ownV R) w (.returned r) w):=fun r=>⟨a,c,rfl,H.out,Mod.refl _ _,fun k hk=>.inl hk⟩
 by_cases hw : wellG N x y z = true
 ·obtain ⟨w1,w2,w3,w4,w5,w6⟩:=(wellG_iff _ _ _ _).1 hw
  obtain ⟨F,rfl⟩:=Int.eq_ofNat_of_zero_le w1
  obtain ⟨M,rfl⟩:=Int.eq_ofNat_of_zero_le (show 0 ≤ y by omega)
  obtain ⟨V,rfl⟩:=Int.eq_ofNat_of_zero_le w5
  have HG : Hid (giveV N R F M V = if (meetV F M R).2 then (5,R) else (0,addR R F M V)):=by rw [Hid,giveV,if_pos hw];rfl
  have hM1 : 1 ≤ M:=by omega
  have hFM : F + M ≤ N:=by omega
  have e1 : decide ((F : Int) < 0) = false:=by simp
  have e2 : decide ((M : Int) < 1) = false:=by simp;omega
  have e3 : decide ((N : Int) < (F : Int)) = false:=by simp;omega
  have e3' : decide (N < F) = false:=by simp;omega
  have e4 : decide ((N : Int) - F < (M : Int)) = false:=by simp;omega
  have e5 : decide ((V : Int) < 0) = false:=by simp
  have e6 : decide ((64 : Int) ≤ (V : Int)) = false:=by simp;omega
  have hwr : IntKind.i64.wrap ((N : Int) - F) = (N : Int) - F:=IntWalk.i64_in _ (by omega)
  clear w1 w2 w3 w4 w5 w6 hw h
  cases hh : (meetV F M R).2
  ·have HGV : Hid (giveV N R F M V = (0,addR R F M V)):=by rw [Hid,HG.out,hh];rfl
   have HNO : Hid (∀ j,j < M → ownV R (F + j) < 0):=fun j hj=>by
    by_cases h1 : 0 ≤ ownV R (F + j)
    ·have:=(meet_hit (f:=F) hok hM1).2 ⟨F + j,by omega,by omega,h1⟩
     rw [hh] at this
     cases this
    ·omega
   have HAD:=Lib.hid (fun i=>ownV_add (who:=V) hok hM1 hh i)
   have HL : Hid ((fC (ownV R) N).length = N * 1):=by rw [Hid,fC_len,Nat.mul_one]
   have HEM:=Lib.hid (own_empty w 3 1)
   clear hh HG HE
   go_enter Tryz.func149,Tryz.ntmps149
   go_wp2_with fail
   go_loopw [9] (fun i wr=>∃ k : Nat,k ≤ M ∧ i = .int .i64 k ∧ w = wr) (fun i _=>M - (intOf i).toNat)
   case atStart=>exact ⟨0,Nat.zero_le _,rfl,rfl⟩
   case round=>
    obtain ⟨k,hk,rfl,rfl⟩:=hrel
    by_cases g : k < M
    ·have d : decide ((k : Int) < (M : Int)) = true:=by simp;omega
     obtain ⟨g',rfl,k0⟩:=H.out.at_ (F + k) (by omega)
     have hb0 : (0 : Int) ≤ (F : Int) + k:=by omega
     have hb1 : (F : Int) + k < (N : Int):=by omega
     have hws : IntKind.i64.wrap ((F : Int) + k) = (F : Int) + k:=IntWalk.i64_in _ (by omega)
     have hlo:=HNO.out k g
     have d2 : decide (0 ≤ ownV R (F + k)) = false:=by simp;omega
     generalize ownV R (F + k) = u at k0 d2
     clear hlo
     go_wp2_with fail
     go_roundw
     case rel=>exact ⟨k + 1,by omega,by go_num,by first | rfl | trivial⟩
     case measure=>simp [intOf];omega
    ·obtain rfl : k = M:=by omega
     have d : decide ((k : Int) < (k : Int)) = false:=by simp
     obtain ⟨g',rfl,_,hg'⟩:=H.out.own.at_ (by omega)
     have HN2 : Hid (∀ W,Below w.heap.size w W → ∀ j u,(fC (ownV R) N)[j]? = some u → W.cell? ((⟨g',0,none⟩ : Addr).add j) = some u):=fun W hW j u hu=>by
      have e : (⟨g',0,none⟩ : Addr).add j = ⟨g',j,none⟩:=by unfold Addr.add;split <;> simp_all
      rw [e];exact (hW.cell (p:=⟨g',j,none⟩) hg').trans (H.out.own.cell j u hu)
     go_wp2_with (at_builtin;(refine wpList_append_own_at _ rfl (.tmp 61) (.tmp 65) _ rfl w.heap.size 3 i0 _ 1 8 Tryz.underlying171 hi0 hz0 hz1 hz2 rfl (by omega) (.slice (some ⟨w.heap.size,0,none⟩) 0 0) 0 [] rfl HEM.out ⟨g',0,none⟩ N c (fC (ownV R) N) rfl HL.out (HN2.out _ ((Below.refl _ _).alloc (Nat.le_refl _) _)) (fC_one _ _) (by simp only [maxLen];omega) (by omega) (by simp) ?_);intro v1 w1 hown1 hg1 hz hat1)
     obtain ⟨a4,c4,he4,hown4,hb4⟩:=clone_post (n:=N) hown1 hg1
     cases he4
     have HO4:=Lib.hid hown4;have HB4:=Lib.hid hb4
     obtain ⟨g4,rfl,hg4,_⟩:=hown4.at_ (by omega)
     have hc4:=hown4.le
     clear hown1 hg1 hz hat1 hown4 hb4
     go_loopw [11] (fun i wr=>∃ j : Nat,j ≤ k ∧ i = .int .i64 j ∧ Own wr w.heap.size 3 1 (some ⟨g4,0,none⟩) N c4 (fC (fun i=>if F ≤ i ∧ i < F + j then (V : Int) else ownV R i) N) ∧ Below w.heap.size w wr) (fun i _=>k - (intOf i).toNat)
     case atStart=>exact ⟨0,Nat.zero_le _,rfl,by rw [fC_congr (g:=ownV R) (fun i _=>if_neg (by omega))];exact HO4.out,HB4.out⟩
     case round=>
      clear HO4 HB4
      obtain ⟨j,hj,rfl,ho,hb⟩:=hrel
      have HO:=Lib.hid ho;have HB:=Lib.hid hb
      clear ho hb
      by_cases gj : j < k
      ·have dj : decide ((j : Int) < (k : Int)) = true:=by simp;omega
       have k0:=HO.out.cell (F + j) _ (fC_get _ (by omega))
       have kf:=HO.out.free (F + j)
       have hb0 : (0 : Int) ≤ (F : Int) + j:=by omega
       have hb1 : (F : Int) + j < (N : Int):=by omega
       have hws : IntKind.i64.wrap ((F : Int) + j) = (F : Int) + j:=IntWalk.i64_in _ (by omega)
       have hs:=Own.put HO.out (j:=F + j) (by omega) (.int .i64 (V : Int))
       rw [fC_set,fC_congr (g:=fun i=>if F ≤ i ∧ i < F + (j + 1) then (V : Int) else ownV R i) (fun i hi=>by
        by_cases h1 : i = F + j
        ·rw [if_pos h1,if_pos (by omega)]
        ·rw [if_neg h1]
         by_cases h2 : F ≤ i ∧ i < F + j
         ·rw [if_pos h2,if_pos (by omega)]
         ·rw [if_neg h2,if_neg (by omega)])] at hs
       have hb2:=HB.out.setCell (p:=⟨g4,F + j,none⟩) hg4 (.int .i64 (V : Int))
       have HS:=Lib.hid hs;have HB2:=Lib.hid hb2
       clear hs hb2
       generalize (if F ≤ F + j ∧ F + j < F + j then (V : Int) else ownV R (F + j)) = u at k0
       go_wp2_with fail
       go_roundw
       case rel=>exact ⟨j + 1,by omega,by go_num,HS.out,HB2.out⟩
       case measure=>simp [intOf];omega
      ·obtain rfl : j = k:=by omega
       have dj : decide ((j : Int) < (j : Int)) = false:=by simp
       have q0:=(HB.out.cell (p:=⟨rr,0,none⟩) hrr).trans c0
       have ho:=H.out.obj.below HB.out
       have qf:=ho.free 0
       have hrn : rr ∉ blk (some ⟨g4,0,none⟩):=fun hk=>by have:=(HO.out.ge rr hk).1;omega
       have HX : Hid (RPost B rr N (some ⟨g',0,none⟩) (.int .i64 0) (ownV (addR R F j V)) w (.returned (.int .i64 0)) (wr.setCell ⟨rr,0,none⟩ (.slice (some ⟨g4,0,none⟩) N c4))):=by
        refine ⟨some ⟨g4,0,none⟩,c4,rfl,⟨ho.set 0 _,?_⟩,(Mod.ofBelow HB.out).setCell ⟨rr,0,none⟩ _ (.inl (by simp)),fun q hq=>.inr ?_⟩
        ·rw [fC_congr (g:=fun i=>if F ≤ i ∧ i < F + j then (V : Int) else ownV R i) (fun i _=>HAD.out i)]
         exact (HO.out.mono hB).upd (Upd.setCell wr ⟨rr,0,none⟩ _) hrn
        ·exact (HO.out.ge q hq).1
       clear ho
       go_wp2_with fail
       go_ret
       rw [HGV.out]
       exact HX.out
  ·have HGV : Hid (giveV N R F M V = (5,R)):=by rw [Hid,HG.out,hh];rfl
   have HH:=Lib.hid ((meet_hit hok hM1).1 hh)
   clear hh HG
   go_enter Tryz.func149,Tryz.ntmps149
   go_wp2_with fail
   go_loopw [9] (fun i wr=>∃ k : Nat,k ≤ M ∧ i = .int .i64 k ∧ w = wr ∧ ∀ j,j < k → ownV R (F + j) < 0) (fun i _=>M - (intOf i).toNat)
   case atStart=>exact ⟨0,Nat.zero_le _,rfl,rfl,fun j hj=>by omega⟩
   case round=>
    obtain ⟨k,hk,rfl,rfl,hlo⟩:=hrel
    have HLO:=Lib.hid hlo
    clear hlo
    by_cases g : k < M
    ·have d : decide ((k : Int) < (M : Int)) = true:=by simp;omega
     obtain ⟨g',rfl,k0⟩:=H.out.at_ (F + k) (by omega)
     have hb0 : (0 : Int) ≤ (F : Int) + k:=by omega
     have hb1 : (F : Int) + k < (N : Int):=by omega
     have hws : IntKind.i64.wrap ((F : Int) + k) = (F : Int) + k:=IntWalk.i64_in _ (by omega)
     by_cases g2 : 0 ≤ ownV R (F + k)
     ·have d2 : decide (0 ≤ ownV R (F + k)) = true:=by simpa using g2
      generalize ownV R (F + k) = u at k0 d2
      clear g2 HLO HH
      go_wp2_with fail
      go_ret
      rw [HGV.out]
      exact HE.out _
     ·have d2 : decide (0 ≤ ownV R (F + k)) = false:=by simpa using g2
      have HL2 : Hid (∀ j,j < k + 1 → ownV R (F + j) < 0):=fun j hj=>by
       rcases Nat.lt_or_ge j k with h | h
       ·exact HLO.out j h
       ·rw [show j = k by omega];omega
      generalize ownV R (F + k) = u at k0 d2
      clear g2 HLO
      go_wp2_with fail
      go_roundw
      case rel=>exact ⟨k + 1,by omega,by go_num,by first | rfl | trivial,HL2.out⟩
      case measure=>simp [intOf];omega
    ·obtain rfl : k = M:=by omega
     exfalso
     obtain ⟨i,h1,h2,h3⟩:=HH.out
     have:=HLO.out (i - F) (by omega)
     rw [show F + (i - F) = i by omega] at this
     omega
 ·have HG : Hid (giveV N R x y z = (1,R)):=by rw [Hid,giveV,if_neg hw]
  have hw' : ¬ (0 ≤ x ∧ 1 ≤ y ∧ x ≤ N ∧ y ≤ N - x ∧ 0 ≤ z ∧ z < 64):=fun hc=>hw ((wellG_iff N x y z).2 hc)
  clear h hw
  by_cases g1 : x < 0
  ·have e1 : decide (x < 0) = true:=by simpa using g1
   clear hw'
   ((go_enter Tryz.func149,Tryz.ntmps149);(go_wp2_with fail);go_ret;(rw [HG.out]);exact HE.out _)
  ·have e1 : decide (x < 0) = false:=by simpa using g1
   by_cases g2 : y < 1
   ·have e2 : decide (y < 1) = true:=by simpa using g2
    clear hw'
    ((go_enter Tryz.func149,Tryz.ntmps149);(go_wp2_with fail);go_ret;(rw [HG.out]);exact HE.out _)
   ·have e2 : decide (y < 1) = false:=by simpa using g2
    by_cases g3 : (N : Int) < x
    ·have e3 : decide ((N : Int) < x) = true:=by simpa using g3
     clear hw'
     ((go_enter Tryz.func149,Tryz.ntmps149);(go_wp2_with fail);go_ret;(rw [HG.out]);exact HE.out _)
    ·have e3 : decide ((N : Int) < x) = false:=by simpa using g3
     have hwr : IntKind.i64.wrap ((N : Int) - x) = (N : Int) - x:=IntWalk.i64_in _ (by omega)
     by_cases g4 : (N : Int) - x < y
     ·have e4 : decide ((N : Int) - x < y) = true:=by simpa using g4
      clear hw'
      ((go_enter Tryz.func149,Tryz.ntmps149);(go_wp2_with fail);go_ret;(rw [HG.out]);exact HE.out _)
     ·have e4 : decide ((N : Int) - x < y) = false:=by simpa using g4
      by_cases g5 : z < 0
      ·have e5 : decide (z < 0) = true:=by simpa using g5
       clear hw'
       ((go_enter Tryz.func149,Tryz.ntmps149);(go_wp2_with fail);go_ret;(rw [HG.out]);exact HE.out _)
      ·have e5 : decide (z < 0) = false:=by simpa using g5
       have e6 : decide ((64 : Int) ≤ z) = true:=by simp;omega
       clear hw'
       ((go_enter Tryz.func149,Tryz.ntmps149);(go_wp2_with fail);go_ret;(rw [HG.out]);exact HE.out _)
end Go.Proofs.YtoklonmiejdgmaaGreatDoor
/- Chapter 4, the reference: guests, isGuest, slots, need. -/
namespace Go.Proofs.YtoklonmiejdgmaaGreatDoor
set_option linter.unusedVariables false
set_option linter.unusedSimpArgs false
set_option linter.unnecessarySimpa false
open Go.RowKit
set_option maxHeartbeats 4000000
set_option maxRecDepth 100000
set_option linter.unusedVariables false
variable {W W' w : World} {c : Cv} {b N : Nat} {s : Sl}
theorem isGuest_any (c : Cv) (i : Int) (w : World) (h : CfgOk w c) : Calls Tryz.prog 105 #[(.agg #[.int .i64 c.cats,.slice c.g.a c.g.l.length c.g.cap,.slice c.r.a c.r.l.length c.r.cap,.slice c.p.a c.p.l.length c.p.cap,.slice c.n.a c.n.l.length c.n.cap,.slice c.s.a c.s.l.length c.s.cap,.int .i64 c.gate,.int .i64 c.quota]),.int .i64 i] w fun e w'=>e = .returned (.bool (isG c i)) ∧ Below w.heap.size w w':=by
 have HI : Hid (isG c i = (decide (0 ≤ i) && decide (i < c.g.l.length))):=rfl
 obtain ⟨x,hx⟩ : ∃ x,x = isG c i:=⟨_,rfl⟩
 rw [← hx] at HI ⊢
 have h0:=CX.new h
 have H0:=Lib.hid h0
 clear h0 h hx
 by_cases h0 : 0 ≤ i
 ·have d0 : decide (i ≥ 0) = true:=by simp [h0]
  by_cases h1 : i < c.g.l.length
  ·have d1 : decide (i < c.g.l.length) = true:=by simp [h1]
   have hx : x = true:=by rw [HI.out];simp [h0,h1]
   subst hx
   go_enter Tryz.func105,Tryz.ntmps105
   go_upto_region 1 with fail
   (have q0:=H0.out.ob.cell 0 _ rfl;have q1:=H0.out.ob.cell 1 _ rfl;have q2:=H0.out.ob.cell 2 _ rfl;have q3:=H0.out.ob.cell 3 _ rfl;have q4:=H0.out.ob.cell 4 _ rfl;have q5:=H0.out.ob.cell 5 _ rfl;have q6:=H0.out.ob.cell 6 _ rfl;have q7:=H0.out.ob.cell 7 _ rfl)
   go_wp2_with fail
   go_ret
   exact ⟨rfl,H0.out.bel⟩
  ·have d1 : decide (i < c.g.l.length) = false:=by simpa using h1
   have hx : x = false:=by rw [HI.out];simp [h1]
   subst hx
   go_enter Tryz.func105,Tryz.ntmps105
   go_upto_region 1 with fail
   (have q0:=H0.out.ob.cell 0 _ rfl;have q1:=H0.out.ob.cell 1 _ rfl;have q2:=H0.out.ob.cell 2 _ rfl;have q3:=H0.out.ob.cell 3 _ rfl;have q4:=H0.out.ob.cell 4 _ rfl;have q5:=H0.out.ob.cell 5 _ rfl;have q6:=H0.out.ob.cell 6 _ rfl;have q7:=H0.out.ob.cell 7 _ rfl)
   go_wp2_with fail
   go_ret
   exact ⟨rfl,H0.out.bel⟩
 ·have d0 : decide (i ≥ 0) = false:=by simp;omega
  have hx : x = false:=by rw [HI.out];simp [h0]
  subst hx
  go_enter Tryz.func105,Tryz.ntmps105
  go_upto_region 1 with fail
  (have q0:=H0.out.ob.cell 0 _ rfl;have q1:=H0.out.ob.cell 1 _ rfl;have q2:=H0.out.ob.cell 2 _ rfl;have q3:=H0.out.ob.cell 3 _ rfl;have q4:=H0.out.ob.cell 4 _ rfl;have q5:=H0.out.ob.cell 5 _ rfl;have q6:=H0.out.ob.cell 6 _ rfl;have q7:=H0.out.ob.cell 7 _ rfl)
  go_wp2_with fail
  go_ret
  exact ⟨rfl,H0.out.bel⟩
theorem rguests_any (c : Cv) (w : World) (h : CfgOk w c) : Calls Tryz.prog 100 #[(.agg #[.int .i64 c.cats,.slice c.g.a c.g.l.length c.g.cap,.slice c.r.a c.r.l.length c.r.cap,.slice c.p.a c.p.l.length c.p.cap,.slice c.n.a c.n.l.length c.n.cap,.slice c.s.a c.s.l.length c.s.cap,.int .i64 c.gate,.int .i64 c.quota])] w fun e w'=>e = .returned (.tuple #[.bool (gFst c).2,.int .i64 (gFst c).1]) ∧ Below w.heap.size w w':=by
 have hm:=h.g.mx
 obtain ⟨x,hx⟩ : ∃ x,x = gFst c:=⟨_,rfl⟩
 rw [← hx]
 have HX:=Lib.hid hx
 clear hx
 by_cases h1 : c.g.l.length < 1
 ·have d1 : decide ((c.g.l.length : Int) < 1) = true:=by simp;omega
  have hx : x = (0,true):=by rw [HX.out,gFst,if_pos (Or.inl h1)]
  subst hx
  clear h1
  (have h0:=CX.new h;go_enter Tryz.func100,Tryz.ntmps100;go_upto_region 1 with fail;generalize w.alloc (.cells #[.int .i64 c.cats,.slice c.g.a c.g.l.length c.g.cap,.slice c.r.a c.r.l.length c.r.cap,.slice c.p.a c.p.l.length c.p.cap,.slice c.n.a c.n.l.length c.n.cap,.slice c.s.a c.s.l.length c.s.cap,.int .i64 c.gate,.int .i64 c.quota] 29) = W1 at h0 ⊢;generalize w.heap.size = b0 at h0 ⊢;have H0:=Lib.hid h0;clear h0 h)
  (have q0:=H0.out.ob.cell 0 _ rfl;have q1:=H0.out.ob.cell 1 _ rfl;have q2:=H0.out.ob.cell 2 _ rfl;have q3:=H0.out.ob.cell 3 _ rfl;have q4:=H0.out.ob.cell 4 _ rfl;have q5:=H0.out.ob.cell 5 _ rfl;have q6:=H0.out.ob.cell 6 _ rfl;have q7:=H0.out.ob.cell 7 _ rfl)
  go_wp2_with fail
  go_ret2
  exact ⟨rfl,H0.out.bel⟩
 ·have d1 : decide ((c.g.l.length : Int) < 1) = false:=by simp;omega
  by_cases h2 : 4 < c.g.l.length
  ·have d2 : decide ((c.g.l.length : Int) > 4) = true:=by simp;omega
   have hx : x = (0,true):=by rw [HX.out,gFst,if_pos (Or.inr h2)]
   subst hx
   clear h1 h2
   (have h0:=CX.new h;go_enter Tryz.func100,Tryz.ntmps100;go_upto_region 1 with fail;generalize w.alloc (.cells #[.int .i64 c.cats,.slice c.g.a c.g.l.length c.g.cap,.slice c.r.a c.r.l.length c.r.cap,.slice c.p.a c.p.l.length c.p.cap,.slice c.n.a c.n.l.length c.n.cap,.slice c.s.a c.s.l.length c.s.cap,.int .i64 c.gate,.int .i64 c.quota] 29) = W1 at h0 ⊢;generalize w.heap.size = b0 at h0 ⊢;have H0:=Lib.hid h0;clear h0 h)
   (have q0:=H0.out.ob.cell 0 _ rfl;have q1:=H0.out.ob.cell 1 _ rfl;have q2:=H0.out.ob.cell 2 _ rfl;have q3:=H0.out.ob.cell 3 _ rfl;have q4:=H0.out.ob.cell 4 _ rfl;have q5:=H0.out.ob.cell 5 _ rfl;have q6:=H0.out.ob.cell 6 _ rfl;have q7:=H0.out.ob.cell 7 _ rfl)
   go_wp2_with fail
   go_ret2
   exact ⟨rfl,H0.out.bel⟩
  ·have d2 : decide ((c.g.l.length : Int) > 4) = false:=by simp;omega
   replace HX : Hid (x = fstV (gBad c) c.g.l.length):=by rw [Hid,HX.out,gFst,if_neg (by omega)]
   clear h1 h2
   (have h0:=CX.new h;go_enter Tryz.func100,Tryz.ntmps100;go_upto_region 1 with fail;generalize w.alloc (.cells #[.int .i64 c.cats,.slice c.g.a c.g.l.length c.g.cap,.slice c.r.a c.r.l.length c.r.cap,.slice c.p.a c.p.l.length c.p.cap,.slice c.n.a c.n.l.length c.n.cap,.slice c.s.a c.s.l.length c.s.cap,.int .i64 c.gate,.int .i64 c.quota] 29) = W1 at h0 ⊢;generalize w.heap.size = b0 at h0 ⊢;have H0:=Lib.hid h0;clear h0 h)
   (have q0:=H0.out.ob.cell 0 _ rfl;have q1:=H0.out.ob.cell 1 _ rfl;have q2:=H0.out.ob.cell 2 _ rfl;have q3:=H0.out.ob.cell 3 _ rfl;have q4:=H0.out.ob.cell 4 _ rfl;have q5:=H0.out.ob.cell 5 _ rfl;have q6:=H0.out.ob.cell 6 _ rfl;have q7:=H0.out.ob.cell 7 _ rfl)
   go_upto_region 4 with fail
   clear q0 q1 q2 q3 q4 q5 q6 q7
   go_loopw [4] (fun z wr=>∃ k : Nat,k ≤ c.g.l.length ∧ z = .int .i64 k ∧ CX w wr b0 c ∧ ∀ j,j < k → gBad c j = false) (fun z _=>c.g.l.length - (intOf z).toNat)
   case atStart=>exact ⟨0,by omega,rfl,H0.out,fun j hj=>by omega⟩
   case round=>
    clear H0
    (obtain ⟨k,hk,rfl,hxk,hj⟩:=hrel;have XK:=Lib.hid hxk;have KP:=Lib.hid hj;clear hxk hj;(have q0:=XK.out.ob.cell 0 _ rfl;have q1:=XK.out.ob.cell 1 _ rfl;have q2:=XK.out.ob.cell 2 _ rfl;have q3:=XK.out.ob.cell 3 _ rfl;have q4:=XK.out.ob.cell 4 _ rfl;have q5:=XK.out.ob.cell 5 _ rfl;have q6:=XK.out.ob.cell 6 _ rfl;have q7:=XK.out.ob.cell 7 _ rfl))
    by_cases hkl : k < c.g.l.length
    ·have dk : decide ((k : Int) < (c.g.l.length : Int)) = true:=by simp;omega
     have kz : (0 : Int) ≤ (k : Int):=by omega
     have kl : (k : Int) < (c.g.l.length : Int):=by omega
     have w1 : IntKind.i64.wrap ((k : Int) + 1) = (k : Int) + 1:=by rw [IntKind.wrap_i64];omega
     obtain ⟨bx,ox,hax,hcx⟩:=XK.out.ok.g.cells (by omega) k hkl
     obtain ⟨lb,pg,sp,hrow⟩:=row3 hkl XK.out.ok.g.len
     have HGB : Hid (gBad c k = (!(validB lb c.cats) || (decide (pg < 1) || (decide (8 < pg) || (decide (sp < 0) || decide (8 - pg < sp)))))):=by rw [Hid,gBad,at_eq hkl,at_eq hkl,at_eq hkl,hrow];rfl
     rw [hrow] at hcx
     have c0:=hcx _ (Below.refl _ _) 0 _ rfl;have c1:=hcx _ (Below.refl _ _) 1 _ rfl;have c2:=hcx _ (Below.refl _ _) 2 _ rfl
     simp only [Nat.add_zero] at c0
     rw [hax] at q1
     clear hcx hrow hax
     go_upto_region 7 with fail
     (have R1 : Hid (ObjAt (wr.alloc (.cells ([.int .i64 lb,.int .i64 pg,.int .i64 sp] : List Value).toArray 130)) wr.heap.size 130 [.int .i64 lb,.int .i64 pg,.int .i64 sp]):=ObjAt.new wr _ _;have X1 : Hid (CX w (wr.alloc (.cells ([.int .i64 lb,.int .i64 pg,.int .i64 sp] : List Value).toArray 130)) b0 c):=XK.out.below ((Below.refl _ _).alloc (Nat.le_refl _) _);generalize wr.alloc (.cells ([.int .i64 lb,.int .i64 pg,.int .i64 sp] : List Value).toArray 130) = W1r at R1 X1 ⊢;generalize wr.heap.size = rr at R1 ⊢)
     clear q0 q1 q2 q3 q4 q5 q6 q7 c0 c1 c2
     have r0:=R1.out.cell 0 _ rfl;have r1:=R1.out.cell 1 _ rfl;have r2:=R1.out.cell 2 _ rfl
     have q0:=X1.out.ob.cell 0 _ rfl
     obtain ⟨vb,hvb⟩ : ∃ v,v = validB lb c.cats:=⟨_,rfl⟩
     have VAL : Hid (∀ W,Calls Tryz.prog 147 #[.int .i64 lb,.int .i64 c.cats] W fun e w'=>e = .returned (.bool vb) ∧ W = w'):=fun W=>by rw [hvb];exact Valid_ref _ _ _
     rw [← hvb] at HGB
     clear hvb
     cases vb with
     | false=>((have hx : x = ((k : Int),true):=(by rw [HX.out];exact fstV_hit hkl KP.out (by rw [HGB.out];simp [*]));subst hx);clear HGB;go_wp2_with (go_at_call 147;refine (VAL.out _).mono ?_;rintro e Wv ⟨rfl,rfl⟩);go_ret2;exact ⟨rfl,X1.out.bel⟩)
     | true=>
      by_cases h1 : pg < 1
      ·have d1 : decide (pg < 1) = true:=by simp [h1]
       ((have hx : x = ((k : Int),true):=(by rw [HX.out];exact fstV_hit hkl KP.out (by rw [HGB.out];simp [*]));subst hx);clear HGB h1;go_wp2_with (go_at_call 147;refine (VAL.out _).mono ?_;rintro e Wv ⟨rfl,rfl⟩);go_ret2;exact ⟨rfl,X1.out.bel⟩)
      ·have d1 : decide (pg < 1) = false:=by simp [h1]
       by_cases h2 : 8 < pg
       ·have d2 : decide (pg > 8) = true:=by simp [h2]
        ((have hx : x = ((k : Int),true):=(by rw [HX.out];exact fstV_hit hkl KP.out (by rw [HGB.out];simp [*]));subst hx);clear HGB h1 h2;go_wp2_with (go_at_call 147;refine (VAL.out _).mono ?_;rintro e Wv ⟨rfl,rfl⟩);go_ret2;exact ⟨rfl,X1.out.bel⟩)
       ·have d2 : decide (pg > 8) = false:=by simpa using h2
        have w8 : IntKind.i64.wrap (8 - pg) = 8 - pg:=by rw [IntKind.wrap_i64];omega
        by_cases h3 : sp < 0
        ·have d3 : decide (sp < 0) = true:=by simp [h3]
         ((have hx : x = ((k : Int),true):=(by rw [HX.out];exact fstV_hit hkl KP.out (by rw [HGB.out];simp [*]));subst hx);clear HGB h1 h2 h3;go_wp2_with (go_at_call 147;refine (VAL.out _).mono ?_;rintro e Wv ⟨rfl,rfl⟩);go_ret2;exact ⟨rfl,X1.out.bel⟩)
        ·have d3 : decide (sp < 0) = false:=by simpa using h3
         by_cases h4 : 8 - pg < sp
         ·have d4 : decide (sp > 8 - pg) = true:=by simp [h4]
          ((have hx : x = ((k : Int),true):=(by rw [HX.out];exact fstV_hit hkl KP.out (by rw [HGB.out];simp [*]));subst hx);clear HGB h1 h2 h3 h4;go_wp2_with (go_at_call 147;refine (VAL.out _).mono ?_;rintro e Wv ⟨rfl,rfl⟩);go_ret2;exact ⟨rfl,X1.out.bel⟩)
         ·have d4 : decide (sp > 8 - pg) = false:=by simpa using h4
          have hgb : gBad c k = false:=by rw [HGB.out];simp only [h1,h2,h3,h4,decide_false,Bool.not_true,Bool.or_false]
          have KP2 : Hid (∀ j,j < k + 1 → gBad c j = false):=fun j hj=>by
           by_cases hjk : j = k
           ·rw [hjk];exact hgb
           ·exact KP.out j (by omega)
          clear h1 h2 h3 h4 hgb HGB
          go_wp2_with (go_at_call 147;refine (VAL.out _).mono ?_;rintro e Wv ⟨rfl,rfl⟩)
          go_roundw
          case rel=>exact ⟨k + 1,by omega,by go_num,X1.out,KP2.out⟩
          case measure=>simp [intOf];omega
    ·have dk : decide ((k : Int) < (c.g.l.length : Int)) = false:=by simp;omega
     have hx : x = (0,false):=by rw [HX.out];exact fstV_none (fun j hj=>KP.out j (by omega))
     subst hx
     go_wp2_with fail
     go_ret2
     exact ⟨rfl,XK.out.bel⟩
end Go.Proofs.YtoklonmiejdgmaaGreatDoor
/- Chapter 4, the reference: slots, need, rings. -/
namespace Go.Proofs.YtoklonmiejdgmaaGreatDoor
set_option linter.unusedVariables false
set_option linter.unusedSimpArgs false
set_option linter.unnecessarySimpa false
open Go.RowKit Go.Sort
set_option maxHeartbeats 4000000
set_option maxRecDepth 100000
set_option linter.unusedVariables false
variable {W W' w : World} {c : Cv} {b N : Nat} {s : Sl}
theorem rslots_any (c : Cv) (w : World) (h : CfgOk w c) : Calls Tryz.prog 104 #[(.agg #[.int .i64 c.cats,.slice c.g.a c.g.l.length c.g.cap,.slice c.r.a c.r.l.length c.r.cap,.slice c.p.a c.p.l.length c.p.cap,.slice c.n.a c.n.l.length c.n.cap,.slice c.s.a c.s.l.length c.s.cap,.int .i64 c.gate,.int .i64 c.quota])] w fun e w'=>e = .returned (.tuple #[.bool (sFst c).2,.int .i64 (sFst c).1]) ∧ Below w.heap.size w w':=by
 have hm:=h.s.mx
 obtain ⟨x,hx⟩ : ∃ x,x = sFst c:=⟨_,rfl⟩
 rw [← hx]
 have HX:=Lib.hid hx
 clear hx
 by_cases h1 : c.s.l.length < 1
 ·have d1 : decide ((c.s.l.length : Int) < 1) = true:=by simp;omega
  have hx : x = (0,true):=by rw [HX.out,sFst,if_pos (Or.inl h1)]
  subst hx
  clear h1
  (have h0:=CX.new h;go_enter Tryz.func104,Tryz.ntmps104;go_upto_region 1 with fail;generalize w.alloc (.cells #[.int .i64 c.cats,.slice c.g.a c.g.l.length c.g.cap,.slice c.r.a c.r.l.length c.r.cap,.slice c.p.a c.p.l.length c.p.cap,.slice c.n.a c.n.l.length c.n.cap,.slice c.s.a c.s.l.length c.s.cap,.int .i64 c.gate,.int .i64 c.quota] 29) = W1 at h0 ⊢;generalize w.heap.size = b0 at h0 ⊢;have H0:=Lib.hid h0;clear h0 h)
  (have q0:=H0.out.ob.cell 0 _ rfl;have q1:=H0.out.ob.cell 1 _ rfl;have q2:=H0.out.ob.cell 2 _ rfl;have q3:=H0.out.ob.cell 3 _ rfl;have q4:=H0.out.ob.cell 4 _ rfl;have q5:=H0.out.ob.cell 5 _ rfl;have q6:=H0.out.ob.cell 6 _ rfl;have q7:=H0.out.ob.cell 7 _ rfl)
  go_wp2_with fail
  go_ret2
  exact ⟨rfl,H0.out.bel⟩
 ·have d1 : decide ((c.s.l.length : Int) < 1) = false:=by simp;omega
  by_cases h2 : 8 < c.s.l.length
  ·have d2 : decide ((c.s.l.length : Int) > 8) = true:=by simp;omega
   have hx : x = (0,true):=by rw [HX.out,sFst,if_pos (Or.inr h2)]
   subst hx
   clear h1 h2
   (have h0:=CX.new h;go_enter Tryz.func104,Tryz.ntmps104;go_upto_region 1 with fail;generalize w.alloc (.cells #[.int .i64 c.cats,.slice c.g.a c.g.l.length c.g.cap,.slice c.r.a c.r.l.length c.r.cap,.slice c.p.a c.p.l.length c.p.cap,.slice c.n.a c.n.l.length c.n.cap,.slice c.s.a c.s.l.length c.s.cap,.int .i64 c.gate,.int .i64 c.quota] 29) = W1 at h0 ⊢;generalize w.heap.size = b0 at h0 ⊢;have H0:=Lib.hid h0;clear h0 h)
   (have q0:=H0.out.ob.cell 0 _ rfl;have q1:=H0.out.ob.cell 1 _ rfl;have q2:=H0.out.ob.cell 2 _ rfl;have q3:=H0.out.ob.cell 3 _ rfl;have q4:=H0.out.ob.cell 4 _ rfl;have q5:=H0.out.ob.cell 5 _ rfl;have q6:=H0.out.ob.cell 6 _ rfl;have q7:=H0.out.ob.cell 7 _ rfl)
   go_wp2_with fail
   go_ret2
   exact ⟨rfl,H0.out.bel⟩
  ·have d2 : decide ((c.s.l.length : Int) > 8) = false:=by simp;omega
   replace HX : Hid (x = fstV (sBad c) c.s.l.length):=by rw [Hid,HX.out,sFst,if_neg (by omega)]
   clear h1 h2
   (have h0:=CX.new h;go_enter Tryz.func104,Tryz.ntmps104;go_upto_region 1 with fail;generalize w.alloc (.cells #[.int .i64 c.cats,.slice c.g.a c.g.l.length c.g.cap,.slice c.r.a c.r.l.length c.r.cap,.slice c.p.a c.p.l.length c.p.cap,.slice c.n.a c.n.l.length c.n.cap,.slice c.s.a c.s.l.length c.s.cap,.int .i64 c.gate,.int .i64 c.quota] 29) = W1 at h0 ⊢;generalize w.heap.size = b0 at h0 ⊢;have H0:=Lib.hid h0;clear h0 h)
   (have q0:=H0.out.ob.cell 0 _ rfl;have q1:=H0.out.ob.cell 1 _ rfl;have q2:=H0.out.ob.cell 2 _ rfl;have q3:=H0.out.ob.cell 3 _ rfl;have q4:=H0.out.ob.cell 4 _ rfl;have q5:=H0.out.ob.cell 5 _ rfl;have q6:=H0.out.ob.cell 6 _ rfl;have q7:=H0.out.ob.cell 7 _ rfl)
   go_upto_region 4 with fail
   clear q0 q1 q2 q3 q4 q5 q6 q7
   go_loopw [4] (fun z wr=>∃ k : Nat,k ≤ c.s.l.length ∧ z = .int .i64 k ∧ CX w wr b0 c ∧ ∀ j,j < k → sBad c j = false) (fun z _=>c.s.l.length - (intOf z).toNat)
   case atStart=>exact ⟨0,by omega,rfl,H0.out,fun j hj=>by omega⟩
   case round=>
    clear H0
    (obtain ⟨k,hk,rfl,hxk,hj⟩:=hrel;have XK:=Lib.hid hxk;have KP:=Lib.hid hj;clear hxk hj;(have q0:=XK.out.ob.cell 0 _ rfl;have q1:=XK.out.ob.cell 1 _ rfl;have q2:=XK.out.ob.cell 2 _ rfl;have q3:=XK.out.ob.cell 3 _ rfl;have q4:=XK.out.ob.cell 4 _ rfl;have q5:=XK.out.ob.cell 5 _ rfl;have q6:=XK.out.ob.cell 6 _ rfl;have q7:=XK.out.ob.cell 7 _ rfl))
    by_cases hkl : k < c.s.l.length
    ·have dk : decide ((k : Int) < (c.s.l.length : Int)) = true:=by simp;omega
     have kz : (0 : Int) ≤ (k : Int):=by omega
     have kl : (k : Int) < (c.s.l.length : Int):=by omega
     have w1 : IntKind.i64.wrap ((k : Int) + 1) = (k : Int) + 1:=by rw [IntKind.wrap_i64];omega
     obtain ⟨bx,ox,hax,hcx⟩:=XK.out.ok.s.cells (by omega) k hkl
     obtain ⟨gu,bu,hrow⟩:=row2 hkl XK.out.ok.s.len
     have HGB : Hid (sBad c k = (!(isG c gu) || (decide (bu < 1) || decide (32 < bu)))):=by rw [Hid,sBad,at_eq hkl,at_eq hkl,hrow];rfl
     rw [hrow] at hcx
     have c0:=hcx _ (Below.refl _ _) 0 _ rfl;have c1:=hcx _ (Below.refl _ _) 1 _ rfl
     simp only [Nat.add_zero] at c0
     rw [hax] at q5
     clear hcx hrow hax
     go_upto_region 7 with fail
     (have R1 : Hid (ObjAt (wr.alloc (.cells ([.int .i64 gu,.int .i64 bu] : List Value).toArray 139)) wr.heap.size 139 [.int .i64 gu,.int .i64 bu]):=ObjAt.new wr _ _;have X1 : Hid (CX w (wr.alloc (.cells ([.int .i64 gu,.int .i64 bu] : List Value).toArray 139)) b0 c):=XK.out.below ((Below.refl _ _).alloc (Nat.le_refl _) _);generalize wr.alloc (.cells ([.int .i64 gu,.int .i64 bu] : List Value).toArray 139) = W1r at R1 X1 ⊢;generalize wr.heap.size = rr at R1 ⊢)
     clear q0 q1 q2 q3 q4 q5 q6 q7 c0 c1
     have r0:=R1.out.cell 0 _ rfl;have r1:=R1.out.cell 1 _ rfl
     (have q0:=X1.out.ob.cell 0 _ rfl;have q1:=X1.out.ob.cell 1 _ rfl;have q2:=X1.out.ob.cell 2 _ rfl;have q3:=X1.out.ob.cell 3 _ rfl;have q4:=X1.out.ob.cell 4 _ rfl;have q5:=X1.out.ob.cell 5 _ rfl;have q6:=X1.out.ob.cell 6 _ rfl;have q7:=X1.out.ob.cell 7 _ rfl)
     cases hva : isG c gu with
     | false=>((have hx : x = ((k : Int),true):=(by rw [HX.out];exact fstV_hit hkl KP.out (by rw [HGB.out];simp [*]));subst hx);clear HGB;go_wp2_with (go_at_call 105;refine (isGuest_any c _ _ X1.out.ok).mono ?_;rintro e Wg ⟨rfl,hb⟩;replace X1:=Lib.hid (X1.out.below hb);replace R1:=Lib.hid (R1.out.below hb);clear hb;(replace q0:=X1.out.ob.cell 0 _ rfl;replace q1:=X1.out.ob.cell 1 _ rfl;replace q2:=X1.out.ob.cell 2 _ rfl;replace q3:=X1.out.ob.cell 3 _ rfl;replace q4:=X1.out.ob.cell 4 _ rfl;replace q5:=X1.out.ob.cell 5 _ rfl;replace q6:=X1.out.ob.cell 6 _ rfl;replace q7:=X1.out.ob.cell 7 _ rfl);replace r0:=R1.out.cell 0 _ rfl;replace r1:=R1.out.cell 1 _ rfl);go_ret2;exact ⟨rfl,X1.out.bel⟩)
     | true=>
      by_cases h1 : bu < 1
      ·have d1 : decide (bu < 1) = true:=by simp [h1]
       ((have hx : x = ((k : Int),true):=(by rw [HX.out];exact fstV_hit hkl KP.out (by rw [HGB.out];simp [*]));subst hx);clear HGB h1;go_wp2_with (go_at_call 105;refine (isGuest_any c _ _ X1.out.ok).mono ?_;rintro e Wg ⟨rfl,hb⟩;replace X1:=Lib.hid (X1.out.below hb);replace R1:=Lib.hid (R1.out.below hb);clear hb;(replace q0:=X1.out.ob.cell 0 _ rfl;replace q1:=X1.out.ob.cell 1 _ rfl;replace q2:=X1.out.ob.cell 2 _ rfl;replace q3:=X1.out.ob.cell 3 _ rfl;replace q4:=X1.out.ob.cell 4 _ rfl;replace q5:=X1.out.ob.cell 5 _ rfl;replace q6:=X1.out.ob.cell 6 _ rfl;replace q7:=X1.out.ob.cell 7 _ rfl);replace r0:=R1.out.cell 0 _ rfl;replace r1:=R1.out.cell 1 _ rfl);go_ret2;exact ⟨rfl,X1.out.bel⟩)
      ·have d1 : decide (bu < 1) = false:=by simp [h1]
       by_cases h2 : 32 < bu
       ·have d2 : decide (bu > 32) = true:=by simp [h2]
        ((have hx : x = ((k : Int),true):=(by rw [HX.out];exact fstV_hit hkl KP.out (by rw [HGB.out];simp [*]));subst hx);clear HGB h1 h2;go_wp2_with (go_at_call 105;refine (isGuest_any c _ _ X1.out.ok).mono ?_;rintro e Wg ⟨rfl,hb⟩;replace X1:=Lib.hid (X1.out.below hb);replace R1:=Lib.hid (R1.out.below hb);clear hb;(replace q0:=X1.out.ob.cell 0 _ rfl;replace q1:=X1.out.ob.cell 1 _ rfl;replace q2:=X1.out.ob.cell 2 _ rfl;replace q3:=X1.out.ob.cell 3 _ rfl;replace q4:=X1.out.ob.cell 4 _ rfl;replace q5:=X1.out.ob.cell 5 _ rfl;replace q6:=X1.out.ob.cell 6 _ rfl;replace q7:=X1.out.ob.cell 7 _ rfl);replace r0:=R1.out.cell 0 _ rfl;replace r1:=R1.out.cell 1 _ rfl);go_ret2;exact ⟨rfl,X1.out.bel⟩)
       ·have d2 : decide (bu > 32) = false:=by simpa using h2
        have hgb : sBad c k = false:=by rw [HGB.out];simp only [hva,h1,h2,decide_false,Bool.not_true,Bool.or_false]
        have KP2 : Hid (∀ j,j < k + 1 → sBad c j = false):=fun j hj=>by
         by_cases hjk : j = k
         ·rw [hjk];exact hgb
         ·exact KP.out j (by omega)
        clear h1 h2 hgb HGB
        go_wp2_with (go_at_call 105;refine (isGuest_any c _ _ X1.out.ok).mono ?_;rintro e Wg ⟨rfl,hb⟩;replace X1:=Lib.hid (X1.out.below hb);replace R1:=Lib.hid (R1.out.below hb);clear hb;(replace q0:=X1.out.ob.cell 0 _ rfl;replace q1:=X1.out.ob.cell 1 _ rfl;replace q2:=X1.out.ob.cell 2 _ rfl;replace q3:=X1.out.ob.cell 3 _ rfl;replace q4:=X1.out.ob.cell 4 _ rfl;replace q5:=X1.out.ob.cell 5 _ rfl;replace q6:=X1.out.ob.cell 6 _ rfl;replace q7:=X1.out.ob.cell 7 _ rfl);replace r0:=R1.out.cell 0 _ rfl;replace r1:=R1.out.cell 1 _ rfl)
        go_roundw
        case rel=>exact ⟨k + 1,by omega,by go_num,X1.out,KP2.out⟩
        case measure=>simp [intOf];omega
    ·have dk : decide ((k : Int) < (c.s.l.length : Int)) = false:=by simp;omega
     have hx : x = (0,false):=by rw [HX.out];exact fstV_none (fun j hj=>KP.out j (by omega))
     subst hx
     go_wp2_with fail
     go_ret2
     exact ⟨rfl,XK.out.bel⟩
theorem rneed_any (c : Cv) (hg : GOk c) (w : World) (h : CfgOk w c) : Calls Tryz.prog 106 #[(.agg #[.int .i64 c.cats,.slice c.g.a c.g.l.length c.g.cap,.slice c.r.a c.r.l.length c.r.cap,.slice c.p.a c.p.l.length c.p.cap,.slice c.n.a c.n.l.length c.n.cap,.slice c.s.a c.s.l.length c.s.cap,.int .i64 c.gate,.int .i64 c.quota])] w fun e w'=>e = .returned (.int .i64 (needV c)) ∧ Below w.heap.size w w':=by
 have HG:=Lib.hid hg
 clear hg
 (have h0:=CX.new h;go_enter Tryz.func106,Tryz.ntmps106;go_upto_region 1 with fail;generalize w.alloc (.cells #[.int .i64 c.cats,.slice c.g.a c.g.l.length c.g.cap,.slice c.r.a c.r.l.length c.r.cap,.slice c.p.a c.p.l.length c.p.cap,.slice c.n.a c.n.l.length c.n.cap,.slice c.s.a c.s.l.length c.s.cap,.int .i64 c.gate,.int .i64 c.quota] 29) = W1 at h0 ⊢;generalize w.heap.size = b0 at h0 ⊢;have H0:=Lib.hid h0;clear h0 h)
 (have q0:=H0.out.ob.cell 0 _ rfl;have q1:=H0.out.ob.cell 1 _ rfl;have q2:=H0.out.ob.cell 2 _ rfl;have q3:=H0.out.ob.cell 3 _ rfl;have q4:=H0.out.ob.cell 4 _ rfl;have q5:=H0.out.ob.cell 5 _ rfl;have q6:=H0.out.ob.cell 6 _ rfl;have q7:=H0.out.ob.cell 7 _ rfl)
 go_upto_region 3 with fail
 clear q0 q1 q2 q3 q4 q5 q6 q7
 go_loopw [3,4] (fun g3 g12 wr=>∃ k : Nat,k ≤ c.g.l.length ∧ g12 = .int .i64 k ∧ g3 = .int .i64 (c.n.l.length + sumG (c.g.l.take k)) ∧ CX w wr b0 c) (fun _ g12 _=>c.g.l.length - (intOf g12).toNat)
 case atStart=>exact ⟨0,by omega,rfl,by simp [sumG],H0.out⟩
 case round=>
  clear H0
  obtain ⟨k,hk,rfl,rfl,hxk⟩:=hrel
  have XK:=Lib.hid hxk
  clear hxk
  (have q0:=XK.out.ob.cell 0 _ rfl;have q1:=XK.out.ob.cell 1 _ rfl;have q2:=XK.out.ob.cell 2 _ rfl;have q3:=XK.out.ob.cell 3 _ rfl;have q4:=XK.out.ob.cell 4 _ rfl;have q5:=XK.out.ob.cell 5 _ rfl;have q6:=XK.out.ob.cell 6 _ rfl;have q7:=XK.out.ob.cell 7 _ rfl)
  obtain ⟨sk,hsk⟩ : ∃ x,x = c.n.l.length + sumG (c.g.l.take k):=⟨_,rfl⟩
  rw [← hsk]
  have HS:=Lib.hid hsk
  by_cases hkl : k < c.g.l.length
  ·have d1 : decide ((k : Int) < (c.g.l.length : Int)) = true:=by simp;omega
   have kz : (0 : Int) ≤ (k : Int):=by omega
   have kl : (k : Int) < (c.g.l.length : Int):=by omega
   have w1 : IntKind.i64.wrap ((k : Int) + 1) = (k : Int) + 1:=by have:=HG.out.g;rw [IntKind.wrap_i64];omega
   obtain ⟨bx,ox,hax,hcx⟩:=XK.out.ok.g.cells (by omega) k hkl
   obtain ⟨x,y,z,hrow⟩:=row3 hkl XK.out.ok.g.len
   have hgr:=HG.out.row _ (List.getElem_mem hkl)
   have hst:=sumG_take c.g.l k hkl
   have hsb:=sumG_takeb c.g.l HG.out.row k (by omega)
   rw [hrow] at hcx hgr hst
   simp only [GRow,List.getD_cons_succ,List.getD_cons_zero] at hgr hst
   have HST:=Lib.hid hst
   have c1:=hcx _ (Below.refl _ _) 1 _ rfl;have c2:=hcx _ (Below.refl _ _) 2 _ rfl
   have hgl:=HG.out.g;have hnl:=HG.out.n
   have w2 : IntKind.i64.wrap (sk + y) = sk + y:=by rw [IntKind.wrap_i64];omega
   have w3 : IntKind.i64.wrap (sk + y + z) = sk + y + z:=by rw [IntKind.wrap_i64];omega
   rw [hax] at q1
   clear hcx hrow hgr hst hsb hsk hgl hnl hax
   go_upto_region 5 with fail
   go_quiet (fail)
   go_wp2_with fail
   go_roundw
   case rel=>exact ⟨k + 1,by omega,by go_num,by rw [HST.out,HS.out];congr 1;omega,XK.out.below (below_drewN (Below.refl _ _) _)⟩
   case measure=>simp [intOf];omega
  ·have d1 : decide ((k : Int) < (c.g.l.length : Int)) = false:=by simp;omega
   go_wp2_with fail
   go_ret
   have hkk : k = c.g.l.length:=by omega
   refine ⟨?_,XK.out.bel⟩
   rw [HS.out,hkk,List.take_length];rfl
theorem rrings_any (c : Cv) (w : World) (h : CfgOk w c) : Calls Tryz.prog 103 #[(.agg #[.int .i64 c.cats,.slice c.g.a c.g.l.length c.g.cap,.slice c.r.a c.r.l.length c.r.cap,.slice c.p.a c.p.l.length c.p.cap,.slice c.n.a c.n.l.length c.n.cap,.slice c.s.a c.s.l.length c.s.cap,.int .i64 c.gate,.int .i64 c.quota])] w fun e w'=>e = .returned (.tuple #[.bool (nFst c).2,.int .i64 (nFst c).1]) ∧ Below w.heap.size w w':=by
 have hm:=h.n.mx
 obtain ⟨x,hx⟩ : ∃ x,x = nFst c:=⟨_,rfl⟩
 rw [← hx]
 have HX:=Lib.hid hx
 clear hx
 by_cases h2 : 4 < c.n.l.length
 ·have d2 : decide ((c.n.l.length : Int) > 4) = true:=by simp;omega
  have hx : x = (0,true):=by rw [HX.out,nFst,if_pos h2]
  subst hx
  clear h2
  (have h0:=CX.new h;go_enter Tryz.func103,Tryz.ntmps103;go_upto_region 1 with fail;generalize w.alloc (.cells #[.int .i64 c.cats,.slice c.g.a c.g.l.length c.g.cap,.slice c.r.a c.r.l.length c.r.cap,.slice c.p.a c.p.l.length c.p.cap,.slice c.n.a c.n.l.length c.n.cap,.slice c.s.a c.s.l.length c.s.cap,.int .i64 c.gate,.int .i64 c.quota] 29) = W1 at h0 ⊢;generalize w.heap.size = b0 at h0 ⊢;have H0:=Lib.hid h0;clear h0 h)
  (have q0:=H0.out.ob.cell 0 _ rfl;have q1:=H0.out.ob.cell 1 _ rfl;have q2:=H0.out.ob.cell 2 _ rfl;have q3:=H0.out.ob.cell 3 _ rfl;have q4:=H0.out.ob.cell 4 _ rfl;have q5:=H0.out.ob.cell 5 _ rfl;have q6:=H0.out.ob.cell 6 _ rfl;have q7:=H0.out.ob.cell 7 _ rfl)
  go_wp2_with fail
  go_ret2
  exact ⟨rfl,H0.out.bel⟩
 ·have d2 : decide ((c.n.l.length : Int) > 4) = false:=by simp;omega
  replace HX : Hid (x = fstV (nBad c) c.n.l.length):=by rw [Hid,HX.out,nFst,if_neg h2]
  clear h2
  (have h0:=CX.new h;go_enter Tryz.func103,Tryz.ntmps103;go_upto_region 1 with fail;generalize w.alloc (.cells #[.int .i64 c.cats,.slice c.g.a c.g.l.length c.g.cap,.slice c.r.a c.r.l.length c.r.cap,.slice c.p.a c.p.l.length c.p.cap,.slice c.n.a c.n.l.length c.n.cap,.slice c.s.a c.s.l.length c.s.cap,.int .i64 c.gate,.int .i64 c.quota] 29) = W1 at h0 ⊢;generalize w.heap.size = b0 at h0 ⊢;have H0:=Lib.hid h0;clear h0 h)
  (have q0:=H0.out.ob.cell 0 _ rfl;have q1:=H0.out.ob.cell 1 _ rfl;have q2:=H0.out.ob.cell 2 _ rfl;have q3:=H0.out.ob.cell 3 _ rfl;have q4:=H0.out.ob.cell 4 _ rfl;have q5:=H0.out.ob.cell 5 _ rfl;have q6:=H0.out.ob.cell 6 _ rfl;have q7:=H0.out.ob.cell 7 _ rfl)
  go_upto_region 4 with fail
  clear q0 q1 q2 q3 q4 q5 q6 q7
  go_loopw [4] (fun z wr=>∃ k : Nat,k ≤ c.n.l.length ∧ z = .int .i64 k ∧ CX w wr b0 c ∧ ∀ j,j < k → nBad c j = false) (fun z _=>c.n.l.length - (intOf z).toNat)
  case atStart=>exact ⟨0,by omega,rfl,H0.out,fun j hj=>by omega⟩
  case round=>
   clear H0
   (obtain ⟨k,hk,rfl,hxk,hj⟩:=hrel;have XK:=Lib.hid hxk;have KP:=Lib.hid hj;clear hxk hj;(have q0:=XK.out.ob.cell 0 _ rfl;have q1:=XK.out.ob.cell 1 _ rfl;have q2:=XK.out.ob.cell 2 _ rfl;have q3:=XK.out.ob.cell 3 _ rfl;have q4:=XK.out.ob.cell 4 _ rfl;have q5:=XK.out.ob.cell 5 _ rfl;have q6:=XK.out.ob.cell 6 _ rfl;have q7:=XK.out.ob.cell 7 _ rfl))
   by_cases hkl : k < c.n.l.length
   ·have dk : decide ((k : Int) < (c.n.l.length : Int)) = true:=by simp;omega
    have kz : (0 : Int) ≤ (k : Int):=by omega
    have kl : (k : Int) < (c.n.l.length : Int):=by omega
    have w1 : IntKind.i64.wrap ((k : Int) + 1) = (k : Int) + 1:=by rw [IntKind.wrap_i64];omega
    obtain ⟨bx,ox,hax,hcx⟩:=XK.out.ok.n.cells (by omega) k hkl
    obtain ⟨fr,tt,hrow⟩:=row2 hkl XK.out.ok.n.len
    have HGB : Hid (nBad c k = (!(isG c fr) || (!(isG c tt) || ((fr == tt) || !(flB (labG c fr) (labG c tt)))))):=by rw [Hid,nBad,at_eq hkl,at_eq hkl,hrow];rfl
    rw [hrow] at hcx
    have c0:=hcx _ (Below.refl _ _) 0 _ rfl;have c1:=hcx _ (Below.refl _ _) 1 _ rfl
    simp only [Nat.add_zero] at c0
    rw [hax] at q4
    clear hcx hrow hax
    go_upto_region 7 with fail
    (have R1 : Hid (ObjAt (wr.alloc (.cells ([.int .i64 fr,.int .i64 tt] : List Value).toArray 137)) wr.heap.size 137 [.int .i64 fr,.int .i64 tt]):=ObjAt.new wr _ _;have X1 : Hid (CX w (wr.alloc (.cells ([.int .i64 fr,.int .i64 tt] : List Value).toArray 137)) b0 c):=XK.out.below ((Below.refl _ _).alloc (Nat.le_refl _) _);generalize wr.alloc (.cells ([.int .i64 fr,.int .i64 tt] : List Value).toArray 137) = W1r at R1 X1 ⊢;generalize wr.heap.size = rr at R1 ⊢)
    clear q0 q1 q2 q3 q4 q5 q6 q7 c0 c1
    have r0:=cell_regrown (R1.out.cell 0 _ rfl);have r1:=cell_regrown (R1.out.cell 1 _ rfl)
    (have q0:=cell_regrown (X1.out.ob.cell 0 _ rfl);have q1:=cell_regrown (X1.out.ob.cell 1 _ rfl);have q2:=cell_regrown (X1.out.ob.cell 2 _ rfl);have q3:=cell_regrown (X1.out.ob.cell 3 _ rfl);have q4:=cell_regrown (X1.out.ob.cell 4 _ rfl);have q5:=cell_regrown (X1.out.ob.cell 5 _ rfl);have q6:=cell_regrown (X1.out.ob.cell 6 _ rfl);have q7:=cell_regrown (X1.out.ob.cell 7 _ rfl))
    have GUE : Hid (∀ i d os,Calls Tryz.prog 105 #[(.agg #[.int .i64 c.cats,.slice c.g.a c.g.l.length c.g.cap,.slice c.r.a c.r.l.length c.r.cap,.slice c.p.a c.p.l.length c.p.cap,.slice c.n.a c.n.l.length c.n.cap,.slice c.s.a c.s.l.length c.s.cap,.int .i64 c.gate,.int .i64 c.quota]),.int .i64 i] (grow (redrawn W1r d) os) fun e w''=>e = .returned (.bool (isG c i)) ∧ ∃ p : Regrown,w'' = grow (redrawn W1r p.d) p.os):=fun i d os=>Calls.regrown_of (isGuest_any c i _ (X1.out.ok.below (below_regrown W1r d os)))
    cases hva : isG c fr with
    | false=>((have hx : x = ((k : Int),true):=(by rw [HX.out];exact fstV_hit hkl KP.out (by rw [HGB.out];simp [*]));subst hx);clear HGB;refine wp_region_quiet_below (by kernel_rfl) (by kernel_rfl) ?_;(repeat (go_big_quiet_step ((first | (go_at_call 105;exact GUE.out _ _ _) | (go_at_call 150;exact FLO.out _ _)))));refine wpQuiet_nil ?_;intro _ hw';obtain ⟨⟨dq,osq⟩,hw''⟩:=hw';subst hw'';have hbq:=below_regrown W1r dq osq;generalize grow (redrawn W1r dq) osq = wq at *;go_wp2_with fail;go_ret2;exact ⟨rfl,X1.out.bel.trans (hbq.mono X1.out.bel.size)⟩)
    | true=>
     cases hvb : isG c tt with
     | false=>((have hx : x = ((k : Int),true):=(by rw [HX.out];exact fstV_hit hkl KP.out (by rw [HGB.out];simp [*]));subst hx);clear HGB;refine wp_region_quiet_below (by kernel_rfl) (by kernel_rfl) ?_;(repeat (go_big_quiet_step ((first | (go_at_call 105;exact GUE.out _ _ _) | (go_at_call 150;exact FLO.out _ _)))));refine wpQuiet_nil ?_;intro _ hw';obtain ⟨⟨dq,osq⟩,hw''⟩:=hw';subst hw'';have hbq:=below_regrown W1r dq osq;generalize grow (redrawn W1r dq) osq = wq at *;go_wp2_with fail;go_ret2;exact ⟨rfl,X1.out.bel.trans (hbq.mono X1.out.bel.size)⟩)
     | true=>
      by_cases hft : fr = tt
      ·have dq : (fr == tt) = true:=by simp [hft]
       have hq : nBad c k = true:=by rw [HGB.out,dq];simp
       have hx : x = ((k : Int),true):=by rw [HX.out];exact fstV_hit hkl KP.out hq
       subst hx
       clear hft hq HGB
       refine wp_region_quiet_below (by kernel_rfl) (by kernel_rfl) ?_;(repeat (go_big_quiet_step ((first | (go_at_call 105;exact GUE.out _ _ _) | (go_at_call 150;exact FLO.out _ _)))));refine wpQuiet_nil ?_;intro _ hw';obtain ⟨⟨dq,osq⟩,hw''⟩:=hw';subst hw'';have hbq:=below_regrown W1r dq osq;generalize grow (redrawn W1r dq) osq = wq at *
       go_wp2_with fail
       go_ret2
       exact ⟨rfl,X1.out.bel.trans (hbq.mono X1.out.bel.size)⟩
      ·have dq : (fr == tt) = false:=by simp [hft]
       have hq : nBad c k = !(flB (labG c fr) (labG c tt)):=by rw [HGB.out,dq,hva,hvb];simp
       clear hft HGB
       have ga:=(isG_iff c fr).1 hva;have gb:=(isG_iff c tt).1 hvb
       obtain ⟨f',rfl⟩ : ∃ f' : Nat,fr = f':=⟨fr.toNat,by omega⟩
       obtain ⟨t',rfl⟩ : ∃ t' : Nat,tt = t':=⟨tt.toNat,by omega⟩
       have hfl : f' < c.g.l.length:=by omega
       have htl : t' < c.g.l.length:=by omega
       obtain ⟨gx,go,hga,hgc⟩:=X1.out.ok.g.cells (by omega) f' hfl
       obtain ⟨gx2,go2,hga2,hgc2⟩:=X1.out.ok.g.cells (by omega) t' htl
       rw [hga] at hga2
       obtain ⟨rfl,rfl⟩ : gx = gx2 ∧ go = go2:=by simpa using hga2
       obtain ⟨la,y1,z1,hr1⟩:=row3 hfl X1.out.ok.g.len
       obtain ⟨lb,y2,z2,hr2⟩:=row3 htl X1.out.ok.g.len
       have l1 : labG c f' = la:=by rw [labG,Int.toNat_natCast,at_eq hfl,hr1];rfl
       have l2 : labG c t' = lb:=by rw [labG,Int.toNat_natCast,at_eq htl,hr2];rfl
       rw [l1,l2] at hq
       rw [hr1] at hgc;rw [hr2] at hgc2
       have g0:=cell_regrown (hgc _ (Below.refl _ _) 0 _ rfl);have g1:=cell_regrown (hgc2 _ (Below.refl _ _) 0 _ rfl)
       simp only [Nat.add_zero] at g0 g1
       have k1 : (f' : Int) < (c.g.l.length : Int):=by omega
       have k2 : (t' : Int) < (c.g.l.length : Int):=by omega
       have k3 : (0 : Int) ≤ (f' : Int):=by omega
       have k4 : (0 : Int) ≤ (t' : Int):=by omega
       rw [hga] at q1 GUE
       obtain ⟨vf,hvf⟩ : ∃ v,v = flB la lb:=⟨_,rfl⟩
       have FLO : Hid (∀ d os,Calls Tryz.prog 150 #[.int .i64 la,.int .i64 lb] (grow (redrawn W1r d) os) fun e w''=>e = .returned (.bool vf) ∧ ∃ p : Regrown,w'' = grow (redrawn W1r p.d) p.os):=fun d os=>regrown_same (by rw [hvf,← flowsR_eq];exact Flows_ref _ _ _)
       rw [← hvf] at hq
       clear hvf ga gb hga hgc hga2 hgc2 hr1 hr2 l1 l2 hfl htl
       have HQ:=Lib.hid hq
       clear hq
       cases vf with
       | false=>
        have hx : x = ((k : Int),true):=by rw [HX.out];exact fstV_hit hkl KP.out HQ.out
        subst hx
        refine wp_region_quiet_below (by kernel_rfl) (by kernel_rfl) ?_;(repeat (go_big_quiet_step ((first | (go_at_call 105;exact GUE.out _ _ _) | (go_at_call 150;exact FLO.out _ _)))));refine wpQuiet_nil ?_;intro _ hw';obtain ⟨⟨dq,osq⟩,hw''⟩:=hw';subst hw'';have hbq:=below_regrown W1r dq osq;generalize grow (redrawn W1r dq) osq = wq at *
        go_wp2_with fail
        go_ret2
        exact ⟨rfl,X1.out.bel.trans (hbq.mono X1.out.bel.size)⟩
       | true=>
        have KP2 : Hid (∀ j,j < k + 1 → nBad c j = false):=fun j hj=>by
         by_cases hjk : j = k
         ·rw [hjk];exact HQ.out
         ·exact KP.out j (by omega)
        refine wp_region_quiet_below (by kernel_rfl) (by kernel_rfl) ?_;(repeat (go_big_quiet_step ((first | (go_at_call 105;exact GUE.out _ _ _) | (go_at_call 150;exact FLO.out _ _)))));refine wpQuiet_nil ?_;intro _ hw';obtain ⟨⟨dq,osq⟩,hw''⟩:=hw';subst hw'';have hbq:=below_regrown W1r dq osq;generalize grow (redrawn W1r dq) osq = wq at *
        go_wp2_with fail
        go_roundw
        case rel=>exact ⟨k + 1,by omega,by go_num,X1.out.below hbq,KP2.out⟩
        case measure=>simp [intOf];omega
   ·have dk : decide ((k : Int) < (c.n.l.length : Int)) = false:=by simp;omega
    have hx : x = (0,false):=by rw [HX.out];exact fstV_none (fun j hj=>KP.out j (by omega))
    subst hx
    go_wp2_with fail
    go_ret2
    exact ⟨rfl,XK.out.bel⟩
end Go.Proofs.YtoklonmiejdgmaaGreatDoor
/- Chapter 4, the reference: ranges, ports. -/
namespace Go.Proofs.YtoklonmiejdgmaaGreatDoor
set_option linter.unusedVariables false
set_option linter.unusedSimpArgs false
set_option linter.unnecessarySimpa false
open Go.RowKit Go.Sort
set_option maxHeartbeats 4000000
set_option maxRecDepth 100000
set_option linter.unusedVariables false
variable {W W' w : World} {c : Cv} {b N : Nat} {s : Sl}
theorem give_okr {n : Nat} {R : List Rn} (h : Okr n R) (f m who : Int) : Okr n (giveV n R f m who).2:=by
 unfold giveV
 split
 ·rename_i hw
  have hw:=(wellG_iff _ _ _ _).1 hw
  split
  ·exact h
  ·rename_i hh
   exact h.add (by omega) (by omega) (by omega) (by simpa using hh)
 ·exact h
theorem stRg_ok (c : Cv) : ∀ i,Okr 32 (stRg c i)
 | 0=>Okr.nil (by omega)
 | i + 1=>give_okr (stRg_ok c i) _ _ _
structure RRI (w W : World) (b rr : Nat) (c : Cv) (i : Nat) : Prop where
 x : CX w W b c
 br : b < rr
 wb : w.heap.size ≤ b
 t : ∃ a cap,RT W rr rr a cap (ownV (stRg c i)) 32
theorem RRI.below {rr i : Nat} (h : RRI w W b rr c i) (hb : Below W.heap.size W W') : RRI w W' b rr c i:=by
 obtain ⟨a,cap,h1⟩:=h.t
 exact ⟨h.x.below hb,h.br,h.wb,a,cap,h1.below hb⟩
theorem rranges_any (c : Cv) (w : World) (h : CfgOk w c) : Calls Tryz.prog 101 #[(.agg #[.int .i64 c.cats,.slice c.g.a c.g.l.length c.g.cap,.slice c.r.a c.r.l.length c.r.cap,.slice c.p.a c.p.l.length c.p.cap,.slice c.n.a c.n.l.length c.n.cap,.slice c.s.a c.s.l.length c.s.cap,.int .i64 c.gate,.int .i64 c.quota])] w fun e w'=>e = .returned (.tuple #[.bool (rFst c).2,.int .i64 (rFst c).1]) ∧ Below w.heap.size w w':=by
 have hm:=h.r.mx
 have HW:=Lib.hid h
 obtain ⟨x,hx⟩ : ∃ x,x = rFst c:=⟨_,rfl⟩
 rw [← hx]
 have HX:=Lib.hid hx
 clear hx
 by_cases h2 : 8 < c.r.l.length
 ·have d2 : decide ((c.r.l.length : Int) > 8) = true:=by simp;omega
  have hx : x = (0,true):=by rw [HX.out,rFst,if_pos h2]
  subst hx
  clear h2
  (have h0:=CX.new h;go_enter Tryz.func101,Tryz.ntmps101;go_upto_region 1 with fail;generalize w.alloc (.cells #[.int .i64 c.cats,.slice c.g.a c.g.l.length c.g.cap,.slice c.r.a c.r.l.length c.r.cap,.slice c.p.a c.p.l.length c.p.cap,.slice c.n.a c.n.l.length c.n.cap,.slice c.s.a c.s.l.length c.s.cap,.int .i64 c.gate,.int .i64 c.quota] 29) = W1 at h0 ⊢;generalize w.heap.size = b0 at h0 ⊢;have H0:=Lib.hid h0;clear h0 h)
  (have q0:=H0.out.ob.cell 0 _ rfl;have q1:=H0.out.ob.cell 1 _ rfl;have q2:=H0.out.ob.cell 2 _ rfl;have q3:=H0.out.ob.cell 3 _ rfl;have q4:=H0.out.ob.cell 4 _ rfl;have q5:=H0.out.ob.cell 5 _ rfl;have q6:=H0.out.ob.cell 6 _ rfl;have q7:=H0.out.ob.cell 7 _ rfl)
  go_wp2_with fail
  go_ret2
  exact ⟨rfl,H0.out.bel⟩
 ·have d2 : decide ((c.r.l.length : Int) > 8) = false:=by simp;omega
  replace HX : Hid (x = fstV (rBad c) c.r.l.length):=by rw [Hid,HX.out,rFst,if_neg h2]
  clear h2
  have h0:=CX.new h
  go_enter Tryz.func101,Tryz.ntmps101
  go_upto_region 1 with fail
  have hlt:=h0.ob.lt
  generalize w.alloc (.cells #[.int .i64 c.cats,.slice c.g.a c.g.l.length c.g.cap,.slice c.r.a c.r.l.length c.r.cap,.slice c.p.a c.p.l.length c.p.cap,.slice c.n.a c.n.l.length c.n.cap,.slice c.s.a c.s.l.length c.s.cap,.int .i64 c.gate,.int .i64 c.quota] 29) = W1 at h0 hlt ⊢
  obtain ⟨b0,hb0⟩ : ∃ b,b = w.heap.size:=⟨_,rfl⟩
  rw [← hb0] at h0 hlt ⊢
  have HB0:=Lib.hid hb0
  have H0:=Lib.hid h0
  have HLT:=Lib.hid hlt
  clear h0 h hb0 hlt
  (have q0:=H0.out.ob.cell 0 _ rfl;have q1:=H0.out.ob.cell 1 _ rfl;have q2:=H0.out.ob.cell 2 _ rfl;have q3:=H0.out.ob.cell 3 _ rfl;have q4:=H0.out.ob.cell 4 _ rfl;have q5:=H0.out.ob.cell 5 _ rfl;have q6:=H0.out.ob.cell 6 _ rfl;have q7:=H0.out.ob.cell 7 _ rfl)
  go_upto_region 4 with (go_at_call 148;refine (rnew_yes 32 (by omega) _).mono ?_;rintro e W2 ⟨a0,cp0,rfl,ht,hb⟩;have T2:=Lib.hid ht;have B2:=Lib.hid hb;clear ht hb)
  have I0 : Hid (RRI w W2 b0 W1.heap.size c 0):=⟨H0.out.below B2.out,HLT.out,Nat.le_of_eq HB0.out.symm,a0,cp0,T2.out⟩
  generalize W1.heap.size = rr at I0 T2 ⊢
  clear q0 q1 q2 q3 q4 q5 q6 q7 T2 B2 H0 HLT HB0
  go_upto_region 5 with fail
  go_loopw [6] (fun z wr=>∃ k : Nat,k ≤ c.r.l.length ∧ z = .int .i64 k ∧ RRI w wr b0 rr c k ∧ ∀ j,j < k → rBad c j = false) (fun z _=>c.r.l.length - (intOf z).toNat)
  case atStart=>exact ⟨0,by omega,rfl,I0.out,fun j hj=>by omega⟩
  case round=>
   clear I0
   obtain ⟨k,hk,rfl,hik,hj⟩:=hrel
   have IK:=Lib.hid hik
   have XK:=Lib.hid hik.x
   have KP:=Lib.hid hj
   clear hik hj
   (have q0:=XK.out.ob.cell 0 _ rfl;have q1:=XK.out.ob.cell 1 _ rfl;have q2:=XK.out.ob.cell 2 _ rfl;have q3:=XK.out.ob.cell 3 _ rfl;have q4:=XK.out.ob.cell 4 _ rfl;have q5:=XK.out.ob.cell 5 _ rfl;have q6:=XK.out.ob.cell 6 _ rfl;have q7:=XK.out.ob.cell 7 _ rfl)
   by_cases hkl : k < c.r.l.length
   ·have dk : decide ((k : Int) < (c.r.l.length : Int)) = true:=by simp;omega
    have kz : (0 : Int) ≤ (k : Int):=by omega
    have kl : (k : Int) < (c.r.l.length : Int):=by omega
    have w1 : IntKind.i64.wrap ((k : Int) + 1) = (k : Int) + 1:=by rw [IntKind.wrap_i64];omega
    obtain ⟨bx,ox,hax,hcx⟩:=XK.out.ok.r.cells (by omega) k hkl
    obtain ⟨lb,fr,nn,hrow⟩:=row3 hkl XK.out.ok.r.len
    have HGB : Hid (rBad c k = (!(validB lb c.cats) || ((giveV 32 (stRg c k) fr nn k).1 != 0))):=by rw [Hid,rBad,at_eq hkl,at_eq hkl,at_eq hkl,hrow];rfl
    have HS : Hid (stRg c (k + 1) = (giveV 32 (stRg c k) fr nn k).2):=by rw [Hid,stRg,at_eq hkl,at_eq hkl,hrow];rfl
    rw [hrow] at hcx
    have c0:=hcx _ (Below.refl _ _) 0 _ rfl;have c1:=hcx _ (Below.refl _ _) 1 _ rfl;have c2:=hcx _ (Below.refl _ _) 2 _ rfl
    simp only [Nat.add_zero] at c0
    rw [hax] at q2
    clear hcx hrow hax
    go_upto_region 8 with fail
    have I1 : Hid (RRI w (wr.alloc (.cells #[.int .i64 lb,.int .i64 fr,.int .i64 nn] 132)) b0 rr c k):=IK.out.below ((Below.refl _ _).alloc (Nat.le_refl _) _)
    have R1 : Hid (ObjAt (wr.alloc (.cells #[.int .i64 lb,.int .i64 fr,.int .i64 nn] 132)) wr.heap.size 132 [.int .i64 lb,.int .i64 fr,.int .i64 nn]):=ObjAt.new wr _ _
    generalize wr.alloc (.cells #[.int .i64 lb,.int .i64 fr,.int .i64 nn] 132) = W1r at R1 I1 ⊢
    generalize wr.heap.size = rb at R1 ⊢
    clear q0 q1 q2 q3 q4 q5 q6 q7 c0 c1 c2 IK XK
    have r0:=R1.out.cell 0 _ rfl;have r1:=R1.out.cell 1 _ rfl;have r2:=R1.out.cell 2 _ rfl
    have q0:=I1.out.x.ob.cell 0 _ rfl
    obtain ⟨vb,hvb⟩ : ∃ v,v = validB lb c.cats:=⟨_,rfl⟩
    have VAL : Hid (∀ W,Calls Tryz.prog 147 #[.int .i64 lb,.int .i64 c.cats] W fun e w'=>e = .returned (.bool vb) ∧ W = w'):=fun W=>by rw [hvb];exact Valid_ref _ _ _
    rw [← hvb] at HGB
    clear hvb
    cases vb with
    | false=>
     have hx : x = ((k : Int),true):=by rw [HX.out];exact fstV_hit hkl KP.out (by rw [HGB.out];simp)
     subst hx
     go_wp2_with (go_at_call 147;refine (VAL.out _).mono ?_;rintro e Wv ⟨rfl,rfl⟩)
     go_ret2
     exact ⟨rfl,I1.out.x.bel⟩
    | true=>
     obtain ⟨a,cap,ht⟩:=I1.out.t
     obtain ⟨ge,hge⟩ : ∃ z,z = (giveV 32 (stRg c k) fr nn k).1:=⟨_,rfl⟩
     have GIV : Hid (Calls Tryz.prog 149 #[.pointer (some ⟨rr,0,none⟩),.int .i64 fr,.int .i64 nn,.int .i64 k] W1r (RPost rr rr 32 a (.int .i64 ge) (ownV (giveV 32 (stRg c k) fr nn k).2) W1r)):=by
      rw [hge];exact rgive_any _ _ _ _ _ _ _ _ _ _ (stRg_ok c k) ht (by have:=ht.obj.lt;omega)
     have HGE : Hid (rBad c k = (ge != 0)):=by rw [Hid,HGB.out,hge];simp
     have HT:=Lib.hid ht
     clear hge ht HGB
     have HBW : Hid (∀ W2,Mod (rr :: blk a) W1r W2 → Below w.heap.size w W2 ∧ b0 ∉ rr :: blk a):=fun W2 hm=>by
      have e1:=I1.out.wb;have e2:=I1.out.br
      refine ⟨below_tab hm I1.out.x.bel (by omega) (fun q hq=>by have:=(HT.out.own.ge q hq).1;omega),not_tab (by omega) (fun q hq=>by have:=(HT.out.own.ge q hq).1;omega)⟩
     by_cases h0 : ge = 0
     ·subst h0
      have KP2 : Hid (∀ j,j < k + 1 → rBad c j = false):=fun j hj=>by
       by_cases hjk : j = k
       ·rw [hjk,HGE.out];rfl
       ·exact KP.out j (by omega)
      go_wp2_with (first | (go_at_call 147;refine (VAL.out _).mono ?_;rintro e Wv ⟨rfl,rfl⟩) | (go_at_call 149;refine GIV.out.mono ?_;rintro e W2 ⟨a',cap',rfl,ht,hm,ha'⟩;have T2:=Lib.hid ht;have M2:=Lib.hid hm;clear ht hm ha'))
      have I2 : Hid (RRI w W2 b0 rr c (k + 1)):=⟨⟨I1.out.x.ob.mod M2.out (HBW.out _ M2.out).2,HW.out.below (HBW.out _ M2.out).1,(HBW.out _ M2.out).1⟩,I1.out.br,I1.out.wb,a',cap',by rw [HS.out];exact T2.out⟩
      go_roundw
      case rel=>exact ⟨k + 1,by omega,by go_num,I2.out,KP2.out⟩
      case measure=>simp [intOf];omega
     ·have hx : x = ((k : Int),true):=by rw [HX.out];exact fstV_hit hkl KP.out (by rw [HGE.out];simp [h0])
      subst hx
      have d0 : (ge != 0) = true:=by simp [h0]
      clear h0
      go_wp2_with (first | (go_at_call 147;refine (VAL.out _).mono ?_;rintro e Wv ⟨rfl,rfl⟩) | (go_at_call 149;refine GIV.out.mono ?_;rintro e W2 ⟨a',cap',rfl,ht,hm,ha'⟩;have T2:=Lib.hid ht;have M2:=Lib.hid hm;clear ht hm ha'))
      go_ret2
      exact ⟨rfl,(HBW.out _ M2.out).1⟩
   ·have dk : decide ((k : Int) < (c.r.l.length : Int)) = false:=by simp;omega
    have hx : x = (0,false):=by rw [HX.out];exact fstV_none (fun j hj=>KP.out j (by omega))
    subst hx
    go_wp2_with fail
    go_ret2
    exact ⟨rfl,XK.out.bel⟩
end Go.Proofs.YtoklonmiejdgmaaGreatDoor
/- Chapter 4, the reference: ports. -/
namespace Go.Proofs.YtoklonmiejdgmaaGreatDoor
set_option linter.unusedVariables false
set_option linter.unusedSimpArgs false
set_option linter.unnecessarySimpa false
open Go.RowKit Go.Sort
set_option maxHeartbeats 4000000
set_option maxRecDepth 100000
set_option linter.unusedVariables false
variable {W W' w : World} {c : Cv} {b N : Nat} {s : Sl}
set_option maxHeartbeats 8000000 in
theorem rports_any (c : Cv) (w : World) (h : CfgOk w c) : Calls Tryz.prog 102 #[(.agg #[.int .i64 c.cats,.slice c.g.a c.g.l.length c.g.cap,.slice c.r.a c.r.l.length c.r.cap,.slice c.p.a c.p.l.length c.p.cap,.slice c.n.a c.n.l.length c.n.cap,.slice c.s.a c.s.l.length c.s.cap,.int .i64 c.gate,.int .i64 c.quota])] w fun e w'=>e = .returned (.tuple #[.bool (pFst c).2,.int .i64 (pFst c).1]) ∧ Below w.heap.size w w':=by
 have hm:=h.p.mx
 obtain ⟨x,hx⟩ : ∃ x,x = pFst c:=⟨_,rfl⟩
 rw [← hx]
 have HX:=Lib.hid hx
 clear hx
 by_cases h2 : 8 < c.p.l.length
 ·have d2 : decide ((c.p.l.length : Int) > 8) = true:=by simp;omega
  have hx : x = (0,true):=by rw [HX.out,pFst,if_pos h2]
  subst hx
  clear h2
  (have h0:=CX.new h;go_enter Tryz.func102,Tryz.ntmps102;go_upto_region 1 with fail;generalize w.alloc (.cells #[.int .i64 c.cats,.slice c.g.a c.g.l.length c.g.cap,.slice c.r.a c.r.l.length c.r.cap,.slice c.p.a c.p.l.length c.p.cap,.slice c.n.a c.n.l.length c.n.cap,.slice c.s.a c.s.l.length c.s.cap,.int .i64 c.gate,.int .i64 c.quota] 29) = W1 at h0 ⊢;generalize w.heap.size = b0 at h0 ⊢;have H0:=Lib.hid h0;clear h0 h)
  (have q0:=H0.out.ob.cell 0 _ rfl;have q1:=H0.out.ob.cell 1 _ rfl;have q2:=H0.out.ob.cell 2 _ rfl;have q3:=H0.out.ob.cell 3 _ rfl;have q4:=H0.out.ob.cell 4 _ rfl;have q5:=H0.out.ob.cell 5 _ rfl;have q6:=H0.out.ob.cell 6 _ rfl;have q7:=H0.out.ob.cell 7 _ rfl)
  go_wp2_with fail
  go_ret2
  exact ⟨rfl,H0.out.bel⟩
 ·have d2 : decide ((c.p.l.length : Int) > 8) = false:=by simp;omega
  replace HX : Hid (x = fstV (pBad c) c.p.l.length):=by rw [Hid,HX.out,pFst,if_neg h2]
  clear h2
  (have h0:=CX.new h;go_enter Tryz.func102,Tryz.ntmps102;go_upto_region 1 with fail;generalize w.alloc (.cells #[.int .i64 c.cats,.slice c.g.a c.g.l.length c.g.cap,.slice c.r.a c.r.l.length c.r.cap,.slice c.p.a c.p.l.length c.p.cap,.slice c.n.a c.n.l.length c.n.cap,.slice c.s.a c.s.l.length c.s.cap,.int .i64 c.gate,.int .i64 c.quota] 29) = W1 at h0 ⊢;generalize w.heap.size = b0 at h0 ⊢;have H0:=Lib.hid h0;clear h0 h)
  (have q0:=H0.out.ob.cell 0 _ rfl;have q1:=H0.out.ob.cell 1 _ rfl;have q2:=H0.out.ob.cell 2 _ rfl;have q3:=H0.out.ob.cell 3 _ rfl;have q4:=H0.out.ob.cell 4 _ rfl;have q5:=H0.out.ob.cell 5 _ rfl;have q6:=H0.out.ob.cell 6 _ rfl;have q7:=H0.out.ob.cell 7 _ rfl)
  go_upto_region 4 with fail
  clear q0 q1 q2 q3 q4 q5 q6 q7
  go_loopw [4] (fun z wr=>∃ k : Nat,k ≤ c.p.l.length ∧ z = .int .i64 k ∧ CX w wr b0 c ∧ ∀ j,j < k → pBad c j = false) (fun z _=>c.p.l.length - (intOf z).toNat)
  case atStart=>exact ⟨0,by omega,rfl,H0.out,fun j hj=>by omega⟩
  case round=>
   clear H0
   (obtain ⟨k,hk,rfl,hxk,hj⟩:=hrel;have XK:=Lib.hid hxk;have KP:=Lib.hid hj;clear hxk hj;(have q0:=XK.out.ob.cell 0 _ rfl;have q1:=XK.out.ob.cell 1 _ rfl;have q2:=XK.out.ob.cell 2 _ rfl;have q3:=XK.out.ob.cell 3 _ rfl;have q4:=XK.out.ob.cell 4 _ rfl;have q5:=XK.out.ob.cell 5 _ rfl;have q6:=XK.out.ob.cell 6 _ rfl;have q7:=XK.out.ob.cell 7 _ rfl))
   by_cases hkl : k < c.p.l.length
   ·have dk : decide ((k : Int) < (c.p.l.length : Int)) = true:=by simp;omega
    have kz : (0 : Int) ≤ (k : Int):=by omega
    have kl : (k : Int) < (c.p.l.length : Int):=by omega
    have w1 : IntKind.i64.wrap ((k : Int) + 1) = (k : Int) + 1:=by rw [IntKind.wrap_i64];omega
    obtain ⟨bx,ox,hax,hcx⟩:=XK.out.ok.p.cells (by omega) k hkl
    obtain ⟨lb,gu,hrow⟩:=row2 hkl XK.out.ok.p.len
    have HGB : Hid (pBad c k = (!(validB lb c.cats) || (!(gu == -1) && (!(isG c gu) || (!(lb == labG c gu) || takenB c gu k))))):=by rw [Hid,pBad,at_eq hkl,at_eq hkl,hrow];rfl
    rw [hrow] at hcx
    have c0:=hcx _ (Below.refl _ _) 0 _ rfl;have c1:=hcx _ (Below.refl _ _) 1 _ rfl
    simp only [Nat.add_zero] at c0
    rw [hax] at q3
    have HAX:=Lib.hid hax
    clear hcx hrow hax
    go_upto_region 7 with fail
    (have R1 : Hid (ObjAt (wr.alloc (.cells ([.int .i64 lb,.int .i64 gu] : List Value).toArray 134)) wr.heap.size 134 [.int .i64 lb,.int .i64 gu]):=ObjAt.new wr _ _;have X1 : Hid (CX w (wr.alloc (.cells ([.int .i64 lb,.int .i64 gu] : List Value).toArray 134)) b0 c):=XK.out.below ((Below.refl _ _).alloc (Nat.le_refl _) _);generalize wr.alloc (.cells ([.int .i64 lb,.int .i64 gu] : List Value).toArray 134) = W1r at R1 X1 ⊢;generalize wr.heap.size = rr at R1 ⊢)
    clear q0 q1 q2 q3 q4 q5 q6 q7 c0 c1
    have r0:=R1.out.cell 0 _ rfl;have r1:=R1.out.cell 1 _ rfl
    (have q0:=X1.out.ob.cell 0 _ rfl;have q1:=X1.out.ob.cell 1 _ rfl;have q2:=X1.out.ob.cell 2 _ rfl;have q3:=X1.out.ob.cell 3 _ rfl;have q4:=X1.out.ob.cell 4 _ rfl;have q5:=X1.out.ob.cell 5 _ rfl;have q6:=X1.out.ob.cell 6 _ rfl;have q7:=X1.out.ob.cell 7 _ rfl)
    obtain ⟨vb,hvb⟩ : ∃ v,v = validB lb c.cats:=⟨_,rfl⟩
    have VAL : Hid (∀ W,Calls Tryz.prog 147 #[.int .i64 lb,.int .i64 c.cats] W fun e w'=>e = .returned (.bool vb) ∧ W = w'):=fun W=>by rw [hvb];exact Valid_ref _ _ _
    obtain ⟨vg,hvg⟩ : ∃ v,v = isG c gu:=⟨_,rfl⟩
    have GUE : Hid (∀ W,CfgOk W c → Calls Tryz.prog 105 #[(.agg #[.int .i64 c.cats,.slice c.g.a c.g.l.length c.g.cap,.slice c.r.a c.r.l.length c.r.cap,.slice c.p.a c.p.l.length c.p.cap,.slice c.n.a c.n.l.length c.n.cap,.slice c.s.a c.s.l.length c.s.cap,.int .i64 c.gate,.int .i64 c.quota]),.int .i64 gu] W fun e w'=>e = .returned (.bool vg) ∧ Below W.heap.size W w'):=fun W h=>by rw [hvg];exact isGuest_any _ _ _ h
    rw [← hvb] at HGB
    clear hvb
    cases vb with
    | false=>
     (have hx : x = ((k : Int),true):=(by rw [HX.out];exact fstV_hit hkl KP.out (by rw [HGB.out];simp));subst hx)
     clear HGB hvg
     go_wp2_with (first | (go_at_call 147;refine (VAL.out _).mono ?_;rintro e Wv ⟨rfl,rfl⟩) | (go_at_call 105;refine (GUE.out _ X1.out.ok).mono ?_;rintro e Wg ⟨rfl,hb⟩;replace X1:=Lib.hid (X1.out.below hb);replace R1:=Lib.hid (R1.out.below hb);clear hb;(replace q0:=X1.out.ob.cell 0 _ rfl;replace q1:=X1.out.ob.cell 1 _ rfl;replace q2:=X1.out.ob.cell 2 _ rfl;replace q3:=X1.out.ob.cell 3 _ rfl;replace q4:=X1.out.ob.cell 4 _ rfl;replace q5:=X1.out.ob.cell 5 _ rfl;replace q6:=X1.out.ob.cell 6 _ rfl;replace q7:=X1.out.ob.cell 7 _ rfl);replace r0:=R1.out.cell 0 _ rfl;replace r1:=R1.out.cell 1 _ rfl))
     go_ret2
     exact ⟨rfl,X1.out.bel⟩
    | true=>
     by_cases hg1 : gu = -1
     ·have dg : (gu != -1) = false:=by simp [hg1]
      have dz : decide (gu ≥ 0) = false:=by simp [hg1]
      have KP2 : Hid (∀ j,j < k + 1 → pBad c j = false):=fun j hj=>by
       by_cases hjk : j = k
       ·rw [hjk,HGB.out,hg1];rfl
       ·exact KP.out j (by omega)
      clear hg1 hvg HGB
      go_upto_region 9 with (first | (go_at_call 147;refine (VAL.out _).mono ?_;rintro e Wv ⟨rfl,rfl⟩) | (go_at_call 105;refine (GUE.out _ X1.out.ok).mono ?_;rintro e Wg ⟨rfl,hb⟩;replace X1:=Lib.hid (X1.out.below hb);replace R1:=Lib.hid (R1.out.below hb);clear hb;(replace q0:=X1.out.ob.cell 0 _ rfl;replace q1:=X1.out.ob.cell 1 _ rfl;replace q2:=X1.out.ob.cell 2 _ rfl;replace q3:=X1.out.ob.cell 3 _ rfl;replace q4:=X1.out.ob.cell 4 _ rfl;replace q5:=X1.out.ob.cell 5 _ rfl;replace q6:=X1.out.ob.cell 6 _ rfl;replace q7:=X1.out.ob.cell 7 _ rfl);replace r0:=R1.out.cell 0 _ rfl;replace r1:=R1.out.cell 1 _ rfl))
      go_quiet (fail)
      have X2 : Hid (CX w (W1r.drewN nq) b0 c):=X1.out.below (below_drewN (Below.refl _ _) _)
      have R2 : Hid (ObjAt (W1r.drewN nq) rr 134 [.int .i64 lb,.int .i64 gu]):=R1.out.below (below_drewN (Below.refl _ _) _)
      generalize W1r.drewN nq = W2 at X2 R2 ⊢
      clear q0 q1 q2 q3 q4 q5 q6 q7 r0 r1
      go_upto_region 12 with fail
      go_loopw [6] (fun z wr=>∃ j : Nat,j ≤ k ∧ z = .int .i64 j ∧ CX w wr b0 c ∧ ObjAt wr rr 134 [.int .i64 lb,.int .i64 gu]) (fun z _=>k - (intOf z).toNat)
      case atStart=>exact ⟨0,by omega,rfl,X2.out,R2.out⟩
      case round=>
       clear X1 R1 X2 R2
       obtain ⟨j,hj,rfl,hx1,hr1⟩:=hrel
       have X1:=Lib.hid hx1
       have R1:=Lib.hid hr1
       clear hx1 hr1
       have r0:=R1.out.cell 0 _ rfl;have r1:=R1.out.cell 1 _ rfl
       by_cases hjk : j < k
       ·have dj : decide ((j : Int) < (k : Int)) = true:=by simp;omega
        have w2 : IntKind.i64.wrap ((j : Int) + 1) = (j : Int) + 1:=by rw [IntKind.wrap_i64];omega
        go_upto_region 14 with fail
        go_quiet (fail)
        go_wp2_with fail
        go_roundw
        case rel=>exact ⟨j + 1,by omega,by go_num,X1.out.below (below_drewN (Below.refl _ _) _),R1.out.below (below_drewN (Below.refl _ _) _)⟩
        case measure=>simp [intOf];omega
       ·have dj : decide ((j : Int) < (k : Int)) = false:=by simp;omega
        go_wp2_with fail
        go_roundw
        case rel=>exact ⟨k + 1,by omega,by go_num,X1.out,KP2.out⟩
        case measure=>simp [intOf];omega
     ·have dg : (gu != -1) = true:=by simp [hg1]
      cases vg with
      | false=>
       (have hx : x = ((k : Int),true):=(by rw [HX.out];exact fstV_hit hkl KP.out (by rw [HGB.out,← hvg];simp [hg1]));subst hx)
       clear HGB hvg hg1
       go_wp2_with (first | (go_at_call 147;refine (VAL.out _).mono ?_;rintro e Wv ⟨rfl,rfl⟩) | (go_at_call 105;refine (GUE.out _ X1.out.ok).mono ?_;rintro e Wg ⟨rfl,hb⟩;replace X1:=Lib.hid (X1.out.below hb);replace R1:=Lib.hid (R1.out.below hb);clear hb;(replace q0:=X1.out.ob.cell 0 _ rfl;replace q1:=X1.out.ob.cell 1 _ rfl;replace q2:=X1.out.ob.cell 2 _ rfl;replace q3:=X1.out.ob.cell 3 _ rfl;replace q4:=X1.out.ob.cell 4 _ rfl;replace q5:=X1.out.ob.cell 5 _ rfl;replace q6:=X1.out.ob.cell 6 _ rfl;replace q7:=X1.out.ob.cell 7 _ rfl);replace r0:=R1.out.cell 0 _ rfl;replace r1:=R1.out.cell 1 _ rfl))
       go_ret2
       exact ⟨rfl,X1.out.bel⟩
      | true=>
       have hpb : pBad c k = (!(lb == labG c gu) || takenB c gu k):=by rw [HGB.out,← hvg];simp [hg1]
       have ga:=(isG_iff c gu).1 hvg.symm
       obtain ⟨f',rfl⟩ : ∃ f' : Nat,gu = f':=⟨gu.toNat,by omega⟩
       have hfl : f' < c.g.l.length:=by omega
       have dz : decide ((f' : Int) ≥ 0) = true:=by simp
       clear hg1 HGB hvg
       go_upto_region 9 with (first | (go_at_call 147;refine (VAL.out _).mono ?_;rintro e Wv ⟨rfl,rfl⟩) | (go_at_call 105;refine (GUE.out _ X1.out.ok).mono ?_;rintro e Wg ⟨rfl,hb⟩;replace X1:=Lib.hid (X1.out.below hb);replace R1:=Lib.hid (R1.out.below hb);clear hb;(replace q0:=X1.out.ob.cell 0 _ rfl;replace q1:=X1.out.ob.cell 1 _ rfl;replace q2:=X1.out.ob.cell 2 _ rfl;replace q3:=X1.out.ob.cell 3 _ rfl;replace q4:=X1.out.ob.cell 4 _ rfl;replace q5:=X1.out.ob.cell 5 _ rfl;replace q6:=X1.out.ob.cell 6 _ rfl;replace q7:=X1.out.ob.cell 7 _ rfl);replace r0:=R1.out.cell 0 _ rfl;replace r1:=R1.out.cell 1 _ rfl))
       obtain ⟨gx,go,hga,hgc⟩:=X1.out.ok.g.cells (by omega) f' hfl
       obtain ⟨la,y1,z1,hr1⟩:=row3 hfl X1.out.ok.g.len
       have l1 : labG c f' = la:=by rw [labG,Int.toNat_natCast,at_eq hfl,hr1];rfl
       rw [l1] at hpb
       rw [hr1] at hgc
       have g0:=hgc _ (Below.refl _ _) 0 _ rfl
       simp only [Nat.add_zero] at g0
       rw [hga] at q1
       have k1 : (f' : Int) < (c.g.l.length : Int):=by omega
       have k3 : (0 : Int) ≤ (f' : Int):=by omega
       clear ga hga hgc hr1 l1 hfl
       cases hq : (lb == la) with
       | false=>
        have dn : (lb != la) = true:=by rw [bne,hq];rfl
        (have hx : x = ((k : Int),true):=(by rw [HX.out];exact fstV_hit hkl KP.out (by rw [hpb,hq];rfl));subst hx)
        clear hq hpb
        go_quiet (fail)
        go_wp2_with fail
        go_ret2
        exact ⟨rfl,below_drewN X1.out.bel _⟩
       | true=>
        have dn : (lb != la) = false:=by rw [bne,hq];rfl
        have HPB : Hid (pBad c k = takenB c f' k):=by rw [Hid,hpb,hq];rfl
        clear hpb hq
        go_quiet (fail)
        have X2 : Hid (CX w (Wg.drewN nq) b0 c):=X1.out.below (below_drewN (Below.refl _ _) _)
        have R2 : Hid (ObjAt (Wg.drewN nq) rr 134 [.int .i64 lb,.int .i64 f']):=R1.out.below (below_drewN (Below.refl _ _) _)
        generalize Wg.drewN nq = W2 at X2 R2 ⊢
        clear q0 q1 q2 q3 q4 q5 q6 q7 r0 r1 g0
        go_upto_region 12 with fail
        go_loopw [6] (fun z wr=>∃ j : Nat,j ≤ k ∧ z = .int .i64 j ∧ CX w wr b0 c ∧ ObjAt wr rr 134 [.int .i64 lb,.int .i64 f'] ∧ ∀ i,i < j → at_ c.p.l i 1 ≠ f') (fun z _=>k - (intOf z).toNat)
        case atStart=>exact ⟨0,by omega,rfl,X2.out,R2.out,fun i hi=>by omega⟩
        case round=>
         clear X1 R1 X2 R2
         obtain ⟨j,hj,rfl,hx1,hr1,hnt⟩:=hrel
         have X1:=Lib.hid hx1
         have R1:=Lib.hid hr1
         have NT:=Lib.hid hnt
         clear hx1 hr1 hnt
         have r0:=R1.out.cell 0 _ rfl;have r1:=R1.out.cell 1 _ rfl
         by_cases hjk : j < k
         ·have dj : decide ((j : Int) < (k : Int)) = true:=by simp;omega
          have jz : (0 : Int) ≤ (j : Int):=by omega
          have jl : (j : Int) < (c.p.l.length : Int):=by omega
          have w2 : IntKind.i64.wrap ((j : Int) + 1) = (j : Int) + 1:=by rw [IntKind.wrap_i64];omega
          have hjp : j < c.p.l.length:=by omega
          obtain ⟨bx2,ox2,hax,hcx⟩:=X1.out.ok.p.cells (by omega) j hjp
          rw [HAX.out] at hax
          obtain ⟨rfl,rfl⟩ : bx = bx2 ∧ ox = ox2:=by simpa using hax
          obtain ⟨y,z,hrow⟩:=row2 hjp X1.out.ok.p.len
          have hat : at_ c.p.l j 1 = z:=by rw [at_eq hjp,hrow];rfl
          have HAT:=Lib.hid hat
          rw [hrow] at hcx
          have c1:=hcx _ (Below.refl _ _) 1 _ rfl
          have q3:=X1.out.ob.cell 3 _ rfl
          rw [HAX.out] at q3
          clear hcx hrow hat hax
          by_cases hz : z = f'
          ·have de : (z == (f' : Int)) = true:=by simp [hz]
           (have hx : x = ((k : Int),true):=(by rw [HX.out];exact fstV_hit hkl KP.out (by rw [HPB.out];exact taken_hit hjk (by rw [HAT.out,hz])));subst hx)
           clear hz
           go_upto_region 14 with fail
           go_quiet (fail)
           go_wp2_with fail
           go_ret2
           exact ⟨rfl,below_drewN X1.out.bel _⟩
          ·have de : (z == (f' : Int)) = false:=by simp [hz]
           have NT2 : Hid (∀ i,i < j + 1 → at_ c.p.l i 1 ≠ f'):=fun i hi=>by
            by_cases hij : i = j
            ·rw [hij,HAT.out];exact hz
            ·exact NT.out i (by omega)
           clear hz
           go_upto_region 14 with fail
           go_quiet (fail)
           go_wp2_with fail
           go_roundw
           case rel=>exact ⟨j + 1,by omega,by go_num,X1.out.below (below_drewN (Below.refl _ _) _),R1.out.below (below_drewN (Below.refl _ _) _),NT2.out⟩
           case measure=>simp [intOf];omega
         ·have dj : decide ((j : Int) < (k : Int)) = false:=by simp;omega
          have KP2 : Hid (∀ i,i < k + 1 → pBad c i = false):=fun i hi=>by
           by_cases hik : i = k
           ·rw [hik,HPB.out];exact taken_none (fun q hq=>NT.out q (by omega))
           ·exact KP.out i (by omega)
          go_wp2_with fail
          go_roundw
          case rel=>exact ⟨k + 1,by omega,by go_num,X1.out,KP2.out⟩
          case measure=>simp [intOf];omega
   ·have dk : decide ((k : Int) < (c.p.l.length : Int)) = false:=by simp;omega
    have hx : x = (0,false):=by rw [HX.out];exact fstV_none (fun j hj=>KP.out j (by omega))
    subst hx
    go_wp2_with fail
    go_ret2
    exact ⟨rfl,XK.out.bel⟩
end Go.Proofs.YtoklonmiejdgmaaGreatDoor
