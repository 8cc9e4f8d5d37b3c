/- The reference for asm: one word. -/
import Derived.Test.YtoklonmiejdgmaaGreatDoorGScriptReads8
import Derived.Test.YtoklonmiejdgmaaGreatDoorGScriptReads6
namespace Go.Proofs.YtoklonmiejdgmaaGreatDoor.As
set_option linter.unusedVariables false
set_option linter.unusedSimpArgs false
set_option linter.unnecessarySimpa false
open Go.RowKit Go.Sort
set_option maxHeartbeats 2000000
set_option maxRecDepth 100000
set_option linter.unusedVariables false
theorem pre_head (c : UInt8) (s : ByteArray) (h : 0 < s.size) : cutB c s.data.toList = decide (s[0].toNat = c.toNat):=by
 unfold cutB Lib.hasPrefix
 have e:=head_get s h
 cases hl : s.data.toList with
 | nil=>rw [hl] at e;cases e
 | cons x r=>
  rw [hl] at e
  injection e with e
  rw [← e]
  simp only [List.isPrefixOf,Bool.and_true]
  rw [Bool.eq_iff_iff]
  simp only [beq_iff_eq,decide_eq_true_eq]
  exact ⟨fun h=>by rw [h],fun h=>(UInt8.toNat_inj.1 h).symm⟩
theorem pre_nil (c : UInt8) (s : ByteArray) (h : s.size = 0) : cutB c s.data.toList = false:=by
 rw [show s.data.toList = [] from List.eq_nil_of_length_eq_zero (by rw [ba_len];exact h)];rfl
theorem cut_yes {c : UInt8} {l : List UInt8} (h : cutB c l = true) : cutL c l = l.drop 1:=by
 unfold cutL Lib.trimPrefix
 unfold cutB at h
 rw [if_pos h];rfl
theorem cut_no {c : UInt8} {l : List UInt8} (h : cutB c l = false) : cutL c l = l:=by
 unfold cutL Lib.trimPrefix
 unfold cutB at h
 rw [if_neg (by rw [h];simp)]
def rgN (s : List UInt8) : Int:=if regOk s then regN s else 0
theorem tail_number (s : ByteArray) (hs : s.size ≤ maxLen) (w : World) : Calls Tryz.prog 108 #[.string (s.extract 1 s.size)] w fun e w'=>e = .returned (.tuple #[.int .i64 (numI (s.data.toList.drop 1)),.bool (numB (s.data.toList.drop 1))]) ∧ w = w':=by
 have:=rnumber_any (s.extract 1 s.size) (by rw [ByteArray.size_extract];omega) w
 rw [Lib.extract_to_end] at this
 exact this
theorem rreg_any (s : ByteArray) (hs : s.size ≤ maxLen) (w : World) : Calls Tryz.prog 195 #[.string s] w fun e w'=>e = .returned (.tuple #[.int .i64 (rgN s.data.toList),.bool (regOk s.data.toList)]) ∧ w = w':=by
 have HT:=fun W=>Lib.hid (tail_number s hs W)
 unfold maxLen at hs
 by_cases h2 : s.size < 2
 ·have d1 : decide ((s.size : Int) < 2) = true:=decide_eq_true (by omega)
  have d1' : decide (s.size < 2) = true:=decide_eq_true h2
  have hno : regOk s.data.toList = false:=by
   unfold regOk
   cases hc : cutB 114 s.data.toList
   ·rfl
   ·rw [cut_yes hc]
    have : (s.data.toList.drop 1) = []:=List.drop_eq_nil_of_le (by rw [ba_len];omega)
    rw [this];rfl
  have HR : Hid (rgN s.data.toList = 0):=by rw [Hid,rgN,if_neg (by rw [hno];simp)]
  have HNO:=Lib.hid hno
  clear hno h2 HT
  go_enter Tryz.func195,Tryz.ntmps195
  go_wp2
  go_ret2
  exact ⟨by rw [HR.out,HNO.out];rfl,rfl⟩
 ·have d1 : decide ((s.size : Int) < 2) = false:=decide_eq_false (by omega)
  have d1' : decide (s.size < 2) = false:=decide_eq_false h2
  have hp:=pre_head 114 s (by omega)
  by_cases h3 : s[0].toNat = 114
  ·have dn : ((s[0].toNat : Int) != 114) = false:=by simp [h3]
   have hc : cutB 114 s.data.toList = true:=by rw [hp];exact decide_eq_true h3
   have HOK : Hid (regOk s.data.toList = numB (s.data.toList.drop 1)):=by rw [Hid,regOk,hc,cut_yes hc];rfl
   have HV : Hid (rgN s.data.toList = numI (s.data.toList.drop 1)):=by
    rw [Hid,rgN,HOK.out,regN,cut_yes hc]
    cases hb : numB (s.data.toList.drop 1)
    ·rw [if_neg (by simp),numI_bad hb];rfl
    ·rw [if_pos rfl]
   clear h3 hp hc
   go_enter Tryz.func195,Tryz.ntmps195
   go_wp2_with (go_at_call 108;refine ((HT _).out).mono ?_;rintro e w1 ⟨rfl,rfl⟩)
   go_ret2
   exact ⟨by rw [HV.out,HOK.out,List.drop_one];rfl,rfl⟩
  ·have dn : ((s[0].toNat : Int) != 114) = true:=by simp;omega
   have hc : cutB 114 s.data.toList = false:=by rw [hp];exact decide_eq_false h3
   have hno : regOk s.data.toList = false:=by rw [regOk,hc];rfl
   have HR : Hid (rgN s.data.toList = 0):=by rw [Hid,rgN,if_neg (by rw [hno];simp)]
   have HNO:=Lib.hid hno
   clear hno h3 hp hc HT
   go_enter Tryz.func195,Tryz.ntmps195
   go_wp2
   go_ret2
   exact ⟨by rw [HR.out,HNO.out];rfl,rfl⟩
theorem rimm_any (s : ByteArray) (hs : s.size ≤ maxLen) (w : World) : Calls Tryz.prog 196 #[.string s] w fun e w'=>e = .returned (.tuple #[.int .i64 (numN s.data.toList),.bool (numOk s.data.toList)]) ∧ w = w':=by
 have HT:=fun W=>Lib.hid (tail_number s hs W)
 have HN:=fun W=>Lib.hid (rnumber_any s hs W)
 unfold maxLen at hs
 by_cases h0 : s.size = 0
 ·have d1 : decide ((s.size : Int) > 0) = false:=decide_eq_false (by omega)
  have d1' : decide (0 < s.size) = false:=decide_eq_false (by omega)
  have hc:=pre_nil 45 s h0
  have HV : Hid (numN s.data.toList = numI s.data.toList):=by rw [Hid,numN,hc,cut_no hc];rfl
  have HO : Hid (numOk s.data.toList = numB s.data.toList):=by rw [Hid,numOk,hc,cut_no hc];simp
  clear h0 hc HT
  go_enter Tryz.func196,Tryz.ntmps196
  go_wp2_with (go_at_call 108;refine ((HN _).out).mono ?_;rintro e w1 ⟨rfl,rfl⟩)
  go_ret2
  exact ⟨by rw [HV.out,HO.out];rfl,rfl⟩
 ·have d1 : decide ((s.size : Int) > 0) = true:=decide_eq_true (by omega)
  have d1' : decide (0 < s.size) = true:=decide_eq_true (by omega)
  have hp:=pre_head 45 s (by omega)
  have hsz : 0 < s.size:=by omega
  by_cases h3 : s[0].toNat = 45
  ·have dn : ((s[0].toNat : Int) == 45) = true:=by simp [h3]
   have hc : cutB 45 s.data.toList = true:=by rw [hp];exact decide_eq_true h3
   have hlt:=numI_lt (s.data.toList.drop 1)
   obtain ⟨v,hv⟩ : ∃ v,v = numI (s.data.toList.drop 1):=⟨_,rfl⟩
   obtain ⟨b,hb⟩ : ∃ b,b = numB (s.data.toList.drop 1):=⟨_,rfl⟩
   have HOK : Hid (numOk s.data.toList = (b && !(v == 0))):=by rw [Hid,numOk,hc,cut_yes hc,hv,hb];rfl
   have HV : Hid (numN s.data.toList = -(v : Int)):=by rw [Hid,numN,hc,cut_yes hc,hv];rfl
   rw [← hv] at HT hlt
   rw [← hb] at HT
   have w1 : IntKind.i64.wrap (-(v : Int)) = -(v : Int):=by rw [IntKind.wrap_i64];omega
   have hgt : decide ((v : Int) > 0) = !(v == 0):=by rw [Bool.eq_iff_iff];simp;omega
   have HGT:=Lib.hid hgt
   clear h0 h3 hp hc hv hb hgt HN
   rcases (by omega : v = 0 ∨ v ≠ 0) with hz | hz
   ·subst hz
    cases b
    all_goals
     go_enter Tryz.func196,Tryz.ntmps196
     go_wp2_with (go_at_call 108;refine ((HT _).out).mono ?_;rintro e w1 ⟨rfl,rfl⟩)
     go_ret2
     exact ⟨by rw [HV.out,HOK.out];rfl,rfl⟩
   ·have g1 : decide ((v : Int) > 0) = true:=decide_eq_true (by omega)
    have g2 : decide (0 < v) = true:=decide_eq_true (by omega)
    have HE : Hid ((v == 0) = false):=by rw [Hid,beq_eq_false_iff_ne];exact hz
    cases b
    all_goals
     go_enter Tryz.func196,Tryz.ntmps196
     go_wp2_with (go_at_call 108;refine ((HT _).out).mono ?_;rintro e w1 ⟨rfl,rfl⟩)
     go_ret2
     exact ⟨by rw [HV.out,HOK.out,HE.out];rfl,rfl⟩
  ·have dn : ((s[0].toNat : Int) == 45) = false:=by rw [beq_eq_false_iff_ne];omega
   have hc : cutB 45 s.data.toList = false:=by rw [hp];exact decide_eq_false h3
   have HV : Hid (numN s.data.toList = numI s.data.toList):=by rw [Hid,numN,hc,cut_no hc];rfl
   have HO : Hid (numOk s.data.toList = numB s.data.toList):=by rw [Hid,numOk,hc,cut_no hc];simp
   clear h0 h3 hp hc HT
   go_enter Tryz.func196,Tryz.ntmps196
   go_wp2_with (go_at_call 108;refine ((HN _).out).mono ?_;rintro e w1 ⟨rfl,rfl⟩)
   go_ret2
   exact ⟨by rw [HV.out,HO.out];rfl,rfl⟩
def paN (is : Bool) (s : List UInt8) : Int:=if is then rgN s else numN s
def paB (is : Bool) (s : List UInt8) : Bool:=if is then regOk s else numOk s
theorem part_any (s : List UInt8) (hs : s.length ≤ 100000000) (is : Bool) (w : World) : Calls Tryz.prog 174 #[.string (ba s),.bool is] w fun e w'=>e = .returned (.tuple #[.int .i64 (paN is s),.bool (paB is s)]) ∧ w = w':=by
 have h1 : (ba s).size ≤ maxLen:=by rw [ba_size];unfold maxLen;omega
 have HR:=fun W=>Lib.hid (rreg_any (ba s) h1 W)
 have HI:=fun W=>Lib.hid (rimm_any (ba s) h1 W)
 rw [ba_data] at HR HI
 clear h1
 cases is
 ·go_enter Tryz.func174,Tryz.ntmps174
  go_wp2_with (go_at_call 196;refine ((HI _).out).mono ?_;rintro e w1 ⟨rfl,rfl⟩)
  go_ret2
  exact ⟨rfl,rfl⟩
 ·go_enter Tryz.func174,Tryz.ntmps174
  go_wp2_with (go_at_call 195;refine ((HR _).out).mono ?_;rintro e w1 ⟨rfl,rfl⟩)
  go_ret2
  exact ⟨rfl,rfl⟩
theorem pa_ok (p : Nat) (s : List UInt8) : paB (decide (p < 3)) s = okP p s ∧ (okP p s = true → paN (decide (p < 3)) s = vaP p s):=by
 unfold paB okP paN vaP
 by_cases h : p < 3
 ·simp only [h,decide_true,if_true]
  exact ⟨trivial,fun h2=>by rw [rgN,if_pos h2]⟩
 ·simp only [h,decide_false]
  exact ⟨by simp,fun h2=>by simp⟩
end Go.Proofs.YtoklonmiejdgmaaGreatDoor.As
/- The reference for asm: a text as an instruction. -/
namespace Go.Proofs.YtoklonmiejdgmaaGreatDoor.As
set_option linter.unusedVariables false
set_option linter.unusedSimpArgs false
set_option linter.unnecessarySimpa false
open Go.RowKit Go.Sort
set_option maxHeartbeats 4000000
set_option maxRecDepth 100000
set_option linter.unusedVariables false
theorem rnames_all (w : World) : Calls Tryz.prog 117 #[] w fun e w'=>e = .returned (.slice (some ⟨w.heap.size,0,none⟩) 42 42) ∧ (∀ o,o < 42 → w'.cell? ⟨w.heap.size,o,none⟩ = some (.string (ba (opName o)))) ∧ Below w.heap.size w w':=by
 refine (rnames_any w).mono ?_
 rintro e w' ⟨rfl,rfl⟩
 exact ⟨rfl,fun o ho=>names_at w _ (Below.refl _ _) o ho,(Below.refl _ _).alloc (Nat.le_refl _) _⟩
/-- What the loop over the four places has found. -/
structure IV (P : List Nat) (l : Words) (k at_ : Nat) (c0 c1 c2 c3 : Int) : Prop where
 tk : takeP P l = takeP (P.filter (fun p=>decide (k ≤ p))) (l.drop (at_ - 1))
 v0 : valP 0 P l = if 0 < k then c0 else valP 0 (P.filter (fun p=>decide (k ≤ p))) (l.drop (at_ - 1))
 v1 : valP 1 P l = if 1 < k then c1 else valP 1 (P.filter (fun p=>decide (k ≤ p))) (l.drop (at_ - 1))
 v2 : valP 2 P l = if 2 < k then c2 else valP 2 (P.filter (fun p=>decide (k ≤ p))) (l.drop (at_ - 1))
 v3 : valP 3 P l = if 3 < k then c3 else valP 3 (P.filter (fun p=>decide (k ≤ p))) (l.drop (at_ - 1))
 z0 : k ≤ 0 → c0 = 0
 z1 : k ≤ 1 → c1 = 0
 z2 : k ≤ 2 → c2 = 0
 z3 : k ≤ 3 → c3 = 0
 pos : 1 ≤ at_
 le : at_ ≤ l.length + 1
theorem iv_start (kk : Nat) (hk : kk ≤ 5) (l : Words) : IV (wantK kk) l 0 1 0 0 0 0:=by
 have e : (wantK kk).filter (fun p=>decide (0 ≤ p)) = wantK kk:=by simp
 refine ⟨by rw [e];rfl,by rw [e];rfl,by rw [e];rfl,by rw [e];rfl,by rw [e];rfl,fun _=>rfl,fun _=>rfl,fun _=>rfl,fun _=>rfl,by omega,by omega⟩
theorem filt_skip {kk k : Nat} (hk : kk ≤ 5) (hk4 : k < 4) (h : decide (k ∈ wantK kk) = false) : (wantK kk).filter (fun p=>decide (k + 1 ≤ p)) = (wantK kk).filter (fun p=>decide (k ≤ p)):=by
 rcases (by omega : kk = 0 ∨ kk = 1 ∨ kk = 2 ∨ kk = 3 ∨ kk = 4 ∨ kk = 5) with rfl | rfl | rfl | rfl | rfl | rfl <;> rcases (by omega : k = 0 ∨ k = 1 ∨ k = 2 ∨ k = 3) with rfl | rfl | rfl | rfl <;> first | rfl | (exact absurd h (by decide))
theorem filt_take {kk k : Nat} (hk : kk ≤ 5) (hk4 : k < 4) (h : decide (k ∈ wantK kk) = true) : (wantK kk).filter (fun p=>decide (k ≤ p)) = k :: (wantK kk).filter (fun p=>decide (k + 1 ≤ p)):=by
 rcases (by omega : kk = 0 ∨ kk = 1 ∨ kk = 2 ∨ kk = 3 ∨ kk = 4 ∨ kk = 5) with rfl | rfl | rfl | rfl | rfl | rfl <;> rcases (by omega : k = 0 ∨ k = 1 ∨ k = 2 ∨ k = 3) with rfl | rfl | rfl | rfl <;> first | rfl | (exact absurd h (by decide))
theorem filt_gt (kk k : Nat) : ∀ p ∈ (wantK kk).filter (fun p=>decide (k + 1 ≤ p)),p ≠ k:=fun p hp=>by
 have:=(List.mem_filter.1 hp).2
 simp at this;omega
theorem valP_out (q : Nat) : ∀ (P : List Nat) (l : Words),(∀ p ∈ P,p ≠ q) → valP q P l = 0
 | [],l,_=>by cases l <;> rfl
 | p :: ps,[],_=>rfl
 | p :: ps,x :: xs,h=>by
  rw [valP,if_neg (h p (List.mem_cons_self ..)),valP_out q ps xs (fun p' hp'=>h p' (List.mem_cons_of_mem _ hp'))]
theorem iv_skip {kk k at_ : Nat} {l : Words} {c0 c1 c2 c3 : Int} (hk : kk ≤ 5) (hk4 : k < 4) (h : decide (k ∈ wantK kk) = false) (hi : IV (wantK kk) l k at_ c0 c1 c2 c3) : IV (wantK kk) l (k + 1) at_ c0 c1 c2 c3:=by
 have e:=filt_skip hk hk4 h
 have ho : ∀ q,q = k → valP q ((wantK kk).filter (fun p=>decide (k + 1 ≤ p))) (l.drop (at_ - 1)) = 0:=fun q hq=>by subst hq;exact valP_out _ _ _ (filt_gt kk _)
 refine ⟨by rw [e];exact hi.tk,?_,?_,?_,?_,fun h=>hi.z0 (by omega),fun h=>hi.z1 (by omega),fun h=>hi.z2 (by omega),fun h=>hi.z3 (by omega),hi.pos,hi.le⟩
 ·rw [hi.v0]
  by_cases h1 : 0 < k
  ·rw [if_pos h1,if_pos (by omega)]
  ·rw [if_neg h1,if_pos (by omega),← e,ho 0 (by omega),hi.z0 (by omega)]
 ·rw [hi.v1]
  by_cases h1 : 1 < k
  ·rw [if_pos h1,if_pos (by omega)]
  ·rw [if_neg h1]
   by_cases h2 : k = 1
   ·rw [if_pos (by omega),← e,ho 1 h2.symm,hi.z1 (by omega)]
   ·rw [if_neg (by omega),e]
 ·rw [hi.v2]
  by_cases h1 : 2 < k
  ·rw [if_pos h1,if_pos (by omega)]
  ·rw [if_neg h1]
   by_cases h2 : k = 2
   ·rw [if_pos (by omega),← e,ho 2 h2.symm,hi.z2 (by omega)]
   ·rw [if_neg (by omega),e]
 ·rw [hi.v3]
  by_cases h1 : 3 < k
  ·rw [if_pos h1,if_pos (by omega)]
  ·rw [if_neg h1]
   by_cases h2 : k = 3
   ·rw [if_pos (by omega),← e,ho 3 h2.symm,hi.z3 (by omega)]
   ·rw [if_neg (by omega),e]
def upC (q k : Nat) (c v : Int) : Int:=if q = k then v else c
theorem iv_take {kk k at_ : Nat} {l : Words} {c0 c1 c2 c3 : Int} (hk : kk ≤ 5) (hk4 : k < 4) (h : decide (k ∈ wantK kk) = true) (hi : IV (wantK kk) l k at_ c0 c1 c2 c3) (hl : at_ - 1 < l.length) (hok : okP k l[at_ - 1] = true) (v : Int) (hv : v = vaP k l[at_ - 1]) :
  IV (wantK kk) l (k + 1) (at_ + 1) (upC 0 k c0 v) (upC 1 k c1 v) (upC 2 k c2 v) (upC 3 k c3 v):=by
 have e:=filt_take hk hk4 h
 have hd : l.drop (at_ - 1) = l[at_ - 1] :: l.drop (at_ + 1 - 1):=by
  have:=hi.pos
  rw [List.drop_eq_getElem_cons hl,show at_ - 1 + 1 = at_ + 1 - 1 by omega]
 have hp:=hi.pos
 have key : ∀ q,valP q ((wantK kk).filter (fun p=>decide (k ≤ p))) (l.drop (at_ - 1)) = if k = q then v else valP q ((wantK kk).filter (fun p=>decide (k + 1 ≤ p))) (l.drop (at_ + 1 - 1)):=fun q=>by
  rw [e,hd,valP,hv]
 refine ⟨?_,?_,?_,?_,?_,fun h=>by omega,?_,?_,?_,by omega,by omega⟩
 ·rw [hi.tk,e,hd,takeP,hok];rfl
 all_goals unfold upC
 ·rw [hi.v0,key]
  by_cases h1 : 0 < k
  ·rw [if_pos h1,if_pos (by omega),if_neg (by omega)]
  ·rw [if_neg h1,if_pos (by omega),if_pos (by omega),if_pos (by omega)]
 ·rw [hi.v1,key]
  by_cases h1 : 1 < k
  ·rw [if_pos h1,if_pos (by omega),if_neg (by omega)]
  ·rw [if_neg h1]
   by_cases h2 : k = 1
   ·rw [if_pos h2,if_pos (by omega),if_pos h2.symm]
   ·rw [if_neg h2,if_neg (by omega)]
 ·rw [hi.v2,key]
  by_cases h1 : 2 < k
  ·rw [if_pos h1,if_pos (by omega),if_neg (by omega)]
  ·rw [if_neg h1]
   by_cases h2 : k = 2
   ·rw [if_pos h2,if_pos (by omega),if_pos h2.symm]
   ·rw [if_neg h2,if_neg (by omega)]
 ·rw [hi.v3,key]
  by_cases h1 : 3 < k
  ·rw [if_pos h1,if_pos (by omega),if_neg (by omega)]
  ·rw [if_neg h1]
   by_cases h2 : k = 3
   ·rw [if_pos h2,if_pos (by omega),if_pos h2.symm]
   ·rw [if_neg h2,if_neg (by omega)]
 ·intro h;rw [if_neg (by omega)];exact hi.z1 (by omega)
 ·intro h;rw [if_neg (by omega)];exact hi.z2 (by omega)
 ·intro h;rw [if_neg (by omega)];exact hi.z3 (by omega)
theorem iv_short {kk k at_ : Nat} {l : Words} {c0 c1 c2 c3 : Int} (hk : kk ≤ 5) (hk4 : k < 4) (h : decide (k ∈ wantK kk) = true) (hi : IV (wantK kk) l k at_ c0 c1 c2 c3) (hl : l.length ≤ at_ - 1) : takeP (wantK kk) l = false:=by
 rw [hi.tk,filt_take hk hk4 h,List.drop_eq_nil_of_le hl];rfl
theorem iv_badw {kk k at_ : Nat} {l : Words} {c0 c1 c2 c3 : Int} (hk : kk ≤ 5) (hk4 : k < 4) (h : decide (k ∈ wantK kk) = true) (hi : IV (wantK kk) l k at_ c0 c1 c2 c3) (hl : at_ - 1 < l.length) (hok : okP k l[at_ - 1] = false) : takeP (wantK kk) l = false:=by
 rw [hi.tk,filt_take hk hk4 h,List.drop_eq_getElem_cons hl,takeP,hok];rfl
theorem iv_end {kk at_ : Nat} {l : Words} {c0 c1 c2 c3 : Int} (hk : kk ≤ 5) (hi : IV (wantK kk) l 4 at_ c0 c1 c2 c3) : takeP (wantK kk) l = decide (at_ = l.length + 1) ∧ valP 0 (wantK kk) l = c0 ∧ valP 1 (wantK kk) l = c1 ∧ valP 2 (wantK kk) l = c2 ∧ valP 3 (wantK kk) l = c3:=by
 have e : (wantK kk).filter (fun p=>decide (4 ≤ p)) = []:=by
  rcases (by omega : kk = 0 ∨ kk = 1 ∨ kk = 2 ∨ kk = 3 ∨ kk = 4 ∨ kk = 5) with rfl | rfl | rfl | rfl | rfl | rfl <;> rfl
 refine ⟨?_,by rw [hi.v0];rfl,by rw [hi.v1];rfl,by rw [hi.v2];rfl,by rw [hi.v3];rfl⟩
 rw [hi.tk,e]
 have h1:=hi.pos
 have h2:=hi.le
 by_cases h : at_ = l.length + 1
 ·rw [decide_eq_true h,List.drop_eq_nil_of_le (by omega)];rfl
 ·rw [decide_eq_false h,List.drop_eq_getElem_cons (show at_ - 1 < l.length by omega)];rfl
theorem fl_want : ∀ o : Fin 42,1 ≤ o.val → Isa.fl o.val 1 = decide (0 ∈ wantK (kindN o.val)) ∧ Isa.fl o.val 2 = decide (1 ∈ wantK (kindN o.val)) ∧ Isa.fl o.val 4 = decide (2 ∈ wantK (kindN o.val)) ∧ Isa.fl o.val 8 = decide (3 ∈ wantK (kindN o.val)):=by decide +kernel
theorem parV_short {s : List UInt8} {o : Nat} (ho : o = opV ((fieldsC 32 s).headD [])) (h : takeP (wantK (kindN o)) (fieldsC 32 s).tail = false) : parV s = .tuple #[(.agg #[.int .i64 (0),.int .i64 (0),.int .i64 (0),.int .i64 (0),.int .i64 (0)]),.int .i64 6]:=by
 apply parV_no
 unfold parB
 rw [← ho,h];simp
theorem parV_end {s : List UInt8} {o : Nat} (ho : o = opV ((fieldsC 32 s).headD [])) (h0 : o ≠ 0) (hw : wordsB s = true) (h : takeP (wantK (kindN o)) (fieldsC 32 s).tail = true) {c0 c1 c2 c3 : Int} (e0 : valP 0 (wantK (kindN o)) (fieldsC 32 s).tail = c0) (e1 : valP 1 (wantK (kindN o)) (fieldsC 32 s).tail = c1) (e2 : valP 2 (wantK (kindN o)) (fieldsC 32 s).tail = c2) (e3 : valP 3 (wantK (kindN o)) (fieldsC 32 s).tail = c3) :
  (Isa.validB o c0 c1 c2 c3 = false → parV s = .tuple #[(.agg #[.int .i64 (0),.int .i64 (0),.int .i64 (0),.int .i64 (0),.int .i64 (0)]),.int .i64 6]) ∧ (Isa.validB o c0 c1 c2 c3 = true → parV s = .tuple #[(.agg #[.int .i64 (o),.int .i64 (c0),.int .i64 (c1),.int .i64 (c2),.int .i64 (c3)]),.int .i64 0]):=by
 have hP : parB s = Isa.validB o c0 c1 c2 c3:=by
  unfold parB insP
  rw [hw,← ho,decide_eq_true h0,h,e0,e1,e2,e3];rfl
 constructor
 ·intro hv;exact parV_no (by rw [hP,hv])
 ·intro hv
  have hT : parB s = true:=by rw [hP,hv]
  unfold parV parO parD parA parC parN parE insP
  rw [if_pos hT,if_pos hT,if_pos hT,if_pos hT,if_pos hT,if_pos hT,← ho,e0,e1,e2,e3]
theorem rparse_none (s : ByteArray) (hs : s.size ≤ 100000000) (w : World) (hw : wordsB s.data.toList = false) :
  Calls Tryz.prog 152 #[.string s] w fun e w'=>e = .returned (parV s.data.toList) ∧ Below w.heap.size w w':=by
 have HE : Hid (parV s.data.toList = .tuple #[(.agg #[.int .i64 (0),.int .i64 (0),.int .i64 (0),.int .i64 (0),.int .i64 (0)]),.int .i64 6]):=parV_no (by simp [parB,hw])
 go_enter Tryz.func152,Tryz.ntmps152
 go_wp2_with fail
 refine (rsplit_any s hs _).mono ?_;rintro e w1 ⟨_,h2,hb⟩;obtain rfl:=h2 hw
 have hO : ObjAt w1 w.heap.size 145 zeroI:=(ObjAt.new w 145 zeroI).below hb
 have HB : Hid (Below w.heap.size w w1):=bmore ((Below.refl _ _).alloc (Nat.le_refl _) _) hb
 have s6:=hO.lt
 have a0:=(hO).cell 0 _ rfl;have a1:=(hO).cell 1 _ rfl;have a2:=(hO).cell 2 _ rfl;have a3:=(hO).cell 3 _ rfl;have a4:=(hO).cell 4 _ rfl;have g0:=(hO).free 0;have g1:=(hO).free 1;have g2:=(hO).free 2;have g3:=(hO).free 3;have g4:=(hO).free 4
 clear hb h2
 go_wp2_with fail
 (refine bodyPost_ret (v:=.tuple #[(.agg #[.int .i64 (0),.int .i64 (0),.int .i64 (0),.int .i64 (0),.int .i64 (0)]),.int .i64 6]) (by simp [results,Tryz.results152,go_sem,a0,a1,a2,a3,a4,s6]) rfl ⟨by rw [HE.out],?_⟩;exact (((((HB.out.setCell (Nat.le_refl _) _).setCell (Nat.le_refl _) _).setCell (Nat.le_refl _) _).setCell (Nat.le_refl _) _).setCell (Nat.le_refl _) _))
end Go.Proofs.YtoklonmiejdgmaaGreatDoor.As
/- The reference for asm: Parse walked. -/
namespace Go.Proofs.YtoklonmiejdgmaaGreatDoor.As
set_option linter.unusedVariables false
set_option linter.unusedSimpArgs false
set_option linter.unnecessarySimpa false
open Go.RowKit Go.Sort
set_option maxHeartbeats 4000000
set_option maxRecDepth 100000
set_option linter.unusedVariables false
/-- Where the loop over the four places stands. -/
structure RQ (W2 : World) (ib : Nat) (o : Nat) (f0 f1 f2 f3 : Bool) (c0 c1 c2 c3 : Int) (W : World) : Prop where
 bel : Below W2.heap.size W2 W
 ins : ObjAt W ib 145 [.int .i64 o,.int .i64 c0,.int .i64 c1,.int .i64 c2,.int .i64 c3]
 has : ObjAt W (ib + 1) 4 [.bool f0,.bool f1,.bool f2,.bool f3]
 new : W2.heap.size ≤ ib
theorem RQ.put {W2 : World} {ib o : Nat} {f0 f1 f2 f3 : Bool} {c0 c1 c2 c3 : Int} {W : World} (h : RQ W2 ib o f0 f1 f2 f3 c0 c1 c2 c3 W) (k : Nat) (hk : k < 4) (v : Int) : RQ W2 ib o f0 f1 f2 f3 (upC 0 k c0 v) (upC 1 k c1 v) (upC 2 k c2 v) (upC 3 k c3 v) (W.setCell ⟨ib,k + 1,none⟩ (.int .i64 v)):=by
 refine ⟨h.bel.trans ((Upd.setCell W ⟨ib,k + 1,none⟩ _).below h.new h.bel.size),?_,h.has.upd (Upd.setCell W ⟨ib,k + 1,none⟩ _) (by simp),h.new⟩
 have:=h.ins.set (k + 1) (.int .i64 v)
 rcases (by omega : k = 0 ∨ k = 1 ∨ k = 2 ∨ k = 3) with rfl | rfl | rfl | rfl <;> exact this
theorem rq_start {W2 wo : World} (hb : Below W2.heap.size W2 wo) (o : Nat) (f0 f1 f2 f3 : Bool) : RQ W2 wo.heap.size o f0 f1 f2 f3 0 0 0 0 ((wo.alloc (.cells #[.int .i64 o,.int .i64 0,.int .i64 0,.int .i64 0,.int .i64 0] 145)).alloc (.cells #[.bool f0,.bool f1,.bool f2,.bool f3] 4)).drew:=by
 refine ⟨?_,(ObjAt.new wo 145 [.int .i64 o,.int .i64 0,.int .i64 0,.int .i64 0,.int .i64 0]).below ((Below.refl _ _).alloc (Nat.le_refl _) _).drew,?_,hb.size⟩
 ·exact ((hb.alloc hb.size _).alloc (by rw [World.size_alloc];have:=hb.size;omega) _).drew
 ·have:=ObjAt.new (wo.alloc (.cells #[.int .i64 o,.int .i64 0,.int .i64 0,.int .i64 0,.int .i64 0] 145)) 4 [.bool f0,.bool f1,.bool f2,.bool f3]
  rw [World.size_alloc] at this
  exact this
theorem rparse_yes (s : ByteArray) (hs : s.size ≤ 100000000) (w : World) (hw : wordsB s.data.toList = true) :
  Calls Tryz.prog 152 #[.string s] w fun e w'=>e = .returned (parV s.data.toList) ∧ Below w.heap.size w w':=by
 obtain ⟨L,hL⟩ : ∃ L,L = fieldsC 32 s.data.toList:=⟨_,rfl⟩
 have hne : L ≠ []:=by rw [hL];exact fieldsC_ne 32 _
 have hsm : ∀ y ∈ L,y.length ≤ 100000000:=fun y hy=>by
  rw [hL] at hy
  have:=(fieldsC_mem 32 s.data.toList y hy).2
  rw [ba_len] at this;omega
 have hlen : L.length ≤ s.size + 1:=by
  rw [hL,fieldsC_len]
  have:=List.count_le_length (a:=(32 : UInt8)) (l:=s.data.toList)
  rw [ba_len] at this;omega
 have HSP:=Lib.hid (rsplit_any s hs (w.alloc (.cells #[.int .i64 0,.int .i64 0,.int .i64 0,.int .i64 0,.int .i64 0] 145)))
 have HP : Hid (∀ e w',SplitPost s.data.toList (w.alloc (.cells #[.int .i64 0,.int .i64 0,.int .i64 0,.int .i64 0,.int .i64 0] 145)) e w' → (∃ a cap,e = .returned (.tuple #[.slice a L.length cap,.bool true]) ∧ RdW w' a cap L) ∧ Below (w.alloc (.cells #[.int .i64 0,.int .i64 0,.int .i64 0,.int .i64 0,.int .i64 0] 145)).heap.size (w.alloc (.cells #[.int .i64 0,.int .i64 0,.int .i64 0,.int .i64 0,.int .i64 0] 145)) w'):=fun e w' h=>by rw [hL];exact ⟨h.1 hw,h.2.2⟩
 obtain ⟨R,hR⟩ : ∃ R,R = parV s.data.toList:=⟨_,rfl⟩
 have HNO : Hid (opV (L.headD []) = 0 → R = .tuple #[(.agg #[.int .i64 (0),.int .i64 (0),.int .i64 (0),.int .i64 (0),.int .i64 (0)]),.int .i64 6]):=fun h=>by
  rw [hR];subst hL;exact parV_no (by unfold parB;rw [h];simp)
 have HSHORT : Hid (∀ o,o = opV (L.headD []) → takeP (wantK (kindN o)) L.tail = false → R = .tuple #[(.agg #[.int .i64 (0),.int .i64 (0),.int .i64 (0),.int .i64 (0),.int .i64 (0)]),.int .i64 6]):=fun o h1 h2=>by
  rw [hR];subst hL;exact parV_short h1 h2
 have HEND : Hid (∀ (o : Nat) (c0 c1 c2 c3 : Int),o = opV (L.headD []) → o ≠ 0 → takeP (wantK (kindN o)) L.tail = true → valP 0 (wantK (kindN o)) L.tail = c0 → valP 1 (wantK (kindN o)) L.tail = c1 → valP 2 (wantK (kindN o)) L.tail = c2 → valP 3 (wantK (kindN o)) L.tail = c3 →
   (Isa.validB o c0 c1 c2 c3 = false → R = .tuple #[(.agg #[.int .i64 (0),.int .i64 (0),.int .i64 (0),.int .i64 (0),.int .i64 (0)]),.int .i64 6]) ∧ (Isa.validB o c0 c1 c2 c3 = true → R = .tuple #[(.agg #[.int .i64 (o),.int .i64 (c0),.int .i64 (c1),.int .i64 (c2),.int .i64 (c3)]),.int .i64 0])):=fun o c0 c1 c2 c3 h1 h2 h3 e0 e1 e2 e3=>by
  rw [hR];subst hL;exact parV_end h1 h2 hw h3 e0 e1 e2 e3
 rw [← hR]
 obtain ⟨x,r,rfl⟩ : ∃ x r,L = x :: r:=by cases L with
  | nil=>exact absurd rfl hne
  | cons x r=>exact ⟨x,r,rfl⟩
 rw [show (x :: r).tail = r from rfl,show (x :: r).headD [] = x from rfl] at HEND
 rw [show (x :: r).tail = r from rfl,show (x :: r).headD [] = x from rfl] at HSHORT
 rw [show (x :: r).headD [] = x from rfl] at HNO
 have HSM : Hid (∀ y ∈ (x :: r),y.length ≤ 100000000):=hsm
 have hlr : r.length ≤ s.size:=by rw [List.length_cons] at hlen;omega
 rw [show (x :: r).length = r.length + 1 from rfl] at HP
 clear hL hne hsm hlen hw hR
 go_enter Tryz.func152,Tryz.ntmps152
 go_wp2_with fail
 refine HSP.out.mono ?_;rintro e w1 h
 obtain ⟨⟨a,cap,rfl,hR⟩,hb⟩:=HP.out _ _ h
 obtain ⟨g,off,rfl,hg,hc⟩:=hR.at_ 0 (by simp)
 have HB0:=Lib.hid hb
 have HC:=Lib.hid hc
 have hle:=hR.le
 have hmx : cap ≤ 9223372036854775807:=hR.mx
 rw [show (x :: r).length = r.length + 1 from rfl] at hle
 clear hb h hc hR HSP HP
 go_wp2_with fail
 refine (rnames_all _).mono ?_;rintro e W2 ⟨rfl,hnm,hb2⟩
 have HNM:=Lib.hid hnm
 have HB2 : Hid (Below (w.alloc (.cells #[.int .i64 0,.int .i64 0,.int .i64 0,.int .i64 0,.int .i64 0] 145)).heap.size (w.alloc (.cells #[.int .i64 0,.int .i64 0,.int .i64 0,.int .i64 0,.int .i64 0] 145)) W2):=bmore HB0.out hb2
 have HC2 : Hid (∀ j (hj : j < (x :: r).length),W2.cell? ⟨g,off + j,none⟩ = some (.string (ba (x :: r)[j]))):=fun j hj=>by
  rw [hb2.cell (p:=⟨g,off + j,none⟩) hg];exact HC.out j hj
 have hs2:=hb2.size
 have hn2 : w1.heap.size < W2.heap.size:=World.block_lt_of_cell? W2 ⟨w1.heap.size,0,none⟩ (hnm 0 (by omega))
 have hg2 : g < W2.heap.size:=by omega
 have hw0 : w.heap.size < W2.heap.size:=by have:=HB0.out.size;rw [World.size_alloc] at this;omega
 have HO2 : Hid (ObjAt W2 w.heap.size 145 zeroI):=(ObjAt.new w 145 zeroI).below HB2.out
 clear hnm hb2 HB0 HC hs2
 go_wp2_with fail
 go_loopw [7] (fun op wr=>∃ k : Nat,1 ≤ k ∧ k ≤ 42 ∧ op = .int .i64 k ∧ Below W2.heap.size W2 wr ∧ ∀ j,1 ≤ j → j < k → opName j ≠ x) (fun op _=>42 - (intOf op).toNat)
 case atStart=>exact ⟨1,by omega,by omega,rfl,Below.refl _ _,fun j h1 h2=>by omega⟩
 case round=>
  obtain ⟨wo,rfl⟩ : ∃ wo : World,wo = wr:=⟨_,rfl⟩
  obtain ⟨o,hk1,hk,rfl,hbe,hn⟩:=hrel
  have HBE:=Lib.hid hbe
  have HN:=Lib.hid hn
  clear hbe hn
  by_cases hlt : o ≤ 41
  ·have d1 : decide ((o : Int) ≤ 41) = true:=decide_eq_true (by omega)
   have d1' : decide (o ≤ 41) = true:=decide_eq_true hlt
   have w1' : IntKind.i64.wrap ((o : Int) + 1) = (o : Int) + 1:=by rw [IntKind.wrap_i64];omega
   have n0 : wo.cell? ⟨w1.heap.size,o,none⟩ = some (.string (ba (opName o))):=by rw [HBE.out.cell (p:=⟨w1.heap.size,o,none⟩) hn2];exact HNM.out o (by omega)
   have n1 : wo.cell? ⟨g,off,none⟩ = some (.string (ba x)):=by rw [HBE.out.cell (p:=⟨g,off,none⟩) hg2];exact HC2.out 0 (by simp)
   have hbq:=ba_beq (opName o) (ba x)
   rw [ba_data] at hbq
   go_upto_region 8 with fail
   by_cases he : opName o = x
   ·have de : ((ba (opName o)).toList == (ba x).toList) = true:=by rw [hbq,decide_eq_true he]
    have de' : ((ba (opName o)).toList != (ba x).toList) = false:=by rw [bne,de];rfl
    have HOP : Hid (o = opV x):=(opV_hit hk1 hlt he HN.out).symm
    have hkk : kindN o ≤ 5:=kindN_le ⟨o,by omega⟩
    obtain ⟨e0,e1,e2,e3⟩:=fl_want ⟨o,by omega⟩ hk1
    have HHAS:=fun W=>Lib.hid (Isa.has_any o hk1 (by omega) W)
    dsimp only at e0 e1 e2 e3
    rw [e0,e1,e2,e3] at HHAS
    have HIV0:=Lib.hid (iv_start (kindN o) hkk r)
    have HBW : Hid (∀ W,Below W2.heap.size W2 W → Below w.heap.size w W):=fun W hW=>((Below.refl _ _).alloc (Nat.le_refl _) _).trans ((HB2.out.trans (hW.mono HB2.out.size)).mono (by simp))
    have HO3 : Hid (∀ W,Below W2.heap.size W2 W → ObjAt W w.heap.size 145 zeroI):=fun W hW=>HO2.out.below hW
    obtain ⟨f0,hf0⟩ : ∃ f,Hid (f = decide (0 ∈ wantK (kindN o))):=⟨_,Lib.hid rfl⟩
    obtain ⟨f1,hf1⟩ : ∃ f,Hid (f = decide (1 ∈ wantK (kindN o))):=⟨_,Lib.hid rfl⟩
    obtain ⟨f2,hf2⟩ : ∃ f,Hid (f = decide (2 ∈ wantK (kindN o))):=⟨_,Lib.hid rfl⟩
    obtain ⟨f3,hf3⟩ : ∃ f,Hid (f = decide (3 ∈ wantK (kindN o))):=⟨_,Lib.hid rfl⟩
    rw [← hf0.out,← hf1.out,← hf2.out,← hf3.out] at HHAS
    have HQ0:=Lib.hid (rq_start HBE.out o f0 f1 f2 f3)
    have HO1 : Hid (1 ≤ o):=hk1
    clear hbq he HN e0 e1 e2 e3
    go_region
    all_goals
     go_wp2_with (go_at_call 116;refine ((HHAS _).out).mono ?_;rintro e w5 ⟨rfl,rfl⟩)
     go_loopw [14,15] (fun at_v i wr=>∃ (k at_ : Nat) (c0 c1 c2 c3 : Int),k ≤ 4 ∧ i = .int .i64 k ∧ at_v = .int .i64 at_ ∧ RQ W2 wo.heap.size o f0 f1 f2 f3 c0 c1 c2 c3 wr ∧ IV (wantK (kindN o)) r k at_ c0 c1 c2 c3) (fun _ i _=>4 - (intOf i).toNat)
     case atStart=>exact ⟨0,1,0,0,0,0,by omega,rfl,rfl,HQ0.out,HIV0.out⟩
     case round=>
     clear HQ0 HIV0
     obtain ⟨wi,rfl⟩ : ∃ wi : World,wi = wr:=⟨_,rfl⟩
     obtain ⟨k,at_,c0,c1,c2,c3,hk4,rfl,rfl,hq,hiv⟩:=hrel
     have HQ:=Lib.hid hq
     have HIV:=Lib.hid hiv
     have hble:=hiv.le
     have hwi:=hq.new
     clear hq hiv
     rcases (by omega : k = 0 ∨ k = 1 ∨ k = 2 ∨ k = 3 ∨ k = 4) with rfl | rfl | rfl | rfl | rfl
     ·have HFK:=hf0
      have h0:=HQ.out.has.cell 0 _ rfl
      cases f0
      ·have HIV2:=Lib.hid (iv_skip hkk (by omega) HFK.out.symm HIV.out)
       clear HFK HIV
       go_wp2_with fail
       go_roundw
       case rel=>exact ⟨0 + 1,at_,c0,c1,c2,c3,by omega,by go_num,rfl,HQ.out,HIV2.out⟩
       case measure=>simp [intOf]
      ·by_cases hsh : r.length + 1 ≤ at_
       ·have HE:=Lib.hid (HSHORT.out o HOP.out (iv_short hkk (by omega) HFK.out.symm HIV.out (by omega)))
        have e1 : decide ((at_ : Int) ≥ (r.length : Int) + 1) = true:=decide_eq_true (by omega)
        have e2 : decide ((r.length : Int) + 1 ≤ (at_ : Int)) = true:=decide_eq_true (by omega)
        have e3 : decide (r.length + 1 ≤ at_) = true:=decide_eq_true hsh
        have hO:=HO3.out _ HQ.out.bel
        have HB:=Lib.hid (HBW.out _ HQ.out.bel)
        have s6:=hO.lt
        have a0:=(hO).cell 0 _ rfl;have a1:=(hO).cell 1 _ rfl;have a2:=(hO).cell 2 _ rfl;have a3:=(hO).cell 3 _ rfl;have a4:=(hO).cell 4 _ rfl;have g0:=(hO).free 0;have g1:=(hO).free 1;have g2:=(hO).free 2;have g3:=(hO).free 3;have g4:=(hO).free 4
        clear hO hsh HIV HFK
        go_wp2_with fail
        (refine bodyPost_ret (v:=.tuple #[(.agg #[.int .i64 (0),.int .i64 (0),.int .i64 (0),.int .i64 (0),.int .i64 (0)]),.int .i64 6]) (by simp [results,Tryz.results152,go_sem,a0,a1,a2,a3,a4,s6]) rfl ⟨by rw [HE.out],?_⟩;exact (((((HB.out.setCell (Nat.le_refl _) _).setCell (Nat.le_refl _) _).setCell (Nat.le_refl _) _).setCell (Nat.le_refl _) _).setCell (Nat.le_refl _) _))
       ·have e1 : decide ((at_ : Int) ≥ (r.length : Int) + 1) = false:=decide_eq_false (by omega)
        have e2 : decide ((r.length : Int) + 1 ≤ (at_ : Int)) = false:=decide_eq_false (by omega)
        have e3 : decide (r.length + 1 ≤ at_) = false:=decide_eq_false hsh
        have hpos:=HIV.out.pos
        have hlt2 : at_ - 1 < r.length:=by omega
        obtain ⟨y,hy⟩ : ∃ y,Hid (y = r[at_ - 1]):=⟨_,Lib.hid rfl⟩
        have hcy : wi.cell? ⟨g,off + at_,none⟩ = some (.string (ba y)):=by
         rw [HQ.out.bel.cell (p:=⟨g,off + at_,none⟩) hg2,HC2.out at_ (by simp;omega),hy.out]
         congr 3
         rw [List.getElem_cons,dif_neg (by omega)]
        have HY : Hid (y.length ≤ 100000000):=HSM.out y (by rw [hy.out];exact List.mem_cons_of_mem _ (List.getElem_mem _))
        have HPA:=fun W=>Lib.hid (part_any y HY.out (decide (0 < 3)) W)
        obtain ⟨v,hv⟩ : ∃ v,Hid (v = paN (decide (0 < 3)) y):=⟨_,Lib.hid rfl⟩
        obtain ⟨b,hb⟩ : ∃ b,Hid (b = paB (decide (0 < 3)) y):=⟨_,Lib.hid rfl⟩
        rw [← hv.out,← hb.out] at HPA
        have HOK:=Lib.hid (pa_ok 0 y)
        clear hsh
        cases b
        ·have HE:=Lib.hid (HSHORT.out o HOP.out (iv_badw hkk (by omega) HFK.out.symm HIV.out hlt2 (by rw [← hy.out,← HOK.out.1,← hb.out])))
         have hO:=HO3.out _ HQ.out.bel
         have HB:=Lib.hid (HBW.out _ HQ.out.bel)
         have s6:=hO.lt
         have a0:=(hO).cell 0 _ rfl;have a1:=(hO).cell 1 _ rfl;have a2:=(hO).cell 2 _ rfl;have a3:=(hO).cell 3 _ rfl;have a4:=(hO).cell 4 _ rfl;have g0:=(hO).free 0;have g1:=(hO).free 1;have g2:=(hO).free 2;have g3:=(hO).free 3;have g4:=(hO).free 4
         clear hO HIV HFK hpos
         go_wp2_with (go_at_call 174;refine ((HPA _).out).mono ?_;rintro e w6 ⟨rfl,rfl⟩)
         (refine bodyPost_ret (v:=.tuple #[(.agg #[.int .i64 (0),.int .i64 (0),.int .i64 (0),.int .i64 (0),.int .i64 (0)]),.int .i64 6]) (by simp [results,Tryz.results152,go_sem,a0,a1,a2,a3,a4,s6]) rfl ⟨by rw [HE.out],?_⟩;exact (((((HB.out.setCell (Nat.le_refl _) _).setCell (Nat.le_refl _) _).setCell (Nat.le_refl _) _).setCell (Nat.le_refl _) _).setCell (Nat.le_refl _) _))
        ·have hok : okP 0 r[at_ - 1] = true:=by rw [← hy.out,← HOK.out.1,← hb.out]
         have hva : v = vaP 0 r[at_ - 1]:=by rw [hv.out,HOK.out.2 (by rw [hy.out];exact hok),hy.out]
         have HIV2:=Lib.hid (iv_take hkk (by omega) HFK.out.symm HIV.out hlt2 hok v hva)
         have HQ2:=Lib.hid (HQ.out.put 0 (by omega) v)
         have j0:=HQ.out.ins.cell (0 + 1) (.int .i64 c0) rfl
         have j1:=HQ.out.ins.free (0 + 1)
         have w7 : IntKind.i64.wrap ((at_ : Int) + 1) = (at_ : Int) + 1:=by rw [IntKind.wrap_i64];omega
         clear HIV HFK hpos hok hva
         go_wp2_with (go_at_call 174;refine ((HPA _).out).mono ?_;rintro e w6 ⟨rfl,rfl⟩)
         go_roundw
         case rel=>exact ⟨0 + 1,at_ + 1,_,_,_,_,by omega,by go_num,by go_num,HQ2.out,HIV2.out⟩
         case measure=>simp [intOf]
     ·have HFK:=hf1
      have h0:=HQ.out.has.cell 1 _ rfl
      cases f1
      ·have HIV2:=Lib.hid (iv_skip hkk (by omega) HFK.out.symm HIV.out)
       clear HFK HIV
       go_wp2_with fail
       go_roundw
       case rel=>exact ⟨1 + 1,at_,c0,c1,c2,c3,by omega,by go_num,rfl,HQ.out,HIV2.out⟩
       case measure=>simp [intOf]
      ·by_cases hsh : r.length + 1 ≤ at_
       ·have HE:=Lib.hid (HSHORT.out o HOP.out (iv_short hkk (by omega) HFK.out.symm HIV.out (by omega)))
        have e1 : decide ((at_ : Int) ≥ (r.length : Int) + 1) = true:=decide_eq_true (by omega)
        have e2 : decide ((r.length : Int) + 1 ≤ (at_ : Int)) = true:=decide_eq_true (by omega)
        have e3 : decide (r.length + 1 ≤ at_) = true:=decide_eq_true hsh
        have hO:=HO3.out _ HQ.out.bel
        have HB:=Lib.hid (HBW.out _ HQ.out.bel)
        have s6:=hO.lt
        have a0:=(hO).cell 0 _ rfl;have a1:=(hO).cell 1 _ rfl;have a2:=(hO).cell 2 _ rfl;have a3:=(hO).cell 3 _ rfl;have a4:=(hO).cell 4 _ rfl;have g0:=(hO).free 0;have g1:=(hO).free 1;have g2:=(hO).free 2;have g3:=(hO).free 3;have g4:=(hO).free 4
        clear hO hsh HIV HFK
        go_wp2_with fail
        (refine bodyPost_ret (v:=.tuple #[(.agg #[.int .i64 (0),.int .i64 (0),.int .i64 (0),.int .i64 (0),.int .i64 (0)]),.int .i64 6]) (by simp [results,Tryz.results152,go_sem,a0,a1,a2,a3,a4,s6]) rfl ⟨by rw [HE.out],?_⟩;exact (((((HB.out.setCell (Nat.le_refl _) _).setCell (Nat.le_refl _) _).setCell (Nat.le_refl _) _).setCell (Nat.le_refl _) _).setCell (Nat.le_refl _) _))
       ·have e1 : decide ((at_ : Int) ≥ (r.length : Int) + 1) = false:=decide_eq_false (by omega)
        have e2 : decide ((r.length : Int) + 1 ≤ (at_ : Int)) = false:=decide_eq_false (by omega)
        have e3 : decide (r.length + 1 ≤ at_) = false:=decide_eq_false hsh
        have hpos:=HIV.out.pos
        have hlt2 : at_ - 1 < r.length:=by omega
        obtain ⟨y,hy⟩ : ∃ y,Hid (y = r[at_ - 1]):=⟨_,Lib.hid rfl⟩
        have hcy : wi.cell? ⟨g,off + at_,none⟩ = some (.string (ba y)):=by
         rw [HQ.out.bel.cell (p:=⟨g,off + at_,none⟩) hg2,HC2.out at_ (by simp;omega),hy.out]
         congr 3
         rw [List.getElem_cons,dif_neg (by omega)]
        have HY : Hid (y.length ≤ 100000000):=HSM.out y (by rw [hy.out];exact List.mem_cons_of_mem _ (List.getElem_mem _))
        have HPA:=fun W=>Lib.hid (part_any y HY.out (decide (1 < 3)) W)
        obtain ⟨v,hv⟩ : ∃ v,Hid (v = paN (decide (1 < 3)) y):=⟨_,Lib.hid rfl⟩
        obtain ⟨b,hb⟩ : ∃ b,Hid (b = paB (decide (1 < 3)) y):=⟨_,Lib.hid rfl⟩
        rw [← hv.out,← hb.out] at HPA
        have HOK:=Lib.hid (pa_ok 1 y)
        clear hsh
        cases b
        ·have HE:=Lib.hid (HSHORT.out o HOP.out (iv_badw hkk (by omega) HFK.out.symm HIV.out hlt2 (by rw [← hy.out,← HOK.out.1,← hb.out])))
         have hO:=HO3.out _ HQ.out.bel
         have HB:=Lib.hid (HBW.out _ HQ.out.bel)
         have s6:=hO.lt
         have a0:=(hO).cell 0 _ rfl;have a1:=(hO).cell 1 _ rfl;have a2:=(hO).cell 2 _ rfl;have a3:=(hO).cell 3 _ rfl;have a4:=(hO).cell 4 _ rfl;have g0:=(hO).free 0;have g1:=(hO).free 1;have g2:=(hO).free 2;have g3:=(hO).free 3;have g4:=(hO).free 4
         clear hO HIV HFK hpos
         go_wp2_with (go_at_call 174;refine ((HPA _).out).mono ?_;rintro e w6 ⟨rfl,rfl⟩)
         (refine bodyPost_ret (v:=.tuple #[(.agg #[.int .i64 (0),.int .i64 (0),.int .i64 (0),.int .i64 (0),.int .i64 (0)]),.int .i64 6]) (by simp [results,Tryz.results152,go_sem,a0,a1,a2,a3,a4,s6]) rfl ⟨by rw [HE.out],?_⟩;exact (((((HB.out.setCell (Nat.le_refl _) _).setCell (Nat.le_refl _) _).setCell (Nat.le_refl _) _).setCell (Nat.le_refl _) _).setCell (Nat.le_refl _) _))
        ·have hok : okP 1 r[at_ - 1] = true:=by rw [← hy.out,← HOK.out.1,← hb.out]
         have hva : v = vaP 1 r[at_ - 1]:=by rw [hv.out,HOK.out.2 (by rw [hy.out];exact hok),hy.out]
         have HIV2:=Lib.hid (iv_take hkk (by omega) HFK.out.symm HIV.out hlt2 hok v hva)
         have HQ2:=Lib.hid (HQ.out.put 1 (by omega) v)
         have j0:=HQ.out.ins.cell (1 + 1) (.int .i64 c1) rfl
         have j1:=HQ.out.ins.free (1 + 1)
         have w7 : IntKind.i64.wrap ((at_ : Int) + 1) = (at_ : Int) + 1:=by rw [IntKind.wrap_i64];omega
         clear HIV HFK hpos hok hva
         go_wp2_with (go_at_call 174;refine ((HPA _).out).mono ?_;rintro e w6 ⟨rfl,rfl⟩)
         go_roundw
         case rel=>exact ⟨1 + 1,at_ + 1,_,_,_,_,by omega,by go_num,by go_num,HQ2.out,HIV2.out⟩
         case measure=>simp [intOf]
     ·have HFK:=hf2
      have h0:=HQ.out.has.cell 2 _ rfl
      cases f2
      ·have HIV2:=Lib.hid (iv_skip hkk (by omega) HFK.out.symm HIV.out)
       clear HFK HIV
       go_wp2_with fail
       go_roundw
       case rel=>exact ⟨2 + 1,at_,c0,c1,c2,c3,by omega,by go_num,rfl,HQ.out,HIV2.out⟩
       case measure=>simp [intOf]
      ·by_cases hsh : r.length + 1 ≤ at_
       ·have HE:=Lib.hid (HSHORT.out o HOP.out (iv_short hkk (by omega) HFK.out.symm HIV.out (by omega)))
        have e1 : decide ((at_ : Int) ≥ (r.length : Int) + 1) = true:=decide_eq_true (by omega)
        have e2 : decide ((r.length : Int) + 1 ≤ (at_ : Int)) = true:=decide_eq_true (by omega)
        have e3 : decide (r.length + 1 ≤ at_) = true:=decide_eq_true hsh
        have hO:=HO3.out _ HQ.out.bel
        have HB:=Lib.hid (HBW.out _ HQ.out.bel)
        have s6:=hO.lt
        have a0:=(hO).cell 0 _ rfl;have a1:=(hO).cell 1 _ rfl;have a2:=(hO).cell 2 _ rfl;have a3:=(hO).cell 3 _ rfl;have a4:=(hO).cell 4 _ rfl;have g0:=(hO).free 0;have g1:=(hO).free 1;have g2:=(hO).free 2;have g3:=(hO).free 3;have g4:=(hO).free 4
        clear hO hsh HIV HFK
        go_wp2_with fail
        (refine bodyPost_ret (v:=.tuple #[(.agg #[.int .i64 (0),.int .i64 (0),.int .i64 (0),.int .i64 (0),.int .i64 (0)]),.int .i64 6]) (by simp [results,Tryz.results152,go_sem,a0,a1,a2,a3,a4,s6]) rfl ⟨by rw [HE.out],?_⟩;exact (((((HB.out.setCell (Nat.le_refl _) _).setCell (Nat.le_refl _) _).setCell (Nat.le_refl _) _).setCell (Nat.le_refl _) _).setCell (Nat.le_refl _) _))
       ·have e1 : decide ((at_ : Int) ≥ (r.length : Int) + 1) = false:=decide_eq_false (by omega)
        have e2 : decide ((r.length : Int) + 1 ≤ (at_ : Int)) = false:=decide_eq_false (by omega)
        have e3 : decide (r.length + 1 ≤ at_) = false:=decide_eq_false hsh
        have hpos:=HIV.out.pos
        have hlt2 : at_ - 1 < r.length:=by omega
        obtain ⟨y,hy⟩ : ∃ y,Hid (y = r[at_ - 1]):=⟨_,Lib.hid rfl⟩
        have hcy : wi.cell? ⟨g,off + at_,none⟩ = some (.string (ba y)):=by
         rw [HQ.out.bel.cell (p:=⟨g,off + at_,none⟩) hg2,HC2.out at_ (by simp;omega),hy.out]
         congr 3
         rw [List.getElem_cons,dif_neg (by omega)]
        have HY : Hid (y.length ≤ 100000000):=HSM.out y (by rw [hy.out];exact List.mem_cons_of_mem _ (List.getElem_mem _))
        have HPA:=fun W=>Lib.hid (part_any y HY.out (decide (2 < 3)) W)
        obtain ⟨v,hv⟩ : ∃ v,Hid (v = paN (decide (2 < 3)) y):=⟨_,Lib.hid rfl⟩
        obtain ⟨b,hb⟩ : ∃ b,Hid (b = paB (decide (2 < 3)) y):=⟨_,Lib.hid rfl⟩
        rw [← hv.out,← hb.out] at HPA
        have HOK:=Lib.hid (pa_ok 2 y)
        clear hsh
        cases b
        ·have HE:=Lib.hid (HSHORT.out o HOP.out (iv_badw hkk (by omega) HFK.out.symm HIV.out hlt2 (by rw [← hy.out,← HOK.out.1,← hb.out])))
         have hO:=HO3.out _ HQ.out.bel
         have HB:=Lib.hid (HBW.out _ HQ.out.bel)
         have s6:=hO.lt
         have a0:=(hO).cell 0 _ rfl;have a1:=(hO).cell 1 _ rfl;have a2:=(hO).cell 2 _ rfl;have a3:=(hO).cell 3 _ rfl;have a4:=(hO).cell 4 _ rfl;have g0:=(hO).free 0;have g1:=(hO).free 1;have g2:=(hO).free 2;have g3:=(hO).free 3;have g4:=(hO).free 4
         clear hO HIV HFK hpos
         go_wp2_with (go_at_call 174;refine ((HPA _).out).mono ?_;rintro e w6 ⟨rfl,rfl⟩)
         (refine bodyPost_ret (v:=.tuple #[(.agg #[.int .i64 (0),.int .i64 (0),.int .i64 (0),.int .i64 (0),.int .i64 (0)]),.int .i64 6]) (by simp [results,Tryz.results152,go_sem,a0,a1,a2,a3,a4,s6]) rfl ⟨by rw [HE.out],?_⟩;exact (((((HB.out.setCell (Nat.le_refl _) _).setCell (Nat.le_refl _) _).setCell (Nat.le_refl _) _).setCell (Nat.le_refl _) _).setCell (Nat.le_refl _) _))
        ·have hok : okP 2 r[at_ - 1] = true:=by rw [← hy.out,← HOK.out.1,← hb.out]
         have hva : v = vaP 2 r[at_ - 1]:=by rw [hv.out,HOK.out.2 (by rw [hy.out];exact hok),hy.out]
         have HIV2:=Lib.hid (iv_take hkk (by omega) HFK.out.symm HIV.out hlt2 hok v hva)
         have HQ2:=Lib.hid (HQ.out.put 2 (by omega) v)
         have j0:=HQ.out.ins.cell (2 + 1) (.int .i64 c2) rfl
         have j1:=HQ.out.ins.free (2 + 1)
         have w7 : IntKind.i64.wrap ((at_ : Int) + 1) = (at_ : Int) + 1:=by rw [IntKind.wrap_i64];omega
         clear HIV HFK hpos hok hva
         go_wp2_with (go_at_call 174;refine ((HPA _).out).mono ?_;rintro e w6 ⟨rfl,rfl⟩)
         go_roundw
         case rel=>exact ⟨2 + 1,at_ + 1,_,_,_,_,by omega,by go_num,by go_num,HQ2.out,HIV2.out⟩
         case measure=>simp [intOf]
     ·have HFK:=hf3
      have h0:=HQ.out.has.cell 3 _ rfl
      cases f3
      ·have HIV2:=Lib.hid (iv_skip hkk (by omega) HFK.out.symm HIV.out)
       clear HFK HIV
       go_wp2_with fail
       go_roundw
       case rel=>exact ⟨3 + 1,at_,c0,c1,c2,c3,by omega,by go_num,rfl,HQ.out,HIV2.out⟩
       case measure=>simp [intOf]
      ·by_cases hsh : r.length + 1 ≤ at_
       ·have HE:=Lib.hid (HSHORT.out o HOP.out (iv_short hkk (by omega) HFK.out.symm HIV.out (by omega)))
        have e1 : decide ((at_ : Int) ≥ (r.length : Int) + 1) = true:=decide_eq_true (by omega)
        have e2 : decide ((r.length : Int) + 1 ≤ (at_ : Int)) = true:=decide_eq_true (by omega)
        have e3 : decide (r.length + 1 ≤ at_) = true:=decide_eq_true hsh
        have hO:=HO3.out _ HQ.out.bel
        have HB:=Lib.hid (HBW.out _ HQ.out.bel)
        have s6:=hO.lt
        have a0:=(hO).cell 0 _ rfl;have a1:=(hO).cell 1 _ rfl;have a2:=(hO).cell 2 _ rfl;have a3:=(hO).cell 3 _ rfl;have a4:=(hO).cell 4 _ rfl;have g0:=(hO).free 0;have g1:=(hO).free 1;have g2:=(hO).free 2;have g3:=(hO).free 3;have g4:=(hO).free 4
        clear hO hsh HIV HFK
        go_wp2_with fail
        (refine bodyPost_ret (v:=.tuple #[(.agg #[.int .i64 (0),.int .i64 (0),.int .i64 (0),.int .i64 (0),.int .i64 (0)]),.int .i64 6]) (by simp [results,Tryz.results152,go_sem,a0,a1,a2,a3,a4,s6]) rfl ⟨by rw [HE.out],?_⟩;exact (((((HB.out.setCell (Nat.le_refl _) _).setCell (Nat.le_refl _) _).setCell (Nat.le_refl _) _).setCell (Nat.le_refl _) _).setCell (Nat.le_refl _) _))
       ·have e1 : decide ((at_ : Int) ≥ (r.length : Int) + 1) = false:=decide_eq_false (by omega)
        have e2 : decide ((r.length : Int) + 1 ≤ (at_ : Int)) = false:=decide_eq_false (by omega)
        have e3 : decide (r.length + 1 ≤ at_) = false:=decide_eq_false hsh
        have hpos:=HIV.out.pos
        have hlt2 : at_ - 1 < r.length:=by omega
        obtain ⟨y,hy⟩ : ∃ y,Hid (y = r[at_ - 1]):=⟨_,Lib.hid rfl⟩
        have hcy : wi.cell? ⟨g,off + at_,none⟩ = some (.string (ba y)):=by
         rw [HQ.out.bel.cell (p:=⟨g,off + at_,none⟩) hg2,HC2.out at_ (by simp;omega),hy.out]
         congr 3
         rw [List.getElem_cons,dif_neg (by omega)]
        have HY : Hid (y.length ≤ 100000000):=HSM.out y (by rw [hy.out];exact List.mem_cons_of_mem _ (List.getElem_mem _))
        have HPA:=fun W=>Lib.hid (part_any y HY.out (decide (3 < 3)) W)
        obtain ⟨v,hv⟩ : ∃ v,Hid (v = paN (decide (3 < 3)) y):=⟨_,Lib.hid rfl⟩
        obtain ⟨b,hb⟩ : ∃ b,Hid (b = paB (decide (3 < 3)) y):=⟨_,Lib.hid rfl⟩
        rw [← hv.out,← hb.out] at HPA
        have HOK:=Lib.hid (pa_ok 3 y)
        clear hsh
        cases b
        ·have HE:=Lib.hid (HSHORT.out o HOP.out (iv_badw hkk (by omega) HFK.out.symm HIV.out hlt2 (by rw [← hy.out,← HOK.out.1,← hb.out])))
         have hO:=HO3.out _ HQ.out.bel
         have HB:=Lib.hid (HBW.out _ HQ.out.bel)
         have s6:=hO.lt
         have a0:=(hO).cell 0 _ rfl;have a1:=(hO).cell 1 _ rfl;have a2:=(hO).cell 2 _ rfl;have a3:=(hO).cell 3 _ rfl;have a4:=(hO).cell 4 _ rfl;have g0:=(hO).free 0;have g1:=(hO).free 1;have g2:=(hO).free 2;have g3:=(hO).free 3;have g4:=(hO).free 4
         clear hO HIV HFK hpos
         go_wp2_with (go_at_call 174;refine ((HPA _).out).mono ?_;rintro e w6 ⟨rfl,rfl⟩)
         (refine bodyPost_ret (v:=.tuple #[(.agg #[.int .i64 (0),.int .i64 (0),.int .i64 (0),.int .i64 (0),.int .i64 (0)]),.int .i64 6]) (by simp [results,Tryz.results152,go_sem,a0,a1,a2,a3,a4,s6]) rfl ⟨by rw [HE.out],?_⟩;exact (((((HB.out.setCell (Nat.le_refl _) _).setCell (Nat.le_refl _) _).setCell (Nat.le_refl _) _).setCell (Nat.le_refl _) _).setCell (Nat.le_refl _) _))
        ·have hok : okP 3 r[at_ - 1] = true:=by rw [← hy.out,← HOK.out.1,← hb.out]
         have hva : v = vaP 3 r[at_ - 1]:=by rw [hv.out,HOK.out.2 (by rw [hy.out];exact hok),hy.out]
         have HIV2:=Lib.hid (iv_take hkk (by omega) HFK.out.symm HIV.out hlt2 hok v hva)
         have HQ2:=Lib.hid (HQ.out.put 3 (by omega) v)
         have j0:=HQ.out.ins.cell (3 + 1) (.int .i64 c3) rfl
         have j1:=HQ.out.ins.free (3 + 1)
         have w7 : IntKind.i64.wrap ((at_ : Int) + 1) = (at_ : Int) + 1:=by rw [IntKind.wrap_i64];omega
         clear HIV HFK hpos hok hva
         go_wp2_with (go_at_call 174;refine ((HPA _).out).mono ?_;rintro e w6 ⟨rfl,rfl⟩)
         go_roundw
         case rel=>exact ⟨3 + 1,at_ + 1,_,_,_,_,by omega,by go_num,by go_num,HQ2.out,HIV2.out⟩
         case measure=>simp [intOf]
     ·obtain ⟨t0,v0,v1,v2,v3⟩:=iv_end hkk HIV.out
      have hO:=HO3.out _ HQ.out.bel
      have HB:=Lib.hid (HBW.out _ HQ.out.bel)
      have s6:=hO.lt
      by_cases hat : at_ = r.length + 1
      ·have HEE:=Lib.hid (HEND.out o c0 c1 c2 c3 HOP.out (by have:=HO1.out;omega) (by rw [t0];exact decide_eq_true hat) v0 v1 v2 v3)
       have k0:=HQ.out.ins.cell 0 _ rfl;have k1:=HQ.out.ins.cell 1 _ rfl;have k2:=HQ.out.ins.cell 2 _ rfl;have k3:=HQ.out.ins.cell 3 _ rfl;have k4:=HQ.out.ins.cell 4 _ rfl
       have HO4:=Lib.hid hO
       have HB4:=HB
       subst hat
       clear t0 v0 v1 v2 v3 HIV HB hO s6
       cases hval : Isa.validB o c0 c1 c2 c3
       ·have HE:=Lib.hid (HEE.out.1 hval)
        have HVL:=Lib.hid hval
        clear hval HEE
        go_wp2_with (go_at_call 115;refine (Isa.Valid_ref _ _ _ _ _ _).mono ?_;rintro e w8 ⟨rfl,hb8⟩;rw [HVL.out];have hO:=HO4.out.below hb8;have HB : Hid (Below w.heap.size w w8):=bmore HB4.out hb8;have s6:=hO.lt;have a0:=(hO).cell 0 _ rfl;have a1:=(hO).cell 1 _ rfl;have a2:=(hO).cell 2 _ rfl;have a3:=(hO).cell 3 _ rfl;have a4:=(hO).cell 4 _ rfl;have g0:=(hO).free 0;have g1:=(hO).free 1;have g2:=(hO).free 2;have g3:=(hO).free 3;have g4:=(hO).free 4;clear hO hb8)
        (refine bodyPost_ret (v:=.tuple #[(.agg #[.int .i64 (0),.int .i64 (0),.int .i64 (0),.int .i64 (0),.int .i64 (0)]),.int .i64 6]) (by simp [results,Tryz.results152,go_sem,a0,a1,a2,a3,a4,s6]) rfl ⟨by rw [HE.out],?_⟩;exact (((((HB.out.setCell (Nat.le_refl _) _).setCell (Nat.le_refl _) _).setCell (Nat.le_refl _) _).setCell (Nat.le_refl _) _).setCell (Nat.le_refl _) _))
       ·have HE:=Lib.hid (HEE.out.2 hval)
        have HVL:=Lib.hid hval
        clear hval HEE
        go_wp2_with (go_at_call 115;refine (Isa.Valid_ref _ _ _ _ _ _).mono ?_;rintro e w8 ⟨rfl,hb8⟩;rw [HVL.out];have hO:=HO4.out.below hb8;have HB : Hid (Below w.heap.size w w8):=bmore HB4.out hb8;have s6:=hO.lt;have a0:=(hO).cell 0 _ rfl;have a1:=(hO).cell 1 _ rfl;have a2:=(hO).cell 2 _ rfl;have a3:=(hO).cell 3 _ rfl;have a4:=(hO).cell 4 _ rfl;have g0:=(hO).free 0;have g1:=(hO).free 1;have g2:=(hO).free 2;have g3:=(hO).free 3;have g4:=(hO).free 4;have k0:=(HQ.out.ins.below hb8).cell 0 _ rfl;have k1:=(HQ.out.ins.below hb8).cell 1 _ rfl;have k2:=(HQ.out.ins.below hb8).cell 2 _ rfl;have k3:=(HQ.out.ins.below hb8).cell 3 _ rfl;have k4:=(HQ.out.ins.below hb8).cell 4 _ rfl;clear hO hb8)
        (refine bodyPost_ret (v:=.tuple #[(.agg #[.int .i64 (o),.int .i64 (c0),.int .i64 (c1),.int .i64 (c2),.int .i64 (c3)]),.int .i64 0]) (by simp [results,Tryz.results152,go_sem,a0,a1,a2,a3,a4,s6]) rfl ⟨by rw [HE.out],?_⟩;exact (((((HB.out.setCell (Nat.le_refl _) _).setCell (Nat.le_refl _) _).setCell (Nat.le_refl _) _).setCell (Nat.le_refl _) _).setCell (Nat.le_refl _) _))
      ·have HE:=Lib.hid (HSHORT.out o HOP.out (by rw [t0];exact decide_eq_false hat))
       have n1 : ((at_ : Int) != (r.length : Int) + 1) = true:=by simp;omega
       have a0:=(hO).cell 0 _ rfl;have a1:=(hO).cell 1 _ rfl;have a2:=(hO).cell 2 _ rfl;have a3:=(hO).cell 3 _ rfl;have a4:=(hO).cell 4 _ rfl;have g0:=(hO).free 0;have g1:=(hO).free 1;have g2:=(hO).free 2;have g3:=(hO).free 3;have g4:=(hO).free 4
       clear hO t0 v0 v1 v2 v3 HIV
       go_wp2_with fail
       (refine bodyPost_ret (v:=.tuple #[(.agg #[.int .i64 (0),.int .i64 (0),.int .i64 (0),.int .i64 (0),.int .i64 (0)]),.int .i64 6]) (by simp [results,Tryz.results152,go_sem,a0,a1,a2,a3,a4,s6]) rfl ⟨by rw [HE.out],?_⟩;exact (((((HB.out.setCell (Nat.le_refl _) _).setCell (Nat.le_refl _) _).setCell (Nat.le_refl _) _).setCell (Nat.le_refl _) _).setCell (Nat.le_refl _) _))
   ·have de : ((ba (opName o)).toList == (ba x).toList) = false:=by rw [hbq,decide_eq_false he]
    have de' : ((ba (opName o)).toList != (ba x).toList) = true:=by rw [bne,de];rfl
    have HN2 : Hid (∀ j,1 ≤ j → j < o + 1 → opName j ≠ x):=fun j h1 h2=>by
     by_cases e : j = o
     ·subst e;exact he
     ·exact HN.out j h1 (by omega)
    clear he hbq
    go_region
    all_goals
     go_wp2_with fail
     go_roundw
     case rel=>exact ⟨o + 1,by omega,by omega,by go_num,HBE.out.drew,HN2.out⟩
     case measure=>simp [intOf];omega
  ·have d1 : decide ((o : Int) ≤ 41) = false:=decide_eq_false (by omega)
   have d1' : decide (o ≤ 41) = false:=decide_eq_false hlt
   have HE : Hid (R = .tuple #[(.agg #[.int .i64 (0),.int .i64 (0),.int .i64 (0),.int .i64 (0),.int .i64 (0)]),.int .i64 6]):=HNO.out (opV_none (fun j h1 h2=>HN.out j h1 (by omega)))
   have hO:=HO2.out.below HBE.out
   have HB : Hid (Below w.heap.size w wo):=((Below.refl _ _).alloc (Nat.le_refl _) _).trans ((HB2.out.trans (HBE.out.mono HB2.out.size)).mono (by simp))
   have s6:=hO.lt
   have a0:=(hO).cell 0 _ rfl;have a1:=(hO).cell 1 _ rfl;have a2:=(hO).cell 2 _ rfl;have a3:=(hO).cell 3 _ rfl;have a4:=(hO).cell 4 _ rfl;have g0:=(hO).free 0;have g1:=(hO).free 1;have g2:=(hO).free 2;have g3:=(hO).free 3;have g4:=(hO).free 4
   clear hO
   go_wp2_with fail
   (refine bodyPost_ret (v:=.tuple #[(.agg #[.int .i64 (0),.int .i64 (0),.int .i64 (0),.int .i64 (0),.int .i64 (0)]),.int .i64 6]) (by simp [results,Tryz.results152,go_sem,a0,a1,a2,a3,a4,s6]) rfl ⟨by rw [HE.out],?_⟩;exact (((((HB.out.setCell (Nat.le_refl _) _).setCell (Nat.le_refl _) _).setCell (Nat.le_refl _) _).setCell (Nat.le_refl _) _).setCell (Nat.le_refl _) _))
end Go.Proofs.YtoklonmiejdgmaaGreatDoor.As
/- The reference for asm: a line's word; lines, plain. -/
namespace Go.Proofs.YtoklonmiejdgmaaGreatDoor.As
set_option linter.unusedVariables false
set_option linter.unusedSimpArgs false
set_option linter.unnecessarySimpa false
open Go.RowKit Go.Sort
set_option maxHeartbeats 2000000
set_option maxRecDepth 100000
set_option linter.unusedVariables false
theorem rparse_any (s : ByteArray) (hs : s.size ≤ 100000000) (w : World) :
  Calls Tryz.prog 152 #[.string s] w fun e w'=>e = .returned (parV s.data.toList) ∧ Below w.heap.size w w':=by
 cases hw : wordsB s.data.toList
 ·exact rparse_none s hs w hw
 ·exact rparse_yes s hs w hw
theorem fields_sep (c : UInt8) : ∀ s : List UInt8,fieldsC c (s ++ [c]) = fieldsC c s ++ [[]]
 | []=>by simp [fieldsC]
 | b :: t=>by
  have ih:=fields_sep c t
  by_cases h : b = c
  ·rw [List.cons_append,fieldsC,if_pos h,ih,fieldsC,if_pos h];rfl
  ·obtain ⟨x,r,h1,h2⟩:=fieldsC_cons h t
   obtain ⟨x',r',h1',h2'⟩:=fieldsC_cons h (t ++ [c])
   rw [List.cons_append,h2',h2]
   rw [h1,h1'] at ih
   injection ih with ih1 ih2
   rw [ih1,ih2];rfl
theorem fields_snoc (c b : UInt8) (hb : b ≠ c) : ∀ s : List UInt8,∃ D y,fieldsC c (s ++ [b]) = D ++ [y ++ [b]]
 | []=>⟨[],[],by rw [List.nil_append,fieldsC_free c [b] (by simp;exact hb)];rfl⟩
 | a :: t=>by
  obtain ⟨D,y,ih⟩:=fields_snoc c b hb t
  by_cases h : a = c
  ·exact ⟨[] :: D,y,by rw [List.cons_append,fieldsC,if_pos h,ih];rfl⟩
  ·obtain ⟨x',r',h1',h2'⟩:=fieldsC_cons h (t ++ [b])
   rw [ih] at h1'
   cases D with
   | nil=>
    rw [List.nil_append] at h1'
    injection h1' with e1 e2
    exact ⟨[],a :: y,by rw [List.cons_append,h2',← e1,← e2];rfl⟩
   | cons d D=>
    rw [List.cons_append] at h1'
    injection h1' with e1 e2
    exact ⟨(a :: x') :: D,y,by rw [List.cons_append,h2',← e2];rfl⟩
theorem last_field (s : List UInt8) : (fieldsC 10 s).getLast? = some [] ↔ s = [] ∨ s.getLast? = some 10:=by
 rcases List.eq_nil_or_concat s with rfl | ⟨t,b,rfl⟩
 ·simp [fieldsC]
 ·rw [List.concat_eq_append]
  by_cases h : b = 10
  ·subst h
   rw [fields_sep];simp
  ·obtain ⟨D,y,e⟩:=fields_snoc 10 b h t
   rw [e]
   simp [h]
theorem suf_last (s : List UInt8) : lnE s = true ↔ s.getLast? = some 10:=by
 unfold lnE Lib.hasSuffix
 rw [List.isSuffixOf_iff_suffix]
 constructor
 ·rintro ⟨t,rfl⟩;simp
 ·intro h
  obtain ⟨t,ht⟩:=List.getLast?_eq_some_iff.1 h
  exact ⟨t,ht.symm⟩
theorem lnL_len (s : List UInt8) : (lnL s).length = s.count 10 + (if s ≠ [] ∧ s.getLast? ≠ some 10 then 1 else 0):=by
 by_cases h : (fieldsC 10 s).getLast? = some []
 ·rw [lnL_some h,List.length_dropLast,fieldsC_len]
  have:=(last_field s).1 h
  rw [if_neg (by rintro ⟨h1,h2⟩;rcases this with h3 | h3 <;> contradiction)];rfl
 ·rw [lnL_none h,fieldsC_len]
  have h2 : ¬ (s = [] ∨ s.getLast? = some 10):=fun h3=>h ((last_field s).2 h3)
  rw [if_pos ⟨fun e=>h2 (.inl e),fun e=>h2 (.inr e)⟩]
/-- A text in the midst of its lines: the line that ends here is no word. -/
theorem mid_bad {s : List UInt8} {done : Words} {cur : List UInt8} {r : Words} (h : fieldsC 10 s = done ++ cur :: r) (hr : r ≠ []) (hd : ∀ x ∈ done,wdB x = true) (hc : wdB cur = false) :
  done.length < (lnL s).length ∧ badAt (lnE s) (lnL s) done.length = true ∧ ∀ j,j < done.length → badAt (lnE s) (lnL s) j = false:=by
 have hl : done.length + 1 ≤ (lnL s).length:=by
  have hr1 : 1 ≤ r.length:=by cases r with
   | nil=>exact absurd rfl hr
   | cons=>simp
  have hf : (fieldsC 10 s).length = done.length + 1 + r.length:=by rw [h];simp;omega
  by_cases h1 : (fieldsC 10 s).getLast? = some []
  ·rw [lnL_some h1,List.length_dropLast,hf];omega
  ·rw [lnL_none h1,hf];omega
 have hg : ∀ j (hj : j < (lnL s).length),(lnL s)[j] = (done ++ cur :: r)[j]'(by obtain ⟨h1,_⟩:=lnL_get s j hj;rw [h] at h1;exact h1):=fun j hj=>by
  obtain ⟨h1,h2⟩:=lnL_get s j hj
  exact h2.trans (by simp only [h])
 refine ⟨hl,?_,fun j hj=>?_⟩
 ·rw [bad_at hl,hg _ hl]
  simp [hc]
 ·rw [bad_at (show j < (lnL s).length by omega),hg _ (by omega)]
  have : (done ++ cur :: r)[j]'(by simp;omega) = done[j]:=List.getElem_append_left hj
  rw [this,hd _ (List.getElem_mem hj),decide_eq_false (by omega)];rfl
theorem end_bad {s : List UInt8} {done : Words} {cur : List UInt8} (h : fieldsC 10 s = done ++ [cur]) (hd : ∀ x ∈ done,wdB x = true) (hc : cur ≠ []) :
  done.length < (lnL s).length ∧ badAt (lnE s) (lnL s) done.length = true ∧ ∀ j,j < done.length → badAt (lnE s) (lnL s) j = false:=by
 have h1 : ¬ (fieldsC 10 s).getLast? = some []:=by rw [h];simp;exact hc
 have hL : lnL s = done ++ [cur]:=by rw [lnL_none h1,h]
 have hE : lnE s = false:=by
  cases he : lnE s
  ·rfl
  ·exact absurd ((last_field s).2 (.inr ((suf_last s).1 he))) h1
 have hl : done.length < (lnL s).length:=by rw [hL];simp
 refine ⟨hl,?_,fun j hj=>?_⟩
 ·rw [bad_at hl,hE,decide_eq_true (by rw [hL];simp)];simp
 ·rw [bad_at (show j < (lnL s).length by omega)]
  have : (lnL s)[j]'(by omega) = done[j]:=by simp only [hL];exact List.getElem_append_left hj
  rw [this,hd _ (List.getElem_mem hj),decide_eq_false (by rw [hL];simp;omega)];rfl
theorem end_good {s : List UInt8} {done : Words} (h : fieldsC 10 s = done ++ [[]]) (hd : ∀ x ∈ done,wdB x = true) :
  lnL s = done ∧ ∀ j,j < (lnL s).length → badAt (lnE s) (lnL s) j = false:=by
 have h1 : (fieldsC 10 s).getLast? = some []:=by rw [h];simp
 have hL : lnL s = done:=by rw [lnL_some h1,h];simp
 refine ⟨hL,fun j hj=>?_⟩
 rw [bad_at hj]
 have : (lnL s)[j] = done[j]'(by rw [← hL];exact hj):=by simp only [hL]
 rw [this,hd _ (List.getElem_mem _)]
 rcases (last_field s).1 h1 with h2 | h2
 ·subst h2
  have : done = []:=by
   have:=congrArg List.length h
   simp [fieldsC] at this
   exact this
  rw [hL,this] at hj;simp at hj
 ·rw [(suf_last s).2 h2];simp
theorem wd_no : parB wdP = false:=by decide +kernel
theorem pre_app {s : List UInt8} (h : Lib.hasPrefix s wdP = true) : s.take 6 = wdP ∧ 6 ≤ s.length ∧ Lib.trimPrefix s wdP = s.drop 6:=by
 have h':=h
 unfold Lib.hasPrefix at h
 rw [List.isPrefixOf_iff_prefix] at h
 obtain ⟨t,rfl⟩:=h
 refine ⟨by simp [wdP],by simp [wdP],?_⟩
 unfold Lib.trimPrefix
 rw [if_pos h'];rfl
theorem pre_take {s : List UInt8} (h : Lib.hasPrefix s wdP = false) : s.take 6 ≠ wdP:=fun e=>by
 have : Lib.hasPrefix s wdP = true:=by
  unfold Lib.hasPrefix
  rw [List.isPrefixOf_iff_prefix]
  exact ⟨s.drop 6,by rw [← e];exact List.take_append_drop 6 s⟩
 rw [h] at this;cases this
theorem rword_any (s : List UInt8) (hs : s.length ≤ 100000000) (w : World) :
  Calls Tryz.prog 107 #[.string (ba s)] w fun e w'=>e = .returned (.tuple #[.int .u32 (wdV s),.bool (wdB s)]) ∧ Below w.heap.size w w':=by
 have hz : (ba s).size = s.length:=ba_size s
 have HPA : Hid (∀ W,Calls Tryz.prog 152 #[.string (ba s)] W fun e w'=>e = .returned (parV s) ∧ Below W.heap.size W w'):=fun W=>rparse_any (ba s) (by rw [ba_size];exact hs) W
 have hext : ((ba s).extract 0 6).data.toList = s.take 6:=by rw [Lib.extract_data,ba_data];rfl
 have hq : (((ba s).extract 0 6).toList == [46,119,111,114,100,32]) = decide (s.take 6 = wdP):=by
  rw [ByteArray.toList_eq,hext]
  by_cases h : s.take 6 = wdP
  ·rw [h];rfl
  ·rw [decide_eq_false h,beq_eq_false_iff_ne];exact h
 have HBG : Hid (∀ W,6 ≤ s.length → Calls Tryz.prog 151 #[.string ((ba s).extract 6 (ba s).size)] W fun e w'=>e = .returned (.tuple #[.int .u32 (lgN (s.drop 6)),.bool (lgB (s.drop 6))]) ∧ W = w'):=fun W h=>by
  have:=rbig_any ((ba s).extract 6 (ba s).size) (by rw [ByteArray.size_extract,hz];unfold maxLen;omega) W
  rw [Lib.extract_to_end,ba_data] at this
  exact this
 obtain ⟨b,hb⟩ : ∃ b : ByteArray,b = ba s:=⟨_,rfl⟩
 rw [← hb] at hz hq HPA HBG ⊢
 clear hext hb
 have hzm : b.size ≤ 9223372036854775807:=by omega
 by_cases hbig : 6 < s.length ∧ Lib.hasPrefix s wdP = true
 ·obtain ⟨h6,hp⟩:=hbig
  obtain ⟨p1,p2,p3⟩:=pre_app hp
  have d1 : decide ((b.size : Int) > 6) = true:=decide_eq_true (by omega)
  have d1' : decide (6 < b.size) = true:=decide_eq_true (by omega)
  have hb6 : 6 ≤ b.size:=by omega
  rw [decide_eq_true p1] at hq
  have HV : Hid (wdV s = lgN (s.drop 6)):=by unfold wdV Hid;rw [if_pos hp,p3]
  have HB : Hid (wdB s = lgB (s.drop 6)):=by unfold wdB Hid;rw [if_pos hp,p3]
  clear h6 hp p1 p3 HPA hz
  go_enter Tryz.func107,Tryz.ntmps107
  go_wp2_with (go_at_call 151;refine (HBG.out _ p2).mono ?_;rintro e w1 ⟨rfl,rfl⟩)
  go_ret2
  exact ⟨by rw [HV.out,HB.out];rfl,Below.refl _ _⟩
 ·have hpar : wdV s = (if parB s then Isa.wordI (parO s) (parD s) (parA s) (parC s) (parN s) else 0) ∧ wdB s = parB s:=by
   unfold wdV wdB
   cases hp : Lib.hasPrefix s wdP
   ·exact ⟨by rw [if_neg (by simp)],by rw [if_neg (by simp)]⟩
   ·obtain ⟨p1,p2,p3⟩:=pre_app hp
    have h6 : s.length = 6:=by
     rcases Nat.lt_or_ge 6 s.length with h | h
     ·exact absurd ⟨h,hp⟩ hbig
     ·omega
    have hs6 : s = wdP:=by rw [← p1,List.take_of_length_le (by omega)]
    rw [if_pos rfl,if_pos rfl,p3,hs6,wd_no]
    exact ⟨rfl,rfl⟩
  have HV:=Lib.hid hpar.1
  have HB:=Lib.hid hpar.2
  have key : ∀ goal : Prop,(decide ((b.size : Int) > 6) = false → decide (6 < b.size) = false → goal) → (decide ((b.size : Int) > 6) = true → decide (6 < b.size) = true → ((b.extract 0 6).toList == [46,119,111,114,100,32]) = false → 6 ≤ b.size → goal) → goal:=fun goal h1 h2=>by
   by_cases h : 6 < b.size
   ·refine h2 (decide_eq_true (by omega)) (decide_eq_true h) ?_ (by omega)
    rw [hq]
    apply decide_eq_false
    cases hp : Lib.hasPrefix s wdP
    ·exact pre_take hp
    ·exact absurd ⟨by omega,hp⟩ hbig
   ·exact h1 (decide_eq_false (by omega)) (decide_eq_false h)
  clear hbig hpar hq HBG hz
  cases hpb : parB s
  ·have HPV:=Lib.hid (parV_no hpb)
   have HV2 : Hid (wdV s = 0):=by rw [Hid,HV.out,if_neg (by rw [hpb];simp)]
   have HB2 : Hid (wdB s = false):=by rw [Hid,HB.out,hpb]
   clear hpb HV HB
   refine key _ (fun d1 d1'=>?_) (fun d1 d1' hq6 hb6=>?_)
   all_goals
    clear key
    go_enter Tryz.func107,Tryz.ntmps107
    go_wp2_with fail
    refine (HPA.out _).mono ?_;rintro e w2 ⟨rfl,hb2⟩
    rw [HPV.out]
    have HB3:=Lib.hid (hb2.alloc hb2.size (.cells #[.int .i64 0,.int .i64 0,.int .i64 0,.int .i64 0,.int .i64 0] 145))
    clear hb2
    go_wp2_with fail
    go_ret2
    exact ⟨by rw [HV2.out,HB2.out];rfl,HB3.out⟩
  ·obtain ⟨hpv,hvd⟩:=parV_yes hpb
   have HV2 : Hid (wdV s = Isa.wordI (parO s) (parD s) (parA s) (parC s) (parN s)):=by rw [Hid,HV.out,if_pos hpb]
   have HB2 : Hid (wdB s = true):=by rw [Hid,HB.out,hpb]
   clear hpb HV HB
   have HPV:=Lib.hid hpv
   have HE : Hid (∀ W,Calls Tryz.prog 153 #[(.agg #[.int .i64 (parO s),.int .i64 (parD s),.int .i64 (parA s),.int .i64 (parC s),.int .i64 (parN s)])] W fun e w'=>e = .returned (.tuple #[.int .u32 (Isa.wordI (parO s) (parD s) (parA s) (parC s) (parN s)),.int .i64 0]) ∧ Below W.heap.size W w'):=fun W=>by
    have:=Isa.Encode_ref (parO s) (parD s) (parA s) (parC s) (parN s) W
    unfold Isa.encW Isa.encE at this
    rw [if_pos hvd,if_pos hvd] at this
    exact this
   clear hvd hpv
   generalize parO s = o at HPV HE HV2
   generalize parD s = d at HPV HE HV2
   generalize parA s = a at HPV HE HV2
   generalize parC s = c at HPV HE HV2
   generalize parN s = n at HPV HE HV2
   refine key _ (fun d1 d1'=>?_) (fun d1 d1' hq6 hb6=>?_)
   all_goals
    clear key
    go_enter Tryz.func107,Tryz.ntmps107
    go_wp2_with fail
    refine (HPA.out _).mono ?_;rintro e w2 ⟨rfl,hb2⟩
    rw [HPV.out]
    have HB3:=Lib.hid (hb2.alloc hb2.size (.cells #[.int .i64 o,.int .i64 d,.int .i64 a,.int .i64 c,.int .i64 n] 145))
    clear hb2
    go_wp2_with (go_at_call 153;refine (HE.out _).mono ?_;rintro e w3 ⟨rfl,hb3⟩)
    go_ret2
    exact ⟨by rw [HV2.out,HB2.out];rfl,bmore HB3.out hb3⟩
end Go.Proofs.YtoklonmiejdgmaaGreatDoor.As
/- The reference for asm: Program. -/
namespace Go.Proofs.YtoklonmiejdgmaaGreatDoor.As
set_option linter.unusedVariables false
set_option linter.unusedSimpArgs false
set_option linter.unnecessarySimpa false
open Go.RowKit Go.Sort
set_option maxHeartbeats 2000000
set_option maxRecDepth 100000
set_option linter.unusedVariables false
/-- The count of lines ahead of place k. -/
def lnC (l : List UInt8) (k : Nat) : Nat:=(l.take k).count 10 + (if k = l.length ∧ l ≠ [] ∧ l.getLast? ≠ some 10 then 1 else 0)
theorem lnC_zero (l : List UInt8) : lnC l 0 = 0:=by
 unfold lnC
 rw [if_neg (by rintro ⟨h1,h2,_⟩;exact h2 (List.eq_nil_of_length_eq_zero h1.symm))];simp
theorem lnC_end (l : List UInt8) : lnC l l.length = (lnL l).length:=by
 unfold lnC
 rw [lnL_len,List.take_length]
 simp
theorem lnC_step (l : List UInt8) (k : Nat) (h : k < l.length) : lnC l (k + 1) = lnC l k + (if l[k] = 10 ∨ k + 1 = l.length then 1 else 0):=by
 unfold lnC
 rw [List.take_succ_eq_append_getElem h,List.count_append,if_neg (c:=k = l.length ∧ l ≠ [] ∧ l.getLast? ≠ some 10) (by omega)]
 have hne : l ≠ []:=by intro e;rw [e] at h;simp at h
 by_cases h1 : l[k] = 10
 ·rw [if_pos (c:=l[k] = 10 ∨ k + 1 = l.length) (.inl h1)]
  have : ¬ (k + 1 = l.length ∧ l ≠ [] ∧ l.getLast? ≠ some 10):=by
   rintro ⟨h2,_,h3⟩
   apply h3
   rw [List.getLast?_eq_getElem?,← h2]
   simp only [Nat.add_sub_cancel]
   rw [List.getElem?_eq_getElem h,h1]
  rw [if_neg this,h1];simp
 ·by_cases h2 : k + 1 = l.length
  ·rw [if_pos (c:=l[k] = 10 ∨ k + 1 = l.length) (.inr h2)]
   have : k + 1 = l.length ∧ l ≠ [] ∧ l.getLast? ≠ some 10:=by
    refine ⟨h2,hne,?_⟩
    rw [List.getLast?_eq_getElem?,← h2]
    simp only [Nat.add_sub_cancel]
    rw [List.getElem?_eq_getElem h]
    intro e;injection e with e;exact h1 e
   rw [if_pos this]
   simp [h1]
  ·rw [if_neg (c:=l[k] = 10 ∨ k + 1 = l.length) (by rintro (h3 | h3) <;> contradiction),if_neg (by rintro ⟨h3,_⟩;exact h2 h3)]
   simp [h1]
theorem lnC_le (l : List UInt8) (k : Nat) (h : k ≤ l.length) : lnC l k ≤ k:=by
 induction k with
 | zero=>rw [lnC_zero];exact Nat.le_refl _
 | succ k ih=>
  rw [lnC_step l k (by omega)]
  have:=ih (by omega)
  split <;> omega
structure SQ (w W : World) (ao : Option Addr) (co : Nat) (done : Words) (ab : Option Addr) (cb : Nat) (cur : List UInt8) : Prop where
 o : Own W w.heap.size 70 1 ao done.length co (uC (done.map wdV))
 b : Own W w.heap.size 5 1 ab cur.length cb (bC cur)
 bel : Below w.heap.size w W
theorem SQ.below {w W W' : World} {ao ab : Option Addr} {co cb : Nat} {done : Words} {cur : List UInt8} (h : SQ w W ao co done ab cb cur) (hb : Below W.heap.size W W') : SQ w W' ao co done ab cb cur:=⟨h.o.below hb,h.b.below hb,h.bel.trans (hb.mono h.bel.size)⟩
theorem rprogram_any (s : ByteArray) (hs : s.size ≤ 100000000) (w : World) : Calls Tryz.prog 61 #[.string s] w (PgPost s.data.toList w):=by
 obtain ⟨iu,hiu,hzu,hzu1,hzu2⟩:=info_parts info_u32
 obtain ⟨ib,hib,hzb,hzb1,hzb2⟩:=info_parts info_byte
 obtain ⟨l,hl⟩ : ∃ l,l = s.data.toList:=⟨_,rfl⟩
 have hsl : l.length = s.size:=by rw [hl,ba_len]
 obtain ⟨F,hF⟩ : ∃ F,F = fieldsC 10 l:=⟨_,rfl⟩
 rw [← hl]
 have HLG : Hid (pgLong l = (decide (16384 < s.size) || decide (512 < (lnL l).length))):=by rw [Hid,pgLong,hsl]
 have HPL : Hid (∀ w',pgLong l = true → Below w.heap.size w w' → PgPost l w (.returned (.tuple #[.slice none 0 0,.int .i64 10,.int .i64 0])) w'):=fun w' h hb=>pg_long h hb
 have HPM : Hid (∀ (w' : World) (done : Words) (cur : List UInt8) (r : Words),pgLong l = false → F = done ++ cur :: r → r ≠ [] → (∀ x ∈ done,wdB x = true) → wdB cur = false → Below w.heap.size w w' → PgPost l w (.returned (.tuple #[.slice none 0 0,.int .i64 6,.int .i64 ((done.length : Int) + 1)])) w'):=fun w' done cur r h1 h2 h3 h4 h5 h6=>by
  subst hF
  obtain ⟨e1,e2,e3⟩:=mid_bad h2 h3 h4 h5
  exact pg_bad h1 e1 e2 e3 h6
 have HPE : Hid (∀ (w' : World) (done : Words) (cur : List UInt8),pgLong l = false → F = done ++ [cur] → (∀ x ∈ done,wdB x = true) → cur ≠ [] → Below w.heap.size w w' → PgPost l w (.returned (.tuple #[.slice none 0 0,.int .i64 6,.int .i64 ((done.length : Int) + 1)])) w'):=fun w' done cur h1 h2 h4 h5 h6=>by
  subst hF
  obtain ⟨e1,e2,e3⟩:=end_bad h2 h4 h5
  exact pg_bad h1 e1 e2 e3 h6
 have HPG : Hid (∀ (w' : World) (a : Option Addr) (cap : Nat) (done : Words),pgLong l = false → F = done ++ [[]] → (∀ x ∈ done,wdB x = true) → Own w' w.heap.size 70 1 a done.length cap (uC (done.map wdV)) → Below w.heap.size w w' → PgPost l w (.returned (.tuple #[.slice a done.length cap,.int .i64 0,.int .i64 0])) w'):=fun w' a cap done h1 h2 h3 h4 h5=>by
  subst hF
  obtain ⟨e1,e2⟩:=end_good h2 h3
  exact pg_good h1 e2 (by rw [e1]) (by rw [e1];exact h4) h5
 have HC0:=Lib.hid (lnC_zero l)
 have HCE:=Lib.hid (lnC_end l)
 have HCS:=Lib.hid (lnC_step l)
 have HCL:=Lib.hid (lnC_le l)
 have HG : Hid (∀ k (h : k < l.length) (h' : k < s.size),l[k] = s[k]):=fun k h h'=>by subst hl;exact ba_get s k h'
 have HDR : Hid (∀ k (h : k < s.size),l.drop k = s[k] :: l.drop (k + 1)):=fun k h=>by
  rw [List.drop_eq_getElem_cons (show k < l.length by omega),HG.out k (by omega) h]
 have HDE : Hid (l.drop s.size = []):=List.drop_eq_nil_of_le (by omega)
 have HF:=Lib.hid hF
 have HSL:=Lib.hid hsl
 have HS0 : Hid (SQ w w none 0 [] none 0 []):=⟨Own.nil _ _ _ _,Own.nil _ _ _ _,Below.refl _ _⟩
 clear hl hsl hF
 go_enter Tryz.func61,Tryz.ntmps61
 go_wp2
 go_loop [5,6] (fun n i=>∃ k : Nat,k ≤ s.size ∧ i = .int .i64 k ∧ n = .int .i64 (lnC l k)) (fun _ i=>s.size - (intOf i).toNat)
 case atStart=>exact ⟨0,by omega,rfl,by rw [HC0.out];rfl⟩
 case round=>
  obtain ⟨k,hk,rfl,rfl⟩:=hrel
  by_cases hlt : k < s.size
  ·have hlk : k < l.length:=by rw [HSL.out];exact hlt
   have hst:=HCS.out k hlk
   rw [HG.out k hlk hlt,HSL.out] at hst
   have HST:=Lib.hid hst
   have hle:=HCL.out k (by omega)
   clear hst
   generalize lnC l k = c at HST hle ⊢
   have d1 : decide ((k : Int) < (s.size : Int)) = true:=decide_eq_true (by omega)
   have d1' : decide (k < s.size) = true:=decide_eq_true hlt
   have w1 : IntKind.i64.wrap ((k : Int) + 1) = (k : Int) + 1:=by rw [IntKind.wrap_i64];omega
   have w2 : IntKind.i64.wrap ((s.size : Int) - 1) = (s.size : Int) - 1:=by rw [IntKind.wrap_i64];omega
   have w3 : IntKind.i64.wrap ((c : Int) + 1) = (c : Int) + 1:=by rw [IntKind.wrap_i64];omega
   have h10 : (s[k] = 10) ↔ s[k].toNat = 10:=⟨fun e=>by rw [e];rfl,fun e=>by rw [← UInt8.toNat_inj];exact e⟩
   by_cases h1 : s[k].toNat = 10
   ·have e1 : ((s[k].toNat : Int) == 10) = true:=by simp [h1]
    have HN : Hid (lnC l (k + 1) = c + 1):=by rw [Hid,HST.out,if_pos (.inl (h10.2 h1))]
    clear h1 h10 hlk
    go_wp2
    go_round
    case rel=>exact ⟨k + 1,by omega,by go_num,by rw [HN.out];go_num⟩
    case measure=>simp [intOf];omega
   ·have e1 : ((s[k].toNat : Int) == 10) = false:=by rw [beq_eq_false_iff_ne];omega
    by_cases h2 : k + 1 = s.size
    ·have e2 : ((k : Int) == (s.size : Int) - 1) = true:=by rw [beq_iff_eq];omega
     have HN : Hid (lnC l (k + 1) = c + 1):=by rw [Hid,HST.out,if_pos (.inr h2)]
     clear h1 h10 hlk h2
     go_wp2
     go_round
     case rel=>exact ⟨k + 1,by omega,by go_num,by rw [HN.out];go_num⟩
     case measure=>simp [intOf];omega
    ·have e2 : ((k : Int) == (s.size : Int) - 1) = false:=by rw [beq_eq_false_iff_ne];omega
     have HN : Hid (lnC l (k + 1) = c):=by rw [Hid,HST.out,if_neg (by rintro (h3 | h3);exact h1 (h10.1 h3);exact h2 h3)];rfl
     clear h1 h10 hlk h2
     go_wp2
     go_round
     case rel=>exact ⟨k + 1,by omega,by go_num,by rw [HN.out]⟩
     case measure=>simp [intOf];omega
  ·obtain rfl : k = s.size:=by omega
   have hce:=HCE.out
   rw [HSL.out] at hce
   have HLC : Hid (lnC l s.size = (lnL l).length):=hce
   have hle:=HCL.out s.size (by rw [HSL.out];exact Nat.le_refl _)
   rw [HLC.out] at hle ⊢
   clear hce
   generalize (lnL l).length = c at HLG hle ⊢
   have d0 : decide ((s.size : Int) < (s.size : Int)) = false:=decide_eq_false (by omega)
   by_cases h16 : 16384 < s.size
   ·have d1 : decide ((s.size : Int) > 16384) = true:=decide_eq_true (by omega)
    have d1' : decide (16384 < s.size) = true:=decide_eq_true h16
    have HLO : Hid (pgLong l = true):=by rw [Hid,HLG.out,decide_eq_true h16];rfl
    clear h16
    go_wp2_with fail
    go_ret3
    exact HPL.out _ HLO.out (Below.refl _ _)
   ·have d1 : decide ((s.size : Int) > 16384) = false:=decide_eq_false (by omega)
    have d1' : decide (16384 < s.size) = false:=decide_eq_false h16
    by_cases h512 : 512 < c
    ·have d2 : decide ((c : Int) > 512) = true:=decide_eq_true (by omega)
     have d2' : decide (512 < c) = true:=decide_eq_true h512
     have HLO : Hid (pgLong l = true):=by rw [Hid,HLG.out,decide_eq_true h512,Bool.or_true]
     clear h16 h512
     go_wp2_with fail
     go_ret3
     exact HPL.out _ HLO.out (Below.refl _ _)
    ·have d2 : decide ((c : Int) > 512) = false:=decide_eq_false (by omega)
     have d2' : decide (512 < c) = false:=decide_eq_false h512
     have HLO : Hid (pgLong l = false):=by rw [Hid,HLG.out,decide_eq_false h512,decide_eq_false h16];rfl
     clear h16 h512 HLG
     go_wp2_with fail
     go_loopw [7,8,9] (fun o v i wr=>∃ (k : Nat) (done : Words) (cur : List UInt8) (ao ab : Option Addr) (co cb : Nat),k ≤ s.size ∧ i = .int .i64 k ∧ o = .slice ao done.length co ∧ v = .slice ab cur.length cb ∧ SQ w wr ao co done ab cb cur ∧ done.length ≤ k ∧ cur.length ≤ k ∧ (∀ x ∈ done,wdB x = true) ∧ (∀ b ∈ cur,b ≠ 10) ∧ F = done ++ fieldsC 10 (cur ++ l.drop k)) (fun _ _ i _=>s.size - (intOf i).toNat)
     case atStart=>exact ⟨0,[],[],none,none,0,0,by omega,rfl,rfl,rfl,HS0.out,Nat.le_refl _,Nat.le_refl _,by simp,by simp,HF.out⟩
     case round=>
      clear HS0
      obtain ⟨k,done,cur,ao,ab,co,cb,hk,rfl,rfl,rfl,hsp,hdl,hcl,hdn,hcn,hrel⟩:=hrel
      have SPH:=Lib.hid hsp
      have HDN:=Lib.hid hdn
      have HCN:=Lib.hid hcn
      have HREL:=Lib.hid hrel
      have hsz:=hsp.bel.size
      clear hsp hdn hcn hrel
      by_cases hlt : k < s.size
      ·have d3 : decide ((k : Int) < (s.size : Int)) = true:=decide_eq_true (by omega)
       have d3' : decide (k < s.size) = true:=decide_eq_true hlt
       have w1 : IntKind.i64.wrap ((k : Int) + 1) = (k : Int) + 1:=by rw [IntKind.wrap_i64];omega
       have w2 : IntKind.i64.wrap ((done.length : Int) + 1) = (done.length : Int) + 1:=by rw [IntKind.wrap_i64];omega
       have hx : s[k].toNat < 256:=s[k].toNat_lt
       by_cases h32 : s[k].toNat = 10
       ·have hb32 : s[k] = 10:=by rw [← UInt8.toNat_inj];exact h32
        have dn : ((s[k].toNat : Int) != 10) = false:=by simp [h32]
        have HR2 : Hid (F = (done ++ [cur]) ++ fieldsC 10 ([] ++ l.drop (k + 1))):=by
         rw [Hid,HREL.out,HDR.out k hlt,hb32,fieldsC_app 10 cur _ HCN.out,List.append_assoc];rfl
        have hconv:=run_own_str wr _ _ _ _ _ SPH.out.b
        have HW:=fun W=>Lib.hid (rword_any cur (by omega) W)
        clear hb32 h32
        cases hwd : wdB cur
        ·have HBAD:=fun w' hb=>Lib.hid (HPM.out w' done cur (fieldsC 10 ([] ++ l.drop (k + 1))) HLO.out (by rw [HR2.out,List.append_assoc];rfl) (fieldsC_ne 10 _) HDN.out hwd hb)
         rw [hwd] at HW
         clear hwd
         go_wp2_with fail
         refine ((HW _).out).mono ?_;rintro e w3 ⟨rfl,hb3⟩
         have HB3:=Lib.hid (bmore SPH.out.bel hb3)
         clear hb3
         go_wp2_with fail
         go_ret3
         exact (HBAD _ HB3.out).out
        ·have HWD:=Lib.hid hwd
         rw [hwd] at HW
         clear hwd
         obtain ⟨v,hv⟩ : ∃ v,Hid (v = wdV cur):=⟨_,Lib.hid rfl⟩
         rw [← hv.out] at HW
         go_wp2_with fail
         refine ((HW _).out).mono ?_;rintro e w3 ⟨rfl,hb3⟩
         have SP3:=Lib.hid (SPH.out.below hb3)
         have hs3:=SP3.out.bel.size
         clear hb3
         go_wp2_with (at_builtin;(refine wpList_own rfl (.tmp 65) (.tmp 67) 69 rfl w.heap.size 70 iu _ 1 4 Tryz.underlying69 hiu hzu hzu1 hzu2 rfl (by omega) ao done.length co (uC (done.map wdV)) rfl (SP3.out.o.below ((Below.refl _ _).alloc (Nat.le_refl _) _)) w3.heap.size [.int .u32 v] rfl (new_block _ _ _ rfl) rfl (by simp [Value.oneCell']) (by simp only [maxLen];omega) (by omega) (by simp;omega) ?_);intro g' c' w4 hown1 hmod1 _;have HO:=Lib.hid hown1;have HM : Hid (Mod (blk ao) w3 w4):=((Mod.ofBelow ((Below.refl w3.heap.size w3).alloc (Nat.le_refl _) _)).trans hmod1);clear hown1 hmod1)
         have SP4 : Hid (SQ w w4 (some ⟨g',0,none⟩) c' (done ++ [cur]) none 0 []):=⟨by rw [List.map_append,List.map_cons,List.map_nil,uC_snoc,List.length_append,← hv.out];exact HO.out,Own.nil _ _ _ _,SP3.out.bel.trans (HM.out.below (fun j hj=>(SP3.out.o.ge j hj).1) hs3)⟩
         go_roundw
         case rel=>exact ⟨k + 1,done ++ [cur],[],some ⟨g',0,none⟩,none,c',0,by omega,by go_num,by rw [List.length_append];rfl,rfl,SP4.out,by simp;omega,by simp,fun x hx=>by
          rcases List.mem_append.1 hx with h | h
          ·exact HDN.out x h
          ·rw [List.mem_singleton.1 h];exact HWD.out,by simp,HR2.out⟩
         case measure=>simp [intOf];omega
       ·have hb32 : s[k] ≠ 10:=fun e=>h32 (by rw [e];rfl)
        have dn : ((s[k].toNat : Int) != 10) = true:=by simp;omega
        have HR2 : Hid (F = done ++ fieldsC 10 ((cur ++ [s[k]]) ++ l.drop (k + 1))):=by
         rw [Hid,HREL.out,HDR.out k hlt,List.append_assoc];rfl
        have HB2 : Hid (∀ b ∈ cur ++ [s[k]],b ≠ 10):=fun b hb=>by
         rcases List.mem_append.1 hb with h | h
         ·exact HCN.out b h
         ·rw [List.mem_singleton.1 h];exact hb32
        clear hb32 h32
        go_wp2_with (at_builtin;(refine wpList_own rfl (.tmp 48) (.tmp 52) 76 rfl w.heap.size 5 ib _ 1 1 Tryz.underlying76 hib hzb hzb1 hzb2 rfl (by omega) ab cur.length cb (bC cur) rfl ((SPH.out.below ((Below.refl _ _).alloc (Nat.le_refl _) _)).b) wr.heap.size [.int .u8 (s[k].toNat : Int)] rfl (new_block _ _ _ rfl) rfl (by simp [Value.oneCell']) (by simp only [maxLen];omega) (by omega) (by simp;omega) ?_);intro g' c' w2 hown1 hmod1 _;have HO:=Lib.hid hown1;have HM : Hid (Mod (blk ab) wr w2):=((Mod.ofBelow ((Below.refl wr.heap.size wr).alloc (Nat.le_refl _) _)).trans hmod1);clear hown1 hmod1)
        have SP2 : Hid (SQ w w2 ao co done (some ⟨g',0,none⟩) c' (cur ++ [s[k]])):=⟨SPH.out.o.mod HM.out (SPH.out.o.apart SPH.out.b (by decide)),by rw [bC_snoc,List.length_append];exact HO.out,SPH.out.bel.trans (HM.out.below (fun j hj=>(SPH.out.b.ge j hj).1) hsz)⟩
        go_roundw
        case rel=>exact ⟨k + 1,done,cur ++ [s[k]],ao,some ⟨g',0,none⟩,co,c',by omega,by go_num,rfl,by rw [List.length_append];rfl,SP2.out,by omega,by simp;omega,HDN.out,HB2.out,HR2.out⟩
        case measure=>simp [intOf];omega
      ·obtain rfl : k = s.size:=by omega
       have d3 : decide ((s.size : Int) < (s.size : Int)) = false:=decide_eq_false (by omega)
       have w2 : IntKind.i64.wrap ((done.length : Int) + 1) = (done.length : Int) + 1:=by rw [IntKind.wrap_i64];omega
       have HR2 : Hid (F = done ++ [cur]):=by
        rw [Hid,HREL.out,HDE.out,List.append_nil,fieldsC_free 10 cur HCN.out]
       by_cases hc0 : cur.length = 0
       ·have hcn : cur = []:=List.eq_nil_of_length_eq_zero hc0
        have dc : decide ((cur.length : Int) > 0) = false:=decide_eq_false (by omega)
        have dc' : decide (0 < cur.length) = false:=decide_eq_false (by omega)
        have HGD:=Lib.hid (HPG.out wr ao co done HLO.out (by rw [HR2.out,hcn]) HDN.out SPH.out.o SPH.out.bel)
        clear hc0 hcn
        go_wp2_with fail
        go_ret3
        exact HGD.out
       ·have dc : decide ((cur.length : Int) > 0) = true:=decide_eq_true (by omega)
        have dc' : decide (0 < cur.length) = true:=decide_eq_true (by omega)
        have HBD:=Lib.hid (HPE.out wr done cur HLO.out HR2.out HDN.out (fun e=>hc0 (by rw [e];rfl)) SPH.out.bel)
        clear hc0
        go_wp2_with fail
        go_ret3
        exact HBD.out
end Go.Proofs.YtoklonmiejdgmaaGreatDoor.As
/- The reference's rest: its state. -/
namespace Go.Proofs.YtoklonmiejdgmaaGreatDoor
set_option linter.unusedVariables false
set_option linter.unusedSimpArgs false
set_option linter.unnecessarySimpa false
open Go.RowKit Go.Sort
set_option maxHeartbeats 4000000
set_option maxRecDepth 100000
set_option linter.unusedVariables false
/-- A script in a box b7, beside a box b4 for the result. -/
structure SB (w : World) (b4 b7 : Nat) (v : Sv) (W : World) : Prop where
 bel : Below w.heap.size w W
 n4 : w.heap.size ≤ b4
 n7 : w.heap.size ≤ b7
 ne : b4 ≠ b7
 o4 : ObjAt W b4 34 [.slice none 0 0,.slice none 0 0,.slice none 0 0]
 o7 : ObjAt W b7 34 [.slice v.ia v.im.length v.ic,.slice v.sa v.se.length v.sc,.slice v.na v.inp.length v.nc]
 im : Own W w.heap.size 69 1 v.ia v.im.length v.ic (imC v.im)
 row : ∀ x ∈ v.im,Own W w.heap.size 70 1 x.a x.l.length x.cap (As.uC x.l)
 se : Own W w.heap.size 72 2 v.sa v.se.length v.sc (seC v.se)
 inp : Own W w.heap.size 74 5 v.na v.inp.length v.nc (inC v.inp)
section
variable {w W W1 W2 : World} {b4 b7 : Nat} {v : Sv}
theorem SB.more (h : SB w b4 b7 v W) (hb : Below W.heap.size W W1) : SB w b4 b7 v W1:=
 ⟨bmore h.bel hb,h.n4,h.n7,h.ne,h.o4.below hb,h.o7.below hb,h.im.below hb,fun x hx=>(h.row x hx).below hb,h.se.below hb,h.inp.below hb⟩
theorem SB.addSe (h : SB w b4 b7 v W) (hW : Below W.heap.size W W1) {g' c' : Nat} {x : Int × List UInt8} (ho : Own W2 w.heap.size 72 2 (some ⟨g',0,none⟩) (v.se.length + 1) c' (seC v.se ++ seR x)) (hm : Mod (blk v.sa) W1 W2) :
  SB w b4 b7 { v with sa:=some ⟨g',0,none⟩,sc:=c',se:=v.se ++ [x] } (W2.setCell ⟨b7,1,none⟩ (.slice (some ⟨g',0,none⟩) (v.se.length + 1) c')):=by
 have h1:=h.more hW
 have hu:=Upd.setCell W2 ⟨b7,1,none⟩ (.slice (some ⟨g',0,none⟩) (v.se.length + 1) c')
 have hob:=h1.o7.mod hm (h1.se.ne h1.o7 (by decide))
 have hb2 : Below w.heap.size w W2:=h1.bel.trans (hm.below (fun k hk=>(h1.se.ge k hk).1) h1.bel.size)
 have hl : (v.se ++ [x]).length = v.se.length + 1:=by simp
 refine ⟨hb2.trans (hu.below h.n7 hb2.size),h.n4,h.n7,h.ne,(h1.o4.mod hm (h1.se.ne h1.o4 (by decide))).mod (Mod.ofUpd hu) (by simpa using h.ne),?_,(h1.im.mod hm (h1.im.apart h1.se (by decide))).upd hu ((h1.im.mod hm (h1.im.apart h1.se (by decide))).ne hob (by decide)),fun y hy=>((h1.row y hy).mod hm ((h1.row y hy).apart h1.se (by decide))).upd hu (((h1.row y hy).mod hm ((h1.row y hy).apart h1.se (by decide))).ne hob (by decide)),?_,(h1.inp.mod hm (h1.inp.apart h1.se (by decide))).upd hu ((h1.inp.mod hm (h1.inp.apart h1.se (by decide))).ne hob (by decide))⟩
 ·have:=hob.set 1 (.slice (some ⟨g',0,none⟩) (v.se.length + 1) c')
  rw [hl];exact this
 ·rw [hl,seC_snoc];exact ho.upd hu (ho.ne hob (by decide))
theorem SB.addIn (h : SB w b4 b7 v W) (hW : Below W.heap.size W W1) {g' c' : Nat} {x : Int × Int × Int × Int × List UInt8} (ho : Own W2 w.heap.size 74 5 (some ⟨g',0,none⟩) (v.inp.length + 1) c' (inC v.inp ++ inR x)) (hm : Mod (blk v.na) W1 W2) :
  SB w b4 b7 { v with na:=some ⟨g',0,none⟩,nc:=c',inp:=v.inp ++ [x] } (W2.setCell ⟨b7,2,none⟩ (.slice (some ⟨g',0,none⟩) (v.inp.length + 1) c')):=by
 have h1:=h.more hW
 have hu:=Upd.setCell W2 ⟨b7,2,none⟩ (.slice (some ⟨g',0,none⟩) (v.inp.length + 1) c')
 have hob:=h1.o7.mod hm (h1.inp.ne h1.o7 (by decide))
 have hb2 : Below w.heap.size w W2:=h1.bel.trans (hm.below (fun k hk=>(h1.inp.ge k hk).1) h1.bel.size)
 have hl : (v.inp ++ [x]).length = v.inp.length + 1:=by simp
 refine ⟨hb2.trans (hu.below h.n7 hb2.size),h.n4,h.n7,h.ne,(h1.o4.mod hm (h1.inp.ne h1.o4 (by decide))).mod (Mod.ofUpd hu) (by simpa using h.ne),?_,(h1.im.mod hm (h1.im.apart h1.inp (by decide))).upd hu ((h1.im.mod hm (h1.im.apart h1.inp (by decide))).ne hob (by decide)),fun y hy=>((h1.row y hy).mod hm ((h1.row y hy).apart h1.inp (by decide))).upd hu (((h1.row y hy).mod hm ((h1.row y hy).apart h1.inp (by decide))).ne hob (by decide)),(h1.se.mod hm (h1.se.apart h1.inp (by decide))).upd hu ((h1.se.mod hm (h1.se.apart h1.inp (by decide))).ne hob (by decide)),?_⟩
 ·have:=hob.set 2 (.slice (some ⟨g',0,none⟩) (v.inp.length + 1) c')
  rw [hl];exact this
 ·rw [hl,inC_snoc];exact ho.upd hu (ho.ne hob (by decide))
theorem SB.addIm (h : SB w b4 b7 v W) (hW : Below W.heap.size W W1) {x : Iv} (hx : Own W1 w.heap.size 70 1 x.a x.l.length x.cap (As.uC x.l)) {g' c' : Nat} (ho : Own W2 w.heap.size 69 1 (some ⟨g',0,none⟩) (v.im.length + 1) c' (imC v.im ++ [.slice x.a x.l.length x.cap])) (hm : Mod (blk v.ia) W1 W2) :
  SB w b4 b7 { v with ia:=some ⟨g',0,none⟩,ic:=c',im:=v.im ++ [x] } (W2.setCell ⟨b7,0,none⟩ (.slice (some ⟨g',0,none⟩) (v.im.length + 1) c')):=by
 have h1:=h.more hW
 have hu:=Upd.setCell W2 ⟨b7,0,none⟩ (.slice (some ⟨g',0,none⟩) (v.im.length + 1) c')
 have hob:=h1.o7.mod hm (h1.im.ne h1.o7 (by decide))
 have hb2 : Below w.heap.size w W2:=h1.bel.trans (hm.below (fun k hk=>(h1.im.ge k hk).1) h1.bel.size)
 have hl : (v.im ++ [x]).length = v.im.length + 1:=by simp
 refine ⟨hb2.trans (hu.below h.n7 hb2.size),h.n4,h.n7,h.ne,(h1.o4.mod hm (h1.im.ne h1.o4 (by decide))).mod (Mod.ofUpd hu) (by simpa using h.ne),?_,?_,fun y hy=>?_,(h1.se.mod hm (h1.se.apart h1.im (by decide))).upd hu ((h1.se.mod hm (h1.se.apart h1.im (by decide))).ne hob (by decide)),(h1.inp.mod hm (h1.inp.apart h1.im (by decide))).upd hu ((h1.inp.mod hm (h1.inp.apart h1.im (by decide))).ne hob (by decide))⟩
 ·have:=hob.set 0 (.slice (some ⟨g',0,none⟩) (v.im.length + 1) c')
  rw [hl];exact this
 ·rw [hl,imC_snoc];exact ho.upd hu (ho.ne hob (by decide))
 ·rcases List.mem_append.1 hy with hy | hy
  ·exact ((h1.row y hy).mod hm ((h1.row y hy).apart h1.im (by decide))).upd hu (((h1.row y hy).mod hm ((h1.row y hy).apart h1.im (by decide))).ne hob (by decide))
  ·rw [List.mem_singleton.1 hy]
   exact (hx.mod hm (hx.apart h1.im (by decide))).upd hu ((hx.mod hm (hx.apart h1.im (by decide))).ne hob (by decide))
end
end Go.Proofs.YtoklonmiejdgmaaGreatDoor
