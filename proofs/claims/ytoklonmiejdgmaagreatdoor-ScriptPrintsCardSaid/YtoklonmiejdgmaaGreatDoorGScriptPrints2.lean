/- slices.Insert of one run into a row of runs of one's own; slices.Clone of runs. -/
import Derived.Test.YtoklonmiejdgmaaGreatDoorGScriptPrints1
import Derived.Lib.Overlaps
import Derived.Lib.AppendZerosOnto
import Derived.Laws.CopyRow
import Derived.Deep.Cut
import Derived.StillTailTactics
import Derived.BigRegion
import Derived.Test.YtoklonmiejdgmaaGreatDoorGScriptPrints0
namespace Go.Proofs.YtoklonmiejdgmaaGreatDoor
set_option linter.unusedVariables false
set_option linter.unusedSimpArgs false
set_option linter.unnecessarySimpa false
open Go.RowKit Go.Sort
set_option maxHeartbeats 400000
set_option maxRecDepth 100000
theorem info_run : (Tryz.prog.info? 227).map (fun i=>(i.zero,i.size,i.bytes)) = some (some (.agg #[.int .i64 0,.int .i64 0,.int .i64 0]),3,24):=by kernel_rfl
theorem rn_one (l : List Rn) : ∀ u ∈ rnF l,u.oneCell' = true:=by
 intro u hu
 simp only [rnF,List.mem_flatten,List.mem_map] at hu
 obtain ⟨_,⟨r,_,rfl⟩,hu⟩:=hu
 simp only [rnC,List.mem_cons,List.not_mem_nil,or_false] at hu
 rcases hu with rfl | rfl | rfl <;> rfl
theorem cloneR_any (a : Option Addr) (n c : Nat) (xs : List Value) (w : World) (h : Rd w 3 a n xs) (h1 : ∀ u ∈ xs,u.oneCell' = true) (hn : n ≤ 100000) : Calls Tryz.prog 169 #[.slice a n c] w (ClonePost 227 3 n xs w):=by
 obtain ⟨i0,hi0,hz0,hz1,hz2⟩:=info_parts info_run
 cases a with
 | none=>
  obtain rfl : n = 0:=h.2.1 rfl
  obtain rfl : xs = []:=List.eq_nil_of_length_eq_zero (by simpa using h.1)
  clear h h1
  have hnil : ∀ w : World,Sem.run Tryz.prog (binOp .eql 221 (.slice none 0 c) (.slice none 0 0)) w = .ok (.bool true) w:=fun _=>by kernel_rfl
  go_enter Tryz.func169,Tryz.ntmps169
  go_wp2_with fail
  go_ret
  exact ⟨none,0,rfl,Own.nil _ _ _ _,Below.refl _ _⟩
 | some ad=>
  have H:=Lib.hid h
  have HL:=Lib.hid h.1
  have H1:=Lib.hid h1
  clear h h1
  have HN : Hid (∀ (W : World),Below w.heap.size w W → ∀ j u,xs[j]? = some u → W.cell? (ad.add j) = some u):=fun W hW j u hu=>by
   obtain ⟨b,o,rfl,hb,hc⟩:=H.out.2.2 ad rfl (by intro h0;subst h0;simp at hu)
   have e : (⟨b,o,none⟩ : Addr).add j = ⟨b,o + j,none⟩:=by unfold Addr.add;split <;> simp_all
   rw [e];exact (hW.cell (p:=⟨b,o + j,none⟩) hb).trans (hc j u hu)
  have HE:=Lib.hid (own_empty w 227 3)
  have hnil : ∀ w : World,Sem.run Tryz.prog (binOp .eql 221 (.slice (some ad) n c) (.slice none 0 0)) w = .ok (.bool false) w:=fun _=>by kernel_rfl
  go_enter Tryz.func169,Tryz.ntmps169
  go_wp2_with (at_builtin;(refine wpList_append_own_at _ rfl (.tmp 5) (.tmp 6) _ rfl w.heap.size 227 i0 _ 3 24 Tryz.underlying221 hi0 hz0 hz1 hz2 rfl (by omega) (.slice (some ⟨w.heap.size,0,none⟩) 0 0) 0 [] rfl HE.out ad n c xs rfl HL.out (HN.out _ ((Below.refl _ _).alloc (Nat.le_refl _) _)) H1.out (by simp only [maxLen];omega) (by omega) (by simp) ?_);intro v1 w1 hown1 hg1 hz hat1)
  go_ret
  exact clone_post hown1 hg1
/-- copy over a row that is known whole, elements of several cells. -/
theorem run_copy_rows {P : Program} (w : World) (dT sT ty elem : TypeId) (size g o dLen dCap : Nat) (a : Addr) (sLen sCap : Nat) (cur : Array Value) (t : TypeId) (cs : List Value) (k : Nat)
  (hu : P.underlying dT = some (.slice elem)) (hs : (P.info? elem).map (·.size) = some size)
  (hg : w.heap[g]? = some (.cells cur t (0,0))) (hk : k = Nat.min sLen dLen) (hn : cs.length = k * size)
  (hsrc : ∀ j v,cs[j]? = some v → w.cell? (a.add j) = some v) (hfit : o + cs.length ≤ cur.size) (h1 : ∀ v ∈ cs,v.oneCell' = true) :
  (Builtin.copy_ #[dT,sT] ty #[.slice (some ⟨g,o,none⟩) dLen dCap,.slice (some a) sLen sCap]).run P w =
   .ok (goInt k) (w.setRow g (cur.toList.take o ++ cs ++ cur.toList.drop (o + cs.length)).toArray):=by
 have hl:=run_loadCells_list (P:=P) w a cs hsrc
 have hst:=run_storeCells_at P g o t cs 0 cur w hg (by simpa using hfit) h1
 cases hq : P.info? elem with
 | none=>simp [hq] at hs
 | some i=>
  have hi : i.size = size:=by simpa [hq] using hs
  rw [hn] at hl
  simp [Builtin.copy_,run_underlying hu,Builtin.lenOf,Builtin.firstCells,sizeOf,typeInfo,hq,hi,← hk,hl,hst]
theorem wpList_copy_run {P : Program} {w w' : World} {ops : Array Oper} {rest : List Oper} {o : Oper} {a : Act} {Q : Exit → Act → World → Prop} (hgd : o.guard = none) (d s : Operand) (dT sT : TypeId)
  (ho : o.op = .call { callee:=.builtin .copy,args:=#[d,s],argTypes:=#[dT,sT] }) (vd vs : Value) (hd : a.eval d = vd) (hs : a.eval s = vs) {v : Value}
  (hrun : (Builtin.copy_ #[dT,sT] o.type #[vd,vs]).run P w = .ok v w') (h : wpList P ops Q rest (a.put o.dst v) w') : wpList P ops Q (o :: rest) a w:=by
 refine wpList_plain hgd fun K hK=>?_
 unfold Oper.wp execOp
 simp only [ho,resolve,invoke,builtin,Sem.run_bind,Sem.run_pure,Result.andThen_ok,List.map_toArray,List.map_cons,List.map_nil,hd,hs,hrun]
 exact hK _ _ h
theorem step_copy_run {P : Program} {w w' : World} {ops : Array Oper} {o : Oper} {a : Act} {K : Act → World → Prop} {Q : Exit → Act → World → Prop} {E : Prop} (hgd : o.guard = none) (d s : Operand) (dT sT : TypeId)
  (ho : o.op = .call { callee:=.builtin .copy,args:=#[d,s],argTypes:=#[dT,sT] }) (vd vs : Value) (hd : a.eval d = vd) (hs : a.eval s = vs) {v : Value}
  (hrun : (Builtin.copy_ #[dT,sT] o.type #[vd,vs]).run P w = .ok v w') (h : K (a.put o.dst v) w') : if Region.wanted o (yielded ops a.tmps) = true then Oper.wp P o a w K Q else E:=by
 have hw : Region.wanted o (yielded ops a.tmps) = true:=by simp [Region.wanted,hgd]
 rw [if_pos hw]
 unfold Oper.wp execOp
 simp only [ho,resolve,invoke,builtin,Sem.run_bind,Sem.run_pure,Result.andThen_ok,List.map_toArray,List.map_cons,List.map_nil,hd,hs,hrun]
 exact h
/-- What inserting leaves. -/
def InsPost (B : Nat) (a : Option Addr) (R : List Rn) (i : Nat) (x : Rn) (w : World) (e : Ending) (w' : World) : Prop:=
 ∃ a' c',e = .returned (.slice a' (R.length + 1) c') ∧ Own w' B 227 3 a' (R.length + 1) c' (rnF (R.take i ++ x :: R.drop i)) ∧ Mod (blk a) w w' ∧ ∀ k ∈ blk a',k ∈ blk a ∨ w.heap.size ≤ k
theorem ins_end (B g c : Nat) (a : Option Addr) (R : List Rn) (x : Rn) (w : World) (hown : Own w B 227 3 a R.length c (rnF R)) (hg : w.heap[g]? = some (.cells (rnC x).toArray 227 (0,0))) (hn : R.length ≤ 64) (hB : B ≤ w.heap.size) :
  Calls Tryz.prog 168 #[.slice a R.length c,.int .i64 R.length,.slice (some ⟨g,0,none⟩) 1 1] w (InsPost B a R R.length x w):=by
 obtain ⟨i0,hi0,hz0,hz1,hz2⟩:=info_parts info_run
 have HO:=Lib.hid hown
 have hle:=hown.le
 have HR : Hid (Rd w 3 (some ⟨g,0,none⟩) 1 (rnC x)):=⟨rfl,(fun h=>by cases h),fun p hp _=>by
  injection hp with hp
  subst hp
  exact ⟨g,0,rfl,(Array.getElem?_eq_some_iff.1 hg).1,fun j u hu=>by rw [Nat.zero_add];exact cell_at hg j u (by simpa using hu)⟩⟩
 have h1 : Hid (∀ u ∈ rnC x,u.oneCell' = true):=fun u hu=>rn_one [x] u (by simpa [rnF] using hu)
 clear hown hg
 have hsl : (R.length : Int) ≤ (R.length : Int):=Int.le_refl _
 go_enter Tryz.func168,Tryz.ntmps168
 go_wp2_with (at_builtin;(refine wpList_more rfl (.tmp 23) (.tmp 24) 221 rfl B 227 i0 _ 3 24 Tryz.underlying221 hi0 hz0 hz1 hz2 rfl (by omega) a R.length c (rnF R) rfl HO.out (some ⟨g,0,none⟩) 1 1 (rnC x) rfl HR.out h1.out (by simp only [maxLen];omega) (by omega) hB ?_);intro a' c' w1 hown1 hmod1 hat1)
 all_goals
  go_ret
  refine ⟨a',c',rfl,?_,hmod1,hat1⟩
  rw [List.take_length,List.drop_length,show R ++ [x] = R ++ [x] from rfl,rnF_app]
  simpa [rnF] using hown1
theorem rnF_take (R : List Rn) (i : Nat) : (rnF R).take (i * 3) = rnF (R.take i):=by
 induction R generalizing i with
 | nil=>simp [rnF]
 | cons r R ih=>
  cases i with
  | zero=>simp [rnF]
  | succ i=>
   have e : ∀ (r : Rn) (l : List Rn),rnF (r :: l) = rnC r ++ rnF l:=fun _ _=>by simp [rnF]
   rw [List.take_succ_cons,e,e,← ih i,show (i + 1) * 3 = (rnC r).length + i * 3 by simp [rnC];omega,List.take_append,List.take_of_length_le (by omega)]
   simp
theorem rnF_drop (R : List Rn) (i : Nat) : (rnF R).drop (i * 3) = rnF (R.drop i):=by
 induction R generalizing i with
 | nil=>simp [rnF]
 | cons r R ih=>
  cases i with
  | zero=>simp [rnF]
  | succ i=>
   have e : ∀ (r : Rn) (l : List Rn),rnF (r :: l) = rnC r ++ rnF l:=fun _ _=>by simp [rnF]
   rw [List.drop_succ_cons,e,← ih i,show (i + 1) * 3 = (rnC r).length + i * 3 by simp [rnC];omega,List.drop_append,List.drop_of_length_le (by omega)]
   simp
/-- The row with a run put in, and whatever stands behind it. -/
def insL (R : List Rn) (i : Nat) (x : Rn) : List Value:=rnF (R.take i) ++ (rnC x ++ rnF (R.drop i))
theorem insL_eq (R : List Rn) (i : Nat) (x : Rn) : insL R i x = rnF (R.take i ++ x :: R.drop i):=by simp [insL,rnF]
def lay (L : List Value) (o : Nat) (cs : List Value) : List Value:=L.take o ++ cs ++ L.drop (o + cs.length)
theorem lay2 (L : List Value) (i : Nat) (D y rest : List Value) (h : (i + 1) * 3 ≤ L.length) (hy : y.length = 3) : lay (lay L ((i + 1) * 3) D) (i * 3) y = (L.take (i * 3) ++ (y ++ D)) ++ L.drop ((i + 1) * 3 + D.length):=by
 have h1 : (L.take ((i + 1) * 3)).length = (i + 1) * 3:=by rw [List.length_take];omega
 unfold lay
 rw [List.append_assoc (L.take _),List.take_append_of_le_length (by omega),List.take_take,Nat.min_eq_left (by omega),hy,show i * 3 + 3 = (L.take ((i + 1) * 3)).length + 0 by omega,List.drop_append,List.drop_of_length_le (by omega)]
 simp
theorem lay_len (L : List Value) (o : Nat) (cs : List Value) (h : o + cs.length ≤ L.length) : (lay L o cs).length = L.length:=by simp [lay];omega
set_option maxHeartbeats 2000000 in
theorem ins_room (B g b c i : Nat) (R : List Rn) (x : Rn) (w : World) (hown : Own w B 227 3 (some ⟨b,0,none⟩) R.length c (rnF R)) (hg : w.heap[g]? = some (.cells (rnC x).toArray 227 (0,0))) (hgb : g ≠ b) (hn : R.length ≤ 64) (hi : i < R.length) (hroom : R.length + 1 ≤ c) (hB : B ≤ w.heap.size) :
  Calls Tryz.prog 168 #[.slice (some ⟨b,0,none⟩) R.length c,.int .i64 i,.slice (some ⟨g,0,none⟩) 1 1] w (InsPost B (some ⟨b,0,none⟩) R i x w):=by
 obtain ⟨i0,hi0,hz0,hz1,hz2⟩:=info_parts info_run
 have hcap:=hown.capMax
 rcases hown with ⟨hlen,⟨h0,_⟩ | ⟨b',c',cur,hv,hBb,hg0,hr,hm,hs,ht⟩⟩
 ·injection h0 with h0;cases h0
 injection hv with e1 e2 e3
 injection e1 with e1
 injection e1 with e1
 subst e1 e3
 have HG:=Lib.hid hg;have HG0:=Lib.hid hg0;have HT:=Lib.hid ht;have HS:=Lib.hid hs
 unfold maxLen at hcap
 clear hg hg0 ht hs hlen
 have hz1':=hz1
 have hne1 : ((i : Int) == (R.length : Int)) = false:=by simp;omega
 have hd1 : decide ((c : Int) < (R.length : Int) + 1) = false:=by simp;omega
 have hb1 : (0 : Int) ≤ (i : Int) + 1:=by omega
 have hb2 : (i : Int) + 1 ≤ (R.length : Int) + 1:=by omega
 have hb3 : (i : Int) ≤ (R.length : Int) + 1:=by omega
 have hb4 : (i : Int) ≤ (R.length : Int):=by omega
 have hb5 : (R.length : Int) + 1 ≤ (c : Int):=by omega
 have hc1 : ¬ (c = i + 1):=by omega
 have hc2 : ¬ (c = i):=by omega
 have htn : ((i : Int) + 1).toNat = i + 1:=by omega
 have hov : ∀ lb cb,(callFunc 189 #[.slice (some ⟨g,0,none⟩) 1 1,.slice (some ⟨b,(i + 1) * 3,none⟩) lb cb]).run Tryz.prog w = .ok (.value (.bool false)) w:=fun lb cb=>by
  rw [run_callFunc_extern Tryz.func189 (by kernel_rfl) (by kernel_rfl) (by kernel_rfl) (e:=Extern.SlicesOverlaps.overlaps #[221,221] #[4]) (by kernel_rfl),
   Lib.run_overlaps_apart w 221 4 227 Tryz.underlying221 3 (fun w=>by simp [sizeOf,typeInfo,hi0,hz1']) ⟨g,0,none⟩ ⟨b,(i + 1) * 3,none⟩ 1 1 lb cb hgb 227 227 3 (c * 3) (by simp [World.shape?,HG.out,rnC]) (by simp [World.shape?,HG0.out,HS.out]) (by omega) (free_at HG.out _) (free_at HG.out _)]
  rfl
 have hsz : (Tryz.prog.info? 227).map (·.size) = some 3:=by rw [hi0];simp [hz1']
 have hfit : cur.toList.length = c * 3:=by simpa using HS.out
 have hrow : (rnF (R.drop i)).length = (R.length - i) * 3:=by rw [rnF_len,List.length_drop]
 have hcell : ∀ j v,(rnF (R.drop i))[j]? = some v → w.cell? ⟨b,i * 3 + j,none⟩ = some v:=fun j v hj=>by
  rw [← rnF_drop,List.getElem?_drop] at hj
  refine cell_at HG0.out _ v ?_
  rw [← HT.out,List.getElem?_take] at hj
  split at hj
  ·simpa using hj
  ·cases hj
 obtain ⟨X1,hX1⟩ : ∃ X,X = lay cur.toList ((i + 1) * 3) (rnF (R.drop i)):=⟨_,rfl⟩
 obtain ⟨X2,hX2⟩ : ∃ X,X = lay X1 (i * 3) (rnC x):=⟨_,rfl⟩
 have hl1 : X1.length = c * 3:=by rw [hX1,lay_len _ _ _ (by rw [hrow,hfit];omega),hfit]
 have hl2 : X2.length = c * 3:=by rw [hX2,lay_len _ _ _ (by rw [hl1];simp [rnC];omega),hl1]
 have hgw : g < w.heap.size:=(Array.getElem?_eq_some_iff.1 HG.out).1
 have hbw : b < w.heap.size:=(Array.getElem?_eq_some_iff.1 HG0.out).1
 obtain ⟨W1,hW1⟩ : ∃ W,W = w.drew.setRow b X1.toArray:=⟨_,rfl⟩
 obtain ⟨W2,hW2⟩ : ∃ W,W = W1.setRow b X2.toArray:=⟨_,rfl⟩
 have hg1 : W1.heap[b]? = some (.cells X1.toArray 227 (0,0)):=by rw [hW1];exact setRow_heap _ _ _ _ _ _ HG0.out
 have hgg : W1.heap[g]? = some (.cells (rnC x).toArray 227 (0,0)):=by rw [hW1];exact (setRow_other w.drew b g _ hgb).trans HG.out
 have hg2 : W2.heap[b]? = some (.cells X2.toArray 227 (0,0)):=by rw [hW2];exact setRow_heap _ _ _ _ _ _ hg1
 have hU : Upd b w W2:=by
  have h1 : Upd b w W1:=by rw [hW1];exact ((Upd.refl b w).drew).trans (Upd.setRow _ _ _)
  rw [hW2]
  exact h1.trans (Upd.setRow _ _ _)
 have hcp1 : ∀ ty dl dc sl sc,dl = R.length - i → sl = R.length + 1 - i → (Builtin.copy_ #[221,221] ty #[.slice (some ⟨b,(i + 1) * 3,none⟩) dl dc,.slice (some ⟨b,i * 3,none⟩) sl sc]).run Tryz.prog w.drew = .ok (goInt (R.length - i : Nat)) W1:=fun ty dl dc sl sc h1 h2=>by
  rw [hW1,hX1,lay]
  exact run_copy_rows w.drew _ _ ty 227 3 b ((i + 1) * 3) dl dc ⟨b,i * 3,none⟩ sl sc cur 227 (rnF (R.drop i)) (R.length - i) Tryz.underlying221 hsz HG0.out (by simp only [Nat.min_def];split <;> omega) hrow
   (fun j v hj=>by rw [Addr.add_lit];exact hcell j v hj) (by rw [hrow];have:=HS.out;omega) (rn_one _)
 have hcp2 : ∀ ty dl dc,dl = R.length + 1 - i → (Builtin.copy_ #[221,221] ty #[.slice (some ⟨b,i * 3,none⟩) dl dc,.slice (some ⟨g,0,none⟩) 1 1]).run Tryz.prog W1 = .ok (goInt (1 : Nat)) W2:=fun ty dl dc h1=>by
  rw [hW2,hX2,lay]
  have:=run_copy_rows (P:=Tryz.prog) W1 221 221 ty 227 3 b (i * 3) dl dc ⟨g,0,none⟩ 1 1 X1.toArray 227 (rnC x) 1 Tryz.underlying221 hsz hg1 (by simp only [Nat.min_def];split <;> omega) rfl
   (fun j v hj=>by rw [Addr.add_lit,Nat.zero_add];exact cell_at hgg j v (by simpa using hj)) (by simp [rnC,hl1];omega) (fun u hu=>rn_one [x] u (by simpa [rnF] using hu))
  simpa using this
 have HX : Hid (X2.take ((R.length + 1) * 3) = rnF (R.take i ++ x :: R.drop i)):=by
  have h0 : cur.toList.take (i * 3) = rnF (R.take i):=by
   rw [← rnF_take,← HT.out,List.take_take,Nat.min_eq_left (by omega)]
  rw [Hid,hX2,hX1,lay2 _ _ _ _ [] (by rw [hfit];omega) rfl,h0,← insL_eq,insL,show (R.length + 1) * 3 = (rnF (R.take i) ++ (rnC x ++ rnF (R.drop i))).length by simp [rnF_len,hrow,rnC];omega,List.take_left']
  rfl
 have HCP1:=Lib.hid hcp1;have HCP2:=Lib.hid hcp2;have HG2:=Lib.hid hg2;have HU:=Lib.hid hU;have HL2:=Lib.hid hl2
 clear hcp1 hcp2 hg2 hU hl1 hl2 hX1 hX2 hW1 hW2 hg1 hgg hcell hrow hfit hsz
 go_enter Tryz.func168,Tryz.ntmps168
 go_wp2_with (simp only [hov])
 have hw1 : IntKind.i64.wrap ((i : Int) + 1) = (i : Int) + 1:=IntWalk.i64_in _ (by omega)
 go_region_law (refine step_copy_run rfl (.tmp 73) (.tmp 76) 221 221 rfl _ _ (by simp [Act.eval,Act.put];exact ⟨rfl,rfl⟩) (by simp [Act.eval,Act.put];exact ⟨rfl,rfl⟩) (HCP1.out _ _ _ _ _ (by simp) (by simp)) ?_)
 all_goals
  go_wp2_with (((with_reducible refine wpList_copy_run ?_ (.tmp 80) (.tmp 81) 221 221 ?_ (.slice (some ⟨b,i * 3,none⟩) (R.length + 1 - i) (c - i)) (.slice (some ⟨g,0,none⟩) 1 1) ?_ ?_ (HCP2.out _ _ _ rfl) ?_));exact rfl;exact rfl;exact rfl;exact rfl;go_frame)
  go_ret
  refine ⟨some ⟨b,0,none⟩,c,rfl,⟨by rw [rnF_len];simp;omega,.inr ⟨b,c,X2.toArray,rfl,hBb,HG2.out,by omega,by unfold maxLen;omega,by simpa using HL2.out,by rw [← HX.out]⟩⟩,Mod.ofUpd HU.out,fun k hk=>.inl hk⟩
theorem lay3 (L : List Value) (i : Nat) (D y : List Value) (h : (i + 1) * 3 ≤ L.length) (hy : y.length = 3) : ∃ rest,lay (lay L (i * 3) y) ((i + 1) * 3) D = (L.take (i * 3) ++ (y ++ D)) ++ rest:=by
 have h1 : (L.take (i * 3)).length = i * 3:=by rw [List.length_take];omega
 refine ⟨(lay L (i * 3) y).drop ((i + 1) * 3 + D.length),?_⟩
 have h2 : (lay L (i * 3) y).take ((i + 1) * 3) = L.take (i * 3) ++ y:=by
  unfold lay
  rw [List.take_append_of_le_length (by rw [List.length_append,h1];omega),List.take_of_length_le (by rw [List.length_append,h1];omega)]
 unfold lay at h2 ⊢
 rw [h2]
 simp
set_option maxHeartbeats 2000000 in
theorem ins_grow (B g b c i : Nat) (R : List Rn) (x : Rn) (w : World) (hown : Own w B 227 3 (some ⟨b,0,none⟩) R.length c (rnF R)) (hg : w.heap[g]? = some (.cells (rnC x).toArray 227 (0,0))) (hn : R.length ≤ 64) (hi : i < R.length) (hroom : c < R.length + 1) (hB : B ≤ w.heap.size) :
  Calls Tryz.prog 168 #[.slice (some ⟨b,0,none⟩) R.length c,.int .i64 i,.slice (some ⟨g,0,none⟩) 1 1] w (InsPost B (some ⟨b,0,none⟩) R i x w):=by
 obtain ⟨i0,hi0,hz0,hz1,hz2⟩:=info_parts info_run
 have hle:=hown.le
 obtain rfl : c = R.length:=by omega
 have hgw : g < w.heap.size:=(Array.getElem?_eq_some_iff.1 hg).1
 have hbw : b < w.heap.size:=(hown.ge b (by simp [blk])).2
 obtain ⟨G,hG⟩ : ∃ G,G = grownCap w (R.length + 1) R.length 227:=⟨_,rfl⟩
 obtain ⟨z,hz⟩ : ∃ z : Value,z = .agg #[.int .i64 0,.int .i64 0,.int .i64 0]:=⟨_,rfl⟩
 have hzs : z.cells.size = 3:=by rw [hz];rfl
 obtain ⟨ROW,hROW⟩ : ∃ ROW : Array Value,ROW = (rnF (R.take i)).toArray ++ Builtin.zeroCells z.cells (R.length + 1 - i) ++ Builtin.zeroCells z.cells (G - (R.length + 1)):=⟨_,rfl⟩
 obtain ⟨W1,hW1⟩ : ∃ W1,W1 = w.drew.alloc (.cells ROW 227):=⟨_,rfl⟩
 have hGn : R.length + 1 ≤ G:=by rw [hG];exact grownCap_ge w _ _ _
 have hG63 : G ≤ 9223372036854775807:=by
  have:=grownCap_le_maxLen w (R.length + 1) R.length 227 (by unfold maxLen;omega)
  rw [← hG] at this
  unfold maxLen at this
  omega
 have hti : (rnF (R.take i)).length = i * 3:=by rw [rnF_len,List.length_take,Nat.min_eq_left (by omega)]
 have hold : (Builtin.firstCells i0.size i (.slice (some ⟨b,0,none⟩) i R.length)).run Tryz.prog w.drew = .ok (rnF (R.take i)).toArray w.drew:=by
  rw [hz1]
  exact run_firstCells_some w.drew 3 i ⟨b,0,none⟩ i R.length (rnF (R.take i)) (by rw [hti]) (fun j v hj=>by
   rw [Addr.add_lit,Nat.zero_add]
   rw [← rnF_take,List.getElem?_take] at hj
   split at hj
   ·exact hown.cell j v hj
   ·cases hj)
 have hrz : ∀ ty,(Builtin.append_ #[221,3] ty #[.slice (some ⟨b,0,none⟩) i R.length,.int .i64 ((R.length : Int) + 1 - (i : Int))]).run Tryz.prog w = .ok (.slice (some ⟨w.heap.size,0,none⟩) (R.length + 1) G) W1:=fun ty=>by
  have h:=Lib.run_append_grow_zeros w 221 3 ty 227 i0 z .i64 .i64 Tryz.underlying221 Tryz.underlying3 hi0 (by rw [hz];exact hz0) (some ⟨b,0,none⟩) i R.length (rnF (R.take i)) hold (R.length + 1 - i) (by omega) (by omega) (by omega) (by omega) (by rw [hz2];omega) (by rw [hz2,show i + (R.length + 1 - i) = R.length + 1 by omega];exact growslice_fits (by omega) (by omega))
  rw [show i + (R.length + 1 - i) = R.length + 1 by omega,← hG] at h
  rw [show (R.length : Int) + 1 - (i : Int) = ((R.length + 1 - i : Nat) : Int) by omega,hW1,hROW]
  exact h
 have hRl : ROW.size = G * 3:=by
  rw [hROW]
  simp [Builtin.zeroCells,hzs,hti]
  omega
 have hRt : ROW.toList.take (i * 3) = rnF (R.take i):=by
  rw [hROW,Array.toList_append,Array.toList_append,List.append_assoc,List.take_append_of_le_length (by simp [hti]),List.take_of_length_le (by simp [hti])]
 have hN0 : W1.heap[w.heap.size]? = some (.cells ROW 227 (0,0)):=by rw [hW1];exact new_block w.drew _ _ rfl
 have hgg : W1.heap[g]? = some (.cells (rnC x).toArray 227 (0,0)):=by rw [hW1];exact (Below.heap_alloc w.drew _ g hgw).trans hg
 have hrow : (rnF (R.drop i)).length = (R.length - i) * 3:=by rw [rnF_len,List.length_drop]
 have hsz : (Tryz.prog.info? 227).map (·.size) = some 3:=by rw [hi0];simp [hz1]
 obtain ⟨X1,hX1⟩ : ∃ X,X = lay ROW.toList (i * 3) (rnC x):=⟨_,rfl⟩
 obtain ⟨X2,hX2⟩ : ∃ X,X = lay X1 ((i + 1) * 3) (rnF (R.drop i)):=⟨_,rfl⟩
 have hl1 : X1.length = G * 3:=by rw [hX1,lay_len _ _ _ (by simp [hRl,rnC];omega)];simpa using hRl
 have hl2 : X2.length = G * 3:=by rw [hX2,lay_len _ _ _ (by rw [hl1,hrow];omega),hl1]
 obtain ⟨W2,hW2⟩ : ∃ W,W = W1.setRow w.heap.size X1.toArray:=⟨_,rfl⟩
 obtain ⟨W3,hW3⟩ : ∃ W,W = W2.drew.setRow w.heap.size X2.toArray:=⟨_,rfl⟩
 have hN1 : W2.heap[w.heap.size]? = some (.cells X1.toArray 227 (0,0)):=by rw [hW2];exact setRow_heap _ _ _ _ _ _ hN0
 have hN2 : W3.heap[w.heap.size]? = some (.cells X2.toArray 227 (0,0)):=by rw [hW3];exact setRow_heap W2.drew _ _ _ _ _ hN1
 have hb1 : W2.heap[b]? = w.heap[b]?:=by rw [hW2,setRow_other _ _ _ _ (by omega),hW1];exact Below.heap_alloc w.drew _ b hbw
 have hM : Mod [] w W3:=by
  have h1 : Mod [] w W1:=by rw [hW1];exact ((Mod.refl _ w).drew).alloc _
  have h2 : Mod [] w W2:=h1.then (by rw [hW2];exact Mod.ofUpd (Upd.setRow W1 w.heap.size _)) (fun k hk hl=>by simp at hk;omega)
  exact h2.drew.then (by rw [hW3];exact Mod.ofUpd (Upd.setRow W2.drew w.heap.size _)) (fun k hk hl=>by simp at hk;omega)
 have hcp1 : ∀ ty dl dc,dl = R.length + 1 - i → (Builtin.copy_ #[221,221] ty #[.slice (some ⟨w.heap.size,i * 3,none⟩) dl dc,.slice (some ⟨g,0,none⟩) 1 1]).run Tryz.prog W1 = .ok (goInt (1 : Nat)) W2:=fun ty dl dc h1=>by
  rw [hW2,hX1,lay]
  exact run_copy_rows (P:=Tryz.prog) W1 221 221 ty 227 3 w.heap.size (i * 3) dl dc ⟨g,0,none⟩ 1 1 ROW 227 (rnC x) 1 Tryz.underlying221 hsz hN0 (by simp only [Nat.min_def];split <;> omega) rfl
   (fun j v hj=>by rw [Addr.add_lit,Nat.zero_add];exact cell_at hgg j v (by simpa using hj)) (by simp [rnC,hRl];omega) (fun u hu=>rn_one [x] u (by simpa [rnF] using hu))
 have hcp2 : ∀ ty dl dc sl sc,dl = R.length - i → sl = R.length - i → (Builtin.copy_ #[221,221] ty #[.slice (some ⟨w.heap.size,(i + 1) * 3,none⟩) dl dc,.slice (some ⟨b,i * 3,none⟩) sl sc]).run Tryz.prog W2.drew = .ok (goInt (R.length - i : Nat)) W3:=fun ty dl dc sl sc h1 h2=>by
  rw [hW3,hX2,lay]
  have:=run_copy_rows (P:=Tryz.prog) W2.drew 221 221 ty 227 3 w.heap.size ((i + 1) * 3) dl dc ⟨b,i * 3,none⟩ sl sc X1.toArray 227 (rnF (R.drop i)) (R.length - i) Tryz.underlying221 hsz hN1 (by simp only [Nat.min_def];split <;> omega) hrow
   (fun j v hj=>by
    rw [Addr.add_lit]
    rw [← rnF_drop,List.getElem?_drop] at hj
    exact (World.cell?_of_block (a:=⟨b,i * 3 + j,none⟩) (show W2.drew.heap[b]? = w.heap[b]? from hb1)).trans (hown.cell _ v hj)) (by rw [hrow];simp [hl1];omega) (rn_one _)
  simpa using this
 have HX : Hid (X2.take ((R.length + 1) * 3) = rnF (R.take i ++ x :: R.drop i)):=by
  obtain ⟨rest,hr⟩:=lay3 ROW.toList i (rnF (R.drop i)) (rnC x) (by simp [hRl];omega) rfl
  rw [Hid,hX2,hX1,hr,hRt,← insL_eq,insL,show (R.length + 1) * 3 = (rnF (R.take i) ++ (rnC x ++ rnF (R.drop i))).length by simp [hti,hrow,rnC];omega,List.take_left']
  rfl
 have HRZ:=Lib.hid hrz;have HCP1:=Lib.hid hcp1;have HCP2:=Lib.hid hcp2;have HN2:=Lib.hid hN2;have HM:=Lib.hid hM;have HL2:=Lib.hid hl2
 have hne1 : ((i : Int) == (R.length : Int)) = false:=by simp;omega
 have hd1 : decide ((R.length : Int) < (R.length : Int) + 1) = true:=by simp;omega
 have hb1' : (0 : Int) ≤ (i : Int) + 1:=by omega
 have hb2 : (i : Int) + 1 ≤ (R.length : Int) + 1:=by omega
 have hb3 : (i : Int) ≤ (R.length : Int) + 1:=by omega
 have hb4 : (i : Int) ≤ (R.length : Int):=by omega
 have hGi : ¬ (G = i):=by omega
 have hGim : ¬ (G = i + 1):=by omega
 have hci : ¬ (R.length = i):=by omega
 have htn : ((i : Int) + 1).toNat = i + 1:=by omega
 clear hrz hcp1 hcp2 hN2 hM hl1 hl2 hX1 hX2 hW1 hW2 hW3 hN0 hN1 hb1 hgg hrow hsz hRt hRl hold hti hROW hz hzs hG hown hg
 go_enter Tryz.func168,Tryz.ntmps168
 go_wp2_with (first | (at_builtin;refine Lib.wpList_append_run _ rfl _ _ _ _ rfl _ _ rfl rfl _ _ (HRZ.out _) ?_) | (((with_reducible refine wpList_copy_run ?_ (.tmp 43) (.tmp 44) 221 221 ?_ (.slice (some ⟨w.heap.size,i * 3,none⟩) (R.length + 1 - i) (G - i)) (.slice (some ⟨g,0,none⟩) 1 1) ?_ ?_ (HCP1.out _ _ _ rfl) ?_));exact rfl;exact rfl;exact rfl;exact rfl;go_frame))
 have hw1 : IntKind.i64.wrap ((i : Int) + 1) = (i : Int) + 1:=IntWalk.i64_in _ (by omega)
 go_region_law (refine step_copy_run rfl (.tmp 50) (.tmp 53) 221 221 rfl _ _ (by simp [Act.eval,Act.put];exact ⟨rfl,rfl⟩) (by simp [Act.eval,Act.put];exact ⟨rfl,rfl⟩) (HCP2.out _ _ _ _ _ (by simp) (by simp)) ?_)
 all_goals
  clear hw1
  go_wp2_with fail
  go_ret
  refine ⟨some ⟨w.heap.size,0,none⟩,G,rfl,⟨by rw [rnF_len];simp;omega,.inr ⟨w.heap.size,G,X2.toArray,rfl,hB,HN2.out,by omega,by unfold maxLen;omega,by simpa using HL2.out,by rw [← HX.out]⟩⟩,HM.out.mono (fun k _ hk=>by simp at hk),fun k hk=>.inr (by simp [blk] at hk;omega)⟩
theorem insert_any (B g c i : Nat) (a : Option Addr) (R : List Rn) (x : Rn) (w : World) (hown : Own w B 227 3 a R.length c (rnF R)) (hg : w.heap[g]? = some (.cells (rnC x).toArray 227 (0,0))) (hgb : g ∉ blk a) (hn : R.length ≤ 64) (hi : i ≤ R.length) (hB : B ≤ w.heap.size) :
  Calls Tryz.prog 168 #[.slice a R.length c,.int .i64 i,.slice (some ⟨g,0,none⟩) 1 1] w (InsPost B a R i x w):=by
 rcases Nat.lt_or_ge i R.length with h1 | h1
 ·obtain ⟨b,rfl,_,_⟩:=hown.at_ (by omega)
  rcases Nat.lt_or_ge c (R.length + 1) with h2 | h2
  ·exact ins_grow B g b c i R x w hown hg hn h1 h2 hB
  ·exact ins_room B g b c i R x w hown hg (fun e=>hgb (by simp [blk,e])) hn h1 h2 hB
 ·obtain rfl : i = R.length:=by omega
  exact ins_end B g c a R x w hown hg hn hB
end Go.Proofs.YtoklonmiejdgmaaGreatDoor
/- Package parts: Give, New, Len. -/
namespace Go.Proofs.YtoklonmiejdgmaaGreatDoor
set_option linter.unusedVariables false
set_option linter.unusedSimpArgs false
set_option linter.unnecessarySimpa false
open Go.RowKit Go.Sort
set_option maxHeartbeats 400000
set_option maxRecDepth 100000
/-- May these places be asked for? -/
def wellG (n : Nat) (f m who : Int) : Bool:=decide (0 ≤ f) && decide (1 ≤ m) && decide (f ≤ n) && decide (m ≤ n - f) && decide (0 ≤ who) && decide (who < 64)
theorem wellG_iff (n : Nat) (f m who : Int) : wellG n f m who = true ↔ 0 ≤ f ∧ 1 ≤ m ∧ f ≤ n ∧ m ≤ n - f ∧ 0 ≤ who ∧ who < 64:=by simp [wellG,and_assoc]
/-- The runs with one more. -/
def addR (R : List Rn) (f m who : Nat) : List Rn:=R.take (meetV f m R).1 ++ (f,m,who) :: R.drop (meetV f m R).1
def giveV (n : Nat) (R : List Rn) (f m who : Int) : Int × List Rn:=
 if wellG n f m who then (if (meetV f.toNat m.toNat R).2 then (5,R) else (0,addR R f.toNat m.toNat who.toNat)) else (1,R)
theorem meet_le (f m : Nat) : ∀ R,(meetV f m R).1 ≤ R.length
 | []=>Nat.le_refl _
 | r :: R=>by
  have:=meet_le f m R
  unfold meetV
  split <;> simp <;> omega
theorem meet_parts (f m : Nat) : ∀ R : List Rn,R.Pairwise (fun r s=>r.1 + r.2.1 ≤ s.1) → (∀ r ∈ R,1 ≤ r.2.1) → (meetV f m R).2 = false → (∀ r ∈ R.take (meetV f m R).1,r.1 + r.2.1 ≤ f) ∧ (∀ r ∈ R.drop (meetV f m R).1,f + m ≤ r.1)
 | [],_,_,_=>⟨by simp [meetV],by simp [meetV]⟩
 | r :: R,hp,hn,h=>by
  rw [List.pairwise_cons] at hp
  have ih:=meet_parts f m R hp.2 (fun s hs=>hn s (by simp [hs]))
  unfold meetV at h ⊢
  by_cases h0 : r.1 + r.2.1 ≤ f
  ·rw [if_pos h0] at h ⊢
   dsimp only at h ⊢
   obtain ⟨i1,i2⟩:=ih h
   refine ⟨fun s hs=>?_,by simpa using i2⟩
   rw [List.take_succ_cons,List.mem_cons] at hs
   rcases hs with rfl | hs
   ·exact h0
   ·exact i1 s hs
  ·rw [if_neg h0] at h ⊢
   simp only [decide_eq_false_iff_not] at h
   refine ⟨by simp,fun s hs=>?_⟩
   rw [List.drop_zero,List.mem_cons] at hs
   rcases hs with rfl | hs
   ·omega
   ·have:=hp.1 s hs
    have:=hn r (by simp)
    omega
theorem Okr.add {n : Nat} {R : List Rn} (h : Okr n R) {f m who : Nat} (hm : 1 ≤ m) (hf : f + m ≤ n) (hw : who < 64) (hh : (meetV f m R).2 = false) : Okr n (addR R f m who):=by
 obtain ⟨h1,h2⟩:=meet_parts f m R h.sorted (fun r hr=>(h.each r hr).1) hh
 have hs:=h.sorted
 rw [← List.take_append_drop (meetV f m R).1 R,List.pairwise_append] at hs
 refine ⟨h.n64,fun r hr=>?_,?_⟩
 ·rw [addR,List.mem_append,List.mem_cons] at hr
  rcases hr with hr | rfl | hr
  ·exact h.each r (List.mem_of_mem_take hr)
  ·exact ⟨hm,hf,hw⟩
  ·exact h.each r (List.mem_of_mem_drop hr)
 ·rw [addR,List.pairwise_append,List.pairwise_cons]
  refine ⟨hs.1,⟨fun s hs'=>h2 s hs',hs.2.1⟩,fun r hr s hs'=>?_⟩
  rcases List.mem_cons.1 hs' with rfl | hs'
  ·exact h1 r hr
  ·exact hs.2.2 r hr s hs'
/-- What an act on a table leaves. -/
def TPost (B tt n : Nat) (a : Option Addr) (r : Value) (R' : List Rn) (w : World) (e : Ending) (w' : World) : Prop:=
 ∃ a' cap',e = .returned r ∧ TSt w' B tt a' cap' n R' ∧ Mod (tt :: blk a) w w' ∧ ∀ k ∈ blk a',k ∈ blk a ∨ w.heap.size ≤ k
set_option maxHeartbeats 1600000 in
theorem give_any (B tt cap n : Nat) (a : Option Addr) (R : List Rn) (f m who : Int) (w : World) (h : TSt w B tt a cap n R) (hB : B ≤ w.heap.size) : Calls Tryz.prog 131 #[.pointer (some ⟨tt,0,none⟩),.int .i64 f,.int .i64 m,.int .i64 who] w (TPost B tt n a (.int .i64 (giveV n R f m who).1) (giveV n R f m who).2 w):=by
 have H:=Lib.hid h
 have HN:=Lib.hid (none_no B tt cap n a R w h)
 have c0:=h.obj.cell 0 _ rfl
 have c1:=h.obj.cell 1 _ rfl
 have hn64:=h.ok.n64
 have hfew:=h.ok.few
 have HE : Hid (∀ r,TPost B tt n a r R w (.returned r) w):=fun r=>⟨a,cap,rfl,H.out,Mod.refl _ _,fun k hk=>.inl hk⟩
 by_cases hw : wellG n f m who = true
 ·obtain ⟨w1,w2,w3,w4,w5,w6⟩:=(wellG_iff _ _ _ _).1 hw
  obtain ⟨F,rfl⟩:=Int.eq_ofNat_of_zero_le w1
  obtain ⟨M,rfl⟩:=Int.eq_ofNat_of_zero_le (show 0 ≤ m by omega)
  obtain ⟨V,rfl⟩:=Int.eq_ofNat_of_zero_le w5
  have HG : Hid (giveV n R F M V = if (meetV F M R).2 then (5,R) else (0,addR R F M V)):=by rw [Hid,giveV,if_pos hw];rfl
  have HM:=Lib.hid (meets_any B tt cap n a R F M (by omega) (by omega) w h)
  have hFn : F ≤ n:=by omega
  have hMn : M ≤ n - F:=by omega
  have hV64 : V < 64:=by omega
  have e1 : decide ((F : Int) < 0) = false:=by simp
  have e2 : decide ((M : Int) < 1) = false:=by simp;omega
  have e3 : decide ((n : Int) < (F : Int)) = false:=by simp;omega
  have e4 : decide ((n : Int) - F < (M : Int)) = false:=by simp;omega
  have e5 : decide ((V : Int) < 0) = false:=by simp
  have e6 : decide ((64 : Int) ≤ (V : Int)) = false:=by simp;omega
  have e7 : decide (n < F) = false:=by simp;omega
  have HOK : Hid ((meetV F M R).2 = false → Okr n (addR R F M V)):=fun hh=>h.ok.add (by omega) (by omega) (by omega) hh
  have hml:=meet_le F M R
  obtain ⟨K,hK⟩ : ∃ K,K = (meetV F M R).1:=⟨_,rfl⟩
  have HAD : Hid (addR R F M V = R.take K ++ (F,M,V) :: R.drop K):=by rw [Hid,hK];rfl
  rw [← hK] at HM hml
  clear h hw w1 w2 w3 w4 w5 w6
  cases hh : (meetV F M R).2
  ·have HOKR:=Lib.hid (HOK.out hh)
   have HGV : Hid (giveV n R F M V = (0,addR R F M V)):=by rw [Hid,HG.out,hh];rfl
   rw [hh] at HM
   clear hK hh HG HOK
   go_enter Tryz.func131,Tryz.ntmps131
   go_wp2_with fail
   refine HN.out.mono ?_;rintro e w' ⟨rfl,rfl⟩
   go_wp2_with fail
   refine HM.out.mono ?_;rintro e w2 ⟨rfl,hb2⟩
   have h2:=Lib.hid (H.out.below hb2)
   have d0:=h2.out.obj.cell 0 _ rfl
   have HB2:=Lib.hid hb2
   clear hb2 c0 c1
   go_wp2_with fail
   refine (cloneR_any _ _ _ _ _ h2.out.own.rd (rn_one _) (by omega)).mono ?_;rintro e w3 ⟨a3,c3,rfl,hown3,hb3⟩
   have HO3:=Lib.hid hown3
   have HB3:=Lib.hid (bmore HB2.out hb3)
   have h3:=Lib.hid (h2.out.below hb3)
   have hz23:=hb3.size
   clear hown3 hb3 d0
   go_wp2_with fail
   have hlt3:=h3.out.obj.lt
   have HB0:=HB3.out.size
   obtain ⟨W4,hW4⟩ : ∃ W,W = w3.alloc (.cells #[.int .i64 F,.int .i64 M,.int .i64 V] 227):=⟨_,rfl⟩
   have hal : Below w3.heap.size w3 W4:=by rw [hW4];exact (Below.refl _ _).alloc (Nat.le_refl _) _
   have hg4 : W4.heap[w3.heap.size]? = some (.cells (rnC (F,M,V)).toArray 227 (0,0)):=by rw [hW4];exact new_block w3 _ _ rfl
   have hs4 : W4.heap.size = w3.heap.size + 1:=by rw [hW4];simp
   rw [← hW4]
   clear hW4
   have h4:=Lib.hid (h3.out.below hal)
   have HO4:=Lib.hid (HO3.out.below hal)
   have hg3 : w3.heap.size ∉ blk a3:=fun hk=>by have:=(HO3.out.ge _ hk).2;omega
   have HM4 : Hid (Mod [] w W4):=Mod.ofBelow (bmore HB3.out hal)
   have HB2z:=HB2.out.size
   refine (insert_any w2.heap.size w3.heap.size c3 K a3 R (F,M,V) W4 HO4.out hg4 hg3 hfew hml (by omega)).mono ?_;rintro e w5 ⟨a5,c5,rfl,hown5,hmod5,hat5⟩
   have ho5:=(h4.out.obj.mod hmod5 (fun hk=>by have:=(HO3.out.ge _ hk).1;have:=H.out.obj.lt;omega))
   have q0:=ho5.cell 0 _ rfl
   have qf:=ho5.free 0
   have HP : Hid (TPost B tt n a (.int .i64 0) (R.take K ++ (F,M,V) :: R.drop K) w (.returned (.int .i64 0)) (w5.setCell ⟨tt,0,none⟩ (.slice a5 (R.length + 1) c5))):=by
    have hlen : (R.take K ++ (F,M,V) :: R.drop K).length = R.length + 1:=by simp;omega
    have hge:=hown5.ge
    have hmw : Mod [] w w5:=HM4.out.then hmod5 (fun k hk hl=>by have:=(HO3.out.ge k hk).1;omega)
    refine ⟨a5,c5,rfl,⟨by rw [hlen];exact ho5.set 0 _,?_,by rw [← HAD.out];exact HOKR.out⟩,?_,fun k hk=>.inr (by have:=(hge k hk).1;omega)⟩
    ·rw [hlen]
     exact (hown5.mono (by omega)).upd (Upd.setCell w5 ⟨tt,0,none⟩ _) (fun hk=>by have:=(hge tt hk).1;have:=H.out.obj.lt;omega)
    ·exact (hmw.mono (fun k _ hk=>by simp at hk)).setCell ⟨tt,0,none⟩ _ (.inl (by simp))
   clear hown5 hmod5 hat5 ho5 hg4 hg3 hal h4 HO4 HM4
   go_wp2_with fail
   go_ret
   rw [HGV.out,HAD.out]
   exact HP.out
  ·have HGV : Hid (giveV n R F M V = (5,R)):=by rw [Hid,HG.out,hh];rfl
   rw [hh] at HM
   clear hK hh HG HOK
   go_enter Tryz.func131,Tryz.ntmps131
   go_wp2_with fail
   refine HN.out.mono ?_;rintro e w' ⟨rfl,rfl⟩
   go_wp2_with fail
   refine HM.out.mono ?_;rintro e w2 ⟨rfl,hb2⟩
   go_wp2_with fail
   go_ret
   rw [HGV.out]
   exact ⟨a,cap,rfl,H.out.below hb2,Mod.ofBelow hb2,fun k hk=>.inl hk⟩
 ·have HG : Hid (giveV n R f m who = (1,R)):=by rw [Hid,giveV,if_neg hw]
  have hw' : ¬ (0 ≤ f ∧ 1 ≤ m ∧ f ≤ n ∧ m ≤ n - f ∧ 0 ≤ who ∧ who < 64):=fun hc=>hw ((wellG_iff n f m who).2 hc)
  clear h hw
  by_cases g1 : f < 0
  ·have e1 : decide (f < 0) = true:=by simpa using g1
   clear hw'
   ((go_enter Tryz.func131,Tryz.ntmps131);(go_wp2_with fail);(refine HN.out.mono ?_;rintro e w' ⟨rfl,rfl⟩);(go_wp2_with fail);go_ret;(rw [HG.out]);exact HE.out _)
  ·have e1 : decide (f < 0) = false:=by simpa using g1
   by_cases g2 : m < 1
   ·have e2 : decide (m < 1) = true:=by simpa using g2
    clear hw'
    ((go_enter Tryz.func131,Tryz.ntmps131);(go_wp2_with fail);(refine HN.out.mono ?_;rintro e w' ⟨rfl,rfl⟩);(go_wp2_with fail);go_ret;(rw [HG.out]);exact HE.out _)
   ·have e2 : decide (m < 1) = false:=by simpa using g2
    by_cases g3 : (n : Int) < f
    ·have e3 : decide ((n : Int) < f) = true:=by simpa using g3
     clear hw'
     ((go_enter Tryz.func131,Tryz.ntmps131);(go_wp2_with fail);(refine HN.out.mono ?_;rintro e w' ⟨rfl,rfl⟩);(go_wp2_with fail);go_ret;(rw [HG.out]);exact HE.out _)
    ·have e3 : decide ((n : Int) < f) = false:=by simpa using g3
     by_cases g4 : (n : Int) - f < m
     ·have e4 : decide ((n : Int) - f < m) = true:=by simpa using g4
      clear hw'
      ((go_enter Tryz.func131,Tryz.ntmps131);(go_wp2_with fail);(refine HN.out.mono ?_;rintro e w' ⟨rfl,rfl⟩);(go_wp2_with fail);go_ret;(rw [HG.out]);exact HE.out _)
     ·have e4 : decide ((n : Int) - f < m) = false:=by simpa using g4
      by_cases g5 : who < 0
      ·have e5 : decide (who < 0) = true:=by simpa using g5
       clear hw'
       ((go_enter Tryz.func131,Tryz.ntmps131);(go_wp2_with fail);(refine HN.out.mono ?_;rintro e w' ⟨rfl,rfl⟩);(go_wp2_with fail);go_ret;(rw [HG.out]);exact HE.out _)
      ·have e5 : decide (who < 0) = false:=by simpa using g5
       have e6 : decide ((64 : Int) ≤ who) = true:=by simp;omega
       clear hw'
       ((go_enter Tryz.func131,Tryz.ntmps131);(go_wp2_with fail);(refine HN.out.mono ?_;rintro e w' ⟨rfl,rfl⟩);(go_wp2_with fail);go_ret;(rw [HG.out]);exact HE.out _)
/-- parts.New. -/
theorem tnew_yes (n : Nat) (hn : n ≤ 64) (w : World) : Calls Tryz.prog 129 #[.int .i64 n] w fun e w'=>e = .returned (.tuple #[.pointer (some ⟨w.heap.size,0,none⟩),.int .i64 0]) ∧ TSt w' w.heap.size w.heap.size none 0 n [] ∧ Below w.heap.size w w':=by
 have e1 : decide ((n : Int) < 0) = false:=by simp
 have e2 : decide ((64 : Int) < (n : Int)) = false:=by simp;omega
 have HP : Hid (TSt (w.alloc (.cells #[.slice none 0 0,.int .i64 n,.bool true] 223)) w.heap.size w.heap.size none 0 n []):=⟨new_block w _ _ rfl,Own.nil _ _ _ _,Okr.nil hn⟩
 go_enter Tryz.func129,Tryz.ntmps129
 go_wp2
 go_ret2
 exact ⟨rfl,HP.out,(Below.refl _ _).alloc (Nat.le_refl _) _⟩
end Go.Proofs.YtoklonmiejdgmaaGreatDoor
/- Chapter 4: configurations as values; the small functions. -/
namespace Go.Proofs.YtoklonmiejdgmaaGreatDoor
set_option linter.unusedVariables false
set_option linter.unusedSimpArgs false
set_option linter.unnecessarySimpa false
open Go.RowKit
set_option maxHeartbeats 2000000
set_option maxRecDepth 100000
set_option linter.unusedVariables false
/-- A slice of rows of ints. -/
structure Sl where
 a : Option Addr
 cap : Nat
 l : List (List Int)
def Sl.val (s : Sl) : Value:=.slice s.a s.l.length s.cap
structure SlOk (W : World) (N : Nat) (s : Sl) : Prop where
 rd : Rd W N s.a s.l.length (iF s.l)
 le : s.l.length ≤ s.cap
 cap : s.cap ≤ maxLen
 len : ∀ r ∈ s.l,r.length = N
/-- A configuration. -/
structure Cv where
 cats : Int
 g : Sl
 r : Sl
 p : Sl
 n : Sl
 s : Sl
 gate : Int
 quota : Int
def cfgL (c : Cv) : List Value:=[.int .i64 c.cats,.slice c.g.a c.g.l.length c.g.cap,.slice c.r.a c.r.l.length c.r.cap,.slice c.p.a c.p.l.length c.p.cap,.slice c.n.a c.n.l.length c.n.cap,.slice c.s.a c.s.l.length c.s.cap,.int .i64 c.gate,.int .i64 c.quota]
structure CfgOk (W : World) (c : Cv) : Prop where
 g : SlOk W 3 c.g
 r : SlOk W 3 c.r
 p : SlOk W 2 c.p
 n : SlOk W 2 c.n
 s : SlOk W 2 c.s
variable {W W' w : World} {c : Cv} {b N : Nat} {s : Sl}
theorem SlOk.below (h : SlOk W N s) (hb : Below W.heap.size W W') : SlOk W' N s:=⟨h.rd.below hb,h.le,h.cap,h.len⟩
theorem SlOk.mx (h : SlOk W N s) : s.l.length ≤ 9223372036854775807:=by have:=h.le;have:=h.cap;unfold maxLen at *;omega
theorem CfgOk.below (h : CfgOk W c) (hb : Below W.heap.size W W') : CfgOk W' c:=⟨h.g.below hb,h.r.below hb,h.p.below hb,h.n.below hb,h.s.below hb⟩
/-- A function of a configuration at work: it lies boxed at b. -/
structure CX (w W : World) (b : Nat) (c : Cv) : Prop where
 ob : ObjAt W b 29 (cfgL c)
 ok : CfgOk W c
 bel : Below w.heap.size w W
theorem CX.below (h : CX w W b c) (hb : Below W.heap.size W W') : CX w W' b c:=⟨h.ob.below hb,h.ok.below hb,h.bel.trans (hb.mono h.bel.size)⟩
theorem CX.new (h : CfgOk w c) : CX w (w.alloc (.cells #[.int .i64 c.cats,.slice c.g.a c.g.l.length c.g.cap,.slice c.r.a c.r.l.length c.r.cap,.slice c.p.a c.p.l.length c.p.cap,.slice c.n.a c.n.l.length c.n.cap,.slice c.s.a c.s.l.length c.s.cap,.int .i64 c.gate,.int .i64 c.quota] 29)) w.heap.size c:=
 have hb:=(Below.refl w.heap.size w).alloc (Nat.le_refl _) (.cells #[.int .i64 c.cats,.slice c.g.a c.g.l.length c.g.cap,.slice c.r.a c.r.l.length c.r.cap,.slice c.p.a c.p.l.length c.p.cap,.slice c.n.a c.n.l.length c.n.cap,.slice c.s.a c.s.l.length c.s.cap,.int .i64 c.gate,.int .i64 c.quota] 29)
 ⟨ObjAt.new w _ (cfgL c),h.below hb,hb⟩
def isG (c : Cv) (i : Int) : Bool:=decide (0 ≤ i) && decide (i < c.g.l.length)
theorem isG_iff (c : Cv) (i : Int) : isG c i = true ↔ 0 ≤ i ∧ i < c.g.l.length:=by simp [isG]
theorem guest_any (c : Cv) (i : Int) (w : World) (h : CfgOk w c) : Calls Tryz.prog 133 #[(.agg #[.int .i64 c.cats,.slice c.g.a c.g.l.length c.g.cap,.slice c.r.a c.r.l.length c.r.cap,.slice c.p.a c.p.l.length c.p.cap,.slice c.n.a c.n.l.length c.n.cap,.slice c.s.a c.s.l.length c.s.cap,.int .i64 c.gate,.int .i64 c.quota]),.int .i64 i] w fun e w'=>e = .returned (.bool (isG c i)) ∧ Below w.heap.size w w':=by
 have HI : Hid (isG c i = (decide (0 ≤ i) && decide (i < c.g.l.length))):=rfl
 obtain ⟨x,hx⟩ : ∃ x,x = isG c i:=⟨_,rfl⟩
 rw [← hx] at HI ⊢
 have h0:=CX.new h
 have H0:=Lib.hid h0
 clear h0 h hx
 by_cases h0 : 0 ≤ i
 ·have d0 : decide (i ≥ 0) = true:=by simp [h0]
  by_cases h1 : i < c.g.l.length
  ·have d1 : decide (i < c.g.l.length) = true:=by simp [h1]
   have hx : x = true:=by rw [HI.out];simp [h0,h1]
   subst hx
   go_enter Tryz.func133,Tryz.ntmps133
   go_upto_region 1 with fail
   (have q0:=H0.out.ob.cell 0 _ rfl;have q1:=H0.out.ob.cell 1 _ rfl;have q2:=H0.out.ob.cell 2 _ rfl;have q3:=H0.out.ob.cell 3 _ rfl;have q4:=H0.out.ob.cell 4 _ rfl;have q5:=H0.out.ob.cell 5 _ rfl;have q6:=H0.out.ob.cell 6 _ rfl;have q7:=H0.out.ob.cell 7 _ rfl)
   go_wp2_with fail
   go_ret
   exact ⟨rfl,H0.out.bel⟩
  ·have d1 : decide (i < c.g.l.length) = false:=by simpa using h1
   have hx : x = false:=by rw [HI.out];simp [h1]
   subst hx
   go_enter Tryz.func133,Tryz.ntmps133
   go_upto_region 1 with fail
   (have q0:=H0.out.ob.cell 0 _ rfl;have q1:=H0.out.ob.cell 1 _ rfl;have q2:=H0.out.ob.cell 2 _ rfl;have q3:=H0.out.ob.cell 3 _ rfl;have q4:=H0.out.ob.cell 4 _ rfl;have q5:=H0.out.ob.cell 5 _ rfl;have q6:=H0.out.ob.cell 6 _ rfl;have q7:=H0.out.ob.cell 7 _ rfl)
   go_wp2_with fail
   go_ret
   exact ⟨rfl,H0.out.bel⟩
 ·have d0 : decide (i ≥ 0) = false:=by simp;omega
  have hx : x = false:=by rw [HI.out];simp [h0]
  subst hx
  go_enter Tryz.func133,Tryz.ntmps133
  go_upto_region 1 with fail
  (have q0:=H0.out.ob.cell 0 _ rfl;have q1:=H0.out.ob.cell 1 _ rfl;have q2:=H0.out.ob.cell 2 _ rfl;have q3:=H0.out.ob.cell 3 _ rfl;have q4:=H0.out.ob.cell 4 _ rfl;have q5:=H0.out.ob.cell 5 _ rfl;have q6:=H0.out.ob.cell 6 _ rfl;have q7:=H0.out.ob.cell 7 _ rfl)
  go_wp2_with fail
  go_ret
  exact ⟨rfl,H0.out.bel⟩
/-- The first of n that is so. -/
def fstV (P : Nat → Bool) (n : Nat) : Int × Bool:=match (List.range n).find? P with
 | some i=>(i,true)
 | none=>(0,false)
theorem fstV_hit {P : Nat → Bool} {n k : Nat} (hk : k < n) (h : ∀ j,j < k → P j = false) (hp : P k = true) : fstV P n = ((k : Int),true):=by
 have : (List.range n).find? P = some k:=by
  rw [List.find?_range_eq_some]
  exact ⟨hp,List.mem_range.2 hk,fun j hj=>by simp [h j hj]⟩
 rw [fstV,this]
theorem fstV_none {P : Nat → Bool} {n : Nat} (h : ∀ j,j < n → P j = false) : fstV P n = (0,false):=by
 have : (List.range n).find? P = none:=by
  rw [List.find?_eq_none];intro x hx;simp [h x (List.mem_range.1 hx)]
 rw [fstV,this]
theorem first1 (f : Nat) (p : Value) (n : Nat) (hn : n ≤ 9223372036854775807) (P : Nat → Bool) (I : Nat → World → Prop) (Q : World → Prop) (w : World) (ENT : ∀ args w,Sem.run Tryz.prog (callFunc f args) w = .ok (.enter f args) w) (hI : I 0 w) (hQ : ∀ i W,I i W → Q W)
  (H : ∀ i : Nat,i < n → ∀ W,I i W → Calls Tryz.prog f #[.int .i64 i,p] W (fun e W'=>e = .returned (.bool (P i)) ∧ (P i = false → I (i + 1) W') ∧ Q W')) :
  Calls Tryz.prog 126 #[.int .i64 n,.func (Fn.func f) #[] #[p]] w (fun e W'=>e = .returned (.tuple #[.int .i64 (fstV P n).1,.bool (fstV P n).2]) ∧ Q W'):=by
 have HE:=Lib.hid ENT
 have HH:=Lib.hid H
 have HQ:=Lib.hid hQ
 have HI:=Lib.hid hI
 clear ENT H hQ hI
 go_enter Tryz.func126,Tryz.ntmps126
 go_upto_region 2 with fail
 go_loopw [8] (fun z wr=>∃ k : Nat,k ≤ n ∧ z = .int .i64 k ∧ I k wr ∧ ∀ j,j < k → P j = false) (fun z _=>n - (intOf z).toNat)
 case atStart=>exact ⟨0,by omega,rfl,HI.out,fun j hj=>by omega⟩
 case round=>
  clear HI
  obtain ⟨k,hk,rfl,hi,hp⟩:=hrel
  have KI:=Lib.hid hi
  have KP:=Lib.hid hp
  clear hi hp
  by_cases hkn : k < n
  ·have d1 : decide ((k : Int) < (n : Int)) = true:=by simp;omega
   have w1 : IntKind.i64.wrap ((k : Int) + 1) = (k : Int) + 1:=by rw [IntKind.wrap_i64];omega
   go_wp2_with fail
   rw [HE.out,Oper.upon_enter]
   refine (HH.out k hkn _ KI.out).mono ?_
   rintro e W2 ⟨rfl,h1,h2⟩
   have N2:=Lib.hid h1
   have Q2:=Lib.hid h2
   clear h1 h2
   cases hpk : P k with
   | false=>
    dsimp only
    go_wp2_with fail
    go_roundw
    case rel=>exact ⟨k + 1,by omega,by go_num,N2.out hpk,fun j hj=>by
     by_cases hjk : j = k
     ·rw [hjk];exact hpk
     ·exact KP.out j (by omega)⟩
    case measure=>simp [intOf];omega
   | true=>
    have hf:=fstV_hit hkn KP.out hpk
    have HF:=Lib.hid hf
    clear hf
    dsimp only
    go_wp2_with fail
    go_ret2
    exact ⟨by rw [HF.out];rfl,Q2.out⟩
  ·have d1 : decide ((k : Int) < (n : Int)) = false:=by simp;omega
   have hf:=fstV_none (n:=n) (P:=P) (fun j hj=>KP.out j (by omega))
   have HF:=Lib.hid hf
   clear hf
   go_wp2_with fail
   go_ret2
   exact ⟨by rw [HF.out];rfl,HQ.out _ _ KI.out⟩
theorem first2 (f : Nat) (p q : Value) (n : Nat) (hn : n ≤ 9223372036854775807) (P : Nat → Bool) (I : Nat → World → Prop) (Q : World → Prop) (w : World) (ENT : ∀ args w,Sem.run Tryz.prog (callFunc f args) w = .ok (.enter f args) w) (hI : I 0 w) (hQ : ∀ i W,I i W → Q W)
  (H : ∀ i : Nat,i < n → ∀ W,I i W → Calls Tryz.prog f #[.int .i64 i,p,q] W (fun e W'=>e = .returned (.bool (P i)) ∧ (P i = false → I (i + 1) W') ∧ Q W')) :
  Calls Tryz.prog 126 #[.int .i64 n,.func (Fn.func f) #[] #[p,q]] w (fun e W'=>e = .returned (.tuple #[.int .i64 (fstV P n).1,.bool (fstV P n).2]) ∧ Q W'):=by
 have HE:=Lib.hid ENT
 have HH:=Lib.hid H
 have HQ:=Lib.hid hQ
 have HI:=Lib.hid hI
 clear ENT H hQ hI
 go_enter Tryz.func126,Tryz.ntmps126
 go_upto_region 2 with fail
 go_loopw [8] (fun z wr=>∃ k : Nat,k ≤ n ∧ z = .int .i64 k ∧ I k wr ∧ ∀ j,j < k → P j = false) (fun z _=>n - (intOf z).toNat)
 case atStart=>exact ⟨0,by omega,rfl,HI.out,fun j hj=>by omega⟩
 case round=>
  clear HI
  obtain ⟨k,hk,rfl,hi,hp⟩:=hrel
  have KI:=Lib.hid hi
  have KP:=Lib.hid hp
  clear hi hp
  by_cases hkn : k < n
  ·have d1 : decide ((k : Int) < (n : Int)) = true:=by simp;omega
   have w1 : IntKind.i64.wrap ((k : Int) + 1) = (k : Int) + 1:=by rw [IntKind.wrap_i64];omega
   go_wp2_with fail
   rw [HE.out,Oper.upon_enter]
   refine (HH.out k hkn _ KI.out).mono ?_
   rintro e W2 ⟨rfl,h1,h2⟩
   have N2:=Lib.hid h1
   have Q2:=Lib.hid h2
   clear h1 h2
   cases hpk : P k with
   | false=>
    dsimp only
    go_wp2_with fail
    go_roundw
    case rel=>exact ⟨k + 1,by omega,by go_num,N2.out hpk,fun j hj=>by
     by_cases hjk : j = k
     ·rw [hjk];exact hpk
     ·exact KP.out j (by omega)⟩
    case measure=>simp [intOf];omega
   | true=>
    have hf:=fstV_hit hkn KP.out hpk
    have HF:=Lib.hid hf
    clear hf
    dsimp only
    go_wp2_with fail
    go_ret2
    exact ⟨by rw [HF.out];rfl,Q2.out⟩
  ·have d1 : decide ((k : Int) < (n : Int)) = false:=by simp;omega
   have hf:=fstV_none (n:=n) (P:=P) (fun j hj=>KP.out j (by omega))
   have HF:=Lib.hid hf
   clear hf
   go_wp2_with fail
   go_ret2
   exact ⟨by rw [HF.out];rfl,HQ.out _ _ KI.out⟩
def sumG (l : List (List Int)) : Int:=(l.map fun r=>r.getD 1 0 + r.getD 2 0).sum
theorem sumG_take (l : List (List Int)) (k : Nat) (hk : k < l.length) : sumG (l.take (k + 1)) = sumG (l.take k) + (l[k].getD 1 0 + l[k].getD 2 0):=by
 rw [List.take_add_one,List.getElem?_eq_getElem hk]
 simp only [sumG,List.map_append,List.sum_append,Option.toList_some,List.map_cons,List.map_nil,List.sum_cons,List.sum_nil,Int.add_zero]
def GRow (r : List Int) : Prop:=1 ≤ r.getD 1 0 ∧ r.getD 1 0 ≤ 8 ∧ 0 ≤ r.getD 2 0 ∧ r.getD 2 0 ≤ 8
theorem sumG_bound : ∀ (l : List (List Int)),(∀ r ∈ l,GRow r) → 0 ≤ sumG l ∧ sumG l ≤ 16 * l.length
 | [],_=>by simp [sumG]
 | r :: l,h=>by
  have h1:=h r (by simp)
  have h2:=sumG_bound l (fun r' hr=>h r' (by simp [hr]))
  unfold GRow at h1
  simp only [sumG,List.map_cons,List.sum_cons,List.length_cons] at h2 ⊢
  omega
theorem sumG_takeb (l : List (List Int)) (h : ∀ r ∈ l,GRow r) (k : Nat) (hk : k ≤ l.length) : 0 ≤ sumG (l.take k) ∧ sumG (l.take k) ≤ 16 * k:=by
 have:=sumG_bound (l.take k) (fun r hr=>h r (List.mem_of_mem_take hr))
 rw [List.length_take] at this
 omega
theorem row3 {l : List (List Int)} {k : Nat} (hk : k < l.length) (h : ∀ r ∈ l,r.length = 3) : ∃ x y z,l[k] = [x,y,z]:=by
 have:=h _ (List.getElem_mem hk)
 match hq : l[k],this with
 | [x,y,z],_=>exact ⟨x,y,z,rfl⟩
theorem row2 {l : List (List Int)} {k : Nat} (hk : k < l.length) (h : ∀ r ∈ l,r.length = 2) : ∃ x y,l[k] = [x,y]:=by
 have:=h _ (List.getElem_mem hk)
 match hq : l[k],this with
 | [x,y],_=>exact ⟨x,y,rfl⟩
theorem SlOk.cells {N : Nat} {s : Sl} {W : World} (h : SlOk W N s) (hN : 0 < N) (k : Nat) (hk : k < s.l.length) : ∃ b o,s.a = some ⟨b,o,none⟩ ∧ ∀ W',Below W.heap.size W W' → ∀ j x,(s.l[k])[j]? = some x → W'.cell? ⟨b,o + k * N + j,none⟩ = some (.int .i64 x):=by
 obtain ⟨b,o,h1,_,h2⟩:=rowN_at h.rd h.len hN k hk
 refine ⟨b,o,h1,fun W' hb j x hx=>?_⟩
 have:=h2 j x hx
 rw [hb.cell (p:=⟨b,o + k * N + j,none⟩) (World.block_lt_of_cell? _ _ this)];exact this
def needV (c : Cv) : Int:=c.n.l.length + sumG c.g.l
structure GOk (c : Cv) : Prop where
 g : c.g.l.length ≤ 4
 n : c.n.l.length ≤ 4
 row : ∀ r ∈ c.g.l,GRow r
theorem need_any (c : Cv) (hg : GOk c) (w : World) (h : CfgOk w c) : Calls Tryz.prog 92 #[(.agg #[.int .i64 c.cats,.slice c.g.a c.g.l.length c.g.cap,.slice c.r.a c.r.l.length c.r.cap,.slice c.p.a c.p.l.length c.p.cap,.slice c.n.a c.n.l.length c.n.cap,.slice c.s.a c.s.l.length c.s.cap,.int .i64 c.gate,.int .i64 c.quota])] w fun e w'=>e = .returned (.int .i64 (needV c)) ∧ Below w.heap.size w w':=by
 have HG:=Lib.hid hg
 have HC:=Lib.hid h
 clear hg
 (have h0:=CX.new h;go_enter Tryz.func92,Tryz.ntmps92;go_upto_region 1 with fail;generalize w.alloc (.cells #[.int .i64 c.cats,.slice c.g.a c.g.l.length c.g.cap,.slice c.r.a c.r.l.length c.r.cap,.slice c.p.a c.p.l.length c.p.cap,.slice c.n.a c.n.l.length c.n.cap,.slice c.s.a c.s.l.length c.s.cap,.int .i64 c.gate,.int .i64 c.quota] 29) = W1 at h0 ⊢;generalize w.heap.size = b0 at h0 ⊢;have H0:=Lib.hid h0;clear h0 h)
 (have q0:=H0.out.ob.cell 0 _ rfl;have q1:=H0.out.ob.cell 1 _ rfl;have q2:=H0.out.ob.cell 2 _ rfl;have q3:=H0.out.ob.cell 3 _ rfl;have q4:=H0.out.ob.cell 4 _ rfl;have q5:=H0.out.ob.cell 5 _ rfl;have q6:=H0.out.ob.cell 6 _ rfl;have q7:=H0.out.ob.cell 7 _ rfl)
 go_upto_region 3 with fail
 clear q0 q1 q2 q3 q4 q5 q6 q7
 go_loopw [3,12] (fun g3 g12 wr=>∃ k : Nat,k ≤ c.g.l.length ∧ g12 = .int .i64 k ∧ g3 = .int .i64 (c.n.l.length + sumG (c.g.l.take k)) ∧ Below W1.heap.size W1 wr) (fun _ g12 _=>c.g.l.length - (intOf g12).toNat)
 case atStart=>exact ⟨0,by omega,rfl,by simp [sumG],Below.refl _ _⟩
 case round=>
  obtain ⟨k,hk,rfl,rfl,hb⟩:=hrel
  have HB:=Lib.hid hb
  obtain ⟨sk,hsk⟩ : ∃ x,x = c.n.l.length + sumG (c.g.l.take k):=⟨_,rfl⟩
  rw [← hsk]
  have HS:=Lib.hid hsk
  by_cases hkl : k < c.g.l.length
  ·have d1 : decide ((k : Int) < (c.g.l.length : Int)) = true:=by simp;omega
   have kz : (0 : Int) ≤ (k : Int):=by omega
   have kl : (k : Int) < (c.g.l.length : Int):=by omega
   have w1 : IntKind.i64.wrap ((k : Int) + 1) = (k : Int) + 1:=by have:=HG.out.g;rw [IntKind.wrap_i64];omega
   obtain ⟨bx,ox,hax,hcx⟩:=HC.out.g.cells (by omega) k hkl
   obtain ⟨x,y,z,hrow⟩:=row3 hkl HC.out.g.len
   have hgr:=HG.out.row _ (List.getElem_mem hkl)
   have hst:=sumG_take c.g.l k hkl
   have hsb:=sumG_takeb c.g.l HG.out.row k (by omega)
   rw [hrow] at hcx hgr hst
   simp only [GRow,List.getD_cons_succ,List.getD_cons_zero] at hgr hst
   have HST:=Lib.hid hst
   have hb2:=H0.out.bel.trans (HB.out.mono H0.out.bel.size)
   have c0:=hcx _ hb2 0 _ rfl;have c1:=hcx _ hb2 1 _ rfl;have c2:=hcx _ hb2 2 _ rfl
   simp only [Nat.add_zero] at c0
   have hgl:=HG.out.g;have hnl:=HG.out.n
   have w2 : IntKind.i64.wrap (y + z) = y + z:=by rw [IntKind.wrap_i64];omega
   have w3 : IntKind.i64.wrap (sk + (y + z)) = sk + (y + z):=by rw [IntKind.wrap_i64];omega
   have HAX:=Lib.hid hax
   rw [hax]
   clear hb hb2 hcx hrow hgr hst hsb hsk hgl hnl hax
   go_wp2_with fail
   go_roundw
   case rel=>exact ⟨k + 1,by omega,by go_num,by rw [HST.out,HS.out];congr 1;omega,HB.out.alloc HB.out.size _⟩
   case measure=>simp [intOf];omega
  ·have d1 : decide ((k : Int) < (c.g.l.length : Int)) = false:=by simp;omega
   go_wp2_with fail
   go_ret
   have hkk : k = c.g.l.length:=by omega
   refine ⟨?_,H0.out.bel.trans (HB.out.mono H0.out.bel.size)⟩
   rw [HS.out,hkk,List.take_length];rfl
end Go.Proofs.YtoklonmiejdgmaaGreatDoor
/- Package plan: names, ranks, letters, lines, numbers. -/
namespace Go.Proofs.YtoklonmiejdgmaaGreatDoor
set_option linter.unusedVariables false
set_option linter.unusedSimpArgs false
set_option linter.unnecessarySimpa false
open Go.RowKit Go.Sort
set_option maxHeartbeats 2000000
set_option maxRecDepth 100000
set_option linter.unusedVariables false
def rkNames : List (List UInt8):=[[99,97,116,115],[103,117,101,115,116],[114,97,110,103,101],[112,111,114,116],[114,105,110,103],[115,108,111,116],[103,97,116,101]]
def rkName (k : Nat) : List UInt8:=rkNames.getD k []
theorem name_0 (w : World) : Calls Tryz.prog 110 #[.int .i64 0] w fun e w'=>e = .returned (.string (ba (rkName 0))) ∧ w = w':=by
 go_enter Tryz.func110,Tryz.ntmps110
 go_wp2
 go_ret
 exact ⟨rfl,rfl⟩
theorem name_1 (w : World) : Calls Tryz.prog 110 #[.int .i64 1] w fun e w'=>e = .returned (.string (ba (rkName 1))) ∧ w = w':=by
 go_enter Tryz.func110,Tryz.ntmps110
 go_wp2
 go_ret
 exact ⟨rfl,rfl⟩
theorem name_2 (w : World) : Calls Tryz.prog 110 #[.int .i64 2] w fun e w'=>e = .returned (.string (ba (rkName 2))) ∧ w = w':=by
 go_enter Tryz.func110,Tryz.ntmps110
 go_wp2
 go_ret
 exact ⟨rfl,rfl⟩
theorem name_3 (w : World) : Calls Tryz.prog 110 #[.int .i64 3] w fun e w'=>e = .returned (.string (ba (rkName 3))) ∧ w = w':=by
 go_enter Tryz.func110,Tryz.ntmps110
 go_wp2
 go_ret
 exact ⟨rfl,rfl⟩
theorem name_4 (w : World) : Calls Tryz.prog 110 #[.int .i64 4] w fun e w'=>e = .returned (.string (ba (rkName 4))) ∧ w = w':=by
 go_enter Tryz.func110,Tryz.ntmps110
 go_wp2
 go_ret
 exact ⟨rfl,rfl⟩
theorem name_5 (w : World) : Calls Tryz.prog 110 #[.int .i64 5] w fun e w'=>e = .returned (.string (ba (rkName 5))) ∧ w = w':=by
 go_enter Tryz.func110,Tryz.ntmps110
 go_wp2
 go_ret
 exact ⟨rfl,rfl⟩
theorem name_6 (w : World) : Calls Tryz.prog 110 #[.int .i64 6] w fun e w'=>e = .returned (.string (ba (rkName 6))) ∧ w = w':=by
 go_enter Tryz.func110,Tryz.ntmps110
 go_wp2
 go_ret
 exact ⟨rfl,rfl⟩
theorem pname_any (k : Nat) (h : k < 7) (w : World) : Calls Tryz.prog 110 #[.int .i64 k] w fun e w'=>e = .returned (.string (ba (rkName k))) ∧ w = w':=by
 rcases (by omega : k = 0 ∨ k = 1 ∨ k = 2 ∨ k = 3 ∨ k = 4 ∨ k = 5 ∨ k = 6) with rfl | rfl | rfl | rfl | rfl | rfl | rfl
 ·exact name_0 w
 ·exact name_1 w
 ·exact name_2 w
 ·exact name_3 w
 ·exact name_4 w
 ·exact name_5 w
 ·exact name_6 w
/-- The rank of a first word; 7: none has it. -/
def rankV (s : List UInt8) : Nat:=match (List.range 7).find? (fun k=>decide (rkName k = s)) with
 | some k=>k
 | none=>7
theorem rankV_le (s : List UInt8) : rankV s ≤ 7:=by
 unfold rankV
 split
 ·rename_i i h
  have:=List.mem_range.1 (List.mem_of_find?_eq_some h);omega
 ·omega
theorem rankV_hit {s : List UInt8} {k : Nat} (hk : k < 7) (h : rkName k = s) (hn : ∀ j,j < k → rkName j ≠ s) : rankV s = k:=by
 have : (List.range 7).find? (fun k=>decide (rkName k = s)) = some k:=by
  rw [List.find?_range_eq_some]
  exact ⟨by simp [h],List.mem_range.2 hk,fun j hj=>by simpa using hn j hj⟩
 rw [rankV,this]
theorem rankV_none {s : List UInt8} (hn : ∀ j,j < 7 → rkName j ≠ s) : rankV s = 7:=by
 have : (List.range 7).find? (fun k=>decide (rkName k = s)) = none:=by
  rw [List.find?_eq_none]
  intro j hj
  simpa using hn j (List.mem_range.1 hj)
 rw [rankV,this]
theorem bs_beq (a : List UInt8) (s : ByteArray) : ((ba a).toList == s.toList) = decide (a = s.data.toList):=by
 rw [ByteArray.toList_eq,ByteArray.toList_eq,ba_data]
 by_cases h : a = s.data.toList <;> simp [h]
theorem rankOf_any (s : ByteArray) (w : World) : Calls Tryz.prog 80 #[.string s] w fun e w'=>e = .returned (.tuple #[.int .i64 (if rankV s.data.toList < 7 then rankV s.data.toList else 0 : Nat),.bool (decide (rankV s.data.toList < 7))]) ∧ w = w':=by
 obtain ⟨x,hx⟩ : ∃ x,x = rankV s.data.toList:=⟨_,rfl⟩
 rw [← hx]
 have HX:=Lib.hid hx
 clear hx
 go_enter Tryz.func80,Tryz.ntmps80
 go_wp2
 go_loop [5] (fun i=>∃ k : Nat,k ≤ 7 ∧ i = .int .i64 k ∧ ∀ j,j < k → rkName j ≠ s.data.toList) (fun i=>7 - (intOf i).toNat)
 case atStart=>exact ⟨0,by omega,rfl,fun j hj=>by omega⟩
 case round=>
  obtain ⟨k,hk,rfl,hn⟩:=hrel
  have HN:=Lib.hid hn
  clear hn
  by_cases hlt : k < 7
  ·have d1 : decide ((k : Int) < 7) = true:=decide_eq_true (by omega)
   have d1' : decide (k < 7) = true:=decide_eq_true hlt
   have w1 : IntKind.i64.wrap ((k : Int) + 1) = (k : Int) + 1:=by rw [IntKind.wrap_i64];omega
   have NAM : Hid (∀ w,Calls Tryz.prog 110 #[.int .i64 k] w fun e w'=>e = .returned (.string (ba (rkName k))) ∧ w = w'):=fun w=>pname_any k hlt w
   have hbq:=bs_beq (rkName k) s
   by_cases he : rkName k = s.data.toList
   ·have hx : x = k:=by rw [HX.out];exact rankV_hit hlt he HN.out
    have de : ((ba (rkName k)).toList == s.toList) = true:=by rw [hbq,decide_eq_true he]
    subst hx
    clear he hbq
    go_wp2_with (go_at_call 110;refine (NAM.out _).mono ?_;rintro e w1 ⟨rfl,rfl⟩)
    go_ret2
    exact ⟨rfl,rfl⟩
   ·have de : ((ba (rkName k)).toList == s.toList) = false:=by rw [hbq,decide_eq_false he]
    have HN2 : Hid (∀ j,j < k + 1 → rkName j ≠ s.data.toList):=fun j hj=>by
     by_cases e : j = k
     ·subst e;exact he
     ·exact HN.out j (by omega)
    clear he hbq
    go_wp2_with (go_at_call 110;refine (NAM.out _).mono ?_;rintro e w1 ⟨rfl,rfl⟩)
    go_round
    case rel=>exact ⟨k + 1,by omega,by go_num,HN2.out⟩
    case measure=>simp [intOf];omega
  ·have d1 : decide ((k : Int) < 7) = false:=decide_eq_false (by omega)
   have d1' : decide (k < 7) = false:=decide_eq_false hlt
   have hx : x = 7:=by rw [HX.out];exact rankV_none (fun j hj=>HN.out j (by omega))
   subst hx
   go_wp2
   go_ret2
   exact ⟨rfl,rfl⟩
theorem letters_str (l : Int) (w : World) : Calls Tryz.prog 66 #[.int .i64 l] w fun e w'=>e = .returned (.string (lbS l)) ∧ Below w.heap.size w w':=by
 go_enter Tryz.func66,Tryz.ntmps66
 go_wp2_with (go_at_call 111;refine (ltext_any _ _).mono ?_;rintro e w1 ⟨rfl,hb1⟩)
 go_ret
 exact ⟨rfl,hb1⟩
/-- Words as numbers. -/
def nmsB (l : List (List UInt8)) : Bool:=l.all numB
def nmsL (l : List (List UInt8)) : List Int:=l.map fun x=>((numI x : Nat) : Int)
def zC (l : List Int) : List Value:=l.map fun (x : Int)=>Value.int .i64 x
theorem zC_snoc (l : List Int) (x : Int) : zC (l ++ [x]) = zC l ++ [.int .i64 x]:=by simp [zC]
theorem zC_get (l : List Int) (k : Nat) (h : k < l.length) : (zC l)[k]? = some (.int .i64 l[k]):=by simp [zC,h]
theorem info_in : (Tryz.prog.info? 3).map (fun i=>(i.zero,i.size,i.bytes)) = some (some (.int .i64 0),1,8):=by kernel_rfl
theorem nmsB_bad {l : List (List UInt8)} {k : Nat} (h : k < l.length) (hb : numB l[k] = false) : nmsB l = false:=by
 unfold nmsB;rw [List.all_eq_false]
 exact ⟨l[k],List.getElem_mem h,by simp [hb]⟩
theorem nmsB_all {l : List (List UInt8)} (h : ∀ k (hk : k < l.length),numB l[k] = true) : nmsB l = true:=by
 unfold nmsB;rw [List.all_eq_true]
 intro x hx
 obtain ⟨k,hk,rfl⟩:=List.mem_iff_getElem.1 hx
 exact h k hk
/-- What numbers hands back. -/
def NmPost (l : List (List UInt8)) (w : World) (e : Ending) (w' : World) : Prop:=
 (nmsB l = true → ∃ a cap,e = .returned (.tuple #[.slice a l.length cap,.bool true]) ∧ Own w' w.heap.size 3 1 a l.length cap (zC (nmsL l))) ∧ (nmsB l = false → e = .returned (.tuple #[.slice none 0 0,.bool false])) ∧ Below w.heap.size w w'
theorem numbers_any (a : Option Addr) (cap : Nat) (l : List (List UInt8)) (hsm : ∀ x ∈ l,x.length ≤ 100000000) (hl : l.length ≤ 1000000000) (w : World) (h : Rd w 1 a l.length (strC l)) : Calls Tryz.prog 125 #[.slice a l.length cap] w (NmPost l w):=by
 obtain ⟨ii,hii,hzi,hzi1,hzi2⟩:=info_parts info_in
 have HGET : Hid (∀ k,(hk : k < l.length) → ∃ g o,a = some ⟨g,o,none⟩ ∧ g < w.heap.size ∧ w.cell? ⟨g,o + k,none⟩ = some (.string (ba l[k]))):=fun k hk=>by
  have ha : a ≠ none:=fun h0=>by have:=h.2.1 h0;omega
  obtain ⟨p,rfl⟩:=Option.ne_none_iff_exists'.1 ha
  obtain ⟨b,o,rfl,hb,hc⟩:=h.2.2 p rfl (fun h0=>by have:=strC_len l;rw [h0] at this;simp at this;omega)
  exact ⟨b,o,rfl,hb,hc k _ (strC_get l k hk)⟩
 have HBAD : Hid (∀ w',nmsB l = false → Below w.heap.size w w' → NmPost l w (.returned (.tuple #[.slice none 0 0,.bool false])) w'):=fun w' h1 h2=>⟨fun h=>(by rw [h1] at h;cases h),fun _=>rfl,h2⟩
 have HGOOD : Hid (∀ w' a' c',nmsB l = true → Own w' w.heap.size 3 1 a' l.length c' (zC (nmsL l)) → Below w.heap.size w w' → NmPost l w (.returned (.tuple #[.slice a' l.length c',.bool true])) w'):=fun w' a' c' h1 h2 h3=>⟨fun _=>⟨a',c',rfl,h2⟩,fun h=>(by rw [h1] at h;cases h),h3⟩
 have HSM:=Lib.hid hsm
 have HO0 : Hid (Own w w.heap.size 3 1 none 0 0 (zC (nmsL (l.take 0)))):=Own.nil _ _ _ _
 clear h hsm
 go_enter Tryz.func125,Tryz.ntmps125
 go_wp2
 go_loopw [4,11] (fun o i wr=>∃ (k : Nat) (ao : Option Addr) (co : Nat),k ≤ l.length ∧ i = .int .i64 k ∧ o = .slice ao k co ∧ Own wr w.heap.size 3 1 ao k co (zC (nmsL (l.take k))) ∧ Below w.heap.size w wr ∧ ∀ j (hj : j < l.length),j < k → numB l[j] = true) (fun _ i _=>l.length - (intOf i).toNat)
 case atStart=>exact ⟨0,none,0,by omega,rfl,rfl,HO0.out,Below.refl _ _,fun j _ hj=>by omega⟩
 case round=>
  clear HO0
  obtain ⟨k,ao,co,hk,rfl,rfl,ho,hbe,hn⟩:=hrel
  have HO:=Lib.hid ho
  have HB:=Lib.hid hbe
  have HN:=Lib.hid hn
  have hsz:=hbe.size
  clear ho hbe hn
  by_cases hlt : k < l.length
  ·obtain ⟨g,o,ha,hg,hc⟩:=HGET.out k hlt
   obtain ⟨x,hx⟩ : ∃ x,Hid (x = l[k]):=⟨_,Lib.hid rfl⟩
   have hcr : wr.cell? ⟨g,o + k,none⟩ = some (.string (ba x)):=by rw [HB.out.cell (p:=⟨g,o + k,none⟩) hg,hc,hx.out]
   have hxl : x.length ≤ 100000000:=by rw [hx.out];exact HSM.out _ (List.getElem_mem hlt)
   have HNUM:=fun W=>Lib.hid (number_any (ba x) (by rw [ba_size];unfold maxLen;omega) W)
   rw [ba_data] at HNUM
   subst ha
   clear hc
   cases hb : numB x
   ·have HBD:=Lib.hid (nmsB_bad hlt (by rw [← hx.out];exact hb))
    rw [hb] at HNUM
    clear hb
    go_wp2_with (go_at_call 142;refine ((HNUM _).out).mono ?_;rintro e w1 ⟨rfl,hb1⟩)
    go_ret2
    exact HBAD.out _ HBD.out (bmore HB.out hb1)
   ·have HN2 : Hid (∀ j (hj : j < l.length),j < k + 1 → numB l[j] = true):=fun j hj hjk=>by
     by_cases e : j = k
     ·subst e;rw [← hx.out];exact hb
     ·exact HN.out j hj (by omega)
    rw [hb] at HNUM
    have HV : Hid (zC (nmsL (l.take (k + 1))) = zC (nmsL (l.take k)) ++ [.int .i64 (numI x : Nat)]):=by
     rw [Hid,List.take_succ_eq_append_getElem hlt,nmsL,List.map_append,List.map_cons,List.map_nil,zC_snoc,hx.out];rfl
    have hlx:=numI_lt x
    clear hb
    generalize numI x = v at HNUM HV hlx
    go_wp2_with fail
    refine ((HNUM _).out).mono ?_;rintro e w3 ⟨rfl,hb3⟩
    have HB3:=Lib.hid (bmore HB.out hb3)
    have HO3:=Lib.hid (HO.out.below hb3)
    have hs3:=HB3.out.size
    clear hb3
    go_wp2_with (at_builtin;(refine wpList_own rfl (.tmp 22) (.tmp 24) 171 rfl w.heap.size 3 ii _ 1 8 Tryz.underlying171 hii hzi hzi1 hzi2 rfl (by omega) ao k co (zC (nmsL (l.take k))) rfl (HO3.out.below ((Below.refl _ _).alloc (Nat.le_refl _) _)) w3.heap.size [.int .i64 (v : Nat)] rfl (new_block _ _ _ rfl) rfl (by simp [Value.oneCell']) (by simp only [maxLen];omega) (by omega) (by simp;omega) ?_);intro g' c' w4 hown1 hmod1 _;have HO4:=Lib.hid hown1;have HM : Hid (Mod (blk ao) w3 w4):=((Mod.ofBelow ((Below.refl w3.heap.size w3).alloc (Nat.le_refl _) _)).trans hmod1);clear hown1 hmod1)
    have HO5 : Hid (Own w4 w.heap.size 3 1 (some ⟨g',0,none⟩) (k + 1) c' (zC (nmsL (l.take (k + 1))))):=by rw [HV.out];exact HO4.out
    have HB4 : Hid (Below w.heap.size w w4):=HB3.out.trans (HM.out.below (fun j hj=>(HO3.out.ge j hj).1) hs3)
    go_roundw
    case rel=>exact ⟨k + 1,some ⟨g',0,none⟩,c',by omega,by go_num,by go_num,HO5.out,HB4.out,HN2.out⟩
    case measure=>simp [intOf];omega
  ·obtain rfl : k = l.length:=by omega
   rw [List.take_length] at HO
   have HT:=Lib.hid (nmsB_all (fun j hj=>HN.out j hj hj))
   have HFIN:=Lib.hid (HGOOD.out wr ao co HT.out HO.out HB.out)
   go_wp2_with fail
   go_ret2
   exact HFIN.out
end Go.Proofs.YtoklonmiejdgmaaGreatDoor
/- Package plan: the reader's state. -/
namespace Go.Proofs.YtoklonmiejdgmaaGreatDoor
set_option linter.unusedVariables false
set_option linter.unusedSimpArgs false
set_option linter.unnecessarySimpa false
open Go.RowKit Go.Sort
set_option maxHeartbeats 2000000
set_option maxRecDepth 100000
set_option linter.unusedVariables false
/-- A configuration, plain. -/
structure Pc where
 cats : Int
 g : List (List Int)
 r : List (List Int)
 p : List (List Int)
 n : List (List Int)
 s : List (List Int)
 gate : Int
 quota : Int
def pcOf (c : Cv) : Pc:=⟨c.cats,c.g.l,c.r.l,c.p.l,c.n.l,c.s.l,c.gate,c.quota⟩
/-- The reader at work. -/
structure RD (w : World) (rb : Nat) (c : Cv) (last : Int) (W : World) : Prop where
 bel : Below w.heap.size w W
 new : w.heap.size ≤ rb
 ob : ObjAt W rb 106 [.int .i64 c.cats,.slice c.g.a c.g.l.length c.g.cap,.slice c.r.a c.r.l.length c.r.cap,.slice c.p.a c.p.l.length c.p.cap,.slice c.n.a c.n.l.length c.n.cap,.slice c.s.a c.s.l.length c.s.cap,.int .i64 c.gate,.int .i64 c.quota,.int .i64 last]
 g : Own W w.heap.size 130 3 c.g.a c.g.l.length c.g.cap (iF c.g.l)
 r : Own W w.heap.size 132 3 c.r.a c.r.l.length c.r.cap (iF c.r.l)
 p : Own W w.heap.size 134 2 c.p.a c.p.l.length c.p.cap (iF c.p.l)
 n : Own W w.heap.size 137 2 c.n.a c.n.l.length c.n.cap (iF c.n.l)
 s : Own W w.heap.size 139 2 c.s.a c.s.l.length c.s.cap (iF c.s.l)
 lg : ∀ x ∈ c.g.l,x.length = 3
 lr : ∀ x ∈ c.r.l,x.length = 3
 lp : ∀ x ∈ c.p.l,x.length = 2
 ln : ∀ x ∈ c.n.l,x.length = 2
 ls : ∀ x ∈ c.s.l,x.length = 2
theorem RD.more {w : World} {rb : Nat} {c : Cv} {last : Int} {W W' : World} (h : RD w rb c last W) (hb : Below W.heap.size W W') : RD w rb c last W':=
 ⟨bmore h.bel hb,h.new,h.ob.below hb,h.g.below hb,h.r.below hb,h.p.below hb,h.n.below hb,h.s.below hb,h.lg,h.lr,h.lp,h.ln,h.ls⟩
theorem RD.cfg {w : World} {rb : Nat} {c : Cv} {last : Int} {W : World} (h : RD w rb c last W) : CfgOk W c:=
 ⟨⟨h.g.rd,h.g.le,h.g.capMax,h.lg⟩,⟨h.r.rd,h.r.le,h.r.capMax,h.lr⟩,⟨h.p.rd,h.p.le,h.p.capMax,h.lp⟩,⟨h.n.rd,h.n.le,h.n.capMax,h.ln⟩,⟨h.s.rd,h.s.le,h.s.capMax,h.ls⟩⟩
theorem iF_snoc (l : List (List Int)) (x : List Int) : iF (l ++ [x]) = iF l ++ ivs x:=by simp [iF]
theorem RD.put {w : World} {rb : Nat} {c : Cv} {last : Int} {W : World} (h : RD w rb c last W) (j : Nat) (v : Value) : Below w.heap.size w (W.setCell ⟨rb,j,none⟩ v):=h.bel.trans ((Upd.setCell W ⟨rb,j,none⟩ v).below h.new h.bel.size)
/-- Fields that are numbers. -/
theorem RD.setLast {w : World} {rb : Nat} {c : Cv} {last : Int} {W : World} (h : RD w rb c last W) (x : Int) : RD w rb c x (W.setCell ⟨rb,8,none⟩ (.int .i64 x)):=by
 have hu:=Upd.setCell W ⟨rb,8,none⟩ (.int .i64 x)
 exact ⟨h.put 8 _,h.new,h.ob.set 8 _,h.g.upd hu (h.g.ne h.ob (by decide)),h.r.upd hu (h.r.ne h.ob (by decide)),h.p.upd hu (h.p.ne h.ob (by decide)),h.n.upd hu (h.n.ne h.ob (by decide)),h.s.upd hu (h.s.ne h.ob (by decide)),h.lg,h.lr,h.lp,h.ln,h.ls⟩
theorem RD.setCats {w : World} {rb : Nat} {c : Cv} {last : Int} {W : World} (h : RD w rb c last W) (x : Int) : RD w rb { c with cats:=x } last (W.setCell ⟨rb,0,none⟩ (.int .i64 x)):=by
 have hu:=Upd.setCell W ⟨rb,0,none⟩ (.int .i64 x)
 exact ⟨h.put 0 _,h.new,h.ob.set 0 _,h.g.upd hu (h.g.ne h.ob (by decide)),h.r.upd hu (h.r.ne h.ob (by decide)),h.p.upd hu (h.p.ne h.ob (by decide)),h.n.upd hu (h.n.ne h.ob (by decide)),h.s.upd hu (h.s.ne h.ob (by decide)),h.lg,h.lr,h.lp,h.ln,h.ls⟩
theorem RD.setGate {w : World} {rb : Nat} {c : Cv} {last : Int} {W : World} (h : RD w rb c last W) (x y : Int) : RD w rb { c with gate:=x,quota:=y } last ((W.setCell ⟨rb,6,none⟩ (.int .i64 x)).setCell ⟨rb,7,none⟩ (.int .i64 y)):=by
 have hu:=(Upd.setCell W ⟨rb,6,none⟩ (.int .i64 x)).trans (Upd.setCell _ ⟨rb,7,none⟩ (.int .i64 y))
 exact ⟨h.bel.trans (hu.below h.new h.bel.size),h.new,(h.ob.set 6 _).set 7 _,h.g.upd hu (h.g.ne h.ob (by decide)),h.r.upd hu (h.r.ne h.ob (by decide)),h.p.upd hu (h.p.ne h.ob (by decide)),h.n.upd hu (h.n.ne h.ob (by decide)),h.s.upd hu (h.s.ne h.ob (by decide)),h.lg,h.lr,h.lp,h.ln,h.ls⟩
theorem RD.addG {w : World} {rb : Nat} {c : Cv} {last : Int} {W W1 W2 : World} (h : RD w rb c last W) (hW : Below W.heap.size W W1) {g' c' : Nat} {row : List Int} (ho : Own W2 w.heap.size 130 3 (some ⟨g',0,none⟩) (c.g.l.length + 1) c' (iF c.g.l ++ ivs row)) (hm : Mod (blk c.g.a) W1 W2) (hrow : row.length = 3) :
  RD w rb { c with g:=⟨some ⟨g',0,none⟩,c',c.g.l ++ [row]⟩ } last (W2.setCell ⟨rb,1,none⟩ (.slice (some ⟨g',0,none⟩) (c.g.l.length + 1) c')):=by
 have h1:=h.more hW
 have hu:=Upd.setCell W2 ⟨rb,1,none⟩ (.slice (some ⟨g',0,none⟩) (c.g.l.length + 1) c')
 have hob:=h1.ob.mod hm (h1.g.ne h1.ob (by decide))
 have hb2 : Below w.heap.size w W2:=h1.bel.trans (hm.below (fun k hk=>(h1.g.ge k hk).1) h1.bel.size)
 have hl : (c.g.l ++ [row]).length = c.g.l.length + 1:=by simp
 have ho2:=ho.upd hu (ho.ne hob (by decide))
 have hrows : ∀ x ∈ c.g.l ++ [row],x.length = 3:=fun x hx=>by
  rcases List.mem_append.1 hx with hx | hx
  ·exact h.lg x hx
  ·rw [List.mem_singleton.1 hx];exact hrow
 refine ⟨hb2.trans (hu.below h.new hb2.size),h.new,?_,?_,((h1.r.mod hm (h1.r.apart h1.g (by decide))).upd hu ((h1.r.mod hm (h1.r.apart h1.g (by decide))).ne hob (by decide))),((h1.p.mod hm (h1.p.apart h1.g (by decide))).upd hu ((h1.p.mod hm (h1.p.apart h1.g (by decide))).ne hob (by decide))),((h1.n.mod hm (h1.n.apart h1.g (by decide))).upd hu ((h1.n.mod hm (h1.n.apart h1.g (by decide))).ne hob (by decide))),((h1.s.mod hm (h1.s.apart h1.g (by decide))).upd hu ((h1.s.mod hm (h1.s.apart h1.g (by decide))).ne hob (by decide))),hrows,h.lr,h.lp,h.ln,h.ls⟩
 ·have:=hob.set 1 (.slice (some ⟨g',0,none⟩) (c.g.l.length + 1) c')
  rw [hl];exact this
 ·rw [hl,iF_snoc];exact ho2
theorem RD.addR {w : World} {rb : Nat} {c : Cv} {last : Int} {W W1 W2 : World} (h : RD w rb c last W) (hW : Below W.heap.size W W1) {g' c' : Nat} {row : List Int} (ho : Own W2 w.heap.size 132 3 (some ⟨g',0,none⟩) (c.r.l.length + 1) c' (iF c.r.l ++ ivs row)) (hm : Mod (blk c.r.a) W1 W2) (hrow : row.length = 3) :
  RD w rb { c with r:=⟨some ⟨g',0,none⟩,c',c.r.l ++ [row]⟩ } last (W2.setCell ⟨rb,2,none⟩ (.slice (some ⟨g',0,none⟩) (c.r.l.length + 1) c')):=by
 have h1:=h.more hW
 have hu:=Upd.setCell W2 ⟨rb,2,none⟩ (.slice (some ⟨g',0,none⟩) (c.r.l.length + 1) c')
 have hob:=h1.ob.mod hm (h1.r.ne h1.ob (by decide))
 have hb2 : Below w.heap.size w W2:=h1.bel.trans (hm.below (fun k hk=>(h1.r.ge k hk).1) h1.bel.size)
 have hl : (c.r.l ++ [row]).length = c.r.l.length + 1:=by simp
 have ho2:=ho.upd hu (ho.ne hob (by decide))
 have hrows : ∀ x ∈ c.r.l ++ [row],x.length = 3:=fun x hx=>by
  rcases List.mem_append.1 hx with hx | hx
  ·exact h.lr x hx
  ·rw [List.mem_singleton.1 hx];exact hrow
 refine ⟨hb2.trans (hu.below h.new hb2.size),h.new,?_,((h1.g.mod hm (h1.g.apart h1.r (by decide))).upd hu ((h1.g.mod hm (h1.g.apart h1.r (by decide))).ne hob (by decide))),?_,((h1.p.mod hm (h1.p.apart h1.r (by decide))).upd hu ((h1.p.mod hm (h1.p.apart h1.r (by decide))).ne hob (by decide))),((h1.n.mod hm (h1.n.apart h1.r (by decide))).upd hu ((h1.n.mod hm (h1.n.apart h1.r (by decide))).ne hob (by decide))),((h1.s.mod hm (h1.s.apart h1.r (by decide))).upd hu ((h1.s.mod hm (h1.s.apart h1.r (by decide))).ne hob (by decide))),h.lg,hrows,h.lp,h.ln,h.ls⟩
 ·have:=hob.set 2 (.slice (some ⟨g',0,none⟩) (c.r.l.length + 1) c')
  rw [hl];exact this
 ·rw [hl,iF_snoc];exact ho2
theorem RD.addP {w : World} {rb : Nat} {c : Cv} {last : Int} {W W1 W2 : World} (h : RD w rb c last W) (hW : Below W.heap.size W W1) {g' c' : Nat} {row : List Int} (ho : Own W2 w.heap.size 134 2 (some ⟨g',0,none⟩) (c.p.l.length + 1) c' (iF c.p.l ++ ivs row)) (hm : Mod (blk c.p.a) W1 W2) (hrow : row.length = 2) :
  RD w rb { c with p:=⟨some ⟨g',0,none⟩,c',c.p.l ++ [row]⟩ } last (W2.setCell ⟨rb,3,none⟩ (.slice (some ⟨g',0,none⟩) (c.p.l.length + 1) c')):=by
 have h1:=h.more hW
 have hu:=Upd.setCell W2 ⟨rb,3,none⟩ (.slice (some ⟨g',0,none⟩) (c.p.l.length + 1) c')
 have hob:=h1.ob.mod hm (h1.p.ne h1.ob (by decide))
 have hb2 : Below w.heap.size w W2:=h1.bel.trans (hm.below (fun k hk=>(h1.p.ge k hk).1) h1.bel.size)
 have hl : (c.p.l ++ [row]).length = c.p.l.length + 1:=by simp
 have ho2:=ho.upd hu (ho.ne hob (by decide))
 have hrows : ∀ x ∈ c.p.l ++ [row],x.length = 2:=fun x hx=>by
  rcases List.mem_append.1 hx with hx | hx
  ·exact h.lp x hx
  ·rw [List.mem_singleton.1 hx];exact hrow
 refine ⟨hb2.trans (hu.below h.new hb2.size),h.new,?_,((h1.g.mod hm (h1.g.apart h1.p (by decide))).upd hu ((h1.g.mod hm (h1.g.apart h1.p (by decide))).ne hob (by decide))),((h1.r.mod hm (h1.r.apart h1.p (by decide))).upd hu ((h1.r.mod hm (h1.r.apart h1.p (by decide))).ne hob (by decide))),?_,((h1.n.mod hm (h1.n.apart h1.p (by decide))).upd hu ((h1.n.mod hm (h1.n.apart h1.p (by decide))).ne hob (by decide))),((h1.s.mod hm (h1.s.apart h1.p (by decide))).upd hu ((h1.s.mod hm (h1.s.apart h1.p (by decide))).ne hob (by decide))),h.lg,h.lr,hrows,h.ln,h.ls⟩
 ·have:=hob.set 3 (.slice (some ⟨g',0,none⟩) (c.p.l.length + 1) c')
  rw [hl];exact this
 ·rw [hl,iF_snoc];exact ho2
theorem RD.addN {w : World} {rb : Nat} {c : Cv} {last : Int} {W W1 W2 : World} (h : RD w rb c last W) (hW : Below W.heap.size W W1) {g' c' : Nat} {row : List Int} (ho : Own W2 w.heap.size 137 2 (some ⟨g',0,none⟩) (c.n.l.length + 1) c' (iF c.n.l ++ ivs row)) (hm : Mod (blk c.n.a) W1 W2) (hrow : row.length = 2) :
  RD w rb { c with n:=⟨some ⟨g',0,none⟩,c',c.n.l ++ [row]⟩ } last (W2.setCell ⟨rb,4,none⟩ (.slice (some ⟨g',0,none⟩) (c.n.l.length + 1) c')):=by
 have h1:=h.more hW
 have hu:=Upd.setCell W2 ⟨rb,4,none⟩ (.slice (some ⟨g',0,none⟩) (c.n.l.length + 1) c')
 have hob:=h1.ob.mod hm (h1.n.ne h1.ob (by decide))
 have hb2 : Below w.heap.size w W2:=h1.bel.trans (hm.below (fun k hk=>(h1.n.ge k hk).1) h1.bel.size)
 have hl : (c.n.l ++ [row]).length = c.n.l.length + 1:=by simp
 have ho2:=ho.upd hu (ho.ne hob (by decide))
 have hrows : ∀ x ∈ c.n.l ++ [row],x.length = 2:=fun x hx=>by
  rcases List.mem_append.1 hx with hx | hx
  ·exact h.ln x hx
  ·rw [List.mem_singleton.1 hx];exact hrow
 refine ⟨hb2.trans (hu.below h.new hb2.size),h.new,?_,((h1.g.mod hm (h1.g.apart h1.n (by decide))).upd hu ((h1.g.mod hm (h1.g.apart h1.n (by decide))).ne hob (by decide))),((h1.r.mod hm (h1.r.apart h1.n (by decide))).upd hu ((h1.r.mod hm (h1.r.apart h1.n (by decide))).ne hob (by decide))),((h1.p.mod hm (h1.p.apart h1.n (by decide))).upd hu ((h1.p.mod hm (h1.p.apart h1.n (by decide))).ne hob (by decide))),?_,((h1.s.mod hm (h1.s.apart h1.n (by decide))).upd hu ((h1.s.mod hm (h1.s.apart h1.n (by decide))).ne hob (by decide))),h.lg,h.lr,h.lp,hrows,h.ls⟩
 ·have:=hob.set 4 (.slice (some ⟨g',0,none⟩) (c.n.l.length + 1) c')
  rw [hl];exact this
 ·rw [hl,iF_snoc];exact ho2
theorem RD.addS {w : World} {rb : Nat} {c : Cv} {last : Int} {W W1 W2 : World} (h : RD w rb c last W) (hW : Below W.heap.size W W1) {g' c' : Nat} {row : List Int} (ho : Own W2 w.heap.size 139 2 (some ⟨g',0,none⟩) (c.s.l.length + 1) c' (iF c.s.l ++ ivs row)) (hm : Mod (blk c.s.a) W1 W2) (hrow : row.length = 2) :
  RD w rb { c with s:=⟨some ⟨g',0,none⟩,c',c.s.l ++ [row]⟩ } last (W2.setCell ⟨rb,5,none⟩ (.slice (some ⟨g',0,none⟩) (c.s.l.length + 1) c')):=by
 have h1:=h.more hW
 have hu:=Upd.setCell W2 ⟨rb,5,none⟩ (.slice (some ⟨g',0,none⟩) (c.s.l.length + 1) c')
 have hob:=h1.ob.mod hm (h1.s.ne h1.ob (by decide))
 have hb2 : Below w.heap.size w W2:=h1.bel.trans (hm.below (fun k hk=>(h1.s.ge k hk).1) h1.bel.size)
 have hl : (c.s.l ++ [row]).length = c.s.l.length + 1:=by simp
 have ho2:=ho.upd hu (ho.ne hob (by decide))
 have hrows : ∀ x ∈ c.s.l ++ [row],x.length = 2:=fun x hx=>by
  rcases List.mem_append.1 hx with hx | hx
  ·exact h.ls x hx
  ·rw [List.mem_singleton.1 hx];exact hrow
 refine ⟨hb2.trans (hu.below h.new hb2.size),h.new,?_,((h1.g.mod hm (h1.g.apart h1.s (by decide))).upd hu ((h1.g.mod hm (h1.g.apart h1.s (by decide))).ne hob (by decide))),((h1.r.mod hm (h1.r.apart h1.s (by decide))).upd hu ((h1.r.mod hm (h1.r.apart h1.s (by decide))).ne hob (by decide))),((h1.p.mod hm (h1.p.apart h1.s (by decide))).upd hu ((h1.p.mod hm (h1.p.apart h1.s (by decide))).ne hob (by decide))),((h1.n.mod hm (h1.n.apart h1.s (by decide))).upd hu ((h1.n.mod hm (h1.n.apart h1.s (by decide))).ne hob (by decide))),?_,h.lg,h.lr,h.lp,h.ln,hrows⟩
 ·have:=hob.set 5 (.slice (some ⟨g',0,none⟩) (c.s.l.length + 1) c')
  rw [hl];exact this
 ·rw [hl,iF_snoc];exact ho2
/-- The row of a line of rank k; none: it can't be. -/
def rowV (k : Nat) (ws : List (List UInt8)) : Option (List Int):=
 if k = 1 ∨ k = 2 ∨ k = 3 then match lbF (ws.getD 1 []) with
  | none=>none
  | some x=>if k = 3 ∧ ws.getD 2 [] = [111,117,116] then some [(x : Int),-1] else if nmsB (ws.drop 2) then some ((x : Int) :: nmsL (ws.drop 2)) else none
 else if nmsB (ws.drop 1) then some (nmsL (ws.drop 1)) else none
def setV (c : Pc) (k : Nat) (row : List Int) : Pc:=match k with
 | 0=>{ c with cats:=row.getD 0 0 }
 | 1=>{ c with g:=c.g ++ [row] }
 | 2=>{ c with r:=c.r ++ [row] }
 | 3=>{ c with p:=c.p ++ [row] }
 | 4=>{ c with n:=c.n ++ [row] }
 | 5=>{ c with s:=c.s ++ [row] }
 | _=>{ c with gate:=row.getD 0 0,quota:=row.getD 1 0 }
def wordsN : List Nat:=[2,4,4,3,3,3,3]
def wordsK (k : Nat) : Nat:=wordsN.getD k 0
/-- What a line of rank k leaves. -/
def TkPost (w : World) (rb : Nat) (c : Cv) (last : Int) (k : Nat) (ws : List (List UInt8)) (W : World) (e : Ending) (w' : World) : Prop:=
 match rowV k ws with
 | some row=>e = .returned (.bool true) ∧ ∃ c',pcOf c' = setV (pcOf c) k row ∧ RD w rb c' last w'
 | none=>e = .returned (.bool false) ∧ Below w.heap.size w w'
end Go.Proofs.YtoklonmiejdgmaaGreatDoor
/- Package plan: a line with a label. -/
namespace Go.Proofs.YtoklonmiejdgmaaGreatDoor
set_option linter.unusedVariables false
set_option linter.unusedSimpArgs false
set_option linter.unnecessarySimpa false
open Go.RowKit Go.Sort
set_option maxHeartbeats 4000000
set_option maxRecDepth 100000
set_option linter.unusedVariables false
theorem info_gu : (Tryz.prog.info? 130).map (fun i=>(i.zero,i.size,i.bytes)) = some (some (.agg #[.int .i64 0,.int .i64 0,.int .i64 0]),3,24):=by kernel_rfl
theorem info_ra : (Tryz.prog.info? 132).map (fun i=>(i.zero,i.size,i.bytes)) = some (some (.agg #[.int .i64 0,.int .i64 0,.int .i64 0]),3,24):=by kernel_rfl
theorem info_po : (Tryz.prog.info? 134).map (fun i=>(i.zero,i.size,i.bytes)) = some (some (.agg #[.int .i64 0,.int .i64 0]),2,16):=by kernel_rfl
theorem info_ri : (Tryz.prog.info? 137).map (fun i=>(i.zero,i.size,i.bytes)) = some (some (.agg #[.int .i64 0,.int .i64 0]),2,16):=by kernel_rfl
theorem info_so : (Tryz.prog.info? 139).map (fun i=>(i.zero,i.size,i.bytes)) = some (some (.agg #[.int .i64 0,.int .i64 0]),2,16):=by kernel_rfl
theorem tk_no {w : World} {rb : Nat} {c : Cv} {last : Int} {k : Nat} {ws : List (List UInt8)} {W w' : World} (h : rowV k ws = none) (hb : Below w.heap.size w w') : TkPost w rb c last k ws W (.returned (.bool false)) w':=by
 unfold TkPost;rw [h];exact ⟨rfl,hb⟩
theorem tk_yes {w : World} {rb : Nat} {c c' : Cv} {last : Int} {k : Nat} {ws : List (List UInt8)} {W w' : World} {row : List Int} (h : rowV k ws = some row) (hc : pcOf c' = setV (pcOf c) k row) (hr : RD w rb c' last w') : TkPost w rb c last k ws W (.returned (.bool true)) w':=by
 unfold TkPost;rw [h];exact ⟨rfl,c',hc,hr⟩
/-- The lists of a configuration at work are short. -/
def FewC (c : Cv) : Prop:=c.g.l.length ≤ 100000 ∧ c.r.l.length ≤ 100000 ∧ c.p.l.length ≤ 100000 ∧ c.n.l.length ≤ 100000 ∧ c.s.l.length ≤ 100000
theorem lbF_lt {s : List UInt8} {x : Nat} (h : lbF s = some x) : x < 256:=(lparseF_text s x h).1
theorem labelled_guest (w : World) (rb : Nat) (c : Cv) (last : Int) (w0 w1 w2 w3 : List UInt8) (hsm : ∀ x ∈ [w0,w1,w2,w3],x.length ≤ 100000000) (g off cap : Nat) (W : World) (h : RD w rb c last W) (hg : g < W.heap.size)
  (hr : ∀ j (hj : j < 4),W.cell? ⟨g,off + j,none⟩ = some (.string (ba ([w0,w1,w2,w3].getD j [])))) (hcap : 4 ≤ cap) (hmx : cap ≤ maxLen) (hn : FewC c) :
  Calls Tryz.prog 82 #[.pointer (some ⟨rb,0,none⟩),.int .i64 1,.slice (some ⟨g,off,none⟩) 4 cap] W (TkPost w rb c last 1 [w0,w1,w2,w3] W):=by
 obtain ⟨i0,hi0,hz0,hz1,hz2⟩:=info_parts info_gu
 have hlw:=hsm w1 (by simp)
 unfold maxLen at hmx
 have n1 : W.cell? ⟨g,off + 1,none⟩ = some (.string (ba w1)):=hr 1 (by omega)
 have HLP:=fun W=>Lib.hid (lparse_any (ba w1) (by rw [ba_size];unfold maxLen;omega) W)
 rw [ba_data] at HLP
 have H:=Lib.hid h
 have hB:=h.bel.size
 have c0:=(h).ob.cell 0 _ rfl;have c1:=(h).ob.cell 1 _ rfl;have c2:=(h).ob.cell 2 _ rfl;have c3:=(h).ob.cell 3 _ rfl;have c4:=(h).ob.cell 4 _ rfl;have c5:=(h).ob.cell 5 _ rfl;have c6:=(h).ob.cell 6 _ rfl;have c7:=(h).ob.cell 7 _ rfl;have c8:=(h).ob.cell 8 _ rfl
 cases hl : lbF w1 with
 | none=>
  have HT : Hid (∀ w',Below w.heap.size w w' → TkPost w rb c last 1 [w0,w1,w2,w3] W (.returned (.bool false)) w'):=fun w' hb=>tk_no (by unfold rowV;simp [hl]) hb
  have e1 : lbPV w1 = 0 ∧ lbPE w1 = 6:=⟨by unfold lbPV;rw [hl];rfl,by unfold lbPE;rw [hl];rfl⟩
  rw [e1.1,e1.2] at HLP
  clear e1 hl h hr hsm
  go_enter Tryz.func82,Tryz.ntmps82
  go_wp2_with (go_at_call 124;refine ((HLP _).out).mono ?_;rintro e w1 ⟨rfl,rfl⟩)
  go_ret
  exact HT.out _ H.out.bel
 | some x=>
  have e1 : lbPV w1 = x ∧ lbPE w1 = 0:=⟨by unfold lbPV;rw [hl];rfl,by unfold lbPE;rw [hl];rfl⟩
  have hx:=lbF_lt hl
  rw [e1.1,e1.2] at HLP
  have hrd : Rd W 1 (some ⟨g,off + 2,none⟩) 2 (strC [w2,w3]):=by
   refine ⟨rfl,(fun h0=>by cases h0),fun p hp _=>?_⟩
   injection hp with hp
   subst hp
   refine ⟨g,off + 2,rfl,hg,fun j u hu=>?_⟩
   rcases (by have:=(List.getElem?_eq_some_iff.1 hu).1;simp [strC] at this;omega : j = 0 ∨ j = 1) with rfl | rfl
   ·injection hu with hu;rw [← hu];exact hr 2 (by omega)
   ·injection hu with hu;rw [← hu];exact hr 3 (by omega)
  have HNB : Hid (Calls Tryz.prog 125 #[.slice (some ⟨g,off + 2,none⟩) 2 (cap - 2)] W (NmPost [w2,w3] W)):=numbers_any (some ⟨g,off + 2,none⟩) (cap - 2) [w2,w3] (fun y hy=>hsm y (by simp at hy ⊢;rcases hy with rfl | rfl <;> simp)) (by simp) W hrd
  have HTN : Hid (nmsB [w2,w3] = false → ∀ w',Below w.heap.size w w' → TkPost w rb c last 1 [w0,w1,w2,w3] W (.returned (.bool false)) w'):=fun hb w' hbe=>tk_no (by unfold rowV;simp [hl,hb]) hbe
  have HTY : Hid (nmsB [w2,w3] = true → ∀ (w' : World) (c' : Cv),pcOf c' = setV (pcOf c) 1 [(x : Int),(numI w2 : Nat),(numI w3 : Nat)] → RD w rb c' last w' → TkPost w rb c last 1 [w0,w1,w2,w3] W (.returned (.bool true)) w'):=fun hb w' c' hc hr=>tk_yes (by unfold rowV;simp [hl,hb,nmsL]) hc hr
  clear hl hr hsm hrd e1
  have hc2 : ¬ cap = 2:=by omega
  go_enter Tryz.func82,Tryz.ntmps82
  go_wp2_with (go_at_call 124;refine ((HLP _).out).mono ?_;rintro e w1 ⟨rfl,rfl⟩)
  refine HNB.out.mono ?_
  intro e W3 h3
  obtain ⟨hy,hno,hb3⟩:=h3
  have H3:=Lib.hid (H.out.more hb3)
  cases hb : nmsB [w2,w3]
  ·obtain rfl:=hno hb
   have HT:=Lib.hid (HTN.out hb)
   clear hy hno hb3 hb
   go_wp2_with fail
   go_ret
   exact HT.out _ H3.out.bel
  ·obtain ⟨a3,c3',rfl,hown3⟩:=hy hb
   obtain ⟨g3,rfl,hg3,hg3'⟩:=hown3.at_ (by simp)
   have HT:=Lib.hid (HTY.out hb)
   obtain ⟨y0,hy0⟩ : ∃ y,Hid (y = ((numI w2 : Nat) : Int)):=⟨_,Lib.hid rfl⟩
   obtain ⟨y1,hy1⟩ : ∃ y,Hid (y = ((numI w3 : Nat) : Int)):=⟨_,Lib.hid rfl⟩
   have m0 : W3.cell? ⟨g3,0,none⟩ = some (.int .i64 y0):=by rw [hy0.out];exact hown3.cell 0 _ rfl
   have m1 : W3.cell? ⟨g3,1,none⟩ = some (.int .i64 y1):=by rw [hy1.out];exact hown3.cell 1 _ rfl
   rw [← hy0.out,← hy1.out] at HT
   have hsz:=hb3.size
   have hrb:=H3.out.ob.lt
   have hB3:=H3.out.bel.size
   have hfew:=hn.1
   clear c0 c1 c2 c3 c4 c5 c6 c7 c8
   have c0:=(H3.out).ob.cell 0 _ rfl;have c1:=(H3.out).ob.cell 1 _ rfl;have c2:=(H3.out).ob.cell 2 _ rfl;have c3:=(H3.out).ob.cell 3 _ rfl;have c4:=(H3.out).ob.cell 4 _ rfl;have c5:=(H3.out).ob.cell 5 _ rfl;have c6:=(H3.out).ob.cell 6 _ rfl;have c7:=(H3.out).ob.cell 7 _ rfl;have c8:=(H3.out).ob.cell 8 _ rfl
   have f1:=H3.out.ob.free 1
   clear hy hno hb3 hb hown3 HTY HTN n1 h
   go_wp2_with fail
   go_region_law (refine step_own rfl (.tmp 73) (.tmp 82) 23 rfl w.heap.size 130 i0 _ 3 24 Tryz.underlying23 hi0 hz0 hz1 hz2 rfl (by omega) c.g.a c.g.l.length c.g.cap (iF c.g.l) rfl (H3.out.g.below ((Below.refl _ _).drew.alloc (Nat.le_refl _) _)) W3.heap.size (ivs [(x : Int),y0,y1]) rfl (new_block _ _ _ rfl) rfl (by simp [ivs,Value.oneCell']) (by simp only [maxLen];omega) (by omega) (by simp;omega) ?_;intro g' cap' W4 hown hmod hat;have h4:=(H3.out.ob.below ((Below.refl _ _).drew.alloc (Nat.le_refl _) _)).mod hmod (H3.out.g.ne H3.out.ob (by decide));have d0:=h4.cell 1 _ rfl;have e0:=h4.free 1)
   all_goals
    go_wp2_with fail
    go_ret
    refine HT.out _ _ rfl (H3.out.addG (c':=cap') (row:=[(x : Int),y0,y1]) ((Below.refl _ _).drew.alloc (Nat.le_refl _) _) hown hmod rfl)
end Go.Proofs.YtoklonmiejdgmaaGreatDoor
/- Package plan: a line with a label: ranges, ports. -/
namespace Go.Proofs.YtoklonmiejdgmaaGreatDoor
set_option linter.unusedVariables false
set_option linter.unusedSimpArgs false
set_option linter.unnecessarySimpa false
open Go.RowKit Go.Sort
set_option maxHeartbeats 4000000
set_option maxRecDepth 100000
set_option linter.unusedVariables false
theorem labelled_range (w : World) (rb : Nat) (c : Cv) (last : Int) (w0 w1 w2 w3 : List UInt8) (hsm : ∀ x ∈ [w0,w1,w2,w3],x.length ≤ 100000000) (g off cap : Nat) (W : World) (h : RD w rb c last W) (hg : g < W.heap.size)
  (hr : ∀ j (hj : j < 4),W.cell? ⟨g,off + j,none⟩ = some (.string (ba ([w0,w1,w2,w3].getD j [])))) (hcap : 4 ≤ cap) (hmx : cap ≤ maxLen) (hn : FewC c) :
  Calls Tryz.prog 82 #[.pointer (some ⟨rb,0,none⟩),.int .i64 2,.slice (some ⟨g,off,none⟩) 4 cap] W (TkPost w rb c last 2 [w0,w1,w2,w3] W):=by
 obtain ⟨i0,hi0,hz0,hz1,hz2⟩:=info_parts info_ra
 have hlw:=hsm w1 (by simp)
 unfold maxLen at hmx
 have n1 : W.cell? ⟨g,off + 1,none⟩ = some (.string (ba w1)):=hr 1 (by omega)
 have HLP:=fun W=>Lib.hid (lparse_any (ba w1) (by rw [ba_size];unfold maxLen;omega) W)
 rw [ba_data] at HLP
 have H:=Lib.hid h
 have hB:=h.bel.size
 have c0:=(h).ob.cell 0 _ rfl;have c1:=(h).ob.cell 1 _ rfl;have c2:=(h).ob.cell 2 _ rfl;have c3:=(h).ob.cell 3 _ rfl;have c4:=(h).ob.cell 4 _ rfl;have c5:=(h).ob.cell 5 _ rfl;have c6:=(h).ob.cell 6 _ rfl;have c7:=(h).ob.cell 7 _ rfl;have c8:=(h).ob.cell 8 _ rfl
 cases hl : lbF w1 with
 | none=>
  have HT : Hid (∀ w',Below w.heap.size w w' → TkPost w rb c last 2 [w0,w1,w2,w3] W (.returned (.bool false)) w'):=fun w' hb=>tk_no (by unfold rowV;simp [hl]) hb
  have e1 : lbPV w1 = 0 ∧ lbPE w1 = 6:=⟨by unfold lbPV;rw [hl];rfl,by unfold lbPE;rw [hl];rfl⟩
  rw [e1.1,e1.2] at HLP
  clear e1 hl h hr hsm
  go_enter Tryz.func82,Tryz.ntmps82
  go_wp2_with (go_at_call 124;refine ((HLP _).out).mono ?_;rintro e w1 ⟨rfl,rfl⟩)
  go_ret
  exact HT.out _ H.out.bel
 | some x=>
  have e1 : lbPV w1 = x ∧ lbPE w1 = 0:=⟨by unfold lbPV;rw [hl];rfl,by unfold lbPE;rw [hl];rfl⟩
  have hx:=lbF_lt hl
  rw [e1.1,e1.2] at HLP
  have hrd : Rd W 1 (some ⟨g,off + 2,none⟩) 2 (strC [w2,w3]):=by
   refine ⟨rfl,(fun h0=>by cases h0),fun p hp _=>?_⟩
   injection hp with hp
   subst hp
   refine ⟨g,off + 2,rfl,hg,fun j u hu=>?_⟩
   rcases (by have:=(List.getElem?_eq_some_iff.1 hu).1;simp [strC] at this;omega : j = 0 ∨ j = 1) with rfl | rfl
   ·injection hu with hu;rw [← hu];exact hr 2 (by omega)
   ·injection hu with hu;rw [← hu];exact hr 3 (by omega)
  have HNB : Hid (Calls Tryz.prog 125 #[.slice (some ⟨g,off + 2,none⟩) 2 (cap - 2)] W (NmPost [w2,w3] W)):=numbers_any (some ⟨g,off + 2,none⟩) (cap - 2) [w2,w3] (fun y hy=>hsm y (by simp at hy ⊢;rcases hy with rfl | rfl <;> simp)) (by simp) W hrd
  have HTN : Hid (nmsB [w2,w3] = false → ∀ w',Below w.heap.size w w' → TkPost w rb c last 2 [w0,w1,w2,w3] W (.returned (.bool false)) w'):=fun hb w' hbe=>tk_no (by unfold rowV;simp [hl,hb]) hbe
  have HTY : Hid (nmsB [w2,w3] = true → ∀ (w' : World) (c' : Cv),pcOf c' = setV (pcOf c) 2 [(x : Int),(numI w2 : Nat),(numI w3 : Nat)] → RD w rb c' last w' → TkPost w rb c last 2 [w0,w1,w2,w3] W (.returned (.bool true)) w'):=fun hb w' c' hc hr=>tk_yes (by unfold rowV;simp [hl,hb,nmsL]) hc hr
  clear hl hr hsm hrd e1
  have hc2 : ¬ cap = 2:=by omega
  go_enter Tryz.func82,Tryz.ntmps82
  go_wp2_with (go_at_call 124;refine ((HLP _).out).mono ?_;rintro e w1 ⟨rfl,rfl⟩)
  refine HNB.out.mono ?_
  intro e W3 h3
  obtain ⟨hy,hno,hb3⟩:=h3
  have H3:=Lib.hid (H.out.more hb3)
  cases hb : nmsB [w2,w3]
  ·obtain rfl:=hno hb
   have HT:=Lib.hid (HTN.out hb)
   clear hy hno hb3 hb
   go_wp2_with fail
   go_ret
   exact HT.out _ H3.out.bel
  ·obtain ⟨a3,c3',rfl,hown3⟩:=hy hb
   obtain ⟨g3,rfl,hg3,hg3'⟩:=hown3.at_ (by simp)
   have HT:=Lib.hid (HTY.out hb)
   obtain ⟨y0,hy0⟩ : ∃ y,Hid (y = ((numI w2 : Nat) : Int)):=⟨_,Lib.hid rfl⟩
   obtain ⟨y1,hy1⟩ : ∃ y,Hid (y = ((numI w3 : Nat) : Int)):=⟨_,Lib.hid rfl⟩
   have m0 : W3.cell? ⟨g3,0,none⟩ = some (.int .i64 y0):=by rw [hy0.out];exact hown3.cell 0 _ rfl
   have m1 : W3.cell? ⟨g3,1,none⟩ = some (.int .i64 y1):=by rw [hy1.out];exact hown3.cell 1 _ rfl
   rw [← hy0.out,← hy1.out] at HT
   have hsz:=hb3.size
   have hrb:=H3.out.ob.lt
   have hB3:=H3.out.bel.size
   have hfew:=hn.2.1
   clear c0 c1 c2 c3 c4 c5 c6 c7 c8
   have c0:=(H3.out).ob.cell 0 _ rfl;have c1:=(H3.out).ob.cell 1 _ rfl;have c2:=(H3.out).ob.cell 2 _ rfl;have c3:=(H3.out).ob.cell 3 _ rfl;have c4:=(H3.out).ob.cell 4 _ rfl;have c5:=(H3.out).ob.cell 5 _ rfl;have c6:=(H3.out).ob.cell 6 _ rfl;have c7:=(H3.out).ob.cell 7 _ rfl;have c8:=(H3.out).ob.cell 8 _ rfl
   have f1:=H3.out.ob.free 2
   clear hy hno hb3 hb hown3 HTY HTN n1 h
   go_wp2_with fail
   go_region_law (refine step_own rfl (.tmp 94) (.tmp 103) 24 rfl w.heap.size 132 i0 _ 3 24 Tryz.underlying24 hi0 hz0 hz1 hz2 rfl (by omega) c.r.a c.r.l.length c.r.cap (iF c.r.l) rfl (H3.out.r.below ((Below.refl _ _).drew.alloc (Nat.le_refl _) _)) W3.heap.size (ivs [(x : Int),y0,y1]) rfl (new_block _ _ _ rfl) rfl (by simp [ivs,Value.oneCell']) (by simp only [maxLen];omega) (by omega) (by simp;omega) ?_;intro g' cap' W4 hown hmod hat;have h4:=(H3.out.ob.below ((Below.refl _ _).drew.alloc (Nat.le_refl _) _)).mod hmod (H3.out.r.ne H3.out.ob (by decide));have d0:=h4.cell 2 _ rfl;have e0:=h4.free 2)
   all_goals
    go_wp2_with fail
    go_ret
    refine HT.out _ _ rfl (H3.out.addR (c':=cap') (row:=[(x : Int),y0,y1]) ((Below.refl _ _).drew.alloc (Nat.le_refl _) _) hown hmod rfl)
theorem labelled_port (w : World) (rb : Nat) (c : Cv) (last : Int) (w0 w1 w2 : List UInt8) (hsm : ∀ x ∈ [w0,w1,w2],x.length ≤ 100000000) (g off cap : Nat) (W : World) (h : RD w rb c last W) (hg : g < W.heap.size)
  (hr : ∀ j (hj : j < 3),W.cell? ⟨g,off + j,none⟩ = some (.string (ba ([w0,w1,w2].getD j [])))) (hcap : 3 ≤ cap) (hmx : cap ≤ maxLen) (hn : FewC c) :
  Calls Tryz.prog 82 #[.pointer (some ⟨rb,0,none⟩),.int .i64 3,.slice (some ⟨g,off,none⟩) 3 cap] W (TkPost w rb c last 3 [w0,w1,w2] W):=by
 obtain ⟨i0,hi0,hz0,hz1,hz2⟩:=info_parts info_po
 have hlw:=hsm w1 (by simp)
 unfold maxLen at hmx
 have n1 : W.cell? ⟨g,off + 1,none⟩ = some (.string (ba w1)):=hr 1 (by omega)
 have HLP:=fun W=>Lib.hid (lparse_any (ba w1) (by rw [ba_size];unfold maxLen;omega) W)
 rw [ba_data] at HLP
 have H:=Lib.hid h
 have hB:=h.bel.size
 have c0:=(h).ob.cell 0 _ rfl;have c1:=(h).ob.cell 1 _ rfl;have c2:=(h).ob.cell 2 _ rfl;have c3:=(h).ob.cell 3 _ rfl;have c4:=(h).ob.cell 4 _ rfl;have c5:=(h).ob.cell 5 _ rfl;have c6:=(h).ob.cell 6 _ rfl;have c7:=(h).ob.cell 7 _ rfl;have c8:=(h).ob.cell 8 _ rfl
 cases hl : lbF w1 with
 | none=>
  have HT : Hid (∀ w',Below w.heap.size w w' → TkPost w rb c last 3 [w0,w1,w2] W (.returned (.bool false)) w'):=fun w' hb=>tk_no (by unfold rowV;simp [hl]) hb
  have e1 : lbPV w1 = 0 ∧ lbPE w1 = 6:=⟨by unfold lbPV;rw [hl];rfl,by unfold lbPE;rw [hl];rfl⟩
  rw [e1.1,e1.2] at HLP
  clear e1 hl h hr hsm
  go_enter Tryz.func82,Tryz.ntmps82
  go_wp2_with (go_at_call 124;refine ((HLP _).out).mono ?_;rintro e w1 ⟨rfl,rfl⟩)
  go_ret
  exact HT.out _ H.out.bel
 | some x=>
  have e1 : lbPV w1 = x ∧ lbPE w1 = 0:=⟨by unfold lbPV;rw [hl];rfl,by unfold lbPE;rw [hl];rfl⟩
  have hx:=lbF_lt hl
  rw [e1.1,e1.2] at HLP
  have n2 : W.cell? ⟨g,off + 2,none⟩ = some (.string (ba w2)):=hr 2 (by omega)
  have hoq : ((ba w2).toList == [111,117,116]) = decide (w2 = [111,117,116]):=by
   rw [ByteArray.toList_eq,ba_data]
   by_cases h : w2 = [111,117,116] <;> simp [h]
  by_cases hout : w2 = [111,117,116]
  ·rw [decide_eq_true hout] at hoq
   have HTO : Hid (∀ (w' : World) (c' : Cv),pcOf c' = setV (pcOf c) 3 [(x : Int),-1] → RD w rb c' last w' → TkPost w rb c last 3 [w0,w1,w2] W (.returned (.bool true)) w'):=fun w' c' hc hr=>tk_yes (by unfold rowV;simp [hl,hout]) hc hr
   have hfew:=hn.2.2.1
   have f3:=H.out.ob.free 3
   clear hl hr hsm e1 hout h
   go_enter Tryz.func82,Tryz.ntmps82
   go_wp2_with (first | (go_at_call 124;refine ((HLP _).out).mono ?_;rintro e w1 ⟨rfl,rfl⟩) | (at_builtin;(refine wpList_own rfl (.tmp 33) (.tmp 36) 25 rfl w.heap.size 134 i0 _ 2 16 Tryz.underlying25 hi0 hz0 hz1 hz2 rfl (by omega) c.p.a c.p.l.length c.p.cap (iF c.p.l) rfl (H.out.p.below ((Below.refl _ _).alloc (Nat.le_refl _) _)) W.heap.size (ivs [(x : Int),-1]) rfl (new_block _ _ _ rfl) rfl (by simp [ivs,Value.oneCell']) (by simp only [maxLen];omega) (by omega) (by simp;omega) ?_);intro g' cap' W4 hown hmod hat;have h4:=(H.out.ob.below ((Below.refl _ _).alloc (Nat.le_refl _) _)).mod hmod (H.out.p.ne H.out.ob (by decide));have d0:=h4.cell 3 _ rfl;have e0:=h4.free 3;have HN4:=Lib.hid (H.out.addP (c':=cap') (row:=[(x : Int),-1]) ((Below.refl _ _).alloc (Nat.le_refl _) _) hown hmod rfl);clear hown hmod hat h4))
   go_ret
   exact HTO.out _ _ rfl HN4.out
  ·rw [decide_eq_false hout] at hoq
   have hrd : Rd W 1 (some ⟨g,off + 2,none⟩) 1 (strC [w2]):=by
    refine ⟨rfl,(fun h0=>by cases h0),fun p hp _=>?_⟩
    injection hp with hp
    subst hp
    refine ⟨g,off + 2,rfl,hg,fun j u hu=>?_⟩
    obtain rfl : j = 0:=by have:=(List.getElem?_eq_some_iff.1 hu).1;simp [strC] at this;omega
    injection hu with hu;rw [← hu];exact hr 2 (by omega)
   have HNB : Hid (Calls Tryz.prog 125 #[.slice (some ⟨g,off + 2,none⟩) 1 (cap - 2)] W (NmPost [w2] W)):=numbers_any (some ⟨g,off + 2,none⟩) (cap - 2) [w2] (fun y hy=>hsm y (by simp at hy ⊢;rcases hy with rfl;simp)) (by simp) W hrd
   have HTN : Hid (nmsB [w2] = false → ∀ w',Below w.heap.size w w' → TkPost w rb c last 3 [w0,w1,w2] W (.returned (.bool false)) w'):=fun hb w' hbe=>tk_no (by unfold rowV;simp [hl,hb,hout]) hbe
   have HTY : Hid (nmsB [w2] = true → ∀ (w' : World) (c' : Cv),pcOf c' = setV (pcOf c) 3 [(x : Int),(numI w2 : Nat)] → RD w rb c' last w' → TkPost w rb c last 3 [w0,w1,w2] W (.returned (.bool true)) w'):=fun hb w' c' hc hr=>tk_yes (by unfold rowV;simp [hl,hb,nmsL,hout]) hc hr
   clear hl hr hsm hrd e1 hout
   have hc2 : ¬ cap = 2:=by omega
   go_enter Tryz.func82,Tryz.ntmps82
   go_wp2_with (go_at_call 124;refine ((HLP _).out).mono ?_;rintro e w1 ⟨rfl,rfl⟩)
   refine HNB.out.mono ?_
   intro e W3 h3
   obtain ⟨hy,hno,hb3⟩:=h3
   have H3:=Lib.hid (H.out.more hb3)
   cases hb : nmsB [w2]
   ·obtain rfl:=hno hb
    have HT:=Lib.hid (HTN.out hb)
    clear hy hno hb3 hb
    go_wp2_with fail
    go_ret
    exact HT.out _ H3.out.bel
   ·obtain ⟨a3,c3',rfl,hown3⟩:=hy hb
    obtain ⟨g3,rfl,hg3,hg3'⟩:=hown3.at_ (by simp)
    have HT:=Lib.hid (HTY.out hb)
    obtain ⟨y0,hy0⟩ : ∃ y,Hid (y = ((numI w2 : Nat) : Int)):=⟨_,Lib.hid rfl⟩
    have m0 : W3.cell? ⟨g3,0,none⟩ = some (.int .i64 y0):=by rw [hy0.out];exact hown3.cell 0 _ rfl
    rw [← hy0.out] at HT
    have hsz:=hb3.size
    have hrb:=H3.out.ob.lt
    have hB3:=H3.out.bel.size
    have hfew:=hn.2.2.1
    clear c0 c1 c2 c3 c4 c5 c6 c7 c8
    have c0:=(H3.out).ob.cell 0 _ rfl;have c1:=(H3.out).ob.cell 1 _ rfl;have c2:=(H3.out).ob.cell 2 _ rfl;have c3:=(H3.out).ob.cell 3 _ rfl;have c4:=(H3.out).ob.cell 4 _ rfl;have c5:=(H3.out).ob.cell 5 _ rfl;have c6:=(H3.out).ob.cell 6 _ rfl;have c7:=(H3.out).ob.cell 7 _ rfl;have c8:=(H3.out).ob.cell 8 _ rfl
    have f1:=H3.out.ob.free 3
    clear hy hno hb3 hb hown3 HTY HTN n1 h
    go_wp2_with fail
    go_region_law (refine step_own rfl (.tmp 55) (.tmp 61) 25 rfl w.heap.size 134 i0 _ 2 16 Tryz.underlying25 hi0 hz0 hz1 hz2 rfl (by omega) c.p.a c.p.l.length c.p.cap (iF c.p.l) rfl (H3.out.p.below ((Below.refl _ _).drew.alloc (Nat.le_refl _) _)) W3.heap.size (ivs [(x : Int),y0]) rfl (new_block _ _ _ rfl) rfl (by simp [ivs,Value.oneCell']) (by simp only [maxLen];omega) (by omega) (by simp;omega) ?_;intro g' cap' W4 hown hmod hat;have h4:=(H3.out.ob.below ((Below.refl _ _).drew.alloc (Nat.le_refl _) _)).mod hmod (H3.out.p.ne H3.out.ob (by decide));have d0:=h4.cell 3 _ rfl;have e0:=h4.free 3)
    all_goals
     go_wp2_with fail
     go_ret
     refine HT.out _ _ rfl (H3.out.addP (c':=cap') (row:=[(x : Int),y0]) ((Below.refl _ _).drew.alloc (Nat.le_refl _) _) hown hmod rfl)
end Go.Proofs.YtoklonmiejdgmaaGreatDoor
