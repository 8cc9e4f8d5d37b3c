/- An argument that is a script. -/
import Derived.Test.YtoklonmiejdgmaaGreatDoorGScriptPrints9
import Derived.Test.YtoklonmiejdgmaaGreatDoorGScriptPrints8
import Derived.Test.YtoklonmiejdgmaaGreatDoorGScriptPrints13
import Derived.Test.YtoklonmiejdgmaaGreatDoorGScriptPrints0
import Derived.Test.YtoklonmiejdgmaaGreatDoorRows
import Derived.LaidSub
import Derived.Lib.LaidTab
import Derived.Deep.DeepHandedRow
namespace Go.Proofs.YtoklonmiejdgmaaGreatDoor.Sp
set_option linter.unusedVariables false
set_option linter.unusedSimpArgs false
set_option linter.unnecessarySimpa false
open Go.ChangeShapes Go.WideShapes Go.ChangeAt Go.RowKit Go.Deep
set_option maxHeartbeats 4000000
set_option maxRecDepth 100000
set_option linter.unusedVariables false
theorem bulk_pos {H : Type} : ∀ d : DataW H,1 ≤ Rows.uptoBulk d:=fun d=>by
 cases d with
 | lit l=>cases l <;> simp [Rows.uptoBulk]
 | nil=>simp [Rows.uptoBulk]
 | ptr d=>simp [Rows.uptoBulk]
 | slice a b=>simp [Rows.uptoBulk]
 | agg a=>simp [Rows.uptoBulk]
 | iface t d=>simp [Rows.uptoBulk]
 | map e=>simp [Rows.uptoBulk]
 | held a=>simp [Rows.uptoBulk]
theorem bulk_len {H : Type} : ∀ l : List (DataW H),l.length ≤ Rows.uptoBulkAll l
 | []=>Nat.zero_le _
 | d :: r=>by
  have:=bulk_pos d
  have:=bulk_len r
  simp only [Rows.uptoBulkAll,List.length_cons];omega
section
variable {H : Type} {enc : TypeId × Value → H} {P : Program} {w : World} {base : Nat} {spare : Nat → Bool} {held : Bool}
theorem agg_part {x : DataW H × List MemPlace} {xs : List (DataW H × List MemPlace)} {q : List MemPlace} (hx : x = (.agg (xs.map (·.1)),q)) {y : DataW H × List MemPlace} (hy : y ∈ xs) : Rows.uptoBulk y.1 ≤ Rows.uptoBulk x.1:=by
 have:=bulk_part (List.mem_map.2 ⟨y,hy,rfl⟩ : y.1 ∈ xs.map (·.1))
 rw [hx]
 simp only [Rows.uptoBulk];omega
theorem trod_leavesB : ∀ (n : Nat) {fuel : Nat} {t : TypeId} {cs : List Value} {x : DataW H × List MemPlace},flatOk P n t = true → DataW.trod enc P w base spare held fuel t cs = some x →
  ∀ (j : Nat) (lt : TypeId),(leaves P n t)[j]? = some lt → ∃ (v : Value) (y : DataW H × List MemPlace) (m : Nat),cs[j]? = some v ∧ DataW.trod enc P w base spare held m lt [v] = some y ∧ Rows.uptoBulk y.1 ≤ Rows.uptoBulk x.1
 | 0,fuel,t,cs,x,hok,h,j,lt,hj=>by
  simp only [flatOk] at hok
  obtain ⟨v,rfl⟩:=trod_len (fun fs e=>by rw [e] at hok;cases hok) (fun k e' e=>by rw [e] at hok;cases hok) h
  simp only [leaves] at hj
  match j,hj with
  | 0,hj=>
   obtain rfl : t = lt:=by simpa using hj
   exact ⟨v,x,fuel,rfl,h,Nat.le_refl _⟩
 | n + 1,fuel,t,cs,x,hok,h,j,lt,hj=>by
  simp only [flatOk] at hok
  simp only [leaves] at hj
  cases hu : P.underlying t with
  | none=>
   rw [hu] at hok hj
   obtain ⟨v,rfl⟩:=trod_len (fun fs e=>by rw [hu] at e;cases e) (fun k e' e=>by rw [hu] at e;cases e) h
   match j,hj with
   | 0,hj=>
    obtain rfl : t = lt:=by simpa using hj
    exact ⟨v,x,fuel,rfl,h,Nat.le_refl _⟩
  | some d=>
   rw [hu] at hok hj
   by_cases hs : ∃ fs,d = .struct fs
   ·obtain ⟨fs,rfl⟩:=hs
    obtain ⟨xs,m,rfl,hx,hlen,hxl,hg⟩:=DataW.trod_struct hu h
    obtain ⟨i,f,r,g1,g2,g3,g4,g5⟩:=fields_at fs.toList 0 j lt hok hj
    have g1' : fs[i]? = some f:=by simpa using g1
    have hgi:=hg i f g1'
    have hi : i < fs.size:=(Array.getElem?_eq_some_iff.1 g1').1
    rw [List.getElem?_eq_getElem (by omega : i < xs.length)] at hgi
    obtain ⟨v,y,m',e1,e2,e3⟩:=trod_leavesB n g5 hgi r lt g4
    refine ⟨v,y,m',?_,e2,Nat.le_trans e3 (agg_part hx (List.getElem_mem _))⟩
    rw [List.getElem?_take,if_pos g3,List.getElem?_drop] at e1
    rw [← e1]
    congr 1
    omega
   ·by_cases ha : ∃ k e,d = .array k e
    ·obtain ⟨k,e,rfl⟩:=ha
     simp only [Bool.and_eq_true,beq_iff_eq] at hok
     obtain ⟨xs,m,rfl,hx,hlen,hxl,hg⟩:=DataW.trod_array hu h
     obtain ⟨i,r,g1,g2,g3⟩:=range_at k j lt hj
     have hgi:=hg i g1
     rw [List.getElem?_eq_getElem (by omega : i < xs.length)] at hgi
     obtain ⟨v,y,m',e1,e2,e9⟩:=trod_leavesB n hok.1 hgi r lt g3
     refine ⟨v,y,m',?_,e2,Nat.le_trans e9 (agg_part hx (List.getElem_mem _))⟩
     have hr : r < (leaves P n e).length:=(List.getElem?_eq_some_iff.1 g3).1
     rw [List.getElem?_take,if_pos (by omega),List.getElem?_drop,hok.2] at e1
     rw [← e1]
     congr 1
    ·obtain ⟨v,rfl⟩:=trod_len (fun fs e=>hs ⟨fs,by rw [hu] at e;simpa using e⟩) (fun k e' e=>ha ⟨k,e',by rw [hu] at e;simpa using e⟩) h
     have hj' : ([t] : List TypeId)[j]? = some lt:=by
      cases d <;> first | exact hj | exact absurd ⟨_,rfl⟩ hs | exact absurd ⟨_,_,rfl⟩ ha
     match j,hj' with
     | 0,hj=>
      obtain rfl : t = lt:=by simpa using hj
      exact ⟨v,x,fuel,rfl,h,Nat.le_refl _⟩
end
theorem open_rowB {H : Type} {enc : TypeId × Value → H} {P : Program} {W : World} {t e : TypeId} {n N : Nat} (ht : P.underlying t = some (.slice e)) (hok : flatOk P n e = true) (hC : P.cellsOf e = N) (hN : 0 < N) {v : Value} {d : DataW H} {p : List MemPlace}
  (hv : ∃ a len cap,v = .slice a len cap) (h : DataW.Trod enc P W 0 (fun _=>true) true t v d p) :
  ∃ (a : Option Addr) (len cap : Nat) (xs : List Value),v = .slice a len cap ∧ len ≤ cap ∧ cap ≤ maxLen ∧ Rd W N a len xs ∧
   (∀ i,i < len → ∀ j lt,j < N → (leaves P n e)[j]? = some lt → ∃ (u : Value) (y : DataW H × List MemPlace) (m : Nat),xs[i * N + j]? = some u ∧ DataW.trod enc P W 0 (fun _=>true) true m lt [u] = some y ∧ Rows.uptoBulk y.1 ≤ Rows.uptoBulk d) ∧ len ≤ Rows.uptoBulk d:=by
 obtain ⟨a,len,cap,rfl⟩:=hv
 obtain ⟨fuel,hf⟩:=h
 rcases Go.Deep.open_slice ht hf with ⟨hcs,hx⟩ | ⟨ad,len',cap',m,k,D,Pl,hcs,_,hl,hm,hmm,hx,hi⟩
 ·simp [Value.cells] at hcs
  obtain ⟨rfl,rfl,rfl⟩:=hcs
  exact ⟨none,0,0,[],rfl,Nat.le_refl _,by decide,⟨by simp,fun _=>rfl,(fun p hp=>by cases hp)⟩,fun i hi=>absurd hi (by omega),Nat.zero_le _⟩
 ·simp [Value.cells] at hcs
  obtain ⟨rfl,rfl,rfl⟩:=hcs
  simp only [if_true] at hmm
  subst hmm
  let f : Nat → List Value:=fun i=>if hi' : i < m then Classical.choose (hi i hi') else List.replicate N undef
  have hf1 : ∀ i,i < m → W.cells? 0 (ad.add (i * P.cellsOf e)) (P.cellsOf e) = some (f i) ∧ DataW.trod enc P W 0 (fun _=>true) true k e (f i) = some (D i,Pl i):=fun i h'=>by
   have:=Classical.choose_spec (hi i h')
   simp only [f,dif_pos h']
   exact this
  have hlen : ∀ i,(f i).length = N:=fun i=>by
   by_cases h' : i < m
   ·have:=(World.cells?_some (hf1 i h').1).2.1
    rw [hC] at this;exact this
   ·simp only [f,dif_neg h',List.length_replicate]
  have hrs : ∀ r ∈ (List.range len).map f,r.length = N:=fun r hr=>by
   obtain ⟨i,_,rfl⟩:=List.mem_map.1 hr
   exact hlen i
  have hget : ∀ i j,i < len → j < N → ((List.range len).map f).flatten[i * N + j]? = (f i)[j]?:=fun i j h1 h2=>by
   rw [flatten_get _ i j hrs (by simpa using h1) h2];simp
  have hcell : ∀ i j u,i < len → (f i)[j]? = some u → W.cell? (ad.add (i * N + j)) = some u:=fun i j u h1 h2=>by
   have hjl : j < N:=by have:=(List.getElem?_eq_some_iff.1 h2).1;rw [hlen] at this;exact this
   have:=(World.cells?_some (hf1 i (by omega)).1).2.2 j (by omega)
   rw [addr_add,hC] at this
   rw [this,h2]
  refine ⟨some ad,len,m,((List.range len).map f).flatten,rfl,hl,hm,⟨?_,(fun h0=>by cases h0),fun q hq hne=>?_⟩,fun i h1 j lt hj hlt=>?_,?_⟩
  ·rw [flatten_len _ hrs];simp
  ·injection hq with hq
   subst hq
   have hpos : 0 < len:=by
    rcases Nat.eq_zero_or_pos len with h0 | h0
    ·subst h0;simp at hne
    ·exact h0
   obtain ⟨b,o,spot⟩:=ad
   have h0 : (f 0)[0]? = some ((f 0)[0]'(by rw [hlen];exact hN)):=List.getElem?_eq_getElem _
   have hc0:=hcell 0 0 _ hpos h0
   have hspot : spot = none:=by simpa [Addr.add] using World.cell?_spot hc0
   subst hspot
   have hadd : ∀ x,(⟨b,o,none⟩ : Addr).add x = ⟨b,o + x,none⟩:=fun x=>by unfold Addr.add;split <;> simp_all
   have hb : b < W.heap.size:=by have:=World.block_lt_of_cell? W _ hc0;rw [hadd] at this;exact this
   refine ⟨b,o,rfl,hb,fun x u hu=>?_⟩
   have hxl : x < len * N:=by
    have:=(List.getElem?_eq_some_iff.1 hu).1
    rw [flatten_len _ hrs] at this;simpa using this
   have e1 : x / N * N + x % N = x:=by rw [Nat.mul_comm];exact Nat.div_add_mod x N
   have e2 : x / N < len:=Nat.div_lt_of_lt_mul (by rw [Nat.mul_comm];exact hxl)
   have e3 : x % N < N:=Nat.mod_lt _ hN
   rw [← e1,hget _ _ e2 e3] at hu
   have:=hcell _ _ u e2 hu
   rw [e1,hadd] at this
   exact this
  ·obtain ⟨u,y,m',g1,g2,g3⟩:=trod_leavesB n hok (hf1 i (by omega)).2 j lt hlt
   refine ⟨u,y,m',by rw [hget i j h1 hj];exact g1,g2,Nat.le_trans g3 ?_⟩
   rw [(Prod.mk.inj hx).1]
   have:=bulk_part (List.mem_map.2 ⟨i,List.mem_range.2 h1,rfl⟩ : D i ∈ (List.range len).map D)
   simp only [Rows.uptoBulk];omega
  ·rw [(Prod.mk.inj hx).1]
   have:=bulk_len ((List.range len).map D)
   simp only [List.length_map,List.length_range] at this
   simp only [Rows.uptoBulk];omega
theorem one_flat {α : Type} (f : α → Value) : ∀ l : List α,(l.map fun z=>[f z]).flatten = l.map f
 | []=>rfl
 | x :: r=>by rw [List.map_cons,List.flatten_cons,one_flat f r];rfl
theorem slice_form {H : Type} {enc : TypeId × Value → H} {W : World} {t e : TypeId} (ht : Tryz.prog.underlying t = some (.slice e)) {u : Value} {y : DataW H × List MemPlace} {m : Nat} (h : DataW.trod enc Tryz.prog W 0 (fun _=>true) true m t [u] = some y) : ∃ a len cap,u = .slice a len cap:=by
 rcases Go.Deep.open_slice ht h with ⟨hcs,_⟩ | ⟨ad,len',cap',m,k,D,Pl,hcs,_⟩
 ·simp at hcs;exact ⟨_,_,_,hcs⟩
 ·simp at hcs;exact ⟨_,_,_,hcs⟩
/-- A slice of words, anywhere. -/
theorem open_words {H : Type} {enc : TypeId × Value → H} {W : World} {m : Nat} {u : Value} {y : DataW H × List MemPlace} (h : DataW.trod enc Tryz.prog W 0 (fun _=>true) true m 69 [u] = some y) :
  ∃ x : Iv,u = .slice x.a x.l.length x.cap ∧ Rd W 1 x.a x.l.length (As.uC x.l) ∧ x.l.length ≤ x.cap ∧ x.cap ≤ maxLen ∧ ∀ z ∈ x.l,0 ≤ z ∧ z < 4294967296:=by
 have hu:=slice_form Tryz.underlying69 h
 obtain ⟨a,len,cap,rfl⟩:=hu
 have h' : DataW.Trod enc Tryz.prog W 0 (fun _=>true) true 69 (.slice a len cap) y.1 y.2:=⟨m,by simpa [Value.cells] using h⟩
 obtain ⟨a',len',cap',xs,he,hle,hcm,hrd,hlf,_⟩:=open_rowF0 (n:=1) (N:=1) Tryz.underlying69 (by kernel_rfl) (by kernel_rfl) (by decide) ⟨_,_,_,rfl⟩ h'
 injection he with h1 h2 h3
 subst h1 h2 h3
 obtain ⟨l,rfl,rfl,hq⟩:=rows_of (α:=Int) (fun z=>[Value.int .u32 z]) (fun z=>0 ≤ z ∧ z < 4294967296) 1 (fun _=>rfl) len xs hrd.1 (fun i hi=>by
  obtain ⟨u,y,m,g,t⟩:=hlf i hi 0 70 (by decide) (by kernel_rfl)
  obtain ⟨z,e,_,hw⟩:=DataW.trod_int Tryz.underlying70 t
  simp only [List.cons.injEq,and_true] at e
  subst e
  have hb:=bounds_u32 hw
  refine ⟨z,⟨hb.1,by omega⟩,fun j hj=>?_⟩
  obtain rfl : j = 0:=by omega
  exact g)
 have hu : (l.map fun z=>[Value.int .u32 z]).flatten = As.uC l:=one_flat (Value.int .u32) l
 exact ⟨⟨a,cap,l⟩,rfl,by rw [← hu];exact hrd,hle,hcm,hq⟩
theorem open_scr {H : Type} {enc : TypeId × Value → H} {W : World} {base : Nat} {v : Value} {d : DataW H} {p : List MemPlace} (hv : Value.okWide Tryz.prog W .any base 34 v) (h : DataW.Trod enc Tryz.prog W 0 (fun _=>true) true 34 v d p) :
  ∃ s : Sv,v = .agg #[.slice s.ia s.im.length s.ic,.slice s.sa s.se.length s.sc,.slice s.na s.inp.length s.nc] ∧ ScOk W s ∧ (∀ l ∈ (scOf s).im,∀ x ∈ l,0 ≤ x ∧ x < 4294967296) ∧ (Rows.uptoBulk d ≤ 1048576 → Mild (scOf s)):=by
 obtain ⟨cs,rfl,sz⟩:=okWide_struct Tryz.underlying34 hv
 rw [show Tryz.prog.cellsOf 34 = 3 from by kernel_rfl] at sz
 obtain ⟨fuel,hf⟩:=h
 have key:=fun j lt hj=>trod_leavesB (P:=Tryz.prog) 1 (by kernel_rfl) hf j lt hj
 obtain ⟨u0,y0,m0,g0,t0,b0⟩:=key 0 30 (by kernel_rfl)
 obtain ⟨u1,y1,m1,g1,t1,b1⟩:=key 1 31 (by kernel_rfl)
 obtain ⟨u2,y2,m2,g2,t2,b2⟩:=key 2 32 (by kernel_rfl)
 have b0 : Rows.uptoBulk y0.1 ≤ Rows.uptoBulk d:=b0
 have b1 : Rows.uptoBulk y1.1 ≤ Rows.uptoBulk d:=b1
 have b2 : Rows.uptoBulk y2.1 ≤ Rows.uptoBulk d:=b2
 obtain ⟨ia,il,ic,rfl⟩:=slice_form Tryz.underlying30 t0
 obtain ⟨sa,sl',sc,rfl⟩:=slice_form Tryz.underlying31 t1
 obtain ⟨na,nl,nc,rfl⟩:=slice_form Tryz.underlying32 t2
 obtain ⟨_,_,_,x0,e0,le0,mx0,rd0,lf0,bl0⟩:=open_rowB (n:=1) (N:=1) (d:=y0.1) (p:=y0.2) Tryz.underlying30 (by kernel_rfl) (by kernel_rfl) (by decide) ⟨_,_,_,rfl⟩ ⟨m0,by simpa [Value.cells] using t0⟩
 injection e0 with q1 q2 q3
 subst q1 q2 q3
 obtain ⟨_,_,_,x1,e1,le1,mx1,rd1,lf1,bl1⟩:=open_rowB (n:=1) (N:=2) (d:=y1.1) (p:=y1.2) Tryz.underlying31 (by kernel_rfl) (by kernel_rfl) (by decide) ⟨_,_,_,rfl⟩ ⟨m1,by simpa [Value.cells] using t1⟩
 injection e1 with q1 q2 q3
 subst q1 q2 q3
 obtain ⟨_,_,_,x2,e2,le2,mx2,rd2,lf2,bl2⟩:=open_rowB (n:=1) (N:=5) (d:=y2.1) (p:=y2.2) Tryz.underlying32 (by kernel_rfl) (by kernel_rfl) (by decide) ⟨_,_,_,rfl⟩ ⟨m2,by simpa [Value.cells] using t2⟩
 injection e2 with q1 q2 q3
 subst q1 q2 q3
 obtain ⟨im,rfl,rfl,hq0⟩:=rows_of (α:=Iv) (fun x=>[Value.slice x.a x.l.length x.cap]) (fun x=>Rd W 1 x.a x.l.length (As.uC x.l) ∧ x.l.length ≤ x.cap ∧ x.cap ≤ maxLen ∧ ∀ z ∈ x.l,0 ≤ z ∧ z < 4294967296) 1 (fun _=>rfl) il x0 rd0.1 (fun i hi=>by
  obtain ⟨u,y,m,g,t,_⟩:=lf0 i hi 0 69 (by decide) (by kernel_rfl)
  obtain ⟨x,rfl,hx⟩:=open_words t
  refine ⟨x,hx,fun j hj=>?_⟩
  obtain rfl : j = 0:=by omega
  exact g)
 obtain ⟨se,rfl,rfl,hq1⟩:=rows_of (α:=Int × List UInt8) seR (fun x=>Rows.uptoBulk y1.1 ≤ 1048576 → x.2.length ≤ 1048576) 2 (fun _=>rfl) sl' x1 rd1.1 (fun i hi=>by
  obtain ⟨u0,z0,m0,g0,t0,_⟩:=lf1 i hi 0 3 (by decide) (by kernel_rfl)
  obtain ⟨u1,z1,m1,g1,t1,b1⟩:=lf1 i hi 1 9 (by decide) (by kernel_rfl)
  obtain ⟨a0,e0,_⟩:=DataW.trod_int Tryz.underlying3 t0
  obtain ⟨s,e1,hz,_⟩:=DataW.trod_string Tryz.underlying9 t1
  simp only [List.cons.injEq,and_true] at e0 e1
  subst e0 e1
  refine ⟨(a0,s.data.toList),fun hb=>?_,fun j hj=>?_⟩
  ·rw [hz] at b1
   simp only [Rows.uptoBulk] at b1
   show s.data.toList.length ≤ _
   omega
  ·have : j = 0 ∨ j = 1:=by omega
   rcases this with rfl | rfl
   ·exact g0
   ·rw [g1];show _ = some (Value.string (ba s.data.toList));rw [ba_of])
 obtain ⟨inp,rfl,rfl,hq2⟩:=rows_of (α:=Int × Int × Int × Int × List UInt8) inR (fun x=>Rows.uptoBulk y2.1 ≤ 1048576 → x.2.2.2.2.length ≤ 1048576) 5 (fun _=>rfl) nl x2 rd2.1 (fun i hi=>by
  obtain ⟨u0,z0,m0,g0,t0,_⟩:=lf2 i hi 0 3 (by decide) (by kernel_rfl)
  obtain ⟨u1,z1,m1,g1,t1,_⟩:=lf2 i hi 1 3 (by decide) (by kernel_rfl)
  obtain ⟨u2,z2,m2,g2,t2,_⟩:=lf2 i hi 2 3 (by decide) (by kernel_rfl)
  obtain ⟨u3,z3,m3,g3,t3,_⟩:=lf2 i hi 3 3 (by decide) (by kernel_rfl)
  obtain ⟨u4,z4,m4,g4,t4,b4⟩:=lf2 i hi 4 9 (by decide) (by kernel_rfl)
  obtain ⟨a0,e0,_⟩:=DataW.trod_int Tryz.underlying3 t0
  obtain ⟨a1,e1,_⟩:=DataW.trod_int Tryz.underlying3 t1
  obtain ⟨a2,e2,_⟩:=DataW.trod_int Tryz.underlying3 t2
  obtain ⟨a3,e3,_⟩:=DataW.trod_int Tryz.underlying3 t3
  obtain ⟨s,e4,hz,_⟩:=DataW.trod_string Tryz.underlying9 t4
  simp only [List.cons.injEq,and_true] at e0 e1 e2 e3 e4
  subst e0 e1 e2 e3 e4
  refine ⟨(a0,a1,a2,a3,s.data.toList),fun hb=>?_,fun j hj=>?_⟩
  ·rw [hz] at b4
   simp only [Rows.uptoBulk] at b4
   show s.data.toList.length ≤ _
   omega
  ·have : j = 0 ∨ j = 1 ∨ j = 2 ∨ j = 3 ∨ j = 4:=by omega
   rcases this with rfl | rfl | rfl | rfl | rfl
   ·exact g0
   ·exact g1
   ·exact g2
   ·exact g3
   ·rw [g4];show _ = some (Value.string (ba s.data.toList));rw [ba_of])
 have him : (im.map fun x=>[Value.slice x.a x.l.length x.cap]).flatten = imC im:=one_flat (fun x : Iv=>Value.slice x.a x.l.length x.cap) im
 rw [him] at rd0
 have hw : ∀ l ∈ (scOf ⟨ia,ic,im,sa,sc,se,na,nc,inp⟩).im,∀ x ∈ l,0 ≤ x ∧ x < 4294967296:=fun l hl=>by
  obtain ⟨x,hx,rfl⟩:=List.mem_map.1 hl
  exact (hq0 x hx).2.2.2
 refine ⟨⟨ia,ic,im,sa,sc,se,na,nc,inp⟩,?_,⟨rd0,le0,mx0,fun x hx=>⟨(hq0 x hx).1,(hq0 x hx).2.1,(hq0 x hx).2.2.1⟩,rd1,le1,mx1,rd2,le2,mx2⟩,hw,fun hb=>⟨?_,hw,?_,?_,fun x hx=>hq1 x hx (by omega),fun x hx=>hq2 x hx (by omega)⟩⟩
 ·simp only [Value.cells] at g0 g1 g2
  obtain ⟨l⟩:=cs
  simp only at sz g0 g1 g2
  congr 2
  match l,sz with
  | [a,b,c],_=>
   simp at g0 g1 g2
   subst g0 g1 g2
   rfl
 ·show (im.map (·.l)).length ≤ _
  rw [List.length_map];omega
 ·show se.length ≤ _;omega
 ·show inp.length ≤ _;omega
end Go.Proofs.YtoklonmiejdgmaaGreatDoor.Sp
/- The tables that the row of ScriptPrints lists. -/
namespace Go.Proofs.YtoklonmiejdgmaaGreatDoor
set_option linter.unusedVariables false
set_option linter.unusedSimpArgs false
set_option linter.unnecessarySimpa false
open Go.ChangeShapes Go.WideShapes Go.ChangeAt Go.RowKit
set_option linter.unusedVariables false
set_option maxRecDepth 100000
def keepN (n : String) (x : String × DataW Unit) : Bool:=x.1 == n
def wordsI : List Int:=[2,4,4,3,3,3,3]
theorem word_of {W : World} (h : laidMetH Tryz.prog Rows.scriptPrintsRow.laid W) : WdTab W:=by
 have h2 : laidMetH Tryz.prog [("hermitage/plan.words",Rows.laid_hermitage_plan_words)] W:=h.filter (keepN "hermitage/plan.words")
 have hg : Tryz.prog.globalNamed "hermitage/plan.words" = some 1:=by kernel_rfl
 have h3 : Lib.TabIs Tryz.prog W "hermitage/plan.words" .i64 wordsI:=Lib.tabIs_of_head (rest:=[]) (g:=1) (t:=152) (e:=3) (n:=7) hg (by kernel_rfl) Tryz.underlying152 Tryz.underlying3 (by kernel_rfl) (by kernel_rfl) h2
 intro k hk
 have:=h3.cell hg k hk
 rcases (by omega : k = 0 ∨ k = 1 ∨ k = 2 ∨ k = 3 ∨ k = 4 ∨ k = 5 ∨ k = 6) with rfl | rfl | rfl | rfl | rfl | rfl | rfl <;> exact this
theorem has_of {W : World} (h : laidMetH Tryz.prog Rows.scriptPrintsRow.laid W) : Isa.Tab W:=by
 have h2 : laidMetH Tryz.prog [("hermitage/isa.has",Rows.laid_hermitage_isa_has)] W:=h.filter (keepN "hermitage/isa.has")
 have hg : Tryz.prog.globalNamed "hermitage/isa.has" = some 2:=by kernel_rfl
 have h3 : Lib.TabIs Tryz.prog W "hermitage/isa.has" .i64 Isa.hasL:=Lib.tabIs_of_head (rest:=[]) (g:=2) (t:=254) (e:=3) (n:=42) hg (by kernel_rfl) Tryz.underlying254 Tryz.underlying3 (by kernel_rfl) (by kernel_rfl) h2
 exact fun i hi=>h3.cell hg i hi
theorem pow_of {W : World} (h : laidMetH Tryz.prog Rows.scriptPrintsRow.laid W) : PowIs W:=by
 have h2 : laidMetH Tryz.prog [("internal/strconv.uint64pow10",Rows.laid_internal_strconv_uint64pow10)] W:=h.filter (keepN "internal/strconv.uint64pow10")
 exact Lib.tabIs_of_head (rest:=[]) (g:=3) (t:=256) (e:=214) (n:=20) (by kernel_rfl) (by kernel_rfl) Tryz.underlying256 Tryz.underlying214 (by kernel_rfl) (by kernel_rfl) h2
def tab32 : List Int:=[0,1,28,2,29,14,24,3,30,22,20,15,25,17,4,8,31,27,13,23,21,19,16,7,26,12,18,6,11,5,10,9]
def tab64 : List Int:=[0,1,56,2,57,49,28,3,61,58,42,50,38,29,17,4,62,47,59,36,45,43,51,22,53,39,33,30,24,18,12,5,63,55,48,27,60,41,37,16,46,35,44,21,52,32,23,11,54,26,40,15,34,20,31,10,25,14,19,9,13,8,7,6]
def tabAcc : List Int:=[128,191,160,191,128,159,144,191,128,143,0,0,0,0,0,0,0,0,0,0,0,0,0,0,0,0,0,0,0,0,0,0]
noncomputable def layT (g : Nat) (vs : List Value) (h : Array Obj) : Array Obj:=h.modify g fun
 | .cells _ t frozen=>.cells vs.toArray t frozen
 | o=>o
noncomputable def layAll (h : Array Obj) : Array Obj:=
 layT 4 (Go.Pinned.utf8FirstZ.map fun (n : Nat)=>Value.int .u8 n) (layT 5 (tabAcc.map (Value.int .u8)) (layT 7 (tab64.map (Value.int .u8)) (layT 6 (tab32.map (Value.int .u8)) (layT 3 (Lib.pow10Tab.map (Value.int .u64)) (layT 1 (wordsI.map (Value.int .i64)) (layT 2 (Isa.hasL.map (Value.int .i64)) h))))))
end Go.Proofs.YtoklonmiejdgmaaGreatDoor
