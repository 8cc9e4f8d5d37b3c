/- The reference's ports: their state, and the walks that look. -/
import Derived.Test.YtpccllgbccccnaaFam
import Derived.Test.YtpccllgbccccnaaPortsOrder
namespace Go.Proofs.Ytpccllgbccccnaa
set_option linter.unusedVariables false
set_option linter.unusedSimpArgs false
set_option linter.unnecessarySimpa false
open Go.RowKit Go.Sort
set_option maxHeartbeats 400000
set_option maxRecDepth 100000

/-- append of a whole slice onto a row of one's own, at a step of a region that draws. -/
theorem step_more {P : Program} {w : World} {ops : Array Oper} {o : Oper} {a : Act} {K : Act → World → Prop} {Q : Exit → Act → World → Prop} {F : Prop} (hgd : o.guard = none) (s x : Operand) (t : TypeId)
    (ho : o.op = .call { callee := .builtin .append, args := #[s, x], argTypes := #[t, t] })
    (B : Nat) (e : TypeId) (i : TypeInfo) (z : Value) (size bytes : Nat) (ht : P.underlying t = some (.slice e)) (hi : P.info? e = some i) (hz : i.zero = some z)
    (hsize : i.size = size) (hby : i.bytes = bytes) (hzs : z.cells.size = size) (hsz : 0 < size)
    (A : Option Addr) (n cap : Nat) (xs : List Value) (hs : a.eval s = .slice A n cap) (hown : Own w B e size A n cap xs)
    (A2 : Option Addr) (m c : Nat) (ys : List Value) (hx : a.eval x = .slice A2 m c) (hr : Rd w size A2 m ys) (h1 : ∀ u ∈ ys, u.oneCell' = true)
    (h63 : n + m ≤ maxLen) (hbytes : (n + m) * bytes ≤ 140737488355328) (hbase : B ≤ w.heap.size)
    (h : ∀ a' c' w', Own w' B e size a' (n + m) c' (xs ++ ys) → Mod (blk A) w w' → (∀ k ∈ blk a', k ∈ blk A ∨ w.heap.size ≤ k) → K (a.put o.dst (.slice a' (n + m) c')) w') :
    if Region.wanted o (yielded ops a.tmps) = true then Oper.wp P o a w K Q else F := by
  have hw : Region.wanted o (yielded ops a.tmps) = true := by simp [Region.wanted, hgd]
  rw [if_pos hw]
  cases m with
  | zero =>
    obtain rfl : ys = [] := List.eq_nil_of_length_eq_zero (by simpa using hr.1)
    have hle := hown.le
    have hrun : (Builtin.append_ #[t, t] o.type #[.slice A n cap, .slice A2 0 c]).run P w = .ok (.slice A n cap) w := by
      cases A <;> cases A2 <;> simp [Builtin.append_, run_underlying ht, sizeOf, typeInfo, hi, Builtin.lenOf, Builtin.firstCells, storeCells, loadCells, loadCellsFrom, hle]
    unfold Oper.wp execOp
    simp only [ho, resolve, invoke, builtin, Sem.run_bind, Sem.run_pure, Result.andThen_ok, List.map_toArray, List.map_cons, List.map_nil, hs, hx, hrun]
    exact h _ _ _ (by rw [List.append_nil]; exact hown) (Mod.refl _ _) (fun k hk => .inl hk)
  | succ m =>
    have ha : A2 ≠ none := fun h0 => by have := hr.2.1 h0; omega
    obtain ⟨ad, rfl⟩ := Option.ne_none_iff_exists'.1 ha
    have hn : ∀ j u, ys[j]? = some u → w.cell? (ad.add j) = some u := fun j u hu => by
      obtain ⟨b, o', rfl, hb, hc⟩ := hr.2.2 ad rfl (by intro h0; subst h0; simp at hu)
      have e : (⟨b, o', none⟩ : Addr).add j = ⟨b, o' + j, none⟩ := by unfold Addr.add; split <;> simp_all
      rw [e]; exact hc j u hu
    refine wp_append_lies w s x t ho B e i z size bytes ht hi hz hsize hby hzs hsz (.slice A n cap) n xs hs hown ad (m + 1) c ys hx hr.1 hn h1 (by omega) h63 hbytes hbase w.heap.size rfl ?_
    intro g' cap' w' h2 h3 h4 h5
    refine h (some ⟨g', 0, none⟩) cap' w' h2 (Mod.ofGrown h3 (fun k hk => ?_)) (fun k hk => ?_)
    · cases A with
      | none => simp [Value.ownBlock] at hk
      | some p => exact mem_blk.2 ⟨p, rfl, by simpa [Value.ownBlock] using hk⟩
    · simp only [blk, Option.map_some, Option.toList_some, List.mem_singleton] at hk
      subst hk
      rcases h4 with h4 | h4
      · left
        cases A with
        | none => simp [Value.ownBlock] at h4
        | some p => exact mem_blk.2 ⟨p, rfl, by simpa [Value.ownBlock] using h4⟩
      · right; omega

/-- A row of texts. -/
structure Rw where
  a : Option Addr
  cap : Nat
  L : List ByteArray
def Rw.it (r : Rw) : It := .row r.a r.L.length r.cap 9 1 (strF r.L)
def hdV (r : Rw) : Value := .slice r.a r.L.length r.cap
def hdF (rs : List Rw) : List Value := rs.map hdV
theorem hdF_get (rs : List Rw) (k : Nat) (hk : k < rs.length) : (hdF rs)[k]? = some (.slice rs[k].a rs[k].L.length rs[k].cap) := by simp [hdF, hdV, hk]
/-- The reference's state. -/
structure RS where
  pa : Option Addr
  pc : Nat
  P : List Po
  ia : Option Addr
  ic : Nat
  I : List Rw
  oa : Option Addr
  oc : Nat
  O : List Rw
namespace RS
def objI (rr : Nat) (s : RS) : It := .obj rr 53 [.slice s.pa s.P.length s.pc, .slice s.ia s.I.length s.ic, .slice s.oa s.O.length s.oc]
def pI (s : RS) : It := .row s.pa s.P.length s.pc 37 2 (poF s.P)
def iI (s : RS) : It := .row s.ia s.I.length s.ic 32 1 (hdF s.I)
def oI (s : RS) : It := .row s.oa s.O.length s.oc 32 1 (hdF s.O)
def its (rr : Nat) (s : RS) : List It := [s.objI rr, s.pI, s.iI, s.oI] ++ (s.I.map Rw.it ++ s.O.map Rw.it)
end RS
structure RSt (w : World) (B rr : Nat) (s : RS) : Prop where
  fam : Fam w B (s.its rr)
  li : s.I.length = s.P.length
  lo : s.O.length = s.P.length
  l8 : s.P.length ≤ 8
/-- What can be seen of it. -/
structure Vw (s : RS) (vs : List PV) : Prop where
  len : vs.length = s.P.length
  at_ : ∀ (i : Nat) (p : Po) (r q : Rw), s.P[i]? = some p → s.I[i]? = some r → s.O[i]? = some q → ∃ L : List ByteArray, vs[i]? = some ⟨p.1, p.2, L⟩ ∧ (p.2 = -1 → r.L = [] ∧ q.L = L ∧ L.length ≤ 64) ∧ (p.2 ≠ -1 → r.L = L ∧ q.L = [] ∧ L.length ≤ 4)
namespace RSt
variable {w w' : World} {B rr : Nat} {s : RS} {vs : List PV}
theorem obj (h : RSt w B rr s) : ObjAt w rr 53 [.slice s.pa s.P.length s.pc, .slice s.ia s.I.length s.ic, .slice s.oa s.O.length s.oc] := (h.fam.get (i := 0) rfl).1
theorem p (h : RSt w B rr s) : Own w B 37 2 s.pa s.P.length s.pc (poF s.P) := h.fam.get (i := 1) rfl
theorem i (h : RSt w B rr s) : Own w B 32 1 s.ia s.I.length s.ic (hdF s.I) := h.fam.get (i := 2) rfl
theorem o (h : RSt w B rr s) : Own w B 32 1 s.oa s.O.length s.oc (hdF s.O) := h.fam.get (i := 3) rfl
theorem getI (s : RS) (rr : Nat) {k : Nat} (hk : k < s.I.length) : (s.its rr)[4 + k]? = some s.I[k].it := by
  unfold RS.its
  rw [List.getElem?_append_right (by simp <;> omega)]
  simp only [List.length_cons, List.length_nil, Nat.zero_add, Nat.reduceAdd, Nat.add_sub_cancel_left]
  rw [List.getElem?_append_left (by simpa using hk)]
  simp [hk]
theorem getO (s : RS) (rr : Nat) {k : Nat} (hk : k < s.O.length) : (s.its rr)[4 + (s.I.length + k)]? = some s.O[k].it := by
  unfold RS.its
  rw [List.getElem?_append_right (by simp <;> omega)]
  simp only [List.length_cons, List.length_nil, Nat.zero_add, Nat.reduceAdd, Nat.add_sub_cancel_left]
  rw [List.getElem?_append_right (by simp)]
  simp [hk]
theorem rowI (h : RSt w B rr s) {k : Nat} (hk : k < s.I.length) : Own w B 9 1 s.I[k].a s.I[k].L.length s.I[k].cap (strF s.I[k].L) := h.fam.get (getI s rr hk)
theorem rowO (h : RSt w B rr s) {k : Nat} (hk : k < s.O.length) : Own w B 9 1 s.O[k].a s.O[k].L.length s.O[k].cap (strF s.O[k].L) := h.fam.get (getO s rr hk)
theorem below (h : RSt w B rr s) (hb : Below w.heap.size w w') : RSt w' B rr s := ⟨h.fam.below hb, h.li, h.lo, h.l8⟩
theorem setI (s : RS) (rr : Nat) {k : Nat} (hk : k < s.I.length) (r : Rw) : ((s.its rr).set (4 + k) r.it).set 2 (.row s.ia s.I.length s.ic 32 1 ((hdF s.I).set k (hdV r))) = ({s with I := s.I.set k r} : RS).its rr := by
  unfold RS.its RS.objI RS.pI RS.iI RS.oI
  rw [List.set_append_right _ _ (by simp <;> omega)]
  simp only [List.length_cons, List.length_nil, Nat.zero_add, Nat.reduceAdd, Nat.add_sub_cancel_left]
  have e : (s.I.map Rw.it ++ s.O.map Rw.it).set k r.it = (s.I.map Rw.it).set k r.it ++ s.O.map Rw.it := List.set_append_left _ _ (by simpa using hk)
  rw [e]
  simp [hdF, List.map_set]
theorem setO (s : RS) (rr : Nat) {k : Nat} (hk : k < s.O.length) (r : Rw) : ((s.its rr).set (4 + (s.I.length + k)) r.it).set 3 (.row s.oa s.O.length s.oc 32 1 ((hdF s.O).set k (hdV r))) = ({s with O := s.O.set k r} : RS).its rr := by
  unfold RS.its RS.objI RS.pI RS.iI RS.oI
  rw [List.set_append_right _ _ (by simp <;> omega)]
  simp only [List.length_cons, List.length_nil, Nat.zero_add, Nat.reduceAdd, Nat.add_sub_cancel_left]
  have e : (s.I.map Rw.it ++ s.O.map Rw.it).set (s.I.length + k) r.it = s.I.map Rw.it ++ (s.O.map Rw.it).set k r.it := by rw [List.set_append_right _ _ (by simp)]; simp
  rw [e]
  simp [hdF, List.map_set]
/-- One row anew, and what the rows' row says of it. -/
theorem putRow {j m g n cap : Nat} {x : It} {hs : List Value} {l : List It} {a' : Option Addr} {c' N : Nat} {xs : List Value} {w1 : World} {k : Nat} (hf : Fam w B l) (hj : l[j]? = some x) (hm : l[m]? = some (.row (some ⟨g, 0, none⟩) n cap 32 1 hs)) (hjm : j ≠ m)
    (hk : k < n) (hown : Own w1 B 9 1 a' N c' xs) (hmod : Mod x.fp w w1) (hat : ∀ q ∈ blk a', q ∈ x.fp ∨ w.heap.size ≤ q) :
    Acts B l ((l.set j (.row a' N c' 9 1 xs)).set m (.row (some ⟨g, 0, none⟩) n cap 32 1 (hs.set k (.slice a' N c')))) w (w1.setCell ⟨g, k, none⟩ (.slice a' N c')) := by
  obtain ⟨hj1, hj2⟩ := List.getElem?_eq_some_iff.1 hj
  obtain ⟨hm1, hm2⟩ := List.getElem?_eq_some_iff.1 hm
  have h1 : Acts B l (l.set j (.row a' N c' 9 1 xs)) w w1 := Acts.put hf hj1 hown (by rw [hj2]; exact hmod) (by rw [hj2]; exact hat)
  have hm3 : (l.set j (.row a' N c' 9 1 xs))[m]? = some (.row (some ⟨g, 0, none⟩) n cap 32 1 hs) := by rw [List.getElem?_set_ne hjm]; exact hm
  obtain ⟨hm4, hm5⟩ := List.getElem?_eq_some_iff.1 hm3
  have hg := h1.fam.get hm3
  refine h1.trans (Acts.put h1.fam hm4 (Own.set hg (j := k) (by omega) _) ?_ ?_)
  · rw [hm5]
    exact Mod.ofUpd (Upd.setCell w1 ⟨g, k, none⟩ _)
  · rw [hm5]
    intro q hq
    exact .inl hq
end RSt
def isV (vs : List PV) (i : Int) : Bool := decide (0 ≤ i) && decide (i < vs.length)
theorem isV_iff (vs : List PV) (i : Int) : isV vs i = true ↔ 0 ≤ i ∧ i < vs.length := by simp [isV]
theorem ris_any (B rr : Nat) (s : RS) (i : Int) (w : World) (h : RSt w B rr s) : Calls Try.prog 30 #[.pointer (some ⟨rr, 0, none⟩), .int .i64 i] w fun e w' => e = .returned (.bool (decide (0 ≤ i) && decide (i < s.P.length))) ∧ w = w' := by
  have c0 := h.obj.cell 0 _ rfl
  have h8 := h.l8
  clear h
  by_cases h0 : 0 ≤ i
  · have d0 : decide (0 ≤ i) = true := by simpa using h0
    go_enter Try.func30, Try.ntmps30
    go_wp2
    go_ret
    exact ⟨ret_bool (by simp [d0]), rfl⟩
  · have d0 : decide (0 ≤ i) = false := by simpa using h0
    go_enter Try.func30, Try.ntmps30
    go_wp2
    go_ret
    exact ⟨ret_bool (by simp [d0]), rfl⟩
end Go.Proofs.Ytpccllgbccccnaa
