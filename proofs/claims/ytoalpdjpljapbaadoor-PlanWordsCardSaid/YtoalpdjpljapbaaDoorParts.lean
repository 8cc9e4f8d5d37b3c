/- Package parts: the table's state; the iterator over its runs. -/
import Derived.RangeFuncNested
import Derived.RangeFuncBound
import Derived.RangeFuncCalls
import Derived.RangeFuncLeaves
import Derived.Shelf.Abstract
import Derived.Shelf.RegionOpen
import Derived.WalkKit
import Derived.OwnWalkIn
import Derived.TacticsInMore
import Derived.LoopNIn
import Derived.LoopIn
import Derived.Test.YtoalpdjpljapbaaDoorFam
import Derived.Test.YtoalpdjpljapbaaDoorRowF
import Derived.Test.YtoalpdjpljapbaaDoorRows
namespace Go.Proofs.YtoalpdjpljapbaaDoor
set_option linter.unusedVariables false
set_option linter.unusedSimpArgs false
set_option linter.unnecessarySimpa false
open Go.RowKit Go.Shelf
set_option maxHeartbeats 400000
set_option maxRecDepth 100000
attribute [local go_sem] Oper.semAt_some

theorem wide_fn (f : FuncId) : Fence.wide.fn f = True := rfl
/-- A run: where it begins, how many places, whose. -/
abbrev Rn := Nat × Nat × Nat
def rnC (r : Rn) : List Value := [.int .i64 r.1, .int .i64 r.2.1, .int .i64 r.2.2]
def rnF (l : List Rn) : List Value := (l.map rnC).flatten
theorem rnF_len (l : List Rn) : (rnF l).length = l.length * 3 := by
  rw [rnF, flatten_len (N := 3) _ (by intro r hr; obtain ⟨x, _, rfl⟩ := List.mem_map.1 hr; rfl)]; simp
theorem rnF_get (l : List Rn) (k j : Nat) (hk : k < l.length) (hj : j < 3) : (rnF l)[k * 3 + j]? = (rnC l[k])[j]? := by
  rw [rnF, flatten_get (N := 3) _ k j (by intro r hr; obtain ⟨x, _, rfl⟩ := List.mem_map.1 hr; rfl) (by simpa using hk) hj]; simp
theorem rnF_app (l m : List Rn) : rnF (l ++ m) = rnF l ++ rnF m := by simp [rnF]
/-- The runs of a table of n places: in order, apart, inside. -/
structure Okr (n : Nat) (R : List Rn) : Prop where
  n64 : n ≤ 64
  each : ∀ r ∈ R, 1 ≤ r.2.1 ∧ r.1 + r.2.1 ≤ n ∧ r.2.2 < 64
  sorted : R.Pairwise (fun r s => r.1 + r.2.1 ≤ s.1)
theorem runs_few : ∀ (R : List Rn) (lo n : Nat), (∀ r ∈ R, 1 ≤ r.2.1 ∧ lo ≤ r.1 ∧ r.1 + r.2.1 ≤ n) → R.Pairwise (fun r s => r.1 + r.2.1 ≤ s.1) → R = [] ∨ R.length + lo ≤ n
  | [], _, _, _, _ => .inl rfl
  | r :: R, lo, n, h, hp => by
    rw [List.pairwise_cons] at hp
    have h0 := h r (by simp)
    have ih := runs_few R (r.1 + r.2.1) n (fun s hs => ⟨(h s (by simp [hs])).1, hp.1 s hs, (h s (by simp [hs])).2.2⟩) hp.2
    right
    rcases ih with rfl | ih
    · simp; omega
    · simp; omega
theorem Okr.few {n : Nat} {R : List Rn} (h : Okr n R) : R.length ≤ 64 := by
  have h64 := h.n64
  rcases runs_few R 0 n (fun r hr => ⟨(h.each r hr).1, by omega, (h.each r hr).2.1⟩) h.sorted with rfl | h1
  · simp
  · omega
theorem Okr.nil {n : Nat} (h : n ≤ 64) : Okr n [] := ⟨h, by simp, List.Pairwise.nil⟩
/-- A table in memory. -/
structure TSt (w : World) (B tt : Nat) (a : Option Addr) (cap n : Nat) (R : List Rn) : Prop where
  obj : ObjAt w tt 128 [.slice a R.length cap, .int .i64 n, .bool true]
  own : Own w B 132 3 a R.length cap (rnF R)
  ok : Okr n R
namespace TSt
variable {w w' : World} {B tt cap n : Nat} {a : Option Addr} {R : List Rn}
theorem below (h : TSt w B tt a cap n R) (hb : Below w.heap.size w w') : TSt w' B tt a cap n R := ⟨h.obj.below hb, h.own.below hb, h.ok⟩
theorem mono {B' : Nat} (h : TSt w B tt a cap n R) (hB : B' ≤ B) : TSt w B' tt a cap n R := ⟨h.obj, h.own.mono hB, h.ok⟩
theorem mod {S : List Nat} (h : TSt w B tt a cap n R) (hm : Mod S w w') (h1 : tt ∉ S) (h2 : ∀ k ∈ blk a, k ∉ S) : TSt w' B tt a cap n R := ⟨h.obj.mod hm h1, h.own.mod hm h2, h.ok⟩
end TSt
theorem ObjAt.belowAt {w w' : World} {b n0 : Nat} {t : TypeId} {cs : List Value} (h : ObjAt w b t cs) (hb : Below n0 w w') (hlt : b < n0) : ObjAt w' b t cs := (hb.block b hlt).trans h
/-- What the iterator's walk reads: the table's object and its row, in blocks below n0. -/
structure TRd (w : World) (n0 tt : Nat) (a : Option Addr) (cap n : Nat) (R : List Rn) : Prop where
  obj : ObjAt w tt 128 [.slice a R.length cap, .int .i64 n, .bool true]
  rd : Rd w 3 a R.length (rnF R)
  lt : tt < n0
  blk : ∀ k ∈ blk a, k < n0
theorem TSt.rdt {w : World} {B tt cap n : Nat} {a : Option Addr} {R : List Rn} (h : TSt w B tt a cap n R) : TRd w w.heap.size tt a cap n R := ⟨h.obj, h.own.rd, h.obj.lt, fun k hk => (h.own.ge k hk).2⟩
theorem TRd.below {w w' : World} {n0 tt cap n : Nat} {a : Option Addr} {R : List Rn} (h : TRd w n0 tt a cap n R) (hb : Below n0 w w') : TRd w' n0 tt a cap n R :=
  ⟨h.obj.belowAt hb h.lt, ⟨h.rd.1, h.rd.2.1, fun p hp hx => by
    obtain ⟨b, o, h1, h2, h3⟩ := h.rd.2.2 p hp hx
    have hlt : b < n0 := h.blk b (mem_blk.2 ⟨p, hp, by rw [h1]⟩)
    have hsz := hb.size
    refine ⟨b, o, h1, by omega, fun j u hu => ?_⟩
    exact (hb.cell (p := ⟨b, o + j, none⟩) hlt).trans (h3 j u hu)⟩, h.lt, h.blk⟩
theorem TRd.at_ {w : World} {n0 tt cap n : Nat} {a : Option Addr} {R : List Rn} (h : TRd w n0 tt a cap n R) (hn : 0 < R.length) : ∃ b o, a = some ⟨b, o, none⟩ ∧ b < n0 := by
  have ha : a ≠ none := fun h0 => by have := h.rd.2.1 h0; omega
  obtain ⟨p, rfl⟩ := Option.ne_none_iff_exists'.1 ha
  have hne : rnF R ≠ [] := by intro h0; have := rnF_len R; rw [h0] at this; simp at this; omega
  obtain ⟨b, o, rfl, h2, h3⟩ := h.rd.2.2 p rfl hne
  exact ⟨b, o, rfl, h.blk b (mem_blk.2 ⟨_, rfl, rfl⟩)⟩
theorem TRd.cells {w : World} {n0 tt cap n b o : Nat} {R : List Rn} (h : TRd w n0 tt (some ⟨b, o, none⟩) cap n R) (k : Nat) (hk : k < R.length) :
    w.cell? ⟨b, o + k * 3, none⟩ = some (.int .i64 R[k].1) ∧ w.cell? ⟨b, o + k * 3 + 1, none⟩ = some (.int .i64 R[k].2.1) ∧ w.cell? ⟨b, o + k * 3 + 2, none⟩ = some (.int .i64 R[k].2.2) := by
  have hne : rnF R ≠ [] := by intro h0; have := rnF_len R; rw [h0] at this; simp at this; omega
  obtain ⟨b', o', e, _, h3⟩ := h.rd.2.2 _ rfl hne
  injection e with e1 e2
  subst e1 e2
  refine ⟨?_, ?_, ?_⟩
  · exact h3 (k * 3) _ (by have := rnF_get R k 0 hk (by omega); simpa [rnC] using this)
  · have := h3 (k * 3 + 1) (.int .i64 R[k].2.1) (by have := rnF_get R k 1 hk (by omega); simpa [rnC] using this)
    rwa [← Nat.add_assoc] at this
  · have := h3 (k * 3 + 2) (.int .i64 R[k].2.2) (by have := rnF_get R k 2 hk (by omega); simpa [rnC] using this)
    rwa [← Nat.add_assoc] at this
/-- What the iterator hands over. -/
def runV (r : Rn) : Value := .agg #[.int .i64 r.1, .int .i64 r.2.1, .int .i64 r.2.2]
/-- Whatever a round is handed: numbers up to 64. -/
def cl (n : Nat) : Nat := min n 64
theorem cl_le (n : Nat) : cl n ≤ 64 := Nat.min_le_right _ _
theorem cl_eq {n : Nat} (h : n ≤ 64) : cl n = n := Nat.min_eq_left h
def clR (r : Rn) : Rn := (cl r.1, cl r.2.1, cl r.2.2)
def encR (x : Nat × Rn) : Array Value := #[.int .i64 (cl x.1 : Nat), runV (clR x.2)]
/-- The runs that came. -/
def came (pre : List (Nat × Rn)) : List Rn := pre.map (fun x => clR x.2)
theorem came_snoc (pre : List (Nat × Rn)) (x : Nat × Rn) : came (pre ++ [x]) = came pre ++ [clR x.2] := by simp [came]
theorem Okr.cl {n : Nat} {R : List Rn} (h : Okr n R) {r : Rn} (hr : r ∈ R) : clR r = r := by
  have h0 := h.each r hr
  have h64 := h.n64
  unfold clR
  rw [cl_eq (by omega), cl_eq (by omega), cl_eq (by omega)]
/-- The runs, numbered. -/
def numbered (R : List Rn) (k : Nat) : List (Nat × Rn) := ((List.range R.length).zip R).take k
theorem numbered_len (R : List Rn) {k : Nat} (h : k ≤ R.length) : (numbered R k).length = k := by simp [numbered]; omega
theorem numbered_succ (R : List Rn) {k : Nat} (h : k < R.length) : numbered R (k + 1) = numbered R k ++ [(k, R[k])] := by
  unfold numbered
  rw [List.take_succ_eq_append_getElem (by simpa using h)]
  simp
theorem numbered_all (R : List Rn) : numbered R R.length = (List.range R.length).zip R := by
  unfold numbered
  rw [List.take_of_length_le (by simp)]
theorem numbered_snd (R : List Rn) (k : Nat) : (numbered R k).map Prod.snd = R.take k := by
  unfold numbered
  rw [List.map_take, List.map_snd_zip (by simp)]
theorem came_numbered {n : Nat} {R : List Rn} (h : Okr n R) (k : Nat) : came (numbered R k) = R.take k := by
  rw [← numbered_snd]
  unfold came
  refine List.map_congr_left (fun x hx => ?_)
  have : x.2 ∈ R := by
    have h1 : x.2 ∈ (numbered R k).map Prod.snd := List.mem_map_of_mem hx
    rw [numbered_snd] at h1
    exact List.mem_of_mem_take h1
  exact h.cl this
theorem all1_in (F : Fence) (n : Nat) (hF : F.fn 112) (hro : F.round = none) (hn : 1 ≤ n) (l Bn n0 tt cap N : Nat) (a : Option Addr) (R : List Rn) (hok : Okr N R) (J Jx : List (Nat × Rn) → World → Prop) (B0 : Nat) (hJ : AbidesFrom B0 J)
    (hY : ∀ pre x W, J pre W → pre.length < R.length → YieldAt F (n - 1) Tryd.prog l (encR x) W fun e W' =>
      (e = .returned (.bool true) ∧ J (pre ++ [x]) W' ∧ Below n0 W W') ∨ (e = .returned (.bool false) ∧ Jx (pre ++ [x]) W'))
    (W : World) (hn0 : n0 ≤ W.heap.size) (hBn : W.cell? ⟨Bn, 0, none⟩ = some (.pointer (some ⟨tt, 0, none⟩))) (hT : TRd W n0 tt a cap N R) (h0 : J [] W) :
    CallsIn F n Tryd.prog 112 #[.func (.yield l) #[] #[], .pointer (some ⟨Bn, 0, none⟩)] W fun e W' => (∃ v, e = .returned v) ∧
      ((∃ ys, ys = numbered R R.length ∧ J ys W') ∨ (∃ pre, (∃ k, k ≤ R.length ∧ pre = numbered R k) ∧ Jx pre W')) := by
  have c0 := hT.obj.cell 0 _ rfl
  have h64 := hok.few
  refine callsIn_of_wp Tryd.func112 rfl hF ?_ hro
  simp only [Tryd.ntmps112, List.size_toArray, List.length_cons, List.length_nil, Nat.reduceAdd, Nat.reduceSub, Array.replicate_succ, Array.replicate_zero, List.push_toArray, List.append_toArray, List.nil_append, List.cons_append]
  gi_wp2
  gi_loopw [10] (fun i wr => ∃ k : Nat, k ≤ R.length ∧ i = .int .i64 k ∧ J (numbered R k) wr ∧ Below n0 W wr)
    (fun i _ => R.length - (intOf i).toNat)
  case atStart => exact ⟨0, Nat.zero_le _, rfl, h0, Below.refl _ _⟩
  case round =>
    obtain ⟨k, hk, rfl, hJs, hnx⟩ := hrel
    by_cases hlt : k < R.length
    · have hTr := hT.below hnx
      obtain ⟨b, o, rfl, hb⟩ := hTr.at_ (by omega)
      obtain ⟨k0, k1, k2⟩ := hTr.cells k hlt
      have HS : Hid (numbered R (k + 1) = numbered R k ++ [(k, R[k])]) := numbered_succ R hlt
      have hlen := numbered_len R (Nat.le_of_lt hlt)
      have hJ2 : J (numbered R k) (wr.alloc (.cells #[.int .i64 R[k].1, .int .i64 R[k].2.1, .int .i64 R[k].2.2] 132)) := hJ _ _ _ none hJs (World.grownBy_alloc _ _ none) (fun r h => by cases h)
      obtain ⟨fn, tmps, assign, body, hy, hR⟩ := hY _ (k, R[k]) _ hJ2 (by rw [hlen]; exact hlt)
      dsimp only [encR] at hy
      rw [hok.cl (List.getElem_mem hlt), cl_eq (show k ≤ 64 by omega)] at hy
      dsimp only [runV] at hy
      have hsz := hnx.size
      have HB := Lib.hid hnx
      clear hTr hJs hJ2 hnx hT h0 hY
      generalize R[k] = x at k0 k1 k2 hy hR HS
      have hk0 : (0 : Int) ≤ k := by omega
      have hk1 : (k : Int) < (R.length : Int) := by omega
      gi_wp2
      refine hR.mono ?_
      rintro e W3 (⟨rfl, hJ3, hk3⟩ | ⟨rfl, hJx3⟩)
      · gi_wp2
        go_roundw
        case rel => exact ⟨k + 1, by omega, by simp, by rw [HS.out]; exact hJ3, ((HB.out.alloc (by omega) _).trans hk3)⟩
        case measure => simp [intOf]; omega
      · gi_wp2
        refine bodyPost_ret (results_none rfl _ _ _) rfl ?_
        exact ⟨⟨_, rfl⟩, .inr ⟨_, ⟨k + 1, by omega, HS.out.symm⟩, hJx3⟩⟩
    · obtain rfl : k = R.length := by omega
      gi_wp2
      go_end0
      exact ⟨⟨_, rfl⟩, .inl ⟨_, rfl, hJs⟩⟩
/-- t.all(): the table's pointer is boxed; the function value captures the box. -/
theorem all_in (F : Fence) (n : Nat) (hF : F.fn 98) (hro : F.round = none) (p : Option Addr) (w : World) :
    CallsIn F n Tryd.prog 98 #[.pointer p] w fun e w' => e = .returned (.func (.func 112) #[] #[.pointer (some ⟨w.heap.size, 0, none⟩)]) ∧ w' = w.alloc (.cells #[.pointer p] 106) := by
  refine callsIn_of_wp Tryd.func98 rfl hF ?_ hro
  simp only [Tryd.ntmps98, List.size_toArray, List.length_cons, List.length_nil, Nat.reduceAdd, Nat.reduceSub, Array.replicate_succ, Array.replicate_zero, List.push_toArray, List.append_toArray, List.nil_append, List.cons_append]
  gi_wp2
  go_ret
  exact ⟨rfl, rfl⟩
/-- The iterator: all runs, in order, numbered; or some of the first. -/
theorem all_stops (F : Fence) (n : Nat) (hF : F.fn 112) (hro : F.round = none) (hn : 1 ≤ n) (Bn n0 tt cap N : Nat) (a : Option Addr) (R : List Rn) (hok : Okr N R) (w : World) (hBn : Bn < w.heap.size) (hn0 : n0 ≤ w.heap.size)
    (hc : w.cell? ⟨Bn, 0, none⟩ = some (.pointer (some ⟨tt, 0, none⟩))) (hT : TRd w n0 tt a cap N R) :
    SeqStopsK F n Tryd.prog 112 #[.pointer (some ⟨Bn, 0, none⟩)] encR (Below n0) (fun ys => ys = numbered R R.length) (fun pre => ∃ k, k ≤ R.length ∧ pre = numbered R k) R.length w := fun l J Jx W hW hJ _ hY h0 =>
  all1_in F n hF hro hn l Bn n0 tt cap N a R hok J Jx _ hJ hY W (Nat.le_trans hn0 hW.size) ((hW.cell (p := ⟨Bn, 0, none⟩) hBn).trans hc) (hT.below (hW.mono hn0)) h0
end Go.Proofs.YtoalpdjpljapbaaDoor
