/- The reference's ports: Waits, Told, Send. -/
import Derived.Test.YtpccllgbccccnaaPortsRef
import Derived.Test.YtpccllgbccccnaaPorts6
namespace Go.Proofs.Ytpccllgbccccnaa
set_option linter.unusedVariables false
set_option linter.unusedSimpArgs false
set_option linter.unnecessarySimpa false
open Go.RowKit Go.Sort
set_option maxHeartbeats 400000
set_option maxRecDepth 100000

def isI (n : Nat) (i : Int) : Bool := decide (0 ≤ i) && decide (i < n)
theorem isI_nat {n k : Nat} (h : k < n) : isI n (k : Int) = true := by simp [isI]; omega
theorem isI_iff (n : Nat) (i : Int) : isI n i = true ↔ 0 ≤ i ∧ i < n := by simp [isI]
theorem ris (B rr : Nat) (s : RS) (i : Int) (w : World) (h : RSt w B rr s) : Calls Try.prog 30 #[.pointer (some ⟨rr, 0, none⟩), .int .i64 i] w fun e w' => e = .returned (.bool (isI s.P.length i)) ∧ w = w' := ris_any B rr s i w h
theorem Vw.get {s : RS} {vs : List PV} (h : Vw s vs) (li : s.I.length = s.P.length) (lo : s.O.length = s.P.length) {n : Nat} (hn : n < s.P.length) :
    ∃ L : List ByteArray, vs[n]? = some ⟨s.P[n].1, s.P[n].2, L⟩ ∧ (s.P[n].2 = -1 → (s.I[n]'(by omega)).L = [] ∧ (s.O[n]'(by omega)).L = L ∧ L.length ≤ 64) ∧ (s.P[n].2 ≠ -1 → (s.I[n]'(by omega)).L = L ∧ (s.O[n]'(by omega)).L = [] ∧ L.length ≤ 4) :=
  h.at_ n _ _ _ (by simp [hn]) (by rw [List.getElem?_eq_getElem (by omega)]) (by rw [List.getElem?_eq_getElem (by omega)])
theorem Vw.atV_in {s : RS} {vs : List PV} {n : Nat} {v : PV} (h : vs[n]? = some v) : atV vs (n : Int) = some v := by rw [atV, if_pos (by omega), Int.toNat_natCast, h]
theorem Vw.atV_out {s : RS} {vs : List PV} (h : Vw s vs) {i : Int} (hi : isI s.P.length i = false) : atV vs i = none := by
  have hi' : ¬ (0 ≤ i ∧ i < s.P.length) := by rw [← isI_iff, hi]; simp
  unfold atV
  split
  · exact List.getElem?_eq_none (by rw [h.len]; omega)
  · rfl
theorem Vw.setI {s : RS} {vs : List PV} (h : Vw s vs) (li : s.I.length = s.P.length) (lo : s.O.length = s.P.length) {n : Nat} (hn : n < s.P.length) (hg : s.P[n].2 ≠ -1) (r : Rw) (hr : r.L.length ≤ 4) : Vw {s with I := s.I.set n r} (vs.set n ⟨s.P[n].1, s.P[n].2, r.L⟩) := by
  refine ⟨by rw [List.length_set]; exact h.len, fun i p x y hp hx hy => ?_⟩
  dsimp only at hp hx hy
  by_cases e : n = i
  · subst e
    rw [List.getElem?_set_self (by omega)] at hx
    injection hx with hx
    subst hx
    rw [List.getElem?_eq_getElem hn] at hp
    injection hp with hp
    subst hp
    obtain ⟨L, h1, h2, h3⟩ := h.get li lo hn
    rw [List.getElem?_eq_getElem (by omega)] at hy
    injection hy with hy
    subst hy
    exact ⟨r.L, List.getElem?_set_self (by rw [h.len]; exact hn), fun h0 => absurd h0 hg, fun h0 => ⟨rfl, (h3 hg).2.1, hr⟩⟩
  · rw [List.getElem?_set_ne e] at hx ⊢
    exact h.at_ i p x y hp hx hy
theorem Vw.setO {s : RS} {vs : List PV} (h : Vw s vs) (li : s.I.length = s.P.length) (lo : s.O.length = s.P.length) {n : Nat} (hn : n < s.P.length) (hg : s.P[n].2 = -1) (r : Rw) (hr : r.L.length ≤ 64) : Vw {s with O := s.O.set n r} (vs.set n ⟨s.P[n].1, s.P[n].2, r.L⟩) := by
  refine ⟨by rw [List.length_set]; exact h.len, fun i p x y hp hx hy => ?_⟩
  dsimp only at hp hx hy
  by_cases e : n = i
  · subst e
    rw [List.getElem?_set_self (by omega)] at hy
    injection hy with hy
    subst hy
    rw [List.getElem?_eq_getElem hn] at hp
    injection hp with hp
    subst hp
    obtain ⟨L, h1, h2, h3⟩ := h.get li lo hn
    rw [List.getElem?_eq_getElem (by omega)] at hx
    injection hx with hx
    subst hx
    exact ⟨r.L, List.getElem?_set_self (by rw [h.len]; exact hn), fun h0 => ⟨(h2 hg).1, rfl, hr⟩, fun h0 => absurd hg h0⟩
  · rw [List.getElem?_set_ne e] at hy ⊢
    exact h.at_ i p x y hp hx hy
/-- What an act on the reference's ports leaves. -/
def RPost (B rr : Nat) (s : RS) (r : Value) (vs : List PV) (w : World) (e : Ending) (w' : World) : Prop :=
  ∃ s', e = .returned r ∧ RSt w' B rr s' ∧ Vw s' vs ∧ Acts B (s.its rr) (s'.its rr) w w'
theorem RSt.post {w w' : World} {B rr : Nat} {s : RS} {vs : List PV} {r : Value} (h : RSt w B rr s) (hv : Vw s vs) (hb : Below w.heap.size w w') : RPost B rr s r vs w (.returned r) w' :=
  ⟨s, rfl, h.below hb, hv, Acts.ofBelow h.fam hb⟩
/-- An inbox anew. -/
theorem RSt.putI {w W w1 : World} {B rr g : Nat} {s : RS} {vs : List PV} {r : Value} (h : RSt W B rr s) (hb : Below w.heap.size w W) (hw : RSt w B rr s) (hv : Vw s vs) {n : Nat} (hn : n < s.P.length) (hg : s.P[n].2 ≠ -1) (hi : n < s.I.length) (hia : s.ia = some ⟨g, 0, none⟩)
    {a' : Option Addr} {c' : Nat} {L : List ByteArray} (hown : Own w1 B 9 1 a' L.length c' (strF L)) (hL : L.length ≤ 4) (hm : Mod (blk s.I[n].a) W w1) (hat : ∀ q ∈ blk a', q ∈ blk s.I[n].a ∨ W.heap.size ≤ q) :
    RPost B rr s r (vs.set n ⟨s.P[n].1, s.P[n].2, L⟩) w (.returned r) (w1.setCell ⟨g, n, none⟩ (.slice a' L.length c')) := by
  have h1 := putRow (k := n) (m := 2) (N := L.length) (c' := c') h.fam (getI s rr hi) (by rw [← hia]; rfl) (by omega) hi hown hm hat
  rw [← hia] at h1
  have h2 : Acts B (s.its rr) (({s with I := s.I.set n ⟨a', c', L⟩} : RS).its rr) W (w1.setCell ⟨g, n, none⟩ (.slice a' L.length c')) := by rw [← setI s rr hi ⟨a', c', L⟩]; exact h1
  exact ⟨{s with I := s.I.set n ⟨a', c', L⟩}, rfl, ⟨h2.fam, by simp [h.li], h.lo, h.l8⟩, hv.setI h.li h.lo hn hg ⟨a', c', L⟩ hL, (Acts.ofBelow hw.fam hb).trans h2⟩
/-- What goes outside, anew. -/
theorem RSt.putO {w W w1 : World} {B rr g : Nat} {s : RS} {vs : List PV} {r : Value} (h : RSt W B rr s) (hb : Below w.heap.size w W) (hw : RSt w B rr s) (hv : Vw s vs) {n : Nat} (hn : n < s.P.length) (hg : s.P[n].2 = -1) (hi : n < s.O.length) (hoa : s.oa = some ⟨g, 0, none⟩)
    {a' : Option Addr} {c' : Nat} {L : List ByteArray} (hown : Own w1 B 9 1 a' L.length c' (strF L)) (hL : L.length ≤ 64) (hm : Mod (blk s.O[n].a) W w1) (hat : ∀ q ∈ blk a', q ∈ blk s.O[n].a ∨ W.heap.size ≤ q) :
    RPost B rr s r (vs.set n ⟨s.P[n].1, s.P[n].2, L⟩) w (.returned r) (w1.setCell ⟨g, n, none⟩ (.slice a' L.length c')) := by
  have h1 := putRow (k := n) (m := 3) (N := L.length) (c' := c') h.fam (getO s rr hi) (by rw [← hoa]; rfl) (by omega) hi hown hm hat
  rw [← hoa] at h1
  have h2 : Acts B (s.its rr) (({s with O := s.O.set n ⟨a', c', L⟩} : RS).its rr) W (w1.setCell ⟨g, n, none⟩ (.slice a' L.length c')) := by rw [← setO s rr hi ⟨a', c', L⟩]; exact h1
  exact ⟨{s with O := s.O.set n ⟨a', c', L⟩}, rfl, ⟨h2.fam, h.li, by simp [h.lo], h.l8⟩, hv.setO h.li h.lo hn hg ⟨a', c', L⟩ hL, (Acts.ofBelow hw.fam hb).trans h2⟩
theorem quietN {P : Program} {f : FuncId} {args : Array Value} {w : World} {v : Value} (h : ∀ k, Calls P f args (w.drewN k) fun e w' => e = .returned v ∧ w.drewN k = w') (k : Nat) : Calls P f args (w.drewN k) fun e w'' => e = .returned v ∧ ∃ m, w'' = w.drewN m := quiet_same (h k)
/-- The parts of a state that a walk reads at port n. -/
theorem RSt.reads {w : World} {B rr : Nat} {s : RS} (h : RSt w B rr s) {n : Nat} (hn : n < s.P.length) : ∃ g1 g2 g3, s.pa = some ⟨g1, 0, none⟩ ∧ s.ia = some ⟨g2, 0, none⟩ ∧ s.oa = some ⟨g3, 0, none⟩ := by
  obtain ⟨g1, h1, _⟩ := h.p.at_ (by omega)
  obtain ⟨g2, h2, _⟩ := h.i.at_ (by have := h.li; omega)
  obtain ⟨g3, h3, _⟩ := h.o.at_ (by have := h.lo; omega)
  exact ⟨g1, g2, g3, h1, h2, h3⟩
theorem RSt.cells {w : World} {B rr g1 g2 g3 : Nat} {s : RS} (h : RSt w B rr s) (h1 : s.pa = some ⟨g1, 0, none⟩) (h2 : s.ia = some ⟨g2, 0, none⟩) (h3 : s.oa = some ⟨g3, 0, none⟩) {n : Nat} (hn : n < s.P.length) (hi : n < s.I.length) (ho : n < s.O.length) :
    w.cell? ⟨g1, n * 2, none⟩ = some (.int .i64 s.P[n].1) ∧ w.cell? ⟨g1, n * 2 + 1, none⟩ = some (.int .i64 s.P[n].2) ∧ w.cell? ⟨g2, n, none⟩ = some (.slice s.I[n].a s.I[n].L.length s.I[n].cap) ∧ w.cell? ⟨g3, n, none⟩ = some (.slice s.O[n].a s.O[n].L.length s.O[n].cap) := by
  have hp := h.p; rw [h1] at hp
  have hq := h.i; rw [h2] at hq
  have hr := h.o; rw [h3] at hr
  exact ⟨hp.cell _ _ (poF_get s.P n 0 hn (by omega)), hp.cell _ _ (poF_get s.P n 1 hn (by omega)), hq.cell _ _ (hdF_get s.I n hi), hr.cell _ _ (hdF_get s.O n ho)⟩
theorem RSt.objC {w : World} {B rr g1 g2 g3 : Nat} {s : RS} (h : RSt w B rr s) (h1 : s.pa = some ⟨g1, 0, none⟩) (h2 : s.ia = some ⟨g2, 0, none⟩) (h3 : s.oa = some ⟨g3, 0, none⟩) :
    w.cell? ⟨rr, 0, none⟩ = some (.slice (some ⟨g1, 0, none⟩) s.P.length s.pc) ∧ w.cell? ⟨rr, 1, none⟩ = some (.slice (some ⟨g2, 0, none⟩) s.P.length s.ic) ∧ w.cell? ⟨rr, 2, none⟩ = some (.slice (some ⟨g3, 0, none⟩) s.P.length s.oc) := by
  have := h.obj
  rw [h1, h2, h3, h.li, h.lo] at this
  exact ⟨this.cell 0 _ rfl, this.cell 1 _ rfl, this.cell 2 _ rfl⟩
end Go.Proofs.Ytpccllgbccccnaa
