/- Package parts: the gap closure; Runs. -/
import Derived.Test.YthmbflofcceifaaParts6
namespace Go.Proofs.Ythmbflofcceifaa
set_option linter.unusedVariables false
set_option linter.unusedSimpArgs false
set_option linter.unnecessarySimpa false
open Go.RowKit Go.Sort
set_option maxHeartbeats 400000
set_option maxRecDepth 100000

/-- The variables of Runs: how far, and the runs so far. -/
structure RB (w : World) (B ba bo at_ : Nat) (a : Option Addr) (c : Nat) (L : List Rz) : Prop where
  far : ObjAt w ba 3 [.int .i64 at_]
  out : ObjAt w bo 27 [.slice a L.length c]
  own : Own w B 33 3 a L.length c (rzF L)
namespace RB
variable {w w' : World} {B ba bo at_ c : Nat} {a : Option Addr} {L : List Rz}
theorem below (h : RB w B ba bo at_ a c L) (hb : Below w.heap.size w w') : RB w' B ba bo at_ a c L := ⟨h.far.below hb, h.out.below hb, h.own.below hb⟩
theorem ne (h : RB w B ba bo at_ a c L) : ba ≠ bo ∧ ba ∉ blk a ∧ bo ∉ blk a := ⟨h.far.ne h.out (by decide), h.own.ne h.far (by decide), h.own.ne h.out (by decide)⟩
/-- The runs anew, and told. -/
theorem put (h : RB w B ba bo at_ a c L) {w1 : World} {a' : Option Addr} {c' : Nat} {L' : List Rz} (hown : Own w1 B 33 3 a' L'.length c' (rzF L')) (hm : Mod (blk a) w w1) (hat : ∀ k ∈ blk a', k ∈ blk a ∨ w.heap.size ≤ k) :
    RB (w1.setCell ⟨bo, 0, none⟩ (.slice a' L'.length c')) B ba bo at_ a' c' L' ∧ Mod (bo :: blk a) w (w1.setCell ⟨bo, 0, none⟩ (.slice a' L'.length c')) := by
  obtain ⟨n1, n2, n3⟩ := h.ne
  have hf := h.far.mod hm n2
  have ho := h.out.mod hm n3
  have h1 : bo ∉ blk a' := hown.ne ho (by decide)
  exact ⟨⟨hf.upd (Upd.setCell w1 ⟨bo, 0, none⟩ _) n1, ho.set 0 _, hown.upd (Upd.setCell w1 ⟨bo, 0, none⟩ _) h1⟩, (hm.mono (fun k _ hk => List.mem_cons_of_mem _ hk)).setCell ⟨bo, 0, none⟩ _ (.inl (by simp))⟩
end RB
def gapV (L : List Rz) (at_ to : Nat) : List Rz := if at_ < to then joinV L (at_, to - at_, -1) else L
def GPost (B ba bo at_ : Nat) (a : Option Addr) (L' : List Rz) (w : World) (e : Ending) (w' : World) : Prop :=
  ∃ a' c', e = .returned (.tuple #[]) ∧ RB w' B ba bo at_ a' c' L' ∧ Mod (bo :: blk a) w w' ∧ ∀ k ∈ blk a', k ∈ blk a ∨ w.heap.size ≤ k
set_option maxHeartbeats 1600000 in
theorem gap_any (B ba bo at_ c to : Nat) (a : Option Addr) (L : List Rz) (w : World) (h : RB w B ba bo at_ a c L) (hto : to ≤ 64) (hat : at_ ≤ 1000) (hn : L.length ≤ 1000) (hN : ∀ q ∈ L, q.2.1 ≤ 1000000) (hB : B ≤ w.heap.size) :
    Calls Try.prog 24 #[.int .i64 to, .pointer (some ⟨ba, 0, none⟩), .pointer (some ⟨bo, 0, none⟩)] w (GPost B ba bo at_ a (gapV L at_ to) w) := by
  have H := Lib.hid h
  have c1 := h.far.cell 0 _ rfl
  have c2 := h.out.cell 0 _ rfl
  by_cases hlt : at_ < to
  · have HG : Hid (gapV L at_ to = joinV L (at_, to - at_, -1)) := by rw [Hid, gapV, if_pos hlt]
    have HJ := Lib.hid (joined_any B c a L at_ (to - at_) (-1) w h.own hn hN (by omega) hB)
    unfold rzV at HJ
    dsimp only at HJ
    rw [show ((to - at_ : Nat) : Int) = (to : Int) - at_ by omega] at HJ
    have d1 : decide ((at_ : Int) < (to : Int)) = true := by simp; omega
    have d2 : decide (at_ < to) = true := by simp; omega
    clear h hN
    go_enter Try.func24, Try.ntmps24
    go_wp2_with fail
    refine HJ.out.mono ?_; rintro e w1 ⟨a', c', rfl, hown, hm, hat'⟩
    obtain ⟨hp, hm2⟩ := H.out.put hown hm hat'
    have ho := (H.out.out.mod hm H.out.ne.2.2)
    have q0 := ho.cell 0 _ rfl
    have qf := ho.free 0
    have HP := Lib.hid hp; have HM2 := Lib.hid hm2; have HA := Lib.hid hat'
    clear hp hm2 hown hm ho hat' c1 c2
    go_wp2_with fail
    go_end0
    rw [HG.out]
    exact ⟨a', c', rfl, HP.out, HM2.out, HA.out⟩
  · have HG : Hid (gapV L at_ to = L) := by rw [Hid, gapV, if_neg hlt]
    have d1 : decide ((at_ : Int) < (to : Int)) = false := by simp; omega
    have d2 : decide (at_ < to) = false := by simp; omega
    clear h hN
    go_enter Try.func24, Try.ntmps24
    go_wp2_with fail
    go_end0
    rw [HG.out]
    exact ⟨a, c, rfl, H.out, Mod.refl _ _, fun k hk => .inl hk⟩
end Go.Proofs.Ythmbflofcceifaa
