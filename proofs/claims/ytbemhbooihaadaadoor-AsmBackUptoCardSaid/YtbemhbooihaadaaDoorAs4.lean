/- Package asm: words read one by one. -/
import Derived.Test.YtbemhbooihaadaaDoorAs3
namespace Go.Proofs.YtbemhbooihaadaaDoor
set_option linter.unusedVariables false
set_option linter.unusedSimpArgs false
set_option linter.unnecessarySimpa false
open Go.RowKit Go.Sort
set_option maxHeartbeats 2000000
set_option maxRecDepth 100000
set_option linter.unusedVariables false
structure RS (w : World) (rb g : Nat) (l : List (List UInt8)) (bad : Bool) (W : World) : Prop where
  bel : Below w.heap.size w W
  new : w.heap.size ≤ rb
  ne : g ≠ rb
  obj : ∃ a o cap, ObjAt W rb 63 [.slice a l.length cap, .bool bad] ∧ l.length ≤ cap ∧ cap ≤ maxLen ∧ (l ≠ [] → a = some ⟨g, o, none⟩ ∧ g < W.heap.size) ∧ ∀ j (hj : j < l.length), W.cell? ⟨g, o + j, none⟩ = some (.string (ba l[j]))
  small : ∀ x ∈ l, x.length ≤ 100000000
theorem next_rs {w : World} {rb g : Nat} {l : List (List UInt8)} {bad : Bool} {W : World} (h : RS w rb g l bad W) :
    Calls Tryd.prog 47 #[.pointer (some ⟨rb, 0, none⟩)] W fun e w' => e = .returned (.string (ba (l.headD []))) ∧ RS w rb g l.tail (bad || l.isEmpty) w' ∧ Upd rb W w' := by
  obtain ⟨a, o, cap, hobj, hle, hmx, hsome, hc⟩ := h.obj
  cases l with
  | nil =>
    have HX : Hid (RS w rb g [] true (W.setCell ⟨rb, 1, none⟩ (.bool true)) ∧ Upd rb W (W.setCell ⟨rb, 1, none⟩ (.bool true))) := by
      refine ⟨⟨h.bel.trans ((Upd.setCell W ⟨rb, 1, none⟩ _).below h.new h.bel.size), h.new, h.ne, ⟨a, o, cap, hobj.set 1 _, hle, hmx, fun h0 => absurd rfl h0, fun j hj => absurd hj (by simp)⟩, fun x hx => absurd hx (by simp)⟩, Upd.setCell W ⟨rb, 1, none⟩ _⟩
    have HO := Lib.hid hobj
    have c0 := HO.out.cell 0 _ rfl
    have c1 := HO.out.cell 1 _ rfl
    have f1 := HO.out.free 1
    clear h hobj hle hmx hsome hc
    go_enter Tryd.func47, Tryd.ntmps47
    go_wp2
    go_ret
    refine ⟨rfl, ?_, HX.out.2⟩
    rw [Bool.or_comm]; exact HX.out.1
  | cons x r =>
    obtain ⟨ha, hg⟩ := hsome (by simp)
    subst ha
    have hl : (x :: r).length = r.length + 1 := rfl
    rw [hl] at hle
    obtain ⟨v, hv⟩ : ∃ v : Value, v = .slice (some ⟨g, if cap = 1 then o else o + 1, none⟩) r.length (cap - 1) := ⟨_, rfl⟩
    have HX : Hid (RS w rb g r bad (W.setCell ⟨rb, 0, none⟩ v) ∧ Upd rb W (W.setCell ⟨rb, 0, none⟩ v)) := by
      have hne := h.ne
      refine ⟨⟨h.bel.trans ((Upd.setCell W ⟨rb, 0, none⟩ _).below h.new h.bel.size), h.new, h.ne, ⟨some ⟨g, if cap = 1 then o else o + 1, none⟩, if cap = 1 then o else o + 1, cap - 1, ?_, by omega, by omega, fun h0 => ⟨rfl, by simp [World.setCell]; exact hg⟩, fun j hj => ?_⟩, fun y hy => h.small y (List.mem_cons_of_mem _ hy)⟩, Upd.setCell W ⟨rb, 0, none⟩ _⟩
      · have := hobj.set 0 v
        rw [hv] at this ⊢
        exact this
      · have h1 := hc (j + 1) (by rw [hl]; omega)
        have hcap : ¬ cap = 1 := by omega
        rw [if_neg hcap]
        rw [World.cell?_setCell_far _ _ _ _ (show rb ≠ g from fun e => hne e.symm)]
        rw [show o + 1 + j = o + (j + 1) by omega, h1]
        rfl
    have HO := Lib.hid hobj
    have c0 := HO.out.cell 0 _ rfl
    have c1 := HO.out.cell 1 _ rfl
    have f0 := HO.out.free 0
    have s0 : W.cell? ⟨g, o, none⟩ = some (.string (ba x)) := hc 0 (by rw [hl]; omega)
    have s0' : W.cell? ⟨g, o + 0, none⟩ = some (.string (ba x)) := s0
    have hsm : r.length + 1 ≤ 9223372036854775807 := by have : cap ≤ 2 ^ 63 - 1 := hmx; omega
    have HL := Lib.hid hle
    rw [hl] at c0
    clear h hobj hmx hsome hc hle
    go_enter Tryd.func47, Tryd.ntmps47
    go_wp2_with fail
    all_goals
      go_ret
      refine ⟨rfl, ?_⟩
      have hX := HX.out
      rw [hv] at hX
      first | rw [if_pos (by assumption)] at hX | rw [if_neg (by assumption)] at hX
      first | exact hX | (subst_vars; exact hX)
def cutL (c : UInt8) (s : List UInt8) : List UInt8 := Lib.trimPrefix s [c]
def cutB (c : UInt8) (s : List UInt8) : Bool := Lib.hasPrefix s [c]
def regN (s : List UInt8) : Int := numI (cutL 114 s)
def regOk (s : List UInt8) : Bool := cutB 114 s && numB (cutL 114 s)
def numN (s : List UInt8) : Int := if cutB 45 s then -(numI (cutL 45 s) : Int) else numI (cutL 45 s)
def numOk (s : List UInt8) : Bool := numB (cutL 45 s) && !(cutB 45 s && numI (cutL 45 s) == 0)
theorem cut_lib (c : UInt8) (s : List UInt8) (w : World) : Calls Tryd.prog 46 #[.string (ba s), .string ⟨#[c]⟩] w fun e w' => e = .returned (.tuple #[.string (ba (cutL c s)), .bool (cutB c s)]) ∧ w' = w := Tryd.strings_CutPrefix (ba s) ⟨#[c]⟩ w
theorem cutL_le (c : UInt8) (s : List UInt8) : (cutL c s).length ≤ s.length := by
  unfold cutL Lib.trimPrefix
  split <;> simp
theorem RS.head {w : World} {rb g : Nat} {l : List (List UInt8)} {bad : Bool} {W : World} (h : RS w rb g l bad W) : (l.headD []).length ≤ 100000000 := by
  cases l with
  | nil => simp
  | cons x r => exact h.small x (List.mem_cons_self ..)
theorem RS.more {w : World} {rb g : Nat} {l : List (List UInt8)} {bad : Bool} {W W' : World} (h : RS w rb g l bad W) (hb : Below W.heap.size W W') : RS w rb g l bad W' := by
  obtain ⟨a, o, cap, hobj, hle, hmx, hsome, hc⟩ := h.obj
  refine ⟨bmore h.bel hb, h.new, h.ne, ⟨a, o, cap, hobj.below hb, hle, hmx, fun h0 => ⟨(hsome h0).1, Nat.lt_of_lt_of_le (hsome h0).2 hb.size⟩, fun j hj => ?_⟩, h.small⟩
  rw [hb.cell (show g < W.heap.size from (hsome (fun h0 => by rw [h0] at hj; simp at hj)).2)]
  exact hc j hj
theorem RS.spoil {w : World} {rb g : Nat} {l : List (List UInt8)} {bad : Bool} {W : World} (h : RS w rb g l bad W) : RS w rb g l true (W.setCell ⟨rb, 1, none⟩ (.bool true)) := by
  obtain ⟨a, o, cap, hobj, hle, hmx, hsome, hc⟩ := h.obj
  have hne := h.ne
  refine ⟨h.bel.trans ((Upd.setCell W ⟨rb, 1, none⟩ _).below h.new h.bel.size), h.new, h.ne, ⟨a, o, cap, hobj.set 1 _, hle, hmx, fun h0 => ⟨(hsome h0).1, by simp [World.setCell]; exact (hsome h0).2⟩, fun j hj => ?_⟩, h.small⟩
  rw [World.cell?_setCell_far _ _ _ _ (show rb ≠ g from fun e => hne e.symm)]
  exact hc j hj
theorem RS.cells {w : World} {rb g : Nat} {l : List (List UInt8)} {bad : Bool} {W : World} (h : RS w rb g l bad W) : W.cell? ⟨rb, 1, none⟩ = some (.bool bad) ∧ W.frozen? ⟨rb, 1, none⟩ = false := by
  obtain ⟨a, o, cap, hobj, hle, hmx, hsome, hc⟩ := h.obj
  exact ⟨hobj.cell 1 _ rfl, hobj.free 1⟩
theorem reg_rs {w : World} {rb g : Nat} {l : List (List UInt8)} {bad : Bool} {W : World} (h : RS w rb g l bad W) :
    Calls Tryd.prog 29 #[.pointer (some ⟨rb, 0, none⟩)] W fun e w' => e = .returned (.int .i64 (regN (l.headD []))) ∧ RS w rb g l.tail ((bad || l.isEmpty) || !regOk (l.headD [])) w' ∧ Upd rb W w' := by
  obtain ⟨s, hs⟩ : ∃ s, s = l.headD [] := ⟨_, rfl⟩
  have hsl := h.head
  have HN := Lib.hid (next_rs h)
  rw [← hs] at HN hsl ⊢
  have HS : Hid ((ba (cutL 114 s)).size ≤ maxLen) := by have := cutL_le 114 s; rw [Hid, ba_size, show maxLen = 9223372036854775807 from rfl]; omega
  have HNUM := fun W => number_any (ba (cutL 114 s)) HS.out W
  rw [ba_data] at HNUM
  generalize (bad || l.isEmpty) = bd at HN ⊢
  clear h hsl hs
  cases hc : cutB 114 s <;> cases hn : numB (cutL 114 s)
  all_goals
    have HC := Lib.hid hc
    have HM := Lib.hid hn
    clear hc hn
    go_enter Tryd.func29, Tryd.ntmps29
    go_wp2_with fail
    refine HN.out.mono ?_; rintro e W1 ⟨rfl, h1, u1⟩
    go_wp2_with fail
    refine (cut_lib 114 s _).mono ?_; rintro e W2 ⟨rfl, rfl⟩
    rw [HC.out]
    go_wp2_with fail
    refine (HNUM _).mono ?_; rintro e W3 ⟨rfl, hb3⟩
    rw [HM.out]
    have h3 := h1.more hb3
    have c1 := h3.cells.1
    have f1 := h3.cells.2
    have HU : Hid (Upd rb W W3) := u1.trans (Upd.of_below hb3)
    have HRS := Lib.hid h3
    clear h1 u1 hb3 h3
    go_wp2_with fail
    go_ret
    refine ⟨rfl, ?_, ?_⟩
    · unfold regOk; rw [HC.out, HM.out]
      simp only [Bool.and_true, Bool.and_false, Bool.and_self, Bool.not_true, Bool.not_false, Bool.or_true, Bool.or_false]
      first | exact HRS.out | exact HRS.out.spoil
    · first | exact HU.out | exact HU.out.trans (Upd.setCell _ ⟨rb, 1, none⟩ _)
theorem num_rs {w : World} {rb g : Nat} {l : List (List UInt8)} {bad : Bool} {W : World} (h : RS w rb g l bad W) :
    Calls Tryd.prog 30 #[.pointer (some ⟨rb, 0, none⟩)] W fun e w' => e = .returned (.int .i64 (numN (l.headD []))) ∧ RS w rb g l.tail ((bad || l.isEmpty) || !numOk (l.headD [])) w' ∧ Upd rb W w' := by
  obtain ⟨s, hs⟩ : ∃ s, s = l.headD [] := ⟨_, rfl⟩
  have hsl := h.head
  have HN := Lib.hid (next_rs h)
  rw [← hs] at HN hsl ⊢
  have HS : Hid ((ba (cutL 45 s)).size ≤ maxLen) := by have := cutL_le 45 s; rw [Hid, ba_size, show maxLen = 9223372036854775807 from rfl]; omega
  have HNUM := fun W => number_any (ba (cutL 45 s)) HS.out W
  rw [ba_data] at HNUM
  generalize (bad || l.isEmpty) = bd at HN ⊢
  have hlt := numI_lt (cutL 45 s)
  obtain ⟨v, hv⟩ : ∃ v, v = numI (cutL 45 s) := ⟨_, rfl⟩
  have HV : Hid (numN s = if cutB 45 s then -(v : Int) else v) := by unfold Hid numN; rw [hv]
  have HO : Hid (numOk s = (numB (cutL 45 s) && !(cutB 45 s && v == 0))) := by unfold Hid numOk; rw [hv]
  rw [← hv] at HNUM hlt
  have w1 : IntKind.i64.wrap (-(v : Int)) = -(v : Int) := by rw [IntKind.wrap_i64]; omega
  clear h hsl hs hv hlt
  cases hc : cutB 45 s <;> cases hn : numB (cutL 45 s) <;> rcases (by omega : v = 0 ∨ v ≠ 0) with hz | hz
  all_goals
    have HC := Lib.hid hc
    have HM := Lib.hid hn
    have HZ := Lib.hid hz
    have z1 : ((v : Int) == 0) = decide (v = 0) := by rw [Bool.eq_iff_iff]; simp
    first | rw [decide_eq_true hz] at z1 | rw [decide_eq_false hz] at z1
    clear hc hn hz
    go_enter Tryd.func30, Tryd.ntmps30
    go_wp2_with fail
    refine HN.out.mono ?_; rintro e W1 ⟨rfl, h1, u1⟩
    go_wp2_with fail
    refine (cut_lib 45 s _).mono ?_; rintro e W2 ⟨rfl, rfl⟩
    rw [HC.out]
    go_wp2_with fail
    refine (HNUM _).mono ?_; rintro e W3 ⟨rfl, hb3⟩
    rw [HM.out]
    have h3 := h1.more hb3
    have c1 := h3.cells.1
    have f1 := h3.cells.2
    have HU : Hid (Upd rb W W3) := u1.trans (Upd.of_below hb3)
    have HRS := Lib.hid h3
    clear h1 u1 hb3 h3
    go_wp2_with fail
    go_ret
    refine ⟨?_, ?_, ?_⟩
    · rw [HV.out, HC.out]; rfl
    · rw [HO.out, HC.out, HM.out]
      first | rw [show (v == 0) = true from by rw [HZ.out]; rfl] | rw [show (v == 0) = false from by simp; exact HZ.out] | skip
      simp only [Bool.and_true, Bool.and_false, Bool.false_and, Bool.and_self, Bool.not_true, Bool.not_false, Bool.or_true, Bool.or_false]
      first | exact HRS.out | exact HRS.out.spoil
    · first | exact HU.out | exact HU.out.trans (Upd.setCell _ ⟨rb, 1, none⟩ _)
end Go.Proofs.YtbemhbooihaadaaDoor
