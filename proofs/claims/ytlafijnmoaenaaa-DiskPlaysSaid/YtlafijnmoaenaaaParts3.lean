/- Package parts: Who. -/
import Derived.Test.YtlafijnmoaenaaaParts2
import Derived.Sort.QuietIn
namespace Go.Proofs.Ytlafijnmoaenaaa
set_option linter.unusedVariables false
set_option linter.unusedSimpArgs false
set_option linter.unnecessarySimpa false
open Go.RowKit Go.Shelf
set_option maxHeartbeats 400000
set_option maxRecDepth 100000
attribute [local go_sem] Oper.semAt_some wide_fn
attribute [local simp] wide_fn

def hits (i : Int) (r : Rn) : Bool := decide ((r.1 : Int) ≤ i) && decide (i < (r.1 : Int) + r.2.1)
def whoV (R : List Rn) (i : Int) : Int × Bool := match R.find? (hits i) with
  | some r => (r.2.2, true)
  | none => (0, false)
theorem who_out {n : Nat} {R : List Rn} (h : Okr n R) {i : Int} (hi : ¬ (0 ≤ i ∧ i < n)) : whoV R i = (0, false) := by
  have : R.find? (hits i) = none := by
    rw [List.find?_eq_none]
    intro r hr
    have := h.each r hr
    simp [hits]
    omega
  rw [whoV, this]
theorem find_snoc (i : Int) (R : List Rn) (r : Rn) (h : R.find? (hits i) = none) : (R ++ [r]).find? (hits i) = if hits i r then some r else none := by
  rw [List.find?_append, h]
  simp [List.find?_cons]
  cases hits i r <;> rfl
theorem find_take {i : Int} {R : List Rn} {k : Nat} {r : Rn} (h : (R.take k).find? (hits i) = some r) : R.find? (hits i) = some r := by
  rw [← List.take_append_drop k R, List.find?_append, h]
  rfl
theorem none_in (B tt cap n : Nat) (a : Option Addr) (R : List Rn) (w : World) (h : TSt w B tt a cap n R) (m : Nat) : CallsIn Fence.wide m Try.prog 37 #[.pointer (some ⟨tt, 0, none⟩)] w fun e w' => e = .returned (.bool false) ∧ w = w' := callsIn_wide.2 (none_no B tt cap n a R w h)
theorem quietIn {F : Fence} {m : Nat} {P : Program} {f : FuncId} {args : Array Value} {w : World} {k : Nat} {v : Value} (h : CallsIn F m P f args (w.drewN k) fun e w' => e = .returned v ∧ w.drewN k = w') : CallsIn F m P f args (w.drewN k) fun e w'' => e = .returned v ∧ ∃ n, w'' = w.drewN n :=
  h.mono fun _ _ ⟨he, hw⟩ => ⟨he, k, hw.symm⟩
set_option maxHeartbeats 8000000 in
theorem who_any (B tt cap n : Nat) (a : Option Addr) (R : List Rn) (i : Int) (w : World) (h : TSt w B tt a cap n R) : Calls Try.prog 24 #[.pointer (some ⟨tt, 0, none⟩), .int .i64 i] w fun e w' => e = .returned (.tuple #[.int .i64 (whoV R i).1, .bool (whoV R i).2]) ∧ Below w.heap.size w w' := by
  have H := Lib.hid h
  have htt := h.obj.lt
  have hn64 := h.ok.n64
  obtain ⟨W, hW⟩ : ∃ W, W = ((w.alloc (.cells #[.int .i64 i] 3)).alloc (.cells #[.int .i64 0] 3)).alloc (.cells #[.bool false] 4) := ⟨_, rfl⟩
  have hB0 : Below w.heap.size w W := by rw [hW]; exact ((((Below.refl _ w).alloc (Nat.le_refl _) _).alloc (by simp) _).alloc (by simp; omega) _)
  have HT := Lib.hid (fun k m => quietIn (none_in B tt cap n a R _ ((h.below hB0).below (below_drewN (Below.refl _ W) k)) m))
  have c1 := h.obj.cell 1 _ rfl
  have d1 := (h.obj.below hB0).cell 1 _ rfl
  have bI : Boxed W w.heap.size 3 (.int .i64 i) := by rw [hW]; exact ((Boxed.new w 3 (.int .i64 i)).alloc _).alloc _
  have b1 : Boxed W (w.heap.size + 1) 3 (.int .i64 0) := by
    rw [hW]
    have := (Boxed.new (w.alloc (.cells #[.int .i64 i] 3)) 3 (.int .i64 0)).alloc (.cells #[.bool false] 4)
    simpa only [World.size_alloc] using this
  have b2 : Boxed W (w.heap.size + 1 + 1) 4 (.bool false) := by
    rw [hW]
    have := Boxed.new ((w.alloc (.cells #[.int .i64 i] 3)).alloc (.cells #[.int .i64 0] 3)) 4 (.bool false)
    simpa only [World.size_alloc] using this
  have BI := Lib.hid bI; have B1 := Lib.hid b1; have B2 := Lib.hid b2; have HB := Lib.hid hB0; have HW := Lib.hid hW
  have cI := bI.cell
  clear h bI b1 b2 hB0
  by_cases hi : 0 ≤ i ∧ i < n
  · have e0 : decide (i < 0) = false := by simp; omega
    have e1 : decide ((n : Int) ≤ i) = false := by simp; omega
    clear hW
    refine (callsIn_wide (n := 9)).1 ?_
    refine callsIn_of_wp_marks Try.func24 rfl trivial ?_ rfl
    simp only [Try.ntmps24, List.size_toArray, List.length_cons, List.length_nil, Nat.reduceAdd, Nat.reduceSub, Array.replicate_succ, Array.replicate_zero, List.push_toArray, List.append_toArray, List.nil_append, List.cons_append]
    gi_wp2
    rw [← HW.out]
    gi_quiet ((gi_at_call 37; exact HT.out _ _))
    obtain ⟨W1, hW1⟩ : ∃ W1, W1 = W.drewN nq := ⟨_, rfl⟩
    have HB1 : Hid (Below w.heap.size w W1) := by rw [hW1]; exact below_drewN HB.out nq
    have hz1 : W1.heap.size = W.heap.size := by rw [hW1]; simp
    have hzW : W.heap.size = w.heap.size + 3 := by rw [HW.out]; simp
    have hI1 : Boxed W1 w.heap.size 3 (.int .i64 i) := by rw [hW1]; exact BI.out
    have hR1 : Boxed W1 (w.heap.size + 1) 3 (.int .i64 0) := by rw [hW1]; exact B1.out
    have hR2 : Boxed W1 (w.heap.size + 1 + 1) 4 (.bool false) := by rw [hW1]; exact B2.out
    rw [← hW1]
    clear hW1 c1 d1 cI BI B1 B2 HB HT
    gi_wp2_with (gi_at_call 38; refine (all_in Fence.wide _ trivial rfl _ _).mono ?_; rintro e w' ⟨rfl, rfl⟩)
    have bT := Boxed.new W1 24 (.pointer (some ⟨tt, 0, none⟩))
    have hI2 := hI1.alloc (.cells #[.pointer (some ⟨tt, 0, none⟩)] 24)
    have hR3 := hR1.alloc (.cells #[.pointer (some ⟨tt, 0, none⟩)] 24)
    have hR4 := hR2.alloc (.cells #[.pointer (some ⟨tt, 0, none⟩)] 24)
    have hB2 := HB1.out.alloc (by omega) (.cells #[.pointer (some ⟨tt, 0, none⟩)] 24)
    have hz2 : (W1.alloc (.cells #[.pointer (some ⟨tt, 0, none⟩)] 24)).heap.size = w.heap.size + 4 := by simp; omega
    have hw1 : W1.heap.size = w.heap.size + 3 := by omega
    rw [hw1] at bT
    (try rw [hw1])
    obtain ⟨W0, hW0⟩ : ∃ W0, W1.alloc (.cells #[.pointer (some ⟨tt, 0, none⟩)] 24) = W0 := ⟨_, rfl⟩
    rw [hW0] at bT hI2 hR3 hR4 hB2 hz2 ⊢
    clear hW0 hI1 hR1 hR2 HB1 hz1 hzW HW hw1
    refine wpIn_rangeFunc_ownH (F := Fence.wide) rfl (by omega) (gf := 44) (lb := #[.pointer (some ⟨w.heap.size + 3, 0, none⟩)]) rfl trivial (enters_of Try.func44 (by kernel_rfl) rfl)
      (all_stops Fence.wide _ trivial rfl (by omega) (w.heap.size + 3) w.heap.size tt cap n a R H.out.ok W0 (by omega) (by omega) bT.cell (H.out.rdt.below hB2)) belowK_t (belowK_b (by omega)) (Below.refl _ _) (fun _ => rfl)
      (fun pre W => (Boxed W w.heap.size 3 (.int .i64 i) ∧ (Boxed W (w.heap.size + 1) 3 (.int .i64 0) ∧ Boxed W (w.heap.size + 1 + 1) 4 (.bool false)) ∧ (came pre).find? (hits i) = none) ∧ Below w.heap.size w W)
      (fun c pre W => ∃ r, (Boxed W (w.heap.size + 1) 3 (.int .i64 (r : Rn).2.2) ∧ Boxed W (w.heap.size + 1 + 1) 4 (.bool true)) ∧ ((c = .ret ∧ (came pre).find? (hits i) = some r) ∧ Below w.heap.size w W))
      (OwnFrom.and (OwnFrom.and (Go.Own.from (boxed_own _ _ _) _) (OwnFrom.and (OwnFrom.and (Go.Own.from (boxed_own _ _ _) _) (Go.Own.from (boxed_own _ _ _) _)) (ownFrom_pure _ _))) (ownFrom_below (Nat.le_refl _) (by omega)))
      (fun c s X Y row hs hg hr => by
        obtain ⟨r, ⟨h1, h2⟩, h3, h4⟩ := hs
        exact ⟨r, ⟨(Go.Own.from (boxed_own _ _ (fun (_ : Unit) => Value.int .i64 r.2.2)) _) () X Y row h1 hg hr, (Go.Own.from (boxed_own _ _ (fun (_ : Unit) => Value.bool true)) _) () X Y row h2 hg hr⟩, h3, (ownFrom_below (β := Unit) (Nat.le_refl _) (by omega)) () X Y row h4 hg hr⟩)
      ⟨⟨hI2, ⟨hR3, hR4⟩, rfl⟩, hB2⟩
      (fun x a' W => ∃ Bx, w.heap.size + 1 + 1 < Bx ∧ ObjAt W Bx 88 (rnC (clR x.2)) ∧ a' = { tmps := #[.pointer (some ⟨tt, 0, none⟩), .int .i64 i, undef, .pointer (some ⟨w.heap.size, 0, none⟩), .pointer (some ⟨w.heap.size + 1, 0, none⟩), .pointer (some ⟨w.heap.size + 1 + 1, 0, none⟩), undef, .pointer (some ⟨Bx, 0, none⟩), .pointer (some ⟨tt, 0, none⟩), .bool false, .bool false, .int .i64 i, .bool false, .bool false, .bool false, .int .i64 i, .pointer (some ⟨tt, 0, none⟩), .pointer (some ⟨tt, 0, none⟩), .pointer (some ⟨tt, 1, none⟩), .int .i64 n, .bool false, .bool false, .pointer (some ⟨tt, 0, none⟩), .func (.func 44) #[] #[.pointer (some ⟨w.heap.size + 3, 0, none⟩)], .int .i64 (cl x.1 : Nat), runV (clR x.2), undef, undef, undef, undef, undef, undef, undef, undef, undef, undef, undef, undef], defers := [] })
      (fun x a' _ X Y row hs hg hr => by obtain ⟨Bx, h1, h2, h3⟩ := hs; exact ⟨Bx, h1, objAt_own Bx 88 (rnC (clR x.2)) () X Y row h2 hg (fun r e => (hr r e).2), h3⟩)
      ?assign ?body ?done ?stop
    case assign =>
      rintro l pre x W K ⟨⟨hI, ⟨h1, h2⟩, hf⟩, hB1⟩ hK
      obtain ⟨ix, f, m, who⟩ := x
      simp only [encR, runV, clR]
      gi_wp2
      exact hK _ _ ((KeepsOthers.alloc _ _).from _) ((Below.refl _ W).alloc hB1.size _) ⟨⟨hI.alloc _, ⟨h1.alloc _, h2.alloc _⟩, hf⟩, hB1.alloc hB1.size _⟩ ⟨W.heap.size, h2.lt, ObjAt.new W _ (rnC (clR (f, m, who))), rfl⟩
    case body =>
      rintro l pre x a' W hl hr ⟨⟨hI, ⟨h1, h2⟩, hf⟩, hB1⟩ ⟨Bx, hBx, bX, rfl⟩ hlt
      have hff := find_snoc i (came pre) (clR x.2) hf
      rw [← came_snoc] at hff
      have hq0 : (clR x.2).1 ≤ 64 := cl_le _
      have hq1 : (clR x.2).2.1 ≤ 64 := cl_le _
      have hq2 : (clR x.2).2.2 ≤ 64 := cl_le _
      generalize clR x.2 = y at bX hff hq0 hq1 hq2
      obtain ⟨f, m, who⟩ := y
      have HFF := Lib.hid hff
      have x0 := bX.cell 0 _ rfl; have x1 := bX.cell 1 _ rfl; have x2 := bX.cell 2 _ rfl
      have cI := hI.cell
      have f1 := h1.frozen; have f2 := h2.frozen
      have c1 := h1.cell; have c2 := h2.cell
      have hlB := bX.lt
      have hl0 : w.heap.size < W.heap.size := hI.lt
      have hl1 : w.heap.size + 1 < W.heap.size := h1.lt
      have hl2 : w.heap.size + 1 + 1 < W.heap.size := h2.lt
      clear hff
      have hmx : Try.prog.follows .mixedOrders = true := by kernel_rfl
      by_cases g0 : (f : Int) ≤ i
      · have t0 : decide ((f : Int) ≤ i) = true := by simpa using g0
        by_cases g1 : i < (f : Int) + m
        · have t1 : decide (i < (f : Int) + m) = true := by simpa using g1
          obtain ⟨X, hX⟩ : ∃ X, X = (((W.setCell ⟨w.heap.size + 1, 0, none⟩ (.int .i64 who)).setCell ⟨w.heap.size + 1 + 1, 0, none⟩ (.bool true)).alloc (.cells #[.int .i64 f, .int .i64 m, .int .i64 who] 88)).drew := ⟨_, rfl⟩
          have hyes : hits i (f, m, who) = true := by simp only [hits, t0, t1, Bool.and_self]
          rw [hyes, if_pos rfl] at HFF
          have FIN : Hid (KeepsFrom W0.heap.size W X ∧ ∃ r, (Boxed X (w.heap.size + 1) 3 (.int .i64 (r : Rn).2.2) ∧ Boxed X (w.heap.size + 1 + 1) 4 (.bool true)) ∧ ((came (pre ++ [x])).find? (hits i) = some r ∧ Below w.heap.size w X)) := by
            rw [hX]
            exact ⟨KeepsOthers.from (by (repeat (first | exact KeepsOthers.refl _ | refine KeepsOthers.trans ?_ (KeepsOthers.drew _) | refine KeepsOthers.trans ?_ (KeepsOthers.setCell _ _ _) | refine KeepsOthers.trans ?_ (KeepsOthers.alloc _ _)))) _, (f, m, who), ⟨boxed_drew (((h1.set _).other (by omega) _).alloc _), boxed_drew (((h2.other (by omega) _).set _).alloc _)⟩, HFF.out, by (repeat (first | exact Below.refl _ _ | assumption | refine Below.drew ?_ | (refine Below.setCell ?_ ?_ _; rotate_left; (first | omega | (simp; done) | (simp; omega)); rotate_left) | (refine Below.alloc ?_ ?_ _; rotate_left; (first | omega | (simp; done) | (simp; omega)); rotate_left)))⟩
          rw [hX] at FIN
          clear hX
          gi_wp2
          gi_region_with_o (gi_at_call 39; refine (CallsIn.inRound l (callsIn_wide.2 (end_any f m who _ hq0 hq1))).mono ?_; rintro e w' ⟨rfl, rfl⟩)
          all_goals gi_wp2
          all_goals
            obtain ⟨q1, r, q2, q3, q4⟩ := FIN.out
            exact ⟨q1, r, q2, ⟨rfl, q3⟩, q4⟩
        · have t1 : decide (i < (f : Int) + m) = false := by simpa using g1
          have hno : hits i (f, m, who) = false := by simp only [hits, t0, t1, Bool.and_false]
          rw [hno] at HFF
          obtain ⟨X, hX⟩ : ∃ X, X = (W.alloc (.cells #[.int .i64 f, .int .i64 m, .int .i64 who] 88)).drew := ⟨_, rfl⟩
          have FIN : Hid (KeepsFrom W0.heap.size W X ∧ Below w.heap.size W X ∧ ((Boxed X w.heap.size 3 (.int .i64 i) ∧ (Boxed X (w.heap.size + 1) 3 (.int .i64 0) ∧ Boxed X (w.heap.size + 1 + 1) 4 (.bool false)) ∧ (came (pre ++ [x])).find? (hits i) = none) ∧ Below w.heap.size w X)) := by
            rw [hX]
            exact ⟨KeepsOthers.from (by (repeat (first | exact KeepsOthers.refl _ | refine KeepsOthers.trans ?_ (KeepsOthers.drew _) | refine KeepsOthers.trans ?_ (KeepsOthers.setCell _ _ _) | refine KeepsOthers.trans ?_ (KeepsOthers.alloc _ _)))) _, by (repeat (first | exact Below.refl _ _ | assumption | refine Below.drew ?_ | (refine Below.setCell ?_ ?_ _; rotate_left; (first | omega | (simp; done) | (simp; omega)); rotate_left) | (refine Below.alloc ?_ ?_ _; rotate_left; (first | omega | (simp; done) | (simp; omega)); rotate_left))), ⟨by (repeat (first | assumption | refine boxed_drew ?_ | refine Boxed.alloc ?_ _ | (refine Boxed.other ?_ ?_ _; rotate_left; (first | omega | (simp; done) | (simp; omega))) | exact Boxed.set _ (by (repeat (first | assumption | refine boxed_drew ?_ | refine Boxed.alloc ?_ _ | (refine Boxed.other ?_ ?_ _; rotate_left; (first | omega | (simp; done) | (simp; omega)))))))), ⟨by (repeat (first | assumption | refine boxed_drew ?_ | refine Boxed.alloc ?_ _ | (refine Boxed.other ?_ ?_ _; rotate_left; (first | omega | (simp; done) | (simp; omega))) | exact Boxed.set _ (by (repeat (first | assumption | refine boxed_drew ?_ | refine Boxed.alloc ?_ _ | (refine Boxed.other ?_ ?_ _; rotate_left; (first | omega | (simp; done) | (simp; omega)))))))), by (repeat (first | assumption | refine boxed_drew ?_ | refine Boxed.alloc ?_ _ | (refine Boxed.other ?_ ?_ _; rotate_left; (first | omega | (simp; done) | (simp; omega))) | exact Boxed.set _ (by (repeat (first | assumption | refine boxed_drew ?_ | refine Boxed.alloc ?_ _ | (refine Boxed.other ?_ ?_ _; rotate_left; (first | omega | (simp; done) | (simp; omega))))))))⟩, HFF.out⟩, by (repeat (first | exact Below.refl _ _ | assumption | refine Below.drew ?_ | (refine Below.setCell ?_ ?_ _; rotate_left; (first | omega | (simp; done) | (simp; omega)); rotate_left) | (refine Below.alloc ?_ ?_ _; rotate_left; (first | omega | (simp; done) | (simp; omega)); rotate_left)))⟩
          rw [hX] at FIN
          clear hX
          gi_wp2
          gi_region_with_o (gi_at_call 39; refine (CallsIn.inRound l (callsIn_wide.2 (end_any f m who _ hq0 hq1))).mono ?_; rintro e w' ⟨rfl, rfl⟩)
          all_goals gi_wp2
          all_goals exact FIN.out
      · have t0 : decide ((f : Int) ≤ i) = false := by simpa using g0
        have hno : hits i (f, m, who) = false := by simp only [hits, t0, Bool.false_and]
        rw [hno] at HFF
        gi_wp2
        gi_region_with_o (fail)
        all_goals gi_wp2
        all_goals exact ⟨KeepsOthers.from (by (repeat (first | exact KeepsOthers.refl _ | refine KeepsOthers.trans ?_ (KeepsOthers.drew _) | refine KeepsOthers.trans ?_ (KeepsOthers.setCell _ _ _) | refine KeepsOthers.trans ?_ (KeepsOthers.alloc _ _)))) _, by (repeat (first | exact Below.refl _ _ | assumption | refine Below.drew ?_ | (refine Below.setCell ?_ ?_ _; rotate_left; (first | omega | (simp; done) | (simp; omega)); rotate_left) | (refine Below.alloc ?_ ?_ _; rotate_left; (first | omega | (simp; done) | (simp; omega)); rotate_left))), ⟨hI, ⟨h1, h2⟩, HFF.out⟩, by (repeat (first | exact Below.refl _ _ | assumption | refine Below.drew ?_ | (refine Below.setCell ?_ ?_ _; rotate_left; (first | omega | (simp; done) | (simp; omega)); rotate_left) | (refine Below.alloc ?_ ?_ _; rotate_left; (first | omega | (simp; done) | (simp; omega)); rotate_left)))⟩
    case done =>
      rintro D ys W hD rfl ⟨⟨hI, ⟨h1, h2⟩, hf⟩, hB1⟩ hK
      rw [came_numbered H.out.ok, List.take_length] at hf
      have c1 := h1.cell; have c2 := h2.cell
      have f1 := h1.frozen; have f2 := h2.frozen
      have hv : whoV R i = ((0 : Int), false) := by simp only [whoV, hf]
      have hDl := (Array.getElem?_eq_some_iff.1 hK).1
      gi_wp2
      have hK2 : ((W.setCell ⟨w.heap.size + 1, 0, none⟩ (.int .i64 0)).setCell ⟨w.heap.size + 1 + 1, 0, none⟩ (.bool false)).heap[D]? = some (.deferred (some [])) := (KeepsOthers.trans (KeepsOthers.setCell _ _ _) (KeepsOthers.setCell _ _ _)).same D _ hK rfl
      have g1 : Boxed ((W.setCell ⟨w.heap.size + 1, 0, none⟩ (.int .i64 0)).setCell ⟨w.heap.size + 1 + 1, 0, none⟩ (.bool false)) (w.heap.size + 1) 3 (.int .i64 0) := (h1.set _).other (by omega) _
      have g2 : Boxed ((W.setCell ⟨w.heap.size + 1, 0, none⟩ (.int .i64 0)).setCell ⟨w.heap.size + 1 + 1, 0, none⟩ (.bool false)) (w.heap.size + 1 + 1) 4 (.bool false) := (h2.other (by omega) _).set _
      have g3 : Below w.heap.size w ((W.setCell ⟨w.heap.size + 1, 0, none⟩ (.int .i64 0)).setCell ⟨w.heap.size + 1 + 1, 0, none⟩ (.bool false)) := by (repeat (first | exact Below.refl _ _ | assumption | refine Below.drew ?_ | (refine Below.setCell ?_ ?_ _; rotate_left; (first | omega | (simp; done) | (simp; omega)); rotate_left) | (refine Below.alloc ?_ ?_ _; rotate_left; (first | omega | (simp; done) | (simp; omega)); rotate_left)))
      refine ⟨by simp, .inl ⟨_, _, rfl, run_takeDeferred hK2, ?_⟩⟩
      have hk5 := cell_kept g1.cell (grownBy_putObj' _ D (.deferred none)) (fun r e => by cases e; exact ⟨_, hK2, rfl⟩)
      have hb5 := cell_kept g2.cell (grownBy_putObj' _ D (.deferred none)) (fun r e => by cases e; exact ⟨_, hK2, rfl⟩)
      refine ⟨.tuple #[.int .i64 0, .bool false], ?_, by rw [hv], g3.trans (belowK_b (w := w) (Nat.le_refl _) _ D _ _ (by omega) hK2 rfl rfl)⟩
      simp [results, Try.f24, go_sem, hk5, hb5]
    case stop =>
      rintro D c pre W hD hpart ⟨r, ⟨h1, h2⟩, ⟨rfl, hf⟩, hB1⟩ hK
      obtain ⟨k, hk, rfl⟩ := hpart
      rw [came_numbered H.out.ok] at hf
      have hv : whoV R i = ((r.2.2 : Int), true) := by simp only [whoV, find_take hf]
      gi_wp2
      refine ⟨by simp, .inl ⟨_, _, rfl, run_takeDeferred hK, ?_⟩⟩
      have hk5 := cell_kept h1.cell (grownBy_putObj' _ D (.deferred none)) (fun r e => by cases e; exact ⟨_, hK, rfl⟩)
      have hb5 := cell_kept h2.cell (grownBy_putObj' _ D (.deferred none)) (fun r e => by cases e; exact ⟨_, hK, rfl⟩)
      refine ⟨.tuple #[.int .i64 r.2.2, .bool true], ?_, by rw [hv], hB1.trans (belowK_b (w := w) (Nat.le_refl _) W D _ _ (by omega) hK rfl rfl)⟩
      simp [results, Try.f24, go_sem, hk5, hb5]
  · have hv : whoV R i = (0, false) := who_out H.out.ok hi
    have HV := Lib.hid hv
    have HTC := Lib.hid (fun k => quiet_same (none_no B tt cap n a R _ ((H.out.below HB.out).below (below_drewN (Below.refl _ W) k))))
    by_cases h0 : i < 0
    · have e0 : decide (i < 0) = true := by simpa using h0
      clear hW hi hv
      go_enter Try.func24, Try.ntmps24
      go_wp2_with fail
      rw [← HW.out]
      go_quiet ((go_at_call 37; exact HTC.out _))
      (
      obtain ⟨W1, hW1⟩ : ∃ W1, W1 = W.drewN nq := ⟨_, rfl⟩
      have HB1 : Hid (Below w.heap.size w W1) := by rw [hW1]; exact below_drewN HB.out nq
      have hR1 : Boxed W1 (w.heap.size + 1) 3 (.int .i64 0) := by rw [hW1]; exact B1.out
      have hR2 : Boxed W1 (w.heap.size + 1 + 1) 4 (.bool false) := by rw [hW1]; exact B2.out
      rw [← hW1]
      clear hW1 c1 d1 cI
      have k1 := hR1.cell; have k2 := hR2.cell
      have q1 := hR1.frozen; have q2 := hR2.frozen
      go_wp2_with fail
      rw [HV.out]
      have g1 : Boxed ((W1.setCell ⟨w.heap.size + 1, 0, none⟩ (.int .i64 0)).setCell ⟨w.heap.size + 1 + 1, 0, none⟩ (.bool false)) (w.heap.size + 1) 3 (.int .i64 0) := (hR1.set _).other (by omega) _
      have g2 : Boxed ((W1.setCell ⟨w.heap.size + 1, 0, none⟩ (.int .i64 0)).setCell ⟨w.heap.size + 1 + 1, 0, none⟩ (.bool false)) (w.heap.size + 1 + 1) 4 (.bool false) := (hR2.other (by omega) _).set _
      have j1 := g1.cell; have j2 := g2.cell
      refine bodyPost_ret (v := .tuple #[.int .i64 0, .bool false]) (by simp [results, Try.f24, go_sem, j1, j2]) rfl ⟨rfl, ?_⟩
      exact (HB1.out.setCell (p := ⟨w.heap.size + 1, 0, none⟩) (by simp) _).setCell (p := ⟨w.heap.size + 1 + 1, 0, none⟩) (by simp; omega) _
)
    · have e0 : decide (i < 0) = false := by simpa using h0
      have e1 : decide ((n : Int) ≤ i) = true := by simp; omega
      clear hW hi hv
      go_enter Try.func24, Try.ntmps24
      go_wp2_with fail
      rw [← HW.out]
      go_quiet ((go_at_call 37; exact HTC.out _))
      (
      obtain ⟨W1, hW1⟩ : ∃ W1, W1 = W.drewN nq := ⟨_, rfl⟩
      have HB1 : Hid (Below w.heap.size w W1) := by rw [hW1]; exact below_drewN HB.out nq
      have hR1 : Boxed W1 (w.heap.size + 1) 3 (.int .i64 0) := by rw [hW1]; exact B1.out
      have hR2 : Boxed W1 (w.heap.size + 1 + 1) 4 (.bool false) := by rw [hW1]; exact B2.out
      rw [← hW1]
      clear hW1 c1 d1 cI
      have k1 := hR1.cell; have k2 := hR2.cell
      have q1 := hR1.frozen; have q2 := hR2.frozen
      go_wp2_with fail
      rw [HV.out]
      have g1 : Boxed ((W1.setCell ⟨w.heap.size + 1, 0, none⟩ (.int .i64 0)).setCell ⟨w.heap.size + 1 + 1, 0, none⟩ (.bool false)) (w.heap.size + 1) 3 (.int .i64 0) := (hR1.set _).other (by omega) _
      have g2 : Boxed ((W1.setCell ⟨w.heap.size + 1, 0, none⟩ (.int .i64 0)).setCell ⟨w.heap.size + 1 + 1, 0, none⟩ (.bool false)) (w.heap.size + 1 + 1) 4 (.bool false) := (hR2.other (by omega) _).set _
      have j1 := g1.cell; have j2 := g2.cell
      refine bodyPost_ret (v := .tuple #[.int .i64 0, .bool false]) (by simp [results, Try.f24, go_sem, j1, j2]) rfl ⟨rfl, ?_⟩
      exact (HB1.out.setCell (p := ⟨w.heap.size + 1, 0, none⟩) (by simp) _).setCell (p := ⟨w.heap.size + 1 + 1, 0, none⟩) (by simp; omega) _
)
end Go.Proofs.Ytlafijnmoaenaaa
