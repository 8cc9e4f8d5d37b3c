/- Package parts: meets. -/
import Derived.Test.YtoalpdjpljapbaaDoorCfP3
import Derived.Test.YtoalpdjpljapbaaDoorScope
namespace Go.Proofs.YtoalpdjpljapbaaDoor
set_option linter.unusedVariables false
set_option linter.unusedSimpArgs false
set_option linter.unnecessarySimpa false
open Go.RowKit Go.Shelf
set_option maxHeartbeats 400000
set_option maxRecDepth 100000
attribute [local go_sem] Oper.semAt_some wide_fn
attribute [local simp] wide_fn

def meetV (f m : Nat) : List Rn → Nat × Bool
  | [] => (0, false)
  | r :: R => if r.1 + r.2.1 ≤ f then ((meetV f m R).1 + 1, (meetV f m R).2) else (0, decide (r.1 < f + m))
def passed (f : Nat) (R : List Rn) : Bool := R.all (fun r => decide (r.1 + r.2.1 ≤ f))
theorem meet_pass (f m : Nat) : ∀ R, passed f R = true → meetV f m R = (R.length, false)
  | [], _ => rfl
  | r :: R, h => by
    simp only [passed, List.all_cons, Bool.and_eq_true, decide_eq_true_eq] at h
    have ih := meet_pass f m R h.2
    simp only [meetV, if_pos h.1, ih, List.length_cons]
theorem meet_stop (f m : Nat) (r : Rn) (S : List Rn) (h2 : ¬ r.1 + r.2.1 ≤ f) : ∀ R, passed f R = true → meetV f m (R ++ r :: S) = (R.length, decide (r.1 < f + m))
  | [], _ => by simp [meetV, h2]
  | q :: R, h => by
    simp only [passed, List.all_cons, Bool.and_eq_true, decide_eq_true_eq] at h
    have ih := meet_stop f m r S h2 R h.2
    simp only [List.cons_append, meetV, if_pos h.1, ih, List.length_cons]
theorem passed_snoc (f : Nat) (R : List Rn) (r : Rn) : passed f (R ++ [r]) = (passed f R && decide (r.1 + r.2.1 ≤ f)) := by simp [passed]
/-- Where a round has left the loop. -/
def Left (f m at_ : Nat) (hit : Bool) (pre : List (Nat × Rn)) : Prop := ∃ pre0 x, pre = pre0 ++ [x] ∧ passed f (came pre0) = true ∧ ¬ (clR x.2).1 + (clR x.2).2.1 ≤ f ∧ at_ = cl x.1 ∧ hit = decide ((clR x.2).1 < f + m)
theorem numbered_last {R : List Rn} {k : Nat} (hk : k ≤ R.length) {pre0 : List (Nat × Rn)} {x : Nat × Rn} (h : numbered R k = pre0 ++ [x]) : ∃ j, k = j + 1 ∧ ∃ hj : j < R.length, pre0 = numbered R j ∧ x = (j, R[j]) := by
  have hl := numbered_len R hk
  rw [h, List.length_append] at hl
  simp only [List.length_cons, List.length_nil] at hl
  obtain ⟨j, rfl⟩ : ∃ j, k = j + 1 := ⟨k - 1, by omega⟩
  have hs := numbered_succ R (k := j) (by omega)
  rw [h] at hs
  have := List.append_inj' hs (by simp)
  refine ⟨j, rfl, by omega, this.1, ?_⟩
  have h2 := this.2
  simpa using h2
theorem left_meet {n : Nat} {R : List Rn} (hok : Okr n R) {f m at_ k : Nat} {hit : Bool} (hk : k ≤ R.length) (h : Left f m at_ hit (numbered R k)) : meetV f m R = (at_, hit) := by
  obtain ⟨pre0, x, h1, h2, h3, h4, h5⟩ := h
  obtain ⟨j, rfl, hj, rfl, rfl⟩ := numbered_last hk h1
  have hfew := hok.few
  rw [came_numbered hok] at h2
  dsimp only at h3 h4 h5
  rw [hok.cl (List.getElem_mem hj)] at h3 h5
  rw [cl_eq (by omega)] at h4
  have := meet_stop f m R[j] (R.drop (j + 1)) h3 (R.take j) h2
  rw [← List.drop_eq_getElem_cons hj, List.take_append_drop, List.length_take, Nat.min_eq_left (by omega)] at this
  rw [this, h4, h5]
set_option maxHeartbeats 8000000 in
theorem meets_any (B tt cap n : Nat) (a : Option Addr) (R : List Rn) (f m : Nat) (hf : f ≤ 64) (hm : m ≤ 64) (w : World) (h : TSt w B tt a cap n R) : Calls Tryd.prog 85 #[.pointer (some ⟨tt, 0, none⟩), .int .i64 f, .int .i64 m] w fun e w' => e = .returned (.tuple #[.int .i64 (meetV f m R).1, .bool (meetV f m R).2]) ∧ Below w.heap.size w w' := by
  have H := Lib.hid h
  have htt := h.obj.lt
  have hfew := h.ok.few
  have c0 := h.obj.cell 0 _ rfl
  clear h
  refine (callsIn_wide (n := 9)).1 ?_
  refine callsIn_of_wp_marks Tryd.func85 rfl trivial ?_ rfl
  simp only [Tryd.ntmps85, List.size_toArray, List.length_cons, List.length_nil, Nat.reduceAdd, Nat.reduceSub, Array.replicate_succ, Array.replicate_zero, List.push_toArray, List.append_toArray, List.nil_append, List.cons_append]
  gi_wp2
  refine wpIn_scope ?_
  gi_wp2
  refine wpIn_label ?_
  gi_wp2_with (gi_at_call 98; refine (all_in Fence.wide _ trivial rfl _ _).mono ?_; rintro e w' ⟨rfl, rfl⟩)
  obtain ⟨b, hb⟩ : ∃ b, b = w.heap.size := ⟨_, rfl⟩
  obtain ⟨W0, hW0⟩ : ∃ W0, W0 = ((((w.alloc (.cells #[.int .i64 f] 3)).alloc (.cells #[.int .i64 m] 3)).alloc (.cells #[.int .i64 R.length] 3)).alloc (.cells #[.bool false] 4)).alloc (.cells #[.pointer (some ⟨tt, 0, none⟩)] 106) := ⟨_, rfl⟩
  have hBF : Boxed W0 b 3 (.int .i64 f) := by rw [hW0, hb]; exact ((((Boxed.new w _ _).alloc _).alloc _).alloc _).alloc _
  have hBM : Boxed W0 (b + 1) 3 (.int .i64 m) := by
    rw [hW0, hb]
    have := (((Boxed.new (w.alloc (.cells #[.int .i64 f] 3)) 3 (.int .i64 m)).alloc (.cells #[.int .i64 R.length] 3)).alloc (.cells #[.bool false] 4)).alloc (.cells #[.pointer (some ⟨tt, 0, none⟩)] 106)
    simpa only [World.size_alloc] using this
  have hBA : Boxed W0 (b + 1 + 1) 3 (.int .i64 R.length) := by
    rw [hW0, hb]
    have := ((Boxed.new ((w.alloc (.cells #[.int .i64 f] 3)).alloc (.cells #[.int .i64 m] 3)) 3 (.int .i64 R.length)).alloc (.cells #[.bool false] 4)).alloc (.cells #[.pointer (some ⟨tt, 0, none⟩)] 106)
    simpa only [World.size_alloc] using this
  have hBH : Boxed W0 (b + 1 + 1 + 1) 4 (.bool false) := by
    rw [hW0, hb]
    have := (Boxed.new (((w.alloc (.cells #[.int .i64 f] 3)).alloc (.cells #[.int .i64 m] 3)).alloc (.cells #[.int .i64 R.length] 3)) 4 (.bool false)).alloc (.cells #[.pointer (some ⟨tt, 0, none⟩)] 106)
    simpa only [World.size_alloc] using this
  have hBT : Boxed W0 (b + 1 + 1 + 1 + 1) 106 (.pointer (some ⟨tt, 0, none⟩)) := by
    rw [hW0, hb]
    have := Boxed.new ((((w.alloc (.cells #[.int .i64 f] 3)).alloc (.cells #[.int .i64 m] 3)).alloc (.cells #[.int .i64 R.length] 3)).alloc (.cells #[.bool false] 4)) 106 (.pointer (some ⟨tt, 0, none⟩))
    simpa only [World.size_alloc] using this
  have hsz : W0.heap.size = b + 5 := by rw [hW0, hb]; simp
  have hB0 : Below w.heap.size w W0 := by rw [hW0]; exact ((((((Below.refl _ w).alloc (Nat.le_refl _) _).alloc (by simp) _).alloc (by simp; omega) _).alloc (by simp; omega) _).alloc (by simp; omega) _)
  rw [← hW0, ← hb]
  rw [← hb] at htt hB0
  have HTR := Lib.hid (H.out.rdt)
  rw [← hb] at HTR
  have HWB : Hid (w.heap.size = b) := hb.symm
  clear hW0 c0 hb
  refine wpIn_rangeFunc_ownH (F := Fence.wide) rfl (by omega) (gf := 112) (lb := #[.pointer (some ⟨b + 1 + 1 + 1 + 1, 0, none⟩)]) rfl trivial (enters_of Tryd.func112 (by kernel_rfl) rfl)
    (all_stops Fence.wide _ trivial rfl (by omega) (b + 1 + 1 + 1 + 1) b tt cap n a R H.out.ok W0 (by omega) (by omega) hBT.cell (HTR.out.below hB0)) belowK_t (belowK_b (by omega)) (Below.refl _ _) (fun _ => rfl)
    (fun pre W => ((Boxed W b 3 (.int .i64 f) ∧ Boxed W (b + 1) 3 (.int .i64 m)) ∧ (Boxed W (b + 1 + 1) 3 (.int .i64 R.length) ∧ Boxed W (b + 1 + 1 + 1) 4 (.bool false)) ∧ passed f (came pre) = true) ∧ Below b w W)
    (fun c pre W => ∃ (at_ : Nat) (hit : Bool), (Boxed W (b + 1 + 1) 3 (.int .i64 at_) ∧ Boxed W (b + 1 + 1 + 1) 4 (.bool hit)) ∧ ((c = .exit 0 ∧ Left f m at_ hit pre) ∧ Below b w W))
    (OwnFrom.and (OwnFrom.and (OwnFrom.and (Go.Own.from (boxed_own _ _ _) _) (Go.Own.from (boxed_own _ _ _) _)) (OwnFrom.and (OwnFrom.and (Go.Own.from (boxed_own _ _ _) _) (Go.Own.from (boxed_own _ _ _) _)) (ownFrom_pure _ _))) (ownFrom_below (by rw [HWB.out]; exact Nat.le_refl _) (by omega)))
    (fun c s X Y row hs hg hr => by
      obtain ⟨at_, hit, ⟨h1, h2⟩, h3, h4⟩ := hs
      exact ⟨at_, hit, ⟨(Go.Own.from (boxed_own _ _ (fun (_ : Unit) => Value.int .i64 at_)) _) () X Y row h1 hg hr, (Go.Own.from (boxed_own _ _ (fun (_ : Unit) => Value.bool hit)) _) () X Y row h2 hg hr⟩, h3, (ownFrom_below (β := Unit) (by rw [HWB.out]; exact Nat.le_refl _) (by omega)) () X Y row h4 hg hr⟩)
    ⟨⟨⟨hBF, hBM⟩, ⟨hBA, hBH⟩, rfl⟩, hB0⟩
    (fun x a' W => ∃ Bx, b + 1 + 1 + 1 < Bx ∧ ObjAt W Bx 132 (rnC (clR x.2)) ∧ a' = { tmps := #[.pointer (some ⟨tt, 0, none⟩), .int .i64 f, .int .i64 m, undef, .pointer (some ⟨b, 0, none⟩), .pointer (some ⟨b + 1, 0, none⟩), .int .i64 0, .bool false, .pointer (some ⟨b + 1 + 1, 0, none⟩), .pointer (some ⟨b + 1 + 1 + 1, 0, none⟩), .int .i64 (cl x.1 : Nat), .pointer (some ⟨Bx, 0, none⟩), .pointer (some ⟨tt, 0, none⟩), .pointer (some ⟨tt, 0, none⟩), .pointer (some ⟨tt, 0, none⟩), .slice a R.length cap, .int .i64 R.length, .pointer (some ⟨tt, 0, none⟩), .func (.func 112) #[] #[.pointer (some ⟨b + 1 + 1 + 1 + 1, 0, none⟩)], .int .i64 (cl x.1 : Nat), runV (clR x.2), undef, undef, undef, undef, undef, undef, undef, undef, undef, undef, undef, undef, undef, undef, undef], defers := [] })
    (fun x a' _ X Y row hs hg hr => by obtain ⟨Bx, h1, h2, h3⟩ := hs; exact ⟨Bx, h1, objAt_own Bx 132 (rnC (clR x.2)) () X Y row h2 hg (fun r e => (hr r e).2), h3⟩)
    ?assign ?body ?done ?stop
  case assign =>
    rintro l pre x W K ⟨⟨⟨h1, h2⟩, ⟨h3, h4⟩, h5⟩, hB1⟩ hK
    have hbz : b ≤ W.heap.size := Nat.le_of_lt h1.lt
    obtain ⟨ix, fr, mr, who⟩ := x
    simp only [encR, runV, clR]
    gi_wp2
    exact hK _ _ ((KeepsOthers.alloc _ _).from _) ((Below.refl _ W).alloc hbz _) ⟨⟨⟨h1.alloc _, h2.alloc _⟩, ⟨h3.alloc _, h4.alloc _⟩, h5⟩, hB1.alloc hbz _⟩ ⟨W.heap.size, h4.lt, ObjAt.new W _ (rnC (clR (fr, mr, who))), rfl⟩
  case body =>
    rintro l pre x a' W hl hr ⟨⟨⟨h1, h2⟩, ⟨h3, h4⟩, h5⟩, hB1⟩ ⟨Bx, hBx, bX, rfl⟩ hlt
    have hps := passed_snoc f (came pre) (clR x.2)
    rw [← came_snoc, h5, Bool.true_and] at hps
    have HLF : Hid (¬ (clR x.2).1 + (clR x.2).2.1 ≤ f → ∀ hit, hit = decide ((clR x.2).1 < f + m) → Left f m (cl x.1) hit (pre ++ [x])) := fun hn hit he => ⟨pre, x, rfl, h5, hn, rfl, he⟩
    have hq0 : (clR x.2).1 ≤ 64 := cl_le _
    have hq1 : (clR x.2).2.1 ≤ 64 := cl_le _
    have hqi : cl x.1 ≤ 64 := cl_le _
    generalize clR x.2 = y at bX hps hq0 hq1 HLF
    generalize cl x.1 = ix at hqi HLF
    obtain ⟨fr, mr, who⟩ := y
    have HPS := Lib.hid hps
    have x0 := bX.cell 0 _ rfl; have x1 := bX.cell 1 _ rfl; have x2 := bX.cell 2 _ rfl
    have k1 := h1.cell; have k2 := h2.cell; have k3 := h3.cell; have k4 := h4.cell
    have f3 := h3.frozen; have f4 := h4.frozen
    have hlB := bX.lt
    have hl1 : b < W.heap.size := h1.lt
    have hl2 : b + 1 < W.heap.size := h2.lt
    have hl3 : b + 1 + 1 < W.heap.size := h3.lt
    have hl4 : b + 1 + 1 + 1 < W.heap.size := h4.lt
    have hmx : Tryd.prog.follows .mixedOrders = true := by kernel_rfl
    dsimp only at hps hq0 hq1 HLF HPS
    clear hps
    by_cases g0 : fr + mr ≤ f
    · have t0 : decide ((fr : Int) + mr ≤ f) = true := by simp; omega
      obtain ⟨X, hX⟩ : ∃ X, X = (W.alloc (.cells #[.int .i64 fr, .int .i64 mr, .int .i64 who] 132)).drew := ⟨_, rfl⟩
      have FIN : Hid (KeepsFrom W0.heap.size W X ∧ Below b W X ∧ (((Boxed X b 3 (.int .i64 f) ∧ Boxed X (b + 1) 3 (.int .i64 m)) ∧ (Boxed X (b + 1 + 1) 3 (.int .i64 R.length) ∧ Boxed X (b + 1 + 1 + 1) 4 (.bool false)) ∧ passed f (came (pre ++ [x])) = true) ∧ Below b w X)) := by
        rw [hX]
        exact ⟨KeepsOthers.from (by (repeat (first | exact KeepsOthers.refl _ | refine KeepsOthers.trans ?_ (KeepsOthers.drew _) | refine KeepsOthers.trans ?_ (KeepsOthers.setCell _ _ _) | refine KeepsOthers.trans ?_ (KeepsOthers.alloc _ _)))) _, by (repeat (first | exact Below.refl _ _ | assumption | refine Below.drew ?_ | (refine Below.setCell ?_ ?_ _; rotate_left; (first | omega | (simp; done) | (simp; omega)); rotate_left) | (refine Below.alloc ?_ ?_ _; rotate_left; (first | omega | (simp; done) | (simp; omega)); rotate_left))), ⟨⟨by (repeat (first | assumption | refine boxed_drew ?_ | refine Boxed.alloc ?_ _ | (refine Boxed.other ?_ ?_ _; rotate_left; (first | omega | (simp; done) | (simp; omega))) | exact Boxed.set _ (by (repeat (first | assumption | refine boxed_drew ?_ | refine Boxed.alloc ?_ _ | (refine Boxed.other ?_ ?_ _; rotate_left; (first | omega | (simp; done) | (simp; omega)))))))), by (repeat (first | assumption | refine boxed_drew ?_ | refine Boxed.alloc ?_ _ | (refine Boxed.other ?_ ?_ _; rotate_left; (first | omega | (simp; done) | (simp; omega))) | exact Boxed.set _ (by (repeat (first | assumption | refine boxed_drew ?_ | refine Boxed.alloc ?_ _ | (refine Boxed.other ?_ ?_ _; rotate_left; (first | omega | (simp; done) | (simp; omega))))))))⟩, ⟨by (repeat (first | assumption | refine boxed_drew ?_ | refine Boxed.alloc ?_ _ | (refine Boxed.other ?_ ?_ _; rotate_left; (first | omega | (simp; done) | (simp; omega))) | exact Boxed.set _ (by (repeat (first | assumption | refine boxed_drew ?_ | refine Boxed.alloc ?_ _ | (refine Boxed.other ?_ ?_ _; rotate_left; (first | omega | (simp; done) | (simp; omega)))))))), by (repeat (first | assumption | refine boxed_drew ?_ | refine Boxed.alloc ?_ _ | (refine Boxed.other ?_ ?_ _; rotate_left; (first | omega | (simp; done) | (simp; omega))) | exact Boxed.set _ (by (repeat (first | assumption | refine boxed_drew ?_ | refine Boxed.alloc ?_ _ | (refine Boxed.other ?_ ?_ _; rotate_left; (first | omega | (simp; done) | (simp; omega))))))))⟩, by rw [HPS.out]; simpa using g0⟩, by (repeat (first | exact Below.refl _ _ | assumption | refine Below.drew ?_ | (refine Below.setCell ?_ ?_ _; rotate_left; (first | omega | (simp; done) | (simp; omega)); rotate_left) | (refine Below.alloc ?_ ?_ _; rotate_left; (first | omega | (simp; done) | (simp; omega)); rotate_left)))⟩
      rw [hX] at FIN
      clear hX HLF HPS g0
      gi_wp2
      gi_region_with_o (gi_at_call 99; refine (CallsIn.inRound l (callsIn_wide.2 (end_any fr mr who _ hq0 hq1))).mono ?_; rintro e w' ⟨rfl, rfl⟩)
      all_goals gi_wp2
      all_goals exact FIN.out
    · have t0 : decide ((fr : Int) + mr ≤ f) = false := by simp; omega
      by_cases g1 : fr < f + m
      · have t1 : decide ((fr : Int) < (f : Int) + m) = true := by simp; omega
        have HL2 := Lib.hid (HLF.out g0 true (by simpa using g1))
        obtain ⟨X, hX⟩ : ∃ X, X = (((W.setCell ⟨b + 1 + 1 + 1, 0, none⟩ (.bool true)).setCell ⟨b + 1 + 1, 0, none⟩ (.int .i64 ix)).alloc (.cells #[.int .i64 fr, .int .i64 mr, .int .i64 who] 132)).drew := ⟨_, rfl⟩
        have FIN : Hid (KeepsFrom W0.heap.size W X ∧ (Boxed X (b + 1 + 1) 3 (.int .i64 ix) ∧ Boxed X (b + 1 + 1 + 1) 4 (.bool true)) ∧ Below b w X) := by
          rw [hX]
          exact ⟨KeepsOthers.from (by (repeat (first | exact KeepsOthers.refl _ | refine KeepsOthers.trans ?_ (KeepsOthers.drew _) | refine KeepsOthers.trans ?_ (KeepsOthers.setCell _ _ _) | refine KeepsOthers.trans ?_ (KeepsOthers.alloc _ _)))) _, ⟨boxed_drew (((h3.other (by omega) _).set _).alloc _), boxed_drew (((h4.set _).other (by omega) _).alloc _)⟩, by (repeat (first | exact Below.refl _ _ | assumption | refine Below.drew ?_ | (refine Below.setCell ?_ ?_ _; rotate_left; (first | omega | (simp; done) | (simp; omega)); rotate_left) | (refine Below.alloc ?_ ?_ _; rotate_left; (first | omega | (simp; done) | (simp; omega)); rotate_left)))⟩
        rw [hX] at FIN
        clear hX HLF HPS g0 g1
        gi_wp2
        gi_region_with_o (gi_at_call 99; refine (CallsIn.inRound l (callsIn_wide.2 (end_any fr mr who _ hq0 hq1))).mono ?_; rintro e w' ⟨rfl, rfl⟩)
        all_goals gi_wp2
        all_goals exact ⟨FIN.out.1, _, _, FIN.out.2.1, ⟨rfl, HL2.out⟩, FIN.out.2.2⟩
      · have t1 : decide ((fr : Int) < (f : Int) + m) = false := by simp; omega
        have HL2 := Lib.hid (HLF.out g0 false (by simpa using g1))
        obtain ⟨X, hX⟩ : ∃ X, X = ((W.setCell ⟨b + 1 + 1, 0, none⟩ (.int .i64 ix)).alloc (.cells #[.int .i64 fr, .int .i64 mr, .int .i64 who] 132)).drew := ⟨_, rfl⟩
        have FIN : Hid (KeepsFrom W0.heap.size W X ∧ (Boxed X (b + 1 + 1) 3 (.int .i64 ix) ∧ Boxed X (b + 1 + 1 + 1) 4 (.bool false)) ∧ Below b w X) := by
          rw [hX]
          exact ⟨KeepsOthers.from (by (repeat (first | exact KeepsOthers.refl _ | refine KeepsOthers.trans ?_ (KeepsOthers.drew _) | refine KeepsOthers.trans ?_ (KeepsOthers.setCell _ _ _) | refine KeepsOthers.trans ?_ (KeepsOthers.alloc _ _)))) _, ⟨boxed_drew ((h3.set _).alloc _), boxed_drew ((h4.other (by omega) _).alloc _)⟩, by (repeat (first | exact Below.refl _ _ | assumption | refine Below.drew ?_ | (refine Below.setCell ?_ ?_ _; rotate_left; (first | omega | (simp; done) | (simp; omega)); rotate_left) | (refine Below.alloc ?_ ?_ _; rotate_left; (first | omega | (simp; done) | (simp; omega)); rotate_left)))⟩
        rw [hX] at FIN
        clear hX HLF HPS g0 g1
        gi_wp2
        gi_region_with_o (gi_at_call 99; refine (CallsIn.inRound l (callsIn_wide.2 (end_any fr mr who _ hq0 hq1))).mono ?_; rintro e w' ⟨rfl, rfl⟩)
        all_goals gi_wp2
        all_goals exact ⟨FIN.out.1, _, _, FIN.out.2.1, ⟨rfl, HL2.out⟩, FIN.out.2.2⟩
  case done =>
    rintro D ys W hD rfl ⟨⟨⟨h1, h2⟩, ⟨h3, h4⟩, h5⟩, hB1⟩ hK
    rw [came_numbered H.out.ok, List.take_length] at h5
    have HV := Lib.hid (meet_pass f m R h5)
    have k3 := h3.cell; have k4 := h4.cell
    have HK := Lib.hid hK
    clear h5
    gi_wp2
    gi_quiet (fail)
    gi_wp2
    have hK2 : (W.drewN nq).heap[D]? = some (.deferred (some [])) := hK
    refine ⟨by simp, .inl ⟨_, _, rfl, run_takeDeferred hK2, ?_⟩⟩
    refine ⟨.tuple #[.int .i64 R.length, .bool false], by simp [results, Tryd.f85, go_sem], by rw [HV.out], ?_⟩
    rw [HWB.out]
    exact (below_drewN hB1 nq).trans (belowK_b (w := w) (by rw [HWB.out]; exact Nat.le_refl _) _ D _ _ (by rw [HWB.out]; omega) hK2 rfl rfl)
  case stop =>
    rintro D c pre W hD ⟨k, hk, rfl⟩ ⟨at_, hit, ⟨h3, h4⟩, ⟨rfl, hf⟩, hB1⟩ hK
    have HV := Lib.hid (left_meet H.out.ok hk hf)
    have k3 := h3.cell; have k4 := h4.cell
    clear hf
    gi_wp2
    gi_quiet (fail)
    gi_wp2
    have hK2 : (W.drewN nq).heap[D]? = some (.deferred (some [])) := hK
    refine ⟨by simp, .inl ⟨_, _, rfl, run_takeDeferred hK2, ?_⟩⟩
    refine ⟨.tuple #[.int .i64 at_, .bool hit], by simp [results, Tryd.f85, go_sem], by rw [HV.out], ?_⟩
    rw [HWB.out]
    exact (below_drewN hB1 nq).trans (belowK_b (w := w) (by rw [HWB.out]; exact Nat.le_refl _) _ D _ _ (by rw [HWB.out]; omega) hK2 rfl rfl)
end Go.Proofs.YtoalpdjpljapbaaDoor
