/- Package parts: Free. -/
import Derived.Test.YthmbflofcceifaaParts
namespace Go.Proofs.Ythmbflofcceifaa
set_option linter.unusedVariables false
set_option linter.unusedSimpArgs false
set_option linter.unnecessarySimpa false
open Go.RowKit Go.Shelf
set_option maxHeartbeats 400000
set_option maxRecDepth 100000
attribute [local go_sem] Oper.semAt_some wide_fn
attribute [local simp] wide_fn

theorem objAt_own {β : Type} (b : Nat) (t : TypeId) (cs : List Value) : Go.Own (fun (_ : β) W => ObjAt W b t cs) := fun s X Y row hs hg hrow =>
  (hg.block b (ObjAt.lt hs) (fun e => by
    obtain ⟨o, ho, hc⟩ := hrow b e.symm
    rw [show X.heap[b]? = _ from hs] at ho
    cases ho
    cases hc)).trans hs
theorem boxed_drew {W : World} {B : Nat} {t : TypeId} {v : Value} (h : Boxed W B t v) : Boxed W.drew B t v := h
theorem none_no (B tt cap n : Nat) (a : Option Addr) (R : List Rn) (w : World) (h : TSt w B tt a cap n R) : Calls Try.prog 23 #[.pointer (some ⟨tt, 0, none⟩)] w fun e w' => e = .returned (.bool false) ∧ w = w' := by
  have c2 := h.obj.cell 2 _ rfl
  clear h
  go_enter Try.func23, Try.ntmps23
  go_wp2
  go_ret
  exact ⟨rfl, rfl⟩
theorem end_any (f n who : Nat) (w : World) (hf : f ≤ 64) (hn : n ≤ 64) : Calls Try.prog 27 #[runV (f, n, who)] w fun e w' => e = .returned (.int .i64 ((f : Int) + n)) ∧ w.alloc (.cells #[.int .i64 f, .int .i64 n, .int .i64 who] 33) = w' := by
  unfold runV
  go_enter Try.func27, Try.ntmps27
  go_wp2
  go_ret
  exact ⟨rfl, rfl⟩
def freeV (n : Nat) (R : List Rn) : Int := n - (R.map (fun r => r.2.1)).sum
theorem freeV_snoc (n : Nat) (R : List Rn) (r : Rn) : freeV n (R ++ [r]) = freeV n R - r.2.1 := by simp [freeV]; omega
theorem sum_le : ∀ (R : List Rn) (lo n : Nat), lo ≤ n → (∀ r ∈ R, 1 ≤ r.2.1 ∧ lo ≤ r.1 ∧ r.1 + r.2.1 ≤ n) → R.Pairwise (fun r s => r.1 + r.2.1 ≤ s.1) → (R.map (fun r => r.2.1)).sum + lo ≤ n
  | [], lo, n, h, _, _ => by simpa using h
  | r :: R, lo, n, hl, h, hp => by
    rw [List.pairwise_cons] at hp
    have h0 := h r (by simp)
    have ih := sum_le R (r.1 + r.2.1) n h0.2.2 (fun s hs => ⟨(h s (by simp [hs])).1, hp.1 s hs, (h s (by simp [hs])).2.2⟩) hp.2
    simp only [List.map_cons, List.sum_cons]
    omega
theorem Okr.sum {n : Nat} {R : List Rn} (h : Okr n R) : (R.map (fun r => r.2.1)).sum ≤ n := by
  have := sum_le R 0 n (Nat.zero_le _) (fun r hr => ⟨(h.each r hr).1, Nat.zero_le _, (h.each r hr).2.1⟩) h.sorted
  omega
theorem Okr.take {n : Nat} {R : List Rn} (h : Okr n R) (k : Nat) : Okr n (R.take k) := ⟨h.n64, fun r hr => h.each r (List.mem_of_mem_take hr), h.sorted.sublist (List.take_sublist _ _)⟩
theorem freeV_bd {n : Nat} {R : List Rn} (h : Okr n R) : 0 ≤ freeV n R ∧ freeV n R ≤ 64 := by
  have := h.sum; have := h.n64
  unfold freeV
  omega
theorem freeV_any (n : Nat) : ∀ (R : List Rn), (∀ r ∈ R, r.2.1 ≤ 64) → -(64 * (R.length : Int)) ≤ freeV n R ∧ freeV n R ≤ n := by
  intro R h
  have : (R.map (fun r => r.2.1)).sum ≤ 64 * R.length := by
    induction R with
    | nil => simp
    | cons r R ih =>
      have h0 := h r (by simp)
      have := ih (fun s hs => h s (by simp [hs]))
      simp only [List.map_cons, List.sum_cons, List.length_cons]
      omega
  unfold freeV
  omega
set_option maxHeartbeats 4000000 in
theorem free_any (B tt cap n : Nat) (a : Option Addr) (R : List Rn) (w : World) (h : TSt w B tt a cap n R) : Calls Try.prog 9 #[.pointer (some ⟨tt, 0, none⟩)] w fun e w' => e = .returned (.int .i64 (freeV n R)) ∧ Below w.heap.size w w' := by
  have H := Lib.hid h
  have c1 := h.obj.cell 1 _ rfl
  have htt := h.obj.lt
  clear h
  refine (callsIn_wide (n := 9)).1 ?_
  refine callsIn_of_wp_marks Try.func9 rfl trivial ?_ rfl
  simp only [Try.ntmps9, List.size_toArray, List.length_cons, List.length_nil, Nat.reduceAdd, Nat.reduceSub, Array.replicate_succ, Array.replicate_zero, List.push_toArray, List.append_toArray, List.nil_append, List.cons_append]
  gi_wp2_with (first | (gi_at_call 23; refine (callsIn_wide.2 (none_no _ _ _ _ _ _ _ H.out)).mono ?_; rintro e w' ⟨rfl, rfl⟩) | (gi_at_call 26; refine (all_in Fence.wide _ trivial rfl _ _).mono ?_; rintro e w' ⟨rfl, rfl⟩))
  have bN := (Boxed.new w 3 (.int .i64 n)).alloc (.cells #[.pointer (some ⟨tt, 0, none⟩)] 23)
  have bT := Boxed.new (w.alloc (.cells #[.int .i64 n] 3)) 23 (.pointer (some ⟨tt, 0, none⟩))
  simp only [World.size_alloc] at bT
  have hB0 : Below w.heap.size w ((w.alloc (.cells #[.int .i64 n] 3)).alloc (.cells #[.pointer (some ⟨tt, 0, none⟩)] 23)) := ((Below.refl _ w).alloc (Nat.le_refl _) _).alloc (by simp) _
  have hsz : ((w.alloc (.cells #[.int .i64 n] 3)).alloc (.cells #[.pointer (some ⟨tt, 0, none⟩)] 23)).heap.size = w.heap.size + 2 := by simp
  obtain ⟨W0, hW0⟩ : ∃ W0, (w.alloc (.cells #[.int .i64 n] 3)).alloc (.cells #[.pointer (some ⟨tt, 0, none⟩)] 23) = W0 := ⟨_, rfl⟩
  rw [hW0] at bN bT hB0 hsz ⊢
  clear hW0
  refine wpIn_rangeFunc_ownH (F := Fence.wide) rfl (by omega) (gf := 31) (lb := #[.pointer (some ⟨w.heap.size + 1, 0, none⟩)]) rfl trivial (enters_of Try.func31 (by kernel_rfl) rfl)
    (all_stops Fence.wide _ trivial rfl (by omega) (w.heap.size + 1) w.heap.size tt cap n a R H.out.ok W0 (by omega) (by omega) bT.cell (H.out.rdt.below hB0)) belowK_t (belowK_b (by omega)) (Below.refl _ _) (fun _ => rfl)
    (fun pre W => Boxed W w.heap.size 3 (.int .i64 (freeV n (came pre))) ∧ Below w.heap.size w W)
    (fun _ _ _ => False)
    (OwnFrom.and (Go.Own.from (boxed_own _ _ _) _) (ownFrom_below (Nat.le_refl _) (by omega)))
    (fun _ _ _ _ _ hs _ _ => hs)
    ⟨by simpa [freeV, came] using bN, hB0⟩
    (fun x a' W => ∃ Bx, w.heap.size < Bx ∧ ObjAt W Bx 33 (rnC (clR x.2)) ∧ a' = { tmps := #[.pointer (some ⟨tt, 0, none⟩), undef, .int .i64 0, .pointer (some ⟨w.heap.size, 0, none⟩), undef, .pointer (some ⟨Bx, 0, none⟩), .pointer (some ⟨tt, 0, none⟩), .bool false, .pointer (some ⟨tt, 0, none⟩), .pointer (some ⟨tt, 0, none⟩), .pointer (some ⟨tt, 1, none⟩), .int .i64 n, .pointer (some ⟨tt, 0, none⟩), .func (.func 31) #[] #[.pointer (some ⟨w.heap.size + 1, 0, none⟩)], .int .i64 (cl x.1 : Nat), runV (clR x.2), undef, undef, undef, undef, undef], defers := [] })
    (fun x a' _ X Y row hs hg hr => by obtain ⟨Bx, h1, h2, h3⟩ := hs; exact ⟨Bx, h1, objAt_own Bx 33 (rnC (clR x.2)) () X Y row h2 hg (fun r e => (hr r e).2), h3⟩)
    ?assign ?body ?done ?stop
  case assign =>
    rintro l pre x W K ⟨bS1, hB1⟩ hK
    obtain ⟨i, f, m, who⟩ := x
    simp only [encR, runV, clR]
    gi_wp2
    exact hK _ _ ((KeepsOthers.alloc _ _).from _) ((Below.refl _ W).alloc hB1.size _) ⟨bS1.alloc _, hB1.alloc hB1.size _⟩ ⟨W.heap.size, bS1.lt, ObjAt.new W _ (rnC (clR (f, m, who))), rfl⟩
  case body =>
    rintro l pre x a' W hl hr ⟨bS1, hB1⟩ ⟨Bx, hBx, bX, rfl⟩ hlt
    have hf := freeV_any n (came pre) (fun r hr => by obtain ⟨y, _, rfl⟩ := List.mem_map.1 hr; exact cl_le _)
    have hl64 := H.out.ok.few
    have hn64 := H.out.ok.n64
    rw [show (came pre).length = pre.length from by simp [came]] at hf
    have hs := freeV_snoc n (came pre) (clR x.2)
    rw [← came_snoc] at hs
    have HS := Lib.hid hs
    clear hs
    have cS := bS1.cell
    have fS := bS1.frozen
    have cX := bX.cell 1 _ rfl
    have hm : (clR x.2).2.1 ≤ 64 := cl_le _
    generalize (clR x.2).2.1 = m at cX hm HS
    generalize freeV n (came pre) = v at bS1 cS hf HS
    gi_wp2
    exact ⟨(KeepsOthers.setCell _ _ _).from _, (Below.refl _ W).setCell (p := ⟨w.heap.size, 0, none⟩) (Nat.le_refl _) _, by rw [HS.out]; exact bS1.set _, hB1.setCell (p := ⟨w.heap.size, 0, none⟩) (Nat.le_refl _) _⟩
  case done =>
    rintro D ys W hD rfl ⟨bS1, hB1⟩ hK
    rw [came_numbered H.out.ok, List.take_length] at bS1
    have cS := bS1.cell
    gi_wp2
    refine ⟨by simp, .inl ⟨_, _, rfl, run_takeDeferred hK, ?_⟩⟩
    exact ⟨_, results_tmp rfl _ _ _, rfl, hB1.trans (belowK_b (w := w) (Nat.le_refl _) W D _ _ (by omega) hK rfl rfl)⟩
  case stop =>
    rintro D c pre W _ _ h _
    exact h.elim
end Go.Proofs.Ythmbflofcceifaa
