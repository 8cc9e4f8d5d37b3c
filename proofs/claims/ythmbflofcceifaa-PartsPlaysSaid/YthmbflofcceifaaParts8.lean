/- Package parts: Runs. -/
import Derived.Test.YthmbflofcceifaaPartsV
namespace Go.Proofs.Ythmbflofcceifaa
set_option linter.unusedVariables false
set_option linter.unusedSimpArgs false
set_option linter.unnecessarySimpa false
open Go.RowKit Go.Shelf
set_option maxHeartbeats 400000
set_option maxRecDepth 100000
attribute [local go_sem] Oper.semAt_some wide_fn
attribute [local simp] wide_fn

theorem mod_keeps {S : List Nat} {W W' : World} (h : Mod S W W') (hS : ∀ k ∈ S, ∃ o : Obj, W.heap[k]? = some o ∧ o.isCells = true) : KeepsOthers W W' :=
  ⟨h.size, fun k o hk ho => (h.block k (Array.getElem?_eq_some_iff.1 hk).1 (fun hm => by
    obtain ⟨o', h1, h2⟩ := hS k hm
    rw [hk] at h1
    cases h1
    rw [ho] at h2
    cases h2)).trans hk⟩
theorem Own.isCells {w : World} {B size n cap : Nat} {e : TypeId} {a : Option Addr} {xs : List Value} (h : Own w B e size a n cap xs) : ∀ k ∈ blk a, ∃ o : Obj, w.heap[k]? = some o ∧ o.isCells = true := fun k hk => by
  obtain ⟨p, rfl, rfl⟩ := mem_blk.1 hk
  rcases h.2 with ⟨hv, _⟩ | ⟨g, c, cur, hv, hb, hg, _⟩
  · cases hv
  · injection hv with h1
    injection h1 with h1
    subst h1
    exact ⟨_, hg, rfl⟩
theorem ObjAt.allocd {w : World} {b : Nat} {t : TypeId} {cs : List Value} (h : ObjAt w b t cs) (o : Obj) : ObjAt (w.alloc o) b t cs := h.below ((Below.refl _ _).alloc (Nat.le_refl _) o)
theorem ObjAt.isCells {w : World} {b : Nat} {t : TypeId} {cs : List Value} (h : ObjAt w b t cs) : ∃ o : Obj, w.heap[b]? = some o ∧ o.isCells = true := ⟨_, h, rfl⟩
theorem mod_row {w w' : World} {row : Option Nat} (hg : w.grownBy w' row) : Mod row.toList w w' := Mod.ofGrown hg (fun k e => by simp [e])
theorem off_row {w : World} {row : Option Nat} (hr : ∀ r, row = some r → ∃ o : Obj, w.heap[r]? = some o ∧ o.isCells = false) {k : Nat} (hk : ∃ o : Obj, w.heap[k]? = some o ∧ o.isCells = true) : k ∉ row.toList := fun hm => by
  have e : row = some k := by simpa using hm
  obtain ⟨o, h1, h2⟩ := hk
  obtain ⟨o', h3, h4⟩ := hr k e
  rw [h1] at h3
  cases h3
  rw [h2] at h4
  cases h4
theorem RB.grow {w w' : World} {B ba bo at_ c : Nat} {a : Option Addr} {L : List Rz} {row : Option Nat} (h : RB w B ba bo at_ a c L) (hg : w.grownBy w' row) (hr : ∀ r, row = some r → ∃ o : Obj, w.heap[r]? = some o ∧ o.isCells = false) : RB w' B ba bo at_ a c L :=
  ⟨h.far.mod (mod_row hg) (off_row hr h.far.isCells), h.out.mod (mod_row hg) (off_row hr h.out.isCells), h.own.mod (mod_row hg) (fun k hk => off_row hr (h.own.isCells k hk))⟩
theorem RB.cells {w : World} {B ba bo at_ c : Nat} {a : Option Addr} {L : List Rz} (h : RB w B ba bo at_ a c L) : ∀ k ∈ bo :: blk a, ∃ o : Obj, w.heap[k]? = some o ∧ o.isCells = true := fun k hk => by
  rcases List.mem_cons.1 hk with rfl | hk
  · exact h.out.isCells
  · exact h.own.isCells k hk
theorem RB.setFar {w : World} {B ba bo at_ c : Nat} {a : Option Addr} {L : List Rz} (h : RB w B ba bo at_ a c L) (v : Nat) : RB (w.setCell ⟨ba, 0, none⟩ (.int .i64 v)) B ba bo v a c L :=
  ⟨h.far.set 0 _, h.out.upd (Upd.setCell w ⟨ba, 0, none⟩ _) (Ne.symm h.ne.1), h.own.upd (Upd.setCell w ⟨ba, 0, none⟩ _) h.ne.2.1⟩
/-- A way out by the end alone. -/
def nrm (Q : Exit → Act → World → Prop) : Exit → Act → World → Prop
  | .normal, a, w => Q .normal a w
  | _, _, _ => False
theorem nrm_le (Q : Exit → Act → World → Prop) (e : Exit) (a : Act) (w : World) (h : nrm Q e a w) : Q e a w := by
  cases e <;> first | exact h | exact h.elim
theorem nrm_in {Q : Exit → Act → World → Prop} {a : Act} {w : World} (h : Q .normal a w) : nrm Q .normal a w := h
/-- The variables of Runs, in a round. -/
def RI (b tt : Nat) (pre : List (Nat × Rn)) (W : World) : Prop :=
  (∃ a c, RB W b (b + 1) b (runsP (came pre)).2 a c (runsP (came pre)).1) ∧ Boxed W (b + 1 + 1) 51 (.func (.func 24) #[] #[.pointer (some ⟨b + 1, 0, none⟩), .pointer (some ⟨b, 0, none⟩)])
theorem RI.ownFrom (b tt B : Nat) : OwnFrom B (RI b tt) := fun s X Y row hs hg hr => by
  obtain ⟨⟨a, c, h1⟩, h2⟩ := hs
  exact ⟨⟨a, c, h1.grow hg (fun r e => (hr r e).2)⟩, (Go.Own.from (boxed_own _ _ (fun (_ : Unit) => _)) B) () X Y row h2 hg hr⟩
/-- What a round of Runs is given. -/
def RX (b : Nat) (y : Rn) (Bx : Nat) (W : World) : Prop :=
  b + 1 + 1 < Bx ∧ ObjAt W Bx 33 (rnC y) ∧ ∃ a n c, ObjAt W b 27 [.slice a n c] ∧ Bx ∉ blk a
theorem RX.ownFrom (b : Nat) (y : Rn) (Bx B : Nat) : OwnFrom B (fun (_ : Unit) W => RX b y Bx W) := fun s X Y row hs hg hr => by
  obtain ⟨h0, h1, a, n, c, h2, h3⟩ := hs
  have hr' := fun r e => (hr r e).2
  exact ⟨h0, h1.mod (mod_row hg) (off_row hr' h1.isCells), a, n, c, h2.mod (mod_row hg) (off_row hr' h2.isCells), h3⟩
def RunsPost (B : Nat) (L : List Rz) (w : World) (e : Ending) (w' : World) : Prop :=
  ∃ a c, e = .returned (.slice a L.length c) ∧ Own w' B 33 3 a L.length c (rzF L) ∧ Below w.heap.size w w'
set_option maxHeartbeats 8000000 in
theorem runs_any (B tt cap n : Nat) (a : Option Addr) (R : List Rn) (w : World) (h : TSt w B tt a cap n R) : Calls Try.prog 8 #[.pointer (some ⟨tt, 0, none⟩)] w (RunsPost w.heap.size (runsV n R) w) := by
  have H := Lib.hid h
  have htt := h.obj.lt
  have hfew := h.ok.few
  have hn64 := h.ok.n64
  clear h
  refine (callsIn_wide (n := 9)).1 ?_
  refine callsIn_of_wp_marks Try.func8 rfl trivial ?_ rfl
  simp only [Try.ntmps8, List.size_toArray, List.length_cons, List.length_nil, Nat.reduceAdd, Nat.reduceSub, Array.replicate_succ, Array.replicate_zero, List.push_toArray, List.append_toArray, List.nil_append, List.cons_append]
  gi_wp2_with (first | (gi_at_call 23; refine (callsIn_wide.2 (none_no _ _ _ _ _ _ _ H.out)).mono ?_; rintro e w' ⟨rfl, rfl⟩) | (gi_at_call 26; refine (all_in Fence.wide _ trivial rfl _ _).mono ?_; rintro e w' ⟨rfl, rfl⟩))
  have hfz := (Boxed.new ((w.alloc (.cells #[.slice none 0 0] 27)).alloc (.cells #[.int .i64 0] 3)) 51 .nilFunc).frozen
  simp only [World.size_alloc] at hfz
  rw [run_store _ _ _ _ _ rfl]
  simp only [hfz]
  gi_wp2_with (first | (gi_at_call 23; refine (callsIn_wide.2 (none_no _ _ _ _ _ _ _ H.out)).mono ?_; rintro e w' ⟨rfl, rfl⟩) | (gi_at_call 26; refine (all_in Fence.wide _ trivial rfl _ _).mono ?_; rintro e w' ⟨rfl, rfl⟩))
  clear hfz
  obtain ⟨b, hb⟩ : ∃ b, b = w.heap.size := ⟨_, rfl⟩
  obtain ⟨W0, hW0⟩ : ∃ W0, W0 = (((w.alloc (.cells #[.slice none 0 0] 27)).alloc (.cells #[.int .i64 0] 3)).alloc (.cells #[.func (.func 24) #[] #[.pointer (some ⟨w.heap.size + 1, 0, none⟩), .pointer (some ⟨w.heap.size, 0, none⟩)]] 51)).alloc (.cells #[.pointer (some ⟨tt, 0, none⟩)] 23) := ⟨_, rfl⟩
  have hRB0 : RB W0 b (b + 1) b 0 none 0 [] := by
    rw [hW0, hb]
    refine ⟨?_, ?_, Own.nil _ _ _ _⟩
    · rw [show ((0 : Nat) : Int) = 0 from rfl]
      have := ((ObjAt.new (w.alloc (.cells #[.slice none 0 0] 27)) 3 [.int .i64 0]).allocd (.cells #[.func (.func 24) #[] #[.pointer (some ⟨w.heap.size + 1, 0, none⟩), .pointer (some ⟨w.heap.size, 0, none⟩)]] 51)).allocd (.cells #[.pointer (some ⟨tt, 0, none⟩)] 23)
      simpa only [World.size_alloc] using this
    · exact (((ObjAt.new w 27 [.slice none 0 0]).allocd _).allocd _).allocd _
  have hBG : Boxed W0 (b + 1 + 1) 51 (.func (.func 24) #[] #[.pointer (some ⟨b + 1, 0, none⟩), .pointer (some ⟨b, 0, none⟩)]) := by
    rw [hW0, hb]
    have := (Boxed.new ((w.alloc (.cells #[.slice none 0 0] 27)).alloc (.cells #[.int .i64 0] 3)) 51 (.func (.func 24) #[] #[.pointer (some ⟨w.heap.size + 1, 0, none⟩), .pointer (some ⟨w.heap.size, 0, none⟩)])).alloc (.cells #[.pointer (some ⟨tt, 0, none⟩)] 23)
    simpa only [World.size_alloc] using this
  have hBT : Boxed W0 (b + 1 + 1 + 1) 23 (.pointer (some ⟨tt, 0, none⟩)) := by
    rw [hW0, hb]
    have := Boxed.new (((w.alloc (.cells #[.slice none 0 0] 27)).alloc (.cells #[.int .i64 0] 3)).alloc (.cells #[.func (.func 24) #[] #[.pointer (some ⟨w.heap.size + 1, 0, none⟩), .pointer (some ⟨w.heap.size, 0, none⟩)]] 51)) 23 (.pointer (some ⟨tt, 0, none⟩))
    simpa only [World.size_alloc] using this
  have hsz : W0.heap.size = b + 4 := by rw [hW0, hb]; simp
  have hB0 : Below w.heap.size w W0 := by rw [hW0]; exact (((((Below.refl _ w).alloc (Nat.le_refl _) _).alloc (by simp) _).alloc (by simp; omega) _).alloc (by simp; omega) _)
  rw [← hW0, ← hb]
  rw [← hb] at htt hB0
  have HTR := Lib.hid (H.out.rdt)
  rw [← hb] at HTR
  have HWB : Hid (w.heap.size = b) := hb.symm
  clear hW0 hb
  refine wpIn_rangeFunc_ownH (F := Fence.wide) rfl (by omega) (gf := 31) (lb := #[.pointer (some ⟨b + 1 + 1 + 1, 0, none⟩)]) rfl trivial (enters_of Try.func31 (by kernel_rfl) rfl)
    (all_stops Fence.wide _ trivial rfl (by omega) (b + 1 + 1 + 1) b tt cap n a R H.out.ok W0 (by omega) (by omega) hBT.cell (HTR.out.below hB0)) belowK_t (belowK_b (by omega)) (Below.refl _ _) (fun _ => rfl)
    (fun pre W => RI b tt pre W ∧ Below b w W)
    (fun _ _ _ => False)
    (OwnFrom.and (RI.ownFrom b tt _) (ownFrom_below (by rw [HWB.out]; exact Nat.le_refl _) (by omega)))
    (fun _ _ _ _ _ hs _ _ => hs)
    ⟨⟨⟨none, 0, hRB0⟩, hBG⟩, hB0⟩
    (fun x a' W => ∃ Bx, RX b (clR x.2) Bx W ∧ a' = { tmps := #[.pointer (some ⟨tt, 0, none⟩), undef, .slice none 0 0, .pointer (some ⟨b, 0, none⟩), .pointer (some ⟨b + 1, 0, none⟩), .pointer (some ⟨b + 1 + 1, 0, none⟩), undef, .pointer (some ⟨Bx, 0, none⟩), .pointer (some ⟨tt, 0, none⟩), .bool false, .func (.func 24) #[] #[.pointer (some ⟨b + 1, 0, none⟩), .pointer (some ⟨b, 0, none⟩)], .pointer (some ⟨tt, 0, none⟩), .func (.func 31) #[] #[.pointer (some ⟨b + 1 + 1 + 1, 0, none⟩)], .int .i64 (cl x.1 : Nat), runV (clR x.2), undef, undef, undef, undef, undef, undef, undef, undef, undef, undef, undef, undef, undef, undef, undef, undef], defers := [] })
    (fun x a' s X Y row hs hg hr => by obtain ⟨Bx, h1, h3⟩ := hs; exact ⟨Bx, RX.ownFrom b (clR x.2) Bx _ s X Y row h1 hg hr, h3⟩)
    ?assign ?body ?done ?stop
  case assign =>
    rintro l pre x W K ⟨⟨⟨a1, c1, hRB⟩, hG⟩, hB1⟩ hK
    have hbz : b ≤ W.heap.size := Nat.le_of_lt hRB.out.lt
    have hl1 : b + 1 + 1 < W.heap.size := hG.lt
    obtain ⟨ix, fr, mr, who⟩ := x
    simp only [encR, runV, clR]
    gi_wp2
    have hal : Below W.heap.size W (W.alloc (.cells (rnC (clR (fr, mr, who))).toArray 33)) := (Below.refl _ W).alloc (Nat.le_refl _) _
    exact hK _ _ ((KeepsOthers.alloc _ _).from _) ((Below.refl _ W).alloc hbz _) ⟨⟨⟨a1, c1, hRB.below hal⟩, hG.alloc _⟩, hB1.alloc hbz _⟩ ⟨W.heap.size, ⟨hl1, ObjAt.new W _ (rnC (clR (fr, mr, who))), a1, _, c1, (hRB.below hal).out, fun hk => by have := (hRB.own.ge _ hk).2; omega⟩, rfl⟩
  case body =>
    rintro l pre x a' W hl hr ⟨⟨⟨a1, c1, hRB⟩, hG⟩, hB1⟩ ⟨Bx, ⟨hBx, bX, a2, n2, c2, bO, hsep⟩, rfl⟩ hlt
    have hbd := runsP_bd _ (came pre) rfl (fun r hr => by obtain ⟨y, _, rfl⟩ := List.mem_map.1 hr; exact ⟨cl_le _, cl_le _⟩)
    have hs : runsP (came (pre ++ [x])) = stepV (runsP (came pre)) (clR x.2) := by rw [came_snoc, runsP_snoc]
    rw [show (came pre).length = pre.length from by simp [came]] at hbd
    have hq0 : (clR x.2).1 ≤ 64 := cl_le _
    have hq1 : (clR x.2).2.1 ≤ 64 := cl_le _
    generalize runsP (came pre) = s at *
    generalize clR x.2 = y at *
    obtain ⟨L, far⟩ := s
    obtain ⟨fr, mr, who⟩ := y
    have HS := Lib.hid hs
    clear hs
    dsimp only at hRB hbd hq0 hq1
    have hsep : Bx ∉ blk a1 := by
      have h1 := bO.symm.trans hRB.out
      injection h1 with h1
      injection h1 with h1
      simp only [List.toArray, Array.mk.injEq, List.cons.injEq, Value.slice.injEq, and_true] at h1
      rw [← h1.1]
      exact hsep
    have hbW : b ≤ W.heap.size := Nat.le_of_lt hRB.out.lt
    have hXW := bX.lt
    have hGt : b + 1 + 1 ∉ b :: blk a1 := fun hm => by
      rcases List.mem_cons.1 hm with h | h
      · omega
      · exact hRB.own.ne (b := b + 1 + 1) (t := 51) hG (by decide) h
    have HGAP := Lib.hid (gap_any b (b + 1) b far c1 fr a1 L W hRB hq0 (by omega) (by omega) (fun q hq => by have := hbd.2.1 q hq; omega) hbW)
    have kG := hG.cell
    have x0 := bX.cell 0 _ rfl
    gi_wp2
    refine (CallsIn.inRound l (callsIn_wide.2 HGAP.out)).mono ?_
    rintro e W1 ⟨a3, c3, rfl, hRB1, hM1, hat1⟩
    clear kG x0
    have bX1 := bX.mod hM1 (fun hm => by
      rcases List.mem_cons.1 hm with h | h
      · omega
      · exact hsep h)
    have hG1 : Boxed W1 (b + 1 + 1) 51 _ := (hM1.block _ hG.lt hGt).trans hG
    have hK1 := mod_keeps hM1 hRB.cells
    have hsep1 : Bx ∉ blk a3 := fun hk => by
      rcases hat1 _ hk with h | h
      · exact hsep h
      · omega
    have hz1 := hM1.size
    have hl1 := gapV_len L far fr
    have HJ := Lib.hid (joined_any b c3 a3 (gapV L far fr) fr mr who W1 hRB1.own (by omega) (fun q hq => by have := gapV_big (a := far) hbd.2.1 hq0 q hq; omega) (by omega) (by omega))
    have k0 := hRB1.out.cell 0 _ rfl
    have x0 := bX1.cell 0 _ rfl; have x1 := bX1.cell 1 _ rfl; have x2 := bX1.cell 2 _ rfl
    gi_wp2
    refine (CallsIn.inRound l (callsIn_wide.2 HJ.out)).mono ?_
    rintro e W2 ⟨a4, c4, rfl, hown4, hM2, hat2⟩
    clear k0 x0 x1 x2
    have HS2 : Hid (runsP (came (pre ++ [x])) = (joinV (gapV L far fr) (fr, mr, (who : Int)), fr + mr)) := HS.out
    generalize joinV (gapV L far fr) (fr, mr, (who : Int)) = L2 at *
    obtain ⟨hRB3, hM3⟩ := hRB1.put hown4 hM2 hat2
    have o2 := hRB1.out.mod hM2 hRB1.ne.2.2
    have f2 := hRB1.far.mod hM2 hRB1.ne.2.1
    have bX2 := bX1.mod hM2 hsep1
    have q0 := o2.cell 0 _ rfl; have qf := o2.free 0
    have r0 := f2.cell 0 _ rfl; have rf := f2.free 0
    have x0 := bX2.cell 0 _ rfl; have x1 := bX2.cell 1 _ rfl; have x2 := bX2.cell 2 _ rfl
    have hz2 := hM2.size
    have hbz1 : b < W2.heap.size := by omega
    have hbz2 : b + 1 < W2.heap.size := by omega
    have hbz3 : Bx < W2.heap.size := by omega
    have hG2 : Boxed (W2.setCell ⟨b, 0, none⟩ (.slice a4 L2.length c4)) (b + 1 + 1) 51 _ := (hM3.block _ hG1.lt (fun hm => by
      rcases List.mem_cons.1 hm with h | h
      · omega
      · exact hRB1.own.ne (b := b + 1 + 1) (t := 51) hG1 (by decide) h)).trans hG1
    obtain ⟨X, hX⟩ : ∃ X, X = ((W2.setCell ⟨b, 0, none⟩ (.slice a4 L2.length c4)).setCell ⟨b + 1, 0, none⟩ (.int .i64 ((fr : Int) + mr))).alloc (.cells #[.int .i64 fr, .int .i64 mr, .int .i64 who] 33) := ⟨_, rfl⟩
    have FIN : Hid (KeepsFrom W0.heap.size W X ∧ Below b W X ∧ (RI b tt (pre ++ [x]) X ∧ Below b w X)) := by
      have hbl1 : Below b W W1 := hM1.below (fun k hk => by
        rcases List.mem_cons.1 hk with rfl | hk
        · exact Nat.le_refl _
        · exact (hRB.own.ge k hk).1) hbW
      have hbl2 : Below b W1 (W2.setCell ⟨b, 0, none⟩ (.slice a4 L2.length c4)) := hM3.below (fun k hk => by
        rcases List.mem_cons.1 hk with rfl | hk
        · exact Nat.le_refl _
        · exact (hRB1.own.ge k hk).1) (by omega)
      have hbl : Below b W X := by
        rw [hX]
        refine Below.alloc (Below.setCell (hbl1.trans hbl2) (by simp) _) ?_ _
        simp [World.setCell]; omega
      refine ⟨KeepsOthers.from ?_ _, hbl, ⟨?_, ?_⟩, hB1.trans hbl⟩
      · rw [hX]
        exact ((hK1.trans (mod_keeps hM3 hRB1.cells)).trans (KeepsOthers.setCell _ _ _)).trans (KeepsOthers.alloc _ _)
      · rw [HS2.out, hX]
        refine ⟨a4, c4, ?_⟩
        have := (hRB3.setFar (fr + mr)).below ((Below.refl _ _).alloc (Nat.le_refl _) (.cells #[.int .i64 fr, .int .i64 mr, .int .i64 who] 33))
        rw [Int.natCast_add] at this
        exact this
      · rw [hX]
        exact (hG2.other (by omega) _).alloc _
    rw [hX] at FIN
    clear hX hbd hRB hRB1 hRB3 hM1 hM2 hM3 hown4 hat1 hat2 o2 f2 bX bX1 bX2 HGAP HJ hG hG1 hG2 hK1 hsep hsep1 hGt
    gi_wp2
    refine (CallsIn.inRound l (callsIn_wide.2 (end_any fr mr who _ hq0 hq1))).mono ?_
    rintro e W4 ⟨rfl, rfl⟩
    gi_wp2
    exact FIN.out
  case done =>
    rintro D ys W hD rfl ⟨⟨⟨a1, c1, hRB⟩, hG⟩, hB1⟩ hK
    rw [came_numbered H.out.ok, List.take_length] at hRB
    have HV : Hid (runsV n R = gapV (runsP R).1 (runsP R).2 n) := rfl
    have hbd := runsP_bd R.length R rfl (fun r hr => by have := H.out.ok.each r hr; omega)
    generalize runsP R = s at *
    obtain ⟨L, far⟩ := s
    dsimp only at hRB hbd HV
    have hbW : b ≤ W.heap.size := Nat.le_of_lt hRB.out.lt
    have hGt : b + 1 + 1 ∉ b :: blk a1 := fun hm => by
      rcases List.mem_cons.1 hm with h | h
      · omega
      · exact hRB.own.ne (b := b + 1 + 1) (t := 51) hG (by decide) h
    have HRB := Lib.hid hRB
    have HGAP : Hid (∀ W', Below W.heap.size W W' → Calls Try.prog 24 #[.int .i64 n, .pointer (some ⟨b + 1, 0, none⟩), .pointer (some ⟨b, 0, none⟩)] W' (GPost b (b + 1) b far a1 (gapV L far n) W')) := fun W' hW => gap_any b (b + 1) b far c1 n a1 L W' (hRB.below hW) hn64 (by omega) (by omega) (fun q hq => by have := hbd.2.1 q hq; omega) (by have := hW.size; omega)
    have kG := hG.cell
    have kT := ((HTR.out.below hB1).obj.cell 1 _ rfl)
    have HK := Lib.hid hK
    clear hbd hRB
    have hmx : Try.prog.follows .mixedOrders = true := by kernel_rfl
    gi_wp2
    refine Code.wpIn_mono (nrm_le _) ?_
    gi_region_with_o (gi_at_call 24; refine (callsIn_wide.2 (HGAP.out _ (by (repeat (first | exact Below.refl _ _ | assumption | refine Below.drew ?_ | (refine Below.setCell ?_ ?_ _; rotate_left; (first | omega | (simp; done) | (simp; omega)); rotate_left) | (refine Below.alloc ?_ ?_ _; rotate_left; (first | omega | (simp; done) | (simp; omega)); rotate_left)))))).mono ?_; rintro e W1 ⟨a3, c3, rfl, hRB1, hM1, hat1⟩)
    all_goals
      refine nrm_in ?_
      have HRD := HRB.out.below ((Below.refl W.heap.size W).drew)
      have hKO := mod_keeps hM1 HRD.cells
      have hK2 : W1.heap[D]? = some (.deferred (some [])) := hKO.same D _ HK.out rfl
      have HK2 := Lib.hid hK2
      have hM : Mod (b :: blk a1) W W1 := (Mod.refl _ W).drew.trans hM1
      have hz := hM.size
      have hbl : Below b w W1 := hB1.trans (hM.below (fun k hk => by
        rcases List.mem_cons.1 hk with rfl | hk
        · exact Nat.le_refl _
        · exact (HRD.own.ge k hk).1) hbW)
      have FIN : Hid (RunsPost b (runsV n R) w (.returned (.slice a3 (gapV L far n).length c3)) (W1.putObj D (.deferred none))) := by
        rw [HV.out]
        refine ⟨a3, c3, rfl, ?_, ?_⟩
        · exact hRB1.own.mod (mod_row (grownBy_putObj' W1 D _)) (fun k hk => off_row (fun r e => by cases e; exact ⟨_, hK2, rfl⟩) (hRB1.own.isCells k hk))
        · rw [HWB.out]
          exact hbl.trans (belowK_b (w := w) (by rw [HWB.out]; exact Nat.le_refl _) W1 D _ _ (by rw [HWB.out]; omega) hK2 rfl rfl)
      have k0 := hRB1.out.cell 0 _ rfl
      clear hRB1 hM1 hat1 hKO hM hbl HRD hK2
      gi_wp2
      refine ⟨by simp, .inl ⟨_, _, rfl, run_takeDeferred HK2.out, ?_⟩⟩
      refine ⟨.slice a3 (gapV L far n).length c3, by simp [results, Try.f8, go_sem], ?_⟩
      rw [HWB.out]
      exact FIN.out
  case stop =>
    rintro D c pre W _ _ h _
    exact h.elim
end Go.Proofs.Ythmbflofcceifaa
