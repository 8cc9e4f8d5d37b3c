/- The walks of package trace: New, Add, From, All, Len, Last. -/
import Derived.Test.YtcffdceadmdecaaDoorTrText2
import Derived.Test.YtcffdceadmdecaaDoorMore
import Derived.Deep.RegionHeld3
namespace Go.Proofs.YtcffdceadmdecaaDoor
set_option linter.unusedVariables false
set_option linter.unusedSimpArgs false
set_option linter.unnecessarySimpa false
open Go.RowKit Go.Sort
set_option maxHeartbeats 1000000
set_option maxRecDepth 100000
set_option linter.unusedVariables false

def evF (l : List Ev) : List Value := (l.map Ev.cells).flatten
def Oks (l : List Ev) : Prop := ∀ e ∈ l, e.Ok
theorem evF_snoc (l : List Ev) (e : Ev) : evF (l ++ [e]) = evF l ++ e.cells := by simp [evF]
theorem evF_len : ∀ (l : List Ev), Oks l → (evF l).length = l.length * 21
  | [], _ => rfl
  | e :: l, h => by
    have := evF_len l (fun x hx => h x (by simp [hx]))
    have h2 := cells_len (h e (by simp))
    have : evF (e :: l) = e.cells ++ evF l := by simp [evF]
    rw [this, List.length_append, h2, List.length_cons]; omega
theorem evF_drop : ∀ (l : List Ev) (k : Nat), Oks l → (evF l).drop (k * 21) = evF (l.drop k)
  | [], k, _ => by simp [evF]
  | e :: l, 0, _ => by simp
  | e :: l, k + 1, h => by
    have h2 := cells_len (h e (by simp))
    have e1 : evF (e :: l) = e.cells ++ evF l := by simp [evF]
    rw [e1, List.drop_append, List.drop_eq_nil_of_le (by omega), List.nil_append, h2, List.drop_succ_cons, ← evF_drop l k (fun x hx => h x (by simp [hx]))]
    congr 1; omega
theorem evF_get (l : List Ev) (h : Oks l) (k j : Nat) (hk : k < l.length) (hj : j < 21) : (evF l)[k * 21 + j]? = (l[k].cells)[j]? := by
  rw [← List.getElem?_drop, evF_drop l k h, List.drop_eq_getElem_cons hk]
  have h2 := cells_len (h _ (List.getElem_mem hk))
  have e1 : evF (l[k] :: l.drop (k + 1)) = l[k].cells ++ evF (l.drop (k + 1)) := by rw [evF, List.map_cons, List.flatten_cons]; rfl
  rw [e1, List.getElem?_append_left (by omega)]
theorem cells_one (e : Ev) : ∀ u ∈ e.cells, u.oneCell' = true := by
  intro u hu
  simp only [Ev.cells, u32C, List.mem_cons, List.mem_map] at hu
  rcases hu with rfl | rfl | rfl | rfl | rfl | ⟨_, _, rfl⟩ <;> rfl
theorem evF_one (l : List Ev) : ∀ u ∈ evF l, u.oneCell' = true := by
  intro u hu
  simp only [evF, List.mem_flatten, List.mem_map] at hu
  obtain ⟨c, ⟨r, _, rfl⟩, hu⟩ := hu
  exact cells_one r u hu

theorem info_ev : ((Tryd.prog).info? 25).map (fun i => (i.zero, i.size, i.bytes)) = some (some (.agg #[.int .i64 0, .int .i64 0, .int .u32 0, .int .u32 0, .int .u32 0, .int .u32 0, .int .u32 0, .int .u32 0, .int .u32 0, .int .u32 0, .int .u32 0, .int .u32 0, .int .u32 0, .int .u32 0, .int .u32 0, .int .u32 0, .int .u32 0, .int .u32 0, .int .u32 0, .int .u32 0, .int .u32 0]), 21, 96) := by kernel_rfl
theorem info_ev2 : ((Tryd.prog).info? 25).map (·.size) = some 21 := by kernel_rfl
theorem clone_any (a : Option Addr) (n c : Nat) (xs : List Value) (w : World) (h : Rd w 21 a n xs) (h1 : ∀ u ∈ xs, u.oneCell' = true) (hn : n ≤ 100000) : Calls Tryd.prog 28 #[.slice a n c] w (ClonePost 25 21 n xs w) := by
  obtain ⟨i0, hi0, hz0, hz1, hz2⟩ := info_parts info_ev
  cases a with
  | none =>
    obtain rfl : n = 0 := h.2.1 rfl
    obtain rfl : xs = [] := List.eq_nil_of_length_eq_zero (by simpa using h.1)
    clear h h1
    have hnil : ∀ w : World, Sem.run Tryd.prog (binOp .eql 29 (.slice none 0 c) (.slice none 0 0)) w = .ok (.bool true) w := fun _ => by kernel_rfl
    go_enter Tryd.func28, Tryd.ntmps28
    go_wp2_with fail
    go_ret
    exact ⟨none, 0, rfl, Own.nil _ _ _ _, Below.refl _ _⟩
  | some ad =>
    have H := Lib.hid h
    have HL := Lib.hid h.1
    have H1 := Lib.hid h1
    clear h h1
    have HN : Hid (∀ (W : World), Below w.heap.size w W → ∀ j u, xs[j]? = some u → W.cell? (ad.add j) = some u) := fun W hW j u hu => by
      obtain ⟨b, o, rfl, hb, hc⟩ := H.out.2.2 ad rfl (by intro h0; subst h0; simp at hu)
      have e : (⟨b, o, none⟩ : Addr).add j = ⟨b, o + j, none⟩ := by unfold Addr.add; split <;> simp_all
      rw [e]; exact (hW.cell (p := ⟨b, o + j, none⟩) hb).trans (hc j u hu)
    have HE := Lib.hid (own_empty w 25 21)
    have hnil : ∀ w : World, Sem.run Tryd.prog (binOp .eql 29 (.slice (some ad) n c) (.slice none 0 0)) w = .ok (.bool false) w := fun _ => by kernel_rfl
    go_enter Tryd.func28, Tryd.ntmps28
    go_wp2_with (at_builtin; (refine wpList_append_own_at _ rfl (.tmp 5) (.tmp 6) _ rfl w.heap.size 25 i0 _ 21 96 Tryd.underlying29 hi0 hz0 hz1 hz2 rfl (by omega) (.slice (some ⟨w.heap.size, 0, none⟩) 0 0) 0 [] rfl HE.out ad n c xs rfl HL.out (HN.out _ ((Below.refl _ _).alloc (Nat.le_refl _) _)) H1.out (by simp only [maxLen]; omega) (by omega) (by simp) ?_); intro v1 w1 hown1 hg1 hz hat1)
    go_ret
    exact clone_post hown1 hg1
theorem list16 : ∀ (l : List Nat), l.length = 16 → ∃ r0 r1 r2 r3 r4 r5 r6 r7 r8 r9 r10 r11 r12 r13 r14 r15 : Nat, l = [r0, r1, r2, r3, r4, r5, r6, r7, r8, r9, r10, r11, r12, r13, r14, r15]
  | [r0, r1, r2, r3, r4, r5, r6, r7, r8, r9, r10, r11, r12, r13, r14, r15], _ => ⟨r0, r1, r2, r3, r4, r5, r6, r7, r8, r9, r10, r11, r12, r13, r14, r15, rfl⟩
theorem list21 : ∀ (l : List Value), l.length = 21 → ∃ x0 x1 x2 x3 x4 x5 x6 x7 x8 x9 x10 x11 x12 x13 x14 x15 x16 x17 x18 x19 x20 : Value, l = [x0, x1, x2, x3, x4, x5, x6, x7, x8, x9, x10, x11, x12, x13, x14, x15, x16, x17, x18, x19, x20]
  | [x0, x1, x2, x3, x4, x5, x6, x7, x8, x9, x10, x11, x12, x13, x14, x15, x16, x17, x18, x19, x20], _ => ⟨x0, x1, x2, x3, x4, x5, x6, x7, x8, x9, x10, x11, x12, x13, x14, x15, x16, x17, x18, x19, x20, rfl⟩
theorem fold21 (cs : List Value) (h : cs.length = 21) : List.foldl (fun (cs : Array Value) (x : Value × Nat) => cs.setIfInBounds x.snd x.fst) #[.int .i64 0, .int .i64 0, .int .u32 0, .int .u32 0, .int .u32 0, .int .u32 0, .int .u32 0, .int .u32 0, .int .u32 0, .int .u32 0, .int .u32 0, .int .u32 0, .int .u32 0, .int .u32 0, .int .u32 0, .int .u32 0, .int .u32 0, .int .u32 0, .int .u32 0, .int .u32 0, .int .u32 0] cs.zipIdx = cs.toArray := by
  obtain ⟨x0, x1, x2, x3, x4, x5, x6, x7, x8, x9, x10, x11, x12, x13, x14, x15, x16, x17, x18, x19, x20, rfl⟩ := list21 cs h
  kernel_rfl
theorem cells_lit (k ck : Int) (cd vl pc r0 r1 r2 r3 r4 r5 r6 r7 r8 r9 r10 r11 r12 r13 r14 r15 : Nat) : (Ev.mk k ck cd vl pc [r0, r1, r2, r3, r4, r5, r6, r7, r8, r9, r10, r11, r12, r13, r14, r15]).cells = [.int .i64 k, .int .i64 ck, .int .u32 (cd : Int), .int .u32 (vl : Int), .int .u32 (pc : Int), .int .u32 (r0 : Int), .int .u32 (r1 : Int), .int .u32 (r2 : Int), .int .u32 (r3 : Int), .int .u32 (r4 : Int), .int .u32 (r5 : Int), .int .u32 (r6 : Int), .int .u32 (r7 : Int), .int .u32 (r8 : Int), .int .u32 (r9 : Int), .int .u32 (r10 : Int), .int .u32 (r11 : Int), .int .u32 (r12 : Int), .int .u32 (r13 : Int), .int .u32 (r14 : Int), .int .u32 (r15 : Int)] := rfl
theorem step_load_mid {P : Program} {w : World} {ops : Array Oper} {o : Oper} {a : Act} {K : Act → World → Prop} {Q : Exit → Act → World → Prop} {F : Prop} (hgd : o.guard = none) (ty : TypeId) (x : Operand) (ho : o.op = .load ty x)
    (b off : Nat) (hx : a.eval x = .pointer (some ⟨b, off, none⟩)) (cs : List Value) (d : TypeDesc) (hc : w.rangeAt b off cs) (hu : P.underlying ty = some d) (hd : d.isRow = true) (hi : (P.info? ty).map (·.size) = some cs.length)
    (h : K (a.put o.dst (.agg cs.toArray)) w) : if Region.wanted o (yielded ops a.tmps) = true then Oper.wp P o a w K Q else F := by
  have hw : Region.wanted o (yielded ops a.tmps) = true := by simp [Region.wanted, hgd]
  rw [if_pos hw]
  exact wp_load_mid ty x ho b off hx cs d hc hu hd hi h
theorem run_load_ev (W : World) (b o : Nat) (e : Ev) (ok : e.Ok) (hc : W.rangeAt b o e.cells) : (Instr.loadAt 25 (.pointer (some ⟨b, o, none⟩))).run Tryd.prog W = .ok (.agg e.cells.toArray) W := by
  simp only [Instr.loadAt, Instr.sureAddr, Sem.run_bind, Sem.run_pure, Result.andThen_ok, run_loadVar_mid W b o 25 e.cells _ hc Tryd.underlying25 rfl (by rw [info_ev2, cells_len ok])]

structure TrO (W : World) (B b : Nat) (a : Option Addr) (c : Nat) (l : List Ev) : Prop where
  obj : ObjAt W b 60 [.slice a l.length c, .bool true]
  own : Own W B 25 21 a l.length c (evF l)
  oks : Oks l
theorem TrO.ne {W : World} {B b : Nat} {a : Option Addr} {c : Nat} {l : List Ev} (h : TrO W B b a c l) : b ∉ blk a := h.own.ne h.obj (by decide)
theorem TrO.below {W W' : World} {B b : Nat} {a : Option Addr} {c : Nat} {l : List Ev} (h : TrO W B b a c l) (hb : Below W.heap.size W W') : TrO W' B b a c l := ⟨h.obj.below hb, h.own.below hb, h.oks⟩

theorem new_any (w : World) : Calls Tryd.prog 12 #[] w fun x w' => x = .returned (.pointer (some ⟨w.heap.size, 0, none⟩)) ∧ TrO w' w.heap.size w.heap.size none 0 [] ∧ Below w.heap.size w w' := by
  have hN := Lib.hid (ObjAt.new w 60 [.slice none 0 0, .bool true])
  go_enter Tryd.func12, Tryd.ntmps12
  go_wp2
  go_ret
  exact ⟨rfl, ⟨hN.out, Own.nil _ _ _ _, fun _ h => by simp at h⟩, (Below.refl _ _).alloc (Nat.le_refl _) _⟩
theorem none_any (b : Nat) (v : Value) (w : World) (h : ObjAt w b 60 [v, .bool true]) : Calls Tryd.prog 27 #[.pointer (some ⟨b, 0, none⟩)] w fun x w' => x = .returned (.bool false) ∧ w = w' := by
  have c1 := h.cell 1 _ rfl
  clear h
  go_enter Tryd.func27, Tryd.ntmps27
  go_wp2
  go_ret
  exact ⟨rfl, rfl⟩
theorem len_any (B b : Nat) (a : Option Addr) (c : Nat) (l : List Ev) (w : World) (h : TrO w B b a c l) : Calls Tryd.prog 14 #[.pointer (some ⟨b, 0, none⟩)] w fun x w' => x = .returned (.int .i64 l.length) ∧ w = w' := by
  have c0 := h.obj.cell 0 _ rfl
  have H := Lib.hid h.obj
  clear h
  go_enter Tryd.func14, Tryd.ntmps14
  go_wp2_with (go_at_call 27; refine (none_any b _ _ H.out).mono ?_; rintro x w1 ⟨rfl, rfl⟩)
  go_ret
  exact ⟨rfl, rfl⟩
def AddPost (B b : Nat) (a : Option Addr) (c : Nat) (l : List Ev) (e : Ev) (w : World) (x : Ending) (w' : World) : Prop :=
  (l.length < 4096 ∧ x = .returned (.int .i64 0) ∧ ∃ a' c', TrO w' B b a' c' (l ++ [e]) ∧ Mod (b :: blk a) w w' ∧ ∀ k ∈ blk a', k ∈ blk a ∨ w.heap.size ≤ k) ∨
  (4096 ≤ l.length ∧ x = .returned (.int .i64 2) ∧ Below w.heap.size w w')
theorem add_end {w W w1 : World} {B b g c cap' : Nat} {a : Option Addr} {l : List Ev} {e : Ev} (ok : e.Ok) (hn : l.length < 4096) (H : TrO W B b a c l) (bel : Below w.heap.size w W) (hbw : b < w.heap.size)
    (hown : Own w1 B 25 21 (some ⟨g, 0, none⟩) (l.length + 1) cap' (evF l ++ e.cells)) (hmod : Mod (blk a) W w1) (hat : g ∈ blk a ∨ W.heap.size ≤ g) :
    AddPost B b a c l e w (.returned (.int .i64 0)) (w1.setCell ⟨b, 0, none⟩ (.slice (some ⟨g, 0, none⟩) (l.length + 1) cap')) := by
  have h1 := H.obj.mod hmod H.ne
  have hne1 := hown.ne h1 (by decide)
  have hlen : (l ++ [e]).length = l.length + 1 := by simp
  refine .inl ⟨hn, rfl, some ⟨g, 0, none⟩, cap', ⟨?_, ?_, ?_⟩, ?_, ?_⟩
  · rw [hlen]; exact h1.set 0 _
  · rw [hlen, evF_snoc]; exact hown.upd (Upd.setCell w1 ⟨b, 0, none⟩ _) hne1
  · intro x hx
    rcases List.mem_append.1 hx with hx | hx
    · exact H.oks x hx
    · rw [List.mem_singleton.1 hx]; exact ok
  · exact ((Mod.ofBelow bel).trans (hmod.mono (fun k _ hk => List.mem_cons_of_mem _ hk))).setCell ⟨b, 0, none⟩ _ (.inl (by simp))
  · intro k hk
    obtain ⟨p, hp, rfl⟩ := mem_blk.1 hk
    obtain rfl := Option.some.inj hp
    exact hat.imp id (fun h => by have := bel.size; simp; omega)
theorem add_any (B b : Nat) (a : Option Addr) (c : Nat) (l : List Ev) (e : Ev) (ok : e.Ok) (w : World) (h : TrO w B b a c l) (hB : B ≤ w.heap.size) : Calls Tryd.prog 13 #[.pointer (some ⟨b, 0, none⟩), .agg e.cells.toArray] w (AddPost B b a c l e w) := by
  obtain ⟨i0, hi0, hz0, hz1, hz2⟩ := info_parts info_ev
  have hl := cells_len ok
  have bel : Hid (Below w.heap.size w (w.alloc (.cells e.cells.toArray 25))) := (Below.refl _ w).alloc (Nat.le_refl _) _
  have hE : Hid (ObjAt (w.alloc (.cells e.cells.toArray 25)) w.heap.size 25 e.cells) := ObjAt.new w _ _
  have hsz : Hid ((w.alloc (.cells e.cells.toArray 25)).heap.size = w.heap.size + 1) := by unfold World.alloc; exact Array.size_push _
  have H := Lib.hid (h.below bel.out)
  have hne := Lib.hid h.ne
  have hnc := h.own.le
  have OK := Lib.hid ok
  have hbw := Lib.hid h.obj.lt
  have hbo : Hid (∀ k ∈ blk a, k < w.heap.size) := fun k hk => (h.own.ge k hk).2
  clear h
  go_enter Tryd.func13, Tryd.ntmps13
  go_upto_region 1 with (fail)
  generalize w.alloc (.cells e.cells.toArray 25) = W at H hE bel hsz ⊢
  have c0 := H.out.obj.cell 0 _ rfl
  have f0 := H.out.obj.free 0
  by_cases hn : l.length < 4096
  · have d1 : decide ((l.length : Int) ≥ 4096) = false := by simp; omega
    have d1' : decide (4096 ≤ (l.length : Int)) = false := by simp; omega
    have hfold := fold21 e.cells hl
    have HKK : Hid (∀ W' : World, Below W.heap.size W W' → ObjAt W' w.heap.size 25 e.cells) := fun W' hb => hE.out.below hb
    have HCA : Hid (w.heap.size ∉ blk a) := fun hm => absurd (hbo.out _ hm) (by omega)
    have HBW : Hid (w.heap.size ≠ b) := fun h => absurd hbw.out (by omega)
    have RG : Hid (∀ W' : World, ObjAt W' w.heap.size 25 e.cells → W'.rangeAt w.heap.size 0 e.cells) := fun W' h => h.range 0 _ (fun j v h => by simpa using h)
    have hs0 : W.drew.rangeAt w.heap.size 0 e.cells := RG.out _ (HKK.out _ ((Below.refl _ _).drew))
    have hs1 : ∀ o, (W.drew.alloc o).rangeAt w.heap.size 0 e.cells := fun o => RG.out _ (HKK.out _ (((Below.refl _ _).drew).alloc (Nat.le_refl _) o))
    have c0a : ∀ o : Obj, (W.alloc o).cell? ⟨b, 0, none⟩ = some (.slice a l.length c) := fun o => (H.out.obj.below ((Below.refl _ _).alloc (Nat.le_refl _) o)).cell 0 _ rfl
    go_wp2_with (go_at_call 27; refine (none_any b _ _ H.out.obj).mono ?_; rintro x w1 ⟨rfl, rfl⟩)
    refine wp_region_held_drew (S := fun W' => W'.rangeAt w.heap.size 0 e.cells) (by kernel_rfl) hs0 (fun hHeld => ?_)
    (refine wpAnyH_take (i := 0) (v := (.pointer (some ⟨b, 0, none⟩))) rfl (by kernel_rfl) (by kernel_rfl) (by kernel_rfl) (fun _ _ _ h => h) (Or.inl ⟨by rfl, (by intro w hSw; go_simp)⟩) (by assumption) ?_; try simp only [Act.put, List.setIfInBounds_toArray, List.set_cons_zero, List.set_cons_succ])
    (refine wpAnyH_take (i := 1) (v := (.pointer (some ⟨b, 0, none⟩))) rfl (by kernel_rfl) (by kernel_rfl) (by kernel_rfl) (fun _ _ _ h => h) (Or.inl ⟨by rfl, (by intro w hSw; go_simp)⟩) (by assumption) ?_; try simp only [Act.put, List.setIfInBounds_toArray, List.set_cons_zero, List.set_cons_succ])
    (refine wpAnyH_take (i := 2) (v := (.pointer (some ⟨b, 0, none⟩))) rfl (by kernel_rfl) (by kernel_rfl) (by kernel_rfl) (fun _ _ _ h => h) (Or.inl ⟨by rfl, (by intro w hSw; go_simp)⟩) (by assumption) ?_; try simp only [Act.put, List.setIfInBounds_toArray, List.set_cons_zero, List.set_cons_succ])
    (refine wpAnyH_take (i := 3) (v := (.pointer (some ⟨b, 0, none⟩))) rfl (by kernel_rfl) (by kernel_rfl) (by kernel_rfl) (fun _ _ _ h => h) (Or.inl ⟨by rfl, (by intro w hSw; go_simp)⟩) (by assumption) ?_; try simp only [Act.put, List.setIfInBounds_toArray, List.set_cons_zero, List.set_cons_succ])
    refine wpAnyH_take (i := 5) (v := .agg e.cells.toArray) rfl (by kernel_rfl) (by kernel_rfl) (by kernel_rfl) (fun _ _ _ h => h) (yieldsIf_load_mid (by rfl) 25 (.tmp 3) rfl w.heap.size 0 rfl e.cells _ (fun w h => h) Tryd.underlying25 rfl (by rw [info_ev2, hl])) (by assumption) ?_
    try simp only [Act.put, List.setIfInBounds_toArray, List.set_cons_zero, List.set_cons_succ]
    refine wpAnyH_ready (rs := [4, 6]) (by kernel_rfl) (by simp) ?_
    refine AllReadyH.cons rfl (fun K hK => ?_) (AllReadyH.cons rfl (fun K hK => ?_) AllReadyH.nil)
    · go_simp
      (refine hK.out _ _ (hs0) (fun hHeld => ?_); clear hK K; try simp only [Act.put, List.setIfInBounds_toArray, List.set_cons_zero, List.set_cons_succ])
      (refine wpAnyH_ready (rs := [6]) (by kernel_rfl) (by simp) ?_; refine AllReadyH.cons rfl (fun K hK => ?_) AllReadyH.nil)
      go_simp
      (refine hK.out _ _ (hs1 _) (fun hHeld => ?_); clear hK K; try simp only [Act.put, List.setIfInBounds_toArray, List.set_cons_zero, List.set_cons_succ])
      (refine wpAnyH_ready (rs := [7]) (by kernel_rfl) (by simp) ?_; refine AllReadyH.cons rfl (fun K hK => ?_) AllReadyH.nil)
      refine step_own rfl (.tmp 19) (.tmp 21) 29 rfl B 25 i0 _ 21 96 Tryd.underlying29 hi0 hz0 hz1 hz2 rfl (by omega) a l.length c (evF l) rfl (H.out.own.below (((Below.refl _ _).drew).alloc (Nat.le_refl _) _)) W.heap.size e.cells rfl (new_block _ _ _ rfl) hl (cells_one e) (by simp only [maxLen]; omega) (by omega) (by simp; have := hsz.out; omega) ?_
      intro g cap' w1 hown hmod hat
      have h1 := (H.out.obj.below (((Below.refl _ _).drew).alloc (Nat.le_refl _) _)).mod hmod hne.out
      have d0 := h1.cell 0 _ rfl
      have e0 := h1.free 0
      have hx1 : Hid (ObjAt w1 w.heap.size 25 e.cells) := (HKK.out _ (((Below.refl _ _).drew).alloc (Nat.le_refl _) _)).mod hmod HCA.out
      have hx2 : Hid (∀ v, ObjAt (w1.setCell ⟨b, 0, none⟩ v) w.heap.size 25 e.cells) := fun v => hx1.out.upd (Upd.setCell w1 ⟨b, 0, none⟩ v) HBW.out
      (refine hK.out _ _ (RG.out _ hx1.out) (fun hHeld => ?_); clear hK K; try simp only [Act.put, List.setIfInBounds_toArray, List.set_cons_zero, List.set_cons_succ])
      (refine wpAnyH_take (i := 8) (v := (.pointer (some ⟨b, 0, none⟩))) rfl (by kernel_rfl) (by kernel_rfl) (by kernel_rfl) (fun _ _ _ h => h) (Or.inl ⟨by rfl, (by intro w hSw; go_simp)⟩) (by assumption) ?_; try simp only [Act.put, List.setIfInBounds_toArray, List.set_cons_zero, List.set_cons_succ])
      (refine wpAnyH_take (i := 9) (v := (.pointer (some ⟨b, 0, none⟩))) rfl (by kernel_rfl) (by kernel_rfl) (by kernel_rfl) (fun _ _ _ h => h) (Or.inl ⟨by rfl, (by intro w hSw; go_simp)⟩) (by assumption) ?_; try simp only [Act.put, List.setIfInBounds_toArray, List.set_cons_zero, List.set_cons_succ])
      (refine wpAnyH_ready (rs := [10]) (by kernel_rfl) (by simp) ?_; refine AllReadyH.cons rfl (fun K hK => ?_) AllReadyH.nil)
      go_simp
      (refine hK.out _ _ (RG.out _ (hx2.out _)) (fun hHeld => ?_); clear hK K; try simp only [Act.put, List.setIfInBounds_toArray, List.set_cons_zero, List.set_cons_succ])
      refine wpAnyH_done (by kernel_rfl) ?_ _
      go_wp2_with fail
      go_ret
      exact add_end OK.out hn H.out bel.out hbw.out hown (((Mod.refl (blk a) W).drew.alloc _).trans hmod) (hat.imp id (fun h => by simp at h; omega))
    · go_simp
      (refine hK.out _ _ (hs1 _) (fun hHeld => ?_); clear hK K; try simp only [Act.put, List.setIfInBounds_toArray, List.set_cons_zero, List.set_cons_succ])
      (refine wpAnyH_ready (rs := [4]) (by kernel_rfl) (by simp) ?_; refine AllReadyH.cons rfl (fun K hK => ?_) AllReadyH.nil)
      go_simp
      (refine hK.out _ _ (hs1 _) (fun hHeld => ?_); clear hK K; try simp only [Act.put, List.setIfInBounds_toArray, List.set_cons_zero, List.set_cons_succ])
      (refine wpAnyH_ready (rs := [7]) (by kernel_rfl) (by simp) ?_; refine AllReadyH.cons rfl (fun K hK => ?_) AllReadyH.nil)
      refine step_own rfl (.tmp 19) (.tmp 21) 29 rfl B 25 i0 _ 21 96 Tryd.underlying29 hi0 hz0 hz1 hz2 rfl (by omega) a l.length c (evF l) rfl (H.out.own.below (((Below.refl _ _).drew).alloc (Nat.le_refl _) _)) W.heap.size e.cells rfl (new_block _ _ _ rfl) hl (cells_one e) (by simp only [maxLen]; omega) (by omega) (by simp; have := hsz.out; omega) ?_
      intro g cap' w1 hown hmod hat
      have h1 := (H.out.obj.below (((Below.refl _ _).drew).alloc (Nat.le_refl _) _)).mod hmod hne.out
      have d0 := h1.cell 0 _ rfl
      have e0 := h1.free 0
      have hx1 : Hid (ObjAt w1 w.heap.size 25 e.cells) := (HKK.out _ (((Below.refl _ _).drew).alloc (Nat.le_refl _) _)).mod hmod HCA.out
      have hx2 : Hid (∀ v, ObjAt (w1.setCell ⟨b, 0, none⟩ v) w.heap.size 25 e.cells) := fun v => hx1.out.upd (Upd.setCell w1 ⟨b, 0, none⟩ v) HBW.out
      (refine hK.out _ _ (RG.out _ hx1.out) (fun hHeld => ?_); clear hK K; try simp only [Act.put, List.setIfInBounds_toArray, List.set_cons_zero, List.set_cons_succ])
      (refine wpAnyH_take (i := 8) (v := (.pointer (some ⟨b, 0, none⟩))) rfl (by kernel_rfl) (by kernel_rfl) (by kernel_rfl) (fun _ _ _ h => h) (Or.inl ⟨by rfl, (by intro w hSw; go_simp)⟩) (by assumption) ?_; try simp only [Act.put, List.setIfInBounds_toArray, List.set_cons_zero, List.set_cons_succ])
      (refine wpAnyH_take (i := 9) (v := (.pointer (some ⟨b, 0, none⟩))) rfl (by kernel_rfl) (by kernel_rfl) (by kernel_rfl) (fun _ _ _ h => h) (Or.inl ⟨by rfl, (by intro w hSw; go_simp)⟩) (by assumption) ?_; try simp only [Act.put, List.setIfInBounds_toArray, List.set_cons_zero, List.set_cons_succ])
      (refine wpAnyH_ready (rs := [10]) (by kernel_rfl) (by simp) ?_; refine AllReadyH.cons rfl (fun K hK => ?_) AllReadyH.nil)
      go_simp
      (refine hK.out _ _ (RG.out _ (hx2.out _)) (fun hHeld => ?_); clear hK K; try simp only [Act.put, List.setIfInBounds_toArray, List.set_cons_zero, List.set_cons_succ])
      refine wpAnyH_done (by kernel_rfl) ?_ _
      go_wp2_with fail
      go_ret
      exact add_end OK.out hn H.out bel.out hbw.out hown (((Mod.refl (blk a) W).drew.alloc _).trans hmod) (hat.imp id (fun h => by simp at h; omega))
  · have d1 : decide ((l.length : Int) ≥ 4096) = true := by simp; omega
    have d1' : decide (4096 ≤ (l.length : Int)) = true := by simp; omega
    go_wp2_with (go_at_call 27; refine (none_any b _ _ H.out.obj).mono ?_; rintro x w1 ⟨rfl, rfl⟩)
    go_ret
    exact .inr ⟨by omega, rfl, bel.out⟩
theorem ev_drop_one (l : List Ev) (k : Nat) (h : Oks l) : ∀ u ∈ (evF l).drop (k * 21), u.oneCell' = true := fun u hu => evF_one l u (List.mem_of_mem_drop hu)
def fromL (n : Int) (len : Nat) : Nat := (max 0 (min n (len : Int))).toNat
theorem fromL_le (n : Int) (len : Nat) : fromL n len ≤ len := by unfold fromL; omega
def FromPost (l : List Ev) (k : Nat) (w : World) (x : Ending) (w' : World) : Prop := ∃ a' c', x = .returned (.slice a' (l.length - k) c') ∧ Own w' w.heap.size 25 21 a' (l.length - k) c' (evF (l.drop k)) ∧ Below w.heap.size w w'
theorem from_any (B b : Nat) (a : Option Addr) (c : Nat) (l : List Ev) (n : Int) (w : World) (h : TrO w B b a c l) (hn : l.length ≤ 4096) : Calls Tryd.prog 17 #[.pointer (some ⟨b, 0, none⟩), .int .i64 n] w (FromPost l (fromL n l.length) w) := by
  have H := Lib.hid h
  have hnc := h.own.le
  have hcm := h.own.capMax
  unfold maxLen at hcm
  obtain ⟨k, hk⟩ : ∃ k : Nat, k = fromL n l.length := ⟨_, rfl⟩
  have hkl : k ≤ l.length := by rw [hk]; exact fromL_le _ _
  have hmm : max 0 (min n (l.length : Int)) = (k : Int) := by rw [hk]; unfold fromL; omega
  rw [← hk]
  clear hk
  have HK := Lib.hid hkl
  have HMM := Lib.hid hmm
  have HONE := Lib.hid (ev_drop_one l k h.oks)
  have HD := Lib.hid (evF_drop l k h.oks)
  clear h hkl hmm
  go_enter Tryd.func17, Tryd.ntmps17
  go_wp2_with (go_at_call 27; refine (none_any b _ _ H.out.obj).mono ?_; rintro x w1 ⟨rfl, rfl⟩)
  refine wp_region_still_tail 13 (by kernel_rfl) (by kernel_rfl) ?_; simp only [List.take_succ_cons, List.take_zero, List.drop_succ_cons, List.drop_zero]; obtain ⟨W, hW⟩ : ∃ x, x = World.drew w := ⟨_, rfl⟩; change wpStill _ _ (World.drew w) (fun a' => wpList _ _ _ _ a' (World.drew w)) _ _; rw [← hW]
  have HW : Hid (ObjAt W b 60 [.slice a l.length c, .bool true]) := by rw [Hid, hW]; exact H.out.obj
  have HR : Hid (Rd W 21 a l.length (evF l)) := by rw [Hid, hW]; exact H.out.own.rd
  have HB : Hid (Below w.heap.size w W) := by rw [Hid, hW]; exact (Below.refl _ _).drew
  have hz : Hid (W.heap.size = w.heap.size) := by rw [Hid, hW]; rfl
  have c0 := HW.out.cell 0 _ rfl
  have hr := HR.out.cut (c := c) HK.out hnc
  have hmm := HMM.out
  have hkl := HK.out
  have k1 : (0 : Int) ≤ (k : Int) := by omega
  have k2 : (k : Int) ≤ (l.length : Int) := by omega
  clear hW
  have FIN : ∀ (m : Nat), m = l.length - k → ∀ (a' : Option Addr) (c' : Nat) (w1 : World), Own w1 W.heap.size 25 21 a' m c' ((evF l).drop (k * 21)) → Below W.heap.size W w1 → FromPost l k w (.returned (.slice a' m c')) w1 := fun m hm a' c' w1 ho hb =>
    ⟨a', c', by rw [hm], by rw [hm] at ho; rw [HD.out] at ho; rw [hz.out] at ho; exact ho, HB.out.trans (by rw [hz.out] at hb; exact hb)⟩
  have HF := Lib.hid FIN
  clear FIN
  by_cases hck : c = k
  · rw [if_pos hck] at hr
    obtain rfl : c = k := hck
    have e0 : l.length - c = 0 := by omega
    rw [e0] at hr
    have HE0 := Lib.hid e0
    have HR2 := Lib.hid hr
    clear hr e0
    repeat still_step
    refine wpStill_nil ?_
    go_wp2_with fail
    refine (clone_any _ _ _ _ _ HR2.out HONE.out (by omega)).mono ?_; rintro e w1 ⟨a', c', rfl, hown, hb⟩
    go_wp2_with fail
    go_ret
    exact HF.out 0 HE0.out.symm _ _ _ hown hb
  · rw [if_neg hck] at hr
    have HR2 := Lib.hid hr
    clear hr
    repeat still_step
    refine wpStill_nil ?_
    go_wp2_with fail
    refine (clone_any _ _ _ _ _ HR2.out HONE.out (by omega)).mono ?_; rintro e w1 ⟨a', c', rfl, hown, hb⟩
    go_wp2_with fail
    go_ret
    exact HF.out _ rfl _ _ _ hown hb
theorem all_any (B b : Nat) (a : Option Addr) (c : Nat) (l : List Ev) (w : World) (h : TrO w B b a c l) (hn : l.length ≤ 4096) : Calls Tryd.prog 15 #[.pointer (some ⟨b, 0, none⟩)] w (FromPost l 0 w) := by
  have h0 : fromL 0 l.length = 0 := by unfold fromL; omega
  have HC := Lib.hid (from_any B b a c l 0 w h hn)
  rw [h0] at HC
  clear h
  go_enter Tryd.func15, Tryd.ntmps15
  go_wp2_with (go_at_call 17; refine HC.out.mono ?_; rintro e w1 ⟨a', c', rfl, hown, hb⟩)
  go_ret
  exact ⟨a', c', rfl, hown, hb⟩
end Go.Proofs.YtcffdceadmdecaaDoor
