/- The walks of package gate: the gate. -/
import Derived.Test.YtnhapfoebiniiaaSl
import Derived.Test.YtnhapfoebiniiaaLabV
namespace Go.Proofs.Ytnhapfoebiniiaa
open Go.RowKit Go.Sort
set_option maxHeartbeats 400000
set_option maxRecDepth 100000

/-- A release's cells. -/
def relC (r : ByteArray × Int × Int) : List Value := [.string r.1, .int .i64 r.2.1, .int .i64 r.2.2]
/-- The log's cells. -/
def relF (l : List (ByteArray × Int × Int)) : List Value := (l.map relC).flatten
def gateC (a : Option Addr) (n cap : Nat) (fr ft us cats who quota : Int) : List Value := [.slice a n cap, .int .i64 fr, .int .i64 ft, .int .i64 us, .int .i64 cats, .int .i64 who, .int .i64 quota, .bool true]
theorem info_rel : (Try.prog.info? 43).map (fun i => (i.zero, i.size, i.bytes)) = some (some (.agg #[.string ⟨#[]⟩, .int .i64 0, .int .i64 0]), 3, 32) := by kernel_rfl
def NotePost (b B : Nat) (a : Option Addr) (xs : List Value) (n : Nat) (fr ft us cats who quota : Int) (s : ByteArray) (l : Int) (w : World) (e : Ending) (w' : World) : Prop :=
  ∃ g cap', e = .returned (.tuple #[]) ∧ ObjAt w' b 60 (gateC (some ⟨g, 0, none⟩) (n + 1) cap' fr ft (us + s.size) cats who quota) ∧ Own w' B 43 3 (some ⟨g, 0, none⟩) (n + 1) cap' (xs ++ relC (s, l, ft)) ∧ Mod (b :: blk a) w w' ∧ (g ∈ blk a ∨ w.heap.size ≤ g)
theorem note_any (b B : Nat) (a : Option Addr) (n cap : Nat) (xs : List Value) (fr ft us cats who quota : Int) (s : ByteArray) (l : Int) (w : World) (h : ObjAt w b 60 (gateC a n cap fr ft us cats who quota)) (ho : Own w B 43 3 a n cap xs)
    (hn : n ≤ 1000) (hu0 : 0 ≤ us) (hu1 : us ≤ 1000) (hs : s.size ≤ 1000) (hB : B ≤ w.heap.size) : Calls Try.prog 30 #[.pointer (some ⟨b, 0, none⟩), .string s, .int .i64 l] w (NotePost b B a xs n fr ft us cats who quota s l w) := by
  obtain ⟨i0, hi0, hz0, hz1, hz2⟩ := info_parts info_rel
  have c0 := h.cell 0 _ rfl; have c2 := h.cell 2 _ rfl; have c3 := h.cell 3 _ rfl
  have f0 := h.free 0; have f3 := h.free 3
  have H := Lib.hid h; have HO := Lib.hid ho
  have hlt := h.lt
  have hnb := ho.ne h (by decide)
  clear h ho
  go_enter Try.func30, Try.ntmps30
  go_wp2_with fail
  go_region_law (refine step_own rfl (.tmp 10) (.tmp 18) 34 rfl B 43 i0 _ 3 32 Try.underlying34 hi0 hz0 hz1 hz2 rfl (by omega) a n cap xs rfl (HO.out.below (((Below.refl _ _).drew).alloc (Nat.le_refl _) _)) w.heap.size (relC (s, l, ft)) rfl (new_block _ _ _ rfl) rfl (by simp [relC, Value.oneCell']) (by simp only [maxLen]; omega) (by omega) (by simp; omega) ?_; intro g cap' w1 hown hmod hat; have h1 := (H.out.below (((Below.refl _ _).drew).alloc (Nat.le_refl _) _)).mod hmod hnb; have d0 := h1.cell 0 _ rfl; have e0 := h1.free 0; have d3 := h1.cell 3 _ rfl; have e3 := h1.free 3)
  all_goals
    go_wp2_with fail
    go_end0
    have ho' := ((hown.upd (Upd.setCell w1 ⟨b, 0, none⟩ (.slice (some ⟨g, 0, none⟩) (n + 1) cap')) (hown.ne h1 (by decide))).upd (Upd.setCell _ ⟨b, 3, none⟩ (.int .i64 (us + s.size))) (hown.ne h1 (by decide)))
    have hm0 : Mod (b :: blk a) w w1 := ((Mod.refl (b :: blk a) w).drew.alloc _).trans (hmod.mono (fun k _ hk => List.mem_cons_of_mem _ hk))
    exact ⟨g, cap', rfl, (h1.set 0 _).set 3 _, ho', (hm0.setCell ⟨b, 0, none⟩ _ (.inl (by simp))).setCell ⟨b, 3, none⟩ _ (.inl (by simp)), hat.imp id (fun h => by simp at h; omega)⟩
theorem clone_any (a : Option Addr) (n c : Nat) (xs : List Value) (w : World) (h : Rd w 3 a n xs) (h1 : ∀ u ∈ xs, u.oneCell' = true) (hn : n ≤ 100000) : Calls Try.prog 32 #[.slice a n c] w (ClonePost 43 3 n xs w) := by
  obtain ⟨i0, hi0, hz0, hz1, hz2⟩ := info_parts info_rel
  cases a with
  | none =>
    obtain rfl : n = 0 := h.2.1 rfl
    obtain rfl : xs = [] := List.eq_nil_of_length_eq_zero (by simpa using h.1)
    clear h h1
    have hnil : ∀ w : World, Sem.run Try.prog (binOp .eql 34 (.slice none 0 c) (.slice none 0 0)) w = .ok (.bool true) w := fun _ => by kernel_rfl
    go_enter Try.func32, Try.ntmps32
    go_wp2_with fail
    go_ret
    exact ⟨none, 0, rfl, Own.nil _ _ _ _, Below.refl _ _⟩
  | some ad =>
    have H := Lib.hid h
    have HL := Lib.hid h.1
    have H1 := Lib.hid h1
    clear h h1
    have HN : Hid (∀ (W : World), Below w.heap.size w W → ∀ j u, xs[j]? = some u → W.cell? (ad.add j) = some u) := fun W hW j u hu => by
      obtain ⟨b, o, rfl, hb, hc⟩ := H.out.2.2 ad rfl (by intro h0; subst h0; simp at hu)
      have e : (⟨b, o, none⟩ : Addr).add j = ⟨b, o + j, none⟩ := by unfold Addr.add; split <;> simp_all
      rw [e]; exact (hW.cell (p := ⟨b, o + j, none⟩) hb).trans (hc j u hu)
    have HE := Lib.hid (own_empty w 43 3)
    have hnil : ∀ w : World, Sem.run Try.prog (binOp .eql 34 (.slice (some ad) n c) (.slice none 0 0)) w = .ok (.bool false) w := fun _ => by kernel_rfl
    go_enter Try.func32, Try.ntmps32
    go_wp2_with (at_builtin; (refine wpList_append_own_at _ rfl (.tmp 5) (.tmp 6) _ rfl w.heap.size 43 i0 _ 3 32 Try.underlying34 hi0 hz0 hz1 hz2 rfl (by omega) (.slice (some ⟨w.heap.size, 0, none⟩) 0 0) 0 [] rfl HE.out ad n c xs rfl HL.out (HN.out _ ((Below.refl _ _).alloc (Nat.le_refl _) _)) H1.out (by simp only [maxLen]; omega) (by omega) (by simp) ?_); intro v1 w1 hown1 hg1 hz hat1)
    go_ret
    exact clone_post hown1 hg1
theorem rel_one (l : List (ByteArray × Int × Int)) : ∀ u ∈ relF l, u.oneCell' = true := by
  intro u hu
  simp only [relF, List.mem_flatten, List.mem_map] at hu
  obtain ⟨c, ⟨r, _, rfl⟩, hu⟩ := hu
  simp only [relC, List.mem_cons, List.not_mem_nil, or_false] at hu
  rcases hu with rfl | rfl | rfl <;> rfl
def EndPost (b : Nat) (a : Option Addr) (n cap k : Nat) (xs : List Value) (ft cats who quota : Int) (w : World) (e : Ending) (w' : World) : Prop :=
  ∃ a' c', e = .returned (.slice a' (n - k) c') ∧ Own w' w.heap.size 43 3 a' (n - k) c' (xs.drop (k * 3)) ∧ ObjAt w' b 60 (gateC a n cap n (ft + 1) 0 cats who quota) ∧ Upd b w w'
theorem end_any (b B : Nat) (a : Option Addr) (n cap k : Nat) (xs : List Value) (ft us cats who quota : Int) (w : World) (h : ObjAt w b 60 (gateC a n cap k ft us cats who quota)) (ho : Own w B 43 3 a n cap xs) (h1 : ∀ u ∈ xs, u.oneCell' = true)
    (hk : k ≤ n) (hn : n ≤ 1000) (hf0 : 0 ≤ ft) (hf1 : ft ≤ 1000) : Calls Try.prog 27 #[.pointer (some ⟨b, 0, none⟩)] w (EndPost b a n cap k xs ft cats who quota w) := by
  have H := Lib.hid h; have HO := Lib.hid ho
  have hnc := ho.le
  have hcm := ho.capMax
  unfold maxLen at hcm
  have H1 : Hid (∀ u ∈ xs.drop (k * 3), u.oneCell' = true) := fun u hu => h1 u (List.mem_of_mem_drop hu)
  clear h ho h1
  go_enter Try.func27, Try.ntmps27
  go_wp2_with fail
  refine wp_region_still_tail 9 (by kernel_rfl) (by kernel_rfl) ?_; simp only [List.take_succ_cons, List.take_zero, List.drop_succ_cons, List.drop_zero]; obtain ⟨W, hW⟩ : ∃ x, x = World.drew w := ⟨_, rfl⟩; change wpStill _ _ (World.drew w) (fun a' => wpList _ _ _ _ a' (World.drew w)) _ _; rw [← hW]
  have HW : Hid (ObjAt W b 60 (gateC a n cap k ft us cats who quota)) := by rw [Hid, hW]; exact H.out
  have HR : Hid (Rd W 3 a n xs) := by rw [Hid, hW]; exact HO.out.rd
  have HU : Hid (Upd b w W) := by rw [Hid, hW]; exact (Upd.refl _ _).drew
  have hz : Hid (W.heap.size = w.heap.size) := by rw [Hid, hW]; rfl
  have c0 := HW.out.cell 0 _ rfl; have c1 := HW.out.cell 1 _ rfl
  have hr := HR.out.cut (c := cap) hk hnc
  clear hW
  by_cases hck : cap = k
  · rw [if_pos hck] at hr
    obtain rfl : cap = k := hck
    obtain rfl : n = cap := by omega
    rw [Nat.sub_self] at hr
    have HR2 := Lib.hid hr
    clear hr
    have H1 : Hid (∀ u ∈ xs.drop (n * 3), u.oneCell' = true) := H1.out
    repeat still_step
    refine wpStill_nil ?_
    go_wp2_with fail
    refine (clone_any _ _ _ _ _ HR2.out H1.out (by omega)).mono ?_; rintro e w1 ⟨a', c', rfl, hown, hb⟩
    have h1 := HW.out.below hb
    have hb' : Upd b w w1 := HU.out.trans_below hb
    have c0 := h1.cell 0 _ rfl; have c1 := h1.cell 1 _ rfl; have c2 := h1.cell 2 _ rfl; have c3 := h1.cell 3 _ rfl
    have f1 := h1.free 1; have f2 := h1.free 2; have f3 := h1.free 3
    have hne := hown.ne h1 (by decide)
    go_wp2_with fail
    go_ret
    have ho3 := ((hown.upd (Upd.setCell w1 ⟨b, 1, none⟩ (.int .i64 n)) hne).upd (Upd.setCell _ ⟨b, 2, none⟩ (.int .i64 (ft + 1))) hne).upd (Upd.setCell _ ⟨b, 3, none⟩ (.int .i64 0)) hne
    rw [hz.out] at ho3
    rw [EndPost, Nat.sub_self]
    exact ⟨a', c', rfl, ho3, ((h1.set 1 _).set 2 _).set 3 _, ((hb'.trans (Upd.setCell _ ⟨b, 1, none⟩ _)).trans (Upd.setCell _ ⟨b, 2, none⟩ _)).trans (Upd.setCell _ ⟨b, 3, none⟩ _)⟩
  · rw [if_neg hck] at hr
    have HR2 := Lib.hid hr
    clear hr
    repeat still_step
    refine wpStill_nil ?_
    go_wp2_with fail
    refine (clone_any _ _ _ _ _ HR2.out H1.out (by omega)).mono ?_; rintro e w1 ⟨a', c', rfl, hown, hb⟩
    have h1 := HW.out.below hb
    have hb' : Upd b w w1 := HU.out.trans_below hb
    have c0 := h1.cell 0 _ rfl; have c1 := h1.cell 1 _ rfl; have c2 := h1.cell 2 _ rfl; have c3 := h1.cell 3 _ rfl
    have f1 := h1.free 1; have f2 := h1.free 2; have f3 := h1.free 3
    have hne := hown.ne h1 (by decide)
    go_wp2_with fail
    go_ret
    have ho3 := ((hown.upd (Upd.setCell w1 ⟨b, 1, none⟩ (.int .i64 n)) hne).upd (Upd.setCell _ ⟨b, 2, none⟩ (.int .i64 (ft + 1))) hne).upd (Upd.setCell _ ⟨b, 3, none⟩ (.int .i64 0)) hne
    rw [hz.out] at ho3
    exact ⟨a', c', rfl, ho3, ((h1.set 1 _).set 2 _).set 3 _, ((hb'.trans (Upd.setCell _ ⟨b, 1, none⟩ _)).trans (Upd.setCell _ ⟨b, 2, none⟩ _)).trans (Upd.setCell _ ⟨b, 3, none⟩ _)⟩
end Go.Proofs.Ytnhapfoebiniiaa
