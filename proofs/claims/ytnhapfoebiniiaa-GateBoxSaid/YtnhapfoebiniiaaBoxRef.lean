/- The reference's box. -/
import Derived.Test.YtnhapfoebiniiaaBox
namespace Go.Proofs.Ytnhapfoebiniiaa
open Go.RowKit Go.Sort
set_option maxHeartbeats 400000
set_option maxRecDepth 100000

/-- The reference's box in memory. -/
structure RBSt (w : World) (b : Nat) (a : Option Addr) (c : Nat) (L : List ByteArray) : Prop where
  obj : ObjAt w b 51 [.slice a L.length c]
  rd : Rd w 1 a L.length (strF L)
  le : L.length ≤ c
  max : c ≤ maxLen
  lt : ∀ k ∈ blk a, k < w.heap.size
  ne : b ∉ blk a
theorem RBSt.mod {w w' : World} {b c : Nat} {a : Option Addr} {L : List ByteArray} {S : List Nat} (h : RBSt w b a c L) (hm : Mod S w w') (h1 : b ∉ S) (h2 : ∀ k ∈ blk a, k ∉ S) : RBSt w' b a c L := ⟨h.obj.mod hm h1, h.rd.mod hm h2, h.le, h.max, fun k hk => Nat.lt_of_lt_of_le (h.lt k hk) hm.size, h.ne⟩
theorem RBSt.below {w w' : World} {b c : Nat} {a : Option Addr} {L : List ByteArray} (h : RBSt w b a c L) (hb : Below w.heap.size w w') : RBSt w' b a c L := h.mod (Mod.ofBelow (S := []) hb) (by simp) (by simp)
def RBPost (r : Value) (b : Nat) (L' : List ByteArray) (w : World) (e : Ending) (w' : World) : Prop :=
  ∃ a' c', e = .returned r ∧ RBSt w' b a' c' L' ∧ Upd b w w' ∧ ∀ k ∈ blk a', w.heap.size ≤ k
/-- The new row of a copy: append onto an empty one. -/
theorem wpList_copy {P : Program} {w : World} {ops : Array Oper} {rest : List Oper} {o : Oper} {a : Act} {Q : Exit → Act → World → Prop} (hgd : o.guard = none) (s x : Operand) (t : TypeId)
    (ho : o.op = .call { callee := .builtin .append, args := #[s, x], argTypes := #[t, t] })
    (B : Nat) (e : TypeId) (i : TypeInfo) (z : Value) (size bytes : Nat) (ht : P.underlying t = some (.slice e)) (hi : P.info? e = some i) (hz : i.zero = some z)
    (hsize : i.size = size) (hby : i.bytes = bytes) (hzs : z.cells.size = size) (hsz : 0 < size) (g : Nat)
    (hs : a.eval s = .slice (some ⟨g, 0, none⟩) 0 0) (hown : w.ownsRow B e size (.slice (some ⟨g, 0, none⟩) 0 0) 0 [])
    (A : Option Addr) (n c : Nat) (xs : List Value) (hx : a.eval x = .slice A n c) (hr : Rd w size A n xs) (h1 : ∀ u ∈ xs, u.oneCell' = true)
    (h63 : n ≤ maxLen) (hbytes : n * bytes ≤ 140737488355328) (hbase : B ≤ w.heap.size)
    (h : ∀ a' c' w', Own w' B e size a' n c' xs → Mod [g] w w' → wpList P ops Q rest (a.put o.dst (.slice a' n c')) w') : wpList P ops Q (o :: rest) a w := by
  cases A with
  | none =>
    obtain rfl : n = 0 := hr.2.1 rfl
    obtain rfl : xs = [] := List.eq_nil_of_length_eq_zero (by simpa using hr.1)
    refine wpList_plain hgd fun _ hK => ?_
    have hrun : (Builtin.append_ #[t, t] o.type #[.slice (some ⟨g, 0, none⟩) 0 0, .slice none 0 c]).run P w = .ok (.slice (some ⟨g, 0, none⟩) 0 0) w := by
      simp [Builtin.append_, run_underlying ht, sizeOf, typeInfo, hi, Builtin.lenOf, Builtin.firstCells, storeCells]
    unfold Oper.wp execOp
    simp only [ho, resolve, invoke, builtin, Sem.run_bind, Sem.run_pure, Result.andThen_ok, List.map_toArray, List.map_cons, List.map_nil, hs, hx, hrun]
    exact hK _ _ (h _ _ _ hown (Mod.refl _ _))
  | some ad =>
    have hn : ∀ j u, xs[j]? = some u → w.cell? (ad.add j) = some u := fun j u hu => by
      obtain ⟨b, o', rfl, hb, hc⟩ := hr.2.2 ad rfl (by intro h0; subst h0; simp at hu)
      have e : (⟨b, o', none⟩ : Addr).add j = ⟨b, o' + j, none⟩ := by unfold Addr.add; split <;> simp_all
      rw [e]; exact hc j u hu
    refine wpList_append_own_at w hgd s x t ho B e i z size bytes ht hi hz hsize hby hzs hsz _ 0 [] hs hown ad n c xs hx hr.1 hn h1 (by omega) (by simpa using hbytes) hbase ?_
    intro v' w' h2 h3 h4 h5
    rw [Nat.zero_add, List.nil_append] at h2
    obtain ⟨a', c', rfl, ho'⟩ := own_form h2
    exact h a' c' w' ho' (Mod.ofGrown h3 (fun k hk => by simp [Value.ownBlock] at hk; simp [hk]))
theorem rput_any (b : Nat) (a : Option Addr) (c : Nat) (L : List ByteArray) (s : ByteArray) (w : World) (h : RBSt w b a c L) (hn : L.length ≤ 4) : Calls Try.prog 22 #[.pointer (some ⟨b, 0, none⟩), .string s] w (RBPost (.tuple #[]) b (pushB L s) w) := by
  obtain ⟨i0, hi0, hz0, hz1, hz2⟩ := info_parts info_str
  have H := Lib.hid h
  have c0 := h.obj.cell 0 _ rfl
  have hlt := h.obj.lt
  clear h
  have HE := Lib.hid (own_empty w 9 1)
  have HA : Hid (Below w.heap.size w (w.alloc (.cells #[] 9))) := (Below.refl _ _).alloc (Nat.le_refl _) _
  by_cases h4 : L.length = 4
  · obtain ⟨x0, x1, x2, x3, rfl⟩ : ∃ x0 x1 x2 x3, L = [x0, x1, x2, x3] := by
      match L, h4 with
      | [x0, x1, x2, x3], _ => exact ⟨x0, x1, x2, x3, rfl⟩
    clear h4
    go_enter Try.func22, Try.ntmps22
    go_wp2_with (first | (at_builtin; (refine wpList_copy rfl (.tmp 5) (.tmp 9) 46 rfl w.heap.size 9 i0 _ 1 16 Try.underlying46 hi0 hz0 hz1 hz2 rfl (by omega) w.heap.size rfl HE.out a 4 c (strF [x0, x1, x2, x3]) rfl (H.out.rd.below HA.out) (str_one [x0, x1, x2, x3]) (by simp only [maxLen]; omega) (by omega) (by simp) ?_); intro a1 c1 w1 hown1 hmod1; have hb1 : Below w.heap.size w w1 := HA.out.trans (hmod1.below (by simp) (by simp)); have hz1' := hb1.size) | (at_builtin; (refine wpList_own rfl (.tmp 10) (.tmp 12) 46 rfl w.heap.size 9 i0 _ 1 16 Try.underlying46 hi0 hz0 hz1 hz2 rfl (by omega) a1 4 c1 (strF [x0, x1, x2, x3]) rfl (hown1.below ((Below.refl _ _).alloc (Nat.le_refl _) _)) w1.heap.size [.string s] rfl (new_block _ _ _ rfl) rfl (by simp [Value.oneCell']) (by simp only [maxLen]; omega) (by omega) (by simp; omega) ?_); intro g2 c2 w2 hown2 hmod2 hat2; have hb2 : Below w.heap.size w w2 := (hb1.alloc hz1' _).trans (hmod2.below (fun k hk => (hown1.ge k hk).1) (by simp; omega)); have h2 := H.out.obj.below hb2; have d2 := h2.cell 0 _ rfl; have f2 := h2.free 0; have hcap := hown2.le; have hcm := hown2.capMax))
    go_end0
    have hr := hown2.rd.cut (k := 1) (c := c2) (by omega) (by omega)
    rw [if_neg (by omega)] at hr
    have hg2 := (hown2.ge g2 (by simp [blk])).1
    have hne : b ∉ blk (some (⟨g2, 1, none⟩ : Addr)) := by simp only [blk, Option.map_some, Option.toList_some, List.mem_singleton]; omega
    refine ⟨some ⟨g2, 1, none⟩, c2 - 1, rfl, ⟨h2.set 0 _, Rd.upd (w := w2) hr (Upd.setCell w2 ⟨b, 0, none⟩ _) hne, by show 4 ≤ c2 - 1; omega, by omega, ?_, hne⟩, (Upd.of_below hb2).trans (Upd.setCell w2 ⟨b, 0, none⟩ _), fun k hk => ?_⟩
    · intro k hk
      simp only [blk, Option.map_some, Option.toList_some, List.mem_singleton] at hk
      have := (hown2.ge g2 (by simp [blk])).2
      simp; omega
    · simp only [blk, Option.map_some, Option.toList_some, List.mem_singleton] at hk
      omega
  · have hP : Hid (pushB L s = L ++ [s]) := by rw [Hid, pushB, if_neg (by omega)]
    go_enter Try.func22, Try.ntmps22
    go_wp2_with (first | (at_builtin; (refine wpList_copy rfl (.tmp 5) (.tmp 9) 46 rfl w.heap.size 9 i0 _ 1 16 Try.underlying46 hi0 hz0 hz1 hz2 rfl (by omega) w.heap.size rfl HE.out a L.length c (strF L) rfl (H.out.rd.below HA.out) (str_one L) (by simp only [maxLen]; omega) (by omega) (by simp) ?_); intro a1 c1 w1 hown1 hmod1; have hb1 : Below w.heap.size w w1 := HA.out.trans (hmod1.below (by simp) (by simp)); have hz1' := hb1.size) | (at_builtin; (refine wpList_own rfl (.tmp 10) (.tmp 12) 46 rfl w.heap.size 9 i0 _ 1 16 Try.underlying46 hi0 hz0 hz1 hz2 rfl (by omega) a1 L.length c1 (strF L) rfl (hown1.below ((Below.refl _ _).alloc (Nat.le_refl _) _)) w1.heap.size [.string s] rfl (new_block _ _ _ rfl) rfl (by simp [Value.oneCell']) (by simp only [maxLen]; omega) (by omega) (by simp; omega) ?_); intro g2 c2 w2 hown2 hmod2 hat2; have hb2 : Below w.heap.size w w2 := (hb1.alloc hz1' _).trans (hmod2.below (fun k hk => (hown1.ge k hk).1) (by simp; omega)); have h2 := H.out.obj.below hb2; have d2 := h2.cell 0 _ rfl; have f2 := h2.free 0; have hcap := hown2.le; have hcm := hown2.capMax))
    go_end0
    have hg2 := (hown2.ge g2 (by simp [blk])).1
    have hne : b ∉ blk (some (⟨g2, 0, none⟩ : Addr)) := by simp only [blk, Option.map_some, Option.toList_some, List.mem_singleton]; omega
    have hrd := hown2.rd.upd (Upd.setCell w2 ⟨b, 0, none⟩ (.slice (some ⟨g2, 0, none⟩) (L.length + 1) c2)) hne
    refine ⟨some ⟨g2, 0, none⟩, c2, rfl, ?_, (Upd.of_below hb2).trans (Upd.setCell w2 ⟨b, 0, none⟩ _), fun k hk => ?_⟩
    · rw [hP.out]
      refine ⟨by rw [List.length_append]; exact h2.set 0 _, by rw [List.length_append, strF_snoc]; exact hrd, by rw [List.length_append]; exact hcap, hcm, ?_, hne⟩
      intro k hk
      have := (hown2.ge k hk).2
      simpa using this
    · exact (hown2.ge k hk).1
theorem rtake_no (b : Nat) (a : Option Addr) (c : Nat) (w : World) (h : RBSt w b a c []) : Calls Try.prog 25 #[.pointer (some ⟨b, 0, none⟩)] w fun e w' => e = .returned (.tuple #[.string ⟨#[]⟩, .bool false]) ∧ w = w' := by
  have c0 := h.obj.cell 0 _ rfl
  clear h
  go_enter Try.func25, Try.ntmps25
  go_wp2_with fail
  go_ret2
  exact ⟨rfl, rfl⟩
theorem rtake_yes (b : Nat) (a : Option Addr) (c : Nat) (s : ByteArray) (L : List ByteArray) (w : World) (h : RBSt w b a c (s :: L)) (hn : L.length ≤ 1000) : Calls Try.prog 25 #[.pointer (some ⟨b, 0, none⟩)] w (RBPost (.tuple #[.string s, .bool true]) b L w) := by
  obtain ⟨i0, hi0, hz0, hz1, hz2⟩ := info_parts info_str
  have H := Lib.hid h
  have c0 := h.obj.cell 0 _ rfl
  have hle : L.length + 1 ≤ c := h.le
  have hcm := h.max
  unfold maxLen at hcm
  have ha : a ≠ none := fun h0 => by have := h.rd.2.1 h0; simp at this
  obtain ⟨p, rfl⟩ := Option.ne_none_iff_exists'.1 ha
  obtain ⟨b0, o0, rfl, hb0, gc⟩ := h.rd.2.2 p rfl (by simp [strF])
  have k0 := gc 0 (.string s) rfl
  rw [Nat.add_zero] at k0
  have hr1 := h.rd.cut (k := 1) (c := c) (by simp) h.le
  have hlen : (s :: L).length - 1 = L.length := rfl
  have e2 : (strF (s :: L)).drop (1 * 1) = strF L := rfl
  rw [hlen, e2] at hr1
  have hlt := h.obj.lt
  clear h hlen e2 ha gc
  have HE := Lib.hid (own_empty w 9 1)
  have HA : Hid (Below w.heap.size w (w.alloc (.cells #[] 9))) := (Below.refl _ _).alloc (Nat.le_refl _) _
  by_cases h1 : c = 1
  · obtain rfl : L = [] := List.eq_nil_of_length_eq_zero (by omega)
    subst h1
    rw [if_pos rfl] at hr1
    have HR := Lib.hid hr1
    clear hr1
    go_enter Try.func25, Try.ntmps25
    go_wp2_with (at_builtin; (refine wpList_copy rfl (.tmp 18) (.tmp 23) 46 rfl w.heap.size 9 i0 _ 1 16 Try.underlying46 hi0 hz0 hz1 hz2 rfl (by omega) w.heap.size rfl HE.out (some ⟨b0, o0, none⟩) 0 0 (strF []) rfl (HR.out.below HA.out) (str_one []) (by simp only [maxLen]; omega) (by omega) (by simp) ?_); intro a1 c1 w1 hown1 hmod1; have hb1 : Below w.heap.size w w1 := HA.out.trans (hmod1.below (by simp) (by simp)); have h2 := H.out.obj.below hb1; have d2 := h2.cell 0 _ rfl; have f2 := h2.free 0)
    go_ret2
    have hne : b ∉ blk a1 := hown1.ne h2 (by decide)
    exact ⟨a1, c1, rfl, ⟨h2.set 0 _, hown1.rd.upd (Upd.setCell w1 ⟨b, 0, none⟩ _) hne, hown1.le, hown1.capMax, fun k hk => by have := (hown1.ge k hk).2; simpa using this, hne⟩, (Upd.of_below hb1).trans (Upd.setCell w1 ⟨b, 0, none⟩ _), fun k hk => (hown1.ge k hk).1⟩
  · rw [if_neg h1] at hr1
    have HR := Lib.hid hr1
    have hc1 : 1 < c := by omega
    have e3 : Option.map (fun x : Addr => x.add (1 * 1)) (some ⟨b0, o0, none⟩) = some ⟨b0, o0 + 1, none⟩ := rfl
    rw [e3] at HR
    clear hr1 h1 e3
    go_enter Try.func25, Try.ntmps25
    go_wp2_with (at_builtin; (refine wpList_copy rfl (.tmp 18) (.tmp 23) 46 rfl w.heap.size 9 i0 _ 1 16 Try.underlying46 hi0 hz0 hz1 hz2 rfl (by omega) w.heap.size rfl HE.out (some ⟨b0, o0 + 1, none⟩) L.length (c - 1) (strF L) rfl (HR.out.below HA.out) (str_one L) (by simp only [maxLen]; omega) (by omega) (by simp) ?_); intro a1 c1 w1 hown1 hmod1; have hb1 : Below w.heap.size w w1 := HA.out.trans (hmod1.below (by simp) (by simp)); have h2 := H.out.obj.below hb1; have d2 := h2.cell 0 _ rfl; have f2 := h2.free 0)
    go_ret2
    have hne : b ∉ blk a1 := hown1.ne h2 (by decide)
    exact ⟨a1, c1, rfl, ⟨h2.set 0 _, hown1.rd.upd (Upd.setCell w1 ⟨b, 0, none⟩ _) hne, hown1.le, hown1.capMax, fun k hk => by have := (hown1.ge k hk).2; simpa using this, hne⟩, (Upd.of_below hb1).trans (Upd.setCell w1 ⟨b, 0, none⟩ _), fun k hk => (hown1.ge k hk).1⟩
end Go.Proofs.Ytnhapfoebiniiaa
