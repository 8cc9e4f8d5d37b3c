/- The walks of package gate: the box; the reference's. -/
import Derived.Test.YtnhapfoebiniiaaSl
import Derived.Test.YtnhapfoebiniiaaRows
namespace Go.Proofs.Ytnhapfoebiniiaa
open Go.RowKit Go.Sort
set_option maxHeartbeats 400000
set_option maxRecDepth 100000

theorem info_str : (Try.prog.info? 9).map (fun i => (i.zero, i.size, i.bytes)) = some (some (.string ⟨#[]⟩), 1, 16) := by kernel_rfl
def strF (l : List ByteArray) : List Value := l.map Value.string
theorem str_one (l : List ByteArray) : ∀ u ∈ strF l, u.oneCell' = true := by
  intro u hu
  obtain ⟨s, _, rfl⟩ := List.mem_map.1 hu
  rfl
theorem strF_drop (l : List ByteArray) (k : Nat) : (strF l).drop (k * 1) = strF (l.drop k) := by simp [strF]
theorem strF_snoc (l : List ByteArray) (s : ByteArray) : strF (l ++ [s]) = strF l ++ [.string s] := by simp [strF]
theorem clones_any (a : Option Addr) (n c : Nat) (xs : List Value) (w : World) (h : Rd w 1 a n xs) (h1 : ∀ u ∈ xs, u.oneCell' = true) (hn : n ≤ 100000) : Calls Try.prog 34 #[.slice a n c] w (ClonePost 9 1 n xs w) := by
  obtain ⟨i0, hi0, hz0, hz1, hz2⟩ := info_parts info_str
  cases a with
  | none =>
    obtain rfl : n = 0 := h.2.1 rfl
    obtain rfl : xs = [] := List.eq_nil_of_length_eq_zero (by simpa using h.1)
    clear h h1
    have hnil : ∀ w : World, Sem.run Try.prog (binOp .eql 46 (.slice none 0 c) (.slice none 0 0)) w = .ok (.bool true) w := fun _ => by kernel_rfl
    go_enter Try.func34, Try.ntmps34
    go_wp2_with fail
    go_ret
    exact ⟨none, 0, rfl, Own.nil _ _ _ _, Below.refl _ _⟩
  | some ad =>
    have H := Lib.hid h
    have HL := Lib.hid h.1
    have H1 := Lib.hid h1
    clear h h1
    have HN : Hid (∀ (W : World), Below w.heap.size w W → ∀ j u, xs[j]? = some u → W.cell? (ad.add j) = some u) := fun W hW j u hu => by
      obtain ⟨b, o, rfl, hb, hc⟩ := H.out.2.2 ad rfl (by intro h0; subst h0; simp at hu)
      have e : (⟨b, o, none⟩ : Addr).add j = ⟨b, o + j, none⟩ := by unfold Addr.add; split <;> simp_all
      rw [e]; exact (hW.cell (p := ⟨b, o + j, none⟩) hb).trans (hc j u hu)
    have HE := Lib.hid (own_empty w 9 1)
    have hnil : ∀ w : World, Sem.run Try.prog (binOp .eql 46 (.slice (some ad) n c) (.slice none 0 0)) w = .ok (.bool false) w := fun _ => by kernel_rfl
    go_enter Try.func34, Try.ntmps34
    go_wp2_with (at_builtin; (refine wpList_append_own_at _ rfl (.tmp 5) (.tmp 6) _ rfl w.heap.size 9 i0 _ 1 16 Try.underlying46 hi0 hz0 hz1 hz2 rfl (by omega) (.slice (some ⟨w.heap.size, 0, none⟩) 0 0) 0 [] rfl HE.out ad n c xs rfl HL.out (HN.out _ ((Below.refl _ _).alloc (Nat.le_refl _) _)) H1.out (by simp only [maxLen]; omega) (by omega) (by simp) ?_); intro v1 w1 hown1 hg1 hz hat1)
    go_ret
    exact clone_post hown1 hg1
/-- The box in memory. -/
structure BSt (w : World) (B b : Nat) (a : Option Addr) (cap : Nat) (L : List ByteArray) : Prop where
  obj : ObjAt w b 62 [.slice a L.length cap, .bool true]
  own : Own w B 9 1 a L.length cap (strF L)
namespace BSt
variable {w w' : World} {B b cap : Nat} {a : Option Addr} {L : List ByteArray} {S : List Nat}
theorem mod (h : BSt w B b a cap L) (hm : Mod S w w') (h1 : b ∉ S) (h2 : ∀ x ∈ blk a, x ∉ S) : BSt w' B b a cap L := ⟨h.obj.mod hm h1, h.own.mod hm h2⟩
theorem below (h : BSt w B b a cap L) (hb : Below w.heap.size w w') : BSt w' B b a cap L := ⟨h.obj.below hb, h.own.below hb⟩
end BSt
theorem bnone_any (b : Nat) (v : Value) (w : World) (h : ObjAt w b 62 [v, .bool true]) : Calls Try.prog 33 #[.pointer (some ⟨b, 0, none⟩)] w fun e w' => e = .returned (.bool false) ∧ w = w' := by
  have hm := h.cell 1 _ rfl
  clear h
  go_enter Try.func33, Try.ntmps33
  go_wp2
  go_ret
  exact ⟨rfl, rfl⟩
theorem blen_any (B b : Nat) (a : Option Addr) (cap : Nat) (L : List ByteArray) (w : World) (h : BSt w B b a cap L) (hn : L.length ≤ 1000) : Calls Try.prog 23 #[.pointer (some ⟨b, 0, none⟩)] w fun e w' => e = .returned (.int .i64 L.length) ∧ w = w' := by
  have H := Lib.hid h
  have hm := h.obj.cell 0 _ rfl
  clear h
  go_enter Try.func23, Try.ntmps23
  go_wp2_with (go_at_call 33; refine (bnone_any _ _ _ H.out.obj).mono ?_; rintro e w' ⟨rfl, rfl⟩)
  go_ret
  exact ⟨rfl, rfl⟩
theorem newbox_any (B : Nat) (w : World) : Calls Try.prog 20 #[] w fun e w' => e = .returned (.pointer (some ⟨w.heap.size, 0, none⟩)) ∧ BSt w' B w.heap.size none 0 [] ∧ Below w.heap.size w w' := by
  go_enter Try.func20, Try.ntmps20
  go_wp2
  go_ret
  exact ⟨rfl, ⟨new_block w _ _ rfl, Own.nil _ _ _ _⟩, (Below.refl _ _).alloc (Nat.le_refl _) _⟩
def pushB (L : List ByteArray) (s : ByteArray) : List ByteArray := if 4 < L.length + 1 then (L ++ [s]).drop 1 else L ++ [s]
/-- What a call leaves of a box: another row, in the old block or a new one. -/
def BPost (r : Value) (B b : Nat) (a : Option Addr) (L' : List ByteArray) (w : World) (e : Ending) (w' : World) : Prop :=
  ∃ a' cap', e = .returned r ∧ BSt w' B b a' cap' L' ∧ Mod (b :: blk a) w w' ∧ ∀ k ∈ blk a', k ∈ blk a ∨ w.heap.size ≤ k
theorem put_any (B b : Nat) (a : Option Addr) (cap : Nat) (L : List ByteArray) (s : ByteArray) (w : World) (h : BSt w B b a cap L) (hn : L.length ≤ 4) (hB : B ≤ w.heap.size) : Calls Try.prog 21 #[.pointer (some ⟨b, 0, none⟩), .string s] w (BPost (.int .i64 0) B b a (pushB L s) w) := by
  obtain ⟨i0, hi0, hz0, hz1, hz2⟩ := info_parts info_str
  have H := Lib.hid h
  have c0 := h.obj.cell 0 _ rfl
  have hlt := h.obj.lt
  have hnb := h.own.ne h.obj (by decide)
  clear h
  have hm0 : ∀ (w1 : World), Mod (blk a) (w.alloc (.cells #[.string s] 9)) w1 → Mod (b :: blk a) w w1 := fun w1 h => ((Mod.refl (b :: blk a) w).alloc _).trans (h.mono (fun k _ hk => List.mem_cons_of_mem _ hk))
  have HM0 := Lib.hid hm0
  clear hm0
  by_cases h4 : L.length = 4
  · obtain ⟨x0, x1, x2, x3, rfl⟩ : ∃ x0 x1 x2 x3, L = [x0, x1, x2, x3] := by
      match L, h4 with
      | [x0, x1, x2, x3], _ => exact ⟨x0, x1, x2, x3, rfl⟩
    clear h4
    go_enter Try.func21, Try.ntmps21
    go_wp2_with (first | (go_at_call 33; refine (bnone_any _ _ _ H.out.obj).mono ?_; rintro e w' ⟨rfl, rfl⟩) | (at_builtin; (refine wpList_own rfl (.tmp 12) (.tmp 14) 46 rfl B 9 i0 _ 1 16 Try.underlying46 hi0 hz0 hz1 hz2 rfl (by omega) a 4 cap (strF [x0, x1, x2, x3]) rfl (H.out.own.below ((Below.refl _ _).alloc (Nat.le_refl _) _)) w.heap.size [.string s] rfl (new_block _ _ _ rfl) rfl (by simp [Value.oneCell']) (by simp only [maxLen]; omega) (by omega) (by simp; omega) ?_); intro g cap' w1 hown hmod hat; have h1 := (H.out.obj.below ((Below.refl _ _).alloc (Nat.le_refl _) _)).mod hmod hnb; have d0 := h1.cell 0 _ rfl; have e0 := h1.free 0; have hcap := hown.le))
    have ho1 := hown.upd (Upd.setCell w1 ⟨b, 0, none⟩ (.slice (some ⟨g, 0, none⟩) (4 + 1) cap')) (hown.ne h1 (by decide))
    have hr1 := ho1.rd.cut (k := 1) (c := cap') (by omega) (by omega)
    rw [if_neg (by omega)] at hr1
    refine (clones_any _ _ _ _ _ hr1 (fun u hu => str_one [x0, x1, x2, x3, s] u (List.mem_of_mem_drop hu)) (by omega)).mono ?_; rintro e w2 ⟨a', c', rfl, hown2, hb2⟩
    have h2 := (h1.set 0 (.slice (some ⟨g, 0, none⟩) (4 + 1) cap')).below hb2
    have d2 := h2.cell 0 _ rfl; have e2 := h2.free 0
    go_wp2_with fail
    go_ret
    refine ⟨a', c', rfl, ⟨h2.set 0 _, ?_⟩, ?_, ?_⟩
    · have := hown2.upd (Upd.setCell w2 ⟨b, 0, none⟩ (.slice a' 4 c')) (hown2.ne h2 (by decide))
      exact this.mono (by simpa using Nat.le_trans hB (HM0.out _ hmod).size)
    · exact ((((HM0.out _ hmod).setCell ⟨b, 0, none⟩ _ (.inl (by simp))).trans (Mod.ofBelow hb2)).setCell ⟨b, 0, none⟩ _ (.inl (by simp)))
    · intro k hk
      have := (hown2.ge k hk).1
      right
      simp at this
      exact Nat.le_trans (HM0.out _ hmod).size this
  · have hP : Hid (pushB L s = L ++ [s]) := by rw [Hid, pushB, if_neg (by omega)]
    go_enter Try.func21, Try.ntmps21
    go_wp2_with (first | (go_at_call 33; refine (bnone_any _ _ _ H.out.obj).mono ?_; rintro e w' ⟨rfl, rfl⟩) | (at_builtin; (refine wpList_own rfl (.tmp 12) (.tmp 14) 46 rfl B 9 i0 _ 1 16 Try.underlying46 hi0 hz0 hz1 hz2 rfl (by omega) a L.length cap (strF L) rfl (H.out.own.below ((Below.refl _ _).alloc (Nat.le_refl _) _)) w.heap.size [.string s] rfl (new_block _ _ _ rfl) rfl (by simp [Value.oneCell']) (by simp only [maxLen]; omega) (by omega) (by simp; omega) ?_); intro g cap' w1 hown hmod hat; have h1 := (H.out.obj.below ((Below.refl _ _).alloc (Nat.le_refl _) _)).mod hmod hnb; have d0 := h1.cell 0 _ rfl; have e0 := h1.free 0; have hcap := hown.le))
    go_ret
    refine ⟨some ⟨g, 0, none⟩, cap', rfl, ?_, (HM0.out _ hmod).setCell ⟨b, 0, none⟩ _ (.inl (by simp)), fun k hk => ?_⟩
    · rw [hP.out]
      exact ⟨by rw [List.length_append]; exact h1.set 0 _, by rw [List.length_append, strF_snoc]; exact hown.upd (Upd.setCell w1 ⟨b, 0, none⟩ _) (hown.ne h1 (by decide))⟩
    · simp only [blk, Option.map_some, Option.toList_some, List.mem_singleton] at hk
      subst hk
      exact hat.imp id (fun h => by simp at h; omega)
theorem take_no (B b : Nat) (a : Option Addr) (cap : Nat) (w : World) (h : BSt w B b a cap []) : Calls Try.prog 24 #[.pointer (some ⟨b, 0, none⟩)] w fun e w' => e = .returned (.tuple #[.string ⟨#[]⟩, .bool false]) ∧ w = w' := by
  have H := Lib.hid h
  have c0 := h.obj.cell 0 _ rfl
  clear h
  go_enter Try.func24, Try.ntmps24
  go_wp2_with (go_at_call 33; refine (bnone_any _ _ _ H.out.obj).mono ?_; rintro e w' ⟨rfl, rfl⟩)
  go_ret2
  exact ⟨rfl, rfl⟩
theorem take_yes (B b : Nat) (a : Option Addr) (cap : Nat) (s : ByteArray) (L : List ByteArray) (w : World) (h : BSt w B b a cap (s :: L)) (hn : L.length ≤ 1000) (hB : B ≤ w.heap.size) : Calls Try.prog 24 #[.pointer (some ⟨b, 0, none⟩)] w (BPost (.tuple #[.string s, .bool true]) B b a L w) := by
  have H := Lib.hid h
  have c0 := h.obj.cell 0 _ rfl
  have hcap := h.own.le
  obtain ⟨g, rfl, _, hg⟩ := h.own.at_ (by simp)
  have k0 := h.own.cell 0 (.string s) rfl
  have hr1 := h.own.rd.cut (k := 1) (c := cap) (by simp) hcap
  have hlen : (s :: L).length - 1 = L.length := rfl
  rw [hlen] at hr1
  have e2 : (strF (s :: L)).drop (1 * 1) = strF L := rfl
  rw [e2] at hr1
  have hcap' : L.length + 1 ≤ cap := hcap
  clear h hcap hlen e2
  by_cases h1 : cap = 1
  · obtain rfl : L = [] := List.eq_nil_of_length_eq_zero (by omega)
    subst h1
    rw [if_pos rfl] at hr1
    have HR := Lib.hid hr1
    clear hr1 hcap'
    go_enter Try.func24, Try.ntmps24
    go_wp2_with (go_at_call 33; refine (bnone_any _ _ _ H.out.obj).mono ?_; rintro e w' ⟨rfl, rfl⟩)
    refine (clones_any _ _ _ _ _ HR.out (str_one _) (by simp)).mono ?_; rintro e w2 ⟨a', c', rfl, hown2, hb2⟩
    have h2 := H.out.obj.below hb2
    have d2 := h2.cell 0 _ rfl; have e2 := h2.free 0
    go_wp2_with fail
    go_ret2
    exact ⟨a', c', rfl, ⟨h2.set 0 _, (hown2.upd (Upd.setCell w2 ⟨b, 0, none⟩ _) (hown2.ne h2 (by decide))).mono hB⟩, (Mod.ofBelow hb2).setCell ⟨b, 0, none⟩ _ (.inl (by simp)), fun k hk => .inr (hown2.ge k hk).1⟩
  · rw [if_neg h1] at hr1
    have HR := Lib.hid hr1
    have hc1 : 1 < cap := by omega
    clear hr1 h1
    go_enter Try.func24, Try.ntmps24
    go_wp2_with (go_at_call 33; refine (bnone_any _ _ _ H.out.obj).mono ?_; rintro e w' ⟨rfl, rfl⟩)
    trace_state
    refine (clones_any _ _ _ _ _ HR.out (str_one _) (by omega)).mono ?_; rintro e w2 ⟨a', c', rfl, hown2, hb2⟩
    have h2 := H.out.obj.below hb2
    have d2 := h2.cell 0 _ rfl; have e2 := h2.free 0
    go_wp2_with fail
    go_ret2
    exact ⟨a', c', rfl, ⟨h2.set 0 _, (hown2.upd (Upd.setCell w2 ⟨b, 0, none⟩ _) (hown2.ne h2 (by decide))).mono hB⟩, (Mod.ofBelow hb2).setCell ⟨b, 0, none⟩ _ (.inl (by simp)), fun k hk => .inr (hown2.ge k hk).1⟩
end Go.Proofs.Ytnhapfoebiniiaa
