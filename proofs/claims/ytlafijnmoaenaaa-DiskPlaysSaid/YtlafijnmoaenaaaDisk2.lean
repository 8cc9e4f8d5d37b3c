/- Package disk: the state; none, label, copied, put. -/
import Derived.Test.YtlafijnmoaenaaaDisk1
import Derived.Laws.CopyOwn
import Derived.Lib.BufferWrite
namespace Go.Proofs.Ytlafijnmoaenaaa
set_option linter.unusedVariables false
set_option linter.unusedSimpArgs false
set_option linter.unnecessarySimpa false
open Go.RowKit Go.Sort
set_option maxHeartbeats 400000
set_option maxRecDepth 100000

def inC (l : List Int) : List Value := l.map (Value.int .i64)
theorem inC_get (l : List Int) (k : Nat) (h : k < l.length) : (inC l)[k]? = some (.int .i64 l[k]) := by simp [inC, h]
/-- A disk in memory. -/
structure DS (w : World) (B dd tt : Nat) (a : Option Addr) (cap : Nat) (R : List Rn) (la : Option Addr) (lc : Nat) (lb : List Int) (mb n : Nat) (f : Nat → List Int) : Prop where
  obj : ObjAt w dd 28 [.pointer (some ⟨tt, 0, none⟩), .slice la lb.length lc, .map (some mb)]
  t : TSt w B tt a cap 32 R
  lab : Own w B 3 1 la lb.length lc (inC lb)
  m : MapF w mb n f
  own : ∀ r ∈ R, r.2.2 < lb.length
  sec : ∀ k, (f k).length = 16
  ge : B ≤ mb
namespace DS
variable {w w' : World} {B dd tt cap lc mb n : Nat} {a la : Option Addr} {R : List Rn} {lb : List Int} {f : Nat → List Int}
theorem below (h : DS w B dd tt a cap R la lc lb mb n f) (hb : Below w.heap.size w w') : DS w' B dd tt a cap R la lc lb mb n f := ⟨h.obj.below hb, h.t.below hb, h.lab.below hb, h.m.below hb, h.own, h.sec, h.ge⟩
theorem notMap (h : DS w B dd tt a cap R la lc lb mb n f) {k : Nat} (hk : ∃ o : Obj, w.heap[k]? = some o ∧ o.isCells = true) : k ≠ mb := fun e => by
  subst e
  obtain ⟨o, h1, h2⟩ := h.m.noCells
  obtain ⟨o', h3, h4⟩ := hk
  rw [h1] at h3
  cases h3
  cases o with
  | cells cs t p => exact h2 cs t p rfl
  | _ => cases h4
end DS
theorem ObjAt.isC {w : World} {b : Nat} {t : TypeId} {cs : List Value} (h : ObjAt w b t cs) : ∃ o : Obj, w.heap[b]? = some o ∧ o.isCells = true := ⟨_, h, rfl⟩
theorem Own.isC {w : World} {B size n cap : Nat} {e : TypeId} {a : Option Addr} {xs : List Value} (h : Own w B e size a n cap xs) : ∀ k ∈ blk a, ∃ o : Obj, w.heap[k]? = some o ∧ o.isCells = true := fun k hk => by
  obtain ⟨p, rfl, rfl⟩ := mem_blk.1 hk
  rcases h.2 with ⟨hv, _⟩ | ⟨g, c, cur, hv, hb, hg, _⟩
  · cases hv
  · injection hv with h1
    injection h1 with h1
    subst h1
    exact ⟨_, hg, rfl⟩
namespace DS
variable {w w' : World} {B dd tt cap lc mb n : Nat} {a la : Option Addr} {R : List Rn} {lb : List Int} {f : Nat → List Int}
/-- The map turns. -/
theorem turn (h : DS w B dd tt a cap R la lc lb mb n f) {n' k : Nat} {s : List Int} (hm : MapF w' mb n' (upd f k s)) (hs : s.length = 16) (ht : Mod [mb] w w') : DS w' B dd tt a cap R la lc lb mb n' (upd f k s) :=
  ⟨h.obj.mod ht (by simpa using h.notMap h.obj.isC), h.t.mod ht (by simpa using h.notMap h.t.obj.isC) (fun k hk => by simpa using h.notMap (h.t.own.isC k hk)), h.lab.mod ht (fun k hk => by simpa using h.notMap (h.lab.isC k hk)), hm, h.own, fun j => by unfold upd; split; exact hs; exact h.sec j, h.ge⟩
end DS
theorem dnone_no (B dd tt cap lc mb n : Nat) (a la : Option Addr) (R : List Rn) (lb : List Int) (f : Nat → List Int) (w : World) (h : DS w B dd tt a cap R la lc lb mb n f) : Calls Try.prog 23 #[.pointer (some ⟨dd, 0, none⟩)] w fun e w' => e = .returned (.bool false) ∧ w = w' := by
  have c2 := h.obj.cell 2 _ rfl
  have hq : ∀ w : World, (binOp .eql 26 (.map (some mb)) (.map none)).run Try.prog w = .ok (.bool false) w := fun _ => by kernel_rfl
  clear h
  go_enter Try.func23, Try.ntmps23
  go_wp2
  go_ret
  exact ⟨rfl, rfl⟩
/-- The label of a sector. -/
def labV (R : List Rn) (lb : List Int) (at_ : Int) : Int × Int := if (whoV R at_).2 then (lb.getD (whoV R at_).1.toNat 0, 0) else (0, 3)
theorem who_own {R : List Rn} {i x : Int} (h : whoV R i = (x, true)) : ∃ r ∈ R, x = r.2.2 ∧ (r.1 : Int) ≤ i ∧ i < (r.1 : Int) + r.2.1 := by
  unfold whoV at h
  split at h
  · rename_i r hr
    have h1 := List.mem_of_find?_eq_some hr
    have h2 := List.find?_some hr
    simp [hits] at h2
    injection h with h3
    exact ⟨r, h1, h3.symm, h2.1, h2.2⟩
  · injection h with _ h; cases h
theorem label_any (B dd tt cap lc mb n : Nat) (a la : Option Addr) (R : List Rn) (lb : List Int) (f : Nat → List Int) (at_ : Int) (w : World) (h : DS w B dd tt a cap R la lc lb mb n f) :
    Calls Try.prog 21 #[.pointer (some ⟨dd, 0, none⟩), .int .i64 at_] w fun e w' => e = .returned (.tuple #[.int .i64 (labV R lb at_).1, .int .i64 (labV R lb at_).2]) ∧ Below w.heap.size w w' := by
  have H := Lib.hid h
  have HN := Lib.hid (dnone_no _ _ _ _ _ _ _ _ _ _ _ _ w h)
  have c0 := h.obj.cell 0 _ rfl
  have HW := Lib.hid (who_any _ _ _ _ _ _ at_ w h.t)
  cases hw : (whoV R at_).2
  · have HV : Hid (labV R lb at_ = (0, 3)) := by rw [Hid, labV, hw]; rfl
    rw [hw] at HW
    clear h hw
    go_enter Try.func21, Try.ntmps21
    go_wp2_with fail
    refine HN.out.mono ?_; rintro e w' ⟨rfl, rfl⟩
    go_wp2_with fail
    refine HW.out.mono ?_; rintro e w1 ⟨rfl, hb⟩
    go_wp2_with fail
    go_ret2
    rw [HV.out]
    exact ⟨rfl, hb⟩
  · obtain ⟨r, hr, hx, _, _⟩ := who_own (i := at_) (x := (whoV R at_).1) (R := R) (by rw [← hw])
    have hlt := h.own r hr
    obtain ⟨j, hj⟩ : ∃ j : Nat, j = r.2.2 := ⟨_, rfl⟩
    rw [← hj] at hx hlt
    have HV : Hid (labV R lb at_ = (lb[j], 0)) := by rw [Hid, labV, hw, hx]; simp [hlt]
    rw [hw, hx] at HW
    obtain ⟨g, rfl, _, hg⟩ := h.lab.at_ (by omega)
    have k0 := h.lab.cell j _ (inC_get lb j hlt)
    have hle := h.lab.le
    have hb0 : (0 : Int) ≤ j := by omega
    have hb1 : (j : Int) < (lb.length : Int) := by omega
    have c1 := h.obj.cell 1 _ rfl
    have hdl := h.obj.lt
    generalize lb[j] = x at k0 HV
    clear h hw hx hj hr
    go_enter Try.func21, Try.ntmps21
    go_wp2_with fail
    refine HN.out.mono ?_; rintro e w' ⟨rfl, rfl⟩
    go_wp2_with fail
    refine HW.out.mono ?_; rintro e w1 ⟨rfl, hb⟩
    have q0 := (hb.cell (p := ⟨g, j, none⟩) hg).trans k0
    have q1 := (hb.cell (p := ⟨dd, 1, none⟩) hdl).trans c1
    have HB := Lib.hid hb
    clear k0 c1 c0 hb
    go_wp2_with fail
    go_ret2
    rw [HV.out]
    exact ⟨rfl, HB.out⟩
theorem info_sec : (Try.prog.info? 80).map (·.size) = some 16 := by kernel_rfl
theorem info_u8 : (Try.prog.info? 5).map (·.size) = some 1 := by kernel_rfl
theorem bC_one (l : List Int) : ∀ u ∈ bC l, u.oneCell' = true := by
  intro u hu
  obtain ⟨i, _, rfl⟩ := List.mem_map.1 hu
  rfl
theorem own_block {w : World} {B g size n : Nat} {e : TypeId} {xs : List Value} (hg : w.heap[g]? = some (.cells xs.toArray e (0, 0))) (hl : xs.length = n * size) (hB : B ≤ g) (hn : n ≤ maxLen) : Own w B e size (some ⟨g, 0, none⟩) n n xs :=
  ⟨hl, .inr ⟨g, n, xs.toArray, rfl, hB, hg, Nat.le_refl _, hn, by simpa using hl, by simp [← hl]⟩⟩
theorem bytes_new {w : World} {B g n : Nat} {l : List Int} (hg : w.heap[g]? = some (.cells (bC l).toArray 5 (0, 0))) (hl : l.length = n) (hB : B ≤ g) (hn : n ≤ maxLen) : Own w B 5 1 (some ⟨g, 0, none⟩) n n (bC l) := own_block hg (by rw [bC_len, hl, Nat.mul_one]) hB hn
theorem info_u8p : (Try.prog.info? 5).map (fun i => (i.zero, i.size, i.bytes)) = some (some (.int .u8 0), 1, 1) := by kernel_rfl
theorem make16 (w : World) : (Instr.makeSlice 22 (.int .i64 16) (.int .i64 16)).run Try.prog w = .ok (.slice (some ⟨w.heap.size, 0, none⟩) 16 16) (w.alloc (.cells (bC z16).toArray 5)) := by
  obtain ⟨i0, hi0, hz0, hz1, hz2⟩ := info_parts info_u8p
  have h := run_makeSlice w 22 5 i0 (.int .u8 0) Try.underlying22 hi0 hz0 .i64 .i64 16 16 (by omega) (by omega) (by rw [hz1]; decide) (by rw [hz2]; decide) (by omega)
  rw [hz1] at h
  have e : madeCells (Value.int .u8 0).cells (Int.toNat 16 * 1) = (bC z16).toArray := by kernel_rfl
  rw [e] at h
  exact h
/-- Sixteen bytes copied over sixteen. -/
theorem copy16 (w : World) (g : Nat) (cur : List Value) (t : TypeId) (ad : Addr) (c c' : Nat) (s : List Int) (hs : s.length = 16) (hg : w.heap[g]? = some (.cells cur.toArray t (0, 0))) (hc : cur.length = 16) (hsrc : ∀ j v, (bC s)[j]? = some v → w.cell? (ad.add j) = some v) :
    (Builtin.copy_ #[22, 22] 3 #[.slice (some ⟨g, 0, none⟩) 16 c, .slice (some ad) 16 c']).run Try.prog w = .ok (.int .i64 16) (w.setRow g (bC s).toArray) := by
  have hl : (bC s).length = 16 := by rw [bC_len, hs]
  have h := run_copy_row (P := Try.prog) w 22 22 3 5 g 0 16 c ad 16 c' cur.toArray t (bC s) Try.underlying22 info_u8 hg (by rw [hl]; rfl) hsrc (by rw [hl]; simp [hc]) (bC_one s)
  rw [h, hl]
  have e : (cur.toArray.toList.take 0 ++ bC s ++ cur.toArray.toList.drop (0 + 16)) = bC s := by simp [hc]
  rw [e]
  rfl
theorem setRow_at {w : World} {g : Nat} {cur cs : Array Value} {t : TypeId} (h : w.heap[g]? = some (.cells cur t (0, 0))) : (w.setRow g cs).heap[g]? = some (.cells cs t (0, 0)) := setRow_heap w g cur cs t (0, 0) h
def BPost (B n : Nat) (s : List Int) (w : World) (e : Ending) (w' : World) : Prop := ∃ a c, e = .returned (.slice a n c) ∧ Own w' B 5 1 a n c (bC s) ∧ Below w.heap.size w w'
theorem copied_any (B dd tt cap lc mb n : Nat) (a la : Option Addr) (R : List Rn) (lb : List Int) (f : Nat → List Int) (k : Nat) (hk : k < 32) (w : World) (h : DS w B dd tt a cap R la lc lb mb n f) :
    Calls Try.prog 22 #[.pointer (some ⟨dd, 0, none⟩), .int .i64 k] w (BPost w.heap.size 16 (f k) w) := by
  have H := Lib.hid h
  have c2 := h.obj.cell 2 _ rfl
  have hl := h.m.look k hk
  have h16 := h.sec k
  generalize f k = s at hl h16
  clear h
  obtain ⟨W1, hW1⟩ : ∃ W1, W1 = w.alloc (.cells (bC s).toArray 80) := ⟨_, rfl⟩
  have HW1 := Lib.hid hW1
  have hlen : (bC s).length = 16 := by rw [bC_len, h16]
  have HL := Lib.hid hlen
  have hS : W1.heap[w.heap.size]? = some (.cells (bC s).toArray 80 (0, 0)) := by rw [hW1]; exact new_block w _ _ rfl
  obtain ⟨W2, hW2⟩ : ∃ W2, W2 = W1.alloc (.cells (bC z16).toArray 5) := ⟨_, rfl⟩
  have hmk := make16 W1
  rw [← hW2] at hmk
  have hb1 : Below w.heap.size w W1 := by rw [hW1]; exact (Below.refl _ _).alloc (Nat.le_refl _) _
  have hb2 : Below W1.heap.size W1 W2 := by rw [hW2]; exact (Below.refl _ _).alloc (Nat.le_refl _) _
  have hz : w.heap.size < W1.heap.size := by rw [hW1]; simp
  have hG : W2.heap[W1.heap.size]? = some (.cells (bC z16).toArray 5 (0, 0)) := by rw [hW2]; exact new_block W1 _ _ rfl
  have hS2 : W2.heap[w.heap.size]? = some (.cells (bC s).toArray 80 (0, 0)) := (hb2.block _ hz).trans hS
  have HSRC : Hid (∀ j v, (bC s)[j]? = some v → W2.cell? ((⟨w.heap.size, 0, none⟩ : Addr).add j) = some v) := fun j v hv => by
    have e : (⟨w.heap.size, 0, none⟩ : Addr).add j = ⟨w.heap.size, j, none⟩ := by unfold Addr.add; split <;> simp_all
    rw [e]; exact cell_at hS2 j v (by simpa using hv)
  obtain ⟨W3, hW3⟩ : ∃ W3, W3 = W2.setRow W1.heap.size (bC s).toArray := ⟨_, rfl⟩
  have hcp := copy16 W2 W1.heap.size (bC z16) 5 ⟨w.heap.size, 0, none⟩ 16 16 s h16 hG (by rw [bC_len]; rfl) HSRC.out
  rw [← hW3] at hcp
  have HF : Hid (BPost w.heap.size 16 s w (.returned (.slice (some ⟨W1.heap.size, 0, none⟩) 16 16)) W3) := by
    refine ⟨some ⟨W1.heap.size, 0, none⟩, 16, rfl, ?_, ?_⟩
    · rw [hW3]
      exact bytes_new (setRow_at hG) h16 (by omega) (by simp only [maxLen]; omega)
    · rw [hW3]
      exact below_setRow (bmore hb1 hb2) (by omega) _
  clear hb1 hb2 hS hS2 hW2 hz hG hW3 hW1 HSRC
  go_enter Try.func22, Try.ntmps22
  go_wp2_with (((with_reducible refine wpList_store_newW 80 _ _ HW1.out (.tmp 5) (.tmp 12) ?_ ?_ ?_ ?_ ?_ ?_ ?_ ?_)); exact rfl; exact rfl; exact rfl; exact rfl; (rw [info_sec]; simp [HL.out]); (simp [HL.out]); exact ints_all _ _; go_frame)
  go_ret
  exact HF.out
end Go.Proofs.Ytlafijnmoaenaaa
