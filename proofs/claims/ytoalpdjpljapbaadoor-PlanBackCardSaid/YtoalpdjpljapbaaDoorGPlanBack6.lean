/- Package plan: a page's lines. -/
import Derived.Test.YtoalpdjpljapbaaDoorGPlanBack5
import Derived.Deep.RegionHeld3
import Derived.Test.YtoalpdjpljapbaaDoorGPlanBack1
namespace Go.Proofs.YtoalpdjpljapbaaDoor
set_option linter.unusedVariables false
set_option linter.unusedSimpArgs false
set_option linter.unnecessarySimpa false
open Go.RowKit Go.Sort
set_option maxHeartbeats 4000000
set_option maxRecDepth 100000
set_option linter.unusedVariables false
/-- A page at work: it lies in block b, of the call's own. -/
structure PG (w : World) (b : Nat) (t : List UInt8) (W : World) : Prop where
  bel : Below w.heap.size w W
  pow : PowIs w
  pg : PgIs W w.heap.size b t
def Kept (b : Nat) (W W' : World) : Prop := Lib.OthersKept 5 (some b) W W'
theorem Kept.refl (b : Nat) (W : World) : Kept b W W := Lib.OthersKept.refl _ _ _
theorem Kept.trans {b : Nat} {x y z : World} (h : Kept b x y) (k : Kept b y z) : Kept b x z := Lib.OthersKept.trans h k
theorem Kept.ofBelow {b : Nat} {x y : World} (h : Below x.heap.size x y) : Kept b x y := fun k o hk _ _ => keepB h (Array.getElem?_eq_some_iff.1 hk).1 hk
theorem Kept.obj {b g : Nat} {x y : World} {t : TypeId} {cs : List Value} (h : Kept b x y) (ho : ObjAt x g t cs) (hg : g ≠ b) (ht : t ≠ 5) : ObjAt y g t cs :=
  h g _ ho (by simpa using hg) (fun c fz e => by injection e with _ e2; exact ht e2)
theorem PG.more {w W W' : World} {b : Nat} {t : List UInt8} (h : PG w b t W) (hb : Below W.heap.size W W') : PG w b t W' := ⟨bmore h.bel hb, h.pow, h.pg.below hb⟩
theorem PG.powW {w W : World} {b : Nat} {t : List UInt8} (h : PG w b t W) : PowIs W := h.pow.below h.bel
theorem pg_write {w W : World} {b : Nat} {t : List UInt8} (h : PG w b t W) (m : List UInt8) (hl : t.length + m.length ≤ 140737488355328) :
    Calls Tryd.prog 52 #[.pointer (some ⟨b, 0, none⟩), .string (ba m)] W fun e w' => e = .returned (.tuple #[.int .i64 (ba m).size, .nilIface]) ∧ PG w b (t ++ m) w' ∧ Kept b W w' := by
  refine (pgwrite _ _ _ m W h.pg hl h.bel.size).mono ?_
  rintro e w' ⟨h1, h2, h3, h4⟩
  exact ⟨h1, ⟨h.bel.trans h3, h.pow, h2⟩, h4⟩
theorem itoa_dc (n : Int) (h0 : 0 ≤ n) (h1 : n ≤ 1000000000) (w : World) (hP : PowIs w) : Calls Tryd.prog 54 #[.int .i64 n] w fun e w' => e = .returned (.string (ba (dc n))) ∧ Below w.heap.size w w' := by
  refine (itoa_b n (by omega) (by omega) w hP).mono ?_
  rintro e w' ⟨h2, h3⟩
  have : Lib.itoa n = dc n := by unfold Lib.itoa dc; rw [if_neg (by omega)]
  rw [this] at h2
  exact ⟨h2, h3⟩
theorem sp_ba (x : List UInt8) : (⟨#[32]⟩ : ByteArray) ++ ba x = ba (32 :: x) := by
  unfold ba
  rw [show (32 :: x : List UInt8) = [32] ++ x from rfl, ba_append]
/-- The numbers behind a line's words: a row of the caller's. -/
def NumsAt (W : World) (b : Nat) (a : Option Addr) (l : List Int) : Prop := (a = none ∧ l = []) ∨ ∃ g, a = some ⟨g, 0, none⟩ ∧ g ≠ b ∧ ObjAt W g 3 (zC l)
theorem NumsAt.kept {W W' : World} {b : Nat} {a : Option Addr} {l : List Int} (h : NumsAt W b a l) (hk : Kept b W W') : NumsAt W' b a l :=
  h.imp id fun ⟨g, h1, h2, h3⟩ => ⟨g, h1, h2, hk.obj h3 h2 (by decide)⟩
theorem NumsAt.at_ {W : World} {b : Nat} {a : Option Addr} {l : List Int} (h : NumsAt W b a l) (k : Nat) (hk : k < l.length) : ∃ g, a = some ⟨g, 0, none⟩ ∧ W.cell? ⟨g, k, none⟩ = some (.int .i64 l[k]) := by
  rcases h with ⟨_, h⟩ | ⟨g, h1, _, h3⟩
  · rw [h] at hk; cases hk
  · exact ⟨g, h1, h3.cell k _ (zC_get l k hk)⟩
def nmT (l : List Int) : List UInt8 := l.flatMap fun n => 32 :: dc n
theorem nmT_succ (l : List Int) (k : Nat) (hk : k < l.length) : nmT (l.take (k + 1)) = nmT (l.take k) ++ (32 :: dc l[k]) := by
  rw [nmT, List.take_succ_eq_append_getElem hk, List.flatMap_append]; simp [nmT]
theorem nmT_len (l : List Int) (h : ∀ n ∈ l, n < 1000000000) : (nmT l).length ≤ 10 * l.length := by
  induction l with
  | nil => simp [nmT]
  | cons x l ih =>
    have h1 := dc_len (h x (by simp))
    have h2 := ih (fun n hn => h n (by simp [hn]))
    simp only [nmT, List.flatMap_cons, List.length_append, List.length_cons] at h2 ⊢
    omega
def LinePost (w : World) (b : Nat) (t : List UInt8) (W : World) (e : Ending) (w' : World) : Prop := e = .returned (.tuple #[]) ∧ PG w b t w' ∧ Kept b W w'
theorem pline_any (k : Nat) (hk : k < 7) (ahead : List UInt8) (a : Option Addr) (cap : Nat) (l : List Int) (w : World) (b : Nat) (t : List UInt8) (W : World) (hg : PG w b t W) (hn : NumsAt W b a l) (hl : ∀ n ∈ l, 0 ≤ n ∧ n < 1000000000) (hll : l.length ≤ cap ∧ l.length ≤ 100) (ht : t.length ≤ 1000000) (ha : ahead.length ≤ 1000) :
    Calls Tryd.prog 24 #[.pointer (some ⟨b, 0, none⟩), .int .i64 k, .string (ba ahead), .slice a l.length cap] W (LinePost w b (t ++ lnW k ahead l) W) := by
  have HN := Lib.hid hn
  have HL := Lib.hid hl
  obtain ⟨hl1, hl2⟩ := hll
  have hkn : (rkName k).length ≤ 5 := by rcases (by omega : k = 0 ∨ k = 1 ∨ k = 2 ∨ k = 3 ∨ k = 4 ∨ k = 5 ∨ k = 6) with rfl | rfl | rfl | rfl | rfl | rfl | rfl <;> decide
  have HNAM := fun W => Lib.hid (pname_any k hk W)
  have HG0 : Hid (PG w b t W.drew) := hg.more (Below.refl _ _).drew
  have HK0 : Hid (Kept b W W.drew) := Kept.ofBelow (Below.refl _ _).drew
  have HTL0 : Hid (t.length + (rkName k).length ≤ 140737488355328) := by rw [Hid]; omega
  have bx := ba_isEmpty ahead
  cases hxe : ahead.isEmpty
  · have hne : ahead ≠ [] := fun e => by rw [e] at hxe; cases hxe
    obtain ⟨t1, ht1⟩ : ∃ t1, t1 = (t ++ rkName k) ++ (32 :: ahead) := ⟨_, rfl⟩
    have HT : Hid (t1 ++ (nmT l ++ [10]) = t ++ lnW k ahead l) := by
      rw [Hid, ht1, lnW, if_neg hne]; simp [nmT]
    have HT1 := Lib.hid ht1
    have htl : t1.length ≤ 1002000 := by rw [ht1]; simp only [List.length_append, List.length_cons]; omega
    have HST : Hid ((⟨#[32]⟩ : ByteArray) ++ ba ahead = ba (32 :: ahead)) := sp_ba _
    have hds : (ba ahead).size ≤ 1000 := by rw [ba_size]; exact ha
    have HTL1 : Hid ((t ++ rkName k).length + (32 :: ahead).length ≤ 140737488355328) := by rw [Hid, List.length_append, List.length_cons]; omega
    rw [hxe] at bx
    clear hxe hne ht1 hg hn hl
    go_enter Tryd.func24, Tryd.ntmps24
    go_wp2_with fail
    go_region_held3 (fun _ => True) (trivial) (first | (go_at_call 53; refine ((HNAM _).out).mono ?_; rintro e W4 ⟨rfl, rfl⟩) | (go_at_call 52; refine (pg_write HG0.out _ HTL0.out).mono ?_; rintro e W5 ⟨rfl, h5, h6⟩; have HG1a := Lib.hid h5; have HK1a : Hid (Kept b W W5) := HK0.out.trans h6; clear h5 h6))
    go_wp2_with (go_at_call 52; rw [HST.out]; refine (pg_write HG1a.out _ HTL1.out).mono ?_; rintro e W6 ⟨rfl, h5, h6⟩; rw [← HT1.out] at h5; have HG1 := Lib.hid h5; have HK1 : Hid (Kept b W W6) := HK1a.out.trans h6; clear h5 h6)
    go_upto_region 4 with fail
    go_loopw [26] (fun i wr => ∃ j : Nat, j ≤ l.length ∧ i = .int .i64 j ∧ PG w b (t1 ++ nmT (l.take j)) wr ∧ Kept b W wr) (fun i _ => l.length - (intOf i).toNat)
    case atStart => exact ⟨0, by omega, rfl, by rw [List.take_zero, show nmT [] = [] from rfl, List.append_nil]; exact HG1.out, HK1.out⟩
    clear HG1 HK1
    obtain ⟨j, hj, rfl, hg, hk⟩ := hrel
    have HG2 := Lib.hid hg
    have HK2 := Lib.hid hk
    clear hg hk
    by_cases hlt : j < l.length
    case pos =>
      obtain ⟨g, rfl, hc⟩ := (HN.out.kept HK2.out).at_ j hlt
      obtain ⟨x, hx⟩ : ∃ x, Hid (x = l[j]) := ⟨_, Lib.hid rfl⟩
      rw [← hx.out] at hc
      have hx0 : 0 ≤ x ∧ x < 1000000000 := by rw [hx.out]; exact HL.out _ (List.getElem_mem hlt)
      obtain ⟨hx1, hx2⟩ := hx0
      have d1 : decide ((j : Int) < (l.length : Int)) = true := decide_eq_true (by omega)
      have d1' : decide (j < l.length) = true := decide_eq_true hlt
      have w1 : IntKind.i64.wrap ((j : Int) + 1) = (j : Int) + 1 := by rw [IntKind.wrap_i64]; omega
      have HST : Hid ((⟨#[32]⟩ : ByteArray) ++ ba (dc x) = ba (32 :: dc x)) := sp_ba _
      have hds : (ba (dc x)).size ≤ 9 := by rw [ba_size]; exact dc_len hx2
      have hnot : ¬ 9223372036854775807 < 1 + (ba (dc x)).size := by omega
      have HNT : Hid (nmT (l.take (j + 1)) = nmT (l.take j) ++ (32 :: dc x)) := by rw [Hid, nmT_succ l j hlt, hx.out]
      have HTL : Hid ((t1 ++ nmT (l.take j)).length + (32 :: dc x).length ≤ 140737488355328) := by
        have h1 := nmT_len (l.take j) (fun n hn => (HL.out n (List.mem_of_mem_take hn)).2)
        have h2 := dc_len hx2
        rw [List.length_take] at h1
        rw [Hid, List.length_append, List.length_cons]; omega
      have HG3 : Hid (PG w b (t1 ++ nmT (l.take j)) wr.drew) := HG2.out.more (Below.refl _ _).drew
      have HK3 : Hid (Kept b W wr.drew) := HK2.out.trans (Kept.ofBelow (Below.refl _ _).drew)
      go_upto_region 6 with fail
      go_region_held3 (fun _ => True) (trivial) (first | (go_at_call 54; refine (itoa_dc x hx1 (by omega) _ HG3.out.powW).mono ?_; rintro e W4 ⟨rfl, hb4⟩; have HG4 := Lib.hid (HG3.out.more hb4); have HK4 : Hid (Kept b W W4) := HK3.out.trans (Kept.ofBelow hb4); clear hb4) | (go_at_call 52; rw [HST.out]; refine (pg_write HG4.out _ HTL.out).mono ?_; rintro e W5 ⟨rfl, h5, h6⟩; have HG5 := Lib.hid h5; have HK5 : Hid (Kept b W W5) := HK4.out.trans h6; clear h5 h6))
      all_goals
        go_wp2_with fail
        go_roundw
        case rel => exact ⟨j + 1, by omega, by go_num, by rw [HNT.out, ← List.append_assoc]; exact HG5.out, HK5.out⟩
        case measure => simp [intOf]; omega
    obtain rfl : j = l.length := by omega
    rw [List.take_length] at HG2
    have d1 : decide ((l.length : Int) < (l.length : Int)) = false := decide_eq_false (by omega)
    have HTL : Hid ((t1 ++ nmT l).length + [(10 : UInt8)].length ≤ 140737488355328) := by
      have h1 := nmT_len l (fun n hn => (HL.out n hn).2)
      rw [Hid, List.length_append]; simp; omega
    go_wp2_with (go_at_call 52; refine (pg_write HG2.out [10] HTL.out).mono ?_; rintro e W5 ⟨rfl, h5, h6⟩; have HG5 := Lib.hid h5; have HK5 : Hid (Kept b W W5) := HK2.out.trans h6; clear h5 h6)
    go_end0
    exact ⟨rfl, by rw [List.append_assoc, HT.out] at HG5; exact HG5.out, HK5.out⟩
  · obtain rfl : ahead = [] := List.isEmpty_iff.1 hxe
    obtain ⟨t1, ht1⟩ : ∃ t1, t1 = t ++ rkName k := ⟨_, rfl⟩
    have HT : Hid (t1 ++ (nmT l ++ [10]) = t ++ lnW k [] l) := by
      rw [Hid, ht1, lnW, if_pos rfl]; simp [nmT]
    have htl : t1.length ≤ 1002000 := by rw [ht1]; simp only [List.length_append]; omega
    have HT1 := Lib.hid ht1
    clear hxe ht1 hg hn hl
    go_enter Tryd.func24, Tryd.ntmps24
    go_wp2_with fail
    go_region_held3 (fun _ => True) (trivial) (first | (go_at_call 53; refine ((HNAM _).out).mono ?_; rintro e W4 ⟨rfl, rfl⟩) | (go_at_call 52; refine (pg_write HG0.out _ HTL0.out).mono ?_; rintro e W5 ⟨rfl, h5, h6⟩; rw [← HT1.out] at h5; have HG1 := Lib.hid h5; have HK1 : Hid (Kept b W W5) := HK0.out.trans h6; clear h5 h6))
    go_upto_region 4 with fail
    go_loopw [26] (fun i wr => ∃ j : Nat, j ≤ l.length ∧ i = .int .i64 j ∧ PG w b (t1 ++ nmT (l.take j)) wr ∧ Kept b W wr) (fun i _ => l.length - (intOf i).toNat)
    case atStart => exact ⟨0, by omega, rfl, by rw [List.take_zero, show nmT [] = [] from rfl, List.append_nil]; exact HG1.out, HK1.out⟩
    clear HG1 HK1
    obtain ⟨j, hj, rfl, hg, hk⟩ := hrel
    have HG2 := Lib.hid hg
    have HK2 := Lib.hid hk
    clear hg hk
    by_cases hlt : j < l.length
    case pos =>
      obtain ⟨g, rfl, hc⟩ := (HN.out.kept HK2.out).at_ j hlt
      obtain ⟨x, hx⟩ : ∃ x, Hid (x = l[j]) := ⟨_, Lib.hid rfl⟩
      rw [← hx.out] at hc
      have hx0 : 0 ≤ x ∧ x < 1000000000 := by rw [hx.out]; exact HL.out _ (List.getElem_mem hlt)
      obtain ⟨hx1, hx2⟩ := hx0
      have d1 : decide ((j : Int) < (l.length : Int)) = true := decide_eq_true (by omega)
      have d1' : decide (j < l.length) = true := decide_eq_true hlt
      have w1 : IntKind.i64.wrap ((j : Int) + 1) = (j : Int) + 1 := by rw [IntKind.wrap_i64]; omega
      have HST : Hid ((⟨#[32]⟩ : ByteArray) ++ ba (dc x) = ba (32 :: dc x)) := sp_ba _
      have hds : (ba (dc x)).size ≤ 9 := by rw [ba_size]; exact dc_len hx2
      have hnot : ¬ 9223372036854775807 < 1 + (ba (dc x)).size := by omega
      have HNT : Hid (nmT (l.take (j + 1)) = nmT (l.take j) ++ (32 :: dc x)) := by rw [Hid, nmT_succ l j hlt, hx.out]
      have HTL : Hid ((t1 ++ nmT (l.take j)).length + (32 :: dc x).length ≤ 140737488355328) := by
        have h1 := nmT_len (l.take j) (fun n hn => (HL.out n (List.mem_of_mem_take hn)).2)
        have h2 := dc_len hx2
        rw [List.length_take] at h1
        rw [Hid, List.length_append, List.length_cons]; omega
      have HG3 : Hid (PG w b (t1 ++ nmT (l.take j)) wr.drew) := HG2.out.more (Below.refl _ _).drew
      have HK3 : Hid (Kept b W wr.drew) := HK2.out.trans (Kept.ofBelow (Below.refl _ _).drew)
      go_upto_region 6 with fail
      go_region_held3 (fun _ => True) (trivial) (first | (go_at_call 54; refine (itoa_dc x hx1 (by omega) _ HG3.out.powW).mono ?_; rintro e W4 ⟨rfl, hb4⟩; have HG4 := Lib.hid (HG3.out.more hb4); have HK4 : Hid (Kept b W W4) := HK3.out.trans (Kept.ofBelow hb4); clear hb4) | (go_at_call 52; rw [HST.out]; refine (pg_write HG4.out _ HTL.out).mono ?_; rintro e W5 ⟨rfl, h5, h6⟩; have HG5 := Lib.hid h5; have HK5 : Hid (Kept b W W5) := HK4.out.trans h6; clear h5 h6))
      all_goals
        go_wp2_with fail
        go_roundw
        case rel => exact ⟨j + 1, by omega, by go_num, by rw [HNT.out, ← List.append_assoc]; exact HG5.out, HK5.out⟩
        case measure => simp [intOf]; omega
    obtain rfl : j = l.length := by omega
    rw [List.take_length] at HG2
    have d1 : decide ((l.length : Int) < (l.length : Int)) = false := decide_eq_false (by omega)
    have HTL : Hid ((t1 ++ nmT l).length + [(10 : UInt8)].length ≤ 140737488355328) := by
      have h1 := nmT_len l (fun n hn => (HL.out n hn).2)
      rw [Hid, List.length_append]; simp; omega
    go_wp2_with (go_at_call 52; refine (pg_write HG2.out [10] HTL.out).mono ?_; rintro e W5 ⟨rfl, h5, h6⟩; have HG5 := Lib.hid h5; have HK5 : Hid (Kept b W W5) := HK2.out.trans h6; clear h5 h6)
    go_end0
    exact ⟨rfl, by rw [List.append_assoc, HT.out] at HG5; exact HG5.out, HK5.out⟩
end Go.Proofs.YtoalpdjpljapbaaDoor
/- Package plan: Print. -/
namespace Go.Proofs.YtoalpdjpljapbaaDoor
set_option linter.unusedVariables false
set_option linter.unusedSimpArgs false
set_option linter.unnecessarySimpa false
open Go.RowKit Go.Sort
set_option maxHeartbeats 4000000
set_option maxRecDepth 100000
set_option linter.unusedVariables false
theorem PG.ne {w W : World} {b g : Nat} {t : List UInt8} {T : TypeId} {cs : List Value} (h : PG w b t W) (ho : ObjAt W g T cs) (hT : T ≠ 74) : g ≠ b := by
  rintro rfl
  unfold ObjAt at ho
  have key : ∀ p, Lib.BuilderAtF 74 5 w.heap.size g p (Lib.byteCells t) W → False := fun p hp => by
    obtain ⟨_, v, h2, _⟩ := hp
    rw [ho] at h2
    injection h2 with h2
    injection h2 with _ h3
    exact hT h3
  exact h.pg.elim (key _) (key _)
theorem lnW_len (k : Nat) (hk : k < 7) (ahead : List UInt8) (l : List Int) (h : ∀ n ∈ l, n < 1000000000) : (lnW k ahead l).length ≤ 7 + ahead.length + 10 * l.length := by
  have hkn : (rkName k).length ≤ 5 := by rcases (by omega : k = 0 ∨ k = 1 ∨ k = 2 ∨ k = 3 ∨ k = 4 ∨ k = 5 ∨ k = 6) with rfl | rfl | rfl | rfl | rfl | rfl | rfl <;> decide
  have h1 := nmT_len l h
  unfold nmT at h1
  unfold lnW
  simp only [List.length_append, List.length_singleton]
  have h3 : (if ahead = [] then [] else 32 :: ahead).length ≤ 1 + ahead.length := by
    split
    · exact Nat.zero_le _
    · rw [List.length_cons]; omega
  omega
def NumOk (x : Int) : Prop := 0 ≤ x ∧ x < 1000000000
theorem pline0 (k : Nat) (hk : k < 7) (ahead : List UInt8) {w : World} {b : Nat} {t : List UInt8} (ht : t.length ≤ 1000000) (ha : ahead.length ≤ 1000) (W : World) (hg : PG w b t W) :
    Calls Tryd.prog 24 #[.pointer (some ⟨b, 0, none⟩), .int .i64 k, .string (ba ahead), .slice none 0 0] W (LinePost w b (t ++ lnW k ahead []) W) :=
  pline_any k hk ahead none 0 [] w b t W hg (Or.inl ⟨rfl, rfl⟩) (by simp) ⟨Nat.le_refl _, by simp⟩ ht ha
theorem pline1 (k : Nat) (hk : k < 7) (ahead : List UInt8) (x : Int) (hx : NumOk x) {w : World} {b : Nat} {t : List UInt8} (ht : t.length ≤ 1000000) (ha : ahead.length ≤ 1000) (W : World) (g : Nat) (hg : PG w b t W) (ho : ObjAt W g 3 [.int .i64 x]) :
    Calls Tryd.prog 24 #[.pointer (some ⟨b, 0, none⟩), .int .i64 k, .string (ba ahead), .slice (some ⟨g, 0, none⟩) 1 1] W (LinePost w b (t ++ lnW k ahead [x]) W) :=
  pline_any k hk ahead (some ⟨g, 0, none⟩) 1 [x] w b t W hg (Or.inr ⟨g, rfl, hg.ne ho (by decide), ho⟩) (by intro n hn; rw [List.mem_singleton.1 hn]; exact hx) ⟨Nat.le_refl _, by simp⟩ ht ha
theorem pline2 (k : Nat) (hk : k < 7) (ahead : List UInt8) (x y : Int) (hx : NumOk x) (hy : NumOk y) {w : World} {b : Nat} {t : List UInt8} (ht : t.length ≤ 1000000) (ha : ahead.length ≤ 1000) (W : World) (g : Nat) (hg : PG w b t W) (ho : ObjAt W g 3 [.int .i64 x, .int .i64 y]) :
    Calls Tryd.prog 24 #[.pointer (some ⟨b, 0, none⟩), .int .i64 k, .string (ba ahead), .slice (some ⟨g, 0, none⟩) 2 2] W (LinePost w b (t ++ lnW k ahead [x, y]) W) :=
  pline_any k hk ahead (some ⟨g, 0, none⟩) 2 [x, y] w b t W hg (Or.inr ⟨g, rfl, hg.ne ho (by decide), ho⟩) (by intro n hn; simp at hn; rcases hn with rfl | rfl <;> assumption) ⟨Nat.le_refl _, by simp⟩ ht ha
theorem out_ba (x : List UInt8) : ba x ++ (⟨#[32]⟩ : ByteArray) ++ (⟨#[111, 117, 116]⟩ : ByteArray) = ba (x ++ 32 :: outT) := by
  unfold ba
  rw [show (⟨#[32]⟩ : ByteArray) = ⟨[32].toArray⟩ from rfl, show (⟨#[111, 117, 116]⟩ : ByteArray) = ⟨outT.toArray⟩ from rfl, ba_append, ba_append, List.append_assoc]; rfl
theorem pport_any (lb gu : Int) (hlb : 0 ≤ lb ∧ lb < 256) (hgu : gu = -1 ∨ NumOk gu) (w : World) (b : Nat) (t : List UInt8) (W : World) (hg : PG w b t W) (ht : t.length ≤ 1000000) :
    Calls Tryd.prog 26 #[.pointer (some ⟨b, 0, none⟩), .agg #[.int .i64 lb, .int .i64 gu]] W (LinePost w b (t ++ (lineT (3, [lb, gu]) ++ [10])) W) := by
  have HLB := Lib.hid (lbS_lbT hlb)
  have hll := (lbT_ok hlb).2.1
  obtain ⟨W1, hW1⟩ : ∃ W1, W1 = W.alloc (.cells #[.int .i64 lb, .int .i64 gu] 62) := ⟨_, rfl⟩
  obtain ⟨rr, hrr⟩ : ∃ r, r = W.heap.size := ⟨_, rfl⟩
  have hb1 : Below W.heap.size W W1 := by rw [hW1]; exact ((Below.refl _ _).alloc (Nat.le_refl _) _)
  have R1 : Hid (ObjAt W1 rr 62 [.int .i64 lb, .int .i64 gu]) := by rw [hW1, hrr]; exact ObjAt.new W _ _
  have HG1 := Lib.hid (hg.more hb1)
  have HK1 : Hid (Kept b W W1) := Kept.ofBelow hb1
  have HW1 := Lib.hid hW1
  have HRR := Lib.hid hrr
  clear hb1 hW1 hrr hg
  by_cases h1 : gu = -1
  · subst h1
    have HV : Hid (t ++ lnW 3 (lbT lb ++ 32 :: outT) [] = t ++ (lineT (3, [lb, -1]) ++ [10])) := by rw [Hid, lnW_out hlb]
    rw [← HV.out]
    have HLINE := fun W => Lib.hid (pline0 3 (by decide) (lbT lb ++ 32 :: outT) (w := w) (b := b) (t := t) ht (by rw [List.length_append, List.length_cons]; have : outT.length = 3 := rfl; omega) W)
    have HOUT := Lib.hid (out_ba (lbT lb))
    have hs1 : (ba (lbT lb)).size ≤ 8 := by rw [ba_size]; exact hll
    have hs2 : (ba (lbT lb) ++ (⟨#[32]⟩ : ByteArray)).size ≤ 9 := by rw [ByteArray.size_append, ba_size]; show _ + 1 ≤ _; omega
    clear hgu hll ht hlb
    go_enter Tryd.func26, Tryd.ntmps26
    go_upto_region 1 with fail
    rw [← HW1.out, ← HRR.out]
    have c0 := R1.out.cell 0 _ rfl
    have c1 := R1.out.cell 1 _ rfl
    go_wp2_with fail
    refine (letters_str lb _).mono ?_; rintro e W2 ⟨rfl, hb2⟩
    rw [HLB.out]
    have HG2 := Lib.hid (HG1.out.more hb2)
    have HK2 : Hid (Kept b W W2) := HK1.out.trans (Kept.ofBelow hb2)
    clear hb2 c0 c1
    go_wp2_with (go_at_call 24; rw [HOUT.out]; refine ((HLINE _).out HG2.out).mono ?_; rintro e W3 ⟨rfl, h3, h4⟩; have HG3 := Lib.hid h3; have HK3 : Hid (Kept b W W3) := HK2.out.trans h4; clear h3 h4)
    go_end0
    exact ⟨rfl, HG3.out, HK3.out⟩
  · have n1 : (gu == -1) = false := by rw [beq_eq_false_iff_ne]; exact h1
    have hgn : NumOk gu := hgu.resolve_left h1
    have HV : Hid (t ++ lnW 3 (lbT lb) [gu] = t ++ (lineT (3, [lb, gu]) ++ [10])) := by rw [Hid, lnW_3 hlb h1]
    rw [← HV.out]
    have HLINE := fun W g => Lib.hid (pline1 3 (by decide) (lbT lb) gu hgn (w := w) (b := b) (t := t) ht (by omega) W g)
    have R1d : Hid (ObjAt W1.drew rr 62 [.int .i64 lb, .int .i64 gu]) := R1.out.below (Below.refl _ _).drew
    have HG1d : Hid (PG w b t W1.drew) := HG1.out.more (Below.refl _ _).drew
    have HK1d : Hid (Kept b W W1.drew) := HK1.out.trans (Kept.ofBelow (Below.refl _ _).drew)
    clear hgu hll ht hlb h1 hgn
    go_enter Tryd.func26, Tryd.ntmps26
    go_upto_region 1 with fail
    rw [← HW1.out, ← HRR.out]
    have c0 := R1.out.cell 0 _ rfl
    have c1 := R1.out.cell 1 _ rfl
    go_upto_region 3 with fail
    go_region_held3 (fun W' => W'.cell? ⟨rr, 0, none⟩ = some (.int .i64 lb) ∧ W'.cell? ⟨rr, 1, none⟩ = some (.int .i64 gu)) (first | exact ⟨(R1d.out).cell 0 _ rfl, (R1d.out).cell 1 _ rfl⟩ | exact ⟨(R7.out).cell 0 _ rfl, (R7.out).cell 1 _ rfl⟩ | exact ⟨(R6.out).cell 0 _ rfl, (R6.out).cell 1 _ rfl⟩ | exact ⟨(R1d.out.below ((Below.refl _ _).alloc (Nat.le_refl _) _)).cell 0 _ rfl, (R1d.out.below ((Below.refl _ _).alloc (Nat.le_refl _) _)).cell 1 _ rfl⟩ | exact ⟨(R6.out.below ((Below.refl _ _).alloc (Nat.le_refl _) _)).cell 0 _ rfl, (R6.out.below ((Below.refl _ _).alloc (Nat.le_refl _) _)).cell 1 _ rfl⟩) (first | (go_at_call 25; refine (letters_str lb _).mono ?_; rintro e W6 ⟨rfl, hb6⟩; rw [HLB.out]; have HG6 : Hid (PG w b t W6) := (by first | exact HG1d.out.more hb6 | exact (HG1d.out.more ((Below.refl _ _).alloc (Nat.le_refl _) _)).more hb6); have R6 : Hid (ObjAt W6 rr 62 [.int .i64 lb, .int .i64 gu]) := (by first | exact R1d.out.below hb6 | exact (R1d.out.below ((Below.refl _ _).alloc (Nat.le_refl _) _)).below hb6); have HK6 : Hid (Kept b W W6) := (by first | exact HK1d.out.trans (Kept.ofBelow hb6) | exact (HK1d.out.trans (Kept.ofBelow ((Below.refl _ _).alloc (Nat.le_refl _) _))).trans (Kept.ofBelow hb6)); have HB6 := Lib.hid hb6; clear hb6) | (go_at_call 24; refine ((HLINE _ _).out (by first | exact HG6.out | exact HG6.out.more ((Below.refl _ _).alloc (Nat.le_refl _) _)) (by first | exact ObjAt.new _ _ _ | exact (ObjAt.new W1.drew 3 [.int .i64 gu]).below HB6.out)).mono ?_; rintro e W7 ⟨rfl, h7, h8⟩; have HG7 := Lib.hid h7; have HK7 : Hid (Kept b W W7) := (by first | exact HK6.out.trans h8 | exact (HK6.out.trans (Kept.ofBelow ((Below.refl _ _).alloc (Nat.le_refl _) _))).trans h8); have R7 : Hid (ObjAt W7 rr 62 [.int .i64 lb, .int .i64 gu]) := (by first | exact h8.obj R6.out (HG6.out.ne R6.out (by decide)) (by decide) | exact h8.obj (R6.out.below ((Below.refl _ _).alloc (Nat.le_refl _) _)) (HG6.out.ne R6.out (by decide)) (by decide)); clear h7 h8))
    all_goals
      go_wp2_with fail
      go_end0
      exact ⟨rfl, HG7.out, HK7.out⟩
end Go.Proofs.YtoalpdjpljapbaaDoor
/- Package plan: Print of a configuration. -/
namespace Go.Proofs.YtoalpdjpljapbaaDoor
set_option linter.unusedVariables false
set_option linter.unusedSimpArgs false
set_option linter.unnecessarySimpa false
open Go.RowKit Go.Sort
set_option maxHeartbeats 8000000
set_option maxRecDepth 100000
set_option linter.unusedVariables false
/-- What Print hands back. -/
def PrPost (c : Cv) (w : World) (e : Ending) (w' : World) : Prop :=
  ((chkV c).1 ≠ 0 → e = .returned (.tuple #[.string ⟨#[]⟩, .int .i64 (chkV c).1])) ∧ ((chkV c).1 = 0 → e = .returned (.tuple #[.string (ba (prT (pcOf c))), .int .i64 0])) ∧ Below w.heap.size w w'
theorem pprint_no (c : Cv) (w : World) (h : CfgOk w c) (h0 : (chkV c).1 ≠ 0) : Calls Tryd.prog 17 #[(.agg #[.int .i64 c.cats, .slice c.g.a c.g.l.length c.g.cap, .slice c.r.a c.r.l.length c.r.cap, .slice c.p.a c.p.l.length c.p.cap, .slice c.n.a c.n.l.length c.n.cap, .slice c.s.a c.s.l.length c.s.cap, .int .i64 c.gate, .int .i64 c.quota])] w (PrPost c w) := by
  obtain ⟨e0, he0⟩ : ∃ v, Hid (v = (chkV c).1) := ⟨_, Lib.hid rfl⟩
  obtain ⟨e1, he1⟩ : ∃ v, Hid (v = (chkV c).2) := ⟨_, Lib.hid rfl⟩
  have CHK : Hid (∀ W, CfgOk W c → Calls Tryd.prog 18 #[(.agg #[.int .i64 c.cats, .slice c.g.a c.g.l.length c.g.cap, .slice c.r.a c.r.l.length c.r.cap, .slice c.p.a c.p.l.length c.p.cap, .slice c.n.a c.n.l.length c.n.cap, .slice c.s.a c.s.l.length c.s.cap, .int .i64 c.gate, .int .i64 c.quota])] W fun e w' => e = .returned (.tuple #[.int .i64 e0, .int .i64 e1]) ∧ Below W.heap.size W w') := fun W hc => by rw [he0.out, he1.out]; exact check_any c W hc
  have hz : e0 ≠ 0 := by rw [he0.out]; exact h0
  have HP : Hid (∀ w', Below w.heap.size w w' → PrPost c w (.returned (.tuple #[.string ⟨#[]⟩, .int .i64 e0])) w') := fun w' hb => ⟨fun _ => by rw [he0.out], fun h => absurd h h0, hb⟩
  have n1 : (e0 == 0) = false := by rw [beq_eq_false_iff_ne]; exact hz
  have n2 : (e0 != 0) = true := by rw [bne_iff_ne]; exact hz
  clear h0 hz
  (have h0 := CX.new h; go_enter Tryd.func17, Tryd.ntmps17; go_upto_region 1 with fail; generalize w.alloc (.cells #[.int .i64 c.cats, .slice c.g.a c.g.l.length c.g.cap, .slice c.r.a c.r.l.length c.r.cap, .slice c.p.a c.p.l.length c.p.cap, .slice c.n.a c.n.l.length c.n.cap, .slice c.s.a c.s.l.length c.s.cap, .int .i64 c.gate, .int .i64 c.quota] 29) = W1 at h0 ⊢; generalize w.heap.size = b0 at h0 ⊢; have H0 := Lib.hid h0; clear h0 h)
  (have q0 := H0.out.ob.cell 0 _ rfl; have q1 := H0.out.ob.cell 1 _ rfl; have q2 := H0.out.ob.cell 2 _ rfl; have q3 := H0.out.ob.cell 3 _ rfl; have q4 := H0.out.ob.cell 4 _ rfl; have q5 := H0.out.ob.cell 5 _ rfl; have q6 := H0.out.ob.cell 6 _ rfl; have q7 := H0.out.ob.cell 7 _ rfl)
  go_wp2_with (go_at_call 18; refine (CHK.out _ H0.out.ok).mono ?_; rintro e W2 ⟨rfl, hb⟩; have H2 := Lib.hid (H0.out.below hb); clear hb)
  go_ret2
  exact HP.out _ H2.out.bel
def tg (k : Nat) (l : List (List Int)) (j : Nat) : List UInt8 := textT (tag k (l.take j))
theorem tg_0 (k : Nat) (l : List (List Int)) : tg k l 0 = [] := by simp [tg, tag, textT]
theorem tg_succ (k : Nat) (l : List (List Int)) (j : Nat) (hj : j < l.length) : tg k l (j + 1) = tg k l j ++ (lineT (k, l[j]) ++ [10]) := by
  unfold tg tag
  rw [List.take_succ_eq_append_getElem hj, List.map_append, textT_app]
  simp [textT]
theorem tg_all (k : Nat) (l : List (List Int)) : tg k l l.length = textT (tag k l) := by unfold tg; rw [List.take_length]
theorem port_len {x y : Int} (h : 0 ≤ x ∧ x < 256) (hy : y = -1 ∨ 0 ≤ y ∧ y < 4) : (lineT (3, [x, y]) ++ [10]).length ≤ 40 := by
  have h2 := (lbT_ok h).2.1
  rcases hy with rfl | hy
  · rw [← lnW_out h]
    have := lnW_len 3 (by decide) (lbT x ++ 32 :: outT) [] (by simp)
    simp only [List.length_append, List.length_cons, List.length_nil] at this
    have : outT.length = 3 := rfl
    omega
  · rw [← lnW_3 h (by omega)]
    have := lnW_len 3 (by decide) (lbT x) [y] (by intro n hn; rw [List.mem_singleton.1 hn]; omega)
    simp only [List.length_cons, List.length_nil] at this
    omega
theorem pprint_yes (c : Cv) (w : World) (h : CfgOk w c) (h0 : (chkV c).1 = 0) (hP : PowIs w) : Calls Tryd.prog 17 #[(.agg #[.int .i64 c.cats, .slice c.g.a c.g.l.length c.g.cap, .slice c.r.a c.r.l.length c.r.cap, .slice c.p.a c.p.l.length c.p.cap, .slice c.n.a c.n.l.length c.n.cap, .slice c.s.a c.s.l.length c.s.cap, .int .i64 c.gate, .int .i64 c.quota])] w (PrPost c w) := by
  obtain ⟨e1, he1⟩ : ∃ v, Hid (v = (chkV c).2) := ⟨_, Lib.hid rfl⟩
  have CHK : Hid (∀ W, CfgOk W c → Calls Tryd.prog 18 #[(.agg #[.int .i64 c.cats, .slice c.g.a c.g.l.length c.g.cap, .slice c.r.a c.r.l.length c.r.cap, .slice c.p.a c.p.l.length c.p.cap, .slice c.n.a c.n.l.length c.n.cap, .slice c.s.a c.s.l.length c.s.cap, .int .i64 c.gate, .int .i64 c.quota])] W fun e w' => e = .returned (.tuple #[.int .i64 0, .int .i64 e1]) ∧ Below W.heap.size W w') := fun W hc => by rw [he1.out, ← h0]; exact check_any c W hc
  have HF : Hid (FitP (pcOf c)) := fit_of h0
  have HP : Hid (∀ T w', T = prT (pcOf c) → Below w.heap.size w w' → PrPost c w (.returned (.tuple #[.string (ba T), .int .i64 0])) w') := fun T w' e hb => ⟨fun h => absurd h0 h, fun _ => by rw [e], hb⟩
  obtain ⟨gl1, gl2⟩ : c.g.l.length ≤ 4 ∧ c.r.l.length ≤ 8 := ⟨HF.out.gl, HF.out.rl⟩
  obtain ⟨gl3, gl4, gl5⟩ : c.p.l.length ≤ 8 ∧ c.n.l.length ≤ 4 ∧ c.s.l.length ≤ 8 := ⟨HF.out.pl, HF.out.nl, HF.out.sl⟩
  have e1 : c.g.l.length ≤ c.g.cap := h.g.le
  have e2 : c.r.l.length ≤ c.r.cap := h.r.le
  have e3 : c.p.l.length ≤ c.p.cap := h.p.le
  have e4 : c.n.l.length ≤ c.n.cap := h.n.le
  have e5 : c.s.l.length ≤ c.s.cap := h.s.le
  obtain ⟨fc1, fc2⟩ : 0 ≤ c.cats ∧ c.cats ≤ 8 := HF.out.cats
  have HPW := Lib.hid hP
  clear h0 hP
  (have h0 := CX.new h; go_enter Tryd.func17, Tryd.ntmps17; go_upto_region 1 with fail; generalize w.alloc (.cells #[.int .i64 c.cats, .slice c.g.a c.g.l.length c.g.cap, .slice c.r.a c.r.l.length c.r.cap, .slice c.p.a c.p.l.length c.p.cap, .slice c.n.a c.n.l.length c.n.cap, .slice c.s.a c.s.l.length c.s.cap, .int .i64 c.gate, .int .i64 c.quota] 29) = W1 at h0 ⊢; generalize w.heap.size = b0 at h0 ⊢; have H0 := Lib.hid h0; clear h0 h)
  (have q0 := H0.out.ob.cell 0 _ rfl; have q1 := H0.out.ob.cell 1 _ rfl; have q2 := H0.out.ob.cell 2 _ rfl; have q3 := H0.out.ob.cell 3 _ rfl; have q4 := H0.out.ob.cell 4 _ rfl; have q5 := H0.out.ob.cell 5 _ rfl; have q6 := H0.out.ob.cell 6 _ rfl; have q7 := H0.out.ob.cell 7 _ rfl)
  go_wp2_with fail
  refine (CHK.out _ H0.out.ok).mono ?_; rintro e W2 ⟨rfl, hb⟩
  have H2 := Lib.hid (H0.out.below hb)
  clear hb q0 q1 q2 q3 q4 q5 q6 q7
  go_upto_region 5 with fail
  have HG0 : Hid (PG W2 W2.heap.size [] (W2.alloc (.cells #[.pointer none, .slice none 0 0] 74))) := ⟨((Below.refl _ _).alloc (Nat.le_refl _) _), HPW.out.below H2.out.bel, PgIs.fresh W2⟩
  generalize W2.alloc (.cells #[.pointer none, .slice none 0 0] 74) = W3 at HG0 ⊢
  obtain ⟨b, hb⟩ : ∃ b, b = W2.heap.size := ⟨_, rfl⟩
  rw [← hb] at HG0 ⊢
  clear hb
  have HX := Lib.hid (H2.out.below HG0.out.bel)
  (have q0 := HX.out.ob.cell 0 _ rfl; have q1 := HX.out.ob.cell 1 _ rfl; have q2 := HX.out.ob.cell 2 _ rfl; have q3 := HX.out.ob.cell 3 _ rfl; have q4 := HX.out.ob.cell 4 _ rfl; have q5 := HX.out.ob.cell 5 _ rfl; have q6 := HX.out.ob.cell 6 _ rfl; have q7 := HX.out.ob.cell 7 _ rfl)
  go_wp2_with fail
  refine (pline1 0 (by decide) [] c.cats ⟨fc1, by omega⟩ (w := W2) (b := b) (t := []) (by simp) (by simp) _ _ (HG0.out.more ((Below.refl _ _).alloc (Nat.le_refl _) _)) (ObjAt.new _ _ _)).mono ?_; rintro e W4 ⟨rfl, h7, h8⟩
  obtain ⟨t1, ht1⟩ : ∃ t1, t1 = [] ++ lnW 0 [] [c.cats] := ⟨_, rfl⟩
  rw [← ht1] at h7
  have HG := Lib.hid h7
  have hlt1 : t1.length ≤ 60 := by
    have h1 := lnW_len 0 (by decide) [] [c.cats] (by intro n hn; rw [List.mem_singleton.1 hn]; omega)
    simp only [List.length_cons, List.length_nil] at h1
    rw [ht1, List.nil_append]; omega
  have HVt1 : Hid (t1 = textT [(0, [c.cats])]) := by rw [Hid, ht1, List.nil_append, lnW_0, textT_one]
  replace HX := Lib.hid (H2.out.below HG.out.bel)
  clear h7 h8 ht1 q0 q1 q2 q3 q4 q5 q6 q7
  (have q0 := HX.out.ob.cell 0 _ rfl; have q1 := HX.out.ob.cell 1 _ rfl; have q2 := HX.out.ob.cell 2 _ rfl; have q3 := HX.out.ob.cell 3 _ rfl; have q4 := HX.out.ob.cell 4 _ rfl; have q5 := HX.out.ob.cell 5 _ rfl; have q6 := HX.out.ob.cell 6 _ rfl; have q7 := HX.out.ob.cell 7 _ rfl)
  go_upto_region 7 with fail
  clear q0 q1 q2 q3 q4 q5 q6 q7
  go_loopw [35] (fun i wr => ∃ j : Nat, j ≤ c.g.l.length ∧ i = .int .i64 j ∧ PG W2 b (t1 ++ tg 1 c.g.l j) wr ∧ (t1 ++ tg 1 c.g.l j).length ≤ (t1).length + 60 * j) (fun i _ => c.g.l.length - (intOf i).toNat)
  case atStart => exact ⟨0, by omega, rfl, by rw [tg_0, List.append_nil]; exact HG.out, by rw [tg_0, List.append_nil]; omega⟩
  clear HG
  obtain ⟨j, hj, rfl, hg, htl⟩ := hrel
  have HG := Lib.hid hg
  have HX := Lib.hid (H2.out.below hg.bel)
  have HTL := Lib.hid htl
  clear hg htl
  by_cases hlt : j < c.g.l.length
  case pos =>
    obtain ⟨bx, ox, hax, hcx⟩ := H2.out.ok.g.cells (by omega) j hlt
    obtain ⟨lb, x, y, hrow⟩ := row3 hlt H2.out.ok.g.len
    have hfit := HF.out.g _ (List.getElem_mem hlt)
    rw [hrow] at hcx hfit
    simp only [List.getD_cons_zero, List.getD_cons_succ] at hfit
    obtain ⟨f1, f2, f3⟩ := hfit
    have c0 := hcx _ HG.out.bel 0 _ rfl; have c1 := hcx _ HG.out.bel 1 _ rfl; have c2 := hcx _ HG.out.bel 2 _ rfl
    simp only [Nat.add_zero] at c0
    have d1 : decide ((j : Int) < (c.g.l.length : Int)) = true := decide_eq_true (by omega)
    have d1' : decide (j < c.g.l.length) = true := decide_eq_true hlt
    have w1 : IntKind.i64.wrap ((j : Int) + 1) = (j : Int) + 1 := by rw [IntKind.wrap_i64]; omega
    have kz : (0 : Int) ≤ (j : Int) := by omega
    have kl : (j : Int) < (c.g.l.length : Int) := by omega
    have HLB := Lib.hid (lbS_lbT f1)
    have htl : (t1 ++ tg 1 c.g.l j).length ≤ 1000000 := by have := HTL.out; omega
    have HLINE := fun W g => Lib.hid (pline2 1 (by decide) (lbT lb) x y ⟨f2.1, by omega⟩ ⟨f3.1, by omega⟩ (w := W2) (b := b) (t := t1 ++ tg 1 c.g.l j) htl (by have := (lbT_ok f1).2.1; omega) W g)
    have HV : Hid ((t1 ++ tg 1 c.g.l j) ++ lnW 1 (lbT lb) [x, y] = t1 ++ tg 1 c.g.l (j + 1)) := by rw [Hid, lnW_1 f1, tg_succ 1 c.g.l j hlt, hrow, List.append_assoc]
    have HVL : Hid ((t1 ++ tg 1 c.g.l (j + 1)).length ≤ (t1).length + 60 * (j + 1)) := by
      rw [← HV.out, Hid, List.length_append]
      have h1 := lnW_len 1 (by decide) (lbT lb) [x, y] (by intro n hn; simp at hn; rcases hn with rfl | rfl <;> omega)
      have h2 := (lbT_ok f1).2.1
      have h3 := HTL.out
      simp only [List.length_cons, List.length_nil] at h1
      omega
    have HAX := Lib.hid hax
    rw [hax]
    clear hcx hrow htl f1 f2 f3 hax
    go_upto_region 9 with fail
    clear c0 c1 c2
    have R1 : Hid (ObjAt (wr.alloc (.cells #[.int .i64 lb, .int .i64 x, .int .i64 y] 58)) wr.heap.size 58 [.int .i64 lb, .int .i64 x, .int .i64 y]) := ObjAt.new wr _ _
    have HG1 : Hid (PG W2 b (t1 ++ tg 1 c.g.l j) (wr.alloc (.cells #[.int .i64 lb, .int .i64 x, .int .i64 y] 58))) := HG.out.more ((Below.refl _ _).alloc (Nat.le_refl _) _)
    generalize wr.alloc (.cells #[.int .i64 lb, .int .i64 x, .int .i64 y] 58) = W4 at R1 HG1 ⊢
    generalize wr.heap.size = rr at R1 ⊢
    have R1d : Hid (ObjAt W4.drew rr 58 [.int .i64 lb, .int .i64 x, .int .i64 y]) := R1.out.below (Below.refl _ _).drew
    have HG1d : Hid (PG W2 b (t1 ++ tg 1 c.g.l j) W4.drew) := HG1.out.more (Below.refl _ _).drew
    go_region_held3 (fun W' => W'.cell? ⟨rr, 0, none⟩ = some (.int .i64 lb) ∧ W'.cell? ⟨rr, 1, none⟩ = some (.int .i64 x) ∧ W'.cell? ⟨rr, 2, none⟩ = some (.int .i64 y)) (first | exact ⟨(R1d.out).cell 0 _ rfl, (R1d.out).cell 1 _ rfl, (R1d.out).cell 2 _ rfl⟩ | exact ⟨(R7.out).cell 0 _ rfl, (R7.out).cell 1 _ rfl, (R7.out).cell 2 _ rfl⟩ | exact ⟨(R6.out).cell 0 _ rfl, (R6.out).cell 1 _ rfl, (R6.out).cell 2 _ rfl⟩ | exact ⟨(R1d.out.below ((Below.refl _ _).alloc (Nat.le_refl _) _)).cell 0 _ rfl, (R1d.out.below ((Below.refl _ _).alloc (Nat.le_refl _) _)).cell 1 _ rfl, (R1d.out.below ((Below.refl _ _).alloc (Nat.le_refl _) _)).cell 2 _ rfl⟩ | exact ⟨(R6.out.below ((Below.refl _ _).alloc (Nat.le_refl _) _)).cell 0 _ rfl, (R6.out.below ((Below.refl _ _).alloc (Nat.le_refl _) _)).cell 1 _ rfl, (R6.out.below ((Below.refl _ _).alloc (Nat.le_refl _) _)).cell 2 _ rfl⟩) (first | (go_at_call 25; refine (letters_str lb _).mono ?_; rintro e W6 ⟨rfl, hb6⟩; rw [HLB.out]; have HG6 : Hid (PG W2 b (t1 ++ tg 1 c.g.l j) W6) := (by first | exact HG1d.out.more hb6 | exact (HG1d.out.more ((Below.refl _ _).alloc (Nat.le_refl _) _)).more hb6); have R6 : Hid (ObjAt W6 rr 58 [.int .i64 lb, .int .i64 x, .int .i64 y]) := (by first | exact R1d.out.below hb6 | exact (R1d.out.below ((Below.refl _ _).alloc (Nat.le_refl _) _)).below hb6); have HB6 := Lib.hid hb6; clear hb6) | (go_at_call 24; refine ((HLINE _ _).out (by first | exact HG6.out | exact HG6.out.more ((Below.refl _ _).alloc (Nat.le_refl _) _)) (by first | exact ObjAt.new _ _ _ | exact (ObjAt.new W4.drew 3 [.int .i64 x, .int .i64 y]).below HB6.out)).mono ?_; rintro e W7 ⟨rfl, h7, h8⟩; have HG7 := Lib.hid h7; have R7 : Hid (ObjAt W7 rr 58 [.int .i64 lb, .int .i64 x, .int .i64 y]) := (by first | exact h8.obj R6.out (HG6.out.ne R6.out (by decide)) (by decide) | exact h8.obj (R6.out.below ((Below.refl _ _).alloc (Nat.le_refl _) _)) (HG6.out.ne R6.out (by decide)) (by decide)); clear h7 h8))
    all_goals
      go_wp2_with fail
      go_roundw
      case rel => exact ⟨j + 1, by omega, by go_num, by rw [← HV.out]; exact HG7.out, HVL.out⟩
      case measure => simp [intOf]; omega
  obtain rfl : j = c.g.l.length := by omega
  have dq : decide ((c.g.l.length : Int) < (c.g.l.length : Int)) = false := decide_eq_false (by omega)
  have HTL2 := Lib.hid HTL.out
  obtain ⟨t2, ht2⟩ : ∃ tz, tz = t1 ++ tg 1 c.g.l c.g.l.length := ⟨_, rfl⟩
  rw [← ht2] at HG HTL2
  rw [tg_all] at ht2
  have HVt2 := Lib.hid ht2
  have hlt2 : t2.length ≤ 400 := by have := HTL2.out; omega
  clear HTL HTL2 ht2
  (have q0 := HX.out.ob.cell 0 _ rfl; have q1 := HX.out.ob.cell 1 _ rfl; have q2 := HX.out.ob.cell 2 _ rfl; have q3 := HX.out.ob.cell 3 _ rfl; have q4 := HX.out.ob.cell 4 _ rfl; have q5 := HX.out.ob.cell 5 _ rfl; have q6 := HX.out.ob.cell 6 _ rfl; have q7 := HX.out.ob.cell 7 _ rfl)
  go_upto_region 12 with fail
  clear q0 q1 q2 q3 q4 q5 q6 q7
  go_loopw [53] (fun i wr => ∃ j : Nat, j ≤ c.r.l.length ∧ i = .int .i64 j ∧ PG W2 b (t2 ++ tg 2 c.r.l j) wr ∧ (t2 ++ tg 2 c.r.l j).length ≤ (t2).length + 60 * j) (fun i _ => c.r.l.length - (intOf i).toNat)
  case atStart => exact ⟨0, by omega, rfl, by rw [tg_0, List.append_nil]; exact HG.out, by rw [tg_0, List.append_nil]; omega⟩
  clear HG
  obtain ⟨j, hj, rfl, hg, htl⟩ := hrel
  have HG := Lib.hid hg
  have HX := Lib.hid (H2.out.below hg.bel)
  have HTL := Lib.hid htl
  clear hg htl
  by_cases hlt : j < c.r.l.length
  case pos =>
    obtain ⟨bx, ox, hax, hcx⟩ := H2.out.ok.r.cells (by omega) j hlt
    obtain ⟨lb, x, y, hrow⟩ := row3 hlt H2.out.ok.r.len
    have hfit := HF.out.r _ (List.getElem_mem hlt)
    rw [hrow] at hcx hfit
    simp only [List.getD_cons_zero, List.getD_cons_succ] at hfit
    obtain ⟨f1, f2, f3⟩ := hfit
    have c0 := hcx _ HG.out.bel 0 _ rfl; have c1 := hcx _ HG.out.bel 1 _ rfl; have c2 := hcx _ HG.out.bel 2 _ rfl
    simp only [Nat.add_zero] at c0
    have d1 : decide ((j : Int) < (c.r.l.length : Int)) = true := decide_eq_true (by omega)
    have d1' : decide (j < c.r.l.length) = true := decide_eq_true hlt
    have w1 : IntKind.i64.wrap ((j : Int) + 1) = (j : Int) + 1 := by rw [IntKind.wrap_i64]; omega
    have kz : (0 : Int) ≤ (j : Int) := by omega
    have kl : (j : Int) < (c.r.l.length : Int) := by omega
    have HLB := Lib.hid (lbS_lbT f1)
    have htl : (t2 ++ tg 2 c.r.l j).length ≤ 1000000 := by have := HTL.out; omega
    have HLINE := fun W g => Lib.hid (pline2 2 (by decide) (lbT lb) x y ⟨f2.1, by omega⟩ ⟨f3.1, by omega⟩ (w := W2) (b := b) (t := t2 ++ tg 2 c.r.l j) htl (by have := (lbT_ok f1).2.1; omega) W g)
    have HV : Hid ((t2 ++ tg 2 c.r.l j) ++ lnW 2 (lbT lb) [x, y] = t2 ++ tg 2 c.r.l (j + 1)) := by rw [Hid, lnW_2 f1, tg_succ 2 c.r.l j hlt, hrow, List.append_assoc]
    have HVL : Hid ((t2 ++ tg 2 c.r.l (j + 1)).length ≤ (t2).length + 60 * (j + 1)) := by
      rw [← HV.out, Hid, List.length_append]
      have h1 := lnW_len 2 (by decide) (lbT lb) [x, y] (by intro n hn; simp at hn; rcases hn with rfl | rfl <;> omega)
      have h2 := (lbT_ok f1).2.1
      have h3 := HTL.out
      simp only [List.length_cons, List.length_nil] at h1
      omega
    have HAX := Lib.hid hax
    rw [hax]
    clear hcx hrow htl f1 f2 f3 hax
    go_upto_region 14 with fail
    clear c0 c1 c2
    have R1 : Hid (ObjAt (wr.alloc (.cells #[.int .i64 lb, .int .i64 x, .int .i64 y] 60)) wr.heap.size 60 [.int .i64 lb, .int .i64 x, .int .i64 y]) := ObjAt.new wr _ _
    have HG1 : Hid (PG W2 b (t2 ++ tg 2 c.r.l j) (wr.alloc (.cells #[.int .i64 lb, .int .i64 x, .int .i64 y] 60))) := HG.out.more ((Below.refl _ _).alloc (Nat.le_refl _) _)
    generalize wr.alloc (.cells #[.int .i64 lb, .int .i64 x, .int .i64 y] 60) = W4 at R1 HG1 ⊢
    generalize wr.heap.size = rr at R1 ⊢
    have R1d : Hid (ObjAt W4.drew rr 60 [.int .i64 lb, .int .i64 x, .int .i64 y]) := R1.out.below (Below.refl _ _).drew
    have HG1d : Hid (PG W2 b (t2 ++ tg 2 c.r.l j) W4.drew) := HG1.out.more (Below.refl _ _).drew
    go_region_held3 (fun W' => W'.cell? ⟨rr, 0, none⟩ = some (.int .i64 lb) ∧ W'.cell? ⟨rr, 1, none⟩ = some (.int .i64 x) ∧ W'.cell? ⟨rr, 2, none⟩ = some (.int .i64 y)) (first | exact ⟨(R1d.out).cell 0 _ rfl, (R1d.out).cell 1 _ rfl, (R1d.out).cell 2 _ rfl⟩ | exact ⟨(R7.out).cell 0 _ rfl, (R7.out).cell 1 _ rfl, (R7.out).cell 2 _ rfl⟩ | exact ⟨(R6.out).cell 0 _ rfl, (R6.out).cell 1 _ rfl, (R6.out).cell 2 _ rfl⟩ | exact ⟨(R1d.out.below ((Below.refl _ _).alloc (Nat.le_refl _) _)).cell 0 _ rfl, (R1d.out.below ((Below.refl _ _).alloc (Nat.le_refl _) _)).cell 1 _ rfl, (R1d.out.below ((Below.refl _ _).alloc (Nat.le_refl _) _)).cell 2 _ rfl⟩ | exact ⟨(R6.out.below ((Below.refl _ _).alloc (Nat.le_refl _) _)).cell 0 _ rfl, (R6.out.below ((Below.refl _ _).alloc (Nat.le_refl _) _)).cell 1 _ rfl, (R6.out.below ((Below.refl _ _).alloc (Nat.le_refl _) _)).cell 2 _ rfl⟩) (first | (go_at_call 25; refine (letters_str lb _).mono ?_; rintro e W6 ⟨rfl, hb6⟩; rw [HLB.out]; have HG6 : Hid (PG W2 b (t2 ++ tg 2 c.r.l j) W6) := (by first | exact HG1d.out.more hb6 | exact (HG1d.out.more ((Below.refl _ _).alloc (Nat.le_refl _) _)).more hb6); have R6 : Hid (ObjAt W6 rr 60 [.int .i64 lb, .int .i64 x, .int .i64 y]) := (by first | exact R1d.out.below hb6 | exact (R1d.out.below ((Below.refl _ _).alloc (Nat.le_refl _) _)).below hb6); have HB6 := Lib.hid hb6; clear hb6) | (go_at_call 24; refine ((HLINE _ _).out (by first | exact HG6.out | exact HG6.out.more ((Below.refl _ _).alloc (Nat.le_refl _) _)) (by first | exact ObjAt.new _ _ _ | exact (ObjAt.new W4.drew 3 [.int .i64 x, .int .i64 y]).below HB6.out)).mono ?_; rintro e W7 ⟨rfl, h7, h8⟩; have HG7 := Lib.hid h7; have R7 : Hid (ObjAt W7 rr 60 [.int .i64 lb, .int .i64 x, .int .i64 y]) := (by first | exact h8.obj R6.out (HG6.out.ne R6.out (by decide)) (by decide) | exact h8.obj (R6.out.below ((Below.refl _ _).alloc (Nat.le_refl _) _)) (HG6.out.ne R6.out (by decide)) (by decide)); clear h7 h8))
    all_goals
      go_wp2_with fail
      go_roundw
      case rel => exact ⟨j + 1, by omega, by go_num, by rw [← HV.out]; exact HG7.out, HVL.out⟩
      case measure => simp [intOf]; omega
  obtain rfl : j = c.r.l.length := by omega
  have dq : decide ((c.r.l.length : Int) < (c.r.l.length : Int)) = false := decide_eq_false (by omega)
  have HTL2 := Lib.hid HTL.out
  obtain ⟨t3, ht2⟩ : ∃ tz, tz = t2 ++ tg 2 c.r.l c.r.l.length := ⟨_, rfl⟩
  rw [← ht2] at HG HTL2
  rw [tg_all] at ht2
  have HVt3 := Lib.hid ht2
  have hlt3 : t3.length ≤ 900 := by have := HTL2.out; omega
  clear HTL HTL2 ht2
  (have q0 := HX.out.ob.cell 0 _ rfl; have q1 := HX.out.ob.cell 1 _ rfl; have q2 := HX.out.ob.cell 2 _ rfl; have q3 := HX.out.ob.cell 3 _ rfl; have q4 := HX.out.ob.cell 4 _ rfl; have q5 := HX.out.ob.cell 5 _ rfl; have q6 := HX.out.ob.cell 6 _ rfl; have q7 := HX.out.ob.cell 7 _ rfl)
  go_upto_region 17 with fail
  clear q0 q1 q2 q3 q4 q5 q6 q7
  go_loopw [71] (fun i wr => ∃ j : Nat, j ≤ c.p.l.length ∧ i = .int .i64 j ∧ PG W2 b (t3 ++ tg 3 c.p.l j) wr ∧ (t3 ++ tg 3 c.p.l j).length ≤ (t3).length + 60 * j) (fun i _ => c.p.l.length - (intOf i).toNat)
  case atStart => exact ⟨0, by omega, rfl, by rw [tg_0, List.append_nil]; exact HG.out, by rw [tg_0, List.append_nil]; omega⟩
  clear HG
  obtain ⟨j, hj, rfl, hg, htl⟩ := hrel
  have HG := Lib.hid hg
  have HX := Lib.hid (H2.out.below hg.bel)
  have HTL := Lib.hid htl
  clear hg htl
  by_cases hlt : j < c.p.l.length
  case pos =>
    obtain ⟨bx, ox, hax, hcx⟩ := H2.out.ok.p.cells (by omega) j hlt
    obtain ⟨x, y, hrow⟩ := row2 hlt H2.out.ok.p.len
    have hfit := HF.out.p _ (List.getElem_mem hlt)
    rw [hrow] at hcx hfit
    simp only [List.getD_cons_zero, List.getD_cons_succ] at hfit
    obtain ⟨f2, f3⟩ := hfit
    have c0 := hcx _ HG.out.bel 0 _ rfl; have c1 := hcx _ HG.out.bel 1 _ rfl
    simp only [Nat.add_zero] at c0
    have d1 : decide ((j : Int) < (c.p.l.length : Int)) = true := decide_eq_true (by omega)
    have d1' : decide (j < c.p.l.length) = true := decide_eq_true hlt
    have w1 : IntKind.i64.wrap ((j : Int) + 1) = (j : Int) + 1 := by rw [IntKind.wrap_i64]; omega
    have kz : (0 : Int) ≤ (j : Int) := by omega
    have kl : (j : Int) < (c.p.l.length : Int) := by omega
    have htl : (t3 ++ tg 3 c.p.l j).length ≤ 1000000 := by have := HTL.out; omega
    have HLINE := fun W => Lib.hid (fun hg => pport_any x y f2 (f3.imp id fun h => ⟨h.1, by omega⟩) W2 b (t3 ++ tg 3 c.p.l j) W hg htl)
    have HV : Hid ((t3 ++ tg 3 c.p.l j) ++ (lineT (3, [x, y]) ++ [10]) = t3 ++ tg 3 c.p.l (j + 1)) := by rw [Hid, tg_succ 3 c.p.l j hlt, hrow, List.append_assoc]
    have HVL : Hid ((t3 ++ tg 3 c.p.l (j + 1)).length ≤ (t3).length + 60 * (j + 1)) := by
      rw [← HV.out, Hid, List.length_append]
      have h1 := port_len f2 f3
      have h3 := HTL.out
      omega
    have HAX := Lib.hid hax
    rw [hax]
    clear hcx hrow htl f2 f3 hax
    go_upto_region 19 with fail
    clear c0 c1
    have R1 : Hid (ObjAt (wr.alloc (.cells #[.int .i64 x, .int .i64 y] 62)) wr.heap.size 62 [.int .i64 x, .int .i64 y]) := ObjAt.new wr _ _
    have HG1 : Hid (PG W2 b (t3 ++ tg 3 c.p.l j) (wr.alloc (.cells #[.int .i64 x, .int .i64 y] 62))) := HG.out.more ((Below.refl _ _).alloc (Nat.le_refl _) _)
    generalize wr.alloc (.cells #[.int .i64 x, .int .i64 y] 62) = W4 at R1 HG1 ⊢
    generalize wr.heap.size = rr at R1 ⊢
    have c0 := R1.out.cell 0 _ rfl
    have c1 := R1.out.cell 1 _ rfl
    go_wp2_with (go_at_call 26; refine ((HLINE _).out HG1.out).mono ?_; rintro e W7 ⟨rfl, h7, h8⟩; have HG7 := Lib.hid h7; clear h7 h8 c0 c1)
    go_roundw
    case rel => exact ⟨j + 1, by omega, by go_num, by rw [← HV.out]; exact HG7.out, HVL.out⟩
    case measure => simp [intOf]; omega
  obtain rfl : j = c.p.l.length := by omega
  have dq : decide ((c.p.l.length : Int) < (c.p.l.length : Int)) = false := decide_eq_false (by omega)
  have HTL2 := Lib.hid HTL.out
  obtain ⟨t4, ht2⟩ : ∃ tz, tz = t3 ++ tg 3 c.p.l c.p.l.length := ⟨_, rfl⟩
  rw [← ht2] at HG HTL2
  rw [tg_all] at ht2
  have HVt4 := Lib.hid ht2
  have hlt4 : t4.length ≤ 1400 := by have := HTL2.out; omega
  clear HTL HTL2 ht2
  (have q0 := HX.out.ob.cell 0 _ rfl; have q1 := HX.out.ob.cell 1 _ rfl; have q2 := HX.out.ob.cell 2 _ rfl; have q3 := HX.out.ob.cell 3 _ rfl; have q4 := HX.out.ob.cell 4 _ rfl; have q5 := HX.out.ob.cell 5 _ rfl; have q6 := HX.out.ob.cell 6 _ rfl; have q7 := HX.out.ob.cell 7 _ rfl)
  go_upto_region 22 with fail
  clear q0 q1 q2 q3 q4 q5 q6 q7
  go_loopw [82] (fun i wr => ∃ j : Nat, j ≤ c.n.l.length ∧ i = .int .i64 j ∧ PG W2 b (t4 ++ tg 4 c.n.l j) wr ∧ (t4 ++ tg 4 c.n.l j).length ≤ (t4).length + 60 * j) (fun i _ => c.n.l.length - (intOf i).toNat)
  case atStart => exact ⟨0, by omega, rfl, by rw [tg_0, List.append_nil]; exact HG.out, by rw [tg_0, List.append_nil]; omega⟩
  clear HG
  obtain ⟨j, hj, rfl, hg, htl⟩ := hrel
  have HG := Lib.hid hg
  have HX := Lib.hid (H2.out.below hg.bel)
  have HTL := Lib.hid htl
  clear hg htl
  by_cases hlt : j < c.n.l.length
  case pos =>
    obtain ⟨bx, ox, hax, hcx⟩ := H2.out.ok.n.cells (by omega) j hlt
    obtain ⟨x, y, hrow⟩ := row2 hlt H2.out.ok.n.len
    have hfit := HF.out.n _ (List.getElem_mem hlt)
    rw [hrow] at hcx hfit
    simp only [List.getD_cons_zero, List.getD_cons_succ] at hfit
    obtain ⟨f2, f3⟩ := hfit
    have c0 := hcx _ HG.out.bel 0 _ rfl; have c1 := hcx _ HG.out.bel 1 _ rfl
    simp only [Nat.add_zero] at c0
    have d1 : decide ((j : Int) < (c.n.l.length : Int)) = true := decide_eq_true (by omega)
    have d1' : decide (j < c.n.l.length) = true := decide_eq_true hlt
    have w1 : IntKind.i64.wrap ((j : Int) + 1) = (j : Int) + 1 := by rw [IntKind.wrap_i64]; omega
    have kz : (0 : Int) ≤ (j : Int) := by omega
    have kl : (j : Int) < (c.n.l.length : Int) := by omega
    have htl : (t4 ++ tg 4 c.n.l j).length ≤ 1000000 := by have := HTL.out; omega
    have HLINE := fun W g => Lib.hid (pline2 4 (by decide) [] x y ⟨f2.1, by omega⟩ ⟨f3.1, by omega⟩ (w := W2) (b := b) (t := t4 ++ tg 4 c.n.l j) htl (by simp) W g)
    have HV : Hid ((t4 ++ tg 4 c.n.l j) ++ lnW 4 [] [x, y] = t4 ++ tg 4 c.n.l (j + 1)) := by rw [Hid, lnW_k, tg_succ 4 c.n.l j hlt, hrow, List.append_assoc]
    have HVL : Hid ((t4 ++ tg 4 c.n.l (j + 1)).length ≤ (t4).length + 60 * (j + 1)) := by
      rw [← HV.out, Hid, List.length_append]
      have h1 := lnW_len 4 (by decide) [] [x, y] (by intro n hn; simp at hn; rcases hn with rfl | rfl <;> omega)
      have h3 := HTL.out
      simp only [List.length_cons, List.length_nil] at h1
      omega
    have HAX := Lib.hid hax
    rw [hax]
    clear hcx hrow htl f2 f3 hax
    go_upto_region 24 with fail
    clear c0 c1
    have R1 : Hid (ObjAt (wr.alloc (.cells #[.int .i64 x, .int .i64 y] 64)) wr.heap.size 64 [.int .i64 x, .int .i64 y]) := ObjAt.new wr _ _
    have HG1 : Hid (PG W2 b (t4 ++ tg 4 c.n.l j) (wr.alloc (.cells #[.int .i64 x, .int .i64 y] 64))) := HG.out.more ((Below.refl _ _).alloc (Nat.le_refl _) _)
    generalize wr.alloc (.cells #[.int .i64 x, .int .i64 y] 64) = W4 at R1 HG1 ⊢
    generalize wr.heap.size = rr at R1 ⊢
    have c0 := R1.out.cell 0 _ rfl
    have c1 := R1.out.cell 1 _ rfl
    go_wp2_with (go_at_call 24; refine ((HLINE _ _).out (HG1.out.more ((Below.refl _ _).alloc (Nat.le_refl _) _)) (ObjAt.new _ _ _)).mono ?_; rintro e W7 ⟨rfl, h7, h8⟩; have HG7 := Lib.hid h7; clear h7 h8 c0 c1)
    go_roundw
    case rel => exact ⟨j + 1, by omega, by go_num, by rw [← HV.out]; exact HG7.out, HVL.out⟩
    case measure => simp [intOf]; omega
  obtain rfl : j = c.n.l.length := by omega
  have dq : decide ((c.n.l.length : Int) < (c.n.l.length : Int)) = false := decide_eq_false (by omega)
  have HTL2 := Lib.hid HTL.out
  obtain ⟨t5, ht2⟩ : ∃ tz, tz = t4 ++ tg 4 c.n.l c.n.l.length := ⟨_, rfl⟩
  rw [← ht2] at HG HTL2
  rw [tg_all] at ht2
  have HVt5 := Lib.hid ht2
  have hlt5 : t5.length ≤ 1700 := by have := HTL2.out; omega
  clear HTL HTL2 ht2
  (have q0 := HX.out.ob.cell 0 _ rfl; have q1 := HX.out.ob.cell 1 _ rfl; have q2 := HX.out.ob.cell 2 _ rfl; have q3 := HX.out.ob.cell 3 _ rfl; have q4 := HX.out.ob.cell 4 _ rfl; have q5 := HX.out.ob.cell 5 _ rfl; have q6 := HX.out.ob.cell 6 _ rfl; have q7 := HX.out.ob.cell 7 _ rfl)
  go_upto_region 27 with fail
  clear q0 q1 q2 q3 q4 q5 q6 q7
  go_loopw [97] (fun i wr => ∃ j : Nat, j ≤ c.s.l.length ∧ i = .int .i64 j ∧ PG W2 b (t5 ++ tg 5 c.s.l j) wr ∧ (t5 ++ tg 5 c.s.l j).length ≤ (t5).length + 60 * j) (fun i _ => c.s.l.length - (intOf i).toNat)
  case atStart => exact ⟨0, by omega, rfl, by rw [tg_0, List.append_nil]; exact HG.out, by rw [tg_0, List.append_nil]; omega⟩
  clear HG
  obtain ⟨j, hj, rfl, hg, htl⟩ := hrel
  have HG := Lib.hid hg
  have HX := Lib.hid (H2.out.below hg.bel)
  have HTL := Lib.hid htl
  clear hg htl
  by_cases hlt : j < c.s.l.length
  case pos =>
    obtain ⟨bx, ox, hax, hcx⟩ := H2.out.ok.s.cells (by omega) j hlt
    obtain ⟨x, y, hrow⟩ := row2 hlt H2.out.ok.s.len
    have hfit := HF.out.s _ (List.getElem_mem hlt)
    rw [hrow] at hcx hfit
    simp only [List.getD_cons_zero, List.getD_cons_succ] at hfit
    obtain ⟨f2, f3⟩ := hfit
    have c0 := hcx _ HG.out.bel 0 _ rfl; have c1 := hcx _ HG.out.bel 1 _ rfl
    simp only [Nat.add_zero] at c0
    have d1 : decide ((j : Int) < (c.s.l.length : Int)) = true := decide_eq_true (by omega)
    have d1' : decide (j < c.s.l.length) = true := decide_eq_true hlt
    have w1 : IntKind.i64.wrap ((j : Int) + 1) = (j : Int) + 1 := by rw [IntKind.wrap_i64]; omega
    have kz : (0 : Int) ≤ (j : Int) := by omega
    have kl : (j : Int) < (c.s.l.length : Int) := by omega
    have htl : (t5 ++ tg 5 c.s.l j).length ≤ 1000000 := by have := HTL.out; omega
    have HLINE := fun W g => Lib.hid (pline2 5 (by decide) [] x y ⟨f2.1, by omega⟩ ⟨f3.1, by omega⟩ (w := W2) (b := b) (t := t5 ++ tg 5 c.s.l j) htl (by simp) W g)
    have HV : Hid ((t5 ++ tg 5 c.s.l j) ++ lnW 5 [] [x, y] = t5 ++ tg 5 c.s.l (j + 1)) := by rw [Hid, lnW_k, tg_succ 5 c.s.l j hlt, hrow, List.append_assoc]
    have HVL : Hid ((t5 ++ tg 5 c.s.l (j + 1)).length ≤ (t5).length + 60 * (j + 1)) := by
      rw [← HV.out, Hid, List.length_append]
      have h1 := lnW_len 5 (by decide) [] [x, y] (by intro n hn; simp at hn; rcases hn with rfl | rfl <;> omega)
      have h3 := HTL.out
      simp only [List.length_cons, List.length_nil] at h1
      omega
    have HAX := Lib.hid hax
    rw [hax]
    clear hcx hrow htl f2 f3 hax
    go_upto_region 29 with fail
    clear c0 c1
    have R1 : Hid (ObjAt (wr.alloc (.cells #[.int .i64 x, .int .i64 y] 66)) wr.heap.size 66 [.int .i64 x, .int .i64 y]) := ObjAt.new wr _ _
    have HG1 : Hid (PG W2 b (t5 ++ tg 5 c.s.l j) (wr.alloc (.cells #[.int .i64 x, .int .i64 y] 66))) := HG.out.more ((Below.refl _ _).alloc (Nat.le_refl _) _)
    generalize wr.alloc (.cells #[.int .i64 x, .int .i64 y] 66) = W4 at R1 HG1 ⊢
    generalize wr.heap.size = rr at R1 ⊢
    have c0 := R1.out.cell 0 _ rfl
    have c1 := R1.out.cell 1 _ rfl
    go_wp2_with (go_at_call 24; refine ((HLINE _ _).out (HG1.out.more ((Below.refl _ _).alloc (Nat.le_refl _) _)) (ObjAt.new _ _ _)).mono ?_; rintro e W7 ⟨rfl, h7, h8⟩; have HG7 := Lib.hid h7; clear h7 h8 c0 c1)
    go_roundw
    case rel => exact ⟨j + 1, by omega, by go_num, by rw [← HV.out]; exact HG7.out, HVL.out⟩
    case measure => simp [intOf]; omega
  obtain rfl : j = c.s.l.length := by omega
  have dq : decide ((c.s.l.length : Int) < (c.s.l.length : Int)) = false := decide_eq_false (by omega)
  have HTL2 := Lib.hid HTL.out
  obtain ⟨t6, ht2⟩ : ∃ tz, tz = t5 ++ tg 5 c.s.l c.s.l.length := ⟨_, rfl⟩
  rw [← ht2] at HG HTL2
  rw [tg_all] at ht2
  have HVt6 := Lib.hid ht2
  have hlt6 : t6.length ≤ 2200 := by have := HTL2.out; omega
  clear HTL HTL2 ht2
  (have q0 := HX.out.ob.cell 0 _ rfl; have q1 := HX.out.ob.cell 1 _ rfl; have q2 := HX.out.ob.cell 2 _ rfl; have q3 := HX.out.ob.cell 3 _ rfl; have q4 := HX.out.ob.cell 4 _ rfl; have q5 := HX.out.ob.cell 5 _ rfl; have q6 := HX.out.ob.cell 6 _ rfl; have q7 := HX.out.ob.cell 7 _ rfl)
  go_upto_region 31 with fail
  clear q0 q1 q2 q3 q4 q5 q6 q7
  have HVA : Hid (t6 ++ textT (gateR (pcOf c)) = prT (pcOf c)) := by
    rw [Hid, HVt6.out, HVt5.out, HVt4.out, HVt3.out, HVt2.out, HVt1.out]
    unfold prT rowsP
    rw [show ((0, [(pcOf c).cats]) :: (tag 1 (pcOf c).g ++ (tag 2 (pcOf c).r ++ (tag 3 (pcOf c).p ++ (tag 4 (pcOf c).n ++ (tag 5 (pcOf c).s ++ gateR (pcOf c))))))) = [(0, [(pcOf c).cats])] ++ (tag 1 (pcOf c).g ++ (tag 2 (pcOf c).r ++ (tag 3 (pcOf c).p ++ (tag 4 (pcOf c).n ++ (tag 5 (pcOf c).s ++ gateR (pcOf c)))))) from rfl]
    simp only [textT_app, List.append_assoc]
    rfl
  have HNE : Hid (t6 ≠ []) := fun e => by
    have h1 := HVt6.out; have h2 := HVt5.out; have h3 := HVt4.out; have h4 := HVt3.out; have h5 := HVt2.out; have h6 := HVt1.out
    rw [h2, h3, h4, h5, h6, textT_one] at h1
    rw [e] at h1
    have := congrArg List.length h1
    simp at this
  (have q0 := HX.out.ob.cell 0 _ rfl; have q1 := HX.out.ob.cell 1 _ rfl; have q2 := HX.out.ob.cell 2 _ rfl; have q3 := HX.out.ob.cell 3 _ rfl; have q4 := HX.out.ob.cell 4 _ rfl; have q5 := HX.out.ob.cell 5 _ rfl; have q6 := HX.out.ob.cell 6 _ rfl; have q7 := HX.out.ob.cell 7 _ rfl)
  by_cases hgt : c.gate = -1
  · have n1 : (c.gate != -1) = false := by simp [hgt]
    have HGR : Hid (t6 = prT (pcOf c)) := by
      have := HVA.out
      rw [show gateR (pcOf c) = [] from by unfold gateR; rw [if_pos (show (pcOf c).gate = -1 from hgt)]] at this
      rw [Hid, ← this]; simp [textT]
    clear hgt
    go_wp2_with (go_at_call 27; refine (pgstring _ _ _ _ HG.out.pg HNE.out).mono ?_; rintro e W8 ⟨rfl, _, h3, _⟩; have HB8 := Lib.hid (HG.out.bel.trans h3); clear h3)
    go_ret2
    exact HP.out t6 _ HGR.out (H2.out.bel.trans (HB8.out.mono H2.out.bel.size))
  · have n1 : (c.gate != -1) = true := by rw [bne_iff_ne]; exact hgt
    have hfg := HF.out.gate.resolve_left (fun h => hgt h.1)
    obtain ⟨⟨f1, f2⟩, f3, f4⟩ : (0 ≤ c.gate ∧ c.gate < 4) ∧ 0 ≤ c.quota ∧ c.quota ≤ 64 := hfg
    have HLINE := fun W g => Lib.hid (pline2 6 (by decide) [] c.gate c.quota ⟨f1, by omega⟩ ⟨f3, by omega⟩ (w := W2) (b := b) (t := t6) (by omega) (by simp) W g)
    have HGR : Hid (t6 ++ lnW 6 [] [c.gate, c.quota] = prT (pcOf c)) := by
      have := HVA.out
      rw [show gateR (pcOf c) = [(6, [c.gate, c.quota])] from by unfold gateR; rw [if_neg (show ¬ (pcOf c).gate = -1 from hgt)]; rfl, textT_one] at this
      rw [Hid, ← this, show lnW 6 [] [c.gate, c.quota] = lineT (6, [c.gate, c.quota]) ++ [10] from lnW_k 2 _ _]
    clear hgt f1 f2 f3 f4
    go_wp2_with fail
    refine ((HLINE _ _).out (HG.out.more ((Below.refl _ _).alloc (Nat.le_refl _) _)) (ObjAt.new _ _ _)).mono ?_; rintro e W7 ⟨rfl, h7, h8⟩
    have HG7 := Lib.hid h7
    clear h7 h8 q0 q1 q2 q3 q4 q5 q6 q7
    go_wp2_with (go_at_call 27; refine (pgstring _ _ _ _ HG7.out.pg (by simp [HNE.out])).mono ?_; rintro e W8 ⟨rfl, _, h3, _⟩; have HB8 := Lib.hid (HG7.out.bel.trans h3); clear h3)
    go_ret2
    exact HP.out _ _ HGR.out (H2.out.bel.trans (HB8.out.mono H2.out.bel.size))
theorem pprint_any (c : Cv) (w : World) (h : CfgOk w c) (hP : PowIs w) : Calls Tryd.prog 17 #[(.agg #[.int .i64 c.cats, .slice c.g.a c.g.l.length c.g.cap, .slice c.r.a c.r.l.length c.r.cap, .slice c.p.a c.p.l.length c.p.cap, .slice c.n.a c.n.l.length c.n.cap, .slice c.s.a c.s.l.length c.s.cap, .int .i64 c.gate, .int .i64 c.quota])] w (PrPost c w) := by
  by_cases h0 : (chkV c).1 = 0
  · exact pprint_yes c w h h0 hP
  · exact pprint_no c w h h0
end Go.Proofs.YtoalpdjpljapbaaDoor
/- Packages plan and its reference: lines of a text. -/
namespace Go.Proofs.YtoalpdjpljapbaaDoor
set_option linter.unusedVariables false
set_option linter.unusedSimpArgs false
set_option linter.unnecessarySimpa false
open Go.RowKit Go.Sort
set_option maxHeartbeats 2000000
set_option maxRecDepth 100000
set_option linter.unusedVariables false
theorem fieldsC_sep (c : UInt8) : ∀ s : List UInt8, fieldsC c (s ++ [c]) = fieldsC c s ++ [[]]
  | [] => by simp [fieldsC]
  | b :: t => by
    have ih := fieldsC_sep c t
    by_cases h : b = c
    · rw [List.cons_append, fieldsC, if_pos h, ih, fieldsC, if_pos h]; rfl
    · obtain ⟨x, r, h1, h2⟩ := fieldsC_cons h t
      obtain ⟨x', r', h1', h2'⟩ := fieldsC_cons h (t ++ [c])
      rw [List.cons_append, h2', h2]
      rw [h1, h1'] at ih
      injection ih with ih1 ih2
      rw [ih1, ih2]; rfl
theorem fieldsC_snoc (c b : UInt8) (hb : b ≠ c) : ∀ s : List UInt8, ∃ D y, fieldsC c (s ++ [b]) = D ++ [y ++ [b]]
  | [] => ⟨[], [], by rw [List.nil_append, fieldsC_free c [b] (by simp; exact hb)]; rfl⟩
  | a :: t => by
    obtain ⟨D, y, ih⟩ := fieldsC_snoc c b hb t
    by_cases h : a = c
    · exact ⟨[] :: D, y, by rw [List.cons_append, fieldsC, if_pos h, ih]; rfl⟩
    · obtain ⟨x', r', h1', h2'⟩ := fieldsC_cons h (t ++ [b])
      rw [ih] at h1'
      cases D with
      | nil =>
        rw [List.nil_append] at h1'
        injection h1' with e1 e2
        exact ⟨[], a :: y, by rw [List.cons_append, h2', ← e1, ← e2]; rfl⟩
      | cons d D =>
        rw [List.cons_append] at h1'
        injection h1' with e1 e2
        exact ⟨(a :: x') :: D, y, by rw [List.cons_append, h2', ← e2]; rfl⟩
theorem fieldsC_last (s : List UInt8) : (fieldsC 10 s).getLast? = some [] ↔ s = [] ∨ s.getLast? = some 10 := by
  rcases List.eq_nil_or_concat s with rfl | ⟨t, b, rfl⟩
  · simp [fieldsC]
  · rw [List.concat_eq_append]
    by_cases h : b = 10
    · subst h
      rw [fieldsC_sep]; simp
    · obtain ⟨D, y, e⟩ := fieldsC_snoc 10 b h t
      rw [e]
      simp [h]

theorem suf_10 (s : List UInt8) : Lib.hasSuffix s [10] = true ↔ s.getLast? = some 10 := by
  unfold Lib.hasSuffix
  rw [List.isSuffixOf_iff_suffix]
  constructor
  · rintro ⟨t, rfl⟩; simp
  · intro h
    obtain ⟨t, ht⟩ := List.getLast?_eq_some_iff.1 h
    exact ⟨t, ht.symm⟩
/-- Is a text's last line ended? -/
def lsB (s : List UInt8) : Bool := decide ((fieldsC 10 s).getLast? = some [])
def lsL (s : List UInt8) : List (List UInt8) := (fieldsC 10 s).dropLast
def LsPost (s : List UInt8) (w : World) (e : Ending) (w' : World) : Prop :=
  (lsB s = true → ∃ a cap, e = .returned (.tuple #[.slice a (lsL s).length cap, .bool true]) ∧ RdW w' a cap (lsL s)) ∧ (lsB s = false → e = .returned (.tuple #[.slice none 0 0, .bool false])) ∧ Below w.heap.size w w'
theorem ls_yes {s : List UInt8} {L : List (List UInt8)} {w w' : World} {e : Ending} {a : Option Addr} {cap : Nat} (h : fieldsC 10 s = L ++ [[]]) (he : e = .returned (.tuple #[.slice a L.length cap, .bool true])) (hr : RdW w' a cap L) (hb : Below w.heap.size w w') : LsPost s w e w' := by
  have e1 : lsL s = L := by rw [lsL, h, List.dropLast_concat]
  have e2 : lsB s = true := by rw [lsB, h]; simp
  exact ⟨fun _ => ⟨a, cap, by rw [e1]; exact he, by rw [e1]; exact hr⟩, (fun h => by rw [e2] at h; cases h), hb⟩
theorem ls_no {s : List UInt8} {D : List (List UInt8)} {x : List UInt8} {w w' : World} (h : fieldsC 10 s = D ++ [x]) (hx : x ≠ []) (hb : Below w.heap.size w w') : LsPost s w (.returned (.tuple #[.slice none 0 0, .bool false])) w' := by
  have e2 : lsB s = false := by rw [lsB, h]; simp [hx]
  exact ⟨(fun h => by rw [e2] at h; cases h), fun _ => rfl, hb⟩
theorem rlines_any (s : ByteArray) (hs : s.size ≤ 100000000) (w : World) : Calls Tryd.prog 16 #[.string s] w (LsPost s.data.toList w) := by
  obtain ⟨ib, hib, hzb, hzb1, hzb2⟩ := info_parts info_byte
  obtain ⟨is, his, hzs, hzs1, hzs2⟩ := info_parts info_str
  obtain ⟨F, hF⟩ : ∃ F, F = fieldsC 10 s.data.toList := ⟨_, rfl⟩
  have HPY : Hid (∀ w' L a n cap, F = L ++ [[]] → n = L.length → RdW w' a cap L → Below w.heap.size w w' → LsPost s.data.toList w (.returned (.tuple #[.slice a n cap, .bool true])) w') := fun w' L a n cap h1 hn h3 h4 => by
    subst hF; subst hn; exact ls_yes h1 rfl h3 h4
  have HPN : Hid (∀ w' D x, F = D ++ [x] → x ≠ [] → Below w.heap.size w w' → LsPost s.data.toList w (.returned (.tuple #[.slice none 0 0, .bool false])) w') := fun w' D x h1 h2 h4 => by
    subst hF; exact ls_no h1 h2 h4
  have HS0 : Hid (SP w w none 0 [] none 0 []) := ⟨Own.nil _ _ _ _, Own.nil _ _ _ _, Below.refl _ _⟩
  have HF := Lib.hid hF
  clear hF
  go_enter Tryd.func16, Tryd.ntmps16
  go_wp2
  go_loopw [4, 5, 6] (fun o v i wr => ∃ (k : Nat) (done : List (List UInt8)) (cur : List UInt8) (ao ab : Option Addr) (co cb : Nat), k ≤ s.size ∧ i = .int .i64 k ∧ o = .slice ao done.length co ∧ v = .slice ab cur.length cb ∧ SP w wr ao co done ab cb cur ∧ done.length ≤ k ∧ cur.length ≤ k ∧ (∀ b ∈ cur, b ≠ 10) ∧ F = done ++ fieldsC 10 (cur ++ s.data.toList.drop k)) (fun _ _ i _ => s.size - (intOf i).toNat)
  case atStart => exact ⟨0, [], [], none, none, 0, 0, by omega, rfl, rfl, rfl, HS0.out, Nat.le_refl _, Nat.le_refl _, by simp, HF.out⟩
  case round =>
    clear HS0
    obtain ⟨k, done, cur, ao, ab, co, cb, hk, rfl, rfl, rfl, hsp, hdl, hcl, hcn, hrel⟩ := hrel
    have SPH := Lib.hid hsp
    have HCN := Lib.hid hcn
    have HREL := Lib.hid hrel
    have hsz := hsp.bel.size
    clear hsp hcn hrel
    by_cases hlt : k < s.size
    · have d1 : decide ((k : Int) < (s.size : Int)) = true := decide_eq_true (by omega)
      have d1' : decide (k < s.size) = true := decide_eq_true hlt
      have w1 : IntKind.i64.wrap ((k : Int) + 1) = (k : Int) + 1 := by rw [IntKind.wrap_i64]; omega
      have hdrop : s.data.toList.drop k = s[k] :: s.data.toList.drop (k + 1) := List.drop_eq_getElem_cons (by rw [ba_len]; exact hlt)
      by_cases h32 : s[k].toNat = 10
      · have hb32 : s[k] = 10 := by rw [← UInt8.toNat_inj]; exact h32
        have dn : ((s[k].toNat : Int) == 10) = true := by simp [h32]
        have HR2 : Hid (F = (done ++ [cur]) ++ fieldsC 10 ([] ++ s.data.toList.drop (k + 1))) := by
          rw [Hid, HREL.out, hdrop, hb32, fieldsC_app 10 cur _ HCN.out, List.append_assoc]; rfl
        have hconv := run_own_str wr _ _ _ _ _ SPH.out.b
        clear hdrop hb32 h32
        go_wp2_with (at_builtin; (refine wpList_own rfl (.tmp 17) (.tmp 20) 37 rfl w.heap.size 9 is _ 1 16 Tryd.underlying37 his hzs hzs1 hzs2 rfl (by omega) ao done.length co (strC done) rfl ((SPH.out.below ((Below.refl _ _).alloc (Nat.le_refl _) _)).o) wr.heap.size [.string (ba cur)] rfl (new_block _ _ _ rfl) rfl (by simp [Value.oneCell']) (by simp only [maxLen]; omega) (by omega) (by simp; omega) ?_); intro g' c' w2 hown1 hmod1 _; have HO := Lib.hid hown1; have HM : Hid (Mod (blk ao) wr w2) := ((Mod.ofBelow ((Below.refl wr.heap.size wr).alloc (Nat.le_refl _) _)).trans hmod1); clear hown1 hmod1)
        have SP2 : Hid (SP w w2 (some ⟨g', 0, none⟩) c' (done ++ [cur]) none 0 []) := ⟨by rw [strC_snoc, List.length_append]; exact HO.out, Own.nil _ _ _ _, SPH.out.bel.trans (HM.out.below (fun j hj => (SPH.out.o.ge j hj).1) hsz)⟩
        go_roundw
        case rel => exact ⟨k + 1, done ++ [cur], [], some ⟨g', 0, none⟩, none, c', 0, by omega, by go_num, by rw [List.length_append]; rfl, rfl, SP2.out, by simp; omega, by simp, by simp, HR2.out⟩
        case measure => simp [intOf]; omega
      · have hb32 : s[k] ≠ 10 := fun e => h32 (by rw [e]; rfl)
        have dn : ((s[k].toNat : Int) == 10) = false := by rw [beq_eq_false_iff_ne]; omega
        have HR2 : Hid (F = done ++ fieldsC 10 ((cur ++ [s[k]]) ++ s.data.toList.drop (k + 1))) := by
          rw [Hid, HREL.out, hdrop, List.append_assoc]; rfl
        have HB2 : Hid (∀ b ∈ cur ++ [s[k]], b ≠ 10) := fun b hb => by
          rcases List.mem_append.1 hb with h | h
          · exact HCN.out b h
          · rw [List.mem_singleton.1 h]; exact hb32
        have hx : s[k].toNat < 256 := s[k].toNat_lt
        clear hdrop hb32 h32
        go_wp2_with (at_builtin; (refine wpList_own rfl (.tmp 22) (.tmp 26) 67 rfl w.heap.size 5 ib _ 1 1 Tryd.underlying67 hib hzb hzb1 hzb2 rfl (by omega) ab cur.length cb (bC cur) rfl ((SPH.out.below ((Below.refl _ _).alloc (Nat.le_refl _) _)).b) wr.heap.size [.int .u8 (s[k].toNat : Int)] rfl (new_block _ _ _ rfl) rfl (by simp [Value.oneCell']) (by simp only [maxLen]; omega) (by omega) (by simp; omega) ?_); intro g' c' w2 hown1 hmod1 _; have HO := Lib.hid hown1; have HM : Hid (Mod (blk ab) wr w2) := ((Mod.ofBelow ((Below.refl wr.heap.size wr).alloc (Nat.le_refl _) _)).trans hmod1); clear hown1 hmod1)
        have SP2 : Hid (SP w w2 ao co done (some ⟨g', 0, none⟩) c' (cur ++ [s[k]])) := ⟨SPH.out.o.mod HM.out (SPH.out.o.apart SPH.out.b (by decide)), by rw [bC_snoc, List.length_append]; exact HO.out, SPH.out.bel.trans (HM.out.below (fun j hj => (SPH.out.b.ge j hj).1) hsz)⟩
        go_roundw
        case rel => exact ⟨k + 1, done, cur ++ [s[k]], ao, some ⟨g', 0, none⟩, co, c', by omega, by go_num, rfl, by rw [List.length_append]; rfl, SP2.out, by omega, by simp; omega, HB2.out, HR2.out⟩
        case measure => simp [intOf]; omega
    · have d1 : decide ((k : Int) < (s.size : Int)) = false := decide_eq_false (by omega)
      have d1' : decide (k < s.size) = false := decide_eq_false hlt
      have HR2 : Hid (F = done ++ [cur]) := by
        rw [Hid, HREL.out, List.drop_eq_nil_of_le (by rw [ba_len]; omega), List.append_nil, fieldsC_free 10 cur HCN.out]
      by_cases hc0 : cur.length = 0
      · have dc : decide ((cur.length : Int) > 0) = false := decide_eq_false (by omega)
        have dc' : decide (0 < cur.length) = false := decide_eq_false (by omega)
        have HC0 : Hid (cur = []) := List.eq_nil_of_length_eq_zero hc0
        clear hc0
        go_wp2
        go_ret2
        exact HPY.out _ done _ _ _ (by rw [HR2.out, HC0.out]) rfl (own_rdW SPH.out.o) SPH.out.bel
      · have dc : decide ((cur.length : Int) > 0) = true := decide_eq_true (by omega)
        have dc' : decide (0 < cur.length) = true := decide_eq_true (by omega)
        have HC0 : Hid (cur ≠ []) := fun e => hc0 (by rw [e]; rfl)
        clear hc0
        go_wp2
        go_ret2
        exact HPN.out _ done cur HR2.out HC0.out SPH.out.bel
theorem lines_any (s : ByteArray) (hs : s.size ≤ 100000000) (w : World) : Calls Tryd.prog 15 #[.string s] w (LsPost s.data.toList w) := by
  have HPY : Hid (∀ w' L a n cap, fieldsC 10 s.data.toList = L ++ [[]] → n = L.length → RdW w' a cap L → Below w.heap.size w w' → LsPost s.data.toList w (.returned (.tuple #[.slice a n cap, .bool true])) w') := fun w' L a n cap h1 hn h3 h4 => by
    subst hn; exact ls_yes h1 rfl h3 h4
  have HPN : Hid (∀ w' D x, fieldsC 10 s.data.toList = D ++ [x] → x ≠ [] → Below w.heap.size w w' → LsPost s.data.toList w (.returned (.tuple #[.slice none 0 0, .bool false])) w') := fun w' D x h1 h2 h4 => by
    exact ls_no h1 h2 h4
  by_cases h0 : s.size = 0
  · have ie := toList_empty s
    rw [decide_eq_true h0] at ie
    have HE : Hid (fieldsC 10 s.data.toList = [] ++ [[]]) := by
      have : s.data.toList = [] := List.eq_nil_of_length_eq_zero (by rw [ba_len]; exact h0)
      rw [Hid, this]; rfl
    clear h0
    go_enter Tryd.func15, Tryd.ntmps15
    go_wp2_with fail
    go_ret2
    exact HPY.out _ [] _ _ _ HE.out rfl (own_rdW (Own.nil w w.heap.size 9 1)) (Below.refl _ _)
  · have ie := toList_empty s
    rw [decide_eq_false h0] at ie
    have HSU : Hid (∀ W, Calls Tryd.prog 23 #[.string s, .string ⟨#[10]⟩] W fun e w' => e = .returned (.bool (Lib.hasSuffix s.data.toList [10])) ∧ w' = W) := fun W => Tryd.strings_HasSuffix s ⟨#[10]⟩ W (by omega)
    cases hx : Lib.hasSuffix s.data.toList [10]
    · have HE : Hid (∃ D x, fieldsC 10 s.data.toList = D ++ [x] ∧ x ≠ []) := by
        refine ⟨(fieldsC 10 s.data.toList).dropLast, (fieldsC 10 s.data.toList).getLast (fieldsC_ne 10 _), (List.dropLast_concat_getLast _).symm, fun e => ?_⟩
        have h2 : (fieldsC 10 s.data.toList).getLast? = some [] := by rw [List.getLast?_eq_some_getLast (fieldsC_ne 10 _), e]
        rcases (fieldsC_last _).1 h2 with h | h
        · rw [← List.length_eq_zero_iff, ba_len] at h; exact h0 h
        · rw [(suf_10 _).2 h] at hx; cases hx
      rw [hx] at HSU
      clear h0 hx
      go_enter Tryd.func15, Tryd.ntmps15
      go_wp2_with fail
      refine (HSU.out _).mono ?_; rintro e w' ⟨rfl, rfl⟩
      go_wp2_with fail
      go_ret2
      obtain ⟨D, x, h1, h2⟩ := HE.out
      exact HPN.out _ D x h1 h2 (Below.refl _ _)
    · obtain ⟨t, ht⟩ : ∃ t, s.data.toList = t ++ [10] := by
        obtain ⟨t, ht⟩ := List.getLast?_eq_some_iff.1 ((suf_10 _).1 hx); exact ⟨t, ht⟩
      have hlt : t.length + 1 = s.size := by rw [← ba_len, ht]; simp
      have HT : Hid (s.extract 0 (s.size - 1) = ba t) := by
        apply ByteArray.ext
        apply Array.ext'
        rw [ByteArray.data_extract, Array.toList_extract, ht, ba_data, ← hlt]
        simp
      have HE : Hid (fieldsC 10 s.data.toList = fieldsC 10 t ++ [[]]) := by rw [Hid, ht, fieldsC_sep]
      have HSP : Hid (∀ W, Calls Tryd.prog 19 #[.string (s.extract 0 (s.size - 1)), .string ⟨#[10]⟩] W fun e w' => e = .returned (.slice (some ⟨W.heap.size, 0, none⟩) (fieldsC 10 t).length (fieldsC 10 t).length) ∧ w' = W.alloc (.cells (strC (fieldsC 10 t)).toArray 9)) := fun W => by
        rw [HT.out]
        have := split1L (ba t) 10 W (by rw [ba_size]; omega)
        rw [ba_data] at this; exact this
      have HR : Hid (∀ W : World, RdW (W.alloc (.cells (strC (fieldsC 10 t)).toArray 9)) (some ⟨W.heap.size, 0, none⟩) (fieldsC 10 t).length (fieldsC 10 t)) := fun W => by
        refine ⟨⟨by rw [strC_len, Nat.mul_one], (fun h => by cases h), fun p hp hne => ?_⟩, Nat.le_refl _, ?_⟩
        · injection hp with hp
          subst hp
          have ho := ObjAt.new W 9 (strC (fieldsC 10 t))
          exact ⟨W.heap.size, 0, rfl, ho.lt, fun j u hu => by rw [Nat.zero_add]; exact ho.cell j u hu⟩
        · rw [fieldsC_len]
          have := List.count_le_length (a := (10 : UInt8)) (l := t)
          unfold maxLen; omega
      have w5 : IntKind.i64.wrap ((s.size : Int) - 1) = ((s.size - 1 : Nat) : Int) := by rw [IntKind.wrap_i64]; omega
      have hsz : s.size - 1 ≤ s.size := by omega
      rw [hx] at HSU
      clear h0 hx ht hlt HT
      go_enter Tryd.func15, Tryd.ntmps15
      go_wp2_with fail
      refine (HSU.out _).mono ?_; rintro e w' ⟨rfl, rfl⟩
      go_wp2_with fail
      refine (HSP.out _).mono ?_; rintro e w2 ⟨rfl, rfl⟩
      go_wp2_with fail
      go_ret2
      exact HPY.out _ _ _ _ _ HE.out rfl (HR.out _) ((Below.refl _ _).alloc (Nat.le_refl _) _)
end Go.Proofs.YtoalpdjpljapbaaDoor
/- The text of a configuration is read as that configuration: plain. -/
namespace Go.Proofs.YtoalpdjpljapbaaDoor
set_option linter.unusedVariables false
set_option linter.unusedSimpArgs false
set_option linter.unnecessarySimpa false
open Go.RowKit Go.Sort
set_option maxHeartbeats 2000000
set_option maxRecDepth 100000
set_option linter.unusedVariables false
theorem stP_pre (L M : List (List UInt8)) : ∀ k, k ≤ L.length → stP (L ++ M) k = stP L k
  | 0, _ => rfl
  | k + 1, h => by
    unfold stP
    rw [stP_pre L M k (by omega)]
    congr 1
    funext st
    rw [List.getD_eq_getElem?_getD, List.getD_eq_getElem?_getD, List.getElem?_append_left (by omega)]
theorem stP_snoc (L : List (List UInt8)) (x : List UInt8) : stP (L ++ [x]) (L.length + 1) = (stP L L.length).bind fun st => lineV st.1 st.2 (decide (L.length = 0)) x := by
  rw [show stP (L ++ [x]) (L.length + 1) = (stP (L ++ [x]) L.length).bind fun st => lineV st.1 st.2 (decide (L.length = 0)) ((L ++ [x]).getD L.length []) from rfl, stP_pre L [x] _ (Nat.le_refl _)]
  simp
/-- May this row be of this rank, in a text? -/
def RowOk (k : Nat) (r : List Int) : Prop := rowV k (rowT k r) = some r ∧ (rowT k r).length = wordsK k ∧ ∀ x ∈ rowT k r, x ≠ [] ∧ x.all (fun b => b != 10 && b != 32) = true
theorem all_sep {x : List UInt8} (h : x.all (fun b => b != 10 && b != 32) = true) : (∀ b ∈ x, b ≠ 10) ∧ ∀ b ∈ x, b ≠ 32 := by
  rw [List.all_eq_true] at h
  exact ⟨fun b hb => by have := h b hb; simp at this; exact this.1, fun b hb => by have := h b hb; simp at this; exact this.2⟩
theorem join_free (c d : UInt8) (hcd : c ≠ d) : ∀ L : List (List UInt8), (∀ x ∈ L, ∀ b ∈ x, b ≠ d) → ∀ b ∈ joinC c L, b ≠ d
  | [], _, b, hb => by simp [joinC] at hb
  | [x], h, b, hb => h x (by simp) b hb
  | x :: y :: r, h, b, hb => by
    rw [joinC] at hb
    rcases List.mem_append.1 hb with hb | hb
    · exact h x (by simp) b hb
    · rcases List.mem_cons.1 hb with rfl | hb
      · exact hcd
      · exact join_free c d hcd (y :: r) (fun z hz => h z (by simp [hz])) b hb
theorem rank_name : ∀ k : Fin 7, rankV (rkName k.val) = k.val := by decide +kernel
theorem name_ok : ∀ k : Fin 7, rkName k.val ≠ [] ∧ (rkName k.val).all (fun b => b != 10 && b != 32) = true := by decide +kernel
theorem rowT_head (k : Nat) (r : List Int) : (rowT k r).headD [] = rkName k := by unfold rowT; split <;> rfl
theorem rowT_ne (k : Nat) (r : List Int) : rowT k r ≠ [] := by unfold rowT; split <;> simp
theorem line_row {k : Nat} {r : List Int} (hk : k < 7) (h : RowOk k r) (c : Pc) (last : Int) (b : Bool) (ho : ordB k b last = true) : lineV c last b (lineT (k, r)) = some (setV c k r, (k : Int)) := by
  have hf : fieldsC 32 (lineT (k, r)) = rowT k r := fields_join 32 (rowT k r) (rowT_ne k r) (fun x hx => (all_sep (h.2.2 x hx).2).2)
  have hw : wordsB (lineT (k, r)) = true := by
    unfold wordsB; rw [hf, Bool.not_eq_true', List.any_eq_false]
    intro x hx
    have := (h.2.2 x hx).1
    cases x with
    | nil => exact absurd rfl this
    | cons a t => simp
  have hr : rankV ((fieldsC 32 (lineT (k, r))).headD []) = k := by rw [hf, rowT_head]; exact rank_name ⟨k, hk⟩
  unfold lineV
  rw [hr, hf, if_pos ⟨hw, hk, ho, h.2.1⟩, h.1]; rfl
theorem line_free {k : Nat} {r : List Int} (h : RowOk k r) : ∀ b ∈ lineT (k, r), b ≠ 10 := join_free 32 10 (by decide) _ (fun x hx => (all_sep (h.2.2 x hx).2).1)
theorem dc_numB {n : Int} (h0 : 0 ≤ n) (h1 : n < 1000000000) : numB (dc n) = true ∧ ((numI (dc n) : Nat) : Int) = n := by
  have := num_dd n.toNat (by omega)
  exact ⟨this.1, by rw [show numI (dc n) = n.toNat from this.2]; omega⟩
theorem dc_ne (n : Int) : dc n ≠ [] := dd_ne _
theorem dc_out {n : Int} (h0 : 0 ≤ n) (h1 : n < 1000000000) : dc n ≠ outT := fun e => by
  have := (dc_numB h0 h1).1
  rw [e] at this; revert this; decide
theorem lbT_F {l : Int} (h : 0 ≤ l ∧ l < 256) : lbF (lbT l) = some l.toNat := lparse_text ⟨l.toNat, by omega⟩
theorem row_nums {k : Nat} {ws : List (List UInt8)} (hk : ¬ (k = 1 ∨ k = 2 ∨ k = 3)) (hb : nmsB (ws.drop 1) = true) : rowV k ws = some (nmsL (ws.drop 1)) := by
  unfold rowV; rw [if_neg hk, if_pos hb]
theorem row_lab {k : Nat} {ws : List (List UInt8)} {x : Nat} (hk : k = 1 ∨ k = 2 ∨ k = 3) (hx : lbF (ws.getD 1 []) = some x) (ho : ¬ (k = 3 ∧ ws.getD 2 [] = [111, 117, 116])) (hb : nmsB (ws.drop 2) = true) : rowV k ws = some ((x : Int) :: nmsL (ws.drop 2)) := by
  unfold rowV; rw [if_pos hk, hx]; simp only; rw [if_neg ho, if_pos hb]
def NumOk' (x : Int) : Prop := 0 ≤ x ∧ x < 1000000000
theorem ok_0 {a : Int} (ha : NumOk' a) : RowOk 0 [a] := by
  have h1 := dc_numB ha.1 ha.2
  refine ⟨?_, rfl, ?_⟩
  · rw [row_nums (by omega) (by simp [rowT, nmsB, h1.1])]; simp [rowT, nmsL, h1.2]
  · intro x hx
    simp only [rowT, List.mem_cons, List.not_mem_nil, or_false, List.getD_cons_zero] at hx
    rcases hx with rfl | rfl
    · exact name_ok ⟨0, by omega⟩
    · exact ⟨dc_ne _, dc_all _⟩
theorem ok_1 {l a b : Int} (hl : 0 ≤ l ∧ l < 256) (ha : NumOk' a) (hb : NumOk' b) : RowOk 1 [l, a, b] := by
  have h1 := dc_numB ha.1 ha.2
  have h2 := dc_numB hb.1 hb.2
  refine ⟨?_, rfl, ?_⟩
  · show rowV 1 [rkName 1, lbT l, dc a, dc b] = some [l, a, b]
    rw [row_lab (k := 1) (ws := [rkName 1, lbT l, dc a, dc b]) (x := l.toNat) (by omega) (lbT_F hl) (by omega) (by simp [nmsB, h1.1, h2.1])]
    simp [nmsL, h1.2, h2.2]; omega
  · intro x hx
    simp only [rowT, List.mem_cons, List.not_mem_nil, or_false, List.getD_cons_zero, List.getD_cons_succ] at hx
    rcases hx with rfl | rfl | rfl | rfl
    · exact name_ok ⟨1, by omega⟩
    · exact ⟨(lbT_ok hl).1, (lbT_ok hl).2.2⟩
    · exact ⟨dc_ne _, dc_all _⟩
    · exact ⟨dc_ne _, dc_all _⟩
theorem ok_2 {l a b : Int} (hl : 0 ≤ l ∧ l < 256) (ha : NumOk' a) (hb : NumOk' b) : RowOk 2 [l, a, b] := by
  have h1 := dc_numB ha.1 ha.2
  have h2 := dc_numB hb.1 hb.2
  refine ⟨?_, rfl, ?_⟩
  · show rowV 2 [rkName 2, lbT l, dc a, dc b] = some [l, a, b]
    rw [row_lab (k := 2) (ws := [rkName 2, lbT l, dc a, dc b]) (x := l.toNat) (by omega) (lbT_F hl) (by omega) (by simp [nmsB, h1.1, h2.1])]
    simp [nmsL, h1.2, h2.2]; omega
  · intro x hx
    simp only [rowT, List.mem_cons, List.not_mem_nil, or_false, List.getD_cons_zero, List.getD_cons_succ] at hx
    rcases hx with rfl | rfl | rfl | rfl
    · exact name_ok ⟨2, by omega⟩
    · exact ⟨(lbT_ok hl).1, (lbT_ok hl).2.2⟩
    · exact ⟨dc_ne _, dc_all _⟩
    · exact ⟨dc_ne _, dc_all _⟩
theorem ok_3 {l a : Int} (hl : 0 ≤ l ∧ l < 256) (ha : a = -1 ∨ NumOk' a) : RowOk 3 [l, a] := by
  rcases ha with rfl | ha
  · refine ⟨?_, rfl, ?_⟩
    · show rowV 3 [rkName 3, lbT l, outT] = some [l, -1]
      unfold rowV
      rw [if_pos (by omega), show lbF (([rkName 3, lbT l, outT] : List (List UInt8)).getD 1 []) = some l.toNat from lbT_F hl]
      refine (if_pos ⟨rfl, rfl⟩).trans ?_
      congr 2
      omega
    · intro x hx
      simp only [rowT, List.mem_cons, List.not_mem_nil, or_false, List.getD_cons_zero, List.getD_cons_succ, if_pos] at hx
      rcases hx with rfl | rfl | rfl
      · exact name_ok ⟨3, by omega⟩
      · exact ⟨(lbT_ok hl).1, (lbT_ok hl).2.2⟩
      · exact ⟨by decide, by decide⟩
  · have h1 := dc_numB ha.1 ha.2
    have hn : ¬ a = -1 := by have := ha.1; omega
    have ht : rowT 3 [l, a] = [rkName 3, lbT l, dc a] := by simp [rowT, hn]
    refine ⟨?_, by rw [ht]; rfl, ?_⟩
    · rw [ht, row_lab (k := 3) (ws := [rkName 3, lbT l, dc a]) (x := l.toNat) (by omega) (lbT_F hl) (fun h => dc_out ha.1 ha.2 h.2) (by simp [nmsB, h1.1])]
      simp [nmsL, h1.2]; omega
    · intro x hx
      rw [ht] at hx
      simp only [List.mem_cons, List.not_mem_nil, or_false] at hx
      rcases hx with rfl | rfl | rfl
      · exact name_ok ⟨3, by omega⟩
      · exact ⟨(lbT_ok hl).1, (lbT_ok hl).2.2⟩
      · exact ⟨dc_ne _, dc_all _⟩
theorem ok_k {k : Nat} {a b : Int} (hk : k < 3) (ha : NumOk' a) (hb : NumOk' b) : RowOk (k + 4) [a, b] := by
  have h1 := dc_numB ha.1 ha.2
  have h2 := dc_numB hb.1 hb.2
  refine ⟨?_, ?_, ?_⟩
  · rw [row_nums (by omega) (by simp [rowT, nmsB, h1.1, h2.1])]; simp [rowT, nmsL, h1.2, h2.2]
  · rcases (by omega : k = 0 ∨ k = 1 ∨ k = 2) with rfl | rfl | rfl <;> rfl
  · intro x hx
    simp only [rowT, List.mem_cons, List.not_mem_nil, or_false, List.getD_cons_zero, List.getD_cons_succ] at hx
    rcases hx with rfl | rfl | rfl
    · exact name_ok ⟨k + 4, by omega⟩
    · exact ⟨dc_ne _, dc_all _⟩
    · exact ⟨dc_ne _, dc_all _⟩
/-- Rows of one rank, one behind another. -/
theorem st_group (k : Nat) (h1 : 1 ≤ k) (h6 : k < 6) : ∀ (l : List (List Int)) (L : List (List UInt8)) (c : Pc) (last : Int), L ≠ [] → last ≤ k → stP L L.length = some (c, last) → (∀ r ∈ l, RowOk k r) →
    ∃ last' : Int, last' ≤ k ∧ stP (L ++ l.map fun r => lineT (k, r)) (L.length + l.length) = some (l.foldl (fun c r => setV c k r) c, last')
  | [], L, c, last, _, hl, hs, _ => ⟨last, hl, by simpa using hs⟩
  | r :: l, L, c, last, hne, hl, hs, hr => by
    have hL0 : L.length ≠ 0 := fun e => hne (List.eq_nil_of_length_eq_zero e)
    have h2 : stP (L ++ [lineT (k, r)]) (L ++ [lineT (k, r)]).length = some (setV c k r, (k : Int)) := by
      rw [List.length_append, List.length_singleton, stP_snoc, hs]
      simp only [Option.bind_some]
      rw [line_row (by omega) (hr r (by simp))]
      rw [decide_eq_false hL0, ordB_go (by rw [decide_eq_false (by omega)]) (by omega), decide_eq_true hl]
    obtain ⟨last', g1, g2⟩ := st_group k h1 h6 l (L ++ [lineT (k, r)]) (setV c k r) k (by simp) (Int.le_refl _) h2 (fun x hx => hr x (by simp [hx]))
    refine ⟨last', g1, ?_⟩
    rw [List.append_assoc, List.length_append, List.length_singleton] at g2
    rw [List.map_cons, List.length_cons, List.foldl_cons, ← g2]
    congr 1
    omega
theorem fold_g (l : List (List Int)) : ∀ c : Pc, l.foldl (fun c r => setV c 1 r) c = { c with g := c.g ++ l } := by
  induction l with
  | nil => intro c; simp
  | cons r l ih => intro c; rw [List.foldl_cons, ih]; simp [setV]
theorem fold_r (l : List (List Int)) : ∀ c : Pc, l.foldl (fun c r => setV c 2 r) c = { c with r := c.r ++ l } := by
  induction l with
  | nil => intro c; simp
  | cons r l ih => intro c; rw [List.foldl_cons, ih]; simp [setV]
theorem fold_p (l : List (List Int)) : ∀ c : Pc, l.foldl (fun c r => setV c 3 r) c = { c with p := c.p ++ l } := by
  induction l with
  | nil => intro c; simp
  | cons r l ih => intro c; rw [List.foldl_cons, ih]; simp [setV]
theorem fold_n (l : List (List Int)) : ∀ c : Pc, l.foldl (fun c r => setV c 4 r) c = { c with n := c.n ++ l } := by
  induction l with
  | nil => intro c; simp
  | cons r l ih => intro c; rw [List.foldl_cons, ih]; simp [setV]
theorem fold_s (l : List (List Int)) : ∀ c : Pc, l.foldl (fun c r => setV c 5 r) c = { c with s := c.s ++ l } := by
  induction l with
  | nil => intro c; simp
  | cons r l ih => intro c; rw [List.foldl_cons, ih]; simp [setV]
/-- The rows' lengths. -/
structure LenOk (c : Pc) : Prop where
  g : ∀ r ∈ c.g, r.length = 3
  r : ∀ r ∈ c.r, r.length = 3
  p : ∀ r ∈ c.p, r.length = 2
  n : ∀ r ∈ c.n, r.length = 2
  s : ∀ r ∈ c.s, r.length = 2
theorem len3 {r : List Int} (h : r.length = 3) : r = [r.getD 0 0, r.getD 1 0, r.getD 2 0] := by
  match r, h with
  | [a, b, c], _ => rfl
theorem len2 {r : List Int} (h : r.length = 2) : r = [r.getD 0 0, r.getD 1 0] := by
  match r, h with
  | [a, b], _ => rfl
theorem rows_ok {c : Pc} (hf : FitP c) (hl : LenOk c) : ∀ x ∈ rowsP c, RowOk x.1 x.2 ∧ x.1 < 7 := by
  intro x hx
  unfold rowsP tag gateR at hx
  simp only [List.mem_cons, List.mem_append, List.mem_map] at hx
  rcases hx with rfl | ⟨r, hr, rfl⟩ | ⟨r, hr, rfl⟩ | ⟨r, hr, rfl⟩ | ⟨r, hr, rfl⟩ | ⟨r, hr, rfl⟩ | hx
  · exact ⟨ok_0 ⟨hf.cats.1, by have := hf.cats.2; show c.cats < _; omega⟩, by simp⟩
  · have h := hf.g r hr
    have e := len3 (hl.g r hr)
    refine ⟨?_, by simp⟩
    show RowOk 1 r
    rw [e]; exact ok_1 h.1 ⟨h.2.1.1, by omega⟩ ⟨h.2.2.1, by omega⟩
  · have h := hf.r r hr
    have e := len3 (hl.r r hr)
    refine ⟨?_, by simp⟩
    show RowOk 2 r
    rw [e]; exact ok_2 h.1 ⟨h.2.1.1, by omega⟩ ⟨h.2.2.1, by omega⟩
  · have h := hf.p r hr
    have e := len2 (hl.p r hr)
    refine ⟨?_, by simp⟩
    show RowOk 3 r
    rw [e]; exact ok_3 h.1 (h.2.imp id fun h => ⟨h.1, by omega⟩)
  · have h := hf.n r hr
    have e := len2 (hl.n r hr)
    refine ⟨?_, by simp⟩
    show RowOk (0 + 4) r
    rw [e]; exact ok_k (by omega) ⟨h.1.1, by omega⟩ ⟨h.2.1, by omega⟩
  · have h := hf.s r hr
    have e := len2 (hl.s r hr)
    refine ⟨?_, by simp⟩
    show RowOk (1 + 4) r
    rw [e]; exact ok_k (by omega) ⟨h.1.1, by omega⟩ ⟨h.2.1, by omega⟩
  · split at hx
    · cases hx
    · rename_i hg
      rw [List.mem_singleton] at hx
      subst hx
      obtain ⟨h1, h2⟩ := hf.gate.resolve_left (fun h => hg h.1)
      exact ⟨ok_k (k := 2) (by omega) ⟨h1.1, by omega⟩ ⟨h2.1, by omega⟩, by simp⟩
theorem fields_text : ∀ R : List (Nat × List Int), (∀ x ∈ R, ∀ b ∈ lineT x, b ≠ 10) → fieldsC 10 (textT R) = R.map lineT ++ [[]]
  | [], _ => rfl
  | x :: R, h => by
    have ih := fields_text R (fun y hy => h y (by simp [hy]))
    rw [show textT (x :: R) = lineT x ++ 10 :: textT R from by simp [textT], fieldsC_app 10 _ _ (h x (by simp)), ih]; rfl
theorem st_rows {c : Pc} (hf : FitP c) (hl : LenOk c) : ∃ last, stP ((rowsP c).map lineT) ((rowsP c).map lineT).length = some (c, last) := by
  have hok := rows_ok hf hl
  have tagok : ∀ (k : Nat) (l : List (List Int)), (∀ r ∈ l, (k, r) ∈ rowsP c) → ∀ r ∈ l, RowOk k r := fun k l h r hr => (hok _ (h r hr)).1
  have mt : ∀ (k : Nat) (l : List (List Int)), (tag k l).map lineT = l.map fun r => lineT (k, r) := fun k l => by simp [tag]
  have s0 : stP [lineT (0, [c.cats])] [lineT (0, [c.cats])].length = some ({ pcN with cats := c.cats }, 0) := by
    have := stP_snoc [] (lineT (0, [c.cats]))
    rw [List.nil_append, List.length_nil] at this
    rw [show ([lineT (0, [c.cats])] : List (List UInt8)).length = 0 + 1 from rfl, this]
    show (some (pcN, (-1 : Int))).bind _ = _
    simp only [Option.bind_some]
    rw [line_row (by omega) (hok (0, [c.cats]) (by simp [rowsP])).1 _ _ _ (by first | rfl | (simp [ordB]))]; rfl
  obtain ⟨l1, a1, b1⟩ := st_group 1 (by omega) (by omega) c.g _ _ _ (by simp) (by omega) s0 (tagok 1 c.g fun r hr => by simp [rowsP, tag, hr])
  rw [fold_g, ← List.length_map (f := fun r => lineT (1, r)), ← List.length_append] at b1
  obtain ⟨l2, a2, b2⟩ := st_group 2 (by omega) (by omega) c.r _ _ _ (by simp) (by omega) b1 (tagok 2 c.r fun r hr => by simp [rowsP, tag, hr])
  rw [fold_r, ← List.length_map (f := fun r => lineT (2, r)), ← List.length_append] at b2
  obtain ⟨l3, a3, b3⟩ := st_group 3 (by omega) (by omega) c.p _ _ _ (by simp) (by omega) b2 (tagok 3 c.p fun r hr => by simp [rowsP, tag, hr])
  rw [fold_p, ← List.length_map (f := fun r => lineT (3, r)), ← List.length_append] at b3
  obtain ⟨l4, a4, b4⟩ := st_group 4 (by omega) (by omega) c.n _ _ _ (by simp) (by omega) b3 (tagok 4 c.n fun r hr => by simp [rowsP, tag, hr])
  rw [fold_n, ← List.length_map (f := fun r => lineT (4, r)), ← List.length_append] at b4
  obtain ⟨l5, a5, b5⟩ := st_group 5 (by omega) (by omega) c.s _ _ _ (by simp) (by omega) b4 (tagok 5 c.s fun r hr => by simp [rowsP, tag, hr])
  rw [fold_s, ← List.length_map (f := fun r => lineT (5, r)), ← List.length_append] at b5
  simp only [pcN, List.nil_append] at b5
  have hrw : (rowsP c).map lineT = ((((([lineT (0, [c.cats])] ++ c.g.map fun r => lineT (1, r)) ++ c.r.map fun r => lineT (2, r)) ++ c.p.map fun r => lineT (3, r)) ++ c.n.map fun r => lineT (4, r)) ++ c.s.map fun r => lineT (5, r)) ++ (gateR c).map lineT := by
    simp only [rowsP, List.map_cons, List.map_append, mt, List.append_assoc, List.cons_append, List.nil_append]
  rw [hrw]
  by_cases hg : c.gate = -1
  · have hq := (hf.gate.resolve_right (fun h => by omega)).2
    rw [show gateR c = [] from by unfold gateR; rw [if_pos hg], List.map_nil, List.append_nil]
    refine ⟨l5, ?_⟩
    rw [b5]
    congr 2
    cases c; simp_all
  · rw [show gateR c = [(6, [c.gate, c.quota])] from by unfold gateR; rw [if_neg hg], List.map_cons, List.map_nil, List.length_append, List.length_singleton, stP_snoc, b5]
    simp only [Option.bind_some]
    refine ⟨6, ?_⟩
    rw [line_row (by omega) (hok (6, [c.gate, c.quota]) (by simp [rowsP, gateR, hg])).1]
    · simp [setV]
    · rw [decide_eq_false (by simp), ordB_go (by rfl) (by omega), decide_eq_true (by omega)]
end Go.Proofs.YtoalpdjpljapbaaDoor
/- A text that is read as a configuration is that configuration's text: plain. -/
namespace Go.Proofs.YtoalpdjpljapbaaDoor
set_option linter.unusedVariables false
set_option linter.unusedSimpArgs false
set_option linter.unnecessarySimpa false
open Go.RowKit Go.Sort
set_option maxHeartbeats 2000000
set_option maxRecDepth 100000
set_option linter.unusedVariables false
theorem dc_nat (n : Nat) : dc (n : Int) = Lib.decDigits n := by unfold dc; rw [Int.toNat_natCast]
theorem dc_numI {w : List UInt8} (h : numB w = true) : dc ((numI w : Nat) : Int) = w := by rw [dc_nat, dd_num h]
theorem lbT_back {w : List UInt8} {x : Nat} (h : lbF w = some x) : lbT (x : Int) = w := by
  unfold lbT; rw [Int.toNat_natCast]; exact (lparseF_text w x h).2
theorem rowT_back {k : Nat} {ws : List (List UInt8)} {row : List Int} (hk : k < 7) (hh : ws.headD [] = rkName k) (hl : ws.length = wordsK k) (hr : rowV k ws = some row) : rowT k row = ws := by
  have wl : wordsK k = if k = 0 then 2 else if k = 1 ∨ k = 2 then 4 else 3 := by
    rcases (by omega : k = 0 ∨ k = 1 ∨ k = 2 ∨ k = 3 ∨ k = 4 ∨ k = 5 ∨ k = 6) with rfl | rfl | rfl | rfl | rfl | rfl | rfl <;> rfl
  unfold rowV at hr
  by_cases h3 : k = 1 ∨ k = 2 ∨ k = 3
  · rw [if_pos h3] at hr
    cases hx : lbF (ws.getD 1 []) with
    | none => rw [hx] at hr; cases hr
    | some x =>
      rw [hx] at hr
      simp only at hr
      rcases h3 with rfl | rfl | rfl
      · match ws, hl with
        | [w0, w1, w2, w3], _ =>
          rw [if_neg (by omega)] at hr
          split at hr
          · rename_i hb
            injection hr with hr
            subst hr
            simp only [nmsB, List.drop_succ_cons, List.drop_zero, List.all_cons, List.all_nil, Bool.and_true, Bool.and_eq_true] at hb
            simp only [List.headD_cons] at hh
            simp only [rowT, nmsL, List.drop_succ_cons, List.drop_zero, List.map_cons, List.map_nil, List.getD_cons_zero, List.getD_cons_succ]
            rw [dc_numI hb.1, dc_numI hb.2, lbT_back hx, ← hh]; rfl
          · cases hr
      · match ws, hl with
        | [w0, w1, w2, w3], _ =>
          rw [if_neg (by omega)] at hr
          split at hr
          · rename_i hb
            injection hr with hr
            subst hr
            simp only [nmsB, List.drop_succ_cons, List.drop_zero, List.all_cons, List.all_nil, Bool.and_true, Bool.and_eq_true] at hb
            simp only [List.headD_cons] at hh
            simp only [rowT, nmsL, List.drop_succ_cons, List.drop_zero, List.map_cons, List.map_nil, List.getD_cons_zero, List.getD_cons_succ]
            rw [dc_numI hb.1, dc_numI hb.2, lbT_back hx, ← hh]; rfl
          · cases hr
      · match ws, hl with
        | [w0, w1, w2], _ =>
          split at hr
          · rename_i ho
            injection hr with hr
            subst hr
            simp only [List.headD_cons] at hh
            have h2 : w2 = outT := ho.2
            simp only [rowT, List.getD_cons_zero, List.getD_cons_succ, if_pos]
            rw [lbT_back hx, ← hh, h2]; rfl
          · split at hr
            · rename_i hb
              injection hr with hr
              subst hr
              simp only [nmsB, List.drop_succ_cons, List.drop_zero, List.all_cons, List.all_nil, Bool.and_true] at hb
              simp only [List.headD_cons] at hh
              simp only [rowT, nmsL, List.drop_succ_cons, List.drop_zero, List.map_cons, List.map_nil, List.getD_cons_zero, List.getD_cons_succ]
              rw [if_neg (by omega), dc_numI hb, lbT_back hx, ← hh]; rfl
            · cases hr
  · rw [if_neg h3] at hr
    split at hr
    · rename_i hb
      injection hr with hr
      subst hr
      by_cases h0 : k = 0
      · subst h0
        match ws, hl with
        | [w0, w1], _ =>
          simp only [nmsB, List.drop_succ_cons, List.drop_zero, List.all_cons, List.all_nil, Bool.and_true] at hb
          simp only [List.headD_cons] at hh
          simp only [rowT, nmsL, List.drop_succ_cons, List.drop_zero, List.map_cons, List.map_nil, List.getD_cons_zero, List.getD_cons_succ]
          rw [dc_numI hb, ← hh]
      · obtain ⟨j, rfl⟩ : ∃ j, k = j + 4 := ⟨k - 4, by omega⟩
        rw [if_neg (by omega), if_neg (by omega)] at wl
        rw [wl] at hl
        match ws, hl with
        | [w0, w1, w2], _ =>
          simp only [nmsB, List.drop_succ_cons, List.drop_zero, List.all_cons, List.all_nil, Bool.and_true, Bool.and_eq_true] at hb
          simp only [List.headD_cons] at hh
          simp only [rowT, nmsL, List.drop_succ_cons, List.drop_zero, List.map_cons, List.map_nil, List.getD_cons_zero, List.getD_cons_succ]
          rw [dc_numI hb.1, dc_numI hb.2, ← hh]
    · cases hr
theorem line_back {c c' : Pc} {last l' : Int} {b : Bool} {y : List UInt8} (h : lineV c last b y = some (c', l')) :
    ∃ k row, k < 7 ∧ ordB k b last = true ∧ c' = setV c k row ∧ l' = (k : Int) ∧ lineT (k, row) = y ∧ (k = 6 → ∃ a q : Nat, row = [(a : Int), (q : Int)]) ∧ (k = 0 → ∃ a : Nat, row = [(a : Int)]) := by
  unfold lineV at h
  split at h
  · rename_i hc
    obtain ⟨hw, h7, ho, hl⟩ := hc
    rw [Option.map_eq_some_iff] at h
    obtain ⟨row, hr, he⟩ := h
    injection he with e1 e2
    refine ⟨_, row, h7, ho, e1.symm, e2.symm, ?_, fun h6 => ?_, fun h0 => ?_⟩
    · unfold lineT
      simp only
      rw [rowT_back h7 (rankV_some h7).symm hl hr, join_fields]
    · rw [h6] at hr hl
      generalize fieldsC 32 y = ws at hr hl
      match ws, hl with
      | [w0, w1, w2], _ =>
        unfold rowV at hr
        rw [if_neg (by omega)] at hr
        split at hr
        · injection hr with hr
          exact ⟨numI w1, numI w2, hr.symm⟩
        · cases hr
    · rw [h0] at hr hl
      generalize fieldsC 32 y = ws at hr hl
      match ws, hl with
      | [w0, w1], _ =>
        unfold rowV at hr
        rw [if_neg (by omega)] at hr
        split at hr
        · injection hr with hr
          exact ⟨numI w1, hr.symm⟩
        · cases hr
  · cases h
/-- What was read so far is the text so far. -/
structure PB (L : List (List UInt8)) (k : Nat) (c : Pc) (last : Int) : Prop where
  tx : (rowsP c).map lineT = L.take k
  lo : 0 ≤ last
  e1 : last < 1 → c.g = []
  e2 : last < 2 → c.r = []
  e3 : last < 3 → c.p = []
  e4 : last < 4 → c.n = []
  e5 : last < 5 → c.s = []
  e6 : last < 6 → c.gate = -1
theorem ordB_some {k : Nat} {b : Bool} {last : Int} (h : ordB k b last = true) : b = decide (k = 0) ∧ ¬ (k = 6 ∧ last = 6) ∧ last ≤ k := by
  unfold ordB at h
  split at h
  · cases h
  · rename_i h1
    split at h
    · cases h
    · rename_i h2
      exact ⟨by simpa using h1, h2, of_decide_eq_true h⟩
theorem tag_app (k : Nat) (A B : List (List Int)) : tag k (A ++ B) = tag k A ++ tag k B := by simp [tag]
theorem pb_step {L : List (List UInt8)} {k : Nat} {c c' : Pc} {last l' : Int} (hk : k < L.length) (h1 : 1 ≤ k) (h : PB L k c last) (he : lineV c last (decide (k = 0)) (L.getD k []) = some (c', l')) : PB L (k + 1) c' l' := by
  obtain ⟨r, row, hr7, ho, rfl, rfl, ht, h6, _⟩ := line_back he
  obtain ⟨o1, o2, o3⟩ := ordB_some ho
  have hr0 : r ≠ 0 := fun e => by rw [decide_eq_false (by omega), e] at o1; simp at o1
  have hlo := h.lo
  have key : rowsP (setV c r row) = rowsP c ++ [(r, row)] := by
    rcases (by omega : r = 1 ∨ r = 2 ∨ r = 3 ∨ r = 4 ∨ r = 5 ∨ r = 6) with rfl | rfl | rfl | rfl | rfl | rfl
    · have a2 := h.e2 (by omega); have a3 := h.e3 (by omega); have a4 := h.e4 (by omega); have a5 := h.e5 (by omega); have a6 := h.e6 (by omega)
      simp [rowsP, setV, tag_app, gateR, a2, a3, a4, a5, a6, tag]
    · have a3 := h.e3 (by omega); have a4 := h.e4 (by omega); have a5 := h.e5 (by omega); have a6 := h.e6 (by omega)
      simp [rowsP, setV, tag_app, gateR, a3, a4, a5, a6, tag]
    · have a4 := h.e4 (by omega); have a5 := h.e5 (by omega); have a6 := h.e6 (by omega)
      simp [rowsP, setV, tag_app, gateR, a4, a5, a6, tag]
    · have a5 := h.e5 (by omega); have a6 := h.e6 (by omega)
      simp [rowsP, setV, tag_app, gateR, a5, a6, tag]
    · have a6 := h.e6 (by omega)
      simp [rowsP, setV, tag_app, gateR, a6, tag]
    · have a6 := h.e6 (by omega)
      obtain ⟨a, q, rfl⟩ := h6 rfl
      simp only [rowsP, setV, gateR, a6, List.getD_cons_zero, List.getD_cons_succ, if_pos, List.append_nil]
      rw [if_neg (by omega)]
      simp
  refine ⟨?_, by omega, fun g => by omega, fun g => ?_, fun g => ?_, fun g => ?_, fun g => ?_, fun g => ?_⟩
  · rw [key, List.map_append, h.tx, List.map_cons, List.map_nil, ht, List.take_succ_eq_append_getElem hk]
    rw [List.getD_eq_getElem?_getD, List.getElem?_eq_getElem hk]; rfl
  all_goals
    rcases (by omega : r = 1 ∨ r = 2 ∨ r = 3 ∨ r = 4 ∨ r = 5 ∨ r = 6) with rfl | rfl | rfl | rfl | rfl | rfl
    all_goals first
      | (exfalso; omega)
      | exact h.e2 (by omega)
      | exact h.e3 (by omega)
      | exact h.e4 (by omega)
      | exact h.e5 (by omega)
      | exact h.e6 (by omega)
theorem pb_all {L : List (List UInt8)} : ∀ k, 1 ≤ k → k ≤ L.length → ∀ c last, stP L k = some (c, last) → PB L k c last
  | 0, h, _, _, _, _ => by omega
  | k + 1, _, hk, c', l', hs => by
    unfold stP at hs
    rw [Option.bind_eq_some_iff] at hs
    obtain ⟨⟨c, last⟩, h1, h2⟩ := hs
    by_cases hk0 : k = 0
    · subst hk0
      have : (c, last) = (pcN, (-1 : Int)) := by
        have : stP L 0 = some (pcN, (-1 : Int)) := rfl
        rw [this] at h1; injection h1 with h1; exact h1.symm
      injection this with e1 e2
      subst e1; subst e2
      obtain ⟨r, row, hr7, ho, rfl, rfl, ht, _, h0⟩ := line_back h2
      obtain ⟨o1, o2, o3⟩ := ordB_some ho
      have hr0 : r = 0 := by simpa using o1.symm
      subst hr0
      obtain ⟨a, rfl⟩ := h0 rfl
      refine ⟨?_, by simp, fun _ => rfl, fun _ => rfl, fun _ => rfl, fun _ => rfl, fun _ => rfl, fun _ => rfl⟩
      have : rowsP (setV pcN 0 [(a : Int)]) = [(0, [(a : Int)])] := by simp [rowsP, setV, pcN, tag, gateR]
      rw [this, List.map_cons, List.map_nil, ht, List.take_succ_eq_append_getElem (by omega), List.take_zero, List.nil_append, List.getD_eq_getElem?_getD, List.getElem?_eq_getElem (by omega)]; rfl
    · exact pb_step (by omega) (by omega) (pb_all k (by omega) (by omega) c last h1) h2
theorem join_end (c : UInt8) : ∀ L : List (List UInt8), joinC c (L ++ [[]]) = L.flatMap fun x => x ++ [c]
  | [] => rfl
  | [x] => by simp [joinC]
  | x :: y :: r => by
    have := join_end c (y :: r)
    rw [List.cons_append, List.cons_append, joinC, ← List.cons_append, this, List.flatMap_cons]; simp
/-- What a text that is read was. -/
theorem ps_back {s : List UInt8} (h : (psV s).2.1 = 0) : chkP (psV s).1 = 0 ∧ prT (psV s).1 = s := by
  unfold psV at h ⊢
  split at h
  · cases h
  · rename_i h16
    rw [if_neg h16]
    split at h
    · cases h
    · rename_i hb
      split at h
      · cases h
      · rename_i hn
        try rw [hb]
        try simp only
        rw [if_neg hn]
        unfold endP at h ⊢
        split at h
        · rename_i st hst
          try rw [hst]
          try simp only
          split at h
          · rename_i hc
            rw [if_pos hc]
            refine ⟨hc, ?_⟩
            obtain ⟨hn1, hn2⟩ := not_or.1 hn
            have hn2 := Classical.not_not.1 hn2
            obtain ⟨c, last⟩ := st
            have hp := pb_all _ (by omega) (Nat.le_refl _) c last hst
            have ht := hp.tx
            rw [List.take_length] at ht
            show textT (rowsP c) = s
            rw [show textT (rowsP c) = ((rowsP c).map lineT).flatMap fun x => x ++ [10] from by rw [List.flatMap_map]; rfl, ht, ← join_end]
            have : (fieldsC 10 s).dropLast ++ [[]] = fieldsC 10 s := by
              rw [List.getLast?_eq_some_iff] at hn2
              obtain ⟨t, ht⟩ := hn2
              rw [ht, List.dropLast_concat]
            rw [this, join_fields]
          · rename_i hc
            exact absurd h hc
        · cases h
theorem ps_zero_of {s : List UInt8} (h : (psV s).2.1 ≠ 0) : (psV s).1 = pcZ := by
  unfold psV at h ⊢
  split
  · rfl
  · rename_i h16
    rw [if_neg h16] at h
    split
    · rfl
    · rename_i hb
      rw [hb] at h
      simp only at h
      split
      · rfl
      · rename_i hn
        rw [if_neg hn] at h
        unfold endP at h ⊢
        split
        · rename_i st hst
          rw [hst] at h
          simp only at h
          split
          · rename_i hc; rw [if_pos hc] at h; exact absurd rfl h
          · rfl
        · rfl
/-- A configuration's text is read as that configuration. -/
theorem ps_there {c : Pc} (hc : chkP c = 0) (hf : FitP c) (hl : LenOk c) : psV (prT c) = (c, 0, 0) := by
  obtain ⟨last, hst⟩ := st_rows hf hl
  have hok := rows_ok hf hl
  have hfe : fieldsC 10 (prT c) = (rowsP c).map lineT ++ [[]] := fields_text _ (fun x hx => line_free (k := x.1) (r := x.2) (hok x hx).1)
  have hlen : (prT c).length ≤ 16384 := by
    have h1 : ∀ R : List (Nat × List Int), (∀ x ∈ R, (lineT x).length ≤ 100) → (textT R).length ≤ 101 * R.length := by
      intro R
      induction R with
      | nil => intro _; simp [textT]
      | cons x R ih =>
        intro h
        have := ih (fun y hy => h y (by simp [hy]))
        have h2 := h x (by simp)
        rw [show textT (x :: R) = lineT x ++ [10] ++ textT R from by simp [textT]]
        simp only [List.length_append, List.length_cons, List.length_nil]; omega
    have h2 : (rowsP c).length ≤ 34 := by
      have := hf.gl; have := hf.rl; have := hf.pl; have := hf.nl; have := hf.sl
      unfold rowsP gateR tag
      split <;> simp <;> omega
    have h3 : ∀ x ∈ rowsP c, (lineT x).length ≤ 100 := by
      intro x hx
      have hle : ∀ k : Fin 7, (rkName k.val).length ≤ 5 := by decide
      have lw : ∀ (k : Nat) (ah : List UInt8) (l : List Int), k < 7 → ah.length ≤ 20 → l.length ≤ 3 → (∀ n ∈ l, n < 1000000000) → (lnW k ah l).length ≤ 80 := by
        intro k ah l hk ha hl h
        have hkn := hle ⟨k, hk⟩
        have : (l.flatMap (fun n => 32 :: dc n)).length ≤ 10 * l.length := by
          clear hl
          induction l with
          | nil => simp
          | cons x l ih =>
            have h1 := dc_len (h x (by simp))
            have h2 := ih (fun n hn => h n (by simp [hn]))
            simp only [List.flatMap_cons, List.length_append, List.length_cons] at h2 ⊢
            omega
        unfold lnW
        simp only [List.length_append, List.length_singleton]
        have : (if ah = [] then [] else 32 :: ah).length ≤ 1 + ah.length := by
          split
          · exact Nat.zero_le _
          · rw [List.length_cons]; omega
        simp only at hkn
        omega
      have ll : (lineT x ++ [10]).length = (lineT x).length + 1 := by simp
      unfold rowsP tag gateR at hx
      simp only [List.mem_cons, List.mem_append, List.mem_map] at hx
      rcases hx with rfl | ⟨r, hr, rfl⟩ | ⟨r, hr, rfl⟩ | ⟨r, hr, rfl⟩ | ⟨r, hr, rfl⟩ | ⟨r, hr, rfl⟩ | hx
      · rw [← lnW_0] at ll
        have := lw 0 [] [c.cats] (by omega) (by simp) (by simp) (by intro n hn; rw [List.mem_singleton.1 hn]; have := hf.cats.2; omega)
        omega
      · have h := hf.g r hr
        rw [len3 (hl.g r hr)] at ll ⊢
        rw [← lnW_1 h.1] at ll
        have := lw 1 (lbT (r.getD 0 0)) [r.getD 1 0, r.getD 2 0] (by omega) (by have := (lbT_ok h.1).2.1; omega) (by simp) (by intro n hn; simp only [List.mem_cons, List.not_mem_nil, or_false] at hn; rcases hn with rfl | rfl <;> omega)
        omega
      · have h := hf.r r hr
        rw [len3 (hl.r r hr)] at ll ⊢
        rw [← lnW_2 h.1] at ll
        have := lw 2 (lbT (r.getD 0 0)) [r.getD 1 0, r.getD 2 0] (by omega) (by have := (lbT_ok h.1).2.1; omega) (by simp) (by intro n hn; simp only [List.mem_cons, List.not_mem_nil, or_false] at hn; rcases hn with rfl | rfl <;> omega)
        omega
      · have h := hf.p r hr
        have e := len2 (hl.p r hr)
        rcases h.2 with h1 | h1
        · rw [h1] at e
          rw [e] at ll ⊢
          rw [← lnW_out h.1] at ll
          have := lw 3 (lbT (r.getD 0 0) ++ 32 :: outT) [] (by omega) (by have := (lbT_ok h.1).2.1; rw [List.length_append, List.length_cons]; have : outT.length = 3 := rfl; omega) (by simp) (by simp)
          omega
        · rw [e] at ll ⊢
          rw [← lnW_3 h.1 (by omega)] at ll
          have := lw 3 (lbT (r.getD 0 0)) [r.getD 1 0] (by omega) (by have := (lbT_ok h.1).2.1; omega) (by simp) (by intro n hn; rw [List.mem_singleton.1 hn]; omega)
          omega
      · have h := hf.n r hr
        rw [len2 (hl.n r hr)] at ll ⊢
        rw [show lineT (4, [r.getD 0 0, r.getD 1 0]) ++ [10] = lnW 4 [] [r.getD 0 0, r.getD 1 0] from (lnW_k 0 _ _).symm] at ll
        have := lw 4 [] [r.getD 0 0, r.getD 1 0] (by omega) (by simp) (by simp) (by intro n hn; simp only [List.mem_cons, List.not_mem_nil, or_false] at hn; rcases hn with rfl | rfl <;> omega)
        omega
      · have h := hf.s r hr
        rw [len2 (hl.s r hr)] at ll ⊢
        rw [show lineT (5, [r.getD 0 0, r.getD 1 0]) ++ [10] = lnW 5 [] [r.getD 0 0, r.getD 1 0] from (lnW_k 1 _ _).symm] at ll
        have := lw 5 [] [r.getD 0 0, r.getD 1 0] (by omega) (by simp) (by simp) (by intro n hn; simp only [List.mem_cons, List.not_mem_nil, or_false] at hn; rcases hn with rfl | rfl <;> omega)
        omega
      · split at hx
        · cases hx
        · rename_i hg
          rw [List.mem_singleton] at hx
          subst hx
          have h := hf.gate.resolve_left (fun h => hg h.1)
          rw [show lineT (6, [c.gate, c.quota]) ++ [10] = lnW 6 [] [c.gate, c.quota] from (lnW_k 2 _ _).symm] at ll
          have := lw 6 [] [c.gate, c.quota] (by omega) (by simp) (by simp) (by intro n hn; simp only [List.mem_cons, List.not_mem_nil, or_false] at hn; rcases hn with rfl | rfl <;> omega)
          omega
    have := h1 _ h3
    unfold prT
    omega
  have hdl : (fieldsC 10 (prT c)).dropLast = (rowsP c).map lineT := by rw [hfe, List.dropLast_concat]
  have hgl : (fieldsC 10 (prT c)).getLast? = some [] := by rw [hfe]; simp
  rw [psV_end (by omega) (by rw [hdl]; exact badP_none (by rw [hst]; simp)) (by rw [hdl, hgl]; simp [rowsP]), hdl]
  exact endP_yes hst hc
end Go.Proofs.YtoalpdjpljapbaaDoor
