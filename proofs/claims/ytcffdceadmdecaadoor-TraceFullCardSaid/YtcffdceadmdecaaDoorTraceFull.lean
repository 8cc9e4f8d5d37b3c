/- The walk of the law TraceFull. -/
import Derived.Test.YtcffdceadmdecaaDoorTr3
namespace Go.Proofs.YtcffdceadmdecaaDoor
set_option linter.unusedVariables false
set_option linter.unusedSimpArgs false
set_option linter.unnecessarySimpa false
open Go.RowKit Go.Sort
set_option maxHeartbeats 4000000
set_option maxRecDepth 100000
set_option linter.unusedVariables false

structure TF (w W : World) (a : Option Addr) (c : Nat) (l : List Ev) (e f : Ev) : Prop where
  tr : TrO W (w.heap.size + 1 + 1) (w.heap.size + 1 + 1) a c l
  he : ObjAt W w.heap.size 25 e.cells
  hf : ObjAt W (w.heap.size + 1) 25 f.cells
  bel : Below w.heap.size w W
  big : w.heap.size + 1 + 1 < W.heap.size
theorem TF.of_below {w W W' : World} {a : Option Addr} {c : Nat} {l : List Ev} {e f : Ev} (h : TF w W a c l e f) (hb : Below W.heap.size W W') : TF w W' a c l e f :=
  ⟨h.tr.below hb, h.he.below hb, h.hf.below hb, h.bel.trans (hb.mono h.bel.size), Nat.lt_of_lt_of_le h.big hb.size⟩
def AddRes (w : World) (a : Option Addr) (c : Nat) (l : List Ev) (e f x : Ev) (r : Ending) (W' : World) : Prop :=
  (l.length < 4096 ∧ r = .returned (.int .i64 0) ∧ ∃ a' c', TF w W' a' c' (l ++ [x]) e f) ∨ (4096 ≤ l.length ∧ r = .returned (.int .i64 2) ∧ TF w W' a c l e f)
theorem TF.add {w W W' : World} {a : Option Addr} {c : Nat} {l : List Ev} {e f x : Ev} {r : Ending} (h : TF w W a c l e f) (hp : AddPost (w.heap.size + 1 + 1) (w.heap.size + 1 + 1) a c l x W r W') : AddRes w a c l e f x r W' := by
  rcases hp with ⟨h1, h2, a', c', ht, hm, _⟩ | ⟨h1, h2, hb⟩
  · have hge : ∀ k ∈ (w.heap.size + 1 + 1) :: blk a, w.heap.size + 1 + 1 ≤ k := fun k hk => by
      rcases List.mem_cons.1 hk with rfl | hk
      · exact Nat.le_refl _
      · exact (h.tr.own.ge k hk).1
    refine .inl ⟨h1, h2, a', c', ht, h.he.mod hm (fun hk => absurd (hge _ hk) (by omega)), h.hf.mod hm (fun hk => absurd (hge _ hk) (by omega)), h.bel.trans (hm.below (fun k hk => by have := hge k hk; omega) h.bel.size), Nat.lt_of_lt_of_le h.big hm.size⟩
  · exact .inr ⟨h1, h2, h.of_below hb⟩
theorem tf_add {w W : World} {a : Option Addr} {c : Nat} {l : List Ev} {e f : Ev} (x : Ev) (ok : x.Ok) (h : TF w W a c l e f) : Calls Tryd.prog 13 #[.pointer (some ⟨w.heap.size + 1 + 1, 0, none⟩), .agg x.cells.toArray] W (AddRes w a c l e f x) :=
  (add_any _ _ a c l x ok W h.tr (Nat.le_of_lt h.big)).mono fun _ _ hp => h.add hp
theorem tf_rows {w W : World} {a : Option Addr} {c : Nat} {l : List Ev} {e f : Ev} (h : TF w W a c l e f) : W.rangeAt w.heap.size 0 e.cells ∧ W.rangeAt (w.heap.size + 1) 0 f.cells := ⟨h.he.range 0 _ (fun j v h => by simpa using h), h.hf.range 0 _ (fun j v h => by simpa using h)⟩

theorem full_walk (e f : Ev) (oe : e.Ok) (of_ : f.Ok) (n : Nat) (hn : n < 65536) (w : World) (hW : WordsIs w) (hP : PowIs w) : Calls Tryd.prog 6 #[.agg e.cells.toArray, .agg f.cells.toArray, .int .u16 n] w fun x w' => x = .returned (.bool true) ∧ Below w.heap.size w w' := by
  have le := cells_len oe; have lf := cells_len of_
  have e1 : Hid ((w.alloc (.cells e.cells.toArray 25)).heap.size = w.heap.size + 1) := by unfold World.alloc; exact Array.size_push _
  have OE := Lib.hid oe; have OF := Lib.hid of_
  have HW := Lib.hid hW; have HP := Lib.hid hP
  clear oe of_ hW hP
  go_enter Tryd.func6, Tryd.ntmps6
  go_upto_region 1 with (fail)
  have EA : Hid (ObjAt ((w.alloc (.cells e.cells.toArray 25)).alloc (.cells f.cells.toArray 25)) w.heap.size 25 e.cells) := (ObjAt.new w _ _).below ((Below.refl _ _).alloc (Nat.le_refl _) _)
  have EB : Hid (ObjAt ((w.alloc (.cells e.cells.toArray 25)).alloc (.cells f.cells.toArray 25)) (w.heap.size + 1) 25 f.cells) := by rw [← e1.out]; exact ObjAt.new _ _ _
  have BL : Hid (Below w.heap.size w ((w.alloc (.cells e.cells.toArray 25)).alloc (.cells f.cells.toArray 25))) := ((Below.refl _ _).alloc (Nat.le_refl _) _).alloc (by rw [e1.out]; omega) _
  have SZ : Hid (((w.alloc (.cells e.cells.toArray 25)).alloc (.cells f.cells.toArray 25)).heap.size = w.heap.size + 1 + 1) := by rw [Hid, ← e1.out]; unfold World.alloc; exact Array.size_push _
  generalize (w.alloc (.cells e.cells.toArray 25)).alloc (.cells f.cells.toArray 25) = W2 at EA EB BL SZ ⊢
  clear e1
  have CN : Hid (Calls Tryd.prog 12 #[] W2 fun x W' => x = .returned (.pointer (some ⟨w.heap.size + 1 + 1, 0, none⟩)) ∧ TF w W' none 0 [] e f) := (new_any W2).mono fun x W' ⟨h1, h2, h3⟩ => by
    rw [SZ.out] at h1 h2
    exact ⟨h1, h2, EA.out.below h3, EB.out.below h3, BL.out.trans (h3.mono BL.out.size), h2.obj.lt⟩
  clear EA EB BL SZ
  obtain ⟨k, hk⟩ : ∃ k : Nat, k = n % 4099 := ⟨_, rfl⟩
  have wr1 : IntKind.i64.wrap (n : Int) = (n : Int) := by rw [IntKind.wrap_i64]; omega
  have hkm : (n : Int) % 4099 = (k : Int) := by rw [hk]; omega
  have hkl : k < 4099 := by rw [hk]; omega
  clear hk
  go_wp2_with (go_at_call 12; refine CN.out.mono ?_; rintro x W3 ⟨rfl, h3⟩)
  simp only [hkm]
  go_loopw [9] (fun i wr => ∃ (j : Nat) (a : Option Addr) (c : Nat), j ≤ k ∧ i = .int .i64 j ∧ TF w wr a c (List.replicate (min j 4096) e) e f) (fun i _ => k - (intOf i).toNat)
  case atStart => exact ⟨0, none, 0, by omega, rfl, h3⟩
  case round =>
    clear CN h3
    obtain ⟨j, a, c, hj, rfl, h⟩ := hrel
    have H := Lib.hid h
    clear h
    by_cases hjk : j < k
    · have d1 : decide ((j : Int) < (k : Int)) = true := by simp; omega
      have hr := Lib.hid (tf_rows H.out).1
      by_cases hjm : j < 4096
      · have d2 : decide ((j : Int) < 4096) = true := by simp; omega
        have HA : Hid (Calls Tryd.prog 13 #[.pointer (some ⟨w.heap.size + 1 + 1, 0, none⟩), .agg e.cells.toArray] wr fun x W' => x = .returned (.int .i64 0) ∧ ∃ a' c', TF w W' a' c' (List.replicate (min (j + 1) 4096) e) e f) := (tf_add e OE.out H.out).mono fun x W' hp => by
          rcases hp with ⟨_, h2, a', c', h3⟩ | ⟨h1, _, _⟩
          · refine ⟨h2, a', c', ?_⟩
            rw [show min (j + 1) 4096 = min j 4096 + 1 from by omega, List.replicate_succ']
            exact h3
          · simp at h1; omega
        go_wp2_with (first | (refine wpList_load_mid rfl 25 (.tmp 3) rfl w.heap.size 0 rfl e.cells _ hr.out Tryd.underlying25 rfl (by rw [info_ev2, le]) ?_) | (go_at_call 13; refine HA.out.mono ?_; rintro x W4 ⟨rfl, a', c', h4⟩))
        go_roundw
        case rel => exact ⟨j + 1, a', c', by omega, by go_num, h4⟩
        case measure => simp [intOf]; omega
      · have d2 : decide ((j : Int) < 4096) = false := by simp; omega
        have HA : Hid (Calls Tryd.prog 13 #[.pointer (some ⟨w.heap.size + 1 + 1, 0, none⟩), .agg e.cells.toArray] wr fun x W' => x = .returned (.int .i64 2) ∧ TF w W' a c (List.replicate (min (j + 1) 4096) e) e f) := (tf_add e OE.out H.out).mono fun x W' hp => by
          rcases hp with ⟨h1, _, _⟩ | ⟨_, h2, h3⟩
          · simp at h1; omega
          · refine ⟨h2, ?_⟩
            rw [show min (j + 1) 4096 = min j 4096 from by omega]
            exact h3
        go_wp2_with (first | (refine wpList_load_mid rfl 25 (.tmp 3) rfl w.heap.size 0 rfl e.cells _ hr.out Tryd.underlying25 rfl (by rw [info_ev2, le]) ?_) | (go_at_call 13; refine HA.out.mono ?_; rintro x W4 ⟨rfl, h4⟩))
        go_roundw
        case rel => exact ⟨j + 1, a, c, by omega, by go_num, h4⟩
        case measure => simp [intOf]; omega
    · obtain rfl : j = k := by omega
      have d1 : decide ((j : Int) < (j : Int)) = false := by simp
      obtain ⟨m, hm⟩ : ∃ m : Nat, m = min j 4096 := ⟨_, rfl⟩
      rw [← hm] at H
      have hmin : min (j : Int) 4096 = (m : Int) := by rw [hm]; omega
      have hm4 : m ≤ 4096 := by rw [hm]; omega
      have hjm : (j < 4096 ∧ m = j) ∨ (4096 ≤ j ∧ m = 4096) := by rw [hm]; omega
      clear hm
      have hlen : (List.replicate m e).length = m := by simp
      obtain ⟨B0, hB0⟩ : ∃ x, x = wr.heap.size := ⟨_, rfl⟩
      have CA : Hid (Calls Tryd.prog 15 #[.pointer (some ⟨w.heap.size + 1 + 1, 0, none⟩)] wr fun x W' => ∃ ao co, x = .returned (.slice ao m co) ∧ Own W' B0 25 21 ao m co (evF (List.replicate m e)) ∧ TF w W' a c (List.replicate m e) e f) := (all_any _ _ _ _ _ _ H.out.tr (by rw [hlen]; exact hm4)).mono fun x W' ⟨ao, co, h1, h2, h3⟩ => by
        rw [hlen, Nat.sub_zero] at h1 h2
        rw [← hB0] at h2
        rw [List.drop_zero] at h2
        exact ⟨ao, co, h1, h2, H.out.of_below h3⟩
      have bigs : Hid (w.heap.size + 1 + 1 < B0 ∧ ∀ q ∈ blk a, q < B0) := by rw [hB0]; exact ⟨H.out.big, fun q hq => (H.out.tr.own.ge q hq).2⟩
      have CF : Hid (∀ W ao co, Own W B0 25 21 ao m co (evF (List.replicate m e)) → TF w W a c (List.replicate m e) e f → Calls Tryd.prog 13 #[.pointer (some ⟨w.heap.size + 1 + 1, 0, none⟩), .agg f.cells.toArray] W fun x W' => AddRes w a c (List.replicate m e) e f f x W' ∧ Own W' B0 25 21 ao m co (evF (List.replicate m e))) := fun W ao co ho ht =>
        (add_any _ _ a c _ f OF.out W ht.tr (Nat.le_of_lt ht.big)).mono fun x W' hp => by
          refine ⟨ht.add hp, ?_⟩
          rcases hp with ⟨_, _, _, _, _, hm, _⟩ | ⟨_, _, hb⟩
          · refine ho.mod hm (fun q hq hq' => ?_)
            have g1 := (ho.ge q hq).1
            rcases List.mem_cons.1 hq' with rfl | hq'
            · exact absurd bigs.out.1 (by omega)
            · exact absurd (bigs.out.2 q hq') (by omega)
          · exact ho.below hb
      clear hB0
      clear H
      go_upto_region 12 with (go_at_call 15; refine CA.out.mono ?_; rintro x W4 ⟨ao, co, rfl, ho4, h4⟩)
      have HF := Lib.hid (CF.out W4 ao co ho4 h4)
      have hr4 := Lib.hid (tf_rows h4).2
      clear ho4 h4 CA CF
      have heE := eq_ev e e OE.out.len OE.out.len
      have hfF := eq_ev f f OF.out.len OF.out.len
      simp only [decide_true] at heE hfF
      rcases hjm with ⟨hj4, hmj⟩ | ⟨hj4, hmj⟩
      · obtain rfl : m = j := hmj
        have HG : Hid (Calls Tryd.prog 13 #[.pointer (some ⟨w.heap.size + 1 + 1, 0, none⟩), .agg f.cells.toArray] W4 fun x W' => x = .returned (.int .i64 0) ∧ Own W' B0 25 21 ao m co (evF (List.replicate m e)) ∧ ∃ a' c', TF w W' a' c' (List.replicate m e ++ [f]) e f) := HF.out.mono fun x W' ⟨h1, h2⟩ => by
          rcases h1 with ⟨_, h1, a', c', h3⟩ | ⟨h1, _, _⟩
          · exact ⟨h1, h2, a', c', h3⟩
          · rw [hlen] at h1; omega
        clear HF
        have dm : decide ((m : Int) < 4096) = true := by simp; omega
        go_upto_region 13 with (first | (refine wpList_load_mid rfl 25 (.tmp 4) rfl (w.heap.size + 1) 0 rfl f.cells _ hr4.out Tryd.underlying25 rfl (by rw [info_ev2, lf]) ?_) | (go_at_call 13; refine HG.out.mono ?_; rintro x W5 ⟨rfl, ho5, a5, c5, h5⟩))
        have HO5 := Lib.hid ho5
        have H5 := Lib.hid h5
        have hl5 : Hid ((List.replicate m e ++ [f]).length = m + 1) := by rw [Hid, List.length_append, hlen]; rfl
        clear ho5 h5 HG hr4
        have wm : IntKind.i64.wrap ((m : Int) + 1) = (m : Int) + 1 := by rw [IntKind.wrap_i64]; omega
        have hOk : Hid (Oks (List.replicate m e)) := fun x hx => by rw [List.eq_of_mem_replicate hx]; exact OE.out
        have CLen : Hid (∀ W, TF w W a5 c5 ((List.replicate m e) ++ [f]) e f → Calls Tryd.prog 14 #[.pointer (some ⟨w.heap.size + 1 + 1, 0, none⟩)] W fun x W' => x = .returned (.int .i64 ((m : Int) + 1)) ∧ W = W') := fun W ht => (len_any _ _ _ _ _ W ht.tr).mono fun x W' ⟨h1, h2⟩ => ⟨by rw [h1, hl5.out] <;> (first | rfl | (rw [Int.natCast_add]; rfl)), h2⟩
        have CLast : Hid (∀ W, TF w W a5 c5 ((List.replicate m e) ++ [f]) e f → Calls Tryd.prog 16 #[.pointer (some ⟨w.heap.size + 1 + 1, 0, none⟩)] W fun x W' => x = .returned (.tuple #[.agg (f).cells.toArray, .bool true]) ∧ Below W.heap.size W W') := fun W ht => last_any _ _ _ _ _ _ W ht.tr (by rw [hl5.out] <;> omega)
        go_wp2_with fail
        go_loopw [14] (fun i wr => ∃ q : Nat, q ≤ m ∧ i = .int .i64 q ∧ TF w wr a5 c5 ((List.replicate m e) ++ [f]) e f ∧ Own wr B0 25 21 ao m co (evF (List.replicate m e))) (fun i _ => m - (intOf i).toNat)
        case atStart => exact ⟨0, by omega, rfl, H5.out, HO5.out⟩
        case round =>
          clear H5 HO5
          obtain ⟨q, hq, rfl, h5, ho5⟩ := hrel
          have H5 := Lib.hid h5
          have HO5 := Lib.hid ho5
          clear h5 ho5
          by_cases hqm : q < m
          · have d3 : decide ((q : Int) < (m : Int)) = true := by simp; omega
            have i1 : (0 : Int) ≤ (q : Int) := by omega
            have i2 : (q : Int) < (m : Int) := by omega
            have wq : IntKind.i64.wrap ((q : Int) + 1) = (q : Int) + 1 := by rw [IntKind.wrap_i64]; omega
            obtain ⟨g, rfl, _, _⟩ := HO5.out.at_ (by omega)
            have hrow : ∀ W, Own W B0 25 21 (some ⟨g, 0, none⟩) m co (evF (List.replicate m e)) → W.rangeAt g (q * 21) e.cells := fun W ho jj u hj => by
              have hjl : jj < 21 := by have := (List.getElem?_eq_some_iff.1 hj).1; omega
              refine ho.cell (q * 21 + jj) u ?_
              rw [evF_get (List.replicate m e) hOk.out q jj (by simpa using hqm) hjl]
              simpa using hj
            have HROW := Lib.hid hrow
            clear hrow
            go_wp2_with fail
            refine region_still_drew (by kernel_rfl) (by kernel_rfl) (fun W1 hW1 => ?_)
            have b1 : Hid (Below wr.heap.size wr W1) := by rw [Hid, hW1]; exact (Below.refl _ _).drew
            have H6 : Hid (TF w W1 a5 c5 ((List.replicate m e) ++ [f]) e f) := H5.out.of_below b1.out
            have HO6 : Hid (Own W1 B0 25 21 (some ⟨g, 0, none⟩) m co (evF (List.replicate m e))) := HO5.out.below b1.out
            have Q1 := Lib.hid (HROW.out W1 HO6.out)
            have Q2 := Lib.hid (tf_rows H6.out).1
            clear hW1 b1 H5 HO5
            still_step
            still_step
            still_step
            refine wpStill_load_mid rfl 25 (.tmp 70) rfl g (q * 21) rfl e.cells _ Q1.out Tryd.underlying25 rfl (by rw [info_ev2, le]) ?_
            refine wpStill_load_mid rfl 25 (.tmp 3) rfl w.heap.size 0 rfl e.cells _ Q2.out Tryd.underlying25 rfl (by rw [info_ev2, le]) ?_
            have hq1 := heE W1
            still_step
            refine wpStill_nil ?_
            go_wp2_with fail
            go_roundw
            case rel => exact ⟨q + 1, by omega, by go_num, H6.out, HO6.out⟩
            case measure => simp [intOf]; omega
          · obtain rfl : m = q := by omega
            have d3 : decide ((m : Int) < (m : Int)) = false := by simp
            go_upto_region 22 with (first | (go_at_call 16; refine (CLast.out _ H5.out).mono ?_; rintro x W6 ⟨rfl, hb6⟩) | (refine wpList_store_new rfl 25 (.tmp 15) (.tmp 77) rfl _ _ rfl rfl (by rw [info_ev2]; simp [lf]) (by simp [lf]) (cells_all f) ?_))
            have EX : Hid (ObjAt (W6.alloc (.cells (f).cells.toArray 25)) W6.heap.size 25 (f).cells) := ObjAt.new _ _ _
            have H7 : Hid (TF w (W6.alloc (.cells (f).cells.toArray 25)) a5 c5 ((List.replicate m e) ++ [f]) e f) := (H5.out.of_below hb6).of_below ((Below.refl _ _).alloc (Nat.le_refl _) _)
            generalize W6.alloc (.cells (f).cells.toArray 25) = W7 at EX H7 ⊢
            obtain ⟨px, hpx⟩ : ∃ px, px = W6.heap.size := ⟨_, rfl⟩
            rw [← hpx] at EX ⊢
            clear hpx hb6 H5 HO5 CLast
            have RX : Hid (W7.rangeAt px 0 (f).cells) := EX.out.range 0 _ (fun j v h => by simpa using h)
            have RE := Lib.hid (tf_rows H7.out).1
            have RF := Lib.hid (tf_rows H7.out).2
            go_wp2_with (first | (refine wpList_load_midW (by rfl) 25 (.tmp 15) rfl px 0 rfl (f).cells _ RX.out Tryd.underlying25 rfl (by rw [info_ev2, lf]) ?_) | (refine wpList_load_midW (by rfl) 25 (.tmp 4) rfl (w.heap.size + 1) 0 rfl f.cells _ RF.out Tryd.underlying25 rfl (by rw [info_ev2, lf]) ?_) | (refine wpList_load_midW (by rfl) 25 (.tmp 3) rfl w.heap.size 0 rfl e.cells _ RE.out Tryd.underlying25 rfl (by rw [info_ev2, le]) ?_) | (go_at_call 14; refine (CLen.out _ H7.out).mono ?_; rintro x W8 ⟨rfl, rfl⟩) | (go_at_call 8; refine (awake_any _ (HW.out.below H7.out.bel) (HP.out.below H7.out.bel)).mono ?_; rintro x W9 ⟨rfl, hb9⟩))
            go_ret
            exact ⟨rfl, H7.out.bel.trans (hb9.mono H7.out.bel.size)⟩
      · have HM := Lib.hid hmj
        have hrep : List.replicate m e = List.replicate 4095 e ++ [e] := by rw [hmj]; exact List.replicate_succ'
        have HG : Hid (Calls Tryd.prog 13 #[.pointer (some ⟨w.heap.size + 1 + 1, 0, none⟩), .agg f.cells.toArray] W4 fun x W' => x = .returned (.int .i64 2) ∧ Own W' B0 25 21 ao m co (evF (List.replicate m e)) ∧ TF w W' a c (List.replicate 4095 e ++ [e]) e f) := HF.out.mono fun x W' ⟨h1, h2⟩ => by
          rcases h1 with ⟨h1, _⟩ | ⟨_, h1, h3⟩
          · rw [hlen] at h1; omega
          · exact ⟨h1, h2, by rw [← hrep]; exact h3⟩
        have dm : decide ((m : Int) < 4096) = false := by simp; omega
        have hl5 : Hid ((List.replicate 4095 e ++ [e]).length = m) := by rw [Hid, ← hrep, hlen]
        clear HF hrep hmj
        obtain ⟨a5, rfl⟩ : ∃ a5, a5 = a := ⟨_, rfl⟩
        obtain ⟨c5, rfl⟩ : ∃ c5, c5 = c := ⟨_, rfl⟩
        go_upto_region 13 with (first | (refine wpList_load_mid rfl 25 (.tmp 4) rfl (w.heap.size + 1) 0 rfl f.cells _ hr4.out Tryd.underlying25 rfl (by rw [info_ev2, lf]) ?_) | (go_at_call 13; refine HG.out.mono ?_; rintro x W5 ⟨rfl, ho5, h5⟩))
        have HO5 := Lib.hid ho5
        have H5 := Lib.hid h5
        clear ho5 h5 HG hr4
        have hOk : Hid (Oks (List.replicate m e)) := fun x hx => by rw [List.eq_of_mem_replicate hx]; exact OE.out
        have CLen : Hid (∀ W, TF w W a5 c5 ((List.replicate 4095 e) ++ [e]) e f → Calls Tryd.prog 14 #[.pointer (some ⟨w.heap.size + 1 + 1, 0, none⟩)] W fun x W' => x = .returned (.int .i64 ((m : Int))) ∧ W = W') := fun W ht => (len_any _ _ _ _ _ W ht.tr).mono fun x W' ⟨h1, h2⟩ => ⟨by rw [h1, hl5.out] <;> (first | rfl | (rw [Int.natCast_add]; rfl)), h2⟩
        have CLast : Hid (∀ W, TF w W a5 c5 ((List.replicate 4095 e) ++ [e]) e f → Calls Tryd.prog 16 #[.pointer (some ⟨w.heap.size + 1 + 1, 0, none⟩)] W fun x W' => x = .returned (.tuple #[.agg (e).cells.toArray, .bool true]) ∧ Below W.heap.size W W') := fun W ht => last_any _ _ _ _ _ _ W ht.tr (by rw [hl5.out] <;> exact hm4)
        go_wp2_with fail
        go_loopw [14] (fun i wr => ∃ q : Nat, q ≤ m ∧ i = .int .i64 q ∧ TF w wr a5 c5 ((List.replicate 4095 e) ++ [e]) e f ∧ Own wr B0 25 21 ao m co (evF (List.replicate m e))) (fun i _ => m - (intOf i).toNat)
        case atStart => exact ⟨0, by omega, rfl, H5.out, HO5.out⟩
        case round =>
          clear H5 HO5
          obtain ⟨q, hq, rfl, h5, ho5⟩ := hrel
          have H5 := Lib.hid h5
          have HO5 := Lib.hid ho5
          clear h5 ho5
          by_cases hqm : q < m
          · have d3 : decide ((q : Int) < (m : Int)) = true := by simp; omega
            have i1 : (0 : Int) ≤ (q : Int) := by omega
            have i2 : (q : Int) < (m : Int) := by omega
            have wq : IntKind.i64.wrap ((q : Int) + 1) = (q : Int) + 1 := by rw [IntKind.wrap_i64]; omega
            obtain ⟨g, rfl, _, _⟩ := HO5.out.at_ (by omega)
            have hrow : ∀ W, Own W B0 25 21 (some ⟨g, 0, none⟩) m co (evF (List.replicate m e)) → W.rangeAt g (q * 21) e.cells := fun W ho jj u hj => by
              have hjl : jj < 21 := by have := (List.getElem?_eq_some_iff.1 hj).1; omega
              refine ho.cell (q * 21 + jj) u ?_
              rw [evF_get (List.replicate m e) hOk.out q jj (by simpa using hqm) hjl]
              simpa using hj
            have HROW := Lib.hid hrow
            clear hrow
            go_wp2_with fail
            refine region_still_drew (by kernel_rfl) (by kernel_rfl) (fun W1 hW1 => ?_)
            have b1 : Hid (Below wr.heap.size wr W1) := by rw [Hid, hW1]; exact (Below.refl _ _).drew
            have H6 : Hid (TF w W1 a5 c5 ((List.replicate 4095 e) ++ [e]) e f) := H5.out.of_below b1.out
            have HO6 : Hid (Own W1 B0 25 21 (some ⟨g, 0, none⟩) m co (evF (List.replicate m e))) := HO5.out.below b1.out
            have Q1 := Lib.hid (HROW.out W1 HO6.out)
            have Q2 := Lib.hid (tf_rows H6.out).1
            clear hW1 b1 H5 HO5
            still_step
            still_step
            still_step
            refine wpStill_load_mid rfl 25 (.tmp 70) rfl g (q * 21) rfl e.cells _ Q1.out Tryd.underlying25 rfl (by rw [info_ev2, le]) ?_
            refine wpStill_load_mid rfl 25 (.tmp 3) rfl w.heap.size 0 rfl e.cells _ Q2.out Tryd.underlying25 rfl (by rw [info_ev2, le]) ?_
            have hq1 := heE W1
            still_step
            refine wpStill_nil ?_
            go_wp2_with fail
            go_roundw
            case rel => exact ⟨q + 1, by omega, by go_num, H6.out, HO6.out⟩
            case measure => simp [intOf]; omega
          · obtain rfl : m = q := by omega
            have d3 : decide ((m : Int) < (m : Int)) = false := by simp
            go_upto_region 22 with (first | (go_at_call 16; refine (CLast.out _ H5.out).mono ?_; rintro x W6 ⟨rfl, hb6⟩) | (refine wpList_store_new rfl 25 (.tmp 15) (.tmp 77) rfl _ _ rfl rfl (by rw [info_ev2]; simp [le]) (by simp [le]) (cells_all e) ?_))
            have EX : Hid (ObjAt (W6.alloc (.cells (e).cells.toArray 25)) W6.heap.size 25 (e).cells) := ObjAt.new _ _ _
            have H7 : Hid (TF w (W6.alloc (.cells (e).cells.toArray 25)) a5 c5 ((List.replicate 4095 e) ++ [e]) e f) := (H5.out.of_below hb6).of_below ((Below.refl _ _).alloc (Nat.le_refl _) _)
            generalize W6.alloc (.cells (e).cells.toArray 25) = W7 at EX H7 ⊢
            obtain ⟨px, hpx⟩ : ∃ px, px = W6.heap.size := ⟨_, rfl⟩
            rw [← hpx] at EX ⊢
            clear hpx hb6 H5 HO5 CLast
            have RX : Hid (W7.rangeAt px 0 (e).cells) := EX.out.range 0 _ (fun j v h => by simpa using h)
            have RE := Lib.hid (tf_rows H7.out).1
            have RF := Lib.hid (tf_rows H7.out).2
            go_wp2_with (first | (refine wpList_load_midW (by rfl) 25 (.tmp 15) rfl px 0 rfl (e).cells _ RX.out Tryd.underlying25 rfl (by rw [info_ev2, le]) ?_) | (refine wpList_load_midW (by rfl) 25 (.tmp 4) rfl (w.heap.size + 1) 0 rfl f.cells _ RF.out Tryd.underlying25 rfl (by rw [info_ev2, lf]) ?_) | (refine wpList_load_midW (by rfl) 25 (.tmp 3) rfl w.heap.size 0 rfl e.cells _ RE.out Tryd.underlying25 rfl (by rw [info_ev2, le]) ?_) | (go_at_call 14; refine (CLen.out _ H7.out).mono ?_; rintro x W8 ⟨rfl, rfl⟩) | (go_at_call 8; refine (awake_any _ (HW.out.below H7.out.bel) (HP.out.below H7.out.bel)).mono ?_; rintro x W9 ⟨rfl, hb9⟩))
            go_ret
            exact ⟨rfl, H7.out.bel.trans (hb9.mono H7.out.bel.size)⟩
#print axioms full_walk
end Go.Proofs.YtcffdceadmdecaaDoor
