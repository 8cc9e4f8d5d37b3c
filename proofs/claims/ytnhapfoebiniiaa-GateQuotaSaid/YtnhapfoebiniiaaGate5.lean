/- The reference's Release; awake; the acts. -/
import Derived.Test.YtnhapfoebiniiaaGate4
namespace Go.Proofs.Ytnhapfoebiniiaa
open Go.RowKit Go.Sort
set_option maxHeartbeats 400000
set_option maxRecDepth 100000

theorem rrelease_no (B b : Nat) (a : Option Addr) (cap : Nat) (R : List Rel) (N us cats who quota x l : Int) (s : ByteArray) (w : World) (h : RSt w B b a cap R N cats who quota) (hu : us = sumR (nowR R N)) (hn : R.length ≤ 1000) (hs1 : ∀ r ∈ R, r.1.size ≤ maxLen) (hq0 : 0 ≤ quota) (hq1 : quota ≤ 64) (hu1 : us ≤ 64) (hs : s.size ≤ maxLen) (hv : mayV cats who quota us x l s.size ≠ 0) :
    Calls Try.prog 15 #[.pointer (some ⟨b, 0, none⟩), .int .i64 x, .int .i64 l, .string s] w fun e w' => e = .returned (.int .i64 (mayV cats who quota us x l s.size)) ∧ Below w.heap.size w w' := by
  unfold maxLen at hs
  have H := Lib.hid h
  have c0 := h.obj.cell 0 _ rfl; have c1 := h.obj.cell 1 _ rfl; have c2 := h.obj.cell 2 _ rfl
  clear h
  by_cases e1 : who = -1
  · subst e1
    have HE : Hid (mayV cats (-1) quota us x l s.size = 4) := by simp only [Hid, mayV]; rfl
    clear hv hu
    go_enter Try.func15, Try.ntmps15
    go_wp2_with fail
    go_ret
    exact ⟨ret_int (by rw [HE.out]), Below.refl _ _⟩
  · have t1 : (who == -1) = false := by simpa using e1
    by_cases e2 : x = who
    · subst e2
      have t2 : (x != x) = false := by simp
      cases e3 : validB l cats
      · have HE : Hid (mayV cats x quota us x l s.size = 1) := by simp only [Hid, mayV, e3]; rw [if_neg e1]; simp
        have HV := Lib.hid e3
        clear e1 e3 hv hu
        go_enter Try.func15, Try.ntmps15
        (go_wp2_with (go_at_call 31; refine (Valid_ref _ _ _).mono ?_; rw [HV.out]; rintro e w' ⟨rfl, rfl⟩))
        go_ret
        exact ⟨ret_int (by rw [HE.out]), Below.refl _ _⟩
      · have HV := Lib.hid e3
        by_cases e4 : s.size < 1
        · have HE : Hid (mayV cats x quota us x l s.size = 10) := by simp only [Hid, mayV, e3]; rw [if_neg e1, if_pos e4]; simp
          clear e1 e3 hv hu
          go_enter Try.func15, Try.ntmps15
          (go_wp2_with (go_at_call 31; refine (Valid_ref _ _ _).mono ?_; rw [HV.out]; rintro e w' ⟨rfl, rfl⟩))
          go_ret
          exact ⟨ret_int (by rw [HE.out]), Below.refl _ _⟩
        · by_cases e5 : 16 < s.size
          · have HE : Hid (mayV cats x quota us x l s.size = 10) := by simp only [Hid, mayV, e3]; rw [if_neg e1, if_neg e4, if_pos e5]; simp
            clear e1 e3 hv hu
            go_enter Try.func15, Try.ntmps15
            (go_wp2_with (go_at_call 31; refine (Valid_ref _ _ _).mono ?_; rw [HV.out]; rintro e w' ⟨rfl, rfl⟩))
            go_ret
            exact ⟨ret_int (by rw [HE.out]), Below.refl _ _⟩
          · by_cases e6 : quota - us < s.size
            · have HE : Hid (mayV cats x quota us x l s.size = 9) := by simp only [Hid, mayV, e3]; rw [if_neg e1, if_neg e4, if_neg e5, if_pos e6]; simp
              have hsu : sumR (nowR R N) ≤ 100000 := by omega
              have hgt : quota < (sumR (nowR R N) : Int) + s.size := by omega
              have hle : (sumR (nowR R N) : Int) ≤ 64 := by omega
              clear e1 e3 hv hu e6
              go_enter Try.func15, Try.ntmps15
              (go_wp2_with (go_at_call 31; refine (Valid_ref _ _ _).mono ?_; rw [HV.out]; rintro e w' ⟨rfl, rfl⟩))
              (
  have HU := Lib.hid (fun d os => Calls.regrown_of (rused_any _ _ _ _ _ _ _ _ _ _ (H.out.below (below_regrown w d os)) hn hsu hs1))
  have k2 := cell_regrown (H.out.obj.cell 2 _ rfl)
  clear c0 c1 c2 hs1
  refine wp_region_quiet_below (by kernel_rfl) (by kernel_rfl) ?_; (repeat (go_big_quiet_step ((go_at_call 18; exact HU.out _ _)))); refine wpQuiet_nil ?_; intro _ hw'; obtain ⟨⟨dq, osq⟩, hw''⟩ := hw'; subst hw''; have hbq := below_regrown w dq osq; generalize grow (redrawn w dq) osq = wq at *
              )
              go_wp2_with fail
              go_ret
              exact ⟨ret_int (by rw [HE.out]), hbq⟩
            · exact absurd (by simp only [mayV, e3]; rw [if_neg e1, if_neg e4, if_neg e5, if_neg e6]; simp) hv
    · have HE : Hid (mayV cats who quota us x l s.size = 4) := by simp only [Hid, mayV]; rw [if_neg e1, if_pos e2]
      have t2 : (x != who) = true := by simpa using e2
      clear e1 e2 hv hu
      go_enter Try.func15, Try.ntmps15
      go_wp2_with fail
      go_ret
      exact ⟨ret_int (by rw [HE.out]), Below.refl _ _⟩
theorem mayV_zero {cats who quota us x l : Int} {m : Nat} (h : mayV cats who quota us x l m = 0) : who ≠ -1 ∧ x = who ∧ validB l cats = true ∧ 1 ≤ m ∧ m ≤ 16 ∧ us + m ≤ quota := by
  unfold mayV at h
  split at h
  · omega
  · split at h
    · omega
    · split at h
      · omega
      · split at h
        · omega
        · split at h
          · omega
          · split at h
            · omega
            · refine ⟨by assumption, by rename_i h2 _ _ _ _; omega, by rename_i h3 _ _ _; simpa using h3, by omega, by omega, by omega⟩
def RRelPost (B b : Nat) (a : Option Addr) (R : List Rel) (N cats who quota l : Int) (s : ByteArray) (w : World) (e : Ending) (w' : World) : Prop :=
  ∃ g' cap', e = .returned (.int .i64 0) ∧ RSt w' B b (some ⟨g', 0, none⟩) cap' (R ++ [(s, l, N)]) N cats who quota ∧ Mod (b :: blk a) w w' ∧ (g' ∈ blk a ∨ w.heap.size ≤ g')
theorem rrelease_yes (B b : Nat) (a : Option Addr) (cap : Nat) (R : List Rel) (N us cats who quota x l : Int) (s : ByteArray) (w : World) (h : RSt w B b a cap R N cats who quota) (hu : us = sumR (nowR R N)) (hn : R.length ≤ 1000) (hs1 : ∀ r ∈ R, r.1.size ≤ maxLen) (hq0 : 0 ≤ quota) (hq1 : quota ≤ 64) (hu1 : us ≤ 64) (hv : mayV cats who quota us x l s.size = 0) (hB : B ≤ w.heap.size) :
    Calls Try.prog 15 #[.pointer (some ⟨b, 0, none⟩), .int .i64 x, .int .i64 l, .string s] w (RRelPost B b a R N cats who quota l s w) := by
  obtain ⟨i0, hi0, hz0, hz1, hz2⟩ := info_parts info_rel
  obtain ⟨e1, rfl, e3, e4, e5, e6⟩ := mayV_zero hv
  have H := Lib.hid h
  have c0 := h.obj.cell 0 _ rfl; have c1 := h.obj.cell 1 _ rfl; have c2 := h.obj.cell 2 _ rfl
  have hsu : sumR (nowR R N) ≤ 100000 := by omega
  have hgt : (sumR (nowR R N) : Int) + s.size ≤ quota := by omega
  have hle : (sumR (nowR R N) : Int) ≤ 64 := by omega
  have t1 : (x == -1) = false := by simpa using e1
  have t2 : (x != x) = false := by simp
  have HV := Lib.hid e3
  clear h hv hu e1 e3 e6
  go_enter Try.func15, Try.ntmps15
  (go_wp2_with (go_at_call 31; refine (Valid_ref _ _ _).mono ?_; rw [HV.out]; rintro e w' ⟨rfl, rfl⟩))
  (
  have HU := Lib.hid (fun d os => Calls.regrown_of (rused_any _ _ _ _ _ _ _ _ _ _ (H.out.below (below_regrown w d os)) hn hsu hs1))
  have k2 := cell_regrown (H.out.obj.cell 2 _ rfl)
  clear c0 c1 c2 hs1
  refine wp_region_quiet_below (by kernel_rfl) (by kernel_rfl) ?_; (repeat (go_big_quiet_step ((go_at_call 18; exact HU.out _ _)))); refine wpQuiet_nil ?_; intro _ hw'; obtain ⟨⟨dq, osq⟩, hw''⟩ := hw'; subst hw''; have hbq := below_regrown w dq osq; generalize grow (redrawn w dq) osq = wq at *
  )
  have h1 := H.out.below hbq
  have hsz := hbq.size
  have c3 := h1.obj.cell 3 _ rfl; have c4 := h1.obj.cell 4 _ rfl
  have f3 := h1.obj.free 3
  have hnb := h1.own.ne h1.obj (by decide)
  have hlt := h1.obj.lt
  have H1 := Lib.hid h1
  clear h1 k2
  go_wp2_with fail
  go_region_law (refine step_own rfl (.tmp 51) (.tmp 59) 34 rfl B 43 i0 _ 3 32 Try.underlying34 hi0 hz0 hz1 hz2 rfl (by omega) a R.length cap (relF R) rfl (H1.out.own.below (((Below.refl _ _).drew).alloc (Nat.le_refl _) _)) wq.heap.size (relC (s, l, N)) rfl (new_block _ _ _ rfl) rfl (by simp [relC, Value.oneCell']) (by simp only [maxLen]; omega) (by omega) (by simp; omega) ?_; intro g cap' w1 hown hmod hat; have h2 := (H1.out.obj.below (((Below.refl _ _).drew).alloc (Nat.le_refl _) _)).mod hmod hnb; have d0 := h2.cell 3 _ rfl; have e0 := h2.free 3)
  all_goals
    go_wp2_with fail
    go_ret
    have ho' := hown.upd (Upd.setCell w1 ⟨b, 3, none⟩ (.slice (some ⟨g, 0, none⟩) (R.length + 1) cap')) (hown.ne h2 (by decide))
    have hm0 : Mod (b :: blk a) w w1 := ((Mod.ofBelow (S := b :: blk a) hbq).drew.alloc _).trans (hmod.mono (fun k _ hk => List.mem_cons_of_mem _ hk))
    exact ⟨g, cap', rfl, ⟨by rw [List.length_append]; exact h2.set 3 _, by rw [List.length_append, relF_snoc]; exact ho'⟩, hm0.setCell ⟨b, 3, none⟩ _ (.inl (by simp)), hat.imp id (fun h => by simp at h; omega)⟩
theorem awake_any (w : World) : Calls Try.prog 10 #[] w fun e w' => e = .returned (.bool true) ∧ Below w.heap.size w w' := by
  go_enter Try.func10, Try.ntmps10
  go_wp2_with fail
  refine (gnew_yes w.heap.size 1 0 3 (by unfold okG; omega) w).mono ?_; rintro e w1 ⟨rfl, h1, hb1⟩
  have hsz1 := hb1.size
  go_wp2_with fail
  refine (release_yes _ _ _ _ _ _ _ _ _ _ _ _ _ _ _ h1 (by omega) (by omega) (by omega) (by omega) (by decide) (by decide) (by decide) hsz1).mono ?_; rintro e w2 ⟨g', cap', rfl, h2, hm2, hat2⟩
  have hb2 : Below w.heap.size w w2 := hb1.trans (hm2.below (by simp [blk]) hsz1)
  have hsz2 := hb2.size
  clear h1 hb1 hm2
  go_wp2_with fail
  refine (release_no _ _ _ _ _ _ _ _ _ _ _ _ _ _ _ h2 (by omega) (by omega) (by decide) (by decide) (by decide) (by decide)).mono ?_; rintro e w3 ⟨he, hb3⟩
  obtain rfl : e = .returned (.int .i64 9) := he
  have h3 := h2.below hb3
  have hb3' := bmore hb2 hb3
  clear h2 hb2 hb3
  go_wp2_with fail
  refine (turn_any _ _ _ _ _ _ _ _ _ _ _ _ h3 (by decide) (by decide) (by omega) (by omega)).mono ?_; rintro e w4 ⟨a4, c4, rfl, hown, h4, hu4⟩
  obtain ⟨g4, rfl, _, hg4⟩ := hown.at_ (by decide)
  have hb4 := bupd hb3' hu4 (Nat.le_refl _)
  have k0 := hown.cell 0 (.string ⟨#[97, 98]⟩) rfl; have k1 := hown.cell 1 (.int .i64 1) rfl; have k2 := hown.cell 2 (.int .i64 0) rfl
  have qR := fun w => eqR ⟨#[97, 98]⟩ 1 0 w
  have hc4 := hown.le
  clear h3 hb3' hu4
  go_wp2_with (go_at_call 19; refine (frame_any _ _ _ _ _ _ _ _ _ _ _ h4.obj).mono ?_; rintro e w' ⟨rfl, rfl⟩)
  go_ret
  exact ⟨rfl, hb4⟩
end Go.Proofs.Ytnhapfoebiniiaa
