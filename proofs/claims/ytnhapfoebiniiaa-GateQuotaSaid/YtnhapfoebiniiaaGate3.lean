/- The walks of package gate: Release, New; the reference's. -/
import Derived.Test.YtnhapfoebiniiaaGate2
namespace Go.Proofs.Ytnhapfoebiniiaa
open Go.RowKit Go.Sort
set_option maxHeartbeats 400000
set_option maxRecDepth 100000

theorem release_no (B b : Nat) (a : Option Addr) (cap : Nat) (R : List Rel) (k : Nat) (ft us cats who quota x l : Int) (s : ByteArray) (w : World) (h : GSt w B b a cap R k ft us cats who quota) (hq0 : 0 ≤ quota) (hq1 : quota ≤ 64) (hu0 : 0 ≤ us) (hu1 : us ≤ 64) (hs : s.size ≤ maxLen) (hv : mayV cats who quota us x l s.size ≠ 0) :
    Calls Try.prog 14 #[.pointer (some ⟨b, 0, none⟩), .int .i64 x, .int .i64 l, .string s] w fun e w' => e = .returned (.int .i64 (mayV cats who quota us x l s.size)) ∧ Below w.heap.size w w' := by
  have H := Lib.hid h
  have HM := Lib.hid (may_any b a R.length cap k ft us cats who quota x l s w h.obj hq0 hq1 hu0 hu1 hs)
  clear h
  have t1 : (mayV cats who quota us x l s.size == 0) = false := by simpa using hv
  clear hv
  generalize mayV cats who quota us x l s.size = m at HM t1 ⊢
  go_enter Try.func14, Try.ntmps14
  go_wp2_with (first | (go_at_call 26; refine (gnone_any _ _ _ _ _ _ _ _ _ _ _ H.out.obj).mono ?_; rintro e w' ⟨rfl, rfl⟩) | (go_at_call 29; refine (HM.out).mono ?_; rintro e w1 ⟨rfl, hb1⟩))
  go_ret
  exact ⟨rfl, hb1⟩
def RelPost (B b : Nat) (a : Option Addr) (R : List Rel) (k : Nat) (ft us cats who quota l : Int) (s : ByteArray) (w : World) (e : Ending) (w' : World) : Prop :=
  ∃ g' cap', e = .returned (.int .i64 0) ∧ GSt w' B b (some ⟨g', 0, none⟩) cap' (R ++ [(s, l, ft)]) k ft (us + s.size) cats who quota ∧ Mod (b :: blk a) w w' ∧ (g' ∈ blk a ∨ w.heap.size ≤ g')
theorem release_yes (B b : Nat) (a : Option Addr) (cap : Nat) (R : List Rel) (k : Nat) (ft us cats who quota x l : Int) (s : ByteArray) (w : World) (h : GSt w B b a cap R k ft us cats who quota) (hq0 : 0 ≤ quota) (hq1 : quota ≤ 64) (hu0 : 0 ≤ us) (hu1 : us ≤ 64) (hs : s.size ≤ maxLen) (hv : mayV cats who quota us x l s.size = 0) (hn : R.length ≤ 1000) (hB : B ≤ w.heap.size) :
    Calls Try.prog 14 #[.pointer (some ⟨b, 0, none⟩), .int .i64 x, .int .i64 l, .string s] w (RelPost B b a R k ft us cats who quota l s w) := by
  have hs16 : s.size ≤ 1000 := by
    unfold mayV at hv
    repeat' split at hv
    all_goals omega
  have H := Lib.hid h
  have HM := Lib.hid (may_any b a R.length cap k ft us cats who quota x l s w h.obj hq0 hq1 hu0 hu1 hs)
  rw [hv] at HM
  clear h hv
  go_enter Try.func14, Try.ntmps14
  go_wp2_with (first | (go_at_call 26; refine (gnone_any _ _ _ _ _ _ _ _ _ _ _ H.out.obj).mono ?_; rintro e w' ⟨rfl, rfl⟩) | (go_at_call 29; refine (HM.out).mono ?_; rintro e w1 ⟨rfl, hb1⟩))
  have h1 := H.out.below hb1
  have hsz := hb1.size
  refine (note_any _ _ _ _ _ _ _ _ _ _ _ _ _ _ _ h1.obj h1.own hn hu0 (by omega) hs16 (by omega)).mono ?_; rintro e w2 ⟨g', cap', rfl, ho, hown, hm, hat⟩
  go_wp2_with fail
  go_ret
  exact ⟨g', cap', rfl, ⟨by rw [List.length_append]; exact ho, by rw [List.length_append, relF_snoc]; exact hown⟩, (Mod.ofBelow hb1).trans hm, hat.imp id (fun h => by omega)⟩
def okG (cats who quota : Int) : Prop := 0 ≤ cats ∧ cats ≤ 8 ∧ -1 ≤ who ∧ who < 4 ∧ 0 ≤ quota ∧ quota ≤ 64
theorem gnew_yes (B : Nat) (cats who quota : Int) (h : okG cats who quota) (w : World) : Calls Try.prog 8 #[.int .i64 cats, .int .i64 who, .int .i64 quota] w fun e w' => e = .returned (.tuple #[.pointer (some ⟨w.heap.size, 0, none⟩), .int .i64 0]) ∧ GSt w' B w.heap.size none 0 [] 0 0 0 cats who quota ∧ Below w.heap.size w w' := by
  obtain ⟨h1, h2, h3, h4, h5, h6⟩ := h
  go_enter Try.func8, Try.ntmps8
  go_wp2
  go_ret2
  exact ⟨rfl, ⟨new_block w _ _ rfl, Own.nil _ _ _ _⟩, (Below.refl _ _).alloc (Nat.le_refl _) _⟩
theorem gnew_no (cats who quota : Int) (h : ¬ okG cats who quota) (w : World) : Calls Try.prog 8 #[.int .i64 cats, .int .i64 who, .int .i64 quota] w fun e w' => e = .returned (.tuple #[.pointer none, .int .i64 1]) ∧ w = w' := by
  by_cases h1 : cats < 0
  · clear h
    go_enter Try.func8, Try.ntmps8
    go_wp2
    go_ret2
    exact ⟨rfl, rfl⟩
  · by_cases h2 : 8 < cats
    · clear h
      go_enter Try.func8, Try.ntmps8
      go_wp2
      go_ret2
      exact ⟨rfl, rfl⟩
    · by_cases h3 : who < -1
      · clear h
        go_enter Try.func8, Try.ntmps8
        go_wp2
        go_ret2
        exact ⟨rfl, rfl⟩
      · by_cases h4 : 4 ≤ who
        · clear h
          go_enter Try.func8, Try.ntmps8
          go_wp2
          go_ret2
          exact ⟨rfl, rfl⟩
        · by_cases h5 : quota < 0
          · clear h
            go_enter Try.func8, Try.ntmps8
            go_wp2
            go_ret2
            exact ⟨rfl, rfl⟩
          · have h6 : 64 < quota := by unfold okG at h; omega
            clear h
            go_enter Try.func8, Try.ntmps8
            go_wp2
            go_ret2
            exact ⟨rfl, rfl⟩
theorem rnew_no (cats who quota : Int) (h : ¬ okG cats who quota) (w : World) : Calls Try.prog 9 #[.int .i64 cats, .int .i64 who, .int .i64 quota] w fun e w' => e = .returned (.tuple #[.pointer none, .int .i64 1]) ∧ w = w' := by
  by_cases h1 : cats < 0
  · clear h
    go_enter Try.func9, Try.ntmps9
    go_wp2
    go_ret2
    exact ⟨rfl, rfl⟩
  · by_cases h2 : 8 < cats
    · clear h
      go_enter Try.func9, Try.ntmps9
      go_wp2
      go_ret2
      exact ⟨rfl, rfl⟩
    · by_cases h3 : who < -1
      · clear h
        go_enter Try.func9, Try.ntmps9
        go_wp2
        go_ret2
        exact ⟨rfl, rfl⟩
      · by_cases h4 : 4 ≤ who
        · clear h
          go_enter Try.func9, Try.ntmps9
          go_wp2
          go_ret2
          exact ⟨rfl, rfl⟩
        · by_cases h5 : quota < 0
          · clear h
            go_enter Try.func9, Try.ntmps9
            go_wp2
            go_ret2
            exact ⟨rfl, rfl⟩
          · have h6 : 64 < quota := by unfold okG at h; omega
            clear h
            go_enter Try.func9, Try.ntmps9
            go_wp2
            go_ret2
            exact ⟨rfl, rfl⟩

def rgateC (a : Option Addr) (n cap : Nat) (N cats who quota : Int) : List Value := [.int .i64 cats, .int .i64 who, .int .i64 quota, .slice a n cap, .int .i64 N]
/-- The reference's gate in memory. -/
structure RSt (w : World) (B b : Nat) (a : Option Addr) (cap : Nat) (R : List Rel) (N cats who quota : Int) : Prop where
  obj : ObjAt w b 39 (rgateC a R.length cap N cats who quota)
  own : Own w B 43 3 a R.length cap (relF R)
namespace RSt
variable {w w' : World} {B b cap : Nat} {a : Option Addr} {R : List Rel} {N cats who quota : Int} {S : List Nat}
theorem mod (h : RSt w B b a cap R N cats who quota) (hm : Mod S w w') (h1 : b ∉ S) (h2 : ∀ x ∈ blk a, x ∉ S) : RSt w' B b a cap R N cats who quota := ⟨h.obj.mod hm h1, h.own.mod hm h2⟩
theorem below (h : RSt w B b a cap R N cats who quota) (hb : Below w.heap.size w w') : RSt w' B b a cap R N cats who quota := ⟨h.obj.below hb, h.own.below hb⟩
end RSt
theorem rnew_yes (B : Nat) (cats who quota : Int) (h : okG cats who quota) (w : World) : Calls Try.prog 9 #[.int .i64 cats, .int .i64 who, .int .i64 quota] w fun e w' => e = .returned (.tuple #[.pointer (some ⟨w.heap.size, 0, none⟩), .int .i64 0]) ∧ RSt w' B w.heap.size none 0 [] 0 cats who quota ∧ Below w.heap.size w w' := by
  obtain ⟨h1, h2, h3, h4, h5, h6⟩ := h
  go_enter Try.func9, Try.ntmps9
  go_wp2
  go_ret2
  exact ⟨rfl, ⟨new_block w _ _ rfl, Own.nil _ _ _ _⟩, (Below.refl _ _).alloc (Nat.le_refl _) _⟩
/-- What was released in frame N. -/
def nowR (R : List Rel) (N : Int) : List Rel := R.filter (fun r => r.2.2 == N)
theorem now_yes (R : List Rel) (N : Int) (k : Nat) (hk : k < R.length) (h : R[k].2.2 = N) : nowR (R.take (k + 1)) N = nowR (R.take k) N ++ [R[k]] := by
  rw [List.take_succ_eq_append_getElem hk, nowR, List.filter_append]
  simp [nowR, h]
theorem now_not (R : List Rel) (N : Int) (k : Nat) (hk : k < R.length) (h : R[k].2.2 ≠ N) : nowR (R.take (k + 1)) N = nowR (R.take k) N := by
  rw [List.take_succ_eq_append_getElem hk, nowR, List.filter_append]
  simp [nowR, h]
theorem now_le (R : List Rel) (N : Int) : (nowR R N).length ≤ R.length := List.length_filter_le _ _
theorem now_any (B b : Nat) (a : Option Addr) (cap : Nat) (R : List Rel) (N cats who quota : Int) (w : World) (h : RSt w B b a cap R N cats who quota) (hn : R.length ≤ 1000) : Calls Try.prog 28 #[.pointer (some ⟨b, 0, none⟩)] w (ClonePost 43 3 (nowR R N).length (relF (nowR R N)) w) := by
  obtain ⟨i0, hi0, hz0, hz1, hz2⟩ := info_parts info_rel
  have H := Lib.hid h
  clear h
  go_enter Try.func28, Try.ntmps28
  go_wp2_with fail
  go_loopw [3, 4] (fun o i wr => ∃ (k : Nat) (a' : Option Addr) (m c' : Nat), k ≤ R.length ∧ i = .int .i64 k ∧ o = .slice a' m c' ∧ m = (nowR (R.take k) N).length ∧ Own wr w.heap.size 43 3 a' m c' (relF (nowR (R.take k) N)) ∧ Below w.heap.size w wr) (fun _ i _ => R.length - (intOf i).toNat)
  case atStart => exact ⟨0, none, 0, 0, Nat.zero_le _, rfl, rfl, by simp [nowR], by simpa [nowR, relF] using Own.nil _ _ _ _, Below.refl _ _⟩
  case round =>
    obtain ⟨k, a', m, c', hk, rfl, rfl, hm, hown, hb⟩ := hrel
    have hs := H.out.below hb
    have c3 := hs.obj.cell 3 _ rfl; have c4 := hs.obj.cell 4 _ rfl
    by_cases hlt : k < R.length
    · obtain ⟨g, rfl, _, hg⟩ := hs.own.at_ (by omega)
      have k0 := hs.own.cell (k * 3) (.string R[k].1) (by have := relF_get R k 0 hlt (by omega); simpa [relC] using this)
      have k1 := hs.own.cell (k * 3 + 1) (.int .i64 R[k].2.1) (by have := relF_get R k 1 hlt (by omega); simpa [relC] using this)
      have k2 := hs.own.cell (k * 3 + 2) (.int .i64 R[k].2.2) (by have := relF_get R k 2 hlt (by omega); simpa [relC] using this)
      have hcap := hs.own.le
      have hb0 : (0 : Int) ≤ k := by omega
      have hb1 : (k : Int) < (R.length : Int) := by omega
      have hml : m ≤ 1000 := by have := now_le (R.take k) N; have := List.length_take_le k R; omega
      by_cases hf : R[k].2.2 = N
      · have tf : (R[k].2.2 == N) = true := by simpa using hf
        have HS := Lib.hid (now_yes R N k hlt hf)
        have HM := Lib.hid hm
        clear hf hm hs
        generalize R[k] = r at k0 k1 k2 tf HS
        obtain ⟨s, l, f⟩ := r
        have hsz := hb.size
        go_wp2_with fail
        go_quiet (fail)
        go_wp2_with (at_builtin; (refine wpList_own rfl (.tmp 27) (.tmp 35) 34 rfl w.heap.size 43 i0 _ 3 32 Try.underlying34 hi0 hz0 hz1 hz2 rfl (by omega) a' m c' _ rfl (hown.below ((below_drewN (Below.refl _ _) _).alloc (Nat.le_refl _) _)) wr.heap.size (relC (s, l, f)) rfl (new_block _ _ _ rfl) rfl (by simp [relC, Value.oneCell']) (by simp only [maxLen]; omega) (by omega) (by simp; omega) ?_); intro g' cap' w1 hown1 hmod hat)
        have hb1' : Below w.heap.size w w1 := (((below_drewN hb _).alloc (by simpa using hsz) _).trans (Mod.below hmod (fun x hx => (hown.ge x hx).1) (by simp; omega)))
        clear k0 k1 k2 c3 c4 hmod hat hown hb tf
        go_wp2
        go_roundw
        case rel => exact ⟨k + 1, some ⟨g', 0, none⟩, m + 1, cap', by omega, by go_num, rfl, by rw [HS.out, List.length_append, ← HM.out]; rfl, by rw [HS.out, relF_snoc]; exact hown1, hb1'⟩
        case measure => simp [intOf]; omega
      · have tf : (R[k].2.2 == N) = false := by simpa using hf
        have HS := Lib.hid (now_not R N k hlt hf)
        have HM := Lib.hid hm
        clear hf hm hs
        generalize R[k] = r at k0 k1 k2 tf HS
        obtain ⟨s, l, f⟩ := r
        go_wp2_with fail
        go_quiet (fail)
        clear k0 k1 k2 c3 c4 tf
        go_wp2
        go_roundw
        case rel => exact ⟨k + 1, a', m, c', by omega, by go_num, rfl, by rw [HS.out]; exact HM.out, by rw [HS.out]; exact hown, below_drewN hb _⟩
        case measure => simp [intOf]; omega
    · have hkl : k = R.length := by omega
      subst hkl
      rw [List.take_length] at hm hown
      have HM := Lib.hid hm
      clear hm
      go_wp2_with fail
      go_ret
      exact ⟨a', c', by rw [← HM.out]; rfl, by rw [← HM.out]; exact hown, hb⟩
end Go.Proofs.Ytnhapfoebiniiaa
