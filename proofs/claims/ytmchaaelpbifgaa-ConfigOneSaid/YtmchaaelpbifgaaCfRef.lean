/- Package hermitageref03 (for disk): New, Who, Give. Lines of XPartsV, XPartsRef and XPartsRef3. -/
import Derived.Test.YtmchaaelpbifgaaCfP5
import Derived.Test.YtmchaaelpbifgaaScope
namespace Go.Proofs.Ytmchaaelpbifgaa
set_option linter.unusedVariables false
set_option linter.unusedSimpArgs false
set_option linter.unnecessarySimpa false
open Go.RowKit Go.Sort
set_option maxHeartbeats 400000
set_option maxRecDepth 100000

/-- Whose a place is; nobody: -1. -/
theorem info_int : (Try.prog.info? 3).map (fun i => (i.zero, i.size, i.bytes)) = some (some (.int .i64 0), 1, 8) := by kernel_rfl
def ownV (R : List Rn) (i : Nat) : Int := match R.find? (hits i) with
  | some r => r.2.2
  | none => -1
theorem hits_nat (i : Nat) (r : Rn) : hits i r = (decide (r.1 ≤ i) && decide (i < r.1 + r.2.1)) := by
  unfold hits
  congr 1
  · exact decide_eq_decide.2 (by omega)
  · exact decide_eq_decide.2 (by omega)
theorem ownV_who (R : List Rn) (i : Nat) : whoV R i = if 0 ≤ ownV R i then (ownV R i, true) else (0, false) := by
  unfold whoV ownV
  cases R.find? (hits i) with
  | none => simp
  | some r => simp
theorem ownV_off {R : List Rn} {i : Nat} (h : ∀ r ∈ R, ¬ (r.1 ≤ i ∧ i < r.1 + r.2.1)) : ownV R i = -1 := by
  have : R.find? (hits i) = none := by
    rw [List.find?_eq_none]
    intro r hr
    have := h r hr
    rw [hits_nat]
    simpa using fun h1 => by omega
  rw [ownV, this]
theorem ownV_app {R S : List Rn} {i : Nat} (h : ∀ r ∈ R, ¬ (r.1 ≤ i ∧ i < r.1 + r.2.1)) : ownV (R ++ S) i = ownV S i := by
  have : R.find? (hits i) = none := by
    rw [List.find?_eq_none]
    intro r hr
    have := h r hr
    rw [hits_nat]
    simpa using fun h1 => by omega
  unfold ownV
  rw [List.find?_append, this, Option.none_or]
theorem ownV_app0 {R S : List Rn} {i : Nat} (h : ∀ r ∈ S, ¬ (r.1 ≤ i ∧ i < r.1 + r.2.1)) : ownV (R ++ S) i = ownV R i := by
  have : S.find? (hits i) = none := by
    rw [List.find?_eq_none]
    intro r hr
    have := h r hr
    rw [hits_nat]
    simpa using fun h1 => by omega
  unfold ownV
  rw [List.find?_append, this, Option.or_none]
theorem ownV_cons (r : Rn) (R : List Rn) (i : Nat) : ownV (r :: R) i = if r.1 ≤ i ∧ i < r.1 + r.2.1 then (r.2.2 : Int) else ownV R i := by
  unfold ownV
  rw [List.find?_cons, hits_nat]
  by_cases h : r.1 ≤ i ∧ i < r.1 + r.2.1
  · rw [if_pos h]; simp [h.1, h.2]
  · rw [if_neg h]
    have : (decide (r.1 ≤ i) && decide (i < r.1 + r.2.1)) = false := by simpa using fun h1 => by omega
    rw [this]
/-- What Give leaves. -/
theorem ownV_add {n : Nat} {R : List Rn} (hok : Okr n R) {f m who : Nat} (hm : 1 ≤ m) (hh : (meetV f m R).2 = false) (i : Nat) : ownV (addR R f m who) i = if f ≤ i ∧ i < f + m then (who : Int) else ownV R i := by
  obtain ⟨h1, h2⟩ := meet_parts f m R hok.sorted (fun r hr => (hok.each r hr).1) hh
  have hR : ownV R i = ownV (R.take (meetV f m R).1 ++ R.drop (meetV f m R).1) i := by rw [List.take_append_drop]
  rw [hR]
  unfold addR
  by_cases hi : f ≤ i
  · rw [ownV_app (fun r hr => by have := h1 r hr; omega), ownV_cons, ownV_app (fun r hr => by have := h1 r hr; omega)]
  · rw [if_neg (by omega), ownV_app0 (S := (f, m, who) :: _) (fun r hr => by
      rcases List.mem_cons.1 hr with rfl | hr
      · dsimp only; omega
      · have := h2 r hr; omega), ownV_app0 (fun r hr => by have := h2 r hr; omega)]
theorem meet_hit {n : Nat} {R : List Rn} (hok : Okr n R) {f m : Nat} (hm : 1 ≤ m) : (meetV f m R).2 = true ↔ ∃ i, f ≤ i ∧ i < f + m ∧ 0 ≤ ownV R i := by
  constructor
  · intro h
    have key : ∀ S : List Rn, (meetV f m S).2 = true → (∀ r ∈ S, 1 ≤ r.2.1) → ∃ i, f ≤ i ∧ i < f + m ∧ 0 ≤ ownV S i := by
      intro S
      induction S with
      | nil => intro h; simp [meetV] at h
      | cons r S ih =>
        intro h hn
        unfold meetV at h
        by_cases e : r.1 + r.2.1 ≤ f
        · rw [if_pos e] at h
          obtain ⟨i, a, b, c⟩ := ih h (fun s hs => hn s (by simp [hs]))
          exact ⟨i, a, b, by rw [ownV_cons, if_neg (by omega)]; exact c⟩
        · rw [if_neg e] at h
          simp only [decide_eq_true_eq] at h
          have := hn r (by simp)
          refine ⟨max f r.1, by omega, by omega, ?_⟩
          rw [ownV_cons, if_pos ⟨by omega, by omega⟩]
          omega
    exact key R h (fun r hr => (hok.each r hr).1)
  · rintro ⟨i, h1, h2, h3⟩
    cases hh : (meetV f m R).2
    · obtain ⟨a, b⟩ := meet_parts f m R hok.sorted (fun r hr => (hok.each r hr).1) hh
      have : ownV R i = -1 := ownV_off (fun r hr => by
        rw [← List.take_append_drop (meetV f m R).1 R, List.mem_append] at hr
        rcases hr with hr | hr
        · have := a r hr; omega
        · have := b r hr; omega)
      omega
    · rfl
def fC (f : Nat → Int) (n : Nat) : List Value := (List.range n).map (fun i => Value.int .i64 (f i))
theorem fC_len (f : Nat → Int) (n : Nat) : (fC f n).length = n := by simp [fC]
theorem fC_get (f : Nat → Int) {n i : Nat} (h : i < n) : (fC f n)[i]? = some (.int .i64 (f i)) := by simp [fC, h]
theorem fC_succ (f : Nat → Int) (n : Nat) : fC f (n + 1) = fC f n ++ [.int .i64 (f n)] := by simp [fC, List.range_succ]
theorem fC_congr {f g : Nat → Int} {n : Nat} (h : ∀ i, i < n → f i = g i) : fC f n = fC g n := by
  refine List.map_congr_left (fun i hi => ?_)
  rw [h i (by simpa using hi)]
theorem fC_set (f : Nat → Int) (n j : Nat) (v : Int) : (fC f n).set j (.int .i64 v) = fC (fun i => if i = j then v else f i) n := by
  apply List.ext_getElem?
  intro i
  rw [List.getElem?_set]
  by_cases hi : i < n
  · rw [fC_get (fun i => if i = j then v else f i) hi]
    by_cases e : j = i
    · subst e; simp [fC_len, hi]
    · rw [if_neg e, fC_get _ hi, if_neg (Ne.symm e)]
  · have h1 : (fC f n)[i]? = none := by simp [fC]; omega
    have h2 : (fC (fun i => if i = j then v else f i) n)[i]? = none := by simp [fC]; omega
    rw [h2]
    by_cases e : j = i
    · subst e; simp [fC_len, hi]
    · rw [if_neg e, h1]
theorem fC_one (f : Nat → Int) (n : Nat) : ∀ u ∈ fC f n, u.oneCell' = true := by
  intro u hu
  obtain ⟨i, _, rfl⟩ := List.mem_map.1 hu
  rfl
/-- The reference's table: whose each place is. -/
structure RT (w : World) (B rr : Nat) (a : Option Addr) (c : Nat) (f : Nat → Int) (n : Nat) : Prop where
  obj : ObjAt w rr 84 [.slice a n c]
  own : Own w B 3 1 a n c (fC f n)
namespace RT
variable {w w' : World} {B rr c n : Nat} {a : Option Addr} {f : Nat → Int}
theorem below (h : RT w B rr a c f n) (hb : Below w.heap.size w w') : RT w' B rr a c f n := ⟨h.obj.below hb, h.own.below hb⟩
theorem mono {B' : Nat} (h : RT w B rr a c f n) (hB : B' ≤ B) : RT w B' rr a c f n := ⟨h.obj, h.own.mono hB⟩
theorem mod {S : List Nat} (h : RT w B rr a c f n) (hm : Mod S w w') (h1 : rr ∉ S) (h2 : ∀ k ∈ blk a, k ∉ S) : RT w' B rr a c f n := ⟨h.obj.mod hm h1, h.own.mod hm h2⟩
theorem at_ (h : RT w B rr a c f n) (i : Nat) (hi : i < n) : ∃ g, a = some ⟨g, 0, none⟩ ∧ w.cell? ⟨g, i, none⟩ = some (.int .i64 (f i)) := by
  obtain ⟨g, rfl, _, _⟩ := h.own.at_ (by omega)
  exact ⟨g, rfl, h.own.cell i _ (fC_get f hi)⟩
end RT
set_option maxHeartbeats 1600000 in
theorem rnew_yes (N : Nat) (hN : N ≤ 64) (w : World) : Calls Try.prog 63 #[.int .i64 N] w fun e w' => ∃ a c, e = .returned (.tuple #[.pointer (some ⟨w.heap.size, 0, none⟩), .int .i64 0]) ∧ RT w' w.heap.size w.heap.size a c (fun _ => -1) N ∧ Below w.heap.size w w' := by
  obtain ⟨i0, hi0, hz0, hz1, hz2⟩ := info_parts info_int
  have e1 : decide ((N : Int) < 0) = false := by simp
  have e2 : decide ((64 : Int) < (N : Int)) = false := by simp; omega
  have HR0 : Hid (RT (w.alloc (.cells #[.slice none 0 0] 84)) w.heap.size w.heap.size none 0 (fun _ => -1) 0) := ⟨new_block w _ _ rfl, Own.nil _ _ _ _⟩
  go_enter Try.func63, Try.ntmps63
  go_wp2_with fail
  go_loopw [5] (fun i wr => ∃ (k : Nat) (a : Option Addr) (c : Nat), k ≤ N ∧ i = .int .i64 k ∧ RT wr w.heap.size w.heap.size a c (fun _ => -1) k ∧ Below w.heap.size w wr) (fun i _ => N - (intOf i).toNat)
  case atStart => exact ⟨0, none, 0, Nat.zero_le _, rfl, HR0.out, (Below.refl _ _).alloc (Nat.le_refl _) _⟩
  case round =>
    clear HR0
    obtain ⟨k, a, c, hk, rfl, hr, hb⟩ := hrel
    have HR := Lib.hid hr; have HB := Lib.hid hb
    have c0 := hr.obj.cell 0 _ rfl
    have hbz := hb.size
    clear hr hb
    by_cases g : k < N
    · have d : decide ((k : Int) < (N : Int)) = true := by simp; omega
      go_wp2_with (at_builtin; (refine wpList_own rfl (.tmp 23) (.tmp 24) 82 rfl w.heap.size 3 i0 _ 1 8 Try.underlying82 hi0 hz0 hz1 hz2 rfl (by omega) a k c (fC (fun _ => -1) k) rfl ((HR.out.below ((Below.refl _ _).alloc (Nat.le_refl _) _)).own) wr.heap.size [.int .i64 (-1)] rfl (new_block _ _ _ rfl) rfl (by simp [Value.oneCell']) (by simp only [maxLen]; omega) (by omega) (by simp; omega) ?_); intro g' c' w1 hown1 hmod1 _; have HM1 : Hid (Mod (blk a) wr w1) := ((Mod.ofBelow ((Below.refl wr.heap.size wr).alloc (Nat.le_refl _) _)).trans hmod1); have HO1 := Lib.hid hown1; have ho1 := HR.out.obj.mod HM1.out (HR.out.own.ne HR.out.obj (by decide)); have q0 := ho1.cell 0 _ rfl; have qf := ho1.free 0; have HOB := Lib.hid ho1; clear hown1 hmod1 ho1)
      have h1 : w.heap.size ∉ blk (some ⟨g', 0, none⟩) := HO1.out.ne HOB.out (by decide)
      have hb2 : Below w.heap.size w (w1.setCell ⟨w.heap.size, 0, none⟩ (.slice (some ⟨g', 0, none⟩) (k + 1) c')) := HB.out.trans ((HM1.out.below (B := w.heap.size) (fun j hj => (HR.out.own.ge j hj).1) hbz).setCell (p := ⟨w.heap.size, 0, none⟩) (Nat.le_refl _) _)
      have hr2 : RT (w1.setCell ⟨w.heap.size, 0, none⟩ (.slice (some ⟨g', 0, none⟩) (k + 1) c')) w.heap.size w.heap.size (some ⟨g', 0, none⟩) c' (fun _ => -1) (k + 1) := ⟨HOB.out.set 0 _, by rw [fC_succ]; exact HO1.out.upd (Upd.setCell w1 ⟨w.heap.size, 0, none⟩ _) h1⟩
      go_roundw
      case rel => exact ⟨k + 1, _, c', by omega, by go_num, hr2, hb2⟩
      case measure => simp [intOf]; omega
    · obtain rfl : k = N := by omega
      have d : decide ((k : Int) < (k : Int)) = false := by simp
      go_wp2_with fail
      go_ret2
      exact ⟨a, c, rfl, HR.out, HB.out⟩
theorem rnew_no (n : Int) (hn : n < 0 ∨ 64 < n) (w : World) : Calls Try.prog 63 #[.int .i64 n] w fun e w' => e = .returned (.tuple #[.pointer none, .int .i64 1]) ∧ w = w' := by
  by_cases h0 : n < 0
  · have e1 : decide (n < 0) = true := by simpa using h0
    clear hn
    go_enter Try.func63, Try.ntmps63
    go_wp2
    go_ret2
    exact ⟨rfl, rfl⟩
  · have e1 : decide (n < 0) = false := by simpa using h0
    have e2 : decide (64 < n) = true := by simp; omega
    clear hn
    go_enter Try.func63, Try.ntmps63
    go_wp2
    go_ret2
    exact ⟨rfl, rfl⟩
def RPost (B rr N : Nat) (a : Option Addr) (r : Value) (f : Nat → Int) (w : World) (e : Ending) (w' : World) : Prop :=
  ∃ a' c', e = .returned r ∧ RT w' B rr a' c' f N ∧ Mod (rr :: blk a) w w' ∧ ∀ k ∈ blk a', k ∈ blk a ∨ w.heap.size ≤ k
set_option maxHeartbeats 3200000 in
theorem rgive_any (B rr c N : Nat) (a : Option Addr) (R : List Rn) (x y z : Int) (w : World) (hok : Okr N R) (h : RT w B rr a c (ownV R) N) (hB : B ≤ w.heap.size) : Calls Try.prog 64 #[.pointer (some ⟨rr, 0, none⟩), .int .i64 x, .int .i64 y, .int .i64 z] w (RPost B rr N a (.int .i64 (giveV N R x y z).1) (ownV (giveV N R x y z).2) w) := by
  obtain ⟨i0, hi0, hz0, hz1, hz2⟩ := info_parts info_int
  have c0 := h.obj.cell 0 _ rfl
  have H := Lib.hid h
  have hn64 := hok.n64
  have hrr := h.obj.lt
  have HE : Hid (∀ r, RPost B rr N a r (ownV R) w (.returned r) w) := fun r => ⟨a, c, rfl, H.out, Mod.refl _ _, fun k hk => .inl hk⟩
  by_cases hw : wellG N x y z = true
  · obtain ⟨w1, w2, w3, w4, w5, w6⟩ := (wellG_iff _ _ _ _).1 hw
    obtain ⟨F, rfl⟩ := Int.eq_ofNat_of_zero_le w1
    obtain ⟨M, rfl⟩ := Int.eq_ofNat_of_zero_le (show 0 ≤ y by omega)
    obtain ⟨V, rfl⟩ := Int.eq_ofNat_of_zero_le w5
    have HG : Hid (giveV N R F M V = if (meetV F M R).2 then (5, R) else (0, addR R F M V)) := by rw [Hid, giveV, if_pos hw]; rfl
    have hM1 : 1 ≤ M := by omega
    have hFM : F + M ≤ N := by omega
    have e1 : decide ((F : Int) < 0) = false := by simp
    have e2 : decide ((M : Int) < 1) = false := by simp; omega
    have e3 : decide ((N : Int) < (F : Int)) = false := by simp; omega
    have e3' : decide (N < F) = false := by simp; omega
    have e4 : decide ((N : Int) - F < (M : Int)) = false := by simp; omega
    have e5 : decide ((V : Int) < 0) = false := by simp
    have e6 : decide ((64 : Int) ≤ (V : Int)) = false := by simp; omega
    have hwr : IntKind.i64.wrap ((N : Int) - F) = (N : Int) - F := IntWalk.i64_in _ (by omega)
    clear w1 w2 w3 w4 w5 w6 hw h
    cases hh : (meetV F M R).2
    · have HGV : Hid (giveV N R F M V = (0, addR R F M V)) := by rw [Hid, HG.out, hh]; rfl
      have HNO : Hid (∀ j, j < M → ownV R (F + j) < 0) := fun j hj => by
        by_cases h1 : 0 ≤ ownV R (F + j)
        · have := (meet_hit (f := F) hok hM1).2 ⟨F + j, by omega, by omega, h1⟩
          rw [hh] at this
          cases this
        · omega
      have HAD := Lib.hid (fun i => ownV_add (who := V) hok hM1 hh i)
      have HL : Hid ((fC (ownV R) N).length = N * 1) := by rw [Hid, fC_len, Nat.mul_one]
      have HEM := Lib.hid (own_empty w 3 1)
      clear hh HG HE
      go_enter Try.func64, Try.ntmps64
      go_wp2_with fail
      go_loopw [9] (fun i wr => ∃ k : Nat, k ≤ M ∧ i = .int .i64 k ∧ w = wr) (fun i _ => M - (intOf i).toNat)
      case atStart => exact ⟨0, Nat.zero_le _, rfl, rfl⟩
      case round =>
        obtain ⟨k, hk, rfl, rfl⟩ := hrel
        by_cases g : k < M
        · have d : decide ((k : Int) < (M : Int)) = true := by simp; omega
          obtain ⟨g', rfl, k0⟩ := H.out.at_ (F + k) (by omega)
          have hb0 : (0 : Int) ≤ (F : Int) + k := by omega
          have hb1 : (F : Int) + k < (N : Int) := by omega
          have hws : IntKind.i64.wrap ((F : Int) + k) = (F : Int) + k := IntWalk.i64_in _ (by omega)
          have hlo := HNO.out k g
          have d2 : decide (0 ≤ ownV R (F + k)) = false := by simp; omega
          generalize ownV R (F + k) = u at k0 d2
          clear hlo
          go_wp2_with fail
          go_roundw
          case rel => exact ⟨k + 1, by omega, by go_num, by first | rfl | trivial⟩
          case measure => simp [intOf]; omega
        · obtain rfl : k = M := by omega
          have d : decide ((k : Int) < (k : Int)) = false := by simp
          obtain ⟨g', rfl, _, hg'⟩ := H.out.own.at_ (by omega)
          have HN2 : Hid (∀ W, Below w.heap.size w W → ∀ j u, (fC (ownV R) N)[j]? = some u → W.cell? ((⟨g', 0, none⟩ : Addr).add j) = some u) := fun W hW j u hu => by
            have e : (⟨g', 0, none⟩ : Addr).add j = ⟨g', j, none⟩ := by unfold Addr.add; split <;> simp_all
            rw [e]; exact (hW.cell (p := ⟨g', j, none⟩) hg').trans (H.out.own.cell j u hu)
          go_wp2_with (at_builtin; (refine wpList_append_own_at _ rfl (.tmp 61) (.tmp 65) _ rfl w.heap.size 3 i0 _ 1 8 Try.underlying82 hi0 hz0 hz1 hz2 rfl (by omega) (.slice (some ⟨w.heap.size, 0, none⟩) 0 0) 0 [] rfl HEM.out ⟨g', 0, none⟩ N c (fC (ownV R) N) rfl HL.out (HN2.out _ ((Below.refl _ _).alloc (Nat.le_refl _) _)) (fC_one _ _) (by simp only [maxLen]; omega) (by omega) (by simp) ?_); intro v1 w1 hown1 hg1 hz hat1)
          obtain ⟨a4, c4, he4, hown4, hb4⟩ := clone_post (n := N) hown1 hg1
          cases he4
          have HO4 := Lib.hid hown4; have HB4 := Lib.hid hb4
          obtain ⟨g4, rfl, hg4, _⟩ := hown4.at_ (by omega)
          have hc4 := hown4.le
          clear hown1 hg1 hz hat1 hown4 hb4
          go_loopw [11] (fun i wr => ∃ j : Nat, j ≤ k ∧ i = .int .i64 j ∧ Own wr w.heap.size 3 1 (some ⟨g4, 0, none⟩) N c4 (fC (fun i => if F ≤ i ∧ i < F + j then (V : Int) else ownV R i) N) ∧ Below w.heap.size w wr) (fun i _ => k - (intOf i).toNat)
          case atStart => exact ⟨0, Nat.zero_le _, rfl, by rw [fC_congr (g := ownV R) (fun i _ => if_neg (by omega))]; exact HO4.out, HB4.out⟩
          case round =>
            clear HO4 HB4
            obtain ⟨j, hj, rfl, ho, hb⟩ := hrel
            have HO := Lib.hid ho; have HB := Lib.hid hb
            clear ho hb
            by_cases gj : j < k
            · have dj : decide ((j : Int) < (k : Int)) = true := by simp; omega
              have k0 := HO.out.cell (F + j) _ (fC_get _ (by omega))
              have kf := HO.out.free (F + j)
              have hb0 : (0 : Int) ≤ (F : Int) + j := by omega
              have hb1 : (F : Int) + j < (N : Int) := by omega
              have hws : IntKind.i64.wrap ((F : Int) + j) = (F : Int) + j := IntWalk.i64_in _ (by omega)
              have hs := Own.put HO.out (j := F + j) (by omega) (.int .i64 (V : Int))
              rw [fC_set, fC_congr (g := fun i => if F ≤ i ∧ i < F + (j + 1) then (V : Int) else ownV R i) (fun i hi => by
                by_cases h1 : i = F + j
                · rw [if_pos h1, if_pos (by omega)]
                · rw [if_neg h1]
                  by_cases h2 : F ≤ i ∧ i < F + j
                  · rw [if_pos h2, if_pos (by omega)]
                  · rw [if_neg h2, if_neg (by omega)])] at hs
              have hb2 := HB.out.setCell (p := ⟨g4, F + j, none⟩) hg4 (.int .i64 (V : Int))
              have HS := Lib.hid hs; have HB2 := Lib.hid hb2
              clear hs hb2
              generalize (if F ≤ F + j ∧ F + j < F + j then (V : Int) else ownV R (F + j)) = u at k0
              go_wp2_with fail
              go_roundw
              case rel => exact ⟨j + 1, by omega, by go_num, HS.out, HB2.out⟩
              case measure => simp [intOf]; omega
            · obtain rfl : j = k := by omega
              have dj : decide ((j : Int) < (j : Int)) = false := by simp
              have q0 := (HB.out.cell (p := ⟨rr, 0, none⟩) hrr).trans c0
              have ho := H.out.obj.below HB.out
              have qf := ho.free 0
              have hrn : rr ∉ blk (some ⟨g4, 0, none⟩) := fun hk => by have := (HO.out.ge rr hk).1; omega
              have HX : Hid (RPost B rr N (some ⟨g', 0, none⟩) (.int .i64 0) (ownV (addR R F j V)) w (.returned (.int .i64 0)) (wr.setCell ⟨rr, 0, none⟩ (.slice (some ⟨g4, 0, none⟩) N c4))) := by
                refine ⟨some ⟨g4, 0, none⟩, c4, rfl, ⟨ho.set 0 _, ?_⟩, (Mod.ofBelow HB.out).setCell ⟨rr, 0, none⟩ _ (.inl (by simp)), fun q hq => .inr ?_⟩
                · rw [fC_congr (g := fun i => if F ≤ i ∧ i < F + j then (V : Int) else ownV R i) (fun i _ => HAD.out i)]
                  exact (HO.out.mono hB).upd (Upd.setCell wr ⟨rr, 0, none⟩ _) hrn
                · exact (HO.out.ge q hq).1
              clear ho
              go_wp2_with fail
              go_ret
              rw [HGV.out]
              exact HX.out
    · have HGV : Hid (giveV N R F M V = (5, R)) := by rw [Hid, HG.out, hh]; rfl
      have HH := Lib.hid ((meet_hit hok hM1).1 hh)
      clear hh HG
      go_enter Try.func64, Try.ntmps64
      go_wp2_with fail
      go_loopw [9] (fun i wr => ∃ k : Nat, k ≤ M ∧ i = .int .i64 k ∧ w = wr ∧ ∀ j, j < k → ownV R (F + j) < 0) (fun i _ => M - (intOf i).toNat)
      case atStart => exact ⟨0, Nat.zero_le _, rfl, rfl, fun j hj => by omega⟩
      case round =>
        obtain ⟨k, hk, rfl, rfl, hlo⟩ := hrel
        have HLO := Lib.hid hlo
        clear hlo
        by_cases g : k < M
        · have d : decide ((k : Int) < (M : Int)) = true := by simp; omega
          obtain ⟨g', rfl, k0⟩ := H.out.at_ (F + k) (by omega)
          have hb0 : (0 : Int) ≤ (F : Int) + k := by omega
          have hb1 : (F : Int) + k < (N : Int) := by omega
          have hws : IntKind.i64.wrap ((F : Int) + k) = (F : Int) + k := IntWalk.i64_in _ (by omega)
          by_cases g2 : 0 ≤ ownV R (F + k)
          · have d2 : decide (0 ≤ ownV R (F + k)) = true := by simpa using g2
            generalize ownV R (F + k) = u at k0 d2
            clear g2 HLO HH
            go_wp2_with fail
            go_ret
            rw [HGV.out]
            exact HE.out _
          · have d2 : decide (0 ≤ ownV R (F + k)) = false := by simpa using g2
            have HL2 : Hid (∀ j, j < k + 1 → ownV R (F + j) < 0) := fun j hj => by
              rcases Nat.lt_or_ge j k with h | h
              · exact HLO.out j h
              · rw [show j = k by omega]; omega
            generalize ownV R (F + k) = u at k0 d2
            clear g2 HLO
            go_wp2_with fail
            go_roundw
            case rel => exact ⟨k + 1, by omega, by go_num, by first | rfl | trivial, HL2.out⟩
            case measure => simp [intOf]; omega
        · obtain rfl : k = M := by omega
          exfalso
          obtain ⟨i, h1, h2, h3⟩ := HH.out
          have := HLO.out (i - F) (by omega)
          rw [show F + (i - F) = i by omega] at this
          omega
  · have HG : Hid (giveV N R x y z = (1, R)) := by rw [Hid, giveV, if_neg hw]
    have hw' : ¬ (0 ≤ x ∧ 1 ≤ y ∧ x ≤ N ∧ y ≤ N - x ∧ 0 ≤ z ∧ z < 64) := fun hc => hw ((wellG_iff N x y z).2 hc)
    clear h hw
    by_cases g1 : x < 0
    · have e1 : decide (x < 0) = true := by simpa using g1
      clear hw'
      ((go_enter Try.func64, Try.ntmps64); (go_wp2_with fail); go_ret; (rw [HG.out]); exact HE.out _)
    · have e1 : decide (x < 0) = false := by simpa using g1
      by_cases g2 : y < 1
      · have e2 : decide (y < 1) = true := by simpa using g2
        clear hw'
        ((go_enter Try.func64, Try.ntmps64); (go_wp2_with fail); go_ret; (rw [HG.out]); exact HE.out _)
      · have e2 : decide (y < 1) = false := by simpa using g2
        by_cases g3 : (N : Int) < x
        · have e3 : decide ((N : Int) < x) = true := by simpa using g3
          clear hw'
          ((go_enter Try.func64, Try.ntmps64); (go_wp2_with fail); go_ret; (rw [HG.out]); exact HE.out _)
        · have e3 : decide ((N : Int) < x) = false := by simpa using g3
          have hwr : IntKind.i64.wrap ((N : Int) - x) = (N : Int) - x := IntWalk.i64_in _ (by omega)
          by_cases g4 : (N : Int) - x < y
          · have e4 : decide ((N : Int) - x < y) = true := by simpa using g4
            clear hw'
            ((go_enter Try.func64, Try.ntmps64); (go_wp2_with fail); go_ret; (rw [HG.out]); exact HE.out _)
          · have e4 : decide ((N : Int) - x < y) = false := by simpa using g4
            by_cases g5 : z < 0
            · have e5 : decide (z < 0) = true := by simpa using g5
              clear hw'
              ((go_enter Try.func64, Try.ntmps64); (go_wp2_with fail); go_ret; (rw [HG.out]); exact HE.out _)
            · have e5 : decide (z < 0) = false := by simpa using g5
              have e6 : decide ((64 : Int) ≤ z) = true := by simp; omega
              clear hw'
              ((go_enter Try.func64, Try.ntmps64); (go_wp2_with fail); go_ret; (rw [HG.out]); exact HE.out _)
end Go.Proofs.Ytmchaaelpbifgaa
