/- Package disk: New, Write. -/
import Derived.Test.YtlafijnmoaenaaaDisk4
namespace Go.Proofs.Ytlafijnmoaenaaa
set_option linter.unusedVariables false
set_option linter.unusedSimpArgs false
set_option linter.unnecessarySimpa false
open Go.RowKit Go.Sort
set_option maxHeartbeats 400000
set_option maxRecDepth 100000

theorem info_int : (Try.prog.info? 3).map (fun i => (i.zero, i.size, i.bytes)) = some (some (.int .i64 0), 1, 8) := by kernel_rfl
/-- A range that came in: its label, where it begins, how many. -/
abbrev Rg := Int × Int × Int
def rgC (p : Rg) : List Value := [.int .i64 p.1, .int .i64 p.2.1, .int .i64 p.2.2]
def rgF (l : List Rg) : List Value := (l.map rgC).flatten
theorem rgF_len (l : List Rg) : (rgF l).length = l.length * 3 := by
  rw [rgF, flatten_len (N := 3) _ (by intro r hr; obtain ⟨x, _, rfl⟩ := List.mem_map.1 hr; rfl)]; simp
theorem rgF_get (l : List Rg) (k j : Nat) (hk : k < l.length) (hj : j < 3) : (rgF l)[k * 3 + j]? = (rgC l[k])[j]? := by
  rw [rgF, flatten_get (N := 3) _ k j (by intro r hr; obtain ⟨x, _, rfl⟩ := List.mem_map.1 hr; rfl) (by simpa using hk) hj]; simp
theorem rg_at {w : World} {a : Option Addr} {l : List Rg} (h : Rd w 3 a l.length (rgF l)) (k : Nat) (hk : k < l.length) : ∃ b o, a = some ⟨b, o, none⟩ ∧ b < w.heap.size ∧ w.cell? ⟨b, o + k * 3, none⟩ = some (.int .i64 l[k].1) ∧ w.cell? ⟨b, o + k * 3 + 1, none⟩ = some (.int .i64 l[k].2.1) ∧ w.cell? ⟨b, o + k * 3 + 2, none⟩ = some (.int .i64 l[k].2.2) := by
  have hne : rgF l ≠ [] := by intro h0; have := rgF_len l; rw [h0] at this; simp at this; omega
  have ha : a ≠ none := fun h0 => by have := h.2.1 h0; omega
  obtain ⟨p, rfl⟩ := Option.ne_none_iff_exists'.1 ha
  obtain ⟨b, o, rfl, hb, h3⟩ := h.2.2 p rfl hne
  refine ⟨b, o, rfl, hb, ?_, ?_, ?_⟩
  · exact h3 (k * 3) _ (by have := rgF_get l k 0 hk (by omega); simpa [rgC] using this)
  · have := h3 (k * 3 + 1) (.int .i64 l[k].2.1) (by have := rgF_get l k 1 hk (by omega); simpa [rgC] using this)
    rwa [← Nat.add_assoc] at this
  · have := h3 (k * 3 + 2) (.int .i64 l[k].2.2) (by have := rgF_get l k 2 hk (by omega); simpa [rgC] using this)
    rwa [← Nat.add_assoc] at this
/-- The ranges' places, if they may be. -/
def newV : Nat → List Rn → List Rg → Option (List Rn)
  | _, R, [] => some R
  | i, R, x :: l => if isB x.1 && ((giveV 32 R x.2.1 x.2.2 i).1 == 0) then newV (i + 1) (giveV 32 R x.2.1 x.2.2 i).2 l else none
theorem giveV_mem {n : Nat} {R : List Rn} {x y : Int} {j : Nat} {r : Rn} (h : r ∈ (giveV n R x y j).2) : r ∈ R ∨ r.2.2 = j := by
  unfold giveV at h
  split at h
  · split at h
    · exact .inl h
    · simp only [addR, List.mem_append, List.mem_cons] at h
      rcases h with h | rfl | h
      · exact .inl (List.mem_of_mem_take h)
      · right; simp
      · exact .inl (List.mem_of_mem_drop h)
  · exact .inl h
theorem newV_own : ∀ (l : List Rg) (i : Nat) (R R' : List Rn), newV i R l = some R' → (∀ r ∈ R, r.2.2 < i) → ∀ r ∈ R', r.2.2 < i + l.length
  | [], i, R, R', h, h0 => by injection h with h; subst h; simpa using h0
  | x :: l, i, R, R', h, h0 => by
    unfold newV at h
    split at h
    · intro r hr
      have := newV_own l (i + 1) _ R' h (fun q hq => by
        rcases giveV_mem hq with h1 | h1
        · have := h0 q h1; omega
        · omega) r hr
      simp only [List.length_cons]
      omega
    · cases h
theorem own_sep {w : World} {B B' s s' n n' c c' : Nat} {e e' : TypeId} {a a' : Option Addr} {xs xs' : List Value} (h : Own w B e s a n c xs) (h' : Own w B' e' s' a' n' c' xs') (hne : e ≠ e') : ∀ k ∈ blk a, k ∉ blk a' := fun k hk hk' => by
  obtain ⟨p, rfl, rfl⟩ := mem_blk.1 hk
  obtain ⟨p', rfl, hp⟩ := mem_blk.1 hk'
  rcases h.2 with ⟨hv, _⟩ | ⟨g, _, cur, hv, _, hg, _⟩
  · cases hv
  · rcases h'.2 with ⟨hv', _⟩ | ⟨g', _, cur', hv', _, hg', _⟩
    · cases hv'
    · injection hv with h1; injection h1 with h1; subst h1
      injection hv' with h2; injection h2 with h2; subst h2
      dsimp only at hp
      subst hp
      rw [hg] at hg'
      injection hg' with h3
      injection h3 with _ h4
      exact hne h4
/-- A range given, and its label kept. -/
theorem DS.push {W w2 w2' w3 : World} {B dd tt cap cap' lc c' mb n g' : Nat} {a a' la : Option Addr} {R R' : List Rn} {lb : List Int} {f : Nat → List Int} {lab : Int} (h : DS W B dd tt a cap R la lc lb mb n f)
    (ht : TSt w2 B tt a' cap' 32 R') (hm : Mod (tt :: blk a) W w2) (hR : ∀ r ∈ R', r.2.2 < lb.length + 1) (hb : Below w2.heap.size w2 w2') (hown : Own w3 B 3 1 (some ⟨g', 0, none⟩) (lb.length + 1) c' (inC lb ++ [.int .i64 lab])) (hm3 : Mod (blk la) w2' w3) :
    DS (w3.setCell ⟨dd, 1, none⟩ (.slice (some ⟨g', 0, none⟩) (lb.length + 1) c')) B dd tt a' cap' R' (some ⟨g', 0, none⟩) c' (lb ++ [lab]) mb n f ∧ Mod (dd :: blk la) w2' (w3.setCell ⟨dd, 1, none⟩ (.slice (some ⟨g', 0, none⟩) (lb.length + 1) c')) := by
  have hd1 : dd ∉ tt :: blk a := fun hk => by
    rcases List.mem_cons.1 hk with e | hk
    · exact h.obj.ne h.t.obj (by decide) e
    · exact h.t.own.ne h.obj (by decide) hk
  have hl1 : ∀ k ∈ blk la, k ∉ tt :: blk a := fun k hk hk2 => by
    rcases List.mem_cons.1 hk2 with rfl | hk2
    · exact h.lab.ne h.t.obj (by decide) hk
    · exact own_sep h.lab h.t.own (by decide) k hk hk2
  have hm1 : mb ∉ tt :: blk a := fun hk => by
    rcases List.mem_cons.1 hk with e | hk
    · exact h.notMap h.t.obj.isC e.symm
    · exact h.notMap (h.t.own.isC mb hk) rfl
  have o2 := (h.obj.mod hm hd1).below hb
  have l2 := (h.lab.mod hm hl1).below hb
  have m2 := (h.m.mod hm hm1).below hb
  have t2 := ht.below hb
  have hd2 : dd ∉ blk la := l2.ne o2 (by decide)
  have o3 := o2.mod hm3 hd2
  have t3 := t2.mod hm3 (l2.ne t2.obj (by decide)) (fun k hk hk2 => own_sep l2 t2.own (by decide) k hk2 hk)
  have m3 := m2.mod hm3 (fun hk => by
    obtain ⟨o, h1, h2⟩ := m2.noCells
    obtain ⟨o', h3, h4⟩ := l2.isC mb hk
    rw [h1] at h3
    cases h3
    cases o with
    | cells cs t p => exact h2 cs t p rfl
    | _ => cases h4)
  have hg1 : dd ∉ blk (some ⟨g', 0, none⟩) := hown.ne o3 (by decide)
  have hu := Upd.setCell w3 ⟨dd, 1, none⟩ (.slice (some ⟨g', 0, none⟩) (lb.length + 1) c')
  have hdm : dd ≠ mb := by
    obtain ⟨o, h1, h2⟩ := m3.noCells
    intro e
    subst e
    rw [show w3.heap[dd]? = _ from o3] at h1
    cases h1
    exact h2 _ _ _ rfl
  refine ⟨⟨?_, ?_, ?_, ?_, by simpa using hR, h.sec, h.ge⟩, (hm3.mono (fun k _ hk => List.mem_cons_of_mem _ hk)).setCell ⟨dd, 1, none⟩ _ (.inl (by simp))⟩
  · rw [List.length_append]; exact o3.set 1 _
  · exact t3.mod (Mod.ofUpd hu) (by simpa using fun e => h.obj.ne h.t.obj (by decide) e.symm) (fun k hk => by
      have := t3.own.ne o3 (by decide)
      simp only [List.mem_singleton]
      rintro rfl
      exact this hk)
  · rw [List.length_append, show inC (lb ++ [lab]) = inC lb ++ [.int .i64 lab] by simp [inC]]
    exact hown.upd hu hg1
  · exact m3.mod (Mod.ofUpd hu) (by simpa using Ne.symm hdm)
theorem count_neg (l : Int) : (countI l < 0) ↔ isB l = false := by
  unfold countI
  cases isB l <;> simp
def NewPost (l : List Rg) (w : World) (e : Ending) (w' : World) : Prop :=
  (∃ R dd tt a cap la lc mb, newV 0 [] l = some R ∧ e = .returned (.tuple #[.pointer (some ⟨dd, 0, none⟩), .int .i64 0]) ∧ DS w' w.heap.size dd tt a cap R la lc (l.map (·.1)) mb 0 (fun _ => z16) ∧ Below w.heap.size w w' ∧ w.heap.size ≤ dd ∧ w.heap.size ≤ tt) ∨
  (newV 0 [] l = none ∧ e = .returned (.tuple #[.pointer none, .int .i64 14]) ∧ Below w.heap.size w w')
set_option maxHeartbeats 8000000 in
theorem dnew_any (ra : Option Addr) (rc : Nat) (l : List Rg) (w : World) (hr : Rd w 3 ra l.length (rgF l)) (hle : l.length ≤ rc) (hc : rc ≤ maxLen) (hl8 : l.length ≤ 8) :
    Calls Try.prog 12 #[.slice ra l.length rc] w (NewPost l w) := by
  obtain ⟨i0, hi0, hz0, hz1, hz2⟩ := info_parts info_int
  unfold maxLen at hc
  have HR := Lib.hid hr
  clear hr
  have d8 : decide ((8 : Int) < (l.length : Int)) = false := by simp; omega
  have d8' : decide (8 < l.length) = false := by simp; omega
  go_enter Try.func12, Try.ntmps12
  go_wp2_with fail
  refine (tnew_yes 32 (by omega) w).mono ?_; rintro e w1 ⟨rfl, ht1, hb1⟩
  have hz := ht1.obj.lt
  have hmkm := run_makeMap (P := Try.prog) 26 w1
  obtain ⟨W0, hW0⟩ : ∃ W0, W0 = (w1.alloc (.map #[] 0)).alloc (.cells #[.pointer (some ⟨w.heap.size, 0, none⟩), .slice none 0 0, .map (some w1.heap.size)] 28) := ⟨_, rfl⟩
  have hbM : Below w1.heap.size w1 (w1.alloc (.map #[] 0)) := (Below.refl _ _).alloc (Nat.le_refl _) _
  have hbD : Below (w1.heap.size + 1) (w1.alloc (.map #[] 0)) W0 := by rw [hW0]; exact (Below.refl _ _).alloc (by simp) _
  have hb0 : Below w.heap.size w W0 := bmore hb1 (hbM.trans (hbD.mono (Nat.le_succ _)))
  have hs : (w1.alloc (.map #[] 0)).heap.size = w1.heap.size + 1 := by simp
  have HD0 : Hid (DS W0 w.heap.size (w1.heap.size + 1) w.heap.size none 0 [] none 0 [] w1.heap.size 0 (fun _ => z16)) := by
    refine ⟨?_, ht1.below (hbM.trans (hbD.mono (Nat.le_succ _))), Own.nil _ _ _ _, (MapF.made w1).below (by rw [hs]; exact hbD), by simp, fun _ => rfl, hb1.size⟩
    rw [hW0, ← hs]
    exact ObjAt.new _ 28 [.pointer (some ⟨w.heap.size, 0, none⟩), .slice none 0 0, .map (some w1.heap.size)]
  have HB0 := Lib.hid hb0
  obtain ⟨tt, htt⟩ : ∃ tt, tt = w.heap.size := ⟨_, rfl⟩
  obtain ⟨mb, hmb⟩ : ∃ mb, mb = w1.heap.size := ⟨_, rfl⟩
  obtain ⟨dd, hdd⟩ : ∃ dd, dd = mb + 1 := ⟨_, rfl⟩
  have HD0 : Hid (DS W0 w.heap.size dd tt none 0 [] none 0 [] mb 0 (fun _ => z16)) := by rw [Hid, hdd, htt, hmb]; exact HD0.out
  have HGE : Hid (w.heap.size ≤ dd ∧ w.heap.size ≤ tt) := ⟨by omega, by omega⟩
  clear ht1 hb1 hbM hbD hb0 hs
  go_wp2_with fail
  rw [← hW0]
  rw [← hmb, ← htt, ← hdd]
  clear hW0 htt hmb hdd hz
  clear hmkm
  go_loopw [7, 8, 22] (fun _ _ i wr => ∃ (j : Nat) (a : Option Addr) (cap : Nat) (R : List Rn) (la : Option Addr) (lc : Nat), j ≤ l.length ∧ i = .int .i64 j ∧ DS wr w.heap.size dd tt a cap R la lc ((l.take j).map (·.1)) mb 0 (fun _ => z16) ∧ Below w.heap.size w wr ∧ newV 0 [] l = newV j R (l.drop j)) (fun _ _ i _ => l.length - (intOf i).toNat)
  case atStart => exact ⟨0, none, 0, [], none, 0, Nat.zero_le _, rfl, by simpa using HD0.out, HB0.out, by simp⟩
  case round =>
    clear HD0 HB0
    obtain ⟨j, a, cap, R, la, lc, hj, rfl, hds, hb, hnew⟩ := hrel
    have HD := Lib.hid hds; have HB := Lib.hid hb; have HNW := Lib.hid hnew
    clear hds hb hnew
    by_cases hlt : j < l.length
    · have hd0 : decide ((j : Int) < (l.length : Int)) = true := by simp; omega
      obtain ⟨b0, o0, rfl, hb0w, k0, k1, k2⟩ := rg_at (HR.out.below HB.out) j hlt
      have hdr : l.drop j = l[j] :: l.drop (j + 1) := List.drop_eq_getElem_cons hlt
      have HNX : Hid (newV 0 [] l = if isB l[j].1 && ((giveV 32 R l[j].2.1 l[j].2.2 j).1 == 0) then newV (j + 1) (giveV 32 R l[j].2.1 l[j].2.2 j).2 (l.drop (j + 1)) else none) := by rw [Hid, HNW.out, hdr]; rfl
      have HT : Hid ((l.take (j + 1)).map (·.1) = (l.take j).map (·.1) ++ [l[j].1]) := by rw [Hid, List.take_succ_eq_append_getElem hlt, List.map_append]; rfl
      have hll : ((l.take j).map (·.1)).length = j := by simp; omega
      have hxc := count_neg l[j].1
      clear hdr
      generalize l[j] = x at *
      obtain ⟨lab, fr, nn⟩ := x
      dsimp only at k0 k1 k2 hxc HNX HT
      generalize (l.take j).map (·.1) = lb at *
      have hj0 : (0 : Int) ≤ j := by omega
      have hj1 : (j : Int) < (l.length : Int) := by omega
      have hj2 : j < l.length := hlt
      cases hib : isB lab
      · have hneg : countI lab < 0 := hxc.2 hib
        have d1 : decide (countI lab < 0) = true := by simpa using hneg
        have HN : Hid (newV 0 [] l = none) := by rw [Hid, HNX.out, hib]; rfl
        clear hxc hib hneg
        go_wp2_with (go_at_call 28; refine (count_any _ _).mono ?_; rintro e w' ⟨rfl, rfl⟩)
        go_ret2
        exact .inr ⟨HN.out, rfl, HB.out.alloc HB.out.size _⟩
      · have d1 : decide (countI lab < 0) = false := by
          have : ¬ countI lab < 0 := fun h => by have := hxc.1 h; rw [hib] at this; cases this
          simpa using this
        rw [hib] at HNX
        clear hxc hib
        obtain ⟨W1, hW1⟩ : ∃ W, W = wr.alloc (.cells #[.int .i64 lab, .int .i64 fr, .int .i64 nn] 45) := ⟨_, rfl⟩
        have hal : Below wr.heap.size wr W1 := by rw [hW1]; exact (Below.refl _ _).alloc (Nat.le_refl _) _
        have HD1 := Lib.hid (HD.out.below hal)
        have HB1 := Lib.hid (bmore HB.out hal)
        have HX : Hid (ObjAt W1 wr.heap.size 45 [.int .i64 lab, .int .i64 fr, .int .i64 nn]) := by rw [Hid, hW1]; exact new_block _ _ _ rfl
        clear hal HD HB
        go_wp2_with (go_at_call 28; refine (count_any _ _).mono ?_; rintro e w' ⟨rfl, rfl⟩)
        rw [← hW1]
        clear hW1
        obtain ⟨gr, R2, hgv⟩ : ∃ gr R2, giveV 32 R fr nn j = (gr, R2) := ⟨_, _, rfl⟩
        have hmem : ∀ r ∈ R2, r.2.2 < lb.length + 1 := fun r hr => by
          have h1 : r ∈ (giveV 32 R fr nn j).2 := by rw [hgv]; exact hr
          rcases giveV_mem h1 with h2 | h2
          · have := HD1.out.own r h2; omega
          · omega
        refine (give_any _ _ _ _ _ _ fr nn j _ HD1.out.t HB1.out.size).mono ?_; rw [hgv]; rintro e w2 ⟨a', cap', rfl, ht2, hm2, hat2⟩
        rw [hgv] at HNX
        by_cases hg0 : gr = 0
        · subst hg0
          have hd1 : dd ∉ tt :: blk a := fun hk => by
            rcases List.mem_cons.1 hk with e | hk
            · exact HD1.out.obj.ne HD1.out.t.obj (by decide) e
            · exact HD1.out.t.own.ne HD1.out.obj (by decide) hk
          have hx1 : wr.heap.size ∉ tt :: blk a := fun hk => by
            rcases List.mem_cons.1 hk with e | hk
            · exact HX.out.ne HD1.out.t.obj (by decide) e
            · exact HD1.out.t.own.ne HX.out (by decide) hk
          have hl1 : ∀ k ∈ blk la, k ∉ tt :: blk a := fun k hk hk2 => by
            rcases List.mem_cons.1 hk2 with rfl | hk2
            · exact HD1.out.lab.ne HD1.out.t.obj (by decide) hk
            · exact own_sep HD1.out.lab HD1.out.t.own (by decide) k hk hk2
          have o2 := HD1.out.obj.mod hm2 hd1
          have x2 := HX.out.mod hm2 hx1
          have l2 := HD1.out.lab.mod hm2 hl1
          rw [hll] at o2 l2
          have c1 := o2.cell 1 _ rfl
          have x0 := x2.cell 0 _ rfl
          have hlt0 := o2.lt
          have hlx := x2.lt
          have HB2 : Hid (Below w.heap.size w w2) := HB1.out.trans (hm2.below (fun k hk => by
            rcases List.mem_cons.1 hk with rfl | hk
            · exact HGE.out.2
            · exact (HD1.out.t.own.ge k hk).1) HB1.out.size)
          have hBW := HB2.out.size
          have HAL : Hid (Below w2.heap.size w2 ((w2.alloc (.cells #[.int .i64 lab] 3)).drew)) := ((Below.refl _ _).alloc (Nat.le_refl _) _).drew
          have HO2 := Lib.hid o2; have HL2 := Lib.hid l2; have HT2 := Lib.hid ht2; have HM2 := Lib.hid hm2; have HME := Lib.hid hmem
          have HN2 : Hid (newV 0 [] l = newV (j + 1) R2 (l.drop (j + 1))) := by rw [Hid, HNX.out]; rfl
          have HLL := Lib.hid hll
          clear hd1 hx1 hl1 o2 x2 l2 ht2 hm2 hat2 hmem hgv HNX hll k0 k1 k2 HX
          go_wp2_with fail
          go_region_law (refine step_own rfl (.tmp 45) (.tmp 48) 25 rfl w.heap.size 3 i0 _ 1 8 Try.underlying25 hi0 hz0 hz1 hz2 rfl (by omega) la j lc (inC lb) rfl (HL2.out.below HAL.out) w2.heap.size [.int .i64 lab] rfl (new_block _ _ _ rfl) rfl (by simp [Value.oneCell']) (by simp only [maxLen]; omega) (by omega) (by simp; omega) ?_; intro g' cap2 w3 hown hmod hat; have h1 := (HO2.out.below HAL.out).mod hmod (HL2.out.ne HO2.out (by decide)); have d0 := h1.cell 1 _ rfl; have e0 := h1.free 1)
          all_goals
            have hpush := HD1.out.push (lab := lab) HT2.out HM2.out HME.out HAL.out (g' := g') (c' := cap2) (by rw [HLL.out]; exact hown) hmod
            rw [HLL.out] at hpush
            have HP := Lib.hid hpush.1
            have HB3 : Hid (Below w.heap.size w (w3.setCell ⟨dd, 1, none⟩ (.slice (some ⟨g', 0, none⟩) (j + 1) cap2))) := (bmore HB2.out HAL.out).trans (hpush.2.below (fun k hk => by
              rcases List.mem_cons.1 hk with rfl | hk
              · exact HGE.out.1
              · exact (HL2.out.ge k hk).1) (by simp; omega))
            clear hown hmod hat x0 c1 hpush h1
            go_wp2_with fail
            go_roundw
            case rel => exact ⟨j + 1, a', cap', R2, some ⟨g', 0, none⟩, cap2, by omega, by go_num, by rw [HT.out]; exact HP.out, HB3.out, HN2.out⟩
            case measure => simp [intOf]; omega
        · have hne : (gr != 0) = true := by simpa using hg0
          have hne2 : (gr == 0) = false := by simpa using hg0
          have HN : Hid (newV 0 [] l = none) := by rw [Hid, HNX.out, hne2]; rfl
          have HB2 : Hid (Below w.heap.size w w2) := HB1.out.trans (hm2.below (fun k hk => by
            rcases List.mem_cons.1 hk with rfl | hk
            · exact HGE.out.2
            · exact (HD1.out.t.own.ge k hk).1) HB1.out.size)
          clear hg0 hne2 HNX ht2 hm2 hat2 hmem hgv
          go_wp2_with fail
          go_ret2
          exact .inr ⟨HN.out, rfl, HB2.out⟩
    · obtain rfl : j = l.length := by omega
      have hd0 : decide ((l.length : Int) < (l.length : Int)) = false := by simp
      have HF : Hid (NewPost l w (.returned (.tuple #[.pointer (some ⟨dd, 0, none⟩), .int .i64 0])) wr) := by
        refine .inl ⟨R, dd, tt, a, cap, la, lc, mb, by rw [HNW.out, List.drop_length]; rfl, rfl, ?_, HB.out, HGE.out⟩
        have := HD.out
        rwa [List.take_length] at this
      go_wp2_with fail
      go_ret2
      exact HF.out
end Go.Proofs.Ytlafijnmoaenaaa
