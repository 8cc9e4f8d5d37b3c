/- Package hermitageref24: the reference's disk. -/
import Derived.Test.YtlafijnmoaenaaaDRef2
namespace Go.Proofs.Ytlafijnmoaenaaa
set_option linter.unusedVariables false
set_option linter.unusedSimpArgs false
set_option linter.unnecessarySimpa false
open Go.RowKit Go.Sort
set_option maxHeartbeats 400000
set_option maxRecDepth 100000

/-- All sectors, one behind the other. -/
def big (f : Nat → List Int) : List Int := ((List.range 32).map f).flatten
theorem flat_get {N : Nat} {α : Type} : ∀ (rs : List (List α)) (i j : Nat), (∀ r ∈ rs, r.length = N) → (hi : i < rs.length) → j < N → rs.flatten[i * N + j]? = (rs[i])[j]?
  | [], _, _, _, hi, _ => absurd hi (by simp)
  | r :: rs, 0, j, h, _, hj => by
    have := h r (by simp)
    rw [List.flatten_cons, Nat.zero_mul, Nat.zero_add, List.getElem?_append_left (by omega)]
    rfl
  | r :: rs, i + 1, j, h, hi, hj => by
    have h0 := h r (by simp)
    rw [List.flatten_cons, List.getElem?_append_right (by rw [h0, Nat.add_mul]; omega), h0, show (i + 1) * N + j - N = i * N + j by rw [Nat.add_mul]; omega, flat_get rs i j (fun q hq => h q (by simp [hq])) (by simpa using hi) hj]
    rfl
theorem big_len {f : Nat → List Int} (hf : ∀ k, (f k).length = 16) : (big f).length = 512 := by
  unfold big
  rw [List.length_flatten, List.map_map, List.map_congr_left (g := fun _ => 16) (fun k _ => by exact hf k)]
  rfl
theorem big_get {f : Nat → List Int} (hf : ∀ k, (f k).length = 16) (k i : Nat) (hk : k < 32) (hi : i < 16) : (big f)[k * 16 + i]? = (f k)[i]? := by
  unfold big
  rw [flat_get _ k i (fun r hr => by obtain ⟨j, _, rfl⟩ := List.mem_map.1 hr; exact hf j) (by simpa using hk) hi]
  simp
theorem upd_len {f : Nat → List Int} (hf : ∀ k, (f k).length = 16) {k : Nat} {s : List Int} (hs : s.length = 16) : ∀ j, (upd f k s j).length = 16 := fun j => by unfold upd; split; exact hs; exact hf j
theorem big_set {f : Nat → List Int} (hf : ∀ k, (f k).length = 16) (k i : Nat) (hk : k < 32) (hi : i < 16) (x : Int) : (big f).set (k * 16 + i) x = big (upd f k ((f k).set i x)) := by
  have hf2 := upd_len hf (k := k) (s := (f k).set i x) (by rw [List.length_set]; exact hf k)
  apply List.ext_getElem?
  intro j
  rw [List.getElem?_set, big_len hf]
  by_cases hj : j < 512
  · have e : j = j / 16 * 16 + j % 16 := by omega
    have h1 := big_get hf2 (j / 16) (j % 16) (by omega) (by omega)
    have h2 := big_get hf (j / 16) (j % 16) (by omega) (by omega)
    rw [← e] at h1 h2
    rw [h1]
    unfold upd
    by_cases hq : j / 16 = k
    · rw [if_pos hq, List.getElem?_set, hf k]
      by_cases hr : i = j % 16
      · rw [if_pos (by omega), if_pos hr, if_pos (by omega), if_pos hi]
      · rw [if_neg (by omega), if_neg hr, h2, hq]
    · rw [if_neg hq, if_neg (by omega), h2]
  · have h1 : (big f)[j]? = none := List.getElem?_eq_none (by rw [big_len hf]; omega)
    have h2 : (big (upd f k ((f k).set i x)))[j]? = none := List.getElem?_eq_none (by rw [big_len hf2]; omega)
    rw [h1, h2]
    split
    · rw [if_neg (by omega)]
    · rfl
theorem bC_set (l : List Int) (i : Nat) (x : Int) : (bC l).set i (.int .u8 x) = bC (l.set i x) := by simp [bC, List.map_set]
/-- The reference's disk in memory. -/
structure RDS (w : World) (B rr : Nat) (ra : Option Addr) (rc : Nat) (l : List Rg) (tr : Nat) (ta : Option Addr) (tc : Nat) (R : List Rn) (f : Nat → List Int) : Prop where
  obj : ObjAt w rr 63 (.slice ra l.length rc :: .pointer (some ⟨tr, 0, none⟩) :: bC (big f))
  rows : Own w B 45 3 ra l.length rc (rgF l)
  t : RT w B tr ta tc (ownV R) 32
  ok : Okr 32 R
  own : ∀ r ∈ R, r.2.2 < l.length
  sec : ∀ k, (f k).length = 16
namespace RDS
variable {w w' : World} {B rr rc tr tc : Nat} {ra ta : Option Addr} {l : List Rg} {R : List Rn} {f : Nat → List Int}
theorem below (h : RDS w B rr ra rc l tr ta tc R f) (hb : Below w.heap.size w w') : RDS w' B rr ra rc l tr ta tc R f := ⟨h.obj.below hb, h.rows.below hb, h.t.below hb, h.ok, h.own, h.sec⟩
theorem cell (h : RDS w B rr ra rc l tr ta tc R f) (k i : Nat) (hk : k < 32) (hi : i < 16) : w.cell? ⟨rr, 2 + k * 16 + i, none⟩ = some (.int .u8 ((f k)[i]'(by rw [h.sec]; exact hi))) := by
  refine h.obj.cell _ _ ?_
  rw [show 2 + k * 16 + i = (k * 16 + i) + 1 + 1 by omega, List.getElem?_cons_succ, List.getElem?_cons_succ]
  simp only [bC, List.getElem?_map, big_get h.sec k i hk hi]
  rw [List.getElem?_eq_getElem (by rw [h.sec]; exact hi)]
  rfl
theorem put (h : RDS w B rr ra rc l tr ta tc R f) (k i : Nat) (hk : k < 32) (hi : i < 16) (x : Int) : RDS (w.setCell ⟨rr, 2 + k * 16 + i, none⟩ (.int .u8 x)) B rr ra rc l tr ta tc R (upd f k ((f k).set i x)) := by
  have hu := Upd.setCell w ⟨rr, 2 + k * 16 + i, none⟩ (.int .u8 x)
  refine ⟨?_, h.rows.upd hu (h.rows.ne h.obj (by decide)), ⟨h.t.obj.upd hu (fun e => h.t.obj.ne h.obj (by decide) e), h.t.own.upd hu (h.t.own.ne h.obj (by decide))⟩, h.ok, h.own, upd_len h.sec (by rw [List.length_set]; exact h.sec k)⟩
  have := h.obj.set (2 + k * 16 + i) (.int .u8 x)
  rw [show 2 + k * 16 + i = (k * 16 + i) + 1 + 1 by omega, List.set_cons_succ, List.set_cons_succ, bC_set, big_set h.sec k i hk hi] at this
  rw [show 2 + k * 16 + i = (k * 16 + i) + 1 + 1 by omega]
  exact this
end RDS
/-- Sector k half turned. -/
def midV (f : Nat → List Int) (k i : Nat) (s : List Int) : Nat → List Int := upd f k (s.take i ++ (f k).drop i)
theorem midV_zero (f : Nat → List Int) (k : Nat) (s : List Int) : midV f k 0 s = f := by
  funext j
  unfold midV upd
  split
  · rename_i h; simp [h]
  · rfl
theorem midV_all (f : Nat → List Int) (hf : ∀ k, (f k).length = 16) (k : Nat) (s : List Int) (hs : s.length = 16) : midV f k 16 s = upd f k s := by
  unfold midV
  rw [List.take_of_length_le (by omega), List.drop_of_length_le (by rw [hf]; exact Nat.le_refl _), List.append_nil]
theorem midV_succ (f : Nat → List Int) (hf : ∀ k, (f k).length = 16) (k i : Nat) (hi : i < 16) (s : List Int) (hs : s.length = 16) : upd (midV f k i s) k ((midV f k i s k).set i (s[i]'(by omega))) = midV f k (i + 1) s := by
  funext j
  unfold midV
  by_cases e : j = k
  · subst e
    simp only [upd, if_true]
    have h1 : (s.take i).length = i := by simp; omega
    rw [List.set_append_right _ _ (by omega), h1, Nat.sub_self, List.drop_eq_getElem_cons (by rw [hf]; exact hi), List.set_cons_zero, List.take_succ_eq_append_getElem (by omega), List.append_assoc]
    rfl
  · simp only [upd, if_neg e]
set_option maxHeartbeats 1600000 in
theorem rset_any (B rr rc tr tc : Nat) (ra ta : Option Addr) (l : List Rg) (R : List Rn) (f : Nat → List Int) (k : Nat) (hk : k < 32) (ba : Option Addr) (c : Nat) (s : List Int) (hs : s.length = 16) (w : World) (h : RDS w B rr ra rc l tr ta tc R f) (hr : Rd w 1 ba 16 (bC s)) (hd : rr ∉ blk ba) :
    Calls Try.prog 34 #[.pointer (some ⟨rr, 0, none⟩), .int .i64 k, .slice ba 16 c] w fun e w' => e = .returned (.tuple #[]) ∧ RDS w' B rr ra rc l tr ta tc R (upd f k s) ∧ Mod [rr] w w' := by
  obtain ⟨ad, rfl⟩ : ∃ ad, ba = some ad := Option.ne_none_iff_exists'.1 (fun h0 => by have := hr.2.1 h0; omega)
  obtain ⟨bb, bo, rfl, hbb, hrc⟩ := hr.2.2 ad rfl (by intro h0; have := bC_len s; rw [h0] at this; simp at this; omega)
  have hne : bb ≠ rr := fun e => hd (by rw [← e]; simp [blk])
  have hsec := h.sec
  have H := Lib.hid h
  have hrl := h.obj.lt
  have HC : Hid (∀ i (hi : i < 16), w.cell? ⟨bb, bo + i, none⟩ = some (.int .u8 (s[i]'(by omega)))) := fun i hi => hrc i _ (by simp [bC, hs, hi])
  have hk0 : (0 : Int) ≤ k := by omega
  have hk1 : (k : Int) < 32 := by omega
  have HMZ := Lib.hid (midV_zero f k s)
  have HMA := Lib.hid (midV_all f hsec k s hs)
  clear hr h hrc hd
  go_enter Try.func34, Try.ntmps34
  go_wp2_with fail
  go_loopw [6] (fun i wr => ∃ (j : Nat), j ≤ 16 ∧ i = .int .i64 j ∧ RDS wr B rr ra rc l tr ta tc R (midV f k j s) ∧ Mod [rr] w wr) (fun i _ => 16 - (intOf i).toNat)
  case atStart => exact ⟨0, Nat.zero_le _, rfl, by rw [HMZ.out]; exact H.out, Mod.refl _ _⟩
  case round =>
    clear H
    obtain ⟨j, hj, rfl, hd, hm⟩ := hrel
    have HD := Lib.hid hd; have HM := Lib.hid hm
    clear hd hm
    by_cases g : j < 16
    · have d1 : decide ((j : Int) < 16) = true := by simp; omega
      have hj0 : (0 : Int) ≤ j := by omega
      have hj1 : (j : Int) < 16 := by omega
      have k0 : wr.cell? ⟨bb, bo + j, none⟩ = some (.int .u8 (s[j]'(by omega))) := by
        rw [World.cell?_of_block (a := ⟨bb, bo + j, none⟩) (HM.out.block bb hbb (by simpa using hne))]
        exact HC.out j g
      have HS := Lib.hid (midV_succ f hsec k j g s hs)
      go_wp2_with fail
      refine wp_region_still_tail 11 (by kernel_rfl) (by kernel_rfl) ?_; simp only [List.take_succ_cons, List.take_zero, List.drop_succ_cons, List.drop_zero]; obtain ⟨W1, hW1⟩ : ∃ x, x = World.drew wr := ⟨_, rfl⟩; change wpStill _ _ (World.drew wr) (fun a' => wpList _ _ _ _ a' (World.drew wr)) _ _; rw [← hW1]
      have HD1 : Hid (RDS W1 B rr ra rc l tr ta tc R (midV f k j s)) := by rw [Hid, hW1]; exact HD.out.below ((Below.refl _ _).drew)
      have HM1 : Hid (Mod [rr] w W1) := by rw [Hid, hW1]; exact HM.out.drew
      have k1 : W1.cell? ⟨bb, bo + j, none⟩ = some (.int .u8 (s[j]'(by omega))) := by rw [hW1]; exact k0
      clear hW1 k0 HD HM
      have c0 := HD1.out.cell k j hk g
      have cf := HD1.out.obj.free (2 + k * 16 + j)
      have hput := HD1.out.put k j hk g (s[j]'(by omega))
      rw [HS.out] at hput
      have HP := Lib.hid hput
      clear hput
      generalize (s[j]'(by omega)) = x at k1 HP
      generalize ((midV f k j s k)[j]'(by rw [HD1.out.sec]; exact g)) = y at c0
      repeat still_step
      refine wpStill_nil ?_
      have HM2 : Hid (Mod [rr] w (W1.setCell ⟨rr, 2 + k * 16 + j, none⟩ (.int .u8 x))) := HM1.out.setCell ⟨rr, 2 + k * 16 + j, none⟩ _ (.inl (by simp))
      go_wp2_with fail
      go_roundw
      case rel => exact ⟨j + 1, by omega, by go_num, HP.out, HM2.out⟩
      case measure => simp [intOf]; omega
    · obtain rfl : j = 16 := by omega
      have d1 : decide (((16 : Nat) : Int) < 16) = false := by decide
      go_wp2_with fail
      go_end0
      exact ⟨rfl, by rw [← HMA.out]; exact HD.out, HM.out⟩
theorem rd_take (s : List Int) (k : Nat) (hk : k < s.length) : bC (s.take (k + 1)) = bC (s.take k) ++ [.int .u8 s[k]] := by
  unfold bC
  rw [List.take_succ_eq_append_getElem hk, List.map_append]
  rfl
set_option maxHeartbeats 1600000 in
theorem rbytes_any (B rr rc tr tc : Nat) (ra ta : Option Addr) (l : List Rg) (R : List Rn) (f : Nat → List Int) (at_ : Int) (w : World) (h : RDS w B rr ra rc l tr ta tc R f) :
    Calls Try.prog 19 #[.pointer (some ⟨rr, 0, none⟩), .int .i64 at_] w (BtPost w.heap.size (inD at_) (f at_.toNat) w) := by
  obtain ⟨i0, hi0, hz0, hz1, hz2⟩ := info_parts info_u8p
  by_cases h0 : at_ < 0
  · have e0 : decide (at_ < 0) = true := by simpa using h0
    have HV : Hid (inD at_ = false) := by simp [Hid, inD]; omega
    clear h h0
    go_enter Try.func19, Try.ntmps19
    go_wp2_with fail
    go_ret2
    rw [HV.out]
    exact ⟨none, 0, 0, rfl, by simp, Below.refl _ _⟩
  · have e0 : decide (at_ < 0) = false := by simpa using h0
    by_cases h1 : 32 ≤ at_
    · have e1 : decide (32 ≤ at_) = true := by simpa using h1
      have HV : Hid (inD at_ = false) := by simp [Hid, inD]; omega
      clear h h0 h1
      go_enter Try.func19, Try.ntmps19
      go_wp2_with fail
      go_ret2
      rw [HV.out]
      exact ⟨none, 0, 0, rfl, by simp, Below.refl _ _⟩
    · have HV : Hid (inD at_ = true) := by simp [Hid, inD]; omega
      obtain ⟨k, rfl⟩ := Int.eq_ofNat_of_zero_le (show 0 ≤ at_ by omega)
      have hk : k < 32 := by omega
      have e1 : decide ((32 : Int) ≤ (k : Int)) = false := by simp; omega
      have e1' : decide (32 ≤ k) = false := by simp; omega
      have hk0 : (0 : Int) ≤ k := by omega
      have hk1 : (k : Int) < 32 := by omega
      have H := Lib.hid h
      have h16 := h.sec k
      have hrl := h.obj.lt
      have HO0 : Hid (Own w w.heap.size 5 1 none 0 0 (bC ((f k).take 0))) := Own.nil _ _ _ _
      clear h h0 h1
      go_enter Try.func19, Try.ntmps19
      go_wp2_with fail
      go_loopw [6, 7] (fun o i wr => ∃ (j : Nat) (a : Option Addr) (c : Nat), j ≤ 16 ∧ i = .int .i64 j ∧ o = .slice a j c ∧ Own wr w.heap.size 5 1 a j c (bC ((f k).take j)) ∧ Below w.heap.size w wr) (fun o i _ => 16 - (intOf i).toNat)
      case atStart => exact ⟨0, none, 0, Nat.zero_le _, rfl, rfl, HO0.out, Below.refl _ _⟩
      case round =>
        clear HO0
        obtain ⟨j, a, c, hj, rfl, rfl, ho, hb⟩ := hrel
        have HO := Lib.hid ho; have HB := Lib.hid hb
        have hbz := hb.size
        clear ho hb
        by_cases g : j < 16
        · have d1 : decide ((j : Int) < 16) = true := by simp; omega
          have hj0 : (0 : Int) ≤ j := by omega
          have hj1 : (j : Int) < 16 := by omega
          have c0 := (H.out.below HB.out).cell k j hk g
          have HS := Lib.hid (rd_take (f k) j (by omega))
          generalize ((f k)[j]'(by omega)) = x at c0 HS
          go_wp2_with (at_builtin; (refine wpList_own rfl (.tmp 18) (.tmp 27) 22 rfl w.heap.size 5 i0 _ 1 1 Try.underlying22 hi0 hz0 hz1 hz2 rfl (by omega) a j c (bC ((f k).take j)) rfl (HO.out.below ((Below.refl _ _).alloc (Nat.le_refl _) _)) wr.heap.size [.int .u8 x] rfl (new_block _ _ _ rfl) rfl (by simp [Value.oneCell']) (by simp only [maxLen]; omega) (by omega) (by simp; omega) ?_); intro g' c' w3 hown3 hmod3 _; have HM3 : Hid (Mod (blk a) wr w3) := ((Mod.ofBelow ((Below.refl wr.heap.size wr).alloc (Nat.le_refl _) _)).trans hmod3); have HO3 := Lib.hid hown3; clear hown3 hmod3)
          have HB3 : Hid (Below w.heap.size w w3) := HB.out.trans (HM3.out.below (fun q hq => (HO.out.ge q hq).1) HB.out.size)
          have HO4 : Hid (Own w3 w.heap.size 5 1 (some ⟨g', 0, none⟩) (j + 1) c' (bC ((f k).take (j + 1)))) := by rw [Hid, HS.out]; exact HO3.out
          go_roundw
          case rel => exact ⟨j + 1, some ⟨g', 0, none⟩, c', by omega, by go_num, rfl, HO4.out, HB3.out⟩
          case measure => simp [intOf]; omega
        · obtain rfl : j = 16 := by omega
          have d1 : decide (((16 : Nat) : Int) < 16) = false := by decide
          have HF : Hid (BtPost w.heap.size true (f k) w (.returned (.tuple #[.slice a 16 c, .bool true])) wr) := by
            have := HO.out
            rw [List.take_of_length_le (by omega)] at this
            exact ⟨a, 16, c, rfl, by rw [if_pos rfl]; exact ⟨rfl, this⟩, HB.out⟩
          go_wp2_with fail
          go_ret2
          rw [HV.out]
          exact HF.out
end Go.Proofs.Ytlafijnmoaenaaa
