/- The walk of ports.New, and the law's awake. -/
import Derived.Test.YtpccllgbccccnaaPorts3
namespace Go.Proofs.Ytpccllgbccccnaa
set_option linter.unusedVariables false
set_option linter.unusedSimpArgs false
set_option linter.unnecessarySimpa false
open Go.RowKit Go.Sort
set_option maxHeartbeats 400000
set_option maxRecDepth 100000

theorem info_port : (Try.prog.info? 60).map (fun i => (i.zero, i.size, i.bytes)) = some (some (.agg #[.int .i64 0, .int .i64 0, .slice none 0 0]), 3, 40) := by kernel_rfl
/-- A port as the caller tells it. -/
abbrev Po := Int × Int
def poC (p : Po) : List Value := [.int .i64 p.1, .int .i64 p.2]
def poF (l : List Po) : List Value := (l.map poC).flatten
theorem poF_len (l : List Po) : (poF l).length = l.length * 2 := by
  rw [poF, flatten_len (N := 2) _ (by intro r hr; obtain ⟨x, _, rfl⟩ := List.mem_map.1 hr; rfl)]; simp
theorem poF_get (l : List Po) (k j : Nat) (hk : k < l.length) (hj : j < 2) : (poF l)[k * 2 + j]? = (poC l[k])[j]? := by
  rw [poF, flatten_get (N := 2) _ k j (by intro r hr; obtain ⟨x, _, rfl⟩ := List.mem_map.1 hr; rfl) (by simpa using hk) hj]; simp
def poV (p : Po) : PV := ⟨p.1, p.2, []⟩
theorem count_neg (l : Int) : (countI l < 0) ↔ isB l = false := by
  unfold countI
  cases isB l <;> simp
theorem ptF_snoc (ps : List Pt) (p : Pt) : ptF (ps ++ [p]) = ptF ps ++ ptC p := by simp [ptF]
theorem PSt.push {W w1 : World} {B pp cp g' cap' : Nat} {gp : Option Addr} {ps : List Pt} {n : Nat} (h : PSt W B pp gp cp ps) (hn : ps.length = n) (hl : ps.length < 8) {lab gst : Int}
    (hown : Own w1 B 60 3 (some ⟨g', 0, none⟩) (n + 1) cap' (ptF ps ++ [.int .i64 lab, .int .i64 gst, .slice none 0 0])) (hm : Mod (blk gp) W w1) : PSt (w1.setCell ⟨pp, 0, none⟩ (.slice (some ⟨g', 0, none⟩) (n + 1) cap')) B pp (some ⟨g', 0, none⟩) cap' (ps ++ [⟨lab, gst, none, 0, []⟩]) := by
  subst hn
  have ho1 := h.obj.mod hm (h.own.ne h.obj (by decide))
  refine ⟨by rw [List.length_append]; exact ho1.set 0 _, ?_, fun i hi => ?_, fun i j hi hj hij => ?_, by rw [List.length_append]; simp; omega, fun p hp => ?_⟩
  · rw [List.length_append, ptF_snoc]
    exact hown.upd (Upd.setCell w1 ⟨pp, 0, none⟩ _) (hown.ne ho1 (by decide))
  · rw [List.getElem_append]
    split
    · rename_i hi'
      have hr := (h.rows i hi').mod hm (fun k hk hk2 => h.own.apart (h.rows i hi') (by decide) k hk2 hk)
      exact hr.upd (Upd.setCell w1 ⟨pp, 0, none⟩ _) (hr.ne ho1 (by decide))
    · have : i - ps.length = 0 := by rw [List.length_append] at hi; simp at hi; omega
      simp only [this, List.getElem_cons_zero]
      exact Own.nil _ _ _ _
  · rw [List.getElem_append, List.getElem_append]
    split
    · split
      · exact h.sep i j _ _ hij
      · have : j - ps.length = 0 := by rw [List.length_append] at hj; simp at hj; omega
        simp only [this, List.getElem_cons_zero]
        exact (Sep.none_ _).symm
    · have : i - ps.length = 0 := by rw [List.length_append] at hi; simp at hi; omega
      simp only [this, List.getElem_cons_zero]
      exact Sep.none_ _
  · simp only [List.mem_append, List.mem_singleton] at hp
    rcases hp with hp | rfl
    · exact h.few p hp
    · simp
theorem PSt.mono {w : World} {B B' pp cp : Nat} {gp : Option Addr} {ps : List Pt} (h : PSt w B pp gp cp ps) (hB : B' ≤ B) : PSt w B' pp gp cp ps := ⟨h.obj, h.own.mono hB, fun i hi => (h.rows i hi).mono hB, h.sep, h.len, h.few⟩
def NewPost (B : Nat) (l : List Po) (w : World) (e : Ending) (w' : World) : Prop :=
  ∃ pp gp cp ps, e = .returned (.tuple #[.pointer (some ⟨pp, 0, none⟩), .int .i64 0]) ∧ PSt w' B pp gp cp ps ∧ viewP ps = l.map poV ∧ Below w.heap.size w w' ∧ w.heap.size ≤ pp
set_option maxHeartbeats 1600000 in
theorem new_any (B : Nat) (a : Option Addr) (c : Nat) (l : List Po) (w : World) (hr : Rd w 2 a l.length (poF l)) (hle : l.length ≤ c) (hc : c ≤ maxLen) (hl8 : l.length ≤ 8) (hB : B ≤ w.heap.size) (hok : ∀ x ∈ l, isB x.1 = true) :
    Calls Try.prog 13 #[.slice a l.length c] w (NewPost B l w) := by
  obtain ⟨i0, hi0, hz0, hz1, hz2⟩ := info_parts info_port
  unfold maxLen at hc
  have HR := Lib.hid hr; have HOK := Lib.hid hok
  clear hr hok
  go_enter Try.func13, Try.ntmps13
  go_wp2_with fail
  have hal : Below w.heap.size w (w.alloc (.cells #[.slice none 0 0, .bool true] 25)) := (Below.refl _ _).alloc (Nat.le_refl _) _
  have HP0 : Hid (PSt (w.alloc (.cells #[.slice none 0 0, .bool true] 25)) w.heap.size w.heap.size none 0 []) :=
    ⟨new_block w _ _ rfl, Own.nil _ _ _ _, fun i hi => absurd hi (by simp), fun i j hi => absurd hi (by simp), by simp, by simp⟩
  have HB0 := Lib.hid hal
  clear hal
  obtain ⟨pp, hpp⟩ : ∃ pp, pp = w.heap.size := ⟨_, rfl⟩
  have HP0 : Hid (PSt (w.alloc (.cells #[.slice none 0 0, .bool true] 25)) w.heap.size pp none 0 []) := by rw [Hid, hpp]; exact HP0.out
  have HPP : Hid (w.heap.size ≤ pp) := by rw [Hid, hpp]; exact Nat.le_refl _
  rw [← hpp]
  clear hpp
  go_loopw [14] (fun i wr => ∃ (k : Nat) (gp : Option Addr) (cp : Nat) (ps : List Pt), k ≤ l.length ∧ i = .int .i64 k ∧ ps.length = k ∧ viewP ps = (l.take k).map poV ∧ PSt wr w.heap.size pp gp cp ps ∧ Below w.heap.size w wr) (fun i _ => l.length - (intOf i).toNat)
  case atStart => exact ⟨0, none, 0, [], Nat.zero_le _, rfl, rfl, rfl, HP0.out, HB0.out⟩
  case round =>
    clear HP0 HB0
    obtain ⟨k, gp, cp, ps, hk, rfl, hpl, hvw, hp, hb⟩ := hrel
    have HP := Lib.hid hp; have HB := Lib.hid hb; have HV := Lib.hid hvw
    clear hp hb hvw
    by_cases hlt : k < l.length
    · have hne : poF l ≠ [] := by intro h0; have := poF_len l; rw [h0] at this; simp at this; omega
      have ha : a ≠ none := fun h0 => by have := HR.out.2.1 h0; omega
      obtain ⟨p, rfl⟩ := Option.ne_none_iff_exists'.1 ha
      obtain ⟨b0, o0, rfl, _, gc⟩ := (HR.out.below HB.out).2.2 p rfl hne
      have hx := HOK.out l[k] (List.getElem_mem hlt)
      have hxc := count_neg l[k].1
      rw [hx] at hxc
      have hrow : wr.rangeAt b0 (o0 + k * 2) (poC l[k]) := fun j v hv => by
        have hj : j < 2 := (List.getElem?_eq_some_iff.1 hv).1
        have := gc (k * 2 + j) v (by rw [poF_get l k j hlt hj]; exact hv)
        rwa [← Nat.add_assoc] at this
      have HT : Hid (l.take (k + 1) = l.take k ++ [l[k]]) := List.take_succ_eq_append_getElem hlt
      clear hne ha gc hx
      generalize l[k] = x at hxc hrow HT
      obtain ⟨lab, gst⟩ := x
      have hrow : wr.rangeAt b0 (o0 + k * 2) [.int .i64 lab, .int .i64 gst] := hrow
      have d1 : decide (countI lab < 0) = false := by
        have : ¬ countI lab < 0 := fun h => by simpa using hxc.1 h
        simpa using this
      clear hxc
      have k0 := hrow 0 _ rfl
      have k1 := hrow 1 _ rfl
      rw [Nat.add_zero] at k0
      clear hrow
      have hb0 : (0 : Int) ≤ k := by omega
      have hb1 : (k : Int) < (l.length : Int) := by omega
      go_wp2_with (go_at_call 28; refine (count_any _ _).mono ?_; rintro e w' ⟨rfl, rfl⟩)
      obtain ⟨W1, hW1⟩ : ∃ W, W = wr.alloc (.cells #[.int .i64 lab, .int .i64 gst] 37) := ⟨_, rfl⟩
      rw [← hW1]
      have hal : Below wr.heap.size wr W1 := by rw [hW1]; exact (Below.refl _ _).alloc (Nat.le_refl _) _
      have HP1 := Lib.hid (HP.out.below hal)
      have HB1 := Lib.hid (bmore HB.out hal)
      have HX : ObjAt W1 wr.heap.size 37 [.int .i64 lab, .int .i64 gst] := by rw [hW1]; exact new_block _ _ _ rfl
      have x0 := HX.cell 0 _ rfl
      have x1 := HX.cell 1 _ rfl
      have c0 := HP1.out.obj.cell 0 _ rfl
      have hlt0 := HP1.out.obj.lt
      have hBW : w.heap.size ≤ W1.heap.size := HB1.out.size
      have HO1 : Hid (Own W1 w.heap.size 60 3 gp k cp (ptF ps)) := by have := HP1.out.own; rw [hpl] at this; exact this
      have HAL : Hid (Below W1.heap.size W1 ((W1.alloc (.cells #[.int .i64 lab, .int .i64 gst, .slice none 0 0] 60)).drew)) := ((Below.refl _ _).alloc (Nat.le_refl _) _).drew
      clear hW1 hal k0 k1 HX HP HB d1
      go_region_law (refine step_own rfl (.tmp 26) (.tmp 29) 23 rfl w.heap.size 60 i0 _ 3 40 Try.underlying23 hi0 hz0 hz1 hz2 rfl (by omega) gp k cp (ptF ps) rfl (HO1.out.below HAL.out) W1.heap.size [.int .i64 lab, .int .i64 gst, .slice none 0 0] rfl (new_block _ _ _ rfl) rfl (by simp [Value.oneCell']) (by simp only [maxLen]; omega) (by omega) (by simp; omega) ?_; intro g' cap' w1 hown hmod hat; have h1 := (HP1.out.obj.below HAL.out).mod hmod (HP1.out.own.ne HP1.out.obj (by decide)); have d0 := h1.cell 0 _ rfl; have e0 := h1.free 0)
      all_goals
        have HP2 := Lib.hid ((HP1.out.below HAL.out).push (lab := lab) (gst := gst) hpl (by omega) hown hmod)
        have HB2 : Hid (Below w.heap.size w (w1.setCell ⟨pp, 0, none⟩ (.slice (some ⟨g', 0, none⟩) (k + 1) cap'))) :=
          bupd ((bmore HB1.out HAL.out).trans (hmod.below (fun k hk => (HP1.out.own.ge k hk).1) (by simp; omega))) (Upd.setCell w1 ⟨pp, 0, none⟩ _) HPP.out
        clear hown hmod hat x0 x1 c0
        go_wp2_with fail
        go_roundw
        case rel => exact ⟨k + 1, some ⟨g', 0, none⟩, cap', ps ++ [⟨lab, gst, none, 0, []⟩], by omega, by go_num, by simp [hpl], by rw [HT.out, List.map_append, ← HV.out]; simp [viewP, Pt.v, poV], HP2.out, HB2.out⟩
        case measure => simp [intOf]; omega
    · have hkl : k = l.length := by omega
      go_wp2_with fail
      go_ret2
      refine ⟨pp, gp, cp, ps, rfl, HP.out.mono hB, ?_, HB.out, HPP.out⟩
      rw [HV.out, hkl, List.take_length]
end Go.Proofs.Ytpccllgbccccnaa
