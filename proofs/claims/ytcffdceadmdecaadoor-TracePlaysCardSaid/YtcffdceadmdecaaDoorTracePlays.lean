/- The walk of the law TracePlays. -/
import Derived.Test.YtcffdceadmdecaaDoorTr3
import Derived.Test.YtcffdceadmdecaaDoorBits
namespace Go.Proofs.YtcffdceadmdecaaDoor
set_option linter.unusedVariables false
set_option linter.unusedSimpArgs false
set_option linter.unnecessarySimpa false
open Go.RowKit Go.Sort
set_option maxHeartbeats 4000000
set_option maxRecDepth 100000
set_option linter.unusedVariables false

structure TP (w W : World) (a : Option Addr) (c : Nat) (l : List Ev) : Prop where
  tr : TrO W w.heap.size w.heap.size a c l
  bel : Below w.heap.size w W
  big : w.heap.size < W.heap.size
theorem TP.of_below {w W W' : World} {a : Option Addr} {c : Nat} {l : List Ev} (h : TP w W a c l) (hb : Below W.heap.size W W') : TP w W' a c l :=
  ⟨h.tr.below hb, h.bel.trans (hb.mono h.bel.size), Nat.lt_of_lt_of_le h.big hb.size⟩
theorem tp_add {w W : World} {a : Option Addr} {c : Nat} {l : List Ev} (x : Ev) (ok : x.Ok) (h : TP w W a c l) (hl : l.length < 4096) : Calls Tryd.prog 13 #[.pointer (some ⟨w.heap.size, 0, none⟩), .agg x.cells.toArray] W fun r W' => r = .returned (.int .i64 0) ∧ ∃ a' c', TP w W' a' c' (l ++ [x]) :=
  (add_any _ _ a c l x ok W h.tr (Nat.le_of_lt h.big)).mono fun r W' hp => by
    rcases hp with ⟨h1, h2, a', c', ht, hm, _⟩ | ⟨h1, _, _⟩
    · refine ⟨h2, a', c', ht, h.bel.trans (hm.below (fun k hk => ?_) h.bel.size), Nat.lt_of_lt_of_le h.big hm.size⟩
      rcases List.mem_cons.1 hk with rfl | hk
      · exact Nat.le_refl _
      · exact (h.tr.own.ge k hk).1
    · omega
theorem tp_len {w W : World} {a : Option Addr} {c : Nat} {l : List Ev} (k : Nat) (h : TP w W a c l) (hk : l.length = k + 1) : Calls Tryd.prog 14 #[.pointer (some ⟨w.heap.size, 0, none⟩)] W fun x W' => x = .returned (.int .i64 ((k : Int) + 1)) ∧ W = W' :=
  (len_any _ _ a c l W h.tr).mono fun x W' ⟨h1, h2⟩ => ⟨by rw [h1, hk]; rw [Int.natCast_add]; rfl, h2⟩
def Part (w W : World) (a : Option Addr) (c : Nat) (l : List Ev) (f m : Nat) (r : Ending) (W' : World) : Prop :=
  ∃ a' c', r = .returned (.slice a' m c') ∧ Rd W' 21 a' m (evF (l.drop f)) ∧ TP w W' a c l
theorem tp_all {w W : World} {a : Option Addr} {c : Nat} {l : List Ev} (m : Nat) (h : TP w W a c l) (hk : l.length = m) (hn : m ≤ 4096) : Calls Tryd.prog 15 #[.pointer (some ⟨w.heap.size, 0, none⟩)] W (Part w W a c l 0 m) :=
  (all_any _ _ a c l W h.tr (by omega)).mono fun x W' ⟨a', c', h1, h2, h3⟩ => by
    rw [Nat.sub_zero, hk] at h1 h2
    exact ⟨a', c', h1, h2.rd, h.of_below h3⟩
theorem tp_from {w W : World} {a : Option Addr} {c : Nat} {l : List Ev} (n : Int) (f m : Nat) (h : TP w W a c l) (hf : fromL n l.length = f) (hk : l.length - f = m) (hn : l.length ≤ 4096) : Calls Tryd.prog 17 #[.pointer (some ⟨w.heap.size, 0, none⟩), .int .i64 n] W (Part w W a c l f m) :=
  (from_any _ _ a c l n W h.tr hn).mono fun x W' ⟨a', c', h1, h2, h3⟩ => by
    rw [hf, hk] at h1 h2
    exact ⟨a', c', h1, h2.rd, h.of_below h3⟩
theorem tp_same {w W : World} {a a1 a2 : Option Addr} {c c1 c2 : Nat} {l x : List Ev} (m : Nat) (hm : x.length = m) (h : TP w W a c l) (h1 : Rd W 21 a1 m (evF x)) (h2 : Rd W 21 a2 m (evF x)) (ox : Oks x) (hn : m ≤ 4096) :
    Calls Tryd.prog 11 #[.slice a1 m c1, .slice a2 m c2] W fun r W' => r = .returned (.bool true) ∧ TP w W' a c l := by
  subst hm
  exact (rsame_any a1 a2 c1 c2 x x W h1 h2 ox ox (by omega) (by omega)).mono fun r W' ⟨q1, q2⟩ => ⟨by rw [q1]; simp, h.of_below q2⟩
theorem rd_take {w : World} {a : Option Addr} {l : List Ev} (h : RdE w a l) (oks : Oks l) (m : Nat) (hm : m ≤ l.length) (hp : 0 < m) : Rd w 21 a m (evF (l.take m)) := by
  have ht : evF (l.take m) = (evF l).take (m * 21) := by
    have e1 : evF l = evF (l.take m) ++ evF (l.drop m) := by
      unfold evF; rw [← List.flatten_append, ← List.map_append, List.take_append_drop]
    have e2 := evF_len (l.take m) (fun x hx => oks x (List.mem_of_mem_take hx))
    rw [List.length_take_of_le hm] at e2
    conv => rhs; rw [e1, List.take_append_of_le_length (by omega), List.take_of_length_le (by omega)]
  have hl := evF_len l oks
  refine ⟨by rw [ht, List.length_take, hl, Nat.min_eq_left (Nat.mul_le_mul_right 21 hm)], fun h0 => ?_, fun p hp' hx => ?_⟩
  · have := h.2.1 h0; omega
  · obtain ⟨b, o, e, hb, hc⟩ := h.2.2 p hp' (by intro h0; rw [h0] at hl; simp at hl; omega)
    refine ⟨b, o, e, hb, fun j u hu => hc j u ?_⟩
    rw [ht, List.getElem?_take] at hu
    split at hu
    · exact hu
    · cases hu

theorem rowI_cell {w : World} {a : Option Addr} {c : Nat} {ns : List Int} (h : RowI w .i64 (.slice a ns.length c) ns) (k : Nat) (hk : k < ns.length) : ∃ b o, a = some ⟨b, o, none⟩ ∧ ∀ W, Below w.heap.size w W → W.cell? ⟨b, o + k, none⟩ = some (.int .i64 ns[k]) := by
  obtain ⟨a', c', e, _, _, h3⟩ := h
  injection e with e1 _ e2
  subst e1
  obtain ⟨b, o, rfl, hc⟩ := h3 (by intro h0; rw [h0] at hk; simp at hk)
  refine ⟨b, o, rfl, fun W hb => ?_⟩
  have := hc k hk
  rw [hb.cell (p := ⟨b, o + k, none⟩) (World.block_lt_of_cell? w ⟨b, o + k, none⟩ this)]
  exact this
theorem rd_cut {w : World} {a : Option Addr} {m : Nat} {x : List Ev} (h : Rd w 21 a m (evF x)) (ox : Oks x) (f c : Nat) (hf : f ≤ m) (hm : m ≤ c) : Rd w 21 (if c = f then a else a.map (·.add (f * 21))) (m - f) (evF (x.drop f)) := by
  have := h.cut (k := f) (c := c) hf hm
  rw [evF_drop x f ox] at this
  exact this

theorem plays_walk (v1 : Value) (a0 : Option Addr) (c0 : Nat) (l : List Ev) (ns : List Int) (w : World) (hc : l.length ≤ c0) (hc0 : c0 ≤ maxLen) (h0 : RdE w a0 l) (o0 : Oks l) (h1 : RowI w .i64 v1 ns) (hW : WordsIs w) (hP : PowIs w) :
    Calls Tryd.prog 5 #[.slice a0 l.length c0, v1] w fun x w' => x = .returned (.bool true) ∧ Below w.heap.size w w' := by
  obtain ⟨a1, c1, rfl⟩ := h1.form
  have hl0 : l.length ≤ 9223372036854775807 := by unfold maxLen at hc0; omega
  have hl1 : ns.length ≤ 9223372036854775807 := by obtain ⟨_, _, e, q1, q2, _⟩ := h1; unfold maxLen at q2; omega
  have H0 := Lib.hid h0; have H1 := Lib.hid h1; have O0 := Lib.hid o0
  have HW := Lib.hid hW; have HP := Lib.hid hP
  have HC := Lib.hid hc; have HC0 := Lib.hid hc0
  clear h0 h1 o0 hW hP hc hc0
  have CN : Hid (Calls Tryd.prog 12 #[] w fun x W' => x = .returned (.pointer (some ⟨w.heap.size, 0, none⟩)) ∧ TP w W' none 0 []) := (new_any w).mono fun x W' ⟨h1, h2, h3⟩ => ⟨h1, h2, h3, h2.obj.lt⟩
  have FW : Hid (∀ W a c x, TP w W a c x → Calls Tryd.prog 8 #[] W fun r W' => r = .returned (.bool true) ∧ Below w.heap.size w W') := fun W a c x ht => (awake_any W (HW.out.below ht.bel) (HP.out.below ht.bel)).mono fun r W' ⟨q1, q2⟩ => ⟨q1, ht.bel.trans (q2.mono ht.bel.size)⟩
  go_enter Tryd.func5, Tryd.ntmps5
  go_wp2_with (go_at_call 12; refine CN.out.mono ?_; rintro x W3 ⟨rfl, h3⟩)
  go_loopw [6] (fun i wr => ∃ (k : Nat) (a : Option Addr) (c : Nat), k ≤ l.length ∧ k ≤ 60 ∧ i = .int .i64 k ∧ TP w wr a c (l.take k)) (fun i _ => 60 - (intOf i).toNat)
  case atStart => exact ⟨0, none, 0, by omega, by omega, rfl, h3⟩
  case round =>
    clear CN h3
    obtain ⟨k, a, c, hk, hk6, rfl, h⟩ := hrel
    have H := Lib.hid h
    clear h
    by_cases hkl : k < l.length
    · have d1 : decide ((k : Int) < (l.length : Int)) = true := by simp; omega
      by_cases hk60 : k < 60
      · have d2 : decide ((k : Int) < 60) = true := by simp; omega
        have i1 : (0 : Int) ≤ (k : Int) := by omega
        have i2 : (k : Int) < (l.length : Int) := by omega
        have i3 : (0 : Int) ≤ (k : Int) + 1 := by omega
        have w1 : IntKind.i64.wrap ((k : Int) + 1) = (k : Int) + 1 := by rw [IntKind.wrap_i64]; omega
        obtain ⟨b0, s0, rfl, hrow⟩ := H0.out.ev O0.out k hkl
        have HROW := Lib.hid hrow
        have OE : Hid (l[k].Ok) := O0.out _ (List.getElem_mem hkl)
        have HTK : Hid (l.take (k + 1) = l.take k ++ [l[k]]) := by rw [Hid, List.take_add_one, List.getElem?_eq_getElem hkl]; rfl
        have HLN : Hid ((l.take (k + 1)).length = k + 1) := by rw [Hid, List.length_take]; omega
        have HLT : Hid ((l.take k).length < 4096) := by rw [Hid, List.length_take]; omega
        have OT : Hid (Oks (l.take (k + 1))) := fun x hx => O0.out x (List.mem_of_mem_take hx)
        have RT : Hid (∀ W, Below w.heap.size w W → Rd W 21 (some ⟨b0, s0, none⟩) (k + 1) (evF (l.take (k + 1)))) := fun W hb => (rd_take H0.out O0.out (k + 1) (by omega) (by omega)).below hb
        clear hrow
        generalize l[k] = e at HROW OE HTK
        have hU := Tryd.underlying25
        have hI : ((Tryd.prog).info? 25).map (·.size) = some e.cells.length := by rw [info_ev2, cells_len OE.out]
        have HD : Hid (TP w wr.drew a c (l.take k)) := H.out.of_below (Below.refl _ _).drew
        have j2 : (k : Int) + 1 ≤ (c0 : Int) := by have := HC.out; omega
        go_upto_region 7 with fail
        have hs0 : wr.drew.rangeAt b0 (s0 + k * 21) e.cells := HROW.out _ HD.out.bel
        refine wp_region_held_drew (S := fun W' => W'.rangeAt b0 (s0 + k * 21) e.cells) (by kernel_rfl) hs0 (fun hHeld => ?_)
        (refine wpAnyH_take (i := 0) (v := (.pointer (some ⟨w.heap.size, 0, none⟩))) rfl (by kernel_rfl) (by kernel_rfl) (by kernel_rfl) (fun _ _ _ h => h) (Or.inl ⟨by rfl, (by intro w hSw; go_simp)⟩) (by assumption) ?_; try simp only [Act.put, List.getElem_toArray, List.getElem_cons_succ, List.getElem_cons_zero, List.setIfInBounds_toArray, List.set_cons_zero, List.set_cons_succ])
        (refine wpAnyH_take (i := 1) (v := (.slice (some ⟨b0, s0, none⟩) l.length c0)) rfl (by kernel_rfl) (by kernel_rfl) (by kernel_rfl) (fun _ _ _ h => h) (Or.inl ⟨by rfl, (by intro w hSw; go_simp)⟩) (by assumption) ?_; try simp only [Act.put, List.getElem_toArray, List.getElem_cons_succ, List.getElem_cons_zero, List.setIfInBounds_toArray, List.set_cons_zero, List.set_cons_succ])
        (refine wpAnyH_take (i := 2) (v := (.int .i64 k)) rfl (by kernel_rfl) (by kernel_rfl) (by kernel_rfl) (fun _ _ _ h => h) (Or.inl ⟨by rfl, (by intro w hSw; go_simp)⟩) (by assumption) ?_; try simp only [Act.put, List.getElem_toArray, List.getElem_cons_succ, List.getElem_cons_zero, List.setIfInBounds_toArray, List.set_cons_zero, List.set_cons_succ])
        (refine wpAnyH_take (i := 3) (v := (.pointer (some ⟨b0, s0 + k * 21, none⟩))) rfl (by kernel_rfl) (by kernel_rfl) (by kernel_rfl) (fun _ _ _ h => h) (Or.inl ⟨by rfl, (by intro w hSw; go_simp)⟩) (by assumption) ?_; try simp only [Act.put, List.getElem_toArray, List.getElem_cons_succ, List.getElem_cons_zero, List.setIfInBounds_toArray, List.set_cons_zero, List.set_cons_succ])
        (refine wpAnyH_take (i := 4) (v := .agg (e).cells.toArray) rfl (by kernel_rfl) (by kernel_rfl) (by kernel_rfl) (fun _ _ _ h => h) (yieldsIf_load_mid (by rfl) 25 (.tmp 26) rfl b0 (s0 + k * 21) rfl (e).cells _ (fun w h => h) Tryd.underlying25 rfl (by rw [info_ev2, cells_len OE.out])) (by assumption) ?_; try simp only [Act.put, List.getElem_toArray, List.getElem_cons_succ, List.getElem_cons_zero, List.setIfInBounds_toArray, List.set_cons_zero, List.set_cons_succ])
        (refine wpAnyH_ready (rs := [5]) (by kernel_rfl) (by simp) ?_; refine AllReadyH.cons rfl (fun K hK => ?_) AllReadyH.nil)
        go_simp
        refine (tp_add e OE.out HD.out HLT.out).mono ?_
        rw [← HTK.out]
        rintro x W4 ⟨rfl, a', c', h4⟩
        have HA4 := Lib.hid h4
        clear h4 HD
        dsimp only
        (refine hK.out _ _ (HROW.out _ HA4.out.bel) (fun hHeld => ?_); clear hK K; try simp only [Act.put, List.getElem_toArray, List.getElem_cons_succ, List.getElem_cons_zero, List.setIfInBounds_toArray, List.set_cons_zero, List.set_cons_succ])
        (refine wpAnyH_take (i := 6) (v := (.bool false)) rfl (by kernel_rfl) (by kernel_rfl) (by kernel_rfl) (fun _ _ _ h => h) (Or.inl ⟨by rfl, (by intro w hSw; go_simp)⟩) (by assumption) ?_; try simp only [Act.put, List.getElem_toArray, List.getElem_cons_succ, List.getElem_cons_zero, List.setIfInBounds_toArray, List.set_cons_zero, List.set_cons_succ])
        (refine wpAnyH_take (i := 7) (v := (.bool false)) rfl (by kernel_rfl) (by kernel_rfl) (by kernel_rfl) (fun _ _ _ h => h) (Or.inl ⟨by rfl, (by intro w hSw; go_simp)⟩) (by assumption) ?_; try simp only [Act.put, List.getElem_toArray, List.getElem_cons_succ, List.getElem_cons_zero, List.setIfInBounds_toArray, List.set_cons_zero, List.set_cons_succ])
        (refine wpAnyH_take (i := 8) (v := (.pointer (some ⟨w.heap.size, 0, none⟩))) rfl (by kernel_rfl) (by kernel_rfl) (by kernel_rfl) (fun _ _ _ h => h) (Or.inl ⟨by rfl, (by intro w hSw; go_simp)⟩) (by assumption) ?_; try simp only [Act.put, List.getElem_toArray, List.getElem_cons_succ, List.getElem_cons_zero, List.setIfInBounds_toArray, List.set_cons_zero, List.set_cons_succ])
        (refine wpAnyH_take (i := 10) (v := (.int .i64 k)) rfl (by kernel_rfl) (by kernel_rfl) (by kernel_rfl) (fun _ _ _ h => h) (Or.inl ⟨by rfl, (by intro w hSw; go_simp)⟩) (by assumption) ?_; try simp only [Act.put, List.getElem_toArray, List.getElem_cons_succ, List.getElem_cons_zero, List.setIfInBounds_toArray, List.set_cons_zero, List.set_cons_succ])
        (refine wpAnyH_take (i := 11) (v := (.int .i64 ((k : Int) + 1))) rfl (by kernel_rfl) (by kernel_rfl) (by kernel_rfl) (fun _ _ _ h => h) (Or.inl ⟨by rfl, (by intro w hSw; go_simp)⟩) (by assumption) ?_; try simp only [Act.put, List.getElem_toArray, List.getElem_cons_succ, List.getElem_cons_zero, List.setIfInBounds_toArray, List.set_cons_zero, List.set_cons_succ])
        (refine wpAnyH_ready (rs := [9]) (by kernel_rfl) (by simp) ?_; refine AllReadyH.cons rfl (fun K hK => ?_) AllReadyH.nil)
        go_simp
        refine (tp_len k HA4.out HLN.out).mono ?_
        rintro x w' ⟨rfl, rfl⟩
        dsimp only
        (refine hK.out _ _ (HROW.out _ HA4.out.bel) (fun hHeld => ?_); clear hK K; try simp only [Act.put, List.getElem_toArray, List.getElem_cons_succ, List.getElem_cons_zero, List.setIfInBounds_toArray, List.set_cons_zero, List.set_cons_succ])
        (refine wpAnyH_take (i := 12) (v := (.bool false)) rfl (by kernel_rfl) (by kernel_rfl) (by kernel_rfl) (fun _ _ _ h => h) (Or.inl ⟨by rfl, (by intro w hSw; go_simp)⟩) (by assumption) ?_; try simp only [Act.put, List.getElem_toArray, List.getElem_cons_succ, List.getElem_cons_zero, List.setIfInBounds_toArray, List.set_cons_zero, List.set_cons_succ])
        (refine wpAnyH_take (i := 13) (v := (.bool false)) rfl (by kernel_rfl) (by kernel_rfl) (by kernel_rfl) (fun _ _ _ h => h) (Or.inl ⟨by rfl, (by intro w hSw; go_simp)⟩) (by assumption) ?_; try simp only [Act.put, List.getElem_toArray, List.getElem_cons_succ, List.getElem_cons_zero, List.setIfInBounds_toArray, List.set_cons_zero, List.set_cons_succ])
        (refine wpAnyH_take (i := 14) (v := (.bool false)) rfl (by kernel_rfl) (by kernel_rfl) (by kernel_rfl) (fun _ _ _ h => h) (Or.inl ⟨by rfl, (by intro w hSw; go_simp)⟩) (by assumption) ?_; try simp only [Act.put, List.getElem_toArray, List.getElem_cons_succ, List.getElem_cons_zero, List.setIfInBounds_toArray, List.set_cons_zero, List.set_cons_succ])
        (refine wpAnyH_take (i := 15) (v := (.pointer (some ⟨w.heap.size, 0, none⟩))) rfl (by kernel_rfl) (by kernel_rfl) (by kernel_rfl) (fun _ _ _ h => h) (Or.inl ⟨by rfl, (by intro w hSw; go_simp)⟩) (by assumption) ?_; try simp only [Act.put, List.getElem_toArray, List.getElem_cons_succ, List.getElem_cons_zero, List.setIfInBounds_toArray, List.set_cons_zero, List.set_cons_succ])
        (refine wpAnyH_take (i := 17) (v := (.slice (some ⟨b0, s0, none⟩) l.length c0)) rfl (by kernel_rfl) (by kernel_rfl) (by kernel_rfl) (fun _ _ _ h => h) (Or.inl ⟨by rfl, (by intro w hSw; go_simp)⟩) (by assumption) ?_; try simp only [Act.put, List.getElem_toArray, List.getElem_cons_succ, List.getElem_cons_zero, List.setIfInBounds_toArray, List.set_cons_zero, List.set_cons_succ])
        (refine wpAnyH_take (i := 18) (v := (.int .i64 k)) rfl (by kernel_rfl) (by kernel_rfl) (by kernel_rfl) (fun _ _ _ h => h) (Or.inl ⟨by rfl, (by intro w hSw; go_simp)⟩) (by assumption) ?_; try simp only [Act.put, List.getElem_toArray, List.getElem_cons_succ, List.getElem_cons_zero, List.setIfInBounds_toArray, List.set_cons_zero, List.set_cons_succ])
        (refine wpAnyH_take (i := 19) (v := (.int .i64 ((k : Int) + 1))) rfl (by kernel_rfl) (by kernel_rfl) (by kernel_rfl) (fun _ _ _ h => h) (Or.inl ⟨by rfl, (by intro w hSw; go_simp)⟩) (by assumption) ?_; try simp only [Act.put, List.getElem_toArray, List.getElem_cons_succ, List.getElem_cons_zero, List.setIfInBounds_toArray, List.set_cons_zero, List.set_cons_succ])
        (refine wpAnyH_take (i := 20) (v := (.slice (some ⟨b0, s0, none⟩) (k + 1) c0)) rfl (by kernel_rfl) (by kernel_rfl) (by kernel_rfl) (fun _ _ _ h => h) (Or.inl ⟨by rfl, (by intro w hSw; go_simp)⟩) (by assumption) ?_; try simp only [Act.put, List.getElem_toArray, List.getElem_cons_succ, List.getElem_cons_zero, List.setIfInBounds_toArray, List.set_cons_zero, List.set_cons_succ])
        (refine wpAnyH_ready (rs := [16]) (by kernel_rfl) (by simp) ?_; refine AllReadyH.cons rfl (fun K hK => ?_) AllReadyH.nil)
        go_simp
        refine (tp_all (k + 1) HA4.out HLN.out (by omega)).mono ?_
        rintro x W5 ⟨a5, c5, rfl, r5, h5⟩
        have HA5 := Lib.hid h5
        have HR5 := Lib.hid r5
        clear h5 r5
        dsimp only
        (refine hK.out _ _ (HROW.out _ HA5.out.bel) (fun hHeld => ?_); clear hK K; try simp only [Act.put, List.getElem_toArray, List.getElem_cons_succ, List.getElem_cons_zero, List.setIfInBounds_toArray, List.set_cons_zero, List.set_cons_succ])
        (refine wpAnyH_ready (rs := [21]) (by kernel_rfl) (by simp) ?_; refine AllReadyH.cons rfl (fun K hK => ?_) AllReadyH.nil)
        go_simp
        refine (tp_same (k + 1) HLN.out HA5.out HR5.out (RT.out _ HA5.out.bel) OT.out (by omega)).mono ?_
        rintro x W6 ⟨rfl, h6⟩
        have HA6 := Lib.hid h6
        clear h6
        dsimp only
        (refine hK.out _ _ (HROW.out _ HA6.out.bel) (fun hHeld => ?_); clear hK K; try simp only [Act.put, List.getElem_toArray, List.getElem_cons_succ, List.getElem_cons_zero, List.setIfInBounds_toArray, List.set_cons_zero, List.set_cons_succ])
        (refine wpAnyH_take (i := 22) (v := (.bool false)) rfl (by kernel_rfl) (by kernel_rfl) (by kernel_rfl) (fun _ _ _ h => h) (Or.inl ⟨by rfl, (by intro w hSw; go_simp)⟩) (by assumption) ?_; try simp only [Act.put, List.getElem_toArray, List.getElem_cons_succ, List.getElem_cons_zero, List.setIfInBounds_toArray, List.set_cons_zero, List.set_cons_succ])
        (refine wpAnyH_take (i := 23) (v := (.bool false)) rfl (by kernel_rfl) (by kernel_rfl) (by kernel_rfl) (fun _ _ _ h => h) (Or.inl ⟨by rfl, (by intro w hSw; go_simp)⟩) (by assumption) ?_; try simp only [Act.put, List.getElem_toArray, List.getElem_cons_succ, List.getElem_cons_zero, List.setIfInBounds_toArray, List.set_cons_zero, List.set_cons_succ])
        refine wpAnyH_done (by kernel_rfl) ?_ _
        go_wp2_with fail
        refine (show Calls Tryd.prog 16 #[.pointer (some ⟨w.heap.size, 0, none⟩)] W6 (fun x W' => x = .returned (.tuple #[.agg e.cells.toArray, .bool true]) ∧ TP w W' a' c' (l.take (k + 1))) from (last_any _ _ a' c' (l.take k) e W6 (by rw [← HTK.out]; exact HA6.out.tr) (by rw [← HTK.out, HLN.out]; omega)).mono (fun x W' ⟨h1, h2⟩ => ⟨h1, HA6.out.of_below h2⟩)).mono ?_
        rintro x W7 ⟨rfl, h7⟩
        have HA7 := Lib.hid h7
        have le := cells_len OE.out
        have CLl := cells_all e
        clear h7 HA6 HA5 HA4 HR5 hHeld
        dsimp only
        go_upto_region 10 with (refine wpList_store_new rfl 25 (.tmp 7) (.tmp 50) rfl _ _ rfl rfl (by rw [info_ev2]; simp [le]) (by simp [le]) CLl ?_)
        have EX : Hid (ObjAt (W7.alloc (.cells e.cells.toArray 25)) W7.heap.size 25 e.cells) := ObjAt.new _ _ _
        have H8 : Hid (TP w (W7.alloc (.cells e.cells.toArray 25)) a' c' (l.take (k + 1))) := HA7.out.of_below ((Below.refl _ _).alloc (Nat.le_refl _) _)
        generalize W7.alloc (.cells e.cells.toArray 25) = W8 at EX H8 ⊢
        obtain ⟨px, hpx⟩ : ∃ px, px = W7.heap.size := ⟨_, rfl⟩
        rw [← hpx] at EX ⊢
        clear hpx HA7
        have heE := eq_ev e e OE.out.len OE.out.len
        refine region_still_drew (by kernel_rfl) (by kernel_rfl) (fun W9 hW9 => ?_)
        have b9 : Hid (Below W8.heap.size W8 W9) := by rw [Hid, hW9]; exact (Below.refl _ _).drew
        have H9 : Hid (TP w W9 a' c' (l.take (k + 1))) := H8.out.of_below b9.out
        have Q1 : Hid (W9.rangeAt px 0 e.cells) := (EX.out.below b9.out).range 0 _ (fun j v h => by simpa using h)
        have Q2 : Hid (W9.rangeAt b0 (s0 + k * 21) e.cells) := HROW.out _ H9.out.bel
        clear hW9 b9 EX H8
        refine wpStill_load_mid rfl 25 (.tmp 7) rfl px 0 rfl e.cells _ Q1.out Tryd.underlying25 rfl (by rw [info_ev2, le]) ?_
        still_step
        still_step
        still_step
        refine wpStill_load_mid rfl 25 (.tmp 55) rfl b0 (s0 + k * 21) rfl e.cells _ Q2.out Tryd.underlying25 rfl (by rw [info_ev2, le]) ?_
        have hq1 := heE W9
        repeat still_step
        refine wpStill_nil ?_
        clear hq1 heE
        by_cases hkn : k < ns.length
        · have d3 : decide ((k : Int) < (ns.length : Int)) = true := by simp; omega
          go_wp2_with fail
          have i5 : (k : Int) < (ns.length : Int) := by omega
          obtain ⟨b1, s1, rfl, hcell⟩ := rowI_cell H1.out k hkn
          have HCELL := Lib.hid hcell
          clear hcell
          obtain ⟨f, hf⟩ : ∃ f : Nat, f = fromL ns[k] (k + 1) := ⟨_, rfl⟩
          have hfm : max 0 (min ns[k] ((k : Int) + 1)) = (f : Int) := by rw [hf]; unfold fromL; rw [Int.natCast_add]; omega
          have hfle : f ≤ k + 1 := by rw [hf]; exact fromL_le _ _
          have HF : Hid (fromL ns[k] (l.take (k + 1)).length = f) := by rw [HLN.out]; exact hf.symm
          have HN : Hid ((l.take (k + 1)).length - f = k + 1 - f) := by rw [Hid, HLN.out]
          have HXL : Hid (((l.take (k + 1)).drop f).length = k + 1 - f) := by rw [Hid, List.length_drop, HLN.out]
          have OX : Hid (Oks ((l.take (k + 1)).drop f)) := fun x hx => OT.out x (List.mem_of_mem_drop hx)
          generalize ns[k] = nk at HCELL hfm HF
          clear hf
          have HFM := Lib.hid hfm
          have c9 := HCELL.out _ H9.out.bel
          have j1 : (0 : Int) ≤ (f : Int) := by omega
          have j3 : (f : Int) ≤ (k : Int) + 1 := by omega
          have j4 : ((k : Int) + 1 - (f : Int)).toNat = k + 1 - f := by omega
          clear hU hI
          have tst : (Instr.indexAt 32 (.slice (some ⟨b1, s1, none⟩) ns.length c1) (.int .i64 k)).run Tryd.prog W9 = .ok (.pointer (some ⟨b1, s1 + k, none⟩)) W9 := by
            go_simp
          go_wp2_with fail
          simp only [tst]
          go_simp
          go_wp2_with fail
          clear c9 hfm tst
          have H9D : Hid (TP w W9.drew a' c' (l.take (k + 1))) := H9.out.of_below (Below.refl _ _).drew
          have c9d : W9.drew.cell? ⟨b1, s1 + k, none⟩ = some (.int .i64 nk) := HCELL.out _ H9D.out.bel
          by_cases hcf : c0 = f
          · have RX : Hid (∀ W, Below w.heap.size w W → Rd W 21 (some ⟨b0, s0, none⟩) (k + 1 - f) (evF ((l.take (k + 1)).drop f))) := fun W hb => by
              have := rd_cut (RT.out W hb) OT.out f c0 hfle (by omega)
              rw [if_pos hcf] at this
              exact this
            subst hcf
            go_region_held3 (fun W' => W'.cell? ⟨b1, s1 + k, none⟩ = some (.int .i64 nk)) (first | (exact HCELL.out _ H9D.out.bel) | (exact HCELL.out _ HA10.out.bel) | (exact HCELL.out _ HA11.out.bel)) (first | (go_at_call 17; refine (tp_from nk c0 (k + 1 - c0) H9D.out HF.out HN.out (by rw [HLN.out]; omega)).mono ?_; rintro x W10 ⟨a5, c5, rfl, r5, h5⟩; have HA10 := Lib.hid h5; have HR10 := Lib.hid r5; clear h5 r5) | (go_at_call 11; refine (tp_same (k + 1 - c0) HXL.out HA10.out HR10.out (RX.out _ HA10.out.bel) OX.out (by omega)).mono ?_; rintro x W11 ⟨rfl, h6⟩; have HA11 := Lib.hid h6; clear h6))
            go_wp2_with fail
            go_roundw
            case rel => exact ⟨k + 1, a', c', by omega, by omega, by go_num, HA11.out⟩
            case measure => simp [intOf]; omega
          · have RX : Hid (∀ W, Below w.heap.size w W → Rd W 21 (some ⟨b0, s0 + f * 21, none⟩) (k + 1 - f) (evF ((l.take (k + 1)).drop f))) := fun W hb => by
              have := rd_cut (RT.out W hb) OT.out f c0 hfle (by omega)
              rw [if_neg hcf] at this
              have e1 : (some (⟨b0, s0, none⟩ : Addr)).map (·.add (f * 21)) = some ⟨b0, s0 + f * 21, none⟩ := by (show some ((⟨b0, s0, none⟩ : Addr).add (f * 21)) = _; unfold Addr.add; simp)
              rw [e1] at this
              exact this
            have hcf' : ((c0 : Int) == (f : Int)) = false := by simp; omega
            go_region_held3 (fun W' => W'.cell? ⟨b1, s1 + k, none⟩ = some (.int .i64 nk)) (first | (exact HCELL.out _ H9D.out.bel) | (exact HCELL.out _ HA10.out.bel) | (exact HCELL.out _ HA11.out.bel)) (first | (go_at_call 17; refine (tp_from nk f (k + 1 - f) H9D.out HF.out HN.out (by rw [HLN.out]; omega)).mono ?_; rintro x W10 ⟨a5, c5, rfl, r5, h5⟩; have HA10 := Lib.hid h5; have HR10 := Lib.hid r5; clear h5 r5) | (go_at_call 11; refine (tp_same (k + 1 - f) HXL.out HA10.out HR10.out (RX.out _ HA10.out.bel) OX.out (by omega)).mono ?_; rintro x W11 ⟨rfl, h6⟩; have HA11 := Lib.hid h6; clear h6))
            go_wp2_with fail
            go_roundw
            case rel => exact ⟨k + 1, a', c', by omega, by omega, by go_num, HA11.out⟩
            case measure => simp [intOf]; omega
        · have d3 : decide ((k : Int) < (ns.length : Int)) = false := by simp; omega
          go_wp2_with fail
          go_roundw
          case rel => exact ⟨k + 1, a', c', by omega, by omega, by go_num, H9.out⟩
          case measure => simp [intOf]; omega
      · have d2 : decide ((k : Int) < 60) = false := by simp; omega
        go_wp2_with (go_at_call 8; refine (FW.out _ _ _ _ H.out).mono ?_; rintro x W9 ⟨rfl, hb9⟩)
        go_ret
        exact ⟨rfl, hb9⟩
    · have d1 : decide ((k : Int) < (l.length : Int)) = false := by simp; omega
      go_wp2_with (go_at_call 8; refine (FW.out _ _ _ _ H.out).mono ?_; rintro x W9 ⟨rfl, hb9⟩)
      go_ret
      exact ⟨rfl, hb9⟩
#print axioms plays_walk
end Go.Proofs.YtcffdceadmdecaaDoor
