/- The reference's ports: New, walked. -/
import Derived.Test.YtpccllgbccccnaaPortsRef5
import Derived.Deep.CutRange
namespace Go.Proofs.Ytpccllgbccccnaa
set_option linter.unusedVariables false
set_option linter.unusedSimpArgs false
set_option linter.unnecessarySimpa false
open Go.RowKit Go.Sort
set_option maxHeartbeats 400000
set_option maxRecDepth 100000

theorem info_api : (Try.prog.info? 37).map (fun i => (i.zero, i.size, i.bytes)) = some (some (.agg #[.int .i64 0, .int .i64 0]), 2, 16) := by kernel_rfl
theorem info_row : (Try.prog.info? 32).map (fun i => (i.zero, i.size, i.bytes)) = some (some (.slice none 0 0), 1, 24) := by kernel_rfl
theorem poF_snoc (l : List Po) (p : Po) : poF (l ++ [p]) = poF l ++ poC p := by simp [poF]
theorem hdF_snoc (l : List Rw) (r : Rw) : hdF (l ++ [r]) = hdF l ++ [hdV r] := by simp [hdF]
namespace Fam
theorem ins {w : World} {B : Nat} {l r : List It} (h : Fam w B (l ++ r)) {x : It} (hx : x.Is w B) (h0 : x.fp = []) : Fam w B (l ++ ([x] ++ r)) := by
  obtain ⟨h1, h2, h3⟩ := app.1 h
  refine app.2 ⟨h1, app.2 ⟨(one x).2 hx, h2, fun k hk => by rw [fps_cons, h0, fps_nil] at hk; simp at hk⟩, fun k hk hk2 => ?_⟩
  rw [fps_app, fps_cons, h0, fps_nil] at hk2
  exact h3 k hk (by simpa using hk2)
end Fam
theorem fps_ins {l r : List It} {x : It} (h0 : x.fp = []) {k : Nat} (hk : k ∈ fps (l ++ ([x] ++ r))) : k ∈ fps (l ++ r) := by
  rw [fps_app, fps_app, fps_cons, h0, fps_nil] at hk
  rw [fps_app]
  simpa using hk
namespace RSt
variable {w w1 : World} {B rr : Nat} {s : RS}
/-- A row of the object grows, and the object is told. -/
theorem grow {j g' c' : Nat} {f : Nat} {x : It} {e size n : Nat} {cs xs : List Value} {l : List It} (h : Fam w B l) (h0 : l[0]? = some (.obj rr 53 cs)) (hj : l[j]? = some x) (hj0 : 0 ≠ j)
    (hown : Own w1 B e size (some ⟨g', 0, none⟩) n c' xs) (hm : Mod x.fp w w1) (hat : g' ∈ x.fp ∨ w.heap.size ≤ g') :
    Acts B l ((l.set j (.row (some ⟨g', 0, none⟩) n c' e size xs)).set 0 (.obj rr 53 (cs.set f (.slice (some ⟨g', 0, none⟩) n c')))) w (w1.setCell ⟨rr, f, none⟩ (.slice (some ⟨g', 0, none⟩) n c')) := by
  obtain ⟨hj1, hj2⟩ := List.getElem?_eq_some_iff.1 hj
  have h1 : Acts B l (l.set j (.row (some ⟨g', 0, none⟩) n c' e size xs)) w w1 := Acts.put h hj1 hown (by rw [hj2]; exact hm) (by
    rw [hj2]
    intro k hk
    simp only [It.fp, blk, Option.map_some, Option.toList_some, List.mem_singleton] at hk
    subst hk
    exact hat)
  have h2 : (l.set j (.row (some ⟨g', 0, none⟩) n c' e size xs))[0]? = some (.obj rr 53 cs) := by rw [List.getElem?_set_ne (Ne.symm hj0)]; exact h0
  obtain ⟨h3, h4⟩ := List.getElem?_eq_some_iff.1 h2
  have ho := h1.fam.get h2
  refine h1.trans (Acts.put h1.fam h3 ⟨ho.1.set f _, ho.2⟩ ?_ ?_)
  · rw [h4]
    exact Mod.ofUpd (Upd.setCell w1 ⟨rr, f, none⟩ _)
  · rw [h4]
    intro q hq
    exact .inl hq
theorem growP {g' c' : Nat} {p : Po} (h : Fam w B (s.its rr)) (hown : Own w1 B 37 2 (some ⟨g', 0, none⟩) (s.P.length + 1) c' (poF s.P ++ poC p)) (hm : Mod (blk s.pa) w w1) (hat : g' ∈ blk s.pa ∨ w.heap.size ≤ g') :
    Acts B (s.its rr) (({s with pa := some ⟨g', 0, none⟩, pc := c', P := s.P ++ [p]} : RS).its rr) w (w1.setCell ⟨rr, 0, none⟩ (.slice (some ⟨g', 0, none⟩) (s.P.length + 1) c')) := by
  have h1 := grow (rr := rr) (f := 0) (j := 1) h rfl rfl (by omega) hown hm hat
  have e : ({s with pa := some ⟨g', 0, none⟩, pc := c', P := s.P ++ [p]} : RS).its rr = ((s.its rr).set 1 (.row (some ⟨g', 0, none⟩) (s.P.length + 1) c' 37 2 (poF s.P ++ poC p))).set 0 (.obj rr 53 [.slice (some ⟨g', 0, none⟩) (s.P.length + 1) c', .slice s.ia s.I.length s.ic, .slice s.oa s.O.length s.oc]) := by
    simp [RS.its, RS.objI, RS.pI, RS.iI, RS.oI, poF_snoc]
  rw [e]
  exact h1
theorem growI {g' c' : Nat} (h : Fam w B (s.its rr)) (hown : Own w1 B 32 1 (some ⟨g', 0, none⟩) (s.I.length + 1) c' (hdF s.I ++ [.slice none 0 0])) (hm : Mod (blk s.ia) w w1) (hat : g' ∈ blk s.ia ∨ w.heap.size ≤ g') :
    Acts B (s.its rr) (({s with ia := some ⟨g', 0, none⟩, ic := c', I := s.I ++ [⟨none, 0, []⟩]} : RS).its rr) w (w1.setCell ⟨rr, 1, none⟩ (.slice (some ⟨g', 0, none⟩) (s.I.length + 1) c')) := by
  have h1 := grow (rr := rr) (f := 1) (j := 2) h rfl rfl (by omega) hown hm hat
  have e1 : ((s.its rr).set 2 (.row (some ⟨g', 0, none⟩) (s.I.length + 1) c' 32 1 (hdF s.I ++ [.slice none 0 0]))).set 0 (.obj rr 53 [.slice s.pa s.P.length s.pc, .slice (some ⟨g', 0, none⟩) (s.I.length + 1) c', .slice s.oa s.O.length s.oc]) = ([.obj rr 53 [.slice s.pa s.P.length s.pc, .slice (some ⟨g', 0, none⟩) (s.I.length + 1) c', .slice s.oa s.O.length s.oc], s.pI, .row (some ⟨g', 0, none⟩) (s.I.length + 1) c' 32 1 (hdF s.I ++ [.slice none 0 0]), s.oI] ++ s.I.map Rw.it) ++ s.O.map Rw.it := by
    simp [RS.its]
  have e : ({s with ia := some ⟨g', 0, none⟩, ic := c', I := s.I ++ [⟨none, 0, []⟩]} : RS).its rr = ([.obj rr 53 [.slice s.pa s.P.length s.pc, .slice (some ⟨g', 0, none⟩) (s.I.length + 1) c', .slice s.oa s.O.length s.oc], s.pI, .row (some ⟨g', 0, none⟩) (s.I.length + 1) c' 32 1 (hdF s.I ++ [.slice none 0 0]), s.oI] ++ s.I.map Rw.it) ++ ([Rw.it ⟨none, 0, []⟩] ++ s.O.map Rw.it) := by
    simp [RS.its, RS.objI, RS.pI, RS.iI, RS.oI, hdF_snoc, hdV]
  have h2 : Acts B (s.its rr) _ w _ := h1
  simp only [List.set_cons_succ, List.set_cons_zero] at h2
  rw [e]
  rw [show ∀ X, (((s.its rr).set 2 X).set 0 (.obj rr 53 ([.slice s.pa s.P.length s.pc, .slice s.ia s.I.length s.ic, .slice s.oa s.O.length s.oc].set 1 (.slice (some ⟨g', 0, none⟩) (s.I.length + 1) c')))) = (((s.its rr).set 2 X).set 0 (.obj rr 53 [.slice s.pa s.P.length s.pc, .slice (some ⟨g', 0, none⟩) (s.I.length + 1) c', .slice s.oa s.O.length s.oc])) from fun _ => rfl, e1] at h1
  refine ⟨Fam.ins h1.fam (Own.nil _ _ _ _) rfl, h1.mod, fun k hk => h1.at_ k (fps_ins rfl hk)⟩
theorem growO {g' c' : Nat} (h : Fam w B (s.its rr)) (hown : Own w1 B 32 1 (some ⟨g', 0, none⟩) (s.O.length + 1) c' (hdF s.O ++ [.slice none 0 0])) (hm : Mod (blk s.oa) w w1) (hat : g' ∈ blk s.oa ∨ w.heap.size ≤ g') :
    Acts B (s.its rr) (({s with oa := some ⟨g', 0, none⟩, oc := c', O := s.O ++ [⟨none, 0, []⟩]} : RS).its rr) w (w1.setCell ⟨rr, 2, none⟩ (.slice (some ⟨g', 0, none⟩) (s.O.length + 1) c')) := by
  have h1 := grow (rr := rr) (f := 2) (j := 3) h rfl rfl (by omega) hown hm hat
  have e1 : (((s.its rr).set 3 (.row (some ⟨g', 0, none⟩) (s.O.length + 1) c' 32 1 (hdF s.O ++ [.slice none 0 0]))).set 0 (.obj rr 53 ([.slice s.pa s.P.length s.pc, .slice s.ia s.I.length s.ic, .slice s.oa s.O.length s.oc].set 2 (.slice (some ⟨g', 0, none⟩) (s.O.length + 1) c')))) = ([.obj rr 53 [.slice s.pa s.P.length s.pc, .slice s.ia s.I.length s.ic, .slice (some ⟨g', 0, none⟩) (s.O.length + 1) c'], s.pI, s.iI, .row (some ⟨g', 0, none⟩) (s.O.length + 1) c' 32 1 (hdF s.O ++ [.slice none 0 0])] ++ (s.I.map Rw.it ++ s.O.map Rw.it)) ++ [] := by
    simp [RS.its]
  have e : ({s with oa := some ⟨g', 0, none⟩, oc := c', O := s.O ++ [⟨none, 0, []⟩]} : RS).its rr = ([.obj rr 53 [.slice s.pa s.P.length s.pc, .slice s.ia s.I.length s.ic, .slice (some ⟨g', 0, none⟩) (s.O.length + 1) c'], s.pI, s.iI, .row (some ⟨g', 0, none⟩) (s.O.length + 1) c' 32 1 (hdF s.O ++ [.slice none 0 0])] ++ (s.I.map Rw.it ++ s.O.map Rw.it)) ++ ([Rw.it ⟨none, 0, []⟩] ++ []) := by
    simp [RS.its, RS.objI, RS.pI, RS.iI, RS.oI, hdF_snoc, hdV]
  rw [e]
  rw [e1] at h1
  refine ⟨Fam.ins h1.fam (Own.nil _ _ _ _) rfl, h1.mod, fun k hk => h1.at_ k (fps_ins rfl hk)⟩
end RSt
def RNewPost (B : Nat) (l : List Po) (w : World) (e : Ending) (w' : World) : Prop :=
  ∃ rr s, e = .returned (.tuple #[.pointer (some ⟨rr, 0, none⟩), .int .i64 0]) ∧ RSt w' B rr s ∧ Vw s (l.map poV) ∧ Below w.heap.size w w' ∧ s.P = l
def RNewAll (B : Nat) (l : List Po) (w : World) (e : Ending) (w' : World) : Prop :=
  if l.all (fun x => isB x.1) = true then RNewPost B l w e w' else e = .returned (.tuple #[.pointer none, .int .i64 15]) ∧ Below w.heap.size w w'
structure Half (rr : Nat) (s : RS) (l : List Po) (k : Nat) : Prop where
  p : s.P = l.take k
  i : s.I = List.replicate k ⟨none, 0, []⟩
  o : s.O = List.replicate k ⟨none, 0, []⟩
theorem Vw.fresh {s : RS} {l : List Po} (h : Half 0 s l l.length) : Vw s (l.map poV) := by
  have hp : s.P = l := by rw [h.p, List.take_length]
  refine ⟨by rw [List.length_map, hp], fun i p r q h1 h2 h3 => ?_⟩
  rw [hp] at h1
  rw [h.i] at h2
  rw [h.o] at h3
  have e2 : r = ⟨none, 0, []⟩ := (List.mem_replicate.1 (List.mem_of_getElem? h2)).2
  have e3 : q = ⟨none, 0, []⟩ := (List.mem_replicate.1 (List.mem_of_getElem? h3)).2
  subst e2 e3
  exact ⟨[], by rw [List.getElem?_map, h1]; rfl, fun _ => ⟨rfl, rfl, by simp⟩, fun _ => ⟨rfl, rfl, by simp⟩⟩
/-- So far: so many ports, inboxes, outboxes. -/
def Mid (w0 : World) (rr : Nat) (l : List Po) (a b c : Nat) (w : World) : Prop := ∃ s : RS, Fam w w0.heap.size (s.its rr) ∧ Below w0.heap.size w0 w ∧ s.P = l.take a ∧ s.I = List.replicate b ⟨none, 0, []⟩ ∧ s.O = List.replicate c ⟨none, 0, []⟩
theorem rnew_long (a : Option Addr) (n c : Nat) (w : World) (hn : 8 < n) (hc : n ≤ maxLen) :
    Calls Try.prog 16 #[.slice a n c] w fun e w' => e = .returned (.tuple #[.pointer none, .int .i64 15]) ∧ w = w' := by
  unfold maxLen at hc
  have d1 : decide ((8 : Int) < (n : Int)) = true := by simp; omega
  go_enter Try.func16, Try.ntmps16
  go_wp2
  go_ret2
  exact ⟨rfl, rfl⟩
set_option maxHeartbeats 8000000 in
theorem rnew_all (B : Nat) (a : Option Addr) (c : Nat) (l : List Po) (w : World) (hr : Rd w 2 a l.length (poF l)) (hle : l.length ≤ c) (hc : c ≤ maxLen) (hl8 : l.length ≤ 8) (hB : B ≤ w.heap.size) :
    Calls Try.prog 16 #[.slice a l.length c] w (RNewAll B l w) := by
  obtain ⟨i0, hi0, hz0, hz1, hz2⟩ := info_parts info_api
  obtain ⟨j0, hj0, jz0, jz1, jz2⟩ := info_parts info_row
  unfold maxLen at hc
  have HR := Lib.hid hr
  clear hr
  go_enter Try.func16, Try.ntmps16
  go_wp2_with fail
  obtain ⟨rr, hrr⟩ : ∃ rr, rr = w.heap.size := ⟨_, rfl⟩
  have hal : Below w.heap.size w (w.alloc (.cells #[.slice none 0 0, .slice none 0 0, .slice none 0 0] 53)) := (Below.refl _ _).alloc (Nat.le_refl _) _
  have HF0 : Hid (Fam (w.alloc (.cells #[.slice none 0 0, .slice none 0 0, .slice none 0 0] 53)) w.heap.size ((⟨none, 0, [], none, 0, [], none, 0, []⟩ : RS).its rr)) := by
    rw [hrr]
    refine (Fam.app (l := [_]) (m := [_, _, _])).2 ⟨(Fam.one _).2 ⟨new_block w _ _ rfl, Nat.le_refl _⟩, ⟨fun x hx => ?_, ?_⟩, ?_⟩
    · simp only [RS.pI, RS.iI, RS.oI, List.mem_cons, List.not_mem_nil, or_false] at hx
      rcases hx with rfl | rfl | rfl <;> exact Own.nil _ _ _ _
    · simp [RS.pI, RS.iI, RS.oI, It.fp, blk, Dj]
    · intro k _ hk2
      simp [fps, RS.pI, RS.iI, RS.oI, It.fp, blk] at hk2
  have HB0 := Lib.hid hal
  rw [← hrr]
  clear hal hrr
  go_loopw [5] (fun i wr => ∃ (k : Nat) (s : RS), k ≤ l.length ∧ i = .int .i64 k ∧ Half 0 s l k ∧ (∀ x ∈ l.take k, isB x.1 = true) ∧ Fam wr w.heap.size (s.its rr) ∧ Below w.heap.size w wr) (fun i _ => l.length - (intOf i).toNat)
  case atStart => exact ⟨0, _, Nat.zero_le _, rfl, ⟨rfl, rfl, rfl⟩, by simp, HF0.out, HB0.out⟩
  case round =>
    clear HF0 HB0
    obtain ⟨k, s, hk, rfl, hh, hall, hf, hb⟩ := hrel
    have HF := Lib.hid hf; have HB := Lib.hid hb; have HH := Lib.hid hh; have HAL := Lib.hid hall
    clear hf hb hh hall
    by_cases hlt : k < l.length
    · have hne : poF l ≠ [] := by intro h0; have := poF_len l; rw [h0] at this; simp at this; omega
      have ha : a ≠ none := fun h0 => by have := HR.out.2.1 h0; omega
      obtain ⟨p, rfl⟩ := Option.ne_none_iff_exists'.1 ha
      obtain ⟨b0, o0, rfl, hb0w, gc⟩ := HR.out.2.2 p rfl hne
      have HK : Hid (∀ W, Below w.heap.size w W → W.cell? ⟨b0, o0 + k * 2, none⟩ = some (.int .i64 l[k].1) ∧ W.cell? ⟨b0, o0 + k * 2 + 1, none⟩ = some (.int .i64 l[k].2)) := fun W hW => by
        have h0 := (hW.cell (p := ⟨b0, o0 + k * 2, none⟩) hb0w).trans (gc (k * 2) (.int .i64 l[k].1) (by have := poF_get l k 0 hlt (by omega); simpa [poC] using this))
        have h1 := (hW.cell (p := ⟨b0, o0 + k * 2 + 1, none⟩) hb0w).trans (gc (k * 2 + 1) (.int .i64 l[k].2) (by have := poF_get l k 1 hlt (by omega); simpa [poC] using this))
        exact ⟨h0, h1⟩
      have HT : Hid (l.take (k + 1) = l.take k ++ [l[k]]) := List.take_succ_eq_append_getElem hlt
      have HM : Hid (l[k] ∈ l) := List.getElem_mem hlt
      clear hne ha gc
      generalize l[k] = x at HK HT HM
      obtain ⟨lab, gst⟩ := x
      obtain ⟨k0, k1⟩ := HK.out wr HB.out
      dsimp only at k0 k1
      have hq0 : (0 : Int) ≤ k := by omega
      have hq1 : (k : Int) < (l.length : Int) := by omega
      cases hx : isB lab
      · have HX := Lib.hid hx
        have HIs := Lib.hid (Is_any lab wr)
        rw [hx] at HIs
        clear hx
        go_wp2_with (go_at_call 29; refine HIs.out.mono ?_; rintro e w' ⟨rfl, rfl⟩)
        go_ret2
        rw [RNewAll, if_neg (fun h => by
          have := List.all_eq_true.1 h _ HM.out
          rw [HX.out] at this
          cases this)]
        exact ⟨rfl, HB.out⟩
      · have HX := Lib.hid hx
        have HIs := Lib.hid (Is_any lab wr)
        rw [hx] at HIs
        clear hx
        go_wp2_with (go_at_call 29; refine HIs.out.mono ?_; rintro e w' ⟨rfl, rfl⟩)
        clear HIs
        have ho := HF.out.get (i := 0) rfl
        have hpl : s.P.length = k := by rw [HH.out.p]; simp; omega
        have gl0 := ho.1.lt
        have hown0 : Own wr w.heap.size 37 2 s.pa s.P.length s.pc (poF s.P) := HF.out.get (i := 1) rfl
        have hdo : rr ∉ blk s.pa := HF.out.apart (i := 0) (j := 1) rfl rfl (by omega) rr (by simp [It.fp, RS.objI])
        have hge := hown0.ge
        have HS : Hid (∀ W', Mod (blk s.pa) wr W' → W'.cell? ⟨rr, 0, none⟩ = some (.slice s.pa s.P.length s.pc) ∧ W'.frozen? ⟨rr, 0, none⟩ = false ∧ Below w.heap.size w W') := fun W' hm =>
          ⟨(ho.1.mod hm hdo).cell 0 _ rfl, (ho.1.mod hm hdo).free 0, HB.out.trans (hm.below (fun k hk => (hge k hk).1) HB.out.size)⟩
        rw [hpl] at HS hown0
        have HO := Lib.hid hown0
        have HPL := Lib.hid hpl
        have cf := (HS.out wr (Mod.refl _ _)).1
        have HALl : Hid (Below wr.heap.size wr ((wr.alloc (.cells #[.int .i64 lab, .int .i64 gst] 37)).drew)) := ((Below.refl _ _).alloc (Nat.le_refl _) _).drew
        have hBz := HB.out.size
        clear ho hown0 hdo hge hpl
        go_cut [5] from 11 to 54 (fun i wc => i = .int .i64 k ∧ Mid w rr l (k + 1) k k wc)
        case first =>
          go_region_law (refine step_own rfl (.tmp 28) (.tmp 33) 40 rfl w.heap.size 37 i0 _ 2 16 Try.underlying40 hi0 hz0 hz1 hz2 rfl (by omega) s.pa k s.pc (poF s.P) rfl (HO.out.below HALl.out) wr.heap.size [.int .i64 lab, .int .i64 gst] rfl (new_block _ _ _ rfl) rfl (by simp [Value.oneCell']) (by simp only [maxLen]; omega) (by omega) (by simp; omega) ?_; intro g' cap' w1 hown hmod hat; obtain ⟨q0, q1, q2⟩ := HS.out w1 ((Mod.ofBelow HALl.out).trans hmod))
          all_goals
            have hA : Hid (Acts w.heap.size (s.its rr) _ wr _) := RSt.growP (p := (lab, gst)) HF.out (by rw [HPL.out]; exact hown) ((Mod.ofBelow HALl.out).trans hmod) (hat.imp id (fun h => by simp at h; omega))
            rw [HPL.out] at hA
            have HG : Hid (Mid w rr l (k + 1) k k (w1.setCell ⟨rr, 0, none⟩ (.slice (some ⟨g', 0, none⟩) (k + 1) cap'))) := ⟨_, hA.out.fam, HB.out.trans (hA.out.below HF.out HB.out.size), (by rw [HT.out]; show s.P ++ [(lab, gst)] = _; rw [HH.out.p]), HH.out.i, HH.out.o⟩
            clear hA hown hmod hat q0 q1 q2
            (try go_wp2_with fail)
            go_meet
            exact ⟨rfl, HG.out⟩
        case rest =>
          clear k0 k1 cf gl0 HF HB HS HO HPL HALl HH hBz
          obtain ⟨rfl, s, hf, hb, hp, hi, ho⟩ := hcut
          have HF := Lib.hid hf; have HB := Lib.hid hb; have HH1 := Lib.hid hp; have HH2 := Lib.hid hi; have HH3 := Lib.hid ho
          clear hf hb hp hi ho
          have ho := HF.out.get (i := 0) rfl
          have hpl : s.I.length = k := by rw [HH2.out]; simp
          have gl0 := ho.1.lt
          have hown0 : Own wc w.heap.size 32 1 s.ia s.I.length s.ic (hdF s.I) := HF.out.get (i := 2) rfl
          have hdo : rr ∉ blk s.ia := HF.out.apart (i := 0) (j := 2) rfl rfl (by omega) rr (by simp [It.fp, RS.objI])
          have HS : Hid (∀ W', Mod (blk s.ia) wc W' → W'.cell? ⟨rr, 1, none⟩ = some (.slice s.ia s.I.length s.ic) ∧ W'.frozen? ⟨rr, 1, none⟩ = false) := fun W' hm =>
            ⟨(ho.1.mod hm hdo).cell 1 _ rfl, (ho.1.mod hm hdo).free 1⟩
          rw [hpl] at HS hown0
          have HO := Lib.hid hown0
          have HPL := Lib.hid hpl
          have cf := (HS.out wc (Mod.refl _ _)).1
          have HALl : Hid (Below wc.heap.size wc (wc.alloc (.cells #[.slice none 0 0] 32))) := ((Below.refl _ _).alloc (Nat.le_refl _) _)
          have hBz := HB.out.size
          clear ho hown0 hdo hpl
          go_upto_region 11 with (at_builtin; (refine wpList_own rfl (.tmp 41) (.tmp 42) 51 rfl w.heap.size 32 j0 _ 1 24 Try.underlying51 hj0 jz0 jz1 jz2 rfl (by omega) s.ia k s.ic (hdF s.I) rfl (HO.out.below HALl.out) wc.heap.size [.slice none 0 0] rfl (new_block _ _ _ rfl) rfl (by simp [Value.oneCell']) (by simp only [maxLen]; omega) (by omega) (by simp; omega) ?_); intro g' cap' w1 hown hmod hat; obtain ⟨q0, q1⟩ := HS.out w1 ((Mod.ofBelow HALl.out).trans hmod))
          have hA : Hid (Acts w.heap.size (s.its rr) _ wc _) := RSt.growI HF.out (by rw [HPL.out]; exact hown) ((Mod.ofBelow HALl.out).trans hmod) (hat.imp id (fun h => by simp at h; omega))
          rw [HPL.out] at hA
          obtain ⟨W2, hW2⟩ : ∃ W, W = w1.setCell ⟨rr, 1, none⟩ (.slice (some ⟨g', 0, none⟩) (k + 1) cap') := ⟨_, rfl⟩
          have HG : Hid (Mid w rr l (k + 1) (k + 1) k W2) := by (rw [Hid, hW2]; exact ⟨_, hA.out.fam, HB.out.trans (hA.out.below HF.out HB.out.size), HH1.out, (by show s.I ++ [⟨none, 0, []⟩] = _; rw [HH2.out, ← List.replicate_succ']), HH3.out⟩)
          have HW2 := Lib.hid hW2
          clear hW2 hA hown hmod hat HS HO HALl hBz cf gl0
          obtain ⟨s, hf, hb, hp, hi, ho⟩ := HG.out
          rw [← HW2.out]
          clear q0 q1 HF HB HPL HH1 HH2 HH3 HG HW2
          have HF := Lib.hid hf; have HB := Lib.hid hb; have HH1 := Lib.hid hp; have HH2 := Lib.hid hi; have HH3 := Lib.hid ho
          clear hf hb hp hi ho
          have ho := HF.out.get (i := 0) rfl
          have hpl : s.O.length = k := by rw [HH3.out]; simp
          have gl0 := ho.1.lt
          have hown0 : Own W2 w.heap.size 32 1 s.oa s.O.length s.oc (hdF s.O) := HF.out.get (i := 3) rfl
          have hdo : rr ∉ blk s.oa := HF.out.apart (i := 0) (j := 3) rfl rfl (by omega) rr (by simp [It.fp, RS.objI])
          have HS : Hid (∀ W', Mod (blk s.oa) W2 W' → W'.cell? ⟨rr, 2, none⟩ = some (.slice s.oa s.O.length s.oc) ∧ W'.frozen? ⟨rr, 2, none⟩ = false) := fun W' hm =>
            ⟨(ho.1.mod hm hdo).cell 2 _ rfl, (ho.1.mod hm hdo).free 2⟩
          rw [hpl] at HS hown0
          have HO := Lib.hid hown0
          have HPL := Lib.hid hpl
          have cf := (HS.out W2 (Mod.refl _ _)).1
          have HALl : Hid (Below W2.heap.size W2 (W2.alloc (.cells #[.slice none 0 0] 32))) := ((Below.refl _ _).alloc (Nat.le_refl _) _)
          have hBz := HB.out.size
          clear ho hown0 hdo hpl
          go_upto_region 6 with (at_builtin; (refine wpList_own rfl (.tmp 50) (.tmp 51) 51 rfl w.heap.size 32 j0 _ 1 24 Try.underlying51 hj0 jz0 jz1 jz2 rfl (by omega) s.oa k s.oc (hdF s.O) rfl (HO.out.below HALl.out) W2.heap.size [.slice none 0 0] rfl (new_block _ _ _ rfl) rfl (by simp [Value.oneCell']) (by simp only [maxLen]; omega) (by omega) (by simp; omega) ?_); intro g' cap' w1 hown hmod hat; obtain ⟨q0, q1⟩ := HS.out w1 ((Mod.ofBelow HALl.out).trans hmod))
          have hA : Hid (Acts w.heap.size (s.its rr) _ W2 _) := RSt.growO HF.out (by rw [HPL.out]; exact hown) ((Mod.ofBelow HALl.out).trans hmod) (hat.imp id (fun h => by simp at h; omega))
          rw [HPL.out] at hA
          obtain ⟨W3, hW3⟩ : ∃ W, W = w1.setCell ⟨rr, 2, none⟩ (.slice (some ⟨g', 0, none⟩) (k + 1) cap') := ⟨_, rfl⟩
          have HG : Hid (Mid w rr l (k + 1) (k + 1) (k + 1) W3) := by (rw [Hid, hW3]; exact ⟨_, hA.out.fam, HB.out.trans (hA.out.below HF.out HB.out.size), HH1.out, HH2.out, (by show s.O ++ [⟨none, 0, []⟩] = _; rw [HH3.out, ← List.replicate_succ'])⟩)
          have HW3 := Lib.hid hW3
          clear hW3 hA hown hmod hat HS HO HALl hBz cf gl0
          obtain ⟨s, hf, hb, hp, hi, ho⟩ := HG.out
          rw [← HW3.out]
          clear q0 q1 HF HB HPL HH1 HH2 HH3 HG HW3
          have HF := Lib.hid hf; have HB := Lib.hid hb; have HH1 := Lib.hid hp; have HH2 := Lib.hid hi; have HH3 := Lib.hid ho
          clear hf hb hp hi ho
          have HAL2 : Hid (∀ x ∈ l.take (k + 1), isB x.1 = true) := by
            rw [Hid, HT.out]
            intro x hx
            rcases List.mem_append.1 hx with h | h
            · exact HAL.out x h
            · rw [List.mem_singleton] at h; subst h; exact HX.out
          have CL : ∃ (k' : Nat) (s : RS), k' ≤ l.length ∧ Value.int .i64 ((k : Int) + 1) = .int .i64 k' ∧ Half 0 s l k' ∧ (∀ x ∈ l.take k', isB x.1 = true) ∧ Fam W3 w.heap.size (s.its rr) ∧ Below w.heap.size w W3 := ⟨k + 1, s, by omega, by go_num, ⟨HH1.out, HH2.out, HH3.out⟩, HAL2.out, HF.out, HB.out⟩
          go_wp2_with fail
          go_roundw
          case rel => first | exact CL | ((repeat apply Exists.intro); exact ⟨CL, rfl⟩)
          case measure => simp [intOf]; omega
    · have hkl : k = l.length := by omega
      go_wp2_with fail
      go_ret2
      rw [RNewAll, if_pos (by
        have := HAL.out
        rw [hkl, List.take_length] at this
        exact List.all_eq_true.2 (fun x hx => this x hx))]
      have hh := HH.out
      rw [hkl] at hh
      have hp : s.P = l := by rw [hh.p, List.take_length]
      exact ⟨rr, s, rfl, ⟨HF.out.mono hB, by rw [hh.i, hp]; simp, by rw [hh.o, hp]; simp, by rw [hp]; exact hl8⟩, Vw.fresh hh, HB.out, hp⟩
end Go.Proofs.Ytpccllgbccccnaa
