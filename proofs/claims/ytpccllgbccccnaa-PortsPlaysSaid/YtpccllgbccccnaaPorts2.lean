/- The walks of package ports: all of it, as functions of what can be seen. -/
import Derived.Test.YtpccllgbccccnaaPorts
namespace Go.Proofs.Ytpccllgbccccnaa
set_option linter.unusedVariables false
set_option linter.unusedSimpArgs false
set_option linter.unnecessarySimpa false
open Go.RowKit Go.Sort
set_option maxHeartbeats 400000
set_option maxRecDepth 100000

structure PV where
  lab : Int
  gst : Int
  L : List ByteArray
def Pt.v (p : Pt) : PV := ⟨p.lab, p.gst, p.L⟩
def viewP (ps : List Pt) : List PV := ps.map Pt.v
theorem view_get (ps : List Pt) (n : Nat) (h : n < ps.length) : (viewP ps)[n]? = some ps[n].v := by simp [viewP, h]
theorem view_none (ps : List Pt) (n : Nat) (h : ¬ n < ps.length) : (viewP ps)[n]? = none := by simp [viewP]; omega
theorem view_set (ps : List Pt) (n : Nat) (p : Pt) : viewP (ps.set n p) = (viewP ps).set n p.v := by simp [viewP, List.map_set]
/-- The port of that number. -/
def atV (vs : List PV) (i : Int) : Option PV := if 0 ≤ i then vs[i.toNat]? else none
theorem atV_in (ps : List Pt) (n : Nat) (h : n < ps.length) : atV (viewP ps) (n : Int) = some ps[n].v := by
  rw [atV, if_pos (by omega), Int.toNat_natCast, view_get ps n h]
theorem atV_out (ps : List Pt) (i : Int) (h : ¬ (0 ≤ i ∧ i < ps.length)) : atV (viewP ps) i = none := by
  unfold atV
  split
  · exact view_none ps _ (by omega)
  · rfl
def sendV (vs : List PV) (f t : Int) (s : ByteArray) : List PV :=
  match atV vs f, atV vs t with
  | some x, some y => if s.size ≤ 32 ∧ flB x.lab y.lab = true ∧ ¬ mostV y.gst ≤ y.L.length then vs.set t.toNat ⟨y.lab, y.gst, y.L ++ [s]⟩ else vs
  | _, _ => vs
/-- What an act on the ports leaves: its answer, and what can be seen. -/
def PPost (B pp : Nat) (gp : Option Addr) (cp : Nat) (ps0 : List Pt) (r : Value) (vs : List PV) (w : World) (e : Ending) (w' : World) : Prop :=
  ∃ ps, e = .returned r ∧ PSt w' B pp gp cp ps ∧ viewP ps = vs ∧ (∀ B0, B0 ≤ B → Below B0 w w') ∧ Mod (pblk gp ps0) w w' ∧ ∀ k ∈ pblk gp ps, k ∈ pblk gp ps0 ∨ w.heap.size ≤ k
theorem most_le (g : Int) : mostV g ≤ 64 := by unfold mostV; split <;> omega
theorem PSt.post {w w' : World} {B pp cp : Nat} {gp : Option Addr} {ps : List Pt} {r : Value} (h : PSt w B pp gp cp ps) (hb : Below w.heap.size w w') (hB : B ≤ w.heap.size) : PPost B pp gp cp ps r (viewP ps) w (.returned r) w' :=
  ⟨ps, rfl, h.below hb, rfl, fun B0 h0 => hb.mono (by omega), Mod.ofBelow hb, fun k hk => .inl hk⟩
/-- The ports with one row put anew. -/
theorem PSt.post_put {w W w' : World} {B pp cp g : Nat} {ps : List Pt} (h : PSt W B pp (some ⟨g, 0, none⟩) cp ps) (hb : Below w.heap.size w W) (hB : B ≤ w.heap.size) {i : Nat} (hi : i < ps.length) {r r' : Value} {e : Ending} {L : List ByteArray} (hp : PutPost r g (i * 3) B ps.length cp ps[i].a (ptF ps) L W e w') (hL : L.length ≤ 64) :
    e = .returned r ∧ PPost B pp (some ⟨g, 0, none⟩) cp ps r' ((viewP ps).set i ⟨ps[i].lab, ps[i].gst, L⟩) w (.returned r') w' := by
  obtain ⟨p, rfl, h1, h2, h3, h4, h5, h6, h7⟩ := h.put hi hp hL (Nat.le_trans hB hb.size)
  have hsz := hb.size
  refine ⟨rfl, ps.set i p, rfl, h4, ?_, fun B0 h0 => (hb.mono (by omega)).trans (h5 B0 h0), (Mod.ofBelow hb).trans h6, fun k hk => (h7 k hk).imp id (fun h0 => by omega)⟩
  rw [view_set, Pt.v, h1, h2, h3]
set_option maxHeartbeats 1600000 in
theorem send_any (B pp cp : Nat) (gp : Option Addr) (f t : Int) (s : ByteArray) (ps : List Pt) (w : World) (h : PSt w B pp gp cp ps) (hs : s.size ≤ maxLen) (hB : B ≤ w.heap.size) :
    Calls Try.prog 7 #[.pointer (some ⟨pp, 0, none⟩), .int .i64 f, .int .i64 t, .string s] w (PPost B pp gp cp ps (.tuple #[]) (sendV (viewP ps) f t s) w) := by
  unfold maxLen at hs
  have H := Lib.hid h
  by_cases hf : 0 ≤ f ∧ f < ps.length
  · obtain ⟨n, rfl⟩ := Int.eq_ofNat_of_zero_le hf.1
    have hn : n < ps.length := by omega
    obtain ⟨g, rfl⟩ := h.at_ hn
    have H1 := Lib.hid (at_in B pp g cp n ps w h hn)
    by_cases ht : 0 ≤ t ∧ t < ps.length
    · obtain ⟨m, rfl⟩ := Int.eq_ofNat_of_zero_le ht.1
      have hm : m < ps.length := by omega
      have hv : Hid (sendV (viewP ps) n m s = if s.size ≤ 32 ∧ flB ps[n].lab ps[m].lab = true ∧ ¬ mostV ps[m].gst ≤ ps[m].L.length then (viewP ps).set m ⟨ps[m].lab, ps[m].gst, ps[m].L ++ [s]⟩ else viewP ps) := by
        rw [Hid, sendV, atV_in ps n hn, atV_in ps m hm]; rfl
      have H2 := Lib.hid (at_in B pp g cp m ps w h hm)
      by_cases h32 : s.size ≤ 32
      · have c1 := (h.get hn).1
        have c2 := (h.get hm).1
        clear h hf ht
        have HF := Lib.hid (fun k => quiet_same (flows_any ps[n].lab ps[m].lab (w.drewN k)))
        generalize ps[n].lab = x at c1 hv HF
        have d1 : decide ((32 : Int) < (s.size : Int)) = false := by simp; omega
        cases hfl : flB x ps[m].lab
        · rw [hfl] at HF
          go_enter Try.func7, Try.ntmps7
          go_wp2_with fail
          refine H1.out.mono ?_; rintro e w' ⟨rfl, rfl⟩
          go_wp2_with fail
          refine H2.out.mono ?_; rintro e w' ⟨rfl, rfl⟩
          go_wp2_with fail
          go_quiet ((go_at_call 22; exact HF.out _))
          clear c1 c2
          go_wp2_with fail
          go_end0
          rw [hv.out, if_neg (by rw [hfl]; simp)]
          exact H.out.post (below_drewN (Below.refl _ _) _) hB
        · rw [hfl] at HF
          have HQ := Lib.hid (fun k => H.out.below (below_drewN (Below.refl _ w) k))
          go_enter Try.func7, Try.ntmps7
          go_wp2_with fail
          refine H1.out.mono ?_; rintro e w' ⟨rfl, rfl⟩
          go_wp2_with fail
          refine H2.out.mono ?_; rintro e w' ⟨rfl, rfl⟩
          go_wp2_with fail
          go_quiet ((go_at_call 22; exact HF.out _))
          clear c1 c2
          have h5 := HQ.out nq
          by_cases hfu : mostV ps[m].gst ≤ ps[m].L.length
          · go_wp2_with fail
            refine (put_no _ _ B _ _ _ _ _ _ _ _ _ h5.own (ptF_get ps m 1 hm (by omega)) (ptF_get ps m 2 hm (by omega)) (by have := h5.few _ (List.getElem_mem hm); omega) hfu).mono ?_; rintro e w7 ⟨rfl, hb7⟩
            go_wp2_with fail
            go_end0
            rw [hv.out, if_neg (by simp [hfu])]
            exact H.out.post (bmore (below_drewN (Below.refl _ _) _) hb7) hB
          · go_wp2_with fail
            refine (put_yes _ _ B _ _ _ _ _ _ _ _ _ h5.own (ptF_get ps m 1 hm (by omega)) (ptF_get ps m 2 hm (by omega)) (h5.rows m hm) (by have := h5.few _ (List.getElem_mem hm); omega) hfu hB).mono ?_; intro e w7 hp7
            obtain ⟨rfl, hp8⟩ := h5.post_put (r' := .tuple #[]) (below_drewN (Below.refl _ w) nq) hB hm hp7 (by have := most_le ps[m].gst; simp; omega)
            have HP8 := Lib.hid hp8
            clear hp7 hp8
            go_wp2_with fail
            go_end0
            rw [hv.out, if_pos ⟨h32, hfl, hfu⟩]
            exact HP8.out
      · have d1 : decide ((32 : Int) < (s.size : Int)) = true := by simp; omega
        go_enter Try.func7, Try.ntmps7
        go_wp2_with fail
        refine H1.out.mono ?_; rintro e w' ⟨rfl, rfl⟩
        go_wp2_with fail
        refine H2.out.mono ?_; rintro e w' ⟨rfl, rfl⟩
        go_wp2_with fail
        go_end0
        rw [hv.out, if_neg (by simp [h32])]
        exact H.out.post (Below.refl _ _) hB
    · have H2 := Lib.hid (at_out B pp cp _ t ps w h ht)
      have hv : Hid (sendV (viewP ps) n t s = viewP ps) := by rw [Hid, sendV, atV_out ps t ht, atV_in ps n hn]
      go_enter Try.func7, Try.ntmps7
      go_wp2_with fail
      refine H1.out.mono ?_; rintro e w' ⟨rfl, rfl⟩
      go_wp2_with fail
      refine H2.out.mono ?_; rintro e w' ⟨rfl, rfl⟩
      go_wp2_with fail
      go_end0
      rw [hv.out]
      exact H.out.post (Below.refl _ _) hB
  · have H1 := Lib.hid (at_out B pp cp _ f ps w h hf)
    have hv : Hid (sendV (viewP ps) f t s = viewP ps) := by rw [Hid, sendV, atV_out ps f hf]
    have hA : Hid (∃ q, Calls Try.prog 23 #[.pointer (some ⟨pp, 0, none⟩), .int .i64 t] w fun e w' => e = .returned (.pointer q) ∧ w = w') := by
      by_cases ht : 0 ≤ t ∧ t < ps.length
      · obtain ⟨m, rfl⟩ := Int.eq_ofNat_of_zero_le ht.1
        have hm : m < ps.length := by omega
        obtain ⟨g, rfl⟩ := h.at_ hm
        exact ⟨_, at_in B pp g cp m ps w h hm⟩
      · exact ⟨_, at_out B pp cp _ t ps w h ht⟩
    obtain ⟨q, hA⟩ := hA.out
    have HA := Lib.hid hA
    clear hA
    go_enter Try.func7, Try.ntmps7
    go_wp2_with fail
    refine H1.out.mono ?_; rintro e w' ⟨rfl, rfl⟩
    go_wp2_with fail
    refine HA.out.mono ?_; rintro e w' ⟨rfl, rfl⟩
    go_wp2_with fail
    go_end0
    rw [hv.out]
    exact H.out.post (Below.refl _ _) hB
/-- The inbox of that number. -/
def inbV (vs : List PV) (i : Int) : Option PV := (atV vs i).filter (fun p => p.gst != -1)
theorem inbox_in (B pp g cp n : Nat) (ps : List Pt) (w : World) (h : PSt w B pp (some ⟨g, 0, none⟩) cp ps) (hn : n < ps.length) (hg : ps[n].gst ≠ -1) : Calls Try.prog 25 #[.pointer (some ⟨pp, 0, none⟩), .int .i64 n] w fun e w' => e = .returned (.pointer (some ⟨g, n * 3, none⟩)) ∧ w = w' := by
  have H1 := Lib.hid (at_in B pp g cp n ps w h hn)
  have c1 := (h.get hn).2.1
  have d1 : (ps[n].gst == -1) = false := by simpa using hg
  clear h hg
  generalize ps[n].gst = y at c1 d1
  go_enter Try.func25, Try.ntmps25
  go_wp2_with fail
  refine H1.out.mono ?_; rintro e w' ⟨rfl, rfl⟩
  go_wp2_with fail
  go_ret
  exact ⟨rfl, rfl⟩
theorem inbox_no (B pp cp : Nat) (gp : Option Addr) (i : Int) (ps : List Pt) (w : World) (h : PSt w B pp gp cp ps) (hi : inbV (viewP ps) i = none) : Calls Try.prog 25 #[.pointer (some ⟨pp, 0, none⟩), .int .i64 i] w fun e w' => e = .returned (.pointer none) ∧ w = w' := by
  by_cases ht : 0 ≤ i ∧ i < ps.length
  · obtain ⟨m, rfl⟩ := Int.eq_ofNat_of_zero_le ht.1
    have hm : m < ps.length := by omega
    obtain ⟨g, rfl⟩ := h.at_ hm
    have H1 := Lib.hid (at_in B pp g cp m ps w h hm)
    have c1 := (h.get hm).2.1
    have hg : ps[m].gst = -1 := by
      rw [inbV, atV_in ps m hm] at hi
      simpa [Option.filter, Pt.v] using hi
    rw [hg] at c1
    clear h hi hg ht
    go_enter Try.func25, Try.ntmps25
    go_wp2_with fail
    refine H1.out.mono ?_; rintro e w' ⟨rfl, rfl⟩
    go_wp2_with fail
    go_ret
    exact ⟨rfl, rfl⟩
  · have H1 := Lib.hid (at_out B pp cp _ i ps w h ht)
    clear h hi ht
    go_enter Try.func25, Try.ntmps25
    go_wp2_with fail
    refine H1.out.mono ?_; rintro e w' ⟨rfl, rfl⟩
    go_wp2_with fail
    go_ret
    exact ⟨rfl, rfl⟩
theorem inb_some (ps : List Pt) (i : Int) (v : PV) (h : inbV (viewP ps) i = some v) : ∃ n : Nat, i = n ∧ ∃ hn : n < ps.length, ps[n].gst ≠ -1 ∧ v = ps[n].v := by
  by_cases ht : 0 ≤ i ∧ i < ps.length
  · obtain ⟨m, rfl⟩ := Int.eq_ofNat_of_zero_le ht.1
    have hm : m < ps.length := by omega
    rw [inbV, atV_in ps m hm] at h
    obtain ⟨h1, h2⟩ := Option.filter_eq_some_iff.1 h
    injection h1 with h1
    subst h1
    exact ⟨m, rfl, hm, by simpa [Pt.v] using h2, rfl⟩
  · rw [inbV, atV_out ps i ht] at h
    cases h
def waitsV (vs : List PV) (i : Int) : Nat := match inbV vs i with
  | some v => v.L.length
  | none => 0
theorem waits_any (B pp cp : Nat) (gp : Option Addr) (i : Int) (ps : List Pt) (w : World) (h : PSt w B pp gp cp ps) : Calls Try.prog 10 #[.pointer (some ⟨pp, 0, none⟩), .int .i64 i] w fun e w' => e = .returned (.int .i64 (waitsV (viewP ps) i)) ∧ w = w' := by
  cases hi : inbV (viewP ps) i with
  | none =>
    have H1 := Lib.hid (inbox_no B pp cp gp i ps w h hi)
    have hv : Hid (waitsV (viewP ps) i = 0) := by rw [Hid, waitsV, hi]
    clear h hi
    go_enter Try.func10, Try.ntmps10
    go_wp2_with fail
    refine H1.out.mono ?_; rintro e w' ⟨rfl, rfl⟩
    go_wp2_with fail
    go_ret
    exact ⟨by rw [hv.out]; rfl, rfl⟩
  | some v =>
    obtain ⟨n, rfl, hn, hg, rfl⟩ := inb_some ps i v hi
    obtain ⟨g, rfl⟩ := h.at_ hn
    have H1 := Lib.hid (inbox_in B pp g cp n ps w h hn hg)
    have c2 := (h.get hn).2.2
    have hv : Hid (waitsV (viewP ps) n = ps[n].L.length) := by rw [Hid, waitsV, hi]; rfl
    have hl := h.few _ (List.getElem_mem hn)
    clear h hi hg
    go_enter Try.func10, Try.ntmps10
    go_wp2_with fail
    refine H1.out.mono ?_; rintro e w' ⟨rfl, rfl⟩
    go_wp2_with fail
    go_ret
    exact ⟨by rw [hv.out]; rfl, rfl⟩
def outV (vs : List PV) (i : Int) : List ByteArray := match atV vs i with
  | some v => if v.gst = -1 then v.L else []
  | none => []
theorem out_any (B pp cp : Nat) (gp : Option Addr) (i : Int) (ps : List Pt) (w : World) (h : PSt w B pp gp cp ps) : Calls Try.prog 11 #[.pointer (some ⟨pp, 0, none⟩), .int .i64 i] w (ClonePost 9 1 (outV (viewP ps) i).length (strF (outV (viewP ps) i)) w) := by
  by_cases ht : 0 ≤ i ∧ i < ps.length
  · obtain ⟨n, rfl⟩ := Int.eq_ofNat_of_zero_le ht.1
    have hn : n < ps.length := by omega
    obtain ⟨g, rfl⟩ := h.at_ hn
    have H1 := Lib.hid (at_in B pp g cp n ps w h hn)
    have c1 := (h.get hn).2.1
    have c2 := (h.get hn).2.2
    have hl := h.few _ (List.getElem_mem hn)
    have HR := Lib.hid (h.rows n hn).rd
    by_cases hg : ps[n].gst = -1
    · have hv : Hid (outV (viewP ps) n = ps[n].L) := by rw [Hid, outV, atV_in ps n hn]; simp [Pt.v, hg]
      rw [hg] at c1
      clear h ht hg
      go_enter Try.func11, Try.ntmps11
      go_wp2_with fail
      refine H1.out.mono ?_; rintro e w' ⟨rfl, rfl⟩
      go_wp2_with fail
      refine (clones_any _ _ _ _ _ HR.out (str_one _) (by omega)).mono ?_; intro e w2 hcl
      rw [← hv.out] at hcl
      obtain ⟨a', c', rfl, hown, hb⟩ := hcl
      go_wp2_with fail
      go_ret
      exact ⟨a', c', rfl, hown, hb⟩
    · have hv : Hid (outV (viewP ps) n = []) := by rw [Hid, outV, atV_in ps n hn]; simp [Pt.v, hg]
      have d1 : (ps[n].gst != -1) = true := by simpa using hg
      clear h ht hg HR
      generalize ps[n].gst = y at c1 d1
      go_enter Try.func11, Try.ntmps11
      go_wp2_with fail
      refine H1.out.mono ?_; rintro e w' ⟨rfl, rfl⟩
      go_wp2_with fail
      go_ret
      rw [hv.out]
      exact ⟨none, 0, rfl, Own.nil _ _ _ _, Below.refl _ _⟩
  · have H1 := Lib.hid (at_out B pp cp _ i ps w h ht)
    have hv : Hid (outV (viewP ps) i = []) := by rw [Hid, outV, atV_out ps i ht]
    clear h ht
    go_enter Try.func11, Try.ntmps11
    go_wp2_with fail
    refine H1.out.mono ?_; rintro e w' ⟨rfl, rfl⟩
    go_wp2_with fail
    go_ret
    rw [hv.out]
    exact ⟨none, 0, rfl, Own.nil _ _ _ _, Below.refl _ _⟩
end Go.Proofs.Ytpccllgbccccnaa
