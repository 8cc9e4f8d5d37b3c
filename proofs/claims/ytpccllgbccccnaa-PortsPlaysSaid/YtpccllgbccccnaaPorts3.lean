/- The walks of package ports: Take, New; the law's own functions. -/
import Derived.Test.YtpccllgbccccnaaPorts2
namespace Go.Proofs.Ytpccllgbccccnaa
set_option linter.unusedVariables false
set_option linter.unusedSimpArgs false
set_option linter.unnecessarySimpa false
open Go.RowKit Go.Sort
set_option maxHeartbeats 400000
set_option maxRecDepth 100000

def takeV (vs : List PV) (i : Int) : (ByteArray × Bool) × List PV := match inbV vs i with
  | some ⟨_, _, []⟩ => ((⟨#[]⟩, false), vs)
  | some ⟨l, g, s :: L⟩ => ((s, true), vs.set i.toNat ⟨l, g, L⟩)
  | none => ((⟨#[]⟩, false), vs)
set_option maxHeartbeats 1600000 in
theorem take_any (B pp cp : Nat) (gp : Option Addr) (i : Int) (ps : List Pt) (w : World) (h : PSt w B pp gp cp ps) (hB : B ≤ w.heap.size) :
    Calls Try.prog 8 #[.pointer (some ⟨pp, 0, none⟩), .int .i64 i] w (PPost B pp gp cp ps (.tuple #[.string (takeV (viewP ps) i).1.1, .bool (takeV (viewP ps) i).1.2]) (takeV (viewP ps) i).2 w) := by
  have H := Lib.hid h
  cases hi : inbV (viewP ps) i with
  | none =>
    have H1 := Lib.hid (inbox_no B pp cp gp i ps w h hi)
    have hv : Hid (takeV (viewP ps) i = ((⟨#[]⟩, false), viewP ps)) := by rw [Hid, takeV, hi]
    clear h hi
    go_enter Try.func8, Try.ntmps8
    go_wp2_with fail
    refine H1.out.mono ?_; rintro e w' ⟨rfl, rfl⟩
    go_wp2_with fail
    go_ret2
    rw [hv.out]
    exact H.out.post (Below.refl _ _) hB
  | some v =>
    obtain ⟨n, rfl, hn, hg, rfl⟩ := inb_some ps i v hi
    obtain ⟨g, rfl⟩ := h.at_ hn
    have H1 := Lib.hid (inbox_in B pp g cp n ps w h hn hg)
    have c2 := (h.get hn).2.2
    have hl := h.few _ (List.getElem_mem hn)
    have hrow := h.rows n hn
    have H2 := Lib.hid (ptF_get ps n 2 hn (by omega))
    clear hg
    cases hL : ps[n].L with
    | nil =>
      have hv : Hid (takeV (viewP ps) n = ((⟨#[]⟩, false), viewP ps)) := by rw [Hid, takeV, hi]; simp [Pt.v, hL]
      rw [hL] at c2
      clear h hi hrow hL hl
      go_enter Try.func8, Try.ntmps8
      go_wp2_with fail
      refine H1.out.mono ?_; rintro e w' ⟨rfl, rfl⟩
      go_wp2_with fail
      go_ret2
      rw [hv.out]
      exact H.out.post (Below.refl _ _) hB
    | cons s L =>
      have hv : Hid (takeV (viewP ps) n = ((s, true), (viewP ps).set n ⟨ps[n].lab, ps[n].gst, L⟩)) := by rw [Hid, takeV, hi]; simp [Pt.v, hL]
      have H2 : Hid ((ptF ps)[n * 3 + 2]? = some (.slice ps[n].a (L.length + 1) ps[n].cap)) := by rw [Hid, H2.out]; simp [ptC, hL]
      rw [hL] at c2 hrow hl
      have hlen : L.length ≤ 63 := by simp at hl; omega
      have hcap := hrow.le
      obtain ⟨q, hq, _, _⟩ := hrow.at_ (by simp)
      rw [hq] at c2 hrow H2
      have k0 := hrow.cell 0 (.string s) rfl
      have hr1 := hrow.rd.cut (k := 1) (c := ps[n].cap) (by simp) hcap
      have hcap' : L.length + 1 ≤ ps[n].cap := hcap
      obtain ⟨cap, hcp⟩ : ∃ cap, cap = ps[n].cap := ⟨_, rfl⟩
      rw [← hcp] at c2 hrow H2 hr1 hcap'
      have hlen : (s :: L).length - 1 = L.length := rfl
      rw [hlen] at hr1
      have e2 : (strF (s :: L)).drop (1 * 1) = strF L := rfl
      rw [e2] at hr1
      clear h hi hL hl hcap hlen e2 hcp hrow
      by_cases h1 : cap = 1
      · obtain rfl : L = [] := List.eq_nil_of_length_eq_zero (by omega)
        subst h1
        rw [if_pos rfl] at hr1
        have HR := Lib.hid hr1
        clear hr1 hcap'
        have hlen : ([] : List ByteArray).length ≤ 64 := by simp
        (
      go_enter Try.func8, Try.ntmps8
      go_wp2_with fail
      refine H1.out.mono ?_; rintro e w' ⟨rfl, rfl⟩
      go_wp2_with fail
      refine (clones_any _ _ _ _ _ HR.out (str_one _) (by first | omega | simp)).mono ?_; rintro e w2 ⟨a', c', rfl, hown2, hb2⟩
      have hg2 := H.out.own.below hb2
      have d2 := hg2.cell _ _ H2.out
      have f2 := hg2.free (n * 3 + 2)
      have hap := hg2.apart hown2 (by decide)
      go_wp2_with fail
      go_ret2
      have hp : PutPost (.tuple #[.string s, .bool true]) g (n * 3) B ps.length cp ps[n].a (ptF ps) ([]) w (.returned (.tuple #[.string s, .bool true])) (w2.setCell ⟨g, n * 3 + 2, none⟩ (.slice a' ([]).length c')) :=
        ⟨a', c', rfl, hg2.set (j := n * 3 + 2) (by omega) _, (hown2.upd (Upd.setCell w2 ⟨g, n * 3 + 2, none⟩ _) (hap g (by simp [blk]))).mono hB, (Mod.ofBelow hb2).setCell ⟨g, n * 3 + 2, none⟩ _ (.inl (by simp)), fun k hk => .inr (hown2.ge k hk).1⟩
      rw [hv.out]
      exact (H.out.post_put (Below.refl _ w) hB hn hp (by first | omega | simp)).2
        )
      · rw [if_neg h1] at hr1
        have HR := Lib.hid hr1
        have hc1 : 1 < cap := by omega
        clear hr1 h1
        (
      go_enter Try.func8, Try.ntmps8
      go_wp2_with fail
      refine H1.out.mono ?_; rintro e w' ⟨rfl, rfl⟩
      go_wp2_with fail
      refine (clones_any _ _ _ _ _ HR.out (str_one _) (by first | omega | simp)).mono ?_; rintro e w2 ⟨a', c', rfl, hown2, hb2⟩
      have hg2 := H.out.own.below hb2
      have d2 := hg2.cell _ _ H2.out
      have f2 := hg2.free (n * 3 + 2)
      have hap := hg2.apart hown2 (by decide)
      go_wp2_with fail
      go_ret2
      have hp : PutPost (.tuple #[.string s, .bool true]) g (n * 3) B ps.length cp ps[n].a (ptF ps) (L) w (.returned (.tuple #[.string s, .bool true])) (w2.setCell ⟨g, n * 3 + 2, none⟩ (.slice a' (L).length c')) :=
        ⟨a', c', rfl, hg2.set (j := n * 3 + 2) (by omega) _, (hown2.upd (Upd.setCell w2 ⟨g, n * 3 + 2, none⟩ _) (hap g (by simp [blk]))).mono hB, (Mod.ofBelow hb2).setCell ⟨g, n * 3 + 2, none⟩ _ (.inl (by simp)), fun k hk => .inr (hown2.ge k hk).1⟩
      rw [hv.out]
      exact (H.out.post_put (Below.refl _ w) hB hn hp (by first | omega | simp)).2
        )
/-- The same texts: yes. -/
theorem texts_any (a1 a2 : Option Addr) (c1 c2 : Nat) (L : List ByteArray) (w : World) (h1 : Rd w 1 a1 L.length (strF L)) (h2 : Rd w 1 a2 L.length (strF L)) (hn : L.length ≤ 1000) (hc1 : L.length ≤ c1) (hc2 : L.length ≤ c2) :
    Calls Try.prog 14 #[.slice a1 L.length c1, .slice a2 L.length c2] w fun e w' => e = .returned (.bool true) ∧ Below w.heap.size w w' := by
  have H1 := Lib.hid h1; have H2 := Lib.hid h2
  clear h1 h2
  have nn : ((L.length : Int) != (L.length : Int)) = false := by simp
  go_enter Try.func14, Try.ntmps14
  go_wp2_with fail
  clear nn
  go_loopw [5] (fun i wr => ∃ k : Nat, k ≤ L.length ∧ i = .int .i64 k ∧ Below w.heap.size w wr) (fun i _ => L.length - (intOf i).toNat)
  case atStart => exact ⟨0, Nat.zero_le _, rfl, Below.refl _ _⟩
  case round =>
    obtain ⟨k, hk, rfl, hb⟩ := hrel
    have HB := Lib.hid hb
    clear hb
    by_cases hlt : k < L.length
    · have hne : strF L ≠ [] := by intro h0; simp [strF] at h0; subst h0; simp at hlt
      have g1 : a1 ≠ none := fun h0 => by have := H1.out.2.1 h0; omega
      have g2 : a2 ≠ none := fun h0 => by have := H2.out.2.1 h0; omega
      obtain ⟨p1, rfl⟩ := Option.ne_none_iff_exists'.1 g1
      obtain ⟨p2, rfl⟩ := Option.ne_none_iff_exists'.1 g2
      obtain ⟨b1, o1, rfl, _, k1⟩ := (H1.out.below HB.out).2.2 _ rfl hne
      obtain ⟨b2, o2, rfl, _, k2⟩ := (H2.out.below HB.out).2.2 _ rfl hne
      have k1 := k1 k (.string L[k]) (by simp [strF, hlt])
      have k2 := k2 k (.string L[k]) (by simp [strF, hlt])
      clear hne g1 g2
      generalize L[k] = s at k1 k2
      have hb0 : (0 : Int) ≤ k := by omega
      have hb1 : (k : Int) < (L.length : Int) := by omega
      go_wp2_with fail
      go_quiet (fail)
      clear k1 k2
      go_wp2_with fail
      go_roundw
      case rel => exact ⟨k + 1, by omega, by go_num, below_drewN HB.out _⟩
      case measure => simp [intOf]; omega
    · have hkl : k = L.length := by omega
      subst hkl
      go_wp2_with fail
      go_ret
      exact ⟨rfl, HB.out⟩
end Go.Proofs.Ytpccllgbccccnaa
