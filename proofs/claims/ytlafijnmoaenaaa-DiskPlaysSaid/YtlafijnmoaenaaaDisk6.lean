/- Package disk: Write; awake; bytes as a text. -/
import Derived.Test.YtlafijnmoaenaaaDisk5
import Derived.Laws.BytesArg
namespace Go.Proofs.Ytlafijnmoaenaaa
set_option linter.unusedVariables false
set_option linter.unusedSimpArgs false
set_option linter.unnecessarySimpa false
open Go.RowKit Go.Sort
set_option maxHeartbeats 400000
set_option maxRecDepth 100000

def writeF (R : List Rn) (lb : List Int) (who at_ : Int) (m : Nat) (s : List Int) (f : Nat → List Int) : Nat → List Int := if writeE R lb who at_ m = 0 then upd f at_.toNat s else f
theorem write_any (B dd tt cap lc mb n : Nat) (a la : Option Addr) (R : List Rn) (lb : List Int) (f : Nat → List Int) (who at_ : Int) (ba : Option Addr) (m c : Nat) (s : List Int) (hs : s.length = m) (hm : m ≤ 9223372036854775807) (w : World) (h : DS w B dd tt a cap R la lc lb mb n f) (hr : Rd w 1 ba m (bC s)) (hn : n < 1000000) :
    Calls Try.prog 10 #[.pointer (some ⟨dd, 0, none⟩), .int .i64 who, .int .i64 at_, .slice ba m c] w (DPost B dd tt a cap R la lc lb mb (n + 1) (.int .i64 (writeE R lb who at_ m)) (writeF R lb who at_ m s f) w) := by
  have H := Lib.hid h
  have HL := Lib.hid (label_any _ _ _ _ _ _ _ _ _ _ _ _ at_ w h)
  have HE : Hid (∀ w' r, Below w.heap.size w w' → DPost B dd tt a cap R la lc lb mb (n + 1) r f w (.returned r) w') := fun w' r hb => by
    have h1 := H.out.below hb
    exact ⟨rfl, ⟨h1.obj, h1.t, h1.lab, h1.m.mono (Nat.le_succ _), h1.own, h1.sec, h1.ge⟩, Mod.ofBelow hb⟩
  cases hw : (whoV R at_).2
  · have HV : Hid (writeE R lb who at_ m = 3) := by rw [Hid, writeE, hw]; rfl
    have hl : labV R lb at_ = (0, 3) := by rw [labV, hw]; rfl
    rw [hl] at HL
    clear h hw hl hr
    go_enter Try.func10, Try.ntmps10
    go_wp2_with fail
    refine HL.out.mono ?_; rintro e w1 ⟨rfl, hb⟩
    go_wp2_with fail
    go_ret
    rw [writeF, HV.out]
    exact HE.out _ _ hb
  · obtain ⟨h0, h32⟩ := whoV_lt h.t.ok hw
    obtain ⟨k, rfl⟩ := Int.eq_ofNat_of_zero_le h0
    have hl : labV R lb k = (lb.getD (whoV R k).1.toNat 0, 0) := by rw [labV, hw]; rfl
    rw [hl] at HL
    have HV : Hid (writeE R lb who k m = if flB who (lb.getD (whoV R k).1.toNat 0) then (if m = 16 then 0 else 1) else 8) := by rw [Hid, writeE, hw]; rfl
    generalize lb.getD (whoV R k).1.toNat 0 = l at HL HV
    have HR := Lib.hid hr
    clear h hw hl hr
    cases hfl : flB who l
    · rw [hfl] at HV
      have HFL := Lib.hid hfl
      go_enter Try.func10, Try.ntmps10
      go_wp2_with fail
      refine HL.out.mono ?_; rintro e w1 ⟨rfl, hb⟩
      go_wp2_with fail
      refine (flows_any who l w1).mono ?_; rw [HFL.out]; rintro e w' ⟨rfl, rfl⟩
      go_wp2_with fail
      go_ret
      rw [writeF, HV.out]
      exact HE.out _ _ hb
    · rw [hfl] at HV
      have HFL := Lib.hid hfl
      by_cases h16 : m = 16
      · subst h16
        have HS := Lib.hid hs
        clear hs hfl
        go_enter Try.func10, Try.ntmps10
        go_wp2_with fail
        refine HL.out.mono ?_; rintro e w1 ⟨rfl, hb⟩
        have H1 := Lib.hid (H.out.below hb)
        have HB1 := Lib.hid hb
        have HR1 := Lib.hid (HR.out.below hb)
        clear hb
        go_wp2_with fail
        refine (flows_any who l w1).mono ?_; rw [HFL.out]; rintro e w' ⟨rfl, rfl⟩
        go_wp2_with fail
        refine (put_any _ _ _ _ _ _ _ _ _ _ _ _ k (by omega) _ _ s HS.out w1 H1.out HR1.out hn).mono ?_; rintro e w3 ⟨rfl, hm3, ht3⟩
        have H3 := Lib.hid (H1.out.turn hm3 HS.out ht3)
        have HM3 : Hid (Mod [mb] w w3) := (Mod.ofBelow HB1.out).trans ht3
        clear hm3 ht3
        go_wp2_with fail
        go_ret
        rw [writeF, HV.out]
        exact ⟨rfl, by simpa using H3.out, HM3.out⟩
      · have ne : ((m : Int) != 16) = true := by simp; omega
        have hv1 : writeE R lb who k m = 1 := by have := HV.out; rw [if_pos rfl, if_neg h16] at this; exact this
        have HV1 := Lib.hid hv1
        clear hv1
        clear h16 hfl
        go_enter Try.func10, Try.ntmps10
        go_wp2_with fail
        refine HL.out.mono ?_; rintro e w1 ⟨rfl, hb⟩
        have HB1 := Lib.hid hb
        clear hb
        go_wp2_with fail
        refine (flows_any who l w1).mono ?_; rw [HFL.out]; rintro e w' ⟨rfl, rfl⟩
        go_wp2_with fail
        go_ret
        rw [writeF, HV1.out]
        exact HE.out _ _ HB1.out
theorem conv_rd {w : World} {a : Option Addr} {n : Nat} {s : List Int} (h : Rd w 1 a n (bC s)) (hl : s.length = n) (c : Nat) : (convert 22 9 (.slice a n c)).run Try.prog w = .ok (.string (strOfNums s)) w := by
  cases a with
  | none =>
    obtain rfl : n = 0 := h.2.1 rfl
    obtain rfl : s = [] := List.eq_nil_of_length_eq_zero hl
    rw [run_convert_bytes_nil w 22 5 Try.underlying22 Try.underlying5 0 c 9 Try.underlying9]
    rfl
  | some p =>
    rcases Nat.eq_zero_or_pos n with rfl | hn
    · obtain rfl : s = [] := List.eq_nil_of_length_eq_zero hl
      rw [run_convert_bytes_string w 22 9 5 (some p) 0 c Try.underlying22 Try.underlying5 Try.underlying9]
      simp [Conv.bytesToString, loadCells]
      all_goals rfl
    · obtain ⟨b, o, rfl, _, h3⟩ := h.2.2 p rfl (by intro h0; have := bC_len s; rw [h0] at this; simp at this; omega)
      refine run_convert_bytes_arg w 22 5 Try.underlying22 Try.underlying5 b o n c s hl (fun i hi => ?_) 9 Try.underlying9
      have := h3 i (.int .u8 s[i]) (by simp [bC, hl, hi])
      rw [this]
      simp [List.getD, hl, hi]
theorem rowI_rd {w : World} {a : Option Addr} {c : Nat} {xs : List Int} (h : RowI w .u8 (.slice a xs.length c) xs) : Rd w 1 a xs.length (bC xs) := by
  obtain ⟨_, _, e, _, _, q⟩ := h
  injection e with e1 e2 e3
  subst e1
  refine ⟨by simp [bC_len], fun h0 => ?_, fun p hp hx => ?_⟩
  · by_cases hn : xs = []
    · simp [hn]
    · obtain ⟨b, o, e, _⟩ := q hn
      rw [h0] at e; cases e
  · have hn : xs ≠ [] := by rintro rfl; exact hx rfl
    obtain ⟨b, o, rfl, hc⟩ := q hn
    injection hp with hp
    subst hp
    have hpos : 0 < xs.length := List.length_pos_iff.2 hn
    refine ⟨b, o, rfl, World.block_lt_of_cell? w ⟨b, o + 0, none⟩ (hc 0 hpos), fun j u hu => ?_⟩
    have hj : j < xs.length := by have := (List.getElem?_eq_some_iff.1 hu).1; rwa [bC_len] at this
    have : u = .int .u8 xs[j] := by simp [bC, hj] at hu; exact hu.symm
    rw [this]
    exact hc j hj
theorem rd_block {w : World} {b n size : Nat} {xs : List Value} {t : TypeId} (h : w.heap[b]? = some (.cells xs.toArray t (0, 0))) (hl : xs.length = n * size) : Rd w size (some ⟨b, 0, none⟩) n xs :=
  ⟨hl, by simp, fun p hp _ => by
    injection hp with hp
    subst hp
    exact ⟨b, 0, rfl, (Array.getElem?_eq_some_iff.1 h).1, fun j u hu => by rw [Nat.zero_add]; exact cell_at h j u (by simpa using hu)⟩⟩
theorem aw_new : newV 0 [] [(1, 0, 2)] = some [(0, 2, 0)] := by decide
theorem aw_rd0 : readE [(0, 2, 0)] [1] 0 0 = 8 := by decide +kernel
theorem aw_rd3 : readE [(0, 2, 0)] [1] 3 1 = 0 := by decide +kernel
theorem awake_any (w : World) : Calls Try.prog 13 #[] w fun e w' => e = .returned (.bool true) ∧ Below w.heap.size w w' := by
  have hb0 : Below w.heap.size w (w.alloc (.cells #[.int .i64 1, .int .i64 0, .int .i64 2] 45)) := (Below.refl _ _).alloc (Nat.le_refl _) _
  have HB0 := Lib.hid hb0
  have hR : Rd (w.alloc (.cells #[.int .i64 1, .int .i64 0, .int .i64 2] 45)) 3 (some ⟨w.heap.size, 0, none⟩) 1 (rgF [(1, 0, 2)]) := rd_block (xs := rgF [(1, 0, 2)]) (new_block w _ _ rfl) rfl
  have HR := Lib.hid hR
  clear hb0 hR
  go_enter Try.func13, Try.ntmps13
  go_wp2_with fail
  refine (dnew_any _ 1 [(1, 0, 2)] _ HR.out (by simp) (by simp [maxLen]) (by simp)).mono ?_
  intro e w1 h1
  rcases h1 with ⟨R, dd, tt, a, cap, la, lc, mb, hn, rfl, hd, hb, hg⟩ | ⟨hn, _⟩
  · rw [aw_new] at hn
    injection hn with hn
    subst hn
    have HD := Lib.hid hd
    have HB1 : Hid (Below w.heap.size w w1) := HB0.out.trans (hb.mono HB0.out.size)
    clear hd hb hg
    go_wp2_with fail
    refine (read_any _ _ _ _ _ _ _ _ _ _ _ _ 0 0 _ HD.out).mono ?_; rw [show readE [(0, 2, 0)] ([(1, 0, 2)].map (fun x : Rg => x.1)) 0 0 = 8 from aw_rd0]; rintro e w2 ⟨a2, m2, c2, rfl, _, hb2⟩
    have HD2 := Lib.hid (HD.out.below hb2)
    have HB2 : Hid (Below w.heap.size w w2) := bmore HB1.out hb2
    clear hb2
    go_wp2_with fail
    refine (read_any _ _ _ _ _ _ _ _ _ _ _ _ 3 1 _ HD2.out).mono ?_; rw [show readE [(0, 2, 0)] ([(1, 0, 2)].map (fun x : Rg => x.1)) 3 1 = 0 from aw_rd3]; rintro e w3 ⟨a3, m3, c3, rfl, h3, hb3⟩
    rw [if_pos rfl] at h3
    obtain ⟨rfl, _⟩ := h3
    have HB3 : Hid (Below w.heap.size w w3) := bmore HB2.out hb3
    clear hb3
    go_wp2_with fail
    go_ret
    exact ⟨rfl, HB3.out⟩
  · rw [aw_new] at hn
    cases hn
end Go.Proofs.Ytlafijnmoaenaaa
