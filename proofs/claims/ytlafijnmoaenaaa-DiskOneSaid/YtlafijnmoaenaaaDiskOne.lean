/- The law DiskOne. -/
import Derived.Test.YtlafijnmoaenaaaDiskFlows
namespace Go.Proofs.Ytlafijnmoaenaaa
set_option linter.unusedVariables false
set_option linter.unusedSimpArgs false
set_option linter.unnecessarySimpa false
open Go.RowKit Go.Sort Go.ChangeShapes Go.WideShapes Go.ChangeAt
set_option maxHeartbeats 400000
set_option maxRecDepth 100000

def strF (l : List ByteArray) : List Value := l.map (fun s => Value.string s)
theorem flat_str : ∀ l : List ByteArray, (l.map (fun s => [Value.string s])).flatten = strF l
  | [] => rfl
  | x :: l => by rw [List.map_cons, List.flatten_cons, flat_str l]; rfl
theorem open_strs {H : Type} {enc : TypeId × Value → H} {W : World} {base : Nat} {v : Value} {d : DataW H} {p : List MemPlace} (hv : Value.okWide Try.prog W .any base 47 v) (h : DataW.Trod enc Try.prog W 0 (fun _ => true) true 47 v d p) :
    ∃ (a : Option Addr) (cap : Nat) (l : List ByteArray), v = .slice a l.length cap ∧ l.length ≤ cap ∧ cap ≤ maxLen ∧ Rd W 1 a l.length (strF l) ∧ ∀ x ∈ l, x.size ≤ maxLen := by
  obtain ⟨a, len, cap, xs, rfl, hle, hcm, hrd, hlf, _⟩ := open_rowF (n := 0) (N := 1) Try.underlying47 (by kernel_rfl) (by kernel_rfl) (by omega) hv h
  obtain ⟨l, rfl, rfl, hq⟩ := rows_of (fun s => [Value.string s]) (fun x => x.size ≤ maxLen) 1 (fun _ => rfl) len xs hrd.1 (fun i hi => by
    obtain ⟨u0, y0, m0, g0, t0⟩ := hlf i hi 0 9 (by omega) (by kernel_rfl)
    obtain ⟨s0, e0, _, hs⟩ := DataW.trod_string Try.underlying9 t0
    simp only [List.cons.injEq, and_true] at e0
    subst e0
    refine ⟨s0, hs, fun j hj => ?_⟩
    obtain rfl : j = 0 := by omega
    exact g0)
  exact ⟨a, cap, l, rfl, hle, hcm, by rw [← flat_str]; exact hrd, hq⟩
theorem str_at {w : World} {a : Option Addr} {l : List ByteArray} (h : Rd w 1 a l.length (strF l)) (k : Nat) (hk : k < l.length) : ∃ b o, a = some ⟨b, o, none⟩ ∧ b < w.heap.size ∧ w.cell? ⟨b, o + k, none⟩ = some (.string l[k]) := by
  have hne : strF l ≠ [] := by intro h0; simp [strF] at h0; subst h0; simp at hk
  have ha : a ≠ none := fun h0 => by have := h.2.1 h0; omega
  obtain ⟨p, rfl⟩ := Option.ne_none_iff_exists'.1 ha
  obtain ⟨b0, o0, rfl, hb, gc⟩ := h.2.2 p rfl hne
  exact ⟨b0, o0, rfl, hb, gc k _ (by simp [strF, hk])⟩
theorem info_str : (Try.prog.info? 9).map (fun i => (i.zero, i.size, i.bytes)) = some (some (.string ⟨#[]⟩), 1, 16) := by kernel_rfl
theorem DS.row {w w' : World} {B dd tt cap lc mb n : Nat} {a la : Option Addr} {R : List Rn} {lb : List Int} {f : Nat → List Int} (h : DS w B dd tt a cap R la lc lb mb n f) {B' m c : Nat} {ao : Option Addr} {xs : List Value} (ho : Own w B' 9 1 ao m c xs) (hm : Mod (blk ao) w w') : DS w' B dd tt a cap R la lc lb mb n f :=
  ⟨h.obj.mod hm (ho.ne h.obj (by decide)), h.t.mod hm (ho.ne h.t.obj (by decide)) (fun k hk hk2 => own_sep h.t.own ho (by decide) k hk hk2), h.lab.mod hm (fun k hk hk2 => own_sep h.lab ho (by decide) k hk hk2), h.m.mod hm (fun hk => h.notMap (ho.isC mb hk) rfl), h.own, h.sec, h.ge⟩
/-- The texts of the first sectors. -/
def oldS (f : Nat → List Int) (k : Nat) : List ByteArray := (List.range k).map (fun i => strOfNums (f i))
theorem oldS_succ (f : Nat → List Int) (k : Nat) : oldS f (k + 1) = oldS f k ++ [strOfNums (f k)] := by simp [oldS, List.range_succ]
theorem oldS_len (f : Nat → List Int) (k : Nat) : (oldS f k).length = k := by simp [oldS]
theorem oldS_get (f : Nat → List Int) (k i : Nat) (h : i < (oldS f k).length) : (oldS f k)[i] = strOfNums (f i) := by simp [oldS]
theorem writeF_other {R : List Rn} {lb : List Int} {who at_ : Int} {m : Nat} {s : List Int} {f : Nat → List Int} (hok : Okr 32 R) (i : Nat) (h : (i : Int) ≠ at_) : writeF R lb who at_ m s f i = f i := by
  unfold writeF
  split
  · rename_i he
    unfold writeE at he
    split at he
    · rename_i hw
      obtain ⟨h0, _⟩ := whoV_lt hok hw
      unfold upd
      rw [if_neg (by omega)]
    · cases he
  · rfl
set_option maxHeartbeats 8000000 in
theorem one_walk (ra : Option Addr) (rc : Nat) (l : List Rg) (who at_ : Int) (v3 : Value) (bs : List Int) (fa : Option Addr) (fc : Nat) (fl : List ByteArray) (w : World) (hr : Rd w 3 ra l.length (rgF l)) (hle : l.length ≤ rc) (hc : rc ≤ maxLen) (hb4 : RowI w .u8 v3 bs) (hf : Rd w 1 fa fl.length (strF fl)) (hfl : fl.length ≤ fc) (hfc : fc ≤ maxLen) :
    Calls Try.prog 5 #[.slice ra l.length rc, .int .i64 who, .int .i64 at_, v3, .slice fa fl.length fc] w fun e w' => e = .returned (.bool true) ∧ Below w.heap.size w w' := by
  obtain ⟨i0, hi0, hz0, hz1, hz2⟩ := info_parts info_str
  obtain ⟨ba, cb, rfl⟩ := hb4.form
  have hbl : bs.length ≤ 9223372036854775807 := by obtain ⟨_, _, e, q1, q2, _⟩ := hb4; unfold maxLen at q2; omega
  have hfll : fl.length ≤ 9223372036854775807 := by unfold maxLen at hfc; omega
  have HRB := Lib.hid (rowI_rd hb4)
  have HR := Lib.hid hr
  have HFS := Lib.hid hf
  have hll : l.length ≤ 9223372036854775807 := by unfold maxLen at hc; omega
  clear hr hb4 hf
  by_cases h8 : l.length ≤ 8
  · have HNEW := Lib.hid (dnew_any ra rc l w HR.out hle hc h8)
    go_enter Try.func5, Try.ntmps5
    go_wp2_with fail
    refine HNEW.out.mono ?_; intro e w1 h1
    rcases h1 with ⟨R, dd, tt, a, cap, la, lc, mb, hn, rfl, hd, hb, hg⟩ | ⟨hn, rfl, hb⟩
    · have HD := Lib.hid hd; have HB := Lib.hid hb
      clear hn hd hb hg HNEW
      generalize l.map (·.1) = lb at HD
      go_wp2_with fail
      go_loopw [13] (fun i wr => ∃ (k : Nat) (f : Nat → List Int), k ≤ 32 ∧ i = .int .i64 k ∧ DS wr w.heap.size dd tt a cap R la lc lb mb k f ∧ Below w.heap.size w wr) (fun i _ => 32 - (intOf i).toNat)
      case atStart => exact ⟨0, _, Nat.zero_le _, rfl, HD.out, HB.out⟩
      case round =>
        clear HD HB
        obtain ⟨k, f, hk, rfl, hd, hb⟩ := hrel
        have HD := Lib.hid hd; have HB := Lib.hid hb
        clear hd hb
        by_cases g1 : k < fl.length ∧ k < 32
        · have d1 : decide ((k : Int) < fl.length) = true := by simp; omega
          have d2 : decide ((k : Int) < 32) = true := by simp; omega
          obtain ⟨b0, o0, rfl, _, k0⟩ := str_at (HFS.out.below HB.out) k g1.1
          have hk0 : (0 : Int) ≤ k := by omega
          have hk1 : (k : Int) < (fl.length : Int) := by omega
          generalize fl[k] = s at k0
          go_wp2_with fail
          refine (fill_any _ _ _ _ _ _ _ _ _ _ _ _ _ s _ HD.out (by omega)).mono ?_; rintro e w2 ⟨rfl, hd2, hm2⟩
          have HD2 := Lib.hid hd2
          have HB2 : Hid (Below w.heap.size w w2) := HB.out.trans (hm2.below (fun k hk => by simp at hk; subst hk; exact HD.out.ge) HB.out.size)
          clear hd2 hm2 k0
          go_wp2_with fail
          go_roundw
          case rel => exact ⟨k + 1, _, by omega, by go_num, HD2.out, HB2.out⟩
          case measure => simp [intOf]; omega
        · have hfn := HD.out.sec
          by_cases g2 : k < fl.length
          · have d1 : decide ((k : Int) < fl.length) = true := by simp; omega
            have g3 : ¬ k < 32 := by omega
            have d2 : decide ((k : Int) < 32) = false := by simp; omega
            clear g1
            (
              have HO0 : Hid (Own wr w.heap.size 9 1 none 0 0 (strF (oldS f 0))) := Own.nil _ _ _ _
              go_wp2_with fail
              go_loopw [14, 15, 16, 17] (fun o i u1 u2 wj => ∃ (j : Nat) (ao : Option Addr) (co : Nat), j ≤ 32 ∧ i = .int .i64 j ∧ o = .slice ao j co ∧ Own wj w.heap.size 9 1 ao j co (strF (oldS f j)) ∧ DS wj w.heap.size dd tt a cap R la lc lb mb k f ∧ Below w.heap.size w wj) (fun o i u1 u2 _ => 32 - (intOf i).toNat)
              case atStart => exact ⟨0, none, 0, Nat.zero_le _, rfl, rfl, HO0.out, HD.out, HB.out⟩
              case round =>
                clear HD HB HO0
                obtain ⟨j, ao, co, hj, rfl, rfl, ho, hd, hb⟩ := hrel
                have HD := Lib.hid hd; have HB := Lib.hid hb; have HO := Lib.hid ho
                clear hd hb ho
                by_cases gj : j < 32
                · have dj : decide ((j : Int) < 32) = true := by simp; omega
                  have HI : Hid (inD (j : Int) = true) := by simp [Hid, inD]; omega
                  go_wp2_with fail
                  refine (bytes_any _ _ _ _ _ _ _ _ _ _ _ _ _ _ HD.out).mono ?_; rw [HI.out]; rintro e w2 ⟨a2, m2, c2, rfl, hif2, hb2⟩
                  have HD2 := Lib.hid (HD.out.below hb2)
                  have HO2 := Lib.hid (HO.out.below hb2)
                  have HB2 : Hid (Below w.heap.size w w2) := bmore HB.out hb2
                  (first | (rw [if_pos rfl] at hif2) | (simp only [if_true] at hif2))
                  obtain ⟨rfl, hown2⟩ := hif2
                  rw [Int.toNat_natCast] at hown2
                  have v2 := conv_rd hown2.rd (HD.out.sec j) c2
                  have HS := Lib.hid (oldS_succ f j)
                  clear hb2 hown2
                  generalize strOfNums (f j) = s at v2 HS
                  have hz2 := HB2.out.size
                  go_wp2_with (at_builtin; (refine wpList_own rfl (.tmp 67) (.tmp 70) 47 rfl w.heap.size 9 i0 _ 1 16 Try.underlying47 hi0 hz0 hz1 ‹i0.bytes = 16› rfl (by omega) ao j co (strF (oldS f j)) rfl (HO2.out.below ((Below.refl _ _).alloc (Nat.le_refl _) _)) w2.heap.size [.string s] rfl (new_block _ _ _ rfl) rfl (by simp [Value.oneCell']) (by simp only [maxLen]; omega) (by omega) (by simp; omega) ?_); intro g' co' w3 hown3 hmod3 _; have HM3 : Hid (Mod (blk ao) w2 w3) := ((Mod.ofBelow ((Below.refl w2.heap.size w2).alloc (Nat.le_refl _) _)).trans hmod3); have HO3 := Lib.hid hown3; clear hown3 hmod3)
                  have HD3 := Lib.hid (HD2.out.row HO2.out HM3.out)
                  have HB3 : Hid (Below w.heap.size w w3) := HB2.out.trans (HM3.out.below (fun q hq => (HO2.out.ge q hq).1) HB2.out.size)
                  have HO4 : Hid (Own w3 w.heap.size 9 1 (some ⟨g', 0, none⟩) (j + 1) co' (strF (oldS f (j + 1)))) := by rw [Hid, HS.out]; simpa [strF] using HO3.out
                  go_roundw
                  case rel => exact ⟨j + 1, some ⟨g', 0, none⟩, co', by omega, by go_num, rfl, HO4.out, HD3.out, HB3.out⟩
                  case measure => simp [intOf]; omega
                · obtain rfl : j = 32 := by omega
                  have HRO := Lib.hid (fun (i : Nat) (hi : (i : Int) ≠ at_) => writeF_other (lb := lb) (who := who) (m := bs.length) (s := bs) (f := f) HD.out.t.ok i hi)
                  have hle32 := HO.out.le
                  go_wp2_with fail
                  refine (write_any _ _ _ _ _ _ _ _ _ _ _ _ who _ _ bs.length _ bs rfl hbl _ HD.out (HRB.out.below HB.out) (by omega)).mono ?_; rintro e w5 ⟨rfl, hd5, hm5⟩
                  have HD5 := Lib.hid hd5
                  have HB5 : Hid (Below w.heap.size w w5) := HB.out.trans (hm5.below (fun q hq => by simp at hq; subst hq; exact HD.out.ge) HB.out.size)
                  have HR5 := Lib.hid (HD.out.ofMod hm5 HO.out).rd
                  clear hd5 hm5
                  generalize writeF R lb who at_ bs.length bs f = f2 at HRO HD5
                  go_wp2_with fail
                  go_loopw [18, 19, 20] (fun i u1 u2 wj => ∃ (j : Nat), j ≤ 32 ∧ i = .int .i64 j ∧ DS wj w.heap.size dd tt a cap R la lc lb mb (k + 1) f2 ∧ Below w5.heap.size w5 wj) (fun i u1 u2 _ => 32 - (intOf i).toNat)
                  case atStart => exact ⟨0, Nat.zero_le _, rfl, HD5.out, Below.refl _ _⟩
                  case round =>
                    clear HD HB HO HD5
                    obtain ⟨j, hj, rfl, hd, hb⟩ := hrel
                    have HD := Lib.hid hd; have HB := Lib.hid hb
                    clear hd hb
                    by_cases gj : j < 32
                    · have dj : decide ((j : Int) < 32) = true := by simp; omega
                      have HI : Hid (inD (j : Int) = true) := by simp [Hid, inD]; omega
                      go_wp2_with fail
                      refine (bytes_any _ _ _ _ _ _ _ _ _ _ _ _ _ _ HD.out).mono ?_; rw [HI.out]; rintro e w6 ⟨a6, m6, c6, rfl, hif6, hb6⟩
                      have HD6 := Lib.hid (HD.out.below hb6)
                      have HB6 : Hid (Below w5.heap.size w5 w6) := bmore HB.out hb6
                      (first | (rw [if_pos rfl] at hif6) | (simp only [if_true] at hif6))
                      obtain ⟨rfl, hown6⟩ := hif6
                      rw [Int.toNat_natCast] at hown6
                      by_cases ge : (j : Int) = at_
                      · have ne : ((j : Int) != at_) = false := by simpa using ge
                        clear ge hown6 hb6
                        go_wp2_with fail
                        go_quiet (fail)
                        obtain ⟨W7, hW7⟩ : ∃ W7, W7 = w6.drewN nq := ⟨_, rfl⟩
                        have hbw : Below w6.heap.size w6 W7 := by rw [hW7]; exact below_drewN (Below.refl _ _) nq
                        have HD7 := Lib.hid (HD6.out.below hbw)
                        have HB7 : Hid (Below w5.heap.size w5 W7) := bmore HB6.out hbw
                        rw [← hW7]
                        clear hW7 hbw
                        go_wp2_with fail
                        go_roundw
                        case rel => exact ⟨j + 1, by omega, by go_num, HD7.out, HB7.out⟩
                        case measure => simp [intOf]; omega
                      · have ne : ((j : Int) != at_) = true := by simpa using ge
                        have hfj := HRO.out j ge
                        rw [hfj] at hown6
                        have v6 := fun n => conv_rd (hown6.rd.below (below_drewN (Below.refl _ _) n)) (hfn j) c6
                        have hlen : (oldS f 32).length = 32 := oldS_len f 32
                        have HRX : Rd w5 1 ao (oldS f 32).length (strF (oldS f 32)) := by rw [hlen]; exact HR5.out
                        obtain ⟨bo, oo, rfl, _, k0⟩ := str_at (HRX.below HB6.out) j (by omega)
                        rw [oldS_get] at k0
                        have hj0 : (0 : Int) ≤ j := by omega
                        clear ge hown6 hb6 hfj hlen HRX
                        generalize strOfNums (f j) = s at v6 k0
                        go_wp2_with fail
                        go_quiet (fail)
                        obtain ⟨W7, hW7⟩ : ∃ W7, W7 = w6.drewN nq := ⟨_, rfl⟩
                        have hbw : Below w6.heap.size w6 W7 := by rw [hW7]; exact below_drewN (Below.refl _ _) nq
                        have HD7 := Lib.hid (HD6.out.below hbw)
                        have HB7 : Hid (Below w5.heap.size w5 W7) := bmore HB6.out hbw
                        rw [← hW7]
                        clear hW7 hbw v6 k0
                        go_wp2_with fail
                        go_roundw
                        case rel => exact ⟨j + 1, by omega, by go_num, HD7.out, HB7.out⟩
                        case measure => simp [intOf]; omega
                    · obtain rfl : j = 32 := by omega
                      go_wp2_with fail
                      refine (awake_any _).mono ?_; rintro e wz ⟨rfl, hbz⟩
                      go_wp2_with fail
                      go_ret
                      exact ⟨rfl, bmore (bmore HB5.out HB.out) hbz⟩
            )
          · have d1 : decide ((k : Int) < fl.length) = false := by simp; omega
            clear g1
            (
              have HO0 : Hid (Own wr w.heap.size 9 1 none 0 0 (strF (oldS f 0))) := Own.nil _ _ _ _
              go_wp2_with fail
              go_loopw [14, 15, 16, 17] (fun o i u1 u2 wj => ∃ (j : Nat) (ao : Option Addr) (co : Nat), j ≤ 32 ∧ i = .int .i64 j ∧ o = .slice ao j co ∧ Own wj w.heap.size 9 1 ao j co (strF (oldS f j)) ∧ DS wj w.heap.size dd tt a cap R la lc lb mb k f ∧ Below w.heap.size w wj) (fun o i u1 u2 _ => 32 - (intOf i).toNat)
              case atStart => exact ⟨0, none, 0, Nat.zero_le _, rfl, rfl, HO0.out, HD.out, HB.out⟩
              case round =>
                clear HD HB HO0
                obtain ⟨j, ao, co, hj, rfl, rfl, ho, hd, hb⟩ := hrel
                have HD := Lib.hid hd; have HB := Lib.hid hb; have HO := Lib.hid ho
                clear hd hb ho
                by_cases gj : j < 32
                · have dj : decide ((j : Int) < 32) = true := by simp; omega
                  have HI : Hid (inD (j : Int) = true) := by simp [Hid, inD]; omega
                  go_wp2_with fail
                  refine (bytes_any _ _ _ _ _ _ _ _ _ _ _ _ _ _ HD.out).mono ?_; rw [HI.out]; rintro e w2 ⟨a2, m2, c2, rfl, hif2, hb2⟩
                  have HD2 := Lib.hid (HD.out.below hb2)
                  have HO2 := Lib.hid (HO.out.below hb2)
                  have HB2 : Hid (Below w.heap.size w w2) := bmore HB.out hb2
                  (first | (rw [if_pos rfl] at hif2) | (simp only [if_true] at hif2))
                  obtain ⟨rfl, hown2⟩ := hif2
                  rw [Int.toNat_natCast] at hown2
                  have v2 := conv_rd hown2.rd (HD.out.sec j) c2
                  have HS := Lib.hid (oldS_succ f j)
                  clear hb2 hown2
                  generalize strOfNums (f j) = s at v2 HS
                  have hz2 := HB2.out.size
                  go_wp2_with (at_builtin; (refine wpList_own rfl (.tmp 67) (.tmp 70) 47 rfl w.heap.size 9 i0 _ 1 16 Try.underlying47 hi0 hz0 hz1 ‹i0.bytes = 16› rfl (by omega) ao j co (strF (oldS f j)) rfl (HO2.out.below ((Below.refl _ _).alloc (Nat.le_refl _) _)) w2.heap.size [.string s] rfl (new_block _ _ _ rfl) rfl (by simp [Value.oneCell']) (by simp only [maxLen]; omega) (by omega) (by simp; omega) ?_); intro g' co' w3 hown3 hmod3 _; have HM3 : Hid (Mod (blk ao) w2 w3) := ((Mod.ofBelow ((Below.refl w2.heap.size w2).alloc (Nat.le_refl _) _)).trans hmod3); have HO3 := Lib.hid hown3; clear hown3 hmod3)
                  have HD3 := Lib.hid (HD2.out.row HO2.out HM3.out)
                  have HB3 : Hid (Below w.heap.size w w3) := HB2.out.trans (HM3.out.below (fun q hq => (HO2.out.ge q hq).1) HB2.out.size)
                  have HO4 : Hid (Own w3 w.heap.size 9 1 (some ⟨g', 0, none⟩) (j + 1) co' (strF (oldS f (j + 1)))) := by rw [Hid, HS.out]; simpa [strF] using HO3.out
                  go_roundw
                  case rel => exact ⟨j + 1, some ⟨g', 0, none⟩, co', by omega, by go_num, rfl, HO4.out, HD3.out, HB3.out⟩
                  case measure => simp [intOf]; omega
                · obtain rfl : j = 32 := by omega
                  have HRO := Lib.hid (fun (i : Nat) (hi : (i : Int) ≠ at_) => writeF_other (lb := lb) (who := who) (m := bs.length) (s := bs) (f := f) HD.out.t.ok i hi)
                  have hle32 := HO.out.le
                  go_wp2_with fail
                  refine (write_any _ _ _ _ _ _ _ _ _ _ _ _ who _ _ bs.length _ bs rfl hbl _ HD.out (HRB.out.below HB.out) (by omega)).mono ?_; rintro e w5 ⟨rfl, hd5, hm5⟩
                  have HD5 := Lib.hid hd5
                  have HB5 : Hid (Below w.heap.size w w5) := HB.out.trans (hm5.below (fun q hq => by simp at hq; subst hq; exact HD.out.ge) HB.out.size)
                  have HR5 := Lib.hid (HD.out.ofMod hm5 HO.out).rd
                  clear hd5 hm5
                  generalize writeF R lb who at_ bs.length bs f = f2 at HRO HD5
                  go_wp2_with fail
                  go_loopw [18, 19, 20] (fun i u1 u2 wj => ∃ (j : Nat), j ≤ 32 ∧ i = .int .i64 j ∧ DS wj w.heap.size dd tt a cap R la lc lb mb (k + 1) f2 ∧ Below w5.heap.size w5 wj) (fun i u1 u2 _ => 32 - (intOf i).toNat)
                  case atStart => exact ⟨0, Nat.zero_le _, rfl, HD5.out, Below.refl _ _⟩
                  case round =>
                    clear HD HB HO HD5
                    obtain ⟨j, hj, rfl, hd, hb⟩ := hrel
                    have HD := Lib.hid hd; have HB := Lib.hid hb
                    clear hd hb
                    by_cases gj : j < 32
                    · have dj : decide ((j : Int) < 32) = true := by simp; omega
                      have HI : Hid (inD (j : Int) = true) := by simp [Hid, inD]; omega
                      go_wp2_with fail
                      refine (bytes_any _ _ _ _ _ _ _ _ _ _ _ _ _ _ HD.out).mono ?_; rw [HI.out]; rintro e w6 ⟨a6, m6, c6, rfl, hif6, hb6⟩
                      have HD6 := Lib.hid (HD.out.below hb6)
                      have HB6 : Hid (Below w5.heap.size w5 w6) := bmore HB.out hb6
                      (first | (rw [if_pos rfl] at hif6) | (simp only [if_true] at hif6))
                      obtain ⟨rfl, hown6⟩ := hif6
                      rw [Int.toNat_natCast] at hown6
                      by_cases ge : (j : Int) = at_
                      · have ne : ((j : Int) != at_) = false := by simpa using ge
                        clear ge hown6 hb6
                        go_wp2_with fail
                        go_quiet (fail)
                        obtain ⟨W7, hW7⟩ : ∃ W7, W7 = w6.drewN nq := ⟨_, rfl⟩
                        have hbw : Below w6.heap.size w6 W7 := by rw [hW7]; exact below_drewN (Below.refl _ _) nq
                        have HD7 := Lib.hid (HD6.out.below hbw)
                        have HB7 : Hid (Below w5.heap.size w5 W7) := bmore HB6.out hbw
                        rw [← hW7]
                        clear hW7 hbw
                        go_wp2_with fail
                        go_roundw
                        case rel => exact ⟨j + 1, by omega, by go_num, HD7.out, HB7.out⟩
                        case measure => simp [intOf]; omega
                      · have ne : ((j : Int) != at_) = true := by simpa using ge
                        have hfj := HRO.out j ge
                        rw [hfj] at hown6
                        have v6 := fun n => conv_rd (hown6.rd.below (below_drewN (Below.refl _ _) n)) (hfn j) c6
                        have hlen : (oldS f 32).length = 32 := oldS_len f 32
                        have HRX : Rd w5 1 ao (oldS f 32).length (strF (oldS f 32)) := by rw [hlen]; exact HR5.out
                        obtain ⟨bo, oo, rfl, _, k0⟩ := str_at (HRX.below HB6.out) j (by omega)
                        rw [oldS_get] at k0
                        have hj0 : (0 : Int) ≤ j := by omega
                        clear ge hown6 hb6 hfj hlen HRX
                        generalize strOfNums (f j) = s at v6 k0
                        go_wp2_with fail
                        go_quiet (fail)
                        obtain ⟨W7, hW7⟩ : ∃ W7, W7 = w6.drewN nq := ⟨_, rfl⟩
                        have hbw : Below w6.heap.size w6 W7 := by rw [hW7]; exact below_drewN (Below.refl _ _) nq
                        have HD7 := Lib.hid (HD6.out.below hbw)
                        have HB7 : Hid (Below w5.heap.size w5 W7) := bmore HB6.out hbw
                        rw [← hW7]
                        clear hW7 hbw v6 k0
                        go_wp2_with fail
                        go_roundw
                        case rel => exact ⟨j + 1, by omega, by go_num, HD7.out, HB7.out⟩
                        case measure => simp [intOf]; omega
                    · obtain rfl : j = 32 := by omega
                      go_wp2_with fail
                      refine (awake_any _).mono ?_; rintro e wz ⟨rfl, hbz⟩
                      go_wp2_with fail
                      go_ret
                      exact ⟨rfl, bmore (bmore HB5.out HB.out) hbz⟩
            )
    · have HB := Lib.hid hb
      clear hn hb HNEW
      go_wp2_with (go_at_call 13; refine (awake_any _).mono ?_; rintro e wz ⟨rfl, hbz⟩)
      go_ret
      exact ⟨rfl, bmore HB.out hbz⟩
  · have HNEW := Lib.hid (dnew_long ra l.length rc hll (by omega) w)
    go_enter Try.func5, Try.ntmps5
    go_wp2_with fail
    refine HNEW.out.mono ?_; rintro e w' ⟨rfl, rfl⟩
    go_wp2_with (go_at_call 13; refine (awake_any _).mono ?_; rintro e wz ⟨rfl, hbz⟩)
    go_ret
    exact ⟨rfl, hbz⟩
end Go.Proofs.Ytlafijnmoaenaaa
