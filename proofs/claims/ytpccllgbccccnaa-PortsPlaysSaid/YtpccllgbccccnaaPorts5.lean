/- The law's awake. -/
import Derived.Test.YtpccllgbccccnaaPorts4
namespace Go.Proofs.Ytpccllgbccccnaa
set_option linter.unusedVariables false
set_option linter.unusedSimpArgs false
set_option linter.unnecessarySimpa false
open Go.RowKit Go.Sort
set_option maxHeartbeats 400000
set_option maxRecDepth 100000

theorem len_any (B pp cp : Nat) (gp : Option Addr) (ps : List Pt) (w : World) (h : PSt w B pp gp cp ps) : Calls Try.prog 12 #[.pointer (some ⟨pp, 0, none⟩)] w fun e w' => e = .returned (.int .i64 (viewP ps).length) ∧ w = w' := by
  have c0 := h.obj.cell 0 _ rfl
  have h8 := h.len
  have hv : Hid ((viewP ps).length = ps.length) := by rw [Hid, viewP, List.length_map]
  clear h
  go_enter Try.func12, Try.ntmps12
  go_wp2
  go_ret
  exact ⟨by rw [hv.out]; rfl, rfl⟩
theorem new_rd {w : World} {b : Nat} {xs : List Value} {t : TypeId} {l : List Po} (h : w.heap[b]? = some (.cells xs.toArray t (0, 0))) (hx : xs = poF l) : Rd w 2 (some ⟨b, 0, none⟩) l.length (poF l) := by
  refine ⟨poF_len l, (fun h0 => by cases h0), fun p hp _ => ?_⟩
  injection hp with hp
  subst hp hx
  exact ⟨b, 0, rfl, (Array.getElem?_eq_some_iff.1 h).1, fun j u hu => by rw [Nat.zero_add]; exact cell_at h j u (by simpa using hu)⟩
set_option maxHeartbeats 1600000 in
theorem awake_any (w : World) : Calls Try.prog 15 #[] w fun e w' => e = .returned (.bool true) ∧ Below w.heap.size w w' := by
  go_enter Try.func15, Try.ntmps15
  go_wp2_with fail
  have hal : Below w.heap.size w (w.alloc (.cells #[.int .i64 1, .int .i64 0, .int .i64 3, .int .i64 1] 37)) := (Below.refl _ _).alloc (Nat.le_refl _) _
  refine (new_any w.heap.size (some ⟨w.heap.size, 0, none⟩) 2 [(1, 0), (3, 1)] _ (new_rd (b := w.heap.size) (new_block _ _ _ rfl) rfl) (by simp) (by simp [maxLen]) (by simp) (by simp) (by decide)).mono ?_; rintro e w1 ⟨pp, gp, cp, ps, rfl, hp1, hv1, hb1, -⟩
  have HP1 := Lib.hid hp1; have HV1 := Lib.hid hv1
  have HB1 := Lib.hid (bmore hal hb1)
  clear hp1 hv1 hb1 hal
  go_wp2_with fail
  refine (send_any _ _ _ _ _ _ _ _ _ HP1.out (by simp [maxLen, ByteArray.size]) HB1.out.size).mono ?_; rintro e w2 ⟨ps2, rfl, hp2, hv2, hb2, -, -⟩
  have HP2 := Lib.hid hp2; have HB2 := Lib.hid (HB1.out.trans (hb2 _ (Nat.le_refl _)))
  rw [HV1.out] at hv2
  have HV2 : Hid (viewP ps2 = [⟨1, 0, []⟩, ⟨3, 1, [⟨#[97]⟩]⟩]) := hv2.trans (by kernel_rfl)
  clear hp2 hb2 hv2 HP1 HB1 HV1
  go_wp2_with fail
  refine (send_any _ _ _ _ _ _ _ _ _ HP2.out (by simp [maxLen, ByteArray.size]) HB2.out.size).mono ?_; rintro e w3 ⟨ps3, rfl, hp3, hv3, hb3, -, -⟩
  have HP3 := Lib.hid hp3; have HB3 := Lib.hid (HB2.out.trans (hb3 _ (Nat.le_refl _)))
  rw [HV2.out] at hv3
  have HV3 : Hid (viewP ps3 = [⟨1, 0, []⟩, ⟨3, 1, [⟨#[97]⟩]⟩]) := hv3.trans (by kernel_rfl)
  clear hp3 hb3 hv3 HP2 HB2 HV2
  go_wp2_with fail
  refine (take_any _ _ _ _ _ _ _ HP3.out HB3.out.size).mono ?_; intro e w4 hp4
  rw [HV3.out, show takeV [⟨1, 0, []⟩, ⟨3, 1, [⟨#[97]⟩]⟩] 1 = ((⟨#[97]⟩, true), [⟨1, 0, []⟩, ⟨3, 1, []⟩]) from by kernel_rfl] at hp4
  obtain ⟨ps4, rfl, hp4, hv4, hb4, -, -⟩ := hp4
  have HP4 := Lib.hid hp4; have HB4 := Lib.hid (HB3.out.trans (hb4 _ (Nat.le_refl _)))
  have HV4 : Hid (viewP ps4 = [⟨1, 0, []⟩, ⟨3, 1, []⟩]) := hv4
  clear hp4 hb4 hv4 HP3 HB3 HV3
  have HW := Lib.hid (waits_any _ _ _ _ 0 _ _ HP4.out)
  rw [HV4.out, show waitsV [⟨1, 0, []⟩, ⟨3, 1, []⟩] 0 = 0 from by kernel_rfl] at HW
  have HN := Lib.hid (len_any _ _ _ _ _ _ HP4.out)
  rw [HV4.out] at HN
  go_wp2_with fail
  refine HW.out.mono ?_; rintro e w' ⟨rfl, rfl⟩
  go_wp2_with fail
  refine HN.out.mono ?_; rintro e w' ⟨rfl, rfl⟩
  go_wp2_with fail
  go_ret
  exact ⟨rfl, HB4.out⟩
end Go.Proofs.Ytpccllgbccccnaa
