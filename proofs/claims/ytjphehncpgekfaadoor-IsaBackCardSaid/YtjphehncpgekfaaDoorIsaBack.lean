/- The walk of IsaBack. -/
import Derived.Test.YtjphehncpgekfaaDoorIsaLaws
namespace Go.Proofs.YtjphehncpgekfaaDoor
open Go.RowKit
set_option maxHeartbeats 4000000
set_option maxRecDepth 100000

/-- The second half: any word. -/
def BackRest (x : Nat) : Prop := decB x = true → encW ((x : Int) % 64) ((x : Int) / 64 % 16) ((x : Int) / 1024 % 16) ((x : Int) / 16384 % 16) (decN x) = x ∧ encE ((x : Int) % 64) ((x : Int) / 64 % 16) ((x : Int) / 1024 % 16) ((x : Int) / 16384 % 16) (decN x) = 0
theorem back_rest (x : Nat) (hx : x < 4294967296) : BackRest x := fun h => by
  rw [decB] at h
  exact ⟨by rw [encW, h, if_pos rfl, dec_word x hx], by rw [encE, h]; rfl⟩

theorem back_walk (op d a b n : Int) (y : Nat) (hy : y < 4294967296) (w : World) (ht : Tab w) : Calls Tryd.prog 3 #[(.agg #[.int .i64 (op), .int .i64 (d), .int .i64 (a), .int .i64 (b), .int .i64 (n)]), .int .u32 y] w fun e w' => e = .returned (.bool true) ∧ Below w.heap.size w w' := by
  have HT0 := Lib.hid (alloc_tab ht (.cells #[.int .i64 (op), .int .i64 (d), .int .i64 (a), .int .i64 (b), .int .i64 (n)] 23))
  clear ht
  cases hv : validB op d a b n
  · have HE : Hid (encW op d a b n = 0 ∧ encE op d a b n = 6) := by simp [Hid, encW, encE, hv]
    go_enter Tryd.func3, Tryd.ntmps3
    go_wp2_with fail
    refine (encode_any _ _ _ _ _ _ HT0.out).mono ?_; rw [HE.out.1, HE.out.2]; rintro e w1 ⟨rfl, hb1⟩
    have hk1 := keepB hb1 (by simp) (new_block w _ _ rfl)
    have i0 := cell_at hk1 0 _ rfl; have i1 := cell_at hk1 1 _ rfl; have i2 := cell_at hk1 2 _ rfl; have i3 := cell_at hk1 3 _ rfl; have i4 := cell_at hk1 4 _ rfl
    have HT1 := Lib.hid (HT0.out.below hb1)
    clear hk1
    go_wp2_with fail
    refine (valid_any _ _ _ _ _ _ HT1.out).mono ?_; rw [hv]; rintro e w2 ⟨rfl, hb2⟩
    have HTa := Lib.hid (HT1.out.below hb2)
    have hbA : Below w.heap.size w w2 := ((Below.refl _ _).alloc (Nat.le_refl _) _).trans ((hb1.mono (by simp)).trans (hb2.mono (by have := hb1.size; simp at this; omega)))
    clear i0 i1 i2 i3 i4 hb1 hb2
    go_wp2_with fail
    · -- any word
      refine (decode_any y hy _ HTa.out).mono ?_; rintro e w4 ⟨he4, hb4⟩
      have HTb := Lib.hid (HTa.out.below hb4)
      cases hd : decB y
      · rw [hd] at he4
        obtain rfl := he4
        go_wp2_with fail
        have HTc := Lib.hid (alloc_tab HTb.out (.cells #[.int .i64 (0), .int .i64 (0), .int .i64 (0), .int .i64 (0), .int .i64 (0)] 23))
        refine (awake_any _ HTc.out).mono ?_; rintro e w5 ⟨rfl, hb5⟩
        go_wp2_with fail
        go_ret
        have s4 := hb4.size
        exact ⟨rfl, (hbA.trans (hb4.mono hbA.size)).trans (((Below.refl _ _).alloc (by have := hbA.size; omega) _).trans (hb5.mono (by have := hbA.size; simp; omega)))⟩
      · rw [hd] at he4
        obtain rfl := he4
        obtain ⟨r1, r2⟩ := back_rest y hy hd
        have R1 := Lib.hid r1; have R2 := Lib.hid r2
        have hd2 : validB ((y : Int) % 64) ((y : Int) / 64 % 16) ((y : Int) / 1024 % 16) ((y : Int) / 16384 % 16) (decN y) = true := hd
        clear r1 r2
        have HD2 := Lib.hid hd2; clear hd2
        generalize decN y = n2 at *
        have HTc := Lib.hid (alloc_tab HTb.out (.cells #[.int .i64 ((y : Int) % 64), .int .i64 ((y : Int) / 64 % 16), .int .i64 ((y : Int) / 1024 % 16), .int .i64 ((y : Int) / 16384 % 16), .int .i64 (n2)] 23))
        go_wp2_with fail
        refine (encode_any _ _ _ _ _ _ HTc.out).mono ?_; rw [R1.out, R2.out]; rintro e w5 ⟨rfl, hb5⟩
        have hk5 := keepB hb5 (by simp) (new_block w4 _ _ rfl)
        have k0 := cell_at hk5 0 _ rfl; have k1 := cell_at hk5 1 _ rfl; have k2 := cell_at hk5 2 _ rfl; have k3 := cell_at hk5 3 _ rfl; have k4 := cell_at hk5 4 _ rfl
        have HTd := Lib.hid (HTc.out.below hb5)
        clear hk5
        go_wp2_with fail
        refine (valid_any _ _ _ _ _ _ HTd.out).mono ?_; rw [HD2.out]; rintro e w6 ⟨rfl, hb6⟩
        have HTe := Lib.hid (HTd.out.below hb6)
        go_wp2_with fail
        refine (awake_any _ HTe.out).mono ?_; rintro e w7 ⟨rfl, hb7⟩
        go_wp2_with fail
        go_ret
        have s4 := hb4.size; have s5 := hb5.size; have s6 := hb6.size; have sA := hbA.size
        simp only [World.size_alloc] at s5
        exact ⟨rfl, (hbA.trans (hb4.mono hbA.size)).trans (((Below.refl _ _).alloc (by omega) _).trans ((hb5.mono (by simp; omega)).trans ((hb6.mono (by omega)).trans (hb7.mono (by omega)))))⟩
  · obtain ⟨x, hxw, hx, x0, x1, x2, x3, x4, x5⟩ := word_back hv
    have HE : Hid (encE op d a b n = 0) := by simp [Hid, encE, hv]
    have HW := Lib.hid hxw; clear hxw
    have hX : (if decB x then ((.agg #[.int .i64 ((x : Int) % 64), .int .i64 ((x : Int) / 64 % 16), .int .i64 ((x : Int) / 1024 % 16), .int .i64 ((x : Int) / 16384 % 16), .int .i64 (decN x)]) : Value) else (.agg #[.int .i64 (0), .int .i64 (0), .int .i64 (0), .int .i64 (0), .int .i64 (0)])) = (.agg #[.int .i64 (op), .int .i64 (d), .int .i64 (a), .int .i64 (b), .int .i64 (n)]) := by
      rw [x0, x1, x2, x3, x4, x5]; rfl
    have HX := Lib.hid hX
    have HX5 := Lib.hid x5
    clear x0 x1 x2 x3 x4 x5 hX
    go_enter Tryd.func3, Tryd.ntmps3
    go_wp2_with fail
    refine (encode_any _ _ _ _ _ _ HT0.out).mono ?_; rw [HE.out, HW.out]; rintro e w1 ⟨rfl, hb1⟩
    have hk1 := keepB hb1 (by simp) (new_block w _ _ rfl)
    have i0 := cell_at hk1 0 _ rfl; have i1 := cell_at hk1 1 _ rfl; have i2 := cell_at hk1 2 _ rfl; have i3 := cell_at hk1 3 _ rfl; have i4 := cell_at hk1 4 _ rfl
    have HT1 := Lib.hid (HT0.out.below hb1)
    have HK1 := Lib.hid hk1
    clear hk1
    go_wp2_with fail
    refine (valid_any _ _ _ _ _ _ HT1.out).mono ?_; rw [hv]; rintro e w2 ⟨rfl, hb2⟩
    have HT2 := Lib.hid (HT1.out.below hb2)
    have HK2 := Lib.hid (keepB hb2 (by have := hb1.size; simp at this; omega) HK1.out)
    clear i0 i1 i2 i3 i4
    go_wp2_with fail
    refine (decode_any x hx _ HT2.out).mono ?_; rintro e w3 ⟨he3, hb3⟩
    rw [HX.out, HX5.out] at he3
    obtain rfl := he3
    have hk3 := keepB hb3 (by have := hb1.size; have := hb2.size; simp at *; omega) HK2.out
    have i0 := cell_at hk3 0 _ rfl; have i1 := cell_at hk3 1 _ rfl; have i2 := cell_at hk3 2 _ rfl; have i3 := cell_at hk3 3 _ rfl; have i4 := cell_at hk3 4 _ rfl
    have HT3 := Lib.hid (HT2.out.below hb3)
    have hs3 : w.heap.size < w3.heap.size := by have := hb1.size; have := hb2.size; have := hb3.size; simp at *; omega
    clear hk3
    go_wp2_with fail
    have HTa := Lib.hid (alloc_tab HT3.out (.cells #[.int .i64 (op), .int .i64 (d), .int .i64 (a), .int .i64 (b), .int .i64 (n)] 23))
    have hbA : Below w.heap.size w (w3.alloc (.cells #[.int .i64 (op), .int .i64 (d), .int .i64 (a), .int .i64 (b), .int .i64 (n)] 23)) := (((Below.refl _ _).alloc (Nat.le_refl _) _).trans ((hb1.mono (by simp)).trans ((hb2.mono (by have := hb1.size; simp at this; omega)).trans (hb3.mono (by have := hb1.size; have := hb2.size; simp at *; omega))))).alloc (by omega) _
    clear i0 i1 i2 i3 i4 hb1 hb2 hb3 HK1 HK2 HT1 HT2 HT3 HE HX HX5 HW
    · -- any word
      refine (decode_any y hy _ HTa.out).mono ?_; rintro e w4 ⟨he4, hb4⟩
      have HTb := Lib.hid (HTa.out.below hb4)
      cases hd : decB y
      · rw [hd] at he4
        obtain rfl := he4
        go_wp2_with fail
        have HTc := Lib.hid (alloc_tab HTb.out (.cells #[.int .i64 (0), .int .i64 (0), .int .i64 (0), .int .i64 (0), .int .i64 (0)] 23))
        refine (awake_any _ HTc.out).mono ?_; rintro e w5 ⟨rfl, hb5⟩
        go_wp2_with fail
        go_ret
        have s4 := hb4.size
        exact ⟨rfl, (hbA.trans (hb4.mono hbA.size)).trans (((Below.refl _ _).alloc (by have := hbA.size; omega) _).trans (hb5.mono (by have := hbA.size; simp; omega)))⟩
      · rw [hd] at he4
        obtain rfl := he4
        obtain ⟨r1, r2⟩ := back_rest y hy hd
        have R1 := Lib.hid r1; have R2 := Lib.hid r2
        have hd2 : validB ((y : Int) % 64) ((y : Int) / 64 % 16) ((y : Int) / 1024 % 16) ((y : Int) / 16384 % 16) (decN y) = true := hd
        clear r1 r2
        have HD2 := Lib.hid hd2; clear hd2
        generalize decN y = n2 at *
        have HTc := Lib.hid (alloc_tab HTb.out (.cells #[.int .i64 ((y : Int) % 64), .int .i64 ((y : Int) / 64 % 16), .int .i64 ((y : Int) / 1024 % 16), .int .i64 ((y : Int) / 16384 % 16), .int .i64 (n2)] 23))
        go_wp2_with fail
        refine (encode_any _ _ _ _ _ _ HTc.out).mono ?_; rw [R1.out, R2.out]; rintro e w5 ⟨rfl, hb5⟩
        have hk5 := keepB hb5 (by simp) (new_block w4 _ _ rfl)
        have k0 := cell_at hk5 0 _ rfl; have k1 := cell_at hk5 1 _ rfl; have k2 := cell_at hk5 2 _ rfl; have k3 := cell_at hk5 3 _ rfl; have k4 := cell_at hk5 4 _ rfl
        have HTd := Lib.hid (HTc.out.below hb5)
        clear hk5
        go_wp2_with fail
        refine (valid_any _ _ _ _ _ _ HTd.out).mono ?_; rw [HD2.out]; rintro e w6 ⟨rfl, hb6⟩
        have HTe := Lib.hid (HTd.out.below hb6)
        go_wp2_with fail
        refine (awake_any _ HTe.out).mono ?_; rintro e w7 ⟨rfl, hb7⟩
        go_wp2_with fail
        go_ret
        have s4 := hb4.size; have s5 := hb5.size; have s6 := hb6.size; have sA := hbA.size
        simp only [World.size_alloc] at s5
        exact ⟨rfl, (hbA.trans (hb4.mono hbA.size)).trans (((Below.refl _ _).alloc (by omega) _).trans ((hb5.mono (by simp; omega)).trans ((hb6.mono (by omega)).trans (hb7.mono (by omega)))))⟩
end Go.Proofs.YtjphehncpgekfaaDoor
