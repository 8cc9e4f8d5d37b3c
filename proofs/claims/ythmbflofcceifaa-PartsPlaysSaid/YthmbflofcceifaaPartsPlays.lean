/- The law PartsPlays: the table beside the reference's. -/
import Derived.Test.YthmbflofcceifaaPartsRef3
import Derived.Test.YthmbflofcceifaaPartsAll
import Derived.Deep.RegionHeld3
namespace Go.Proofs.Ythmbflofcceifaa
set_option linter.unusedVariables false
set_option linter.unusedSimpArgs false
set_option linter.unnecessarySimpa false
open Go.RowKit Go.Sort
set_option maxHeartbeats 400000
set_option maxRecDepth 100000

theorem in_at {w : World} {a : Option Addr} {L : List Int} (h : Rd w 1 a L.length (inC L)) (k : Nat) (hk : k < L.length) : ∃ b o, a = some ⟨b, o, none⟩ ∧ w.cell? ⟨b, o + k, none⟩ = some (.int .i64 L[k]) := by
  have hne : inC L ≠ [] := by intro h0; have : (inC L).length = L.length := by simp [inC]
                              rw [h0] at this; simp at this; omega
  have ha : a ≠ none := fun h0 => by have := h.2.1 h0; omega
  obtain ⟨p, rfl⟩ := Option.ne_none_iff_exists'.1 ha
  obtain ⟨b, o, rfl, _, h3⟩ := h.2.2 p rfl hne
  exact ⟨b, o, rfl, h3 k _ (by simp [inC, hk])⟩
theorem ints_same (a a' : Option Addr) (c c' : Nat) (L : List Int) (w : World) (h : Rd w 1 a L.length (inC L)) (h' : Rd w 1 a' L.length (inC L)) (hl : L.length ≤ 100000) (hc : L.length ≤ c) (hc' : L.length ≤ c') :
    Calls Try.prog 20 #[.slice a L.length c, .slice a' L.length c'] w fun e w' => e = .returned (.bool true) ∧ Below w.heap.size w w' := by
  have hne : ((L.length : Int) != L.length) = false := by simp
  have H := Lib.hid h; have H' := Lib.hid h'
  clear h h'
  go_enter Try.func20, Try.ntmps20
  go_wp2
  go_loopw [5] (fun i wr => ∃ k : Nat, k ≤ L.length ∧ i = .int .i64 k ∧ Below w.heap.size w wr) (fun i _ => L.length - (intOf i).toNat)
  case atStart => exact ⟨0, by omega, rfl, Below.refl _ _⟩
  case round =>
    obtain ⟨k, hk, rfl, hb⟩ := hrel
    by_cases hlt : k < L.length
    · obtain ⟨b, o, rfl, k0⟩ := in_at (H.out.below hb) k hlt
      obtain ⟨b', o', rfl, q0⟩ := in_at (H'.out.below hb) k hlt
      generalize L[k] = x at k0 q0
      have hlt2 : decide ((k : Int) < L.length) = true := by simp; omega
      have hn : (x != x) = false := by simp
      have HB := Lib.hid hb
      clear hb
      go_wp2_with fail
      go_quiet (fail)
      go_wp2
      go_roundw
      case rel => exact ⟨k + 1, by omega, by go_num, below_drewN HB.out _⟩
      case measure => simp [intOf]; omega
    · have hlt2 : decide ((k : Int) < L.length) = false := by simp; omega
      have HB := Lib.hid hb
      clear hb
      go_wp2
      go_ret
      exact ⟨rfl, HB.out⟩
/-- Both tables, beside each other. -/
structure PI (w W : World) (tt : Nat) (a : Option Addr) (cap N : Nat) (R : List Rn) (rr : Nat) (ra : Option Addr) (rc : Nat) : Prop where
  p : TSt W w.heap.size tt a cap N R
  r : RT W w.heap.size rr ra rc (ownV R) N
  tt_ : w.heap.size ≤ tt
  rr_ : w.heap.size ≤ rr
  dj : ∀ k ∈ tt :: blk a, k ∉ rr :: blk ra
  hb : Below w.heap.size w W
namespace PI
variable {w W W' : World} {tt cap N rr rc : Nat} {a ra : Option Addr} {R : List Rn}
theorem below (h : PI w W tt a cap N R rr ra rc) (hb : Below W.heap.size W W') : PI w W' tt a cap N R rr ra rc := ⟨h.p.below hb, h.r.below hb, h.tt_, h.rr_, h.dj, bmore h.hb hb⟩
theorem rlt (h : PI w W tt a cap N R rr ra rc) : ∀ k ∈ rr :: blk ra, w.heap.size ≤ k ∧ k < W.heap.size := fun k hk => by
  rcases List.mem_cons.1 hk with rfl | hk
  · exact ⟨h.rr_, h.r.obj.lt⟩
  · exact h.r.own.ge k hk
theorem plt (h : PI w W tt a cap N R rr ra rc) : ∀ k ∈ tt :: blk a, w.heap.size ≤ k ∧ k < W.heap.size := fun k hk => by
  rcases List.mem_cons.1 hk with rfl | hk
  · exact ⟨h.tt_, h.p.obj.lt⟩
  · exact h.p.own.ge k hk
/-- Between the two gifts. -/
def Half (w W : World) (tt : Nat) (a : Option Addr) (cap N : Nat) (R R0 : List Rn) (rr : Nat) (ra : Option Addr) (rc : Nat) : Prop :=
  TSt W w.heap.size tt a cap N R ∧ RT W w.heap.size rr ra rc (ownV R0) N ∧ (∀ k ∈ tt :: blk a, k ∉ rr :: blk ra) ∧ (∀ k ∈ tt :: blk a, w.heap.size ≤ k ∧ k < W.heap.size) ∧ (∀ k ∈ rr :: blk ra, w.heap.size ≤ k ∧ k < W.heap.size) ∧ Below w.heap.size w W
theorem half {a' : Option Addr} {cap' : Nat} {R' : List Rn} (h : PI w W tt a cap N R rr ra rc) (ht : TSt W' w.heap.size tt a' cap' N R') (hm : Mod (tt :: blk a) W W') (hat : ∀ k ∈ blk a', k ∈ blk a ∨ W.heap.size ≤ k) : Half w W' tt a' cap' N R' R rr ra rc := by
  have hs := hm.size
  refine ⟨ht, h.r.mod hm (fun hk => h.dj rr hk (by simp)) (fun k hk hk2 => h.dj k hk2 (by simp [hk])), fun k hk hk2 => ?_, fun k hk => ?_, fun k hk => ?_, h.hb.trans (hm.below (fun k hk => (h.plt k hk).1) h.hb.size)⟩
  · rcases List.mem_cons.1 hk with rfl | hk
    · exact h.dj k (by simp) hk2
    · rcases hat k hk with h1 | h1
      · exact h.dj k (by simp [h1]) hk2
      · have := (h.rlt k hk2).2; omega
  · rcases List.mem_cons.1 hk with rfl | hk
    · exact ⟨h.tt_, by have := ht.obj.lt; omega⟩
    · exact ht.own.ge k hk
  · have := h.rlt k hk; omega
theorem Half.full {ra' : Option Addr} {rc' : Nat} {R0 : List Rn} (h : Half w W tt a cap N R R0 rr ra rc) (hr : RT W' w.heap.size rr ra' rc' (ownV R) N) (hm : Mod (rr :: blk ra) W W') (hat : ∀ k ∈ blk ra', k ∈ blk ra ∨ W.heap.size ≤ k) : PI w W' tt a cap N R rr ra' rc' := by
  obtain ⟨h1, h2, h3, h4, h5, h6⟩ := h
  refine ⟨h1.mod hm (h3 tt (by simp)) (fun k hk => h3 k (by simp [hk])), hr, (h4 tt (by simp)).1, (h5 rr (by simp)).1, fun k hk hk2 => ?_, h6.trans (hm.below (fun k hk => (h5 k hk).1) h6.size)⟩
  rcases List.mem_cons.1 hk2 with rfl | hk2
  · exact h3 k hk (by simp)
  · rcases hat k hk2 with h7 | h7
    · exact h3 k hk (by simp [h7])
    · have := (h4 k hk).2; omega
end PI
set_option maxHeartbeats 8000000 in
theorem plays_yes (N : Nat) (hN64 : N ≤ 64) (v1 v2 v3 : Value) (fs ms ws : List Int) (w : World) (h1 : RowI w .i64 v1 fs) (h2 : RowI w .i64 v2 ms) (h3 : RowI w .i64 v3 ws) :
    Calls Try.prog 6 #[.int .i64 N, v1, v2, v3] w fun e w' => e = .returned (.bool true) ∧ Below w.heap.size w w' := by
  obtain ⟨a1, c1, rfl⟩ := h1.form
  obtain ⟨a2, c2, rfl⟩ := h2.form
  obtain ⟨a3, c3, rfl⟩ := h3.form
  have hl1 : fs.length ≤ 9223372036854775807 := by obtain ⟨_, _, e, q1, q2, _⟩ := h1; unfold maxLen at q2; omega
  have hl2 : ms.length ≤ 9223372036854775807 := by obtain ⟨_, _, e, q1, q2, _⟩ := h2; unfold maxLen at q2; omega
  have hl3 : ws.length ≤ 9223372036854775807 := by obtain ⟨_, _, e, q1, q2, _⟩ := h3; unfold maxLen at q2; omega
  have H1 := Lib.hid h1; have H2 := Lib.hid h2; have H3 := Lib.hid h3
  clear h1 h2 h3
  go_enter Try.func6, Try.ntmps6
  go_wp2_with fail
  refine (tnew_yes N hN64 w).mono ?_; rintro e w1 ⟨rfl, ht1, hb1⟩
  have HT1 := Lib.hid ht1; have HB1 := Lib.hid hb1
  have hz1 := ht1.obj.lt
  clear ht1 hb1
  go_wp2_with fail
  refine (rnew_yes N hN64 w1).mono ?_; rintro e w2 ⟨ra0, rc0, rfl, hr2, hb2⟩
  have HI0 : Hid (PI w w2 w.heap.size none 0 N [] w1.heap.size ra0 rc0) := ⟨HT1.out.below hb2, hr2.mono (by omega), Nat.le_refl _, by omega, fun k hk hk2 => by
    rcases List.mem_cons.1 hk with rfl | hk
    · rcases List.mem_cons.1 hk2 with h | h
      · omega
      · have := (hr2.own.ge _ h).1; omega
    · simp [blk] at hk, bmore HB1.out hb2⟩
  generalize w.heap.size = tt at HI0 ⊢
  generalize w1.heap.size = rr at HI0 ⊢
  clear hr2 hb2 HT1 HB1 hz1
  go_wp2_with fail
  go_loopw [13, 14, 15, 16, 17] (fun i u2 u3 u4 u5 wr => ∃ (k : Nat) (a : Option Addr) (cap : Nat) (R : List Rn) (ra : Option Addr) (rc : Nat), k ≤ 80 ∧ i = .int .i64 k ∧ PI w wr tt a cap N R rr ra rc) (fun i _ _ _ _ _ => 80 - (intOf i).toNat)
  case atStart => exact ⟨0, none, 0, [], ra0, rc0, by omega, rfl, HI0.out⟩
  case round =>
    clear HI0
    obtain ⟨k, a, cap, R, ra, rc, hk, rfl, hi⟩ := hrel
    have HI := Lib.hid hi
    clear hi
    by_cases g1 : k < fs.length
    · have e1 : decide ((k : Int) < fs.length) = true := by simp; omega
      by_cases g2 : k < ms.length
      · have e2 : decide ((k : Int) < ms.length) = true := by simp; omega
        by_cases g3 : k < ws.length
        · have e3 : decide ((k : Int) < ws.length) = true := by simp; omega
          by_cases g4 : k < 80
          · have e4 : decide ((k : Int) < 80) = true := by simp; omega
            obtain ⟨b1, o1, rfl, L1, kx⟩ := row_at H1.out k g1
            obtain ⟨b2, o2, rfl, L2, ky⟩ := row_at H2.out k g2
            obtain ⟨b3, o3, rfl, L3, kz⟩ := row_at H3.out k g3
            generalize fs[k] = x at kx
            generalize ms[k] = y at ky
            generalize ws[k] = z at kz
            have KK : Hid (∀ W, Below w.heap.size w W → W.cell? ⟨b1, o1 + k, none⟩ = some (.int .i64 x) ∧ W.cell? ⟨b2, o2 + k, none⟩ = some (.int .i64 y) ∧ W.cell? ⟨b3, o3 + k, none⟩ = some (.int .i64 z)) := fun W hW => ⟨kx W hW, ky W hW, kz W hW⟩
            clear kx ky kz
            obtain ⟨kx, ky, kz⟩ := KK.out wr HI.out.hb
            have HID : Hid (PI w wr.drew tt a cap N R rr ra rc) := HI.out.below ((Below.refl _ _).drew)
            have hg0 : (0 : Int) ≤ k := by omega
            have hg1 : (k : Int) < (fs.length : Int) := by omega
            have hg2 : (k : Int) < (ms.length : Int) := by omega
            have hg3 : (k : Int) < (ws.length : Int) := by omega
            obtain ⟨gr, R2, hgv⟩ : ∃ gr R2, giveV N R x y z = (gr, R2) := ⟨_, _, rfl⟩
            have HGV := Lib.hid hgv
            have hgn : (gr != gr) = false := by simp
            have HOK := Lib.hid HI.out.p.ok
            clear hgv
            go_wp2_with fail
            go_region_held3 (fun w' => w'.cell? ⟨b1, o1 + k, none⟩ = some (.int .i64 x) ∧ w'.cell? ⟨b2, o2 + k, none⟩ = some (.int .i64 y) ∧ w'.cell? ⟨b3, o3 + k, none⟩ = some (.int .i64 z)) (first | (exact KK.out _ HI.out.hb) | (exact KK.out _ HID.out.hb) | (exact KK.out _ HH.out.2.2.2.2.2) | (exact KK.out _ HI2.out.hb)) (first | (go_at_call 10; refine (give_any _ _ _ _ _ _ x y z _ HID.out.p HID.out.hb.size).mono ?_; rw [HGV.out]; rintro e w3 ⟨a', cap', rfl, ht3, hm3, hat3⟩; have HH := Lib.hid (HID.out.half ht3 hm3 hat3); clear ht3 hm3 hat3) | (go_at_call 17; refine (rgive_any _ _ _ _ _ R x y z _ HOK.out HH.out.2.1 HH.out.2.2.2.2.2.size).mono ?_; rw [HGV.out]; rintro e w4 ⟨ra', rc', rfl, hr4, hm4, hat4⟩; have HI2 := Lib.hid (PI.Half.full HH.out hr4 hm4 hat4); clear hr4 hm4 hat4))
            clear kx ky kz
            obtain ⟨kx, ky, kz⟩ := KK.out w4 HI2.out.hb
            clear HID HH HGV HOK HI
            go_wp2_with fail
            refine (who_any _ _ _ _ _ _ x _ HI2.out.p).mono ?_; rintro e w5 ⟨rfl, hb5⟩
            have HI5 := Lib.hid (HI2.out.below hb5)
            clear hb5 HI2 kx ky kz
            obtain ⟨kx, ky, kz⟩ := KK.out w5 HI5.out.hb
            go_wp2_with fail
            refine (rwho_any _ _ _ _ _ _ x _ HI5.out.r).mono ?_; rw [who_same HI5.out.p.ok]; rintro e w' ⟨rfl, rfl⟩
            have HSS : Hid (∀ W, Below w5.heap.size w5 W → W.cell? ⟨b3, o3 + k, none⟩ = some (.int .i64 z) ∧ W.cell? ⟨rr, 0, none⟩ = some (.slice ra' N rc')) := fun W hb => ⟨(KK.out W (bmore HI5.out.hb hb)).2.2, (HI5.out.r.obj.below hb).cell 0 _ rfl⟩
            have HID : Hid (PI w w5.drew tt a' cap' N R2 rr ra' rc') := HI5.out.below ((Below.refl _ _).drew)
            have HNF := Lib.hid (neg_free _ _ _ rfl HI5.out.p.ok)
            have HOF := Lib.hid (of_all z _ _ _ rfl HI5.out.p.ok)
            have HRL := Lib.hid (runsV_rle HI5.out.p.ok)
            have hrb := (runsV_bd HI5.out.p.ok).1
            have hfew := HI5.out.p.ok.few
            have hob := ofV_bd z _ R2 rfl (fun r hr => by have := HI5.out.p.ok.each r hr; omega)
            have hob2 : (ofV z R2).length ≤ 100000 := by omega
            generalize whoV R2 x = wv
            obtain ⟨wa, wb⟩ := wv
            dsimp only
            have na : (wa != wa) = false := by simp
            have nb : (wb != wb) = false := by simp
            have nf : (freeV N R2 != freeV N R2) = false := by simp
            have nn : ((N : Int) != (N : Int)) = false := by simp
            obtain ⟨z1, z0⟩ := HSS.out w5 (Below.refl _ _)
            clear hob
            go_wp2_with fail
            go_region_held3 (fun w' => w'.cell? ⟨b3, o3 + k, none⟩ = some (.int .i64 z) ∧ w'.cell? ⟨rr, 0, none⟩ = some (.slice ra' N rc')) (first | (exact HSS.out _ (Below.refl _ _)) | (exact HSS.out _ ((Below.refl _ _).drew)) | (exact HSS.out _ hb12.out) | (exact HSS.out _ hb11.out) | (exact HSS.out _ hb10.out) | (exact HSS.out _ hb9.out) | (exact HSS.out _ hb8.out) | (exact HSS.out _ hb7.out) | (exact HSS.out _ hb6.out)) (first | (go_at_call 9; refine (free_any _ _ _ _ _ _ _ HID.out.p).mono ?_; rintro e w6 ⟨rfl, hb6'⟩; have hb6 : Hid (Below w5.heap.size w5 w6) := bmore ((Below.refl _ _).drew) hb6'; clear hb6') | (go_at_call 19; refine (rfree_any _ _ _ _ _ _ _ (HI5.out.r.below hb6.out) hN64).mono ?_; rw [HNF.out]; rintro e w' ⟨rfl, rfl⟩) | (go_at_call 14; refine (len_any _ _ _ _ _ _ _ (HI5.out.p.below hb6.out)).mono ?_; rintro e w' ⟨rfl, rfl⟩) | (go_at_call 15; refine (of_any _ _ _ _ _ _ z _ (HI5.out.p.below hb6.out)).mono ?_; rintro e w7 ⟨a7, c7, rfl, hown7, hb7'⟩; have hb7 : Hid (Below w5.heap.size w5 w7) := bmore hb6.out hb7'; have HO7 := Lib.hid hown7; have hl7 := hown7.le; clear hb7' hown7) | (go_at_call 21; refine (rof_any _ _ _ _ _ _ z _ (HI5.out.r.below hb7.out) hN64).mono ?_; rw [HOF.out]; rintro e w8 ⟨a8, c8, rfl, hown8, hb8'⟩; have hb8 : Hid (Below w5.heap.size w5 w8) := bmore hb7.out hb8'; have HO8 := Lib.hid hown8; have HR7 := Lib.hid ((HO7.out.below hb8').rd); have hl8 := hown8.le; clear hb8' hown8) | (go_at_call 20; refine (ints_same _ _ _ _ (ofV z R2) _ HR7.out HO8.out.rd hob2 hl7 hl8).mono ?_; rintro e w9 ⟨rfl, hb9'⟩; have hb9 : Hid (Below w5.heap.size w5 w9) := bmore hb8.out hb9'; clear hb9') | (go_at_call 8; refine (runs_any _ _ _ _ _ _ _ (HI5.out.p.below hb9.out)).mono ?_; rintro e w10 ⟨a10, c10, rfl, hown10, hb10'⟩; have hb10 : Hid (Below w5.heap.size w5 w10) := bmore hb9.out hb10'; have HO10 := Lib.hid hown10; have hl10 := hown10.le; clear hb10' hown10) | (go_at_call 22; refine (rruns_any _ _ _ _ _ _ _ _ (HI5.out.r.below hb10.out) hN64 HRL.out).mono ?_; rintro e w11 ⟨a11, c11, rfl, hown11, hb11'⟩; have hb11 : Hid (Below w5.heap.size w5 w11) := bmore hb10.out hb11'; have HO11 := Lib.hid hown11; have HR10 := Lib.hid ((HO10.out.below hb11').rd); have hl11 := hown11.le; clear hb11' hown11) | (go_at_call 11; refine (runs_same _ _ _ _ _ _ HR10.out HO11.out.rd (by omega) hl10 hl11).mono ?_; rintro e w12 ⟨rfl, hb12'⟩; have hb12 : Hid (Below w5.heap.size w5 w12) := bmore hb11.out hb12'; clear hb12'))
            have HI9 := Lib.hid (HI5.out.below hb12.out)
            clear HSS HID HNF HOF HRL HI5 hb12 na nb nf nn
            go_wp2_with fail
            go_roundw
            case rel => exact ⟨k + 1, a', cap', R2, ra', rc', by omega, by go_num, HI9.out⟩
            case measure => simp [intOf]; omega
          · have e4 : decide ((k : Int) < 80) = false := by simp; omega
            (
      go_wp2_with fail
      refine (awake_any _).mono ?_; rintro e wz ⟨rfl, hbz⟩
      go_wp2_with fail
      go_ret
      exact ⟨rfl, bmore HI.out.hb hbz⟩
)
        · have e3 : decide ((k : Int) < ws.length) = false := by simp; omega
          (
      go_wp2_with fail
      refine (awake_any _).mono ?_; rintro e wz ⟨rfl, hbz⟩
      go_wp2_with fail
      go_ret
      exact ⟨rfl, bmore HI.out.hb hbz⟩
)
      · have e2 : decide ((k : Int) < ms.length) = false := by simp; omega
        (
      go_wp2_with fail
      refine (awake_any _).mono ?_; rintro e wz ⟨rfl, hbz⟩
      go_wp2_with fail
      go_ret
      exact ⟨rfl, bmore HI.out.hb hbz⟩
)
    · have e1 : decide ((k : Int) < fs.length) = false := by simp; omega
      (
      go_wp2_with fail
      refine (awake_any _).mono ?_; rintro e wz ⟨rfl, hbz⟩
      go_wp2_with fail
      go_ret
      exact ⟨rfl, bmore HI.out.hb hbz⟩
)
theorem plays_walk (n : Int) (v1 v2 v3 : Value) (fs ms ws : List Int) (w : World) (h1 : RowI w .i64 v1 fs) (h2 : RowI w .i64 v2 ms) (h3 : RowI w .i64 v3 ws) :
    Calls Try.prog 6 #[.int .i64 n, v1, v2, v3] w fun e w' => e = .returned (.bool true) ∧ Below w.heap.size w w' := by
  by_cases hn : n < 0 ∨ 64 < n
  · have HN1 := Lib.hid (tnew_no n hn)
    have HN2 := Lib.hid (rnew_no n hn)
    clear hn h1 h2 h3
    go_enter Try.func6, Try.ntmps6
    go_wp2_with fail
    refine (HN1.out w).mono ?_; rintro e w' ⟨rfl, rfl⟩
    go_wp2_with fail
    refine (HN2.out w).mono ?_; rintro e w' ⟨rfl, rfl⟩
    go_wp2_with fail
    refine (awake_any _).mono ?_; rintro e wz ⟨rfl, hbz⟩
    go_wp2_with fail
    go_ret
    exact ⟨rfl, hbz⟩
  · obtain ⟨N, rfl⟩ := Int.eq_ofNat_of_zero_le (show 0 ≤ n by omega)
    exact plays_yes N (by omega) v1 v2 v3 fs ms ws w h1 h2 h3
end Go.Proofs.Ythmbflofcceifaa
