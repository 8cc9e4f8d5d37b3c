/- The reference for asm: Program. -/
import Derived.Test.YtbemhbooihaadaaDoorAsW
namespace Go.Proofs.YtbemhbooihaadaaDoor
set_option linter.unusedVariables false
set_option linter.unusedSimpArgs false
set_option linter.unnecessarySimpa false
open Go.RowKit Go.Sort
set_option maxHeartbeats 2000000
set_option maxRecDepth 100000
set_option linter.unusedVariables false
/-- The count of lines ahead of place k. -/
def lnC (l : List UInt8) (k : Nat) : Nat := (l.take k).count 10 + (if k = l.length ∧ l ≠ [] ∧ l.getLast? ≠ some 10 then 1 else 0)
theorem lnC_zero (l : List UInt8) : lnC l 0 = 0 := by
  unfold lnC
  rw [if_neg (by rintro ⟨h1, h2, _⟩; exact h2 (List.eq_nil_of_length_eq_zero h1.symm))]; simp
theorem lnC_end (l : List UInt8) : lnC l l.length = (lnL l).length := by
  unfold lnC
  rw [lnL_len, List.take_length]
  simp
theorem lnC_step (l : List UInt8) (k : Nat) (h : k < l.length) : lnC l (k + 1) = lnC l k + (if l[k] = 10 ∨ k + 1 = l.length then 1 else 0) := by
  unfold lnC
  rw [List.take_succ_eq_append_getElem h, List.count_append, if_neg (c := k = l.length ∧ l ≠ [] ∧ l.getLast? ≠ some 10) (by omega)]
  have hne : l ≠ [] := by intro e; rw [e] at h; simp at h
  by_cases h1 : l[k] = 10
  · rw [if_pos (c := l[k] = 10 ∨ k + 1 = l.length) (.inl h1)]
    have : ¬ (k + 1 = l.length ∧ l ≠ [] ∧ l.getLast? ≠ some 10) := by
      rintro ⟨h2, _, h3⟩
      apply h3
      rw [List.getLast?_eq_getElem?, ← h2]
      simp only [Nat.add_sub_cancel]
      rw [List.getElem?_eq_getElem h, h1]
    rw [if_neg this, h1]; simp
  · by_cases h2 : k + 1 = l.length
    · rw [if_pos (c := l[k] = 10 ∨ k + 1 = l.length) (.inr h2)]
      have : k + 1 = l.length ∧ l ≠ [] ∧ l.getLast? ≠ some 10 := by
        refine ⟨h2, hne, ?_⟩
        rw [List.getLast?_eq_getElem?, ← h2]
        simp only [Nat.add_sub_cancel]
        rw [List.getElem?_eq_getElem h]
        intro e; injection e with e; exact h1 e
      rw [if_pos this]
      simp [h1]
    · rw [if_neg (c := l[k] = 10 ∨ k + 1 = l.length) (by rintro (h3 | h3) <;> contradiction), if_neg (by rintro ⟨h3, _⟩; exact h2 h3)]
      simp [h1]
theorem lnC_le (l : List UInt8) (k : Nat) (h : k ≤ l.length) : lnC l k ≤ k := by
  induction k with
  | zero => rw [lnC_zero]; exact Nat.le_refl _
  | succ k ih =>
    rw [lnC_step l k (by omega)]
    have := ih (by omega)
    split <;> omega
structure SQ (w W : World) (ao : Option Addr) (co : Nat) (done : Words) (ab : Option Addr) (cb : Nat) (cur : List UInt8) : Prop where
  o : Own W w.heap.size 56 1 ao done.length co (uC (done.map wdV))
  b : Own W w.heap.size 5 1 ab cur.length cb (bC cur)
  bel : Below w.heap.size w W
theorem SQ.below {w W W' : World} {ao ab : Option Addr} {co cb : Nat} {done : Words} {cur : List UInt8} (h : SQ w W ao co done ab cb cur) (hb : Below W.heap.size W W') : SQ w W' ao co done ab cb cur := ⟨h.o.below hb, h.b.below hb, h.bel.trans (hb.mono h.bel.size)⟩
theorem rprogram_any (s : ByteArray) (hs : s.size ≤ 100000000) (w : World) : Calls Tryd.prog 14 #[.string s] w (PgPost s.data.toList w) := by
  obtain ⟨iu, hiu, hzu, hzu1, hzu2⟩ := info_parts info_u32
  obtain ⟨ib, hib, hzb, hzb1, hzb2⟩ := info_parts info_byte
  obtain ⟨l, hl⟩ : ∃ l, l = s.data.toList := ⟨_, rfl⟩
  have hsl : l.length = s.size := by rw [hl, ba_len]
  obtain ⟨F, hF⟩ : ∃ F, F = fieldsC 10 l := ⟨_, rfl⟩
  rw [← hl]
  have HLG : Hid (pgLong l = (decide (16384 < s.size) || decide (512 < (lnL l).length))) := by rw [Hid, pgLong, hsl]
  have HPL : Hid (∀ w', pgLong l = true → Below w.heap.size w w' → PgPost l w (.returned (.tuple #[.slice none 0 0, .int .i64 10, .int .i64 0])) w') := fun w' h hb => pg_long h hb
  have HPM : Hid (∀ (w' : World) (done : Words) (cur : List UInt8) (r : Words), pgLong l = false → F = done ++ cur :: r → r ≠ [] → (∀ x ∈ done, wdB x = true) → wdB cur = false → Below w.heap.size w w' → PgPost l w (.returned (.tuple #[.slice none 0 0, .int .i64 6, .int .i64 ((done.length : Int) + 1)])) w') := fun w' done cur r h1 h2 h3 h4 h5 h6 => by
    subst hF
    obtain ⟨e1, e2, e3⟩ := mid_bad h2 h3 h4 h5
    exact pg_bad h1 e1 e2 e3 h6
  have HPE : Hid (∀ (w' : World) (done : Words) (cur : List UInt8), pgLong l = false → F = done ++ [cur] → (∀ x ∈ done, wdB x = true) → cur ≠ [] → Below w.heap.size w w' → PgPost l w (.returned (.tuple #[.slice none 0 0, .int .i64 6, .int .i64 ((done.length : Int) + 1)])) w') := fun w' done cur h1 h2 h4 h5 h6 => by
    subst hF
    obtain ⟨e1, e2, e3⟩ := end_bad h2 h4 h5
    exact pg_bad h1 e1 e2 e3 h6
  have HPG : Hid (∀ (w' : World) (a : Option Addr) (cap : Nat) (done : Words), pgLong l = false → F = done ++ [[]] → (∀ x ∈ done, wdB x = true) → Rd w' 1 a done.length (uC (done.map wdV)) → Below w.heap.size w w' → PgPost l w (.returned (.tuple #[.slice a done.length cap, .int .i64 0, .int .i64 0])) w') := fun w' a cap done h1 h2 h3 h4 h5 => by
    subst hF
    obtain ⟨e1, e2⟩ := end_good h2 h3
    exact pg_good h1 e2 (by rw [e1]) (by rw [e1]; exact h4) h5
  have HC0 := Lib.hid (lnC_zero l)
  have HCE := Lib.hid (lnC_end l)
  have HCS := Lib.hid (lnC_step l)
  have HCL := Lib.hid (lnC_le l)
  have HG : Hid (∀ k (h : k < l.length) (h' : k < s.size), l[k] = s[k]) := fun k h h' => by subst hl; exact ba_get s k h'
  have HDR : Hid (∀ k (h : k < s.size), l.drop k = s[k] :: l.drop (k + 1)) := fun k h => by
    rw [List.drop_eq_getElem_cons (show k < l.length by omega), HG.out k (by omega) h]
  have HDE : Hid (l.drop s.size = []) := List.drop_eq_nil_of_le (by omega)
  have HF := Lib.hid hF
  have HSL := Lib.hid hsl
  have HS0 : Hid (SQ w w none 0 [] none 0 []) := ⟨Own.nil _ _ _ _, Own.nil _ _ _ _, Below.refl _ _⟩
  clear hl hsl hF
  go_enter Tryd.func14, Tryd.ntmps14
  go_wp2
  go_loop [5, 6] (fun n i => ∃ k : Nat, k ≤ s.size ∧ i = .int .i64 k ∧ n = .int .i64 (lnC l k)) (fun _ i => s.size - (intOf i).toNat)
  case atStart => exact ⟨0, by omega, rfl, by rw [HC0.out]; rfl⟩
  case round =>
    obtain ⟨k, hk, rfl, rfl⟩ := hrel
    by_cases hlt : k < s.size
    · have hlk : k < l.length := by rw [HSL.out]; exact hlt
      have hst := HCS.out k hlk
      rw [HG.out k hlk hlt, HSL.out] at hst
      have HST := Lib.hid hst
      have hle := HCL.out k (by omega)
      clear hst
      generalize lnC l k = c at HST hle ⊢
      have d1 : decide ((k : Int) < (s.size : Int)) = true := decide_eq_true (by omega)
      have d1' : decide (k < s.size) = true := decide_eq_true hlt
      have w1 : IntKind.i64.wrap ((k : Int) + 1) = (k : Int) + 1 := by rw [IntKind.wrap_i64]; omega
      have w2 : IntKind.i64.wrap ((s.size : Int) - 1) = (s.size : Int) - 1 := by rw [IntKind.wrap_i64]; omega
      have w3 : IntKind.i64.wrap ((c : Int) + 1) = (c : Int) + 1 := by rw [IntKind.wrap_i64]; omega
      have h10 : (s[k] = 10) ↔ s[k].toNat = 10 := ⟨fun e => by rw [e]; rfl, fun e => by rw [← UInt8.toNat_inj]; exact e⟩
      by_cases h1 : s[k].toNat = 10
      · have e1 : ((s[k].toNat : Int) == 10) = true := by simp [h1]
        have HN : Hid (lnC l (k + 1) = c + 1) := by rw [Hid, HST.out, if_pos (.inl (h10.2 h1))]
        clear h1 h10 hlk
        go_wp2
        go_round
        case rel => exact ⟨k + 1, by omega, by go_num, by rw [HN.out]; go_num⟩
        case measure => simp [intOf]; omega
      · have e1 : ((s[k].toNat : Int) == 10) = false := by rw [beq_eq_false_iff_ne]; omega
        by_cases h2 : k + 1 = s.size
        · have e2 : ((k : Int) == (s.size : Int) - 1) = true := by rw [beq_iff_eq]; omega
          have HN : Hid (lnC l (k + 1) = c + 1) := by rw [Hid, HST.out, if_pos (.inr h2)]
          clear h1 h10 hlk h2
          go_wp2
          go_round
          case rel => exact ⟨k + 1, by omega, by go_num, by rw [HN.out]; go_num⟩
          case measure => simp [intOf]; omega
        · have e2 : ((k : Int) == (s.size : Int) - 1) = false := by rw [beq_eq_false_iff_ne]; omega
          have HN : Hid (lnC l (k + 1) = c) := by rw [Hid, HST.out, if_neg (by rintro (h3 | h3); exact h1 (h10.1 h3); exact h2 h3)]; rfl
          clear h1 h10 hlk h2
          go_wp2
          go_round
          case rel => exact ⟨k + 1, by omega, by go_num, by rw [HN.out]⟩
          case measure => simp [intOf]; omega
    · obtain rfl : k = s.size := by omega
      have hce := HCE.out
      rw [HSL.out] at hce
      have HLC : Hid (lnC l s.size = (lnL l).length) := hce
      have hle := HCL.out s.size (by rw [HSL.out]; exact Nat.le_refl _)
      rw [HLC.out] at hle ⊢
      clear hce
      generalize (lnL l).length = c at HLG hle ⊢
      have d0 : decide ((s.size : Int) < (s.size : Int)) = false := decide_eq_false (by omega)
      by_cases h16 : 16384 < s.size
      · have d1 : decide ((s.size : Int) > 16384) = true := decide_eq_true (by omega)
        have d1' : decide (16384 < s.size) = true := decide_eq_true h16
        have HLO : Hid (pgLong l = true) := by rw [Hid, HLG.out, decide_eq_true h16]; rfl
        clear h16
        go_wp2_with fail
        go_ret3
        exact HPL.out _ HLO.out (Below.refl _ _)
      · have d1 : decide ((s.size : Int) > 16384) = false := decide_eq_false (by omega)
        have d1' : decide (16384 < s.size) = false := decide_eq_false h16
        by_cases h512 : 512 < c
        · have d2 : decide ((c : Int) > 512) = true := decide_eq_true (by omega)
          have d2' : decide (512 < c) = true := decide_eq_true h512
          have HLO : Hid (pgLong l = true) := by rw [Hid, HLG.out, decide_eq_true h512, Bool.or_true]
          clear h16 h512
          go_wp2_with fail
          go_ret3
          exact HPL.out _ HLO.out (Below.refl _ _)
        · have d2 : decide ((c : Int) > 512) = false := decide_eq_false (by omega)
          have d2' : decide (512 < c) = false := decide_eq_false h512
          have HLO : Hid (pgLong l = false) := by rw [Hid, HLG.out, decide_eq_false h512, decide_eq_false h16]; rfl
          clear h16 h512 HLG
          go_wp2_with fail
          go_loopw [7, 8, 9] (fun o v i wr => ∃ (k : Nat) (done : Words) (cur : List UInt8) (ao ab : Option Addr) (co cb : Nat), k ≤ s.size ∧ i = .int .i64 k ∧ o = .slice ao done.length co ∧ v = .slice ab cur.length cb ∧ SQ w wr ao co done ab cb cur ∧ done.length ≤ k ∧ cur.length ≤ k ∧ (∀ x ∈ done, wdB x = true) ∧ (∀ b ∈ cur, b ≠ 10) ∧ F = done ++ fieldsC 10 (cur ++ l.drop k)) (fun _ _ i _ => s.size - (intOf i).toNat)
          case atStart => exact ⟨0, [], [], none, none, 0, 0, by omega, rfl, rfl, rfl, HS0.out, Nat.le_refl _, Nat.le_refl _, by simp, by simp, HF.out⟩
          case round =>
            clear HS0
            obtain ⟨k, done, cur, ao, ab, co, cb, hk, rfl, rfl, rfl, hsp, hdl, hcl, hdn, hcn, hrel⟩ := hrel
            have SPH := Lib.hid hsp
            have HDN := Lib.hid hdn
            have HCN := Lib.hid hcn
            have HREL := Lib.hid hrel
            have hsz := hsp.bel.size
            clear hsp hdn hcn hrel
            by_cases hlt : k < s.size
            · have d3 : decide ((k : Int) < (s.size : Int)) = true := decide_eq_true (by omega)
              have d3' : decide (k < s.size) = true := decide_eq_true hlt
              have w1 : IntKind.i64.wrap ((k : Int) + 1) = (k : Int) + 1 := by rw [IntKind.wrap_i64]; omega
              have w2 : IntKind.i64.wrap ((done.length : Int) + 1) = (done.length : Int) + 1 := by rw [IntKind.wrap_i64]; omega
              have hx : s[k].toNat < 256 := s[k].toNat_lt
              by_cases h32 : s[k].toNat = 10
              · have hb32 : s[k] = 10 := by rw [← UInt8.toNat_inj]; exact h32
                have dn : ((s[k].toNat : Int) != 10) = false := by simp [h32]
                have HR2 : Hid (F = (done ++ [cur]) ++ fieldsC 10 ([] ++ l.drop (k + 1))) := by
                  rw [Hid, HREL.out, HDR.out k hlt, hb32, fieldsC_app 10 cur _ HCN.out, List.append_assoc]; rfl
                have hconv := run_own_str wr _ _ _ _ _ SPH.out.b
                have HW := fun W => Lib.hid (rword_any cur (by omega) W)
                clear hb32 h32
                cases hwd : wdB cur
                · have HBAD := fun w' hb => Lib.hid (HPM.out w' done cur (fieldsC 10 ([] ++ l.drop (k + 1))) HLO.out (by rw [HR2.out, List.append_assoc]; rfl) (fieldsC_ne 10 _) HDN.out hwd hb)
                  rw [hwd] at HW
                  clear hwd
                  go_wp2_with fail
                  refine ((HW _).out).mono ?_; rintro e w3 ⟨rfl, hb3⟩
                  have HB3 := Lib.hid (bmore SPH.out.bel hb3)
                  clear hb3
                  go_wp2_with fail
                  go_ret3
                  exact (HBAD _ HB3.out).out
                · have HWD := Lib.hid hwd
                  rw [hwd] at HW
                  clear hwd
                  obtain ⟨v, hv⟩ : ∃ v, Hid (v = wdV cur) := ⟨_, Lib.hid rfl⟩
                  rw [← hv.out] at HW
                  go_wp2_with fail
                  refine ((HW _).out).mono ?_; rintro e w3 ⟨rfl, hb3⟩
                  have SP3 := Lib.hid (SPH.out.below hb3)
                  have hs3 := SP3.out.bel.size
                  clear hb3
                  go_wp2_with (at_builtin; (refine wpList_own rfl (.tmp 65) (.tmp 67) 36 rfl w.heap.size 56 iu _ 1 4 Tryd.underlying36 hiu hzu hzu1 hzu2 rfl (by omega) ao done.length co (uC (done.map wdV)) rfl (SP3.out.o.below ((Below.refl _ _).alloc (Nat.le_refl _) _)) w3.heap.size [.int .u32 v] rfl (new_block _ _ _ rfl) rfl (by simp [Value.oneCell']) (by simp only [maxLen]; omega) (by omega) (by simp; omega) ?_); intro g' c' w4 hown1 hmod1 _; have HO := Lib.hid hown1; have HM : Hid (Mod (blk ao) w3 w4) := ((Mod.ofBelow ((Below.refl w3.heap.size w3).alloc (Nat.le_refl _) _)).trans hmod1); clear hown1 hmod1)
                  have SP4 : Hid (SQ w w4 (some ⟨g', 0, none⟩) c' (done ++ [cur]) none 0 []) := ⟨by rw [List.map_append, List.map_cons, List.map_nil, uC_snoc, List.length_append, ← hv.out]; exact HO.out, Own.nil _ _ _ _, SP3.out.bel.trans (HM.out.below (fun j hj => (SP3.out.o.ge j hj).1) hs3)⟩
                  go_roundw
                  case rel => exact ⟨k + 1, done ++ [cur], [], some ⟨g', 0, none⟩, none, c', 0, by omega, by go_num, by rw [List.length_append]; rfl, rfl, SP4.out, by simp; omega, by simp, fun x hx => by
                    rcases List.mem_append.1 hx with h | h
                    · exact HDN.out x h
                    · rw [List.mem_singleton.1 h]; exact HWD.out, by simp, HR2.out⟩
                  case measure => simp [intOf]; omega
              · have hb32 : s[k] ≠ 10 := fun e => h32 (by rw [e]; rfl)
                have dn : ((s[k].toNat : Int) != 10) = true := by simp; omega
                have HR2 : Hid (F = done ++ fieldsC 10 ((cur ++ [s[k]]) ++ l.drop (k + 1))) := by
                  rw [Hid, HREL.out, HDR.out k hlt, List.append_assoc]; rfl
                have HB2 : Hid (∀ b ∈ cur ++ [s[k]], b ≠ 10) := fun b hb => by
                  rcases List.mem_append.1 hb with h | h
                  · exact HCN.out b h
                  · rw [List.mem_singleton.1 h]; exact hb32
                clear hb32 h32
                go_wp2_with (at_builtin; (refine wpList_own rfl (.tmp 48) (.tmp 52) 75 rfl w.heap.size 5 ib _ 1 1 Tryd.underlying75 hib hzb hzb1 hzb2 rfl (by omega) ab cur.length cb (bC cur) rfl ((SPH.out.below ((Below.refl _ _).alloc (Nat.le_refl _) _)).b) wr.heap.size [.int .u8 (s[k].toNat : Int)] rfl (new_block _ _ _ rfl) rfl (by simp [Value.oneCell']) (by simp only [maxLen]; omega) (by omega) (by simp; omega) ?_); intro g' c' w2 hown1 hmod1 _; have HO := Lib.hid hown1; have HM : Hid (Mod (blk ab) wr w2) := ((Mod.ofBelow ((Below.refl wr.heap.size wr).alloc (Nat.le_refl _) _)).trans hmod1); clear hown1 hmod1)
                have SP2 : Hid (SQ w w2 ao co done (some ⟨g', 0, none⟩) c' (cur ++ [s[k]])) := ⟨SPH.out.o.mod HM.out (SPH.out.o.apart SPH.out.b (by decide)), by rw [bC_snoc, List.length_append]; exact HO.out, SPH.out.bel.trans (HM.out.below (fun j hj => (SPH.out.b.ge j hj).1) hsz)⟩
                go_roundw
                case rel => exact ⟨k + 1, done, cur ++ [s[k]], ao, some ⟨g', 0, none⟩, co, c', by omega, by go_num, rfl, by rw [List.length_append]; rfl, SP2.out, by omega, by simp; omega, HDN.out, HB2.out, HR2.out⟩
                case measure => simp [intOf]; omega
            · obtain rfl : k = s.size := by omega
              have d3 : decide ((s.size : Int) < (s.size : Int)) = false := decide_eq_false (by omega)
              have w2 : IntKind.i64.wrap ((done.length : Int) + 1) = (done.length : Int) + 1 := by rw [IntKind.wrap_i64]; omega
              have HR2 : Hid (F = done ++ [cur]) := by
                rw [Hid, HREL.out, HDE.out, List.append_nil, fieldsC_free 10 cur HCN.out]
              by_cases hc0 : cur.length = 0
              · have hcn : cur = [] := List.eq_nil_of_length_eq_zero hc0
                have dc : decide ((cur.length : Int) > 0) = false := decide_eq_false (by omega)
                have dc' : decide (0 < cur.length) = false := decide_eq_false (by omega)
                have HGD := Lib.hid (HPG.out wr ao co done HLO.out (by rw [HR2.out, hcn]) HDN.out SPH.out.o.rd SPH.out.bel)
                clear hc0 hcn
                go_wp2_with fail
                go_ret3
                exact HGD.out
              · have dc : decide ((cur.length : Int) > 0) = true := decide_eq_true (by omega)
                have dc' : decide (0 < cur.length) = true := decide_eq_true (by omega)
                have HBD := Lib.hid (HPE.out wr done cur HLO.out HR2.out HDN.out (fun e => hc0 (by rw [e]; rfl)) SPH.out.bel)
                clear hc0
                go_wp2_with fail
                go_ret3
                exact HBD.out
end Go.Proofs.YtbemhbooihaadaaDoor
