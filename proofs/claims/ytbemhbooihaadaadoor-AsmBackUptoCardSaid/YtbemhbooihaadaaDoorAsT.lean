/- The reference for asm: List. -/
import Derived.Test.YtbemhbooihaadaaDoorAsS
import Derived.Test.YtbemhbooihaadaaDoorAs9
namespace Go.Proofs.YtbemhbooihaadaaDoor
set_option linter.unusedVariables false
set_option linter.unusedSimpArgs false
set_option linter.unnecessarySimpa false
open Go.RowKit Go.Sort
set_option maxHeartbeats 2000000
set_option maxRecDepth 100000
set_option linter.unusedVariables false
theorem list_ref (a : Option Addr) (cap : Nat) (l : List Nat) (hl : ∀ x ∈ l, x < 4294967296) (w : World) (h : Rd w 1 a l.length (wC l)) (hcap : l.length ≤ maxLen) :
    Calls Tryd.prog 16 #[.slice a l.length cap] w fun e w' => e = .returned (.tuple #[.string (ba (lsV l)), .int .i64 (lsE l)]) ∧ Below w.heap.size w w' := by
  unfold maxLen at hcap
  by_cases h512 : 512 < l.length
  · have d1 : decide ((l.length : Int) > 512) = true := decide_eq_true (by omega)
    have d1' : decide (512 < l.length) = true := decide_eq_true h512
    have HV : Hid (lsV l = [] ∧ lsE l = 10) := ⟨by rw [lsV, if_pos h512], by rw [lsE, if_pos h512]⟩
    clear h512
    go_enter Tryd.func16, Tryd.ntmps16
    go_wp2
    go_ret2
    exact ⟨by rw [HV.out.1, HV.out.2]; rfl, Below.refl _ _⟩
  · have d1 : decide ((l.length : Int) > 512) = false := decide_eq_false (by omega)
    have d1' : decide (512 < l.length) = false := decide_eq_false h512
    have HV : Hid (lsV l = listL l ∧ lsE l = 0) := ⟨by rw [lsV, if_neg h512], by rw [lsE, if_neg h512]⟩
    have HGET : Hid (∀ k, (hk : k < l.length) → ∃ g o, a = some ⟨g, o, none⟩ ∧ g < w.heap.size ∧ w.cell? ⟨g, o + k, none⟩ = some (.int .u32 (l[k] : Int))) := fun k hk => by
      obtain ⟨g, o, h1, h2, h3⟩ := rd_get h (by omega)
      exact ⟨g, o, h1, h2, h3 k hk⟩
    have HL := Lib.hid hl
    have hl512 : l.length ≤ 512 := by omega
    clear hl h h512
    go_enter Tryd.func16, Tryd.ntmps16
    go_wp2
    go_loopw [4, 5] (fun s i wr => ∃ k : Nat, k ≤ l.length ∧ i = .int .i64 k ∧ s = .string (ba (listL (l.take k))) ∧ Below w.heap.size w wr) (fun _ i _ => l.length - (intOf i).toNat)
    case atStart => exact ⟨0, by omega, rfl, rfl, Below.refl _ _⟩
    case round =>
      obtain ⟨k, hk, rfl, rfl, hbe⟩ := hrel
      have HBE := Lib.hid hbe
      clear hbe
      by_cases hlt : k < l.length
      · obtain ⟨g, o, ha, hg, hc⟩ := HGET.out k hlt
        obtain ⟨x, hx⟩ : ∃ x, x = l[k] := ⟨_, rfl⟩
        have hxl : x < 4294967296 := by rw [hx]; exact HL.out _ (List.getElem_mem hlt)
        have htk : l.take (k + 1) = l.take k ++ [x] := by rw [hx]; exact List.take_succ_eq_append_getElem hlt
        have hlen := listL_len (l.take k) (fun y hy => HL.out y (List.mem_of_mem_take hy))
        have hlen2 := line_len x hxl
        rw [List.length_take] at hlen
        have hcr : ∀ W, Below wr.heap.size wr W → W.cell? ⟨g, o + k, none⟩ = some (.int .u32 (x : Int)) := fun W hW => by
          rw [(bmore HBE.out hW).cell (p := ⟨g, o + k, none⟩) hg, hc, hx]
        have HCR := Lib.hid hcr
        have hc0 := hcr wr (Below.refl _ _)
        obtain ⟨S, hS⟩ : ∃ S : ByteArray, Hid (S = ba (listL (l.take k))) := ⟨_, Lib.hid rfl⟩
        have zS : S.size ≤ 110000 := by rw [hS.out, ba_size]; omega
        rw [← hS.out]
        have HD := Lib.hid (Isa.Decode_ref x hxl wr)
        have w4 : IntKind.i64.wrap ((k : Int) + 1) = (k : Int) + 1 := by rw [IntKind.wrap_i64]; omega
        have w5 : IntKind.i64.wrap (x : Int) = (x : Int) := by rw [IntKind.wrap_i64]; omega
        subst ha
        clear hx hc hlen
        cases hb : Isa.decB x
        · obtain ⟨t, hT⟩ : ∃ t : ByteArray, Hid (t = ba (Lib.decDigits x)) := ⟨_, Lib.hid rfl⟩
          have z1 : t.size ≤ 30 := by rw [hT.out, ba_size]; exact dec_len x (by omega)
          have q1 : ¬ 9223372036854775807 < S.size + 6 := by omega
          have q2 : ¬ 9223372036854775807 < S.size + 6 + t.size := by omega
          have q3 : ¬ 9223372036854775807 < S.size + 6 + t.size + 1 := by omega
          have HNEW : Hid (((S ++ (⟨#[46, 119, 111, 114, 100, 32]⟩ : ByteArray)) ++ t) ++ (⟨#[10]⟩ : ByteArray) = ba (listL (l.take (k + 1)))) := by
            rw [Hid, htk, listL_snoc, hS.out, hT.out]
            unfold lineL
            rw [if_neg (by rw [hb]; simp)]
            unfold ba
            rw [show (⟨#[46, 119, 111, 114, 100, 32]⟩ : ByteArray) = ⟨wdP.toArray⟩ from rfl, show (⟨#[10]⟩ : ByteArray) = ⟨[10].toArray⟩ from rfl, ba_append, ba_append, ba_append]
            simp [List.append_assoc]
          have HDG : Hid (∀ W, Calls Tryd.prog 25 #[.int .i64 x] W fun e w' => e = .returned (.string t) ∧ Below W.heap.size W w') := fun W => by rw [hT.out]; exact digits_b x (by omega) W
          have HDP : Hid (∀ e w', Isa.DecPost x wr e w' → e = .returned (.tuple #[(.agg #[.int .i64 (0), .int .i64 (0), .int .i64 (0), .int .i64 (0), .int .i64 (0)]), .bool false]) ∧ Below wr.heap.size wr w') := fun e w' h => by
            obtain ⟨h1, h2⟩ := h
            rw [if_neg (by rw [hb]; simp), hb] at h1
            exact ⟨h1, h2⟩
          clear hb htk hlen2 hcr
          go_wp2_with fail
          refine HD.out.mono ?_; intro e w1 h1
          obtain ⟨rfl, hb1⟩ := HDP.out _ _ h1
          have HB1 : Hid (∀ o, Below wr.heap.size wr (w1.alloc o)) := fun o => hb1.alloc hb1.size _
          have HB2 : Hid (∀ o, Below w.heap.size w (w1.alloc o)) := fun o => bmore HBE.out (HB1.out o)
          have hc1 := HCR.out _ (HB1.out (.cells #[.int .i64 0, .int .i64 0, .int .i64 0, .int .i64 0, .int .i64 0] 23))
          clear h1 hb1
          go_wp2_with (go_at_call 25; refine (HDG.out _).mono ?_; rintro e w2 ⟨rfl, hb2⟩)
          rw [HNEW.out]
          have HB3 := Lib.hid (bmore (HB2.out _) hb2)
          clear hb2
          go_roundw
          case rel => exact ⟨k + 1, by omega, by go_num, rfl, HB3.out⟩
          case measure => simp [intOf]; omega
        · obtain ⟨t, hT⟩ : ∃ t : ByteArray, Hid (t = ba (lineL x)) := ⟨_, Lib.hid rfl⟩
          have z1 : t.size ≤ 200 := by rw [hT.out, ba_size]; exact hlen2
          have q1 : ¬ 9223372036854775807 < S.size + t.size := by omega
          have q2 : ¬ 9223372036854775807 < S.size + t.size + 1 := by omega
          have HNEW : Hid ((S ++ t) ++ (⟨#[10]⟩ : ByteArray) = ba (listL (l.take (k + 1)))) := by
            rw [Hid, htk, listL_snoc, hS.out, hT.out]
            unfold ba
            rw [show (⟨#[10]⟩ : ByteArray) = ⟨[10].toArray⟩ from rfl, ba_append, ba_append]
            simp [List.append_assoc]
          have HDP : Hid (∀ e w', Isa.DecPost x wr e w' → e = .returned (.tuple #[(.agg #[.int .i64 ((x : Int) % 64), .int .i64 ((x : Int) / 64 % 16), .int .i64 ((x : Int) / 1024 % 16), .int .i64 ((x : Int) / 16384 % 16), .int .i64 (Isa.decN x)]), .bool true]) ∧ Below wr.heap.size wr w') := fun e w' h => by
            obtain ⟨h1, h2⟩ := h
            rw [if_pos hb, hb] at h1
            exact ⟨h1, h2⟩
          have HTX : Hid (∀ W, ∃ er, Calls Tryd.prog 8 #[(.agg #[.int .i64 ((x : Int) % 64), .int .i64 ((x : Int) / 64 % 16), .int .i64 ((x : Int) / 1024 % 16), .int .i64 ((x : Int) / 16384 % 16), .int .i64 (Isa.decN x)])] W fun e w' => e = .returned (.tuple #[.string t, .int .i64 er]) ∧ Below W.heap.size W w') := fun W => ⟨_, by
            rw [hT.out]
            have := rtext_any ((x : Int) % 64) ((x : Int) / 64 % 16) ((x : Int) / 1024 % 16) ((x : Int) / 16384 % 16) (Isa.decN x) W
            unfold lineL
            rw [if_pos hb]
            exact this⟩
          clear hb htk hlen2 hcr
          obtain ⟨o', ho'⟩ : ∃ o, o = (x : Int) % 64 := ⟨_, rfl⟩
          obtain ⟨d', hd'⟩ : ∃ d, d = (x : Int) / 64 % 16 := ⟨_, rfl⟩
          obtain ⟨a', ha'⟩ : ∃ a, a = (x : Int) / 1024 % 16 := ⟨_, rfl⟩
          obtain ⟨b', hB'⟩ : ∃ b, b = (x : Int) / 16384 % 16 := ⟨_, rfl⟩
          obtain ⟨n', hn'⟩ : ∃ n, n = Isa.decN x := ⟨_, rfl⟩
          rw [← ho', ← hd', ← ha', ← hB', ← hn'] at HDP HTX
          clear ho' hd' ha' hB' hn'
          go_wp2_with fail
          refine HD.out.mono ?_; intro e w1 h1
          obtain ⟨rfl, hb1⟩ := HDP.out _ _ h1
          have HB1 : Hid (∀ o, Below wr.heap.size wr (w1.alloc o)) := fun o => hb1.alloc hb1.size _
          have HB2 : Hid (∀ o, Below w.heap.size w (w1.alloc o)) := fun o => bmore HBE.out (HB1.out o)
          clear h1 hb1
          go_wp2_with fail
          obtain ⟨er, hte⟩ := HTX.out (w1.alloc (.cells #[.int .i64 o', .int .i64 d', .int .i64 a', .int .i64 b', .int .i64 n'] 23))
          refine hte.mono ?_; rintro e w2 ⟨rfl, hb2⟩
          have HB3 := Lib.hid (bmore (HB2.out _) hb2)
          clear hb2 hte
          go_wp2_with fail
          rw [HNEW.out]
          go_roundw
          case rel => exact ⟨k + 1, by omega, by go_num, rfl, HB3.out⟩
          case measure => simp [intOf]; omega
      · obtain rfl : k = l.length := by omega
        rw [List.take_length]
        go_wp2_with fail
        go_ret2
        exact ⟨by rw [HV.out.1, HV.out.2]; rfl, HBE.out⟩
end Go.Proofs.YtbemhbooihaadaaDoor
