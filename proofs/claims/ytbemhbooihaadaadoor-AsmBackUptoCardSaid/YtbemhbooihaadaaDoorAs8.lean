/- Package asm: a word's text, a line's word. -/
import Derived.Test.YtbemhbooihaadaaDoorAs6
import Derived.Test.YtbemhbooihaadaaDoorAs7
import Derived.Test.YtbemhbooihaadaaDoorBld
import Derived.Test.YtbemhbooihaadaaDoorTxNum
namespace Go.Proofs.YtbemhbooihaadaaDoor
set_option linter.unusedVariables false
set_option linter.unusedSimpArgs false
set_option linter.unnecessarySimpa false
open Go.RowKit Go.Sort
set_option maxHeartbeats 2000000
set_option maxRecDepth 100000
set_option linter.unusedVariables false
theorem parse_any (s : ByteArray) (hs : s.size ≤ 100000000) (w : World) (ht : Isa.Tab w) :
    Calls Tryd.prog 10 #[.string s] w fun e w' => e = .returned (parV s.data.toList) ∧ Below w.heap.size w w' := by
  cases hw : wordsB s.data.toList
  · exact parse_none s hs w hw
  · by_cases hz : opV ((fieldsC 32 s.data.toList).headD []) = 0
    · exact parse_noop s hs w hw hz
    · exact parse_op s hs w ht hw hz
theorem parV_yes {s : List UInt8} (h : parB s = true) : parV s = .tuple #[(.agg #[.int .i64 (parO s), .int .i64 (parD s), .int .i64 (parA s), .int .i64 (parC s), .int .i64 (parN s)]), .int .i64 0] ∧ Isa.validB (parO s) (parD s) (parA s) (parC s) (parN s) = true := by
  refine ⟨by unfold parV parE; rw [if_pos h], ?_⟩
  unfold parO parD parA parC parN
  rw [if_pos h, if_pos h, if_pos h, if_pos h, if_pos h]
  unfold parB at h
  rw [Bool.and_eq_true, Bool.and_eq_true, Bool.and_eq_true] at h
  exact h.2.2.2
def wdP : List UInt8 := [46, 119, 111, 114, 100, 32]
def lineL (x : Nat) : List UInt8 := if Isa.decB x then textV ((x : Int) % 64) ((x : Int) / 64 % 16) ((x : Int) / 1024 % 16) ((x : Int) / 16384 % 16) (Isa.decN x) else wdP ++ Lib.decDigits x
def wdB (s : List UInt8) : Bool := if Lib.hasPrefix s wdP then lgB (Lib.trimPrefix s wdP) else parB s
def wdV (s : List UInt8) : Int := if Lib.hasPrefix s wdP then lgN (Lib.trimPrefix s wdP) else if parB s then Isa.wordI (parO s) (parD s) (parA s) (parC s) (parN s) else 0
theorem trim_le (s p : List UInt8) : (Lib.trimPrefix s p).length ≤ s.length := by
  unfold Lib.trimPrefix
  split <;> simp
theorem text_len (op d a b n : Int) : (textV op d a b n).length ≤ 200 := by
  unfold textV
  split
  · rename_i h
    obtain ⟨⟨o1, o2⟩, ⟨d1, d2⟩, ⟨a1, a2⟩, ⟨b1, b2⟩, ⟨n1, n2⟩⟩ := Isa.validB_bounds h
    have hn := opName_le ⟨op.toNat, by omega⟩
    have l1 := wregL_len d (by omega) (by omega)
    have l2 := wregL_len a (by omega) (by omega)
    have l3 := wregL_len b (by omega) (by omega)
    have l4 := wnumL_len n (by omega) (by omega)
    unfold textL
    dsimp only at hn
    split <;> (try simp only [List.length_append]) <;> omega
  · simp
theorem dec_len (u : Nat) (h : u < 18446744073709551616) : (Lib.decDigits u).length ≤ 30 := by
  rw [Lib.decDigits_length]
  have := Lib.nDigits_le20 u (by omega)
  omega
theorem line_len (x : Nat) (hx : x < 4294967296) : (lineL x).length ≤ 200 := by
  unfold lineL
  split
  · exact text_len _ _ _ _ _
  · have := dec_len x (by omega)
    simp only [List.length_append, wdP, List.length_cons, List.length_nil]; omega
theorem line_any (x : Nat) (hx : x < 4294967296) (w : World) (hP : PowIs w) (ht : Isa.Tab w) :
    Calls Tryd.prog 41 #[.int .u32 x] w fun e w' => e = .returned (.string (ba (lineL x))) ∧ Below w.heap.size w w' := by
  have HD := Lib.hid (Isa.decode_any x hx w ht)
  obtain ⟨t, hT⟩ : ∃ t : ByteArray, t = ba (Lib.decDigits x) := ⟨_, rfl⟩
  have hz := dec_len x (by omega)
  have z1 : t.size ≤ 30 := by rw [hT, ba_size]; exact hz
  have q1 : ¬ 9223372036854775807 < 6 + t.size := by omega
  have FMT : Hid (∀ W, Below w.heap.size w W → Calls Tryd.prog 59 #[.int .u64 x, .int .i64 10] W fun e w' => e = .returned (.string t) ∧ Below W.heap.size W w') := fun W hb => by rw [hT]; exact fmtu_b x (by omega) W (hP.below hb)
  obtain ⟨r, hr⟩ : ∃ r : ByteArray, r = ba (wdP ++ Lib.decDigits x) := ⟨_, rfl⟩
  have HCAT : Hid ((⟨#[46, 119, 111, 114, 100, 32]⟩ : ByteArray) ++ t = r) := by rw [hT, hr]; unfold ba; rw [show (⟨#[46, 119, 111, 114, 100, 32]⟩ : ByteArray) = ⟨wdP.toArray⟩ from rfl, ba_append]; rfl
  have HL : Hid (Isa.decB x = false → ba (lineL x) = r) := fun h => by rw [hr]; unfold lineL; rw [if_neg (by rw [h]; simp)]
  have HL2 : Hid (Isa.decB x = true → lineL x = textV ((x : Int) % 64) ((x : Int) / 64 % 16) ((x : Int) / 1024 % 16) ((x : Int) / 16384 % 16) (Isa.decN x)) := fun h => by unfold lineL; rw [if_pos h]
  have HP := Lib.hid hP
  have HT := Lib.hid ht
  have hx64 : IntKind.u64.wrap (x : Int) = (x : Int) := by rw [IntKind.wrap_u64]; omega
  clear hP ht hT hr hz
  go_enter Tryd.func41, Tryd.ntmps41
  go_wp2_with fail
  refine HD.out.mono ?_; rintro e w1 ⟨rfl, hb1⟩
  have HB1 := Lib.hid hb1
  clear hb1
  cases hb : Isa.decB x
  · rw [if_neg (by simp)]
    have HR := HL.out hb
    have HRR := Lib.hid HR
    clear HR HL HL2 hb
    go_wp2_with (go_at_call 59; refine (FMT.out _ (by first | exact HB1.out.alloc (Nat.le_of_lt (Nat.lt_succ_of_le HB1.out.size)) _ | exact HB1.out.alloc HB1.out.size _)).mono ?_; rintro e w2 ⟨rfl, hb2⟩)
    rw [HCAT.out]
    go_ret
    refine ⟨by rw [HRR.out]; rfl, ?_⟩
    exact bmore (HB1.out.alloc HB1.out.size _) hb2
  · rw [if_pos rfl]
    have HR := Lib.hid (HL2.out hb)
    clear HL HL2 hb
    obtain ⟨o, ho⟩ : ∃ o, o = (x : Int) % 64 := ⟨_, rfl⟩
    obtain ⟨d, hd⟩ : ∃ d, d = (x : Int) / 64 % 16 := ⟨_, rfl⟩
    obtain ⟨a, ha⟩ : ∃ a, a = (x : Int) / 1024 % 16 := ⟨_, rfl⟩
    obtain ⟨b, hB⟩ : ∃ b, b = (x : Int) / 16384 % 16 := ⟨_, rfl⟩
    obtain ⟨n, hn⟩ : ∃ n, n = Isa.decN x := ⟨_, rfl⟩
    rw [← ho, ← hd, ← ha, ← hB, ← hn] at HR ⊢
    clear ho hd ha hB hn
    have HB2 : Hid (∀ o, Below w.heap.size w (w1.alloc o)) := fun o => HB1.out.alloc HB1.out.size _
    go_wp2_with (go_at_call 7; refine (text_asm _ _ _ _ _ _ (HP.out.below (HB2.out _)) (HT.out.below (HB2.out _))).mono ?_; rintro e w2 ⟨rfl, hb2⟩)
    go_ret
    exact ⟨by rw [HR.out]; rfl, bmore (HB2.out _) hb2⟩
theorem word_any (s : List UInt8) (hs : s.length ≤ 100000000) (w : World) (ht : Isa.Tab w) :
    Calls Tryd.prog 38 #[.string (ba s)] w fun e w' => e = .returned (.tuple #[.int .u32 (wdV s), .bool (wdB s)]) ∧ Below w.heap.size w w' := by
  have HC : Hid (∀ W : World, Calls Tryd.prog 46 #[.string (ba s), .string ⟨#[46, 119, 111, 114, 100, 32]⟩] W fun e w' => e = .returned (.tuple #[.string (ba (Lib.trimPrefix s wdP)), .bool (Lib.hasPrefix s wdP)]) ∧ w' = W) := fun W => Tryd.strings_CutPrefix (ba s) ⟨#[46, 119, 111, 114, 100, 32]⟩ W
  have hle := trim_le s wdP
  have HLG : Hid (∀ W, Calls Tryd.prog 53 #[.string (ba (Lib.trimPrefix s wdP))] W fun e w' => e = .returned (.tuple #[.int .u32 (lgN (Lib.trimPrefix s wdP)), .bool (lgB (Lib.trimPrefix s wdP))]) ∧ Below W.heap.size W w') := fun W => large_any (ba (Lib.trimPrefix s wdP)) (by rw [ba_size]; unfold maxLen; omega) W
  have HPA : Hid (∀ W, Isa.Tab W → Calls Tryd.prog 10 #[.string (ba s)] W fun e w' => e = .returned (parV s) ∧ Below W.heap.size W w') := fun W h => parse_any (ba s) (by rw [ba_size]; exact hs) W h
  have HT := Lib.hid ht
  clear ht hle hs
  cases hp : Lib.hasPrefix s wdP
  · rw [hp] at HC
    have HV : Hid (wdV s = if parB s then Isa.wordI (parO s) (parD s) (parA s) (parC s) (parN s) else 0) := by unfold wdV Hid; rw [if_neg (by rw [hp]; simp)]
    have HBB : Hid (wdB s = parB s) := by unfold wdB Hid; rw [if_neg (by rw [hp]; simp)]
    clear hp HLG
    cases hb : parB s
    · have HPV := Lib.hid (parV_no hb)
      have HV2 : Hid (wdV s = 0) := by rw [Hid, HV.out, if_neg (by rw [hb]; simp)]
      have HB2 : Hid (wdB s = false) := by rw [Hid, HBB.out, hb]
      clear hb HV HBB
      go_enter Tryd.func38, Tryd.ntmps38
      go_wp2_with fail
      refine (HC.out _).mono ?_; rintro e w1 ⟨rfl, rfl⟩
      go_wp2_with fail
      refine (HPA.out _ HT.out).mono ?_; rintro e w2 ⟨rfl, hb2⟩
      rw [HPV.out]
      go_wp2_with fail
      go_ret2
      exact ⟨by rw [HV2.out, HB2.out]; rfl, hb2.alloc hb2.size _⟩
    · obtain ⟨hpv, hvd⟩ := parV_yes hb
      have HV2 : Hid (wdV s = Isa.wordI (parO s) (parD s) (parA s) (parC s) (parN s)) := by rw [Hid, HV.out, if_pos hb]
      have HB2 : Hid (wdB s = true) := by rw [Hid, HBB.out, hb]
      clear hb HV HBB
      have HPV := Lib.hid hpv
      clear hpv
      have HE : Hid (∀ W, Isa.Tab W → Calls Tryd.prog 54 #[(.agg #[.int .i64 (parO s), .int .i64 (parD s), .int .i64 (parA s), .int .i64 (parC s), .int .i64 (parN s)])] W fun e w' => e = .returned (.tuple #[.int .u32 (Isa.wordI (parO s) (parD s) (parA s) (parC s) (parN s)), .int .i64 0]) ∧ Below W.heap.size W w') := fun W h => by
        have := Isa.encode_any (parO s) (parD s) (parA s) (parC s) (parN s) W h
        unfold Isa.encW Isa.encE at this
        rw [if_pos hvd, if_pos hvd] at this
        exact this
      clear hvd
      generalize parO s = o at HPV HE HV2
      generalize parD s = d at HPV HE HV2
      generalize parA s = a at HPV HE HV2
      generalize parC s = c at HPV HE HV2
      generalize parN s = n at HPV HE HV2
      go_enter Tryd.func38, Tryd.ntmps38
      go_wp2_with fail
      refine (HC.out _).mono ?_; rintro e w1 ⟨rfl, rfl⟩
      go_wp2_with fail
      refine (HPA.out _ HT.out).mono ?_; rintro e w2 ⟨rfl, hb2⟩
      rw [HPV.out]
      have HB3 : Hid (∀ o, Below w1.heap.size w1 (w2.alloc o)) := fun o => hb2.alloc hb2.size _
      clear hb2
      go_wp2_with (go_at_call 54; refine (HE.out _ (HT.out.below (HB3.out _))).mono ?_; rintro e w3 ⟨rfl, hb3⟩)
      go_ret2
      exact ⟨by rw [HV2.out, HB2.out]; rfl, bmore (HB3.out _) hb3⟩
  · rw [hp] at HC
    have HV2 : Hid (wdV s = lgN (Lib.trimPrefix s wdP)) := by unfold wdV Hid; rw [if_pos hp]
    have HB2 : Hid (wdB s = lgB (Lib.trimPrefix s wdP)) := by unfold wdB Hid; rw [if_pos hp]
    clear hp HPA
    go_enter Tryd.func38, Tryd.ntmps38
    go_wp2_with fail
    refine (HC.out _).mono ?_; rintro e w1 ⟨rfl, rfl⟩
    go_wp2_with fail
    refine (HLG.out _).mono ?_; rintro e w2 ⟨rfl, hb2⟩
    go_wp2_with fail
    go_ret2
    exact ⟨by rw [HV2.out, HB2.out]; rfl, hb2⟩
end Go.Proofs.YtbemhbooihaadaaDoor
