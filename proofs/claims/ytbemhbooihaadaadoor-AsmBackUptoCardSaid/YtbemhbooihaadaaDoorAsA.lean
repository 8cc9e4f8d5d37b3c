/- Package asm: Program. -/
import Derived.Test.YtbemhbooihaadaaDoorAs9
namespace Go.Proofs.YtbemhbooihaadaaDoor
set_option linter.unusedVariables false
set_option linter.unusedSimpArgs false
set_option linter.unnecessarySimpa false
open Go.RowKit Go.Sort
set_option maxHeartbeats 2000000
set_option maxRecDepth 100000
set_option linter.unusedVariables false
theorem info_u32 : (Tryd.prog.info? 56).map (fun i => (i.zero, i.size, i.bytes)) = some (some (.int .u32 0), 1, 4) := by kernel_rfl
/-- A text's lines: a last one that is empty is none. -/
def lnL (s : List UInt8) : Words := if (fieldsC 10 s).getLast? = some [] then (fieldsC 10 s).dropLast else fieldsC 10 s
def lnE (s : List UInt8) : Bool := Lib.hasSuffix s [10]
def badAt (en : Bool) (L : Words) (k : Nat) : Bool := !wdB (L.getD k []) || (decide (k + 1 = L.length) && !en)
def pgLong (s : List UInt8) : Bool := decide (16384 < s.length) || decide (512 < (lnL s).length)
def pgBad (s : List UInt8) : Option Nat := (List.range (lnL s).length).find? (badAt (lnE s) (lnL s))
def pgL (s : List UInt8) : List Int := if pgLong s then [] else match pgBad s with | some _ => [] | none => (lnL s).map wdV
def pgE (s : List UInt8) : Int := if pgLong s then 10 else match pgBad s with | some _ => 6 | none => 0
def pgAt (s : List UInt8) : Int := if pgLong s then 0 else match pgBad s with | some k => k + 1 | none => 0
def uC (l : List Int) : List Value := l.map fun (x : Int) => Value.int .u32 x
theorem uC_len (l : List Int) : (uC l).length = l.length := by simp [uC]
theorem uC_snoc (l : List Int) (x : Int) : uC (l ++ [x]) = uC l ++ [.int .u32 x] := by simp [uC]
def PgPost (s : List UInt8) (w : World) (e : Ending) (w' : World) : Prop := ∃ a cap, e = .returned (.tuple #[.slice a (pgL s).length cap, .int .i64 (pgE s), .int .i64 (pgAt s)]) ∧ Rd w' 1 a (pgL s).length (uC (pgL s)) ∧ Below w.heap.size w w'
theorem rd_nil (w : World) : Rd w 1 none 0 (uC []) := ⟨rfl, fun _ => rfl, fun p hp => by cases hp⟩
theorem pg_long {s : List UInt8} {w w' : World} (h : pgLong s = true) (hb : Below w.heap.size w w') : PgPost s w (.returned (.tuple #[.slice none 0 0, .int .i64 10, .int .i64 0])) w' := by
  refine ⟨none, 0, ?_, ?_, hb⟩
  · rw [pgL, pgE, pgAt, if_pos h, if_pos h, if_pos h]; rfl
  · rw [pgL, if_pos h]; exact rd_nil w'
theorem pg_bad {s : List UInt8} {k : Nat} {w w' : World} (h : pgLong s = false) (hk : k < (lnL s).length) (hb : badAt (lnE s) (lnL s) k = true) (hn : ∀ j, j < k → badAt (lnE s) (lnL s) j = false) (hbe : Below w.heap.size w w') :
    PgPost s w (.returned (.tuple #[.slice none 0 0, .int .i64 6, .int .i64 ((k : Int) + 1)])) w' := by
  have hf : pgBad s = some k := by
    rw [pgBad, List.find?_range_eq_some]
    exact ⟨hb, List.mem_range.2 hk, fun j hj => by rw [hn j hj]; rfl⟩
  refine ⟨none, 0, ?_, ?_, hbe⟩
  · rw [pgL, pgE, pgAt, if_neg (by rw [h]; simp), if_neg (by rw [h]; simp), if_neg (by rw [h]; simp), hf]; rfl
  · rw [pgL, if_neg (by rw [h]; simp), hf]; exact rd_nil w'
theorem pg_good {s : List UInt8} {w w' : World} {a : Option Addr} {n cap : Nat} (h : pgLong s = false) (hn : ∀ j, j < (lnL s).length → badAt (lnE s) (lnL s) j = false) (hl : n = (lnL s).length) (hr : Rd w' 1 a n (uC ((lnL s).map wdV))) (hbe : Below w.heap.size w w') :
    PgPost s w (.returned (.tuple #[.slice a n cap, .int .i64 0, .int .i64 0])) w' := by
  have hf : pgBad s = none := by
    rw [pgBad, List.find?_eq_none]
    intro j hj
    rw [hn j (List.mem_range.1 hj)]; simp
  have e : pgL s = (lnL s).map wdV := by rw [pgL, if_neg (by rw [h]; simp), hf]
  refine ⟨a, cap, ?_, ?_, hbe⟩
  · rw [e, pgE, pgAt, if_neg (by rw [h]; simp), if_neg (by rw [h]; simp), hf, List.length_map, hl]
  · rw [e, List.length_map, ← hl]; exact hr
theorem lnL_some {s : List UInt8} (h : (fieldsC 10 s).getLast? = some []) : lnL s = (fieldsC 10 s).dropLast := by rw [lnL, if_pos h]
theorem lnL_none {s : List UInt8} (h : (fieldsC 10 s).getLast? ≠ some []) : lnL s = fieldsC 10 s := by rw [lnL, if_neg h]
theorem lnL_get (s : List UInt8) (j : Nat) (hj : j < (lnL s).length) : ∃ h : j < (fieldsC 10 s).length, (lnL s)[j] = (fieldsC 10 s)[j] := by
  by_cases h : (fieldsC 10 s).getLast? = some []
  · have e := lnL_some h
    have hj' : j < (fieldsC 10 s).length := by rw [e, List.length_dropLast] at hj; omega
    refine ⟨hj', ?_⟩
    simp only [e, List.getElem_dropLast]
  · have e := lnL_none h
    have hj' : j < (fieldsC 10 s).length := by rw [e] at hj; exact hj
    exact ⟨hj', by simp only [e]⟩
theorem lnL_small (s : List UInt8) (j : Nat) (hj : j < (lnL s).length) : (lnL s)[j].length ≤ s.length := by
  obtain ⟨h, e⟩ := lnL_get s j hj
  rw [e]
  exact (fieldsC_mem 10 s _ (List.getElem_mem h)).2
theorem bad_at {en : Bool} {L : Words} {k : Nat} (hk : k < L.length) : badAt en L k = (!wdB L[k] || (decide (k + 1 = L.length) && !en)) := by
  rw [badAt, List.getD_eq_getElem?_getD, List.getElem?_eq_getElem hk]; rfl
structure QS (w : World) (a : Option Addr) (k c : Nat) (L : Words) (W : World) : Prop where
  own : Own W w.heap.size 56 1 a k c (uC ((L.take k).map wdV))
  bel : Below w.heap.size w W
theorem program_any (s : ByteArray) (hs : s.size ≤ 100000000) (w : World) (ht : Isa.Tab w) : Calls Tryd.prog 13 #[.string s] w (PgPost s.data.toList w) := by
  obtain ⟨iu, hiu, hzu, hzu1, hzu2⟩ := info_parts info_u32
  obtain ⟨l, hl⟩ : ∃ l, l = s.data.toList := ⟨_, rfl⟩
  have hsl : l.length = s.size := by rw [hl, ba_len]
  obtain ⟨F, hF⟩ : ∃ F, F = fieldsC 10 l := ⟨_, rfl⟩
  have hne : F ≠ [] := by rw [hF]; exact fieldsC_ne 10 _
  have HSP : Hid (∀ W, Calls Tryd.prog 36 #[.string s, .string ⟨#[10]⟩] W fun e w' => e = .returned (.slice (some ⟨W.heap.size, 0, none⟩) F.length F.length) ∧ w' = W.alloc (.cells (strC F).toArray 9)) := fun W => by
    have := split1L s 10 W (by omega)
    rw [← hl, ← hF] at this; exact this
  have HSU : Hid (∀ W, Calls Tryd.prog 37 #[.string s, .string ⟨#[10]⟩] W fun e w' => e = .returned (.bool (lnE l)) ∧ w' = W) := fun W => by
    have := Tryd.strings_HasSuffix s ⟨#[10]⟩ W (by omega)
    rw [← hl] at this; exact this
  rw [← hl]
  obtain ⟨L, hL⟩ : ∃ L, L = lnL l := ⟨_, rfl⟩
  have HLG : Hid (pgLong l = (decide (16384 < s.size) || decide (512 < L.length))) := by rw [Hid, pgLong, hsl, hL]
  have HPL : Hid (∀ w', pgLong l = true → Below w.heap.size w w' → PgPost l w (.returned (.tuple #[.slice none 0 0, .int .i64 10, .int .i64 0])) w') := fun w' h hb => pg_long h hb
  have HPB : Hid (∀ (k : Nat) (w' : World), pgLong l = false → k < L.length → badAt (lnE l) L k = true → (∀ j, j < k → badAt (lnE l) L j = false) → Below w.heap.size w w' → PgPost l w (.returned (.tuple #[.slice none 0 0, .int .i64 6, .int .i64 ((k : Int) + 1)])) w') := fun k w' h1 h2 h3 h4 h5 => by subst hL; exact pg_bad h1 h2 h3 h4 h5
  have HPG : Hid (∀ (w' : World) (a : Option Addr) (n cap : Nat), pgLong l = false → (∀ j, j < L.length → badAt (lnE l) L j = false) → n = L.length → Rd w' 1 a n (uC (L.map wdV)) → Below w.heap.size w w' → PgPost l w (.returned (.tuple #[.slice a n cap, .int .i64 0, .int .i64 0])) w') := fun w' a n cap h1 h2 h3 h4 h5 => by subst hL; exact pg_good h1 h2 h3 h4 h5
  have HLF : Hid (∀ j (hj : j < L.length), F[j]? = some L[j]) := fun j hj => by subst hL; subst hF; obtain ⟨h1, h2⟩ := lnL_get l j hj; rw [h2]; exact List.getElem?_eq_getElem h1
  have HSM : Hid (∀ j (hj : j < L.length), L[j].length ≤ 100000000) := fun j hj => by subst hL; have := lnL_small l j hj; omega
  have hfl : F.length ≤ s.size + 1 := by
    rw [hF, fieldsC_len, ← hsl]
    have := List.count_le_length (a := (10 : UInt8)) (l := l); omega
  have HF : Hid (L = if F.getLast? = some [] then F.dropLast else F) := by rw [Hid, hL, hF]; rfl
  obtain ⟨en, hen⟩ : ∃ en, en = lnE l := ⟨_, rfl⟩
  rw [← hen] at HSU HPB HPG
  clear hen
  have HT := Lib.hid ht
  have HNE := Lib.hid hne
  obtain ⟨m, hm⟩ : ∃ m, F.length = m + 1 := by cases F with
    | nil => exact absurd rfl hne
    | cons x r => exact ⟨r.length, rfl⟩
  obtain ⟨x, hx⟩ : ∃ x, F[m]? = some x := ⟨_, List.getElem?_eq_getElem (by omega)⟩
  have HLAST : Hid (F.getLast? = some x) := by rw [Hid, List.getLast?_eq_getElem?, hm]; exact hx
  have HCELL : Hid (ObjAt (w.alloc (.cells (strC F).toArray 9)) w.heap.size 9 (strC F)) := ObjAt.new w 9 (strC F)
  have HCX : (w.alloc (.cells (strC F).toArray 9)).cell? ⟨w.heap.size, m, none⟩ = some (.string (ba x)) := HCELL.out.cell m _ (by simp [strC, hx])
  have HMM := Lib.hid hm
  obtain ⟨W1, hW1⟩ : ∃ W, W = w.alloc (.cells (strC F).toArray 9) := ⟨_, rfl⟩
  have HW1 := Lib.hid hW1
  have HB1 : Hid (Below w.heap.size w W1) := by rw [hW1]; exact (Below.refl _ _).alloc (Nat.le_refl _) _
  rw [← hW1] at HCELL HCX
  rw [hm] at HSP hfl
  clear hl hsl hF hne ht hL hm hx hW1
  go_enter Tryd.func13, Tryd.ntmps13
  go_wp2_with fail
  refine (HSP.out _).mono ?_; rintro e w1 ⟨rfl, h1⟩
  obtain rfl : w1 = W1 := by rw [h1, HW1.out]
  clear h1
  have bx := ba_isEmpty x
  go_upto_if 20 with fail
  go_cut [5] from 20 (fun s5 wc => s5 = .slice (some ⟨w.heap.size, 0, none⟩) L.length (m + 1) ∧ wc = w1)
  case first =>
    cases hxe : x.isEmpty
    · have HLL : Hid (L.length = m + 1) := by
        rw [Hid, HF.out, if_neg (by rw [HLAST.out]; intro e; injection e with e; rw [e] at hxe; cases hxe), HMM.out]
      rw [hxe] at bx
      clear hxe
      go_wp2_with fail
      go_meet
      case rel => exact ⟨by rw [HLL.out], rfl⟩
    · have HLL : Hid (L.length = m) := by
        rw [Hid, HF.out, if_pos (by rw [HLAST.out, List.isEmpty_iff.1 hxe]), List.length_dropLast, HMM.out]; rfl
      rw [hxe] at bx
      clear hxe
      go_wp2_with fail
      go_meet
      case rel => exact ⟨by rw [HLL.out], rfl⟩
  case rest =>
  obtain ⟨rfl, rfl⟩ := hcut
  have HLC : Hid (∀ j (hj : j < L.length), wc.cell? ⟨w.heap.size, j, none⟩ = some (.string (ba L[j]))) := fun j hj => HCELL.out.cell j _ (by simp [strC, HLF.out j hj])
  have hLm : L.length ≤ m + 1 := by
    rcases Nat.lt_or_ge (m + 1) L.length with h | h
    · have := HLF.out (m + 1) h
      rw [List.getElem?_eq_none (by rw [HMM.out]; exact Nat.le_refl _)] at this; cases this
    · exact h
  have hblk := HCELL.out.lt
  clear HCX bx HCELL HW1
  by_cases h16 : 16384 < s.size
  · have d1 : decide ((s.size : Int) > 16384) = true := decide_eq_true (by omega)
    have d1' : decide (16384 < s.size) = true := decide_eq_true h16
    have HLO : Hid (pgLong l = true) := by rw [Hid, HLG.out, decide_eq_true h16]; rfl
    clear h16
    go_wp2_with fail
    go_ret3
    exact HPL.out _ HLO.out HB1.out
  · have d1 : decide ((s.size : Int) > 16384) = false := decide_eq_false (by omega)
    have d1' : decide (16384 < s.size) = false := decide_eq_false h16
    by_cases h512 : 512 < L.length
    · have d2 : decide ((L.length : Int) > 512) = true := decide_eq_true (by omega)
      have d2' : decide (512 < L.length) = true := decide_eq_true h512
      have HLO : Hid (pgLong l = true) := by rw [Hid, HLG.out, decide_eq_true h512, Bool.or_true]
      clear h16 h512
      go_wp2_with fail
      go_ret3
      exact HPL.out _ HLO.out HB1.out
    · have d2 : decide ((L.length : Int) > 512) = false := decide_eq_false (by omega)
      have d2' : decide (512 < L.length) = false := decide_eq_false h512
      have HLO : Hid (pgLong l = false) := by rw [Hid, HLG.out, decide_eq_false h512, decide_eq_false h16]; rfl
      clear h16 h512
      go_wp2_with fail
      refine (HSU.out _).mono ?_; rintro e w2 ⟨rfl, rfl⟩
      have HQ0 : Hid (QS w2 none 0 0 L w2) := ⟨Own.nil _ _ _ _, Below.refl _ _⟩
      go_wp2_with fail
      go_loopw [7, 38] (fun o i wr => ∃ (k : Nat) (ao : Option Addr) (co : Nat), k ≤ L.length ∧ i = .int .i64 k ∧ o = .slice ao k co ∧ QS w2 ao k co L wr ∧ ∀ j, j < k → badAt (en) L j = false) (fun _ i _ => L.length - (intOf i).toNat)
      case atStart => exact ⟨0, none, 0, by omega, rfl, rfl, HQ0.out, fun j hj => by omega⟩
      case round =>
        clear HQ0
        obtain ⟨k, ao, co, hk, rfl, rfl, hq, hn⟩ := hrel
        have HQ := Lib.hid hq
        have HBB := Lib.hid hq.bel
        have HBO := Lib.hid (bmore HB1.out hq.bel)
        have HN := Lib.hid hn
        have hsz := hq.bel.size
        clear hq hn
        by_cases hlt : k < L.length
        · have hcr : wr.cell? ⟨w.heap.size, k, none⟩ = some (.string (ba L[k])) := by
            rw [HBB.out.cell (p := ⟨w.heap.size, k, none⟩) hblk]; exact HLC.out k hlt
          have HWD := Lib.hid (word_any L[k] (HSM.out k hlt) wr (HT.out.below HBO.out))
          have hba := bad_at (en := en) hlt
          have HBA := Lib.hid hba
          clear hba
          obtain ⟨v, hv⟩ : ∃ v, v = wdV L[k] := ⟨_, rfl⟩
          have HV : Hid (uC ((L.take (k + 1)).map wdV) = uC ((L.take k).map wdV) ++ [.int .u32 v]) := by
            rw [Hid, List.take_succ_eq_append_getElem hlt, List.map_append, List.map_cons, List.map_nil, uC_snoc, hv]
          rw [← hv] at HWD
          clear hv
          have w1 : IntKind.i64.wrap ((k : Int) + 1) = (k : Int) + 1 := by rw [IntKind.wrap_i64]; omega
          have w3 : IntKind.i64.wrap ((L.length : Int) - 1) = (L.length : Int) - 1 := by rw [IntKind.wrap_i64]; omega
          cases hwd : wdB L[k]
          · have HBAD : Hid (badAt (en) L k = true) := by rw [Hid, HBA.out, hwd]; rfl
            rw [hwd] at HWD
            clear hwd
            go_wp2_with fail
            refine HWD.out.mono ?_; rintro e w3 ⟨rfl, hb3⟩
            have HBE : Hid (Below w.heap.size w w3) := bmore HBO.out hb3
            clear hb3
            go_wp2_with fail
            go_ret3
            exact HPB.out k _ HLO.out hlt HBAD.out HN.out HBE.out
          · have hdl : ((k : Int) == (L.length : Int) - 1) = decide (k + 1 = L.length) := by rw [Bool.eq_iff_iff]; simp; omega
            have HBT : Hid ((decide (k + 1 = L.length) && !en) = true → badAt en L k = true) := fun h => by rw [HBA.out, h, Bool.or_true]
            have HGG : Hid ((decide (k + 1 = L.length) && !en) = false → ∀ j, j < k + 1 → badAt en L j = false) := fun h j hj => by
              by_cases e : j = k
              · subst e; rw [HBA.out, hwd, h]; rfl
              · exact HN.out j (by omega)
            cases hde : decide (k + 1 = L.length) <;> cases en
            case true.false =>
              have HBAD := Lib.hid (HBT.out (by rw [hde]; rfl))
              rw [hwd] at HWD
              rw [hde] at hdl
              clear hwd hde
              go_wp2_with fail
              refine HWD.out.mono ?_; rintro e w3 ⟨rfl, hb3⟩
              have HBE : Hid (Below w.heap.size w w3) := bmore HBO.out hb3
              clear hb3
              go_wp2_with fail
              go_ret3
              exact HPB.out k _ HLO.out hlt HBAD.out HN.out HBE.out
            all_goals
              have HN2 := Lib.hid (HGG.out (by rw [hde]; rfl))
              rw [hwd] at HWD
              rw [hde] at hdl
              clear hwd hde
              go_wp2_with fail
              refine HWD.out.mono ?_; rintro e w3 ⟨rfl, hb3⟩
              have HBE : Hid (Below w.heap.size w w3) := bmore HBO.out hb3
              have HBW : Hid (Below w2.heap.size w2 w3) := bmore HBB.out hb3
              have HO3 := Lib.hid (HQ.out.own.below hb3)
              have hs3 := HBW.out.size
              clear hb3
              go_wp2_with (at_builtin; (refine wpList_own rfl (.tmp 63) (.tmp 65) 36 rfl w2.heap.size 56 iu _ 1 4 Tryd.underlying36 hiu hzu hzu1 hzu2 rfl (by omega) ao k co (uC ((L.take k).map wdV)) rfl (HO3.out.below ((Below.refl _ _).alloc (Nat.le_refl _) _)) w3.heap.size [.int .u32 v] rfl (new_block _ _ _ rfl) rfl (by simp [Value.oneCell']) (by simp only [maxLen]; omega) (by omega) (by simp; omega) ?_); intro g' c' w4 hown1 hmod1 _; have HO := Lib.hid hown1; have HM : Hid (Mod (blk ao) w3 w4) := ((Mod.ofBelow ((Below.refl w3.heap.size w3).alloc (Nat.le_refl _) _)).trans hmod1); clear hown1 hmod1)
              have HQ2 : Hid (QS w2 (some ⟨g', 0, none⟩) (k + 1) c' L w4) := ⟨by rw [HV.out]; exact HO.out, HBW.out.trans (HM.out.below (fun j hj => (HO3.out.ge j hj).1) hs3)⟩
              go_roundw
              case rel => exact ⟨k + 1, some ⟨g', 0, none⟩, c', by omega, by go_num, by go_num, HQ2.out, HN2.out⟩
              case measure => simp [intOf]; omega
        · obtain rfl : k = L.length := by omega
          have HRD : Hid (Rd wr 1 ao L.length (uC (L.map wdV))) := by have := HQ.out.own.rd; rw [List.take_length] at this; exact this
          have HFIN := HPG.out wr ao L.length co HLO.out HN.out rfl HRD.out HBO.out
          have HFN := Lib.hid HFIN
          clear HFIN
          go_wp2_with fail
          go_ret3
          exact HFN.out
end Go.Proofs.YtbemhbooihaadaaDoor
