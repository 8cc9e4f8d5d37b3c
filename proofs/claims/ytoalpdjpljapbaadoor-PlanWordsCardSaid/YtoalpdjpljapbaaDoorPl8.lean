/- Packages plan and its reference: lines of a text. -/
import Derived.Test.YtoalpdjpljapbaaDoorPl7
import Derived.Test.YtoalpdjpljapbaaDoorTx3
namespace Go.Proofs.YtoalpdjpljapbaaDoor
set_option linter.unusedVariables false
set_option linter.unusedSimpArgs false
set_option linter.unnecessarySimpa false
open Go.RowKit Go.Sort
set_option maxHeartbeats 2000000
set_option maxRecDepth 100000
set_option linter.unusedVariables false
theorem fieldsC_sep (c : UInt8) : ∀ s : List UInt8, fieldsC c (s ++ [c]) = fieldsC c s ++ [[]]
  | [] => by simp [fieldsC]
  | b :: t => by
    have ih := fieldsC_sep c t
    by_cases h : b = c
    · rw [List.cons_append, fieldsC, if_pos h, ih, fieldsC, if_pos h]; rfl
    · obtain ⟨x, r, h1, h2⟩ := fieldsC_cons h t
      obtain ⟨x', r', h1', h2'⟩ := fieldsC_cons h (t ++ [c])
      rw [List.cons_append, h2', h2]
      rw [h1, h1'] at ih
      injection ih with ih1 ih2
      rw [ih1, ih2]; rfl
theorem fieldsC_snoc (c b : UInt8) (hb : b ≠ c) : ∀ s : List UInt8, ∃ D y, fieldsC c (s ++ [b]) = D ++ [y ++ [b]]
  | [] => ⟨[], [], by rw [List.nil_append, fieldsC_free c [b] (by simp; exact hb)]; rfl⟩
  | a :: t => by
    obtain ⟨D, y, ih⟩ := fieldsC_snoc c b hb t
    by_cases h : a = c
    · exact ⟨[] :: D, y, by rw [List.cons_append, fieldsC, if_pos h, ih]; rfl⟩
    · obtain ⟨x', r', h1', h2'⟩ := fieldsC_cons h (t ++ [b])
      rw [ih] at h1'
      cases D with
      | nil =>
        rw [List.nil_append] at h1'
        injection h1' with e1 e2
        exact ⟨[], a :: y, by rw [List.cons_append, h2', ← e1, ← e2]; rfl⟩
      | cons d D =>
        rw [List.cons_append] at h1'
        injection h1' with e1 e2
        exact ⟨(a :: x') :: D, y, by rw [List.cons_append, h2', ← e2]; rfl⟩
theorem fieldsC_last (s : List UInt8) : (fieldsC 10 s).getLast? = some [] ↔ s = [] ∨ s.getLast? = some 10 := by
  rcases List.eq_nil_or_concat s with rfl | ⟨t, b, rfl⟩
  · simp [fieldsC]
  · rw [List.concat_eq_append]
    by_cases h : b = 10
    · subst h
      rw [fieldsC_sep]; simp
    · obtain ⟨D, y, e⟩ := fieldsC_snoc 10 b h t
      rw [e]
      simp [h]

theorem suf_10 (s : List UInt8) : Lib.hasSuffix s [10] = true ↔ s.getLast? = some 10 := by
  unfold Lib.hasSuffix
  rw [List.isSuffixOf_iff_suffix]
  constructor
  · rintro ⟨t, rfl⟩; simp
  · intro h
    obtain ⟨t, ht⟩ := List.getLast?_eq_some_iff.1 h
    exact ⟨t, ht.symm⟩
/-- Is a text's last line ended? -/
def lsB (s : List UInt8) : Bool := decide ((fieldsC 10 s).getLast? = some [])
def lsL (s : List UInt8) : List (List UInt8) := (fieldsC 10 s).dropLast
def LsPost (s : List UInt8) (w : World) (e : Ending) (w' : World) : Prop :=
  (lsB s = true → ∃ a cap, e = .returned (.tuple #[.slice a (lsL s).length cap, .bool true]) ∧ RdW w' a cap (lsL s)) ∧ (lsB s = false → e = .returned (.tuple #[.slice none 0 0, .bool false])) ∧ Below w.heap.size w w'
theorem ls_yes {s : List UInt8} {L : List (List UInt8)} {w w' : World} {e : Ending} {a : Option Addr} {cap : Nat} (h : fieldsC 10 s = L ++ [[]]) (he : e = .returned (.tuple #[.slice a L.length cap, .bool true])) (hr : RdW w' a cap L) (hb : Below w.heap.size w w') : LsPost s w e w' := by
  have e1 : lsL s = L := by rw [lsL, h, List.dropLast_concat]
  have e2 : lsB s = true := by rw [lsB, h]; simp
  exact ⟨fun _ => ⟨a, cap, by rw [e1]; exact he, by rw [e1]; exact hr⟩, (fun h => by rw [e2] at h; cases h), hb⟩
theorem ls_no {s : List UInt8} {D : List (List UInt8)} {x : List UInt8} {w w' : World} (h : fieldsC 10 s = D ++ [x]) (hx : x ≠ []) (hb : Below w.heap.size w w') : LsPost s w (.returned (.tuple #[.slice none 0 0, .bool false])) w' := by
  have e2 : lsB s = false := by rw [lsB, h]; simp [hx]
  exact ⟨(fun h => by rw [e2] at h; cases h), fun _ => rfl, hb⟩
theorem rlines_any (s : ByteArray) (hs : s.size ≤ 100000000) (w : World) : Calls Tryd.prog 16 #[.string s] w (LsPost s.data.toList w) := by
  obtain ⟨ib, hib, hzb, hzb1, hzb2⟩ := info_parts info_byte
  obtain ⟨is, his, hzs, hzs1, hzs2⟩ := info_parts info_str
  obtain ⟨F, hF⟩ : ∃ F, F = fieldsC 10 s.data.toList := ⟨_, rfl⟩
  have HPY : Hid (∀ w' L a n cap, F = L ++ [[]] → n = L.length → RdW w' a cap L → Below w.heap.size w w' → LsPost s.data.toList w (.returned (.tuple #[.slice a n cap, .bool true])) w') := fun w' L a n cap h1 hn h3 h4 => by
    subst hF; subst hn; exact ls_yes h1 rfl h3 h4
  have HPN : Hid (∀ w' D x, F = D ++ [x] → x ≠ [] → Below w.heap.size w w' → LsPost s.data.toList w (.returned (.tuple #[.slice none 0 0, .bool false])) w') := fun w' D x h1 h2 h4 => by
    subst hF; exact ls_no h1 h2 h4
  have HS0 : Hid (SP w w none 0 [] none 0 []) := ⟨Own.nil _ _ _ _, Own.nil _ _ _ _, Below.refl _ _⟩
  have HF := Lib.hid hF
  clear hF
  go_enter Tryd.func16, Tryd.ntmps16
  go_wp2
  go_loopw [4, 5, 6] (fun o v i wr => ∃ (k : Nat) (done : List (List UInt8)) (cur : List UInt8) (ao ab : Option Addr) (co cb : Nat), k ≤ s.size ∧ i = .int .i64 k ∧ o = .slice ao done.length co ∧ v = .slice ab cur.length cb ∧ SP w wr ao co done ab cb cur ∧ done.length ≤ k ∧ cur.length ≤ k ∧ (∀ b ∈ cur, b ≠ 10) ∧ F = done ++ fieldsC 10 (cur ++ s.data.toList.drop k)) (fun _ _ i _ => s.size - (intOf i).toNat)
  case atStart => exact ⟨0, [], [], none, none, 0, 0, by omega, rfl, rfl, rfl, HS0.out, Nat.le_refl _, Nat.le_refl _, by simp, HF.out⟩
  case round =>
    clear HS0
    obtain ⟨k, done, cur, ao, ab, co, cb, hk, rfl, rfl, rfl, hsp, hdl, hcl, hcn, hrel⟩ := hrel
    have SPH := Lib.hid hsp
    have HCN := Lib.hid hcn
    have HREL := Lib.hid hrel
    have hsz := hsp.bel.size
    clear hsp hcn hrel
    by_cases hlt : k < s.size
    · have d1 : decide ((k : Int) < (s.size : Int)) = true := decide_eq_true (by omega)
      have d1' : decide (k < s.size) = true := decide_eq_true hlt
      have w1 : IntKind.i64.wrap ((k : Int) + 1) = (k : Int) + 1 := by rw [IntKind.wrap_i64]; omega
      have hdrop : s.data.toList.drop k = s[k] :: s.data.toList.drop (k + 1) := List.drop_eq_getElem_cons (by rw [ba_len]; exact hlt)
      by_cases h32 : s[k].toNat = 10
      · have hb32 : s[k] = 10 := by rw [← UInt8.toNat_inj]; exact h32
        have dn : ((s[k].toNat : Int) == 10) = true := by simp [h32]
        have HR2 : Hid (F = (done ++ [cur]) ++ fieldsC 10 ([] ++ s.data.toList.drop (k + 1))) := by
          rw [Hid, HREL.out, hdrop, hb32, fieldsC_app 10 cur _ HCN.out, List.append_assoc]; rfl
        have hconv := run_own_str wr _ _ _ _ _ SPH.out.b
        clear hdrop hb32 h32
        go_wp2_with (at_builtin; (refine wpList_own rfl (.tmp 17) (.tmp 20) 37 rfl w.heap.size 9 is _ 1 16 Tryd.underlying37 his hzs hzs1 hzs2 rfl (by omega) ao done.length co (strC done) rfl ((SPH.out.below ((Below.refl _ _).alloc (Nat.le_refl _) _)).o) wr.heap.size [.string (ba cur)] rfl (new_block _ _ _ rfl) rfl (by simp [Value.oneCell']) (by simp only [maxLen]; omega) (by omega) (by simp; omega) ?_); intro g' c' w2 hown1 hmod1 _; have HO := Lib.hid hown1; have HM : Hid (Mod (blk ao) wr w2) := ((Mod.ofBelow ((Below.refl wr.heap.size wr).alloc (Nat.le_refl _) _)).trans hmod1); clear hown1 hmod1)
        have SP2 : Hid (SP w w2 (some ⟨g', 0, none⟩) c' (done ++ [cur]) none 0 []) := ⟨by rw [strC_snoc, List.length_append]; exact HO.out, Own.nil _ _ _ _, SPH.out.bel.trans (HM.out.below (fun j hj => (SPH.out.o.ge j hj).1) hsz)⟩
        go_roundw
        case rel => exact ⟨k + 1, done ++ [cur], [], some ⟨g', 0, none⟩, none, c', 0, by omega, by go_num, by rw [List.length_append]; rfl, rfl, SP2.out, by simp; omega, by simp, by simp, HR2.out⟩
        case measure => simp [intOf]; omega
      · have hb32 : s[k] ≠ 10 := fun e => h32 (by rw [e]; rfl)
        have dn : ((s[k].toNat : Int) == 10) = false := by rw [beq_eq_false_iff_ne]; omega
        have HR2 : Hid (F = done ++ fieldsC 10 ((cur ++ [s[k]]) ++ s.data.toList.drop (k + 1))) := by
          rw [Hid, HREL.out, hdrop, List.append_assoc]; rfl
        have HB2 : Hid (∀ b ∈ cur ++ [s[k]], b ≠ 10) := fun b hb => by
          rcases List.mem_append.1 hb with h | h
          · exact HCN.out b h
          · rw [List.mem_singleton.1 h]; exact hb32
        have hx : s[k].toNat < 256 := s[k].toNat_lt
        clear hdrop hb32 h32
        go_wp2_with (at_builtin; (refine wpList_own rfl (.tmp 22) (.tmp 26) 67 rfl w.heap.size 5 ib _ 1 1 Tryd.underlying67 hib hzb hzb1 hzb2 rfl (by omega) ab cur.length cb (bC cur) rfl ((SPH.out.below ((Below.refl _ _).alloc (Nat.le_refl _) _)).b) wr.heap.size [.int .u8 (s[k].toNat : Int)] rfl (new_block _ _ _ rfl) rfl (by simp [Value.oneCell']) (by simp only [maxLen]; omega) (by omega) (by simp; omega) ?_); intro g' c' w2 hown1 hmod1 _; have HO := Lib.hid hown1; have HM : Hid (Mod (blk ab) wr w2) := ((Mod.ofBelow ((Below.refl wr.heap.size wr).alloc (Nat.le_refl _) _)).trans hmod1); clear hown1 hmod1)
        have SP2 : Hid (SP w w2 ao co done (some ⟨g', 0, none⟩) c' (cur ++ [s[k]])) := ⟨SPH.out.o.mod HM.out (SPH.out.o.apart SPH.out.b (by decide)), by rw [bC_snoc, List.length_append]; exact HO.out, SPH.out.bel.trans (HM.out.below (fun j hj => (SPH.out.b.ge j hj).1) hsz)⟩
        go_roundw
        case rel => exact ⟨k + 1, done, cur ++ [s[k]], ao, some ⟨g', 0, none⟩, co, c', by omega, by go_num, rfl, by rw [List.length_append]; rfl, SP2.out, by omega, by simp; omega, HB2.out, HR2.out⟩
        case measure => simp [intOf]; omega
    · have d1 : decide ((k : Int) < (s.size : Int)) = false := decide_eq_false (by omega)
      have d1' : decide (k < s.size) = false := decide_eq_false hlt
      have HR2 : Hid (F = done ++ [cur]) := by
        rw [Hid, HREL.out, List.drop_eq_nil_of_le (by rw [ba_len]; omega), List.append_nil, fieldsC_free 10 cur HCN.out]
      by_cases hc0 : cur.length = 0
      · have dc : decide ((cur.length : Int) > 0) = false := decide_eq_false (by omega)
        have dc' : decide (0 < cur.length) = false := decide_eq_false (by omega)
        have HC0 : Hid (cur = []) := List.eq_nil_of_length_eq_zero hc0
        clear hc0
        go_wp2
        go_ret2
        exact HPY.out _ done _ _ _ (by rw [HR2.out, HC0.out]) rfl (own_rdW SPH.out.o) SPH.out.bel
      · have dc : decide ((cur.length : Int) > 0) = true := decide_eq_true (by omega)
        have dc' : decide (0 < cur.length) = true := decide_eq_true (by omega)
        have HC0 : Hid (cur ≠ []) := fun e => hc0 (by rw [e]; rfl)
        clear hc0
        go_wp2
        go_ret2
        exact HPN.out _ done cur HR2.out HC0.out SPH.out.bel
theorem lines_any (s : ByteArray) (hs : s.size ≤ 100000000) (w : World) : Calls Tryd.prog 15 #[.string s] w (LsPost s.data.toList w) := by
  have HPY : Hid (∀ w' L a n cap, fieldsC 10 s.data.toList = L ++ [[]] → n = L.length → RdW w' a cap L → Below w.heap.size w w' → LsPost s.data.toList w (.returned (.tuple #[.slice a n cap, .bool true])) w') := fun w' L a n cap h1 hn h3 h4 => by
    subst hn; exact ls_yes h1 rfl h3 h4
  have HPN : Hid (∀ w' D x, fieldsC 10 s.data.toList = D ++ [x] → x ≠ [] → Below w.heap.size w w' → LsPost s.data.toList w (.returned (.tuple #[.slice none 0 0, .bool false])) w') := fun w' D x h1 h2 h4 => by
    exact ls_no h1 h2 h4
  by_cases h0 : s.size = 0
  · have ie := toList_empty s
    rw [decide_eq_true h0] at ie
    have HE : Hid (fieldsC 10 s.data.toList = [] ++ [[]]) := by
      have : s.data.toList = [] := List.eq_nil_of_length_eq_zero (by rw [ba_len]; exact h0)
      rw [Hid, this]; rfl
    clear h0
    go_enter Tryd.func15, Tryd.ntmps15
    go_wp2_with fail
    go_ret2
    exact HPY.out _ [] _ _ _ HE.out rfl (own_rdW (Own.nil w w.heap.size 9 1)) (Below.refl _ _)
  · have ie := toList_empty s
    rw [decide_eq_false h0] at ie
    have HSU : Hid (∀ W, Calls Tryd.prog 23 #[.string s, .string ⟨#[10]⟩] W fun e w' => e = .returned (.bool (Lib.hasSuffix s.data.toList [10])) ∧ w' = W) := fun W => Tryd.strings_HasSuffix s ⟨#[10]⟩ W (by omega)
    cases hx : Lib.hasSuffix s.data.toList [10]
    · have HE : Hid (∃ D x, fieldsC 10 s.data.toList = D ++ [x] ∧ x ≠ []) := by
        refine ⟨(fieldsC 10 s.data.toList).dropLast, (fieldsC 10 s.data.toList).getLast (fieldsC_ne 10 _), (List.dropLast_concat_getLast _).symm, fun e => ?_⟩
        have h2 : (fieldsC 10 s.data.toList).getLast? = some [] := by rw [List.getLast?_eq_some_getLast (fieldsC_ne 10 _), e]
        rcases (fieldsC_last _).1 h2 with h | h
        · rw [← List.length_eq_zero_iff, ba_len] at h; exact h0 h
        · rw [(suf_10 _).2 h] at hx; cases hx
      rw [hx] at HSU
      clear h0 hx
      go_enter Tryd.func15, Tryd.ntmps15
      go_wp2_with fail
      refine (HSU.out _).mono ?_; rintro e w' ⟨rfl, rfl⟩
      go_wp2_with fail
      go_ret2
      obtain ⟨D, x, h1, h2⟩ := HE.out
      exact HPN.out _ D x h1 h2 (Below.refl _ _)
    · obtain ⟨t, ht⟩ : ∃ t, s.data.toList = t ++ [10] := by
        obtain ⟨t, ht⟩ := List.getLast?_eq_some_iff.1 ((suf_10 _).1 hx); exact ⟨t, ht⟩
      have hlt : t.length + 1 = s.size := by rw [← ba_len, ht]; simp
      have HT : Hid (s.extract 0 (s.size - 1) = ba t) := by
        apply ByteArray.ext
        apply Array.ext'
        rw [ByteArray.data_extract, Array.toList_extract, ht, ba_data, ← hlt]
        simp
      have HE : Hid (fieldsC 10 s.data.toList = fieldsC 10 t ++ [[]]) := by rw [Hid, ht, fieldsC_sep]
      have HSP : Hid (∀ W, Calls Tryd.prog 19 #[.string (s.extract 0 (s.size - 1)), .string ⟨#[10]⟩] W fun e w' => e = .returned (.slice (some ⟨W.heap.size, 0, none⟩) (fieldsC 10 t).length (fieldsC 10 t).length) ∧ w' = W.alloc (.cells (strC (fieldsC 10 t)).toArray 9)) := fun W => by
        rw [HT.out]
        have := split1L (ba t) 10 W (by rw [ba_size]; omega)
        rw [ba_data] at this; exact this
      have HR : Hid (∀ W : World, RdW (W.alloc (.cells (strC (fieldsC 10 t)).toArray 9)) (some ⟨W.heap.size, 0, none⟩) (fieldsC 10 t).length (fieldsC 10 t)) := fun W => by
        refine ⟨⟨by rw [strC_len, Nat.mul_one], (fun h => by cases h), fun p hp hne => ?_⟩, Nat.le_refl _, ?_⟩
        · injection hp with hp
          subst hp
          have ho := ObjAt.new W 9 (strC (fieldsC 10 t))
          exact ⟨W.heap.size, 0, rfl, ho.lt, fun j u hu => by rw [Nat.zero_add]; exact ho.cell j u hu⟩
        · rw [fieldsC_len]
          have := List.count_le_length (a := (10 : UInt8)) (l := t)
          unfold maxLen; omega
      have w5 : IntKind.i64.wrap ((s.size : Int) - 1) = ((s.size - 1 : Nat) : Int) := by rw [IntKind.wrap_i64]; omega
      have hsz : s.size - 1 ≤ s.size := by omega
      rw [hx] at HSU
      clear h0 hx ht hlt HT
      go_enter Tryd.func15, Tryd.ntmps15
      go_wp2_with fail
      refine (HSU.out _).mono ?_; rintro e w' ⟨rfl, rfl⟩
      go_wp2_with fail
      refine (HSP.out _).mono ?_; rintro e w2 ⟨rfl, rfl⟩
      go_wp2_with fail
      go_ret2
      exact HPY.out _ _ _ _ _ HE.out rfl (HR.out _) ((Below.refl _ _).alloc (Nat.le_refl _) _)
end Go.Proofs.YtoalpdjpljapbaaDoor
