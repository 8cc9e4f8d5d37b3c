/- The step from a walk (the call returns true and changes nothing below the old heap's size) to a law's statement: plain lemmas over any program. -/
import Derived.WalkKit
import Derived.ProofKit
import Derived.OpenShut
import Derived.ShutString
import Derived.ChangeOld
import Derived.Below
import Derived.WalkSpells
import Derived.WalkLawsBesides
import Derived.Deep.QuietTactic
import Derived.BigQuiet
import Derived.Lib.Hide
import Derived.Outline
import Derived.Deep.Slices
import Derived.Deep.Fields
import Derived.Lib.Split
import Derived.Lib.SplitLaws
import Derived.Lib.IndexBytes
import Derived.Lib.IndexLaws
import Derived.Lib.ItoaNum
import Derived.Test.YtoklonmiejdgmaaGreatDoorChecked
import Derived.Shelf.Strings.Builder1
import Derived.Shelf.Strings.Builder2
import Derived.Shelf.Strings.OnBuilder
import Derived.Shelf.Small.Wraps
import Derived.Shelf.Strings.BuilderF
import Derived.Shelf.Strings.BuilderK
import Derived.Shelf.Utf8.RuneCount
import Derived.Shelf.Strings.Builder2Cap
import Derived.Shelf.Strconv.Itoa0
import Derived.Shelf.Strconv.Itoa1
import Derived.Shelf.LaysM
import Derived.Shelf.Strconv.Itoa2
import Derived.Shelf.Strconv.Itoa3
import Derived.Shelf.Strings.Search1
import Derived.Shelf.Strings.Search2
import Derived.Shelf.Strings.Search3
import Derived.Shelf.Strings.Count
import Derived.Shelf.Strings.Shaped
import Derived.Shelf.Strings.Prefix
import Derived.Shelf.Strings.Split
import Derived.Shelf.Strings.SplitShaped
import Derived.Shelf.Unicode.Decode
import Derived.Shelf.Strings.RuneCount
import Derived.Shelf.Strings.Explode
import Derived.Shelf.Unicode.DecodeSlow
import Derived.Shelf.Unicode.DecodeAny
import Derived.Shelf.Strings.BuilderCap
import Derived.Laws.StructEq
import Derived.Deep.MidRow
import Derived.Deep.WholeRow
import Derived.Lib.QuietBelow
import Derived.Deep.RegionHeld3
import Derived.Deep.AppendLies
import Derived.Deep.RegionLaw
import Derived.StillTailTactics
import Derived.Shelf.Strings.SplitCore
namespace Go.Proofs.YtoklonmiejdgmaaGreatDoor
set_option linter.unusedVariables false
set_option linter.unusedSimpArgs false
set_option linter.unnecessarySimpa false
open Go.ChangeShapes Go.WideShapes Go.ChangeAt Go.RowKit

theorem trodAll_below {H : Type} {enc : TypeId × Value → H} {P : Program} (hl : laidOutB P = true) {W W' : World} (hb : Below W.heap.size W W') :
    ∀ (ts : List TypeId) (vs : List Value) (ds : List (DataW H)) (ps : List MemPlace),
      (ts.all fun t => P.readableRec t && decide (t < P.types.size)) = true →
      DataW.TrodAll enc P W 0 (fun _ => true) true ts vs ds ps →
      DataW.TrodAll enc P W' 0 (fun b => decide (b < W.heap.size)) true ts vs ds ps
  | [], vs, ds, ps, _, h => by
    obtain ⟨rfl, rfl, rfl⟩ := trodAll_nil h
    exact trodAll_mk0
  | t :: ts, vs, ds, ps, hr, h => by
    obtain ⟨v, vs', d, ds', p, q, rfl, rfl, rfl, h0, h1⟩ := trodAll_cons h
    simp only [List.all_cons, Bool.and_eq_true, decide_eq_true_eq] at hr
    obtain ⟨⟨hr1, hr2⟩, hr3⟩ := hr
    have lt0 : ∀ x ∈ p, x.block < W.heap.size := by
      obtain ⟨m, hm⟩ := h0
      exact DataW.trod_lt m _ _ _ hm
    exact trodAll_cons_mk (Below.trod hl hr1 hr2 h0 hb lt0) (trodAll_below hl hb ts vs' ds' q hr3 h1)

theorem law_post {H : Type} {enc : TypeId × Value → H} {P : Program} {f : Func} {s : ChangeSpec} (hl : laidOutB P = true) {tb : TypeId} (hres : f.resultTypes = #[tb]) (hbool : P.underlying tb = some .bool)
    (hr : (f.params.toList.all fun t => P.readableRec t && decide (t < P.types.size)) = true) (hvars : s.vars = []) {W W' : World} {args : Array Value} {ds gs : List (DataW H)} {before : List MemPlace}
    (hW : DataW.Whole enc P f.params.toList s.vars false W args.toList ds gs before)
    (hfn : gs = [] → s.fn H (ds ++ gs) = { results := [.lit (.bool true)], args := ds }) (bel : Below W.heap.size W W') :
    s.post enc P f false true false false W args (.bool true) W' := by
  have hW' := hW
  obtain ⟨p, q, hA, hV, rfl, hfz, hnd⟩ := hW
  have hV2 : DataW.TrodVars enc P W (fun _ => true) [] gs q := by rw [← hvars]; exact hV
  obtain ⟨rfl, rfl⟩ := trodVars_none hV2
  refine ⟨ds, [], _, [], p, [], hW', ?_, ?_, ?_, bel.frame _, fun h => by cases h⟩
  · rw [hfn rfl, hres]
    exact trodAll_mk1 (shut_bool hbool true)
  · rw [hfn rfl]
    exact trodAll_below hl bel _ _ _ _ hr hA
  · rw [hfn rfl, hvars]
    rfl
#print axioms law_post
end Go.Proofs.YtoklonmiejdgmaaGreatDoor
/- Bits of numbers that are not negative; the reading of a slice of integers: plain lemmas. -/
namespace Go.Proofs.YtoklonmiejdgmaaGreatDoor
set_option linter.unusedVariables false
set_option linter.unusedSimpArgs false
set_option linter.unnecessarySimpa false
open Go.RowKit

theorem ofInt64 (a : Nat) (ha : a < 9223372036854775808) : (BitVec.ofInt 64 (a : Int)).toNat = a := by
  simp only [BitVec.toNat_ofInt]
  omega

theorem wrap64_nat (a : Nat) (ha : a < 9223372036854775808) : IntKind.i64.wrap (a : Int) = a := IntWalk.i64_in _ (by omega)

theorem i64_and (a b : Nat) (ha : a < 9223372036854775808) (hb : b < 9223372036854775808) : bits .and .i64 (a : Int) (b : Int) = ((a &&& b : Nat) : Int) := by
  have h : (BitVec.ofInt 64 (a : Int) &&& BitVec.ofInt 64 (b : Int)).toNat = a &&& b := by rw [BitVec.toNat_and, ofInt64 a ha, ofInt64 b hb]
  have hl : a &&& b < 9223372036854775808 := Nat.lt_of_le_of_lt Nat.and_le_left ha
  simp only [bits]
  show IntKind.i64.wrap ((BitVec.ofInt 64 (a : Int) &&& BitVec.ofInt 64 (b : Int)).toNat : Int) = _
  rw [h, wrap64_nat _ hl]

theorem i64_or (a b : Nat) (ha : a < 9223372036854775808) (hb : b < 9223372036854775808) : bits .or .i64 (a : Int) (b : Int) = ((a ||| b : Nat) : Int) := by
  have h : (BitVec.ofInt 64 (a : Int) ||| BitVec.ofInt 64 (b : Int)).toNat = a ||| b := by rw [BitVec.toNat_or, ofInt64 a ha, ofInt64 b hb]
  have hl : a ||| b < 2 ^ 63 := Nat.or_lt_two_pow (by omega) (by omega)
  simp only [bits]
  show IntKind.i64.wrap ((BitVec.ofInt 64 (a : Int) ||| BitVec.ofInt 64 (b : Int)).toNat : Int) = _
  rw [h, wrap64_nat _ (by omega)]

/-- What is in a alone. -/
def andN (a b : Nat) : Nat := a ^^^ (a &&& b)
theorem andN_testBit (a b i : Nat) : (andN a b).testBit i = (a.testBit i && !b.testBit i) := by
  unfold andN
  rw [Nat.testBit_xor, Nat.testBit_and]
  cases a.testBit i <;> cases b.testBit i <;> rfl

theorem i64_andNot (a b : Nat) (ha : a < 9223372036854775808) (hb : b < 9223372036854775808) : bits .andNot .i64 (a : Int) (b : Int) = ((andN a b : Nat) : Int) := by
  have h : (BitVec.ofInt 64 (a : Int) &&& ~~~ BitVec.ofInt 64 (b : Int)).toNat = andN a b := by
    apply Nat.eq_of_testBit_eq
    intro i
    rw [andN_testBit, BitVec.toNat_and, Nat.testBit_and, ofInt64 a ha]
    by_cases hi : i < 64
    · rw [BitVec.toNat_not, ofInt64 b hb, show (2 ^ 64 - 1 - b) = 2 ^ 64 - (b + 1) from by omega, Nat.testBit_two_pow_sub_succ (by omega)]
      simp [hi]
    · have : a.testBit i = false := Nat.testBit_lt_two_pow (Nat.lt_of_lt_of_le ha (Nat.le_trans (by decide : 9223372036854775808 ≤ 2 ^ 64) (Nat.pow_le_pow_right (by decide) (by omega))))
      rw [this]; rfl
  have hl : andN a b < 2 ^ 63 := Nat.xor_lt_two_pow (by omega) (Nat.lt_of_le_of_lt Nat.and_le_left (by omega))
  simp only [bits]
  show IntKind.i64.wrap ((BitVec.ofInt 64 (a : Int) &&& ~~~ BitVec.ofInt 64 (b : Int)).toNat : Int) = _
  rw [h, wrap64_nat _ (by omega)]

theorem testBit_div (l c : Nat) : (l / 2 ^ c % 2 = 1) ↔ l.testBit c = true := by
  rw [Nat.testBit_eq_decide_div_mod_eq]; simp

/-- 'x>>c & 1 == 1' as the walk writes it. -/
theorem bit_eq (l c : Nat) (hl : l < 9223372036854775808) : (bits BinOp.and IntKind.i64 ((l : Int) / 2 ^ c) 1 == 1) = l.testBit c := by
  have e : ((l : Int) / 2 ^ c) = ((l / 2 ^ c : Nat) : Int) := by simp
  have h1 : l / 2 ^ c < 9223372036854775808 := Nat.lt_of_le_of_lt (Nat.div_le_self _ _) hl
  rw [e, show (1 : Int) = ((1 : Nat) : Int) from rfl, i64_and _ _ h1 (by decide), Nat.and_one_is_mod]
  have := testBit_div l c
  cases h : l.testBit c
  · rw [h] at this
    simp at this
    simp; omega
  · rw [h] at this
    simp at this
    simp; omega

theorem eq_of_bits8 (a b : Nat) (ha : a < 256) (hb : b < 256) (h : ∀ c, c < 8 → a.testBit c = b.testBit c) : a = b := by
  apply Nat.eq_of_testBit_eq
  intro i
  by_cases hi : i < 8
  · exact h i hi
  · have pw : (2 : Nat) ^ 8 ≤ 2 ^ i := Nat.pow_le_pow_right (by decide) (by omega)
    simp only [Nat.reducePow] at pw
    rw [Nat.testBit_lt_two_pow (Nat.lt_of_lt_of_le ha pw), Nat.testBit_lt_two_pow (Nat.lt_of_lt_of_le hb pw)]

/-- A slice of integers that came in, or that the call laid: its elements. -/
def RowI (w : World) (k : IntKind) (v : Value) (xs : List Int) : Prop :=
  ∃ a cap, v = .slice a xs.length cap ∧ xs.length ≤ cap ∧ cap ≤ maxLen ∧ (xs ≠ [] → ∃ b off, a = some ⟨b, off, none⟩ ∧ ∀ i (h : i < xs.length), w.cell? ⟨b, off + i, none⟩ = some (.int k xs[i]))

theorem RowI.below {w w' : World} {k : IntKind} {v : Value} {xs : List Int} (h : RowI w k v xs) (hb : Below w.heap.size w w') : RowI w' k v xs := by
  obtain ⟨a, cap, rfl, h1, h2, h3⟩ := h
  refine ⟨a, cap, rfl, h1, h2, fun hn => ?_⟩
  obtain ⟨b, off, rfl, hc⟩ := h3 hn
  refine ⟨b, off, rfl, fun i hi => ?_⟩
  have := hc i hi
  rw [hb.cell (p := ⟨b, off + i, none⟩) (World.block_lt_of_cell? w ⟨b, off + i, none⟩ this)]
  exact this
theorem RowI.low {w : World} {k : IntKind} {v : Value} {xs : List Int} (h : RowI w k v xs) : xs ≠ [] → ∀ b off c, v = .slice (some ⟨b, off, none⟩) xs.length c → b < w.heap.size := by
  obtain ⟨a, cap, rfl, h1, h2, h3⟩ := h
  rintro hn b off c e
  obtain ⟨b', off', rfl, hc⟩ := h3 hn
  simp at e
  obtain ⟨⟨rfl, rfl⟩, rfl⟩ := e
  have hpos : 0 < xs.length := List.length_pos_iff.2 hn
  exact World.block_lt_of_cell? w ⟨b', off' + 0, none⟩ (hc 0 hpos)
theorem RowI.form {w : World} {k : IntKind} {v : Value} {xs : List Int} (h : RowI w k v xs) : ∃ a c, v = .slice a xs.length c := by
  obtain ⟨a, cap, rfl, _⟩ := h
  exact ⟨a, cap, rfl⟩

theorem cell_at {w : World} {b : Nat} {cs : Array Value} {t : TypeId} {fz : Nat × Nat} (h : w.heap[b]? = some (.cells cs t fz)) (j : Nat) (v : Value) (hv : cs[j]? = some v) : w.cell? ⟨b, j, none⟩ = some v := by
  simp [World.cell?, h, hv]
theorem free_at {w : World} {b : Nat} {cs : Array Value} {t : TypeId} (h : w.heap[b]? = some (.cells cs t (0, 0))) (j : Nat) : w.frozen? ⟨b, j, none⟩ = false := by
  simp [World.frozen?, h]
theorem new_block (w : World) (o : Obj) (n : Nat) (hn : w.heap.size = n) : (w.alloc o).heap[n]? = some o := by subst hn; exact heap_alloc_new w o
theorem keepB {B : Nat} {w w' : World} (h : Below B w w') {b : Nat} {o : Obj} (hb : b < B) (ho : w.heap[b]? = some o) : w'.heap[b]? = some o := (h.block b hb).trans ho

theorem ret_bool {a b : Bool} (h : a = b) : Ending.returned (.bool a) = .returned (.bool b) := by rw [h]
theorem ret_two {k1 k2 : IntKind} {a b c d : Int} (h : a = b) (h' : c = d) : Ending.returned (.tuple #[.int k1 a, .int k2 c]) = .returned (.tuple #[.int k1 b, .int k2 d]) := by rw [h, h']
theorem ret_int {k : IntKind} {a b : Int} (h : a = b) : Ending.returned (.int k a) = .returned (.int k b) := by rw [h]
end Go.Proofs.YtoklonmiejdgmaaGreatDoor
/- Opening the arguments of a law: integers, strings, slices of integers. -/
namespace Go.Proofs.YtoklonmiejdgmaaGreatDoor
set_option linter.unusedVariables false
set_option linter.unusedSimpArgs false
set_option linter.unnecessarySimpa false
open Go.ChangeShapes Go.WideShapes Go.ChangeAt Go.RowKit

theorem open_rowI {H : Type} {enc : TypeId × Value → H} {P : Program} {W : World} {base : Nat} {t e : TypeId} {k : IntKind} (ht : P.underlying t = some (.slice e)) (he : P.underlying e = some (.int k)) (hc : P.cellsOf e = 1)
    {v : Value} {d : DataW H} {p : List MemPlace} (hok : Value.okWide P W .any base t v) (h : DataW.Trod enc P W 0 (fun _ => true) true t v d p) :
    ∃ xs : List Int, RowI W k v xs ∧ (∀ n ∈ xs, (Lit.int k n).wf = true) ∧ (xs = [] ∨ ∃ a b : List (DataW H), d = .slice a b ∧ xs.length ≤ a.length + b.length) := by
  obtain ⟨a, len, cap, rfl⟩ := okWide_slice ht hok
  obtain ⟨fuel, hf⟩ := h
  rcases open_ints ht he hc hf with ⟨hcs, hx⟩ | ⟨ad, len', cap', zs, hcs, _, hl, hm, hz, hx, hcell, hwz⟩
  · simp [Value.cells] at hcs
    obtain ⟨rfl, rfl, rfl⟩ := hcs
    exact ⟨[], ⟨none, 0, rfl, Nat.le_refl _, by decide, by simp⟩, by simp, .inl rfl⟩
  · simp [Value.cells] at hcs
    obtain ⟨rfl, rfl, rfl⟩ := hcs
    simp only [if_true] at hz
    refine ⟨zs.take len, ⟨some ad, cap, ?_, ?_, hm, fun hn => ?_⟩, fun n hn => hwz n (List.mem_of_mem_take hn), .inr ⟨lits k (zs.take len), lits k (zs.drop len), ?_, ?_⟩⟩
    · simp [hz, Nat.min_eq_left hl]
    · simp [hz]; omega
    · obtain ⟨b, off, spot⟩ := ad
      have hpos : 0 < zs.length := by
        cases zs with
        | nil => simp at hn
        | cons => simp
      have h0 := hcell 0 hpos
      have hspot : spot = none := by simpa [Addr.add] using World.cell?_spot h0
      subst hspot
      refine ⟨b, off, rfl, fun i hi => ?_⟩
      have hi2 : i < zs.length := by simp at hi; omega
      have := hcell i hi2
      rw [show (⟨b, off, none⟩ : Addr).add i = ⟨b, off + i, none⟩ from by unfold Addr.add; split <;> simp_all] at this
      rw [List.getElem_take]
      simpa [hi2] using this
    · exact (Prod.mk.inj hx).1
    · simp [lits]

theorem reach_rowI {H : Type} {P : Program} {ts : List TypeId} {ds : List (DataW H)} (hsz : (DataW.weightsEach P ts ds).all (· ≤ reachBytes) = true) {j : Nat} {t e : TypeId} (ht : P.underlying t = some (.slice e)) {d : DataW H} {xs : List Int}
    (hj : ts[j]? = some t) (hd : ds[j]? = some d) (h : xs = [] ∨ ∃ a b : List (DataW H), d = .slice a b ∧ xs.length ≤ a.length + b.length) : xs.length * P.bytesOf e ≤ 140737488351232 := by
  rcases h with rfl | ⟨a, b, rfl, hl⟩
  · simp
  · have := sized_slice hsz hj hd ht
    simp only [reachBytes] at this
    exact Nat.le_trans (Nat.mul_le_mul_right _ hl) this
theorem reach_string {H : Type} {P : Program} {ts : List TypeId} {ds : List (DataW H)} (hsz : (DataW.weightsEach P ts ds).all (· ≤ reachBytes) = true) {j : Nat} {t : TypeId} {bytes : List UInt8}
    (hj : ts[j]? = some t) (hd : ds[j]? = some (.lit (.string bytes))) : bytes.length ≤ 140737488351232 := sized_string hsz hj hd
end Go.Proofs.YtoklonmiejdgmaaGreatDoor
/- A value of a struct or an array, taken apart into its cells, whatever the nesting: each cell with the reading of its own type. -/
namespace Go.Proofs.YtoklonmiejdgmaaGreatDoor
set_option linter.unusedVariables false
set_option linter.unusedSimpArgs false
set_option linter.unnecessarySimpa false
open Go.ChangeShapes Go.WideShapes Go.ChangeAt Go.RowKit Go.Deep

/-- The types of the cells of a value of type t. -/
def leaves (P : Program) : Nat → TypeId → List TypeId
  | 0, t => [t]
  | n + 1, t => match P.underlying t with
    | some (.struct fs) => fs.toList.flatMap fun f => leaves P n f.type
    | some (.array k e) => (List.range k).flatMap fun _ => leaves P n e
    | _ => [t]
def fieldsOk (P : Program) (n : Nat) (ok : TypeId → Bool) : Nat → List Field → Bool
  | _, [] => true
  | o, f :: fs => f.offset == o && ok f.type && P.cellsOf f.type == (leaves P n f.type).length && fieldsOk P n ok (o + P.cellsOf f.type) fs
def flatOk (P : Program) : Nat → TypeId → Bool
  | 0, t => match P.underlying t with
    | some (.struct _) | some (.array _ _) => false
    | _ => true
  | n + 1, t => match P.underlying t with
    | some (.struct fs) => fieldsOk P n (flatOk P n) 0 fs.toList
    | some (.array _ e) => flatOk P n e && P.cellsOf e == (leaves P n e).length
    | _ => true

section
variable {H : Type} {enc : TypeId × Value → H} {P : Program} {w : World} {base : Nat} {spare : Nat → Bool} {held : Bool}

theorem fields_at {n : Nat} {ok : TypeId → Bool} : ∀ (fs : List Field) (o j : Nat) (lt : TypeId), fieldsOk P n ok o fs = true → (fs.flatMap fun f => leaves P n f.type)[j]? = some lt →
    ∃ (i : Nat) (f : Field) (r : Nat), fs[i]? = some f ∧ o + j = f.offset + r ∧ r < P.cellsOf f.type ∧ (leaves P n f.type)[r]? = some lt ∧ ok f.type = true
  | [], _, _, _, _, h => by simp at h
  | f :: fs, o, j, lt, hok, h => by
    simp only [fieldsOk, Bool.and_eq_true, beq_iff_eq] at hok
    obtain ⟨⟨⟨h1, h2⟩, h3⟩, h4⟩ := hok
    rw [List.flatMap_cons] at h
    by_cases hj : j < (leaves P n f.type).length
    · rw [List.getElem?_append_left hj] at h
      exact ⟨0, f, j, rfl, by omega, by omega, h, h2⟩
    · rw [List.getElem?_append_right (by omega)] at h
      obtain ⟨i, f', r, g1, g2, g3, g4, g5⟩ := fields_at fs _ _ lt h4 h
      exact ⟨i + 1, f', r, by simpa using g1, by omega, g3, g4, g5⟩

theorem range_at {l : List TypeId} : ∀ (k j : Nat) (lt : TypeId), ((List.range k).flatMap fun _ => l)[j]? = some lt → ∃ i r, i < k ∧ j = i * l.length + r ∧ l[r]? = some lt
  | 0, _, _, h => by simp at h
  | k + 1, j, lt, h => by
    rw [List.range_succ, List.flatMap_append] at h
    have hlen : ((List.range k).flatMap fun _ => l).length = k * l.length := by rw [List.length_flatMap]; simp [List.map_const', List.sum_replicate_nat]
    by_cases hj : j < k * l.length
    · rw [List.getElem?_append_left (by omega)] at h
      obtain ⟨i, r, g1, g2, g3⟩ := range_at k j lt h
      exact ⟨i, r, by omega, g2, g3⟩
    · rw [List.getElem?_append_right (by omega), hlen] at h
      exact ⟨k, j - k * l.length, by omega, by omega, by simpa using h⟩

theorem trod_len {fuel : Nat} {t : TypeId} {cs : List Value} {x : DataW H × List MemPlace} (hn : ∀ fs, P.underlying t ≠ some (.struct fs)) (hn' : ∀ k e, P.underlying t ≠ some (.array k e)) (h : DataW.trod enc P w base spare held fuel t cs = some x) : ∃ v, cs = [v] := by
  cases fuel with
  | zero => simp [DataW.trod] at h
  | succ fuel =>
    unfold DataW.trod at h
    split at h <;> first | exact ⟨_, rfl⟩ | (exfalso; exact absurd ‹_› (hn _)) | (exfalso; exact absurd ‹_› (hn' _ _)) | cases h

theorem trod_leaves : ∀ (n : Nat) {fuel : Nat} {t : TypeId} {cs : List Value} {x : DataW H × List MemPlace}, flatOk P n t = true → DataW.trod enc P w base spare held fuel t cs = some x →
    ∀ (j : Nat) (lt : TypeId), (leaves P n t)[j]? = some lt → ∃ (v : Value) (y : DataW H × List MemPlace) (m : Nat), cs[j]? = some v ∧ DataW.trod enc P w base spare held m lt [v] = some y
  | 0, fuel, t, cs, x, hok, h, j, lt, hj => by
    simp only [flatOk] at hok
    obtain ⟨v, rfl⟩ := trod_len (fun fs e => by rw [e] at hok; cases hok) (fun k e' e => by rw [e] at hok; cases hok) h
    simp only [leaves] at hj
    match j, hj with
    | 0, hj =>
      obtain rfl : t = lt := by simpa using hj
      exact ⟨v, x, fuel, rfl, h⟩
  | n + 1, fuel, t, cs, x, hok, h, j, lt, hj => by
    simp only [flatOk] at hok
    simp only [leaves] at hj
    cases hu : P.underlying t with
    | none =>
      rw [hu] at hok hj
      obtain ⟨v, rfl⟩ := trod_len (fun fs e => by rw [hu] at e; cases e) (fun k e' e => by rw [hu] at e; cases e) h
      match j, hj with
      | 0, hj =>
        obtain rfl : t = lt := by simpa using hj
        exact ⟨v, x, fuel, rfl, h⟩
    | some d =>
      rw [hu] at hok hj
      by_cases hs : ∃ fs, d = .struct fs
      · obtain ⟨fs, rfl⟩ := hs
        obtain ⟨xs, m, rfl, hx, hlen, hxl, hg⟩ := DataW.trod_struct hu h
        obtain ⟨i, f, r, g1, g2, g3, g4, g5⟩ := fields_at fs.toList 0 j lt hok hj
        have g1' : fs[i]? = some f := by simpa using g1
        have hgi := hg i f g1'
        have hi : i < fs.size := (Array.getElem?_eq_some_iff.1 g1').1
        rw [List.getElem?_eq_getElem (by omega : i < xs.length)] at hgi
        obtain ⟨v, y, m', e1, e2⟩ := trod_leaves n g5 hgi r lt g4
        refine ⟨v, y, m', ?_, e2⟩
        rw [List.getElem?_take, if_pos g3, List.getElem?_drop] at e1
        rw [← e1]
        congr 1
        omega
      · by_cases ha : ∃ k e, d = .array k e
        · obtain ⟨k, e, rfl⟩ := ha
          simp only [Bool.and_eq_true, beq_iff_eq] at hok
          obtain ⟨xs, m, rfl, hx, hlen, hxl, hg⟩ := DataW.trod_array hu h
          obtain ⟨i, r, g1, g2, g3⟩ := range_at k j lt hj
          have hgi := hg i g1
          rw [List.getElem?_eq_getElem (by omega : i < xs.length)] at hgi
          obtain ⟨v, y, m', e1, e2⟩ := trod_leaves n hok.1 hgi r lt g3
          refine ⟨v, y, m', ?_, e2⟩
          have hr : r < (leaves P n e).length := (List.getElem?_eq_some_iff.1 g3).1
          rw [List.getElem?_take, if_pos (by omega), List.getElem?_drop, hok.2] at e1
          rw [← e1]
          congr 1
        · obtain ⟨v, rfl⟩ := trod_len (fun fs e => hs ⟨fs, by rw [hu] at e; simpa using e⟩) (fun k e' e => ha ⟨k, e', by rw [hu] at e; simpa using e⟩) h
          have hj' : ([t] : List TypeId)[j]? = some lt := by
            cases d <;> first | exact hj | exact absurd ⟨_, rfl⟩ hs | exact absurd ⟨_, _, rfl⟩ ha
          match j, hj' with
          | 0, hj =>
            obtain rfl : t = lt := by simpa using hj
            exact ⟨v, x, fuel, rfl, h⟩

/-- A cell of an integer type. -/
theorem leaf_int {n fuel : Nat} {t : TypeId} {cs : List Value} {x : DataW H × List MemPlace} (hok : flatOk P n t = true) (h : DataW.trod enc P w base spare held fuel t cs = some x) (j : Nat) {lt : TypeId} {k : IntKind} (hj : (leaves P n t)[j]? = some lt) (hk : P.underlying lt = some (.int k)) :
    ∃ z, cs[j]? = some (.int k z) ∧ (Lit.int k z).wf = true := by
  obtain ⟨v, y, m, e1, e2⟩ := trod_leaves n hok h j lt hj
  obtain ⟨z, h1, _, h3⟩ := DataW.trod_int hk e2
  simp only [List.cons.injEq, and_true] at h1
  exact ⟨z, by rw [e1, h1], h3⟩
theorem leaf_bool {n fuel : Nat} {t : TypeId} {cs : List Value} {x : DataW H × List MemPlace} (hok : flatOk P n t = true) (h : DataW.trod enc P w base spare held fuel t cs = some x) (j : Nat) {lt : TypeId} (hj : (leaves P n t)[j]? = some lt) (hk : P.underlying lt = some .bool) :
    ∃ z, cs[j]? = some (.bool z) := by
  obtain ⟨v, y, m, e1, e2⟩ := trod_leaves n hok h j lt hj
  obtain ⟨z, h1, _⟩ := DataW.trod_bool hk e2
  simp only [List.cons.injEq, and_true] at h1
  exact ⟨z, by rw [e1, h1]⟩

/-- A struct (or an array) of integers of one kind, by value: its numbers. -/
theorem open_agg_ints {n : Nat} {t lt : TypeId} {k : IntKind} {N : Nat} {v : Value} {d : DataW H} {p : List MemPlace} (hagg : ∃ cs : Array Value, v = .agg cs ∧ cs.size = N) (hok : flatOk P n t = true) (hlv : leaves P n t = List.replicate N lt) (hk : P.underlying lt = some (.int k))
    (h : DataW.Trod enc P w base spare held t v d p) : ∃ zs : List Int, v = .agg (zs.map (Value.int k)).toArray ∧ zs.length = N ∧ ∀ z ∈ zs, (Lit.int k z).wf = true := by
  obtain ⟨cs, rfl, hsz⟩ := hagg
  obtain ⟨fuel, hf⟩ := h
  have hj : ∀ j, j < N → ∃ z, cs.toList[j]? = some (.int k z) ∧ (Lit.int k z).wf = true := fun j hj =>
    leaf_int hok hf j (lt := lt) (by rw [hlv]; simp [hj]) hk
  clear hf
  obtain ⟨l⟩ := cs
  simp only at hj
  have key : ∀ (l : List Value), (∀ j, j < l.length → ∃ z, l[j]? = some (.int k z) ∧ (Lit.int k z).wf = true) → ∃ zs : List Int, l = zs.map (Value.int k) ∧ ∀ z ∈ zs, (Lit.int k z).wf = true := by
    intro l
    induction l with
    | nil => intro _; exact ⟨[], rfl, by simp⟩
    | cons c l ih =>
      intro hl
      obtain ⟨z, e1, e2⟩ := hl 0 (by simp)
      obtain ⟨zs, e3, e4⟩ := ih fun j hj => by have := hl (j + 1) (by simpa using hj); simpa using this
      simp at e1
      exact ⟨z :: zs, by rw [e1, e3]; rfl, by simp only [List.mem_cons, forall_eq_or_imp]; exact ⟨e2, e4⟩⟩
  have hl : l.length = N := hsz
  obtain ⟨zs, e3, e4⟩ := key l (fun j h => hj j (by omega))
  exact ⟨zs, by rw [e3], by rw [e3] at hl; simpa using hl, e4⟩
end
end Go.Proofs.YtoklonmiejdgmaaGreatDoor
/- Words, numbers and lines of a text, on lists of bytes. Plain Lean. -/
namespace Go.Proofs.YtoklonmiejdgmaaGreatDoor
set_option linter.unusedVariables false
set_option linter.unusedSimpArgs false
set_option linter.unnecessarySimpa false
open Go

/-- A text's pieces between bytes c. -/
def fieldsC (c : UInt8) : List UInt8 → List (List UInt8)
  | [] => [[]]
  | b :: l => if b = c then [] :: fieldsC c l else match fieldsC c l with
    | [] => [[b]]
    | x :: r => (b :: x) :: r
theorem fieldsC_ne (c : UInt8) : ∀ l, fieldsC c l ≠ []
  | [] => by simp [fieldsC]
  | b :: l => by
    unfold fieldsC
    split
    · simp
    · split <;> simp
theorem fieldsC_cons {c b : UInt8} (h : b ≠ c) (l : List UInt8) : ∃ x r, fieldsC c l = x :: r ∧ fieldsC c (b :: l) = (b :: x) :: r := by
  cases hf : fieldsC c l with
  | nil => exact absurd hf (fieldsC_ne c l)
  | cons x r => exact ⟨x, r, rfl, by rw [fieldsC, if_neg h, hf]⟩
theorem fieldsC_free (c : UInt8) : ∀ (x : List UInt8), (∀ b ∈ x, b ≠ c) → fieldsC c x = [x]
  | [], _ => rfl
  | b :: l, h => by rw [fieldsC, if_neg (h b (by simp)), fieldsC_free c l (fun b' hb => h b' (by simp [hb]))]
theorem fieldsC_app (c : UInt8) : ∀ (x : List UInt8) (l : List UInt8), (∀ b ∈ x, b ≠ c) → fieldsC c (x ++ c :: l) = x :: fieldsC c l
  | [], l, _ => by rw [List.nil_append, fieldsC, if_pos rfl]
  | b :: x, l, h => by rw [List.cons_append, fieldsC, if_neg (h b (by simp)), fieldsC_app c x l (fun b' hb => h b' (by simp [hb]))]
theorem fieldsC_len (c : UInt8) : ∀ (l : List UInt8), (fieldsC c l).length = l.count c + 1
  | [] => by simp [fieldsC]
  | b :: l => by
    by_cases h : b = c
    · rw [fieldsC, if_pos h, List.length_cons, fieldsC_len c l, h, List.count_cons_self]
    · obtain ⟨x, r, h1, h2⟩ := fieldsC_cons h l
      have := fieldsC_len c l
      rw [h1] at this
      rw [h2, List.count_cons_of_ne h, ← this]; rfl
theorem fieldsC_mem (c : UInt8) : ∀ (l : List UInt8), ∀ x ∈ fieldsC c l, (∀ b ∈ x, b ≠ c ∧ b ∈ l) ∧ x.length ≤ l.length
  | [], x, hx => by simp [fieldsC] at hx; subst hx; simp
  | b :: l, x, hx => by
    by_cases h : b = c
    · rw [fieldsC, if_pos h] at hx
      rcases List.mem_cons.1 hx with rfl | hx
      · simp
      · have := fieldsC_mem c l x hx
        exact ⟨fun b' hb => ⟨(this.1 b' hb).1, by simp [(this.1 b' hb).2]⟩, by simp; omega⟩
    · obtain ⟨y, r, h1, h2⟩ := fieldsC_cons h l
      rw [h2] at hx
      rcases List.mem_cons.1 hx with rfl | hx
      · have := fieldsC_mem c l y (by rw [h1]; simp)
        refine ⟨fun b' hb => ?_, by simp; omega⟩
        rcases List.mem_cons.1 hb with rfl | hb
        · exact ⟨h, by simp⟩
        · exact ⟨(this.1 b' hb).1, by simp [(this.1 b' hb).2]⟩
      · have := fieldsC_mem c l x (by rw [h1]; simp [hx])
        exact ⟨fun b' hb => ⟨(this.1 b' hb).1, by simp [(this.1 b' hb).2]⟩, by simp; omega⟩
/-- The pieces joined by c. -/
def joinC (c : UInt8) : List (List UInt8) → List UInt8
  | [] => []
  | [x] => x
  | x :: y :: r => x ++ c :: joinC c (y :: r)
theorem join_fields (c : UInt8) : ∀ (l : List UInt8), joinC c (fieldsC c l) = l
  | [] => rfl
  | b :: l => by
    have ih := join_fields c l
    by_cases h : b = c
    · rw [fieldsC, if_pos h, h]
      cases hf : fieldsC c l with
      | nil => exact absurd hf (fieldsC_ne c l)
      | cons x r =>
        rw [hf] at ih
        simp only [joinC, List.nil_append]; rw [ih]
    · obtain ⟨x, r, h1, h2⟩ := fieldsC_cons h l
      rw [h1] at ih
      rw [h2]
      cases r with
      | nil => simp only [joinC] at ih ⊢; rw [ih]
      | cons y r => simp only [joinC, List.cons_append] at ih ⊢; rw [ih]
theorem fields_join (c : UInt8) : ∀ (L : List (List UInt8)), L ≠ [] → (∀ x ∈ L, ∀ b ∈ x, b ≠ c) → fieldsC c (joinC c L) = L
  | [], h, _ => absurd rfl h
  | [x], _, h => fieldsC_free c x (h x (by simp))
  | x :: y :: r, _, h => by
    rw [joinC, fieldsC_app c x _ (h x (by simp)), fields_join c (y :: r) (by simp) (fun z hz => h z (by simp [hz]))]
theorem indexByte_at (c : UInt8) : ∀ (x r : List UInt8), c ∉ x → Lib.indexByte (x ++ c :: r) c = x.length
  | [], r, _ => by simp [Lib.indexByte]
  | b :: x, r, h => by
    have hb : (b == c) = false := by simp; intro e; exact h (by simp [e])
    have ih := indexByte_at c x r (fun hc => h (by simp [hc]))
    rw [List.cons_append, Lib.indexByte, hb, ih]
    have : (((x.length : Nat) : Int) == -1) = false := by simp
    rw [this]
    simp
/-- The library's pieces are these. -/
theorem splitK_one (c : UInt8) : ∀ (l : List UInt8), Lib.splitK [c] 0 (l.count c) l = fieldsC c l := by
  have key : ∀ (n : Nat) (l : List UInt8), l.length ≤ n → Lib.splitK [c] 0 (l.count c) l = fieldsC c l := by
    intro n
    induction n with
    | zero =>
      intro l hl
      have : l = [] := List.eq_nil_of_length_eq_zero (by omega)
      subst this; rfl
    | succ n ih =>
      intro l hl
      by_cases hc : c ∈ l
      · obtain ⟨x, r, rfl, hx⟩ := List.eq_append_cons_of_mem hc
        have h1 : (x ++ c :: r).count c = r.count c + 1 := by
          rw [List.count_append, List.count_eq_zero.2 hx, List.count_cons_self]; omega
        have h2 : Lib.index (x ++ c :: r) [c] = (x.length : Int) := by rw [Lib.index_one, indexByte_at c x r hx]
        have h3 : (((x.length : Nat) : Int) == -1) = false := by simp
        rw [h1, Lib.splitK, h2, h3, fieldsC_app c x r (fun b hb e => hx (e ▸ hb))]
        simp only [Bool.false_eq_true, if_false, Int.toNat_natCast, Nat.add_zero, List.length_singleton]
        rw [List.take_left', show x.length + 1 = (x ++ [c]).length by simp, show x ++ c :: r = (x ++ [c]) ++ r by simp, List.drop_left]
        · rw [ih r (by simp at hl; omega)]
        · rfl
      · have h0 : l.count c = 0 := List.count_eq_zero.2 hc
        rw [h0, fieldsC_free c l (fun b hb e => hc (e ▸ hb))]
        rfl
  exact fun l => key _ l (Nat.le_refl _)
/-- A number of a text. -/
def isDig (b : UInt8) : Bool := decide (48 ≤ b.toNat) && decide (b.toNat ≤ 57)
def numGo (n : Nat) (s : List UInt8) : Nat := s.foldl (fun n b => 10 * n + (b.toNat - 48)) n
def numW (s : List UInt8) : Bool := decide (s ≠ []) && (decide (s.length ≤ 9) && !(decide (1 < s.length) && decide (s.head? = some 48)))
def numB (s : List UInt8) : Bool := numW s && s.all isDig
def numI (s : List UInt8) : Nat := if numB s then numGo 0 s else 0
theorem isDig_iff (b : UInt8) : isDig b = true ↔ 48 ≤ b.toNat ∧ b.toNat ≤ 57 := by simp [isDig]
theorem numGo_app (n : Nat) (s : List UInt8) (b : UInt8) : numGo n (s ++ [b]) = 10 * numGo n s + (b.toNat - 48) := by simp [numGo]
theorem numGo_lt : ∀ (s : List UInt8) (n : Nat), s.all isDig = true → numGo n s < (n + 1) * 10 ^ s.length
  | [], n, _ => by simp [numGo]
  | b :: s, n, h => by
    simp only [List.all_cons, Bool.and_eq_true, isDig_iff] at h
    have ih := numGo_lt s (10 * n + (b.toNat - 48)) h.2
    have e : numGo n (b :: s) = numGo (10 * n + (b.toNat - 48)) s := rfl
    rw [e, List.length_cons, Nat.pow_succ, show (n + 1) * (10 ^ s.length * 10) = ((n + 1) * 10) * 10 ^ s.length by rw [Nat.mul_comm (10 ^ s.length) 10, Nat.mul_assoc]]
    exact Nat.lt_of_lt_of_le ih (Nat.mul_le_mul_right _ (by omega))
theorem numI_lt (s : List UInt8) : numI s < 1000000000 := by
  unfold numI
  split
  · rename_i h
    simp only [numB, numW, Bool.and_eq_true, decide_eq_true_eq] at h
    have h1 := numGo_lt s 0 h.2
    have h2 : 10 ^ s.length ≤ 10 ^ 9 := Nat.pow_le_pow_right (by omega) h.1.2.1
    omega
  · omega
end Go.Proofs.YtoklonmiejdgmaaGreatDoor
/- The library's texts at this seat: laid by the kit's tool (lay-shelf, lay-plain), cut to what the proofs use. -/
namespace Go.Proofs
set_option linter.unusedVariables false
set_option linter.unusedSimpArgs false
set_option linter.unnecessarySimpa false
open Go.Shelf
set_option linter.unusedVariables false
def Tryz.lays143_ren : Go.Shelf.Ren := ⟨fun | 143 => 51 | 219 => 79 | 217 => 120 | 225 => 121 | 224 => 122 | 267 => 123 | 266 => 164 | 314 => 165 | n => n, fun | 9 => 9 | 3 => 3 | 4 => 4 | 5 => 5 | 46 => 175 | 146 => 219 | 51 => 70 | n => n, fun | 1 => 0 | n => n⟩
theorem Tryz.lays143 : Go.Proofs.Lays.n143 Tryz.prog Tryz.lays143_ren := {
  mixed := by kernel_rfl
  f143 := Tryz.func51.trans (congrArg some (by kernel_rfl))
  f217 := Tryz.func120.trans (congrArg some (by kernel_rfl))
  f219 := Tryz.func79.trans (congrArg some (by kernel_rfl))
  f224 := Tryz.func122.trans (congrArg some (by kernel_rfl))
  f225 := Tryz.func121.trans (congrArg some (by kernel_rfl))
  f266 := Tryz.func164.trans (congrArg some (by kernel_rfl))
  f267 := Tryz.func123.trans (congrArg some (by kernel_rfl))
  f314 := Tryz.func165.trans (congrArg some (by kernel_rfl))
  t3 := Tryz.underlying3
  a3 := Tryz.isAgg3
  z3 := Tryz.sizeOf3
  v3 := Tryz.zeroValue3
  t4 := Tryz.underlying4
  a4 := Tryz.isAgg4
  z4 := Tryz.sizeOf4
  v4 := Tryz.zeroValue4
  t5 := Tryz.underlying5
  a5 := Tryz.isAgg5
  z5 := Tryz.sizeOf5
  v5 := Tryz.zeroValue5
  t9 := Tryz.underlying9
  a9 := Tryz.isAgg9
  z9 := Tryz.sizeOf9
  v9 := Tryz.zeroValue9
  t46 := Tryz.underlying175
  a46 := Tryz.isAgg175
  z46 := Tryz.sizeOf175
  v46 := Tryz.zeroValue175
  t51 := Tryz.underlying70
  a51 := Tryz.isAgg70
  z51 := Tryz.sizeOf70
  v51 := Tryz.zeroValue70
  t146 := Tryz.underlying219
  a146 := Tryz.isAgg219
  z146 := Tryz.sizeOf219
  v146 := Tryz.zeroValue219
  g1 := by kernel_rfl }
open Go.RowKit Go.Lib in
theorem Tryz.strings_Index_one (s : ByteArray) (c : UInt8) (w : World) :
    Calls Tryz.prog 51 #[.string s, .string ⟨#[c]⟩] w fun e w' => e = .returned (.int .i64 (Lib.indexByte s.data.toList c)) ∧ w' = w := Any.strings_Index_one Tryz.lays143 s c w
def Tryz.lays138_ren : Go.Shelf.Ren := ⟨fun | 138 => 21 | 195 => 49 | 218 => 50 | 143 => 51 | 219 => 79 | 217 => 120 | 225 => 121 | 224 => 122 | 267 => 123 | 266 => 164 | 314 => 165 | n => n, fun | 9 => 9 | 3 => 3 | 4 => 4 | 5 => 5 | 0 => 0 | 46 => 175 | 146 => 219 | 51 => 70 | n => n, fun | 1 => 0 | n => n⟩
theorem Tryz.lays138 : Go.Proofs.Lays.n138 Tryz.prog Tryz.lays138_ren := {
  mixed := by kernel_rfl
  f138 := Tryz.func21.trans (congrArg some (by kernel_rfl))
  f143 := Tryz.func51.trans (congrArg some (by kernel_rfl))
  f195 := Tryz.func49.trans (congrArg some (by kernel_rfl))
  f217 := Tryz.func120.trans (congrArg some (by kernel_rfl))
  f218 := Tryz.func50.trans (congrArg some (by kernel_rfl))
  f219 := Tryz.func79.trans (congrArg some (by kernel_rfl))
  f224 := Tryz.func122.trans (congrArg some (by kernel_rfl))
  f225 := Tryz.func121.trans (congrArg some (by kernel_rfl))
  f266 := Tryz.func164.trans (congrArg some (by kernel_rfl))
  f267 := Tryz.func123.trans (congrArg some (by kernel_rfl))
  f314 := Tryz.func165.trans (congrArg some (by kernel_rfl))
  t0 := Tryz.underlying0
  a0 := Tryz.isAgg0
  z0 := Tryz.sizeOf0
  v0 := Tryz.zeroValue0
  t3 := Tryz.underlying3
  a3 := Tryz.isAgg3
  z3 := Tryz.sizeOf3
  v3 := Tryz.zeroValue3
  t4 := Tryz.underlying4
  a4 := Tryz.isAgg4
  z4 := Tryz.sizeOf4
  v4 := Tryz.zeroValue4
  t5 := Tryz.underlying5
  a5 := Tryz.isAgg5
  z5 := Tryz.sizeOf5
  v5 := Tryz.zeroValue5
  t9 := Tryz.underlying9
  a9 := Tryz.isAgg9
  z9 := Tryz.sizeOf9
  v9 := Tryz.zeroValue9
  t46 := Tryz.underlying175
  a46 := Tryz.isAgg175
  z46 := Tryz.sizeOf175
  v46 := Tryz.zeroValue175
  t51 := Tryz.underlying70
  a51 := Tryz.isAgg70
  z51 := Tryz.sizeOf70
  v51 := Tryz.zeroValue70
  t146 := Tryz.underlying219
  a146 := Tryz.isAgg219
  z146 := Tryz.sizeOf219
  v146 := Tryz.zeroValue219
  g1 := by kernel_rfl }
open Go.RowKit Go.Lib in
theorem Tryz.strings_Count_one (s : ByteArray) (c : UInt8) (w : World) :
    Calls Tryz.prog 21 #[.string s, .string ⟨#[c]⟩] w fun e w' => e = .returned (.int .i64 (Lib.countByte s.data.toList c)) ∧ w' = w := Any.strings_Count_one Tryz.lays138 s c w
def Tryz.lays103_ren : Go.Shelf.Ren := ⟨fun | 103 => 191 | 210 => 207 | 206 => 214 | n => n, fun | 9 => 9 | 4 => 4 | 24 => 44 | 3 => 3 | n => n, fun | n => n⟩
theorem Tryz.lays103 : Go.Proofs.Lays.n103 Tryz.prog Tryz.lays103_ren := {
  mixed := by kernel_rfl
  f103 := Tryz.func191.trans (congrArg some (by kernel_rfl))
  f206 := Tryz.func214.trans (congrArg some (by kernel_rfl))
  f210 := Tryz.func207.trans (congrArg some (by kernel_rfl))
  t3 := Tryz.underlying3
  a3 := Tryz.isAgg3
  z3 := Tryz.sizeOf3
  v3 := Tryz.zeroValue3
  t4 := Tryz.underlying4
  a4 := Tryz.isAgg4
  z4 := Tryz.sizeOf4
  v4 := Tryz.zeroValue4
  t9 := Tryz.underlying9
  a9 := Tryz.isAgg9
  z9 := Tryz.sizeOf9
  v9 := Tryz.zeroValue9
  t24 := Tryz.underlying44
  a24 := Tryz.isAgg44
  z24 := Tryz.sizeOf44
  v24 := Tryz.zeroValue44 }
open Go.RowKit in
theorem Tryz.strings_CutPrefix (s p : ByteArray) (w : World) :
    Calls Tryz.prog 191 #[.string s, .string p] w fun e w' => e = .returned (.tuple #[.string ⟨(Lib.trimPrefix s.data.toList p.data.toList).toArray⟩, .bool (Lib.hasPrefix s.data.toList p.data.toList)]) ∧ w' = w := Any.strings_CutPrefix Tryz.lays103 s p w
def Tryz.lays100_ren : Go.Shelf.Ren := ⟨fun | 100 => 47 | 207 => 77 | n => n, fun | 9 => 9 | 4 => 4 | 3 => 3 | n => n, fun | n => n⟩
theorem Tryz.lays100 : Go.Proofs.Lays.n100 Tryz.prog Tryz.lays100_ren := {
  mixed := by kernel_rfl
  f100 := Tryz.func47.trans (congrArg some (by kernel_rfl))
  f207 := Tryz.func77.trans (congrArg some (by kernel_rfl))
  t3 := Tryz.underlying3
  a3 := Tryz.isAgg3
  z3 := Tryz.sizeOf3
  v3 := Tryz.zeroValue3
  t4 := Tryz.underlying4
  a4 := Tryz.isAgg4
  z4 := Tryz.sizeOf4
  v4 := Tryz.zeroValue4
  t9 := Tryz.underlying9
  a9 := Tryz.isAgg9
  z9 := Tryz.sizeOf9
  v9 := Tryz.zeroValue9 }
open Go.RowKit Go.Lib in
theorem Tryz.strings_HasSuffix (s p : ByteArray) (w : World) (hs : s.size ≤ 9223372036854775807) :
    Calls Tryz.prog 47 #[.string s, .string p] w fun e w' => e = .returned (.bool (Lib.hasSuffix s.data.toList p.data.toList)) ∧ w' = w := Any.strings_HasSuffix Tryz.lays100 s p w hs
def Tryz.laysM171_ren : Go.Shelf.Ren := ⟨fun | 171 => 71 | 243 => 113 | 246 => 159 | 283 => 182 | 284 => 183 | 285 => 184 | 286 => 185 | 129 => 201 | 317 => 200 | 318 => 202 | 319 => 203 | 320 => 204 | 337 => 211 | 338 => 212 | n => n, fun | 3 => 3 | 9 => 9 | 2 => 2 | 4 => 4 | 171 => 238 | 0 => 0 | 53 => 214 | 37 => 76 | 5 => 5 | 173 => 241 | 212 => 256 | 51 => 70 | 20 => 20 | 213 => 257 | 46 => 175 | 232 => 269 | 233 => 270 | n => n, fun | 17 => 3 | 18 => 6 | 19 => 7 | n => n⟩
theorem Tryz.laysM171 : Go.Proofs.LaysM.n171 Tryz.prog Tryz.laysM171_ren := {
  mixed := by kernel_rfl
  f129 := Tryz.func201.trans (congrArg some (by kernel_rfl))
  f171 := Tryz.func71.trans (congrArg some (by kernel_rfl))
  f243 := Tryz.func113.trans (congrArg some (by kernel_rfl))
  f246 := Tryz.func159.trans (congrArg some (by kernel_rfl))
  f283 := Tryz.func182.trans (congrArg some (by kernel_rfl))
  f284 := Tryz.func183.trans (congrArg some (by kernel_rfl))
  f285 := Tryz.func184.trans (congrArg some (by kernel_rfl))
  f286 := Tryz.func185.trans (congrArg some (by kernel_rfl))
  f317 := Tryz.func200.trans (congrArg some (by kernel_rfl))
  f318 := Tryz.func202.trans (congrArg some (by kernel_rfl))
  f319 := Tryz.func203.trans (congrArg some (by kernel_rfl))
  f320 := Tryz.func204.trans (congrArg some (by kernel_rfl))
  f337 := Tryz.func211.trans (congrArg some (by kernel_rfl))
  f338 := Tryz.func212.trans (congrArg some (by kernel_rfl))
  t0 := Tryz.underlying0
  a0 := Tryz.isAgg0
  z0 := Tryz.sizeOf0
  v0 := Tryz.zeroValue0
  t2 := Tryz.underlying2
  a2 := Tryz.isAgg2
  z2 := Tryz.sizeOf2
  v2 := Tryz.zeroValue2
  t3 := Tryz.underlying3
  a3 := Tryz.isAgg3
  z3 := Tryz.sizeOf3
  v3 := Tryz.zeroValue3
  t4 := Tryz.underlying4
  a4 := Tryz.isAgg4
  z4 := Tryz.sizeOf4
  v4 := Tryz.zeroValue4
  t5 := Tryz.underlying5
  a5 := Tryz.isAgg5
  z5 := Tryz.sizeOf5
  v5 := Tryz.zeroValue5
  t9 := Tryz.underlying9
  a9 := Tryz.isAgg9
  z9 := Tryz.sizeOf9
  v9 := Tryz.zeroValue9
  t20 := Tryz.underlying20
  a20 := Tryz.isAgg20
  z20 := Tryz.sizeOf20
  v20 := Tryz.zeroValue20
  t37 := Tryz.underlying76
  a37 := Tryz.isAgg76
  z37 := Tryz.sizeOf76
  v37 := Tryz.zeroValue76
  t46 := Tryz.underlying175
  a46 := Tryz.isAgg175
  z46 := Tryz.sizeOf175
  v46 := Tryz.zeroValue175
  t51 := Tryz.underlying70
  a51 := Tryz.isAgg70
  z51 := Tryz.sizeOf70
  v51 := Tryz.zeroValue70
  t53 := Tryz.underlying214
  a53 := Tryz.isAgg214
  z53 := Tryz.sizeOf214
  v53 := Tryz.zeroValue214
  t171 := Tryz.underlying238
  a171 := Tryz.isAgg238
  z171 := Tryz.sizeOf238
  v171 := Tryz.zeroValue238
  t173 := Tryz.underlying241
  a173 := Tryz.isAgg241
  z173 := Tryz.sizeOf241
  v173 := Tryz.zeroValue241
  t212 := Tryz.underlying256
  a212 := Tryz.isAgg256
  z212 := Tryz.sizeOf256
  v212 := Tryz.zeroValue256
  t213 := Tryz.underlying257
  a213 := Tryz.isAgg257
  z213 := Tryz.sizeOf257
  t232 := Tryz.underlying269
  a232 := Tryz.isAgg269
  z232 := Tryz.sizeOf269
  v232 := Tryz.zeroValue269
  t233 := Tryz.underlying270
  a233 := Tryz.isAgg270
  z233 := Tryz.sizeOf270
  v233 := Tryz.zeroValue270
  g17 := by kernel_rfl
  g18 := by kernel_rfl
  g19 := by kernel_rfl
  i0 := by kernel_rfl
  i2 := by kernel_rfl
  i3 := by kernel_rfl
  i4 := by kernel_rfl
  i5 := by kernel_rfl
  i9 := by kernel_rfl
  i20 := by kernel_rfl
  i37 := by kernel_rfl
  i46 := by kernel_rfl
  i51 := by kernel_rfl
  i53 := by kernel_rfl
  i171 := by kernel_rfl
  i173 := by kernel_rfl
  i212 := by kernel_rfl
  i232 := by kernel_rfl
  i233 := by kernel_rfl
  m17 := by kernel_rfl
  m18 := by kernel_rfl
  m19 := by kernel_rfl }
open Go.RowKit Go.Sort Go.Lib in
theorem Tryz.strconv_Itoa (n : Int) (h0 : -9223372036854775808 ≤ n) (h1 : n ≤ 9223372036854775807) (w : World) (htab : Lib.TabIs Tryz.prog w "internal/strconv.uint64pow10" .u64 Lib.pow10Tab) :
    Calls Tryz.prog 71 #[.int .i64 n] w fun e w' => e = .returned (.string ⟨(Lib.itoa n).toArray⟩) ∧ ∃ k os, w' = grow (w.drewN k) os := Any.strconv_Itoa Tryz.laysM171 n h0 h1 w htab
def Tryz.lays283_ren : Go.Shelf.Ren := ⟨fun | 283 => 182 | n => n, fun | 3 => 3 | 9 => 9 | 4 => 4 | n => n, fun | n => n⟩
theorem Tryz.lays283 : Go.Proofs.Lays.n283 Tryz.prog Tryz.lays283_ren := {
  mixed := by kernel_rfl
  f283 := Tryz.func182.trans (congrArg some (by kernel_rfl))
  t3 := Tryz.underlying3
  a3 := Tryz.isAgg3
  z3 := Tryz.sizeOf3
  v3 := Tryz.zeroValue3
  t4 := Tryz.underlying4
  a4 := Tryz.isAgg4
  z4 := Tryz.sizeOf4
  v4 := Tryz.zeroValue4
  t9 := Tryz.underlying9
  a9 := Tryz.isAgg9
  z9 := Tryz.sizeOf9
  v9 := Tryz.zeroValue9 }
open Go.Lib in
theorem Tryz.internal_strconv_small (i : Nat) (h : i < 100) (w : World) :
    Calls Tryz.prog 182 #[.int .i64 i] w fun e w' => e = .returned (.string ⟨(Lib.decDigits i).toArray⟩) ∧ w' = w := Any.internal_strconv_small Tryz.lays283 i h w
def Tryz.laysM284_ren : Go.Shelf.Ren := ⟨fun | 284 => 183 | 129 => 201 | 317 => 200 | 318 => 202 | n => n, fun | 53 => 214 | 3 => 3 | 212 => 256 | 0 => 0 | 4 => 4 | 46 => 175 | 5 => 5 | 9 => 9 | n => n, fun | 17 => 3 | n => n⟩
theorem Tryz.laysM284 : Go.Proofs.LaysM.n284 Tryz.prog Tryz.laysM284_ren := {
  mixed := by kernel_rfl
  f129 := Tryz.func201.trans (congrArg some (by kernel_rfl))
  f284 := Tryz.func183.trans (congrArg some (by kernel_rfl))
  f317 := Tryz.func200.trans (congrArg some (by kernel_rfl))
  f318 := Tryz.func202.trans (congrArg some (by kernel_rfl))
  t0 := Tryz.underlying0
  a0 := Tryz.isAgg0
  z0 := Tryz.sizeOf0
  v0 := Tryz.zeroValue0
  t3 := Tryz.underlying3
  a3 := Tryz.isAgg3
  z3 := Tryz.sizeOf3
  v3 := Tryz.zeroValue3
  t4 := Tryz.underlying4
  a4 := Tryz.isAgg4
  z4 := Tryz.sizeOf4
  v4 := Tryz.zeroValue4
  t5 := Tryz.underlying5
  a5 := Tryz.isAgg5
  z5 := Tryz.sizeOf5
  v5 := Tryz.zeroValue5
  t9 := Tryz.underlying9
  a9 := Tryz.isAgg9
  z9 := Tryz.sizeOf9
  v9 := Tryz.zeroValue9
  t46 := Tryz.underlying175
  a46 := Tryz.isAgg175
  z46 := Tryz.sizeOf175
  v46 := Tryz.zeroValue175
  t53 := Tryz.underlying214
  a53 := Tryz.isAgg214
  z53 := Tryz.sizeOf214
  v53 := Tryz.zeroValue214
  t212 := Tryz.underlying256
  a212 := Tryz.isAgg256
  z212 := Tryz.sizeOf256
  v212 := Tryz.zeroValue256
  g17 := by kernel_rfl
  i0 := by kernel_rfl
  i3 := by kernel_rfl
  i4 := by kernel_rfl
  i5 := by kernel_rfl
  i9 := by kernel_rfl
  i46 := by kernel_rfl
  i53 := by kernel_rfl
  i212 := by kernel_rfl
  m17 := by kernel_rfl }
open Go.Lib in
theorem Tryz.internal_strconv_numDigits (u : Nat) (h1 : 1 ≤ u) (h2 : u < 18446744073709551616) (w : World) (htab : Lib.TabIs Tryz.prog w "internal/strconv.uint64pow10" .u64 Lib.pow10Tab) :
    Calls Tryz.prog 183 #[.int .u64 u] w fun e w' => e = .returned (.int .i64 (Lib.nDigits u)) ∧ w' = w := Any.internal_strconv_numDigits Tryz.laysM284 u h1 h2 w htab
def Tryz.lays285_ren : Go.Shelf.Ren := ⟨fun | 285 => 184 | n => n, fun | 37 => 76 | 53 => 214 | 3 => 3 | 4 => 4 | 51 => 70 | 9 => 9 | 5 => 5 | 0 => 0 | n => n, fun | n => n⟩
theorem Tryz.lays285 : Go.Proofs.Lays.n285 Tryz.prog Tryz.lays285_ren := {
  mixed := by kernel_rfl
  f285 := Tryz.func184.trans (congrArg some (by kernel_rfl))
  t0 := Tryz.underlying0
  a0 := Tryz.isAgg0
  z0 := Tryz.sizeOf0
  v0 := Tryz.zeroValue0
  t3 := Tryz.underlying3
  a3 := Tryz.isAgg3
  z3 := Tryz.sizeOf3
  v3 := Tryz.zeroValue3
  t4 := Tryz.underlying4
  a4 := Tryz.isAgg4
  z4 := Tryz.sizeOf4
  v4 := Tryz.zeroValue4
  t5 := Tryz.underlying5
  a5 := Tryz.isAgg5
  z5 := Tryz.sizeOf5
  v5 := Tryz.zeroValue5
  t9 := Tryz.underlying9
  a9 := Tryz.isAgg9
  z9 := Tryz.sizeOf9
  v9 := Tryz.zeroValue9
  t37 := Tryz.underlying76
  a37 := Tryz.isAgg76
  z37 := Tryz.sizeOf76
  v37 := Tryz.zeroValue76
  t51 := Tryz.underlying70
  a51 := Tryz.isAgg70
  z51 := Tryz.sizeOf70
  v51 := Tryz.zeroValue70
  t53 := Tryz.underlying214
  a53 := Tryz.isAgg214
  z53 := Tryz.sizeOf214
  v53 := Tryz.zeroValue214 }
open Go.RowKit Go.Sort Go.Lib in
theorem Tryz.internal_strconv_formatBase10 (blk off cap : Nat) (u : Nat) (d : Array UInt8) (w : World) (hH : Holds (fun (b : UInt8) => Value.int .u8 (b.toNat : Int)) w blk off d) (hu : u < 10 ^ d.size) (hu64 : u < 18446744073709551616) (hsz : d.size < 4611686018427387904) :
    Calls Tryz.prog 184 #[.slice (some ⟨blk, off, none⟩) d.size cap, .int .u64 u] w fun e w' =>
      e = .returned (.tuple #[]) ∧ ∃ (n v' : Nat) (dk : Array UInt8), w' = (putRow (fun (b : UInt8) => Value.int .u8 (b.toNat : Int)) w blk off dk).drewN n ∧ FmtInv d.size u 0 v' dk := Any.internal_strconv_formatBase10 Tryz.lays285 blk off cap u d w hH hu hu64 hsz
def Tryz.lays221_ren : Go.Shelf.Ren := ⟨fun | 221 => 78 | 268 => 119 | 138 => 21 | 143 => 51 | 195 => 49 | 197 => 163 | 218 => 50 | 219 => 79 | 260 => 186 | 217 => 120 | 225 => 121 | 224 => 122 | 267 => 123 | 266 => 164 | 314 => 165 | n => n, fun | 9 => 9 | 3 => 3 | 31 => 54 | 4 => 4 | 0 => 0 | 105 => 217 | 21 => 21 | 5 => 5 | 46 => 175 | 119 => 259 | 139 => 262 | 138 => 261 | 146 => 219 | 51 => 70 | n => n, fun | 1 => 0 | 3 => 4 | 4 => 5 | n => n⟩
theorem Tryz.lays221 : Go.Proofs.Lays.n221 Tryz.prog Tryz.lays221_ren := {
  mixed := by kernel_rfl
  f138 := Tryz.func21.trans (congrArg some (by kernel_rfl))
  f143 := Tryz.func51.trans (congrArg some (by kernel_rfl))
  f195 := Tryz.func49.trans (congrArg some (by kernel_rfl))
  f197 := Tryz.func163.trans (congrArg some (by kernel_rfl))
  f217 := Tryz.func120.trans (congrArg some (by kernel_rfl))
  f218 := Tryz.func50.trans (congrArg some (by kernel_rfl))
  f219 := Tryz.func79.trans (congrArg some (by kernel_rfl))
  f221 := Tryz.func78.trans (congrArg some (by kernel_rfl))
  f224 := Tryz.func122.trans (congrArg some (by kernel_rfl))
  f225 := Tryz.func121.trans (congrArg some (by kernel_rfl))
  f260 := Tryz.func186.trans (congrArg some (by kernel_rfl))
  f266 := Tryz.func164.trans (congrArg some (by kernel_rfl))
  f267 := Tryz.func123.trans (congrArg some (by kernel_rfl))
  f268 := Tryz.func119.trans (congrArg some (by kernel_rfl))
  f314 := Tryz.func165.trans (congrArg some (by kernel_rfl))
  t0 := Tryz.underlying0
  a0 := Tryz.isAgg0
  z0 := Tryz.sizeOf0
  v0 := Tryz.zeroValue0
  t3 := Tryz.underlying3
  a3 := Tryz.isAgg3
  z3 := Tryz.sizeOf3
  v3 := Tryz.zeroValue3
  t4 := Tryz.underlying4
  a4 := Tryz.isAgg4
  z4 := Tryz.sizeOf4
  v4 := Tryz.zeroValue4
  t5 := Tryz.underlying5
  a5 := Tryz.isAgg5
  z5 := Tryz.sizeOf5
  v5 := Tryz.zeroValue5
  t9 := Tryz.underlying9
  a9 := Tryz.isAgg9
  z9 := Tryz.sizeOf9
  v9 := Tryz.zeroValue9
  t21 := Tryz.underlying21
  a21 := Tryz.isAgg21
  z21 := Tryz.sizeOf21
  v21 := Tryz.zeroValue21
  t31 := Tryz.underlying54
  a31 := Tryz.isAgg54
  z31 := Tryz.sizeOf54
  v31 := Tryz.zeroValue54
  t46 := Tryz.underlying175
  a46 := Tryz.isAgg175
  z46 := Tryz.sizeOf175
  v46 := Tryz.zeroValue175
  t51 := Tryz.underlying70
  a51 := Tryz.isAgg70
  z51 := Tryz.sizeOf70
  v51 := Tryz.zeroValue70
  t105 := Tryz.underlying217
  a105 := Tryz.isAgg217
  z105 := Tryz.sizeOf217
  v105 := Tryz.zeroValue217
  t119 := Tryz.underlying259
  a119 := Tryz.isAgg259
  z119 := Tryz.sizeOf259
  t138 := Tryz.underlying261
  a138 := Tryz.isAgg261
  z138 := Tryz.sizeOf261
  v138 := Tryz.zeroValue261
  t139 := Tryz.underlying262
  a139 := Tryz.isAgg262
  z139 := Tryz.sizeOf262
  v139 := Tryz.zeroValue262
  t146 := Tryz.underlying219
  a146 := Tryz.isAgg219
  z146 := Tryz.sizeOf219
  v146 := Tryz.zeroValue219
  g1 := by kernel_rfl
  g3 := by kernel_rfl
  g4 := by kernel_rfl }
def Tryz.lays146_ren : Go.Shelf.Ren := ⟨fun | 146 => 48 | 221 => 78 | 268 => 119 | 138 => 21 | 143 => 51 | 195 => 49 | 197 => 163 | 218 => 50 | 219 => 79 | 260 => 186 | 217 => 120 | 225 => 121 | 224 => 122 | 267 => 123 | 266 => 164 | 314 => 165 | n => n, fun | 9 => 9 | 31 => 54 | 3 => 3 | 4 => 4 | 0 => 0 | 105 => 217 | 21 => 21 | 5 => 5 | 46 => 175 | 119 => 259 | 139 => 262 | 138 => 261 | 146 => 219 | 51 => 70 | n => n, fun | 1 => 0 | 3 => 4 | 4 => 5 | n => n⟩
theorem Tryz.lays146 : Go.Proofs.Lays.n146 Tryz.prog Tryz.lays146_ren := {
  mixed := by kernel_rfl
  f138 := Tryz.func21.trans (congrArg some (by kernel_rfl))
  f143 := Tryz.func51.trans (congrArg some (by kernel_rfl))
  f146 := Tryz.func48.trans (congrArg some (by kernel_rfl))
  f195 := Tryz.func49.trans (congrArg some (by kernel_rfl))
  f197 := Tryz.func163.trans (congrArg some (by kernel_rfl))
  f217 := Tryz.func120.trans (congrArg some (by kernel_rfl))
  f218 := Tryz.func50.trans (congrArg some (by kernel_rfl))
  f219 := Tryz.func79.trans (congrArg some (by kernel_rfl))
  f221 := Tryz.func78.trans (congrArg some (by kernel_rfl))
  f224 := Tryz.func122.trans (congrArg some (by kernel_rfl))
  f225 := Tryz.func121.trans (congrArg some (by kernel_rfl))
  f260 := Tryz.func186.trans (congrArg some (by kernel_rfl))
  f266 := Tryz.func164.trans (congrArg some (by kernel_rfl))
  f267 := Tryz.func123.trans (congrArg some (by kernel_rfl))
  f268 := Tryz.func119.trans (congrArg some (by kernel_rfl))
  f314 := Tryz.func165.trans (congrArg some (by kernel_rfl))
  t0 := Tryz.underlying0
  a0 := Tryz.isAgg0
  z0 := Tryz.sizeOf0
  v0 := Tryz.zeroValue0
  t3 := Tryz.underlying3
  a3 := Tryz.isAgg3
  z3 := Tryz.sizeOf3
  v3 := Tryz.zeroValue3
  t4 := Tryz.underlying4
  a4 := Tryz.isAgg4
  z4 := Tryz.sizeOf4
  v4 := Tryz.zeroValue4
  t5 := Tryz.underlying5
  a5 := Tryz.isAgg5
  z5 := Tryz.sizeOf5
  v5 := Tryz.zeroValue5
  t9 := Tryz.underlying9
  a9 := Tryz.isAgg9
  z9 := Tryz.sizeOf9
  v9 := Tryz.zeroValue9
  t21 := Tryz.underlying21
  a21 := Tryz.isAgg21
  z21 := Tryz.sizeOf21
  v21 := Tryz.zeroValue21
  t31 := Tryz.underlying54
  a31 := Tryz.isAgg54
  z31 := Tryz.sizeOf54
  v31 := Tryz.zeroValue54
  t46 := Tryz.underlying175
  a46 := Tryz.isAgg175
  z46 := Tryz.sizeOf175
  v46 := Tryz.zeroValue175
  t51 := Tryz.underlying70
  a51 := Tryz.isAgg70
  z51 := Tryz.sizeOf70
  v51 := Tryz.zeroValue70
  t105 := Tryz.underlying217
  a105 := Tryz.isAgg217
  z105 := Tryz.sizeOf217
  v105 := Tryz.zeroValue217
  t119 := Tryz.underlying259
  a119 := Tryz.isAgg259
  z119 := Tryz.sizeOf259
  t138 := Tryz.underlying261
  a138 := Tryz.isAgg261
  z138 := Tryz.sizeOf261
  v138 := Tryz.zeroValue261
  t139 := Tryz.underlying262
  a139 := Tryz.isAgg262
  z139 := Tryz.sizeOf262
  v139 := Tryz.zeroValue262
  t146 := Tryz.underlying219
  a146 := Tryz.isAgg219
  z146 := Tryz.sizeOf219
  v146 := Tryz.zeroValue219
  g1 := by kernel_rfl
  g3 := by kernel_rfl
  g4 := by kernel_rfl }
def Tryz.lays169_ren : Go.Shelf.Ren := ⟨fun | 169 => 32 | n => n, fun | 70 => 75 | 9 => 9 | 0 => 0 | 72 => 78 | 37 => 76 | 127 => 124 | 3 => 3 | 5 => 5 | n => n, fun | n => n⟩
theorem Tryz.Builder_Extra_169 : Builder.Extra Tryz.prog Tryz.lays169_ren := {
  sizeBuilder := by kernel_rfl
  liesBuilder := by kernel_rfl
  t5 := Tryz.underlying5
  a5 := Tryz.isAgg5
  z5 := Tryz.sizeOf5
  v5 := Tryz.zeroValue5
  infoByte := by kernel_rfl
  cellsByte := by kernel_rfl
  sizeByte := by kernel_rfl
  neB5 := by decide }
theorem Tryz.lays169 : Go.Proofs.Lays.n169 Tryz.prog Tryz.lays169_ren := {
  mixed := by kernel_rfl
  f169 := Tryz.func32.trans (congrArg some (by kernel_rfl))
  t0 := Tryz.underlying0
  a0 := Tryz.isAgg0
  z0 := Tryz.sizeOf0
  v0 := Tryz.zeroValue0
  t3 := Tryz.underlying3
  a3 := Tryz.isAgg3
  z3 := Tryz.sizeOf3
  v3 := Tryz.zeroValue3
  t9 := Tryz.underlying9
  a9 := Tryz.isAgg9
  z9 := Tryz.sizeOf9
  v9 := Tryz.zeroValue9
  t37 := Tryz.underlying76
  a37 := Tryz.isAgg76
  z37 := Tryz.sizeOf76
  v37 := Tryz.zeroValue76
  t70 := Tryz.underlying75
  a70 := Tryz.isAgg75
  z70 := Tryz.sizeOf75
  v70 := Tryz.zeroValue75
  t72 := Tryz.underlying78
  a72 := Tryz.isAgg78
  z72 := Tryz.sizeOf78
  v72 := Tryz.zeroValue78
  t127 := Tryz.underlying124
  a127 := Tryz.isAgg124
  z127 := Tryz.sizeOf124
  v127 := Tryz.zeroValue124 }
open Go.RowKit in
theorem Tryz.Builder_String_any_k (B b : Nat) (l : List UInt8) (w : World) (h : Lib.IsBuilderF 78 5 B b (Lib.byteCells l) w) (hBw : B ≤ w.heap.size) :
    Calls Tryz.prog 32 #[.pointer (some ⟨b, 0, none⟩)] w fun e w' => e = .returned (.string ⟨l.toArray⟩) ∧ (Lib.IsBuilderF 78 5 B b (Lib.byteCells l) w' ∧ Below B w w' ∧ Lib.OthersKept 5 (some b) w w') := Any.Builder_String_any_k Tryz.lays169 Tryz.Builder_Extra_169 B b l w h hBw
def Tryz.lays156_ren : Go.Shelf.Ren := ⟨fun | 156 => 55 | 165 => 93 | 166 => 37 | 169 => 32 | 240 => 64 | 241 => 138 | 276 => 109 | 277 => 170 | n => n, fun | 31 => 54 | 9 => 9 | 3 => 3 | 4 => 4 | 0 => 0 | 20 => 20 | 72 => 78 | 76 => 91 | 70 => 75 | 37 => 76 | 75 => 80 | 127 => 124 | 164 => 169 | 5 => 5 | 80 => 82 | n => n, fun | n => n⟩
theorem Tryz.Builder_Extra_156 : Builder.Extra Tryz.prog Tryz.lays156_ren := {
  sizeBuilder := by kernel_rfl
  liesBuilder := by kernel_rfl
  t5 := Tryz.underlying5
  a5 := Tryz.isAgg5
  z5 := Tryz.sizeOf5
  v5 := Tryz.zeroValue5
  infoByte := by kernel_rfl
  cellsByte := by kernel_rfl
  sizeByte := by kernel_rfl
  neB5 := by decide }
theorem Tryz.lays156 : Go.Proofs.Lays.n156 Tryz.prog Tryz.lays156_ren := {
  mixed := by kernel_rfl
  f156 := Tryz.func55.trans (congrArg some (by kernel_rfl))
  f165 := Tryz.func93.trans (congrArg some (by kernel_rfl))
  f166 := Tryz.func37.trans (congrArg some (by kernel_rfl))
  f169 := Tryz.func32.trans (congrArg some (by kernel_rfl))
  f240 := Tryz.func64.trans (congrArg some (by kernel_rfl))
  f241 := Tryz.func138.trans (congrArg some (by kernel_rfl))
  f276 := Tryz.func109.trans (congrArg some (by kernel_rfl))
  f277 := Tryz.func170.trans (congrArg some (by kernel_rfl))
  t0 := Tryz.underlying0
  a0 := Tryz.isAgg0
  z0 := Tryz.sizeOf0
  v0 := Tryz.zeroValue0
  t3 := Tryz.underlying3
  a3 := Tryz.isAgg3
  z3 := Tryz.sizeOf3
  v3 := Tryz.zeroValue3
  t4 := Tryz.underlying4
  a4 := Tryz.isAgg4
  z4 := Tryz.sizeOf4
  v4 := Tryz.zeroValue4
  t9 := Tryz.underlying9
  a9 := Tryz.isAgg9
  z9 := Tryz.sizeOf9
  v9 := Tryz.zeroValue9
  t20 := Tryz.underlying20
  a20 := Tryz.isAgg20
  z20 := Tryz.sizeOf20
  v20 := Tryz.zeroValue20
  t31 := Tryz.underlying54
  a31 := Tryz.isAgg54
  z31 := Tryz.sizeOf54
  v31 := Tryz.zeroValue54
  t37 := Tryz.underlying76
  a37 := Tryz.isAgg76
  z37 := Tryz.sizeOf76
  v37 := Tryz.zeroValue76
  t70 := Tryz.underlying75
  a70 := Tryz.isAgg75
  z70 := Tryz.sizeOf75
  v70 := Tryz.zeroValue75
  t72 := Tryz.underlying78
  a72 := Tryz.isAgg78
  z72 := Tryz.sizeOf78
  v72 := Tryz.zeroValue78
  t75 := Tryz.underlying80
  a75 := Tryz.isAgg80
  z75 := Tryz.sizeOf80
  v75 := Tryz.zeroValue80
  t76 := Tryz.underlying91
  a76 := Tryz.isAgg91
  z76 := Tryz.sizeOf91
  v76 := Tryz.zeroValue91
  t127 := Tryz.underlying124
  a127 := Tryz.isAgg124
  z127 := Tryz.sizeOf124
  v127 := Tryz.zeroValue124
  t164 := Tryz.underlying169
  a164 := Tryz.isAgg169
  z164 := Tryz.sizeOf169
  v164 := Tryz.zeroValue169 }
open Go.RowKit in
theorem Tryz.strings_Join (bk o c : Nat) (xs : List ByteArray) (sep : ByteArray) (w : World) (hcells : ∀ (j : Nat) x, xs[j]? = some x → w.cell? ⟨bk, o + j, none⟩ = some (.string x)) (hbk : bk < w.heap.size) (hN : xs.length ≤ 140737488355328) (hcap : xs.length ≤ c) (hlen : (Lib.join (xs.map (·.data.toList)) sep.data.toList).length ≤ 140737488355328) :
    Calls Tryz.prog 55 #[.slice (some ⟨bk, o, none⟩) xs.length c, .string sep] w fun e w' => e = .returned (.string ⟨(Lib.join (xs.map (·.data.toList)) sep.data.toList).toArray⟩) ∧ Below w.heap.size w w' := Any.strings_Join Tryz.lays156 Tryz.Builder_Extra_156 bk o c xs sep w hcells hbk hN hcap hlen
def Tryz.lays165_ren : Go.Shelf.Ren := ⟨fun | 165 => 93 | 240 => 64 | 241 => 138 | 276 => 109 | 277 => 170 | n => n, fun | 70 => 75 | 3 => 3 | 0 => 0 | 4 => 4 | 9 => 9 | 20 => 20 | 72 => 78 | 37 => 76 | 164 => 169 | 5 => 5 | n => n, fun | n => n⟩
theorem Tryz.Builder_Extra_165 : Builder.Extra Tryz.prog Tryz.lays165_ren := {
  sizeBuilder := by kernel_rfl
  liesBuilder := by kernel_rfl
  t5 := Tryz.underlying5
  a5 := Tryz.isAgg5
  z5 := Tryz.sizeOf5
  v5 := Tryz.zeroValue5
  infoByte := by kernel_rfl
  cellsByte := by kernel_rfl
  sizeByte := by kernel_rfl
  neB5 := by decide }
theorem Tryz.lays165 : Go.Proofs.Lays.n165 Tryz.prog Tryz.lays165_ren := {
  mixed := by kernel_rfl
  f165 := Tryz.func93.trans (congrArg some (by kernel_rfl))
  f240 := Tryz.func64.trans (congrArg some (by kernel_rfl))
  f241 := Tryz.func138.trans (congrArg some (by kernel_rfl))
  f276 := Tryz.func109.trans (congrArg some (by kernel_rfl))
  f277 := Tryz.func170.trans (congrArg some (by kernel_rfl))
  t0 := Tryz.underlying0
  a0 := Tryz.isAgg0
  z0 := Tryz.sizeOf0
  v0 := Tryz.zeroValue0
  t3 := Tryz.underlying3
  a3 := Tryz.isAgg3
  z3 := Tryz.sizeOf3
  v3 := Tryz.zeroValue3
  t4 := Tryz.underlying4
  a4 := Tryz.isAgg4
  z4 := Tryz.sizeOf4
  v4 := Tryz.zeroValue4
  t9 := Tryz.underlying9
  a9 := Tryz.isAgg9
  z9 := Tryz.sizeOf9
  v9 := Tryz.zeroValue9
  t20 := Tryz.underlying20
  a20 := Tryz.isAgg20
  z20 := Tryz.sizeOf20
  v20 := Tryz.zeroValue20
  t37 := Tryz.underlying76
  a37 := Tryz.isAgg76
  z37 := Tryz.sizeOf76
  v37 := Tryz.zeroValue76
  t70 := Tryz.underlying75
  a70 := Tryz.isAgg75
  z70 := Tryz.sizeOf75
  v70 := Tryz.zeroValue75
  t72 := Tryz.underlying78
  a72 := Tryz.isAgg78
  z72 := Tryz.sizeOf78
  v72 := Tryz.zeroValue78
  t164 := Tryz.underlying169
  a164 := Tryz.isAgg169
  z164 := Tryz.sizeOf169
  v164 := Tryz.zeroValue169 }
open Go.RowKit in
theorem Tryz.Builder_Grow_fresh (B b n : Nat) (w : World) (hB : B ≤ b) (hbk : w.heap[b]? = some (.cells #[.pointer none, .slice none 0 0] 78 (0, 0))) (hBw : B ≤ w.heap.size) (hn : n ≤ 281474976710656) :
    Calls Tryz.prog 93 #[.pointer (some ⟨b, 0, none⟩), .int .i64 n] w fun e w' => e = .returned (.tuple #[]) ∧ (Lib.BuilderAt 78 5 B b (.pointer (some ⟨b, 0, none⟩)) [] w' ∧ Below B w w') := Any.Builder_Grow_fresh Tryz.lays165 Tryz.Builder_Extra_165 B b n w hB hbk hBw hn
def Tryz.lays170_ren : Go.Shelf.Ren := ⟨fun | 170 => 41 | n => n, fun | 70 => 75 | 3 => 3 | 0 => 0 | 72 => 78 | 37 => 76 | 5 => 5 | n => n, fun | n => n⟩
theorem Tryz.lays170 : Go.Proofs.Lays.n170 Tryz.prog Tryz.lays170_ren := {
  mixed := by kernel_rfl
  f170 := Tryz.func41.trans (congrArg some (by kernel_rfl))
  t0 := Tryz.underlying0
  a0 := Tryz.isAgg0
  z0 := Tryz.sizeOf0
  v0 := Tryz.zeroValue0
  t3 := Tryz.underlying3
  a3 := Tryz.isAgg3
  z3 := Tryz.sizeOf3
  v3 := Tryz.zeroValue3
  t37 := Tryz.underlying76
  a37 := Tryz.isAgg76
  z37 := Tryz.sizeOf76
  v37 := Tryz.zeroValue76
  t70 := Tryz.underlying75
  a70 := Tryz.isAgg75
  z70 := Tryz.sizeOf75
  v70 := Tryz.zeroValue75
  t72 := Tryz.underlying78
  a72 := Tryz.isAgg78
  z72 := Tryz.sizeOf78
  v72 := Tryz.zeroValue78 }
open Go.RowKit in
theorem Tryz.Builder_Len_f (B b : Nat) (bs : List Value) (w : World) (h : Lib.IsBuilderF 78 5 B b bs w) :
    Calls Tryz.prog 41 #[.pointer (some ⟨b, 0, none⟩)] w fun e w' => e = .returned (.int .i64 bs.length) ∧ w' = w := Any.Builder_Len_f Tryz.lays170 B b bs w h
end Go.Proofs
/- Arrays and objects in memory: plain lemmas. -/
namespace Go.Proofs.YtoklonmiejdgmaaGreatDoor
set_option linter.unusedVariables false
set_option linter.unusedSimpArgs false
set_option linter.unnecessarySimpa false
open Go.RowKit Go.Sort
section
variable {P : Program} (w : World)
theorem run_equalIn_array_int (d : Nat) {t e : TypeId} {n : Nat} {k : IntKind} (xs ys : List Int) (ht : P.underlying t = some (.array n e)) (he : P.underlying e = some (.int k)) (hi : (P.info? e).map (·.size) = some 1)
    (hx : xs.length = n) (hy : ys.length = n) :
    (Op.equalIn (d + 2) t (.agg (xs.map (Value.int k)).toArray) (.agg (ys.map (Value.int k)).toArray)).run P w = .ok (xs == ys) w := by
  have hsz : (sizeOf e).run P w = .ok 1 w := by
    cases hq : P.info? e with
    | none => simp [hq] at hi
    | some i => have : i.size = 1 := by simpa [hq] using hi
                simp [sizeOf, typeInfo, hq, this]
  have hagg : (isAgg e).run P w = .ok false w := by
    unfold isAgg
    rw [Sem.run_bind, run_underlying he w]
    rfl
  have hpart : ∀ (zs : List Int) (i : Nat) (h : i < zs.length), (part e (zs.map (Value.int k)).toArray i).run P w = .ok (.int k zs[i]) w := by
    intro zs i h
    simp [part, Sem.run_bind, hagg, h, Sem.run_pure]
  rw [Op.equalIn]
  simp only [Sem.run_bind, run_underlying ht, Result.andThen_ok, hsz, Std.Legacy.Range.forIn_eq_forIn_range', Std.Legacy.Range.size]
  have key : ∀ (m j : Nat), j + m = n → (forIn (List.range' j m) ((none, ()) : Option Bool × Unit) (fun i (_r : Option Bool × Unit) => (do
      if !(← Op.equalIn (d + 1) e (← part e (xs.map (Value.int k)).toArray (i * 1)) (← part e (ys.map (Value.int k)).toArray (i * 1))) then pure (ForInStep.done (some false, ())) else pure (ForInStep.yield (none, ())) : Sem (ForInStep (Option Bool × Unit))))).run P w = .ok (if xs.drop j == ys.drop j then (none, ()) else (some false, ())) w := by
    intro m
    induction m with
    | zero =>
      intro j hj
      rw [List.drop_eq_nil_of_le (by omega), List.drop_eq_nil_of_le (by omega)]
      simp [Sem.run_pure]
    | succ m ih =>
      intro j hj
      have hjx : j < xs.length := by omega
      have hjy : j < ys.length := by omega
      rw [List.range'_succ, List.forIn_cons, List.drop_eq_getElem_cons hjx, List.drop_eq_getElem_cons hjy]
      simp only [Sem.run_bind, Nat.mul_one, hpart _ _ hjx, hpart _ _ hjy, Result.andThen_ok, run_equalIn_int w d e k k _ _ he]
      cases hb : xs[j] == ys[j]
      · have e1 : (xs[j] :: xs.drop (j + 1) == ys[j] :: ys.drop (j + 1)) = false := by rw [List.cons_beq_cons, hb]; rfl
        rw [e1]; simp [Sem.run_pure]
      · simp only [Bool.not_true, Bool.false_eq_true, if_false, Sem.run_pure, Result.andThen_ok]
        have e1 : (xs[j] :: xs.drop (j + 1) == ys[j] :: ys.drop (j + 1)) = (xs.drop (j + 1) == ys.drop (j + 1)) := by rw [List.cons_beq_cons, hb]; rfl
        rw [e1]
        have := ih (j + 1) (by omega)
        simpa only [Sem.run_bind, Nat.mul_one] using this
  have h0 := key n 0 (by omega)
  simp only [List.drop_zero, Sem.run_bind] at h0
  simp only [Nat.sub_zero, Nat.add_sub_cancel, Nat.div_one]
  rw [h0]
  cases xs == ys <;> simp [Sem.run_pure]

/-- '==' on arrays of integers, as the walk meets it. -/
theorem run_eql_array_int {t e : TypeId} {n : Nat} {k : IntKind} (xs ys : List Int) (ht : P.underlying t = some (.array n e)) (he : P.underlying e = some (.int k)) (hi : (P.info? e).map (·.size) = some 1)
    (hx : xs.length = n) (hy : ys.length = n) : (binOp .eql t (.agg (xs.map (Value.int k)).toArray) (.agg (ys.map (Value.int k)).toArray)).run P w = .ok (.bool (xs == ys)) w := by
  rw [run_eql_struct, run_equalIn_array_int w 9998 xs ys ht he hi hx hy]; rfl
theorem run_neq_array_int {t e : TypeId} {n : Nat} {k : IntKind} (xs ys : List Int) (ht : P.underlying t = some (.array n e)) (he : P.underlying e = some (.int k)) (hi : (P.info? e).map (·.size) = some 1)
    (hx : xs.length = n) (hy : ys.length = n) : (binOp .neq t (.agg (xs.map (Value.int k)).toArray) (.agg (ys.map (Value.int k)).toArray)).run P w = .ok (.bool (!(xs == ys))) w := by
  rw [run_neq_struct, run_equalIn_array_int w 9998 xs ys ht he hi hx hy]; rfl
end

/-- w' is w with new blocks, and with writes to block b alone. -/
def Upd (b : Nat) (w w' : World) : Prop := w.grownBy w' (some b)
theorem Upd.refl (b : Nat) (w : World) : Upd b w w := ⟨rfl, rfl, rfl, Nat.le_refl _, fun _ _ _ => rfl⟩
theorem Upd.trans {b : Nat} {x y z : World} (h : Upd b x y) (k : Upd b y z) : Upd b x z :=
  ⟨k.os.trans h.os, k.tape.trans h.tape, k.output.trans h.output, Nat.le_trans h.size k.size, fun i hi hn => (k.block i (Nat.lt_of_lt_of_le hi h.size) hn).trans (h.block i hi hn)⟩
theorem Upd.of_below {b : Nat} {x y : World} (h : Below x.heap.size x y) : Upd b x y := ⟨h.os, h.tape, h.output, h.size, fun k hk _ => h.block k hk⟩
theorem Upd.below {b B : Nat} {x y : World} (h : Upd b x y) (hb : B ≤ b) (hB : B ≤ x.heap.size) : Below B x y := ⟨h.os, h.tape, h.output, h.size, fun k hk => h.block k (by omega) (by simp; omega)⟩
theorem Upd.setCell (w : World) (a : Addr) (v : Value) : Upd a.block w (w.setCell a v) := ⟨rfl, rfl, rfl, by simp [World.setCell], fun k _ hn => Below.heap_setCell _ _ _ _ (by simpa using hn)⟩
theorem Upd.drew {b : Nat} {x y : World} (h : Upd b x y) : Upd b x y.drew := h.trans ⟨rfl, rfl, rfl, Nat.le_refl _, fun _ _ _ => rfl⟩
theorem Upd.drewN {b : Nat} {x y : World} (h : Upd b x y) (n : Nat) : Upd b x (y.drewN n) := h.trans ⟨rfl, rfl, rfl, Nat.le_refl _, fun _ _ _ => rfl⟩
theorem Upd.alloc {b : Nat} {x y : World} (h : Upd b x y) (o : Obj) : Upd b x (y.alloc o) := h.trans (Upd.of_below ((Below.refl _ _).alloc (Nat.le_refl _) o))
theorem Upd.keep {b : Nat} {x y : World} (h : Upd b x y) {k : Nat} {o : Obj} (hk : k ≠ b) (ho : x.heap[k]? = some o) : y.heap[k]? = some o :=
  (h.block k (Array.getElem?_eq_some_iff.1 ho).1 (by simpa using hk)).trans ho
theorem RowI.upd {b : Nat} {w w' : World} {k : IntKind} {v : Value} {xs : List Int} (h : RowI w k v xs) (hu : Upd b w w') (hb : w.heap.size ≤ b ∨ ∀ a c, v = .slice (some a) xs.length c → xs ≠ [] → a.block ≠ b) : RowI w' k v xs := by
  obtain ⟨a, cap, rfl, h1, h2, h3⟩ := h
  refine ⟨a, cap, rfl, h1, h2, fun hn => ?_⟩
  obtain ⟨g, off, rfl, hc⟩ := h3 hn
  refine ⟨g, off, rfl, fun i hi => ?_⟩
  have hlt := World.block_lt_of_cell? w ⟨g, off + i, none⟩ (hc i hi)
  rw [World.cell?_of_block (a := ⟨g, off + i, none⟩) (hu.block g hlt (by
    rcases hb with hb | hb
    · simp; simp at hlt; omega
    · simpa using hb ⟨g, off, none⟩ cap rfl hn))]
  exact hc i hi
theorem free_of_block {w : World} {b : Nat} {cs : Array Value} {t : TypeId} (h : w.heap[b]? = some (.cells cs t (0, 0))) : ∀ j, w.frozen? ⟨b, j, none⟩ = false := fun j => free_at h j
theorem setCell_block {w : World} {b : Nat} {cs : Array Value} {t : TypeId} (h : w.heap[b]? = some (.cells cs t (0, 0))) (j : Nat) (v : Value) : (w.setCell ⟨b, j, none⟩ v).heap[b]? = some (.cells (cs.setIfInBounds j v) t (0, 0)) := by
  simp [World.setCell, Array.getElem?_modify, h]

/-- A whole array or struct stored into the block that was made last. -/
theorem wpList_store_new {P : Program} {ops : Array Oper} {rest : List Oper} {op : Oper} {a : Act} {w : World} {Q : Exit → Act → World → Prop} (hgd : op.guard = none) (ty : TypeId) (x y : Operand) (ho : op.op = .store ty x y)
    (c c' : Array Value) (hx : a.eval x = .pointer (some ⟨w.heap.size, 0, none⟩)) (hy : a.eval y = .agg c') (hi : (P.info? ty).map (·.size) = some c'.size) (hs : c.size = c'.size) (h1 : c'.all (·.oneCell') = true)
    (h : wpList P ops Q rest (a.put op.dst undef) (w.alloc (.cells c' ty))) : wpList P ops Q (op :: rest) a (w.alloc (.cells c ty)) :=
  wpList_plain hgd fun _ hK => by
    unfold Oper.wp execOp
    simp only [ho, hx, hy, run_storeAt_new (P := P) w ty c c' hi hs h1, Sem.run_bind, Result.andThen_ok, Sem.run_pure]
    exact hK _ _ h
/-- The same, the world behind it under a name. -/
theorem wpList_store_newW {P : Program} {ops : Array Oper} {rest : List Oper} {op : Oper} {a : Act} {w W : World} {Q : Exit → Act → World → Prop} (ty : TypeId) (c c' : Array Value) (hW : W = w.alloc (.cells c' ty)) (x y : Operand) (hgd : op.guard = none) (ho : op.op = .store ty x y)
    (hx : a.eval x = .pointer (some ⟨w.heap.size, 0, none⟩)) (hy : a.eval y = .agg c') (hi : (P.info? ty).map (·.size) = some c'.size) (hs : c.size = c'.size) (h1 : c'.all (·.oneCell') = true)
    (h : wpList P ops Q rest (a.put op.dst undef) W) : wpList P ops Q (op :: rest) a (w.alloc (.cells c ty)) := by
  subst hW
  exact wpList_store_new hgd ty x y ho c c' hx hy hi hs h1 h
/-- A whole array or struct stored over a whole block. -/
theorem wpList_store_block {P : Program} {ops : Array Oper} {rest : List Oper} {op : Oper} {a : Act} {w : World} {Q : Exit → Act → World → Prop} (hgd : op.guard = none) (ty : TypeId) (x y : Operand) (ho : op.op = .store ty x y)
    (b : Nat) (t : TypeId) (old c : Array Value) (hx : a.eval x = .pointer (some ⟨b, 0, none⟩)) (hy : a.eval y = .agg c) (hg : w.heap[b]? = some (.cells old t (0, 0))) (hi : (P.info? ty).map (·.size) = some c.size) (hs : old.size = c.size) (h1 : c.all (·.oneCell') = true)
    (h : wpList P ops Q rest (a.put op.dst undef) (w.setRow b c)) : wpList P ops Q (op :: rest) a w :=
  wpList_plain hgd fun _ hK => by
    unfold Oper.wp execOp
    simp only [ho, hx, hy, Instr.storeAt, Instr.sureAddr, Sem.run_bind, Sem.run_pure, Result.andThen_ok, run_storeVar_row w b t ty old c hg hi hs h1]
    exact hK _ _ h
theorem Upd.setRow (w : World) (b : Nat) (c : Array Value) : Upd b w (w.setRow b c) := ⟨rfl, rfl, rfl, by simp, fun k _ hk => setRow_other w b k _ (fun e => hk (by simp [e]))⟩
theorem ints_all (k : IntKind) (r : List Int) : ((r.map (Value.int k)).toArray).all (·.oneCell') = true := all_oneCell_toArray (by intro v hv; simp at hv; obtain ⟨_, _, rfl⟩ := hv; rfl)
end Go.Proofs.YtoklonmiejdgmaaGreatDoor
/- Objects in memory, whatever their fields: plain lemmas. -/
namespace Go.Proofs.YtoklonmiejdgmaaGreatDoor
set_option linter.unusedVariables false
set_option linter.unusedSimpArgs false
set_option linter.unnecessarySimpa false
open Go.RowKit Go.Sort

/-- Block b is just these cells, of type t, none frozen. -/
def ObjAt (w : World) (b : Nat) (t : TypeId) (cs : List Value) : Prop := w.heap[b]? = some (.cells cs.toArray t (0, 0))
section
variable {w w' : World} {b c : Nat} {t : TypeId} {cs : List Value}
theorem ObjAt.cell (h : ObjAt w b t cs) (i : Nat) (v : Value) (hv : cs[i]? = some v) : w.cell? ⟨b, i, none⟩ = some v := cell_at h i v (by simpa using hv)
theorem ObjAt.free (h : ObjAt w b t cs) (j : Nat) : w.frozen? ⟨b, j, none⟩ = false := free_at h j
theorem ObjAt.lt (h : ObjAt w b t cs) : b < w.heap.size := (Array.getElem?_eq_some_iff.1 h).1
theorem ObjAt.set (h : ObjAt w b t cs) (i : Nat) (v : Value) : ObjAt (w.setCell ⟨b, i, none⟩ v) b t (cs.set i v) := by
  unfold ObjAt
  rw [setCell_block h i]
  simp
theorem ObjAt.setRow (h : ObjAt w b t cs) (cs' : Array Value) : ObjAt (w.setRow b cs') b t cs'.toList := setRow_heap _ _ _ _ _ _ h
theorem ObjAt.below (h : ObjAt w b t cs) (hb : Below w.heap.size w w') : ObjAt w' b t cs := keepB hb h.lt h
theorem ObjAt.belowB {B : Nat} (h : ObjAt w b t cs) (hb : Below B w w') (hB : b < B) : ObjAt w' b t cs := keepB hb hB h
theorem ObjAt.upd (h : ObjAt w b t cs) (hu : Upd c w w') (hc : b ≠ c) : ObjAt w' b t cs := hu.keep hc h
theorem ObjAt.new (w : World) (t : TypeId) (cs : List Value) : ObjAt (w.alloc (.cells cs.toArray t)) w.heap.size t cs := new_block w _ _ rfl
theorem ObjAt.newA (w : World) (t : TypeId) (cs : Array Value) : ObjAt (w.alloc (.cells cs t)) w.heap.size t cs.toList := new_block w _ _ rfl
theorem ObjAt.range (h : ObjAt w b t cs) (o : Nat) (xs : List Value) (hx : ∀ j v, xs[j]? = some v → cs[o + j]? = some v) : w.rangeAt b o xs := fun j v hv => h.cell _ _ (hx j v hv)
theorem ObjAt.ne {t' : TypeId} {cs' : List Value} (h : ObjAt w b t cs) (h' : ObjAt w c t' cs') (hn : t ≠ t') : b ≠ c := by
  rintro rfl
  unfold ObjAt at h h'
  rw [h] at h'
  injection h' with h'
  injection h' with _ ht
  exact hn ht
end
theorem Upd.trans_below {b : Nat} {x y z : World} (h : Upd b x y) (k : Below y.heap.size y z) : Upd b x z := h.trans (Upd.of_below k)
/-- What a call left below what the caller had at first. -/
theorem bupd {b : Nat} {x y z : World} (h : Below x.heap.size x y) (hu : Upd b y z) (hb : x.heap.size ≤ b) : Below x.heap.size x z := h.trans (hu.below hb h.size)
theorem bmore {x y z : World} (h : Below x.heap.size x y) (k : Below y.heap.size y z) : Below x.heap.size x z := h.trans (k.mono h.size)
theorem brg {x y : World} (h : Below x.heap.size x y) (d : Nat) (os : Array Obj) : Below x.heap.size x (grow (redrawn y d) os) := bmore h (below_regrown y d os)
/-- A callee that leaves the world alone, met in a region that draws and holds calls that make memory. -/
theorem regrown_same {P : Program} {f : FuncId} {args : Array Value} {w : World} {d : Nat} {os : Array Obj} {v : Value}
    (h : Calls P f args (grow (redrawn w d) os) fun e w' => e = .returned v ∧ grow (redrawn w d) os = w') : Calls P f args (grow (redrawn w d) os) fun e w'' => e = .returned v ∧ ∃ p : Regrown, w'' = grow (redrawn w p.d) p.os :=
  h.mono fun _ _ ⟨he, hb⟩ => ⟨he, ⟨d, os⟩, hb.symm⟩
theorem quiet_same {P : Program} {f : FuncId} {args : Array Value} {w : World} {n : Nat} {v : Value}
    (h : Calls P f args (w.drewN n) fun e w' => e = .returned v ∧ w.drewN n = w') : Calls P f args (w.drewN n) fun e w'' => e = .returned v ∧ ∃ m, w'' = w.drewN m :=
  h.mono fun _ _ ⟨he, hm⟩ => ⟨he, n, hm.symm⟩
theorem results_row_tmp {P : Program} {fn : Func} {p u : Tmp} {ty : TypeId} (h : fn.results = #[.cell p ty, .tmp u]) (tmps : Array Value) (w : World) (g : Nat) (t : TypeId) (cs : Array Value) (fr : Nat × Nat) (d : TypeDesc)
    (hp : tmps.getD p undef = .pointer (some ⟨g, 0, none⟩)) (hg : w.heap[g]? = some (.cells cs t fr))
    (hu : P.underlying ty = some d) (hd : (match d with | .struct _ | .array _ _ => true | _ => false) = true) (hi : (P.info? ty).map (·.size) = some cs.size) (x : Value) (hx : tmps.getD u undef = x) :
    (results fn tmps).run P w = .ok (.tuple #[.agg cs, x]) w := by
  subst hx
  have hp' : tmps[p]?.getD undef = .pointer (some ⟨g, 0, none⟩) := by simpa using hp
  simp [results, h, hp', asAddr, run_loadVar_row w g t ty cs fr d hg hu hd hi]
/-- A whole array or struct loaded, at a guarded operation. -/
theorem wpList_load_midW {P : Program} {ops : Array Oper} {rest : List Oper} {op : Oper} {a : Act} {w : World} {Q : Exit → Act → World → Prop} (hw : Region.wanted op (yielded ops a.tmps) = true) (ty : TypeId) (x : Operand) (ho : op.op = .load ty x)
    (b o : Nat) (hx : a.eval x = .pointer (some ⟨b, o, none⟩)) (cs : List Value) (d : TypeDesc) (hc : w.rangeAt b o cs)
    (hu : P.underlying ty = some d) (hd : d.isRow = true) (hi : (P.info? ty).map (·.size) = some cs.length)
    (h : wpList P ops Q rest (a.put op.dst (.agg cs.toArray)) w) : wpList P ops Q (op :: rest) a w :=
  BigFrame.wpList_want hw fun _ hK => wp_load_mid ty x ho b o hx cs d hc hu hd hi (hK _ _ h)
end Go.Proofs.YtoklonmiejdgmaaGreatDoor
/- Slices that a law owns, and worlds of which but few blocks have turned: plain lemmas. -/
namespace Go.Proofs.YtoklonmiejdgmaaGreatDoor
set_option linter.unusedVariables false
set_option linter.unusedSimpArgs false
set_option linter.unnecessarySimpa false
open Go.RowKit Go.Sort

/-- w' is w with new blocks, and with writes to the blocks of S alone. -/
structure Mod (S : List Nat) (w w' : World) : Prop where
  os : w'.os = w.os
  tape : w'.tape = w.tape
  output : w'.output = w.output
  size : w.heap.size ≤ w'.heap.size
  block : ∀ k, k < w.heap.size → k ∉ S → w'.heap[k]? = w.heap[k]?
namespace Mod
variable {S T : List Nat} {x y z : World}
theorem refl (S : List Nat) (w : World) : Mod S w w := ⟨rfl, rfl, rfl, Nat.le_refl _, fun _ _ _ => rfl⟩
theorem trans (h : Mod S x y) (k : Mod S y z) : Mod S x z :=
  ⟨k.os.trans h.os, k.tape.trans h.tape, k.output.trans h.output, Nat.le_trans h.size k.size, fun i hi hn => (k.block i (Nat.lt_of_lt_of_le hi h.size) hn).trans (h.block i hi hn)⟩
theorem mono (h : Mod S x y) (hs : ∀ k, k < x.heap.size → k ∈ S → k ∈ T) : Mod T x y := ⟨h.os, h.tape, h.output, h.size, fun i hi hn => h.block i hi (fun hm => hn (hs i hi hm))⟩
theorem ofBelow (h : Below x.heap.size x y) : Mod S x y := ⟨h.os, h.tape, h.output, h.size, fun k hk _ => h.block k hk⟩
theorem ofUpd {b : Nat} (h : Upd b x y) : Mod [b] x y := ⟨h.os, h.tape, h.output, h.size, fun k hk hn => h.block k hk (by simpa using hn)⟩
theorem ofGrown {r : Option Nat} (h : x.grownBy y r) (hs : ∀ k, r = some k → k ∈ S) : Mod S x y := ⟨h.os, h.tape, h.output, h.size, fun k hk hn => h.block k hk (fun e => hn (hs k e.symm))⟩
theorem below (h : Mod S x y) {B : Nat} (hs : ∀ k ∈ S, B ≤ k) (hB : B ≤ x.heap.size) : Below B x y := ⟨h.os, h.tape, h.output, h.size, fun k hk => h.block k (by omega) (fun hm => by have := hs k hm; omega)⟩
theorem drew (h : Mod S x y) : Mod S x y.drew := h.trans ⟨rfl, rfl, rfl, Nat.le_refl _, fun _ _ _ => rfl⟩
theorem drewN (h : Mod S x y) (n : Nat) : Mod S x (y.drewN n) := h.trans ⟨rfl, rfl, rfl, Nat.le_refl _, fun _ _ _ => rfl⟩
theorem alloc (h : Mod S x y) (o : Obj) : Mod S x (y.alloc o) := h.trans (ofBelow ((Below.refl _ _).alloc (Nat.le_refl _) o))
theorem setCell (h : Mod S x y) (a : Addr) (v : Value) (ha : a.block ∈ S ∨ x.heap.size ≤ a.block) : Mod S x (y.setCell a v) :=
  ⟨h.os, h.tape, h.output, by simpa [World.setCell] using h.size, fun k hk hn => (Below.heap_setCell y a v k (by
    rintro rfl
    rcases ha with ha | ha
    · exact hn ha
    · omega)).trans (h.block k hk hn)⟩
end Mod
theorem ObjAt.mod {S : List Nat} {w w' : World} {b : Nat} {t : TypeId} {cs : List Value} (h : ObjAt w b t cs) (hm : Mod S w w') (hb : b ∉ S) : ObjAt w' b t cs := (hm.block b h.lt hb).trans h

/-- The slice value's row: just xs, of type e, in a block of its own from B on. -/
def Own (w : World) (B : Nat) (e : TypeId) (size : Nat) (a : Option Addr) (n cap : Nat) (xs : List Value) : Prop := w.ownsRow B e size (.slice a n cap) n xs
/-- The blocks of a slice's row: none or one. -/
def blk (a : Option Addr) : List Nat := (a.map (·.block)).toList
theorem mem_blk {a : Option Addr} {k : Nat} : k ∈ blk a ↔ ∃ p, a = some p ∧ p.block = k := by cases a <;> simp [blk, eq_comm]
section
variable {w w' : World} {B size n cap : Nat} {e : TypeId} {a : Option Addr} {xs : List Value}
theorem Own.nil (w : World) (B : Nat) (e : TypeId) (size : Nat) : Own w B e size none 0 0 [] := ⟨by simp, .inl ⟨rfl, rfl⟩⟩
theorem Own.len (h : Own w B e size a n cap xs) : xs.length = n * size := h.1
theorem Own.form (h : Own w B e size a n cap xs) : (a = none ∧ n = 0 ∧ cap = 0) ∨ ∃ g, a = some ⟨g, 0, none⟩ ∧ B ≤ g ∧ g < w.heap.size ∧ n ≤ cap ∧ cap ≤ maxLen := by
  rcases h.2 with ⟨hv, h0⟩ | ⟨g, c, cur, hv, hb, hg, hc, hm, _⟩
  · injection hv with h1 h2 h3
    exact .inl ⟨h1, h0, h3⟩
  · injection hv with h1 h2 h3
    refine .inr ⟨g, h1, hb, (Array.getElem?_eq_some_iff.1 hg).1, by omega, by omega⟩
theorem Own.le (h : Own w B e size a n cap xs) : n ≤ cap := by
  rcases h.form with ⟨_, h0, h1⟩ | ⟨_, _, _, _, h, _⟩ <;> omega
theorem Own.capMax (h : Own w B e size a n cap xs) : cap ≤ maxLen := by
  rcases h.form with ⟨_, h0, h1⟩ | ⟨_, _, _, _, _, h⟩
  · rw [h1]; exact Nat.zero_le _
  · exact h
theorem Own.at_ (h : Own w B e size a n cap xs) (hn : 0 < n) : ∃ g, a = some ⟨g, 0, none⟩ ∧ B ≤ g ∧ g < w.heap.size := by
  rcases h.form with ⟨_, h0, _⟩ | ⟨g, h1, h2, h3, _⟩
  · omega
  · exact ⟨g, h1, h2, h3⟩
theorem Own.ge (h : Own w B e size a n cap xs) : ∀ k ∈ blk a, B ≤ k ∧ k < w.heap.size := fun k hk => by
  obtain ⟨p, rfl, rfl⟩ := mem_blk.1 hk
  rcases h.form with ⟨h0, _⟩ | ⟨g, h1, h2, h3, _⟩
  · cases h0
  · injection h1 with h1; subst h1; exact ⟨h2, h3⟩
theorem Own.cell {g : Nat} (h : Own w B e size (some ⟨g, 0, none⟩) n cap xs) (j : Nat) (u : Value) (hu : xs[j]? = some u) : w.cell? ⟨g, j, none⟩ = some u := by
  have hj : j < n * size := by rw [← h.1]; exact (List.getElem?_eq_some_iff.1 hu).1
  exact (World.ownsRow.cellAt h j hj).trans hu
theorem Own.free {g : Nat} (h : Own w B e size (some ⟨g, 0, none⟩) n cap xs) (j : Nat) : w.frozen? ⟨g, j, none⟩ = false := World.ownsRow.frozenAt h j
theorem Own.mod {S : List Nat} (h : Own w B e size a n cap xs) (hm : Mod S w w') (hd : ∀ k ∈ blk a, k ∉ S) : Own w' B e size a n cap xs := by
  refine ⟨h.1, ?_⟩
  rcases h.2 with h0 | ⟨g, c, cur, hv, hb, hg, hr⟩
  · exact .inl h0
  · refine .inr ⟨g, c, cur, hv, hb, (hm.block g (Array.getElem?_eq_some_iff.1 hg).1 (hd g ?_)).trans hg, hr⟩
    injection hv with h1
    exact mem_blk.2 ⟨_, h1, rfl⟩
theorem Own.below (h : Own w B e size a n cap xs) (hb : Below w.heap.size w w') : Own w' B e size a n cap xs := h.mod (Mod.ofBelow (S := []) hb) (by simp)
theorem Own.upd {b : Nat} (h : Own w B e size a n cap xs) (hu : Upd b w w') (hb : b ∉ blk a) : Own w' B e size a n cap xs := h.mod (Mod.ofUpd hu) (fun k hk hm => hb (by simp at hm; rw [← hm]; exact hk))
theorem Own.mono {B' : Nat} (h : Own w B e size a n cap xs) (hB : B' ≤ B) : Own w B' e size a n cap xs := by
  refine ⟨h.1, ?_⟩
  rcases h.2 with h0 | ⟨g, c, cur, hv, hb, hr⟩
  · exact .inl h0
  · exact .inr ⟨g, c, cur, hv, by omega, hr⟩
theorem Own.ne {b : Nat} {t : TypeId} {cs : List Value} (h : Own w B e size a n cap xs) (ho : ObjAt w b t cs) (hne : t ≠ e) : b ∉ blk a := fun hk => by
  obtain ⟨p, rfl, rfl⟩ := mem_blk.1 hk
  rcases h.2 with ⟨hv, _⟩ | ⟨g, c, cur, hv, hb, hg, _⟩
  · cases hv
  · injection hv with h1
    injection h1 with h1
    subst h1
    unfold ObjAt at ho
    rw [hg] at ho
    injection ho with ho
    injection ho with _ h2
    exact hne h2.symm
end
/-- Two rows that lie in blocks of their own. -/
def Sep (a b : Option Addr) : Prop := ∀ k ∈ blk a, k ∉ blk b
theorem Sep.symm {a b : Option Addr} (h : Sep a b) : Sep b a := fun k hk hm => h k hm hk
theorem Sep.none_ (b : Option Addr) : Sep none b := fun k hk => by simp [blk] at hk

/-- What a slice shows: n elements, the cells xs. It may lie wherever it likes. -/
def Rd (w : World) (size : Nat) (a : Option Addr) (n : Nat) (xs : List Value) : Prop := xs.length = n * size ∧ (a = none → n = 0) ∧ ∀ p, a = some p → xs ≠ [] → ∃ b o, p = ⟨b, o, none⟩ ∧ b < w.heap.size ∧ ∀ j u, xs[j]? = some u → w.cell? ⟨b, o + j, none⟩ = some u
section
variable {w w' : World} {B size n cap : Nat} {e : TypeId} {a : Option Addr} {xs : List Value}
theorem Own.rd (h : Own w B e size a n cap xs) : Rd w size a n xs := by
  refine ⟨h.1, fun h0 => ?_, fun p hp hx => ?_⟩
  · rcases h.form with ⟨_, h1, _⟩ | ⟨g, h1, _⟩
    · exact h1
    · rw [h1] at h0; cases h0
  · rcases h.form with ⟨h1, _⟩ | ⟨g, h1, h2, h3, _⟩
    · rw [h1] at hp; cases hp
    · subst h1
      injection hp with hp
      subst hp
      exact ⟨g, 0, rfl, h3, fun j u hu => by rw [Nat.zero_add]; exact h.cell j u hu⟩
theorem Rd.below (h : Rd w size a n xs) (hb : Below w.heap.size w w') : Rd w' size a n xs :=
  ⟨h.1, h.2.1, fun p hp hx => by
    obtain ⟨b, o, h1, h2, h3⟩ := h.2.2 p hp hx
    exact ⟨b, o, h1, Nat.lt_of_lt_of_le h2 hb.size, fun j u hu => (hb.cell (p := ⟨b, o + j, none⟩) h2).trans (h3 j u hu)⟩⟩
theorem Rd.mod {S : List Nat} (h : Rd w size a n xs) (hm : Mod S w w') (hd : ∀ k ∈ blk a, k ∉ S) : Rd w' size a n xs :=
  ⟨h.1, h.2.1, fun p hp hx => by
    obtain ⟨b, o, h1, h2, h3⟩ := h.2.2 p hp hx
    refine ⟨b, o, h1, Nat.lt_of_lt_of_le h2 hm.size, fun j u hu => ?_⟩
    have hb : b ∉ S := hd b (mem_blk.2 ⟨p, hp, by rw [h1]⟩)
    rw [World.cell?_of_block (a := ⟨b, o + j, none⟩) (hm.block b h2 hb)]
    exact h3 j u hu⟩
theorem Rd.upd {b : Nat} (h : Rd w size a n xs) (hu : Upd b w w') (hb : b ∉ blk a) : Rd w' size a n xs := h.mod (Mod.ofUpd hu) (fun k hk hm => hb (by simp at hm; rw [← hm]; exact hk))
theorem Rd.cut (h : Rd w size a n xs) {k c : Nat} (hk : k ≤ n) (hc : n ≤ c) : Rd w size (if c = k then a else a.map (·.add (k * size))) (n - k) (xs.drop (k * size)) := by
  refine ⟨by rw [List.length_drop, h.1, Nat.sub_mul], fun h0 => ?_, fun p hp hx => ?_⟩
  · split at h0
    · omega
    · rw [h.2.1 (by simpa using h0)]; omega
  · have hne : k < n := by
      rcases Nat.lt_or_ge k n with h1 | h1
      · exact h1
      · exact absurd (List.drop_eq_nil_of_le (by rw [h.1]; exact Nat.mul_le_mul_right _ h1)) hx
    rw [if_neg (by omega)] at hp
    obtain ⟨q, hq, hqp⟩ := Option.map_eq_some_iff.1 hp
    have hxn : xs ≠ [] := fun h0 => hx (by rw [h0]; simp)
    obtain ⟨b, o, rfl, h2, h3⟩ := h.2.2 q hq hxn
    refine ⟨b, o + k * size, ?_, h2, fun j u hu => ?_⟩
    · rw [← hqp]; unfold Addr.add; split <;> simp_all
    · rw [List.getElem?_drop] at hu
      rw [Nat.add_assoc]
      exact h3 _ u hu
end

/-- append onto a row of one's own, at a step of a region that draws; the row's place written out. -/
theorem step_own {P : Program} {w : World} {ops : Array Oper} {o : Oper} {a : Act} {K : Act → World → Prop} {Q : Exit → Act → World → Prop} {F : Prop} (hgd : o.guard = none) (s x : Operand) (t : TypeId)
    (ho : o.op = .call { callee := .builtin .append, args := #[s, x], argTypes := #[t, t] })
    (B : Nat) (e : TypeId) (i : TypeInfo) (z : Value) (size bytes : Nat) (ht : P.underlying t = some (.slice e)) (hi : P.info? e = some i) (hz : i.zero = some z)
    (hsize : i.size = size) (hby : i.bytes = bytes) (hzs : z.cells.size = size) (hsz : 0 < size)
    (A : Option Addr) (n cap : Nat) (xs : List Value) (hs : a.eval s = .slice A n cap) (hown : Own w B e size A n cap xs)
    (g : Nat) (news : List Value) (hx : a.eval x = .slice (some ⟨g, 0, none⟩) 1 1) (hnews : w.heap[g]? = some (.cells news.toArray e (0, 0))) (hl : news.length = size) (h1 : ∀ u ∈ news, u.oneCell' = true)
    (h63 : n + 1 ≤ maxLen) (hbytes : (n + 1) * bytes ≤ 140737488355328) (hbase : B ≤ w.heap.size)
    (h : ∀ g' cap' w', Own w' B e size (some ⟨g', 0, none⟩) (n + 1) cap' (xs ++ news) → Mod (blk A) w w' → (g' ∈ blk A ∨ w.heap.size ≤ g') → K (a.put o.dst (.slice (some ⟨g', 0, none⟩) (n + 1) cap')) w') :
    if Region.wanted o (yielded ops a.tmps) = true then Oper.wp P o a w K Q else F := by
  refine step_append_lies w hgd s x t ho B e i z size bytes ht hi hz hsize hby hzs hsz (.slice A n cap) n xs hs hown ⟨g, 0, none⟩ 1 1 news hx (by omega) (World.news_of_block hnews) h1 (by omega) h63 hbytes hbase w.heap.size rfl ?_
  intro g' cap' w' h2 h3 h4 h5
  refine h g' cap' w' h2 (Mod.ofGrown h3 (fun k hk => ?_)) ?_
  · cases A with
    | none => simp [Value.ownBlock] at hk
    | some p => exact mem_blk.2 ⟨p, rfl, by simpa [Value.ownBlock] using hk⟩
  · rcases h4 with h4 | h4
    · left
      cases A with
      | none => simp [Value.ownBlock] at h4
      | some p => exact mem_blk.2 ⟨p, rfl, by simpa [Value.ownBlock] using h4⟩
    · right; omega
theorem wpList_own {P : Program} {w : World} {ops : Array Oper} {rest : List Oper} {o : Oper} {a : Act} {Q : Exit → Act → World → Prop} (hgd : o.guard = none) (s x : Operand) (t : TypeId)
    (ho : o.op = .call { callee := .builtin .append, args := #[s, x], argTypes := #[t, t] })
    (B : Nat) (e : TypeId) (i : TypeInfo) (z : Value) (size bytes : Nat) (ht : P.underlying t = some (.slice e)) (hi : P.info? e = some i) (hz : i.zero = some z)
    (hsize : i.size = size) (hby : i.bytes = bytes) (hzs : z.cells.size = size) (hsz : 0 < size)
    (A : Option Addr) (n cap : Nat) (xs : List Value) (hs : a.eval s = .slice A n cap) (hown : Own w B e size A n cap xs)
    (g : Nat) (news : List Value) (hx : a.eval x = .slice (some ⟨g, 0, none⟩) 1 1) (hnews : w.heap[g]? = some (.cells news.toArray e (0, 0))) (hl : news.length = size) (h1 : ∀ u ∈ news, u.oneCell' = true)
    (h63 : n + 1 ≤ maxLen) (hbytes : (n + 1) * bytes ≤ 140737488355328) (hbase : B ≤ w.heap.size)
    (h : ∀ g' cap' w', Own w' B e size (some ⟨g', 0, none⟩) (n + 1) cap' (xs ++ news) → Mod (blk A) w w' → (g' ∈ blk A ∨ w.heap.size ≤ g') → wpList P ops Q rest (a.put o.dst (.slice (some ⟨g', 0, none⟩) (n + 1) cap')) w') : wpList P ops Q (o :: rest) a w := by
  refine wpList_append_lies w hgd s x t ho B e i z size bytes ht hi hz hsize hby hzs hsz (.slice A n cap) n xs hs hown ⟨g, 0, none⟩ 1 1 news hx (by omega) (World.news_of_block hnews) h1 (by omega) h63 hbytes hbase w.heap.size rfl ?_
  intro g' cap' w' h2 h3 h4 h5
  refine h g' cap' w' h2 (Mod.ofGrown h3 (fun k hk => ?_)) ?_
  · cases A with
    | none => simp [Value.ownBlock] at hk
    | some p => exact mem_blk.2 ⟨p, rfl, by simpa [Value.ownBlock] using hk⟩
  · rcases h4 with h4 | h4
    · left
      cases A with
      | none => simp [Value.ownBlock] at h4
      | some p => exact mem_blk.2 ⟨p, rfl, by simpa [Value.ownBlock] using h4⟩
    · right; omega
theorem own_form {w : World} {B size n : Nat} {e : TypeId} {v : Value} {xs : List Value} (h : w.ownsRow B e size v n xs) : ∃ a c, v = .slice a n c ∧ Own w B e size a n c xs := by
  rcases h.2 with ⟨rfl, rfl⟩ | ⟨g, c, cur, rfl, _⟩
  · exact ⟨none, 0, rfl, h⟩
  · exact ⟨_, c, rfl, h⟩
/-- A new row without elements. -/
theorem own_empty (w : World) (e : TypeId) (size : Nat) : (w.alloc (.cells #[] e)).ownsRow w.heap.size e size (.slice (some ⟨w.heap.size, 0, none⟩) 0 0) 0 [] := ⟨by simp, .inr ⟨w.heap.size, 0, #[], rfl, Nat.le_refl _, new_block _ _ _ rfl, Nat.le_refl _, Nat.zero_le _, by simp, by simp⟩⟩
def ClonePost (E size n : Nat) (xs : List Value) (w : World) (e : Ending) (w' : World) : Prop := ∃ a' c', e = .returned (.slice a' n c') ∧ Own w' w.heap.size E size a' n c' xs ∧ Below w.heap.size w w'
theorem clone_post {E size n : Nat} {xs : List Value} {w w1 : World} {v1 : Value} (hown : w1.ownsRow w.heap.size E size v1 (0 + n) ([] ++ xs)) (hg : (w.alloc (.cells #[] E)).grownBy w1 (some w.heap.size)) : ClonePost E size n xs w (.returned v1) w1 := by
  rw [Nat.zero_add, List.nil_append] at hown
  obtain ⟨a, c, rfl, ho⟩ := own_form hown
  exact ⟨a, c, rfl, ho, ((Below.refl _ _).alloc (Nat.le_refl _) _).grown hg (by simp) (fun k hk => by injection hk with hk; omega)⟩
end Go.Proofs.YtoklonmiejdgmaaGreatDoor
/- An argument that is a slice of structs (whatever their fields), as the cells that it shows: plain lemmas. -/
namespace Go.Proofs.YtoklonmiejdgmaaGreatDoor
set_option linter.unusedVariables false
set_option linter.unusedSimpArgs false
set_option linter.unnecessarySimpa false
open Go.ChangeShapes Go.WideShapes Go.ChangeAt Go.RowKit

theorem flatten_get {N : Nat} : ∀ (rs : List (List Value)) (i j : Nat), (∀ r ∈ rs, r.length = N) → (hi : i < rs.length) → j < N → rs.flatten[i * N + j]? = (rs[i])[j]?
  | [], i, j, _, hi, _ => by simp at hi
  | r :: rs, 0, j, h, _, hj => by
    have hr : r.length = N := h r (by simp)
    rw [List.flatten_cons, List.getElem?_append_left (by omega)]
    simp
  | r :: rs, i + 1, j, h, hi, hj => by
    have hr : r.length = N := h r (by simp)
    rw [List.flatten_cons, List.getElem?_append_right (by rw [Nat.add_mul]; omega), show (i + 1) * N + j - r.length = i * N + j from by rw [Nat.add_mul]; omega]
    exact flatten_get rs i j (fun r' h' => h r' (by simp [h'])) (by simpa using hi) hj
theorem flatten_len {N : Nat} : ∀ (rs : List (List Value)), (∀ r ∈ rs, r.length = N) → rs.flatten.length = rs.length * N
  | [], _ => by simp
  | r :: rs, h => by
    rw [List.flatten_cons, List.length_append, h r (by simp), flatten_len rs (fun r' h' => h r' (by simp [h'])), List.length_cons, Nat.add_mul]; omega
/-- Cells that read as elements, one by one, are just these elements' cells. -/
theorem rows_of {α : Type} (enc : α → List Value) (Q : α → Prop) (N : Nat) (henc : ∀ a, (enc a).length = N) : ∀ (len : Nat) (xs : List Value), xs.length = len * N → (∀ i, i < len → ∃ a, Q a ∧ ∀ j, j < N → xs[i * N + j]? = (enc a)[j]?) → ∃ l : List α, l.length = len ∧ xs = (l.map enc).flatten ∧ ∀ a ∈ l, Q a
  | 0, xs, hl, _ => ⟨[], rfl, by simpa using hl, by simp⟩
  | len + 1, xs, hl, h => by
    obtain ⟨a, hq, ha⟩ := h 0 (by omega)
    have e : xs = enc a ++ xs.drop N := by
      apply List.ext_getElem?
      intro j
      by_cases hj : j < N
      · rw [List.getElem?_append_left (by rw [henc]; exact hj), ← ha j hj]; simp
      · rw [List.getElem?_append_right (by rw [henc]; omega), henc, List.getElem?_drop]; congr 1; omega
    obtain ⟨l, h1, h2, h3⟩ := rows_of enc Q N henc len (xs.drop N) (by rw [List.length_drop, hl, Nat.add_mul]; omega) (fun i hi => by
      obtain ⟨a', hq', ha'⟩ := h (i + 1) (by omega)
      refine ⟨a', hq', fun j hj => ?_⟩
      rw [← ha' j hj, List.getElem?_drop]; congr 1; rw [Nat.add_mul]; omega)
    exact ⟨a :: l, by simp [h1], by rw [List.map_cons, List.flatten_cons, ← h2]; exact e, by simp only [List.mem_cons, forall_eq_or_imp]; exact ⟨hq, h3⟩⟩
theorem addr_add (a : Addr) (i j : Nat) : (a.add i).add j = a.add (i + j) := by
  unfold Addr.add
  by_cases hi : i = 0 <;> by_cases hj : j = 0 <;> simp [hi, hj, Nat.add_assoc]
theorem open_rowF0 {H : Type} {enc : TypeId × Value → H} {P : Program} {W : World} {t e : TypeId} {n N : Nat} (ht : P.underlying t = some (.slice e)) (hok : flatOk P n e = true) (hC : P.cellsOf e = N) (hN : 0 < N) {v : Value} {d : DataW H} {p : List MemPlace}
    (hv : ∃ a len cap, v = .slice a len cap) (h : DataW.Trod enc P W 0 (fun _ => true) true t v d p) :
    ∃ (a : Option Addr) (len cap : Nat) (xs : List Value), v = .slice a len cap ∧ len ≤ cap ∧ cap ≤ maxLen ∧ Rd W N a len xs ∧
      (∀ i, i < len → ∀ j lt, j < N → (leaves P n e)[j]? = some lt → ∃ (u : Value) (y : DataW H × List MemPlace) (m : Nat), xs[i * N + j]? = some u ∧ DataW.trod enc P W 0 (fun _ => true) true m lt [u] = some y) ∧
      (len = 0 ∨ ∃ A B : List (DataW H), d = .slice A B ∧ len ≤ A.length + B.length) := by
  obtain ⟨a, len, cap, rfl⟩ := hv
  obtain ⟨fuel, hf⟩ := h
  rcases Go.Deep.open_slice ht hf with ⟨hcs, hx⟩ | ⟨ad, len', cap', m, k, D, Pl, hcs, _, hl, hm, hmm, hx, hi⟩
  · simp [Value.cells] at hcs
    obtain ⟨rfl, rfl, rfl⟩ := hcs
    exact ⟨none, 0, 0, [], rfl, Nat.le_refl _, by decide, ⟨by simp, fun _ => rfl, (fun p hp => by cases hp)⟩, fun i hi => absurd hi (by omega), .inl rfl⟩
  · simp [Value.cells] at hcs
    obtain ⟨rfl, rfl, rfl⟩ := hcs
    simp only [if_true] at hmm
    subst hmm
    let f : Nat → List Value := fun i => if hi' : i < m then Classical.choose (hi i hi') else List.replicate N undef
    have hf1 : ∀ i, i < m → W.cells? 0 (ad.add (i * P.cellsOf e)) (P.cellsOf e) = some (f i) ∧ DataW.trod enc P W 0 (fun _ => true) true k e (f i) = some (D i, Pl i) := fun i h' => by
      have := Classical.choose_spec (hi i h')
      simp only [f, dif_pos h']
      exact this
    have hlen : ∀ i, (f i).length = N := fun i => by
      by_cases h' : i < m
      · have := (World.cells?_some (hf1 i h').1).2.1
        rw [hC] at this; exact this
      · simp only [f, dif_neg h', List.length_replicate]
    have hrs : ∀ r ∈ (List.range len).map f, r.length = N := fun r hr => by
      obtain ⟨i, _, rfl⟩ := List.mem_map.1 hr
      exact hlen i
    have hget : ∀ i j, i < len → j < N → ((List.range len).map f).flatten[i * N + j]? = (f i)[j]? := fun i j h1 h2 => by
      rw [flatten_get _ i j hrs (by simpa using h1) h2]; simp
    have hcell : ∀ i j u, i < len → (f i)[j]? = some u → W.cell? (ad.add (i * N + j)) = some u := fun i j u h1 h2 => by
      have hjl : j < N := by have := (List.getElem?_eq_some_iff.1 h2).1; rw [hlen] at this; exact this
      have := (World.cells?_some (hf1 i (by omega)).1).2.2 j (by omega)
      rw [addr_add, hC] at this
      rw [this, h2]
    refine ⟨some ad, len, m, ((List.range len).map f).flatten, rfl, hl, hm, ⟨?_, (fun h0 => by cases h0), fun q hq hne => ?_⟩, fun i h1 j lt hj hlt => ?_, .inr ?_⟩
    · rw [flatten_len _ hrs]; simp
    · injection hq with hq
      subst hq
      have hpos : 0 < len := by
        rcases Nat.eq_zero_or_pos len with h0 | h0
        · subst h0; simp at hne
        · exact h0
      obtain ⟨b, o, spot⟩ := ad
      have h0 : (f 0)[0]? = some ((f 0)[0]'(by rw [hlen]; exact hN)) := List.getElem?_eq_getElem _
      have hc0 := hcell 0 0 _ hpos h0
      have hspot : spot = none := by simpa [Addr.add] using World.cell?_spot hc0
      subst hspot
      have hadd : ∀ x, (⟨b, o, none⟩ : Addr).add x = ⟨b, o + x, none⟩ := fun x => by unfold Addr.add; split <;> simp_all
      have hb : b < W.heap.size := by have := World.block_lt_of_cell? W _ hc0; rw [hadd] at this; exact this
      refine ⟨b, o, rfl, hb, fun x u hu => ?_⟩
      have hxl : x < len * N := by
        have := (List.getElem?_eq_some_iff.1 hu).1
        rw [flatten_len _ hrs] at this; simpa using this
      have e1 : x / N * N + x % N = x := by rw [Nat.mul_comm]; exact Nat.div_add_mod x N
      have e2 : x / N < len := Nat.div_lt_of_lt_mul (by rw [Nat.mul_comm]; exact hxl)
      have e3 : x % N < N := Nat.mod_lt _ hN
      rw [← e1, hget _ _ e2 e3] at hu
      have := hcell _ _ u e2 hu
      rw [e1, hadd] at this
      exact this
    · obtain ⟨u, y, m', g1, g2⟩ := trod_leaves n hok (hf1 i (by omega)).2 j lt hlt
      exact ⟨u, y, m', by rw [hget i j h1 hj]; exact g1, g2⟩
    · refine ⟨_, _, (Prod.mk.inj hx).1, ?_⟩
      simp
theorem open_rowF {H : Type} {enc : TypeId × Value → H} {P : Program} {W : World} {base : Nat} {t e : TypeId} {n N : Nat} (ht : P.underlying t = some (.slice e)) (hok : flatOk P n e = true) (hC : P.cellsOf e = N) (hN : 0 < N) {v : Value} {d : DataW H} {p : List MemPlace}
    (hv : Value.okWide P W .any base t v) (h : DataW.Trod enc P W 0 (fun _ => true) true t v d p) :
    ∃ (a : Option Addr) (len cap : Nat) (xs : List Value), v = .slice a len cap ∧ len ≤ cap ∧ cap ≤ maxLen ∧ Rd W N a len xs ∧
      (∀ i, i < len → ∀ j lt, j < N → (leaves P n e)[j]? = some lt → ∃ (u : Value) (y : DataW H × List MemPlace) (m : Nat), xs[i * N + j]? = some u ∧ DataW.trod enc P W 0 (fun _ => true) true m lt [u] = some y) ∧
      (len = 0 ∨ ∃ A B : List (DataW H), d = .slice A B ∧ len ≤ A.length + B.length) :=
  open_rowF0 ht hok hC hN (okWide_slice ht hv) h
end Go.Proofs.YtoklonmiejdgmaaGreatDoor
/- strings.Split at a separator of one byte, whatever the text (shorter than 2^32 bytes): over the kit's core. -/
namespace Go.Proofs.YtoklonmiejdgmaaGreatDoor
set_option linter.unusedVariables false
set_option linter.unusedSimpArgs false
set_option linter.unnecessarySimpa false
open Go.Shelf Go.RowKit Go.Sort
set_option maxHeartbeats 1000000
set_option maxRecDepth 100000
theorem index1 (s : ByteArray) (c : UInt8) (w : World) : Calls Tryz.prog 51 #[.string s, .string ⟨#[c]⟩] w fun e w' => e = .returned (.int .i64 (Lib.indexB s ⟨#[c]⟩)) ∧ w' = w := by
  refine (Tryz.strings_Index_one s c w).mono fun e w' ⟨he, hw⟩ => ⟨?_, hw⟩
  rw [he]
  show _ = Ending.returned (Value.int .i64 (Lib.index s.data.toList [c]))
  rw [Lib.index_one]
theorem count1 (s : ByteArray) (c : UInt8) (w : World) : Calls Tryz.prog 21 #[.string s, .string ⟨#[c]⟩] w fun e w' => e = .returned (.int .i64 (Lib.countB s ⟨#[c]⟩)) ∧ w' = w := by
  refine (Tryz.strings_Count_one s c w).mono fun e w' ⟨he, hw⟩ => ⟨?_, hw⟩
  rw [he]
  show _ = Ending.returned (Value.int .i64 ((Lib.count s.data.toList [c] : Nat) : Int))
  rw [Lib.count_one]
  rfl
theorem info_str : (Tryz.prog.info? 9).map (fun i => (i.zero, i.size, i.bytes)) = some (some (.string ByteArray.empty), 1, 16) := by kernel_rfl
theorem split1 (s : ByteArray) (c : UInt8) (w : World) (hs : s.size < 4294967281) : Calls Tryz.prog 48 #[.string s, .string ⟨#[c]⟩] w fun e w' =>
    e = .returned (.slice (some ⟨w.heap.size, 0, none⟩) (Lib.countB s ⟨#[c]⟩ + 1) (Lib.countB s ⟨#[c]⟩ + 1)) ∧ w' = w.alloc (.cells ((Lib.splitB ⟨#[c]⟩ 0 (Lib.countB s ⟨#[c]⟩) s).map Value.string).toArray 9) := by
  have h1 : 1 ≤ (⟨#[c]⟩ : ByteArray).size := Nat.le_refl _
  have hle := Lib.countB_le ⟨#[c]⟩ h1 s.size s (Nat.le_refl _)
  have hlen := Lib.splitB_all ⟨#[c]⟩ h1 0 _ s rfl
  have hc := Any.strings_genSplit_core Tryz.lays221 info_str s ⟨#[c]⟩ 0 (-1) (Lib.countB s ⟨#[c]⟩ + 1) w hs h1 (Nat.zero_le _) (fun x cc _ => index1 x c _) (count1 s c w) (by decide) (by decide) (by rw [if_pos (by decide)]; omega)
  rw [Nat.add_sub_cancel, hlen] at hc
  have e2 : Lib.cellsOf (Lib.splitB ⟨#[c]⟩ 0 (Lib.countB s ⟨#[c]⟩) s) (Lib.countB s ⟨#[c]⟩ + 1) = ((Lib.splitB ⟨#[c]⟩ 0 (Lib.countB s ⟨#[c]⟩) s).map Value.string).toArray := by rw [← hlen]; exact Lib.cellsOf_full _
  rw [e2] at hc
  have HC := Lib.hid hc
  clear hc e2 hlen hle h1
  go_enter Tryz.func48, Tryz.ntmps48
  go_wp2_with (go_at_call 78; refine HC.out.mono ?_; rintro e w' ⟨rfl, hw⟩; rw [hw])
  go_ret
  exact ⟨rfl, rfl⟩
end Go.Proofs.YtoklonmiejdgmaaGreatDoor
