/- Events as arguments, and the tables of the card: plain lemmas. -/
import Derived.Test.YtcffdceadmdecaaDoorFlat
import Derived.Test.YtcffdceadmdecaaDoorRowF
import Derived.Test.YtcffdceadmdecaaDoorTr2
import Derived.Test.YtcffdceadmdecaaDoorRows
import Derived.LaidSub
import Derived.Lib.LaidTab
namespace Go.Proofs.YtcffdceadmdecaaDoor
set_option linter.unusedVariables false
set_option linter.unusedSimpArgs false
set_option linter.unnecessarySimpa false
open Go.ChangeShapes Go.WideShapes Go.ChangeAt Go.RowKit

theorem ev_of (g : Nat → Option Value) (h0 : ∃ z : Int, (-9223372036854775808 ≤ z ∧ z ≤ 9223372036854775807) ∧ g 0 = some (.int .i64 z)) (h1 : ∃ z : Int, (-9223372036854775808 ≤ z ∧ z ≤ 9223372036854775807) ∧ g 1 = some (.int .i64 z))
    (h : ∀ j, 2 ≤ j → j < 21 → ∃ n : Nat, n < 4294967296 ∧ g j = some (.int .u32 (n : Int))) : ∃ e : Ev, e.Ok ∧ ∀ j, j < 21 → g j = e.cells[j]? := by
  obtain ⟨z0, b0, e0⟩ := h0
  obtain ⟨z1, b1, e1⟩ := h1
  have hn : ∃ n : Nat → Nat, ∀ j, 2 ≤ j → j < 21 → n j < 4294967296 ∧ g j = some (.int .u32 (n j : Int)) := by
    refine ⟨fun j => if hj : 2 ≤ j ∧ j < 21 then Classical.choose (h j hj.1 hj.2) else 0, fun j ha hb => ?_⟩
    have := Classical.choose_spec (h j ha hb)
    simp only [dif_pos (And.intro ha hb)]
    exact this
  obtain ⟨n, hn⟩ := hn
  refine ⟨⟨z0, z1, n 2, n 3, n 4, (List.range 16).map fun i => n (5 + i)⟩, ⟨b0, b1, (hn 2 (by omega) (by omega)).1, (hn 3 (by omega) (by omega)).1, (hn 4 (by omega) (by omega)).1, by simp, ?_⟩, fun j hj => ?_⟩
  · intro r hr
    simp only [List.mem_map, List.mem_range] at hr
    obtain ⟨i, hi, rfl⟩ := hr
    exact (hn (5 + i) (by omega) (by omega)).1
  · match j, hj with
    | 0, _ => exact e0
    | 1, _ => exact e1
    | 2, _ => exact (hn 2 (by omega) (by omega)).2
    | 3, _ => exact (hn 3 (by omega) (by omega)).2
    | 4, _ => exact (hn 4 (by omega) (by omega)).2
    | i + 5, hj =>
      have hi : i < 16 := by omega
      have hx := (hn (5 + i) (by omega) (by omega)).2
      rw [show i + 5 = 5 + i from by omega, hx]
      have e : (List.range 16)[i]? = some i := by rw [List.getElem?_eq_getElem (by simpa using hi)]; simp
      have e2 : (u32C ((List.range 16).map fun i => n (5 + i)))[i]? = some (.int .u32 (n (5 + i) : Int)) := by
        unfold u32C; rw [List.getElem?_map, List.getElem?_map, e]; rfl
      rw [show 5 + i = i + 5 from by omega] at e2 ⊢
      exact e2.symm
theorem leaf_i {H : Type} {enc : TypeId × Value → H} {W : World} {m : Nat} {u : Value} {y : DataW H × List MemPlace} (t0 : DataW.trod enc Tryd.prog W 0 (fun _ => true) true m 3 [u] = some y) : ∃ z : Int, (-9223372036854775808 ≤ z ∧ z ≤ 9223372036854775807) ∧ u = .int .i64 z := by
  obtain ⟨z, e, _, f⟩ := DataW.trod_int Tryd.underlying3 t0
  simp only [List.cons.injEq, and_true] at e
  exact ⟨z, bounds_i64 f, e⟩
theorem leaf_u {H : Type} {enc : TypeId × Value → H} {W : World} {m : Nat} {u : Value} {y : DataW H × List MemPlace} (t0 : DataW.trod enc Tryd.prog W 0 (fun _ => true) true m 22 [u] = some y) : ∃ n : Nat, n < 4294967296 ∧ u = .int .u32 (n : Int) := by
  obtain ⟨z, e, _, f⟩ := DataW.trod_int Tryd.underlying22 t0
  simp only [List.cons.injEq, and_true] at e
  have b := bounds_u32 f
  exact ⟨z.toNat, by omega, by rw [e]; congr 1; omega⟩
theorem ev_leaves : leaves Tryd.prog 3 25 = 3 :: 3 :: List.replicate 19 22 := by kernel_rfl
theorem leaf_ty (j : Nat) (h2 : 2 ≤ j) (hj : j < 21) : (leaves Tryd.prog 3 25)[j]? = some 22 := by
  rw [ev_leaves]
  match j, h2, hj with
  | i + 2, _, hj =>
    have hi : i < 19 := by omega
    simp only [List.getElem?_cons_succ]
    rw [List.getElem?_replicate, if_pos hi]
theorem open_ev {H : Type} {enc : TypeId × Value → H} {W : World} {base : Nat} {v : Value} {d : DataW H} {p : List MemPlace} (hv : Value.okWide Tryd.prog W .any base 25 v) (h : DataW.Trod enc Tryd.prog W 0 (fun _ => true) true 25 v d p) :
    ∃ e : Ev, v = .agg e.cells.toArray ∧ e.Ok := by
  obtain ⟨cs, rfl, hs⟩ := okWide_struct Tryd.underlying25 hv
  rw [show (Tryd.prog).cellsOf 25 = 21 from by kernel_rfl] at hs
  obtain ⟨fuel, hf⟩ := h
  have hl := trod_leaves 3 (by kernel_rfl) hf
  obtain ⟨e, ok, he⟩ := ev_of (fun j => cs.toList[j]?)
    (by obtain ⟨u, y, m, g, t⟩ := hl 0 3 (by rw [ev_leaves]; rfl); obtain ⟨z, b, rfl⟩ := leaf_i t; exact ⟨z, b, g⟩)
    (by obtain ⟨u, y, m, g, t⟩ := hl 1 3 (by rw [ev_leaves]; rfl); obtain ⟨z, b, rfl⟩ := leaf_i t; exact ⟨z, b, g⟩)
    (fun j h2 hj => by obtain ⟨u, y, m, g, t⟩ := hl j 22 (leaf_ty j h2 hj); obtain ⟨n, b, rfl⟩ := leaf_u t; exact ⟨n, b, g⟩)
  refine ⟨e, ?_, ok⟩
  have : cs.toList = e.cells := by
    apply List.ext_getElem?
    intro j
    by_cases hj : j < 21
    · exact he j hj
    · rw [List.getElem?_eq_none (by simp; omega), List.getElem?_eq_none (by rw [cells_len ok]; omega)]
  rw [← this]
theorem open_evs {H : Type} {enc : TypeId × Value → H} {W : World} {base : Nat} {v : Value} {d : DataW H} {p : List MemPlace} (hv : Value.okWide Tryd.prog W .any base 29 v) (h : DataW.Trod enc Tryd.prog W 0 (fun _ => true) true 29 v d p) :
    ∃ (a : Option Addr) (cap : Nat) (l : List Ev), v = .slice a l.length cap ∧ l.length ≤ cap ∧ cap ≤ maxLen ∧ RdE W a l ∧ Oks l := by
  obtain ⟨a, len, cap, xs, rfl, hle, hcm, hrd, hlf, _⟩ := open_rowF (n := 3) (N := 21) Tryd.underlying29 (by kernel_rfl) (by kernel_rfl) (by omega) hv h
  obtain ⟨acts, hlen, rfl, hq⟩ := rows_of (fun e : { e : Ev // e.Ok } => e.1.cells) (fun _ => True) 21 (fun e => cells_len e.2) len xs hrd.1 (fun i hi => by
    have hl := hlf i hi
    obtain ⟨e, ok, he⟩ := ev_of (fun j => xs[i * 21 + j]?)
      (by obtain ⟨u, y, m, g, t⟩ := hl 0 3 (by omega) (by rw [ev_leaves]; rfl); obtain ⟨z, b, rfl⟩ := leaf_i t; exact ⟨z, b, g⟩)
      (by obtain ⟨u, y, m, g, t⟩ := hl 1 3 (by omega) (by rw [ev_leaves]; rfl); obtain ⟨z, b, rfl⟩ := leaf_i t; exact ⟨z, b, g⟩)
      (fun j h2 hj => by obtain ⟨u, y, m, g, t⟩ := hl j 22 hj (leaf_ty j h2 hj); obtain ⟨n, b, rfl⟩ := leaf_u t; exact ⟨n, b, g⟩)
    exact ⟨⟨e, ok⟩, trivial, he⟩)
  have e1 : (acts.map fun e : { e : Ev // e.Ok } => e.1.cells).flatten = evF (acts.map Subtype.val) := by unfold evF; rw [List.map_map]; rfl
  refine ⟨a, cap, acts.map Subtype.val, by simp [hlen], by simp [hlen, hle], hcm, ?_, fun e he => ?_⟩
  · unfold RdE; rw [← e1, List.length_map, hlen]; exact hrd
  · obtain ⟨x, _, rfl⟩ := List.mem_map.1 he
    exact x.2

/-- An array of strings that reads as a list of strings holds them. -/
theorem cells_of_strs {H : Type} {enc : TypeId × Value → H} {P : Program} {w : World} {base : Nat} {sp : Nat → Bool} {held : Bool} {fuel : Nat} {t e : TypeId} {n : Nat} {cs : List Value} {zs : List (List UInt8)} {p : List MemPlace}
    (ht : P.underlying t = some (.array n e)) (he : P.underlying e = some .string) (hce : P.cellsOf e = 1) (hct : P.cellsOf t = n)
    (h : DataW.trod enc P w base sp held fuel t cs = some (.agg (zs.map fun z => .lit (.string z)), p)) : cs = zs.map fun z => Value.string ⟨z.toArray⟩ := by
  cases fuel with
  | zero => simp [DataW.trod] at h
  | succ fuel =>
    simp only [DataW.trod, ht, hce, hct, Nat.mul_one] at h
    split at h
    · rename_i hl
      obtain ⟨xs, hm, hx⟩ := Option.map_eq_some_iff.1 h
      have hxs : xs.map (·.1) = zs.map fun z => (DataW.lit (.string z) : DataW H) := by
        have := congrArg Prod.fst hx
        simpa using this
      have hxl : xs.length = n := by simpa using Lib.mapM_length hm
      have hzl : zs.length = n := by
        have := congrArg List.length hxs
        simp at this
        omega
      apply List.ext_getElem?
      intro i
      by_cases hi : i < n
      · obtain ⟨b, hb, hf⟩ := Lib.mapM_at hm i i (by simp [hi])
        obtain ⟨z, hc, rfl, _⟩ := DataW.trod_string he hf
        have h1 : cs[i]? = some (.string z) := by
          have := congrArg (·[0]?) hc
          simpa [List.getElem?_take, List.getElem?_drop] using this
        have h2 : (xs.map (·.1))[i]? = some (DataW.lit (.string z.data.toList) : DataW H) := by simp [hb]
        rw [hxs] at h2
        simp only [List.getElem?_map, Option.map_eq_some_iff, DataW.lit.injEq, Lit.string.injEq] at h2
        obtain ⟨z', hz', e'⟩ := h2
        have e2 : z = ⟨z'.toArray⟩ := by apply ByteArray.ext; rw [e']
        simp [h1, hz', e2]
      · rw [List.getElem?_eq_none (by omega), List.getElem?_eq_none (by simp; omega)]
    · cases h
def tab32 : List Int := [0, 1, 28, 2, 29, 14, 24, 3, 30, 22, 20, 15, 25, 17, 4, 8, 31, 27, 13, 23, 21, 19, 16, 7, 26, 12, 18, 6, 11, 5, 10, 9]
def tab64 : List Int := [0, 1, 56, 2, 57, 49, 28, 3, 61, 58, 42, 50, 38, 29, 17, 4, 62, 47, 59, 36, 45, 43, 51, 22, 53, 39, 33, 30, 24, 18, 12, 5, 63, 55, 48, 27, 60, 41, 37, 16, 46, 35, 44, 21, 52, 32, 23, 11, 54, 26, 40, 15, 34, 20, 31, 10, 25, 14, 19, 9, 13, 8, 7, 6]
def keepN (n : String) (x : String × DataW Unit) : Bool := x.1 == n
theorem pow_of {W : World} (h : laidMetH Tryd.prog Rows.traceOneRow.laid W) : PowIs W := by
  have h2 : laidMetH Tryd.prog [("internal/strconv.uint64pow10", Rows.laid_internal_strconv_uint64pow10)] W := h.filter (keepN "internal/strconv.uint64pow10")
  exact Lib.tabIs_of_head (rest := []) (g := 1) (t := 80) (e := 68) (n := 20) (by kernel_rfl) (by kernel_rfl) Tryd.underlying80 Tryd.underlying68 (by kernel_rfl) (by kernel_rfl) h2
theorem words_of {W : World} (h : laidMetH Tryd.prog Rows.traceOneRow.laid W) : WordsIs W := by
  have h2 : laidMetH Tryd.prog [("hermitage/trace.words", Rows.laid_hermitage_trace_words)] W := h.filter (keepN "hermitage/trace.words")
  have h3 : laidMet Tryd.prog [("hermitage/trace.words", Rows.laid_hermitage_trace_words)] W := h2
  have hg : (Tryd.prog).globalNamed "hermitage/trace.words" = some 0 := by kernel_rfl
  have hty : ((Tryd.prog).globals[0]?).map (·.type) = some 66 := by kernel_rfl
  obtain ⟨ps, ⟨g', t', cs, fuel, p, q, hg', ht', hvar, hd, _, _⟩, _⟩ := h3
  obtain rfl := Option.some.inj (hg.symm.trans hg')
  obtain rfl := Option.some.inj (hty.symm.trans ht')
  have hc := cells_of_strs (zs := wordsL) Tryd.underlying66 Tryd.underlying9 (by kernel_rfl) (by kernel_rfl) hd
  intro i hi
  have := World.var?_cell hg hvar i
  rw [this, ← Array.getElem?_toList, hc]
  match i, hi with
  | 0, _ | 1, _ | 2, _ | 3, _ | 4, _ | 5, _ | 6, _ => rfl
end Go.Proofs.YtcffdceadmdecaaDoor
