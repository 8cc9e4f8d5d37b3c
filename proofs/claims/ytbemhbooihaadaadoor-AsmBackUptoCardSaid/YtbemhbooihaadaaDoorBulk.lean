/- What the bound of the second form gives. -/
import Derived.Test.YtbemhbooihaadaaDoorRows
namespace Go.Proofs.YtbemhbooihaadaaDoor
set_option linter.unusedVariables false
set_option linter.unusedSimpArgs false
set_option linter.unnecessarySimpa false
theorem bulk_part {H : Type} {d : DataW H} {l : List (DataW H)} (h : d ∈ l) : Rows.uptoBulk d ≤ Rows.uptoBulkAll l := by
  induction l with
  | nil => cases h
  | cons x r ih =>
    simp only [Rows.uptoBulkAll]
    cases List.mem_cons.1 h with
    | inl e => subst e; omega
    | inr e => have := ih e; omega
theorem bulk_str {H : Type} {l gs : List (DataW H)} {bytes : List UInt8} (hk : Rows.uptoSmall H (l ++ gs) = true) (h : DataW.lit (.string bytes) ∈ l) : bytes.length ≤ 1048576 := by
  have h1 := of_decide_eq_true hk
  have h2 := bulk_part (List.mem_append_left gs h)
  have h3 : Rows.uptoBulk (DataW.lit (H := H) (.string bytes)) = bytes.length + 1 := by simp only [Rows.uptoBulk]
  omega
theorem bulk_bytes {H : Type} {l gs : List (DataW H)} {s : ByteArray} (hk : Rows.uptoSmall H (l ++ gs) = true) (h : DataW.lit (.string s.data.toList) ∈ l) : s.size ≤ 1048576 := by
  have := bulk_str hk h
  rw [Array.length_toList] at this
  exact this
end Go.Proofs.YtbemhbooihaadaaDoor
