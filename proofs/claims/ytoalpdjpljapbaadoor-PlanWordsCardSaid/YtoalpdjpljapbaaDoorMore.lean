/- append(xs, ys...): onto a row of one's own, whatever the second slice shows. -/
import Derived.Test.YtoalpdjpljapbaaDoorSl
namespace Go.Proofs.YtoalpdjpljapbaaDoor
set_option linter.unusedVariables false
set_option linter.unusedSimpArgs false
set_option linter.unnecessarySimpa false
open Go.RowKit Go.Sort
theorem wpList_more {P : Program} {w : World} {ops : Array Oper} {rest : List Oper} {o : Oper} {a : Act} {Q : Exit → Act → World → Prop} (hgd : o.guard = none) (s x : Operand) (t : TypeId)
    (ho : o.op = .call { callee := .builtin .append, args := #[s, x], argTypes := #[t, t] })
    (B : Nat) (e : TypeId) (i : TypeInfo) (z : Value) (size bytes : Nat) (ht : P.underlying t = some (.slice e)) (hi : P.info? e = some i) (hz : i.zero = some z)
    (hsize : i.size = size) (hby : i.bytes = bytes) (hzs : z.cells.size = size) (hsz : 0 < size)
    (A : Option Addr) (n cap : Nat) (xs : List Value) (hs : a.eval s = .slice A n cap) (hown : Own w B e size A n cap xs)
    (A2 : Option Addr) (m c : Nat) (ys : List Value) (hx : a.eval x = .slice A2 m c) (hr : Rd w size A2 m ys) (h1 : ∀ u ∈ ys, u.oneCell' = true)
    (h63 : n + m ≤ maxLen) (hbytes : (n + m) * bytes ≤ 140737488355328) (hbase : B ≤ w.heap.size)
    (h : ∀ a' c' w', Own w' B e size a' (n + m) c' (xs ++ ys) → Mod (blk A) w w' → (∀ k ∈ blk a', k ∈ blk A ∨ w.heap.size ≤ k) → wpList P ops Q rest (a.put o.dst (.slice a' (n + m) c')) w') : wpList P ops Q (o :: rest) a w := by
  cases A2 with
  | none =>
    obtain rfl : m = 0 := hr.2.1 rfl
    obtain rfl : ys = [] := List.eq_nil_of_length_eq_zero (by simpa using hr.1)
    have hle := hown.le
    refine wpList_plain hgd fun _ hK => ?_
    have hrun : (Builtin.append_ #[t, t] o.type #[.slice A n cap, .slice none 0 c]).run P w = .ok (.slice A n cap) w := by
      cases A <;> simp [Builtin.append_, run_underlying ht, sizeOf, typeInfo, hi, Builtin.lenOf, Builtin.firstCells, storeCells, hle]
    unfold Oper.wp execOp
    simp only [ho, resolve, invoke, builtin, Sem.run_bind, Sem.run_pure, Result.andThen_ok, List.map_toArray, List.map_cons, List.map_nil, hs, hx, hrun]
    exact hK _ _ (h _ _ _ (by rw [List.append_nil]; exact hown) (Mod.refl _ _) (fun k hk => .inl hk))
  | some ad =>
    have hn : ∀ j u, ys[j]? = some u → w.cell? (ad.add j) = some u := fun j u hu => by
      obtain ⟨b, o', rfl, hb, hc⟩ := hr.2.2 ad rfl (by intro h0; subst h0; simp at hu)
      have e : (⟨b, o', none⟩ : Addr).add j = ⟨b, o' + j, none⟩ := by unfold Addr.add; split <;> simp_all
      rw [e]; exact hc j u hu
    refine wpList_append_own_at w hgd s x t ho B e i z size bytes ht hi hz hsize hby hzs hsz _ n xs hs hown ad m c ys hx hr.1 hn h1 h63 hbytes hbase ?_
    intro v' w' h2 h3 h4 h5
    obtain ⟨a', c', rfl, ho'⟩ := own_form h2
    have hown_blk : ∀ (p : Option Addr) (n c k : Nat), k ∈ blk p → (Value.slice p n c).ownBlock = some k := fun p n c k hk => by
      obtain ⟨q, rfl, rfl⟩ := mem_blk.1 hk
      rfl
    refine h a' c' w' ho' (Mod.ofGrown h3 (fun k hk => ?_)) (fun k hk => ?_)
    · cases A with
      | none => simp [Value.ownBlock] at hk
      | some p => exact mem_blk.2 ⟨p, rfl, by simpa [Value.ownBlock] using hk⟩
    · rw [hown_blk a' _ _ k hk] at h5
      rcases h5 with h5 | h5
      · left
        cases A with
        | none => simp [Value.ownBlock] at h5
        | some p => exact mem_blk.2 ⟨p, rfl, by simpa [Value.ownBlock] using h5.symm⟩
      · right
        injection h5 with h5
        omega
end Go.Proofs.YtoalpdjpljapbaaDoor
