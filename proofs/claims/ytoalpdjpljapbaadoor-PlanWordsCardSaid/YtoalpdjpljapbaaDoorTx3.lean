/- The reference's Split. -/
import Derived.Test.YtoalpdjpljapbaaDoorTx2
namespace Go.Proofs.YtoalpdjpljapbaaDoor
set_option linter.unusedVariables false
set_option linter.unusedSimpArgs false
set_option linter.unnecessarySimpa false
open Go.RowKit Go.Sort
set_option maxHeartbeats 2000000
set_option maxRecDepth 100000
set_option linter.unusedVariables false
theorem info_byte : (Tryd.prog.info? 5).map (fun i => (i.zero, i.size, i.bytes)) = some (some (.int .u8 0), 1, 1) := by kernel_rfl
theorem foldl_pushN (ns : List UInt8) : ∀ (s : ByteArray), ((ns.map fun b => ((b.toNat : Nat) : Int)).foldl (fun r n => r.push (UInt8.ofNat n.toNat)) s) = ⟨(s.data.toList ++ ns).toArray⟩ := by
  induction ns with
  | nil => intro s; simp
  | cons n ns ih =>
    intro s
    rw [List.map_cons, List.foldl_cons, ih]
    simp [ByteArray.push]
theorem run_own_str (w : World) (B n : Nat) (a : Option Addr) (cap : Nat) (l : List UInt8) (hown : Own w B 5 1 a n cap (bC l)) :
    (convert 67 9 (.slice a n cap)).run Tryd.prog w = .ok (.string (ba l)) w := by
  have hn : n = l.length := by have := hown.len; rw [bC_len] at this; omega
  rcases hown.form with ⟨rfl, h0, _⟩ | ⟨g, rfl, _⟩
  · have hx : l = [] := List.eq_nil_of_length_eq_zero (by omega)
    subst hx
    subst h0
    rw [run_convert_bytes_string w 67 9 5 none 0 cap Tryd.underlying67 Tryd.underlying5 Tryd.underlying9]
    rfl
  · rw [run_convert_bytes_string w 67 9 5 _ n cap Tryd.underlying67 Tryd.underlying5 Tryd.underlying9]
    rw [run_bytesToString w ⟨g, 0, none⟩ n cap (l.map fun b => ((b.toNat : Nat) : Int)) ?_, foldl_pushN]
    · rfl
    · rw [hn]
      have hc : ∀ j u, (bC l)[j]? = some u → w.cell? ((⟨g, 0, none⟩ : Addr).add j) = some u := fun j u hu => by
        have e : (⟨g, 0, none⟩ : Addr).add j = ⟨g, j, none⟩ := by unfold Addr.add; split <;> simp_all
        rw [e]; exact hown.cell j u hu
      have := run_loadCells_list (P := Tryd.prog) w ⟨g, 0, none⟩ (bC l) hc
      rw [bC_len] at this
      rw [this]
      simp [bC, List.map_map, Function.comp_def]
/-- Two rows of one's own, of texts and of bytes, beside each other. -/
structure SP (w W : World) (ao : Option Addr) (co : Nat) (done : List (List UInt8)) (ab : Option Addr) (cb : Nat) (cur : List UInt8) : Prop where
  o : Own W w.heap.size 9 1 ao done.length co (strC done)
  b : Own W w.heap.size 5 1 ab cur.length cb (bC cur)
  bel : Below w.heap.size w W
theorem SP.below {w W W' : World} {ao ab : Option Addr} {co cb : Nat} {done : List (List UInt8)} {cur : List UInt8} (h : SP w W ao co done ab cb cur) (hb : Below W.heap.size W W') : SP w W' ao co done ab cb cur := ⟨h.o.below hb, h.b.below hb, h.bel.trans (hb.mono h.bel.size)⟩
theorem bC_snoc (l : List UInt8) (b : UInt8) : bC (l ++ [b]) = bC l ++ [.int .u8 (b.toNat : Int)] := by simp [bC]
theorem strC_snoc (l : List (List UInt8)) (x : List UInt8) : strC (l ++ [x]) = strC l ++ [.string (ba x)] := by simp [strC]
theorem own_rdW {w : World} {B : Nat} {a : Option Addr} {cap : Nat} {l : List (List UInt8)} (h : Own w B 9 1 a l.length cap (strC l)) : RdW w a cap l := ⟨h.rd, h.le, h.capMax⟩
theorem rsplit_any (s : ByteArray) (hs : s.size ≤ 100000000) (w : World) : Calls Tryd.prog 11 #[.string s] w (SplitPost s.data.toList w) := by
  obtain ⟨ib, hib, hzb, hzb1, hzb2⟩ := info_parts info_byte
  obtain ⟨is, his, hzs, hzs1, hzs2⟩ := info_parts info_str
  obtain ⟨F, hF⟩ : ∃ F, F = fieldsC 32 s.data.toList := ⟨_, rfl⟩
  have HPY : Hid (∀ e w' a cap, (∀ x ∈ F, x.isEmpty = false) → e = Ending.returned (.tuple #[.slice a F.length cap, .bool true]) → RdW w' a cap F → Below w.heap.size w w' → SplitPost s.data.toList w e w') := fun e w' a cap h1 h2 h3 h4 => by
    subst hF; exact SplitPost.yes (wordsB_yes (fun k hk => h1 _ (List.getElem_mem hk))) h2 h3 h4
  have HPN : Hid (∀ e w', (∃ x ∈ F, x.isEmpty = true) → e = Ending.returned (.tuple #[.slice none 0 0, .bool false]) → Below w.heap.size w w' → SplitPost s.data.toList w e w') := fun e w' h1 h2 h4 => by
    subst hF
    obtain ⟨x, hx, h1⟩ := h1
    obtain ⟨k, hk, rfl⟩ := List.mem_iff_getElem.1 hx
    exact SplitPost.no (wordsB_no hk h1) h2 h4
  have HS0 : Hid (SP w w none 0 [] none 0 []) := ⟨Own.nil _ _ _ _, Own.nil _ _ _ _, Below.refl _ _⟩
  have HF := Lib.hid hF
  clear hF
  go_enter Tryd.func11, Tryd.ntmps11
  go_wp2
  go_loopw [4, 5, 6] (fun o v i wr => ∃ (k : Nat) (done : List (List UInt8)) (cur : List UInt8) (ao ab : Option Addr) (co cb : Nat), k ≤ s.size ∧ i = .int .i64 k ∧ o = .slice ao done.length co ∧ v = .slice ab cur.length cb ∧ SP w wr ao co done ab cb cur ∧ done.length ≤ k ∧ cur.length ≤ k ∧ (∀ x ∈ done, x.isEmpty = false) ∧ (∀ b ∈ cur, b ≠ 32) ∧ F = done ++ fieldsC 32 (cur ++ s.data.toList.drop k)) (fun _ _ i _ => s.size - (intOf i).toNat)
  case atStart => exact ⟨0, [], [], none, none, 0, 0, by omega, rfl, rfl, rfl, HS0.out, Nat.le_refl _, Nat.le_refl _, by simp, by simp, HF.out⟩
  case round =>
    clear HS0
    obtain ⟨k, done, cur, ao, ab, co, cb, hk, rfl, rfl, rfl, hsp, hdl, hcl, hdn, hcn, hrel⟩ := hrel
    have SPH := Lib.hid hsp
    have HDN := Lib.hid hdn
    have HCN := Lib.hid hcn
    have HREL := Lib.hid hrel
    have hsz := hsp.bel.size
    clear hsp hdn hcn hrel
    by_cases hlt : k < s.size
    · have d1 : decide ((k : Int) < (s.size : Int)) = true := decide_eq_true (by omega)
      have d1' : decide (k < s.size) = true := decide_eq_true hlt
      have w1 : IntKind.i64.wrap ((k : Int) + 1) = (k : Int) + 1 := by rw [IntKind.wrap_i64]; omega
      have hdrop : s.data.toList.drop k = s[k] :: s.data.toList.drop (k + 1) := List.drop_eq_getElem_cons (by rw [ba_len]; exact hlt)
      by_cases h32 : s[k].toNat = 32
      · have hb32 : s[k] = 32 := by rw [← UInt8.toNat_inj]; exact h32
        have dn : ((s[k].toNat : Int) != 32) = false := by simp [h32]
        have HR2 : Hid (F = (done ++ [cur]) ++ fieldsC 32 ([] ++ s.data.toList.drop (k + 1))) := by
          rw [Hid, HREL.out, hdrop, hb32, fieldsC_app 32 cur _ HCN.out, List.append_assoc]; rfl
        by_cases hc0 : cur.length = 0
        · have dc : ((cur.length : Int) == 0) = true := by simp [hc0]
          have HEM : Hid (∃ x ∈ F, x.isEmpty = true) := ⟨cur, by rw [HR2.out]; simp, by rw [List.isEmpty_iff]; exact List.eq_nil_of_length_eq_zero hc0⟩
          clear hc0 hdrop hb32 h32
          go_wp2
          go_ret2
          exact HPN.out _ _ HEM.out rfl SPH.out.bel
        · have dc : ((cur.length : Int) == 0) = false := by rw [beq_eq_false_iff_ne]; omega
          have dc' : (cur.length == 0) = false := by rw [beq_eq_false_iff_ne]; omega
          have HCE : Hid (cur.isEmpty = false) := by rw [Hid]; cases cur with | nil => simp at hc0 | cons => rfl
          have hconv := run_own_str wr _ _ _ _ _ SPH.out.b
          clear hc0 hdrop hb32 h32
          go_wp2_with (at_builtin; (refine wpList_own rfl (.tmp 26) (.tmp 29) 37 rfl w.heap.size 9 is _ 1 16 Tryd.underlying37 his hzs hzs1 hzs2 rfl (by omega) ao done.length co (strC done) rfl ((SPH.out.below ((Below.refl _ _).alloc (Nat.le_refl _) _)).o) wr.heap.size [.string (ba cur)] rfl (new_block _ _ _ rfl) rfl (by simp [Value.oneCell']) (by simp only [maxLen]; omega) (by omega) (by simp; omega) ?_); intro g' c' w2 hown1 hmod1 _; have HO := Lib.hid hown1; have HM : Hid (Mod (blk ao) wr w2) := ((Mod.ofBelow ((Below.refl wr.heap.size wr).alloc (Nat.le_refl _) _)).trans hmod1); clear hown1 hmod1)
          have SP2 : Hid (SP w w2 (some ⟨g', 0, none⟩) c' (done ++ [cur]) none 0 []) := ⟨by rw [strC_snoc, List.length_append]; exact HO.out, Own.nil _ _ _ _, SPH.out.bel.trans (HM.out.below (fun j hj => (SPH.out.o.ge j hj).1) hsz)⟩
          go_roundw
          case rel => exact ⟨k + 1, done ++ [cur], [], some ⟨g', 0, none⟩, none, c', 0, by omega, by go_num, by rw [List.length_append]; rfl, rfl, SP2.out, by simp; omega, by simp, fun x hx => by
            rcases List.mem_append.1 hx with h | h
            · exact HDN.out x h
            · rw [List.mem_singleton.1 h]; exact HCE.out, by simp, HR2.out⟩
          case measure => simp [intOf]; omega
      · have hb32 : s[k] ≠ 32 := fun e => h32 (by rw [e]; rfl)
        have dn : ((s[k].toNat : Int) != 32) = true := by simp; omega
        have HR2 : Hid (F = done ++ fieldsC 32 ((cur ++ [s[k]]) ++ s.data.toList.drop (k + 1))) := by
          rw [Hid, HREL.out, hdrop, List.append_assoc]; rfl
        have HB2 : Hid (∀ b ∈ cur ++ [s[k]], b ≠ 32) := fun b hb => by
          rcases List.mem_append.1 hb with h | h
          · exact HCN.out b h
          · rw [List.mem_singleton.1 h]; exact hb32
        have hx : s[k].toNat < 256 := s[k].toNat_lt
        clear hdrop hb32 h32
        go_wp2_with (at_builtin; (refine wpList_own rfl (.tmp 17) (.tmp 21) 67 rfl w.heap.size 5 ib _ 1 1 Tryd.underlying67 hib hzb hzb1 hzb2 rfl (by omega) ab cur.length cb (bC cur) rfl ((SPH.out.below ((Below.refl _ _).alloc (Nat.le_refl _) _)).b) wr.heap.size [.int .u8 (s[k].toNat : Int)] rfl (new_block _ _ _ rfl) rfl (by simp [Value.oneCell']) (by simp only [maxLen]; omega) (by omega) (by simp; omega) ?_); intro g' c' w2 hown1 hmod1 _; have HO := Lib.hid hown1; have HM : Hid (Mod (blk ab) wr w2) := ((Mod.ofBelow ((Below.refl wr.heap.size wr).alloc (Nat.le_refl _) _)).trans hmod1); clear hown1 hmod1)
        have SP2 : Hid (SP w w2 ao co done (some ⟨g', 0, none⟩) c' (cur ++ [s[k]])) := ⟨SPH.out.o.mod HM.out (SPH.out.o.apart SPH.out.b (by decide)), by rw [bC_snoc, List.length_append]; exact HO.out, SPH.out.bel.trans (HM.out.below (fun j hj => (SPH.out.b.ge j hj).1) hsz)⟩
        go_roundw
        case rel => exact ⟨k + 1, done, cur ++ [s[k]], ao, some ⟨g', 0, none⟩, co, c', by omega, by go_num, rfl, by rw [List.length_append]; rfl, SP2.out, by omega, by simp; omega, HDN.out, HB2.out, HR2.out⟩
        case measure => simp [intOf]; omega
    · have d1 : decide ((k : Int) < (s.size : Int)) = false := decide_eq_false (by omega)
      have d1' : decide (k < s.size) = false := decide_eq_false hlt
      have HR2 : Hid (F = done ++ [cur]) := by
        rw [Hid, HREL.out, List.drop_eq_nil_of_le (by rw [ba_len]; omega), List.append_nil, fieldsC_free 32 cur HCN.out]
      by_cases hc0 : cur.length = 0
      · have dc : ((cur.length : Int) == 0) = true := by simp [hc0]
        have HEM : Hid (∃ x ∈ F, x.isEmpty = true) := ⟨cur, by rw [HR2.out]; simp, by rw [List.isEmpty_iff]; exact List.eq_nil_of_length_eq_zero hc0⟩
        clear hc0
        go_wp2
        go_ret2
        exact HPN.out _ _ HEM.out rfl SPH.out.bel
      · have dc : ((cur.length : Int) == 0) = false := by rw [beq_eq_false_iff_ne]; omega
        have dc' : (cur.length == 0) = false := by rw [beq_eq_false_iff_ne]; omega
        have HCE : Hid (cur.isEmpty = false) := by rw [Hid]; cases cur with | nil => simp at hc0 | cons => rfl
        have hconv := run_own_str wr _ _ _ _ _ SPH.out.b
        clear hc0
        go_wp2_with (at_builtin; (refine wpList_own rfl (.tmp 34) (.tmp 37) 37 rfl w.heap.size 9 is _ 1 16 Tryd.underlying37 his hzs hzs1 hzs2 rfl (by omega) ao done.length co (strC done) rfl ((SPH.out.below ((Below.refl _ _).alloc (Nat.le_refl _) _)).o) wr.heap.size [.string (ba cur)] rfl (new_block _ _ _ rfl) rfl (by simp [Value.oneCell']) (by simp only [maxLen]; omega) (by omega) (by simp; omega) ?_); intro g' c' w2 hown1 hmod1 _; have HO := Lib.hid hown1; have HM : Hid (Mod (blk ao) wr w2) := ((Mod.ofBelow ((Below.refl wr.heap.size wr).alloc (Nat.le_refl _) _)).trans hmod1); clear hown1 hmod1)
        go_ret2
        have hle : F.length = done.length + 1 := by rw [HR2.out]; simp
        refine HPY.out _ _ (some ⟨g', 0, none⟩) c' (fun x hx => ?_) (by rw [hle]; rfl) (own_rdW (B := w.heap.size) (by rw [hle, HR2.out, strC_snoc]; exact HO.out)) (SPH.out.bel.trans (HM.out.below (fun j hj => (SPH.out.o.ge j hj).1) hsz))
        rw [HR2.out] at hx
        rcases List.mem_append.1 hx with h | h
        · exact HDN.out x h
        · rw [List.mem_singleton.1 h]; exact HCE.out
theorem ba_append (a b : List UInt8) : (⟨a.toArray⟩ : ByteArray) ++ ⟨b.toArray⟩ = ⟨(a ++ b).toArray⟩ := by
  apply ByteArray.ext
  rw [ByteArray.data_append]; simp
theorem ba_size' (a : List UInt8) : (⟨a.toArray⟩ : ByteArray).size = a.length := ba_size a
end Go.Proofs.YtoalpdjpljapbaaDoor
