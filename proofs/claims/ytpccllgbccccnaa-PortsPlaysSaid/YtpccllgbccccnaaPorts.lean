/- The walks of package ports, one port at a time. -/
import Derived.Test.YtpccllgbccccnaaMore
import Derived.Test.YtpccllgbccccnaaRowF
import Derived.Test.YtpccllgbccccnaaLabF
namespace Go.Proofs.Ytpccllgbccccnaa
set_option linter.unusedVariables false
set_option linter.unusedSimpArgs false
set_option linter.unnecessarySimpa false
open Go.RowKit Go.Sort
set_option maxHeartbeats 400000
set_option maxRecDepth 100000

/-- A cell of an own row set. -/
theorem Own.set {w : World} {B size n cap g j : Nat} {e : TypeId} {xs : List Value} (h : Own w B e size (some ⟨g, 0, none⟩) n cap xs) (hj : j < n * size) (v : Value) : Own (w.setCell ⟨g, j, none⟩ v) B e size (some ⟨g, 0, none⟩) n cap (xs.set j v) := by
  rcases h with ⟨hl, ⟨h0, _⟩ | ⟨g', c, cur, hv, hb, hg, hr, hm, hs, ht⟩⟩
  · injection h0 with h0; cases h0
  · injection hv with h1 h2 h3
    injection h1 with h1
    injection h1 with h1
    subst h1 h3
    refine ⟨by rw [List.length_set]; exact hl, .inr ⟨g, cap, _, rfl, hb, setCell_block hg j v, hr, hm, by simpa using hs, ?_⟩⟩
    rw [← ht]
    simp only [Array.toList_setIfInBounds, List.take_set]
theorem Own.apart {w : World} {B B' size size' n n' cap cap' : Nat} {e e' : TypeId} {a a' : Option Addr} {xs xs' : List Value} (h : Own w B e size a n cap xs) (h' : Own w B' e' size' a' n' cap' xs') (hn : e ≠ e') : Sep a a' := fun k hk hk' => by
  obtain ⟨p, rfl, rfl⟩ := mem_blk.1 hk
  obtain ⟨p', rfl, hp⟩ := mem_blk.1 hk'
  rcases h.2 with ⟨h0, _⟩ | ⟨g, c, cur, hv, _, hg, _⟩
  · cases h0
  · rcases h'.2 with ⟨h0, _⟩ | ⟨g', c', cur', hv', _, hg', _⟩
    · cases h0
    · injection hv with h1; injection h1 with h1; subst h1
      injection hv' with h1'; injection h1' with h1'; subst h1'
      dsimp only at hp
      subst hp
      rw [hg] at hg'
      injection hg' with hg'
      injection hg' with _ h4
      exact hn h4

theorem info_str : (Try.prog.info? 9).map (fun i => (i.zero, i.size, i.bytes)) = some (some (.string ⟨#[]⟩), 1, 16) := by kernel_rfl
def strF (l : List ByteArray) : List Value := l.map Value.string
theorem str_one (l : List ByteArray) : ∀ u ∈ strF l, u.oneCell' = true := by
  intro u hu
  obtain ⟨s, _, rfl⟩ := List.mem_map.1 hu
  rfl
theorem strF_drop (l : List ByteArray) (k : Nat) : (strF l).drop (k * 1) = strF (l.drop k) := by simp [strF]
theorem strF_snoc (l : List ByteArray) (s : ByteArray) : strF (l ++ [s]) = strF l ++ [.string s] := by simp [strF]
theorem clones_any (a : Option Addr) (n c : Nat) (xs : List Value) (w : World) (h : Rd w 1 a n xs) (h1 : ∀ u ∈ xs, u.oneCell' = true) (hn : n ≤ 100000) : Calls Try.prog 26 #[.slice a n c] w (ClonePost 9 1 n xs w) := by
  obtain ⟨i0, hi0, hz0, hz1, hz2⟩ := info_parts info_str
  cases a with
  | none =>
    obtain rfl : n = 0 := h.2.1 rfl
    obtain rfl : xs = [] := List.eq_nil_of_length_eq_zero (by simpa using h.1)
    clear h h1
    have hnil : ∀ w : World, Sem.run Try.prog (binOp .eql 32 (.slice none 0 c) (.slice none 0 0)) w = .ok (.bool true) w := fun _ => by kernel_rfl
    go_enter Try.func26, Try.ntmps26
    go_wp2_with fail
    go_ret
    exact ⟨none, 0, rfl, Own.nil _ _ _ _, Below.refl _ _⟩
  | some ad =>
    have H := Lib.hid h
    have HL := Lib.hid h.1
    have H1 := Lib.hid h1
    clear h h1
    have HN : Hid (∀ (W : World), Below w.heap.size w W → ∀ j u, xs[j]? = some u → W.cell? (ad.add j) = some u) := fun W hW j u hu => by
      obtain ⟨b, o, rfl, hb, hc⟩ := H.out.2.2 ad rfl (by intro h0; subst h0; simp at hu)
      have e : (⟨b, o, none⟩ : Addr).add j = ⟨b, o + j, none⟩ := by unfold Addr.add; split <;> simp_all
      rw [e]; exact (hW.cell (p := ⟨b, o + j, none⟩) hb).trans (hc j u hu)
    have HE := Lib.hid (own_empty w 9 1)
    have hnil : ∀ w : World, Sem.run Try.prog (binOp .eql 32 (.slice (some ad) n c) (.slice none 0 0)) w = .ok (.bool false) w := fun _ => by kernel_rfl
    go_enter Try.func26, Try.ntmps26
    go_wp2_with (at_builtin; (refine wpList_append_own_at _ rfl (.tmp 5) (.tmp 6) _ rfl w.heap.size 9 i0 _ 1 16 Try.underlying32 hi0 hz0 hz1 hz2 rfl (by omega) (.slice (some ⟨w.heap.size, 0, none⟩) 0 0) 0 [] rfl HE.out ad n c xs rfl HL.out (HN.out _ ((Below.refl _ _).alloc (Nat.le_refl _) _)) H1.out (by simp only [maxLen]; omega) (by omega) (by simp) ?_); intro v1 w1 hown1 hg1 hz hat1)
    go_ret
    exact clone_post hown1 hg1

def mostV (gst : Int) : Nat := if gst = -1 then 64 else 4
theorem most_any (g o : Nat) (gst : Int) (w : World) (c1 : w.cell? ⟨g, o + 1, none⟩ = some (.int .i64 gst)) : Calls Try.prog 33 #[.pointer (some ⟨g, o, none⟩)] w fun e w' => e = .returned (.int .i64 (mostV gst)) ∧ w = w' := by
  by_cases h : gst = -1
  · subst h
    go_enter Try.func33, Try.ntmps33
    go_wp2
    go_ret
    exact ⟨rfl, rfl⟩
  · have t : (gst == -1) = false := by simpa using h
    have hm : Hid (mostV gst = 4) := by rw [Hid, mostV, if_neg h]
    clear h
    go_enter Try.func33, Try.ntmps33
    go_wp2
    go_ret
    exact ⟨by rw [hm.out]; rfl, rfl⟩
theorem full_any (g o n cap : Nat) (a : Option Addr) (gst : Int) (w : World) (c1 : w.cell? ⟨g, o + 1, none⟩ = some (.int .i64 gst)) (c2 : w.cell? ⟨g, o + 2, none⟩ = some (.slice a n cap)) (hn : n ≤ 1000) : Calls Try.prog 27 #[.pointer (some ⟨g, o, none⟩)] w fun e w' => e = .returned (.bool (decide (mostV gst ≤ n))) ∧ Below w.heap.size w w' := by
  have HM := Lib.hid (fun k => quiet_same (most_any g o gst (w.drewN k) c1))
  have hm : mostV gst ≤ 64 := by unfold mostV; split <;> omega
  generalize mostV gst = m at HM hm ⊢
  go_enter Try.func27, Try.ntmps27
  go_wp2_with fail
  go_quiet ((go_at_call 33; exact HM.out _))
  clear c1 c2
  go_wp2
  go_ret
  exact ⟨rfl, below_drewN (Below.refl _ _) _⟩
theorem put_no (g o B n cap N cp : Nat) (a : Option Addr) (gst : Int) (xs : List Value) (s : ByteArray) (w : World) (OG : Own w B 60 3 (some ⟨g, 0, none⟩) N cp xs) (h1 : xs[o + 1]? = some (.int .i64 gst)) (h2 : xs[o + 2]? = some (.slice a n cap)) (hn : n ≤ 1000) (hf : mostV gst ≤ n) :
    Calls Try.prog 24 #[.pointer (some ⟨g, o, none⟩), .string s] w fun e w' => e = .returned (.tuple #[]) ∧ Below w.heap.size w w' := by
  have HF := Lib.hid (full_any g o n cap a gst w (OG.cell _ _ h1) (OG.cell _ _ h2) hn)
  have t : decide (mostV gst ≤ n) = true := by simpa using hf
  rw [t] at HF
  clear OG h1 h2 hf
  go_enter Try.func24, Try.ntmps24
  go_wp2_with (go_at_call 27; refine HF.out.mono ?_; rintro e w1 ⟨rfl, hb1⟩)
  go_end0
  exact ⟨rfl, hb1⟩
/-- What a change of a port's row leaves. -/
def PutPost (r : Value) (g o B N cp : Nat) (a : Option Addr) (xs : List Value) (L : List ByteArray) (w : World) (e : Ending) (w' : World) : Prop :=
  ∃ a' cap', e = .returned r ∧ Own w' B 60 3 (some ⟨g, 0, none⟩) N cp (xs.set (o + 2) (.slice a' L.length cap')) ∧ Own w' B 9 1 a' L.length cap' (strF L) ∧ Mod (g :: blk a) w w' ∧ ∀ k ∈ blk a', k ∈ blk a ∨ w.heap.size ≤ k
theorem put_yes (g o B cap N cp : Nat) (a : Option Addr) (L : List ByteArray) (gst : Int) (xs : List Value) (s : ByteArray) (w : World) (OG : Own w B 60 3 (some ⟨g, 0, none⟩) N cp xs) (h1 : xs[o + 1]? = some (.int .i64 gst)) (h2 : xs[o + 2]? = some (.slice a L.length cap)) (ho : Own w B 9 1 a L.length cap (strF L)) (hn : L.length ≤ 1000) (hf : ¬ mostV gst ≤ L.length) (hB : B ≤ w.heap.size) :
    Calls Try.prog 24 #[.pointer (some ⟨g, o, none⟩), .string s] w (PutPost (.tuple #[]) g o B N cp a xs (L ++ [s]) w) := by
  obtain ⟨i0, hi0, hz0, hz1, hz2⟩ := info_parts info_str
  have HF := Lib.hid (full_any g o L.length cap a gst w (OG.cell _ _ h1) (OG.cell _ _ h2) hn)
  have t : decide (mostV gst ≤ L.length) = false := by simpa using hf
  rw [t] at HF
  have HG := Lib.hid OG; have HO := Lib.hid ho; have H2 := Lib.hid h2
  have hlt : o + 2 < N * 3 := by rw [← OG.len]; exact (List.getElem?_eq_some_iff.1 h2).1
  clear hf OG ho h1 h2
  go_enter Try.func24, Try.ntmps24
  go_wp2_with (first | (go_at_call 27; refine HF.out.mono ?_; rintro e w1 ⟨rfl, hb1⟩; have hg1 := HG.out.below hb1; have d1 := hg1.cell _ _ H2.out; have ho1 := HO.out.below hb1; have hs1 := hb1.size) | (at_builtin; (refine wpList_own rfl (.tmp 11) (.tmp 13) 32 rfl B 9 i0 _ 1 16 Try.underlying32 hi0 hz0 hz1 hz2 rfl (by omega) a L.length cap (strF L) rfl (ho1.below ((Below.refl _ _).alloc (Nat.le_refl _) _)) w1.heap.size [.string s] rfl (new_block _ _ _ rfl) rfl (by simp [Value.oneCell']) (by simp only [maxLen]; omega) (by omega) (by simp; omega) ?_); intro g2 c2 w2 hown2 hmod2 hat2; have hga : ∀ k ∈ blk (some (⟨g, 0, none⟩ : Addr)), k ∉ blk a := fun k hk hk2 => hg1.apart ho1 (by decide) k hk hk2; have hg2 := (hg1.below ((Below.refl _ _).alloc (Nat.le_refl _) _)).mod hmod2 hga; have d2 := hg2.cell _ _ H2.out; have f2 := hg2.free (o + 2)))
  go_end0
  have hap := hg2.apart hown2 (by decide)
  refine ⟨some ⟨g2, 0, none⟩, c2, rfl, by rw [List.length_append]; exact hg2.set hlt _, ?_, ?_, fun k hk => ?_⟩
  · rw [List.length_append, strF_snoc]
    exact hown2.upd (Upd.setCell w2 ⟨g, o + 2, none⟩ _) (hap g (by simp [blk]))
  · exact ((((Mod.ofBelow hb1).alloc _).trans (hmod2.mono (fun k _ hk => List.mem_cons_of_mem _ hk)))).setCell ⟨g, o + 2, none⟩ _ (.inl (by simp))
  · simp only [blk, Option.map_some, Option.toList_some, List.mem_singleton] at hk
    subst hk
    rcases hat2 with h | h
    · exact .inl h
    · right; simp at h; omega

/-- A port: its label, whose it is, its row. -/
structure Pt where
  lab : Int
  gst : Int
  a : Option Addr
  cap : Nat
  L : List ByteArray
def ptC (p : Pt) : List Value := [.int .i64 p.lab, .int .i64 p.gst, .slice p.a p.L.length p.cap]
def ptF (ps : List Pt) : List Value := (ps.map ptC).flatten
theorem ptF_len (ps : List Pt) : (ptF ps).length = ps.length * 3 := by
  rw [ptF, flatten_len (N := 3) _ (by simp [ptC])]; simp
theorem ptF_get (ps : List Pt) (k j : Nat) (hk : k < ps.length) (hj : j < 3) : (ptF ps)[k * 3 + j]? = (ptC ps[k])[j]? := by
  rw [ptF, flatten_get (N := 3) _ k j (by simp [ptC]) (by simpa using hk) hj]; simp
theorem ptF_set : ∀ (ps : List Pt) (k : Nat) (p : Pt) (hk : k < ps.length), p.lab = ps[k].lab → p.gst = ps[k].gst → ptF (ps.set k p) = (ptF ps).set (k * 3 + 2) (.slice p.a p.L.length p.cap)
  | q :: ps, 0, p, _, h1, h2 => by
    simp only [List.getElem_cons_zero] at h1 h2
    simp [ptF, ptC, h1, h2]
  | q :: ps, k + 1, p, hk, h1, h2 => by
    have ih := ptF_set ps k p (by simpa using hk) (by simpa using h1) (by simpa using h2)
    have e : ∀ (q : Pt) (l : List Pt), ptF (q :: l) = ptC q ++ ptF l := fun _ _ => by simp [ptF]
    rw [List.set_cons_succ, e, e, ih, show (k + 1) * 3 + 2 = (ptC q).length + (k * 3 + 2) from by simp [ptC]; omega, List.set_append_right _ _ (by omega)]
    simp
/-- The blocks of the ports' rows. -/
def pblk (gp : Option Addr) (ps : List Pt) : List Nat := blk gp ++ ps.flatMap (fun p => blk p.a)
theorem pblk_row {gp : Option Addr} {ps : List Pt} {i : Nat} (h : i < ps.length) {k : Nat} (hk : k ∈ blk ps[i].a) : k ∈ pblk gp ps := by
  rw [pblk, List.mem_append]
  exact .inr (List.mem_flatMap.2 ⟨_, List.getElem_mem h, hk⟩)
structure PSt (w : World) (B pp : Nat) (gp : Option Addr) (cp : Nat) (ps : List Pt) : Prop where
  obj : ObjAt w pp 25 [.slice gp ps.length cp, .bool true]
  own : Own w B 60 3 gp ps.length cp (ptF ps)
  rows : ∀ (i : Nat) (h : i < ps.length), Own w B 9 1 ps[i].a ps[i].L.length ps[i].cap (strF ps[i].L)
  sep : ∀ (i j : Nat) (hi : i < ps.length) (hj : j < ps.length), i ≠ j → Sep ps[i].a ps[j].a
  len : ps.length ≤ 8
  few : ∀ p ∈ ps, p.L.length ≤ 64
namespace PSt
variable {w w' : World} {B pp cp : Nat} {gp : Option Addr} {ps : List Pt}
theorem below (h : PSt w B pp gp cp ps) (hb : Below w.heap.size w w') : PSt w' B pp gp cp ps := ⟨h.obj.below hb, h.own.below hb, fun i hi => (h.rows i hi).below hb, h.sep, h.len, h.few⟩
theorem at_ (h : PSt w B pp gp cp ps) {i : Nat} (hi : i < ps.length) : ∃ g, gp = some ⟨g, 0, none⟩ := by
  obtain ⟨g, hg, _⟩ := h.own.at_ (by omega)
  exact ⟨g, hg⟩
theorem get {g : Nat} (h : PSt w B pp (some ⟨g, 0, none⟩) cp ps) {i : Nat} (hi : i < ps.length) : w.cell? ⟨g, i * 3, none⟩ = some (.int .i64 ps[i].lab) ∧ w.cell? ⟨g, i * 3 + 1, none⟩ = some (.int .i64 ps[i].gst) ∧ w.cell? ⟨g, i * 3 + 2, none⟩ = some (.slice ps[i].a ps[i].L.length ps[i].cap) :=
  ⟨h.own.cell _ _ (ptF_get ps i 0 hi (by omega)), h.own.cell _ _ (ptF_get ps i 1 hi (by omega)), h.own.cell _ _ (ptF_get ps i 2 hi (by omega))⟩
/-- Behind a change of one port's row. -/
theorem put {g : Nat} (h : PSt w B pp (some ⟨g, 0, none⟩) cp ps) {i : Nat} (hi : i < ps.length) {r : Value} {e : Ending} {L : List ByteArray} (hp : PutPost r g (i * 3) B ps.length cp ps[i].a (ptF ps) L w e w') (hL : L.length ≤ 64) (hB : B ≤ w.heap.size) :
    ∃ p : Pt, e = .returned r ∧ p.lab = ps[i].lab ∧ p.gst = ps[i].gst ∧ p.L = L ∧ PSt w' B pp (some ⟨g, 0, none⟩) cp (ps.set i p) ∧ (∀ B0, B0 ≤ B → Below B0 w w') ∧ Mod (pblk (some ⟨g, 0, none⟩) ps) w w' ∧ (∀ k ∈ pblk (some ⟨g, 0, none⟩) (ps.set i p), k ∈ pblk (some ⟨g, 0, none⟩) ps ∨ w.heap.size ≤ k) := by
  obtain ⟨a', cap', rfl, h1, h2, hm, hat⟩ := hp
  have hobj : pp ∉ g :: blk ps[i].a := by
    simp only [List.mem_cons, not_or]
    exact ⟨fun e => h.own.ne h.obj (by decide) (by simp [blk, e]), (h.rows i hi).ne h.obj (by decide)⟩
  refine ⟨⟨ps[i].lab, ps[i].gst, a', cap', L⟩, rfl, rfl, rfl, rfl, ⟨?_, ?_, ?_, ?_, by rw [List.length_set]; exact h.len, ?_⟩, fun B0 hB0 => ?_, ?_, fun k hk => ?_⟩
  · rw [List.length_set]; exact h.obj.mod hm hobj
  · rw [List.length_set, ptF_set ps i ⟨ps[i].lab, ps[i].gst, a', cap', L⟩ hi rfl rfl]; exact h1
  · intro j hj
    rw [List.length_set] at hj
    rw [List.getElem_set]
    split
    · exact h2
    · rename_i hne
      refine (h.rows j hj).mod hm (fun k hk => ?_)
      simp only [List.mem_cons, not_or]
      exact ⟨fun e => h.own.apart (h.rows j hj) (by decide) g (by simp [blk]) (e ▸ hk), fun hk2 => h.sep i j hi hj hne k hk2 hk⟩
  · intro j k hj hk hjk x hx hx2
    rw [List.length_set] at hj hk
    rw [List.getElem_set] at hx hx2
    split at hx
    · rename_i e1
      subst e1
      rw [if_neg hjk] at hx2
      rcases hat x hx with h0 | h0
      · exact h.sep i k hi hk hjk x h0 hx2
      · have := ((h.rows k hk).ge x hx2).2; omega
    · split at hx2
      · rename_i e1
        subst e1
        rcases hat x hx2 with h0 | h0
        · exact h.sep j i hj hi hjk x hx h0
        · have := ((h.rows j hj).ge x hx).2; omega
      · exact h.sep j k hj hk hjk x hx hx2
  · intro q hq
    rcases List.mem_or_eq_of_mem_set hq with hq | rfl
    · exact h.few q hq
    · exact hL
  · refine hm.below (fun k hk => ?_) (by omega)
    simp only [List.mem_cons] at hk
    rcases hk with rfl | hk
    · have := (h.own.ge k (by simp [blk])).1; omega
    · have := ((h.rows i hi).ge k hk).1; omega
  · refine hm.mono (fun k _ hk => ?_)
    simp only [List.mem_cons] at hk
    rcases hk with rfl | hk
    · simp [pblk, blk]
    · exact pblk_row hi hk
  · simp only [pblk, List.mem_append, List.mem_flatMap] at hk
    rcases hk with hk | ⟨q, hq, hk⟩
    · exact .inl (by simp only [pblk, List.mem_append]; exact .inl hk)
    · rcases List.mem_or_eq_of_mem_set hq with hq | rfl
      · exact .inl (by simp only [pblk, List.mem_append, List.mem_flatMap]; exact .inr ⟨q, hq, hk⟩)
      · exact (hat k hk).imp (fun h0 => pblk_row hi h0) id
end PSt
theorem at_in (B pp g cp i : Nat) (ps : List Pt) (w : World) (h : PSt w B pp (some ⟨g, 0, none⟩) cp ps) (hi : i < ps.length) : Calls Try.prog 23 #[.pointer (some ⟨pp, 0, none⟩), .int .i64 i] w fun e w' => e = .returned (.pointer (some ⟨g, i * 3, none⟩)) ∧ w = w' := by
  have c0 := h.obj.cell 0 _ rfl
  have h8 := h.len
  have d1 : decide ((i : Int) < 0) = false := by simp
  have d2 : decide ((ps.length : Int) ≤ (i : Int)) = false := by simp; omega
  have d3 : (0 : Int) ≤ i := by omega
  have d4 : (i : Int) < (ps.length : Int) := by omega
  clear h
  go_enter Try.func23, Try.ntmps23
  go_wp2
  go_ret
  exact ⟨rfl, rfl⟩
theorem at_out (B pp cp : Nat) (gp : Option Addr) (i : Int) (ps : List Pt) (w : World) (h : PSt w B pp gp cp ps) (hi : ¬ (0 ≤ i ∧ i < ps.length)) : Calls Try.prog 23 #[.pointer (some ⟨pp, 0, none⟩), .int .i64 i] w fun e w' => e = .returned (.pointer none) ∧ w = w' := by
  have c0 := h.obj.cell 0 _ rfl
  have h8 := h.len
  clear h
  by_cases h0 : i < 0
  · have d1 : decide (i < 0) = true := by simpa using h0
    clear hi
    go_enter Try.func23, Try.ntmps23
    go_wp2
    go_ret
    exact ⟨rfl, rfl⟩
  · have d1 : decide (i < 0) = false := by simpa using h0
    have d2 : decide ((ps.length : Int) ≤ i) = true := by simp; omega
    clear hi
    go_enter Try.func23, Try.ntmps23
    go_wp2
    go_ret
    exact ⟨rfl, rfl⟩
end Go.Proofs.Ytpccllgbccccnaa
