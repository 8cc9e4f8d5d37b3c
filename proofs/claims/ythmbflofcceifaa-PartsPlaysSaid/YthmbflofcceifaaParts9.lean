/- Package parts: Of. -/
import Derived.Test.YthmbflofcceifaaParts8
namespace Go.Proofs.Ythmbflofcceifaa
set_option linter.unusedVariables false
set_option linter.unusedSimpArgs false
set_option linter.unnecessarySimpa false
open Go.RowKit Go.Shelf
set_option maxHeartbeats 400000
set_option maxRecDepth 100000
attribute [local go_sem] Oper.semAt_some wide_fn
attribute [local simp] wide_fn

theorem info_int : (Try.prog.info? 3).map (fun i => (i.zero, i.size, i.bytes)) = some (some (.int .i64 0), 1, 8) := by kernel_rfl
/-- append to an own row, inside a fence. -/
theorem wpListIn_own {F : Fence} {nn : Nat} {P : Program} {w : World} {ops : Array Oper} {rest : List Oper} {o : Oper} {a : Act} {Q : Exit → Act → World → Prop} (hgd : o.guard = none) (s x : Operand) (t : TypeId)
    (ho : o.op = .call { callee := .builtin .append, args := #[s, x], argTypes := #[t, t] })
    (B : Nat) (e : TypeId) (i : TypeInfo) (z : Value) (size bytes : Nat) (ht : P.underlying t = some (.slice e)) (hi : P.info? e = some i) (hz : i.zero = some z)
    (hsize : i.size = size) (hby : i.bytes = bytes) (hzs : z.cells.size = size) (hsz : 0 < size)
    (A : Option Addr) (n cap : Nat) (xs : List Value) (hs : a.eval s = .slice A n cap) (hown : Own w B e size A n cap xs)
    (g : Nat) (news : List Value) (hx : a.eval x = .slice (some ⟨g, 0, none⟩) 1 1) (hnews : w.heap[g]? = some (.cells news.toArray e (0, 0))) (hl : news.length = size) (h1 : ∀ u ∈ news, u.oneCell' = true)
    (h63 : n + 1 ≤ maxLen) (hbytes : (n + 1) * bytes ≤ 140737488355328) (hbase : B ≤ w.heap.size)
    (h : ∀ g' cap' w', Own w' B e size (some ⟨g', 0, none⟩) (n + 1) cap' (xs ++ news) → Mod (blk A) w w' → wpListIn F nn P ops Q rest (a.put o.dst (.slice (some ⟨g', 0, none⟩) (n + 1) cap')) w') : wpListIn F nn P ops Q (o :: rest) a w := by
  refine wpListIn_append_own w hgd s x t ho B e i z size bytes ht hi hz hsize hby hzs hsz (.slice A n cap) n xs hs hown ⟨g, 0, none⟩ 1 1 news hx (by omega) (World.news_of_block hnews) h1 (by omega) hbytes hbase ?_
  intro v' w' h2 h3 _
  have h4 := h2
  rcases h4.2 with ⟨_, h0⟩ | ⟨g', c', cur, hv, _⟩
  · omega
  · subst hv
    refine h g' c' w' h2 (Mod.ofGrown h3 (fun k hk => ?_))
    cases A with
    | none => simp [Value.ownBlock] at hk
    | some p => exact mem_blk.2 ⟨p, rfl, by simpa [Value.ownBlock] using hk⟩
/-- Whose places, run by run. -/
def ofRow (f m : Nat) : List Int := (List.range m).map (fun i => ((f + i : Nat) : Int))
theorem ofRow_succ (f m : Nat) : ofRow f (m + 1) = ofRow f m ++ [((f + m : Nat) : Int)] := by simp [ofRow, List.range_succ]
def stepOf (who : Int) (L : List Int) (r : Rn) : List Int := if (r.2.2 : Int) = who then L ++ ofRow r.1 r.2.1 else L
def ofV (who : Int) (R : List Rn) : List Int := R.foldl (stepOf who) []
theorem ofV_snoc (who : Int) (R : List Rn) (r : Rn) : ofV who (R ++ [r]) = stepOf who (ofV who R) r := by simp [ofV]
theorem ofV_bd (who : Int) : ∀ (k : Nat) (R : List Rn), R.length = k → (∀ r ∈ R, r.2.1 ≤ 64) → (ofV who R).length ≤ 64 * k
  | 0, R, h, _ => by
    obtain rfl : R = [] := List.eq_nil_of_length_eq_zero h
    simp [ofV]
  | k + 1, R, h, hr => by
    rcases List.eq_nil_or_concat R with rfl | ⟨M, r, rfl⟩
    · simp at h
    · rw [List.concat_eq_append] at *
      have ih := ofV_bd who k M (by simpa using h) (fun s hs => hr s (by simp [hs]))
      have h0 := hr r (by simp)
      rw [ofV_snoc]
      unfold stepOf
      split
      · simp [ofRow]; omega
      · omega
def inC (l : List Int) : List Value := l.map (Value.int .i64)
/-- The variables of Of: the number asked for, the places so far. -/
structure OB (w : World) (b : Nat) (who : Int) (a : Option Addr) (c : Nat) (L : List Int) : Prop where
  who : Boxed w b 3 (.int .i64 who)
  out : ObjAt w (b + 1) 22 [.slice a L.length c]
  own : Own w (b + 1) 3 1 a L.length c (inC L)
namespace OB
variable {w w' : World} {b c : Nat} {who : Int} {a : Option Addr} {L : List Int}
theorem grow {row : Option Nat} (h : OB w b who a c L) (hg : w.grownBy w' row) (hr : ∀ r, row = some r → ∃ o : Obj, w.heap[r]? = some o ∧ o.isCells = false) : OB w' b who a c L :=
  ⟨(boxed_own b 3 (fun (_ : Unit) => Value.int .i64 who)) () w w' row h.who hg hr, h.out.mod (mod_row hg) (off_row hr h.out.isCells), h.own.mod (mod_row hg) (fun k hk => off_row hr (h.own.isCells k hk))⟩
theorem below (h : OB w b who a c L) (hb : Below w.heap.size w w') : OB w' b who a c L := ⟨(hb.block b h.who.lt).trans h.who, h.out.below hb, h.own.below hb⟩
theorem notB (h : OB w b who a c L) : b ∉ blk a := fun hk => by have := (h.own.ge b hk).1; omega
theorem notO (h : OB w b who a c L) : b + 1 ∉ blk a := h.own.ne h.out (by decide)
theorem cells (h : OB w b who a c L) : ∀ k ∈ (b + 1) :: blk a, ∃ o : Obj, w.heap[k]? = some o ∧ o.isCells = true := fun k hk => by
  rcases List.mem_cons.1 hk with rfl | hk
  · exact h.out.isCells
  · exact h.own.isCells k hk
/-- One place more. -/
theorem put (h : OB w b who a c L) {w1 : World} {a' : Option Addr} {c' : Nat} {x : Int} (hown : Own w1 (b + 1) 3 1 a' (L.length + 1) c' (inC L ++ [.int .i64 x])) (hm : Mod (blk a) w w1) :
    OB (w1.setCell ⟨b + 1, 0, none⟩ (.slice a' (L.length + 1) c')) b who a' c' (L ++ [x]) ∧ Mod ((b + 1) :: blk a) w (w1.setCell ⟨b + 1, 0, none⟩ (.slice a' (L.length + 1) c')) := by
  have ho := h.out.mod hm h.notO
  have h1 : b + 1 ∉ blk a' := hown.ne ho (by decide)
  have hw : Boxed w1 b 3 (.int .i64 who) := (hm.block b h.who.lt h.notB).trans h.who
  refine ⟨⟨hw.other (by omega) _, ?_, ?_⟩, (hm.mono (fun k _ hk => List.mem_cons_of_mem _ hk)).setCell ⟨b + 1, 0, none⟩ _ (.inl (by simp))⟩
  · rw [List.length_append]; exact ho.set 0 _
  · rw [List.length_append]
    have := hown.upd (Upd.setCell w1 ⟨b + 1, 0, none⟩ (.slice a' (L.length + 1) c')) h1
    rw [show inC (L ++ [x]) = inC L ++ [.int .i64 x] by simp [inC]]
    exact this
end OB
def OI (b : Nat) (who : Int) (pre : List (Nat × Rn)) (W : World) : Prop := ∃ a c, OB W b who a c (ofV who (came pre))
theorem OI.ownFrom (b : Nat) (who : Int) (B : Nat) : OwnFrom B (OI b who) := fun s X Y row hs hg hr => by
  obtain ⟨a, c, h1⟩ := hs
  exact ⟨a, c, h1.grow hg (fun r e => (hr r e).2)⟩
def OX (b : Nat) (y : Rn) (Bx : Nat) (W : World) : Prop := b + 1 < Bx ∧ ObjAt W Bx 33 (rnC y)
theorem OX.ownFrom (b : Nat) (y : Rn) (Bx B : Nat) : OwnFrom B (fun (_ : Unit) W => OX b y Bx W) := fun s X Y row hs hg hr => by
  obtain ⟨h0, h1⟩ := hs
  exact ⟨h0, h1.mod (mod_row hg) (off_row (fun r e => (hr r e).2) h1.isCells)⟩
def OfPost (B : Nat) (L : List Int) (w : World) (e : Ending) (w' : World) : Prop :=
  ∃ a c, e = .returned (.slice a L.length c) ∧ Own w' B 3 1 a L.length c (inC L) ∧ Below w.heap.size w w'
set_option maxHeartbeats 8000000 in
theorem of_any (B tt cap n : Nat) (a : Option Addr) (R : List Rn) (who : Int) (w : World) (h : TSt w B tt a cap n R) : Calls Try.prog 15 #[.pointer (some ⟨tt, 0, none⟩), .int .i64 who] w (OfPost w.heap.size (ofV who R) w) := by
  have H := Lib.hid h
  have htt := h.obj.lt
  have hfew := h.ok.few
  have hn64 := h.ok.n64
  have H0 := Lib.hid (h.below ((Below.refl _ w).alloc (Nat.le_refl _) (.cells #[.int .i64 who] 3)))
  clear h
  refine (callsIn_wide (n := 9)).1 ?_
  refine callsIn_of_wp_marks Try.func15 rfl trivial ?_ rfl
  simp only [Try.ntmps15, List.size_toArray, List.length_cons, List.length_nil, Nat.reduceAdd, Nat.reduceSub, Array.replicate_succ, Array.replicate_zero, List.push_toArray, List.append_toArray, List.nil_append, List.cons_append]
  gi_wp2_with (first | (gi_at_call 23; refine (callsIn_wide.2 (none_no _ _ _ _ _ _ _ H0.out)).mono ?_; rintro e w' ⟨rfl, rfl⟩) | (gi_at_call 26; refine (all_in Fence.wide _ trivial rfl _ _).mono ?_; rintro e w' ⟨rfl, rfl⟩))
  obtain ⟨b, hb⟩ : ∃ b, b = w.heap.size := ⟨_, rfl⟩
  obtain ⟨W0, hW0⟩ : ∃ W0, W0 = ((w.alloc (.cells #[.int .i64 who] 3)).alloc (.cells #[.slice none 0 0] 22)).alloc (.cells #[.pointer (some ⟨tt, 0, none⟩)] 23) := ⟨_, rfl⟩
  have hOB0 : OB W0 b who none 0 [] := by
    rw [hW0, hb]
    refine ⟨?_, ?_, Own.nil _ _ _ _⟩
    · exact ((Boxed.new w 3 (.int .i64 who)).alloc _).alloc _
    · change ObjAt _ _ _ [.slice none 0 0]
      have := (ObjAt.new (w.alloc (.cells #[.int .i64 who] 3)) 22 [.slice none 0 0]).allocd (.cells #[.pointer (some ⟨tt, 0, none⟩)] 23)
      simpa only [World.size_alloc] using this
  have hBT : Boxed W0 (b + 1 + 1) 23 (.pointer (some ⟨tt, 0, none⟩)) := by
    rw [hW0, hb]
    have := Boxed.new ((w.alloc (.cells #[.int .i64 who] 3)).alloc (.cells #[.slice none 0 0] 22)) 23 (.pointer (some ⟨tt, 0, none⟩))
    simpa only [World.size_alloc] using this
  have hsz : W0.heap.size = b + 3 := by rw [hW0, hb]; simp
  have hB0 : Below w.heap.size w W0 := by rw [hW0]; exact ((((Below.refl _ w).alloc (Nat.le_refl _) _).alloc (by simp) _).alloc (by simp; omega) _)
  rw [← hW0, ← hb]
  rw [← hb] at htt hB0
  have HTR := Lib.hid (H.out.rdt)
  rw [← hb] at HTR
  have HWB : Hid (w.heap.size = b) := hb.symm
  clear hW0 hb H0
  refine wpIn_rangeFunc_ownH (F := Fence.wide) rfl (by omega) (gf := 31) (lb := #[.pointer (some ⟨b + 1 + 1, 0, none⟩)]) rfl trivial (enters_of Try.func31 (by kernel_rfl) rfl)
    (all_stops Fence.wide _ trivial rfl (by omega) (b + 1 + 1) b tt cap n a R H.out.ok W0 (by omega) (by omega) hBT.cell (HTR.out.below hB0)) belowK_t (belowK_b (by omega)) (Below.refl _ _) (fun _ => rfl)
    (fun pre W => OI b who pre W ∧ Below b w W)
    (fun _ _ _ => False)
    (OwnFrom.and (OI.ownFrom b who _) (ownFrom_below (by rw [HWB.out]; exact Nat.le_refl _) (by omega)))
    (fun _ _ _ _ _ hs _ _ => hs)
    ⟨⟨none, 0, hOB0⟩, hB0⟩
    (fun x a' W => ∃ Bx, OX b (clR x.2) Bx W ∧ a' = { tmps := #[.pointer (some ⟨tt, 0, none⟩), .int .i64 who, undef, .pointer (some ⟨b, 0, none⟩), .slice none 0 0, .pointer (some ⟨b + 1, 0, none⟩), undef, .pointer (some ⟨Bx, 0, none⟩), undef, .pointer (some ⟨tt, 0, none⟩), .bool false, .pointer (some ⟨tt, 0, none⟩), .func (.func 31) #[] #[.pointer (some ⟨b + 1 + 1, 0, none⟩)], .int .i64 (cl x.1 : Nat), runV (clR x.2), undef, undef, undef, undef, undef, undef, undef, undef, undef, undef, undef, undef, undef, undef, undef, undef, undef, undef], defers := [] })
    (fun x a' s X Y row hs hg hr => by obtain ⟨Bx, h1, h3⟩ := hs; exact ⟨Bx, OX.ownFrom b (clR x.2) Bx _ s X Y row h1 hg hr, h3⟩)
    ?assign ?body ?done ?stop
  case assign =>
    rintro l pre x W K ⟨⟨a1, c1, hOB⟩, hB1⟩ hK
    have hbz : b ≤ W.heap.size := Nat.le_of_lt hOB.who.lt
    have hl1 := hOB.out.lt
    obtain ⟨ix, fr, mr, who'⟩ := x
    simp only [encR, runV, clR]
    gi_wp2
    have hal : Below W.heap.size W (W.alloc (.cells (rnC (clR (fr, mr, who'))).toArray 33)) := (Below.refl _ W).alloc (Nat.le_refl _) _
    exact hK _ _ ((KeepsOthers.alloc _ _).from _) ((Below.refl _ W).alloc hbz _) ⟨⟨a1, c1, hOB.below hal⟩, hB1.alloc hbz _⟩ ⟨W.heap.size, ⟨by omega, ObjAt.new W _ (rnC (clR (fr, mr, who')))⟩, rfl⟩
  case body =>
    rintro l pre x a' W hl hr ⟨⟨a1, c1, hOB⟩, hB1⟩ ⟨Bx, ⟨hBx, bX⟩, rfl⟩ hlt
    have hbd := ofV_bd who _ (came pre) rfl (fun r hr => by obtain ⟨y, _, rfl⟩ := List.mem_map.1 hr; exact cl_le _)
    have hs : ofV who (came (pre ++ [x])) = stepOf who (ofV who (came pre)) (clR x.2) := by rw [came_snoc, ofV_snoc]
    rw [show (came pre).length = pre.length from by simp [came]] at hbd
    have hq0 : (clR x.2).1 ≤ 64 := cl_le _
    have hq1 : (clR x.2).2.1 ≤ 64 := cl_le _
    generalize ofV who (came pre) = L at *
    generalize clR x.2 = y at *
    obtain ⟨fr, mr, wh⟩ := y
    have HS := Lib.hid hs
    dsimp only at hq0 hq1
    have hbW : b ≤ W.heap.size := Nat.le_of_lt hOB.who.lt
    have hXW := bX.lt
    have HX := Lib.hid bX
    have HOB := Lib.hid hOB
    have HB1 := Lib.hid hB1
    have k1 := bX.cell 1 _ rfl
    clear hs bX hOB hB1
    obtain ⟨i0, hi0, hz0, hz1, hz2⟩ := info_parts info_int
    by_cases he : (wh : Int) = who
    · have e1 : ((wh : Int) == who) = true := by simpa using he
      have HE := Lib.hid he
      clear he
      gi_wp2
      gi_loopw [8, 17] (fun _ i wr => ∃ (kk : Nat) (a' : Option Addr) (c' : Nat), kk ≤ mr ∧ i = .int .i64 kk ∧ OB wr b who a' c' (L ++ ofRow fr kk) ∧ KeepsOthers W wr ∧ Below b W wr ∧ ObjAt wr Bx 33 (rnC (fr, mr, wh))) (fun _ i _ => mr - (intOf i).toNat)
      case atStart => exact ⟨0, a1, c1, Nat.zero_le _, rfl, by simpa [ofRow] using HOB.out, KeepsOthers.refl _, Below.refl _ _, HX.out⟩
      case round =>
        obtain ⟨kk, a2, c2, hkk, rfl, hob, hko, hbl, hbx⟩ := hrel
        have hln : (L ++ ofRow fr kk).length ≤ 6000 := by simp [ofRow]; omega
        have HS1 : Hid (L ++ ofRow fr (kk + 1) = (L ++ ofRow fr kk) ++ [((fr + kk : Nat) : Int)]) := by rw [Hid, ofRow_succ, List.append_assoc]
        obtain ⟨M, hM⟩ : ∃ M, M = L ++ ofRow fr kk := ⟨_, rfl⟩
        rw [← hM] at hob hln HS1
        have HM : Hid (L ++ ofRow fr kk = M) := hM.symm
        clear hM
        by_cases gk : kk < mr
        · have dk : decide ((kk : Int) < (mr : Int)) = true := by simp; omega
          have b0 := hob.who.cell
          have b1 := hob.out.cell 0 _ rfl
          have x0 := hbx.cell 0 _ rfl
          have x2 := hbx.cell 2 _ rfl
          have HOB2 := Lib.hid hob; have HKO := Lib.hid hko; have HBL := Lib.hid hbl; have HBX := Lib.hid hbx
          have hbz := hob.out.lt
          have hle := hob.own.le
          have hcm := hob.own.capMax
          clear hob hko hbl hbx
          gi_wp2_with (gi_at_builtin; (refine wpListIn_own rfl (.tmp 24) (.tmp 29) 22 rfl (b + 1) 3 i0 _ 1 8 Try.underlying22 hi0 hz0 hz1 hz2 rfl (by omega) a2 M.length c2 (inC M) rfl ((HOB2.out.below ((Below.refl _ _).alloc (Nat.le_refl _) _)).own) wr.heap.size [.int .i64 ((fr : Int) + kk)] rfl (new_block _ _ _ rfl) rfl (by simp [Value.oneCell']) (by simp only [maxLen]; omega) (by omega) (by simp; omega) ?_); intro g' c' w1 hown1 hmod1; have HM1 : Hid (Mod (blk a2) wr w1) := ((Mod.ofBelow ((Below.refl wr.heap.size wr).alloc (Nat.le_refl _) _)).trans hmod1); have HO1 := Lib.hid hown1; have ho1 := HOB2.out.out.mod HM1.out HOB2.out.notO; have q0 := ho1.cell 0 _ rfl; have qf := ho1.free 0; clear hown1 hmod1 ho1)
          obtain ⟨hput, hmod⟩ := HOB2.out.put (a' := some ⟨g', 0, none⟩) (c' := c') (x := ((fr + kk : Nat) : Int)) HO1.out HM1.out
          rw [← HS1.out] at hput
          have hbx2 := HBX.out.mod hmod (fun hm => by
            rcases List.mem_cons.1 hm with h | h
            · omega
            · exact HOB2.out.own.ne HBX.out (by decide) h)
          have hko2 := HKO.out.trans (mod_keeps hmod HOB2.out.cells)
          have hbl2 := HBL.out.trans (hmod.below (B := b) (fun k hk => by
            rcases List.mem_cons.1 hk with rfl | hk
            · omega
            · have := (HOB2.out.own.ge k hk).1; omega) (by omega))
          go_roundw
          case rel => exact ⟨kk + 1, _, c', by omega, by go_num, hput, hko2, hbl2, hbx2⟩
          case measure => simp [intOf]; omega
        · obtain rfl : kk = mr := by omega
          have dk : decide ((kk : Int) < (kk : Int)) = false := by simp
          have FIN : Hid (KeepsFrom W0.heap.size W wr ∧ Below b W wr ∧ (OI b who (pre ++ [x]) wr ∧ Below b w wr)) := ⟨hko.from _, hbl, ⟨a2, c2, by rw [HS.out, stepOf, if_pos HE.out, HM.out]; exact hob⟩, HB1.out.trans hbl⟩
          clear hob hko hbl hbx
          gi_wp2
          exact FIN.out
    · have e1 : ((wh : Int) == who) = false := by simpa using he
      have b0 := HOB.out.who.cell
      have x2 := HX.out.cell 2 _ rfl
      have FIN : Hid (KeepsFrom W0.heap.size W W ∧ Below b W W ∧ (OI b who (pre ++ [x]) W ∧ Below b w W)) := ⟨KeepsFrom.refl _ _, Below.refl _ _, ⟨a1, c1, by rw [HS.out, stepOf, if_neg he]; exact HOB.out⟩, HB1.out⟩
      clear he
      gi_wp2
      gi_loopw [8, 17] (fun _ i wr => ∃ kk : Nat, kk ≤ mr ∧ i = .int .i64 kk ∧ wr = W) (fun _ i _ => mr - (intOf i).toNat)
      case atStart => exact ⟨0, Nat.zero_le _, rfl, rfl⟩
      case round =>
        obtain ⟨kk, hkk, rfl, rfl⟩ := hrel
        by_cases gk : kk < mr
        · have dk : decide ((kk : Int) < (mr : Int)) = true := by simp; omega
          gi_wp2
          go_roundw
          case rel => exact ⟨kk + 1, by omega, by go_num, by first | rfl | trivial⟩
          case measure => simp [intOf]; omega
        · obtain rfl : kk = mr := by omega
          have dk : decide ((kk : Int) < (kk : Int)) = false := by simp
          gi_wp2
          exact FIN.out
  case done =>
    rintro D ys W hD rfl ⟨⟨a1, c1, hOB⟩, hB1⟩ hK
    rw [came_numbered H.out.ok, List.take_length] at hOB
    have k0 := hOB.out.cell 0 _ rfl
    have HK := Lib.hid hK
    have FIN : Hid (OfPost b (ofV who R) w (.returned (.slice a1 (ofV who R).length c1)) (W.putObj D (.deferred none))) := by
      refine ⟨a1, c1, rfl, ?_, ?_⟩
      · exact (hOB.own.mod (mod_row (grownBy_putObj' W D _)) (fun k hk => off_row (fun r e => by cases e; exact ⟨_, hK, rfl⟩) (hOB.own.isCells k hk))).mono (by omega)
      · rw [HWB.out]
        exact hB1.trans (belowK_b (w := w) (by rw [HWB.out]; exact Nat.le_refl _) W D _ _ (by rw [HWB.out]; omega) hK rfl rfl)
    clear hOB hK
    gi_wp2
    refine ⟨by simp, .inl ⟨_, _, rfl, run_takeDeferred HK.out, ?_⟩⟩
    refine ⟨.slice a1 (ofV who R).length c1, by simp [results, Try.f15, go_sem], ?_⟩
    rw [HWB.out]
    exact FIN.out
  case stop =>
    rintro D c pre W _ _ h _
    exact h.elim
end Go.Proofs.Ythmbflofcceifaa
