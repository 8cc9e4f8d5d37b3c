/- The law GateBox. -/
import Derived.Test.YtnhapfoebiniiaaBoxRef
import Derived.Test.YtnhapfoebiniiaaGateActs
namespace Go.Proofs.Ytnhapfoebiniiaa
open Go.RowKit Go.Sort Go.ChangeShapes Go.WideShapes Go.ChangeAt
set_option maxHeartbeats 400000
set_option maxRecDepth 100000

theorem flat_str : ∀ l : List ByteArray, (l.map (fun s => [Value.string s])).flatten = strF l
  | [] => rfl
  | x :: l => by rw [List.map_cons, List.flatten_cons, flat_str l]; rfl
theorem open_strs {H : Type} {enc : TypeId × Value → H} {W : World} {base : Nat} {v : Value} {d : DataW H} {p : List MemPlace} (hv : Value.okWide Try.prog W .any base 46 v) (h : DataW.Trod enc Try.prog W 0 (fun _ => true) true 46 v d p) :
    ∃ (a : Option Addr) (cap : Nat) (l : List ByteArray), v = .slice a l.length cap ∧ l.length ≤ cap ∧ cap ≤ maxLen ∧ Rd W 1 a l.length (strF l) ∧ ∀ x ∈ l, x.size ≤ maxLen := by
  obtain ⟨a, len, cap, xs, rfl, hle, hcm, hrd, hlf, _⟩ := open_rowF (n := 0) (N := 1) Try.underlying46 (by kernel_rfl) (by kernel_rfl) (by omega) hv h
  obtain ⟨l, rfl, rfl, hq⟩ := rows_of (fun s => [Value.string s]) (fun x => x.size ≤ maxLen) 1 (fun _ => rfl) len xs hrd.1 (fun i hi => by
    obtain ⟨u0, y0, m0, g0, t0⟩ := hlf i hi 0 9 (by omega) (by kernel_rfl)
    obtain ⟨s0, e0, _, hs⟩ := DataW.trod_string Try.underlying9 t0
    simp only [List.cons.injEq, and_true] at e0
    subst e0
    refine ⟨s0, hs, fun j hj => ?_⟩
    obtain rfl : j = 0 := by omega
    exact g0)
  exact ⟨a, cap, l, rfl, hle, hcm, by rw [← flat_str]; exact hrd, hq⟩
theorem str_at {w : World} {a : Option Addr} {l : List ByteArray} (h : Rd w 1 a l.length (strF l)) (hl : 0 < l.length) : ∃ b0 o0, a = some ⟨b0, o0, none⟩ ∧ ∀ W, Below w.heap.size w W → ∀ k (hk : k < l.length), W.cell? ⟨b0, o0 + k, none⟩ = some (.string l[k]) := by
  have hne : strF l ≠ [] := by intro h0; simp [strF] at h0; subst h0; simp at hl
  have ha : a ≠ none := fun h0 => by have := h.2.1 h0; omega
  obtain ⟨p, rfl⟩ := Option.ne_none_iff_exists'.1 ha
  obtain ⟨b0, o0, rfl, _, gc⟩ := h.2.2 p rfl hne
  refine ⟨b0, o0, rfl, fun W hW k hk => ?_⟩
  obtain ⟨b1, o1, e, _, gc'⟩ := (h.below hW).2.2 _ rfl hne
  injection e with e1 e2
  subst e1 e2
  exact gc' k _ (by simp [strF, hk])
theorem pushB_suffix {L l : List ByteArray} {k : Nat} (h : L <:+ l.take k) (hk : k < l.length) : pushB L l[k] <:+ l.take (k + 1) := by
  rw [List.take_succ_eq_append_getElem hk]
  have h1 : L ++ [l[k]] <:+ l.take k ++ [l[k]] := by
    obtain ⟨t, ht⟩ := h
    exact ⟨t, by rw [← List.append_assoc, ht]⟩
  unfold pushB
  split
  · exact (List.drop_suffix _ _).trans h1
  · exact h1
theorem pushB_len {L : List ByteArray} {s : ByteArray} (h : L.length ≤ 4) : (pushB L s).length ≤ 4 := by
  unfold pushB
  split
  · simp; omega
  · simp; omega
theorem suffix_get {L l : List ByteArray} {n : Nat} (h : L <:+ l.take n) (hn : n ≤ l.length) : L.length ≤ n ∧ ∀ i (h : i < L.length), ∃ h2 : n - L.length + i < l.length, L[i] = l[n - L.length + i] := by
  have hl := h.length_le
  rw [List.length_take, Nat.min_eq_left hn] at hl
  refine ⟨hl, fun i hi => ⟨by omega, ?_⟩⟩
  obtain ⟨t, ht⟩ := h
  have h3 := congrArg List.length ht
  rw [List.length_append, List.length_take, Nat.min_eq_left hn] at h3
  have h4 : (l.take n)[t.length + i]? = some L[i] := by
    rw [← ht, List.getElem?_append_right (by omega)]
    simp [hi]
  rw [List.getElem?_take_of_lt (by omega), show t.length + i = n - L.length + i from by omega, List.getElem?_eq_getElem (by omega)] at h4
  exact (Option.some.inj h4).symm
/-- All that a round holds. -/
structure BInv (w W : World) (b r : Nat) (a : Option Addr) (cap : Nat) (ar : Option Addr) (cr : Nat) (L : List ByteArray) : Prop where
  x : BSt W w.heap.size b a cap L
  y : RBSt W r ar cr L
  sep : Sep a ar
  ne : b ≠ r
  nb : b ∉ blk ar
  hb : Below w.heap.size w W
  lb : w.heap.size ≤ b
  lr : w.heap.size ≤ r
  l4 : L.length ≤ 4
namespace BInv
variable {w W W1 W2 : World} {b r cap cr : Nat} {a ar : Option Addr} {L L' : List ByteArray} {v v' : Value} {e e' : Ending}
theorem below (h : BInv w W b r a cap ar cr L) (hb : Below W.heap.size W W1) : BInv w W1 b r a cap ar cr L := ⟨h.x.below hb, h.y.below hb, h.sep, h.ne, h.nb, bmore h.hb hb, h.lb, h.lr, h.l4⟩
/-- The reference behind a call of the program's. -/
theorem rest (h : BInv w W b r a cap ar cr L) (hm : Mod (b :: blk a) W W1) : RBSt W1 r ar cr L :=
  h.y.mod hm (by simp only [List.mem_cons, not_or]; exact ⟨Ne.symm h.ne, h.x.own.ne h.y.obj (by decide)⟩) (fun k hk => by
    simp only [List.mem_cons, not_or]
    refine ⟨fun e => ?_, fun hm => h.sep k hm hk⟩
    subst e
    exact h.nb hk)
/-- Behind a call of each: the program's, then the reference's. -/
theorem both (h : BInv w W b r a cap ar cr L) (h1 : BPost v w.heap.size b a L' W e W1) (h2 : RBPost v' r L' W1 e' W2) (hl : L'.length ≤ 4) : ∃ a2 cap2 ar2 cr2, e = .returned v ∧ e' = .returned v' ∧ BInv w W2 b r a2 cap2 ar2 cr2 L' := by
  obtain ⟨a2, cap2, rfl, hx, hm, hat⟩ := h1
  obtain ⟨ar2, cr2, rfl, hy, hu, har⟩ := h2
  have hr1 := h.rest hm
  have hsz := hm.size
  have hb1 : Below w.heap.size w W1 := h.hb.trans (hm.below (fun k hk => by
    simp only [List.mem_cons] at hk
    rcases hk with rfl | hk
    · exact h.lb
    · exact (h.x.own.ge k hk).1) h.hb.size)
  refine ⟨a2, cap2, ar2, cr2, rfl, rfl, ⟨⟨hx.obj.upd hu h.ne, hx.own.upd hu (hx.own.ne hr1.obj (by decide))⟩, hy, fun k hk hk2 => ?_, h.ne, fun hk => ?_, bupd hb1 hu h.lr, h.lb, h.lr, hl⟩⟩
  · have h3 := (hx.own.ge k hk).2
    have h4 := har k hk2
    omega
  · have h3 := hx.obj.lt
    have h4 := har b hk
    omega
end BInv
set_option maxHeartbeats 4000000 in
theorem box_walk (a0 : Option Addr) (c0 : Nat) (l : List ByteArray) (t : Nat) (ht : t < 256) (w : World) (hr : Rd w 1 a0 l.length (strF l)) (hle : l.length ≤ c0) (hc : c0 ≤ maxLen) :
    Calls Try.prog 6 #[.slice a0 l.length c0, .int .u8 t] w fun e w' => e = .returned (.bool true) ∧ Below w.heap.size w w' := by
  unfold maxLen at hc
  have HR := Lib.hid hr
  clear hr
  go_enter Try.func6, Try.ntmps6
  go_wp2_with fail
  refine (newbox_any w.heap.size w).mono ?_; rintro e w1 ⟨rfl, hx1, hb1⟩
  have hsz := hb1.size
  have HI0 : Hid (BInv w (w1.alloc (.cells #[.slice none 0 0] 51)) w.heap.size w1.heap.size none 0 none 0 []) :=
    ⟨hx1.below ((Below.refl _ _).alloc (Nat.le_refl _) _), ⟨new_block w1 _ _ rfl, ⟨rfl, fun _ => rfl, fun p hp => by cases hp⟩, Nat.le_refl _, by decide, by simp [blk], by simp [blk]⟩, Sep.none_ _, by have := hx1.obj.lt; omega, by simp [blk], hb1.alloc hsz _, Nat.le_refl _, hsz, by simp⟩
  obtain ⟨r, hrr⟩ : ∃ r, r = w1.heap.size := ⟨_, rfl⟩
  obtain ⟨b, hbb⟩ : ∃ b, b = w.heap.size := ⟨_, rfl⟩
  have HRR := Lib.hid hrr
  have HI0 : Hid (BInv w (w1.alloc (.cells #[.slice none 0 0] 51)) b r none 0 none 0 []) := by rw [Hid, hrr, hbb]; exact HI0.out
  rw [← hbb]
  clear hx1 hb1 hsz hrr hbb
  go_wp2_with fail
  rw [← HRR.out]
  go_loopw [7] (fun i wr => ∃ (k : Nat) (a : Option Addr) (cap : Nat) (ar : Option Addr) (cr : Nat) (L : List ByteArray), k ≤ l.length ∧ k ≤ 60 ∧ i = .int .i64 k ∧ L <:+ l.take k ∧ BInv w wr b r a cap ar cr L) (fun i _ => 60 - (intOf i).toNat)
  case atStart => exact ⟨0, none, 0, none, 0, [], by omega, by omega, rfl, List.nil_suffix, HI0.out⟩
  case round =>
    clear HI0 HRR
    obtain ⟨k, a, cap, ar, cr, L, hk1, hk2, rfl, hsuf, hi⟩ := hrel
    have HI := Lib.hid hi
    have HS := Lib.hid hsuf
    clear hi hsuf
    by_cases g1 : k < l.length
    · by_cases g2 : k < 60
      · obtain ⟨b0, o0, rfl, gs⟩ := str_at HR.out (by omega)
        have GS := Lib.hid gs
        clear gs
        have hsuf2 := Lib.hid (pushB_suffix HS.out g1)
        have k0 := GS.out wr HI.out.hb k g1
        obtain ⟨s, hs⟩ : ∃ s, s = l[k] := ⟨_, rfl⟩
        rw [← hs] at k0 hsuf2
        have HSS := Lib.hid hs
        clear hs
        have hq0 : (0 : Int) ≤ k := by omega
        have hq1 : (k : Int) < (l.length : Int) := by omega
        go_wp2_with fail
        refine (put_any _ _ _ _ _ _ _ HI.out.x HI.out.l4 HI.out.hb.size).mono ?_; intro e w3 hp3
        have hr3 := HI.out.rest (by obtain ⟨_, _, _, _, hm, _⟩ := hp3; exact hm)
        have hb3 : Below w.heap.size w w3 := by
          obtain ⟨_, _, _, _, hm, _⟩ := hp3
          exact HI.out.hb.trans (hm.below (fun k hk => by
            simp only [List.mem_cons] at hk
            rcases hk with rfl | hk
            · exact HI.out.lb
            · exact (HI.out.x.own.ge k hk).1) HI.out.hb.size)
        have k3 := GS.out w3 hb3 k g1
        rw [← HSS.out] at k3
        have HP3 := Lib.hid hp3
        obtain rfl : e = .returned (.int .i64 0) := by obtain ⟨_, _, he, _⟩ := hp3; exact he
        clear hp3 k0
        go_wp2_with fail
        refine (rput_any _ _ _ _ _ _ hr3 HI.out.l4).mono ?_; intro e w4 hp4
        obtain ⟨a4, cap4, ar4, cr4, -, rfl, hi4⟩ := HI.out.both HP3.out hp4 (pushB_len HI.out.l4)
        clear hp4 HP3 hr3 hb3 k3 HI
        have HI4 := Lib.hid hi4
        obtain ⟨L4, hL4⟩ : ∃ L4, L4 = pushB L s := ⟨_, rfl⟩
        rw [← hL4] at HI4 hsuf2
        clear hi4 hL4 HS
        have c4 := HI4.out.y.obj.cell 0 _ rfl
        have HLen := Lib.hid (fun n => quiet_same (blen_any _ _ _ _ _ _ (HI4.out.x.below (below_drewN (Below.refl _ _) n)) (by have := HI4.out.l4; omega)))
        have n1 : ((L4.length : Int) != (L4.length : Int)) = false := by simp
        have n2 : decide ((4 : Int) < (L4.length : Int)) = false := by have := HI4.out.l4; simp; omega
        have hl4 := HI4.out.l4
        go_wp2_with fail
        go_quiet ((go_at_call 23; exact HLen.out _))
        have HI5 := Lib.hid (HI4.out.below (below_drewN (Below.refl _ _) nq))
        clear HLen n1 n2 c4 HI4
        generalize w4.drewN nq = w5 at HI5 ⊢
        cases hq : ((k : Int) % (1 + (t : Int) % 6) == 0)
        · go_wp2_with fail
          go_roundw
          case rel => exact ⟨k + 1, a4, cap4, ar4, cr4, L4, by omega, by omega, by go_num, hsuf2.out, HI5.out⟩
          case measure => simp [intOf]; omega
        · cases L4 with
          | nil =>
            go_wp2_with fail
            refine (take_no _ _ _ _ _ HI5.out.x).mono ?_; rintro e w' ⟨rfl, rfl⟩
            go_wp2_with fail
            refine (rtake_no _ _ _ _ HI5.out.y).mono ?_; rintro e w' ⟨rfl, rfl⟩
            go_wp2_with fail
            go_roundw
            case rel => exact ⟨k + 1, a4, cap4, ar4, cr4, [], by omega, by omega, by go_num, List.nil_suffix, HI5.out⟩
            case measure => simp [intOf]; omega
          | cons x5 L5 =>
            have hl5 : L5.length ≤ 3 := by have := HI5.out.l4; simp at this; omega
            go_wp2_with fail
            refine (take_yes _ _ _ _ _ _ _ HI5.out.x (by omega) HI5.out.hb.size).mono ?_; intro e w6 hp6
            have hr6 := HI5.out.rest (by obtain ⟨_, _, _, _, hm, _⟩ := hp6; exact hm)
            have HP6 := Lib.hid hp6
            obtain rfl : e = .returned (.tuple #[.string x5, .bool true]) := by obtain ⟨_, _, he, _⟩ := hp6; exact he
            clear hp6
            go_wp2_with fail
            refine (rtake_yes _ _ _ _ _ _ hr6 (by omega)).mono ?_; intro e w7 hp7
            obtain ⟨a7, cap7, ar7, cr7, -, rfl, hi7⟩ := HI5.out.both HP6.out hp7 (by omega)
            have HI7 := Lib.hid hi7
            clear hp7 HP6 hr6 HI5 hi7
            go_wp2_with fail
            go_roundw
            case rel => exact ⟨k + 1, a7, cap7, ar7, cr7, L5, by omega, by omega, by go_num, (List.suffix_cons x5 L5).trans hsuf2.out, HI7.out⟩
            case measure => simp [intOf]; omega
      · (
        have hb0 := HI.out.x.own.le
        have hn0 : L.length ≤ 1000 := by have := HI.out.l4; omega
        obtain ⟨hln, hget⟩ := suffix_get (L := L) (l := l) (n := 60) (by rw [show (60) = k from by omega]; exact HS.out) (by omega)
        have HG := Lib.hid hget
        clear hget HS
        go_wp2_with fail
        refine (blen_any _ _ _ _ _ _ HI.out.x hn0).mono ?_; rintro e w' ⟨rfl, rfl⟩
        go_wp2_with fail
        have HX : Hid (∃ a' cap', BSt wr w.heap.size b a' cap' L ∧ Below w.heap.size w wr) := ⟨a, cap, HI.out.x, HI.out.hb⟩
        have hlb := HI.out.lb
        clear HI
        go_loopw [14] (fun i w2 => ∃ j : Nat, j ≤ L.length ∧ i = .int .i64 j ∧ ∃ a' cap', BSt w2 w.heap.size b a' cap' (L.drop j) ∧ Below w.heap.size w w2) (fun i _ => 60 - (intOf i).toNat)
        case atStart => exact ⟨0, by omega, rfl, HX.out⟩
        case round =>
          clear HX
          obtain ⟨j, hj, rfl, a', cap', hx, hbw⟩ := hrel
          by_cases g3 : j < L.length
          · obtain ⟨b0, o0, rfl, gs⟩ := str_at HR.out (by omega)
            rw [List.drop_eq_getElem_cons g3] at hx
            obtain ⟨hlt, hge⟩ := HG.out j g3
            obtain ⟨s, hs⟩ : ∃ s, s = L[j] := ⟨_, rfl⟩
            rw [← hs] at hx hge
            obtain ⟨L2, hL2⟩ : ∃ L2, L2 = L.drop (j + 1) := ⟨_, rfl⟩
            rw [← hL2] at hx
            have hl2 : L2.length ≤ 1000 := by rw [hL2, List.length_drop]; omega
            have HL2 := Lib.hid hL2
            have HX := Lib.hid hx
            have HB := Lib.hid hbw
            have GS := Lib.hid gs
            have HGE := Lib.hid hge
            clear hL2 hx hbw hs gs hge
            go_wp2_with fail
            refine (take_yes _ _ _ _ _ _ _ HX.out hl2 HB.out.size).mono ?_; intro e w6 hp6
            obtain ⟨a7, cap7, rfl, hx7, hm7, -⟩ := hp6
            have hb7 : Below w.heap.size w w6 := HB.out.trans (hm7.below (fun k hk => by
              simp only [List.mem_cons] at hk
              rcases hk with rfl | hk
              · exact hlb
              · exact (HX.out.own.ge k hk).1) HB.out.size)
            have k7 := GS.out w6 hb7 _ hlt
            rw [← HGE.out] at k7
            have HX7 := Lib.hid hx7
            have HB7 := Lib.hid hb7
            clear hx7 hm7 hb7 HX HB
            have i1 : (60 : Int) - (L.length : Int) + (j : Int) = ((60 - L.length + j : Nat) : Int) := by omega
            have i2 : decide (((60 - L.length + j : Nat) : Int) < 0) = false := by simp; omega
            have i3 : (0 : Int) ≤ ((60 - L.length + j : Nat) : Int) := by omega
            have i4 : ((60 - L.length + j : Nat) : Int) < (l.length : Int) := by omega
            go_wp2_with fail
            go_roundw
            case rel => exact ⟨j + 1, by omega, by go_num, a7, cap7, by rw [← HL2.out]; exact HX7.out, HB7.out⟩
            case measure => simp [intOf]; omega
          · (
          obtain rfl : j = L.length := by omega
          rw [List.drop_length] at hx
          have HX := Lib.hid hx
          have HB := Lib.hid hbw
          clear hx hbw
          go_wp2_with fail
          refine (take_no _ _ _ _ _ HX.out).mono ?_; rintro e w' ⟨rfl, rfl⟩
          go_wp2_with fail
          refine (blen_any _ _ _ _ _ _ HX.out (by simp)).mono ?_; rintro e w' ⟨rfl, rfl⟩
          go_wp2_with fail
          refine (awake_any _).mono ?_; rintro e wz ⟨rfl, hbz⟩
          go_wp2_with fail
          go_ret
          exact ⟨rfl, bmore HB.out hbz⟩
            )
        )
    · (
        have hb0 := HI.out.x.own.le
        have hn0 : L.length ≤ 1000 := by have := HI.out.l4; omega
        obtain ⟨hln, hget⟩ := suffix_get (L := L) (l := l) (n := l.length) (by rw [show (l.length) = k from by omega]; exact HS.out) (by omega)
        have HG := Lib.hid hget
        clear hget HS
        go_wp2_with fail
        refine (blen_any _ _ _ _ _ _ HI.out.x hn0).mono ?_; rintro e w' ⟨rfl, rfl⟩
        go_wp2_with fail
        have HX : Hid (∃ a' cap', BSt wr w.heap.size b a' cap' L ∧ Below w.heap.size w wr) := ⟨a, cap, HI.out.x, HI.out.hb⟩
        have hlb := HI.out.lb
        clear HI
        go_loopw [14] (fun i w2 => ∃ j : Nat, j ≤ L.length ∧ i = .int .i64 j ∧ ∃ a' cap', BSt w2 w.heap.size b a' cap' (L.drop j) ∧ Below w.heap.size w w2) (fun i _ => 60 - (intOf i).toNat)
        case atStart => exact ⟨0, by omega, rfl, HX.out⟩
        case round =>
          clear HX
          obtain ⟨j, hj, rfl, a', cap', hx, hbw⟩ := hrel
          by_cases g3 : j < L.length
          · obtain ⟨b0, o0, rfl, gs⟩ := str_at HR.out (by omega)
            rw [List.drop_eq_getElem_cons g3] at hx
            obtain ⟨hlt, hge⟩ := HG.out j g3
            obtain ⟨s, hs⟩ : ∃ s, s = L[j] := ⟨_, rfl⟩
            rw [← hs] at hx hge
            obtain ⟨L2, hL2⟩ : ∃ L2, L2 = L.drop (j + 1) := ⟨_, rfl⟩
            rw [← hL2] at hx
            have hl2 : L2.length ≤ 1000 := by rw [hL2, List.length_drop]; omega
            have HL2 := Lib.hid hL2
            have HX := Lib.hid hx
            have HB := Lib.hid hbw
            have GS := Lib.hid gs
            have HGE := Lib.hid hge
            clear hL2 hx hbw hs gs hge
            go_wp2_with fail
            refine (take_yes _ _ _ _ _ _ _ HX.out hl2 HB.out.size).mono ?_; intro e w6 hp6
            obtain ⟨a7, cap7, rfl, hx7, hm7, -⟩ := hp6
            have hb7 : Below w.heap.size w w6 := HB.out.trans (hm7.below (fun k hk => by
              simp only [List.mem_cons] at hk
              rcases hk with rfl | hk
              · exact hlb
              · exact (HX.out.own.ge k hk).1) HB.out.size)
            have k7 := GS.out w6 hb7 _ hlt
            rw [← HGE.out] at k7
            have HX7 := Lib.hid hx7
            have HB7 := Lib.hid hb7
            clear hx7 hm7 hb7 HX HB
            have i1 : (l.length : Int) - (L.length : Int) + (j : Int) = ((l.length - L.length + j : Nat) : Int) := by omega
            have i2 : decide (((l.length - L.length + j : Nat) : Int) < 0) = false := by simp; omega
            have i3 : (0 : Int) ≤ ((l.length - L.length + j : Nat) : Int) := by omega
            have i4 : ((l.length - L.length + j : Nat) : Int) < (l.length : Int) := by omega
            go_wp2_with fail
            go_roundw
            case rel => exact ⟨j + 1, by omega, by go_num, a7, cap7, by rw [← HL2.out]; exact HX7.out, HB7.out⟩
            case measure => simp [intOf]; omega
          · (
          obtain rfl : j = L.length := by omega
          rw [List.drop_length] at hx
          have HX := Lib.hid hx
          have HB := Lib.hid hbw
          clear hx hbw
          go_wp2_with fail
          refine (take_no _ _ _ _ _ HX.out).mono ?_; rintro e w' ⟨rfl, rfl⟩
          go_wp2_with fail
          refine (blen_any _ _ _ _ _ _ HX.out (by simp)).mono ?_; rintro e w' ⟨rfl, rfl⟩
          go_wp2_with fail
          refine (awake_any _).mono ?_; rintro e wz ⟨rfl, hbz⟩
          go_wp2_with fail
          go_ret
          exact ⟨rfl, bmore HB.out hbz⟩
            )
      )
end Go.Proofs.Ytnhapfoebiniiaa
