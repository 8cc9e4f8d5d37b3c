/- The walks of package gate: the gate's methods; the reference. -/
import Derived.Test.YtnhapfoebiniiaaGate
namespace Go.Proofs.Ytnhapfoebiniiaa
open Go.RowKit Go.Sort
set_option maxHeartbeats 400000
set_option maxRecDepth 100000

abbrev Rel := ByteArray × Int × Int
theorem relF_snoc (l : List Rel) (r : Rel) : relF (l ++ [r]) = relF l ++ relC r := by simp [relF]
theorem relF_cons (r : Rel) (l : List Rel) : relF (r :: l) = relC r ++ relF l := by simp [relF]
theorem relF_drop : ∀ (l : List Rel) (k : Nat), (relF l).drop (k * 3) = relF (l.drop k)
  | l, 0 => by simp
  | [], k + 1 => by simp [relF]
  | r :: l, k + 1 => by
    rw [relF_cons, List.drop_succ_cons, ← relF_drop l k, show (k + 1) * 3 = (relC r).length + k * 3 from by simp [relC]; omega, List.drop_append, List.drop_eq_nil_of_le (by omega), Nat.add_sub_cancel_left, List.nil_append]
theorem relF_len (l : List Rel) : (relF l).length = l.length * 3 := by
  induction l with
  | nil => rfl
  | cons r l ih => simp only [relF, List.map_cons, List.flatten_cons, List.length_append, List.length_cons] at *; rw [ih]; simp [relC]; omega
theorem relF_get (l : List Rel) (k j : Nat) (hk : k < l.length) (hj : j < 3) : (relF l)[k * 3 + j]? = (relC l[k])[j]? := by
  have e : (relF l)[k * 3 + j]? = ((relF l).drop (k * 3))[j]? := by rw [List.getElem?_drop]
  rw [e, relF_drop, List.drop_eq_getElem_cons hk]
  rw [relF_cons, List.getElem?_append_left (by simp [relC]; exact hj)]

/-- The gate in memory: its object and its log's row. -/
structure GSt (w : World) (B b : Nat) (a : Option Addr) (cap : Nat) (R : List Rel) (k : Nat) (ft us cats who quota : Int) : Prop where
  obj : ObjAt w b 60 (gateC a R.length cap k ft us cats who quota)
  own : Own w B 43 3 a R.length cap (relF R)
namespace GSt
variable {w w' : World} {B b cap k : Nat} {a : Option Addr} {R : List Rel} {ft us cats who quota : Int} {S : List Nat}
theorem mod (h : GSt w B b a cap R k ft us cats who quota) (hm : Mod S w w') (h1 : b ∉ S) (h2 : ∀ x ∈ blk a, x ∉ S) : GSt w' B b a cap R k ft us cats who quota := ⟨h.obj.mod hm h1, h.own.mod hm h2⟩
theorem below (h : GSt w B b a cap R k ft us cats who quota) (hb : Below w.heap.size w w') : GSt w' B b a cap R k ft us cats who quota := ⟨h.obj.below hb, h.own.below hb⟩
end GSt
theorem gnone_any (b : Nat) (a : Option Addr) (n cap : Nat) (fr ft us cats who quota : Int) (w : World) (h : ObjAt w b 60 (gateC a n cap fr ft us cats who quota)) : Calls Try.prog 26 #[.pointer (some ⟨b, 0, none⟩)] w fun e w' => e = .returned (.bool false) ∧ w = w' := by
  have hm := h.cell 7 _ rfl
  clear h
  go_enter Try.func26, Try.ntmps26
  go_wp2
  go_ret
  exact ⟨rfl, rfl⟩
theorem used_any (b : Nat) (a : Option Addr) (n cap : Nat) (fr ft us cats who quota : Int) (w : World) (h : ObjAt w b 60 (gateC a n cap fr ft us cats who quota)) : Calls Try.prog 17 #[.pointer (some ⟨b, 0, none⟩)] w fun e w' => e = .returned (.int .i64 us) ∧ w = w' := by
  have H := Lib.hid h
  have hm := h.cell 3 _ rfl
  clear h
  go_enter Try.func17, Try.ntmps17
  go_wp2_with (go_at_call 26; refine (gnone_any _ _ _ _ _ _ _ _ _ _ _ H.out).mono ?_; rintro e w' ⟨rfl, rfl⟩)
  go_ret
  exact ⟨rfl, rfl⟩
theorem frame_any (b : Nat) (a : Option Addr) (n cap : Nat) (fr ft us cats who quota : Int) (w : World) (h : ObjAt w b 60 (gateC a n cap fr ft us cats who quota)) : Calls Try.prog 19 #[.pointer (some ⟨b, 0, none⟩)] w fun e w' => e = .returned (.int .i64 ft) ∧ w = w' := by
  have H := Lib.hid h
  have hm := h.cell 2 _ rfl
  clear h
  go_enter Try.func19, Try.ntmps19
  go_wp2_with (go_at_call 26; refine (gnone_any _ _ _ _ _ _ _ _ _ _ _ H.out).mono ?_; rintro e w' ⟨rfl, rfl⟩)
  go_ret
  exact ⟨rfl, rfl⟩
theorem log_any (B b : Nat) (a : Option Addr) (cap : Nat) (R : List Rel) (k : Nat) (ft us cats who quota : Int) (w : World) (h : GSt w B b a cap R k ft us cats who quota) (hn : R.length ≤ 1000) : Calls Try.prog 16 #[.pointer (some ⟨b, 0, none⟩)] w (ClonePost 43 3 R.length (relF R) w) := by
  have H := Lib.hid h
  have hm := h.obj.cell 0 _ rfl
  clear h
  go_enter Try.func16, Try.ntmps16
  go_wp2_with (go_at_call 26; refine (gnone_any _ _ _ _ _ _ _ _ _ _ _ H.out.obj).mono ?_; rintro e w' ⟨rfl, rfl⟩)
  refine (clone_any _ _ _ _ _ H.out.own.rd (rel_one R) (by omega)).mono ?_; rintro e w1 ⟨a', c', rfl, hown, hb⟩
  go_wp2_with fail
  go_ret
  exact ⟨a', c', rfl, hown, hb⟩
def TurnPost (B b : Nat) (a : Option Addr) (cap : Nat) (R : List Rel) (k : Nat) (ft cats who quota : Int) (w : World) (e : Ending) (w' : World) : Prop :=
  ∃ a' c', e = .returned (.slice a' (R.length - k) c') ∧ Own w' w.heap.size 43 3 a' (R.length - k) c' (relF (R.drop k)) ∧ GSt w' B b a cap R R.length (ft + 1) 0 cats who quota ∧ Upd b w w'
theorem turn_any (B b : Nat) (a : Option Addr) (cap : Nat) (R : List Rel) (k : Nat) (ft us cats who quota : Int) (w : World) (h : GSt w B b a cap R k ft us cats who quota) (hn : R.length ≤ 1000) (hk : k ≤ R.length) (hf0 : 0 ≤ ft) (hf1 : ft ≤ 1000) : Calls Try.prog 12 #[.pointer (some ⟨b, 0, none⟩)] w (TurnPost B b a cap R k ft cats who quota w) := by
  have H := Lib.hid h
  clear h
  go_enter Try.func12, Try.ntmps12
  go_wp2_with (go_at_call 26; refine (gnone_any _ _ _ _ _ _ _ _ _ _ _ H.out.obj).mono ?_; rintro e w' ⟨rfl, rfl⟩)
  refine (end_any _ _ _ _ _ _ _ _ _ _ _ _ _ H.out.obj H.out.own (rel_one R) hk hn hf0 hf1).mono ?_; rintro e w1 ⟨a', c', rfl, hown, ho, hu⟩
  go_wp2_with fail
  go_ret
  exact ⟨a', c', rfl, by rw [← relF_drop]; exact hown, ⟨ho, H.out.own.upd hu (H.out.own.ne H.out.obj (by decide))⟩, hu⟩
def mayV (cats who quota us x l : Int) (m : Nat) : Int := if who = -1 then 4 else if x ≠ who then 4 else if validB l cats = false then 1 else if m < 1 then 10 else if 16 < m then 10 else if quota - us < m then 9 else 0
theorem may_any (b : Nat) (a : Option Addr) (n cap : Nat) (fr ft us cats who quota x l : Int) (s : ByteArray) (w : World) (h : ObjAt w b 60 (gateC a n cap fr ft us cats who quota)) (hq0 : 0 ≤ quota) (hq1 : quota ≤ 64) (hu0 : 0 ≤ us) (hu1 : us ≤ 64) (hs : s.size ≤ maxLen) :
    Calls Try.prog 29 #[.pointer (some ⟨b, 0, none⟩), .int .i64 x, .int .i64 l, .string s] w fun e w' => e = .returned (.int .i64 (mayV cats who quota us x l s.size)) ∧ Below w.heap.size w w' := by
  unfold maxLen at hs
  have c5 := h.cell 5 _ rfl; have c4 := h.cell 4 _ rfl; have c6 := h.cell 6 _ rfl; have c3 := h.cell 3 _ rfl
  clear h
  by_cases e1 : who = -1
  · subst e1
    have HE : Hid (mayV cats (-1) quota us x l s.size = 4) := by simp only [Hid, mayV]; rfl
    go_enter Try.func29, Try.ntmps29
    go_wp2
    go_ret
    exact ⟨ret_int (by rw [HE.out]), Below.refl _ _⟩
  · have t1 : (who == -1) = false := by simpa using e1
    by_cases e2 : x = who
    · subst e2
      have t2 : (x != x) = false := by simp
      cases e3 : validB l cats
      · have HE : Hid (mayV cats x quota us x l s.size = 1) := by simp only [Hid, mayV, e3]; rw [if_neg e1]; simp
        have HV := Lib.hid e3
        clear e1 e3
        go_enter Try.func29, Try.ntmps29
        go_wp2_with (go_at_call 35; refine (valid_any _ _ _).mono ?_; rw [HV.out]; rintro e w' ⟨rfl, rfl⟩)
        go_ret
        exact ⟨ret_int (by rw [HE.out]), Below.refl _ _⟩
      · have HV := Lib.hid e3
        by_cases e4 : s.size < 1
        · have HE : Hid (mayV cats x quota us x l s.size = 10) := by simp only [Hid, mayV, e3]; rw [if_neg e1, if_pos e4]; simp
          clear e1 e3
          go_enter Try.func29, Try.ntmps29
          go_wp2_with (go_at_call 35; refine (valid_any _ _ _).mono ?_; rw [HV.out]; rintro e w' ⟨rfl, rfl⟩)
          go_ret
          exact ⟨ret_int (by rw [HE.out]), Below.refl _ _⟩
        · by_cases e5 : 16 < s.size
          · have HE : Hid (mayV cats x quota us x l s.size = 10) := by simp only [Hid, mayV, e3]; rw [if_neg e1, if_neg e4, if_pos e5]; simp
            clear e1 e3
            go_enter Try.func29, Try.ntmps29
            go_wp2_with (go_at_call 35; refine (valid_any _ _ _).mono ?_; rw [HV.out]; rintro e w' ⟨rfl, rfl⟩)
            go_ret
            exact ⟨ret_int (by rw [HE.out]), Below.refl _ _⟩
          · by_cases e6 : quota - us < s.size
            · have HE : Hid (mayV cats x quota us x l s.size = 9) := by simp only [Hid, mayV, e3]; rw [if_neg e1, if_neg e4, if_neg e5, if_pos e6]; simp
              clear e1 e3
              go_enter Try.func29, Try.ntmps29
              go_wp2_with (go_at_call 35; refine (valid_any _ _ _).mono ?_; rw [HV.out]; rintro e w' ⟨rfl, rfl⟩)
              go_quiet (fail)
              go_wp2
              go_ret
              exact ⟨ret_int (by rw [HE.out]), below_drewN (Below.refl _ _) _⟩
            · have HE : Hid (mayV cats x quota us x l s.size = 0) := by simp only [Hid, mayV, e3]; rw [if_neg e1, if_neg e4, if_neg e5, if_neg e6]; simp
              clear e1 e3
              go_enter Try.func29, Try.ntmps29
              go_wp2_with (go_at_call 35; refine (valid_any _ _ _).mono ?_; rw [HV.out]; rintro e w' ⟨rfl, rfl⟩)
              go_quiet (fail)
              go_wp2
              go_ret
              exact ⟨ret_int (by rw [HE.out]), below_drewN (Below.refl _ _) _⟩
    · have HE : Hid (mayV cats who quota us x l s.size = 4) := by simp only [Hid, mayV]; rw [if_neg e1, if_pos e2]
      have t2 : (x != who) = true := by simpa using e2
      clear e1 e2
      go_enter Try.func29, Try.ntmps29
      go_wp2
      go_ret
      exact ⟨ret_int (by rw [HE.out]), Below.refl _ _⟩
end Go.Proofs.Ytnhapfoebiniiaa
