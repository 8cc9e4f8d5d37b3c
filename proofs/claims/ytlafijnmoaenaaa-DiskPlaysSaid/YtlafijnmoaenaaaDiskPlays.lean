/- The law DiskPlays: the disk beside the reference's. -/
import Derived.Test.YtlafijnmoaenaaaDRef5
import Derived.Test.YtlafijnmoaenaaaDiskFlows
namespace Go.Proofs.Ytlafijnmoaenaaa
set_option linter.unusedVariables false
set_option linter.unusedSimpArgs false
set_option linter.unnecessarySimpa false
open Go.RowKit Go.Sort Go.ChangeShapes Go.WideShapes Go.ChangeAt
set_option maxHeartbeats 400000
set_option maxRecDepth 100000

/-- An act that came in: its kind, who, where, the bytes' slice, the bytes. -/
abbrev Av := Int × Int × Int × Option Addr × Nat × List Int
def avC (x : Av) : List Value := [.int .i64 x.1, .int .i64 x.2.1, .int .i64 x.2.2.1, .slice x.2.2.2.1 x.2.2.2.2.2.length x.2.2.2.2.1]
def avF (l : List Av) : List Value := (l.map avC).flatten
theorem avF_len (l : List Av) : (avF l).length = l.length * 4 := by
  rw [avF, flatten_len (N := 4) _ (by intro r hr; obtain ⟨x, _, rfl⟩ := List.mem_map.1 hr; rfl)]; simp
theorem avF_get (l : List Av) (k j : Nat) (hk : k < l.length) (hj : j < 4) : (avF l)[k * 4 + j]? = (avC l[k])[j]? := by
  rw [avF, flatten_get (N := 4) _ k j (by intro r hr; obtain ⟨x, _, rfl⟩ := List.mem_map.1 hr; rfl) (by simpa using hk) hj]; simp
theorem av_at {w : World} {a : Option Addr} {l : List Av} (h : Rd w 4 a l.length (avF l)) (k : Nat) (hk : k < l.length) : ∃ b o, a = some ⟨b, o, none⟩ ∧ w.cell? ⟨b, o + k * 4, none⟩ = some (.int .i64 l[k].1) ∧ w.cell? ⟨b, o + k * 4 + 1, none⟩ = some (.int .i64 l[k].2.1) ∧ w.cell? ⟨b, o + k * 4 + 2, none⟩ = some (.int .i64 l[k].2.2.1) ∧ w.cell? ⟨b, o + k * 4 + 3, none⟩ = some (.slice l[k].2.2.2.1 l[k].2.2.2.2.2.length l[k].2.2.2.2.1) := by
  have hne : avF l ≠ [] := by intro h0; have := avF_len l; rw [h0] at this; simp at this; omega
  have ha : a ≠ none := fun h0 => by have := h.2.1 h0; omega
  obtain ⟨p, rfl⟩ := Option.ne_none_iff_exists'.1 ha
  obtain ⟨b, o, rfl, hb, h3⟩ := h.2.2 p rfl hne
  refine ⟨b, o, rfl, ?_, ?_, ?_, ?_⟩
  · exact h3 (k * 4) _ (by have := avF_get l k 0 hk (by omega); simpa [avC] using this)
  · have := h3 (k * 4 + 1) (.int .i64 l[k].2.1) (by have := avF_get l k 1 hk (by omega); simpa [avC] using this)
    rwa [← Nat.add_assoc] at this
  · have := h3 (k * 4 + 2) (.int .i64 l[k].2.2.1) (by have := avF_get l k 2 hk (by omega); simpa [avC] using this)
    rwa [← Nat.add_assoc] at this
  · have := h3 (k * 4 + 3) (.slice l[k].2.2.2.1 l[k].2.2.2.2.2.length l[k].2.2.2.2.1) (by have := avF_get l k 3 hk (by omega); simpa [avC] using this)
    rwa [← Nat.add_assoc] at this
def AvOk (W : World) (x : Av) : Prop := RowI W .u8 (.slice x.2.2.2.1 x.2.2.2.2.2.length x.2.2.2.2.1) x.2.2.2.2.2
theorem open_bytes {H : Type} {enc : TypeId × Value → H} {W : World} {m : Nat} {u : Value} {y : DataW H × List MemPlace} (h : DataW.trod enc Try.prog W 0 (fun _ => true) true m 22 [u] = some y) :
    ∃ (a : Option Addr) (c : Nat) (xs : List Int), u = .slice a xs.length c ∧ RowI W .u8 (.slice a xs.length c) xs := by
  rcases open_ints Try.underlying22 Try.underlying5 (by kernel_rfl) h with ⟨hcs, hx⟩ | ⟨ad, len', cap', zs, hcs, _, hl, hm, hz, hx, hcell, hwz⟩
  · simp at hcs
    subst hcs
    exact ⟨none, 0, [], rfl, ⟨none, 0, rfl, Nat.le_refl _, by decide, by simp⟩⟩
  · simp at hcs
    subst hcs
    simp only [if_true] at hz
    have e : (zs.take len').length = len' := by simp [hz, Nat.min_eq_left hl]
    refine ⟨some ad, cap', zs.take len', by rw [e], ⟨some ad, cap', rfl, by rw [e]; exact hl, hm, fun hn => ?_⟩⟩
    obtain ⟨b, off, spot⟩ := ad
    have hpos : 0 < zs.length := by
      cases zs with
      | nil => simp at hn
      | cons => simp
    have h0 := hcell 0 hpos
    have hspot : spot = none := by simpa [Addr.add] using World.cell?_spot h0
    subst hspot
    refine ⟨b, off, rfl, fun i hi => ?_⟩
    have hi2 : i < zs.length := by simp at hi; omega
    have := hcell i hi2
    rw [show (⟨b, off, none⟩ : Addr).add i = ⟨b, off + i, none⟩ from by unfold Addr.add; split <;> simp_all] at this
    rw [List.getElem_take]
    simpa [hi2] using this
theorem open_avs {H : Type} {enc : TypeId × Value → H} {W : World} {base : Nat} {v : Value} {d : DataW H} {p : List MemPlace} (hv : Value.okWide Try.prog W .any base 49 v) (h : DataW.Trod enc Try.prog W 0 (fun _ => true) true 49 v d p) :
    ∃ (a : Option Addr) (cap : Nat) (l : List Av), v = .slice a l.length cap ∧ l.length ≤ cap ∧ cap ≤ maxLen ∧ Rd W 4 a l.length (avF l) ∧ ∀ x ∈ l, AvOk W x := by
  obtain ⟨a, len, cap, xs, rfl, hle, hcm, hrd, hlf, _⟩ := open_rowF (n := 2) (N := 4) Try.underlying49 (by kernel_rfl) (by kernel_rfl) (by omega) hv h
  obtain ⟨l, rfl, rfl, hq⟩ := rows_of avC (AvOk W) 4 (fun _ => rfl) len xs hrd.1 (fun i hi => by
    obtain ⟨u0, y0, m0, g0, t0⟩ := hlf i hi 0 3 (by omega) (by kernel_rfl)
    obtain ⟨u1, y1, m1, g1, t1⟩ := hlf i hi 1 3 (by omega) (by kernel_rfl)
    obtain ⟨u2, y2, m2, g2, t2⟩ := hlf i hi 2 3 (by omega) (by kernel_rfl)
    obtain ⟨u3, y3, m3, g3, t3⟩ := hlf i hi 3 22 (by omega) (by kernel_rfl)
    obtain ⟨z0, e0, _⟩ := DataW.trod_int Try.underlying3 t0
    obtain ⟨z1, e1, _⟩ := DataW.trod_int Try.underlying3 t1
    obtain ⟨z2, e2, _⟩ := DataW.trod_int Try.underlying3 t2
    obtain ⟨ba, bc, bs, rfl, hrow⟩ := open_bytes t3
    simp only [List.cons.injEq, and_true] at e0 e1 e2
    subst e0 e1 e2
    refine ⟨(z0, z1, z2, ba, bc, bs), hrow, fun j hj => ?_⟩
    have : j = 0 ∨ j = 1 ∨ j = 2 ∨ j = 3 := by omega
    rcases this with rfl | rfl | rfl | rfl
    · exact g0
    · exact g1
    · exact g2
    · exact g3)
  exact ⟨a, cap, l, rfl, hle, hcm, hrd, hq⟩
theorem DS.modR {w w' : World} {B dd tt cap lc mb n rr : Nat} {a la : Option Addr} {R : List Rn} {lb : List Int} {f : Nat → List Int} {cs : List Value} (h : DS w B dd tt a cap R la lc lb mb n f) (hr : ObjAt w rr 63 cs) (hm : Mod [rr] w w') : DS w' B dd tt a cap R la lc lb mb n f :=
  ⟨h.obj.mod hm (by simpa using h.obj.ne hr (by decide)), h.t.mod hm (by simpa using h.t.obj.ne hr (by decide)) (fun k hk => by simp only [List.mem_singleton]; rintro rfl; exact h.t.own.ne hr (by decide) hk), h.lab.mod hm (fun k hk => by simp only [List.mem_singleton]; rintro rfl; exact h.lab.ne hr (by decide) hk), h.m.mod hm (by simpa using Ne.symm (h.notMap hr.isC)), h.own, h.sec, h.ge⟩
theorem RDS.modM {w w' : World} {B rr rc tr tc mb : Nat} {ra ta : Option Addr} {l : List Rg} {R : List Rn} {f : Nat → List Int} (h : RDS w B rr ra rc l tr ta tc R f) (hn : ∀ k, (∃ o : Obj, w.heap[k]? = some o ∧ o.isCells = true) → k ≠ mb) (hm : Mod [mb] w w') : RDS w' B rr ra rc l tr ta tc R f :=
  ⟨h.obj.mod hm (by simpa using hn rr h.obj.isC), h.rows.mod hm (fun k hk => by simpa using hn k (h.rows.isC k hk)), h.t.mod hm (by simpa using hn tr h.t.obj.isC) (fun k hk => by simpa using hn k (h.t.own.isC k hk)), h.ok, h.own, h.sec⟩
/-- Both disks, beside each other. -/
structure PDI (w W : World) (dd tt : Nat) (a : Option Addr) (cap : Nat) (R : List Rn) (la : Option Addr) (lc : Nat) (l : List Rg) (mb n : Nat) (f : Nat → List Int) (rr : Nat) (ra : Option Addr) (rc tr : Nat) (ta : Option Addr) (tc : Nat) : Prop where
  d : DS W w.heap.size dd tt a cap R la lc (l.map (fun x : Rg => x.1)) mb n f
  r : RDS W w.heap.size rr ra rc l tr ta tc R f
  rge : w.heap.size ≤ rr
  hb : Below w.heap.size w W
namespace PDI
variable {w W W' : World} {dd tt cap lc mb n rr rc tr tc : Nat} {a la ra ta : Option Addr} {R : List Rn} {l : List Rg} {f f' : Nat → List Int}
theorem below (h : PDI w W dd tt a cap R la lc l mb n f rr ra rc tr ta tc) (hb : Below W.heap.size W W') : PDI w W' dd tt a cap R la lc l mb n f rr ra rc tr ta tc := ⟨h.d.below hb, h.r.below hb, h.rge, bmore h.hb hb⟩
theorem up (h : PDI w W dd tt a cap R la lc l mb n f rr ra rc tr ta tc) : PDI w W dd tt a cap R la lc l mb (n + 1) f rr ra rc tr ta tc := ⟨⟨h.d.obj, h.d.t, h.d.lab, h.d.m.mono (Nat.le_succ _), h.d.own, h.d.sec, h.d.ge⟩, h.r, h.rge, h.hb⟩
/-- Between two acts: the disk has turned. -/
def Mid (w W : World) (dd tt : Nat) (a : Option Addr) (cap : Nat) (R : List Rn) (la : Option Addr) (lc : Nat) (l : List Rg) (mb n : Nat) (f f0 : Nat → List Int) (rr : Nat) (ra : Option Addr) (rc tr : Nat) (ta : Option Addr) (tc : Nat) : Prop :=
  DS W w.heap.size dd tt a cap R la lc (l.map (fun x : Rg => x.1)) mb n f ∧ RDS W w.heap.size rr ra rc l tr ta tc R f0 ∧ w.heap.size ≤ rr ∧ Below w.heap.size w W
theorem mid (h : PDI w W dd tt a cap R la lc l mb n f rr ra rc tr ta tc) {n' : Nat} (hd : DS W' w.heap.size dd tt a cap R la lc (l.map (fun x : Rg => x.1)) mb n' f') (hm : Mod [mb] W W') : Mid w W' dd tt a cap R la lc l mb n' f' f rr ra rc tr ta tc :=
  ⟨hd, h.r.modM (fun k hk => h.d.notMap hk) hm, h.rge, h.hb.trans (hm.below (fun k hk => by simp at hk; subst hk; exact h.d.ge) h.hb.size)⟩
theorem Mid.full {f0 : Nat → List Int} (h : Mid w W dd tt a cap R la lc l mb n f f0 rr ra rc tr ta tc) (hr : RDS W' w.heap.size rr ra rc l tr ta tc R f) (hm : Mod [rr] W W') : PDI w W' dd tt a cap R la lc l mb n f rr ra rc tr ta tc :=
  ⟨h.1.modR h.2.1.obj hm, hr, h.2.2.1, h.2.2.2.trans (hm.below (fun k hk => by simp at hk; subst hk; exact h.2.2.1) h.2.2.2.size)⟩
end PDI
def btS (ok : Bool) (s : List Int) : ByteArray := if ok then strOfNums s else ByteArray.empty
theorem bt_conv {w W : World} {B m c : Nat} {ok : Bool} {a : Option Addr} {s : List Int} (h : if ok then m = 16 ∧ Own w B 5 1 a 16 c (bC s) else a = none ∧ m = 0 ∧ c = 0) (hs : s.length = 16) (hb : Below w.heap.size w W) : (convert 22 9 (.slice a m c)).run Try.prog W = .ok (.string (btS ok s)) W := by
  cases ok
  · simp only [Bool.false_eq_true, if_false] at h
    obtain ⟨rfl, rfl, rfl⟩ := h
    exact run_convert_bytes_nil W 22 5 Try.underlying22 Try.underlying5 0 0 9 Try.underlying9
  · simp only [if_true] at h
    obtain ⟨rfl, ho⟩ := h
    exact conv_rd (ho.rd.below hb) hs c
theorem rd_conv {w W : World} {B m c : Nat} {er : Int} {a : Option Addr} {s : List Int} (h : if er = 0 then m = 16 ∧ Own w B 5 1 a 16 c (bC s) else a = none ∧ m = 0 ∧ c = 0) (hs : s.length = 16) (hb : Below w.heap.size w W) : (convert 22 9 (.slice a m c)).run Try.prog W = .ok (.string (btS (er == 0) s)) W := by
  refine bt_conv (B := B) (ok := er == 0) ?_ hs hb
  by_cases e : er = 0
  · rw [if_pos e] at h; simpa [e] using h
  · rw [if_neg e] at h; simpa [e] using h
theorem strOfNums_size (xs : List Int) : (strOfNums xs).size = xs.length := by simp [strOfNums, ByteArray.size]
end Go.Proofs.Ytlafijnmoaenaaa
