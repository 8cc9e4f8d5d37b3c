/- The law TraceZero. -/
import Derived.Test.YtcffdceadmdecaaObj
import Derived.Test.YtcffdceadmdecaaRows
namespace Go.Proofs.Ytcffdceadmdecaa
open Go.RowKit Go.Sort
set_option maxHeartbeats 400000
set_option maxRecDepth 100000

/-- Nobody made it: nil, or a zero object. -/
def Unmade (w : World) (v : Value) : Prop := v = .pointer none ∨ ∃ b, v = .pointer (some ⟨b, 0, none⟩) ∧ w.cell? ⟨b, 1, none⟩ = some (.bool false)
theorem Unmade.below {w w' : World} {v : Value} (h : Unmade w v) (hb : Below w.heap.size w w') : Unmade w' v := by
  rcases h with h | ⟨b, h, hc⟩
  · exact .inl h
  · exact .inr ⟨b, h, (hb.cell (p := ⟨b, 1, none⟩) (World.block_lt_of_cell? w ⟨b, 1, none⟩ hc)).trans hc⟩
theorem none_un (v : Value) (w : World) (h : Unmade w v) : Calls Try.prog 9 #[v] w fun e w' => e = .returned (.bool true) ∧ w = w' := by
  rcases h with rfl | ⟨b, rfl, hc⟩
  · go_enter Try.func9, Try.ntmps9
    go_wp2
    go_ret
    exact ⟨rfl, rfl⟩
  · go_enter Try.func9, Try.ntmps9
    go_wp2
    go_ret
    exact ⟨rfl, rfl⟩
def zev : List Value := [.int .i64 0, .int .i64 0, .int .u32 0, .int .u32 0, .int .u32 0, .int .u32 0, .int .u32 0, .int .u32 0, .int .u32 0, .int .u32 0, .int .u32 0, .int .u32 0, .int .u32 0, .int .u32 0, .int .u32 0, .int .u32 0, .int .u32 0, .int .u32 0, .int .u32 0, .int .u32 0, .int .u32 0]
theorem info_ev : (Try.prog.info? 25).map (·.size) = some 21 := by kernel_rfl
theorem zev_all : zev.toArray.all (·.oneCell') = true := by kernel_rfl
theorem zev_size : zev.toArray.size = 21 := rfl
theorem zev_info : (Try.prog.info? 25).map (·.size) = some zev.toArray.size := by rw [info_ev, zev_size]
def LastPost (w : World) (e : Ending) (w' : World) : Prop := e = .returned (.tuple #[.agg zev.toArray, .bool false]) ∧ Below w.heap.size w w'
theorem last_un (v : Value) (w : World) (h : Unmade w v) : Calls Try.prog 4 #[v] w (LastPost w) := by
  have hb : ∀ cs : Array Value, Below w.heap.size w (w.alloc (.cells cs 25)) := fun cs => (Below.refl _ _).alloc (Nat.le_refl _) _
  have HB := Lib.hid hb
  have HH : Hid (∀ cs : Array Value, Unmade (w.alloc (.cells cs 25)) v) := fun cs => h.below (hb cs)
  clear h hb
  go_enter Try.func4, Try.ntmps4
  go_wp2_with (first | (go_at_call 9; refine (none_un _ _ (HH.out _)).mono ?_; rintro e w' ⟨rfl, rfl⟩) | (refine wpList_store_new rfl 25 (.tmp 2) (.tmp 14) rfl _ zev.toArray rfl rfl zev_info rfl zev_all ?_))
  refine bodyPost_ret (v := .tuple #[.agg zev.toArray, .bool false]) ?_ rfl ⟨rfl, HB.out _⟩
  exact results_row_tmp rfl _ _ w.heap.size _ _ (0, 0) _ rfl (new_block w _ _ rfl) Try.underlying25 rfl zev_info _ rfl
theorem add_un (v : Value) (es : List Value) (w : World) (h : Unmade w v) : Calls Try.prog 5 #[v, .agg es.toArray] w fun e w' => e = .returned (.int .i64 7) ∧ Below w.heap.size w w' := by
  have hb : Below w.heap.size w (w.alloc (.cells es.toArray 25)) := (Below.refl _ _).alloc (Nat.le_refl _) _
  have HH := Lib.hid (h.below hb)
  clear h
  go_enter Try.func5, Try.ntmps5
  go_wp2_with (go_at_call 9; refine (none_un _ _ HH.out).mono ?_; rintro e w' ⟨rfl, rfl⟩)
  go_ret
  exact ⟨rfl, hb⟩
theorem from_un (v : Value) (n : Int) (w : World) (h : Unmade w v) : Calls Try.prog 7 #[v, .int .i64 n] w fun e w' => e = .returned (.slice none 0 0) ∧ w = w' := by
  have H := Lib.hid h; clear h
  go_enter Try.func7, Try.ntmps7
  go_wp2_with (go_at_call 9; refine (none_un _ _ H.out).mono ?_; rintro e w' ⟨rfl, rfl⟩)
  go_ret
  exact ⟨rfl, rfl⟩
theorem all_un (v : Value) (w : World) (h : Unmade w v) : Calls Try.prog 6 #[v] w fun e w' => e = .returned (.slice none 0 0) ∧ w = w' := by
  have H := Lib.hid h; clear h
  go_enter Try.func6, Try.ntmps6
  go_wp2_with (go_at_call 7; refine (from_un _ _ _ H.out).mono ?_; rintro e w' ⟨rfl, rfl⟩)
  go_ret
  exact ⟨rfl, rfl⟩
theorem len_un (v : Value) (w : World) (h : Unmade w v) : Calls Try.prog 8 #[v] w fun e w' => e = .returned (.int .i64 0) ∧ w = w' := by
  have H := Lib.hid h; clear h
  go_enter Try.func8, Try.ntmps8
  go_wp2_with (go_at_call 9; refine (none_un _ _ H.out).mono ?_; rintro e w' ⟨rfl, rfl⟩)
  go_ret
  exact ⟨rfl, rfl⟩
def u0 : Array Value := #[.slice none 0 0, .bool false]
theorem zero_walk (es : List Value) (he : es.length = 21) (n : Int) (w : World) : Calls Try.prog 3 #[.agg es.toArray, .int .i64 n] w fun e w' => e = .returned (.bool true) ∧ Below w.heap.size w w' := by
  have hs1 : (w.alloc (.cells es.toArray 25)).heap.size = w.heap.size + 1 := by simp
  have hi : (Try.prog.info? 25).map (·.size) = some es.length := by rw [info_ev, he]
  have HI := Lib.hid hi
  obtain ⟨W, hW⟩ : ∃ W, W = (w.alloc (.cells es.toArray 25)).alloc (.cells u0 29) := ⟨_, rfl⟩
  have hm : ObjAt W w.heap.size 25 es := by rw [hW]; exact (ObjAt.new w _ _).below ((Below.refl _ _).alloc (Nat.le_refl _) _)
  have hu : Unmade W (.pointer (some ⟨w.heap.size + 1, 0, none⟩)) := by rw [hW]; exact .inr ⟨_, rfl, cell_at (new_block _ _ _ hs1) 1 _ rfl⟩
  have hb : Below w.heap.size w W := by rw [hW]; exact ((Below.refl _ _).alloc (Nat.le_refl _) _).alloc (by simp) _
  have hN : ∀ w, Unmade w (.pointer none) := fun _ => .inl rfl
  have HN := Lib.hid hN
  clear hs1 hi he hN
  go_enter Try.func3, Try.ntmps3
  go_wp2_with fail
  change Calls _ _ _ ((w.alloc (.cells es.toArray 25)).alloc (.cells u0 29)) _
  rw [← hW]
  clear hW
  refine (last_un _ _ (HN.out _)).mono ?_; rintro e w1 ⟨rfl, hb1⟩
  have hal1 : ∀ cs : Array Value, Below w1.heap.size w1 (w1.alloc (.cells cs 25)) := fun cs => (Below.refl _ _).alloc (Nat.le_refl _) _
  have hm1 := (hm.below hb1).below (hal1 zev.toArray)
  have hu1 := (hu.below hb1).below (hal1 zev.toArray)
  have hb1' := bmore (bmore hb hb1) (hal1 zev.toArray)
  clear hm hu hb hb1 hal1
  obtain ⟨W1, hW1⟩ : ∃ W, W = w1.alloc (.cells zev.toArray 25) := ⟨_, rfl⟩
  rw [← hW1] at hm1 hu1 hb1'
  have HW1 := Lib.hid hW1
  clear hW1
  go_wp2_with (refine wpList_store_newW 25 _ zev.toArray HW1.out (.tmp 7) (.tmp 14) rfl rfl rfl rfl zev_info rfl zev_all ?_)
  refine (last_un _ _ hu1).mono ?_; rintro e w2 ⟨rfl, hb2⟩
  have hal2 : ∀ cs : Array Value, Below w2.heap.size w2 (w2.alloc (.cells cs 25)) := fun cs => (Below.refl _ _).alloc (Nat.le_refl _) _
  have hm2 := (hm1.below hb2).below (hal2 zev.toArray)
  have hu2 := (hu1.below hb2).below (hal2 zev.toArray)
  have hb2' := bmore (bmore hb1' hb2) (hal2 zev.toArray)
  clear hm1 hu1 hb1' hb2 hal2 HW1
  obtain ⟨W2, hW2⟩ : ∃ W, W = w2.alloc (.cells zev.toArray 25) := ⟨_, rfl⟩
  rw [← hW2] at hm2 hu2 hb2'
  have HW2 := Lib.hid hW2
  clear hW2
  have hr := hm2.range 0 es (fun j v h => by simpa using h)
  have HR := Lib.hid hr
  clear hr
  go_wp2_with (first | (refine wpList_store_newW 25 _ zev.toArray HW2.out (.tmp 9) (.tmp 18) rfl rfl rfl rfl zev_info rfl zev_all ?_) | (refine wpList_load_mid rfl 25 (.tmp 2) rfl w.heap.size 0 rfl es _ HR.out Try.underlying25 rfl HI.out ?_))
  clear HW2
  refine (add_un _ _ _ (HN.out _)).mono ?_; rintro e w3 ⟨rfl, hb3⟩
  have hm3 := hm2.below hb3
  have hu3 := hu2.below hb3
  have hb3' := bmore hb2' hb3
  have HR3 := Lib.hid (hm3.range 0 es (fun j v h => by simpa using h))
  clear hm2 hu2 hb2' hb3
  go_wp2_with (refine wpList_load_midW (by rfl) 25 (.tmp 2) rfl w.heap.size 0 rfl es _ HR3.out Try.underlying25 rfl HI.out ?_)
  refine (add_un _ _ _ hu3).mono ?_; rintro e w4 ⟨rfl, hb4⟩
  have hu4 := hu3.below hb4
  have hb4' := bmore hb3' hb4
  clear hm3 hu3 hb3' hb4
  go_wp2_with (first | (go_at_call 6; refine (all_un _ _ (by first | exact hu4 | exact HN.out _)).mono ?_; rintro e w' ⟨rfl, rfl⟩) | (go_at_call 7; refine (from_un _ _ _ (by first | exact hu4 | exact HN.out _)).mono ?_; rintro e w' ⟨rfl, rfl⟩) | (go_at_call 8; refine (len_un _ _ (by first | exact hu4 | exact HN.out _)).mono ?_; rintro e w' ⟨rfl, rfl⟩))
  go_ret
  exact ⟨rfl, hb4'⟩
end Go.Proofs.Ytcffdceadmdecaa
