/- The reference's numbers by digits (lines of XTrTexts). -/
import Derived.Test.YtoklonmiejdgmaaGreatDoorGScriptPrints0
import Derived.Deep.RegionHeld3
import Derived.BigQuiet
import Derived.Lib.QuietBelow
import Derived.Lib.ItoaLen
import Derived.Test.YtoklonmiejdgmaaGreatDoorGScriptPrints5
import Derived.Test.YtoklonmiejdgmaaGreatDoorRows
import Derived.Laws.BitsAllLaws
namespace Go.Proofs.YtoklonmiejdgmaaGreatDoor
set_option linter.unusedVariables false
set_option linter.unusedSimpArgs false
set_option linter.unnecessarySimpa false
open Go.RowKit Go.Sort
set_option maxHeartbeats 2000000
set_option maxRecDepth 100000
set_option linter.unusedVariables false
theorem strOfNums_one (b : Nat) (hb : b < 256) : strOfNums [(b : Int)] = ⟨#[UInt8.ofNat b]⟩:=by
 simp [strOfNums]
theorem conv_at (b : Nat) (hb : b < 256) (w : World) (g : Nat) (hg : w.cell? ⟨g,0,none⟩ = some (.int .u8 (b : Int))) : (convert 76 9 (.slice (some ⟨g,0,none⟩) 1 1)).run Tryz.prog w = .ok (.string ⟨#[UInt8.ofNat b]⟩) w:=by
 refine (run_convert_bytes_arg w 76 5 Tryz.underlying76 Tryz.underlying5 g 0 1 1 [(b : Int)] rfl (fun i hi=>?_) 9 Tryz.underlying9).trans ?_
 ·obtain rfl : i = 0:=by omega
  exact hg
 ·rw [strOfNums_one b hb]
theorem conv_one (b : Nat) (hb : b < 256) (w : World) (x : Int) (hx : x = (b : Int)) : (convert 76 9 (.slice (some ⟨w.heap.size,0,none⟩) 1 1)).run Tryz.prog (w.alloc (.cells #[.int .u8 x] 5)) = .ok (.string ⟨#[UInt8.ofNat b]⟩) (w.alloc (.cells #[.int .u8 x] 5)):=by
 subst hx
 refine conv_at b hb _ _ ?_
 rw [World.cell?_alloc_mark w _ _ _ 0];rfl
theorem decDigits_step (n : Nat) (h : ¬ n < 10) : Lib.decDigits n = Lib.decDigits (n / 10) ++ [UInt8.ofNat (48 + n % 10)]:=by
 rw [Lib.decDigits,dif_neg h]
theorem digits_any : ∀ (n : Nat) (w : World),n ≤ 9223372036854775807 → Calls Tryz.prog 45 #[.int .i64 n] w fun e w'=>e = .returned (.string ⟨(Lib.decDigits n).toArray⟩) ∧ Below w.heap.size w w':=by
 intro n
 induction n using Nat.strongRecOn with
 | _ n ih=>
  intro w hn
  obtain ⟨sn,hsn⟩ : ∃ s : ByteArray,s = ⟨(Lib.decDigits n).toArray⟩:=⟨_,rfl⟩
  rw [← hsn]
  by_cases h : n < 10
  ·have d0 : decide ((n : Int) < 10) = true:=by simp;omega
   have w0 : IntKind.i64.wrap (48 + (n : Int)) = 48 + (n : Int):=by rw [IntKind.wrap_i64];omega
   have w1 : IntKind.u8.wrap (48 + (n : Int)) = 48 + (n : Int):=by rw [IntKind.wrap_u8];omega
   have hcv:=conv_one (48 + n) (by omega) w (48 + (n : Int)) (by omega)
   have hd : (⟨#[UInt8.ofNat (48 + n)]⟩ : ByteArray) = sn:=by rw [hsn,Lib.decDigits_one h]
   rw [hd] at hcv
   have hb : Hid (Below w.heap.size w (w.alloc (.cells #[.int .u8 (48 + (n : Int))] 5))):=(Below.refl _ _).alloc (Nat.le_refl _) _
   clear ih hd hsn
   go_enter Tryz.func45,Tryz.ntmps45
   go_wp2_with fail
   go_ret
   exact ⟨rfl,hb.out⟩
  ·have d0 : decide ((n : Int) < 10) = false:=by simp;omega
   have w0 : IntKind.i64.wrap (48 + (n : Int) % 10) = 48 + (n : Int) % 10:=by rw [IntKind.wrap_i64];omega
   have w1 : IntKind.u8.wrap (48 + (n : Int) % 10) = 48 + (n : Int) % 10:=by rw [IntKind.wrap_u8];omega
   have w2 : IntKind.i64.wrap ((n : Int) / 10) = (n : Int) / 10:=by rw [IntKind.wrap_i64];omega
   have w3 : (n : Int).tmod 10 = (n : Int) % 10:=by rw [Int.tmod_eq_emod_of_nonneg (by omega)]
   obtain ⟨sq,hsq⟩ : ∃ s : ByteArray,s = ⟨(Lib.decDigits (n / 10)).toArray⟩:=⟨_,rfl⟩
   obtain ⟨s1,hs1⟩ : ∃ s : ByteArray,s = ⟨#[UInt8.ofNat (48 + n % 10)]⟩:=⟨_,rfl⟩
   have hih : Hid (∀ w,Calls Tryz.prog 45 #[.int .i64 ((n : Int) / 10)] w fun e w'=>e = .returned (.string sq) ∧ Below w.heap.size w w'):=fun w=>by
    have:=ih (n / 10) (by omega) w (by omega)
    rw [Int.natCast_ediv,← hsq] at this
    exact this
   have hst : Hid (sq ++ s1 = sn):=by rw [Hid,hsq,hs1,hsn,decDigits_step n h,← ba_append]
   have hcv : Hid (∀ (W : World) (g : Nat),W.cell? ⟨g,0,none⟩ = some (.int .u8 (48 + (n : Int) % 10)) → (convert 76 9 (.slice (some ⟨g,0,none⟩) 1 1)).run Tryz.prog W = .ok (.string s1) W):=fun W g hg=>by
    rw [hs1]
    exact conv_at (48 + n % 10) (by omega) W g (by rw [hg];congr 2)
   have hnew : Hid (∀ (W : World),(W.alloc (.cells #[.int .u8 (48 + (n : Int) % 10)] 5)).cell? ⟨W.heap.size,0,none⟩ = some (.int .u8 (48 + (n : Int) % 10))):=fun W=>by rw [World.cell?_alloc_mark W _ _ _ 0];rfl
   have n0 : (0 : Int) ≤ n:=by omega
   have hsz : sq.size + s1.size ≤ 9223372036854775807:=by rw [hsq,hs1,ba_size'];have:=Lib.nDigits_le20 (n / 10) (by omega);rw [Lib.decDigits_length];show _ + 1 ≤ _;omega
   clear ih hsq hs1 hsn
   go_enter Tryz.func45,Tryz.ntmps45
   go_wp2_with fail
   refine wp_region_held_drew (S:=fun W'=>True) (by kernel_rfl) trivial (fun hHeld=>?_)
   (refine wpAnyH_take (i:=0) (v:=(.int .i64 (n : Int))) rfl (by kernel_rfl) (by kernel_rfl) (by kernel_rfl) (fun _ _ _ h=>h) (Or.inl ⟨by rfl,(by intro w hSw;go_simp)⟩) (by assumption) ?_;try simp only [Act.put,List.getElem_toArray,List.getElem_cons_succ,List.getElem_cons_zero,List.setIfInBounds_toArray,List.set_cons_zero,List.set_cons_succ])
   (refine wpAnyH_take (i:=1) (v:=(.int .i64 ((n : Int) / 10))) rfl (by kernel_rfl) (by kernel_rfl) (by kernel_rfl) (fun _ _ _ h=>h) (Or.inl ⟨by rfl,(by intro w hSw;go_simp)⟩) (by assumption) ?_;try simp only [Act.put,List.getElem_toArray,List.getElem_cons_succ,List.getElem_cons_zero,List.setIfInBounds_toArray,List.set_cons_zero,List.set_cons_succ])
   (refine wpAnyH_take (i:=3) (v:=(.int .i64 (n : Int))) rfl (by kernel_rfl) (by kernel_rfl) (by kernel_rfl) (fun _ _ _ h=>h) (Or.inl ⟨by rfl,(by intro w hSw;go_simp)⟩) (by assumption) ?_;try simp only [Act.put,List.getElem_toArray,List.getElem_cons_succ,List.getElem_cons_zero,List.setIfInBounds_toArray,List.set_cons_zero,List.set_cons_succ])
   (refine wpAnyH_take (i:=4) (v:=(.int .i64 ((n : Int) % 10))) rfl (by kernel_rfl) (by kernel_rfl) (by kernel_rfl) (fun _ _ _ h=>h) (Or.inl ⟨by rfl,(by intro w hSw;go_simp)⟩) (by assumption) ?_;try simp only [Act.put,List.getElem_toArray,List.getElem_cons_succ,List.getElem_cons_zero,List.setIfInBounds_toArray,List.set_cons_zero,List.set_cons_succ])
   (refine wpAnyH_take (i:=5) (v:=(.int .i64 (48 + (n : Int) % 10))) rfl (by kernel_rfl) (by kernel_rfl) (by kernel_rfl) (fun _ _ _ h=>h) (Or.inl ⟨by rfl,(by intro w hSw;go_simp)⟩) (by assumption) ?_;try simp only [Act.put,List.getElem_toArray,List.getElem_cons_succ,List.getElem_cons_zero,List.setIfInBounds_toArray,List.set_cons_zero,List.set_cons_succ])
   (refine wpAnyH_take (i:=6) (v:=(.int .u8 (48 + (n : Int) % 10))) rfl (by kernel_rfl) (by kernel_rfl) (by kernel_rfl) (fun _ _ _ h=>h) (Or.inl ⟨by rfl,(by intro w hSw;go_simp)⟩) (by assumption) ?_;try simp only [Act.put,List.getElem_toArray,List.getElem_cons_succ,List.getElem_cons_zero,List.setIfInBounds_toArray,List.set_cons_zero,List.set_cons_succ])
   refine wpAnyH_ready (rs:=[2,7]) (by kernel_rfl) (by simp) ?_
   refine AllReadyH.cons rfl (fun K hK=>?_) (AllReadyH.cons rfl (fun K hK=>?_) AllReadyH.nil)
   ·go_simp
    refine (hih.out _).mono ?_
    rintro e W1 ⟨rfl,hb1⟩
    have hb2 : Hid (Below w.heap.size w W1):=((Below.refl _ w).drew).trans hb1
    dsimp only
    (refine hK.out _ _ (trivial) (fun hHeld=>?_);clear hK K;try simp only [Act.put,List.getElem_toArray,List.getElem_cons_succ,List.getElem_cons_zero,List.setIfInBounds_toArray,List.set_cons_zero,List.set_cons_succ])
    (refine wpAnyH_ready (rs:=[7]) (by kernel_rfl) (by simp) ?_;refine AllReadyH.cons rfl (fun K hK=>?_) AllReadyH.nil)
    go_simp
    (refine hK.out _ _ (trivial) (fun hHeld=>?_);clear hK K;try simp only [Act.put,List.getElem_toArray,List.getElem_cons_succ,List.getElem_cons_zero,List.setIfInBounds_toArray,List.set_cons_zero,List.set_cons_succ])
    have hc1:=hcv.out _ _ (hnew.out W1)
    (refine wpAnyH_ready (rs:=[8]) (by kernel_rfl) (by simp) ?_;refine AllReadyH.cons rfl (fun K hK=>?_) AllReadyH.nil)
    go_simp
    (refine hK.out _ _ (trivial) (fun hHeld=>?_);clear hK K;try simp only [Act.put,List.getElem_toArray,List.getElem_cons_succ,List.getElem_cons_zero,List.setIfInBounds_toArray,List.set_cons_zero,List.set_cons_succ])
    (refine wpAnyH_take (i:=9) (v:=(.string (sq ++ s1))) rfl (by kernel_rfl) (by kernel_rfl) (by kernel_rfl) (fun _ _ _ h=>h) (Or.inl ⟨by rfl,(by intro w hSw;go_simp)⟩) (by assumption) ?_;try simp only [Act.put,List.getElem_toArray,List.getElem_cons_succ,List.getElem_cons_zero,List.setIfInBounds_toArray,List.set_cons_zero,List.set_cons_succ])
    rw [hst.out]
    (refine wpAnyH_take (i:=10) (v:=(.string sn)) rfl (by kernel_rfl) (by kernel_rfl) (by kernel_rfl) (fun _ _ _ h=>h) (Or.inl ⟨by rfl,(by intro w hSw;go_simp)⟩) (by assumption) ?_;try simp only [Act.put,List.getElem_toArray,List.getElem_cons_succ,List.getElem_cons_zero,List.setIfInBounds_toArray,List.set_cons_zero,List.set_cons_succ])
    refine wpAnyH_done (by kernel_rfl) ?_ _
    go_wp2_with fail
    go_ret
    exact ⟨rfl,hb2.out.alloc hb2.out.size _⟩
   ·go_simp
    (refine hK.out _ _ (trivial) (fun hHeld=>?_);clear hK K;try simp only [Act.put,List.getElem_toArray,List.getElem_cons_succ,List.getElem_cons_zero,List.setIfInBounds_toArray,List.set_cons_zero,List.set_cons_succ])
    have hb2 : Hid (Below w.heap.size w (w.alloc (.cells #[.int .u8 (48 + (n : Int) % 10)] 5)).drew):=((Below.refl _ w).alloc (Nat.le_refl _) _).drew
    have hc0 : (w.alloc (.cells #[.int .u8 (48 + (n : Int) % 10)] 5)).drew.cell? ⟨w.heap.size,0,none⟩ = some (.int .u8 (48 + (n : Int) % 10)):=hnew.out w
    have hlt : Hid (w.heap.size < (w.alloc (.cells #[.int .u8 (48 + (n : Int) % 10)] 5)).drew.heap.size):=World.block_lt_of_cell? _ _ hc0
    generalize (w.alloc (.cells #[.int .u8 (48 + (n : Int) % 10)] 5)).drew = W2 at hb2 hc0 hlt ⊢
    refine wpAnyH_ready (rs:=[2,8]) (by kernel_rfl) (by simp) ?_
    refine AllReadyH.cons rfl (fun K hK=>?_) (AllReadyH.cons rfl (fun K hK=>?_) AllReadyH.nil)
    ·go_simp
     refine (hih.out _).mono ?_
     rintro e W1 ⟨rfl,hb1⟩
     have hb3 : Hid (Below w.heap.size w W1):=hb2.out.trans (hb1.mono hb2.out.size)
     have hc1:=hcv.out W1 w.heap.size ((hb1.cell (p:=⟨w.heap.size,0,none⟩) hlt.out).trans hc0)
     dsimp only
     (refine hK.out _ _ (trivial) (fun hHeld=>?_);clear hK K;try simp only [Act.put,List.getElem_toArray,List.getElem_cons_succ,List.getElem_cons_zero,List.setIfInBounds_toArray,List.set_cons_zero,List.set_cons_succ])
     (refine wpAnyH_ready (rs:=[8]) (by kernel_rfl) (by simp) ?_;refine AllReadyH.cons rfl (fun K hK=>?_) AllReadyH.nil)
     go_simp
     (refine hK.out _ _ (trivial) (fun hHeld=>?_);clear hK K;try simp only [Act.put,List.getElem_toArray,List.getElem_cons_succ,List.getElem_cons_zero,List.setIfInBounds_toArray,List.set_cons_zero,List.set_cons_succ])
     (refine wpAnyH_take (i:=9) (v:=(.string (sq ++ s1))) rfl (by kernel_rfl) (by kernel_rfl) (by kernel_rfl) (fun _ _ _ h=>h) (Or.inl ⟨by rfl,(by intro w hSw;go_simp)⟩) (by assumption) ?_;try simp only [Act.put,List.getElem_toArray,List.getElem_cons_succ,List.getElem_cons_zero,List.setIfInBounds_toArray,List.set_cons_zero,List.set_cons_succ])
     rw [hst.out]
     (refine wpAnyH_take (i:=10) (v:=(.string sn)) rfl (by kernel_rfl) (by kernel_rfl) (by kernel_rfl) (fun _ _ _ h=>h) (Or.inl ⟨by rfl,(by intro w hSw;go_simp)⟩) (by assumption) ?_;try simp only [Act.put,List.getElem_toArray,List.getElem_cons_succ,List.getElem_cons_zero,List.setIfInBounds_toArray,List.set_cons_zero,List.set_cons_succ])
     refine wpAnyH_done (by kernel_rfl) ?_ _
     go_wp2_with fail
     go_ret
     exact ⟨rfl,hb3.out⟩
    ·have hc1:=hcv.out W2 w.heap.size hc0
     go_simp
     (refine hK.out _ _ (trivial) (fun hHeld=>?_);clear hK K;try simp only [Act.put,List.getElem_toArray,List.getElem_cons_succ,List.getElem_cons_zero,List.setIfInBounds_toArray,List.set_cons_zero,List.set_cons_succ])
     (refine wpAnyH_ready (rs:=[2]) (by kernel_rfl) (by simp) ?_;refine AllReadyH.cons rfl (fun K hK=>?_) AllReadyH.nil)
     go_simp
     refine (hih.out _).mono ?_
     rintro e W1 ⟨rfl,hb1⟩
     have hb3 : Hid (Below w.heap.size w W1):=hb2.out.trans (hb1.mono hb2.out.size)
     dsimp only
     (refine hK.out _ _ (trivial) (fun hHeld=>?_);clear hK K;try simp only [Act.put,List.getElem_toArray,List.getElem_cons_succ,List.getElem_cons_zero,List.setIfInBounds_toArray,List.set_cons_zero,List.set_cons_succ])
     (refine wpAnyH_take (i:=9) (v:=(.string (sq ++ s1))) rfl (by kernel_rfl) (by kernel_rfl) (by kernel_rfl) (fun _ _ _ h=>h) (Or.inl ⟨by rfl,(by intro w hSw;go_simp)⟩) (by assumption) ?_;try simp only [Act.put,List.getElem_toArray,List.getElem_cons_succ,List.getElem_cons_zero,List.setIfInBounds_toArray,List.set_cons_zero,List.set_cons_succ])
     rw [hst.out]
     (refine wpAnyH_take (i:=10) (v:=(.string sn)) rfl (by kernel_rfl) (by kernel_rfl) (by kernel_rfl) (fun _ _ _ h=>h) (Or.inl ⟨by rfl,(by intro w hSw;go_simp)⟩) (by assumption) ?_;try simp only [Act.put,List.getElem_toArray,List.getElem_cons_succ,List.getElem_cons_zero,List.setIfInBounds_toArray,List.set_cons_zero,List.set_cons_succ])
     refine wpAnyH_done (by kernel_rfl) ?_ _
     go_wp2_with fail
     go_ret
     exact ⟨rfl,hb3.out⟩
end Go.Proofs.YtoklonmiejdgmaaGreatDoor
/- Contracts (Isa): Isa, Isa2, Isa3, Isa4, IsaLaws. -/
namespace Go.Proofs.YtoklonmiejdgmaaGreatDoor
set_option linter.unusedVariables false
set_option linter.unusedSimpArgs false
set_option linter.unnecessarySimpa false
namespace Isa
set_option maxHeartbeats 4000000
set_option maxRecDepth 100000
section
open Go.RowKit
def hasL : List Int:=[0,7,7,7,7,7,7,7,7,7,7,7,7,7,11,11,11,11,11,11,11,11,9,11,11,11,14,14,14,14,14,14,9,11,0,0,0,9,10,0,0,0]
def hasI (op : Nat) : Int:=hasL.getD op 0
/-- The table lies in memory. -/
def Tab (w : World) : Prop:=∀ i,i < 42 → w.cell? ⟨2,i,none⟩ = some (.int .i64 (hasI i))
theorem Tab.below {w w' : World} (h : Tab w) (hb : Below w.heap.size w w') : Tab w':=fun i hi=>by
 rw [hb.cell (p:=⟨2,i,none⟩) (World.block_lt_of_cell? w _ (h i hi))]
 exact h i hi
def realB (op : Int) : Bool:=decide (1 ≤ op) && decide (op ≤ 41)
theorem real_any (op : Int) (w : World) : Calls Tryz.prog 197 #[.int .i64 op] w fun e w'=>e = .returned (.bool (realB op)) ∧ w = w':=by
 by_cases h : 1 ≤ op
 ·have h1 : decide (1 ≤ op) = true:=by simpa using h
  go_enter Tryz.func197,Tryz.ntmps197
  go_wp2
  go_ret
  exact ⟨ret_bool (by simp [realB,h]),rfl⟩
 ·have h1 : decide (1 ≤ op) = false:=by simpa using h
  go_enter Tryz.func197,Tryz.ntmps197
  go_wp2
  go_ret
  exact ⟨ret_bool (by simp [realB];omega),rfl⟩
def regB (may : Bool) (n : Int) : Bool:=if may then decide (0 ≤ n) && decide (n < 16) else n == 0
theorem register_any (may : Bool) (n : Int) (w : World) : Calls Tryz.prog 198 #[.bool may,.int .i64 n] w fun e w'=>e = .returned (.bool (regB may n)) ∧ w = w':=by
 cases may
 ·go_enter Tryz.func198,Tryz.ntmps198
  go_wp2
  go_ret
  exact ⟨ret_bool (by simp [regB]),rfl⟩
 ·by_cases h : 0 ≤ n
  ·have h1 : decide (0 ≤ n) = true:=by simpa using h
   go_enter Tryz.func198,Tryz.ntmps198
   go_wp2
   go_ret
   exact ⟨ret_bool (by simp [regB,h]),rfl⟩
  ·have h1 : decide (0 ≤ n) = false:=by simpa using h
   go_enter Tryz.func198,Tryz.ntmps198
   go_wp2
   go_ret
   exact ⟨ret_bool (by simp [regB];omega),rfl⟩
def immB (op : Nat) (n : Int) : Bool:=
 if op = 18 ∨ op = 19 ∨ op = 20 then decide (0 ≤ n) && decide (n ≤ 31)
 else if op = 37 ∨ op = 38 then decide (0 ≤ n) && decide (n < 9)
 else if bits BinOp.and IntKind.i64 (hasI op) 8 == 0 then n == 0 else decide (-8192 ≤ n) && decide (n ≤ 8191)
theorem imm_any (op : Nat) (n : Int) (hop : op < 42) (w : World) (ht : Tab w) : Calls Tryz.prog 199 #[.int .i64 op,.int .i64 n] w fun e w'=>e = .returned (.bool (immB op n)) ∧ w = w':=by
 have hc:=ht op hop
 clear ht
 by_cases h1 : op = 18 ∨ op = 19 ∨ op = 20
 ·have e1 : immB op n = (decide (0 ≤ n) && decide (n ≤ 31)):=by rw [immB,if_pos h1]
  have E:=Lib.hid e1;clear e1
  by_cases hn : 0 ≤ n
  ·have h2 : decide (0 ≤ n) = true:=by simpa using hn
   rcases h1 with rfl | rfl | rfl
   all_goals
    go_enter Tryz.func199,Tryz.ntmps199
    go_wp2
    go_ret
    exact ⟨ret_bool (by rw [E.out];simp [hn]),rfl⟩
  ·have h2 : decide (0 ≤ n) = false:=by simpa using hn
   rcases h1 with rfl | rfl | rfl
   all_goals
    go_enter Tryz.func199,Tryz.ntmps199
    go_wp2
    go_ret
    exact ⟨ret_bool (by rw [E.out];simp;omega),rfl⟩
 ·by_cases h2 : op = 37 ∨ op = 38
  ·have e1 : immB op n = (decide (0 ≤ n) && decide (n < 9)):=by rw [immB,if_neg h1,if_pos h2]
   have E:=Lib.hid e1;clear e1
   by_cases hn : 0 ≤ n
   ·have h3 : decide (0 ≤ n) = true:=by simpa using hn
    rcases h2 with rfl | rfl
    all_goals
     go_enter Tryz.func199,Tryz.ntmps199
     go_wp2
     go_ret
     exact ⟨ret_bool (by rw [E.out];simp [hn]),rfl⟩
   ·have h3 : decide (0 ≤ n) = false:=by simpa using hn
    rcases h2 with rfl | rfl
    all_goals
     go_enter Tryz.func199,Tryz.ntmps199
     go_wp2
     go_ret
     exact ⟨ret_bool (by rw [E.out];simp;omega),rfl⟩
  ·have g1 : ((op : Int) == 18) = false:=by simp;omega
   have g2 : ((op : Int) == 19) = false:=by simp;omega
   have g3 : ((op : Int) == 20) = false:=by simp;omega
   have g4 : ((op : Int) == 37) = false:=by simp;omega
   have g5 : ((op : Int) == 38) = false:=by simp;omega
   cases hb : bits BinOp.and IntKind.i64 (hasI op) 8 == 0
   ·have e1 : immB op n = (decide (-8192 ≤ n) && decide (n ≤ 8191)):=by rw [immB,if_neg h1,if_neg h2,hb];rfl
    have E:=Lib.hid e1;clear e1 h1 h2
    by_cases hn : -8192 ≤ n
    ·have h3 : decide (-8192 ≤ n) = true:=by simpa using hn
     go_enter Tryz.func199,Tryz.ntmps199
     go_wp2
     go_ret
     exact ⟨ret_bool (by rw [E.out];simp [hn]),rfl⟩
    ·have h3 : decide (-8192 ≤ n) = false:=by simpa using hn
     go_enter Tryz.func199,Tryz.ntmps199
     go_wp2
     go_ret
     exact ⟨ret_bool (by rw [E.out];simp;omega),rfl⟩
   ·have e1 : immB op n = (n == 0):=by rw [immB,if_neg h1,if_neg h2,hb];rfl
    have E:=Lib.hid e1;clear e1 h1 h2
    go_enter Tryz.func199,Tryz.ntmps199
    go_wp2
    go_ret
    exact ⟨ret_bool (by rw [E.out]),rfl⟩
end
section
open Go.RowKit
def validB (op d a b n : Int) : Bool:=
 realB op && (regB (bits BinOp.and IntKind.i64 (hasI op.toNat) 1 != 0) d && (regB (bits BinOp.and IntKind.i64 (hasI op.toNat) 2 != 0) a && (regB (bits BinOp.and IntKind.i64 (hasI op.toNat) 4 != 0) b && immB op.toNat n)))
theorem alloc_tab {w : World} (h : Tab w) (o : Obj) : Tab (w.alloc o):=h.below ((Below.refl _ _).alloc (Nat.le_refl _) o)
theorem valid_any (op d a b n : Int) (w : World) (ht : Tab w) : Calls Tryz.prog 176 #[(.agg #[.int .i64 (op),.int .i64 (d),.int .i64 (a),.int .i64 (b),.int .i64 (n)])] w fun e w'=>e = .returned (.bool (validB op d a b n)) ∧ Below w.heap.size w w':=by
 cases hr : realB op
 ·have hE : validB op d a b n = false:=by simp [validB,hr]
  have HE:=Lib.hid hE;clear hE
  go_enter Tryz.func176,Tryz.ntmps176
  go_wp2_with (go_at_call 197;refine (real_any _ _).mono ?_;rintro e w' ⟨rfl,rfl⟩)
  go_ret
  exact ⟨ret_bool (by rw [HE.out]),(Below.refl _ _).alloc (Nat.le_refl _) _⟩
 ·obtain ⟨o,rfl⟩ : ∃ o : Nat,op = o:=⟨op.toNat,by simp [realB] at hr;omega⟩
  have ho : o < 42:=by simp [realB] at hr;omega
  have hc:=ht o ho
  have h0 : 2 < w.heap.size:=World.block_lt_of_cell? w ⟨2,o,none⟩ hc
  have HT:=Lib.hid (alloc_tab ht (.cells #[.int .i64 o,.int .i64 d,.int .i64 a,.int .i64 b,.int .i64 n] 145))
  clear ht
  cases h1 : regB (bits BinOp.and IntKind.i64 (hasI o) 1 != 0) d
  ·have HE : Hid (validB o d a b n = false):=by simp [Hid,validB,h1]
   go_enter Tryz.func176,Tryz.ntmps176
   go_wp2_with (first | (go_at_call 197;refine (real_any _ _).mono ?_;rintro e w' ⟨rfl,rfl⟩) | (go_at_call 198;refine (register_any _ _ _).mono ?_;rintro e w' ⟨rfl,rfl⟩))
   go_ret
   exact ⟨ret_bool (by rw [HE.out]),(Below.refl _ _).alloc (Nat.le_refl _) _⟩
  ·cases h2 : regB (bits BinOp.and IntKind.i64 (hasI o) 2 != 0) a
   ·have HE : Hid (validB o d a b n = false):=by simp [Hid,validB,h2]
    go_enter Tryz.func176,Tryz.ntmps176
    go_wp2_with (first | (go_at_call 197;refine (real_any _ _).mono ?_;rintro e w' ⟨rfl,rfl⟩) | (go_at_call 198;refine (register_any _ _ _).mono ?_;rintro e w' ⟨rfl,rfl⟩))
    go_ret
    exact ⟨ret_bool (by rw [HE.out]),(Below.refl _ _).alloc (Nat.le_refl _) _⟩
   ·cases h3 : regB (bits BinOp.and IntKind.i64 (hasI o) 4 != 0) b
    ·have HE : Hid (validB o d a b n = false):=by simp [Hid,validB,h3]
     go_enter Tryz.func176,Tryz.ntmps176
     go_wp2_with (first | (go_at_call 197;refine (real_any _ _).mono ?_;rintro e w' ⟨rfl,rfl⟩) | (go_at_call 198;refine (register_any _ _ _).mono ?_;rintro e w' ⟨rfl,rfl⟩))
     go_ret
     exact ⟨ret_bool (by rw [HE.out]),(Below.refl _ _).alloc (Nat.le_refl _) _⟩
    ·have HE : Hid (validB o d a b n = immB o n):=by simp [Hid,validB,hr,h1,h2,h3]
     go_enter Tryz.func176,Tryz.ntmps176
     go_wp2_with (first | (go_at_call 197;refine (real_any _ _).mono ?_;rintro e w' ⟨rfl,rfl⟩) | (go_at_call 198;refine (register_any _ _ _).mono ?_;rintro e w' ⟨rfl,rfl⟩) | (go_at_call 199;refine (imm_any _ _ ho _ HT.out).mono ?_;rintro e w' ⟨rfl,rfl⟩))
     go_ret
     exact ⟨ret_bool (by rw [HE.out]),(Below.refl _ _).alloc (Nat.le_refl _) _⟩
/-- The word of a right instruction. -/
def wordI (op d a b n : Int) : Int:=op + d * 64 + a * 1024 + b * 16384 + n % 16384 * 262144
def encW (op d a b n : Int) : Int:=if validB op d a b n then wordI op d a b n else 0
def encE (op d a b n : Int) : Int:=if validB op d a b n then 0 else 6
theorem regB_bound (may : Bool) (n : Int) (h : regB may n = true) : 0 ≤ n ∧ n ≤ 15:=by
 cases may <;> simp [regB] at h <;> omega
theorem immB_bound (op : Nat) (n : Int) (h : immB op n = true) : -8192 ≤ n ∧ n ≤ 8191:=by
 unfold immB at h
 split at h
 ·simp at h;omega
 ·split at h
  ·simp at h;omega
  ·split at h
   ·simp at h;omega
   ·simp at h;omega
theorem validB_bounds {op d a b n : Int} (h : validB op d a b n = true) : (1 ≤ op ∧ op ≤ 41) ∧ (0 ≤ d ∧ d ≤ 15) ∧ (0 ≤ a ∧ a ≤ 15) ∧ (0 ≤ b ∧ b ≤ 15) ∧ (-8192 ≤ n ∧ n ≤ 8191):=by
 simp only [validB,Bool.and_eq_true] at h
 obtain ⟨h1,h2,h3,h4,h5⟩:=h
 simp [realB] at h1
 exact ⟨h1,regB_bound _ _ h2,regB_bound _ _ h3,regB_bound _ _ h4,immB_bound _ _ h5⟩
theorem nat_word (o d a b m : Nat) (ho : o < 64) (hd : d < 16) (ha : a < 16) (hb : b < 16) : (((o ||| d * 64) ||| a * 1024) ||| b * 16384) ||| m * 262144 = o + d * 64 + a * 1024 + b * 16384 + m * 262144:=by
 have j : ∀ (i x y : Nat),x < 2 ^ i → y % 2 ^ i = 0 → x ||| y = x + y:=fun i x y hx hy=>by rw [Nat.or_comm,nat_join i y x hy hx,Nat.add_comm]
 rw [j 6 o (d * 64) (by omega) (by omega),j 10 (o + d * 64) (a * 1024) (by omega) (by omega),j 14 _ (b * 16384) (by omega) (by omega),j 18 _ (m * 262144) (by omega) (by omega)]
theorem word_eq (o d a b : Nat) (n : Int) (ho : o < 64) (hd : d < 16) (ha : a < 16) (hb : b < 16) :
  bits BinOp.or IntKind.u32 (bits BinOp.or IntKind.u32 (bits BinOp.or IntKind.u32 (bits BinOp.or IntKind.u32 o ((d : Int) * 64)) ((a : Int) * 1024)) ((b : Int) * 16384)) (n % 4294967296 * 262144 % 4294967296) = wordI o d a b n:=by
 obtain ⟨m,hm⟩ : ∃ m : Nat,n % 16384 = m:=⟨(n % 16384).toNat,by omega⟩
 have hm2 : m < 16384:=by omega
 rw [show n % 4294967296 * 262144 % 4294967296 = ((m * 262144 : Nat) : Int) from by omega,show (d : Int) * 64 = ((d * 64 : Nat) : Int) from by simp,show (a : Int) * 1024 = ((a * 1024 : Nat) : Int) from by simp,show (b : Int) * 16384 = ((b * 16384 : Nat) : Int) from by simp]
 have l1 : o ||| d * 64 < 2 ^ 32:=Nat.or_lt_two_pow (by omega) (by omega)
 have l2 : (o ||| d * 64) ||| a * 1024 < 2 ^ 32:=Nat.or_lt_two_pow l1 (by omega)
 have l3 : ((o ||| d * 64) ||| a * 1024) ||| b * 16384 < 2 ^ 32:=Nat.or_lt_two_pow l2 (by omega)
 rw [u32_or_nat _ _ (by omega) (by omega),u32_or_nat _ _ (by omega) (by omega),u32_or_nat _ _ (by omega) (by omega),u32_or_nat _ _ (by omega) (by omega),nat_word o d a b m ho hd ha hb,wordI,hm]
 omega
theorem encode_any (op d a b n : Int) (w : World) (ht : Tab w) : Calls Tryz.prog 194 #[(.agg #[.int .i64 (op),.int .i64 (d),.int .i64 (a),.int .i64 (b),.int .i64 (n)])] w fun e w'=>e = .returned (.tuple #[.int .u32 (encW op d a b n),.int .i64 (encE op d a b n)]) ∧ Below w.heap.size w w':=by
 have HT:=Lib.hid (alloc_tab ht (.cells #[.int .i64 op,.int .i64 d,.int .i64 a,.int .i64 b,.int .i64 n] 145))
 clear ht
 cases hv : validB op d a b n
 ·have HE : Hid (encW op d a b n = 0 ∧ encE op d a b n = 6):=by simp [Hid,encW,encE,hv]
  go_enter Tryz.func194,Tryz.ntmps194
  go_wp2_with (go_at_call 176;refine (valid_any _ _ _ _ _ _ HT.out).mono ?_;rintro e w1 ⟨rfl,hb1⟩)
  go_ret2
  exact ⟨ret_two (by rw [HE.out.1]) (by rw [HE.out.2]),((Below.refl _ _).alloc (Nat.le_refl _) _).trans (hb1.mono (by simp))⟩
 ·have HE : Hid (encW op d a b n = wordI op d a b n ∧ encE op d a b n = 0):=by simp [Hid,encW,encE,hv]
  have hB:=validB_bounds hv
  go_enter Tryz.func194,Tryz.ntmps194
  go_wp2_with fail
  refine (valid_any _ _ _ _ _ _ HT.out).mono ?_;rintro e w1 ⟨rfl,hb1⟩
  have k0 : w1.cell? ⟨w.heap.size,0,none⟩ = some (.int .i64 op):=by rw [hb1.cell (by simp)];go_simp
  have k1 : w1.cell? ⟨w.heap.size,1,none⟩ = some (.int .i64 d):=by rw [hb1.cell (by simp)];go_simp
  have k2 : w1.cell? ⟨w.heap.size,2,none⟩ = some (.int .i64 a):=by rw [hb1.cell (by simp)];go_simp
  have k3 : w1.cell? ⟨w.heap.size,3,none⟩ = some (.int .i64 b):=by rw [hb1.cell (by simp)];go_simp
  have k4 : w1.cell? ⟨w.heap.size,4,none⟩ = some (.int .i64 n):=by rw [hb1.cell (by simp)];go_simp
  go_wp2_with fail
  go_ret2
  refine ⟨ret_two ?_ (by rw [HE.out.2]),((Below.refl _ _).alloc (Nat.le_refl _) _).trans (hb1.mono (by simp))⟩
  rw [HE.out.1]
  obtain ⟨⟨o1,o2⟩,⟨d1,d2⟩,⟨a1,a2⟩,⟨b1,b2⟩,⟨n1,n2⟩⟩:=hB
  obtain ⟨o,rfl⟩:=Int.eq_ofNat_of_zero_le (show 0 ≤ op by omega)
  obtain ⟨d',rfl⟩:=Int.eq_ofNat_of_zero_le d1
  obtain ⟨a',rfl⟩:=Int.eq_ofNat_of_zero_le a1
  obtain ⟨b',rfl⟩:=Int.eq_ofNat_of_zero_le b1
  exact word_eq o d' a' b' n (by omega) (by omega) (by omega) (by omega)
theorem cut_any (x at_ n : Nat) (hx : x < 4294967296) (ha : at_ < 32) (hn : n < 20) (w : World) : Calls Tryz.prog 175 #[.int .u32 x,.int .i64 at_,.int .i64 n] w fun e w'=>e = .returned (.int .i64 ((x / 2 ^ at_ % 2 ^ n : Nat) : Int)) ∧ Below w.heap.size w w':=by
 have hp : (2 : Nat) ^ n ≤ 2 ^ 19:=Nat.pow_le_pow_right (by decide) (by omega)
 have hp0 : 0 < (2 : Nat) ^ n:=Nat.pow_pos (by decide)
 have e2 : (2 : Int) ^ n = ((2 ^ n : Nat) : Int):=by simp
 have q1 : 1 ≤ (2 : Int) ^ n:=by rw [e2];omega
 have q2 : (2 : Int) ^ n ≤ 524288:=by rw [e2];simp only [Nat.reducePow] at hp;omega
 have HP:=Lib.hid hp;have HP0:=Lib.hid hp0;have E2:=Lib.hid e2
 clear hp hp0 e2
 go_enter Tryz.func175,Tryz.ntmps175
 go_wp2_with fail
 go_quiet (fail)
 go_wp2
 go_ret
 refine ⟨ret_int ?_,below_drewN (Below.refl _ _) _⟩
 have e : (x : Int) / 2 ^ at_ = ((x / 2 ^ at_ : Nat) : Int):=by simp
 have e3 : (2 : Int) ^ n - 1 = ((2 ^ n - 1 : Nat) : Int):=by rw [E2.out];have:=HP0.out;omega
 have h1 : x / 2 ^ at_ < 4294967296:=Nat.lt_of_le_of_lt (Nat.div_le_self _ _) hx
 have hp:=HP.out
 simp only [Nat.reducePow] at hp
 rw [e,e3,u32_and_nat _ _ h1 (by omega),Nat.and_two_pow_sub_one_eq_mod,IntWalk.wrap64_in]
 have:=Nat.mod_lt (x / 2 ^ at_) HP0.out
 omega
def decN (x : Nat) : Int:=if x / 262144 < 8192 then ((x / 262144 : Nat) : Int) else ((x / 262144 : Nat) : Int) - 16384
theorem decN_eq (x : Nat) (hx : x < 4294967296) : wrap64 (wrap32 (x : Int) / 262144) = decN x:=by
 unfold wrap64 wrap32 decN
 split <;> omega
def decB (x : Nat) : Bool:=validB ((x : Int) % 64) ((x : Int) / 64 % 16) ((x : Int) / 1024 % 16) ((x : Int) / 16384 % 16) (decN x)
/-- What Decode hands back: the instruction, or nothing. -/
def DecPost (x : Nat) (w : World) (e : Ending) (w' : World) : Prop:=
 e = .returned (.tuple #[(if decB x then (.agg #[.int .i64 ((x : Int) % 64),.int .i64 ((x : Int) / 64 % 16),.int .i64 ((x : Int) / 1024 % 16),.int .i64 ((x : Int) / 16384 % 16),.int .i64 (decN x)]) else (.agg #[.int .i64 (0),.int .i64 (0),.int .i64 (0),.int .i64 (0),.int .i64 (0)])),.bool (decB x)]) ∧ Below w.heap.size w w'
theorem decode_any (x : Nat) (hx : x < 4294967296) (w : World) (ht : Tab w) : Calls Tryz.prog 156 #[.int .u32 x] w (DecPost x w):=by
 have HN:=Lib.hid (decN_eq x hx)
 obtain ⟨n,hn⟩ : ∃ n,n = decN x:=⟨_,rfl⟩
 have HD:=Lib.hid hn
 have HB : Hid (decB x = validB ((x : Int) % 64) ((x : Int) / 64 % 16) ((x : Int) / 1024 % 16) ((x : Int) / 16384 % 16) n):=by rw [Hid,decB,hn]
 clear hn
 go_enter Tryz.func156,Tryz.ntmps156
 go_wp2_with fail
 refine (cut_any x 0 6 hx (by omega) (by omega) _).mono ?_;rintro e w1 ⟨rfl,hb1⟩
 go_wp2_with fail
 refine (cut_any x 6 4 hx (by omega) (by omega) _).mono ?_;rintro e w2 ⟨rfl,hb2⟩
 go_wp2_with fail
 refine (cut_any x 10 4 hx (by omega) (by omega) _).mono ?_;rintro e w3 ⟨rfl,hb3⟩
 go_wp2_with fail
 refine (cut_any x 14 4 hx (by omega) (by omega) _).mono ?_;rintro e w4 ⟨rfl,hb4⟩
 have hb : Below (w.heap.size + 1) (w.alloc (.cells #[.int .i64 0,.int .i64 0,.int .i64 0,.int .i64 0,.int .i64 0] 145)) w4:=by
  have s1:=hb1.size;have s2:=hb2.size;have s3:=hb3.size
  simp only [World.size_alloc] at hb1 s1
  exact hb1.trans ((hb2.mono s1).trans ((hb3.mono (Nat.le_trans s1 s2)).trans (hb4.mono (Nat.le_trans s1 (Nat.le_trans s2 s3)))))
 have ht4 : Tab w4:=(alloc_tab ht _).below (by simpa using hb)
 have hs4:=hb.size
 simp only [World.size_alloc] at hs4
 have hk4 : w4.heap[w.heap.size]? = _:=keepB hb (by omega) (new_block w _ _ rfl)
 have hbw : Below w.heap.size w w4:=((Below.refl _ _).alloc (Nat.le_refl _) _).trans (hb.mono (by omega))
 clear hb1 hb2 hb3 hb4 hb ht
 go_wp2_with fail
 rw [HN.out,← HD.out]
 have HT:=Lib.hid (alloc_tab ht4 (.cells #[.int .i64 ((x : Int) % 64),.int .i64 ((x : Int) / 64 % 16),.int .i64 ((x : Int) / 1024 % 16),.int .i64 ((x : Int) / 16384 % 16),.int .i64 (n)] 145))
 clear ht4
 refine (valid_any _ _ _ _ _ _ HT.out).mono ?_;rw [← HB.out];rintro e w5 ⟨rfl,hb5⟩
 have s5:=hb5.size
 simp only [World.size_alloc] at hb5 s5
 have hkA : w5.heap[w.heap.size]? = _:=keepB hb5 (by omega) ((Below.heap_alloc _ _ _ (by omega)).trans hk4)
 have hkB : w5.heap[w4.heap.size]? = _:=keepB hb5 (by omega) (new_block w4 _ _ rfl)
 have a0:=cell_at hkA 0 (.int .i64 0) rfl;have a1:=cell_at hkA 1 (.int .i64 0) rfl;have a2:=cell_at hkA 2 (.int .i64 0) rfl;have a3:=cell_at hkA 3 (.int .i64 0) rfl;have a4:=cell_at hkA 4 (.int .i64 0) rfl;have af0:=free_at hkA 0;have af1:=free_at hkA 1;have af2:=free_at hkA 2;have af3:=free_at hkA 3;have af4:=free_at hkA 4
 have HB5 : Hid (Below w.heap.size w w5):=hbw.trans (((Below.refl _ _).alloc (Nat.le_refl _) _).mono hbw.size |>.trans (hb5.mono (by have:=hbw.size;omega)))
 have b0:=cell_at hkB 0 _ rfl;have b1:=cell_at hkB 1 _ rfl;have b2:=cell_at hkB 2 _ rfl;have b3:=cell_at hkB 3 _ rfl;have b4:=cell_at hkB 4 _ rfl
 have s6 : w.heap.size < w5.heap.size:=by omega
 clear hkA hkB hb5 hk4 hbw HN HT
 cases hd : decB x
 ·go_wp2_with fail
  refine bodyPost_ret (v:=.tuple #[(.agg #[.int .i64 (0),.int .i64 (0),.int .i64 (0),.int .i64 (0),.int .i64 (0)]),.bool false]) ?_ rfl ⟨by simp [hd],?_⟩
  ·simp [results,Tryz.results156,go_sem,a0,a1,a2,a3,a4,s6]
  ·exact (((((HB5.out.setCell (Nat.le_refl _) _).setCell (Nat.le_refl _) _).setCell (Nat.le_refl _) _).setCell (Nat.le_refl _) _).setCell (Nat.le_refl _) _)
 ·go_wp2_with fail
  refine bodyPost_ret (v:=.tuple #[(.agg #[.int .i64 ((x : Int) % 64),.int .i64 ((x : Int) / 64 % 16),.int .i64 ((x : Int) / 1024 % 16),.int .i64 ((x : Int) / 16384 % 16),.int .i64 (n)]),.bool true]) ?_ rfl ⟨by rw [HD.out];simp [hd],?_⟩
  ·simp [results,Tryz.results156,go_sem,a0,a1,a2,a3,a4,s6]
  ·exact (((((HB5.out.setCell (Nat.le_refl _) _).setCell (Nat.le_refl _) _).setCell (Nat.le_refl _) _).setCell (Nat.le_refl _) _).setCell (Nat.le_refl _) _)
end
section
open Go.RowKit
def fl (o : Nat) (m : Int) : Bool:=bits BinOp.and IntKind.i64 (hasI o) m != 0
theorem fl_8 : ∀ o : Fin 42,fl o 8 = ((decide (14 ≤ o.val) && decide (o.val ≤ 33)) || o.val == 37 || o.val == 38):=by decide +kernel
theorem ret_4 {a b c d a' b' c' d' : Bool} (h1 : a = a') (h2 : b = b') (h3 : c = c') (h4 : d = d') : Ending.returned (.tuple #[.bool a,.bool b,.bool c,.bool d]) = .returned (.tuple #[.bool a',.bool b',.bool c',.bool d']):=by rw [h1,h2,h3,h4]
theorem has_1 (w : World) : Calls Tryz.prog 116 #[.int .i64 1] w fun e w'=>e = .returned (.tuple #[.bool true,.bool true,.bool true,.bool false]) ∧ w = w':=by
 go_enter Tryz.func116,Tryz.ntmps116
 go_wp2
 exact bodyPost_ret (v:=.tuple #[.bool true,.bool true,.bool true,.bool false]) (by simp [results,Tryz.results116,go_sem]) rfl ⟨rfl,rfl⟩
theorem has_2 (w : World) : Calls Tryz.prog 116 #[.int .i64 2] w fun e w'=>e = .returned (.tuple #[.bool true,.bool true,.bool true,.bool false]) ∧ w = w':=by
 go_enter Tryz.func116,Tryz.ntmps116
 go_wp2
 exact bodyPost_ret (v:=.tuple #[.bool true,.bool true,.bool true,.bool false]) (by simp [results,Tryz.results116,go_sem]) rfl ⟨rfl,rfl⟩
theorem has_3 (w : World) : Calls Tryz.prog 116 #[.int .i64 3] w fun e w'=>e = .returned (.tuple #[.bool true,.bool true,.bool true,.bool false]) ∧ w = w':=by
 go_enter Tryz.func116,Tryz.ntmps116
 go_wp2
 exact bodyPost_ret (v:=.tuple #[.bool true,.bool true,.bool true,.bool false]) (by simp [results,Tryz.results116,go_sem]) rfl ⟨rfl,rfl⟩
theorem has_4 (w : World) : Calls Tryz.prog 116 #[.int .i64 4] w fun e w'=>e = .returned (.tuple #[.bool true,.bool true,.bool true,.bool false]) ∧ w = w':=by
 go_enter Tryz.func116,Tryz.ntmps116
 go_wp2
 exact bodyPost_ret (v:=.tuple #[.bool true,.bool true,.bool true,.bool false]) (by simp [results,Tryz.results116,go_sem]) rfl ⟨rfl,rfl⟩
theorem has_5 (w : World) : Calls Tryz.prog 116 #[.int .i64 5] w fun e w'=>e = .returned (.tuple #[.bool true,.bool true,.bool true,.bool false]) ∧ w = w':=by
 go_enter Tryz.func116,Tryz.ntmps116
 go_wp2
 exact bodyPost_ret (v:=.tuple #[.bool true,.bool true,.bool true,.bool false]) (by simp [results,Tryz.results116,go_sem]) rfl ⟨rfl,rfl⟩
theorem has_6 (w : World) : Calls Tryz.prog 116 #[.int .i64 6] w fun e w'=>e = .returned (.tuple #[.bool true,.bool true,.bool true,.bool false]) ∧ w = w':=by
 go_enter Tryz.func116,Tryz.ntmps116
 go_wp2
 exact bodyPost_ret (v:=.tuple #[.bool true,.bool true,.bool true,.bool false]) (by simp [results,Tryz.results116,go_sem]) rfl ⟨rfl,rfl⟩
theorem has_7 (w : World) : Calls Tryz.prog 116 #[.int .i64 7] w fun e w'=>e = .returned (.tuple #[.bool true,.bool true,.bool true,.bool false]) ∧ w = w':=by
 go_enter Tryz.func116,Tryz.ntmps116
 go_wp2
 exact bodyPost_ret (v:=.tuple #[.bool true,.bool true,.bool true,.bool false]) (by simp [results,Tryz.results116,go_sem]) rfl ⟨rfl,rfl⟩
theorem has_8 (w : World) : Calls Tryz.prog 116 #[.int .i64 8] w fun e w'=>e = .returned (.tuple #[.bool true,.bool true,.bool true,.bool false]) ∧ w = w':=by
 go_enter Tryz.func116,Tryz.ntmps116
 go_wp2
 exact bodyPost_ret (v:=.tuple #[.bool true,.bool true,.bool true,.bool false]) (by simp [results,Tryz.results116,go_sem]) rfl ⟨rfl,rfl⟩
theorem has_9 (w : World) : Calls Tryz.prog 116 #[.int .i64 9] w fun e w'=>e = .returned (.tuple #[.bool true,.bool true,.bool true,.bool false]) ∧ w = w':=by
 go_enter Tryz.func116,Tryz.ntmps116
 go_wp2
 exact bodyPost_ret (v:=.tuple #[.bool true,.bool true,.bool true,.bool false]) (by simp [results,Tryz.results116,go_sem]) rfl ⟨rfl,rfl⟩
theorem has_10 (w : World) : Calls Tryz.prog 116 #[.int .i64 10] w fun e w'=>e = .returned (.tuple #[.bool true,.bool true,.bool true,.bool false]) ∧ w = w':=by
 go_enter Tryz.func116,Tryz.ntmps116
 go_wp2
 exact bodyPost_ret (v:=.tuple #[.bool true,.bool true,.bool true,.bool false]) (by simp [results,Tryz.results116,go_sem]) rfl ⟨rfl,rfl⟩
theorem has_11 (w : World) : Calls Tryz.prog 116 #[.int .i64 11] w fun e w'=>e = .returned (.tuple #[.bool true,.bool true,.bool true,.bool false]) ∧ w = w':=by
 go_enter Tryz.func116,Tryz.ntmps116
 go_wp2
 exact bodyPost_ret (v:=.tuple #[.bool true,.bool true,.bool true,.bool false]) (by simp [results,Tryz.results116,go_sem]) rfl ⟨rfl,rfl⟩
theorem has_12 (w : World) : Calls Tryz.prog 116 #[.int .i64 12] w fun e w'=>e = .returned (.tuple #[.bool true,.bool true,.bool true,.bool false]) ∧ w = w':=by
 go_enter Tryz.func116,Tryz.ntmps116
 go_wp2
 exact bodyPost_ret (v:=.tuple #[.bool true,.bool true,.bool true,.bool false]) (by simp [results,Tryz.results116,go_sem]) rfl ⟨rfl,rfl⟩
theorem has_13 (w : World) : Calls Tryz.prog 116 #[.int .i64 13] w fun e w'=>e = .returned (.tuple #[.bool true,.bool true,.bool true,.bool false]) ∧ w = w':=by
 go_enter Tryz.func116,Tryz.ntmps116
 go_wp2
 exact bodyPost_ret (v:=.tuple #[.bool true,.bool true,.bool true,.bool false]) (by simp [results,Tryz.results116,go_sem]) rfl ⟨rfl,rfl⟩
theorem has_14 (w : World) : Calls Tryz.prog 116 #[.int .i64 14] w fun e w'=>e = .returned (.tuple #[.bool true,.bool true,.bool false,.bool true]) ∧ w = w':=by
 go_enter Tryz.func116,Tryz.ntmps116
 go_wp2
 exact bodyPost_ret (v:=.tuple #[.bool true,.bool true,.bool false,.bool true]) (by simp [results,Tryz.results116,go_sem]) rfl ⟨rfl,rfl⟩
theorem has_15 (w : World) : Calls Tryz.prog 116 #[.int .i64 15] w fun e w'=>e = .returned (.tuple #[.bool true,.bool true,.bool false,.bool true]) ∧ w = w':=by
 go_enter Tryz.func116,Tryz.ntmps116
 go_wp2
 exact bodyPost_ret (v:=.tuple #[.bool true,.bool true,.bool false,.bool true]) (by simp [results,Tryz.results116,go_sem]) rfl ⟨rfl,rfl⟩
theorem has_16 (w : World) : Calls Tryz.prog 116 #[.int .i64 16] w fun e w'=>e = .returned (.tuple #[.bool true,.bool true,.bool false,.bool true]) ∧ w = w':=by
 go_enter Tryz.func116,Tryz.ntmps116
 go_wp2
 exact bodyPost_ret (v:=.tuple #[.bool true,.bool true,.bool false,.bool true]) (by simp [results,Tryz.results116,go_sem]) rfl ⟨rfl,rfl⟩
theorem has_17 (w : World) : Calls Tryz.prog 116 #[.int .i64 17] w fun e w'=>e = .returned (.tuple #[.bool true,.bool true,.bool false,.bool true]) ∧ w = w':=by
 go_enter Tryz.func116,Tryz.ntmps116
 go_wp2
 exact bodyPost_ret (v:=.tuple #[.bool true,.bool true,.bool false,.bool true]) (by simp [results,Tryz.results116,go_sem]) rfl ⟨rfl,rfl⟩
theorem has_18 (w : World) : Calls Tryz.prog 116 #[.int .i64 18] w fun e w'=>e = .returned (.tuple #[.bool true,.bool true,.bool false,.bool true]) ∧ w = w':=by
 go_enter Tryz.func116,Tryz.ntmps116
 go_wp2
 exact bodyPost_ret (v:=.tuple #[.bool true,.bool true,.bool false,.bool true]) (by simp [results,Tryz.results116,go_sem]) rfl ⟨rfl,rfl⟩
theorem has_19 (w : World) : Calls Tryz.prog 116 #[.int .i64 19] w fun e w'=>e = .returned (.tuple #[.bool true,.bool true,.bool false,.bool true]) ∧ w = w':=by
 go_enter Tryz.func116,Tryz.ntmps116
 go_wp2
 exact bodyPost_ret (v:=.tuple #[.bool true,.bool true,.bool false,.bool true]) (by simp [results,Tryz.results116,go_sem]) rfl ⟨rfl,rfl⟩
theorem has_20 (w : World) : Calls Tryz.prog 116 #[.int .i64 20] w fun e w'=>e = .returned (.tuple #[.bool true,.bool true,.bool false,.bool true]) ∧ w = w':=by
 go_enter Tryz.func116,Tryz.ntmps116
 go_wp2
 exact bodyPost_ret (v:=.tuple #[.bool true,.bool true,.bool false,.bool true]) (by simp [results,Tryz.results116,go_sem]) rfl ⟨rfl,rfl⟩
theorem has_21 (w : World) : Calls Tryz.prog 116 #[.int .i64 21] w fun e w'=>e = .returned (.tuple #[.bool true,.bool true,.bool false,.bool true]) ∧ w = w':=by
 go_enter Tryz.func116,Tryz.ntmps116
 go_wp2
 exact bodyPost_ret (v:=.tuple #[.bool true,.bool true,.bool false,.bool true]) (by simp [results,Tryz.results116,go_sem]) rfl ⟨rfl,rfl⟩
theorem has_22 (w : World) : Calls Tryz.prog 116 #[.int .i64 22] w fun e w'=>e = .returned (.tuple #[.bool true,.bool false,.bool false,.bool true]) ∧ w = w':=by
 go_enter Tryz.func116,Tryz.ntmps116
 go_wp2
 exact bodyPost_ret (v:=.tuple #[.bool true,.bool false,.bool false,.bool true]) (by simp [results,Tryz.results116,go_sem]) rfl ⟨rfl,rfl⟩
theorem has_23 (w : World) : Calls Tryz.prog 116 #[.int .i64 23] w fun e w'=>e = .returned (.tuple #[.bool true,.bool true,.bool false,.bool true]) ∧ w = w':=by
 go_enter Tryz.func116,Tryz.ntmps116
 go_wp2
 exact bodyPost_ret (v:=.tuple #[.bool true,.bool true,.bool false,.bool true]) (by simp [results,Tryz.results116,go_sem]) rfl ⟨rfl,rfl⟩
theorem has_24 (w : World) : Calls Tryz.prog 116 #[.int .i64 24] w fun e w'=>e = .returned (.tuple #[.bool true,.bool true,.bool false,.bool true]) ∧ w = w':=by
 go_enter Tryz.func116,Tryz.ntmps116
 go_wp2
 exact bodyPost_ret (v:=.tuple #[.bool true,.bool true,.bool false,.bool true]) (by simp [results,Tryz.results116,go_sem]) rfl ⟨rfl,rfl⟩
theorem has_25 (w : World) : Calls Tryz.prog 116 #[.int .i64 25] w fun e w'=>e = .returned (.tuple #[.bool true,.bool true,.bool false,.bool true]) ∧ w = w':=by
 go_enter Tryz.func116,Tryz.ntmps116
 go_wp2
 exact bodyPost_ret (v:=.tuple #[.bool true,.bool true,.bool false,.bool true]) (by simp [results,Tryz.results116,go_sem]) rfl ⟨rfl,rfl⟩
theorem has_26 (w : World) : Calls Tryz.prog 116 #[.int .i64 26] w fun e w'=>e = .returned (.tuple #[.bool false,.bool true,.bool true,.bool true]) ∧ w = w':=by
 go_enter Tryz.func116,Tryz.ntmps116
 go_wp2
 exact bodyPost_ret (v:=.tuple #[.bool false,.bool true,.bool true,.bool true]) (by simp [results,Tryz.results116,go_sem]) rfl ⟨rfl,rfl⟩
theorem has_27 (w : World) : Calls Tryz.prog 116 #[.int .i64 27] w fun e w'=>e = .returned (.tuple #[.bool false,.bool true,.bool true,.bool true]) ∧ w = w':=by
 go_enter Tryz.func116,Tryz.ntmps116
 go_wp2
 exact bodyPost_ret (v:=.tuple #[.bool false,.bool true,.bool true,.bool true]) (by simp [results,Tryz.results116,go_sem]) rfl ⟨rfl,rfl⟩
theorem has_28 (w : World) : Calls Tryz.prog 116 #[.int .i64 28] w fun e w'=>e = .returned (.tuple #[.bool false,.bool true,.bool true,.bool true]) ∧ w = w':=by
 go_enter Tryz.func116,Tryz.ntmps116
 go_wp2
 exact bodyPost_ret (v:=.tuple #[.bool false,.bool true,.bool true,.bool true]) (by simp [results,Tryz.results116,go_sem]) rfl ⟨rfl,rfl⟩
theorem has_29 (w : World) : Calls Tryz.prog 116 #[.int .i64 29] w fun e w'=>e = .returned (.tuple #[.bool false,.bool true,.bool true,.bool true]) ∧ w = w':=by
 go_enter Tryz.func116,Tryz.ntmps116
 go_wp2
 exact bodyPost_ret (v:=.tuple #[.bool false,.bool true,.bool true,.bool true]) (by simp [results,Tryz.results116,go_sem]) rfl ⟨rfl,rfl⟩
theorem has_30 (w : World) : Calls Tryz.prog 116 #[.int .i64 30] w fun e w'=>e = .returned (.tuple #[.bool false,.bool true,.bool true,.bool true]) ∧ w = w':=by
 go_enter Tryz.func116,Tryz.ntmps116
 go_wp2
 exact bodyPost_ret (v:=.tuple #[.bool false,.bool true,.bool true,.bool true]) (by simp [results,Tryz.results116,go_sem]) rfl ⟨rfl,rfl⟩
theorem has_31 (w : World) : Calls Tryz.prog 116 #[.int .i64 31] w fun e w'=>e = .returned (.tuple #[.bool false,.bool true,.bool true,.bool true]) ∧ w = w':=by
 go_enter Tryz.func116,Tryz.ntmps116
 go_wp2
 exact bodyPost_ret (v:=.tuple #[.bool false,.bool true,.bool true,.bool true]) (by simp [results,Tryz.results116,go_sem]) rfl ⟨rfl,rfl⟩
theorem has_32 (w : World) : Calls Tryz.prog 116 #[.int .i64 32] w fun e w'=>e = .returned (.tuple #[.bool true,.bool false,.bool false,.bool true]) ∧ w = w':=by
 go_enter Tryz.func116,Tryz.ntmps116
 go_wp2
 exact bodyPost_ret (v:=.tuple #[.bool true,.bool false,.bool false,.bool true]) (by simp [results,Tryz.results116,go_sem]) rfl ⟨rfl,rfl⟩
theorem has_33 (w : World) : Calls Tryz.prog 116 #[.int .i64 33] w fun e w'=>e = .returned (.tuple #[.bool true,.bool true,.bool false,.bool true]) ∧ w = w':=by
 go_enter Tryz.func116,Tryz.ntmps116
 go_wp2
 exact bodyPost_ret (v:=.tuple #[.bool true,.bool true,.bool false,.bool true]) (by simp [results,Tryz.results116,go_sem]) rfl ⟨rfl,rfl⟩
theorem has_34 (w : World) : Calls Tryz.prog 116 #[.int .i64 34] w fun e w'=>e = .returned (.tuple #[.bool false,.bool false,.bool false,.bool false]) ∧ w = w':=by
 go_enter Tryz.func116,Tryz.ntmps116
 go_wp2
 exact bodyPost_ret (v:=.tuple #[.bool false,.bool false,.bool false,.bool false]) (by simp [results,Tryz.results116,go_sem]) rfl ⟨rfl,rfl⟩
theorem has_35 (w : World) : Calls Tryz.prog 116 #[.int .i64 35] w fun e w'=>e = .returned (.tuple #[.bool false,.bool false,.bool false,.bool false]) ∧ w = w':=by
 go_enter Tryz.func116,Tryz.ntmps116
 go_wp2
 exact bodyPost_ret (v:=.tuple #[.bool false,.bool false,.bool false,.bool false]) (by simp [results,Tryz.results116,go_sem]) rfl ⟨rfl,rfl⟩
theorem has_36 (w : World) : Calls Tryz.prog 116 #[.int .i64 36] w fun e w'=>e = .returned (.tuple #[.bool false,.bool false,.bool false,.bool false]) ∧ w = w':=by
 go_enter Tryz.func116,Tryz.ntmps116
 go_wp2
 exact bodyPost_ret (v:=.tuple #[.bool false,.bool false,.bool false,.bool false]) (by simp [results,Tryz.results116,go_sem]) rfl ⟨rfl,rfl⟩
theorem has_37 (w : World) : Calls Tryz.prog 116 #[.int .i64 37] w fun e w'=>e = .returned (.tuple #[.bool true,.bool false,.bool false,.bool true]) ∧ w = w':=by
 go_enter Tryz.func116,Tryz.ntmps116
 go_wp2
 exact bodyPost_ret (v:=.tuple #[.bool true,.bool false,.bool false,.bool true]) (by simp [results,Tryz.results116,go_sem]) rfl ⟨rfl,rfl⟩
theorem has_38 (w : World) : Calls Tryz.prog 116 #[.int .i64 38] w fun e w'=>e = .returned (.tuple #[.bool false,.bool true,.bool false,.bool true]) ∧ w = w':=by
 go_enter Tryz.func116,Tryz.ntmps116
 go_wp2
 exact bodyPost_ret (v:=.tuple #[.bool false,.bool true,.bool false,.bool true]) (by simp [results,Tryz.results116,go_sem]) rfl ⟨rfl,rfl⟩
theorem has_39 (w : World) : Calls Tryz.prog 116 #[.int .i64 39] w fun e w'=>e = .returned (.tuple #[.bool false,.bool false,.bool false,.bool false]) ∧ w = w':=by
 go_enter Tryz.func116,Tryz.ntmps116
 go_wp2
 exact bodyPost_ret (v:=.tuple #[.bool false,.bool false,.bool false,.bool false]) (by simp [results,Tryz.results116,go_sem]) rfl ⟨rfl,rfl⟩
theorem has_40 (w : World) : Calls Tryz.prog 116 #[.int .i64 40] w fun e w'=>e = .returned (.tuple #[.bool false,.bool false,.bool false,.bool false]) ∧ w = w':=by
 go_enter Tryz.func116,Tryz.ntmps116
 go_wp2
 exact bodyPost_ret (v:=.tuple #[.bool false,.bool false,.bool false,.bool false]) (by simp [results,Tryz.results116,go_sem]) rfl ⟨rfl,rfl⟩
theorem has_41 (w : World) : Calls Tryz.prog 116 #[.int .i64 41] w fun e w'=>e = .returned (.tuple #[.bool false,.bool false,.bool false,.bool false]) ∧ w = w':=by
 go_enter Tryz.func116,Tryz.ntmps116
 go_wp2
 exact bodyPost_ret (v:=.tuple #[.bool false,.bool false,.bool false,.bool false]) (by simp [results,Tryz.results116,go_sem]) rfl ⟨rfl,rfl⟩
theorem has_any (o : Nat) (h1 : 1 ≤ o) (h2 : o < 42) (w : World) : Calls Tryz.prog 116 #[.int .i64 o] w fun e w'=>e = .returned (.tuple #[.bool (fl o 1),.bool (fl o 2),.bool (fl o 4),.bool (fl o 8)]) ∧ w = w':=by
 rcases (by omega : o = 1 ∨ o = 2 ∨ o = 3 ∨ o = 4 ∨ o = 5 ∨ o = 6 ∨ o = 7 ∨ o = 8 ∨ o = 9 ∨ o = 10 ∨ o = 11 ∨ o = 12 ∨ o = 13 ∨ o = 14 ∨ o = 15 ∨ o = 16 ∨ o = 17 ∨ o = 18 ∨ o = 19 ∨ o = 20 ∨ o = 21 ∨ o = 22 ∨ o = 23 ∨ o = 24 ∨ o = 25 ∨ o = 26 ∨ o = 27 ∨ o = 28 ∨ o = 29 ∨ o = 30 ∨ o = 31 ∨ o = 32 ∨ o = 33 ∨ o = 34 ∨ o = 35 ∨ o = 36 ∨ o = 37 ∨ o = 38 ∨ o = 39 ∨ o = 40 ∨ o = 41) with rfl | rfl | rfl | rfl | rfl | rfl | rfl | rfl | rfl | rfl | rfl | rfl | rfl | rfl | rfl | rfl | rfl | rfl | rfl | rfl | rfl | rfl | rfl | rfl | rfl | rfl | rfl | rfl | rfl | rfl | rfl | rfl | rfl | rfl | rfl | rfl | rfl | rfl | rfl | rfl | rfl
 ·exact (has_1 w).mono fun e w' h=>⟨h.1.trans (ret_4 (by decide +kernel) (by decide +kernel) (by decide +kernel) (by decide +kernel)),h.2⟩
 ·exact (has_2 w).mono fun e w' h=>⟨h.1.trans (ret_4 (by decide +kernel) (by decide +kernel) (by decide +kernel) (by decide +kernel)),h.2⟩
 ·exact (has_3 w).mono fun e w' h=>⟨h.1.trans (ret_4 (by decide +kernel) (by decide +kernel) (by decide +kernel) (by decide +kernel)),h.2⟩
 ·exact (has_4 w).mono fun e w' h=>⟨h.1.trans (ret_4 (by decide +kernel) (by decide +kernel) (by decide +kernel) (by decide +kernel)),h.2⟩
 ·exact (has_5 w).mono fun e w' h=>⟨h.1.trans (ret_4 (by decide +kernel) (by decide +kernel) (by decide +kernel) (by decide +kernel)),h.2⟩
 ·exact (has_6 w).mono fun e w' h=>⟨h.1.trans (ret_4 (by decide +kernel) (by decide +kernel) (by decide +kernel) (by decide +kernel)),h.2⟩
 ·exact (has_7 w).mono fun e w' h=>⟨h.1.trans (ret_4 (by decide +kernel) (by decide +kernel) (by decide +kernel) (by decide +kernel)),h.2⟩
 ·exact (has_8 w).mono fun e w' h=>⟨h.1.trans (ret_4 (by decide +kernel) (by decide +kernel) (by decide +kernel) (by decide +kernel)),h.2⟩
 ·exact (has_9 w).mono fun e w' h=>⟨h.1.trans (ret_4 (by decide +kernel) (by decide +kernel) (by decide +kernel) (by decide +kernel)),h.2⟩
 ·exact (has_10 w).mono fun e w' h=>⟨h.1.trans (ret_4 (by decide +kernel) (by decide +kernel) (by decide +kernel) (by decide +kernel)),h.2⟩
 ·exact (has_11 w).mono fun e w' h=>⟨h.1.trans (ret_4 (by decide +kernel) (by decide +kernel) (by decide +kernel) (by decide +kernel)),h.2⟩
 ·exact (has_12 w).mono fun e w' h=>⟨h.1.trans (ret_4 (by decide +kernel) (by decide +kernel) (by decide +kernel) (by decide +kernel)),h.2⟩
 ·exact (has_13 w).mono fun e w' h=>⟨h.1.trans (ret_4 (by decide +kernel) (by decide +kernel) (by decide +kernel) (by decide +kernel)),h.2⟩
 ·exact (has_14 w).mono fun e w' h=>⟨h.1.trans (ret_4 (by decide +kernel) (by decide +kernel) (by decide +kernel) (by decide +kernel)),h.2⟩
 ·exact (has_15 w).mono fun e w' h=>⟨h.1.trans (ret_4 (by decide +kernel) (by decide +kernel) (by decide +kernel) (by decide +kernel)),h.2⟩
 ·exact (has_16 w).mono fun e w' h=>⟨h.1.trans (ret_4 (by decide +kernel) (by decide +kernel) (by decide +kernel) (by decide +kernel)),h.2⟩
 ·exact (has_17 w).mono fun e w' h=>⟨h.1.trans (ret_4 (by decide +kernel) (by decide +kernel) (by decide +kernel) (by decide +kernel)),h.2⟩
 ·exact (has_18 w).mono fun e w' h=>⟨h.1.trans (ret_4 (by decide +kernel) (by decide +kernel) (by decide +kernel) (by decide +kernel)),h.2⟩
 ·exact (has_19 w).mono fun e w' h=>⟨h.1.trans (ret_4 (by decide +kernel) (by decide +kernel) (by decide +kernel) (by decide +kernel)),h.2⟩
 ·exact (has_20 w).mono fun e w' h=>⟨h.1.trans (ret_4 (by decide +kernel) (by decide +kernel) (by decide +kernel) (by decide +kernel)),h.2⟩
 ·exact (has_21 w).mono fun e w' h=>⟨h.1.trans (ret_4 (by decide +kernel) (by decide +kernel) (by decide +kernel) (by decide +kernel)),h.2⟩
 ·exact (has_22 w).mono fun e w' h=>⟨h.1.trans (ret_4 (by decide +kernel) (by decide +kernel) (by decide +kernel) (by decide +kernel)),h.2⟩
 ·exact (has_23 w).mono fun e w' h=>⟨h.1.trans (ret_4 (by decide +kernel) (by decide +kernel) (by decide +kernel) (by decide +kernel)),h.2⟩
 ·exact (has_24 w).mono fun e w' h=>⟨h.1.trans (ret_4 (by decide +kernel) (by decide +kernel) (by decide +kernel) (by decide +kernel)),h.2⟩
 ·exact (has_25 w).mono fun e w' h=>⟨h.1.trans (ret_4 (by decide +kernel) (by decide +kernel) (by decide +kernel) (by decide +kernel)),h.2⟩
 ·exact (has_26 w).mono fun e w' h=>⟨h.1.trans (ret_4 (by decide +kernel) (by decide +kernel) (by decide +kernel) (by decide +kernel)),h.2⟩
 ·exact (has_27 w).mono fun e w' h=>⟨h.1.trans (ret_4 (by decide +kernel) (by decide +kernel) (by decide +kernel) (by decide +kernel)),h.2⟩
 ·exact (has_28 w).mono fun e w' h=>⟨h.1.trans (ret_4 (by decide +kernel) (by decide +kernel) (by decide +kernel) (by decide +kernel)),h.2⟩
 ·exact (has_29 w).mono fun e w' h=>⟨h.1.trans (ret_4 (by decide +kernel) (by decide +kernel) (by decide +kernel) (by decide +kernel)),h.2⟩
 ·exact (has_30 w).mono fun e w' h=>⟨h.1.trans (ret_4 (by decide +kernel) (by decide +kernel) (by decide +kernel) (by decide +kernel)),h.2⟩
 ·exact (has_31 w).mono fun e w' h=>⟨h.1.trans (ret_4 (by decide +kernel) (by decide +kernel) (by decide +kernel) (by decide +kernel)),h.2⟩
 ·exact (has_32 w).mono fun e w' h=>⟨h.1.trans (ret_4 (by decide +kernel) (by decide +kernel) (by decide +kernel) (by decide +kernel)),h.2⟩
 ·exact (has_33 w).mono fun e w' h=>⟨h.1.trans (ret_4 (by decide +kernel) (by decide +kernel) (by decide +kernel) (by decide +kernel)),h.2⟩
 ·exact (has_34 w).mono fun e w' h=>⟨h.1.trans (ret_4 (by decide +kernel) (by decide +kernel) (by decide +kernel) (by decide +kernel)),h.2⟩
 ·exact (has_35 w).mono fun e w' h=>⟨h.1.trans (ret_4 (by decide +kernel) (by decide +kernel) (by decide +kernel) (by decide +kernel)),h.2⟩
 ·exact (has_36 w).mono fun e w' h=>⟨h.1.trans (ret_4 (by decide +kernel) (by decide +kernel) (by decide +kernel) (by decide +kernel)),h.2⟩
 ·exact (has_37 w).mono fun e w' h=>⟨h.1.trans (ret_4 (by decide +kernel) (by decide +kernel) (by decide +kernel) (by decide +kernel)),h.2⟩
 ·exact (has_38 w).mono fun e w' h=>⟨h.1.trans (ret_4 (by decide +kernel) (by decide +kernel) (by decide +kernel) (by decide +kernel)),h.2⟩
 ·exact (has_39 w).mono fun e w' h=>⟨h.1.trans (ret_4 (by decide +kernel) (by decide +kernel) (by decide +kernel) (by decide +kernel)),h.2⟩
 ·exact (has_40 w).mono fun e w' h=>⟨h.1.trans (ret_4 (by decide +kernel) (by decide +kernel) (by decide +kernel) (by decide +kernel)),h.2⟩
 ·exact (has_41 w).mono fun e w' h=>⟨h.1.trans (ret_4 (by decide +kernel) (by decide +kernel) (by decide +kernel) (by decide +kernel)),h.2⟩
theorem reg_any (may : Bool) (n : Int) (w : World) : Calls Tryz.prog 162 #[.bool may,.int .i64 n] w fun e w'=>e = .returned (.bool (regB may n)) ∧ w = w':=by
 by_cases h0 : n = 0
 ·subst h0
  go_enter Tryz.func162,Tryz.ntmps162
  go_wp2
  go_ret
  exact ⟨ret_bool (by cases may <;> simp [regB]),rfl⟩
 ·have g0 : (n == 0) = false:=by simpa using h0
  cases may
  ·go_enter Tryz.func162,Tryz.ntmps162
   go_wp2
   go_ret
   exact ⟨ret_bool (by simp [regB,h0]),rfl⟩
  ·by_cases h1 : 0 < n
   ·have g1 : decide (0 < n) = true:=by simpa using h1
    go_enter Tryz.func162,Tryz.ntmps162
    go_wp2
    go_ret
    exact ⟨ret_bool (by rw [Bool.eq_iff_iff];simp [regB];omega),rfl⟩
   ·have g1 : decide (0 < n) = false:=by simpa using h1
    go_enter Tryz.func162,Tryz.ntmps162
    go_wp2
    go_ret
    exact ⟨ret_bool (by rw [Bool.eq_iff_iff];simp [regB];omega),rfl⟩
set_option maxHeartbeats 4000000 in
theorem Valid_ref (op d a b n : Int) (w : World) : Calls Tryz.prog 115 #[(.agg #[.int .i64 (op),.int .i64 (d),.int .i64 (a),.int .i64 (b),.int .i64 (n)])] w fun e w'=>e = .returned (.bool (validB op d a b n)) ∧ Below w.heap.size w w':=by
 cases hr : realB op
 ·have hE : validB op d a b n = false:=by simp [validB,hr]
  have HE:=Lib.hid hE;clear hE
  by_cases h1 : op < 1
  ·go_enter Tryz.func115,Tryz.ntmps115
   go_wp2
   go_ret
   exact ⟨ret_bool (by rw [HE.out]),(Below.refl _ _).alloc (Nat.le_refl _) _⟩
  ·have h2 : 41 < op:=by simp [realB] at hr;omega
   go_enter Tryz.func115,Tryz.ntmps115
   go_wp2
   go_ret
   exact ⟨ret_bool (by rw [HE.out]),(Below.refl _ _).alloc (Nat.le_refl _) _⟩
 ·obtain ⟨o,rfl⟩ : ∃ o : Nat,op = o:=⟨op.toNat,by simp [realB] at hr;omega⟩
  have ho : 1 ≤ o ∧ o < 42:=by simp [realB] at hr;omega
  obtain ⟨o1,o2⟩:=ho
  have HE : Hid (validB o d a b n = (regB (fl o 1) d && (regB (fl o 2) a && (regB (fl o 4) b && immB o n)))):=by simp [Hid,validB,hr,fl]
  have HI : Hid (immB o n = if o = 18 ∨ o = 19 ∨ o = 20 then decide (0 ≤ n) && decide (n ≤ 31) else if o = 37 ∨ o = 38 then decide (0 ≤ n) && decide (n < 9) else if fl o 8 then decide (-8192 ≤ n) && decide (n ≤ 8191) else n == 0):=by
   rw [Hid,immB]
   have : (bits BinOp.and IntKind.i64 (hasI o) 8 == 0) = !fl o 8:=by simp [fl,bne]
   rw [this]
   cases fl o 8 <;> rfl
  have H8:=Lib.hid (fl_8 ⟨o,o2⟩)
  clear hr
  cases h1 : regB (fl o 1) d
  ·go_enter Tryz.func115,Tryz.ntmps115
   go_wp2_with (first | (go_at_call 116;refine (has_any o (by omega) (by omega) _).mono ?_;rintro e w' ⟨rfl,rfl⟩) | (go_at_call 162;refine (reg_any _ _ _).mono ?_;rintro e w' ⟨rfl,rfl⟩))
   go_ret
   exact ⟨ret_bool (by rw [HE.out,h1];rfl),(Below.refl _ _).alloc (Nat.le_refl _) _⟩
  ·cases h2 : regB (fl o 2) a
   ·go_enter Tryz.func115,Tryz.ntmps115
    go_wp2_with (first | (go_at_call 116;refine (has_any o (by omega) (by omega) _).mono ?_;rintro e w' ⟨rfl,rfl⟩) | (go_at_call 162;refine (reg_any _ _ _).mono ?_;rintro e w' ⟨rfl,rfl⟩))
    go_ret
    exact ⟨ret_bool (by rw [HE.out,h1,h2];rfl),(Below.refl _ _).alloc (Nat.le_refl _) _⟩
   ·cases h3 : regB (fl o 4) b
    ·go_enter Tryz.func115,Tryz.ntmps115
     go_wp2_with (first | (go_at_call 116;refine (has_any o (by omega) (by omega) _).mono ?_;rintro e w' ⟨rfl,rfl⟩) | (go_at_call 162;refine (reg_any _ _ _).mono ?_;rintro e w' ⟨rfl,rfl⟩))
     go_ret
     exact ⟨ret_bool (by rw [HE.out,h1,h2,h3];rfl),(Below.refl _ _).alloc (Nat.le_refl _) _⟩
    ·have HV : Hid (validB o d a b n = immB o n):=by rw [Hid,HE.out,h1,h2,h3];rfl
     clear HE
     cases h8 : fl o 8
     ·have hs : ¬ (o = 18 ∨ o = 19 ∨ o = 20) ∧ ¬ (o = 37 ∨ o = 38):=by
       have:=H8.out
       simp only at this
       rw [h8] at this
       simp at this
       omega
      have g1 : ((o : Int) == 18) = false:=by simp;omega
      have g2 : ((o : Int) == 19) = false:=by simp;omega
      have g3 : ((o : Int) == 20) = false:=by simp;omega
      have g4 : ((o : Int) == 37) = false:=by simp;omega
      have g5 : ((o : Int) == 38) = false:=by simp;omega
      have HN : Hid (immB o n = (n == 0)):=by rw [Hid,HI.out,if_neg hs.1,if_neg hs.2,h8];rfl
      clear hs
      by_cases hn : n = 0
      ·subst hn
       go_enter Tryz.func115,Tryz.ntmps115
       go_wp2_with (first | (go_at_call 116;refine (has_any o (by omega) (by omega) _).mono ?_;rintro e w' ⟨rfl,rfl⟩) | (go_at_call 162;refine (reg_any _ _ _).mono ?_;rintro e w' ⟨rfl,rfl⟩))
       go_ret
       exact ⟨ret_bool (by rw [HV.out,HN.out];rfl),(Below.refl _ _).alloc (Nat.le_refl _) _⟩
      ·have hn2 : (n != 0) = true:=by simpa using hn
       go_enter Tryz.func115,Tryz.ntmps115
       go_wp2_with (first | (go_at_call 116;refine (has_any o (by omega) (by omega) _).mono ?_;rintro e w' ⟨rfl,rfl⟩) | (go_at_call 162;refine (reg_any _ _ _).mono ?_;rintro e w' ⟨rfl,rfl⟩))
       go_ret
       exact ⟨ret_bool (by rw [HV.out,HN.out];simpa using hn),(Below.refl _ _).alloc (Nat.le_refl _) _⟩
     ·by_cases hs : o = 18 ∨ o = 19 ∨ o = 20
      ·have HN : Hid (immB o n = (decide (0 ≤ n) && decide (n ≤ 31))):=by rw [Hid,HI.out,if_pos hs]
       by_cases hn : 0 ≤ n
       all_goals
        have hn2 : decide (0 ≤ n) = _:=(by first | exact decide_eq_true hn | exact decide_eq_false hn)
        rcases hs with rfl | rfl | rfl
        all_goals
         go_enter Tryz.func115,Tryz.ntmps115
         go_wp2_with (first | (go_at_call 116;refine (has_any _ (by omega) (by omega) _).mono ?_;rintro e w' ⟨rfl,rfl⟩) | (go_at_call 162;refine (reg_any _ _ _).mono ?_;rintro e w' ⟨rfl,rfl⟩))
         go_ret
         exact ⟨ret_bool (by rw [HV.out,HN.out,hn2];rfl),(Below.refl _ _).alloc (Nat.le_refl _) _⟩
      ·by_cases ht : o = 37 ∨ o = 38
       ·have HN : Hid (immB o n = (decide (0 ≤ n) && decide (n < 9))):=by rw [Hid,HI.out,if_neg hs,if_pos ht]
        by_cases hn : 0 ≤ n
        all_goals
         have hn2 : decide (0 ≤ n) = _:=(by first | exact decide_eq_true hn | exact decide_eq_false hn)
         rcases ht with rfl | rfl
         all_goals
          go_enter Tryz.func115,Tryz.ntmps115
          go_wp2_with (first | (go_at_call 116;refine (has_any _ (by omega) (by omega) _).mono ?_;rintro e w' ⟨rfl,rfl⟩) | (go_at_call 162;refine (reg_any _ _ _).mono ?_;rintro e w' ⟨rfl,rfl⟩))
          go_ret
          exact ⟨ret_bool (by rw [HV.out,HN.out,hn2];rfl),(Below.refl _ _).alloc (Nat.le_refl _) _⟩
       ·have HN : Hid (immB o n = (decide (-8192 ≤ n) && decide (n ≤ 8191))):=by rw [Hid,HI.out,if_neg hs,if_neg ht,h8];rfl
        have g1 : ((o : Int) == 18) = false:=by simp;omega
        have g2 : ((o : Int) == 19) = false:=by simp;omega
        have g3 : ((o : Int) == 20) = false:=by simp;omega
        have g4 : ((o : Int) == 37) = false:=by simp;omega
        have g5 : ((o : Int) == 38) = false:=by simp;omega
        clear hs ht
        by_cases hn : -8192 ≤ n
        all_goals
         have hn2 : decide (-8192 ≤ n) = _:=(by first | exact decide_eq_true hn | exact decide_eq_false hn)
         go_enter Tryz.func115,Tryz.ntmps115
         go_wp2_with (first | (go_at_call 116;refine (has_any o (by omega) (by omega) _).mono ?_;rintro e w' ⟨rfl,rfl⟩) | (go_at_call 162;refine (reg_any _ _ _).mono ?_;rintro e w' ⟨rfl,rfl⟩))
         go_ret
         exact ⟨ret_bool (by rw [HV.out,HN.out,hn2];rfl),(Below.refl _ _).alloc (Nat.le_refl _) _⟩
end
section
open Go.RowKit
theorem Decode_ref (x : Nat) (hx : x < 4294967296) (w : World) : Calls Tryz.prog 75 #[.int .u32 x] w (DecPost x w):=by
 obtain ⟨n,hn⟩ : ∃ n,n = decN x:=⟨_,rfl⟩
 have HD:=Lib.hid hn
 have HB : Hid (decB x = validB ((x : Int) % 64) ((x : Int) / 64 % 16) ((x : Int) / 1024 % 16) ((x : Int) / 16384 % 16) n):=by rw [Hid,decB,hn]
 have HN : Hid (n = if (x : Int) / 262144 < 8192 then (x : Int) / 262144 else (x : Int) / 262144 - 16384):=by
  rw [Hid,hn,decN]
  split <;> split <;> omega
 clear hn
 by_cases hlt : (x : Int) / 262144 < 8192
 ·have HN2 : Hid ((x : Int) / 262144 = n):=by rw [Hid,HN.out,if_pos hlt]
  go_enter Tryz.func75,Tryz.ntmps75
  go_wp2_with fail
  rw [HN2.out]
  refine (Valid_ref _ _ _ _ _ _).mono ?_;rw [← HB.out];rintro e w5 ⟨rfl,hb5⟩
  have hkA:=keepB hb5 (b:=w.heap.size) (by simp;omega) ((Below.heap_alloc _ _ _ (by simp)).trans (new_block w _ _ rfl))
  have hkB:=keepB hb5 (b:=w.heap.size + 1) (by simp) (new_block (w.alloc _) _ _ (by simp))
  have a0:=cell_at hkA 0 (.int .i64 0) rfl;have a1:=cell_at hkA 1 (.int .i64 0) rfl;have a2:=cell_at hkA 2 (.int .i64 0) rfl;have a3:=cell_at hkA 3 (.int .i64 0) rfl;have a4:=cell_at hkA 4 (.int .i64 0) rfl;have af0:=free_at hkA 0;have af1:=free_at hkA 1;have af2:=free_at hkA 2;have af3:=free_at hkA 3;have af4:=free_at hkA 4
  have b0:=cell_at hkB 0 _ rfl;have b1:=cell_at hkB 1 _ rfl;have b2:=cell_at hkB 2 _ rfl;have b3:=cell_at hkB 3 _ rfl;have b4:=cell_at hkB 4 _ rfl
  have HB5 : Hid (Below w.heap.size w w5):=(((Below.refl _ _).alloc (Nat.le_refl _) _).alloc (by simp) _).trans (hb5.mono (by simp;omega))
  have s6 : w.heap.size < w5.heap.size:=by have:=hb5.size;simp at this;omega
  clear hkA hkB hb5 HN
  cases hd : decB x
  ·go_wp2_with fail
   refine bodyPost_ret (v:=.tuple #[(.agg #[.int .i64 (0),.int .i64 (0),.int .i64 (0),.int .i64 (0),.int .i64 (0)]),.bool false]) ?_ rfl ⟨by simp [hd],?_⟩
   ·simp [results,Tryz.results75,go_sem,a0,a1,a2,a3,a4,s6]
   ·exact (((((HB5.out.setCell (Nat.le_refl _) _).setCell (Nat.le_refl _) _).setCell (Nat.le_refl _) _).setCell (Nat.le_refl _) _).setCell (Nat.le_refl _) _)
  ·go_wp2_with fail
   refine bodyPost_ret (v:=.tuple #[(.agg #[.int .i64 ((x : Int) % 64),.int .i64 ((x : Int) / 64 % 16),.int .i64 ((x : Int) / 1024 % 16),.int .i64 ((x : Int) / 16384 % 16),.int .i64 (n)]),.bool true]) ?_ rfl ⟨by rw [HD.out];simp [hd],?_⟩
   ·simp [results,Tryz.results75,go_sem,a0,a1,a2,a3,a4,s6]
   ·exact (((((HB5.out.setCell (Nat.le_refl _) _).setCell (Nat.le_refl _) _).setCell (Nat.le_refl _) _).setCell (Nat.le_refl _) _).setCell (Nat.le_refl _) _)
 ·have HN2 : Hid ((x : Int) / 262144 - 16384 = n):=by rw [Hid,HN.out,if_neg hlt]
  go_enter Tryz.func75,Tryz.ntmps75
  go_wp2_with fail
  rw [HN2.out]
  refine (Valid_ref _ _ _ _ _ _).mono ?_;rw [← HB.out];rintro e w5 ⟨rfl,hb5⟩
  have hkA:=keepB hb5 (b:=w.heap.size) (by simp;omega) ((Below.heap_alloc _ _ _ (by simp)).trans (new_block w _ _ rfl))
  have hkB:=keepB hb5 (b:=w.heap.size + 1) (by simp) (new_block (w.alloc _) _ _ (by simp))
  have a0:=cell_at hkA 0 (.int .i64 0) rfl;have a1:=cell_at hkA 1 (.int .i64 0) rfl;have a2:=cell_at hkA 2 (.int .i64 0) rfl;have a3:=cell_at hkA 3 (.int .i64 0) rfl;have a4:=cell_at hkA 4 (.int .i64 0) rfl;have af0:=free_at hkA 0;have af1:=free_at hkA 1;have af2:=free_at hkA 2;have af3:=free_at hkA 3;have af4:=free_at hkA 4
  have b0:=cell_at hkB 0 _ rfl;have b1:=cell_at hkB 1 _ rfl;have b2:=cell_at hkB 2 _ rfl;have b3:=cell_at hkB 3 _ rfl;have b4:=cell_at hkB 4 _ rfl
  have HB5 : Hid (Below w.heap.size w w5):=(((Below.refl _ _).alloc (Nat.le_refl _) _).alloc (by simp) _).trans (hb5.mono (by simp;omega))
  have s6 : w.heap.size < w5.heap.size:=by have:=hb5.size;simp at this;omega
  clear hkA hkB hb5 HN
  cases hd : decB x
  ·go_wp2_with fail
   refine bodyPost_ret (v:=.tuple #[(.agg #[.int .i64 (0),.int .i64 (0),.int .i64 (0),.int .i64 (0),.int .i64 (0)]),.bool false]) ?_ rfl ⟨by simp [hd],?_⟩
   ·simp [results,Tryz.results75,go_sem,a0,a1,a2,a3,a4,s6]
   ·exact (((((HB5.out.setCell (Nat.le_refl _) _).setCell (Nat.le_refl _) _).setCell (Nat.le_refl _) _).setCell (Nat.le_refl _) _).setCell (Nat.le_refl _) _)
  ·go_wp2_with fail
   refine bodyPost_ret (v:=.tuple #[(.agg #[.int .i64 ((x : Int) % 64),.int .i64 ((x : Int) / 64 % 16),.int .i64 ((x : Int) / 1024 % 16),.int .i64 ((x : Int) / 16384 % 16),.int .i64 (n)]),.bool true]) ?_ rfl ⟨by rw [HD.out];simp [hd],?_⟩
   ·simp [results,Tryz.results75,go_sem,a0,a1,a2,a3,a4,s6]
   ·exact (((((HB5.out.setCell (Nat.le_refl _) _).setCell (Nat.le_refl _) _).setCell (Nat.le_refl _) _).setCell (Nat.le_refl _) _).setCell (Nat.le_refl _) _)
end
section
open Go.RowKit
end
end Isa
end Go.Proofs.YtoklonmiejdgmaaGreatDoor
/- Package asm: names of operations. -/
namespace Go.Proofs.YtoklonmiejdgmaaGreatDoor.As
set_option linter.unusedVariables false
set_option linter.unusedSimpArgs false
set_option linter.unnecessarySimpa false
open Go.RowKit Go.Sort
set_option maxHeartbeats 2000000
set_option maxRecDepth 100000
set_option linter.unusedVariables false
def opNames : List (List UInt8):=[[],[97,100,100],[115,117,98],[97,110,100],[111,114],[120,111,114],[115,104,108],[115,104,114],[115,97,114],[115,108,116],[115,108,116,117],[109,117,108],[100,105,118,117],[114,101,109,117],[97,100,100,105],[97,110,100,105],[111,114,105],[120,111,114,105],[115,104,108,105],[115,104,114,105],[115,97,114,105],[115,108,116,105],[108,117,105],[108,119],[108,98],[108,98,117],[115,119],[115,98],[98,101,113],[98,110,101],[98,108,116],[98,108,116,117],[106,97,108],[106,97,108,114],[99,97,108,108],[104,99,97,108,108],[114,101,116],[99,115,114,114],[99,115,114,119],[105,110,118],[104,97,108,116],[98,114,107]]
def opName (o : Nat) : List UInt8:=opNames.getD o []
def allL : List UInt8:=([97,100,100,32,115,117,98,32,97,110,100,32,111,114,32,120,111,114,32,115,104,108,32,115,104,114,32,115,97,114,32,115,108,116,32,115,108,116,117,32,109,117,108,32].append [100,105,118,117,32,114,101,109,117,32,97,100,100,105,32,97,110,100,105,32,111,114,105,32,120,111,114,105,32,115,104,108,105,32,115,104,114,105,32,115,97,114,105,32]).append ([115,108,116,105,32,108,117,105,32,108,119,32,108,98,32,108,98,117,32,115,119,32,115,98,32,98,101,113,32,98,110,101,32,98,108,116,32,98,108,116,117,32,106,97].append [108,32,106,97,108,114,32,99,97,108,108,32,104,99,97,108,108,32,114,101,116,32,99,115,114,114,32,99,115,114,119,32,105,110,118,32,104,97,108,116,32,98,114,107])
def nameGo (op : Nat) : List UInt8 → Nat → Nat → Nat → Nat × Option Nat
 | [],_,f,_=>(f,none)
 | b :: l,p,f,k=>if b ≠ 32 then nameGo op l (p + 1) f k else if k = op then (f,some p) else nameGo op l (p + 1) (p + 1) (k + 1)
def nameCut (r : Nat × Option Nat) : List UInt8:=match r with
 | (f,some t)=>(allL.drop f).take (t - f)
 | (f,none)=>allL.drop f
theorem name_all : ∀ o : Fin 42,1 ≤ o.val → nameCut (nameGo o.val allL 0 0 1) = opName o.val:=by decide +kernel
theorem all_ascii : ∀ i : Fin 176,(allL.getD i.val 0).toNat < 128:=by decide +kernel
theorem ba_extract (s : ByteArray) (a b : Nat) : s.extract a b = ba ((s.data.toList.drop a).take (b - a)):=by
 apply ByteArray.ext
 show (s.extract a b).data = ((s.data.toList.drop a).take (b - a)).toArray
 apply Array.toList_inj.1
 simp [ByteArray.data_extract,Array.toList_extract,List.extract_eq_take_drop]
theorem name_any (o : Nat) (h1 : 1 ≤ o) (h2 : o < 42) (w : World) : Calls Tryz.prog 177 #[.int .i64 o] w fun e w'=>e = .returned (.string (ba (opName o))) ∧ Below w.heap.size w w':=by
 go_enter Tryz.func177,Tryz.ntmps177
 generalize hal : (⟨(([97,100,100,32,115,117,98,32,97,110,100,32,111,114,32,120,111,114,32,115,104,108,32,115,104,114,32,115,97,114,32,115,108,116,32,115,108,116,117,32,109,117,108,32].append [100,105,118,117,32,114,101,109,117,32,97,100,100,105,32,97,110,100,105,32,111,114,105,32,120,111,114,105,32,115,104,108,105,32,115,104,114,105,32,115,97,114,105,32]).append ([115,108,116,105,32,108,117,105,32,108,119,32,108,98,32,108,98,117,32,115,119,32,115,98,32,98,101,113,32,98,110,101,32,98,108,116,32,98,108,116,117,32,106,97].append [108,32,106,97,108,114,32,99,97,108,108,32,104,99,97,108,108,32,114,101,116,32,99,115,114,114,32,99,115,114,119,32,105,110,118,32,104,97,108,116,32,98,114,107])).toArray⟩ : ByteArray) = al
 have hAL : al.data.toList = allL:=by rw [← hal];rfl
 have hsz : al.size = 176:=by rw [← ba_len,hAL];decide +kernel
 have HAL:=Lib.hid hAL
 have hbyte : ∀ (k : Nat) (hk : k < al.size),al[k].toNat < 128:=fun k hk=>by
  have h:=all_ascii ⟨k,by omega⟩
  have e : allL.getD k 0 = al[k]:=by rw [← hAL,List.getD_eq_getElem?_getD,List.getElem?_eq_getElem (by rw [ba_len];exact hk)];rfl
  rw [e] at h;exact h
 have HBY:=Lib.hid hbyte
 have HSZ:=Lib.hid hsz
 clear hal hAL hbyte hsz
 have HNA:=Lib.hid (name_all ⟨o,h2⟩ h1)
 have HBL : Hid (∀ p,Below w.heap.size w (w.iter al p)):=fun p=>(Below.refl _ _).alloc (Nat.le_refl _) _
 go_wp2
 go_loopw [3,4] (fun f kk wr=>∃ p f' k : Nat,p ≤ al.size ∧ f' ≤ p ∧ wr = w.iter al p ∧ f = .int .i64 f' ∧ kk = .int .i64 k ∧ k ≤ p + 1 ∧ nameGo o (allL.drop p) p f' k = nameGo o allL 0 0 1) (fun _ _ wr=>al.size - wr.iterPos w.heap.size)
 case atStart=>exact ⟨0,0,1,by omega,by omega,rfl,rfl,rfl,by omega,rfl⟩
 case round=>
  obtain ⟨p,f,k,hp,hf,rfl,rfl,rfl,hkp,hn⟩:=hrel
  have HN:=Lib.hid hn
  clear hn
  by_cases hlt : p < al.size
  ·have hnx:=fun ty=>run_next_ascii (P:=Tryz.prog) w al p ty hlt (HBY.out p hlt)
   have hdrop : allL.drop p = al[p] :: allL.drop (p + 1):=by
    rw [← HAL.out]
    exact List.drop_eq_getElem_cons (by rw [ba_len];exact hlt)
   have w1 : IntKind.i64.wrap ((p : Int) + 1) = (p : Int) + 1:=by have:=HSZ.out;rw [IntKind.wrap_i64];omega
   have w2 : IntKind.i64.wrap ((k : Int) + 1) = (k : Int) + 1:=by have:=HSZ.out;rw [IntKind.wrap_i64];omega
   by_cases h32 : al[p].toNat = 32
   ·have hb32 : al[p] = 32:=by rw [← UInt8.toNat_inj];exact h32
    have dn : ((al[p].toNat : Int) != 32) = false:=by simp [h32]
    by_cases hko : k = o
    ·have dk : ((k : Int) == (o : Int)) = true:=by simp [hko]
     have hr : nameGo o allL 0 0 1 = (f,some p):=by rw [← HN.out,hdrop,nameGo,if_neg (by simp [hb32]),if_pos hko]
     have hres : al.extract f p = ba (opName o):=by
      rw [ba_extract,HAL.out,← HNA.out,hr];rfl
     clear hdrop hb32 h32 hko hr
     go_wp2
     go_ret
     exact ⟨rfl,HBL.out _⟩
    ·have dk : ((k : Int) == (o : Int)) = false:=by rw [beq_eq_false_iff_ne];omega
     have HN2 : Hid (nameGo o (allL.drop (p + 1)) (p + 1) (p + 1) (k + 1) = nameGo o allL 0 0 1):=by rw [Hid,← HN.out,hdrop,nameGo,if_neg (by simp [hb32]),if_neg hko]
     clear hdrop hb32 h32 hko
     go_wp2
     go_roundw
     case rel=>exact ⟨p + 1,p + 1,k + 1,by omega,by omega,rfl,by go_num,by go_num,by omega,HN2.out⟩
     case measure=>simp;omega
   ·have hb32 : al[p] ≠ 32:=fun e=>h32 (by rw [e];rfl)
    have dn : ((al[p].toNat : Int) != 32) = true:=by simp;omega
    have HN2 : Hid (nameGo o (allL.drop (p + 1)) (p + 1) f k = nameGo o allL 0 0 1):=by rw [Hid,← HN.out,hdrop,nameGo,if_pos hb32]
    clear hdrop hb32 h32
    go_wp2
    go_roundw
    case rel=>exact ⟨p + 1,f,k,by omega,by omega,rfl,rfl,rfl,by omega,HN2.out⟩
    case measure=>simp;omega
  ·obtain rfl : p = al.size:=by omega
   have hnx:=fun ty=>run_next_end (P:=Tryz.prog) w al al.size ty (by omega)
   have hr : nameGo o allL 0 0 1 = (f,none):=by
    rw [← HN.out,List.drop_eq_nil_of_le (by rw [← HAL.out,ba_len];exact Nat.le_refl _)];rfl
   have hres : al.extract f al.size = ba (opName o):=by
    rw [ba_extract,HAL.out,← HNA.out,hr]
    show _ = ba (allL.drop f)
    rw [List.take_of_length_le]
    rw [List.length_drop,← HAL.out,ba_len];omega
   clear hr
   go_wp2
   go_ret
   exact ⟨rfl,HBL.out _⟩
theorem opNames_len : opNames.length = 42:=by decide
/-- The operation of a name; 0: none has it. -/
def opV (s : List UInt8) : Nat:=match (List.range 41).find? (fun i=>decide (opName (i + 1) = s)) with
 | some i=>i + 1
 | none=>0
theorem opV_le (s : List UInt8) : opV s ≤ 41:=by
 unfold opV
 split
 ·rename_i i h
  have:=List.mem_range.1 (List.mem_of_find?_eq_some h);omega
 ·omega
theorem opV_hit {s : List UInt8} {o : Nat} (h1 : 1 ≤ o) (h2 : o ≤ 41) (h : opName o = s) (hn : ∀ j,1 ≤ j → j < o → opName j ≠ s) : opV s = o:=by
 have : (List.range 41).find? (fun i=>decide (opName (i + 1) = s)) = some (o - 1):=by
  rw [List.find?_range_eq_some]
  refine ⟨by rw [show o - 1 + 1 = o by omega];simp [h],List.mem_range.2 (by omega),fun j hj=>?_⟩
  simpa using hn (j + 1) (by omega) (by omega)
 rw [opV,this];show o - 1 + 1 = o;omega
theorem opV_none {s : List UInt8} (hn : ∀ j,1 ≤ j → j ≤ 41 → opName j ≠ s) : opV s = 0:=by
 have : (List.range 41).find? (fun i=>decide (opName (i + 1) = s)) = none:=by
  rw [List.find?_eq_none]
  intro j hj
  have:=List.mem_range.1 hj
  simpa using hn (j + 1) (by omega) (by omega)
 rw [opV,this]
theorem ba_beq (a : List UInt8) (s : ByteArray) : ((ba a).toList == s.toList) = decide (a = s.data.toList):=by
 rw [ByteArray.toList_eq,ByteArray.toList_eq,ba_data]
 by_cases h : a = s.data.toList <;> simp [h]
theorem opOf_any (s : ByteArray) (w : World) : Calls Tryz.prog 208 #[.string s] w fun e w'=>e = .returned (.tuple #[.int .i64 (opV s.data.toList),.bool (decide (opV s.data.toList ≠ 0))]) ∧ Below w.heap.size w w':=by
 obtain ⟨x,hx⟩ : ∃ x,x = opV s.data.toList:=⟨_,rfl⟩
 rw [← hx]
 have HX:=Lib.hid hx
 clear hx
 go_enter Tryz.func208,Tryz.ntmps208
 go_wp2
 go_loopw [4] (fun i wr=>∃ k : Nat,1 ≤ k ∧ k ≤ 42 ∧ i = .int .i64 k ∧ Below w.heap.size w wr ∧ ∀ j,1 ≤ j → j < k → opName j ≠ s.data.toList) (fun i _=>42 - (intOf i).toNat)
 case atStart=>exact ⟨1,by omega,by omega,rfl,Below.refl _ _,fun j h1 h2=>by omega⟩
 case round=>
  obtain ⟨k,hk1,hk,rfl,hb,hn⟩:=hrel
  have HB:=Lib.hid hb
  have HN:=Lib.hid hn
  clear hb hn
  by_cases hlt : k ≤ 41
  ·have d1 : decide ((k : Int) ≤ 41) = true:=decide_eq_true (by omega)
   have d1' : decide (k ≤ 41) = true:=decide_eq_true hlt
   have w1 : IntKind.i64.wrap ((k : Int) + 1) = (k : Int) + 1:=by rw [IntKind.wrap_i64];omega
   have NAM : Hid (∀ w,Calls Tryz.prog 177 #[.int .i64 k] w fun e w'=>e = .returned (.string (ba (opName k))) ∧ Below w.heap.size w w'):=fun w=>name_any k hk1 (by omega) w
   have hbq:=ba_beq (opName k) s
   by_cases he : opName k = s.data.toList
   ·have hx : x = k:=by rw [HX.out];exact opV_hit hk1 hlt he HN.out
    have de : ((ba (opName k)).toList == s.toList) = true:=by rw [hbq,decide_eq_true he]
    have dz : decide (k ≠ 0) = true:=decide_eq_true (by omega)
    subst hx
    clear he hbq
    go_wp2_with (go_at_call 177;refine (NAM.out _).mono ?_;rintro e w1 ⟨rfl,hb⟩;have HB1:=Lib.hid (HB.out.trans (hb.mono HB.out.size));clear hb)
    go_ret2
    exact ⟨by rw [dz];rfl,HB1.out⟩
   ·have de : ((ba (opName k)).toList == s.toList) = false:=by rw [hbq,decide_eq_false he]
    have HN2 : Hid (∀ j,1 ≤ j → j < k + 1 → opName j ≠ s.data.toList):=fun j h1 h2=>by
     by_cases e : j = k
     ·subst e;exact he
     ·exact HN.out j h1 (by omega)
    clear he hbq
    go_wp2_with (go_at_call 177;refine (NAM.out _).mono ?_;rintro e w1 ⟨rfl,hb⟩;have HB1:=Lib.hid (HB.out.trans (hb.mono HB.out.size));clear hb)
    go_roundw
    case rel=>exact ⟨k + 1,by omega,by omega,by go_num,HB1.out,HN2.out⟩
    case measure=>simp [intOf];omega
  ·have d1 : decide ((k : Int) ≤ 41) = false:=decide_eq_false (by omega)
   have d1' : decide (k ≤ 41) = false:=decide_eq_false hlt
   have hx : x = 0:=by rw [HX.out];exact opV_none (fun j h1 h2=>HN.out j h1 (by omega))
   subst hx
   go_wp2
   go_ret2
   exact ⟨rfl,HB.out⟩
end Go.Proofs.YtoklonmiejdgmaaGreatDoor.As
/- Package asm: a text on its way. -/
namespace Go.Proofs.YtoklonmiejdgmaaGreatDoor.As
set_option linter.unusedVariables false
set_option linter.unusedSimpArgs false
set_option linter.unnecessarySimpa false
open Go.RowKit Go.Sort
set_option maxHeartbeats 2000000
set_option maxRecDepth 100000
set_option linter.unusedVariables false
def wregL (n : Int) : List UInt8:=[32,114] ++ Lib.itoa n
def wnumL (n : Int) : List UInt8:=[32] ++ Lib.itoa n
theorem wreg_any (b : Nat) (l : List UInt8) (n : Int) (h0 : -9223372036854775808 ≤ n) (h1 : n ≤ 9223372036854775807) (w : World) (hP : PowIs w) (h : ObjAt w b 237 [.string (ba l)]) (hlen : l.length ≤ 100000) :
  Calls Tryz.prog 178 #[.pointer (some ⟨b,0,none⟩),.int .i64 n] w fun e w'=>e = .returned (.tuple #[]) ∧ ObjAt w' b 237 [.string (ba (l ++ wregL n))] ∧ Upd b w w':=by
 obtain ⟨t,ht⟩ : ∃ t : ByteArray,t = ba (Lib.itoa n):=⟨_,rfl⟩
 obtain ⟨s,hs⟩ : ∃ s : ByteArray,s = ba l:=⟨_,rfl⟩
 obtain ⟨r,hr⟩ : ∃ r : ByteArray,r = ba (l ++ wregL n):=⟨_,rfl⟩
 have hcat : s ++ ((⟨#[32,114]⟩ : ByteArray) ++ t) = r:=by rw [hs,ht,hr];unfold ba;rw [show (⟨#[32,114]⟩ : ByteArray) = ⟨(#[32,114] : Array UInt8).toList.toArray⟩ from rfl,ba_append,ba_append];rfl
 have hz:=Lib.itoa_length_le n h0 h1
 have z1 : t.size ≤ 30:=by rw [ht,ba_size];omega
 have z2 : s.size ≤ 100000:=by rw [hs,ba_size];omega
 have q1 : ¬ 9223372036854775807 < 2 + t.size:=by omega
 have q2 : ¬ 9223372036854775807 < s.size + (2 + t.size):=by omega
 have ITO : Hid (∀ W,Below w.heap.size w W → Calls Tryz.prog 71 #[.int .i64 n] W fun e w'=>e = .returned (.string t) ∧ Below W.heap.size W w'):=fun W hb=>by rw [ht];exact itoa_b n h0 h1 W (hP.below hb)
 rw [← hs] at h
 rw [← hr]
 have H:=Lib.hid h
 have HCAT:=Lib.hid hcat
 have HS : Hid (∀ W',Below w.heap.size w W' → W'.cell? ⟨b,0,none⟩ = some (.string s) ∧ W'.frozen? ⟨b,0,none⟩ = false):=fun W' hb=>⟨(H.out.below hb).cell 0 _ rfl,(H.out.below hb).free 0⟩
 clear hP h ht hs hr hz hlen hcat
 go_enter Tryz.func178,Tryz.ntmps178
 go_wp2
 have hc0:=(HS.out _ (Below.refl _ _)).1
 have hf0:=(HS.out _ (Below.refl _ _)).2
 have hc1 : ∀ W,Below w.heap.size w W → W.cell? ⟨b,0,none⟩ = some (.string s):=fun W h=>(HS.out W h).1
 have hf1 : ∀ W,Below w.heap.size w W → W.frozen? ⟨b,0,none⟩ = false:=fun W h=>(HS.out W h).2
 go_region_with (go_at_call 71;refine (ITO.out _ (Below.refl _ _).drew).mono ?_;rintro e W1 ⟨rfl,hb1⟩;have z0:=hc1 W1 ((Below.refl _ _).drew.trans hb1);have y0:=hf1 W1 ((Below.refl _ _).drew.trans hb1))
 all_goals
  rw [HCAT.out]
  have HB1 : Hid (Below w.heap.size w W1):=(Below.refl _ _).drew.trans hb1
  have HW2 : Hid (ObjAt (W1.setCell ⟨b,0,none⟩ (.string r)) b 237 [.string r]):=(H.out.below HB1.out).set 0 _
  have HU2 : Hid (Upd b w (W1.setCell ⟨b,0,none⟩ (.string r))):=(Upd.of_below HB1.out).trans (Upd.setCell W1 ⟨b,0,none⟩ _)
  go_end0
  exact ⟨rfl,HW2.out,HU2.out⟩
theorem wnum_any (b : Nat) (l : List UInt8) (n : Int) (h0 : -9223372036854775808 ≤ n) (h1 : n ≤ 9223372036854775807) (w : World) (hP : PowIs w) (h : ObjAt w b 237 [.string (ba l)]) (hlen : l.length ≤ 100000) :
  Calls Tryz.prog 179 #[.pointer (some ⟨b,0,none⟩),.int .i64 n] w fun e w'=>e = .returned (.tuple #[]) ∧ ObjAt w' b 237 [.string (ba (l ++ wnumL n))] ∧ Upd b w w':=by
 obtain ⟨t,ht⟩ : ∃ t : ByteArray,t = ba (Lib.itoa n):=⟨_,rfl⟩
 obtain ⟨s,hs⟩ : ∃ s : ByteArray,s = ba l:=⟨_,rfl⟩
 obtain ⟨r,hr⟩ : ∃ r : ByteArray,r = ba (l ++ wnumL n):=⟨_,rfl⟩
 have hcat : s ++ ((⟨#[32]⟩ : ByteArray) ++ t) = r:=by rw [hs,ht,hr];unfold ba;rw [show (⟨#[32]⟩ : ByteArray) = ⟨(#[32] : Array UInt8).toList.toArray⟩ from rfl,ba_append,ba_append];rfl
 have hz:=Lib.itoa_length_le n h0 h1
 have z1 : t.size ≤ 30:=by rw [ht,ba_size];omega
 have z2 : s.size ≤ 100000:=by rw [hs,ba_size];omega
 have q1 : ¬ 9223372036854775807 < 1 + t.size:=by omega
 have q2 : ¬ 9223372036854775807 < s.size + (1 + t.size):=by omega
 have ITO : Hid (∀ W,Below w.heap.size w W → Calls Tryz.prog 71 #[.int .i64 n] W fun e w'=>e = .returned (.string t) ∧ Below W.heap.size W w'):=fun W hb=>by rw [ht];exact itoa_b n h0 h1 W (hP.below hb)
 rw [← hs] at h
 rw [← hr]
 have H:=Lib.hid h
 have HCAT:=Lib.hid hcat
 have HS : Hid (∀ W',Below w.heap.size w W' → W'.cell? ⟨b,0,none⟩ = some (.string s) ∧ W'.frozen? ⟨b,0,none⟩ = false):=fun W' hb=>⟨(H.out.below hb).cell 0 _ rfl,(H.out.below hb).free 0⟩
 clear hP h ht hs hr hz hlen hcat
 go_enter Tryz.func179,Tryz.ntmps179
 go_wp2
 have hc0:=(HS.out _ (Below.refl _ _)).1
 have hf0:=(HS.out _ (Below.refl _ _)).2
 have hc1 : ∀ W,Below w.heap.size w W → W.cell? ⟨b,0,none⟩ = some (.string s):=fun W h=>(HS.out W h).1
 have hf1 : ∀ W,Below w.heap.size w W → W.frozen? ⟨b,0,none⟩ = false:=fun W h=>(HS.out W h).2
 go_region_with (go_at_call 71;refine (ITO.out _ (Below.refl _ _).drew).mono ?_;rintro e W1 ⟨rfl,hb1⟩;have z0:=hc1 W1 ((Below.refl _ _).drew.trans hb1);have y0:=hf1 W1 ((Below.refl _ _).drew.trans hb1))
 all_goals
  rw [HCAT.out]
  have HB1 : Hid (Below w.heap.size w W1):=(Below.refl _ _).drew.trans hb1
  have HW2 : Hid (ObjAt (W1.setCell ⟨b,0,none⟩ (.string r)) b 237 [.string r]):=(H.out.below HB1.out).set 0 _
  have HU2 : Hid (Upd b w (W1.setCell ⟨b,0,none⟩ (.string r))):=(Upd.of_below HB1.out).trans (Upd.setCell W1 ⟨b,0,none⟩ _)
  go_end0
  exact ⟨rfl,HW2.out,HU2.out⟩
end Go.Proofs.YtoklonmiejdgmaaGreatDoor.As
/- Package asm: kinds; the text of an instruction. -/
namespace Go.Proofs.YtoklonmiejdgmaaGreatDoor.As
set_option linter.unusedVariables false
set_option linter.unusedSimpArgs false
set_option linter.unnecessarySimpa false
open Go.RowKit Go.Sort
set_option maxHeartbeats 2000000
set_option maxRecDepth 100000
set_option linter.unusedVariables false
def kindL : List Nat:=[0,0,0,0,0,0,0,0,0,0,0,0,0,0,1,1,1,1,1,1,1,1,2,1,1,1,3,3,3,3,3,3,2,1,5,5,5,2,4,5,5,5]
def kindN (o : Nat) : Nat:=kindL.getD o 5
theorem kind_1 (w : World) : Calls Tryz.prog 180 #[.int .i64 1] w fun e w'=>e = .returned (.int .i64 0) ∧ w = w':=by
 go_enter Tryz.func180,Tryz.ntmps180
 go_wp2
 go_ret
 exact ⟨rfl,rfl⟩
theorem kind_2 (w : World) : Calls Tryz.prog 180 #[.int .i64 2] w fun e w'=>e = .returned (.int .i64 0) ∧ w = w':=by
 go_enter Tryz.func180,Tryz.ntmps180
 go_wp2
 go_ret
 exact ⟨rfl,rfl⟩
theorem kind_3 (w : World) : Calls Tryz.prog 180 #[.int .i64 3] w fun e w'=>e = .returned (.int .i64 0) ∧ w = w':=by
 go_enter Tryz.func180,Tryz.ntmps180
 go_wp2
 go_ret
 exact ⟨rfl,rfl⟩
theorem kind_4 (w : World) : Calls Tryz.prog 180 #[.int .i64 4] w fun e w'=>e = .returned (.int .i64 0) ∧ w = w':=by
 go_enter Tryz.func180,Tryz.ntmps180
 go_wp2
 go_ret
 exact ⟨rfl,rfl⟩
theorem kind_5 (w : World) : Calls Tryz.prog 180 #[.int .i64 5] w fun e w'=>e = .returned (.int .i64 0) ∧ w = w':=by
 go_enter Tryz.func180,Tryz.ntmps180
 go_wp2
 go_ret
 exact ⟨rfl,rfl⟩
theorem kind_6 (w : World) : Calls Tryz.prog 180 #[.int .i64 6] w fun e w'=>e = .returned (.int .i64 0) ∧ w = w':=by
 go_enter Tryz.func180,Tryz.ntmps180
 go_wp2
 go_ret
 exact ⟨rfl,rfl⟩
theorem kind_7 (w : World) : Calls Tryz.prog 180 #[.int .i64 7] w fun e w'=>e = .returned (.int .i64 0) ∧ w = w':=by
 go_enter Tryz.func180,Tryz.ntmps180
 go_wp2
 go_ret
 exact ⟨rfl,rfl⟩
theorem kind_8 (w : World) : Calls Tryz.prog 180 #[.int .i64 8] w fun e w'=>e = .returned (.int .i64 0) ∧ w = w':=by
 go_enter Tryz.func180,Tryz.ntmps180
 go_wp2
 go_ret
 exact ⟨rfl,rfl⟩
theorem kind_9 (w : World) : Calls Tryz.prog 180 #[.int .i64 9] w fun e w'=>e = .returned (.int .i64 0) ∧ w = w':=by
 go_enter Tryz.func180,Tryz.ntmps180
 go_wp2
 go_ret
 exact ⟨rfl,rfl⟩
theorem kind_10 (w : World) : Calls Tryz.prog 180 #[.int .i64 10] w fun e w'=>e = .returned (.int .i64 0) ∧ w = w':=by
 go_enter Tryz.func180,Tryz.ntmps180
 go_wp2
 go_ret
 exact ⟨rfl,rfl⟩
theorem kind_11 (w : World) : Calls Tryz.prog 180 #[.int .i64 11] w fun e w'=>e = .returned (.int .i64 0) ∧ w = w':=by
 go_enter Tryz.func180,Tryz.ntmps180
 go_wp2
 go_ret
 exact ⟨rfl,rfl⟩
theorem kind_12 (w : World) : Calls Tryz.prog 180 #[.int .i64 12] w fun e w'=>e = .returned (.int .i64 0) ∧ w = w':=by
 go_enter Tryz.func180,Tryz.ntmps180
 go_wp2
 go_ret
 exact ⟨rfl,rfl⟩
theorem kind_13 (w : World) : Calls Tryz.prog 180 #[.int .i64 13] w fun e w'=>e = .returned (.int .i64 0) ∧ w = w':=by
 go_enter Tryz.func180,Tryz.ntmps180
 go_wp2
 go_ret
 exact ⟨rfl,rfl⟩
theorem kind_14 (w : World) : Calls Tryz.prog 180 #[.int .i64 14] w fun e w'=>e = .returned (.int .i64 1) ∧ w = w':=by
 go_enter Tryz.func180,Tryz.ntmps180
 go_wp2
 go_ret
 exact ⟨rfl,rfl⟩
theorem kind_15 (w : World) : Calls Tryz.prog 180 #[.int .i64 15] w fun e w'=>e = .returned (.int .i64 1) ∧ w = w':=by
 go_enter Tryz.func180,Tryz.ntmps180
 go_wp2
 go_ret
 exact ⟨rfl,rfl⟩
theorem kind_16 (w : World) : Calls Tryz.prog 180 #[.int .i64 16] w fun e w'=>e = .returned (.int .i64 1) ∧ w = w':=by
 go_enter Tryz.func180,Tryz.ntmps180
 go_wp2
 go_ret
 exact ⟨rfl,rfl⟩
theorem kind_17 (w : World) : Calls Tryz.prog 180 #[.int .i64 17] w fun e w'=>e = .returned (.int .i64 1) ∧ w = w':=by
 go_enter Tryz.func180,Tryz.ntmps180
 go_wp2
 go_ret
 exact ⟨rfl,rfl⟩
theorem kind_18 (w : World) : Calls Tryz.prog 180 #[.int .i64 18] w fun e w'=>e = .returned (.int .i64 1) ∧ w = w':=by
 go_enter Tryz.func180,Tryz.ntmps180
 go_wp2
 go_ret
 exact ⟨rfl,rfl⟩
theorem kind_19 (w : World) : Calls Tryz.prog 180 #[.int .i64 19] w fun e w'=>e = .returned (.int .i64 1) ∧ w = w':=by
 go_enter Tryz.func180,Tryz.ntmps180
 go_wp2
 go_ret
 exact ⟨rfl,rfl⟩
theorem kind_20 (w : World) : Calls Tryz.prog 180 #[.int .i64 20] w fun e w'=>e = .returned (.int .i64 1) ∧ w = w':=by
 go_enter Tryz.func180,Tryz.ntmps180
 go_wp2
 go_ret
 exact ⟨rfl,rfl⟩
theorem kind_21 (w : World) : Calls Tryz.prog 180 #[.int .i64 21] w fun e w'=>e = .returned (.int .i64 1) ∧ w = w':=by
 go_enter Tryz.func180,Tryz.ntmps180
 go_wp2
 go_ret
 exact ⟨rfl,rfl⟩
theorem kind_22 (w : World) : Calls Tryz.prog 180 #[.int .i64 22] w fun e w'=>e = .returned (.int .i64 2) ∧ w = w':=by
 go_enter Tryz.func180,Tryz.ntmps180
 go_wp2
 go_ret
 exact ⟨rfl,rfl⟩
theorem kind_23 (w : World) : Calls Tryz.prog 180 #[.int .i64 23] w fun e w'=>e = .returned (.int .i64 1) ∧ w = w':=by
 go_enter Tryz.func180,Tryz.ntmps180
 go_wp2
 go_ret
 exact ⟨rfl,rfl⟩
theorem kind_24 (w : World) : Calls Tryz.prog 180 #[.int .i64 24] w fun e w'=>e = .returned (.int .i64 1) ∧ w = w':=by
 go_enter Tryz.func180,Tryz.ntmps180
 go_wp2
 go_ret
 exact ⟨rfl,rfl⟩
theorem kind_25 (w : World) : Calls Tryz.prog 180 #[.int .i64 25] w fun e w'=>e = .returned (.int .i64 1) ∧ w = w':=by
 go_enter Tryz.func180,Tryz.ntmps180
 go_wp2
 go_ret
 exact ⟨rfl,rfl⟩
theorem kind_26 (w : World) : Calls Tryz.prog 180 #[.int .i64 26] w fun e w'=>e = .returned (.int .i64 3) ∧ w = w':=by
 go_enter Tryz.func180,Tryz.ntmps180
 go_wp2
 go_ret
 exact ⟨rfl,rfl⟩
theorem kind_27 (w : World) : Calls Tryz.prog 180 #[.int .i64 27] w fun e w'=>e = .returned (.int .i64 3) ∧ w = w':=by
 go_enter Tryz.func180,Tryz.ntmps180
 go_wp2
 go_ret
 exact ⟨rfl,rfl⟩
theorem kind_28 (w : World) : Calls Tryz.prog 180 #[.int .i64 28] w fun e w'=>e = .returned (.int .i64 3) ∧ w = w':=by
 go_enter Tryz.func180,Tryz.ntmps180
 go_wp2
 go_ret
 exact ⟨rfl,rfl⟩
theorem kind_29 (w : World) : Calls Tryz.prog 180 #[.int .i64 29] w fun e w'=>e = .returned (.int .i64 3) ∧ w = w':=by
 go_enter Tryz.func180,Tryz.ntmps180
 go_wp2
 go_ret
 exact ⟨rfl,rfl⟩
theorem kind_30 (w : World) : Calls Tryz.prog 180 #[.int .i64 30] w fun e w'=>e = .returned (.int .i64 3) ∧ w = w':=by
 go_enter Tryz.func180,Tryz.ntmps180
 go_wp2
 go_ret
 exact ⟨rfl,rfl⟩
theorem kind_31 (w : World) : Calls Tryz.prog 180 #[.int .i64 31] w fun e w'=>e = .returned (.int .i64 3) ∧ w = w':=by
 go_enter Tryz.func180,Tryz.ntmps180
 go_wp2
 go_ret
 exact ⟨rfl,rfl⟩
theorem kind_32 (w : World) : Calls Tryz.prog 180 #[.int .i64 32] w fun e w'=>e = .returned (.int .i64 2) ∧ w = w':=by
 go_enter Tryz.func180,Tryz.ntmps180
 go_wp2
 go_ret
 exact ⟨rfl,rfl⟩
theorem kind_33 (w : World) : Calls Tryz.prog 180 #[.int .i64 33] w fun e w'=>e = .returned (.int .i64 1) ∧ w = w':=by
 go_enter Tryz.func180,Tryz.ntmps180
 go_wp2
 go_ret
 exact ⟨rfl,rfl⟩
theorem kind_34 (w : World) : Calls Tryz.prog 180 #[.int .i64 34] w fun e w'=>e = .returned (.int .i64 5) ∧ w = w':=by
 go_enter Tryz.func180,Tryz.ntmps180
 go_wp2
 go_ret
 exact ⟨rfl,rfl⟩
theorem kind_35 (w : World) : Calls Tryz.prog 180 #[.int .i64 35] w fun e w'=>e = .returned (.int .i64 5) ∧ w = w':=by
 go_enter Tryz.func180,Tryz.ntmps180
 go_wp2
 go_ret
 exact ⟨rfl,rfl⟩
theorem kind_36 (w : World) : Calls Tryz.prog 180 #[.int .i64 36] w fun e w'=>e = .returned (.int .i64 5) ∧ w = w':=by
 go_enter Tryz.func180,Tryz.ntmps180
 go_wp2
 go_ret
 exact ⟨rfl,rfl⟩
theorem kind_37 (w : World) : Calls Tryz.prog 180 #[.int .i64 37] w fun e w'=>e = .returned (.int .i64 2) ∧ w = w':=by
 go_enter Tryz.func180,Tryz.ntmps180
 go_wp2
 go_ret
 exact ⟨rfl,rfl⟩
theorem kind_38 (w : World) : Calls Tryz.prog 180 #[.int .i64 38] w fun e w'=>e = .returned (.int .i64 4) ∧ w = w':=by
 go_enter Tryz.func180,Tryz.ntmps180
 go_wp2
 go_ret
 exact ⟨rfl,rfl⟩
theorem kind_39 (w : World) : Calls Tryz.prog 180 #[.int .i64 39] w fun e w'=>e = .returned (.int .i64 5) ∧ w = w':=by
 go_enter Tryz.func180,Tryz.ntmps180
 go_wp2
 go_ret
 exact ⟨rfl,rfl⟩
theorem kind_40 (w : World) : Calls Tryz.prog 180 #[.int .i64 40] w fun e w'=>e = .returned (.int .i64 5) ∧ w = w':=by
 go_enter Tryz.func180,Tryz.ntmps180
 go_wp2
 go_ret
 exact ⟨rfl,rfl⟩
theorem kind_41 (w : World) : Calls Tryz.prog 180 #[.int .i64 41] w fun e w'=>e = .returned (.int .i64 5) ∧ w = w':=by
 go_enter Tryz.func180,Tryz.ntmps180
 go_wp2
 go_ret
 exact ⟨rfl,rfl⟩
theorem kind_any (o : Nat) (h1 : 1 ≤ o) (h2 : o < 42) (w : World) : Calls Tryz.prog 180 #[.int .i64 o] w fun e w'=>e = .returned (.int .i64 (kindN o)) ∧ w = w':=by
 rcases (by omega : o = 1 ∨ o = 2 ∨ o = 3 ∨ o = 4 ∨ o = 5 ∨ o = 6 ∨ o = 7 ∨ o = 8 ∨ o = 9 ∨ o = 10 ∨ o = 11 ∨ o = 12 ∨ o = 13 ∨ o = 14 ∨ o = 15 ∨ o = 16 ∨ o = 17 ∨ o = 18 ∨ o = 19 ∨ o = 20 ∨ o = 21 ∨ o = 22 ∨ o = 23 ∨ o = 24 ∨ o = 25 ∨ o = 26 ∨ o = 27 ∨ o = 28 ∨ o = 29 ∨ o = 30 ∨ o = 31 ∨ o = 32 ∨ o = 33 ∨ o = 34 ∨ o = 35 ∨ o = 36 ∨ o = 37 ∨ o = 38 ∨ o = 39 ∨ o = 40 ∨ o = 41) with rfl | rfl | rfl | rfl | rfl | rfl | rfl | rfl | rfl | rfl | rfl | rfl | rfl | rfl | rfl | rfl | rfl | rfl | rfl | rfl | rfl | rfl | rfl | rfl | rfl | rfl | rfl | rfl | rfl | rfl | rfl | rfl | rfl | rfl | rfl | rfl | rfl | rfl | rfl | rfl | rfl
 ·exact kind_1 w
 ·exact kind_2 w
 ·exact kind_3 w
 ·exact kind_4 w
 ·exact kind_5 w
 ·exact kind_6 w
 ·exact kind_7 w
 ·exact kind_8 w
 ·exact kind_9 w
 ·exact kind_10 w
 ·exact kind_11 w
 ·exact kind_12 w
 ·exact kind_13 w
 ·exact kind_14 w
 ·exact kind_15 w
 ·exact kind_16 w
 ·exact kind_17 w
 ·exact kind_18 w
 ·exact kind_19 w
 ·exact kind_20 w
 ·exact kind_21 w
 ·exact kind_22 w
 ·exact kind_23 w
 ·exact kind_24 w
 ·exact kind_25 w
 ·exact kind_26 w
 ·exact kind_27 w
 ·exact kind_28 w
 ·exact kind_29 w
 ·exact kind_30 w
 ·exact kind_31 w
 ·exact kind_32 w
 ·exact kind_33 w
 ·exact kind_34 w
 ·exact kind_35 w
 ·exact kind_36 w
 ·exact kind_37 w
 ·exact kind_38 w
 ·exact kind_39 w
 ·exact kind_40 w
 ·exact kind_41 w
theorem kindN_le : ∀ o : Fin 42,kindN o.val ≤ 5:=by decide +kernel
theorem opName_le : ∀ o : Fin 42,(opName o.val).length ≤ 10:=by decide +kernel
def textL (o : Nat) (d a b n : Int) : List UInt8:=match kindN o with
 | 0=>opName o ++ (wregL d ++ (wregL a ++ wregL b))
 | 1=>opName o ++ (wregL d ++ (wregL a ++ wnumL n))
 | 2=>opName o ++ (wregL d ++ wnumL n)
 | 3=>opName o ++ (wregL a ++ (wregL b ++ wnumL n))
 | 4=>opName o ++ (wregL a ++ wnumL n)
 | _=>opName o
structure TS (w : World) (wb ib : Nat) (op d a b n : Int) (L : List UInt8) (k : Nat) (W : World) : Prop where
 bel : Below w.heap.size w W
 new : w.heap.size ≤ wb
 obj : ObjAt W wb 237 [.string (ba L)]
 ins : ObjAt W ib 145 [.int .i64 op,.int .i64 d,.int .i64 a,.int .i64 b,.int .i64 n]
 len : L.length ≤ k
theorem wregL_len (n : Int) (h0 : -9223372036854775808 ≤ n) (h1 : n ≤ 9223372036854775807) : (wregL n).length ≤ 30:=by
 have:=Lib.itoa_length_le n h0 h1
 simp [wregL];omega
theorem wnumL_len (n : Int) (h0 : -9223372036854775808 ≤ n) (h1 : n ≤ 9223372036854775807) : (wnumL n).length ≤ 30:=by
 have:=Lib.itoa_length_le n h0 h1
 simp [wnumL];omega
theorem reg_ts {w : World} (hP : PowIs w) {wb ib : Nat} {op d a b n : Int} {L : List UInt8} {k : Nat} {W : World} (h : TS w wb ib op d a b n L k W) (hk : k ≤ 1000) (x : Int) (h0 : -9223372036854775808 ≤ x) (h1 : x ≤ 9223372036854775807) :
  Calls Tryz.prog 178 #[.pointer (some ⟨wb,0,none⟩),.int .i64 x] W fun e w'=>e = .returned (.tuple #[]) ∧ TS w wb ib op d a b n (L ++ wregL x) (k + 30) w':=by
 have hlen:=h.len
 refine (wreg_any wb L x h0 h1 W (hP.below h.bel) h.obj (by omega)).mono ?_
 rintro e w' ⟨rfl,ho,hu⟩
 have hne : ib ≠ wb:=h.ins.ne h.obj (by decide)
 refine ⟨rfl,?_,h.new,ho,h.ins.upd hu hne,?_⟩
 ·exact h.bel.trans (hu.below h.new h.bel.size)
 ·have:=wregL_len x h0 h1
  rw [List.length_append];omega
theorem num_ts {w : World} (hP : PowIs w) {wb ib : Nat} {op d a b n : Int} {L : List UInt8} {k : Nat} {W : World} (h : TS w wb ib op d a b n L k W) (hk : k ≤ 1000) (x : Int) (h0 : -9223372036854775808 ≤ x) (h1 : x ≤ 9223372036854775807) :
  Calls Tryz.prog 179 #[.pointer (some ⟨wb,0,none⟩),.int .i64 x] W fun e w'=>e = .returned (.tuple #[]) ∧ TS w wb ib op d a b n (L ++ wnumL x) (k + 30) w':=by
 have hlen:=h.len
 refine (wnum_any wb L x h0 h1 W (hP.below h.bel) h.obj (by omega)).mono ?_
 rintro e w' ⟨rfl,ho,hu⟩
 have hne : ib ≠ wb:=h.ins.ne h.obj (by decide)
 refine ⟨rfl,?_,h.new,ho,h.ins.upd hu hne,?_⟩
 ·exact h.bel.trans (hu.below h.new h.bel.size)
 ·have:=wnumL_len x h0 h1
  rw [List.length_append];omega
def textE (op d a b n : Int) : Int:=if Isa.validB op d a b n then 0 else 6
def textV (op d a b n : Int) : List UInt8:=if Isa.validB op d a b n then textL op.toNat d a b n else []
theorem text_asm (op d a b n : Int) (w : World) (hP : PowIs w) (ht : Isa.Tab w) :
  Calls Tryz.prog 157 #[(.agg #[.int .i64 (op),.int .i64 (d),.int .i64 (a),.int .i64 (b),.int .i64 (n)])] w fun e w'=>e = .returned (.tuple #[.string (ba (textV op d a b n)),.int .i64 (textE op d a b n)]) ∧ Below w.heap.size w w':=by
 have HT:=Lib.hid (Isa.alloc_tab ht (.cells #[.int .i64 op,.int .i64 d,.int .i64 a,.int .i64 b,.int .i64 n] 145))
 have HP:=Lib.hid hP
 clear ht hP
 cases hv : Isa.validB op d a b n
 ·have HE : Hid (textV op d a b n = [] ∧ textE op d a b n = 6):=by simp [Hid,textV,textE,hv]
  go_enter Tryz.func157,Tryz.ntmps157
  go_wp2_with (go_at_call 176;refine (Isa.valid_any _ _ _ _ _ _ HT.out).mono ?_;rintro e w1 ⟨rfl,hb1⟩)
  go_ret2
  exact ⟨by rw [HE.out.1,HE.out.2];rfl,((Below.refl _ _).alloc (Nat.le_refl _) _).trans (hb1.mono (by simp))⟩
 ·have hB:=Isa.validB_bounds hv
  obtain ⟨⟨o1,o2⟩,⟨d1,d2⟩,⟨a1,a2⟩,⟨b1,b2⟩,⟨n1,n2⟩⟩:=hB
  obtain ⟨o,rfl⟩ : ∃ o : Nat,op = o:=⟨op.toNat,by omega⟩
  have HO : Hid (1 ≤ o ∧ o < 42):=⟨by omega,by omega⟩
  have HE : Hid (textV o d a b n = textL o d a b n ∧ textE o d a b n = 0):=by simp [Hid,textV,textE,hv]
  go_enter Tryz.func157,Tryz.ntmps157
  go_wp2_with fail
  refine (Isa.valid_any _ _ _ _ _ _ HT.out).mono ?_;rintro e w1 ⟨rfl,hb1⟩
  have HB1 : Hid (Below w.heap.size w w1):=((Below.refl _ _).alloc (Nat.le_refl _) _).trans (hb1.mono (by simp))
  have HI1 : Hid (ObjAt w1 w.heap.size 145 [.int .i64 o,.int .i64 d,.int .i64 a,.int .i64 b,.int .i64 n]):=(ObjAt.new w 145 [.int .i64 o,.int .i64 d,.int .i64 a,.int .i64 b,.int .i64 n]).below hb1
  have k0:=HI1.out.cell 0 _ rfl
  clear hb1
  go_wp2_with fail
  refine (name_any o HO.out.1 HO.out.2 _).mono ?_;rintro e w2 ⟨rfl,hb2⟩
  have HB2 : Hid (Below w.heap.size w w2):=bmore HB1.out hb2
  have HI2 : Hid (ObjAt w2 w.heap.size 145 [.int .i64 o,.int .i64 d,.int .i64 a,.int .i64 b,.int .i64 n]):=HI1.out.below hb2
  have HB3 : Hid (Below w.heap.size w (w2.alloc (.cells #[.string (ba (opName o))] 237))):=bmore HB2.out ((Below.refl _ _).alloc (Nat.le_refl _) _)
  have HI3 : Hid (ObjAt (w2.alloc (.cells #[.string (ba (opName o))] 237)) w.heap.size 145 [.int .i64 o,.int .i64 d,.int .i64 a,.int .i64 b,.int .i64 n]):=HI2.out.below ((Below.refl _ _).alloc (Nat.le_refl _) _)
  have k0:=HI3.out.cell 0 _ rfl
  have k1:=HI3.out.cell 1 _ rfl
  have k2:=HI3.out.cell 2 _ rfl
  have k3:=HI3.out.cell 3 _ rfl
  have k4:=HI3.out.cell 4 _ rfl
  have kw:=(ObjAt.new w2 237 [.string (ba (opName o))]).cell 0 _ rfl
  have hTS : TS w w2.heap.size w.heap.size o d a b n (opName o) 10 (w2.alloc (.cells #[.string (ba (opName o))] 237)):=⟨HB3.out,HB2.out.size,ObjAt.new w2 237 [.string (ba (opName o))],HI3.out,opName_le ⟨o,by omega⟩⟩
  clear hb2
  go_wp2_with fail
  refine (kind_any o HO.out.1 HO.out.2 _).mono ?_;rintro e w3 ⟨rfl,rfl⟩
  have HC : Hid (kindN o = 0 ∨ kindN o = 1 ∨ kindN o = 2 ∨ kindN o = 3 ∨ kindN o = 4 ∨ kindN o = 5):=by have:=kindN_le ⟨o,by omega⟩;dsimp only at this;unfold Hid;omega
  clear HB1 HI1 HB3 HI3 HT
  rcases HC.out with hK | hK | hK | hK | hK | hK
  all_goals
   rw [hK]
   have HL : Hid (kindN o = _):=hK
   clear hK HC
   go_wp2_with (first | (go_at_call 178;refine (reg_ts HP.out (by assumption) (by omega) _ (by omega) (by omega)).mono ?_;rintro e Wr ⟨rfl,hTS⟩;have k1:=hTS.ins.cell 1 _ rfl;have k2:=hTS.ins.cell 2 _ rfl;have k3:=hTS.ins.cell 3 _ rfl;have k4:=hTS.ins.cell 4 _ rfl;have kw:=hTS.obj.cell 0 _ rfl) | (go_at_call 179;refine (num_ts HP.out (by assumption) (by omega) _ (by omega) (by omega)).mono ?_;rintro e Wr ⟨rfl,hTS⟩;have k1:=hTS.ins.cell 1 _ rfl;have k2:=hTS.ins.cell 2 _ rfl;have k3:=hTS.ins.cell 3 _ rfl;have k4:=hTS.ins.cell 4 _ rfl;have kw:=hTS.obj.cell 0 _ rfl))
   go_ret2
   refine ⟨?_,?_⟩
   ·rw [HE.out.1,HE.out.2];unfold textL;rw [HL.out];rfl
   ·first | (rename_i hTS;exact hTS.bel) | exact hTS.bel
end Go.Proofs.YtoklonmiejdgmaaGreatDoor.As
/- Package asm: words read one by one. -/
namespace Go.Proofs.YtoklonmiejdgmaaGreatDoor.As
set_option linter.unusedVariables false
set_option linter.unusedSimpArgs false
set_option linter.unnecessarySimpa false
open Go.RowKit Go.Sort
set_option maxHeartbeats 2000000
set_option maxRecDepth 100000
set_option linter.unusedVariables false
structure RS (w : World) (rb g : Nat) (l : List (List UInt8)) (bad : Bool) (W : World) : Prop where
 bel : Below w.heap.size w W
 new : w.heap.size ≤ rb
 ne : g ≠ rb
 obj : ∃ a o cap,ObjAt W rb 266 [.slice a l.length cap,.bool bad] ∧ l.length ≤ cap ∧ cap ≤ maxLen ∧ (l ≠ [] → a = some ⟨g,o,none⟩ ∧ g < W.heap.size) ∧ ∀ j (hj : j < l.length),W.cell? ⟨g,o + j,none⟩ = some (.string (ba l[j]))
 small : ∀ x ∈ l,x.length ≤ 100000000
theorem next_rs {w : World} {rb g : Nat} {l : List (List UInt8)} {bad : Bool} {W : World} (h : RS w rb g l bad W) :
  Calls Tryz.prog 215 #[.pointer (some ⟨rb,0,none⟩)] W fun e w'=>e = .returned (.string (ba (l.headD []))) ∧ RS w rb g l.tail (bad || l.isEmpty) w' ∧ Upd rb W w':=by
 obtain ⟨a,o,cap,hobj,hle,hmx,hsome,hc⟩:=h.obj
 cases l with
 | nil=>
  have HX : Hid (RS w rb g [] true (W.setCell ⟨rb,1,none⟩ (.bool true)) ∧ Upd rb W (W.setCell ⟨rb,1,none⟩ (.bool true))):=by
   refine ⟨⟨h.bel.trans ((Upd.setCell W ⟨rb,1,none⟩ _).below h.new h.bel.size),h.new,h.ne,⟨a,o,cap,hobj.set 1 _,hle,hmx,fun h0=>absurd rfl h0,fun j hj=>absurd hj (by simp)⟩,fun x hx=>absurd hx (by simp)⟩,Upd.setCell W ⟨rb,1,none⟩ _⟩
  have HO:=Lib.hid hobj
  have c0:=HO.out.cell 0 _ rfl
  have c1:=HO.out.cell 1 _ rfl
  have f1:=HO.out.free 1
  clear h hobj hle hmx hsome hc
  go_enter Tryz.func215,Tryz.ntmps215
  go_wp2
  go_ret
  refine ⟨rfl,?_,HX.out.2⟩
  rw [Bool.or_comm];exact HX.out.1
 | cons x r=>
  obtain ⟨ha,hg⟩:=hsome (by simp)
  subst ha
  have hl : (x :: r).length = r.length + 1:=rfl
  rw [hl] at hle
  obtain ⟨v,hv⟩ : ∃ v : Value,v = .slice (some ⟨g,if cap = 1 then o else o + 1,none⟩) r.length (cap - 1):=⟨_,rfl⟩
  have HX : Hid (RS w rb g r bad (W.setCell ⟨rb,0,none⟩ v) ∧ Upd rb W (W.setCell ⟨rb,0,none⟩ v)):=by
   have hne:=h.ne
   refine ⟨⟨h.bel.trans ((Upd.setCell W ⟨rb,0,none⟩ _).below h.new h.bel.size),h.new,h.ne,⟨some ⟨g,if cap = 1 then o else o + 1,none⟩,if cap = 1 then o else o + 1,cap - 1,?_,by omega,by omega,fun h0=>⟨rfl,by simp [World.setCell];exact hg⟩,fun j hj=>?_⟩,fun y hy=>h.small y (List.mem_cons_of_mem _ hy)⟩,Upd.setCell W ⟨rb,0,none⟩ _⟩
   ·have:=hobj.set 0 v
    rw [hv] at this ⊢
    exact this
   ·have h1:=hc (j + 1) (by rw [hl];omega)
    have hcap : ¬ cap = 1:=by omega
    rw [if_neg hcap]
    rw [World.cell?_setCell_far _ _ _ _ (show rb ≠ g from fun e=>hne e.symm)]
    rw [show o + 1 + j = o + (j + 1) by omega,h1]
    rfl
  have HO:=Lib.hid hobj
  have c0:=HO.out.cell 0 _ rfl
  have c1:=HO.out.cell 1 _ rfl
  have f0:=HO.out.free 0
  have s0 : W.cell? ⟨g,o,none⟩ = some (.string (ba x)):=hc 0 (by rw [hl];omega)
  have s0' : W.cell? ⟨g,o + 0,none⟩ = some (.string (ba x)):=s0
  have hsm : r.length + 1 ≤ 9223372036854775807:=by have : cap ≤ 2 ^ 63 - 1:=hmx;omega
  have HL:=Lib.hid hle
  rw [hl] at c0
  clear h hobj hmx hsome hc hle
  go_enter Tryz.func215,Tryz.ntmps215
  go_wp2_with fail
  all_goals
   go_ret
   refine ⟨rfl,?_⟩
   have hX:=HX.out
   rw [hv] at hX
   first | rw [if_pos (by assumption)] at hX | rw [if_neg (by assumption)] at hX
   first | exact hX | (subst_vars;exact hX)
def cutL (c : UInt8) (s : List UInt8) : List UInt8:=Lib.trimPrefix s [c]
def cutB (c : UInt8) (s : List UInt8) : Bool:=Lib.hasPrefix s [c]
def regN (s : List UInt8) : Int:=numI (cutL 114 s)
def regOk (s : List UInt8) : Bool:=cutB 114 s && numB (cutL 114 s)
def numN (s : List UInt8) : Int:=if cutB 45 s then -(numI (cutL 45 s) : Int) else numI (cutL 45 s)
def numOk (s : List UInt8) : Bool:=numB (cutL 45 s) && !(cutB 45 s && numI (cutL 45 s) == 0)
theorem cut_lib (c : UInt8) (s : List UInt8) (w : World) : Calls Tryz.prog 191 #[.string (ba s),.string ⟨#[c]⟩] w fun e w'=>e = .returned (.tuple #[.string (ba (cutL c s)),.bool (cutB c s)]) ∧ w' = w:=Tryz.strings_CutPrefix (ba s) ⟨#[c]⟩ w
theorem cutL_le (c : UInt8) (s : List UInt8) : (cutL c s).length ≤ s.length:=by
 unfold cutL Lib.trimPrefix
 split <;> simp
theorem RS.head {w : World} {rb g : Nat} {l : List (List UInt8)} {bad : Bool} {W : World} (h : RS w rb g l bad W) : (l.headD []).length ≤ 100000000:=by
 cases l with
 | nil=>simp
 | cons x r=>exact h.small x (List.mem_cons_self ..)
theorem RS.more {w : World} {rb g : Nat} {l : List (List UInt8)} {bad : Bool} {W W' : World} (h : RS w rb g l bad W) (hb : Below W.heap.size W W') : RS w rb g l bad W':=by
 obtain ⟨a,o,cap,hobj,hle,hmx,hsome,hc⟩:=h.obj
 refine ⟨bmore h.bel hb,h.new,h.ne,⟨a,o,cap,hobj.below hb,hle,hmx,fun h0=>⟨(hsome h0).1,Nat.lt_of_lt_of_le (hsome h0).2 hb.size⟩,fun j hj=>?_⟩,h.small⟩
 rw [hb.cell (show g < W.heap.size from (hsome (fun h0=>by rw [h0] at hj;simp at hj)).2)]
 exact hc j hj
theorem RS.spoil {w : World} {rb g : Nat} {l : List (List UInt8)} {bad : Bool} {W : World} (h : RS w rb g l bad W) : RS w rb g l true (W.setCell ⟨rb,1,none⟩ (.bool true)):=by
 obtain ⟨a,o,cap,hobj,hle,hmx,hsome,hc⟩:=h.obj
 have hne:=h.ne
 refine ⟨h.bel.trans ((Upd.setCell W ⟨rb,1,none⟩ _).below h.new h.bel.size),h.new,h.ne,⟨a,o,cap,hobj.set 1 _,hle,hmx,fun h0=>⟨(hsome h0).1,by simp [World.setCell];exact (hsome h0).2⟩,fun j hj=>?_⟩,h.small⟩
 rw [World.cell?_setCell_far _ _ _ _ (show rb ≠ g from fun e=>hne e.symm)]
 exact hc j hj
theorem RS.cells {w : World} {rb g : Nat} {l : List (List UInt8)} {bad : Bool} {W : World} (h : RS w rb g l bad W) : W.cell? ⟨rb,1,none⟩ = some (.bool bad) ∧ W.frozen? ⟨rb,1,none⟩ = false:=by
 obtain ⟨a,o,cap,hobj,hle,hmx,hsome,hc⟩:=h.obj
 exact ⟨hobj.cell 1 _ rfl,hobj.free 1⟩
theorem reg_rs {w : World} {rb g : Nat} {l : List (List UInt8)} {bad : Bool} {W : World} (h : RS w rb g l bad W) :
  Calls Tryz.prog 209 #[.pointer (some ⟨rb,0,none⟩)] W fun e w'=>e = .returned (.int .i64 (regN (l.headD []))) ∧ RS w rb g l.tail ((bad || l.isEmpty) || !regOk (l.headD [])) w' ∧ Upd rb W w':=by
 obtain ⟨s,hs⟩ : ∃ s,s = l.headD []:=⟨_,rfl⟩
 have hsl:=h.head
 have HN:=Lib.hid (next_rs h)
 rw [← hs] at HN hsl ⊢
 have HS : Hid ((ba (cutL 114 s)).size ≤ maxLen):=by have:=cutL_le 114 s;rw [Hid,ba_size,show maxLen = 9223372036854775807 from rfl];omega
 have HNUM:=fun W=>number_any (ba (cutL 114 s)) HS.out W
 rw [ba_data] at HNUM
 generalize (bad || l.isEmpty) = bd at HN ⊢
 clear h hsl hs
 cases hc : cutB 114 s <;> cases hn : numB (cutL 114 s)
 all_goals
  have HC:=Lib.hid hc
  have HM:=Lib.hid hn
  clear hc hn
  go_enter Tryz.func209,Tryz.ntmps209
  go_wp2_with fail
  refine HN.out.mono ?_;rintro e W1 ⟨rfl,h1,u1⟩
  go_wp2_with fail
  refine (cut_lib 114 s _).mono ?_;rintro e W2 ⟨rfl,rfl⟩
  rw [HC.out]
  go_wp2_with fail
  refine (HNUM _).mono ?_;rintro e W3 ⟨rfl,hb3⟩
  rw [HM.out]
  have h3:=h1.more hb3
  have c1:=h3.cells.1
  have f1:=h3.cells.2
  have HU : Hid (Upd rb W W3):=u1.trans (Upd.of_below hb3)
  have HRS:=Lib.hid h3
  clear h1 u1 hb3 h3
  go_wp2_with fail
  go_ret
  refine ⟨rfl,?_,?_⟩
  ·unfold regOk;rw [HC.out,HM.out]
   simp only [Bool.and_true,Bool.and_false,Bool.and_self,Bool.not_true,Bool.not_false,Bool.or_true,Bool.or_false]
   first | exact HRS.out | exact HRS.out.spoil
  ·first | exact HU.out | exact HU.out.trans (Upd.setCell _ ⟨rb,1,none⟩ _)
theorem num_rs {w : World} {rb g : Nat} {l : List (List UInt8)} {bad : Bool} {W : World} (h : RS w rb g l bad W) :
  Calls Tryz.prog 210 #[.pointer (some ⟨rb,0,none⟩)] W fun e w'=>e = .returned (.int .i64 (numN (l.headD []))) ∧ RS w rb g l.tail ((bad || l.isEmpty) || !numOk (l.headD [])) w' ∧ Upd rb W w':=by
 obtain ⟨s,hs⟩ : ∃ s,s = l.headD []:=⟨_,rfl⟩
 have hsl:=h.head
 have HN:=Lib.hid (next_rs h)
 rw [← hs] at HN hsl ⊢
 have HS : Hid ((ba (cutL 45 s)).size ≤ maxLen):=by have:=cutL_le 45 s;rw [Hid,ba_size,show maxLen = 9223372036854775807 from rfl];omega
 have HNUM:=fun W=>number_any (ba (cutL 45 s)) HS.out W
 rw [ba_data] at HNUM
 generalize (bad || l.isEmpty) = bd at HN ⊢
 have hlt:=numI_lt (cutL 45 s)
 obtain ⟨v,hv⟩ : ∃ v,v = numI (cutL 45 s):=⟨_,rfl⟩
 have HV : Hid (numN s = if cutB 45 s then -(v : Int) else v):=by unfold Hid numN;rw [hv]
 have HO : Hid (numOk s = (numB (cutL 45 s) && !(cutB 45 s && v == 0))):=by unfold Hid numOk;rw [hv]
 rw [← hv] at HNUM hlt
 have w1 : IntKind.i64.wrap (-(v : Int)) = -(v : Int):=by rw [IntKind.wrap_i64];omega
 clear h hsl hs hv hlt
 cases hc : cutB 45 s <;> cases hn : numB (cutL 45 s) <;> rcases (by omega : v = 0 ∨ v ≠ 0) with hz | hz
 all_goals
  have HC:=Lib.hid hc
  have HM:=Lib.hid hn
  have HZ:=Lib.hid hz
  have z1 : ((v : Int) == 0) = decide (v = 0):=by rw [Bool.eq_iff_iff];simp
  first | rw [decide_eq_true hz] at z1 | rw [decide_eq_false hz] at z1
  clear hc hn hz
  go_enter Tryz.func210,Tryz.ntmps210
  go_wp2_with fail
  refine HN.out.mono ?_;rintro e W1 ⟨rfl,h1,u1⟩
  go_wp2_with fail
  refine (cut_lib 45 s _).mono ?_;rintro e W2 ⟨rfl,rfl⟩
  rw [HC.out]
  go_wp2_with fail
  refine (HNUM _).mono ?_;rintro e W3 ⟨rfl,hb3⟩
  rw [HM.out]
  have h3:=h1.more hb3
  have c1:=h3.cells.1
  have f1:=h3.cells.2
  have HU : Hid (Upd rb W W3):=u1.trans (Upd.of_below hb3)
  have HRS:=Lib.hid h3
  clear h1 u1 hb3 h3
  go_wp2_with fail
  go_ret
  refine ⟨?_,?_,?_⟩
  ·rw [HV.out,HC.out];rfl
  ·rw [HO.out,HC.out,HM.out]
   first | rw [show (v == 0) = true from by rw [HZ.out];rfl] | rw [show (v == 0) = false from by simp;exact HZ.out] | skip
   simp only [Bool.and_true,Bool.and_false,Bool.false_and,Bool.and_self,Bool.not_true,Bool.not_false,Bool.or_true,Bool.or_false]
   first | exact HRS.out | exact HRS.out.spoil
  ·first | exact HU.out | exact HU.out.trans (Upd.setCell _ ⟨rb,1,none⟩ _)
end Go.Proofs.YtoklonmiejdgmaaGreatDoor.As
