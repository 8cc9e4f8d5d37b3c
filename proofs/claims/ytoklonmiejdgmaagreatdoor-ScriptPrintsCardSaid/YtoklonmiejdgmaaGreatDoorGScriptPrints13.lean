/- The reference for asm: names, numbers with a sign, texts. -/
import Derived.Test.YtoklonmiejdgmaaGreatDoorGScriptPrints6
import Derived.Test.YtoklonmiejdgmaaGreatDoorGScriptPrints7
import Derived.Test.YtoklonmiejdgmaaGreatDoorGScriptPrints10
import Derived.Test.YtoklonmiejdgmaaGreatDoorGScriptPrints12
import Derived.Test.YtoklonmiejdgmaaGreatDoorGScriptPrints5
import Derived.Test.YtoklonmiejdgmaaGreatDoorGScriptPrints8
import Derived.Test.YtoklonmiejdgmaaGreatDoorGScriptPrints9
import Derived.Test.YtoklonmiejdgmaaGreatDoorGScriptPrints2
import Derived.Test.YtoklonmiejdgmaaGreatDoorGScriptPrints1
import Derived.Test.YtoklonmiejdgmaaGreatDoorGScriptPrints0
import Derived.Test.YtoklonmiejdgmaaGreatDoorRows
namespace Go.Proofs.YtoklonmiejdgmaaGreatDoor.As
set_option linter.unusedVariables false
set_option linter.unusedSimpArgs false
set_option linter.unnecessarySimpa false
open Go.RowKit Go.Sort
set_option maxHeartbeats 2000000
set_option maxRecDepth 100000
set_option linter.unusedVariables false
theorem rnames_any (w : World) : Calls Tryz.prog 117 #[] w fun e w'=>e = .returned (.slice (some ⟨w.heap.size,0,none⟩) 42 42) ∧ w' = w.alloc (.cells (strC opNames).toArray 9):=by
 go_enter Tryz.func117,Tryz.ntmps117
 go_wp2
 go_ret
 exact ⟨rfl,rfl⟩
theorem names_at (w W : World) (h : Below (w.heap.size + 1) (w.alloc (.cells (strC opNames).toArray 9)) W) (o : Nat) (ho : o < 42) : W.cell? ⟨w.heap.size,o,none⟩ = some (.string (ba (opName o))):=by
 have hn : ObjAt (w.alloc (.cells (strC opNames).toArray 9)) w.heap.size 9 (strC opNames):=ObjAt.new w 9 (strC opNames)
 have:=(hn.belowB h (by omega)).cell o (.string (ba (opName o))) (by
  rw [strC_get _ _ (by rw [opNames_len];exact ho)]
  unfold opName
  rw [List.getD_eq_getElem?_getD,List.getElem?_eq_getElem (by rw [opNames_len];exact ho)];rfl)
 exact this
theorem rnames_o (o : Nat) (ho : o < 42) (w : World) : Calls Tryz.prog 117 #[] w fun e w'=>e = .returned (.slice (some ⟨w.heap.size,0,none⟩) 42 42) ∧ w'.cell? ⟨w.heap.size,o,none⟩ = some (.string (ba (opName o))) ∧ Below w.heap.size w w':=by
 refine (rnames_any w).mono ?_
 rintro e w' ⟨rfl,rfl⟩
 exact ⟨rfl,names_at w _ (Below.refl _ _) o ho,(Below.refl _ _).alloc (Nat.le_refl _) _⟩
theorem digits_b (n : Nat) (h : n ≤ 9223372036854775807) (w : World) : Calls Tryz.prog 45 #[.int .i64 n] w fun e w'=>e = .returned (.string (ba (Lib.decDigits n))) ∧ Below w.heap.size w w':=digits_any n w h
theorem rsigned_any (n : Int) (h0 : -100000 ≤ n) (h1 : n ≤ 100000) (w : World) : Calls Tryz.prog 118 #[.int .i64 n] w fun e w'=>e = .returned (.string (ba (Lib.itoa n))) ∧ Below w.heap.size w w':=by
 by_cases hn : n < 0
 ·obtain ⟨m,hm,rfl⟩ : ∃ m : Nat,1 ≤ m ∧ n = -(m : Int):=⟨(-n).toNat,by omega,by omega⟩
  obtain ⟨t,ht⟩ : ∃ t : ByteArray,t = ba (Lib.decDigits m):=⟨_,rfl⟩
  have hz : t.size ≤ 30:=by
   rw [ht,ba_size,Lib.decDigits_length]
   have:=Lib.nDigits_le20 m (by omega);omega
  have HD : Hid (∀ W,Calls Tryz.prog 45 #[.int .i64 m] W fun e w'=>e = .returned (.string t) ∧ Below W.heap.size W w'):=fun W=>by rw [ht];exact digits_b m (by omega) W
  have HR : Hid ((⟨#[45]⟩ : ByteArray) ++ t = ba (Lib.itoa (-(m : Int)))):=by
   rw [ht,Lib.itoa_neg m (by omega)];unfold ba;rw [show (⟨#[45]⟩ : ByteArray) = ⟨[45].toArray⟩ from rfl,ba_append];rfl
  have w1 : IntKind.i64.wrap (-(-(m : Int))) = (m : Int):=by rw [IntKind.wrap_i64];omega
  have q1 : ¬ 9223372036854775807 < 1 + t.size:=by omega
  clear ht hn
  go_enter Tryz.func118,Tryz.ntmps118
  go_wp2_with (go_at_call 45;refine (HD.out _).mono ?_;rintro e w1 ⟨rfl,hb1⟩)
  rw [HR.out]
  go_ret
  exact ⟨rfl,hb1⟩
 ·obtain ⟨m,rfl⟩ : ∃ m : Nat,n = m:=⟨n.toNat,by omega⟩
  have HD : Hid (∀ W,Calls Tryz.prog 45 #[.int .i64 m] W fun e w'=>e = .returned (.string (ba (Lib.itoa m))) ∧ Below W.heap.size W w'):=fun W=>by rw [Lib.itoa_nonneg];exact digits_b m (by omega) W
  go_enter Tryz.func118,Tryz.ntmps118
  go_wp2_with (go_at_call 45;refine (HD.out _).mono ?_;rintro e w1 ⟨rfl,hb1⟩)
  go_ret
  exact ⟨rfl,hb1⟩
theorem fl_kinds : ∀ o : Fin 42,1 ≤ o.val → (kindN o.val = 0 ∧ Isa.fl o.val 1 = true ∧ Isa.fl o.val 2 = true ∧ Isa.fl o.val 4 = true ∧ Isa.fl o.val 8 = false) ∨ (kindN o.val = 1 ∧ Isa.fl o.val 1 = true ∧ Isa.fl o.val 2 = true ∧ Isa.fl o.val 4 = false ∧ Isa.fl o.val 8 = true) ∨ (kindN o.val = 2 ∧ Isa.fl o.val 1 = true ∧ Isa.fl o.val 2 = false ∧ Isa.fl o.val 4 = false ∧ Isa.fl o.val 8 = true) ∨ (kindN o.val = 3 ∧ Isa.fl o.val 1 = false ∧ Isa.fl o.val 2 = true ∧ Isa.fl o.val 4 = true ∧ Isa.fl o.val 8 = true) ∨ (kindN o.val = 4 ∧ Isa.fl o.val 1 = false ∧ Isa.fl o.val 2 = true ∧ Isa.fl o.val 4 = false ∧ Isa.fl o.val 8 = true) ∨ (kindN o.val = 5 ∧ Isa.fl o.val 1 = false ∧ Isa.fl o.val 2 = false ∧ Isa.fl o.val 4 = false ∧ Isa.fl o.val 8 = false):=by decide +kernel
theorem cat_reg (L : List UInt8) (n : Nat) : (ba L ++ (⟨#[32,114]⟩ : ByteArray)) ++ ba (Lib.decDigits n) = ba (L ++ wregL n):=by
 unfold wregL ba;rw [show (⟨#[32,114]⟩ : ByteArray) = ⟨[32,114].toArray⟩ from rfl,ba_append,ba_append,Lib.itoa_nonneg,List.append_assoc]
theorem cat_num (L : List UInt8) (n : Int) : (ba L ++ (⟨#[32]⟩ : ByteArray)) ++ ba (Lib.itoa n) = ba (L ++ wnumL n):=by
 unfold wnumL ba;rw [show (⟨#[32]⟩ : ByteArray) = ⟨[32].toArray⟩ from rfl,ba_append,ba_append,List.append_assoc]
structure TR (w : World) (ib : Nat) (op d a b n : Int) (W : World) : Prop where
 bel : Below w.heap.size w W
 ins : ObjAt W ib 145 [.int .i64 op,.int .i64 d,.int .i64 a,.int .i64 b,.int .i64 n]
theorem TR.more {w : World} {ib : Nat} {op d a b n : Int} {W W' : World} (h : TR w ib op d a b n W) (hb : Below W.heap.size W W') : TR w ib op d a b n W':=⟨bmore h.bel hb,h.ins.below hb⟩
theorem textL_flat (o : Nat) (h1 : 1 ≤ o) (h2 : o < 42) (d a b n : Int) : textL o d a b n = (((opName o ++ if Isa.fl o 1 then wregL d else []) ++ if Isa.fl o 2 then wregL a else []) ++ if Isa.fl o 4 then wregL b else []) ++ if Isa.fl o 8 then wnumL n else []:=by
 have hk:=fl_kinds ⟨o,h2⟩ h1
 dsimp only at hk
 unfold textL
 rcases hk with ⟨k,e1,e2,e4,e8⟩ | ⟨k,e1,e2,e4,e8⟩ | ⟨k,e1,e2,e4,e8⟩ | ⟨k,e1,e2,e4,e8⟩ | ⟨k,e1,e2,e4,e8⟩ | ⟨k,e1,e2,e4,e8⟩ <;> simp [k,e1,e2,e4,e8]
theorem rtext_any (op d a b n : Int) (w : World) :
  Calls Tryz.prog 76 #[(.agg #[.int .i64 (op),.int .i64 (d),.int .i64 (a),.int .i64 (b),.int .i64 (n)])] w fun e w'=>e = .returned (.tuple #[.string (ba (textV op d a b n)),.int .i64 (textE op d a b n)]) ∧ Below w.heap.size w w':=by
 cases hv : Isa.validB op d a b n
 ·have HE : Hid (textV op d a b n = [] ∧ textE op d a b n = 6):=by simp [Hid,textV,textE,hv]
  have HV:=Lib.hid hv
  clear hv
  go_enter Tryz.func76,Tryz.ntmps76
  go_wp2_with (go_at_call 115;refine (Isa.Valid_ref _ _ _ _ _ _).mono ?_;rintro e w1 ⟨rfl,hb1⟩;rw [HV.out])
  go_ret2
  exact ⟨by rw [HE.out.1,HE.out.2];rfl,((Below.refl _ _).alloc (Nat.le_refl _) _).trans (hb1.mono (by simp))⟩
 ·have hB:=Isa.validB_bounds hv
  obtain ⟨⟨o1,o2⟩,⟨d1,d2⟩,⟨a1,a2⟩,⟨b1,b2⟩,⟨n1,n2⟩⟩:=hB
  obtain ⟨o,rfl⟩ : ∃ o : Nat,op = o:=⟨op.toNat,by omega⟩
  obtain ⟨d,rfl⟩ : ∃ o : Nat,d = o:=⟨d.toNat,by omega⟩
  obtain ⟨a,rfl⟩ : ∃ o : Nat,a = o:=⟨a.toNat,by omega⟩
  obtain ⟨b,rfl⟩ : ∃ o : Nat,b = o:=⟨b.toNat,by omega⟩
  have HV:=Lib.hid hv
  have HE : Hid (textV o d a b n = textL o d a b n ∧ textE o d a b n = 0):=by simp [Hid,textV,textE,hv]
  have hfl:=textL_flat o (by omega) (by omega) d a b n
  have HHS : Hid (∀ w,Calls Tryz.prog 116 #[.int .i64 o] w fun e w'=>e = .returned (.tuple #[.bool (Isa.fl o 1),.bool (Isa.fl o 2),.bool (Isa.fl o 4),.bool (Isa.fl o 8)]) ∧ w = w'):=fun w=>Isa.has_any o (by omega) (by omega) w
  have HNM : Hid ((opName o).length ≤ 10):=opName_le ⟨o,by omega⟩
  have HF:=Lib.hid hfl
  clear hv hfl
  generalize Isa.fl o 1 = f1 at HHS HF
  generalize Isa.fl o 2 = f2 at HHS HF
  generalize Isa.fl o 4 = f4 at HHS HF
  generalize Isa.fl o 8 = f8 at HHS HF
  rw [HF.out] at HE
  clear HF
  go_enter Tryz.func76,Tryz.ntmps76
  go_wp2_with fail
  refine (Isa.Valid_ref _ _ _ _ _ _).mono ?_;rintro e w1 ⟨rfl,hb1⟩
  rw [HV.out]
  have H1 : Hid (TR w w.heap.size o d a b n w1):=⟨((Below.refl _ _).alloc (Nat.le_refl _) _).trans (hb1.mono (by simp)),(ObjAt.new w 145 [.int .i64 o,.int .i64 d,.int .i64 a,.int .i64 b,.int .i64 n]).below hb1⟩
  have c0:=H1.out.ins.cell 0 _ rfl
  clear hb1 HV
  go_wp2_with fail
  refine (HHS.out _).mono ?_;rintro e w2 ⟨rfl,rfl⟩
  go_upto_region 4 with fail
  obtain ⟨L0,hL0⟩ : ∃ x,Hid (x = opName o):=⟨_,Lib.hid rfl⟩
  have hl0 : L0.length ≤ 10:=by rw [hL0.out];exact HNM.out
  go_cut [8] from 20 (fun s8 wc=>s8 = .string (ba L0) ∧ TR w w.heap.size o d a b n wc)
  case first=>
   have hB1:=H1.out.bel.size
   have hlt:=H1.out.ins.lt
   have HNA : Hid (∀ W,Calls Tryz.prog 117 #[] W fun e w'=>e = .returned (.slice (some ⟨W.heap.size,0,none⟩) 42 42) ∧ w'.cell? ⟨W.heap.size,o,none⟩ = some (.string (ba L0)) ∧ Below W.heap.size W w'):=fun W=>by rw [hL0.out];exact rnames_o o (by omega) W
   have x1 : decide ((o : Int) < 42) = true:=decide_eq_true (by omega)
   have x2 : decide ((o : Int) < 0) = false:=decide_eq_false (by omega)
   have x3 : (o : Int).toNat = o:=by omega
   have x4 : o < 42:=by omega
   have x5 : (o : Int) < 42:=by omega
   have x6 : (0 : Int) ≤ o:=by omega
   have x7 : ¬ (o : Int) < 0:=by omega
   go_region_with (go_at_call 117;refine (HNA.out _).mono ?_;rintro e W ⟨rfl,hcW,hbW⟩;have hcV : W.cell? ⟨w1.heap.size,o,none⟩ = some (.string (ba L0)):=hcW;clear hcW;have hB2 : Below w1.heap.size w1 W:=(Below.refl _ _).drew.trans hbW;have HT2:=Lib.hid (H1.out.more hB2);have c1:=HT2.out.ins.cell 0 _ rfl;clear hbW hB2)
   all_goals (go_wp2_with fail;go_meet;exact ⟨rfl,HT2.out⟩)
  case rest=>
  obtain ⟨rfl,hTR⟩:=hcut
  have HI:=Lib.hid hTR
  clear hTR
  rw [← hL0.out] at HE
  clear H1 c0 HHS HNM hL0
  go_upto_if 25 with fail
  obtain ⟨L1,hL1⟩ : ∃ x,Hid (x = L0 ++ if f1 then wregL (d : Int) else []):=⟨_,Lib.hid rfl⟩
  have hlL1 : (L1).length ≤ (L0).length + 30:=by
   rw [hL1.out,List.length_append]
   split
   ·have:=wregL_len (d : Int) (by omega) (by omega);omega
   ·simp
  rw [← hL1.out] at HE
  go_cut [8] from 25 (fun s8 wc=>s8 = .string (ba L1) ∧ TR w w.heap.size o d a b n wc)
  case first=>
   obtain ⟨tx,htx⟩ : ∃ tx : ByteArray,Hid (tx = ba (Lib.decDigits d)):=⟨_,Lib.hid rfl⟩
   have z1 : tx.size ≤ 30:=by
    rw [htx.out,ba_size,Lib.decDigits_length]
    have:=Lib.nDigits_le20 d (by omega);omega
   obtain ⟨ty,hty⟩ : ∃ ty : ByteArray,Hid (ty = ba L0):=⟨_,Lib.hid rfl⟩
   have z2 : ty.size ≤ 400:=by rw [hty.out,ba_size];omega
   have q1 : ¬ 9223372036854775807 < ty.size + 2:=by omega
   have q2 : ¬ 9223372036854775807 < ty.size + 2 + tx.size:=by omega
   have HD : Hid (∀ W,Calls Tryz.prog 45 #[.int .i64 d] W fun e w'=>e = .returned (.string tx) ∧ Below W.heap.size W w'):=fun W=>by rw [htx.out];exact digits_b d (by omega) W
   have HCT : Hid ((ty ++ (⟨#[32,114]⟩ : ByteArray)) ++ tx = ba (L0 ++ wregL d)):=by rw [htx.out,hty.out];exact cat_reg L0 d
   rw [← hty.out]
   have hc:=(HI).out.ins.cell 1 _ rfl
   have HH:=HI
   cases f1
   ·go_wp2_with fail
    go_meet
    case rel=>exact ⟨by rw [hL1.out,hty.out,if_neg (by simp),List.append_nil],HH.out⟩
   ·go_wp2_with (go_at_call 45;refine (HD.out _).mono ?_;rintro e w7 ⟨rfl,hb7⟩)
    go_meet
    case rel=>exact ⟨by rw [HCT.out,hL1.out];simp,HH.out.more hb7⟩
  case rest=>
  obtain ⟨rfl,hTR⟩:=hcut
  have HI:=Lib.hid hTR
  clear hTR
  go_upto_if 32 with fail
  obtain ⟨L2,hL2⟩ : ∃ x,Hid (x = L1 ++ if f2 then wregL (a : Int) else []):=⟨_,Lib.hid rfl⟩
  have hlL2 : (L2).length ≤ (L1).length + 30:=by
   rw [hL2.out,List.length_append]
   split
   ·have:=wregL_len (a : Int) (by omega) (by omega);omega
   ·simp
  rw [← hL2.out] at HE
  go_cut [8] from 32 (fun s8 wc=>s8 = .string (ba L2) ∧ TR w w.heap.size o d a b n wc)
  case first=>
   obtain ⟨tx,htx⟩ : ∃ tx : ByteArray,Hid (tx = ba (Lib.decDigits a)):=⟨_,Lib.hid rfl⟩
   have z1 : tx.size ≤ 30:=by
    rw [htx.out,ba_size,Lib.decDigits_length]
    have:=Lib.nDigits_le20 a (by omega);omega
   obtain ⟨ty,hty⟩ : ∃ ty : ByteArray,Hid (ty = ba L1):=⟨_,Lib.hid rfl⟩
   have z2 : ty.size ≤ 400:=by rw [hty.out,ba_size];omega
   have q1 : ¬ 9223372036854775807 < ty.size + 2:=by omega
   have q2 : ¬ 9223372036854775807 < ty.size + 2 + tx.size:=by omega
   have HD : Hid (∀ W,Calls Tryz.prog 45 #[.int .i64 a] W fun e w'=>e = .returned (.string tx) ∧ Below W.heap.size W w'):=fun W=>by rw [htx.out];exact digits_b a (by omega) W
   have HCT : Hid ((ty ++ (⟨#[32,114]⟩ : ByteArray)) ++ tx = ba (L1 ++ wregL a)):=by rw [htx.out,hty.out];exact cat_reg L1 a
   rw [← hty.out]
   have hc:=(HI).out.ins.cell 2 _ rfl
   have HH:=HI
   cases f2
   ·go_wp2_with fail
    go_meet
    case rel=>exact ⟨by rw [hL2.out,hty.out,if_neg (by simp),List.append_nil],HH.out⟩
   ·go_wp2_with (go_at_call 45;refine (HD.out _).mono ?_;rintro e w7 ⟨rfl,hb7⟩)
    go_meet
    case rel=>exact ⟨by rw [HCT.out,hL2.out];simp,HH.out.more hb7⟩
  case rest=>
  obtain ⟨rfl,hTR⟩:=hcut
  have HI:=Lib.hid hTR
  clear hTR
  go_upto_if 39 with fail
  obtain ⟨L3,hL3⟩ : ∃ x,Hid (x = L2 ++ if f4 then wregL (b : Int) else []):=⟨_,Lib.hid rfl⟩
  have hlL3 : (L3).length ≤ (L2).length + 30:=by
   rw [hL3.out,List.length_append]
   split
   ·have:=wregL_len (b : Int) (by omega) (by omega);omega
   ·simp
  rw [← hL3.out] at HE
  go_cut [8] from 39 (fun s8 wc=>s8 = .string (ba L3) ∧ TR w w.heap.size o d a b n wc)
  case first=>
   obtain ⟨tx,htx⟩ : ∃ tx : ByteArray,Hid (tx = ba (Lib.decDigits b)):=⟨_,Lib.hid rfl⟩
   have z1 : tx.size ≤ 30:=by
    rw [htx.out,ba_size,Lib.decDigits_length]
    have:=Lib.nDigits_le20 b (by omega);omega
   obtain ⟨ty,hty⟩ : ∃ ty : ByteArray,Hid (ty = ba L2):=⟨_,Lib.hid rfl⟩
   have z2 : ty.size ≤ 400:=by rw [hty.out,ba_size];omega
   have q1 : ¬ 9223372036854775807 < ty.size + 2:=by omega
   have q2 : ¬ 9223372036854775807 < ty.size + 2 + tx.size:=by omega
   have HD : Hid (∀ W,Calls Tryz.prog 45 #[.int .i64 b] W fun e w'=>e = .returned (.string tx) ∧ Below W.heap.size W w'):=fun W=>by rw [htx.out];exact digits_b b (by omega) W
   have HCT : Hid ((ty ++ (⟨#[32,114]⟩ : ByteArray)) ++ tx = ba (L2 ++ wregL b)):=by rw [htx.out,hty.out];exact cat_reg L2 b
   rw [← hty.out]
   have hc:=(HI).out.ins.cell 3 _ rfl
   have HH:=HI
   cases f4
   ·go_wp2_with fail
    go_meet
    case rel=>exact ⟨by rw [hL3.out,hty.out,if_neg (by simp),List.append_nil],HH.out⟩
   ·go_wp2_with (go_at_call 45;refine (HD.out _).mono ?_;rintro e w7 ⟨rfl,hb7⟩)
    go_meet
    case rel=>exact ⟨by rw [HCT.out,hL3.out];simp,HH.out.more hb7⟩
  case rest=>
  obtain ⟨rfl,hTR⟩:=hcut
  have HI:=Lib.hid hTR
  clear hTR
  go_upto_if 46 with fail
  obtain ⟨L4,hL4⟩ : ∃ x,Hid (x = L3 ++ if f8 then wnumL n else []):=⟨_,Lib.hid rfl⟩
  rw [← hL4.out] at HE
  go_cut [8] from 46 (fun s8 wc=>s8 = .string (ba L4) ∧ TR w w.heap.size o d a b n wc)
  case first=>
   obtain ⟨tx,htx⟩ : ∃ tx : ByteArray,Hid (tx = ba (Lib.itoa n)):=⟨_,Lib.hid rfl⟩
   have z1 : tx.size ≤ 30:=by
    have:=Lib.itoa_length_le n (by omega) (by omega)
    rw [htx.out,ba_size];omega
   obtain ⟨ty,hty⟩ : ∃ ty : ByteArray,Hid (ty = ba L3):=⟨_,Lib.hid rfl⟩
   have z2 : ty.size ≤ 400:=by rw [hty.out,ba_size];omega
   have q1 : ¬ 9223372036854775807 < ty.size + 1:=by omega
   have q2 : ¬ 9223372036854775807 < ty.size + 1 + tx.size:=by omega
   have HD : Hid (∀ W,Calls Tryz.prog 118 #[.int .i64 n] W fun e w'=>e = .returned (.string tx) ∧ Below W.heap.size W w'):=fun W=>by rw [htx.out];exact rsigned_any n (by omega) (by omega) W
   have HCT : Hid ((ty ++ (⟨#[32]⟩ : ByteArray)) ++ tx = ba (L3 ++ wnumL n)):=by rw [htx.out,hty.out];exact cat_num L3 n
   rw [← hty.out]
   have hc:=HI.out.ins.cell 4 _ rfl
   have HH:=HI
   cases f8
   ·go_wp2_with fail
    go_meet
    case rel=>exact ⟨by rw [hL4.out,hty.out,if_neg (by simp),List.append_nil],HH.out⟩
   ·go_wp2_with (go_at_call 118;refine (HD.out _).mono ?_;rintro e w7 ⟨rfl,hb7⟩)
    go_meet
    case rel=>exact ⟨by rw [HCT.out,hL4.out];simp,HH.out.more hb7⟩
  case rest=>
  obtain ⟨rfl,hTR⟩:=hcut
  have HB:=Lib.hid hTR.bel
  clear hTR
  go_wp2_with fail
  go_ret2
  exact ⟨by rw [HE.out.1,HE.out.2];rfl,HB.out⟩
end Go.Proofs.YtoklonmiejdgmaaGreatDoor.As
/- The reference for asm: one word. -/
namespace Go.Proofs.YtoklonmiejdgmaaGreatDoor.As
set_option linter.unusedVariables false
set_option linter.unusedSimpArgs false
set_option linter.unnecessarySimpa false
open Go.RowKit Go.Sort
set_option maxHeartbeats 2000000
set_option maxRecDepth 100000
set_option linter.unusedVariables false
end Go.Proofs.YtoklonmiejdgmaaGreatDoor.As
/- The reference for asm: List. -/
namespace Go.Proofs.YtoklonmiejdgmaaGreatDoor.As
set_option linter.unusedVariables false
set_option linter.unusedSimpArgs false
set_option linter.unnecessarySimpa false
open Go.RowKit Go.Sort
set_option maxHeartbeats 2000000
set_option maxRecDepth 100000
set_option linter.unusedVariables false
theorem list_ref (a : Option Addr) (cap : Nat) (l : List Nat) (hl : ∀ x ∈ l,x < 4294967296) (w : World) (h : Rd w 1 a l.length (wC l)) (hcap : l.length ≤ maxLen) :
  Calls Tryz.prog 43 #[.slice a l.length cap] w fun e w'=>e = .returned (.tuple #[.string (ba (lsV l)),.int .i64 (lsE l)]) ∧ Below w.heap.size w w':=by
 unfold maxLen at hcap
 by_cases h512 : 512 < l.length
 ·have d1 : decide ((l.length : Int) > 512) = true:=decide_eq_true (by omega)
  have d1' : decide (512 < l.length) = true:=decide_eq_true h512
  have HV : Hid (lsV l = [] ∧ lsE l = 10):=⟨by rw [lsV,if_pos h512],by rw [lsE,if_pos h512]⟩
  clear h512
  go_enter Tryz.func43,Tryz.ntmps43
  go_wp2
  go_ret2
  exact ⟨by rw [HV.out.1,HV.out.2];rfl,Below.refl _ _⟩
 ·have d1 : decide ((l.length : Int) > 512) = false:=decide_eq_false (by omega)
  have d1' : decide (512 < l.length) = false:=decide_eq_false h512
  have HV : Hid (lsV l = listL l ∧ lsE l = 0):=⟨by rw [lsV,if_neg h512],by rw [lsE,if_neg h512]⟩
  have HGET : Hid (∀ k,(hk : k < l.length) → ∃ g o,a = some ⟨g,o,none⟩ ∧ g < w.heap.size ∧ w.cell? ⟨g,o + k,none⟩ = some (.int .u32 (l[k] : Int))):=fun k hk=>by
   obtain ⟨g,o,h1,h2,h3⟩:=rd_get h (by omega)
   exact ⟨g,o,h1,h2,h3 k hk⟩
  have HL:=Lib.hid hl
  have hl512 : l.length ≤ 512:=by omega
  clear hl h h512
  go_enter Tryz.func43,Tryz.ntmps43
  go_wp2
  go_loopw [4,5] (fun s i wr=>∃ k : Nat,k ≤ l.length ∧ i = .int .i64 k ∧ s = .string (ba (listL (l.take k))) ∧ Below w.heap.size w wr) (fun _ i _=>l.length - (intOf i).toNat)
  case atStart=>exact ⟨0,by omega,rfl,rfl,Below.refl _ _⟩
  case round=>
   obtain ⟨k,hk,rfl,rfl,hbe⟩:=hrel
   have HBE:=Lib.hid hbe
   clear hbe
   by_cases hlt : k < l.length
   ·obtain ⟨g,o,ha,hg,hc⟩:=HGET.out k hlt
    obtain ⟨x,hx⟩ : ∃ x,x = l[k]:=⟨_,rfl⟩
    have hxl : x < 4294967296:=by rw [hx];exact HL.out _ (List.getElem_mem hlt)
    have htk : l.take (k + 1) = l.take k ++ [x]:=by rw [hx];exact List.take_succ_eq_append_getElem hlt
    have hlen:=listL_len (l.take k) (fun y hy=>HL.out y (List.mem_of_mem_take hy))
    have hlen2:=line_len x hxl
    rw [List.length_take] at hlen
    have hcr : ∀ W,Below wr.heap.size wr W → W.cell? ⟨g,o + k,none⟩ = some (.int .u32 (x : Int)):=fun W hW=>by
     rw [(bmore HBE.out hW).cell (p:=⟨g,o + k,none⟩) hg,hc,hx]
    have HCR:=Lib.hid hcr
    have hc0:=hcr wr (Below.refl _ _)
    obtain ⟨S,hS⟩ : ∃ S : ByteArray,Hid (S = ba (listL (l.take k))):=⟨_,Lib.hid rfl⟩
    have zS : S.size ≤ 110000:=by rw [hS.out,ba_size];omega
    rw [← hS.out]
    have HD:=Lib.hid (Isa.Decode_ref x hxl wr)
    have w4 : IntKind.i64.wrap ((k : Int) + 1) = (k : Int) + 1:=by rw [IntKind.wrap_i64];omega
    have w5 : IntKind.i64.wrap (x : Int) = (x : Int):=by rw [IntKind.wrap_i64];omega
    subst ha
    clear hx hc hlen
    cases hb : Isa.decB x
    ·obtain ⟨t,hT⟩ : ∃ t : ByteArray,Hid (t = ba (Lib.decDigits x)):=⟨_,Lib.hid rfl⟩
     have z1 : t.size ≤ 30:=by rw [hT.out,ba_size];exact dec_len x (by omega)
     have q1 : ¬ 9223372036854775807 < S.size + 6:=by omega
     have q2 : ¬ 9223372036854775807 < S.size + 6 + t.size:=by omega
     have q3 : ¬ 9223372036854775807 < S.size + 6 + t.size + 1:=by omega
     have HNEW : Hid (((S ++ (⟨#[46,119,111,114,100,32]⟩ : ByteArray)) ++ t) ++ (⟨#[10]⟩ : ByteArray) = ba (listL (l.take (k + 1)))):=by
      rw [Hid,htk,listL_snoc,hS.out,hT.out]
      unfold lineL
      rw [if_neg (by rw [hb];simp)]
      unfold ba
      rw [show (⟨#[46,119,111,114,100,32]⟩ : ByteArray) = ⟨wdP.toArray⟩ from rfl,show (⟨#[10]⟩ : ByteArray) = ⟨[10].toArray⟩ from rfl,ba_append,ba_append,ba_append]
      simp [List.append_assoc]
     have HDG : Hid (∀ W,Calls Tryz.prog 45 #[.int .i64 x] W fun e w'=>e = .returned (.string t) ∧ Below W.heap.size W w'):=fun W=>by rw [hT.out];exact digits_b x (by omega) W
     have HDP : Hid (∀ e w',Isa.DecPost x wr e w' → e = .returned (.tuple #[(.agg #[.int .i64 (0),.int .i64 (0),.int .i64 (0),.int .i64 (0),.int .i64 (0)]),.bool false]) ∧ Below wr.heap.size wr w'):=fun e w' h=>by
      obtain ⟨h1,h2⟩:=h
      rw [if_neg (by rw [hb];simp),hb] at h1
      exact ⟨h1,h2⟩
     clear hb htk hlen2 hcr
     go_wp2_with fail
     refine HD.out.mono ?_;intro e w1 h1
     obtain ⟨rfl,hb1⟩:=HDP.out _ _ h1
     have HB1 : Hid (∀ o,Below wr.heap.size wr (w1.alloc o)):=fun o=>hb1.alloc hb1.size _
     have HB2 : Hid (∀ o,Below w.heap.size w (w1.alloc o)):=fun o=>bmore HBE.out (HB1.out o)
     have hc1:=HCR.out _ (HB1.out (.cells #[.int .i64 0,.int .i64 0,.int .i64 0,.int .i64 0,.int .i64 0] 145))
     clear h1 hb1
     go_wp2_with (go_at_call 45;refine (HDG.out _).mono ?_;rintro e w2 ⟨rfl,hb2⟩)
     rw [HNEW.out]
     have HB3:=Lib.hid (bmore (HB2.out _) hb2)
     clear hb2
     go_roundw
     case rel=>exact ⟨k + 1,by omega,by go_num,rfl,HB3.out⟩
     case measure=>simp [intOf];omega
    ·obtain ⟨t,hT⟩ : ∃ t : ByteArray,Hid (t = ba (lineL x)):=⟨_,Lib.hid rfl⟩
     have z1 : t.size ≤ 200:=by rw [hT.out,ba_size];exact hlen2
     have q1 : ¬ 9223372036854775807 < S.size + t.size:=by omega
     have q2 : ¬ 9223372036854775807 < S.size + t.size + 1:=by omega
     have HNEW : Hid ((S ++ t) ++ (⟨#[10]⟩ : ByteArray) = ba (listL (l.take (k + 1)))):=by
      rw [Hid,htk,listL_snoc,hS.out,hT.out]
      unfold ba
      rw [show (⟨#[10]⟩ : ByteArray) = ⟨[10].toArray⟩ from rfl,ba_append,ba_append]
      simp [List.append_assoc]
     have HDP : Hid (∀ e w',Isa.DecPost x wr e w' → e = .returned (.tuple #[(.agg #[.int .i64 ((x : Int) % 64),.int .i64 ((x : Int) / 64 % 16),.int .i64 ((x : Int) / 1024 % 16),.int .i64 ((x : Int) / 16384 % 16),.int .i64 (Isa.decN x)]),.bool true]) ∧ Below wr.heap.size wr w'):=fun e w' h=>by
      obtain ⟨h1,h2⟩:=h
      rw [if_pos hb,hb] at h1
      exact ⟨h1,h2⟩
     have HTX : Hid (∀ W,∃ er,Calls Tryz.prog 76 #[(.agg #[.int .i64 ((x : Int) % 64),.int .i64 ((x : Int) / 64 % 16),.int .i64 ((x : Int) / 1024 % 16),.int .i64 ((x : Int) / 16384 % 16),.int .i64 (Isa.decN x)])] W fun e w'=>e = .returned (.tuple #[.string t,.int .i64 er]) ∧ Below W.heap.size W w'):=fun W=>⟨_,by
      rw [hT.out]
      have:=rtext_any ((x : Int) % 64) ((x : Int) / 64 % 16) ((x : Int) / 1024 % 16) ((x : Int) / 16384 % 16) (Isa.decN x) W
      unfold lineL
      rw [if_pos hb]
      exact this⟩
     clear hb htk hlen2 hcr
     obtain ⟨o',ho'⟩ : ∃ o,o = (x : Int) % 64:=⟨_,rfl⟩
     obtain ⟨d',hd'⟩ : ∃ d,d = (x : Int) / 64 % 16:=⟨_,rfl⟩
     obtain ⟨a',ha'⟩ : ∃ a,a = (x : Int) / 1024 % 16:=⟨_,rfl⟩
     obtain ⟨b',hB'⟩ : ∃ b,b = (x : Int) / 16384 % 16:=⟨_,rfl⟩
     obtain ⟨n',hn'⟩ : ∃ n,n = Isa.decN x:=⟨_,rfl⟩
     rw [← ho',← hd',← ha',← hB',← hn'] at HDP HTX
     clear ho' hd' ha' hB' hn'
     go_wp2_with fail
     refine HD.out.mono ?_;intro e w1 h1
     obtain ⟨rfl,hb1⟩:=HDP.out _ _ h1
     have HB1 : Hid (∀ o,Below wr.heap.size wr (w1.alloc o)):=fun o=>hb1.alloc hb1.size _
     have HB2 : Hid (∀ o,Below w.heap.size w (w1.alloc o)):=fun o=>bmore HBE.out (HB1.out o)
     clear h1 hb1
     go_wp2_with fail
     obtain ⟨er,hte⟩:=HTX.out (w1.alloc (.cells #[.int .i64 o',.int .i64 d',.int .i64 a',.int .i64 b',.int .i64 n'] 145))
     refine hte.mono ?_;rintro e w2 ⟨rfl,hb2⟩
     have HB3:=Lib.hid (bmore (HB2.out _) hb2)
     clear hb2 hte
     go_wp2_with fail
     rw [HNEW.out]
     go_roundw
     case rel=>exact ⟨k + 1,by omega,by go_num,rfl,HB3.out⟩
     case measure=>simp [intOf];omega
   ·obtain rfl : k = l.length:=by omega
    rw [List.take_length]
    go_wp2_with fail
    go_ret2
    exact ⟨by rw [HV.out.1,HV.out.2];rfl,HBE.out⟩
end Go.Proofs.YtoklonmiejdgmaaGreatDoor.As
/- The reference of script: Print. -/
namespace Go.Proofs.YtoklonmiejdgmaaGreatDoor.Sp
set_option linter.unusedVariables false
set_option linter.unusedSimpArgs false
set_option linter.unnecessarySimpa false
open Go.RowKit Go.Sort
set_option maxHeartbeats 4000000
set_option maxRecDepth 100000
set_option linter.unusedVariables false
/-- A light script. -/
structure Lt (s : Sc) : Prop where
 im : s.im.length ≤ 6
 se : s.se.length ≤ 40
 inp : s.inp.length ≤ 40
 row : ∀ x ∈ s.im,x.length ≤ 520
 sd : ∀ x ∈ s.se,x.2.length ≤ 200
 nd : ∀ x ∈ s.inp,x.2.2.2.2.length ≤ 200
theorem Lt.mild {s : Sc} (h : Lt s) (hw : ∀ l ∈ s.im,∀ x ∈ l,0 ≤ x ∧ x < 4294967296) : Mild s:=⟨by have:=h.im;omega,hw,by have:=h.se;omega,by have:=h.inp;omega,fun x hx=>by have:=h.sd x hx;omega,fun x hx=>by have:=h.nd x hx;omega⟩
theorem img_cat (T : List UInt8) (l : List Int) : ((ba T ++ (⟨#[105,109,97,103,101,10]⟩ : ByteArray)) ++ ba (As.listL (natL l))) ++ (⟨#[101,110,100,10]⟩ : ByteArray) = ba (T ++ imgT l):=by
 rw [show (⟨#[105,109,97,103,101,10]⟩ : ByteArray) = ba (lnT [wImage]) from rfl,show (⟨#[101,110,100,10]⟩ : ByteArray) = ba (lnT [wEnd]) from rfl,ba_cat,ba_cat,ba_cat]
 congr 1
 simp [imgT]
theorem sec_cat (T : List UInt8) (x : Int × List UInt8) : ((((ba T ++ (⟨#[115,101,99,116,111,114,32]⟩ : ByteArray)) ++ ba (dc x.1)) ++ (⟨#[32]⟩ : ByteArray)) ++ ba (hexV x.2)) ++ (⟨#[10]⟩ : ByteArray) = ba (T ++ lnT (secW x)):=by
 rw [show (⟨#[115,101,99,116,111,114,32]⟩ : ByteArray) = ba [115,101,99,116,111,114,32] from rfl,show (⟨#[32]⟩ : ByteArray) = ba [32] from rfl,show (⟨#[10]⟩ : ByteArray) = ba [10] from rfl,ba_cat,ba_cat,ba_cat,ba_cat,ba_cat]
 congr 1
 simp [lnT,secW,joinC,wSector]
theorem inp_cat (T : List UInt8) (ws : List (List UInt8)) : (ba T ++ ba (joinC 32 ws)) ++ (⟨#[10]⟩ : ByteArray) = ba (T ++ lnT ws):=by
 rw [show (⟨#[10]⟩ : ByteArray) = ba [10] from rfl,ba_cat,ba_cat]
 congr 1
 simp [lnT]
theorem srprint_any (c : Cv) (v : Sv) (w : World) (hc : CfgOk w c) (hv : ScOk w v) (hm : Mild (scOf v)) (hlt : Lt (scOf v)) (hp : chkP (pcOf c) = 0 → (prT (pcOf c)).length ≤ 16384) : Calls Tryz.prog 19 #[.agg #[.int .i64 c.cats,.slice c.g.a c.g.l.length c.g.cap,.slice c.r.a c.r.l.length c.r.cap,.slice c.p.a c.p.l.length c.p.cap,.slice c.n.a c.n.l.length c.n.cap,.slice c.s.a c.s.l.length c.s.cap,.int .i64 c.gate,.int .i64 c.quota],.agg #[.slice v.ia v.im.length v.ic,.slice v.sa v.se.length v.sc,.slice v.na v.inp.length v.nc]] w (SPrPost c v w):=by
 obtain ⟨C,hC⟩ : ∃ C,C = pcOf c:=⟨_,rfl⟩
 obtain ⟨L,hL⟩ : ∃ L,L = (scOf v).im:=⟨_,rfl⟩
 obtain ⟨W1,hW1⟩ : ∃ W1,W1 = (w.alloc (.cells #[.int .i64 c.cats,.slice c.g.a c.g.l.length c.g.cap,.slice c.r.a c.r.l.length c.r.cap,.slice c.p.a c.p.l.length c.p.cap,.slice c.n.a c.n.l.length c.n.cap,.slice c.s.a c.s.l.length c.s.cap,.int .i64 c.gate,.int .i64 c.quota] 29)).alloc (.cells #[.slice v.ia v.im.length v.ic,.slice v.sa v.se.length v.sc,.slice v.na v.inp.length v.nc] 34):=⟨_,rfl⟩
 have HX1 : Hid (CS w W1 w.heap.size c v):=by rw [hW1];exact cs_new w c v hc hv
 have HW1:=Lib.hid hW1
 obtain ⟨k0,hk0⟩ : ∃ k,k = chkP C:=⟨_,rfl⟩
 have hck : (chkV c).1 = k0:=by rw [hk0,hC,chkP_of]
 have HPR0:=fun W h1=>rprint_any c W h1
 obtain ⟨P,hPP⟩ : ∃ P,P = SPrPost c v w:=⟨_,rfl⟩
 have HR : Hid (∀ t e w',prS C (scOf v) = (t,e) → Below w.heap.size w w' → P (.returned (.tuple #[.string (ba t),.int .i64 e])) w'):=fun t e w' h hb=>by rw [hPP];exact ⟨by rw [← hC,h],hb⟩
 rw [← hPP]
 have HMD:=Lib.hid hm
 rw [← hC] at hp
 by_cases hk : k0 = 0
 ·have HPR : Hid (∀ W,CfgOk W c → Calls Tryz.prog 42 #[.agg #[.int .i64 c.cats,.slice c.g.a c.g.l.length c.g.cap,.slice c.r.a c.r.l.length c.r.cap,.slice c.p.a c.p.l.length c.p.cap,.slice c.n.a c.n.l.length c.n.cap,.slice c.s.a c.s.l.length c.s.cap,.int .i64 c.gate,.int .i64 c.quota]] W fun e w'=>e = .returned (.tuple #[.string (ba (prT C)),.int .i64 0]) ∧ Below W.heap.size W w'):=fun W h1=>(HPR0 W h1).mono fun e w' h=>⟨by rw [hC];exact h.2.1 (by rw [hck];exact hk),h.2.2⟩
  have hz : chkP C = 0:=by rw [← hk0];exact hk
  have hpl:=hp hz
  have HE1 : Hid (longB L = true → ∀ w',Below w.heap.size w w' → P (.returned (.tuple #[.string ⟨#[]⟩,.int .i64 10])) w'):=fun h1 w' hb=>HR.out [] 10 w' (prS_0 hz (by rw [← hL];exact h1)) hb
  have HE2 : Hid (longB L = false → ∀ k (hk : k < v.se.length),fitB v.se[k].1 = false → ∀ w',Below w.heap.size w w' → P (.returned (.tuple #[.string ⟨#[]⟩,.int .i64 6])) w'):=fun h1 k hk h2 w' hb=>HR.out [] 6 w' (prS_1 hz (by rw [← hL];exact h1) (by rw [List.all_eq_false];exact ⟨v.se[k],List.getElem_mem hk,by rw [h2];simp⟩)) hb
  have HE3 : Hid (longB L = false → (∀ k (hk : k < v.se.length),k < v.se.length → fitB v.se[k].1 = true) → ∀ k (hk : k < v.inp.length),(inpW v.inp[k]).isSome = false → ∀ w',Below w.heap.size w w' → P (.returned (.tuple #[.string ⟨#[]⟩,.int .i64 6])) w'):=fun h1 h2 k hk h3 w' hb=>HR.out [] 6 w' (prS_2 hz (by rw [← hL];exact h1) (by
   rw [List.all_eq_true];intro x hx
   obtain ⟨j,hj,rfl⟩:=List.mem_iff_getElem.1 hx
   exact h2 j hj hj) (by rw [List.all_eq_false];exact ⟨v.inp[k],List.getElem_mem hk,by rw [h3];simp⟩)) hb
  have HE4 : Hid (longB L = false → (∀ k (hk : k < v.se.length),k < v.se.length → fitB v.se[k].1 = true) → (∀ k (hk : k < v.inp.length),k < v.inp.length → (inpW v.inp[k]).isSome = true) → ∀ T,T = ((prT C ++ imgsT L) ++ secsT v.se) ++ inpsT v.inp → ∀ t e w',(if 16384 < T.length then ([],10) else (T,0)) = (t,e) → Below w.heap.size w w' → P (.returned (.tuple #[.string (ba t),.int .i64 e])) w'):=fun h1 h2 h3 T hT t e w' he hb=>HR.out t e w' (by
   rw [prS_3 hz (by rw [← hL];exact h1) (by
    rw [List.all_eq_true];intro x hx
    obtain ⟨j,hj,rfl⟩:=List.mem_iff_getElem.1 hx
    exact h2 j hj hj) (by
    rw [List.all_eq_true];intro x hx
    obtain ⟨j,hj,rfl⟩:=List.mem_iff_getElem.1 hx
    exact h3 j hj hj),show prT C ++ bodyT (scOf v) = T by rw [hT,bodyT,← hL];simp [scOf,List.append_assoc]]
   exact he) hb
  have HNE:=Lib.hid (prT_ne C)
  have hsl : v.se.length ≤ 1048576:=hm.se
  have hnl : v.inp.length ≤ 1048576:=hm.inp
  have HIL : Hid (longB L = false → (imgsT L).length ≤ 116000000000):=fun h=>by
   have:=imgs_take_len L (by rw [hL];exact hm.w) (by rw [hL];exact hm.im) L.length (Nat.le_refl _) (fun j hj _ h5=>by
    rw [longB,List.any_eq_false] at h
    exact absurd (h L[j] (List.getElem_mem hj)) (by simp;omega))
   rw [List.take_length] at this;exact this
  have HLEN:=Lib.hid (imgs_take_len L (by rw [hL];exact hm.w) (by rw [hL];exact hm.im))
  have hLL : L.length = v.im.length:=by rw [hL];simp [scOf]
  have HLL:=Lib.hid hLL
  have HLG : Hid (∀ k (h1 : k < v.im.length) (h2 : k < L.length),L[k] = v.im[k].l):=fun k h1 h2=>by subst hL;simp [scOf]
  have HWD : Hid (∀ r ∈ L,∀ x ∈ r,0 ≤ x ∧ x < 4294967296):=by rw [hL];exact hm.w
  have HLT:=Lib.hid hlt
  have HLO : Hid (∀ k (hk : k < L.length),512 < L[k].length → longB L = true):=fun k hk h=>by rw [longB,List.any_eq_true];exact ⟨L[k],List.getElem_mem hk,by simp [h]⟩
  have HLN : Hid ((∀ j (hj : j < L.length),j < L.length → ¬ 512 < L[j].length) → longB L = false):=fun h=>by
   rw [longB,List.any_eq_false];intro x hx
   obtain ⟨j,hj,rfl⟩:=List.mem_iff_getElem.1 hx
   have:=h j hj hj;simp;omega
  have hil : v.im.length ≤ 1048576:=by have:=hm.im;simpa [scOf] using this
  clear HPR0 hck hk0 hk hC hL hz hp HR hPP hc hv hm hW1 hlt hLL
  have p0:=(HX1.out.oc).cell 0 _ rfl;have p1:=(HX1.out.oc).cell 1 _ rfl;have p2:=(HX1.out.oc).cell 2 _ rfl;have p3:=(HX1.out.oc).cell 3 _ rfl;have p4:=(HX1.out.oc).cell 4 _ rfl;have p5:=(HX1.out.oc).cell 5 _ rfl;have p6:=(HX1.out.oc).cell 6 _ rfl;have p7:=(HX1.out.oc).cell 7 _ rfl
  go_enter Tryz.func19,Tryz.ntmps19
  go_upto_region 1 with fail
  rw [← HW1.out]
  go_upto_region 5 with (go_at_call 42;refine (HPR.out _ HX1.out.cok).mono ?_;rintro e W2 ⟨rfl,hb⟩;have HX2:=Lib.hid (HX1.out.more hb);clear hb)
  clear p0 p1 p2 p3 p4 p5 p6 p7
  have HT0 : Hid (prT C ++ imgsT (L.take 0) = prT C):=by rw [Hid,List.take_zero];simp [imgsT]
  go_loopw [6,8] (fun tv i wr=>∃ k : Nat,k ≤ v.im.length ∧ i = .int .i64 k ∧ tv = .string (ba (prT C ++ imgsT (L.take k))) ∧ (∀ j (hj : j < L.length),j < k → ¬ 512 < L[j].length) ∧ Below W2.heap.size W2 wr) (fun _ i _=>v.im.length - (intOf i).toNat)
  case atStart=>exact ⟨0,by omega,rfl,by rw [HT0.out],(fun j _ h=>by omega),Below.refl _ _⟩
  clear HT0
  obtain ⟨k,hk,rfl,rfl,hs,hb⟩:=hrel
  have HS:=Lib.hid hs
  have HX:=Lib.hid (HX2.out.more hb)
  have HB:=Lib.hid hb
  clear hs hb
  have q0:=(HX.out.os).cell 0 _ rfl;have q1:=(HX.out.os).cell 1 _ rfl;have q2:=(HX.out.os).cell 2 _ rfl
  by_cases hlt : k < v.im.length
  case pos=>
   obtain ⟨g,o,ha,hc⟩:=HX.out.vok.im_at k hlt
   have hrow:=HX.out.vok.row _ (List.getElem_mem hlt)
   have hkL : k < L.length:=by have:=HLL.out;omega
   have hyk:=HLG.out k hlt hkL
   obtain ⟨y,hy⟩ : ∃ y,y = v.im[k]:=⟨_,rfl⟩
   rw [← hy] at hc hrow hyk
   have hyw : ∀ x ∈ y.l,0 ≤ x ∧ x < 4294967296:=by rw [← hyk];exact HWD.out _ (List.getElem_mem hkL)
   have c:=hc wr (Below.refl _ _)
   have hnl : (natL y.l).length = y.l.length:=by simp [natL]
   have HLA : Hid (Calls Tryz.prog 43 #[.slice y.a y.l.length y.cap] wr fun e w'=>e = .returned (.tuple #[.string (ba (As.lsV (natL y.l))),.int .i64 (As.lsE (natL y.l))]) ∧ Below wr.heap.size wr w'):=by
    have:=As.list_ref y.a y.cap (natL y.l) (natL_lt hyw) wr (by rw [natL_uC hyw,hnl];exact hrow.1) (by rw [hnl];have:=hrow.2.1;have:=hrow.2.2;omega)
    rw [hnl] at this;exact this
   have d1 : decide ((k : Int) < (v.im.length : Int)) = true:=decide_eq_true (by omega)
   have d1' : decide (k < v.im.length) = true:=decide_eq_true hlt
   have w1 : IntKind.i64.wrap ((k : Int) + 1) = (k : Int) + 1:=by rw [IntKind.wrap_i64];omega
   rw [ha] at q0
   by_cases h5 : 512 < y.l.length
   ·have HE:=Lib.hid (HE1.out (HLO.out k hkL (by rw [hyk];exact h5)))
    have HLE : Hid (Calls Tryz.prog 43 #[.slice y.a y.l.length y.cap] wr fun e w'=>e = .returned (.tuple #[.string (ba []),.int .i64 10]) ∧ Below wr.heap.size wr w'):=by
     have:=HLA.out
     rw [As.lsV,As.lsE,if_pos (by rw [hnl];exact h5),if_pos (by rw [hnl];exact h5)] at this;exact this
    clear ha hc hrow hy hyk hyw hnl h5 HLA
    go_wp2_with (go_at_call 43;refine HLE.out.mono ?_;rintro e W4 ⟨rfl,hb⟩;have HB4:=Lib.hid (bmore HX.out.bel hb);clear hb)
    exact HE.out _ HB4.out
   ·have HLE : Hid (Calls Tryz.prog 43 #[.slice y.a y.l.length y.cap] wr fun e w'=>e = .returned (.tuple #[.string (ba (As.listL (natL y.l))),.int .i64 0]) ∧ Below wr.heap.size wr w'):=by
     have:=HLA.out
     rw [As.lsV,As.lsE,if_neg (by rw [hnl];exact h5),if_neg (by rw [hnl];exact h5)] at this;exact this
    have HS2 : Hid (∀ j (hj : j < L.length),j < k + 1 → ¬ 512 < L[j].length):=fun j hj h=>by
     by_cases e : j = k
     ·subst e;rw [hyk];exact h5
     ·exact HS.out j hj (by omega)
    have HTK : Hid (prT C ++ imgsT (L.take (k + 1)) = (prT C ++ imgsT (L.take k)) ++ imgT y.l):=by
     rw [Hid,take_snoc L k hkL,imgsT_snoc,hyk];simp
    have hlen:=HLEN.out k (by omega) HS.out
    obtain ⟨T0,hT0⟩ : ∃ T0,T0 = prT C ++ imgsT (L.take k):=⟨_,rfl⟩
    have hT0l : (ba T0).size ≤ 200000000000:=by rw [ba_size,hT0,List.length_append];omega
    have hll : (ba (As.listL (natL y.l))).size ≤ 200000:=by rw [ba_size];have:=As.listL_len (natL y.l) (natL_lt hyw);rw [hnl] at this;omega
    have s1 : ¬ 9223372036854775807 < (ba T0).size + 6:=by omega
    have s2 : ¬ 9223372036854775807 < (ba T0).size + 6 + (ba (As.listL (natL y.l))).size:=by omega
    have s3 : ¬ 9223372036854775807 < (ba T0).size + 6 + (ba (As.listL (natL y.l))).size + 4:=by omega
    have HCT:=Lib.hid (img_cat T0 y.l)
    rw [← hT0] at HTK ⊢
    clear ha hc hrow hy hyk hyw hnl h5 hlen hT0 HLA
    go_wp2_with (go_at_call 43;refine HLE.out.mono ?_;rintro e W4 ⟨rfl,hb⟩;have HB4:=Lib.hid (bmore HB.out hb);clear hb)
    go_roundw
    case rel=>exact ⟨k + 1,by omega,by go_num,by rw [HTK.out,← HCT.out],HS2.out,HB4.out⟩
    case measure=>simp [intOf];omega
  obtain rfl : k = v.im.length:=by omega
  have dq0 : decide ((v.im.length : Int) < (v.im.length : Int)) = false:=decide_eq_false (by omega)
  have hlb:=HLN.out (fun j hj h=>HS.out j hj (by have:=HLL.out;omega))
  have hLt : L.take v.im.length = L:=by rw [← HLL.out];exact List.take_length
  rw [hLt]
  have HE2:=Lib.hid (HE2.out hlb)
  have HE3:=Lib.hid (HE3.out hlb)
  have HE4:=Lib.hid (HE4.out hlb)
  obtain ⟨T1,hT1⟩ : ∃ T1,T1 = prT C ++ imgsT L:=⟨_,rfl⟩
  have hT1l : T1.length ≤ 117000000000:=by have:=HIL.out hlb;rw [hT1,List.length_append];omega
  rw [← hT1] at HE4 ⊢
  have HSL:=Lib.hid (secs_take_len v.se (fun x hx=>by have:=HLT.out.sd x hx;omega) hsl)
  have HNL:=Lib.hid (inps_take_len v.inp (fun x hx=>by have:=HLT.out.nd x hx;omega) hnl)
  have HS0 : Hid (T1 ++ secsT (v.se.take 0) = T1):=by rw [Hid,List.take_zero];simp [secsT]
  clear hlb hT1 HE1 HIL hLt HS HLN HLO
  go_upto_region 12 with fail
  clear q0 q1 q2
  go_loopw [6,11] (fun tv i wr=>∃ k : Nat,k ≤ v.se.length ∧ i = .int .i64 k ∧ tv = .string (ba (T1 ++ secsT (v.se.take k))) ∧ (∀ j (hj : j < v.se.length),j < k → fitB v.se[j].1 = true) ∧ Below W2.heap.size W2 wr) (fun _ i _=>v.se.length - (intOf i).toNat)
  case atStart=>exact ⟨0,by omega,rfl,by rw [HS0.out],(fun j _ h=>by omega),HB.out⟩
  clear HS0 HB HX
  obtain ⟨k,hk,rfl,rfl,hs,hb⟩:=hrel
  have HS:=Lib.hid hs
  have HX:=Lib.hid (HX2.out.more hb)
  have HB:=Lib.hid hb
  clear hs hb
  have q0:=(HX.out.os).cell 0 _ rfl;have q1:=(HX.out.os).cell 1 _ rfl;have q2:=(HX.out.os).cell 2 _ rfl
  by_cases hlt : k < v.se.length
  case pos=>
   obtain ⟨g,o,ha,hc⟩:=HX.out.vok.se_at k hlt
   obtain ⟨y,hy⟩ : ∃ y,y = v.se[k]:=⟨_,rfl⟩
   have hyd : y.2.length ≤ 200:=by rw [hy];exact HLT.out.sd _ (List.getElem_mem hlt)
   rw [← hy] at hc
   have HC:=Lib.hid hc
   have u0:=hc _ (Below.refl _ _) 0 _ (by decide) rfl
   simp only [Nat.add_zero] at u0
   have htl:=HSL.out k hk HS.out
   obtain ⟨T0,hT0⟩ : ∃ T0,T0 = T1 ++ secsT (v.se.take k):=⟨_,rfl⟩
   have hT0l : (ba T0).size ≤ 5000000000000:=by rw [ba_size,hT0,List.length_append];omega
   have HTS : Hid (T1 ++ secsT (v.se.take (k + 1)) = T0 ++ lnT (secW y)):=by rw [Hid,take_snoc v.se k hlt,secsT_snoc,← hy,hT0];simp
   have HY:=Lib.hid hy
   have d1 : decide ((k : Int) < (v.se.length : Int)) = true:=decide_eq_true (by omega)
   have d1' : decide (k < v.se.length) = true:=decide_eq_true hlt
   have w1 : IntKind.i64.wrap ((k : Int) + 1) = (k : Int) + 1:=by rw [IntKind.wrap_i64];omega
   have hle : v.se.length ≤ v.sc:=HX.out.vok.sel
   rw [ha] at q1
   rw [← hT0]
   clear hy hc htl hT0
   cases hf : fitB y.1 with
   | false=>
    have HE:=Lib.hid (HE2.out k hlt (by rw [← HY.out];exact hf))
    have HF : Hid (∀ W,Calls Tryz.prog 44 #[.int .i64 y.1] W fun e w'=>e = .returned (.bool false) ∧ w' = W):=fun W=>by rw [← hf];exact rfits_any y.1 W
    clear hf ha hyd
    go_wp2_with (go_at_call 44;refine (HF.out _).mono ?_;rintro e w3 ⟨rfl,rfl⟩)
    exact HE.out _ HX.out.bel
   | true=>
    obtain ⟨f0,f1⟩:=fitB_iff.1 hf
    have HF : Hid (∀ W,Calls Tryz.prog 44 #[.int .i64 y.1] W fun e w'=>e = .returned (.bool true) ∧ w' = W):=fun W=>by rw [← hf];exact rfits_any y.1 W
    have HS2 : Hid (∀ j (hj : j < v.se.length),j < k + 1 → fitB v.se[j].1 = true):=fun j hj h=>by
     by_cases e : j = k
     ·subst e;rw [← HY.out];exact hf
     ·exact HS.out j hj (by omega)
    have HDG:=fun W=>Lib.hid (rdig_any y.1 f0 (by omega) W)
    have HHX:=fun W=>Lib.hid (rhex_any (ba y.2) (by rw [ba_size];omega) W)
    rw [ba_data] at HHX
    have y1 : (ba (dc y.1)).size ≤ 9:=by rw [ba_size];exact dc_len (by omega)
    have y2 : (ba (hexV y.2)).size ≤ 401:=by rw [ba_size];have:=hexV_len y.2;omega
    have s1 : ¬ 9223372036854775807 < (ba T0).size + 7:=by omega
    have s2 : ¬ 9223372036854775807 < (ba T0).size + 7 + (ba (dc y.1)).size:=by omega
    have s3 : ¬ 9223372036854775807 < (ba T0).size + 7 + (ba (dc y.1)).size + 1:=by omega
    have s4 : ¬ 9223372036854775807 < (ba T0).size + 7 + (ba (dc y.1)).size + 1 + (ba (hexV y.2)).size:=by omega
    have s5 : ¬ 9223372036854775807 < (ba T0).size + 7 + (ba (dc y.1)).size + 1 + (ba (hexV y.2)).size + 1:=by omega
    have HCT:=Lib.hid (sec_cat T0 y)
    have HXc : Hid (∀ W',Below wr.heap.size wr W' → W'.cell? ⟨w.heap.size + 1,1,none⟩ = some (.slice (some ⟨g,o,none⟩) v.se.length v.sc) ∧ W'.cell? ⟨g,o + k * 2,none⟩ = some (.int .i64 y.1) ∧ W'.cell? ⟨g,o + k * 2 + 1,none⟩ = some (.string (ba y.2))):=fun W' hb=>by
     have h1:=(HX.out.more hb).os.cell 1 _ rfl
     rw [ha] at h1
     have h2:=HC.out W' hb 0 _ (by decide) rfl
     simp only [Nat.add_zero] at h2
     exact ⟨h1,h2,HC.out W' hb 1 _ (by decide) rfl⟩
    have HBd : Hid (Below wr.heap.size wr wr.drew):=(Below.refl _ _).drew
    clear hf ha hyd f0 f1
    go_upto_region 16 with (go_at_call 44;refine (HF.out _).mono ?_;rintro e w3 ⟨rfl,rfl⟩)
    clear u0 q0 q1 q2
    go_region_held3 (fun W'=>W'.cell? ⟨w.heap.size + 1,1,none⟩ = some (.slice (some ⟨g,o,none⟩) v.se.length v.sc) ∧ W'.cell? ⟨g,o + k * 2,none⟩ = some (.int .i64 y.1) ∧ W'.cell? ⟨g,o + k * 2 + 1,none⟩ = some (.string (ba y.2))) (first | exact HXc.out _ HBd.out) (first | (go_at_call 45;refine ((HDG _).out).mono ?_;rintro e W4 ⟨rfl,hb⟩;have HBd:=Lib.hid (bmore HBd.out hb);clear hb) | (go_at_call 14;refine ((HHX _).out).mono ?_;rintro e W5 ⟨rfl,hb⟩;have HBd:=Lib.hid (bmore HBd.out hb);clear hb))
    go_wp2_with fail
    go_roundw
    case rel=>exact ⟨k + 1,by omega,by go_num,by rw [HTS.out,← HCT.out],HS2.out,bmore HB.out HBd.out⟩
    case measure=>simp [intOf];omega
  obtain rfl : k = v.se.length:=by omega
  have dq1 : decide ((v.se.length : Int) < (v.se.length : Int)) = false:=decide_eq_false (by omega)
  rw [List.take_length]
  have hsl2:=HSL.out v.se.length (Nat.le_refl _) HS.out
  rw [List.take_length] at hsl2
  obtain ⟨T2,hT2⟩ : ∃ T2,T2 = T1 ++ secsT v.se:=⟨_,rfl⟩
  have hT2l : T2.length ≤ 5000000000000:=by rw [hT2,List.length_append];omega
  rw [← hT2] at HE4 ⊢
  have HE3:=Lib.hid (HE3.out HS.out)
  have HE4:=Lib.hid (HE4.out HS.out)
  have HS0 : Hid (T2 ++ inpsT (v.inp.take 0) = T2):=by rw [Hid,List.take_zero];simp [inpsT]
  clear hT2 HE2 HSL hsl2 HS
  go_upto_region 18 with fail
  clear q0 q1 q2
  go_loopw [6,12] (fun tv i wr=>∃ k : Nat,k ≤ v.inp.length ∧ i = .int .i64 k ∧ tv = .string (ba (T2 ++ inpsT (v.inp.take k))) ∧ (∀ j (hj : j < v.inp.length),j < k → (inpW v.inp[j]).isSome = true) ∧ Below W2.heap.size W2 wr) (fun _ i _=>v.inp.length - (intOf i).toNat)
  case atStart=>exact ⟨0,by omega,rfl,by rw [HS0.out],(fun j _ h=>by omega),HB.out⟩
  clear HS0 HB HX
  obtain ⟨k,hk,rfl,rfl,hs,hb⟩:=hrel
  have HS:=Lib.hid hs
  have HX:=Lib.hid (HX2.out.more hb)
  have HB:=Lib.hid hb
  clear hs hb
  have q0:=(HX.out.os).cell 0 _ rfl;have q1:=(HX.out.os).cell 1 _ rfl;have q2:=(HX.out.os).cell 2 _ rfl
  by_cases hlt : k < v.inp.length
  case pos=>
   obtain ⟨g,o,ha,hc⟩:=HX.out.vok.in_at k hlt
   obtain ⟨y,hy⟩ : ∃ y,y = v.inp[k]:=⟨_,rfl⟩
   have hyd : y.2.2.2.2.length ≤ 200:=by rw [hy];exact HLT.out.nd _ (List.getElem_mem hlt)
   rw [← hy] at hc
   have u0:=hc _ (Below.refl _ _) 0 _ (by decide) rfl
   have u1:=hc _ (Below.refl _ _) 1 _ (by decide) rfl
   have u2:=hc _ (Below.refl _ _) 2 _ (by decide) rfl
   have u3:=hc _ (Below.refl _ _) 3 _ (by decide) rfl
   have u4:=hc _ (Below.refl _ _) 4 _ (by decide) rfl
   simp only [Nat.add_zero] at u0
   have htl:=HNL.out k hk HS.out
   obtain ⟨T0,hT0⟩ : ∃ T0,T0 = T2 ++ inpsT (v.inp.take k):=⟨_,rfl⟩
   have hT0l : (ba T0).size ≤ 20000000000000:=by rw [ba_size,hT0,List.length_append];omega
   have HTS : Hid (T2 ++ inpsT (v.inp.take (k + 1)) = T0 ++ lnT ((inpW y).getD [])):=by rw [Hid,take_snoc v.inp k hlt,inpsT_snoc,← hy,hT0];simp
   have HRI:=fun W=>Lib.hid (rinput_any y (by omega) W)
   have HY:=Lib.hid hy
   have d1 : decide ((k : Int) < (v.inp.length : Int)) = true:=decide_eq_true (by omega)
   have d1' : decide (k < v.inp.length) = true:=decide_eq_true hlt
   have w1 : IntKind.i64.wrap ((k : Int) + 1) = (k : Int) + 1:=by rw [IntKind.wrap_i64];omega
   have hle : v.inp.length ≤ v.nc:=HX.out.vok.inl
   rw [ha] at q2
   rw [← hT0]
   clear hy hc htl hT0 ha
   cases hf : inpW y with
   | none=>
    have HE:=Lib.hid (HE3.out k hlt (by rw [← HY.out,hf];rfl))
    have HRP : Hid (∀ W e w',RiPost y W e w' → Below W.heap.size W w' ∧ ∃ s : ByteArray,e = .returned (.tuple #[.string s,.bool false])):=fun W e w' h=>⟨h.1,h.2.2 hf⟩
    clear hf hyd
    go_wp2_with (go_at_call 46;refine ((HRI _).out).mono ?_;intro e W4 hp;obtain ⟨hb,s,rfl⟩:=HRP.out _ _ _ hp;have HB4:=Lib.hid (bmore HX.out.bel hb);clear hp hb)
    exact HE.out _ HB4.out
   | some ws=>
    have HRP : Hid (∀ W e w',RiPost y W e w' → Below W.heap.size W w' ∧ e = .returned (.tuple #[.string (ba (joinC 32 ws)),.bool true])):=fun W e w' h=>⟨h.1,h.2.1 ws hf⟩
    have HS2 : Hid (∀ j (hj : j < v.inp.length),j < k + 1 → (inpW v.inp[j]).isSome = true):=fun j hj h=>by
     by_cases e : j = k
     ·subst e;rw [← HY.out,hf];rfl
     ·exact HS.out j hj (by omega)
    have hwl : (ba (joinC 32 ws)).size ≤ 4000000:=by rw [ba_size];exact inpT_len hf (by omega)
    have s1 : ¬ 9223372036854775807 < (ba T0).size + (ba (joinC 32 ws)).size:=by omega
    have s2 : ¬ 9223372036854775807 < (ba T0).size + (ba (joinC 32 ws)).size + 1:=by omega
    have HCT:=Lib.hid (inp_cat T0 ws)
    rw [hf,Option.getD_some] at HTS
    clear hf hyd
    go_wp2_with (go_at_call 46;refine ((HRI _).out).mono ?_;intro e W4 hp;obtain ⟨hb,rfl⟩:=HRP.out _ _ _ hp;have HB4:=Lib.hid (bmore HB.out hb);clear hp hb)
    go_roundw
    case rel=>exact ⟨k + 1,by omega,by go_num,by rw [HTS.out,← HCT.out],HS2.out,HB4.out⟩
    case measure=>simp [intOf];omega
  obtain rfl : k = v.inp.length:=by omega
  have dq2 : decide ((v.inp.length : Int) < (v.inp.length : Int)) = false:=decide_eq_false (by omega)
  rw [List.take_length]
  obtain ⟨T3,hT3⟩ : ∃ T3,T3 = T2 ++ inpsT v.inp:=⟨_,rfl⟩
  rw [← hT3]
  have HE5:=Lib.hid (HE4.out HS.out T3 hT3)
  clear hT3 HE3 HE4 HNL HS
  by_cases h16 : 16384 < T3.length
  ·have d1 : decide (((ba T3).size : Int) > 16384) = true:=decide_eq_true (by rw [ba_size];omega)
   have d1' : decide (16384 < (ba T3).size) = true:=decide_eq_true (by rw [ba_size];exact h16)
   have HE:=fun w' h=>Lib.hid (HE5.out [] 10 w' (by rw [if_pos h16]) h)
   clear h16
   go_wp2_with fail
   exact (HE _ HX.out.bel).out
  ·have d1 : decide (((ba T3).size : Int) > 16384) = false:=decide_eq_false (by rw [ba_size];omega)
   have d1' : decide (16384 < (ba T3).size) = false:=decide_eq_false (by rw [ba_size];exact h16)
   have HE:=fun w' h=>Lib.hid (HE5.out T3 0 w' (by rw [if_neg h16]) h)
   clear h16
   go_wp2_with fail
   exact (HE _ HX.out.bel).out
 ·have HPR : Hid (∀ W,CfgOk W c → Calls Tryz.prog 42 #[.agg #[.int .i64 c.cats,.slice c.g.a c.g.l.length c.g.cap,.slice c.r.a c.r.l.length c.r.cap,.slice c.p.a c.p.l.length c.p.cap,.slice c.n.a c.n.l.length c.n.cap,.slice c.s.a c.s.l.length c.s.cap,.int .i64 c.gate,.int .i64 c.quota]] W fun e w'=>e = .returned (.tuple #[.string ⟨#[]⟩,.int .i64 k0]) ∧ Below W.heap.size W w'):=fun W h1=>(HPR0 W h1).mono fun e w' h=>⟨by rw [← hck];exact h.1 (by rw [hck];exact hk),h.2.2⟩
  have n1 : (k0 != 0) = true:=by simp [hk]
  have HE:=fun w' h=>Lib.hid (HR.out [] k0 w' (by rw [prS,if_pos (by rw [← hk0];exact hk),← hk0]) h)
  clear HPR0 hck hk0 hk hC hL hPP hc hv hm hp hW1 hlt
  have p0:=(HX1.out.oc).cell 0 _ rfl;have p1:=(HX1.out.oc).cell 1 _ rfl;have p2:=(HX1.out.oc).cell 2 _ rfl;have p3:=(HX1.out.oc).cell 3 _ rfl;have p4:=(HX1.out.oc).cell 4 _ rfl;have p5:=(HX1.out.oc).cell 5 _ rfl;have p6:=(HX1.out.oc).cell 6 _ rfl;have p7:=(HX1.out.oc).cell 7 _ rfl
  go_enter Tryz.func19,Tryz.ntmps19
  go_upto_region 1 with fail
  rw [← HW1.out]
  go_wp2_with (go_at_call 42;refine (HPR.out _ HX1.out.cok).mono ?_;rintro e W2 ⟨rfl,hb⟩;have HB2:=Lib.hid (bmore HX1.out.bel hb);clear hb)
  exact (HE _ HB2.out).out
end Go.Proofs.YtoklonmiejdgmaaGreatDoor.Sp
/- The reference for asm: a text as an instruction. -/
namespace Go.Proofs.YtoklonmiejdgmaaGreatDoor.As
set_option linter.unusedVariables false
set_option linter.unusedSimpArgs false
set_option linter.unnecessarySimpa false
open Go.RowKit Go.Sort
set_option maxHeartbeats 4000000
set_option maxRecDepth 100000
set_option linter.unusedVariables false
end Go.Proofs.YtoklonmiejdgmaaGreatDoor.As
/- The reference for asm: Parse walked. -/
namespace Go.Proofs.YtoklonmiejdgmaaGreatDoor.As
set_option linter.unusedVariables false
set_option linter.unusedSimpArgs false
set_option linter.unnecessarySimpa false
open Go.RowKit Go.Sort
set_option maxHeartbeats 4000000
set_option maxRecDepth 100000
set_option linter.unusedVariables false
end Go.Proofs.YtoklonmiejdgmaaGreatDoor.As
/- The reference for asm: a line's word; lines, plain. -/
namespace Go.Proofs.YtoklonmiejdgmaaGreatDoor.As
set_option linter.unusedVariables false
set_option linter.unusedSimpArgs false
set_option linter.unnecessarySimpa false
open Go.RowKit Go.Sort
set_option maxHeartbeats 2000000
set_option maxRecDepth 100000
set_option linter.unusedVariables false
end Go.Proofs.YtoklonmiejdgmaaGreatDoor.As
/- The reference for asm: Program. -/
namespace Go.Proofs.YtoklonmiejdgmaaGreatDoor.As
set_option linter.unusedVariables false
set_option linter.unusedSimpArgs false
set_option linter.unnecessarySimpa false
open Go.RowKit Go.Sort
set_option maxHeartbeats 2000000
set_option maxRecDepth 100000
set_option linter.unusedVariables false
end Go.Proofs.YtoklonmiejdgmaaGreatDoor.As
/- The laws of chapter 10: awake, words; AsmTexts, AsmPrograms. -/
namespace Go.Proofs.YtoklonmiejdgmaaGreatDoor.As
set_option linter.unusedVariables false
set_option linter.unusedSimpArgs false
set_option linter.unnecessarySimpa false
open Go.RowKit Go.Sort
set_option maxHeartbeats 2000000
set_option maxRecDepth 100000
set_option linter.unusedVariables false
end Go.Proofs.YtoklonmiejdgmaaGreatDoor.As
/- Texts of instructions, there and back: plain. -/
namespace Go.Proofs.YtoklonmiejdgmaaGreatDoor.As
set_option linter.unusedVariables false
set_option linter.unusedSimpArgs false
set_option linter.unnecessarySimpa false
open Go.RowKit Go.Sort
set_option maxHeartbeats 1000000
set_option maxRecDepth 100000
set_option linter.unusedVariables false
end Go.Proofs.YtoklonmiejdgmaaGreatDoor.As
/- A list's text read back: plain (lines of XAsList). -/
namespace Go.Proofs.YtoklonmiejdgmaaGreatDoor.As
set_option linter.unusedVariables false
set_option linter.unusedSimpArgs false
set_option linter.unnecessarySimpa false
open Go.RowKit Go.Sort
set_option maxHeartbeats 1000000
set_option maxRecDepth 100000
set_option linter.unusedVariables false
end Go.Proofs.YtoklonmiejdgmaaGreatDoor.As
/- The text of a configuration is read as that configuration: plain. -/
namespace Go.Proofs.YtoklonmiejdgmaaGreatDoor
set_option linter.unusedVariables false
set_option linter.unusedSimpArgs false
set_option linter.unnecessarySimpa false
open Go.RowKit Go.Sort
set_option maxHeartbeats 2000000
set_option maxRecDepth 100000
set_option linter.unusedVariables false
theorem stP_pre (L M : List (List UInt8)) : ∀ k,k ≤ L.length → stP (L ++ M) k = stP L k
 | 0,_=>rfl
 | k + 1,h=>by
  unfold stP
  rw [stP_pre L M k (by omega)]
  congr 1
  funext st
  rw [List.getD_eq_getElem?_getD,List.getD_eq_getElem?_getD,List.getElem?_append_left (by omega)]
theorem stP_snoc (L : List (List UInt8)) (x : List UInt8) : stP (L ++ [x]) (L.length + 1) = (stP L L.length).bind fun st=>lineV st.1 st.2 (decide (L.length = 0)) x:=by
 rw [show stP (L ++ [x]) (L.length + 1) = (stP (L ++ [x]) L.length).bind fun st=>lineV st.1 st.2 (decide (L.length = 0)) ((L ++ [x]).getD L.length []) from rfl,stP_pre L [x] _ (Nat.le_refl _)]
 simp
/-- May this row be of this rank, in a text? -/
def RowOk (k : Nat) (r : List Int) : Prop:=rowV k (rowT k r) = some r ∧ (rowT k r).length = wordsK k ∧ ∀ x ∈ rowT k r,x ≠ [] ∧ x.all (fun b=>b != 10 && b != 32) = true
theorem all_sep {x : List UInt8} (h : x.all (fun b=>b != 10 && b != 32) = true) : (∀ b ∈ x,b ≠ 10) ∧ ∀ b ∈ x,b ≠ 32:=by
 rw [List.all_eq_true] at h
 exact ⟨fun b hb=>by have:=h b hb;simp at this;exact this.1,fun b hb=>by have:=h b hb;simp at this;exact this.2⟩
theorem join_free (c d : UInt8) (hcd : c ≠ d) : ∀ L : List (List UInt8),(∀ x ∈ L,∀ b ∈ x,b ≠ d) → ∀ b ∈ joinC c L,b ≠ d
 | [],_,b,hb=>by simp [joinC] at hb
 | [x],h,b,hb=>h x (by simp) b hb
 | x :: y :: r,h,b,hb=>by
  rw [joinC] at hb
  rcases List.mem_append.1 hb with hb | hb
  ·exact h x (by simp) b hb
  ·rcases List.mem_cons.1 hb with rfl | hb
   ·exact hcd
   ·exact join_free c d hcd (y :: r) (fun z hz=>h z (by simp [hz])) b hb
theorem rank_name : ∀ k : Fin 7,rankV (rkName k.val) = k.val:=by decide +kernel
theorem name_ok : ∀ k : Fin 7,rkName k.val ≠ [] ∧ (rkName k.val).all (fun b=>b != 10 && b != 32) = true:=by decide +kernel
theorem rowT_head (k : Nat) (r : List Int) : (rowT k r).headD [] = rkName k:=by unfold rowT;split <;> rfl
theorem rowT_ne (k : Nat) (r : List Int) : rowT k r ≠ []:=by unfold rowT;split <;> simp
theorem line_row {k : Nat} {r : List Int} (hk : k < 7) (h : RowOk k r) (c : Pc) (last : Int) (b : Bool) (ho : ordB k b last = true) : lineV c last b (lineT (k,r)) = some (setV c k r,(k : Int)):=by
 have hf : fieldsC 32 (lineT (k,r)) = rowT k r:=fields_join 32 (rowT k r) (rowT_ne k r) (fun x hx=>(all_sep (h.2.2 x hx).2).2)
 have hw : wordsB (lineT (k,r)) = true:=by
  unfold wordsB;rw [hf,Bool.not_eq_true',List.any_eq_false]
  intro x hx
  have:=(h.2.2 x hx).1
  cases x with
  | nil=>exact absurd rfl this
  | cons a t=>simp
 have hr : rankV ((fieldsC 32 (lineT (k,r))).headD []) = k:=by rw [hf,rowT_head];exact rank_name ⟨k,hk⟩
 unfold lineV
 rw [hr,hf,if_pos ⟨hw,hk,ho,h.2.1⟩,h.1];rfl
theorem line_free {k : Nat} {r : List Int} (h : RowOk k r) : ∀ b ∈ lineT (k,r),b ≠ 10:=join_free 32 10 (by decide) _ (fun x hx=>(all_sep (h.2.2 x hx).2).1)
theorem dc_numB {n : Int} (h0 : 0 ≤ n) (h1 : n < 1000000000) : numB (dc n) = true ∧ ((numI (dc n) : Nat) : Int) = n:=by
 have:=num_dd n.toNat (by omega)
 exact ⟨this.1,by rw [show numI (dc n) = n.toNat from this.2];omega⟩
theorem dc_ne (n : Int) : dc n ≠ []:=dd_ne _
theorem dc_out {n : Int} (h0 : 0 ≤ n) (h1 : n < 1000000000) : dc n ≠ outT:=fun e=>by
 have:=(dc_numB h0 h1).1
 rw [e] at this;revert this;decide
theorem lbT_F {l : Int} (h : 0 ≤ l ∧ l < 256) : lbF (lbT l) = some l.toNat:=lparse_text ⟨l.toNat,by omega⟩
theorem row_nums {k : Nat} {ws : List (List UInt8)} (hk : ¬ (k = 1 ∨ k = 2 ∨ k = 3)) (hb : nmsB (ws.drop 1) = true) : rowV k ws = some (nmsL (ws.drop 1)):=by
 unfold rowV;rw [if_neg hk,if_pos hb]
theorem row_lab {k : Nat} {ws : List (List UInt8)} {x : Nat} (hk : k = 1 ∨ k = 2 ∨ k = 3) (hx : lbF (ws.getD 1 []) = some x) (ho : ¬ (k = 3 ∧ ws.getD 2 [] = [111,117,116])) (hb : nmsB (ws.drop 2) = true) : rowV k ws = some ((x : Int) :: nmsL (ws.drop 2)):=by
 unfold rowV;rw [if_pos hk,hx];simp only;rw [if_neg ho,if_pos hb]
def NumOk' (x : Int) : Prop:=0 ≤ x ∧ x < 1000000000
theorem ok_0 {a : Int} (ha : NumOk' a) : RowOk 0 [a]:=by
 have h1:=dc_numB ha.1 ha.2
 refine ⟨?_,rfl,?_⟩
 ·rw [row_nums (by omega) (by simp [rowT,nmsB,h1.1])];simp [rowT,nmsL,h1.2]
 ·intro x hx
  simp only [rowT,List.mem_cons,List.not_mem_nil,or_false,List.getD_cons_zero] at hx
  rcases hx with rfl | rfl
  ·exact name_ok ⟨0,by omega⟩
  ·exact ⟨dc_ne _,dc_all _⟩
theorem ok_1 {l a b : Int} (hl : 0 ≤ l ∧ l < 256) (ha : NumOk' a) (hb : NumOk' b) : RowOk 1 [l,a,b]:=by
 have h1:=dc_numB ha.1 ha.2
 have h2:=dc_numB hb.1 hb.2
 refine ⟨?_,rfl,?_⟩
 ·show rowV 1 [rkName 1,lbT l,dc a,dc b] = some [l,a,b]
  rw [row_lab (k:=1) (ws:=[rkName 1,lbT l,dc a,dc b]) (x:=l.toNat) (by omega) (lbT_F hl) (by omega) (by simp [nmsB,h1.1,h2.1])]
  simp [nmsL,h1.2,h2.2];omega
 ·intro x hx
  simp only [rowT,List.mem_cons,List.not_mem_nil,or_false,List.getD_cons_zero,List.getD_cons_succ] at hx
  rcases hx with rfl | rfl | rfl | rfl
  ·exact name_ok ⟨1,by omega⟩
  ·exact ⟨(lbT_ok hl).1,(lbT_ok hl).2.2⟩
  ·exact ⟨dc_ne _,dc_all _⟩
  ·exact ⟨dc_ne _,dc_all _⟩
theorem ok_2 {l a b : Int} (hl : 0 ≤ l ∧ l < 256) (ha : NumOk' a) (hb : NumOk' b) : RowOk 2 [l,a,b]:=by
 have h1:=dc_numB ha.1 ha.2
 have h2:=dc_numB hb.1 hb.2
 refine ⟨?_,rfl,?_⟩
 ·show rowV 2 [rkName 2,lbT l,dc a,dc b] = some [l,a,b]
  rw [row_lab (k:=2) (ws:=[rkName 2,lbT l,dc a,dc b]) (x:=l.toNat) (by omega) (lbT_F hl) (by omega) (by simp [nmsB,h1.1,h2.1])]
  simp [nmsL,h1.2,h2.2];omega
 ·intro x hx
  simp only [rowT,List.mem_cons,List.not_mem_nil,or_false,List.getD_cons_zero,List.getD_cons_succ] at hx
  rcases hx with rfl | rfl | rfl | rfl
  ·exact name_ok ⟨2,by omega⟩
  ·exact ⟨(lbT_ok hl).1,(lbT_ok hl).2.2⟩
  ·exact ⟨dc_ne _,dc_all _⟩
  ·exact ⟨dc_ne _,dc_all _⟩
theorem ok_3 {l a : Int} (hl : 0 ≤ l ∧ l < 256) (ha : a = -1 ∨ NumOk' a) : RowOk 3 [l,a]:=by
 rcases ha with rfl | ha
 ·refine ⟨?_,rfl,?_⟩
  ·show rowV 3 [rkName 3,lbT l,outT] = some [l,-1]
   unfold rowV
   rw [if_pos (by omega),show lbF (([rkName 3,lbT l,outT] : List (List UInt8)).getD 1 []) = some l.toNat from lbT_F hl]
   refine (if_pos ⟨rfl,rfl⟩).trans ?_
   congr 2
   omega
  ·intro x hx
   simp only [rowT,List.mem_cons,List.not_mem_nil,or_false,List.getD_cons_zero,List.getD_cons_succ,if_pos] at hx
   rcases hx with rfl | rfl | rfl
   ·exact name_ok ⟨3,by omega⟩
   ·exact ⟨(lbT_ok hl).1,(lbT_ok hl).2.2⟩
   ·exact ⟨by decide,by decide⟩
 ·have h1:=dc_numB ha.1 ha.2
  have hn : ¬ a = -1:=by have:=ha.1;omega
  have ht : rowT 3 [l,a] = [rkName 3,lbT l,dc a]:=by simp [rowT,hn]
  refine ⟨?_,by rw [ht];rfl,?_⟩
  ·rw [ht,row_lab (k:=3) (ws:=[rkName 3,lbT l,dc a]) (x:=l.toNat) (by omega) (lbT_F hl) (fun h=>dc_out ha.1 ha.2 h.2) (by simp [nmsB,h1.1])]
   simp [nmsL,h1.2];omega
  ·intro x hx
   rw [ht] at hx
   simp only [List.mem_cons,List.not_mem_nil,or_false] at hx
   rcases hx with rfl | rfl | rfl
   ·exact name_ok ⟨3,by omega⟩
   ·exact ⟨(lbT_ok hl).1,(lbT_ok hl).2.2⟩
   ·exact ⟨dc_ne _,dc_all _⟩
theorem ok_k {k : Nat} {a b : Int} (hk : k < 3) (ha : NumOk' a) (hb : NumOk' b) : RowOk (k + 4) [a,b]:=by
 have h1:=dc_numB ha.1 ha.2
 have h2:=dc_numB hb.1 hb.2
 refine ⟨?_,?_,?_⟩
 ·rw [row_nums (by omega) (by simp [rowT,nmsB,h1.1,h2.1])];simp [rowT,nmsL,h1.2,h2.2]
 ·rcases (by omega : k = 0 ∨ k = 1 ∨ k = 2) with rfl | rfl | rfl <;> rfl
 ·intro x hx
  simp only [rowT,List.mem_cons,List.not_mem_nil,or_false,List.getD_cons_zero,List.getD_cons_succ] at hx
  rcases hx with rfl | rfl | rfl
  ·exact name_ok ⟨k + 4,by omega⟩
  ·exact ⟨dc_ne _,dc_all _⟩
  ·exact ⟨dc_ne _,dc_all _⟩
/-- Rows of one rank, one behind another. -/
theorem st_group (k : Nat) (h1 : 1 ≤ k) (h6 : k < 6) : ∀ (l : List (List Int)) (L : List (List UInt8)) (c : Pc) (last : Int),L ≠ [] → last ≤ k → stP L L.length = some (c,last) → (∀ r ∈ l,RowOk k r) →
  ∃ last' : Int,last' ≤ k ∧ stP (L ++ l.map fun r=>lineT (k,r)) (L.length + l.length) = some (l.foldl (fun c r=>setV c k r) c,last')
 | [],L,c,last,_,hl,hs,_=>⟨last,hl,by simpa using hs⟩
 | r :: l,L,c,last,hne,hl,hs,hr=>by
  have hL0 : L.length ≠ 0:=fun e=>hne (List.eq_nil_of_length_eq_zero e)
  have h2 : stP (L ++ [lineT (k,r)]) (L ++ [lineT (k,r)]).length = some (setV c k r,(k : Int)):=by
   rw [List.length_append,List.length_singleton,stP_snoc,hs]
   simp only [Option.bind_some]
   rw [line_row (by omega) (hr r (by simp))]
   rw [decide_eq_false hL0,ordB_go (by rw [decide_eq_false (by omega)]) (by omega),decide_eq_true hl]
  obtain ⟨last',g1,g2⟩:=st_group k h1 h6 l (L ++ [lineT (k,r)]) (setV c k r) k (by simp) (Int.le_refl _) h2 (fun x hx=>hr x (by simp [hx]))
  refine ⟨last',g1,?_⟩
  rw [List.append_assoc,List.length_append,List.length_singleton] at g2
  rw [List.map_cons,List.length_cons,List.foldl_cons,← g2]
  congr 1
  omega
theorem fold_g (l : List (List Int)) : ∀ c : Pc,l.foldl (fun c r=>setV c 1 r) c = { c with g:=c.g ++ l }:=by
 induction l with
 | nil=>intro c;simp
 | cons r l ih=>intro c;rw [List.foldl_cons,ih];simp [setV]
theorem fold_r (l : List (List Int)) : ∀ c : Pc,l.foldl (fun c r=>setV c 2 r) c = { c with r:=c.r ++ l }:=by
 induction l with
 | nil=>intro c;simp
 | cons r l ih=>intro c;rw [List.foldl_cons,ih];simp [setV]
theorem fold_p (l : List (List Int)) : ∀ c : Pc,l.foldl (fun c r=>setV c 3 r) c = { c with p:=c.p ++ l }:=by
 induction l with
 | nil=>intro c;simp
 | cons r l ih=>intro c;rw [List.foldl_cons,ih];simp [setV]
theorem fold_n (l : List (List Int)) : ∀ c : Pc,l.foldl (fun c r=>setV c 4 r) c = { c with n:=c.n ++ l }:=by
 induction l with
 | nil=>intro c;simp
 | cons r l ih=>intro c;rw [List.foldl_cons,ih];simp [setV]
theorem fold_s (l : List (List Int)) : ∀ c : Pc,l.foldl (fun c r=>setV c 5 r) c = { c with s:=c.s ++ l }:=by
 induction l with
 | nil=>intro c;simp
 | cons r l ih=>intro c;rw [List.foldl_cons,ih];simp [setV]
/-- The rows' lengths. -/
structure LenOk (c : Pc) : Prop where
 g : ∀ r ∈ c.g,r.length = 3
 r : ∀ r ∈ c.r,r.length = 3
 p : ∀ r ∈ c.p,r.length = 2
 n : ∀ r ∈ c.n,r.length = 2
 s : ∀ r ∈ c.s,r.length = 2
theorem len3 {r : List Int} (h : r.length = 3) : r = [r.getD 0 0,r.getD 1 0,r.getD 2 0]:=by
 match r,h with
 | [a,b,c],_=>rfl
theorem len2 {r : List Int} (h : r.length = 2) : r = [r.getD 0 0,r.getD 1 0]:=by
 match r,h with
 | [a,b],_=>rfl
theorem rows_ok {c : Pc} (hf : FitP c) (hl : LenOk c) : ∀ x ∈ rowsP c,RowOk x.1 x.2 ∧ x.1 < 7:=by
 intro x hx
 unfold rowsP tag gateR at hx
 simp only [List.mem_cons,List.mem_append,List.mem_map] at hx
 rcases hx with rfl | ⟨r,hr,rfl⟩ | ⟨r,hr,rfl⟩ | ⟨r,hr,rfl⟩ | ⟨r,hr,rfl⟩ | ⟨r,hr,rfl⟩ | hx
 ·exact ⟨ok_0 ⟨hf.cats.1,by have:=hf.cats.2;show c.cats < _;omega⟩,by simp⟩
 ·have h:=hf.g r hr
  have e:=len3 (hl.g r hr)
  refine ⟨?_,by simp⟩
  show RowOk 1 r
  rw [e];exact ok_1 h.1 ⟨h.2.1.1,by omega⟩ ⟨h.2.2.1,by omega⟩
 ·have h:=hf.r r hr
  have e:=len3 (hl.r r hr)
  refine ⟨?_,by simp⟩
  show RowOk 2 r
  rw [e];exact ok_2 h.1 ⟨h.2.1.1,by omega⟩ ⟨h.2.2.1,by omega⟩
 ·have h:=hf.p r hr
  have e:=len2 (hl.p r hr)
  refine ⟨?_,by simp⟩
  show RowOk 3 r
  rw [e];exact ok_3 h.1 (h.2.imp id fun h=>⟨h.1,by omega⟩)
 ·have h:=hf.n r hr
  have e:=len2 (hl.n r hr)
  refine ⟨?_,by simp⟩
  show RowOk (0 + 4) r
  rw [e];exact ok_k (by omega) ⟨h.1.1,by omega⟩ ⟨h.2.1,by omega⟩
 ·have h:=hf.s r hr
  have e:=len2 (hl.s r hr)
  refine ⟨?_,by simp⟩
  show RowOk (1 + 4) r
  rw [e];exact ok_k (by omega) ⟨h.1.1,by omega⟩ ⟨h.2.1,by omega⟩
 ·split at hx
  ·cases hx
  ·rename_i hg
   rw [List.mem_singleton] at hx
   subst hx
   obtain ⟨h1,h2⟩:=hf.gate.resolve_left (fun h=>hg h.1)
   exact ⟨ok_k (k:=2) (by omega) ⟨h1.1,by omega⟩ ⟨h2.1,by omega⟩,by simp⟩
theorem fields_text : ∀ R : List (Nat × List Int),(∀ x ∈ R,∀ b ∈ lineT x,b ≠ 10) → fieldsC 10 (textT R) = R.map lineT ++ [[]]
 | [],_=>rfl
 | x :: R,h=>by
  have ih:=fields_text R (fun y hy=>h y (by simp [hy]))
  rw [show textT (x :: R) = lineT x ++ 10 :: textT R from by simp [textT],fieldsC_app 10 _ _ (h x (by simp)),ih];rfl
theorem st_rows {c : Pc} (hf : FitP c) (hl : LenOk c) : ∃ last,stP ((rowsP c).map lineT) ((rowsP c).map lineT).length = some (c,last):=by
 have hok:=rows_ok hf hl
 have tagok : ∀ (k : Nat) (l : List (List Int)),(∀ r ∈ l,(k,r) ∈ rowsP c) → ∀ r ∈ l,RowOk k r:=fun k l h r hr=>(hok _ (h r hr)).1
 have mt : ∀ (k : Nat) (l : List (List Int)),(tag k l).map lineT = l.map fun r=>lineT (k,r):=fun k l=>by simp [tag]
 have s0 : stP [lineT (0,[c.cats])] [lineT (0,[c.cats])].length = some ({ pcN with cats:=c.cats },0):=by
  have:=stP_snoc [] (lineT (0,[c.cats]))
  rw [List.nil_append,List.length_nil] at this
  rw [show ([lineT (0,[c.cats])] : List (List UInt8)).length = 0 + 1 from rfl,this]
  show (some (pcN,(-1 : Int))).bind _ = _
  simp only [Option.bind_some]
  rw [line_row (by omega) (hok (0,[c.cats]) (by simp [rowsP])).1 _ _ _ (by first | rfl | (simp [ordB]))];rfl
 obtain ⟨l1,a1,b1⟩:=st_group 1 (by omega) (by omega) c.g _ _ _ (by simp) (by omega) s0 (tagok 1 c.g fun r hr=>by simp [rowsP,tag,hr])
 rw [fold_g,← List.length_map (f:=fun r=>lineT (1,r)),← List.length_append] at b1
 obtain ⟨l2,a2,b2⟩:=st_group 2 (by omega) (by omega) c.r _ _ _ (by simp) (by omega) b1 (tagok 2 c.r fun r hr=>by simp [rowsP,tag,hr])
 rw [fold_r,← List.length_map (f:=fun r=>lineT (2,r)),← List.length_append] at b2
 obtain ⟨l3,a3,b3⟩:=st_group 3 (by omega) (by omega) c.p _ _ _ (by simp) (by omega) b2 (tagok 3 c.p fun r hr=>by simp [rowsP,tag,hr])
 rw [fold_p,← List.length_map (f:=fun r=>lineT (3,r)),← List.length_append] at b3
 obtain ⟨l4,a4,b4⟩:=st_group 4 (by omega) (by omega) c.n _ _ _ (by simp) (by omega) b3 (tagok 4 c.n fun r hr=>by simp [rowsP,tag,hr])
 rw [fold_n,← List.length_map (f:=fun r=>lineT (4,r)),← List.length_append] at b4
 obtain ⟨l5,a5,b5⟩:=st_group 5 (by omega) (by omega) c.s _ _ _ (by simp) (by omega) b4 (tagok 5 c.s fun r hr=>by simp [rowsP,tag,hr])
 rw [fold_s,← List.length_map (f:=fun r=>lineT (5,r)),← List.length_append] at b5
 simp only [pcN,List.nil_append] at b5
 have hrw : (rowsP c).map lineT = ((((([lineT (0,[c.cats])] ++ c.g.map fun r=>lineT (1,r)) ++ c.r.map fun r=>lineT (2,r)) ++ c.p.map fun r=>lineT (3,r)) ++ c.n.map fun r=>lineT (4,r)) ++ c.s.map fun r=>lineT (5,r)) ++ (gateR c).map lineT:=by
  simp only [rowsP,List.map_cons,List.map_append,mt,List.append_assoc,List.cons_append,List.nil_append]
 rw [hrw]
 by_cases hg : c.gate = -1
 ·have hq:=(hf.gate.resolve_right (fun h=>by omega)).2
  rw [show gateR c = [] from by unfold gateR;rw [if_pos hg],List.map_nil,List.append_nil]
  refine ⟨l5,?_⟩
  rw [b5]
  congr 2
  cases c;simp_all
 ·rw [show gateR c = [(6,[c.gate,c.quota])] from by unfold gateR;rw [if_neg hg],List.map_cons,List.map_nil,List.length_append,List.length_singleton,stP_snoc,b5]
  simp only [Option.bind_some]
  refine ⟨6,?_⟩
  rw [line_row (by omega) (hok (6,[c.gate,c.quota]) (by simp [rowsP,gateR,hg])).1]
  ·simp [setV]
  ·rw [decide_eq_false (by simp),ordB_go (by rfl) (by omega),decide_eq_true (by omega)]
end Go.Proofs.YtoklonmiejdgmaaGreatDoor
/- A text that is read as a configuration is that configuration's text: plain. -/
namespace Go.Proofs.YtoklonmiejdgmaaGreatDoor
set_option linter.unusedVariables false
set_option linter.unusedSimpArgs false
set_option linter.unnecessarySimpa false
open Go.RowKit Go.Sort
set_option maxHeartbeats 2000000
set_option maxRecDepth 100000
set_option linter.unusedVariables false
/-- A configuration's text is read as that configuration. -/
theorem ps_there {c : Pc} (hc : chkP c = 0) (hf : FitP c) (hl : LenOk c) : psV (prT c) = (c,0,0):=by
 obtain ⟨last,hst⟩:=st_rows hf hl
 have hok:=rows_ok hf hl
 have hfe : fieldsC 10 (prT c) = (rowsP c).map lineT ++ [[]]:=fields_text _ (fun x hx=>line_free (k:=x.1) (r:=x.2) (hok x hx).1)
 have hlen : (prT c).length ≤ 16384:=by
  have h1 : ∀ R : List (Nat × List Int),(∀ x ∈ R,(lineT x).length ≤ 100) → (textT R).length ≤ 101 * R.length:=by
   intro R
   induction R with
   | nil=>intro _;simp [textT]
   | cons x R ih=>
    intro h
    have:=ih (fun y hy=>h y (by simp [hy]))
    have h2:=h x (by simp)
    rw [show textT (x :: R) = lineT x ++ [10] ++ textT R from by simp [textT]]
    simp only [List.length_append,List.length_cons,List.length_nil];omega
  have h2 : (rowsP c).length ≤ 34:=by
   have:=hf.gl;have:=hf.rl;have:=hf.pl;have:=hf.nl;have:=hf.sl
   unfold rowsP gateR tag
   split <;> simp <;> omega
  have h3 : ∀ x ∈ rowsP c,(lineT x).length ≤ 100:=by
   intro x hx
   have hle : ∀ k : Fin 7,(rkName k.val).length ≤ 5:=by decide
   have lw : ∀ (k : Nat) (ah : List UInt8) (l : List Int),k < 7 → ah.length ≤ 20 → l.length ≤ 3 → (∀ n ∈ l,n < 1000000000) → (lnW k ah l).length ≤ 80:=by
    intro k ah l hk ha hl h
    have hkn:=hle ⟨k,hk⟩
    have : (l.flatMap (fun n=>32 :: dc n)).length ≤ 10 * l.length:=by
     clear hl
     induction l with
     | nil=>simp
     | cons x l ih=>
      have h1:=dc_len (h x (by simp))
      have h2:=ih (fun n hn=>h n (by simp [hn]))
      simp only [List.flatMap_cons,List.length_append,List.length_cons] at h2 ⊢
      omega
    unfold lnW
    simp only [List.length_append,List.length_singleton]
    have : (if ah = [] then [] else 32 :: ah).length ≤ 1 + ah.length:=by
     split
     ·exact Nat.zero_le _
     ·rw [List.length_cons];omega
    simp only at hkn
    omega
   have ll : (lineT x ++ [10]).length = (lineT x).length + 1:=by simp
   unfold rowsP tag gateR at hx
   simp only [List.mem_cons,List.mem_append,List.mem_map] at hx
   rcases hx with rfl | ⟨r,hr,rfl⟩ | ⟨r,hr,rfl⟩ | ⟨r,hr,rfl⟩ | ⟨r,hr,rfl⟩ | ⟨r,hr,rfl⟩ | hx
   ·rw [← lnW_0] at ll
    have:=lw 0 [] [c.cats] (by omega) (by simp) (by simp) (by intro n hn;rw [List.mem_singleton.1 hn];have:=hf.cats.2;omega)
    omega
   ·have h:=hf.g r hr
    rw [len3 (hl.g r hr)] at ll ⊢
    rw [← lnW_1 h.1] at ll
    have:=lw 1 (lbT (r.getD 0 0)) [r.getD 1 0,r.getD 2 0] (by omega) (by have:=(lbT_ok h.1).2.1;omega) (by simp) (by intro n hn;simp only [List.mem_cons,List.not_mem_nil,or_false] at hn;rcases hn with rfl | rfl <;> omega)
    omega
   ·have h:=hf.r r hr
    rw [len3 (hl.r r hr)] at ll ⊢
    rw [← lnW_2 h.1] at ll
    have:=lw 2 (lbT (r.getD 0 0)) [r.getD 1 0,r.getD 2 0] (by omega) (by have:=(lbT_ok h.1).2.1;omega) (by simp) (by intro n hn;simp only [List.mem_cons,List.not_mem_nil,or_false] at hn;rcases hn with rfl | rfl <;> omega)
    omega
   ·have h:=hf.p r hr
    have e:=len2 (hl.p r hr)
    rcases h.2 with h1 | h1
    ·rw [h1] at e
     rw [e] at ll ⊢
     rw [← lnW_out h.1] at ll
     have:=lw 3 (lbT (r.getD 0 0) ++ 32 :: outT) [] (by omega) (by have:=(lbT_ok h.1).2.1;rw [List.length_append,List.length_cons];have : outT.length = 3:=rfl;omega) (by simp) (by simp)
     omega
    ·rw [e] at ll ⊢
     rw [← lnW_3 h.1 (by omega)] at ll
     have:=lw 3 (lbT (r.getD 0 0)) [r.getD 1 0] (by omega) (by have:=(lbT_ok h.1).2.1;omega) (by simp) (by intro n hn;rw [List.mem_singleton.1 hn];omega)
     omega
   ·have h:=hf.n r hr
    rw [len2 (hl.n r hr)] at ll ⊢
    rw [show lineT (4,[r.getD 0 0,r.getD 1 0]) ++ [10] = lnW 4 [] [r.getD 0 0,r.getD 1 0] from (lnW_k 0 _ _).symm] at ll
    have:=lw 4 [] [r.getD 0 0,r.getD 1 0] (by omega) (by simp) (by simp) (by intro n hn;simp only [List.mem_cons,List.not_mem_nil,or_false] at hn;rcases hn with rfl | rfl <;> omega)
    omega
   ·have h:=hf.s r hr
    rw [len2 (hl.s r hr)] at ll ⊢
    rw [show lineT (5,[r.getD 0 0,r.getD 1 0]) ++ [10] = lnW 5 [] [r.getD 0 0,r.getD 1 0] from (lnW_k 1 _ _).symm] at ll
    have:=lw 5 [] [r.getD 0 0,r.getD 1 0] (by omega) (by simp) (by simp) (by intro n hn;simp only [List.mem_cons,List.not_mem_nil,or_false] at hn;rcases hn with rfl | rfl <;> omega)
    omega
   ·split at hx
    ·cases hx
    ·rename_i hg
     rw [List.mem_singleton] at hx
     subst hx
     have h:=hf.gate.resolve_left (fun h=>hg h.1)
     rw [show lineT (6,[c.gate,c.quota]) ++ [10] = lnW 6 [] [c.gate,c.quota] from (lnW_k 2 _ _).symm] at ll
     have:=lw 6 [] [c.gate,c.quota] (by omega) (by simp) (by simp) (by intro n hn;simp only [List.mem_cons,List.not_mem_nil,or_false] at hn;rcases hn with rfl | rfl <;> omega)
     omega
  have:=h1 _ h3
  unfold prT
  omega
 have hdl : (fieldsC 10 (prT c)).dropLast = (rowsP c).map lineT:=by rw [hfe,List.dropLast_concat]
 have hgl : (fieldsC 10 (prT c)).getLast? = some []:=by rw [hfe];simp
 rw [psV_end (by omega) (by rw [hdl];exact badP_none (by rw [hst];simp)) (by rw [hdl,hgl];simp [rowsP]),hdl]
 exact endP_yes hst hc
end Go.Proofs.YtoklonmiejdgmaaGreatDoor
/- What is printed is read as that: plain. -/
namespace Go.Proofs.YtoklonmiejdgmaaGreatDoor.Sp
set_option linter.unusedVariables false
set_option linter.unusedSimpArgs false
set_option linter.unnecessarySimpa false
open Go.RowKit Go.Sort
set_option maxHeartbeats 4000000
set_option maxRecDepth 100000
set_option linter.unusedVariables false
end Go.Proofs.YtoklonmiejdgmaaGreatDoor.Sp
/- The walk of ScriptBack. -/
namespace Go.Proofs.YtoklonmiejdgmaaGreatDoor.Sp
set_option linter.unusedVariables false
set_option linter.unusedSimpArgs false
set_option linter.unnecessarySimpa false
open Go.RowKit Go.Sort
set_option maxHeartbeats 4000000
set_option maxRecDepth 100000
set_option linter.unusedVariables false
theorem lenOk_of {W : World} {c : Cv} (h : CfgOk W c) : LenOk (pcOf c):=⟨h.g.len,h.r.len,h.p.len,h.n.len,h.s.len⟩
theorem prT_le {W : World} {c : Cv} (h : CfgOk W c) (h0 : chkP (pcOf c) = 0) : (prT (pcOf c)).length ≤ 16384:=by
 have h1:=ps_there h0 (fit_of (by rw [chkP_of];exact h0)) (lenOk_of h)
 rcases Nat.lt_or_ge 16384 (prT (pcOf c)).length with hl | hl
 ·rw [psV_long hl] at h1
  have:=congrArg (fun x=>x.2.1) h1
  exact absurd (show (10 : Int) = 0 from this) (by decide)
 ·exact hl
theorem ba_refl (x : List UInt8) : ((ba x).toList == (ba x).toList) = true:=by simp
end Go.Proofs.YtoklonmiejdgmaaGreatDoor.Sp
/- The walk of ScriptPrints. -/
namespace Go.Proofs.YtoklonmiejdgmaaGreatDoor.Sp
set_option linter.unusedVariables false
set_option linter.unusedSimpArgs false
set_option linter.unnecessarySimpa false
open Go.RowKit Go.Sort
set_option maxHeartbeats 4000000
set_option maxRecDepth 100000
set_option linter.unusedVariables false
def BPost (W : World) (e : Ending) (w' : World) : Prop:=∃ b : Bool,e = .returned (.bool b) ∧ Below W.heap.size W w'
theorem few_any (c : Cv) (W : World) (hc : CfgOk W c) : Calls Tryz.prog 16 #[.agg #[.int .i64 c.cats,.slice c.g.a c.g.l.length c.g.cap,.slice c.r.a c.r.l.length c.r.cap,.slice c.p.a c.p.l.length c.p.cap,.slice c.n.a c.n.l.length c.n.cap,.slice c.s.a c.s.l.length c.s.cap,.int .i64 c.gate,.int .i64 c.quota]] W (BPost W):=by
 obtain ⟨W1,hW1⟩ : ∃ W1,W1 = W.alloc (.cells #[.int .i64 c.cats,.slice c.g.a c.g.l.length c.g.cap,.slice c.r.a c.r.l.length c.r.cap,.slice c.p.a c.p.l.length c.p.cap,.slice c.n.a c.n.l.length c.n.cap,.slice c.s.a c.s.l.length c.s.cap,.int .i64 c.gate,.int .i64 c.quota] 29):=⟨_,rfl⟩
 obtain ⟨b1,hb1⟩ : ∃ b1,b1 = W.heap.size:=⟨_,rfl⟩
 have HO1 : Hid (ObjAt W1 b1 29 (cfgL c)):=by rw [hW1,hb1];exact ObjAt.new W _ _
 have HB1 : Hid (Below W.heap.size W W1):=by rw [hW1];exact ((Below.refl _ _).alloc (Nat.le_refl _) _)
 obtain ⟨P,hP⟩ : ∃ P,P = BPost W:=⟨_,rfl⟩
 have HPP : Hid (∀ b w',Below W.heap.size W w' → P (.returned (.bool b)) w'):=fun b w' h=>by rw [hP];exact ⟨b,rfl,h⟩
 have HW1:=Lib.hid hW1
 have HBB:=Lib.hid hb1
 have m1:=hc.g.mx
 have m2:=hc.r.mx
 have m3:=hc.p.mx
 have m4:=hc.n.mx
 have m5:=hc.s.mx
 rw [← hP]
 clear hP hW1 hb1 hc
 obtain ⟨x1,y1⟩ : ∃ x,decide (((c.g.l.length : Nat) : Int) ≤ 20) = x:=⟨_,rfl⟩
 obtain ⟨x2,y2⟩ : ∃ x,decide (((c.r.l.length : Nat) : Int) ≤ 40) = x:=⟨_,rfl⟩
 obtain ⟨x3,y3⟩ : ∃ x,decide (((c.p.l.length : Nat) : Int) ≤ 40) = x:=⟨_,rfl⟩
 obtain ⟨x4,y4⟩ : ∃ x,decide (((c.n.l.length : Nat) : Int) ≤ 40) = x:=⟨_,rfl⟩
 obtain ⟨x5,y5⟩ : ∃ x,decide (((c.s.l.length : Nat) : Int) ≤ 40) = x:=⟨_,rfl⟩
 have z1 : decide (c.g.l.length ≤ 20) = x1:=by rw [← y1,Bool.eq_iff_iff];simp;omega
 have z2 : decide (c.r.l.length ≤ 40) = x2:=by rw [← y2,Bool.eq_iff_iff];simp;omega
 have z3 : decide (c.p.l.length ≤ 40) = x3:=by rw [← y3,Bool.eq_iff_iff];simp;omega
 have z4 : decide (c.n.l.length ≤ 40) = x4:=by rw [← y4,Bool.eq_iff_iff];simp;omega
 have z5 : decide (c.s.l.length ≤ 40) = x5:=by rw [← y5,Bool.eq_iff_iff];simp;omega
 cases x1
 case false=>
  go_enter Tryz.func16,Tryz.ntmps16
  go_upto_region 1 with fail
  rw [← HW1.out,← HBB.out]
  have p0:=(HO1.out).cell 0 _ rfl;have p1:=(HO1.out).cell 1 _ rfl;have p2:=(HO1.out).cell 2 _ rfl;have p3:=(HO1.out).cell 3 _ rfl;have p4:=(HO1.out).cell 4 _ rfl;have p5:=(HO1.out).cell 5 _ rfl;have p6:=(HO1.out).cell 6 _ rfl;have p7:=(HO1.out).cell 7 _ rfl
  go_wp2_with fail
  exact HPP.out _ _ HB1.out
 cases x2
 case false=>
  go_enter Tryz.func16,Tryz.ntmps16
  go_upto_region 1 with fail
  rw [← HW1.out,← HBB.out]
  have p0:=(HO1.out).cell 0 _ rfl;have p1:=(HO1.out).cell 1 _ rfl;have p2:=(HO1.out).cell 2 _ rfl;have p3:=(HO1.out).cell 3 _ rfl;have p4:=(HO1.out).cell 4 _ rfl;have p5:=(HO1.out).cell 5 _ rfl;have p6:=(HO1.out).cell 6 _ rfl;have p7:=(HO1.out).cell 7 _ rfl
  go_wp2_with fail
  exact HPP.out _ _ HB1.out
 cases x3
 case false=>
  go_enter Tryz.func16,Tryz.ntmps16
  go_upto_region 1 with fail
  rw [← HW1.out,← HBB.out]
  have p0:=(HO1.out).cell 0 _ rfl;have p1:=(HO1.out).cell 1 _ rfl;have p2:=(HO1.out).cell 2 _ rfl;have p3:=(HO1.out).cell 3 _ rfl;have p4:=(HO1.out).cell 4 _ rfl;have p5:=(HO1.out).cell 5 _ rfl;have p6:=(HO1.out).cell 6 _ rfl;have p7:=(HO1.out).cell 7 _ rfl
  go_wp2_with fail
  exact HPP.out _ _ HB1.out
 cases x4
 case false=>
  go_enter Tryz.func16,Tryz.ntmps16
  go_upto_region 1 with fail
  rw [← HW1.out,← HBB.out]
  have p0:=(HO1.out).cell 0 _ rfl;have p1:=(HO1.out).cell 1 _ rfl;have p2:=(HO1.out).cell 2 _ rfl;have p3:=(HO1.out).cell 3 _ rfl;have p4:=(HO1.out).cell 4 _ rfl;have p5:=(HO1.out).cell 5 _ rfl;have p6:=(HO1.out).cell 6 _ rfl;have p7:=(HO1.out).cell 7 _ rfl
  go_wp2_with fail
  exact HPP.out _ _ HB1.out
 cases x5
 all_goals
  go_enter Tryz.func16,Tryz.ntmps16
  go_upto_region 1 with fail
  rw [← HW1.out,← HBB.out]
  have p0:=(HO1.out).cell 0 _ rfl;have p1:=(HO1.out).cell 1 _ rfl;have p2:=(HO1.out).cell 2 _ rfl;have p3:=(HO1.out).cell 3 _ rfl;have p4:=(HO1.out).cell 4 _ rfl;have p5:=(HO1.out).cell 5 _ rfl;have p6:=(HO1.out).cell 6 _ rfl;have p7:=(HO1.out).cell 7 _ rfl
  go_wp2_with fail
  exact HPP.out _ _ HB1.out
def LgPost (v : Sv) (W : World) (e : Ending) (w' : World) : Prop:=∃ b : Bool,e = .returned (.bool b) ∧ Below W.heap.size W w' ∧ (b = true → Lt (scOf v))
theorem light_any (v : Sv) (W : World) (hv : ScOk W v) : Calls Tryz.prog 17 #[.agg #[.slice v.ia v.im.length v.ic,.slice v.sa v.se.length v.sc,.slice v.na v.inp.length v.nc]] W (LgPost v W):=by
 obtain ⟨W1,hW1⟩ : ∃ W1,W1 = W.alloc (.cells #[.slice v.ia v.im.length v.ic,.slice v.sa v.se.length v.sc,.slice v.na v.inp.length v.nc] 34):=⟨_,rfl⟩
 obtain ⟨b1,hb1⟩ : ∃ b1,b1 = W.heap.size:=⟨_,rfl⟩
 have HO1 : Hid (ObjAt W1 b1 34 #[.slice v.ia v.im.length v.ic,.slice v.sa v.se.length v.sc,.slice v.na v.inp.length v.nc].toList):=by rw [hW1,hb1];exact ObjAt.new W _ _
 have hbw : Below W.heap.size W W1:=by rw [hW1];exact ((Below.refl _ _).alloc (Nat.le_refl _) _)
 have HB1:=Lib.hid hbw
 have HV:=Lib.hid (hv.below hbw)
 obtain ⟨P,hP⟩ : ∃ P,P = LgPost v W:=⟨_,rfl⟩
 have HNO : Hid (∀ w',Below W.heap.size W w' → P (.returned (.bool false)) w'):=fun w' h=>by rw [hP];exact ⟨false,rfl,h,fun e=>by cases e⟩
 have HYE : Hid (Lt (scOf v) → ∀ w',Below W.heap.size W w' → P (.returned (.bool true)) w'):=fun hl w' h=>by rw [hP];exact ⟨true,rfl,h,fun _=>hl⟩
 have HW1:=Lib.hid hW1
 have HBB:=Lib.hid hb1
 have e1:=hv.iml
 have e2:=hv.imx
 have e3:=hv.sel
 have e4:=hv.sex
 have e5:=hv.inl
 have e6:=hv.inx
 unfold maxLen at e2 e4 e6
 rw [← hP]
 clear hP hW1 hb1 hv hbw
 by_cases i1 : v.im.length ≤ 6
 rotate_left
 ·have d1 : decide ((v.im.length : Int) > 6) = true:=decide_eq_true (by omega)
  have d1' : decide (6 < v.im.length) = true:=decide_eq_true (by omega)
  go_enter Tryz.func17,Tryz.ntmps17
  go_upto_region 1 with fail
  rw [← HW1.out,← HBB.out]
  have q0:=(HO1.out).cell 0 _ rfl;have q1:=(HO1.out).cell 1 _ rfl;have q2:=(HO1.out).cell 2 _ rfl
  go_wp2_with fail
  exact HNO.out _ HB1.out
 have d1 : decide ((v.im.length : Int) > 6) = false:=decide_eq_false (by omega)
 have d1' : decide (6 < v.im.length) = false:=decide_eq_false (by omega)
 by_cases i2 : v.se.length ≤ 40
 rotate_left
 ·have d2 : decide ((v.se.length : Int) > 40) = true:=decide_eq_true (by omega)
  have d2' : decide (40 < v.se.length) = true:=decide_eq_true (by omega)
  go_enter Tryz.func17,Tryz.ntmps17
  go_upto_region 1 with fail
  rw [← HW1.out,← HBB.out]
  have q0:=(HO1.out).cell 0 _ rfl;have q1:=(HO1.out).cell 1 _ rfl;have q2:=(HO1.out).cell 2 _ rfl
  go_wp2_with fail
  exact HNO.out _ HB1.out
 have d2 : decide ((v.se.length : Int) > 40) = false:=decide_eq_false (by omega)
 have d2' : decide (40 < v.se.length) = false:=decide_eq_false (by omega)
 by_cases i3 : v.inp.length ≤ 40
 rotate_left
 ·have d3 : decide ((v.inp.length : Int) > 40) = true:=decide_eq_true (by omega)
  have d3' : decide (40 < v.inp.length) = true:=decide_eq_true (by omega)
  go_enter Tryz.func17,Tryz.ntmps17
  go_upto_region 1 with fail
  rw [← HW1.out,← HBB.out]
  have q0:=(HO1.out).cell 0 _ rfl;have q1:=(HO1.out).cell 1 _ rfl;have q2:=(HO1.out).cell 2 _ rfl
  go_wp2_with fail
  exact HNO.out _ HB1.out
 have d3 : decide ((v.inp.length : Int) > 40) = false:=decide_eq_false (by omega)
 have d3' : decide (40 < v.inp.length) = false:=decide_eq_false (by omega)
 go_enter Tryz.func17,Tryz.ntmps17
 go_upto_region 1 with fail
 rw [← HW1.out,← HBB.out]
 have q0:=(HO1.out).cell 0 _ rfl;have q1:=(HO1.out).cell 1 _ rfl;have q2:=(HO1.out).cell 2 _ rfl
 go_upto_region 4 with fail
 go_loop [3] (fun z=>∃ k : Nat,k ≤ v.im.length ∧ z = .int .i64 k ∧ ∀ j (hj : j < v.im.length),j < k → v.im[j].l.length ≤ 520) (fun z=>v.im.length - (intOf z).toNat)
 case atStart=>exact ⟨0,by omega,rfl,fun j _ h=>by omega⟩
 obtain ⟨k,hk,rfl,hs⟩:=hrel
 have HS:=Lib.hid hs
 clear hs
 by_cases hlt : k < v.im.length
 case pos=>
  obtain ⟨g,o,ha,hc⟩:=HV.out.im_at k hlt
  have c:=hc _ (Below.refl _ _)
  have hrw:=HV.out.row _ (List.getElem_mem hlt)
  obtain ⟨y,hy⟩ : ∃ y,Hid (y = v.im[k]):=⟨_,Lib.hid rfl⟩
  rw [← hy.out] at c hrw
  have e7:=hrw.2.1
  have e8:=hrw.2.2
  unfold maxLen at e8
  have f1 : decide ((k : Int) < (v.im.length : Int)) = true:=decide_eq_true (by omega)
  have f1' : decide (k < v.im.length) = true:=decide_eq_true hlt
  have w1 : IntKind.i64.wrap ((k : Int) + 1) = (k : Int) + 1:=by rw [IntKind.wrap_i64];omega
  rw [ha] at q0
  clear ha hc hrw
  by_cases h5 : y.l.length ≤ 520
  ·have f2 : decide ((y.l.length : Int) > 520) = false:=decide_eq_false (by omega)
   have f2' : decide (520 < y.l.length) = false:=decide_eq_false (by omega)
   have HS2 : Hid (∀ j (hj : j < v.im.length),j < k + 1 → v.im[j].l.length ≤ 520):=fun j hj h=>by
    by_cases e : j = k
    ·subst e;rw [← hy.out];exact h5
    ·exact HS.out j hj (by omega)
   clear h5
   go_wp2_with fail
   go_round
   case rel=>exact ⟨k + 1,by omega,by go_num,HS2.out⟩
   case measure=>simp [intOf];omega
  ·have f2 : decide ((y.l.length : Int) > 520) = true:=decide_eq_true (by omega)
   have f2' : decide (520 < y.l.length) = true:=decide_eq_true (by omega)
   clear h5
   go_wp2_with fail
   exact HNO.out _ HB1.out
 obtain rfl : k = v.im.length:=by omega
 have dq0 : decide ((v.im.length : Int) < (v.im.length : Int)) = false:=decide_eq_false (by omega)
 have HL1:=HS
 clear HS
 go_upto_region 9 with fail
 go_loop [4] (fun z=>∃ k : Nat,k ≤ v.se.length ∧ z = .int .i64 k ∧ ∀ j (hj : j < v.se.length),j < k → v.se[j].2.length ≤ 200) (fun z=>v.se.length - (intOf z).toNat)
 case atStart=>exact ⟨0,by omega,rfl,fun j _ h=>by omega⟩
 obtain ⟨k,hk,rfl,hs⟩:=hrel
 have HS:=Lib.hid hs
 clear hs
 by_cases hlt : k < v.se.length
 case pos=>
  obtain ⟨g,o,ha,hc⟩:=HV.out.se_at k hlt
  have c:=hc _ (Below.refl _ _) 1 _ (by decide) rfl
  obtain ⟨y,hy⟩ : ∃ y,Hid (y = v.se[k].2):=⟨_,Lib.hid rfl⟩
  rw [← hy.out] at c
  have f1 : decide ((k : Int) < (v.se.length : Int)) = true:=decide_eq_true (by omega)
  have f1' : decide (k < v.se.length) = true:=decide_eq_true hlt
  have w1 : IntKind.i64.wrap ((k : Int) + 1) = (k : Int) + 1:=by rw [IntKind.wrap_i64];omega
  rw [ha] at q1
  clear ha hc
  by_cases h5 : y.length ≤ 200
  ·have f2 : decide (((ba y).size : Int) > 200) = false:=decide_eq_false (by rw [ba_size];omega)
   have f2' : decide (200 < (ba y).size) = false:=decide_eq_false (by rw [ba_size];omega)
   have HS2 : Hid (∀ j (hj : j < v.se.length),j < k + 1 → v.se[j].2.length ≤ 200):=fun j hj h=>by
    by_cases e : j = k
    ·subst e;rw [← hy.out];exact h5
    ·exact HS.out j hj (by omega)
   clear h5
   go_wp2_with fail
   go_round
   case rel=>exact ⟨k + 1,by omega,by go_num,HS2.out⟩
   case measure=>simp [intOf];omega
  ·have f2 : decide (((ba y).size : Int) > 200) = true:=decide_eq_true (by rw [ba_size];omega)
   have f2' : decide (200 < (ba y).size) = true:=decide_eq_true (by rw [ba_size];omega)
   clear h5
   go_wp2_with fail
   exact HNO.out _ HB1.out
 obtain rfl : k = v.se.length:=by omega
 have dq1 : decide ((v.se.length : Int) < (v.se.length : Int)) = false:=decide_eq_false (by omega)
 have HL2:=HS
 clear HS
 go_upto_region 14 with fail
 go_loop [5] (fun z=>∃ k : Nat,k ≤ v.inp.length ∧ z = .int .i64 k ∧ ∀ j (hj : j < v.inp.length),j < k → v.inp[j].2.2.2.2.length ≤ 200) (fun z=>v.inp.length - (intOf z).toNat)
 case atStart=>exact ⟨0,by omega,rfl,fun j _ h=>by omega⟩
 obtain ⟨k,hk,rfl,hs⟩:=hrel
 have HS:=Lib.hid hs
 clear hs
 by_cases hlt : k < v.inp.length
 case pos=>
  obtain ⟨g,o,ha,hc⟩:=HV.out.in_at k hlt
  have c:=hc _ (Below.refl _ _) 4 _ (by decide) rfl
  obtain ⟨y,hy⟩ : ∃ y,Hid (y = v.inp[k].2.2.2.2):=⟨_,Lib.hid rfl⟩
  rw [← hy.out] at c
  have f1 : decide ((k : Int) < (v.inp.length : Int)) = true:=decide_eq_true (by omega)
  have f1' : decide (k < v.inp.length) = true:=decide_eq_true hlt
  have w1 : IntKind.i64.wrap ((k : Int) + 1) = (k : Int) + 1:=by rw [IntKind.wrap_i64];omega
  rw [ha] at q2
  clear ha hc
  by_cases h5 : y.length ≤ 200
  ·have f2 : decide (((ba y).size : Int) > 200) = false:=decide_eq_false (by rw [ba_size];omega)
   have f2' : decide (200 < (ba y).size) = false:=decide_eq_false (by rw [ba_size];omega)
   have HS2 : Hid (∀ j (hj : j < v.inp.length),j < k + 1 → v.inp[j].2.2.2.2.length ≤ 200):=fun j hj h=>by
    by_cases e : j = k
    ·subst e;rw [← hy.out];exact h5
    ·exact HS.out j hj (by omega)
   clear h5
   go_wp2_with fail
   go_round
   case rel=>exact ⟨k + 1,by omega,by go_num,HS2.out⟩
   case measure=>simp [intOf];omega
  ·have f2 : decide (((ba y).size : Int) > 200) = true:=decide_eq_true (by rw [ba_size];omega)
   have f2' : decide (200 < (ba y).size) = true:=decide_eq_true (by rw [ba_size];omega)
   clear h5
   go_wp2_with fail
   exact HNO.out _ HB1.out
 obtain rfl : k = v.inp.length:=by omega
 have dq2 : decide ((v.inp.length : Int) < (v.inp.length : Int)) = false:=decide_eq_false (by omega)
 have HFIN : Hid (Lt (scOf v)):=⟨by simpa [scOf] using i1,i2,i3,fun x hx=>by
   obtain ⟨y,hy,rfl⟩:=List.mem_map.1 hx
   obtain ⟨j,hj,rfl⟩:=List.mem_iff_getElem.1 hy
   exact HL1.out j hj hj,fun x hx=>by
   obtain ⟨j,hj,rfl⟩:=List.mem_iff_getElem.1 hx
   exact HL2.out j hj hj,fun x hx=>by
   obtain ⟨j,hj,rfl⟩:=List.mem_iff_getElem.1 hx
   exact HS.out j hj hj⟩
 go_wp2_with fail
 exact HYE.out HFIN.out _ HB1.out
theorem sprints_walk (c : Cv) (v : Sv) (w : World) (hc : CfgOk w c) (hv : ScOk w v) (hwd : ∀ l ∈ (scOf v).im,∀ x ∈ l,0 ≤ x ∧ x < 4294967296) (hT : WdTab w) (hP : PowIs w) (hI : Isa.Tab w) : Calls Tryz.prog 5 #[.agg #[.int .i64 c.cats,.slice c.g.a c.g.l.length c.g.cap,.slice c.r.a c.r.l.length c.r.cap,.slice c.p.a c.p.l.length c.p.cap,.slice c.n.a c.n.l.length c.n.cap,.slice c.s.a c.s.l.length c.s.cap,.int .i64 c.gate,.int .i64 c.quota],.agg #[.slice v.ia v.im.length v.ic,.slice v.sa v.se.length v.sc,.slice v.na v.inp.length v.nc]] w fun e w'=>e = .returned (.bool true) ∧ Below w.heap.size w w':=by
 have HAW : Hid (∀ W,Below w.heap.size w W → Calls Tryz.prog 7 #[] W fun e w'=>e = .returned (.bool true) ∧ Below W.heap.size W w'):=fun W h=>sawake_any W (hT.below h) (hI.below h)
 obtain ⟨W1,hW1⟩ : ∃ W1,W1 = (w.alloc (.cells #[.int .i64 c.cats,.slice c.g.a c.g.l.length c.g.cap,.slice c.r.a c.r.l.length c.r.cap,.slice c.p.a c.p.l.length c.p.cap,.slice c.n.a c.n.l.length c.n.cap,.slice c.s.a c.s.l.length c.s.cap,.int .i64 c.gate,.int .i64 c.quota] 29)).alloc (.cells #[.slice v.ia v.im.length v.ic,.slice v.sa v.se.length v.sc,.slice v.na v.inp.length v.nc] 34):=⟨_,rfl⟩
 have HX1 : Hid (CS w W1 w.heap.size c v):=by rw [hW1];exact cs_new w c v hc hv
 have HW1:=Lib.hid hW1
 obtain ⟨T,hT0⟩ : ∃ T,Hid (T = (prS (pcOf c) (scOf v)).1):=⟨_,Lib.hid rfl⟩
 obtain ⟨er,her⟩ : ∃ e,Hid (e = (prS (pcOf c) (scOf v)).2):=⟨_,Lib.hid rfl⟩
 have HP1 : Hid (Lt (scOf v) → ∀ W,Below w.heap.size w W → CfgOk W c → ScOk W v → Calls Tryz.prog 18 #[.agg #[.int .i64 c.cats,.slice c.g.a c.g.l.length c.g.cap,.slice c.r.a c.r.l.length c.r.cap,.slice c.p.a c.p.l.length c.p.cap,.slice c.n.a c.n.l.length c.n.cap,.slice c.s.a c.s.l.length c.s.cap,.int .i64 c.gate,.int .i64 c.quota],.agg #[.slice v.ia v.im.length v.ic,.slice v.sa v.se.length v.sc,.slice v.na v.inp.length v.nc]] W fun e w'=>e = .returned (.tuple #[.string (ba T),.int .i64 er]) ∧ Below W.heap.size W w'):=fun hl W hb h1 h2=>by
  rw [hT0.out,her.out];exact sprint_any c v W h1 h2 (hl.mild hwd) (prT_le h1) (hP.below hb) (hI.below hb)
 have HP2 : Hid (Lt (scOf v) → ∀ W,Below w.heap.size w W → CfgOk W c → ScOk W v → Calls Tryz.prog 19 #[.agg #[.int .i64 c.cats,.slice c.g.a c.g.l.length c.g.cap,.slice c.r.a c.r.l.length c.r.cap,.slice c.p.a c.p.l.length c.p.cap,.slice c.n.a c.n.l.length c.n.cap,.slice c.s.a c.s.l.length c.s.cap,.int .i64 c.gate,.int .i64 c.quota],.agg #[.slice v.ia v.im.length v.ic,.slice v.sa v.se.length v.sc,.slice v.na v.inp.length v.nc]] W fun e w'=>e = .returned (.tuple #[.string (ba T),.int .i64 er]) ∧ Below W.heap.size W w'):=fun hl W hb h1 h2=>by
  rw [hT0.out,her.out];exact srprint_any c v W h1 h2 (hl.mild hwd) hl (prT_le h1)
 have HFW:=Lib.hid (few_any c W1 HX1.out.cok)
 have HBP : Hid (∀ W e w',BPost W e w' → ∃ b : Bool,e = .returned (.bool b) ∧ Below W.heap.size W w'):=fun W e w' h=>h
 have HLG : Hid (∀ W,Below W1.heap.size W1 W → Calls Tryz.prog 17 #[.agg #[.slice v.ia v.im.length v.ic,.slice v.sa v.se.length v.sc,.slice v.na v.inp.length v.nc]] W (LgPost v W)):=fun W hb=>light_any v W (HX1.out.vok.below hb)
 have HLP : Hid (∀ W e w',LgPost v W e w' → ∃ b : Bool,e = .returned (.bool b) ∧ Below W.heap.size W w' ∧ (b = true → Lt (scOf v))):=fun W e w' h=>h
 have ee : (er == er) = true:=by simp
 have tt:=ba_refl T
 generalize ba T = S at *
 clear hT0 her hc hv hwd hT hP hI hW1
 go_enter Tryz.func5,Tryz.ntmps5
 go_upto_region 1 with fail
 rw [← HW1.out]
 have p0:=(HX1.out.oc).cell 0 _ rfl;have p1:=(HX1.out.oc).cell 1 _ rfl;have p2:=(HX1.out.oc).cell 2 _ rfl;have p3:=(HX1.out.oc).cell 3 _ rfl;have p4:=(HX1.out.oc).cell 4 _ rfl;have p5:=(HX1.out.oc).cell 5 _ rfl;have p6:=(HX1.out.oc).cell 6 _ rfl;have p7:=(HX1.out.oc).cell 7 _ rfl
 go_wp2_with fail
 refine HFW.out.mono ?_;intro e W2 h2
 obtain ⟨b,rfl,hb2⟩:=HBP.out _ _ _ h2
 have HX2:=Lib.hid (HX1.out.more hb2)
 have HB2:=Lib.hid hb2
 clear h2 hb2 p0 p1 p2 p3 p4 p5 p6 p7 HFW
 cases b
 ·go_wp2_with (go_at_call 7;refine (HAW.out _ HX2.out.bel).mono ?_;rintro e W4 ⟨rfl,hb⟩;have HB4:=Lib.hid (bmore HX2.out.bel hb);clear hb)
  go_ret
  exact ⟨rfl,HB4.out⟩
 ·have q0:=(HX2.out.os).cell 0 _ rfl;have q1:=(HX2.out.os).cell 1 _ rfl;have q2:=(HX2.out.os).cell 2 _ rfl
  go_wp2_with fail
  refine (HLG.out _ HB2.out).mono ?_;intro e W3 h3
  obtain ⟨b,rfl,hb3,hl3⟩:=HLP.out _ _ _ h3
  have HX3:=Lib.hid (HX2.out.more hb3)
  have HLT:=Lib.hid hl3
  clear h3 hb3 hl3 q0 q1 q2
  cases b
  ·go_wp2_with (go_at_call 7;refine (HAW.out _ HX3.out.bel).mono ?_;rintro e W4 ⟨rfl,hb⟩;have HB4:=Lib.hid (bmore HX3.out.bel hb);clear hb)
   go_ret
   exact ⟨rfl,HB4.out⟩
  ·have HL:=Lib.hid (HLT.out rfl)
   clear HLT
   have p0:=(HX3.out.oc).cell 0 _ rfl;have p1:=(HX3.out.oc).cell 1 _ rfl;have p2:=(HX3.out.oc).cell 2 _ rfl;have p3:=(HX3.out.oc).cell 3 _ rfl;have p4:=(HX3.out.oc).cell 4 _ rfl;have p5:=(HX3.out.oc).cell 5 _ rfl;have p6:=(HX3.out.oc).cell 6 _ rfl;have p7:=(HX3.out.oc).cell 7 _ rfl
   have q0:=(HX3.out.os).cell 0 _ rfl;have q1:=(HX3.out.os).cell 1 _ rfl;have q2:=(HX3.out.os).cell 2 _ rfl
   go_upto_region 4 with (go_at_call 18;refine (HP1.out HL.out _ HX3.out.bel HX3.out.cok HX3.out.vok).mono ?_;rintro e W4 ⟨rfl,hb⟩;have HX4:=Lib.hid (HX3.out.more hb);clear hb)
   clear p0 p1 p2 p3 p4 p5 p6 p7 q0 q1 q2
   have p0:=(HX4.out.oc).cell 0 _ rfl;have p1:=(HX4.out.oc).cell 1 _ rfl;have p2:=(HX4.out.oc).cell 2 _ rfl;have p3:=(HX4.out.oc).cell 3 _ rfl;have p4:=(HX4.out.oc).cell 4 _ rfl;have p5:=(HX4.out.oc).cell 5 _ rfl;have p6:=(HX4.out.oc).cell 6 _ rfl;have p7:=(HX4.out.oc).cell 7 _ rfl
   have q0:=(HX4.out.os).cell 0 _ rfl;have q1:=(HX4.out.os).cell 1 _ rfl;have q2:=(HX4.out.os).cell 2 _ rfl
   go_wp2_with (first | (go_at_call 19;refine (HP2.out HL.out _ HX4.out.bel HX4.out.cok HX4.out.vok).mono ?_;rintro e W5 ⟨rfl,hb⟩;have HB5:=Lib.hid (bmore HX4.out.bel hb);clear hb) | (go_at_call 7;refine (HAW.out _ HB5.out).mono ?_;rintro e W6 ⟨rfl,hb⟩;have HB6:=Lib.hid (bmore HB5.out hb);clear hb))
   go_ret
   exact ⟨rfl,HB6.out⟩
end Go.Proofs.YtoklonmiejdgmaaGreatDoor.Sp
/- Chapter 4: an argument that is a configuration. -/
namespace Go.Proofs.YtoklonmiejdgmaaGreatDoor
set_option linter.unusedVariables false
set_option linter.unusedSimpArgs false
set_option linter.unnecessarySimpa false
open Go.ChangeShapes Go.WideShapes Go.ChangeAt Go.RowKit
set_option maxRecDepth 100000
set_option linter.unusedVariables false
theorem open_rowsI {H : Type} {enc : TypeId × Value → H} {W : World} {t e : TypeId} {n N : Nat} (ht : Tryz.prog.underlying t = some (.slice e)) (hok : flatOk Tryz.prog n e = true) (hC : Tryz.prog.cellsOf e = N) (hN : 0 < N) (hlv : leaves Tryz.prog n e = List.replicate N 3) {u : Value} {y : DataW H × List MemPlace} {m : Nat}
  (h : DataW.trod enc Tryz.prog W 0 (fun _=>true) true m t [u] = some y) : ∃ s : Sl,u = .slice s.a s.l.length s.cap ∧ SlOk W N s:=by
 have hu : ∃ a len cap,u = .slice a len cap:=by
  rcases Go.Deep.open_slice ht h with ⟨hcs,_⟩ | ⟨ad,len',cap',m,k,D,Pl,hcs,_⟩
  ·simp at hcs;exact ⟨_,_,_,hcs⟩
  ·simp at hcs;exact ⟨_,_,_,hcs⟩
 obtain ⟨a,len,cap,rfl⟩:=hu
 have h' : DataW.Trod enc Tryz.prog W 0 (fun _=>true) true t (.slice a len cap) y.1 y.2:=⟨m,by simpa [Value.cells] using h⟩
 obtain ⟨a',cap',l,he,hle,hcm,hrd,hl⟩:=open_rowN0 ht hok hC hN hlv Tryz.underlying3 ⟨_,_,_,rfl⟩ h'
 injection he with h1 h2 h3
 subst h1 h2 h3
 exact ⟨⟨a,cap,l⟩,rfl,hrd,hle,hcm,hl⟩
theorem open_cfg {H : Type} {enc : TypeId × Value → H} {W : World} {base : Nat} {v : Value} {d : DataW H} {p : List MemPlace} (hv : Value.okWide Tryz.prog W .any base 29 v) (h : DataW.Trod enc Tryz.prog W 0 (fun _=>true) true 29 v d p) :
  ∃ c : Cv,v = (.agg #[.int .i64 c.cats,.slice c.g.a c.g.l.length c.g.cap,.slice c.r.a c.r.l.length c.r.cap,.slice c.p.a c.p.l.length c.p.cap,.slice c.n.a c.n.l.length c.n.cap,.slice c.s.a c.s.l.length c.s.cap,.int .i64 c.gate,.int .i64 c.quota]) ∧ CfgOk W c:=by
 obtain ⟨cs,rfl,sz⟩:=okWide_struct Tryz.underlying29 hv
 rw [show Tryz.prog.cellsOf 29 = 8 from by kernel_rfl] at sz
 obtain ⟨fuel,hf⟩:=h
 have key:=fun j lt hj=>trod_leaves (P:=Tryz.prog) 1 (by kernel_rfl) hf j lt hj
 obtain ⟨u0,y0,m0,g0,t0⟩:=key 0 3 (by kernel_rfl)
 obtain ⟨u1,y1,m1,g1,t1⟩:=key 1 23 (by kernel_rfl)
 obtain ⟨u2,y2,m2,g2,t2⟩:=key 2 24 (by kernel_rfl)
 obtain ⟨u3,y3,m3,g3,t3⟩:=key 3 25 (by kernel_rfl)
 obtain ⟨u4,y4,m4,g4,t4⟩:=key 4 26 (by kernel_rfl)
 obtain ⟨u5,y5,m5,g5,t5⟩:=key 5 27 (by kernel_rfl)
 obtain ⟨u6,y6,m6,g6,t6⟩:=key 6 3 (by kernel_rfl)
 obtain ⟨u7,y7,m7,g7,t7⟩:=key 7 3 (by kernel_rfl)
 obtain ⟨z0,e0,_,_⟩:=DataW.trod_int Tryz.underlying3 t0
 obtain ⟨z6,e6,_,hw6⟩:=DataW.trod_int Tryz.underlying3 t6
 obtain ⟨z7,e7,_,_⟩:=DataW.trod_int Tryz.underlying3 t7
 simp only [List.cons.injEq,and_true] at e0 e6 e7
 subst e0 e6 e7
 obtain ⟨s1,rfl,o1⟩:=open_rowsI (n:=1) (N:=3) Tryz.underlying23 (by kernel_rfl) (by kernel_rfl) (by omega) (by kernel_rfl) t1
 obtain ⟨s2,rfl,o2⟩:=open_rowsI (n:=1) (N:=3) Tryz.underlying24 (by kernel_rfl) (by kernel_rfl) (by omega) (by kernel_rfl) t2
 obtain ⟨s3,rfl,o3⟩:=open_rowsI (n:=1) (N:=2) Tryz.underlying25 (by kernel_rfl) (by kernel_rfl) (by omega) (by kernel_rfl) t3
 obtain ⟨s4,rfl,o4⟩:=open_rowsI (n:=1) (N:=2) Tryz.underlying26 (by kernel_rfl) (by kernel_rfl) (by omega) (by kernel_rfl) t4
 obtain ⟨s5,rfl,o5⟩:=open_rowsI (n:=1) (N:=2) Tryz.underlying27 (by kernel_rfl) (by kernel_rfl) (by omega) (by kernel_rfl) t5
 refine ⟨⟨z0,s1,s2,s3,s4,s5,z6,z7⟩,?_,⟨o1,o2,o3,o4,o5⟩⟩
 simp only [Value.cells] at g0 g1 g2 g3 g4 g5 g6 g7
 obtain ⟨l⟩:=cs
 simp only at sz g0 g1 g2 g3 g4 g5 g6 g7
 congr 2
 match l,sz with
 | [a,b,c,d,e,f,g,h],_=>
  simp at g0 g1 g2 g3 g4 g5 g6 g7
  subst g0 g1 g2 g3 g4 g5 g6 g7
  rfl
end Go.Proofs.YtoklonmiejdgmaaGreatDoor
/- What the bound of the second form gives. -/
namespace Go.Proofs.YtoklonmiejdgmaaGreatDoor
set_option linter.unusedVariables false
set_option linter.unusedSimpArgs false
set_option linter.unnecessarySimpa false
theorem bulk_part {H : Type} {d : DataW H} {l : List (DataW H)} (h : d ∈ l) : Rows.uptoBulk d ≤ Rows.uptoBulkAll l:=by
 induction l with
 | nil=>cases h
 | cons x r ih=>
  simp only [Rows.uptoBulkAll]
  cases List.mem_cons.1 h with
  | inl e=>subst e;omega
  | inr e=>have:=ih e;omega
end Go.Proofs.YtoklonmiejdgmaaGreatDoor
