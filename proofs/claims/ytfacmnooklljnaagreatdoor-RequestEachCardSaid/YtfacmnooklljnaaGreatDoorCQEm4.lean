/- Texts of this claim, one behind the other: Dr4, Dr5, Dr6, G2, G3, Dt, Du, G4, G5, G6, G7, G8, GA, GB, GL, GC, GD, GE, GF, GG, GH, GM, GJ, GK, GN, GO, GP, GQ, GR, GS, Rs, GT, Rt, GU, G9, Ia, GV, GW, GX, GY, GZ, LGH. -/
import Derived.Test.YtfacmnooklljnaaGreatDoorCQEm3
import Derived.Test.YtfacmnooklljnaaGreatDoorCQEm1
import Derived.Lib.Walk
import Derived.Lib.ItoaMem
import Derived.Sort.Grow
import Derived.BigCall
import Derived.Test.YtfacmnooklljnaaGreatDoorCQEm2
import Derived.Deep.QuietTactic
import Derived.BigQuiet
import Derived.RangeFuncRecord
import Derived.Lib.Repeat
import Derived.Lib.Case
import Derived.Lib.AppendStr
import Derived.Lib.Bits
import Derived.Lib.DecodeN
import Derived.Laws.RangeString
import Derived.Laws.Runes
import Derived.Scope
import Derived.Laws.AppendOwnNone
import Derived.Laws.OwnMore
import Derived.IntWalk
import Derived.OwnWalkIn
import Derived.TacticsInMore
import Derived.LoopNIn
import Derived.LoopIn
import Derived.RecoverIn
import Derived.RangeFuncLeaves
import Derived.SizedLaws
import Derived.SliceStrings
import Derived.Lib.SmallJoins
import Derived.WideShapes
set_option linter.unusedVariables false
set_option linter.unusedSimpArgs false
namespace Go.Proofs.YtfacmnooklljnaaGreatDoor
open Go.RowKit
set_option maxHeartbeats 1000000
theorem bases_1 (w : World) : (Instr.index 185 (.agg #[.int .i64 10,.int .i64 16]) (.int .i64 1)).run Tryz.prog w = .ok (.int .i64 16) w:=by kernel_rfl
theorem dec_bases (w : World) :
  Calls Tryz.prog 149 #[] w fun e w' => e = .returned (.agg #[.int .i64 10,.int .i64 16]) ∧ Below w.heap.size w w':=by
 go_enter Tryz.func149,Tryz.ntmps149
 go_wp2
 refine bodyPost_ret (v:=.agg #[.int .i64 10,.int .i64 16]) (by simp [results,Tryz.results149,go_sem]) rfl ⟨rfl,(Below.refl _ _).alloc (Nat.le_refl _) _⟩
set_option maxRecDepth 100000 in
theorem dec_hexDigits (s : ByteArray) (w : World) (hs : s.size ≤ 1000000) :
  Calls Tryz.prog 121 #[.string s] w fun e w' => e = .returned (.tuple #[.int .u64 (Dp.numN 16 s.data.toList),.int .i64 (Dp.numE 16 s.data.toList)]) ∧ Below w.heap.size w w':=by
 have i0:=bases_1
 go_enter Tryz.func121,Tryz.ntmps121
 go_wp2_with fail
 refine (dec_bases _).mono ?_
 rintro e w1 ⟨rfl,hb⟩
 go_wp2_with fail
 refine (number_any 16 (.inr rfl) s _ hs).mono ?_
 clear hs
 rintro e w2 ⟨rfl,hb2⟩
 go_wp2
 go_ret2
 exact ⟨rfl,hb.trans (hb2.mono hb.size)⟩
theorem ref_digit (c : Int) (w : World) (h0 : 0 ≤ c) (h1 : c < 256) :
  Calls Tryz.prog 101 #[.int .u8 c] w fun e w' => e = .returned (.int .u64 (Dp.digV c)) ∧ w = w':=by
 go_enter Tryz.func101,Tryz.ntmps101
 go_wp2
 all_goals go_ret
 all_goals refine ⟨ret_int ?_,rfl⟩
 all_goals (unfold Dp.digV; (try simp only [IntKind.wrap_u8,IntKind.wrap_u64]); repeat' split)
 all_goals omega
end Go.Proofs.YtfacmnooklljnaaGreatDoor
namespace Go.Proofs.YtfacmnooklljnaaGreatDoor
open Go.RowKit
set_option maxHeartbeats 1000000
end Go.Proofs.YtfacmnooklljnaaGreatDoor
namespace Go.Proofs.YtfacmnooklljnaaGreatDoor
open Go.RowKit
open Go.Sort (Holds putRow mapBlock cell?_putRow)
set_option maxHeartbeats 1000000
theorem below_drewN {B : Nat} {a w : World} (h : Below B a w) (n : Nat) : Below B a (w.drewN n):=⟨h.os,h.tape,h.output,h.size,h.block⟩
end Go.Proofs.YtfacmnooklljnaaGreatDoor
namespace Go.Proofs.YtfacmnooklljnaaGreatDoor
open Go.RowKit
set_option maxHeartbeats 1000000
def RD (w : World) (b : Nat) (s : ByteArray) (p : Bool) : Prop:=w.heap[b]? = some (.cells #[.string s,.bool p] 131 (0,0))
theorem RD.c0 {w : World} {b : Nat} {s : ByteArray} {p : Bool} (h : RD w b s p) : w.cell? ⟨b,0,none⟩ = some (.string s):=by simp [World.cell?,show w.heap[b]? = _ from h]
theorem RD.c1 {w : World} {b : Nat} {s : ByteArray} {p : Bool} (h : RD w b s p) : w.cell? ⟨b,1,none⟩ = some (.bool p):=by simp [World.cell?,show w.heap[b]? = _ from h]
theorem RD.below {w w' : World} {B b : Nat} {s : ByteArray} {p : Bool} (h : RD w b s p) (k : Below B w w') (hb : b < B) : RD w' b s p:=(k.block b hb).trans h
theorem tg_rest (b : Nat) (s : ByteArray) (p : Bool) (k : Nat) (w : World) (h : RD w b s p) (hk : k ≤ s.size) (hs : s.size ≤ 1000000) :
  Calls Tryz.prog 120 #[.pointer (some ⟨b,0,none⟩),.int .i64 k] w fun e w' => e = .returned (.string (s.extract k s.size)) ∧ Below w.heap.size w w':=by
 have h0:=h.c0
 have hk1 : (k : Int) ≤ (s.size : Int):=by omega
 have hm : min (k : Int) (s.size : Int) = (k : Int):=by omega
 go_enter Tryz.func120,Tryz.ntmps120
 go_wp2_with fail
 go_quiet (fail)
 go_wp2
 go_ret
 exact ⟨rfl,below_drewN (Below.refl _ _) _⟩
theorem new_block (w : World) (o : Obj) : (w.alloc o).heap[w.heap.size]? = some o:=World.alloc_heap_new w o
theorem BD.keep {w w' : World} {b base : Nat} {p : Value} {bs : List Value} (h : BD w b base p bs) (k : Below w.heap.size w w') (hb : b < w.heap.size) : BD w' b base p bs:=by
 obtain ⟨v,hv,hown⟩:=h
 refine ⟨v,(k.block b hb).trans hv,hown.1,hown.2.imp id ?_⟩
 rintro ⟨g,cap,cur,h1,h2,h3,h4⟩
 refine ⟨g,cap,cur,h1,h2,(k.block g ?_).trans h3,h4⟩
 rcases Nat.lt_or_ge g w.heap.size with h' | h'
 ·exact h'
 ·rw [Array.getElem?_eq_none h'] at h3; simp at h3
def decEnd (o : Option (List UInt8)) : Ending:=match o with
 | some l => .returned (.string ⟨l.toArray⟩)
 | none => .panicked [{ v:=errno 210,recovered:=false }]
theorem ext_drop (s : ByteArray) (i : Nat) : (s.extract i s.size).data.toList = s.data.toList.drop i:=by
 rw [ByteArray.data_extract,Array.toList_extract,List.extract_eq_take_drop]
 exact List.take_of_length_le (by simp)
theorem ext_take (s : ByteArray) (i : Nat) : (s.extract 0 i).data.toList = s.data.toList.take i:=by
 rw [ByteArray.data_extract,Array.toList_extract,List.extract_eq_take_drop]; rfl
theorem bytes_put (acc : List UInt8) (c : UInt8) : Lib.byteCells (acc ++ [c]) = Lib.byteCells acc ++ [.int .u8 (c.toNat : Int)]:=by unfold Lib.byteCells; rw [List.map_append]; rfl
set_option maxRecDepth 100000 in
theorem tg_decoded (b : Nat) (s : ByteArray) (pl : Bool) (w : World) (h : RD w b s pl) (hs : s.size ≤ 1000000) :
  Calls Tryz.prog 92 #[.pointer (some ⟨b,0,none⟩)] w fun e w' => e = decEnd (Gt.dec pl s.data.toList) ∧ Below w.heap.size w w':=by
 have HR:=Lib.hid h
 have hb : b < w.heap.size:=by
  rcases Nat.lt_or_ge b w.heap.size with h' | h'
  ·exact h'
  ·rw [RD,Array.getElem?_eq_none h'] at h; simp at h
 clear h
 have HL:=Lib.hid (show s.data.toList.length = s.size from rfl)
 have HRA:=Lib.hid (HR.out.below ((Below.refl w.heap.size w).alloc (Nat.le_refl _) (.cells #[.pointer none,.slice none 0 0] 156)) hb)
 go_enter Tryz.func92,Tryz.ntmps92
 go_wp2_with fail
 go_loopw [4] (fun i wr => ∃ (k : Nat) (acc : List UInt8) (p : Value),k ≤ s.size ∧ i = .int .i64 k ∧ Gt.DAt pl s.data.toList acc k ∧ RD wr b s pl ∧ BD wr w.heap.size (w.heap.size + 1) p (Lib.byteCells acc) ∧ (p = .pointer none ∨ p = .pointer (some ⟨w.heap.size,0,none⟩)) ∧ Below w.heap.size w wr ∧ w.heap.size + 1 ≤ wr.heap.size)
  (fun i _ => s.size - (intOf i).toNat)
 case atStart => exact ⟨0,[],.pointer none,Nat.zero_le _,rfl,Gt.dAt_start _ _,HRA.out,⟨_,new_block _ _,World.ownsRow_nil _ _ _ _⟩,.inl rfl,(Below.refl _ _).alloc (Nat.le_refl _) _,by simp⟩
 case round =>
  obtain ⟨k,acc,p,hk,rfl,hd,hrd,hbd,hp,hbl,hsz⟩:=hrel
  have HD:=Lib.hid hd
  have HRD:=Lib.hid hrd
  have HBD:=Lib.hid hbd
  have HP:=Lib.hid hp
  have HBL:=Lib.hid hbl
  have HSZ:=Lib.hid hsz
  have c0:=hrd.c0
  have c1:=hrd.c1
  clear hd hrd hbd hp hbl hsz
  by_cases hlt : k < s.size
  ·obtain ⟨c,hcc⟩ : ∃ c,s.data.toList[k]'(by simpa using hlt) = c:=⟨_,rfl⟩
   have HC:=Lib.hid hcc
   obtain ⟨x,hx⟩ : ∃ x : Int,(c.toNat : Int) = x:=⟨_,rfl⟩
   have hsx : ((s[k]'hlt).toNat : Int) = x:=by rw [← hx,← hcc]; rfl
   have HX:=Lib.hid hx
   have hr1 : (0 : Int) ≤ x:=by omega
   have hr2 : x < 256:=by have:=c.toNat_lt; omega
   clear hx hcc
   by_cases h37 : x = 37
   ·have HC37:=Lib.hid (show c = 37 from UInt8.toNat_inj.1 (by have:=HX.out; show c.toNat = 37; omega))
    subst h37
    have K1:=Lib.hid (show Calls Tryz.prog 120 #[.pointer (some ⟨b,0,none⟩),.int .i64 ((k : Int) + 1)] wr fun e w' => e = .returned (.string (s.extract (k + 1) s.size)) ∧ Below wr.heap.size wr w' from tg_rest b s pl (k + 1) wr HRD.out (by omega) hs)
    go_wp2_with fail
    refine K1.out.mono ?_
    rintro e w2 ⟨rfl,hb2⟩
    have HB2:=Lib.hid hb2
    obtain ⟨r,hr⟩ : ∃ r,s.extract (k + 1) s.size = r:=⟨_,rfl⟩
    have HRZ:=Lib.hid (show r.size = s.size - (k + 1) by rw [← hr]; simp)
    have HRL:=Lib.hid (show r.data.toList = s.data.toList.drop (k + 1) by rw [← hr]; exact ext_drop s (k + 1))
    rw [hr]
    clear hr hb2 K1
    by_cases h2 : 2 ≤ r.size
    ·have h2i : (2 : Int) ≤ (r.size : Int):=by omega
     have H3:=Lib.hid (show k + 2 < s.data.toList.length by rw [HL.out]; have:=HRZ.out; omega)
     obtain ⟨a,ha⟩ : ∃ a,s.data.toList[k + 1]'(by have:=H3.out; omega) = a:=⟨_,rfl⟩
     obtain ⟨d,hd⟩ : ∃ d,s.data.toList[k + 2]'H3.out = d:=⟨_,rfl⟩
     have HA:=Lib.hid ha
     have HDD:=Lib.hid hd
     have HT:=Lib.hid (show (r.extract 0 2).data.toList = [a,d] by
      rw [ext_take,HRL.out,Gt.drop1 _ _ (by have:=H3.out; omega),Gt.drop1 _ _ (by have:=H3.out; omega)]
      simp [ha,hd])
     clear ha hd
     obtain ⟨r2,hr2'⟩ : ∃ r2,r.extract 0 2 = r2:=⟨_,rfl⟩
     rw [hr2'] at HT
     have K3:=Lib.hid (dec_hexDigits r2 w2 (by rw [← hr2']; simp; omega))
     rw [HT.out] at K3
     obtain ⟨N,hN⟩ : ∃ N,Dp.numN 16 [a,d] = N:=⟨_,rfl⟩
     obtain ⟨E,hE⟩ : ∃ E,Dp.numE 16 [a,d] = E:=⟨_,rfl⟩
     rw [hN,hE] at K3
     have HN:=Lib.hid hN
     have HE:=Lib.hid hE
     clear hN hE
     go_wp2_with fail
     refine (tg_must 210 w2).mono ?_
     rintro e w3 ⟨rfl,hw3⟩
     subst w3
     go_wp2_with fail
     refine K3.out.mono ?_
     rintro e w4 ⟨rfl,hb4⟩
     have HB4:=Lib.hid (HB2.out.trans (hb4.mono HB2.out.size))
     have HSZ4:=Lib.hid (show w.heap.size + 1 ≤ w4.heap.size from Nat.le_trans HSZ.out HB4.out.size)
     clear hb4 K3
     by_cases hv : Gt.hx a < 16 ∧ Gt.hx d < 16
     ·obtain ⟨hE0,hNN⟩:=Gt.num_two hv
      have hEE : E = 0:=by rw [← HE.out]; exact hE0
      have hNT : N = ((Gt.two a d).toNat : Int):=by rw [← HN.out,hNN]; exact (Gt.two_val a d hv).symm
      have hN1 : (0 : Int) ≤ N:=by omega
      have hN2 : N < 256:=by have:=(Gt.two a d).toNat_lt; omega
      have HNT:=Lib.hid hNT
      have HNEXT:=Lib.hid (Gt.dAt_pct HD.out H3.out (HC.out.trans HC37.out) (by rw [HA.out,HDD.out]; exact hv))
      have HBD4:=Lib.hid (show BD w4 w.heap.size (w.heap.size + 1) p (Lib.byteCells acc) from HBD.out.keep HB4.out (by have:=HSZ.out; omega))
      have K5:=Lib.hid (builder_byte w.heap.size (w.heap.size + 1) p (Lib.byteCells acc) N w4 HP.out HBD4.out (by omega) HSZ4.out (by rw [Lib.byteCells_length]; have:=HD.out.2.1; omega))
      subst hEE
      clear hE0 hNN hNT hv
      go_wp2_with fail
      refine (tg_must 210 w4).mono ?_
      rintro e w5 ⟨rfl,hw5⟩
      subst w5
      go_wp2_with fail
      refine K5.out.mono ?_
      rintro e w6 ⟨rfl,hbd6,hfr⟩
      have HBD6:=Lib.hid (show BD w6 w.heap.size (w.heap.size + 1) (.pointer (some ⟨w.heap.size,0,none⟩)) (Lib.byteCells (acc ++ [Gt.two a d])) by rw [bytes_put,← HNT.out]; exact hbd6)
      have HBL6:=Lib.hid ((HBL.out.trans (HB4.out.mono HBL.out.size)).trans (hfr.below (Nat.le_refl _) (by omega)))
      have HRD6:=Lib.hid (show RD w6 b s pl from HR.out.below HBL6.out hb)
      have HSZ6:=Lib.hid (Nat.le_trans HSZ4.out hfr.size)
      clear hbd6 hfr K5
      go_wp2
      go_roundw
      case rel => exact ⟨k + 3,acc ++ [Gt.two a d],_,by have:=H3.out; rw [HL.out] at this; omega,by go_num,by have:=HNEXT.out; simp only [HA.out,HDD.out] at this; exact this,HRD6.out,HBD6.out,.inr rfl,HBL6.out,HSZ6.out⟩
      case measure => simp [intOf]; omega
     ·have hEE : E = 110:=by rw [← HE.out]; exact Gt.num_two_no hv
      have HNO:=Lib.hid (Gt.dAt_bad HD.out H3.out (HC.out.trans HC37.out) (by rw [HA.out,HDD.out]; exact hv))
      subst hEE
      clear hv
      go_wp2_with fail
      refine (tg_must_no 210 w4).mono ?_
      rintro e w5 ⟨rfl,hw5⟩
      subst w5
      exact ⟨rfl,by rw [HNO.out]; rfl,HBL.out.trans (HB4.out.mono HBL.out.size)⟩
    ·have h2i : ¬ (2 : Int) ≤ (r.size : Int):=by omega
     have hdf : decide ((2 : Int) ≤ (r.size : Int)) = false:=decide_eq_false h2i
     have HNO:=Lib.hid (Gt.dAt_short HD.out (by rw [HL.out]; exact hlt) (HC.out.trans HC37.out) (by rw [HL.out]; have:=HRZ.out; omega))
     go_wp2_with fail
     refine (tg_must_no 210 w2).mono ?_
     rintro e w3 ⟨rfl,hw3⟩
     subst w3
     exact ⟨rfl,by rw [HNO.out]; rfl,HBL.out.trans (HB2.out.mono HBL.out.size)⟩
   ·have e37 : (x == 37) = false:=beq_eq_false_iff_ne.2 h37
    have HC37:=Lib.hid (show c ≠ 37 from fun e => h37 (by rw [← HX.out,e]; rfl))
    have HNEXT0:=Lib.hid (Gt.dAt_one HD.out (by rw [HL.out]; exact hlt) (by rw [HC.out]; exact HC37.out))
    rw [HC.out] at HNEXT0
    clear h37
    have HK:=Lib.hid (fun (y : Int) => builder_byte w.heap.size (w.heap.size + 1) p (Lib.byteCells acc) y wr HP.out HBD.out (by omega) HSZ.out (by rw [Lib.byteCells_length]; have:=HD.out.2.1; omega))
    by_cases h43 : x = 43
    ·have HC43:=Lib.hid (show c = 43 from UInt8.toNat_inj.1 (by have:=HX.out; show c.toNat = 43; omega))
     subst h43
     cases pl
     ·rw [HC43.out,show Gt.bl false 43 = 43 from rfl] at HNEXT0
      go_wp2_with fail
      refine (HK.out 43).mono ?_
      rintro e w6 ⟨rfl,hbd6,hfr⟩
      have HBD6:=Lib.hid (show BD w6 w.heap.size (w.heap.size + 1) (.pointer (some ⟨w.heap.size,0,none⟩)) (Lib.byteCells (acc ++ [43])) by rw [bytes_put]; exact hbd6)
      have HBL6:=Lib.hid (HBL.out.trans (hfr.below (Nat.le_refl _) (by omega)))
      have HRD6:=Lib.hid (show RD w6 b s _ from HR.out.below HBL6.out hb)
      have HSZ6:=Lib.hid (Nat.le_trans HSZ.out hfr.size)
      clear hbd6 hfr HK
      go_wp2
      go_roundw
      case rel => exact ⟨k + 1,acc ++ [43],_,hlt,by go_num,HNEXT0.out,HRD6.out,HBD6.out,.inr rfl,HBL6.out,HSZ6.out⟩
      case measure => simp [intOf]; omega
     ·rw [HC43.out,show Gt.bl true 43 = 32 from rfl] at HNEXT0
      go_wp2_with fail
      refine (HK.out 32).mono ?_
      rintro e w6 ⟨rfl,hbd6,hfr⟩
      have HBD6:=Lib.hid (show BD w6 w.heap.size (w.heap.size + 1) (.pointer (some ⟨w.heap.size,0,none⟩)) (Lib.byteCells (acc ++ [32])) by rw [bytes_put]; exact hbd6)
      have HBL6:=Lib.hid (HBL.out.trans (hfr.below (Nat.le_refl _) (by omega)))
      have HRD6:=Lib.hid (show RD w6 b s _ from HR.out.below HBL6.out hb)
      have HSZ6:=Lib.hid (Nat.le_trans HSZ.out hfr.size)
      clear hbd6 hfr HK
      go_wp2
      go_roundw
      case rel => exact ⟨k + 1,acc ++ [32],_,hlt,by go_num,HNEXT0.out,HRD6.out,HBD6.out,.inr rfl,HBL6.out,HSZ6.out⟩
      case measure => simp [intOf]; omega
    ·have e43 : (x == 43) = false:=beq_eq_false_iff_ne.2 h43
     have HBLC:=Lib.hid (show Gt.bl pl c = c from Gt.bl_plain (fun e => h43 (by rw [← HX.out,e]; rfl)))
     clear h43
     go_wp2_with fail
     refine (HK.out x).mono ?_
     rintro e w6 ⟨rfl,hbd6,hfr⟩
     have HBD6:=Lib.hid (show BD w6 w.heap.size (w.heap.size + 1) (.pointer (some ⟨w.heap.size,0,none⟩)) (Lib.byteCells (acc ++ [Gt.bl pl c])) by rw [bytes_put,HBLC.out,HX.out]; exact hbd6)
     have HBL6:=Lib.hid (HBL.out.trans (hfr.below (Nat.le_refl _) (by omega)))
     have HRD6:=Lib.hid (show RD w6 b s pl from HR.out.below HBL6.out hb)
     have HSZ6:=Lib.hid (Nat.le_trans HSZ.out hfr.size)
     clear hbd6 hfr HK
     go_wp2
     go_roundw
     case rel => exact ⟨k + 1,acc ++ [Gt.bl pl c],_,hlt,by go_num,HNEXT0.out,HRD6.out,HBD6.out,.inr rfl,HBL6.out,HSZ6.out⟩
     case measure => simp [intOf]; omega
  ·have HN:=Lib.hid (Gt.dAt_end HD.out (by rw [HL.out]; omega))
   have K:=Lib.hid (builder_string w.heap.size (w.heap.size + 1) p acc wr HP.out HBD.out (by omega) HSZ.out)
   go_wp2_with fail
   refine K.out.mono ?_
   rintro e w2 ⟨rfl,hb2⟩
   go_wp2
   go_ret
   exact ⟨by rw [HN.out]; rfl,HBL.out.trans hb2⟩
end Go.Proofs.YtfacmnooklljnaaGreatDoor
namespace Go.Proofs.YtfacmnooklljnaaGreatDoor
open Go.RowKit
set_option maxHeartbeats 1000000
set_option maxRecDepth 100000
def decOut (o : Option (List UInt8)) : Value:=match o with
 | some l => .tuple #[.string ⟨l.toArray⟩,.int .i64 0]
 | none => .tuple #[.string ⟨#[]⟩,.int .i64 210]
end Go.Proofs.YtfacmnooklljnaaGreatDoor
namespace Go.Proofs.YtfacmnooklljnaaGreatDoor
namespace Dp
end Dp
end Go.Proofs.YtfacmnooklljnaaGreatDoor
namespace Go.Proofs.YtfacmnooklljnaaGreatDoor
open Go.RowKit
set_option maxHeartbeats 1000000
end Go.Proofs.YtfacmnooklljnaaGreatDoor
namespace Go.Proofs.YtfacmnooklljnaaGreatDoor
open Go.RowKit Go.Shelf
set_option maxHeartbeats 2000000
set_option maxRecDepth 100000
end Go.Proofs.YtfacmnooklljnaaGreatDoor
namespace Go.Proofs.YtfacmnooklljnaaGreatDoor
open Go.RowKit Go.Shelf
set_option maxHeartbeats 2000000
set_option maxRecDepth 100000
theorem get_at (s : ByteArray) (i : Nat) (h : i < s.size) : s.get! i = s[i]'h:=by
 simp [ByteArray.get!,getElem!_pos,h]
 rfl
theorem decodeN_hi (n b0 b1 b2 b3 : Nat) (hn : 1 ≤ n) (h0 : 128 ≤ b0) (h0' : b0 < 256) (h1 : b1 < 256) (h2 : b2 < 256) (h3 : b3 < 256) :
  128 ≤ (Lib.decodeN n b0 b1 b2 b3).1 ∧ (Lib.decodeN n b0 b1 b2 b3).1 ≤ 1114111 ∧ 1 ≤ (Lib.decodeN n b0 b1 b2 b3).2 ∧ (Lib.decodeN n b0 b1 b2 b3).2 ≤ n ∧ (Lib.decodeN n b0 b1 b2 b3).2 ≤ 4 ∧
   (2 ≤ (Lib.decodeN n b0 b1 b2 b3).2 → 128 ≤ b1) ∧ (3 ≤ (Lib.decodeN n b0 b1 b2 b3).2 → 128 ≤ b2) ∧ (4 ≤ (Lib.decodeN n b0 b1 b2 b3).2 → 128 ≤ b3):=by
 unfold Lib.decodeN
 repeat' split
 all_goals (simp only; refine ⟨?_,?_,?_,?_,?_,?_,?_,?_⟩ <;> first | omega | (intro; omega))
theorem decode_hi (s : ByteArray) (i : Nat) (h : i < s.size) (hb : 128 ≤ (s[i]'h).toNat) :
  ∃ r k : Nat,Utf8.decode s i = (r,k) ∧ 128 ≤ r ∧ r ≤ 1114111 ∧ 1 ≤ k ∧ i + k ≤ s.size ∧ ∀ j,i ≤ j → j < i + k → ∀ hj : j < s.size,128 ≤ (s[j]'hj).toNat:=by
 have g0:=get_at s i h
 have hd:=decodeN_hi (s.size - i) (s.get! i).toNat (s.get! (i + 1)).toNat (s.get! (i + 2)).toNat (s.get! (i + 3)).toNat (by omega) (by rw [g0]; exact hb) (UInt8.toNat_lt _) (UInt8.toNat_lt _) (UInt8.toNat_lt _) (UInt8.toNat_lt _)
 rw [← Lib.decode_at] at hd
 refine ⟨(Utf8.decode s i).1,(Utf8.decode s i).2,rfl,hd.1,hd.2.1,hd.2.2.1,by omega,?_⟩
 intro j hj hk hs
 obtain ⟨_,_,_,h4,h5,hb1,hb2,hb3⟩:=hd
 rcases (show j = i ∨ j = i + 1 ∨ j = i + 2 ∨ j = i + 3 by omega) with e | e | e | e <;> subst e
 ·exact hb
 ·have:=hb1 (by omega); rwa [get_at _ _ hs] at this
 ·have:=hb2 (by omega); rwa [get_at _ _ hs] at this
 ·have:=hb3 (by omega); rwa [get_at _ _ hs] at this
theorem encode_hi (r : Int) (h : 128 ≤ r) : 2 ≤ (Utf8.encode r).size ∧ (Utf8.encode r).size ≤ 4 ∧ 128 ≤ ((Utf8.encode r).get! 1).toNat:=by
 unfold Utf8.encode
 have hc : 128 ≤ (if Utf8.valid r then r.toNat else Utf8.runeError):=by
  split
  ·omega
  ·decide
 generalize (if Utf8.valid r then r.toNat else Utf8.runeError) = c at hc
 simp only
 repeat' split
 all_goals first
  | (exfalso; omega)
  | (refine ⟨by simp [ByteArray.size],by simp [ByteArray.size],?_⟩; simp only [ByteArray.get!]; simp; omega)
def setIter (w : World) (b : Nat) (s : ByteArray) (p : Nat) : World:={ w with heap:=w.heap.setIfInBounds b (.stringIter s p) }
theorem setIter_at {w : World} {b : Nat} {s t : ByteArray} {p q : Nat} (h : w.heap[b]? = some (.stringIter t q)) : (setIter w b s p).heap[b]? = some (.stringIter s p):=by
 have hb : b < w.heap.size:=by
  rcases Nat.lt_or_ge b w.heap.size with h' | h'
  ·exact h'
  ·rw [Array.getElem?_eq_none h'] at h; simp at h
 simp [setIter,hb]
theorem setIter_below (w : World) (b B : Nat) (s : ByteArray) (p : Nat) (hB : B ≤ b) : Below B w (setIter w b s p) :=
 ⟨rfl,rfl,rfl,by simp [setIter],fun k hk => by simp only [setIter]; rw [Array.getElem?_setIfInBounds_ne]; omega⟩
theorem next_at (w : World) (b : Nat) (s : ByteArray) (pos : Nat) (ty : TypeId) (hb : w.heap[b]? = some (.stringIter s pos)) (h : pos < s.size) :
  (Instr.next (.pointer (some ⟨b,0,none⟩)) true ty).run Tryz.prog w = .ok (.tuple #[.bool true,.int .i64 pos,.int .i32 (Utf8.decode s pos).1]) (setIter w b s (pos + (Utf8.decode s pos).2)):=by
 simp only [Instr.next,getObj,setObj,Sem.run_bind,Sem.run,hb,Result.andThen,h,if_true]
 simp [goInt,Sem.run,hb,setIter]
theorem next_over (w : World) (b : Nat) (s : ByteArray) (pos : Nat) (ty : TypeId) (hb : w.heap[b]? = some (.stringIter s pos)) (h : ¬ pos < s.size) :
  (Instr.next (.pointer (some ⟨b,0,none⟩)) true ty).run Tryz.prog w = .ok (.tuple #[.bool false]) w:=by
 simp [Instr.next,getObj,Sem.run,hb,h]
def iterPos (w : World) (b : Nat) : Nat:=match w.heap[b]? with
 | some (.stringIter _ p) => p
 | _ => 0
theorem iterPos_is {w : World} {b : Nat} {s : ByteArray} {p : Nat} (h : w.heap[b]? = some (.stringIter s p)) : iterPos w b = p:=by unfold iterPos; rw [h]
theorem ok_decode (s : ByteArray) (k : Nat) (h : k < s.size) : ∃ r n : Nat,Utf8.decode s k = (r,n) ∧ ((Gt.okB (s.data.toList[k]'h) = true ∧ n = 1 ∧ 33 ≤ r ∧ r ≤ 126 ∧ r ≠ 35) ∨ (Gt.okB (s.data.toList[k]'h) = false ∧ ((r < 33 ∨ 126 < r) ∨ r = 35))):=by
 have hc : s.data.toList[k]'h = s[k]'h:=rfl
 rw [hc]
 by_cases ha : (s[k]'h).toNat < 128
 ·refine ⟨_,_,decode_ascii s k h ha,?_⟩
  cases hok : Gt.okB (s[k]'h) with
  | true =>
   left
   unfold Gt.okB at hok
   simp at hok
   refine ⟨rfl,rfl,hok.1.1,hok.1.2,fun e => hok.2 (UInt8.toNat_inj.1 e)⟩
  | false =>
   right
   refine ⟨rfl,?_⟩
   unfold Gt.okB at hok
   simp at hok
   by_cases h1 : 33 ≤ (s[k]'h).toNat
   ·by_cases h2 : (s[k]'h).toNat ≤ 126
    ·right; rw [hok h1 h2]; rfl
    ·left; right; omega
   ·left; left; omega
 ·obtain ⟨r,n,hd,h1,_⟩:=decode_hi s k h (by omega)
  refine ⟨r,n,hd,.inr ⟨?_,.inl (.inr (by omega))⟩⟩
  unfold Gt.okB
  rw [show decide ((s[k]'h).toNat ≤ 126) = false from decide_eq_false (by omega)]
  simp
theorem tg_ask1 (s : ByteArray) (w : World) :
  Calls Tryz.prog 88 #[.string s] w fun e w' => e = .returned (.bool (s.data.toList.head? == some 47)) ∧ w' = w:=by
 go_enter Tryz.func88,Tryz.ntmps88
 go_wp2_with fail
 refine (Tryz.strings_HasPrefix _ _ _).mono ?_
 rintro e w' ⟨rfl,rfl⟩
 go_wp2
 go_ret
 refine ⟨?_,rfl⟩
 show Ending.returned (Value.bool (Lib.hasPrefix s.data.toList [47])) = _
 congr 2
 cases s.data.toList with
 | nil => rfl
 | cons c l =>
  show ((47 == c) && List.isPrefixOf [] l) = (some c == some 47)
  by_cases h : c = 47
  ·subst h; simp
  ·rw [beq_eq_false_iff_ne.2 (Ne.symm h)]; simp [h]
theorem tg_ask2 (s : ByteArray) (w : World) :
  Calls Tryz.prog 90 #[.string s] w fun e w' => e = .returned (.bool (s.data.toList.all Gt.okB)) ∧ Below w.heap.size w w':=by
 have HI:=Lib.hid (fun W => (World.iter_heap W s 0))
 obtain ⟨A,hA⟩ : ∃ A,s.data.toList.all Gt.okB = A:=⟨_,rfl⟩
 rw [hA]
 have HA:=Lib.hid hA
 clear hA
 go_enter Tryz.func90,Tryz.ntmps90
 go_wp2_with fail
 go_loopw [7] (fun _ wr => ∃ k : Nat,k ≤ s.size ∧ wr.heap[w.heap.size]? = some (.stringIter s k) ∧ Below w.heap.size w wr ∧ (s.data.toList.take k).all Gt.okB = true)
  (fun _ wr => s.size - iterPos wr w.heap.size)
 case atStart => exact ⟨0,Nat.zero_le _,HI.out w,(Below.refl _ _).alloc (Nat.le_refl _) _,rfl⟩
 case round =>
  obtain ⟨k,hk,hit,hbl,hal⟩:=hrel
  have HIT:=Lib.hid hit
  have HBL:=Lib.hid hbl
  have HAL:=Lib.hid hal
  by_cases hlt : k < s.size
  ·have hn:=fun ty => next_at wr w.heap.size s k ty hit hlt
   obtain ⟨r,n,hdec,hor⟩:=ok_decode s k hlt
   rw [hdec] at hn
   have HS2:=Lib.hid (setIter_at (s:=s) (p:=k + n) hit)
   have HB2:=Lib.hid (hbl.trans (setIter_below wr w.heap.size w.heap.size s (k + n) (Nat.le_refl _)))
   have HTK:=Lib.hid (show s.data.toList.take (k + 1) = s.data.toList.take k ++ [s.data.toList[k]'hlt] from List.take_succ_eq_append_getElem hlt)
   have HIK:=Lib.hid (iterPos_is hit)
   clear hit hbl hal hdec
   rcases hor with ⟨hok,h1,h2,h3,h4⟩ | ⟨hok,hbad⟩
   ·subst h1
    have e1 : decide ((r : Int) < 33) = false:=decide_eq_false (by omega)
    have e2 : decide (126 < (r : Int)) = false:=decide_eq_false (by omega)
    have e3 : ((r : Int) == 35) = false:=beq_eq_false_iff_ne.2 (by omega)
    have HOK:=Lib.hid hok
    clear h2 h3 h4 hok
    go_wp2_with fail
    go_roundw
    case rel => exact ⟨k + 1,hlt,HS2.out,HB2.out,by rw [HTK.out,List.all_append,HAL.out,List.all_cons,HOK.out]; rfl⟩
    case measure => rw [iterPos_is HS2.out,HIK.out]; omega
   ·have HNO:=Lib.hid (show A = false by
     rw [← HA.out,List.all_eq_false]
     exact ⟨_,List.getElem_mem hlt,by rw [hok]; simp⟩)
    have HBD:=Lib.hid hbad
    clear hok hbad
    go_wp2_with fail
    all_goals first
     | (exfalso; have:=HBD.out; simp only [beq_iff_eq,beq_eq_false_iff_ne,ne_eq,not_or,Bool.not_eq_true] at *; omega)
     | (go_ret; exact ⟨by rw [HNO.out]; rfl,HB2.out⟩)
  ·have hn:=fun ty => next_over wr w.heap.size s k ty hit hlt
   have HALL:=Lib.hid (show A = true by rw [← HA.out]; rw [List.take_of_length_le (by show s.size ≤ k; omega)] at hal; exact hal)
   clear hit hbl hal
   go_wp2
   go_ret
   exact ⟨by rw [HALL.out]; rfl,HBL.out⟩
end Go.Proofs.YtfacmnooklljnaaGreatDoor
namespace Go.Proofs.YtfacmnooklljnaaGreatDoor
open Go.RowKit Go.Shelf
set_option maxHeartbeats 2000000
set_option maxRecDepth 100000
theorem rune_no (S : ByteArray) (hS : S.size = 2) (hS0 : ∀ k (h : k < S.size),(S[k]'h).toNat < 128) (hS1 : (S[1]'(by omega)).toNat = 0) (r : Int) (w : World) (h : 128 ≤ r) (h' : r ≤ 1114111) :
  Calls Tryz.prog 177 #[.string S,.int .i32 r] w fun e w' => e = .returned (.int .i64 (-1)) ∧ Below w.heap.size w w':=by
 have HS0:=Lib.hid hS0
 have HS1:=Lib.hid hS1
 clear hS0 hS1
 have hr1 : decide (r < 128) = false:=decide_eq_false (by omega)
 have hr0 : (0 : Int) ≤ r:=by omega
 have HI:=Lib.hid (fun W (s : ByteArray) => (World.iter_heap W s 0))
 by_cases he : r = 65533
 ·subst he
  clear hr1 hr0 h h'
  go_enter Tryz.func177,Tryz.ntmps177
  go_wp2_with fail
  go_loopw [176] (fun _ wr => ∃ k : Nat,k ≤ 2 ∧ wr.heap[w.heap.size]? = some (.stringIter S k) ∧ Below w.heap.size w wr)
   (fun _ wr => 2 - iterPos wr w.heap.size)
  case atStart => exact ⟨0,Nat.zero_le _,HI.out w _,(Below.refl _ _).alloc (Nat.le_refl _) _⟩
  case round =>
   obtain ⟨k,hk,hit,hbl⟩:=hrel
   have HBL:=Lib.hid hbl
   have HIK:=Lib.hid (iterPos_is hit)
   by_cases hlt : k < 2
   ·have hn:=fun ty => next_at wr w.heap.size S k ty hit (by omega)
    have hd : ∃ x : Nat,Utf8.decode S k = (x,1) ∧ x < 128:=by
     have hlt' : k < S.size:=by omega
     exact ⟨_,decode_ascii S k hlt' (HS0.out k hlt'),HS0.out k hlt'⟩
    obtain ⟨x,hdec,hx⟩:=hd
    rw [hdec] at hn
    have hxe : ((x : Int) == 65533) = false:=beq_eq_false_iff_ne.2 (by omega)
    have HS2:=Lib.hid (setIter_at (s:=S) (p:=k + 1) hit)
    have HB2:=Lib.hid (hbl.trans (setIter_below wr w.heap.size w.heap.size S (k + 1) (Nat.le_refl _)))
    clear hit hbl hdec
    go_wp2_with fail
    go_roundw
    case rel => exact ⟨k + 1,hlt,HS2.out,HB2.out⟩
    case measure => rw [iterPos_is HS2.out,HIK.out]; omega
   ·have hn:=fun ty => next_over wr w.heap.size S k ty hit (by omega)
    clear hit hbl
    go_wp2
    first | go_ret | (rw [onGoto_ret]; go_ret)
    exact ⟨rfl,HBL.out⟩
 ·have he1 : (r == 65533) = false:=beq_eq_false_iff_ne.2 he
  cases hv : Lib.validRune r with
  | false =>
   have K:=Lib.hid (Tryz.utf8_ValidRune r w)
   rw [hv] at K
   clear hv he
   go_enter Tryz.func177,Tryz.ntmps177
   go_wp2_with fail
   refine K.out.mono ?_
   rintro e w2 ⟨rfl,hw2⟩
   subst w2
   go_wp2
   go_ret
   exact ⟨rfl,Below.refl _ _⟩
  | true =>
   have K:=Lib.hid (Tryz.utf8_ValidRune r w)
   rw [hv] at K
   obtain ⟨h2,h4,h8⟩:=encode_hi r h
   obtain ⟨R,hR⟩ : ∃ R,Utf8.encode r = R:=⟨_,rfl⟩
   rw [hR] at h2 h4 h8
   have HR:=Lib.hid hR
   have H8:=Lib.hid h8
   have hcv : ∀ W,(convert 21 9 (.int .i32 r)).run Tryz.prog W = .ok (.string R) W:=fun W => by
    rw [run_convert_int_string W 21 9 .i32 r (by rw [Tryz.underlying21]; rfl) Tryz.underlying9,hR]
   clear hv he h8 hR
   go_enter Tryz.func177,Tryz.ntmps177
   go_wp2_with fail
   refine K.out.mono ?_
   rintro e w2 ⟨rfl,hw2⟩
   subst w2
   go_wp2_with fail
   obtain ⟨n,hn⟩ : ∃ n : Int,(R.size : Int) - 1 = n:=⟨_,rfl⟩
   refine wp_scope_straight ?_
   go_wp2_with fail
   go_loopw [9] (fun i wr => i = .int .i64 n ∧ wr = w)
    (fun _ _ => 0)
   case atStart => exact ⟨rfl,rfl⟩
   case round =>
    obtain ⟨rfl,rfl⟩:=hrel
    by_cases h3 : R.size = 2
    ·have hlt : 1 < R.size:=by omega
     obtain ⟨y,hy⟩ : ∃ y : Int,((R[1]'hlt).toNat : Int) = y:=⟨_,rfl⟩
     have hy1 : 128 ≤ y:=by have:=H8.out; rw [get_at _ _ hlt] at this; omega
     have hy2 : ((0 : Int) == y) = false:=beq_eq_false_iff_ne.2 (by omega)
     have hy3 : ((0 : Int) != y) = true:=by unfold bne; rw [hy2]; rfl
     have K7:=Lib.hid (fun (W : World) => show Calls Tryz.prog 169 #[.string ByteArray.empty,.int .u8 y] W fun e w' => e = .returned (.int .i64 (-1)) ∧ w' = W by
      refine (Tryz.strings_IndexByte _ _ _).mono ?_
      rintro e w' ⟨rfl,rfl⟩
      exact ⟨rfl,rfl⟩)
     have hn1 : n = 1:=by omega
     subst hn1
     have hz : (((S[1]'(by omega)).toNat : Nat) : Int) = 0:=by rw [HS1.out]; rfl
     have hls : (2 : Int) ≤ (S.size : Int):=by omega
     clear h2 h4 HR
     go_wp2_with fail
     refine wp_scope_straight ?_
     go_wp2_with fail
     go_quiet (fail)
     go_wp2_with fail
     have hwr : IntKind.i64.wrap 2 = 2:=by decide
     have HBW:=Lib.hid (show Below wr.heap.size wr (wr.drewN nq) from below_drewN (Below.refl _ _) _)
     obtain ⟨w2,hw2⟩ : ∃ W,wr.drewN nq = W:=⟨_,rfl⟩
     rw [hw2] at HBW ⊢
     clear hw2
     go_quiet ((go_at_call 169; exact Calls.quiet_of_same (K7.out _)))
     go_wp2
     rw [Exit.noGoto_ret]
     have HF:=Lib.hid (HBW.out.trans ((below_drewN (Below.refl w2.heap.size w2) nq).mono HBW.out.size))
     change bodyPost Tryz.prog Tryz.f177 (fun e w' => e = Ending.returned (Value.int IntKind.i64 (-1)) ∧ Below wr.heap.size wr w') Exit.ret _ _
     go_ret
     exact ⟨rfl,HF.out⟩
    ·have h3i : ¬ ((R.size : Int) - 1 < 2):=by omega
     go_wp2_with fail
     go_ret
     exact ⟨rfl,Below.refl _ _⟩
namespace Gt
def badB (c : UInt8) : Bool:=c == 47 || c == 0
theorem ix_bad : ∀ c : Fin 256,decide (0 ≤ Lib.indexByte [47,0] (UInt8.ofNat c.val)) = badB (UInt8.ofNat c.val):=by decide +kernel
theorem ix_bad' (c : UInt8) : decide (0 ≤ Lib.indexByte [47,0] c) = badB c:=by
 have:=ix_bad ⟨c.toNat,c.toNat_lt⟩
 simpa using this
theorem any_take (l : List UInt8) (k n : Nat) (hk : (l.take k).any badB = false) (hn : k + n ≤ l.length) (h : ∀ j,k ≤ j → j < k + n → ∀ hj : j < l.length,128 ≤ (l[j]'hj).toNat) : (l.take (k + n)).any badB = false:=by
 rw [List.any_eq_false] at hk ⊢
 intro x hx
 rw [List.mem_take_iff_getElem] at hx
 obtain ⟨j,hj,rfl⟩:=hx
 by_cases hjk : j < k
 ·exact hk _ (List.mem_take_iff_getElem.2 ⟨j,by omega,rfl⟩)
 ·have:=h j (by omega) (by omega) (by omega)
  unfold badB
  simp only [Bool.or_eq_true,beq_iff_eq,not_or]
  constructor <;> (intro e; rw [e] at this; exact absurd this (by decide))
end Gt
theorem rune_none (r : Int) (w : World) (h : 128 ≤ r) (h' : r ≤ 1114111) :
  Calls Tryz.prog 177 #[.string ⟨#[47,0]⟩,.int .i32 r] w fun e w' => e = .returned (.int .i64 (-1)) ∧ Below w.heap.size w w' :=
 rune_no ⟨#[47,0]⟩ rfl (fun k hk => by
  rcases (show k = 0 ∨ k = 1 by have : k < 2:=hk; omega) with e | e <;> subst e
  ·show (47 : UInt8).toNat < 128; decide
  ·show (0 : UInt8).toNat < 128; decide) rfl r w h h'
end Go.Proofs.YtfacmnooklljnaaGreatDoor
namespace Go.Proofs.YtfacmnooklljnaaGreatDoor
open Go.RowKit Go.Shelf
set_option maxHeartbeats 2000000
set_option maxRecDepth 100000
theorem any_short (s : ByteArray) (w : World) (h8 : s.size ≤ 8) :
  Calls Tryz.prog 152 #[.string s,.string ⟨#[47,0]⟩] w fun e w' => (∃ v : Int,e = .returned (.int .i64 v) ∧ decide (0 ≤ v) = s.data.toList.any Gt.badB) ∧ Below w.heap.size w w':=by
 have HI:=Lib.hid (fun W => (World.iter_heap W s 0))
 have h8z : decide ((8 : Int) < (s.size : Int)) = false:=decide_eq_false (by omega)
 obtain ⟨A,hA⟩ : ∃ A,s.data.toList.any Gt.badB = A:=⟨_,rfl⟩
 rw [hA]
 have HA:=Lib.hid hA
 clear hA h8
 go_enter Tryz.func152,Tryz.ntmps152
 go_wp2_with fail
 refine (Tryz.strings_shouldUseASCIISet _ _).mono ?_
 rintro e w1 ⟨rfl,hw1⟩
 subst w1
 rw [h8z]
 go_wp2_with fail
 go_loopw [46] (fun _ wr => ∃ k : Nat,k ≤ s.size ∧ wr.heap[w.heap.size]? = some (.stringIter s k) ∧ Below w.heap.size w wr ∧ (s.data.toList.take k).any Gt.badB = false)
  (fun _ wr => s.size - iterPos wr w.heap.size)
 case atStart => exact ⟨0,Nat.zero_le _,HI.out w,(Below.refl _ _).alloc (Nat.le_refl _) _,rfl⟩
 case round =>
  obtain ⟨k,hk,hit,hbl,hal⟩:=hrel
  have HBL:=Lib.hid hbl
  have HAL:=Lib.hid hal
  have HIK:=Lib.hid (iterPos_is hit)
  by_cases hlt : k < s.size
  ·have hn:=fun ty => next_at wr w.heap.size s k ty hit hlt
   have HCC:=Lib.hid (show s.data.toList[k]'hlt = s[k]'hlt from rfl)
   obtain ⟨c,hc⟩ : ∃ c,s[k]'hlt = c:=⟨_,rfl⟩
   by_cases ha : c.toNat < 128
   ·rw [decode_ascii s k hlt (by rw [hc]; exact ha),hc] at hn
    have HS2:=Lib.hid (setIter_at (s:=s) (p:=k + 1) hit)
    have HB2:=Lib.hid (hbl.trans (setIter_below wr w.heap.size w.heap.size s (k + 1) (Nat.le_refl _)))
    obtain ⟨w2,hw2⟩ : ∃ W,setIter wr w.heap.size s (k + 1) = W:=⟨_,rfl⟩
    rw [hw2] at HS2 HB2
    simp only [hw2] at hn
    obtain ⟨x,hx⟩ : ∃ x : Int,(c.toNat : Int) = x:=⟨_,rfl⟩
    have hx1 : (0 : Int) ≤ x:=by omega
    have hx2 : x < 128:=by omega
    have HXC:=Lib.hid (show x.toNat.toUInt8 = c by rw [← hx]; simp)
    simp only [hx] at hn
    have HC:=Lib.hid (HCC.out.trans hc)
    clear hit hbl hal hc hw2 hx ha
    obtain ⟨v,hv⟩ : ∃ v,Lib.indexByte [47,0] c = v:=⟨_,rfl⟩
    have K:=Lib.hid (show Calls Tryz.prog 177 #[.string ⟨#[47,0]⟩,.int .i32 x] w2 fun e w' => e = .returned (.int .i64 v) ∧ w' = w2 by
     refine (Tryz.strings_IndexRune_ascii _ _ _ hx1 hx2).mono ?_
     rintro e w' ⟨rfl,rfl⟩
     refine ⟨?_,rfl⟩
     rw [HXC.out]
     rw [show (⟨#[47,0]⟩ : ByteArray).data.toList = [47,0] from rfl,hv])
    have HV:=Lib.hid (show decide (0 ≤ v) = Gt.badB c by rw [← hv]; exact Gt.ix_bad' c)
    clear hv hx1 hx2
    by_cases hv0 : 0 ≤ v
    ·have HT:=Lib.hid (show A = true by
      rw [← HA.out,List.any_eq_true]
      refine ⟨_,List.getElem_mem hlt,?_⟩
      rw [HC.out,← HV.out]
      exact decide_eq_true hv0)
     go_wp2_with fail
     refine K.out.mono ?_
     rintro e w3 ⟨rfl,hw3⟩
     subst w3
     go_wp2
     go_ret
     exact ⟨⟨(k : Int),rfl,by rw [HT.out]; exact decide_eq_true (by omega)⟩,HB2.out⟩
    ·have hvf : decide (0 ≤ v) = false:=decide_eq_false hv0
     have HNX:=Lib.hid (show (s.data.toList.take (k + 1)).any Gt.badB = false by
      rw [List.take_succ_eq_append_getElem hlt,List.any_append,HAL.out,List.any_cons,HC.out,← HV.out,hvf]; rfl)
     go_wp2_with fail
     refine K.out.mono ?_
     rintro e w3 ⟨rfl,hw3⟩
     subst w3
     go_wp2
     go_roundw
     case rel => exact ⟨k + 1,hlt,HS2.out,HB2.out,HNX.out⟩
     case measure => rw [iterPos_is HS2.out,HIK.out]; omega
   ·obtain ⟨r,n,hd,hr1,hr2,hn1,hn2,hall⟩:=decode_hi s k hlt (by rw [hc]; omega)
    rw [hd] at hn
    have HS2:=Lib.hid (setIter_at (s:=s) (p:=k + n) hit)
    have HB2:=Lib.hid (hbl.trans (setIter_below wr w.heap.size w.heap.size s (k + n) (Nat.le_refl _)))
    have HSZ:=Lib.hid (show w.heap.size < (setIter wr w.heap.size s (k + n)).heap.size by
     rcases Nat.lt_or_ge w.heap.size (setIter wr w.heap.size s (k + n)).heap.size with h' | h'
     ·exact h'
     ·have:=HS2.out; rw [Array.getElem?_eq_none h'] at this; simp at this)
    obtain ⟨w2,hw2⟩ : ∃ W,setIter wr w.heap.size s (k + n) = W:=⟨_,rfl⟩
    rw [hw2] at HS2 HB2 HSZ
    simp only [hw2] at hn
    have HNX:=Lib.hid (Gt.any_take s.data.toList k n HAL.out hn2 hall)
    obtain ⟨x,hx⟩ : ∃ x : Int,(r : Int) = x:=⟨_,rfl⟩
    have K:=Lib.hid (rune_none x w2 (by omega) (by omega))
    simp only [hx] at hn
    have HN:=Lib.hid (show 1 ≤ n ∧ k + n ≤ s.size from ⟨hn1,hn2⟩)
    clear hit hbl hal hc hw2 hx ha hr1 hr2 hn1 hn2 hall hd
    go_wp2_with fail
    refine K.out.mono ?_
    rintro e w3 ⟨rfl,hb3⟩
    have HS3:=Lib.hid ((hb3.block w.heap.size HSZ.out).trans HS2.out)
    have HB3:=Lib.hid (HB2.out.trans (hb3.mono HB2.out.size))
    clear hb3
    go_wp2
    go_roundw
    case rel => exact ⟨k + n,HN.out.2,HS3.out,HB3.out,HNX.out⟩
    case measure => rw [iterPos_is HS3.out,HIK.out]; have:=HN.out; omega
  ·have hn:=fun ty => next_over wr w.heap.size s k ty hit hlt
   have HF:=Lib.hid (show A = false by rw [← HA.out]; rw [List.take_of_length_le (by show s.size ≤ k; omega)] at hal; exact hal)
   clear hit hbl hal
   go_wp2
   go_ret
   exact ⟨⟨-1,rfl,by rw [HF.out]; rfl⟩,HBL.out⟩
theorem index_bad : ∀ l : List UInt8,decide (0 ≤ Lib.indexAny l [47,0]) = l.any Gt.badB
 | [] => rfl
 | b :: l => by
  have ih:=index_bad l
  have hg:=Lib.indexAny_ge [47,0] l
  have hb : ([47,0] : List UInt8).contains b = Gt.badB b:=by
   unfold Gt.badB
   show List.elem b [47,0] = _
   unfold List.elem
   cases h1 : b == 47
   ·unfold List.elem
    cases h2 : b == 0 <;> rfl
   ·rfl
  rw [List.any_cons,← ih,← hb]
  have hu : Lib.indexAny (b :: l) [47,0] = if ([47,0] : List UInt8).contains b = true then 0 else if (Lib.indexAny l [47,0] == -1) = true then -1 else Lib.indexAny l [47,0] + 1:=by simp only [Lib.indexAny]
  rw [hu]
  by_cases h : ([47,0] : List UInt8).contains b = true
  ·rw [if_pos h,h]; rfl
  ·rw [if_neg h,Bool.eq_false_iff.2 h,Bool.false_or]
   split
   ·rename_i he
    rw [beq_iff_eq.1 he]
   ·rename_i he
    have : Lib.indexAny l [47,0] ≠ -1:=fun e => he (beq_iff_eq.2 e)
    exact decide_eq_decide.2 ⟨fun _ => by omega,fun _ => by omega⟩
theorem tg_contains (s : ByteArray) (w : World) (hs : s.size ≤ 1000000) :
  Calls Tryz.prog 124 #[.string s,.string ⟨#[47,0]⟩] w fun e w' => e = .returned (.bool (s.data.toList.any Gt.badB)) ∧ Below w.heap.size w w':=by
 have K : Hid (Calls Tryz.prog 152 #[.string s,.string ⟨#[47,0]⟩] w fun e w' => (∃ v : Int,e = .returned (.int .i64 v) ∧ decide (0 ≤ v) = s.data.toList.any Gt.badB) ∧ Below w.heap.size w w'):=by
  refine Lib.hid ?_
  by_cases h8 : s.size ≤ 8
  ·exact any_short s w h8
  ·have hv : ∀ w,(zeroValue 165).run Tryz.prog w = .ok (.agg (Array.replicate 256 (.bool false))) w:=(zero_of_info (show (Tryz.prog.info? 165).map (fun i => (i.zero,i.size)) = some (some (.agg (Array.replicate 256 (.bool false))),256) by kernel_rfl)).1
   refine (Tryz.strings_IndexAny_long hv s ⟨#[47,0]⟩ w (by decide) (by omega) (by omega) (by decide) ?_).mono ?_
   ·intro j b hj
    have hb : b ∈ ([47,0] : List UInt8):=List.mem_of_getElem? hj
    simp at hb
    rcases hb with rfl | rfl <;> decide
   ·rintro e w' ⟨rfl,rfl⟩
    refine ⟨⟨_,rfl,index_bad s.data.toList⟩,?_⟩
    exact ((Below.refl _ _).alloc (Nat.le_refl _) _).alloc (by simp) _
 obtain ⟨A,hA⟩ : ∃ A,s.data.toList.any Gt.badB = A:=⟨_,rfl⟩
 rw [hA] at K ⊢
 clear hA
 go_enter Tryz.func124,Tryz.ntmps124
 go_wp2_with fail
 refine K.out.mono ?_
 rintro e w' ⟨⟨v,rfl,hv⟩,hb⟩
 have HV:=Lib.hid hv
 clear hv
 go_wp2
 go_ret
 exact ⟨by rw [← HV.out]; rfl,hb⟩
end Go.Proofs.YtfacmnooklljnaaGreatDoor
namespace Go.Proofs.YtfacmnooklljnaaGreatDoor
open Go.RowKit Go.Shelf
set_option maxHeartbeats 2000000
set_option maxRecDepth 100000
theorem all_bad (l : List UInt8) : (l.all fun c => c != 47 && c != 0) = !l.any Gt.badB:=by
 induction l with
 | nil => rfl
 | cons c l ih =>
  rw [List.all_cons,List.any_cons,ih]
  unfold Gt.badB
  cases h1 : c == 47 <;> cases h2 : c == 0 <;> simp [bne,h1,h2]
theorem tg_fine (s : ByteArray) (w : World) (hs : s.size ≤ 1000000) :
  Calls Tryz.prog 93 #[.string s] w fun e w' => e = .returned (.bool (Gt.fine s.data.toList)) ∧ Below w.heap.size w w':=by
 have K:=Lib.hid (tg_contains s w hs)
 obtain ⟨A,hA⟩ : ∃ A,s.data.toList.any Gt.badB = A:=⟨_,rfl⟩
 rw [hA] at K
 have HF:=Lib.hid (show Gt.fine s.data.toList = (!(s.data.toList == [46]) && !(s.data.toList == [46,46]) && !A) by unfold Gt.fine; rw [all_bad,hA])
 clear hA
 go_enter Tryz.func93,Tryz.ntmps93
 go_wp2_with fail
 ·rename_i h1
  rw [Lib.toList_data] at h1
  go_ret
  refine ⟨?_,Below.refl _ _⟩
  rw [HF.out,h1]; rfl
 ·rename_i h1 h2
  rw [Lib.toList_data] at h1 h2
  go_ret
  refine ⟨?_,Below.refl _ _⟩
  rw [HF.out,h2]; rfl
 ·have h1 : ¬ s.toList = [46]:=by assumption
  have h2 : ¬ s.toList = [46,46]:=by assumption
  rw [Lib.toList_data] at h1 h2
  have HF2:=Lib.hid (show Gt.fine s.data.toList = !A by
   rw [HF.out,beq_eq_false_iff_ne.2 h1,beq_eq_false_iff_ne.2 h2]; rfl)
  have e1 : (s.toList == [46]) = false:=by rw [Lib.toList_data]; exact beq_eq_false_iff_ne.2 h1
  have e2 : (s.toList == [46,46]) = false:=by rw [Lib.toList_data]; exact beq_eq_false_iff_ne.2 h2
  refine K.out.mono ?_
  rintro e w' ⟨rfl,hb⟩
  have HB:=Lib.hid hb
  clear hb h1 h2
  go_wp2
  go_ret
  refine ⟨?_,HB.out⟩
  rw [HF2.out]
  simp [e1,e2]
theorem tg_part (s : ByteArray) (w : World) (hs : s.size ≤ 1000000) :
  Calls Tryz.prog 50 #[.string s] w fun e w' => e = decEnd (Gt.seg s.data.toList) ∧ Below w.heap.size w w':=by
 obtain ⟨W1,hW⟩ : ∃ W,w.alloc (.cells #[.string s,.bool false] 131) = W:=⟨_,rfl⟩
 have HRD:=Lib.hid (show RD W1 w.heap.size s false by rw [← hW]; exact World.alloc_heap_new _ _)
 have HB:=Lib.hid (show Below w.heap.size w W1 by rw [← hW]; exact (Below.refl _ _).alloc (Nat.le_refl _) _)
 have HW:=Lib.hid hW
 clear hW
 have K:=Lib.hid (tg_decoded w.heap.size s false W1 HRD.out hs)
 have HDL:=Lib.hid (fun r (h : Gt.dec false s.data.toList = some r) => Gt.dec_length false _ s.data.toList r (Nat.le_refl _) h)
 cases hd : Gt.dec false s.data.toList with
 | none =>
  rw [hd] at K
  have HS:=Lib.hid (Gt.seg_none hd)
  clear hd
  go_enter Tryz.func50,Tryz.ntmps50
  go_wp2_with fail
  rw [HW.out]
  refine K.out.mono ?_
  rintro e w2 ⟨rfl,hb⟩
  exact ⟨rfl,by rw [HS.out]; rfl,HB.out.trans (hb.mono HB.out.size)⟩
 | some p =>
  rw [hd] at K
  have HS:=Lib.hid (Gt.seg_some hd)
  have HP:=Lib.hid (HDL.out p hd)
  clear hd HDL
  obtain ⟨P,hP⟩ : ∃ P : ByteArray,⟨p.toArray⟩ = P:=⟨_,rfl⟩
  have HPL:=Lib.hid (show P.data.toList = p by rw [← hP])
  have K':=Lib.hid (show Calls Tryz.prog 92 #[.pointer (some ⟨w.heap.size,0,none⟩)] W1 fun e w' => e = .returned (.string P) ∧ Below W1.heap.size W1 w' by
   rw [← hP]; exact K.out)
  have HPE:=Lib.hid hP
  have hps : P.size ≤ 1000000:=by
   have h1:=HP.out
   have h2 : P.data.toList.length = P.size:=rfl
   have h3 : s.data.toList.length = s.size:=rfl
   rw [HPL.out] at h2
   omega
  have HPS:=Lib.hid hps
  clear hP K hps
  go_enter Tryz.func50,Tryz.ntmps50
  go_wp2_with fail
  rw [HW.out]
  refine K'.out.mono ?_
  rintro e w2 ⟨rfl,hb⟩
  have HB2:=Lib.hid (HB.out.trans (hb.mono HB.out.size))
  clear hb
  go_wp2_with fail
  refine (tg_fine P w2 HPS.out).mono ?_
  rintro e w3 ⟨rfl,hb3⟩
  have HB3:=Lib.hid (HB2.out.trans (hb3.mono HB2.out.size))
  clear hb3
  obtain ⟨b,hb⟩ : ∃ b,Gt.fine P.data.toList = b:=⟨_,rfl⟩
  rw [hb]
  have HBF:=Lib.hid (show Gt.fine p = b by rw [← HPL.out]; exact hb)
  clear hb
  cases b
  ·go_wp2_with fail
   refine (tg_must_no 210 w3).mono ?_
   rintro e w4 ⟨rfl,hw4⟩
   subst w4
   exact ⟨rfl,by rw [HS.out,HBF.out]; rfl,HB3.out⟩
  ·go_wp2_with fail
   refine (tg_must 210 w3).mono ?_
   rintro e w4 ⟨rfl,hw4⟩
   subst w4
   go_wp2
   go_ret
   exact ⟨by rw [HS.out,HBF.out]; show Ending.returned (Value.string P) = _; rw [← HPE.out]; rfl,HB3.out⟩
end Go.Proofs.YtfacmnooklljnaaGreatDoor
namespace Go.Proofs.YtfacmnooklljnaaGreatDoor
open Go.RowKit Go.Shelf
set_option maxHeartbeats 2000000
set_option maxRecDepth 100000
theorem ref_at (s : ByteArray) (z : UInt8) (w : World) (hs : s.size ≤ 1000000) :
  Calls Tryz.prog 59 #[.string s,.int .u8 (z.toNat : Int)] w fun e w' => e = .returned (.int .i64 (Gs.pos z s.data.toList)) ∧ Below w.heap.size w w':=by
 have HL:=Lib.hid (show s.data.toList.length = s.size from rfl)
 obtain ⟨y,hy⟩ : ∃ y : Int,(z.toNat : Int) = y:=⟨_,rfl⟩
 have HY:=Lib.hid hy
 rw [hy]
 clear hy
 go_enter Tryz.func59,Tryz.ntmps59
 go_wp2_with fail
 go_loop [5] (fun i => ∃ k : Nat,k ≤ s.size ∧ i = .int .i64 k ∧ Gs.PAt z s.data.toList k)
  (fun i => s.size - (intOf i).toNat)
 case atStart => exact ⟨0,Nat.zero_le _,rfl,Gs.pAt_start _ _⟩
 case round =>
  obtain ⟨k,hk,rfl,hp⟩:=hrel
  have HP:=Lib.hid hp
  clear hp
  by_cases hlt : k < s.size
  ·have HKL:=Lib.hid (show k < s.data.toList.length from hlt)
   obtain ⟨c,hcc⟩ : ∃ c,s.data.toList[k]'HKL.out = c:=⟨_,rfl⟩
   have HC:=Lib.hid hcc
   obtain ⟨x,hx⟩ : ∃ x : Int,(c.toNat : Int) = x:=⟨_,rfl⟩
   have hsx : ((s[k]'hlt).toNat : Int) = x:=by rw [← hx,← hcc]; rfl
   have HX:=Lib.hid hx
   clear hx hcc
   by_cases he : x = y
   ·have HH:=Lib.hid (Gs.pAt_hit HP.out HKL.out (HC.out.trans (UInt8.toNat_inj.1 (by have:=HX.out; have:=HY.out; omega))))
    have he1 : (x == y) = true:=beq_iff_eq.2 he
    have he2 : (x != y) = false:=by unfold bne; rw [he1]; rfl
    clear he
    go_wp2_with fail
    go_ret
    exact ⟨by rw [HH.out]; rfl,Below.refl _ _⟩
   ·have HN:=Lib.hid (Gs.pAt_next HP.out HKL.out (fun e => he (by rw [← HX.out,← HY.out,← HC.out,e])))
    have he1 : (x == y) = false:=beq_eq_false_iff_ne.2 he
    have he2 : (x != y) = true:=by unfold bne; rw [he1]; rfl
    clear he
    go_wp2_with fail
    go_round
    case rel => exact ⟨k + 1,hlt,by go_num,HN.out⟩
    case measure => simp [intOf]; omega
  ·have HE:=Lib.hid (Gs.pAt_end HP.out (by rw [HL.out]; omega))
   go_wp2_with fail
   go_ret
   exact ⟨by rw [HE.out]; rfl,Below.refl _ _⟩
theorem ref_part (s : ByteArray) (w : World) (hs : s.size ≤ 1000000) :
  Calls Tryz.prog 62 #[.string s] w fun e w' => e = .returned (.bool (Gt.fine s.data.toList)) ∧ Below w.heap.size w w':=by
 have HL:=Lib.hid (show s.data.toList.length = s.size from rfl)
 by_cases h1 : s.toList = [46]
 ·have HF:=Lib.hid (show Gt.fine s.data.toList = false by rw [← Lib.toList_data,h1]; rfl)
  have e1 : (s.toList == [46]) = true:=beq_iff_eq.2 h1
  clear h1
  go_enter Tryz.func62,Tryz.ntmps62
  go_wp2_with fail
  go_ret
  exact ⟨by rw [HF.out]; rfl,Below.refl _ _⟩
 ·have e1 : (s.toList == [46]) = false:=beq_eq_false_iff_ne.2 h1
  by_cases h2 : s.toList = [46,46]
  ·have HF:=Lib.hid (show Gt.fine s.data.toList = false by rw [← Lib.toList_data,h2]; rfl)
   have e2 : (s.toList == [46,46]) = true:=beq_iff_eq.2 h2
   clear h1 h2
   go_enter Tryz.func62,Tryz.ntmps62
   go_wp2_with fail
   go_ret
   exact ⟨by rw [HF.out]; rfl,Below.refl _ _⟩
  ·have e2 : (s.toList == [46,46]) = false:=beq_eq_false_iff_ne.2 h2
   obtain ⟨A,hA⟩ : ∃ A,s.data.toList.any Gt.badB = A:=⟨_,rfl⟩
   have HF:=Lib.hid (show Gt.fine s.data.toList = !A by
    unfold Gt.fine
    rw [all_bad,hA,← Lib.toList_data,e1,e2]; rfl)
   have HA:=Lib.hid hA
   clear h1 h2 hA
   go_enter Tryz.func62,Tryz.ntmps62
   go_wp2_with fail
   go_loop [3] (fun i => ∃ k : Nat,k ≤ s.size ∧ i = .int .i64 k ∧ (s.data.toList.take k).any Gt.badB = false)
    (fun i => s.size - (intOf i).toNat)
   case atStart => exact ⟨0,Nat.zero_le _,rfl,rfl⟩
   case round =>
    obtain ⟨k,hk,rfl,hp⟩:=hrel
    have HP:=Lib.hid hp
    by_cases hlt : k < s.size
    ·have HKL:=Lib.hid (show k < s.data.toList.length from hlt)
     obtain ⟨c,hcc⟩ : ∃ c,s.data.toList[k]'HKL.out = c:=⟨_,rfl⟩
     have HTK:=Lib.hid (show s.data.toList.take (k + 1) = s.data.toList.take k ++ [c] by rw [List.take_succ_eq_append_getElem HKL.out,hcc])
     have HM:=Lib.hid (show c ∈ s.data.toList by rw [← hcc]; exact List.getElem_mem _)
     obtain ⟨x,hx⟩ : ∃ x : Int,(c.toNat : Int) = x:=⟨_,rfl⟩
     have hsx : ((s[k]'hlt).toNat : Int) = x:=by rw [← hx,← hcc]; rfl
     have HX:=Lib.hid hx
     clear hx hcc hp
     cases hb : Gt.badB c with
     | true =>
      have HT:=Lib.hid (show A = true by rw [← HA.out,List.any_eq_true]; exact ⟨c,HM.out,hb⟩)
      have hor : x = 47 ∨ x = 0:=by
       unfold Gt.badB at hb
       rw [Bool.or_eq_true,beq_iff_eq,beq_iff_eq] at hb
       rcases hb with e | e <;> (have:=HX.out; rw [e] at this)
       ·exact .inl this.symm
       ·exact .inr this.symm
      clear hb
      rcases hor with e | e <;> subst e
      all_goals
       go_wp2_with fail
       go_ret
       exact ⟨by rw [HF.out,HT.out]; rfl,Below.refl _ _⟩
     | false =>
      have HN:=Lib.hid (show (s.data.toList.take (k + 1)).any Gt.badB = false by rw [HTK.out,List.any_append,HP.out,List.any_cons,hb]; rfl)
      have e3 : (x == 47) = false:=beq_eq_false_iff_ne.2 (fun e => by
       have : c = 47:=UInt8.toNat_inj.1 (by have:=HX.out; show c.toNat = 47; omega)
       rw [this] at hb; exact absurd hb (by decide))
      have e4 : (x == 0) = false:=beq_eq_false_iff_ne.2 (fun e => by
       have : c = 0:=UInt8.toNat_inj.1 (by have:=HX.out; show c.toNat = 0; omega)
       rw [this] at hb; exact absurd hb (by decide))
      clear hb
      go_wp2_with fail
      go_round
      case rel => exact ⟨k + 1,hlt,by go_num,HN.out⟩
      case measure => simp [intOf]; omega
    ·have HT:=Lib.hid (show A = false by rw [← HA.out]; rw [List.take_of_length_le (by rw [HL.out]; omega)] at hp; exact hp)
     clear hp
     go_wp2_with fail
     go_ret
     exact ⟨by rw [HF.out,HT.out]; rfl,Below.refl _ _⟩
end Go.Proofs.YtfacmnooklljnaaGreatDoor
namespace Go.Proofs.YtfacmnooklljnaaGreatDoor
open Go.RowKit Go.Shelf
set_option maxHeartbeats 2000000
set_option maxRecDepth 100000
theorem tg_pair1 (s : ByteArray) (w : World) (hs : s.size ≤ 1000000) :
  Calls Tryz.prog 95 #[.string s] w fun e w' => e = decEnd (Gt.dec true s.data.toList) ∧ Below w.heap.size w w':=by
 obtain ⟨W1,hW⟩ : ∃ W,w.alloc (.cells #[.string s,.bool true] 131) = W:=⟨_,rfl⟩
 have HRD:=Lib.hid (show RD W1 w.heap.size s true by rw [← hW]; exact World.alloc_heap_new _ _)
 have HB:=Lib.hid (show Below w.heap.size w W1 by rw [← hW]; exact (Below.refl _ _).alloc (Nat.le_refl _) _)
 have HW:=Lib.hid hW
 clear hW
 have K:=Lib.hid (tg_decoded w.heap.size s true W1 HRD.out hs)
 obtain ⟨o,ho⟩ : ∃ o,Gt.dec true s.data.toList = o:=⟨_,rfl⟩
 rw [ho] at K ⊢
 clear ho
 go_enter Tryz.func95,Tryz.ntmps95
 go_wp2_with fail
 rw [HW.out]
 refine K.out.mono ?_
 rintro e w2 ⟨rfl,hb⟩
 have HB2:=Lib.hid (HB.out.trans (hb.mono HB.out.size))
 clear hb
 cases o with
 | none => exact ⟨rfl,rfl,HB2.out⟩
 | some l =>
  simp only [decEnd]
  go_wp2
  go_ret
  exact ⟨rfl,HB2.out⟩
theorem tg_ask3 (s : ByteArray) (w : World) :
  Calls Tryz.prog 55 #[.string s] w fun e w' => e = .returned (.bool s.data.toList.isEmpty) ∧ w' = w:=by
 have HE:=Lib.hid (show s.toList.isEmpty = s.data.toList.isEmpty by rw [Lib.toList_data])
 go_enter Tryz.func55,Tryz.ntmps55
 go_wp2_with fail
 go_ret
 refine ⟨?_,rfl⟩
 rw [← HE.out]
 rfl
theorem tg_asks (w : World) :
  Calls Tryz.prog 46 #[] w fun e w' => e = .returned (.agg #[.func (.func 88) #[] #[],.func (.func 90) #[] #[]]) ∧ Below w.heap.size w w':=by
 go_enter Tryz.func46,Tryz.ntmps46
 go_wp2_with fail
 exact bodyPost_ret (by simp [results,Tryz.results46,go_sem]) rfl ⟨rfl,(Below.refl _ _).alloc (Nat.le_refl _) _⟩
end Go.Proofs.YtfacmnooklljnaaGreatDoor
namespace Go.Proofs.YtfacmnooklljnaaGreatDoor
open Go.RowKit Go.Shelf
set_option maxHeartbeats 4000000
set_option maxRecDepth 100000
theorem rd_belowed {w w' : World} {base : Nat} {e : TypeId} {size : Nat} {v : Value} {n : Nat} {xs : List Value} (h : w.ownsRow base e size v n xs) (k : Below w.heap.size w w') : w'.ownsRow base e size v n xs:=by
 refine ⟨h.1,h.2.imp id ?_⟩
 rintro ⟨g,cap,cur,h1,h2,h3,h4⟩
 refine ⟨g,cap,cur,h1,h2,(k.block g ?_).trans h3,h4⟩
 rcases Nat.lt_or_ge g w.heap.size with h' | h'
 ·exact h'
 ·rw [Array.getElem?_eq_none h'] at h3; simp at h3
def RdF (s : ByteArray) (i : Nat) (x1 x2 d1 d2 y : Int) (v0 : Value) (B n : Nat) (xs : List Value) : Nat → World → Value → Prop
 | 0,_,v => v = v0
 | 1,_,v => v = .string s
 | 2,_,v => v = .int .i64 i
 | 3,_,v => v = .int .i64 (i + 1 : Nat)
 | 4,_,v => v = .int .u8 x1
 | 5,_,v => v = .int .u64 d1
 | 6,_,v => v = .int .u64 (16 * d1)
 | 7,_,v => v = .string s
 | 8,_,v => v = .int .i64 i
 | 9,_,v => v = .int .i64 (i + 2 : Nat)
 | 10,_,v => v = .int .u8 x2
 | 11,_,v => v = .int .u64 d2
 | 12,_,v => v = .int .u64 (16 * d1 + d2)
 | 13,_,v => v = .int .u8 y
 | 14,w,v => ∃ g,v = .slice (some ⟨g,0,none⟩) 1 1 ∧ w.heap[g]? = some (.cells #[.int .u8 y] 5 (0,0)) ∧ v0.ownBlock ≠ some g
 | 15,w,v => w.ownsRow B 5 1 v (n + 1) (xs ++ [.int .u8 y])
 | 16,w,v => w.ownsRow B 5 1 v (n + 1) (xs ++ [.int .u8 y])
 | _,_,_ => False
def rdSlot (i : Nat) : Nat:=([46,47,48,49,50,51,52,53,54,55,56,57,58,59,60,61,6] : List Nat).getD i 46
theorem rdSlot_lt (i : Nat) : rdSlot i < 77:=by
 unfold rdSlot
 match i with
 | 0 | 1 | 2 | 3 | 4 | 5 | 6 | 7 | 8 | 9 | 10 | 11 | 12 | 13 | 14 | 15 | 16 => decide
 | n + 17 => simp
theorem rdSlot_inj : ∀ i,i < 17 → ∀ j,j < 17 → rdSlot i = rdSlot j → i = j:=by decide
theorem RdF.alloc {s : ByteArray} {i : Nat} {x1 x2 d1 d2 y : Int} {v0 : Value} {B n : Nat} {xs : List Value} (j : Nat) (w : World) (o : Obj) (v : Value) (h : RdF s i x1 x2 d1 d2 y v0 B n xs j w v) : RdF s i x1 x2 d1 d2 y v0 B n xs j (w.alloc o) v:=by
 match j,h with
 | 0,h | 1,h | 2,h | 3,h | 4,h | 5,h | 6,h | 7,h | 8,h | 9,h | 10,h | 11,h | 12,h | 13,h => exact h
 | 14,⟨g,h1,h2,h3⟩ =>
  refine ⟨g,h1,?_,h3⟩
  rw [Below.heap_alloc _ _ _ (Array.getElem?_eq_some_iff.1 h2).1]
  exact h2
 | 15,h => exact World.ownsRow.alloc h _
 | 16,h => exact World.ownsRow.alloc h _
 | n + 17,h => exact h.elim
def RdT (w0 : World) (v0 : Value) (B n : Nat) (xs : List Value) (f : Nat → Bool) (w : World) : Prop :=
 Below B w0 w ∧ (f 15 = false → w.ownsRow B 5 1 v0 n xs ∧ f 16 = false) ∧ (f 0 = false → f 15 = false) ∧ (f 14 = false → f 15 = false)
theorem s2_same {P : Program} {o : Oper} {a : Act} {w : World} {Q : Exit → Act → World → Prop} {F : Nat → World → Value → Prop} {T : (Nat → Bool) → World → Prop} {f : Nat → Bool} {i : Nat} (v : Value)
  (h : o.wp P a w (fun a' w' => a' = a.put o.dst v ∧ w' = w) Q) (hF : F i w v) (hT : T (fun j => if j = i then true else f j) w) :
  o.wp P a w (fun a' w' => ∃ v,a' = a.put o.dst v ∧ F i w' v ∧ T (fun j => if j = i then true else f j) w' ∧ ∀ j v',f j = true → F j w v' → F j w' v') Q:=by
 refine Oper.wp_mono ?_ h
 rintro a' w' ⟨rfl,rfl⟩
 exact ⟨v,rfl,hF,hT,fun _ _ _ h => h⟩
theorem rdT_step {w0 w : World} {v0 : Value} {B n : Nat} {xs : List Value} {f : Nat → Bool} {i : Nat} (h : RdT w0 v0 B n xs f w) (h1 : i ≠ 15) (h2 : i ≠ 16) : RdT w0 v0 B n xs (fun j => if j = i then true else f j) w:=by
 obtain ⟨a,b,c,d⟩:=h
 refine ⟨a,fun h3 => ?_,fun h3 => ?_,fun h3 => ?_⟩
 ·have h4 : f 15 = false:=by simpa [Ne.symm h1] using h3
  exact ⟨(b h4).1,by simpa [Ne.symm h2] using (b h4).2⟩
 ·have : f 0 = false:=by by_cases e : 0 = i <;> simp_all
  simpa [Ne.symm h1] using c this
 ·have : f 14 = false:=by by_cases e : 14 = i <;> simp_all
  simpa [Ne.symm h1] using d this
theorem ev_tmp {a : Act} {t : Nat} {v : Value} (h : a.tmps.getD t undef = v) : a.tmps[t]?.getD undef = v:=by rw [← Array.getD_eq_getD_getElem?]; exact h
theorem call_same {P : Program} {o : Oper} {a : Act} {w : World} {Q : Exit → Act → World → Prop} (t k : Nat) (ty : Array TypeId) (v r : Value) (ho : o.op = Op.call { callee:=.value (.func k),args:=#[.tmp t],argTypes:=ty }) (hv : a.tmps.getD t undef = v)
  (eg : ∀ args w,(callFunc k args).run P w = .ok (.enter k args) w) (hc : Calls P k #[v] w fun e w' => e = .returned r ∧ w = w') :
  o.wp P a w (fun a' w' => a' = a.put o.dst r ∧ w' = w) Q:=by
 have e:=ev_tmp hv
 have e2 : a.eval (.func k) = .func (.func k) #[] #[]:=rfl
 unfold Oper.wp execOp
 simp [ho,resolve,invoke,e2,e,eg,go_sem]
 refine hc.mono ?_
 rintro z w' ⟨rfl,rfl⟩
 exact ⟨rfl,rfl⟩
theorem ref_Decode (s : ByteArray) (pl : Bool) (w : World) (hs : s.size ≤ 1000000) :
  Calls Tryz.prog 61 #[.string s,.bool pl] w fun e w' => e = .returned (decOut (Gt.dec pl s.data.toList)) ∧ Below w.heap.size w w':=by
 obtain ⟨i0,hi,hz0,hz1,hz2⟩:=info_parts (show (Tryz.prog.info? 5).map (fun i => (i.zero,i.size,i.bytes)) = some (some (.int .u8 0),1,1) by kernel_rfl)
 obtain ⟨B,hB⟩ : ∃ B,w.heap.size = B:=⟨_,rfl⟩
 rw [hB]
 have HL:=Lib.hid (show s.data.toList.length = s.size from rfl)
 have HIX:=Lib.hid (fun k h W => index_at s W k h)
 obtain ⟨O,hO⟩ : ∃ O,Gt.dec pl s.data.toList = O:=⟨_,rfl⟩
 rw [hO]
 have HO:=Lib.hid hO
 clear hO
 go_enter Tryz.func61,Tryz.ntmps61
 go_wp2_with fail
 go_loopw [6,7] (fun v i wr => ∃ (k : Nat) (acc : List UInt8),i = .int .i64 k ∧ Gt.DAt pl s.data.toList acc k ∧ wr.ownsRow B 5 1 v acc.length (acc.map by8) ∧ Below B w wr)
  (fun _ i _ => s.size - (intOf i).toNat)
 case atStart => exact ⟨0,[],rfl,Gt.dAt_start _ _,World.ownsRow_nil _ _ _ _,Below.refl _ _⟩
 case round =>
  obtain ⟨k,acc,rfl,hat,hown,hbl⟩:=hrel
  obtain ⟨V,rfl⟩ : ∃ V,V = u6:=⟨_,rfl⟩
  have hk : k ≤ s.size:=hat.1
  have hacc : acc.length ≤ k:=hat.2.1
  have HA:=Lib.hid hat
  have HN:=Lib.hid hown
  have HB:=Lib.hid hbl
  clear hat hown hbl
  by_cases hlt : k < s.size
  ·have HKL:=Lib.hid (show k < s.data.toList.length from hlt)
   obtain ⟨c,hcc⟩ : ∃ c,s.data.toList[k]'HKL.out = c:=⟨_,rfl⟩
   have HC:=Lib.hid hcc
   obtain ⟨x,hx⟩ : ∃ x : Int,(c.toNat : Int) = x:=⟨_,rfl⟩
   have hsx : ((s[k]'hlt).toNat : Int) = x:=by rw [← hx,← hcc]; rfl
   have HX:=Lib.hid hx
   clear hx hcc
   by_cases he : x = 37
   ·subst he
    have HC37:=Lib.hid (show c = 37 from UInt8.toNat_inj.1 (by have:=HX.out; show c.toNat = 37; omega))
    by_cases hsh : s.size ≤ k + 2
    ·have HE:=Lib.hid (Gt.dAt_short HA.out HKL.out (HC.out.trans HC37.out) (by rw [HL.out]; exact hsh))
     go_wp2_with fail
     go_ret2
     exact ⟨by rw [← HO.out,HE.out]; rfl,HB.out⟩
    ·have hk1 : k + 1 < s.size:=by omega
     have hk2 : k + 2 < s.size:=by omega
     have HK1:=Lib.hid (show k + 1 < s.data.toList.length by rw [HL.out]; exact hk1)
     have HK2:=Lib.hid (show k + 2 < s.data.toList.length by rw [HL.out]; exact hk2)
     obtain ⟨b1,hb1⟩ : ∃ b,s.data.toList[k + 1]'HK1.out = b:=⟨_,rfl⟩
     obtain ⟨b2,hb2⟩ : ∃ b,s.data.toList[k + 2]'HK2.out = b:=⟨_,rfl⟩
     obtain ⟨x1,hx1⟩ : ∃ x : Int,(b1.toNat : Int) = x:=⟨_,rfl⟩
     obtain ⟨x2,hx2⟩ : ∃ x : Int,(b2.toNat : Int) = x:=⟨_,rfl⟩
     have r1 : ∀ W,(Instr.index 9 (.string s) (.int .i64 ((k : Int) + 1))).run Tryz.prog W = .ok (.int .u8 x1) W:=fun W => by
      have:=HIX.out (k + 1) hk1 W
      rw [show ((s[k + 1]'hk1).toNat : Int) = x1 by rw [← hx1,← hb1]; rfl] at this
      exact this
     have r2 : ∀ W,(Instr.index 9 (.string s) (.int .i64 ((k : Int) + 2))).run Tryz.prog W = .ok (.int .u8 x2) W:=fun W => by
      have:=HIX.out (k + 2) hk2 W
      rw [show ((s[k + 2]'hk2).toNat : Int) = x2 by rw [← hx2,← hb2]; rfl] at this
      exact this
     have K1:=Lib.hid (fun W => ref_digit x1 W (by omega) (by have:=b1.toNat_lt; omega))
     have K2:=Lib.hid (fun W => ref_digit x2 W (by omega) (by have:=b2.toNat_lt; omega))
     have HV1:=Lib.hid (show Gt.hx (s.data.toList[k + 1]'HK1.out) = Dp.digV x1 by unfold Gt.hx; rw [hb1,hx1])
     have HV2:=Lib.hid (show Gt.hx (s.data.toList[k + 2]'HK2.out) = Dp.digV x2 by unfold Gt.hx; rw [hb2,hx2])
     have hl1:=Dp.digV_lo x1
     have hl2:=Dp.digV_lo x2
     obtain ⟨d1,hd1⟩ : ∃ d,Dp.digV x1 = d:=⟨_,rfl⟩
     obtain ⟨d2,hd2⟩ : ∃ d,Dp.digV x2 = d:=⟨_,rfl⟩
     rw [hd1] at K1 HV1 hl1
     rw [hd2] at K2 HV2 hl2
     have HB12:=Lib.hid (show Gt.two (s.data.toList[k + 1]'HK1.out) (s.data.toList[k + 2]'HK2.out) = Gt.two b1 b2 by rw [hb1,hb2])
     have HH:=Lib.hid (show Gt.hx b1 = d1 ∧ Gt.hx b2 = d2 by rw [← hb1,← hb2]; exact ⟨HV1.out,HV2.out⟩)
     clear hb1 hb2 hx1 hx2 hd1 hd2 hsh
     by_cases h1 : 15 < d1
     ·have HE:=Lib.hid (Gt.dAt_bad HA.out HK2.out (HC.out.trans HC37.out) (fun h => by have:=h.1; rw [HV1.out] at this; omega))
      go_wp2_with fail
      refine (K1.out _).mono ?_
      rintro e w3 ⟨rfl,rfl⟩
      go_wp2_with fail
      go_ret2
      exact ⟨by rw [← HO.out,HE.out]; rfl,HB.out⟩
     ·by_cases h2 : 15 < d2
      ·have HE:=Lib.hid (Gt.dAt_bad HA.out HK2.out (HC.out.trans HC37.out) (fun h => by have:=h.2; rw [HV2.out] at this; omega))
       go_wp2_with fail
       refine (K1.out _).mono ?_
       rintro e w3 ⟨rfl,rfl⟩
       go_wp2_with fail
       refine (K2.out _).mono ?_
       rintro e w3 ⟨rfl,rfl⟩
       go_wp2_with fail
       go_ret2
       exact ⟨by rw [← HO.out,HE.out]; rfl,HB.out⟩
      ·have HD:=Lib.hid (Gt.dAt_pct HA.out HK2.out (HC.out.trans HC37.out) ⟨by rw [HV1.out]; omega,by rw [HV2.out]; omega⟩)
       rw [HB12.out] at HD
       have HTW:=Lib.hid (show ((Gt.two b1 b2).toNat : Int) = 16 * d1 + d2 by rw [Gt.two_val _ _ ⟨by rw [HH.out.1]; omega,by rw [HH.out.2]; omega⟩,HH.out.1,HH.out.2])
       go_wp2_with fail
       refine (K1.out _).mono ?_
       rintro e w3 ⟨rfl,rfl⟩
       go_wp2_with fail
       refine (K2.out _).mono ?_
       rintro e w3 ⟨rfl,rfl⟩
       go_wp2_with fail
       have HWS:=Lib.hid (show IntKind.i64.wrap ((k : Int) + 1) = (k : Int) + 1 ∧ IntKind.i64.wrap ((k : Int) + 2) = (k : Int) + 2 ∧ IntKind.u64.wrap (16 * d1) = 16 * d1 ∧ IntKind.u64.wrap (16 * d1 + d2) = 16 * d1 + d2 ∧ IntKind.u8.wrap (16 * d1 + d2) = 16 * d1 + d2 from
        ⟨IntWalk.i64_in _ (by omega),IntWalk.i64_in _ (by omega),by simp only [IntKind.wrap_u64]; omega,by simp only [IntKind.wrap_u64]; omega,by simp only [IntKind.wrap_u8]; omega⟩)
       refine region_slots2 rdSlot (RdF s k x1 x2 d1 d2 (16 * d1 + d2) V B acc.length (acc.map by8)) (RdT w V B acc.length (acc.map by8)) (by kernel_rfl) (by kernel_rfl) rdSlot_lt (fun i j hi hj => rdSlot_inj i hi j hj) ?start ?dst ?step ?done
       case start => exact ⟨HB.out.drew,fun _ => ⟨rd_belowed HN.out (Below.refl _ _).drew,rfl⟩,fun _ => rfl,fun _ => rfl⟩
       case dst =>
        intro i o ho
        match i,ho with
        | 0,ho | 1,ho | 2,ho | 3,ho | 4,ho | 5,ho | 6,ho | 7,ho | 8,ho | 9,ho | 10,ho | 11,ho | 12,ho | 13,ho | 14,ho | 15,ho | 16,ho => cases ho; rfl
        | n + 17,ho => exact absurd ho (by simp)
       case step =>
        intro f a' W i o ho hfi hpre hT hrest hyet
        match i,ho with
        | 0,ho =>
         cases ho
         have q : a'.tmps[6]?.getD undef = V:=ev_tmp (hyet 16 (by decide) (hT.2.1 (hT.2.2.1 hfi)).2)
         exact s2_same (V) (by unfold Oper.wp execOp; go_simp; all_goals ((try simp only [q]); (try go_simp); first | done | rfl | exact ⟨rfl,rfl⟩ | rw [HWS.out.1] | rw [HWS.out.2.1] | rw [HWS.out.2.2.1] | rw [HWS.out.2.2.2.1] | rw [HWS.out.2.2.2.2] | trivial)) rfl (rdT_step hT (by decide) (by decide))
        | 1,ho =>
         cases ho
         have q : a'.tmps[0]?.getD undef = .string s:=ev_tmp (hrest 0 (by decide))
         exact s2_same (.string s) (by unfold Oper.wp execOp; go_simp; all_goals ((try simp only [q]); (try go_simp); first | done | rfl | exact ⟨rfl,rfl⟩ | rw [HWS.out.1] | rw [HWS.out.2.1] | rw [HWS.out.2.2.1] | rw [HWS.out.2.2.2.1] | rw [HWS.out.2.2.2.2] | trivial)) rfl (rdT_step hT (by decide) (by decide))
        | 2,ho =>
         cases ho
         have q : a'.tmps[7]?.getD undef = .int .i64 k:=ev_tmp (hrest 7 (by decide))
         exact s2_same (.int .i64 k) (by unfold Oper.wp execOp; go_simp; all_goals ((try simp only [q]); (try go_simp); first | done | rfl | exact ⟨rfl,rfl⟩ | rw [HWS.out.1] | rw [HWS.out.2.1] | rw [HWS.out.2.2.1] | rw [HWS.out.2.2.2.1] | rw [HWS.out.2.2.2.2] | trivial)) rfl (rdT_step hT (by decide) (by decide))
        | 3,ho =>
         cases ho
         have q2 : a'.tmps[48]?.getD undef = .int .i64 k:=ev_tmp (hpre { on:=2,ground:=.data } (by simp) rfl).2
         exact s2_same (.int .i64 (k + 1 : Nat)) (by unfold Oper.wp execOp; go_simp; all_goals ((try simp only [q2]); (try go_simp); first | done | rfl | exact ⟨rfl,rfl⟩ | rw [HWS.out.1] | rw [HWS.out.2.1] | rw [HWS.out.2.2.1] | rw [HWS.out.2.2.2.1] | rw [HWS.out.2.2.2.2] | trivial)) rfl (rdT_step hT (by decide) (by decide))
        | 4,ho =>
         cases ho
         have q1 : a'.tmps[47]?.getD undef = .string s:=ev_tmp (hpre { on:=1,ground:=.data } (by simp) rfl).2
         have q3 : a'.tmps[49]?.getD undef = .int .i64 (k + 1 : Nat):=ev_tmp (hpre { on:=3,ground:=.data } (by simp) rfl).2
         exact s2_same (.int .u8 x1) (by unfold Oper.wp execOp; go_simp; all_goals ((try simp only [q1,q3]); (try go_simp); first | done | rfl | exact ⟨rfl,rfl⟩ | rw [HWS.out.1] | rw [HWS.out.2.1] | rw [HWS.out.2.2.1] | rw [HWS.out.2.2.2.1] | rw [HWS.out.2.2.2.2] | trivial)) rfl (rdT_step hT (by decide) (by decide))
        | 5,ho =>
         cases ho
         have q : a'.tmps.getD 50 undef = .int .u8 x1:=(hpre { on:=4,ground:=.data } (by simp) rfl).2
         exact s2_same (.int .u64 d1) (call_same 50 101 _ _ _ rfl q (enters_of Tryz.func101 (by kernel_rfl) rfl) (K1.out W)) rfl (rdT_step hT (by decide) (by decide))
        | 6,ho =>
         cases ho
         have q5 : a'.tmps[51]?.getD undef = .int .u64 d1:=ev_tmp (hpre { on:=5,ground:=.data } (by simp) rfl).2
         exact s2_same (.int .u64 (16 * d1)) (by unfold Oper.wp execOp; go_simp; all_goals ((try simp only [q5]); (try go_simp); first | done | rfl | exact ⟨rfl,rfl⟩ | rw [HWS.out.1] | rw [HWS.out.2.1] | rw [HWS.out.2.2.1] | rw [HWS.out.2.2.2.1] | rw [HWS.out.2.2.2.2] | trivial)) rfl (rdT_step hT (by decide) (by decide))
        | 7,ho =>
         cases ho
         have q : a'.tmps[0]?.getD undef = .string s:=ev_tmp (hrest 0 (by decide))
         exact s2_same (.string s) (by unfold Oper.wp execOp; go_simp; all_goals ((try simp only [q]); (try go_simp); first | done | rfl | exact ⟨rfl,rfl⟩ | rw [HWS.out.1] | rw [HWS.out.2.1] | rw [HWS.out.2.2.1] | rw [HWS.out.2.2.2.1] | rw [HWS.out.2.2.2.2] | trivial)) rfl (rdT_step hT (by decide) (by decide))
        | 8,ho =>
         cases ho
         have q : a'.tmps[7]?.getD undef = .int .i64 k:=ev_tmp (hrest 7 (by decide))
         exact s2_same (.int .i64 k) (by unfold Oper.wp execOp; go_simp; all_goals ((try simp only [q]); (try go_simp); first | done | rfl | exact ⟨rfl,rfl⟩ | rw [HWS.out.1] | rw [HWS.out.2.1] | rw [HWS.out.2.2.1] | rw [HWS.out.2.2.2.1] | rw [HWS.out.2.2.2.2] | trivial)) rfl (rdT_step hT (by decide) (by decide))
        | 9,ho =>
         cases ho
         have q8 : a'.tmps[54]?.getD undef = .int .i64 k:=ev_tmp (hpre { on:=8,ground:=.data } (by simp) rfl).2
         exact s2_same (.int .i64 (k + 2 : Nat)) (by unfold Oper.wp execOp; go_simp; all_goals ((try simp only [q8]); (try go_simp); first | done | rfl | exact ⟨rfl,rfl⟩ | rw [HWS.out.1] | rw [HWS.out.2.1] | rw [HWS.out.2.2.1] | rw [HWS.out.2.2.2.1] | rw [HWS.out.2.2.2.2] | trivial)) rfl (rdT_step hT (by decide) (by decide))
        | 10,ho =>
         cases ho
         have q7 : a'.tmps[53]?.getD undef = .string s:=ev_tmp (hpre { on:=7,ground:=.data } (by simp) rfl).2
         have q9 : a'.tmps[55]?.getD undef = .int .i64 (k + 2 : Nat):=ev_tmp (hpre { on:=9,ground:=.data } (by simp) rfl).2
         exact s2_same (.int .u8 x2) (by unfold Oper.wp execOp; go_simp; all_goals ((try simp only [q7,q9]); (try go_simp); first | done | rfl | exact ⟨rfl,rfl⟩ | rw [HWS.out.1] | rw [HWS.out.2.1] | rw [HWS.out.2.2.1] | rw [HWS.out.2.2.2.1] | rw [HWS.out.2.2.2.2] | trivial)) rfl (rdT_step hT (by decide) (by decide))
        | 11,ho =>
         cases ho
         have q : a'.tmps.getD 56 undef = .int .u8 x2:=(hpre { on:=10,ground:=.data } (by simp) rfl).2
         exact s2_same (.int .u64 d2) (call_same 56 101 _ _ _ rfl q (enters_of Tryz.func101 (by kernel_rfl) rfl) (K2.out W)) rfl (rdT_step hT (by decide) (by decide))
        | 12,ho =>
         cases ho
         have q6 : a'.tmps[52]?.getD undef = .int .u64 (16 * d1):=ev_tmp (hpre { on:=6,ground:=.data } (by simp) rfl).2
         have q11 : a'.tmps[57]?.getD undef = .int .u64 d2:=ev_tmp (hpre { on:=11,ground:=.data } (by simp) rfl).2
         exact s2_same (.int .u64 (16 * d1 + d2)) (by unfold Oper.wp execOp; go_simp; all_goals ((try simp only [q6,q11]); (try go_simp); first | done | rfl | exact ⟨rfl,rfl⟩ | rw [HWS.out.1] | rw [HWS.out.2.1] | rw [HWS.out.2.2.1] | rw [HWS.out.2.2.2.1] | rw [HWS.out.2.2.2.2] | trivial)) rfl (rdT_step hT (by decide) (by decide))
        | 13,ho =>
         cases ho
         have q12 : a'.tmps[58]?.getD undef = .int .u64 (16 * d1 + d2):=ev_tmp (hpre { on:=12,ground:=.data } (by simp) rfl).2
         exact s2_same (.int .u8 (16 * d1 + d2)) (by unfold Oper.wp execOp; go_simp; all_goals ((try simp only [q12]); (try go_simp); first | done | rfl | exact ⟨rfl,rfl⟩ | rw [HWS.out.1] | rw [HWS.out.2.1] | rw [HWS.out.2.2.1] | rw [HWS.out.2.2.2.1] | rw [HWS.out.2.2.2.2] | trivial)) rfl (rdT_step hT (by decide) (by decide))
        | 14,ho =>
         cases ho
         have q : a'.tmps[59]?.getD undef = .int .u8 (16 * d1 + d2):=ev_tmp (hpre { on:=13,ground:=.data } (by simp) rfl).2
         have hO:=hT.2.1 (hT.2.2.2 hfi)
         have hT':=rdT_step hT (i:=14) (by decide) (by decide)
         unfold Oper.wp execOp
         go_simp
         refine ⟨_,rfl,⟨W.heap.size,rfl,World.alloc_heap_new _ _,fun h => Nat.lt_irrefl _ (hO.1.lt _ h).2⟩,?_,fun j u _ h => RdF.alloc j _ _ u h⟩
         obtain ⟨ta,tb,tc,td⟩:=hT'
         exact ⟨ta.alloc (by have:=hT.1.size; omega) _,fun h => ⟨(tb h).1.alloc _,(tb h).2⟩,tc,td⟩
        | 15,ho =>
         cases ho
         have q46 : a'.eval (.tmp 46) = V:=(hpre { on:=0,ground:=.data } (by simp) rfl).2
         obtain ⟨g,hg1,hg2,hg3⟩:=(hpre { on:=14,ground:=.data } (by simp) rfl).2
         have q60 : a'.eval (.tmp 60) = .slice (some ⟨g,0,none⟩) 1 1:=hg1
         have f0:=(hpre { on:=0,ground:=.data } (by simp) rfl).1
         have f14:=(hpre { on:=14,ground:=.data } (by simp) rfl).1
         have hO:=hT.2.1 hfi
         refine wp_append_own _ _ _ 118 rfl B 5 i0 (.int .u8 0) 1 1 Tryz.underlying118 hi hz0 hz1 hz2 rfl (by decide) V acc.length (acc.map by8) q46 hO.1 ⟨g,0,none⟩ 1 1 [.int .u8 (16 * d1 + d2)] q60 rfl ?_ ?_ ?_ ?_ ?_ ?_
         ·intro j u hj
          match j,hj with
          | 0,hj => simp at hj; subst hj; simp [Addr.add,World.cell?,hg2]
         ·intro u hu; simp at hu; subst hu; rfl
         ·unfold maxLen; omega
         ·omega
         ·have:=hT.1.size; omega
         ·intro v' w' hown' hgrow _
          refine ⟨v',rfl,hown',⟨Below.grown hT.1 hgrow (by have:=hT.1.size; omega) (own_ge hO.1),fun h => by simp at h,fun h => by simp [f0] at h,fun h => by simp [f14] at h⟩,fun j u hj hF => ?_⟩
          match j,hF with
          | 0,h | 1,h | 2,h | 3,h | 4,h | 5,h | 6,h | 7,h | 8,h | 9,h | 10,h | 11,h | 12,h | 13,h => exact h
          | 14,⟨g',h1,h2,h3⟩ => exact ⟨g',h1,(hgrow.block g' (Array.getElem?_eq_some_iff.1 h2).1 (Ne.symm h3)).trans h2,h3⟩
          | 15,h => rw [hfi] at hj; cases hj
          | 16,h => rw [hO.2] at hj; cases hj
          | n + 17,h => exact h.elim
        | 16,ho =>
         cases ho
         have h15:=hpre { on:=15,ground:=.data } (by simp) rfl
         obtain ⟨z,hz⟩ : ∃ z,a'.tmps.getD 61 undef = z:=⟨_,rfl⟩
         have hF15 : W.ownsRow B 5 1 z (acc.length + 1) (acc.map by8 ++ [.int .u8 (16 * d1 + d2)]):=by rw [← hz]; exact h15.2
         have q:=ev_tmp hz
         refine s2_same z (by unfold Oper.wp execOp; go_simp; all_goals ((try simp only [q]); first | done | rfl)) hF15 ?_
         obtain ⟨ta,tb,tc,td⟩:=hT
         exact ⟨ta,fun h => by simp [h15.1] at h,fun h => by simpa using tc (by simpa using h),fun h => by simpa using td (by simpa using h)⟩
        | n + 17,ho => exact absurd ho (by simp)
       case done =>
        intro f vs W hall hT hvs
        have v0 : vs 0 = V:=hvs 0 (by decide)
        have v1 : vs 1 = .string s:=hvs 1 (by decide)
        have v2 : vs 2 = .int .i64 k:=hvs 2 (by decide)
        have v3 : vs 3 = .int .i64 (k + 1 : Nat):=hvs 3 (by decide)
        have v4 : vs 4 = .int .u8 x1:=hvs 4 (by decide)
        have v5 : vs 5 = .int .u64 d1:=hvs 5 (by decide)
        have v6 : vs 6 = .int .u64 (16 * d1):=hvs 6 (by decide)
        have v7 : vs 7 = .string s:=hvs 7 (by decide)
        have v8 : vs 8 = .int .i64 k:=hvs 8 (by decide)
        have v9 : vs 9 = .int .i64 (k + 2 : Nat):=hvs 9 (by decide)
        have v10 : vs 10 = .int .u8 x2:=hvs 10 (by decide)
        have v11 : vs 11 = .int .u64 d2:=hvs 11 (by decide)
        have v12 : vs 12 = .int .u64 (16 * d1 + d2):=hvs 12 (by decide)
        have v13 : vs 13 = .int .u8 (16 * d1 + d2):=hvs 13 (by decide)
        obtain ⟨y14,hy14⟩ : ∃ z,vs 14 = z:=⟨_,rfl⟩
        obtain ⟨y15,hy15⟩ : ∃ z,vs 15 = z:=⟨_,rfl⟩
        obtain ⟨y16,hy16⟩ : ∃ z,vs 16 = z:=⟨_,rfl⟩
        have HO1:=Lib.hid (show W.ownsRow B 5 1 y16 (acc ++ [Gt.two b1 b2]).length ((acc ++ [Gt.two b1 b2]).map by8) by
         rw [List.map_append,List.length_append,← hy16]
         show W.ownsRow B 5 1 (vs 16) (acc.length + 1) (acc.map by8 ++ [.int .u8 ((Gt.two b1 b2).toNat : Int)])
         rw [HTW.out]
         exact hvs 16 (by decide))
        have HB1:=Lib.hid hT.1
        simp only [fillN,List.size_toArray,List.length_cons,List.length_nil,Nat.reduceAdd,show List.range 17 = [0,1,2,3,4,5,6,7,8,9,10,11,12,13,14,15,16] from rfl,List.foldl_cons,List.foldl_nil,show rdSlot 0 = 46 from rfl,show rdSlot 1 = 47 from rfl,show rdSlot 2 = 48 from rfl,show rdSlot 3 = 49 from rfl,show rdSlot 4 = 50 from rfl,show rdSlot 5 = 51 from rfl,show rdSlot 6 = 52 from rfl,show rdSlot 7 = 53 from rfl,show rdSlot 8 = 54 from rfl,show rdSlot 9 = 55 from rfl,show rdSlot 10 = 56 from rfl,show rdSlot 11 = 57 from rfl,show rdSlot 12 = 58 from rfl,show rdSlot 13 = 59 from rfl,show rdSlot 14 = 60 from rfl,show rdSlot 15 = 61 from rfl,show rdSlot 16 = 6 from rfl,v0,v1,v2,v3,v4,v5,v6,v7,v8,v9,v10,v11,v12,v13,hy14,hy15,hy16]
        clear v0 v1 v2 v3 v4 v5 v6 v7 v8 v9 v10 v11 v12 v13 hy14 hy15 hy16 hvs hT
        go_simp
        go_wp2_with fail
        go_roundw
        case rel => exact ⟨k + 3,acc ++ [Gt.two b1 b2],by go_num,HD.out,HO1.out,HB1.out⟩
        case measure => simp [intOf]; omega
   ·have e1 : (x == 37) = false:=beq_eq_false_iff_ne.2 he
    have HD1:=Lib.hid (Gt.dAt_one HA.out HKL.out (fun e => he (by rw [← HX.out,← HC.out,e]; rfl)))
    rw [HC.out] at HD1
    by_cases hp : pl = true ∧ x = 43
    ·obtain ⟨rfl,rfl⟩:=hp
     have HBL:=Lib.hid (show Gt.bl true c = 32 by
      have : c = 43:=UInt8.toNat_inj.1 (by have:=HX.out; show c.toNat = 43; omega)
      subst this; rfl)
     rw [HBL.out] at HD1
     clear he
     go_wp2_with (at_builtin; refine wpList_append_own _ rfl _ _ 118 rfl B 5 i0 (.int .u8 0) 1 1 Tryz.underlying118 hi hz0 hz1 hz2 rfl (by decide) _ _ _ rfl (HN.out.alloc _) ⟨wr.heap.size,0,none⟩ 1 1 [.int .u8 32] rfl rfl ?a1 ?a2 ?a3 ?a4 ?a5 ?_)
     case a1 =>
      intro j u hj
      match j,hj with
      | 0,hj => simp at hj; subst hj; simp [Addr.add]
     case a2 => intro u hu; simp at hu; subst hu; rfl
     case a3 => unfold maxLen; omega
     case a4 => omega
     case a5 => have:=HB.out.size; simp; omega
     intro v' w1 hown' hgrow _
     have HB1:=Lib.hid (show Below B w w1 from Below.grown (HB.out.alloc (by have:=HB.out.size; omega) _) hgrow (by have:=HB.out.size; simp; omega) (own_ge HN.out))
     have HO1:=Lib.hid (show w1.ownsRow B 5 1 v' (acc ++ [32]).length ((acc ++ [32]).map by8) by
      rw [List.map_append,List.length_append]
      exact hown')
     clear hgrow hown'
     go_wp2
     go_roundw
     case rel => exact ⟨k + 1,acc ++ [32],by go_num,HD1.out,HO1.out,HB1.out⟩
     case measure => simp [intOf]; omega
    ·have HBL:=Lib.hid (show Gt.bl pl c = c by
      unfold Gt.bl
      rw [if_neg]
      intro h
      rw [Bool.and_eq_true,beq_iff_eq] at h
      exact hp ⟨h.1,by rw [← HX.out,h.2]; rfl⟩)
     rw [HBL.out] at HD1
     have HPP:=Lib.hid hp
     clear he hp
     cases pl with
     | false =>
      go_wp2_with (at_builtin; refine wpList_append_own _ rfl _ _ 118 rfl B 5 i0 (.int .u8 0) 1 1 Tryz.underlying118 hi hz0 hz1 hz2 rfl (by decide) _ _ _ rfl (HN.out.alloc _) ⟨wr.heap.size,0,none⟩ 1 1 [.int .u8 x] rfl rfl ?b1 ?b2 ?b3 ?b4 ?b5 ?_)
      case b1 =>
       intro j u hj
       match j,hj with
       | 0,hj => simp at hj; subst hj; simp [Addr.add]
      case b2 => intro u hu; simp at hu; subst hu; rfl
      case b3 => unfold maxLen; omega
      case b4 => omega
      case b5 => have:=HB.out.size; simp; omega
      intro v' w1 hown' hgrow _
      have HB1:=Lib.hid (show Below B w w1 from Below.grown (HB.out.alloc (by have:=HB.out.size; omega) _) hgrow (by have:=HB.out.size; simp; omega) (own_ge HN.out))
      have HO1:=Lib.hid (show w1.ownsRow B 5 1 v' (acc ++ [c]).length ((acc ++ [c]).map by8) by
       rw [List.map_append,List.length_append]
       show w1.ownsRow B 5 1 v' (acc.length + 1) (acc.map by8 ++ [.int .u8 (c.toNat : Int)])
       rw [HX.out]
       exact hown')
      clear hgrow hown'
      go_wp2
      go_roundw
      case rel => exact ⟨k + 1,acc ++ [c],by go_num,HD1.out,HO1.out,HB1.out⟩
      case measure => simp [intOf]; omega
     | true =>
      have e2 : (x == 43) = false:=beq_eq_false_iff_ne.2 (fun e => HPP.out ⟨rfl,e⟩)
      go_wp2_with (at_builtin; refine wpList_append_own _ rfl _ _ 118 rfl B 5 i0 (.int .u8 0) 1 1 Tryz.underlying118 hi hz0 hz1 hz2 rfl (by decide) _ _ _ rfl (HN.out.alloc _) ⟨wr.heap.size,0,none⟩ 1 1 [.int .u8 x] rfl rfl ?e1 ?e2 ?e3 ?e4 ?e5 ?_)
      case e2 => first | rfl | (intro u hu; simp at hu; subst hu; rfl)
      case e3 => unfold maxLen; omega
      case e4 => omega
      case e5 => have:=HB.out.size; simp; omega
      intro v' w1 hown' hgrow _
      have HB1:=Lib.hid (show Below B w w1 from Below.grown (HB.out.alloc (by have:=HB.out.size; omega) _) hgrow (by have:=HB.out.size; simp; omega) (own_ge HN.out))
      have HO1:=Lib.hid (show w1.ownsRow B 5 1 v' (acc ++ [c]).length ((acc ++ [c]).map by8) by
       rw [List.map_append,List.length_append]
       show w1.ownsRow B 5 1 v' (acc.length + 1) (acc.map by8 ++ [.int .u8 (c.toNat : Int)])
       rw [HX.out]
       exact hown')
      clear hgrow hown'
      go_wp2
      go_roundw
      case rel => exact ⟨k + 1,acc ++ [c],by go_num,HD1.out,HO1.out,HB1.out⟩
      case measure => simp [intOf]; omega
  ·have HE:=Lib.hid (Gt.dAt_end HA.out (by rw [HL.out]; omega))
   have hcv:=conv_brow (BRow.of_own HN.out)
   go_wp2_with fail
   go_ret2
   refine ⟨?_,HB.out⟩
   rw [← HO.out,HE.out]; rfl
end Go.Proofs.YtfacmnooklljnaaGreatDoor
namespace Go.Proofs.YtfacmnooklljnaaGreatDoor
open Go.RowKit Go.Shelf
set_option maxHeartbeats 2000000
set_option maxRecDepth 100000
def SR (w : World) (v : Value) (L : List ByteArray) : Prop :=
 (∃ p c,v = .slice p 0 c ∧ L = []) ∨ ∃ b off cap,v = .slice (some ⟨b,off,none⟩) L.length cap ∧ b < w.heap.size ∧ ∀ j (h : j < L.length),w.cell? ⟨b,off + j,none⟩ = some (.string L[j])
theorem SR.below {w w' : World} {v : Value} {L : List ByteArray} (h : SR w v L) (k : Below w.heap.size w w') : SR w' v L:=by
 rcases h with h | ⟨b,off,cap,h1,h2,h3⟩
 ·exact .inl h
 ·exact .inr ⟨b,off,cap,h1,Nat.lt_of_lt_of_le h2 k.size,fun j hj => (k.cell (p:=⟨b,off + j,none⟩) h2).trans (h3 j hj)⟩
end Go.Proofs.YtfacmnooklljnaaGreatDoor
namespace Go.Proofs.YtfacmnooklljnaaGreatDoor
open Go.RowKit Go.Shelf
set_option maxHeartbeats 4000000
set_option maxRecDepth 100000
theorem ref_between (s : ByteArray) (z : UInt8) (w : World) (hs : s.size ≤ 100000) :
  Calls Tryz.prog 60 #[.string s,.int .u8 (z.toNat : Int)] w fun e w' => ∃ r,e = .returned r ∧ StrRow w' r (Gs.parts z [] s.data.toList) ∧ Below w.heap.size w w':=by
 obtain ⟨i0,hi,hz0,hz1,hz2⟩:=info_parts (show (Tryz.prog.info? 9).map (fun i => (i.zero,i.size,i.bytes)) = some (some (.string ByteArray.empty),1,16) by kernel_rfl)
 obtain ⟨B,hB⟩ : ∃ B,w.heap.size = B:=⟨_,rfl⟩
 rw [hB]
 have HL:=Lib.hid (show s.data.toList.length = s.size from rfl)
 have HSL:=Lib.hid (fun a k h1 h2 W => slice_mid s W a k h1 h2 (by omega))
 obtain ⟨y,hy⟩ : ∃ y : Int,(z.toNat : Int) = y:=⟨_,rfl⟩
 have HY:=Lib.hid hy
 rw [hy]
 clear hy
 go_enter Tryz.func60,Tryz.ntmps60
 go_wp2_with fail
 go_loopw [5,6,7] (fun v f i wr => ∃ (k a : Nat) (L : List (List UInt8)),k ≤ s.size + 1 ∧ i = .int .i64 k ∧ f = .int .i64 a ∧ Gs.SAt z s.data.toList L a k ∧ wr.ownsRow B 9 1 v L.length (L.map tx) ∧ Below B w wr) (fun _ _ i _ => s.size + 1 - (intOf i).toNat)
 case atStart => exact ⟨0,0,[],Nat.zero_le _,rfl,rfl,Gs.sAt_start _ _,World.ownsRow_nil _ _ _ _,Below.refl _ _⟩
 case round =>
  obtain ⟨k,a,L,hk,rfl,rfl,hat,hown,hb⟩:=hrel
  have HA:=Lib.hid hat
  have HO:=Lib.hid hown
  have HB:=Lib.hid hb
  clear hat hown hb
  by_cases hle : k ≤ s.size
  ·have ha : a ≤ k:=Gs.sAt_ha HA.out (by rw [HL.out]; exact hle)
   have hsl:=HSL.out a k ha hle
   obtain ⟨q,hq⟩ : ∃ q,s.extract a k = q:=⟨_,rfl⟩
   have hqd : (s.data.toList.drop a).take (k - a) = q.data.toList:=by rw [← hq,Lib.extract_data]
   rw [hq] at hsl
   have HTQ:=Lib.hid (show tx q.data.toList = .string q by unfold tx; rfl)
   have HQD:=Lib.hid hqd
   clear hqd hq
   by_cases hcut : ∀ h : k < s.size,s[k]'h = z
   ·have HM0:=Lib.hid (Gs.sAt_cut HA.out (by rw [HL.out]; exact hle) (fun hh => hcut hh))
    rw [HQD.out] at HM0
    by_cases hlt : k < s.size
    ·have hsx : ((s[k]'hlt).toNat : Int) = y:=by rw [hcut hlt]; exact HY.out
     have hkn : ((k : Int) == (s.size : Int)) = false:=beq_eq_false_iff_ne.2 (by omega)
     clear hcut
     go_wp2_with (first
      | (at_builtin; refine wpList_append_own _ rfl _ _ 33 rfl B 9 i0 (.string ByteArray.empty) 1 16 Tryz.underlying33 hi hz0 hz1 hz2 rfl (by decide) _ _ _ rfl (HO.out.alloc _) ⟨wr.heap.size,0,none⟩ 1 1 [.string q] rfl rfl ?c1 ?c2 ?c3 ?c4 ?c5 ?_)
      | simp only [hsl])
     case c1 =>
      intro j u hj
      match j,hj with
      | 0,hj => simp at hj; subst hj; simp [Addr.add]
     case c2 => intro u hu; simp at hu; subst hu; rfl
     case c3 => have:=HA.out.1; unfold maxLen; omega
     case c4 => have:=HA.out.1; omega
     case c5 => have:=HB.out.size; simp; omega
     intro v' w1 hown' hgrow _
     have hb1 : Below B w w1:=Below.grown (HB.out.alloc (by have:=HB.out.size; omega) _) hgrow (by have:=HB.out.size; simp; omega) (own_ge HO.out)
     have HB1:=Lib.hid hb1
     have ho : w1.ownsRow B 9 1 v' (L ++ [q.data.toList]).length ((L ++ [q.data.toList]).map tx):=by
      rw [List.map_append,List.length_append]
      show w1.ownsRow B 9 1 v' _ (_ ++ [tx q.data.toList])
      rw [HTQ.out]
      exact hown'
     have HO1:=Lib.hid ho
     clear ho hb1 hgrow hown'
     go_wp2
     go_roundw
     case rel => exact ⟨k + 1,k + 1,L ++ [q.data.toList],by omega,by go_num,by go_num,HM0.out,HO1.out,HB1.out⟩
     case measure => simp [intOf]; omega
    ·have hke : k = s.size:=by omega
     have hkn : ((k : Int) == (s.size : Int)) = true:=beq_iff_eq.2 (by omega)
     clear hcut hke hlt
     go_wp2_with (first
      | (at_builtin; refine wpList_append_own _ rfl _ _ 33 rfl B 9 i0 (.string ByteArray.empty) 1 16 Tryz.underlying33 hi hz0 hz1 hz2 rfl (by decide) _ _ _ rfl (HO.out.alloc _) ⟨wr.heap.size,0,none⟩ 1 1 [.string q] rfl rfl ?c1 ?c2 ?c3 ?c4 ?c5 ?_)
      | simp only [hsl])
     case c1 =>
      intro j u hj
      match j,hj with
      | 0,hj => simp at hj; subst hj; simp [Addr.add]
     case c2 => intro u hu; simp at hu; subst hu; rfl
     case c3 => have:=HA.out.1; unfold maxLen; omega
     case c4 => have:=HA.out.1; omega
     case c5 => have:=HB.out.size; simp; omega
     intro v' w1 hown' hgrow _
     have hb1 : Below B w w1:=Below.grown (HB.out.alloc (by have:=HB.out.size; omega) _) hgrow (by have:=HB.out.size; simp; omega) (own_ge HO.out)
     have HB1:=Lib.hid hb1
     have ho : w1.ownsRow B 9 1 v' (L ++ [q.data.toList]).length ((L ++ [q.data.toList]).map tx):=by
      rw [List.map_append,List.length_append]
      show w1.ownsRow B 9 1 v' _ (_ ++ [tx q.data.toList])
      rw [HTQ.out]
      exact hown'
     have HO1:=Lib.hid ho
     clear ho hb1 hgrow hown'
     go_wp2
     go_roundw
     case rel => exact ⟨k + 1,k + 1,L ++ [q.data.toList],by omega,by go_num,by go_num,HM0.out,HO1.out,HB1.out⟩
     case measure => simp [intOf]; omega
   ·have hlt : k < s.size:=by
     by_cases h : k < s.size
     ·exact h
     ·exact absurd (fun h' => absurd h' h) hcut
    have hkn : ((k : Int) == (s.size : Int)) = false:=beq_eq_false_iff_ne.2 (fun e => Nat.ne_of_lt hlt (Int.ofNat.inj e))
    have hne : s[k]'hlt ≠ z:=fun e => hcut (fun _ => e)
    have HM:=Lib.hid (Gs.sAt_more HA.out (by rw [HL.out]; exact hlt) hne)
    obtain ⟨x,hx⟩ : ∃ x : Int,((s[k]'hlt).toNat : Int) = x:=⟨_,rfl⟩
    have e1 : (x == y) = false:=beq_eq_false_iff_ne.2 (fun e => hne (UInt8.toNat_inj.1 (Int.ofNat.inj ((hx.trans e).trans HY.out.symm))))
    clear hcut hne
    go_wp2_with fail
    go_roundw
    case rel => exact ⟨k + 1,a,L,by omega,by go_num,rfl,HM.out,HO.out,HB.out⟩
    case measure => simp [intOf]; omega
  ·have hL : L = Gs.parts z [] s.data.toList:=Gs.sAt_end HA.out (by rw [HL.out]; omega)
   have HL2:=Lib.hid hL
   clear hL
   go_wp2_with fail
   go_ret
   exact ⟨_,rfl,strRow_own (by rw [← HL2.out]; exact HO.out),HB.out⟩
end Go.Proofs.YtfacmnooklljnaaGreatDoor
namespace Go.Proofs.YtfacmnooklljnaaGreatDoor
open Go.RowKit Go.Shelf
set_option maxHeartbeats 4000000
set_option maxRecDepth 100000
theorem _root_.Go.World.ownsRow.belowed {w w' : World} {base : Nat} {e : TypeId} {size : Nat} {v : Value} {n : Nat} {xs : List Value} (h : w.ownsRow base e size v n xs) (k : Below w.heap.size w w') : w'.ownsRow base e size v n xs:=by
 refine ⟨h.1,h.2.imp id ?_⟩
 rintro ⟨g,cap,cur,h1,h2,h3,h4⟩
 refine ⟨g,cap,cur,h1,h2,(k.block g ?_).trans h3,h4⟩
 rcases Nat.lt_or_ge g w.heap.size with h' | h'
 ·exact h'
 ·rw [Array.getElem?_eq_none h'] at h3; simp at h3
theorem tg_made (f : FuncId) (g : List UInt8 → Option (List UInt8)) (v : Value) (L : List ByteArray) (w : World) (hv : SR w v L) (hL : L.length ≤ 100000)
  (hce : ∀ args W,(callFunc f args).run Tryz.prog W = .ok (.enter f args) W)
  (hf : ∀ s ∈ L,∀ W,Calls Tryz.prog f #[.string s] W fun e w' => e = decEnd (g s.data.toList) ∧ Below W.heap.size W w') :
  Calls Tryz.prog 49 #[.func (.func f) #[] #[],v] w fun e w' =>
   ((∃ R r,Gt.all? g (L.map (·.data.toList)) = some R ∧ e = .returned r ∧ StrRow w' r R) ∨ (Gt.all? g (L.map (·.data.toList)) = none ∧ e = .panicked [{ v:=errno 210,recovered:=false }])) ∧ Below w.heap.size w w':=by
 obtain ⟨i0,hi,hz0,hz1,hz2⟩:=info_parts (show (Tryz.prog.info? 9).map (fun i => (i.zero,i.size,i.bytes)) = some (some (.string ByteArray.empty),1,16) by kernel_rfl)
 obtain ⟨B,hB⟩ : ∃ B,w.heap.size = B:=⟨_,rfl⟩
 rw [hB]
 rcases hv with ⟨p0,c0,rfl,rfl⟩ | ⟨b,off,cap,rfl,hb,hc⟩
 ·go_enter Tryz.func49,Tryz.ntmps49
  go_wp2_with fail
  go_loopw [4,9] (fun v i wr => v = .slice none 0 0 ∧ i = .int .i64 0 ∧ wr = w) (fun _ _ _ => 0)
  case atStart => exact ⟨rfl,rfl,rfl⟩
  case round =>
   obtain ⟨rfl,rfl,rfl⟩:=hrel
   go_wp2_with fail
   go_ret
   exact ⟨.inl ⟨[],_,rfl,rfl,⟨none,0,rfl,.inl rfl⟩⟩,Below.refl _ _⟩
 ·have HC:=Lib.hid hc
  have HF:=Lib.hid hf
  obtain ⟨N,hN⟩ : ∃ N,L.length = N:=⟨_,rfl⟩
  have HNL:=Lib.hid hN
  have HBB:=Lib.hid hb
  rw [hN] at hL ⊢
  obtain ⟨M,hM⟩ : ∃ M,L.map (·.data.toList) = M:=⟨_,rfl⟩
  rw [hM]
  have HML:=Lib.hid (show M.length = N by rw [← hM,List.length_map,hN])
  have HM:=Lib.hid hM
  clear hc hf hM hN hb
  go_enter Tryz.func49,Tryz.ntmps49
  go_wp2_with fail
  go_loopw [4,9] (fun v i wr => ∃ (k : Nat) (acc : List (List UInt8)),k ≤ N ∧ i = .int .i64 k ∧ Gt.AAt g M acc k ∧ wr.ownsRow B 9 1 v acc.length (acc.map tx) ∧ Below B w wr)
   (fun _ i _ => N - (intOf i).toNat)
  case atStart => exact ⟨0,[],Nat.zero_le _,rfl,Gt.aAt_start _ _,World.ownsRow_nil _ _ _ _,Below.refl _ _⟩
  case round =>
   obtain ⟨k,acc,hk,rfl,hat,hown,hbl⟩:=hrel
   have HA:=Lib.hid hat
   have HO:=Lib.hid hown
   have HBL:=Lib.hid hbl
   clear hat hown hbl
   by_cases hlt : k < N
   ·have hkl : k < L.length:=by have:=HNL.out; omega
    have HBW:=Lib.hid (show b < B by rw [← hB]; exact HBB.out)
    have hck : wr.cell? ⟨b,off + k,none⟩ = some (.string L[k]):=(HBL.out.cell (p:=⟨b,off + k,none⟩) HBW.out).trans (HC.out k hkl)
    obtain ⟨S,hS⟩ : ∃ S,L[k] = S:=⟨_,rfl⟩
    rw [hS] at hck
    have HKM:=Lib.hid (show k < M.length by rw [HML.out]; exact hlt)
    have HMK:=Lib.hid (show M[k]'HKM.out = S.data.toList by
     have : M[k]? = some S.data.toList:=by rw [← HM.out,List.getElem?_map,List.getElem?_eq_getElem hkl,hS]; rfl
     exact (List.getElem?_eq_some_iff.1 this).2)
    have K:=Lib.hid (HF.out S (by rw [← hS]; exact List.getElem_mem _) wr)
    clear hS hkl
    cases hg : g S.data.toList with
    | none =>
     rw [hg] at K
     have HN:=Lib.hid (Gt.aAt_bad HA.out HKM.out (by rw [HMK.out]; exact hg))
     clear hg
     go_wp2_with fail
     refine K.out.mono ?_
     rintro e w2 ⟨rfl,hb2⟩
     exact ⟨rfl,.inr ⟨HN.out,rfl⟩,HBL.out.trans (hb2.mono (hB ▸ HBL.out.size))⟩
    | some q =>
     rw [hg] at K
     have HN:=Lib.hid (Gt.aAt_next HA.out HKM.out (by rw [HMK.out]; exact hg))
     clear hg
     go_wp2_with fail
     refine K.out.mono ?_
     rintro e w2 ⟨rfl,hb2⟩
     have HB2:=Lib.hid (HBL.out.trans (hb2.mono (hB ▸ HBL.out.size)))
     have HO2:=Lib.hid (show w2.ownsRow B 9 1 _ acc.length (acc.map tx) from HO.out.belowed hb2)
     simp only [decEnd]
     obtain ⟨qb,hqb⟩ : ∃ z : ByteArray,(⟨q.toArray⟩ : ByteArray) = z:=⟨_,rfl⟩
     rw [hqb]
     have HTQ:=Lib.hid (show tx q = .string qb by unfold tx; rw [hqb])
     clear hb2 hqb K
     go_wp2_with (at_builtin; refine wpList_append_own _ rfl _ _ 33 rfl B 9 i0 (.string ByteArray.empty) 1 16 Tryz.underlying33 hi hz0 hz1 hz2 rfl (by decide) _ _ _ rfl (HO2.out.alloc _) ⟨w2.heap.size,0,none⟩ 1 1 [.string qb] rfl rfl ?c1 ?c2 ?c3 ?c4 ?c5 ?_)
     case c1 =>
      intro j u hj
      match j,hj with
      | 0,hj => simp at hj; subst hj; simp [Addr.add]
     case c2 => intro u hu; simp at hu; subst hu; rfl
     case c3 => have:=HA.out.2.1; unfold maxLen; omega
     case c4 => have:=HA.out.2.1; omega
     case c5 => have:=HB2.out.size; simp; omega
     intro v' w3 hown' hgrow _
     have HB3:=Lib.hid (show Below B w w3 from Below.grown (HB2.out.alloc (by have:=HB2.out.size; omega) _) hgrow (by have:=HB2.out.size; simp; omega) (own_ge HO2.out))
     have HO3:=Lib.hid (show w3.ownsRow B 9 1 v' (acc ++ [q]).length ((acc ++ [q]).map tx) by
      rw [List.map_append,List.length_append]
      show w3.ownsRow B 9 1 v' _ (_ ++ [tx q])
      rw [HTQ.out]
      exact hown')
     clear hgrow hown'
     go_wp2
     go_roundw
     case rel => exact ⟨k + 1,acc ++ [q],hlt,by go_num,HN.out,HO3.out,HB3.out⟩
     case measure => simp [intOf]; omega
   ·have HE:=Lib.hid (Gt.aAt_end HA.out (by rw [HML.out]; omega))
    go_wp2_with fail
    go_ret
    exact ⟨.inl ⟨acc,_,HE.out,rfl,strRow_own HO.out⟩,HBL.out⟩
end Go.Proofs.YtfacmnooklljnaaGreatDoor
namespace Go.Proofs.YtfacmnooklljnaaGreatDoor
open Go.RowKit Go.Shelf
set_option maxHeartbeats 4000000
set_option maxRecDepth 100000
def Mx (w : World) : Prop:=∃ m,w.cell? ⟨0,0,none⟩ = some (.int .i64 m)
theorem Mx.below {w w' : World} {B : Nat} (h : Mx w) (k : Below B w w') (hB : 0 < B) : Mx w':=by
 obtain ⟨m,hm⟩:=h
 exact ⟨m,(k.cell (p:=⟨0,0,none⟩) hB).trans hm⟩
def prEnd (o : Option (List UInt8 × List UInt8)) : Ending:=match o with
 | some (k,v) => .returned (.agg #[.string ⟨k.toArray⟩,.string ⟨v.toArray⟩])
 | none => .panicked [{ v:=errno 210,recovered:=false }]
theorem pair_all (l : List UInt8) : Gt.all? (Gt.dec true) [l.take (Gs.pos 61 l),l.drop (Gs.pos 61 l + 1)] = (Gt.pairOf l).map fun p => [p.1,p.2]:=by
 unfold Gt.pairOf
 cases h1 : Gt.dec true (l.take (Gs.pos 61 l)) with
 | none => rw [Gt.all_none h1]; rfl
 | some a =>
  rw [Gt.all_some h1]
  cases h2 : Gt.dec true (l.drop (Gs.pos 61 l + 1)) with
  | none => rw [Gt.all_none h2]; rfl
  | some b => rw [Gt.all_some h2,Gt.all_nil]; rfl
theorem pair1_enter (args : Array Value) (W : World) : (callFunc 95 args).run Tryz.prog W = .ok (.enter 95 args) W:=by
 simp [callFunc,go_sem,Tryz.func95]
 rw [if_neg (by decide),if_neg (by decide)]
theorem tg_pair (s : ByteArray) (w : World) (hs : s.size ≤ 1000000) (hm : Mx w) (h0 : 0 < w.heap.size) :
  Calls Tryz.prog 53 #[.string s] w fun e w' => e = prEnd (Gt.pairOf s.data.toList) ∧ Below w.heap.size w w':=by
 obtain ⟨m,hm'⟩:=hm.below (w':=w.alloc (.cells #[.string ⟨#[]⟩,.string ⟨#[]⟩] 93)) ((Below.refl _ _).alloc (Nat.le_refl _) _) h0
 have KC:=Lib.hid (Tryz.strings_Cut s ⟨#[61]⟩ m _ (by omega) hm')
 rw [show (⟨#[61]⟩ : ByteArray).data.toList = [61] from rfl,Gs.cut_is] at KC
 obtain ⟨kb,hk⟩ : ∃ z : ByteArray,(⟨(s.data.toList.take (Gs.pos 61 s.data.toList)).toArray⟩ : ByteArray) = z:=⟨_,rfl⟩
 obtain ⟨vb,hv⟩ : ∃ z : ByteArray,(⟨(s.data.toList.drop (Gs.pos 61 s.data.toList + 1)).toArray⟩ : ByteArray) = z:=⟨_,rfl⟩
 obtain ⟨is,his⟩ : ∃ b,decide (Gs.pos 61 s.data.toList < s.data.toList.length) = b:=⟨_,rfl⟩
 simp only [hk,hv,his] at KC
 have HPA:=Lib.hid (pair_all s.data.toList)
 have hkl : kb.data.toList = s.data.toList.take (Gs.pos 61 s.data.toList):=by rw [← hk]
 have hvl : vb.data.toList = s.data.toList.drop (Gs.pos 61 s.data.toList + 1):=by rw [← hv]
 rw [← hkl,← hvl] at HPA
 obtain ⟨o,ho⟩ : ∃ o,Gt.pairOf s.data.toList = o:=⟨_,rfl⟩
 rw [ho] at HPA ⊢
 clear ho
 have HKS:=Lib.hid (show kb.size ≤ 1000000 by
  have h1 : kb.data.toList.length = kb.size:=rfl
  have h2 : s.data.toList.length = s.size:=rfl
  rw [hkl,List.length_take] at h1; omega)
 have HVS:=Lib.hid (show vb.size ≤ 1000000 by
  have h1 : vb.data.toList.length = vb.size:=rfl
  have h2 : s.data.toList.length = s.size:=rfl
  rw [hvl,List.length_drop] at h1; omega)
 clear hm' hk hv his hkl hvl hm
 go_enter Tryz.func53,Tryz.ntmps53
 go_wp2_with fail
 refine KC.out.mono ?_
 rintro e w2 ⟨rfl,n,hw2⟩
 have HB2:=Lib.hid (show Below w.heap.size w w2 by rw [hw2]; exact below_drewN ((Below.refl _ _).alloc (Nat.le_refl _) _) n)
 have HT2:=Lib.hid (show w2.heap[w.heap.size]? = some (.cells #[.string ⟨#[]⟩,.string ⟨#[]⟩] 93 (0,0)) by rw [hw2]; exact World.alloc_heap_new _ _)
 have HS2:=Lib.hid (show w2.heap.size = w.heap.size + 1 by rw [hw2]; simp)
 clear hw2 KC
 go_wp2_with fail
 rw [HS2.out]
 obtain ⟨W3,hW3⟩ : ∃ W,w2.alloc (.cells #[.string kb,.string vb] 9) = W:=⟨_,rfl⟩
 rw [hW3]
 have HB3:=Lib.hid (show Below w.heap.size w W3 by rw [← hW3]; exact HB2.out.alloc (by rw [HS2.out]; omega) _)
 have HT3:=Lib.hid (show W3.heap[w.heap.size]? = some (.cells #[.string ⟨#[]⟩,.string ⟨#[]⟩] 93 (0,0)) by rw [← hW3,Below.heap_alloc _ _ _ (by rw [HS2.out]; omega)]; exact HT2.out)
 have HS3:=Lib.hid (show W3.heap.size = w.heap.size + 2 by rw [← hW3]; simp [HS2.out])
 have HSR:=Lib.hid (show SR W3 (.slice (some ⟨w.heap.size + 1,0,none⟩) 2 2) [kb,vb] from .inr ⟨w.heap.size + 1,0,2,rfl,by rw [HS3.out]; omega,fun j hj => by
  have hnew : W3.heap[w.heap.size + 1]? = some (.cells #[.string kb,.string vb] 9 (0,0)):=by rw [← hW3,← HS2.out]; exact World.alloc_heap_new _ _
  match j,hj with
  | 0,_ => simp [World.cell?,hnew]
  | 1,_ => simp [World.cell?,hnew]⟩)
 have K:=Lib.hid (tg_made 95 (Gt.dec true) _ _ W3 HSR.out (by simp) pair1_enter (fun z hz W => tg_pair1 z W (by
  simp only [List.mem_cons,List.mem_nil_iff,or_false] at hz
  rcases hz with rfl | rfl
  ·exact HKS.out
  ·exact HVS.out)))
 clear hW3
 refine K.out.mono ?_
 rintro e w4 ⟨hor,hb4⟩
 have HB4:=Lib.hid (HB3.out.trans (hb4.mono HB3.out.size))
 have HT4:=Lib.hid ((hb4.block w.heap.size (by rw [HS3.out]; omega)).trans HT3.out)
 clear hb4 K
 rw [show ([kb,vb] : List ByteArray).map (·.data.toList) = [kb.data.toList,vb.data.toList] from rfl,HPA.out] at hor
 rcases hor with ⟨R,r,h1,rfl,hrow⟩ | ⟨h1,rfl⟩
 ·cases o with
  | none => simp at h1
  | some p =>
   obtain ⟨a,d⟩:=p
   simp at h1
   subst h1
   obtain ⟨pp,cap,rfl,hcells⟩:=hrow
   rcases hcells with h | ⟨g,rfl,hcells⟩
   ·simp at h
   have e0 : w4.cell? ⟨g,0,none⟩ = some (.string ⟨a.toArray⟩):=hcells 0 (by simp)
   have e1 : w4.cell? ⟨g,1,none⟩ = some (.string ⟨d.toArray⟩):=hcells 1 (by simp)
   have t0 : w4.cell? ⟨w.heap.size,0,none⟩ = some (.string ⟨#[]⟩):=by simp [World.cell?,HT4.out]
   have t1 : w4.cell? ⟨w.heap.size,1,none⟩ = some (.string ⟨#[]⟩):=by simp [World.cell?,HT4.out]
   have z0 : w4.frozen? ⟨w.heap.size,0,none⟩ = false:=frozen_of_row _ _ _ _ _ HT4.out
   have z1 : w4.frozen? ⟨w.heap.size,1,none⟩ = false:=frozen_of_row _ _ _ _ _ HT4.out
   clear hcells
   go_wp2_with fail
   go_region
   have HB5:=Lib.hid (((HB4.out.setCell (p:=⟨w.heap.size,0,none⟩) (Nat.le_refl _) (.string ⟨a.toArray⟩)).setCell (p:=⟨w.heap.size,1,none⟩) (Nat.le_refl _) (.string ⟨d.toArray⟩)).drew)
   have hT5 : ((w4.setCell ⟨w.heap.size,0,none⟩ (.string ⟨a.toArray⟩)).setCell ⟨w.heap.size,1,none⟩ (.string ⟨d.toArray⟩)).drew.heap[w.heap.size]? = some (.cells #[.string ⟨a.toArray⟩,.string ⟨d.toArray⟩] 93 (0,0)) :=
    heap_setCell_same _ _ _ _ _ _ (heap_setCell_same _ _ _ _ _ _ HT4.out)
   obtain ⟨w5,hw5⟩ : ∃ W,((w4.setCell ⟨w.heap.size,0,none⟩ (.string ⟨a.toArray⟩)).setCell ⟨w.heap.size,1,none⟩ (.string ⟨d.toArray⟩)).drew = W:=⟨_,rfl⟩
   rw [hw5] at HB5 hT5 ⊢
   have f0 : w5.cell? ⟨w.heap.size,0,none⟩ = some (.string ⟨a.toArray⟩):=by simp [World.cell?,hT5]
   have f1 : w5.cell? ⟨w.heap.size,1,none⟩ = some (.string ⟨d.toArray⟩):=by simp [World.cell?,hT5]
   clear hw5 hT5
   go_wp2
   exact bodyPost_ret (by simp [results,Tryz.results53,go_sem,f0,f1]) rfl ⟨rfl,HB5.out⟩
 ·cases o with
  | none => exact ⟨rfl,rfl,HB4.out⟩
  | some p => simp at h1
end Go.Proofs.YtfacmnooklljnaaGreatDoor
namespace Go.Proofs.YtfacmnooklljnaaGreatDoor
open Go.RowKit Go.Shelf
set_option maxHeartbeats 4000000
set_option maxRecDepth 100000
def prs (l : List (List UInt8 × List UInt8)) : List Value:=l.flatMap fun p => [tx p.1,tx p.2]
theorem prs_snoc (l : List (List UInt8 × List UInt8)) (p : List UInt8 × List UInt8) : prs (l ++ [p]) = prs l ++ [tx p.1,tx p.2]:=by unfold prs; rw [List.flatMap_append]; simp
def PrRow (w : World) (v : Value) (L : List (List UInt8 × List UInt8)) : Prop:=∃ B,w.ownsRow B 93 2 v L.length (prs L)
theorem own_ge2 {w : World} {B : Nat} {e : TypeId} {s : Nat} {v : Value} {n : Nat} {xs : List Value} (h : w.ownsRow B e s v n xs) : ∀ k,v.ownBlock = some k → B ≤ k:=fun k hk => (h.lt k hk).1
theorem tg_madeP (f : FuncId) (g : List UInt8 → Option (List UInt8 × List UInt8)) (v : Value) (L : List ByteArray) (w : World) (hv : SR w v L) (hL : L.length ≤ 100000)
  (hce : ∀ args W,(callFunc f args).run Tryz.prog W = .ok (.enter f args) W)
  (hf : ∀ s ∈ L,∀ W,Below w.heap.size w W → Calls Tryz.prog f #[.string s] W fun e w' => e = prEnd (g s.data.toList) ∧ Below W.heap.size W w') :
  Calls Tryz.prog 52 #[.func (.func f) #[] #[],v] w fun e w' =>
   ((∃ R r,Gt.all? g (L.map (·.data.toList)) = some R ∧ e = .returned r ∧ PrRow w' r R) ∨ (Gt.all? g (L.map (·.data.toList)) = none ∧ e = .panicked [{ v:=errno 210,recovered:=false }])) ∧ Below w.heap.size w w':=by
 obtain ⟨i0,hi,hz0,hz1,hz2⟩:=info_parts (show (Tryz.prog.info? 93).map (fun i => (i.zero,i.size,i.bytes)) = some (some (.agg #[.string ByteArray.empty,.string ByteArray.empty]),2,32) by kernel_rfl)
 obtain ⟨B,hB⟩ : ∃ B,w.heap.size = B:=⟨_,rfl⟩
 rw [hB]
 rcases hv with ⟨p0,c0,rfl,rfl⟩ | ⟨b,off,cap,rfl,hb,hc⟩
 ·go_enter Tryz.func52,Tryz.ntmps52
  go_wp2_with fail
  go_loopw [4,9] (fun v i wr => v = .slice none 0 0 ∧ i = .int .i64 0 ∧ wr = w) (fun _ _ _ => 0)
  case atStart => exact ⟨rfl,rfl,rfl⟩
  case round =>
   obtain ⟨rfl,rfl,rfl⟩:=hrel
   go_wp2_with fail
   go_ret
   exact ⟨.inl ⟨[],_,rfl,rfl,⟨0,World.ownsRow_nil _ _ _ _⟩⟩,Below.refl _ _⟩
 ·have HC:=Lib.hid hc
  have HF:=Lib.hid hf
  obtain ⟨N,hN⟩ : ∃ N,L.length = N:=⟨_,rfl⟩
  have HNL:=Lib.hid hN
  have HBB:=Lib.hid hb
  rw [hN] at hL ⊢
  obtain ⟨M,hM⟩ : ∃ M,L.map (·.data.toList) = M:=⟨_,rfl⟩
  rw [hM]
  have HML:=Lib.hid (show M.length = N by rw [← hM,List.length_map,hN])
  have HM:=Lib.hid hM
  clear hc hf hM hN hb
  go_enter Tryz.func52,Tryz.ntmps52
  go_wp2_with fail
  go_loopw [4,9] (fun v i wr => ∃ (k : Nat) (acc : List (List UInt8 × List UInt8)),k ≤ N ∧ i = .int .i64 k ∧ Gt.AAt g M acc k ∧ wr.ownsRow B 93 2 v acc.length (prs acc) ∧ Below B w wr)
   (fun _ i _ => N - (intOf i).toNat)
  case atStart => exact ⟨0,[],Nat.zero_le _,rfl,Gt.aAt_start _ _,World.ownsRow_nil _ _ _ _,Below.refl _ _⟩
  case round =>
   obtain ⟨k,acc,hk,rfl,hat,hown,hbl⟩:=hrel
   have HA:=Lib.hid hat
   have HO:=Lib.hid hown
   have HBL:=Lib.hid hbl
   clear hat hown hbl
   by_cases hlt : k < N
   ·have hkl : k < L.length:=by have:=HNL.out; omega
    have HBW:=Lib.hid (show b < B by rw [← hB]; exact HBB.out)
    have hck : wr.cell? ⟨b,off + k,none⟩ = some (.string L[k]):=(HBL.out.cell (p:=⟨b,off + k,none⟩) HBW.out).trans (HC.out k hkl)
    obtain ⟨S,hS⟩ : ∃ S,L[k] = S:=⟨_,rfl⟩
    rw [hS] at hck
    have HKM:=Lib.hid (show k < M.length by rw [HML.out]; exact hlt)
    have HMK:=Lib.hid (show M[k]'HKM.out = S.data.toList by
     have : M[k]? = some S.data.toList:=by rw [← HM.out,List.getElem?_map,List.getElem?_eq_getElem hkl,hS]; rfl
     exact (List.getElem?_eq_some_iff.1 this).2)
    have K:=Lib.hid (HF.out S (by rw [← hS]; exact List.getElem_mem _) wr (hB ▸ HBL.out))
    clear hS hkl
    cases hg : g S.data.toList with
    | none =>
     rw [hg] at K
     have HN:=Lib.hid (Gt.aAt_bad HA.out HKM.out (by rw [HMK.out]; exact hg))
     clear hg
     go_wp2_with fail
     refine K.out.mono ?_
     rintro e w2 ⟨rfl,hb2⟩
     exact ⟨rfl,.inr ⟨HN.out,rfl⟩,HBL.out.trans (hb2.mono (hB ▸ HBL.out.size))⟩
    | some q =>
     rw [hg] at K
     have HN:=Lib.hid (Gt.aAt_next HA.out HKM.out (by rw [HMK.out]; exact hg))
     clear hg
     go_wp2_with fail
     refine K.out.mono ?_
     rintro e w2 ⟨rfl,hb2⟩
     have HB2:=Lib.hid (HBL.out.trans (hb2.mono (hB ▸ HBL.out.size)))
     have HO2:=Lib.hid (show w2.ownsRow B 93 2 _ acc.length (prs acc) from HO.out.belowed hb2)
     simp only [prEnd]
     clear hb2 K
     go_wp2_with (at_builtin; refine wpList_append_own _ rfl _ _ 34 rfl B 93 i0 (.agg #[.string ByteArray.empty,.string ByteArray.empty]) 2 32 Tryz.underlying34 hi hz0 hz1 hz2 rfl (by decide) _ _ _ rfl (HO2.out.alloc _) ⟨w2.heap.size,0,none⟩ 1 1 [tx q.1,tx q.2] rfl rfl ?c1 ?c2 ?c3 ?c4 ?c5 ?_)
     case c1 =>
      intro j u hj
      match j,hj with
      | 0,hj => simp at hj; subst hj; simp [Addr.add,tx]
      | 1,hj => simp at hj; subst hj; simp [Addr.add,tx]
     case c2 => intro u hu; simp [tx] at hu; rcases hu with rfl | rfl <;> rfl
     case c3 => have:=HA.out.2.1; unfold maxLen; omega
     case c4 => have:=HA.out.2.1; omega
     case c5 => have:=HB2.out.size; simp; omega
     intro v' w3 hown' hgrow _
     have HB3:=Lib.hid (show Below B w w3 from Below.grown (HB2.out.alloc (by have:=HB2.out.size; omega) _) hgrow (by have:=HB2.out.size; simp; omega) (own_ge2 HO2.out))
     have HO3:=Lib.hid (show w3.ownsRow B 93 2 v' (acc ++ [q]).length (prs (acc ++ [q])) by
      rw [prs_snoc,List.length_append]
      exact hown')
     clear hgrow hown'
     go_wp2
     go_roundw
     case rel => exact ⟨k + 1,acc ++ [q],hlt,by go_num,HN.out,HO3.out,HB3.out⟩
     case measure => simp [intOf]; omega
   ·have HE:=Lib.hid (Gt.aAt_end HA.out (by rw [HML.out]; omega))
    go_wp2_with fail
    go_ret
    exact ⟨.inl ⟨acc,_,HE.out,rfl,⟨B,HO.out⟩⟩,HBL.out⟩
end Go.Proofs.YtfacmnooklljnaaGreatDoor
namespace Go.Proofs.YtfacmnooklljnaaGreatDoor
open Go.RowKit Go.Shelf
set_option maxHeartbeats 2000000
set_option maxRecDepth 100000
theorem tg_clearT (T : Nat) (u v : Value) (w : World) (h : w.heap[T]? = some (.cells #[u,v] 36 (0,0))) :
  Calls Tryz.prog 45 #[.pointer (some ⟨T,0,none⟩)] w fun e w' => e = .returned (.tuple #[]) ∧ w' = (w.setCell ⟨T,0,none⟩ (.slice none 0 0)).setCell ⟨T,1,none⟩ (.slice none 0 0):=by
 have c0 : w.cell? ⟨T,0,none⟩ = some u:=by simp [World.cell?,h]
 have c1 : w.cell? ⟨T,1,none⟩ = some v:=by simp [World.cell?,h]
 have z0 : w.frozen? ⟨T,0,none⟩ = false:=frozen_of_row _ _ _ _ _ h
 have z1 : w.frozen? ⟨T,1,none⟩ = false:=frozen_of_row _ _ _ _ _ h
 clear h
 go_enter Tryz.func45,Tryz.ntmps45
 go_wp2
 simp [bodyPost,results,Tryz.results45,go_sem]
theorem clearT_enter (args : Array Value) (W : World) : (callFunc 45 args).run Tryz.prog W = .ok (.enter 45 args) W:=by
 simp [callFunc,go_sem,Tryz.func45]
 rw [if_neg (by decide),if_neg (by decide)]
theorem part_enter (args : Array Value) (W : World) : (callFunc 50 args).run Tryz.prog W = .ok (.enter 50 args) W:=by
 simp [callFunc,go_sem,Tryz.func50]
 rw [if_neg (by decide),if_neg (by decide)]
theorem pair_enter (args : Array Value) (W : World) : (callFunc 53 args).run Tryz.prog W = .ok (.enter 53 args) W:=by
 simp [callFunc,go_sem,Tryz.func53]
 rw [if_neg (by decide),if_neg (by decide)]
end Go.Proofs.YtfacmnooklljnaaGreatDoor
namespace Go.Proofs.YtfacmnooklljnaaGreatDoor
open Go.RowKit Go.Shelf
set_option maxHeartbeats 4000000
set_option maxRecDepth 100000
theorem str_to (u : ByteArray) (w : World) (k : Nat) (hk : k ≤ u.size) (hu : u.size ≤ 9223372036854775807) : (Instr.slice 9 (.string u) none (some (.int .i64 (k : Int))) none).run Tryz.prog w = .ok (.string (u.extract 0 k)) w:=by
 have h2 : (k : Int) ≤ u.size:=by omega
 simp [go_sem,Tryz.underlying9,h2]
theorem str_from (u : ByteArray) (w : World) (k : Nat) (hk : k ≤ u.size) (hu : u.size ≤ 9223372036854775807) : (Instr.slice 9 (.string u) (some (.int .i64 (k : Int))) none none).run Tryz.prog w = .ok (.string (u.extract k u.size)) w:=by
 have h2 : (k : Int) ≤ u.size:=by omega
 simp [go_sem,Tryz.underlying9,h2]
theorem min_i64 (a b m : Nat) (hm : m = min a b) (w : World) : (Builtin.min_ #[3,3] 3 #[.int .i64 (a : Int),.int .i64 (b : Int)]).run Tryz.prog w = .ok (.int .i64 (m : Int)) w:=by
 have : (Builtin.min_ #[3,3] 3 #[.int .i64 (a : Int),.int .i64 (b : Int)]).run Tryz.prog w = .ok (.int .i64 (if (b : Int) < a then (b : Int) else a)) w:=by simp [Builtin.min_,Builtin.min2,go_sem]
 rw [this]
 congr 2
 split <;> omega
theorem ext_to (s : ByteArray) (k : Nat) : (s.extract 0 k).data.toList = s.data.toList.take k:=by rw [Lib.extract_data]; simp
theorem ext_from (s : ByteArray) (k : Nat) : (s.extract k s.size).data.toList = s.data.toList.drop k:=by
 rw [Lib.extract_data,List.take_of_length_le]
 rw [List.length_drop]; exact Nat.le_refl _
theorem drop_min (l : List UInt8) (n m : Nat) (h : m = min (n + 1) l.length) : l.drop m = l.drop (n + 1):=by
 rcases Nat.le_total (n + 1) l.length with h' | h'
 ·rw [h,Nat.min_eq_left h']
 ·rw [h,Nat.min_eq_right h',List.drop_eq_nil_of_le (Nat.le_refl _),List.drop_eq_nil_of_le h']
def rprOut (o : Option (List UInt8 × List UInt8)) : Value:=match o with
 | some (k,v) => .tuple #[.agg #[.string ⟨k.toArray⟩,.string ⟨v.toArray⟩],.int .i64 0]
 | none => .tuple #[.agg #[.string ⟨#[]⟩,.string ⟨#[]⟩],.int .i64 210]
theorem ref_pair (s : ByteArray) (w : World) (hs : s.size ≤ 1000000) :
  Calls Tryz.prog 63 #[.string s] w fun e w' => e = .returned (rprOut (Gt.pairOf s.data.toList)) ∧ Below w.heap.size w w':=by
 obtain ⟨W1,hW1⟩ : ∃ W,w.alloc (.cells #[.string ⟨#[]⟩,.string ⟨#[]⟩] 93) = W:=⟨_,rfl⟩
 have HB:=Lib.hid (show Below w.heap.size w W1 by rw [← hW1]; exact (Below.refl _ _).alloc (Nat.le_refl _) _)
 have HT:=Lib.hid (show W1.heap[w.heap.size]? = some (.cells #[.string ⟨#[]⟩,.string ⟨#[]⟩] 93 (0,0)) by rw [← hW1]; exact World.alloc_heap_new _ _)
 have HZ:=Lib.hid (show W1.heap.size = w.heap.size + 1 by rw [← hW1]; simp)
 have HW:=Lib.hid hW1
 clear hW1
 have KA:=ref_at s 61 W1 hs
 rw [show (((61 : UInt8).toNat : Nat) : Int) = 61 from rfl] at KA
 have hn:=Gs.pos_le 61 s.data.toList
 rw [show s.data.toList.length = s.size from rfl] at hn
 have hp1 : Gt.pairOf s.data.toList = match Gt.dec true (s.data.toList.take (Gs.pos 61 s.data.toList)) with
  | none => none
  | some k => (Gt.dec true (s.data.toList.drop (Gs.pos 61 s.data.toList + 1))).map fun v => (k,v):=rfl
 obtain ⟨n,hpos⟩ : ∃ n,Gs.pos 61 s.data.toList = n:=⟨_,rfl⟩
 rw [hpos] at KA hn hp1
 obtain ⟨m,hm⟩ : ∃ m,m = min (n + 1) s.size:=⟨_,rfl⟩
 have hm2 : m ≤ s.size:=by omega
 have HTO:=Lib.hid (fun W => str_to s W n hn (by omega))
 have HFR:=Lib.hid (fun W => str_from s W m hm2 (by omega))
 have HMI:=Lib.hid (fun W => min_i64 (n + 1) s.size m hm W)
 have hto:=HTO.out
 have hfr:=HFR.out
 have hmi : ∀ W,(Builtin.min_ #[3,3] 3 #[.int .i64 ((n : Int) + 1),.int .i64 (s.size : Int)]).run Tryz.prog W = .ok (.int .i64 (m : Int)) W:=fun W => HMI.out W
 have e1:=ext_to s n
 have e2:=ext_from s m
 rw [drop_min s.data.toList n m hm] at e2
 obtain ⟨kb,hkb⟩ : ∃ z,s.extract 0 n = z:=⟨_,rfl⟩
 obtain ⟨vb,hvb⟩ : ∃ z,s.extract m s.size = z:=⟨_,rfl⟩
 rw [hkb] at hto e1
 rw [hvb] at hfr e2
 have HKS:=Lib.hid (show kb.size ≤ 1000000 by
  have h1 : kb.data.toList.length = kb.size:=rfl
  have h2 : s.data.toList.length = s.size:=rfl
  rw [e1,List.length_take] at h1; omega)
 have HVS:=Lib.hid (show vb.size ≤ 1000000 by
  have h1 : vb.data.toList.length = vb.size:=rfl
  have h2 : s.data.toList.length = s.size:=rfl
  rw [e2,List.length_drop] at h1; omega)
 have K1:=Lib.hid (fun W => ref_Decode kb true W HKS.out)
 have K2:=Lib.hid (fun W => ref_Decode vb true W HVS.out)
 rw [e1] at K1
 rw [e2] at K2
 obtain ⟨o1,ho1⟩ : ∃ o,Gt.dec true (s.data.toList.take n) = o:=⟨_,rfl⟩
 obtain ⟨o2,ho2⟩ : ∃ o,Gt.dec true (s.data.toList.drop (n + 1)) = o:=⟨_,rfl⟩
 rw [ho1,ho2] at hp1
 rw [ho1] at K1
 rw [ho2] at K2
 rw [hp1]
 have HKA:=Lib.hid KA
 have hn3 : n ≤ 1000000:=by omega
 clear KA hp1 hpos hm hkb hvb e1 e2 ho1 ho2 HTO HFR HMI
 cases o1 with
 | none =>
  cases o2 with
  | none =>
   simp only [decOut] at K1 K2
   go_enter Tryz.func63,Tryz.ntmps63
   go_wp2_with fail
   rw [HW.out]
   refine HKA.out.mono ?_
   rintro e w2 ⟨rfl,hb2⟩
   have HB2:=Lib.hid hb2
   clear hb2
   go_wp2_with fail
   refine (K1.out w2).mono ?_
   rintro e w3 ⟨rfl,hb3⟩
   have HB3:=Lib.hid (HB2.out.trans (hb3.mono HB2.out.size))
   clear hb3
   go_wp2_with fail
   refine (K2.out w3).mono ?_
   rintro e w4 ⟨rfl,hb4⟩
   have HB4:=Lib.hid (HB3.out.trans (hb4.mono HB3.out.size))
   have HT4:=Lib.hid ((HB4.out.block _ (by rw [HZ.out]; omega)).trans HT.out)
   have HBW:=Lib.hid (HB.out.trans (HB4.out.mono HB.out.size))
   have c0 : w4.cell? ⟨w.heap.size,0,none⟩ = some (.string ⟨#[]⟩):=by simp [World.cell?,HT4.out]
   have c1 : w4.cell? ⟨w.heap.size,1,none⟩ = some (.string ⟨#[]⟩):=by simp [World.cell?,HT4.out]
   have z0 : w4.frozen? ⟨w.heap.size,0,none⟩ = false:=frozen_of_row _ _ _ _ _ HT4.out
   have z1 : w4.frozen? ⟨w.heap.size,1,none⟩ = false:=frozen_of_row _ _ _ _ _ HT4.out
   clear hb4
   go_wp2_with fail
   obtain ⟨w5,hw5⟩ : ∃ Z,(w4.setCell ⟨w.heap.size,0,none⟩ (.string ⟨#[]⟩)).setCell ⟨w.heap.size,1,none⟩ (.string ⟨#[]⟩) = Z:=⟨_,rfl⟩
   rw [hw5]
   have HB5:=Lib.hid (show Below w.heap.size w w5 by rw [← hw5]; exact (HBW.out.setCell (p:=⟨w.heap.size,0,none⟩) (Nat.le_refl _) _).setCell (p:=⟨w.heap.size,1,none⟩) (Nat.le_refl _) _)
   have hT5 : w5.heap[w.heap.size]? = some (.cells #[.string ⟨#[]⟩,.string ⟨#[]⟩] 93 (0,0)):=by
    rw [← hw5]; exact heap_setCell_same _ _ 1 _ _ _ (heap_setCell_same _ _ 0 _ _ _ HT4.out)
   have f0 : w5.cell? ⟨w.heap.size,0,none⟩ = some (.string ⟨#[]⟩):=by simp [World.cell?,hT5]
   have f1 : w5.cell? ⟨w.heap.size,1,none⟩ = some (.string ⟨#[]⟩):=by simp [World.cell?,hT5]
   clear hw5 hT5 c0 c1 z0 z1
   exact bodyPost_ret (v:=.tuple #[.agg #[.string ⟨#[]⟩,.string ⟨#[]⟩],.int .i64 210]) (by simp [results,Tryz.results63,go_sem,f0,f1]) rfl ⟨rfl,HB5.out⟩
  | some r2 =>
   simp only [decOut] at K1 K2
   go_enter Tryz.func63,Tryz.ntmps63
   go_wp2_with fail
   rw [HW.out]
   refine HKA.out.mono ?_
   rintro e w2 ⟨rfl,hb2⟩
   have HB2:=Lib.hid hb2
   clear hb2
   go_wp2_with fail
   refine (K1.out w2).mono ?_
   rintro e w3 ⟨rfl,hb3⟩
   have HB3:=Lib.hid (HB2.out.trans (hb3.mono HB2.out.size))
   clear hb3
   go_wp2_with fail
   refine (K2.out w3).mono ?_
   rintro e w4 ⟨rfl,hb4⟩
   have HB4:=Lib.hid (HB3.out.trans (hb4.mono HB3.out.size))
   have HT4:=Lib.hid ((HB4.out.block _ (by rw [HZ.out]; omega)).trans HT.out)
   have HBW:=Lib.hid (HB.out.trans (HB4.out.mono HB.out.size))
   have c0 : w4.cell? ⟨w.heap.size,0,none⟩ = some (.string ⟨#[]⟩):=by simp [World.cell?,HT4.out]
   have c1 : w4.cell? ⟨w.heap.size,1,none⟩ = some (.string ⟨#[]⟩):=by simp [World.cell?,HT4.out]
   have z0 : w4.frozen? ⟨w.heap.size,0,none⟩ = false:=frozen_of_row _ _ _ _ _ HT4.out
   have z1 : w4.frozen? ⟨w.heap.size,1,none⟩ = false:=frozen_of_row _ _ _ _ _ HT4.out
   clear hb4
   go_wp2_with fail
   obtain ⟨w5,hw5⟩ : ∃ Z,(w4.setCell ⟨w.heap.size,0,none⟩ (.string ⟨#[]⟩)).setCell ⟨w.heap.size,1,none⟩ (.string ⟨#[]⟩) = Z:=⟨_,rfl⟩
   rw [hw5]
   have HB5:=Lib.hid (show Below w.heap.size w w5 by rw [← hw5]; exact (HBW.out.setCell (p:=⟨w.heap.size,0,none⟩) (Nat.le_refl _) _).setCell (p:=⟨w.heap.size,1,none⟩) (Nat.le_refl _) _)
   have hT5 : w5.heap[w.heap.size]? = some (.cells #[.string ⟨#[]⟩,.string ⟨#[]⟩] 93 (0,0)):=by
    rw [← hw5]; exact heap_setCell_same _ _ 1 _ _ _ (heap_setCell_same _ _ 0 _ _ _ HT4.out)
   have f0 : w5.cell? ⟨w.heap.size,0,none⟩ = some (.string ⟨#[]⟩):=by simp [World.cell?,hT5]
   have f1 : w5.cell? ⟨w.heap.size,1,none⟩ = some (.string ⟨#[]⟩):=by simp [World.cell?,hT5]
   clear hw5 hT5 c0 c1 z0 z1
   exact bodyPost_ret (v:=.tuple #[.agg #[.string ⟨#[]⟩,.string ⟨#[]⟩],.int .i64 210]) (by simp [results,Tryz.results63,go_sem,f0,f1]) rfl ⟨rfl,HB5.out⟩
 | some r1 =>
  cases o2 with
  | none =>
   simp only [decOut] at K1 K2
   go_enter Tryz.func63,Tryz.ntmps63
   go_wp2_with fail
   rw [HW.out]
   refine HKA.out.mono ?_
   rintro e w2 ⟨rfl,hb2⟩
   have HB2:=Lib.hid hb2
   clear hb2
   go_wp2_with fail
   refine (K1.out w2).mono ?_
   rintro e w3 ⟨rfl,hb3⟩
   have HB3:=Lib.hid (HB2.out.trans (hb3.mono HB2.out.size))
   clear hb3
   go_wp2_with fail
   refine (K2.out w3).mono ?_
   rintro e w4 ⟨rfl,hb4⟩
   have HB4:=Lib.hid (HB3.out.trans (hb4.mono HB3.out.size))
   have HT4:=Lib.hid ((HB4.out.block _ (by rw [HZ.out]; omega)).trans HT.out)
   have HBW:=Lib.hid (HB.out.trans (HB4.out.mono HB.out.size))
   have c0 : w4.cell? ⟨w.heap.size,0,none⟩ = some (.string ⟨#[]⟩):=by simp [World.cell?,HT4.out]
   have c1 : w4.cell? ⟨w.heap.size,1,none⟩ = some (.string ⟨#[]⟩):=by simp [World.cell?,HT4.out]
   have z0 : w4.frozen? ⟨w.heap.size,0,none⟩ = false:=frozen_of_row _ _ _ _ _ HT4.out
   have z1 : w4.frozen? ⟨w.heap.size,1,none⟩ = false:=frozen_of_row _ _ _ _ _ HT4.out
   clear hb4
   go_wp2_with fail
   obtain ⟨w5,hw5⟩ : ∃ Z,(w4.setCell ⟨w.heap.size,0,none⟩ (.string ⟨#[]⟩)).setCell ⟨w.heap.size,1,none⟩ (.string ⟨#[]⟩) = Z:=⟨_,rfl⟩
   rw [hw5]
   have HB5:=Lib.hid (show Below w.heap.size w w5 by rw [← hw5]; exact (HBW.out.setCell (p:=⟨w.heap.size,0,none⟩) (Nat.le_refl _) _).setCell (p:=⟨w.heap.size,1,none⟩) (Nat.le_refl _) _)
   have hT5 : w5.heap[w.heap.size]? = some (.cells #[.string ⟨#[]⟩,.string ⟨#[]⟩] 93 (0,0)):=by
    rw [← hw5]; exact heap_setCell_same _ _ 1 _ _ _ (heap_setCell_same _ _ 0 _ _ _ HT4.out)
   have f0 : w5.cell? ⟨w.heap.size,0,none⟩ = some (.string ⟨#[]⟩):=by simp [World.cell?,hT5]
   have f1 : w5.cell? ⟨w.heap.size,1,none⟩ = some (.string ⟨#[]⟩):=by simp [World.cell?,hT5]
   clear hw5 hT5 c0 c1 z0 z1
   exact bodyPost_ret (v:=.tuple #[.agg #[.string ⟨#[]⟩,.string ⟨#[]⟩],.int .i64 210]) (by simp [results,Tryz.results63,go_sem,f0,f1]) rfl ⟨rfl,HB5.out⟩
  | some r2 =>
   simp only [decOut] at K1 K2
   go_enter Tryz.func63,Tryz.ntmps63
   go_wp2_with fail
   rw [HW.out]
   refine HKA.out.mono ?_
   rintro e w2 ⟨rfl,hb2⟩
   have HB2:=Lib.hid hb2
   clear hb2
   go_wp2_with fail
   refine (K1.out w2).mono ?_
   rintro e w3 ⟨rfl,hb3⟩
   have HB3:=Lib.hid (HB2.out.trans (hb3.mono HB2.out.size))
   clear hb3
   go_wp2_with fail
   refine (K2.out w3).mono ?_
   rintro e w4 ⟨rfl,hb4⟩
   have HB4:=Lib.hid (HB3.out.trans (hb4.mono HB3.out.size))
   have HT4:=Lib.hid ((HB4.out.block _ (by rw [HZ.out]; omega)).trans HT.out)
   have HBW:=Lib.hid (HB.out.trans (HB4.out.mono HB.out.size))
   have c0 : w4.cell? ⟨w.heap.size,0,none⟩ = some (.string ⟨#[]⟩):=by simp [World.cell?,HT4.out]
   have c1 : w4.cell? ⟨w.heap.size,1,none⟩ = some (.string ⟨#[]⟩):=by simp [World.cell?,HT4.out]
   have z0 : w4.frozen? ⟨w.heap.size,0,none⟩ = false:=frozen_of_row _ _ _ _ _ HT4.out
   have z1 : w4.frozen? ⟨w.heap.size,1,none⟩ = false:=frozen_of_row _ _ _ _ _ HT4.out
   clear hb4
   go_wp2_with fail
   obtain ⟨w5,hw5⟩ : ∃ Z,(w4.setCell ⟨w.heap.size,0,none⟩ (.string ⟨r1.toArray⟩)).setCell ⟨w.heap.size,1,none⟩ (.string ⟨r2.toArray⟩) = Z:=⟨_,rfl⟩
   rw [hw5]
   have HB5:=Lib.hid (show Below w.heap.size w w5 by rw [← hw5]; exact (HBW.out.setCell (p:=⟨w.heap.size,0,none⟩) (Nat.le_refl _) _).setCell (p:=⟨w.heap.size,1,none⟩) (Nat.le_refl _) _)
   have hT5 : w5.heap[w.heap.size]? = some (.cells #[.string ⟨r1.toArray⟩,.string ⟨r2.toArray⟩] 93 (0,0)):=by
    rw [← hw5]; exact heap_setCell_same _ _ 1 _ _ _ (heap_setCell_same _ _ 0 _ _ _ HT4.out)
   have f0 : w5.cell? ⟨w.heap.size,0,none⟩ = some (.string ⟨r1.toArray⟩):=by simp [World.cell?,hT5]
   have f1 : w5.cell? ⟨w.heap.size,1,none⟩ = some (.string ⟨r2.toArray⟩):=by simp [World.cell?,hT5]
   clear hw5 hT5 c0 c1 z0 z1
   exact bodyPost_ret (v:=.tuple #[.agg #[.string ⟨r1.toArray⟩,.string ⟨r2.toArray⟩],.int .i64 0]) (by simp [results,Tryz.results63,go_sem,f0,f1]) rfl ⟨rfl,HB5.out⟩
end Go.Proofs.YtfacmnooklljnaaGreatDoor
namespace Go.Proofs.YtfacmnooklljnaaGreatDoor
open Go.RowKit Go.Shelf
set_option maxHeartbeats 4000000
set_option maxRecDepth 100000
theorem ask1_enter (args : Array Value) (W : World) : (callFunc 88 args).run Tryz.prog W = .ok (.enter 88 args) W:=by
 simp [callFunc,go_sem,Tryz.func88]
 rw [if_neg (by decide),if_neg (by decide)]
theorem ask2_enter (args : Array Value) (W : World) : (callFunc 90 args).run Tryz.prog W = .ok (.enter 90 args) W:=by
 simp [callFunc,go_sem,Tryz.func90]
 rw [if_neg (by decide),if_neg (by decide)]
theorem ask3_enter (args : Array Value) (W : World) : (callFunc 55 args).run Tryz.prog W = .ok (.enter 55 args) W:=by
 simp [callFunc,go_sem,Tryz.func55]
 rw [if_neg (by decide),if_neg (by decide)]
theorem tg_split (s : ByteArray) (z : UInt8) (w : World) (hs : s.size ≤ 1000000) (hm : Mx w) :
  Calls Tryz.prog 51 #[.string s,.string ⟨#[z]⟩] w fun e w' => ∃ D : List ByteArray,D.map (·.data.toList) = Gs.parts z [] s.data.toList ∧
   e = .returned (.slice (some ⟨w.heap.size,0,none⟩) D.length D.length) ∧ w' = w.alloc (.cells (D.map Value.string).toArray 9):=by
 obtain ⟨m,hm⟩:=hm
 refine (Tryz.strings_Split s ⟨#[z]⟩ m w (by omega) hm (Nat.le_refl 1)).mono ?_
 rintro e w' ⟨rfl,rfl⟩
 refine ⟨Lib.splitB ⟨#[z]⟩ 0 (Lib.countB s ⟨#[z]⟩) s,Gs.splitB_is z s,?_,rfl⟩
 rw [Lib.splitB_all ⟨#[z]⟩ (Nat.le_refl 1) 0 _ s rfl]
open Go.Sort in
theorem tg_strike (g cap : Nat) (D : List ByteArray) (W : World) (hg : W.heap[g]? = some (.cells (D.map Value.string).toArray 9 (0,0))) (hn : D.length ≤ cap) (hN : D.length ≤ 1000000) :
  Calls Tryz.prog 54 #[.slice (some ⟨g,0,none⟩) D.length cap,.func (.func 55) #[] #[]] W fun e w' =>
   ∃ v,e = .returned v ∧ SR w' v (D.filter fun s => !s.data.toList.isEmpty) ∧ Below g W w':=by
 have hgl : g < W.heap.size:=by
  rcases Nat.lt_or_ge g W.heap.size with h | h
  ·exact h
  ·rw [Array.getElem?_eq_none h] at hg; simp at hg
 have hds : D.toArray.size = D.length:=by simp
 have hd : ∀ j (h : j < D.length),D.toArray[j]! = D[j]:=fun j h => by rw [getElem!_pos D.toArray j (by simpa using h)]; simp
 have hH : Holds Value.string W g 0 D.toArray:=fun j hj => by
  have hj' : j < D.length:=by simpa using hj
  rw [Nat.zero_add,hd j hj']
  exact ⟨by simp [World.cell?,hg,List.getElem?_eq_getElem hj'],frozen_of_row _ _ _ _ _ hg⟩
 have hgv : ∀ (V : World) (x : ByteArray),FnGives Tryz.prog 55 #[] #[.string x] (.bool x.data.toList.isEmpty) V:=fun V x => by
  show Calls Tryz.prog 55 #[.string x] V _
  refine (tg_ask3 x V).mono ?_
  rintro e w' ⟨rfl,rfl⟩
  exact ⟨rfl,0,rfl⟩
 have K:=Tryz.slices_DeleteFunc Value.string (fun _ => rfl) (fun s => s.data.toList.isEmpty) 55 #[] ask3_enter ⟨#[]⟩ (fun _ => by kernel_rfl) g 0 cap D.toArray W
  (fun V x _ => hgv V x) (fun n os dk x _ => hgv _ x) hH (by rw [hds]; omega) (by rw [hds]; exact hn)
 rw [hds] at K
 refine K.mono ?_
 rintro e w' ⟨rfl,q,rfl⟩
 simp only
 obtain ⟨F,hF⟩ : ∃ F,(D.filter fun s => !s.data.toList.isEmpty) = F:=⟨_,rfl⟩
 have hFl : F.length ≤ D.length:=by rw [← hF]; exact List.length_filter_le _ _
 rw [hF]
 refine ⟨_,rfl,.inr ⟨g,0,cap,rfl,?_,fun j hj => ?_⟩,?_⟩
 ·rw [size_putRow]; exact hgl
 ·have:=cell?_putRow Value.string (Sort.ahead W q) g 0 D.toArray (F ++ List.replicate (D.length - F.length) (⟨#[]⟩ : ByteArray)).toArray (holds_ahead _ _ _ _ _ _ hH) (by simp; omega) j (by simp; omega)
  rw [this,getElem!_pos _ j (by simp; omega)]
  simp [List.getElem_append_left hj]
 ·refine ⟨rfl,rfl,rfl,by rw [size_putRow]; exact Nat.le_refl _,fun k hk => ?_⟩
  simp only [putRow,mapBlock,Array.getElem?_modify]
  rw [if_neg (by omega)]
  rfl
end Go.Proofs.YtfacmnooklljnaaGreatDoor
namespace Go.Proofs.YtfacmnooklljnaaGreatDoor
open Go.RowKit Go.Shelf
set_option maxHeartbeats 4000000
set_option maxRecDepth 100000
def ParseOut (w : World) (o : Option (List (List UInt8) × List (List UInt8 × List UInt8))) (e : Ending) : Prop:=match o with
 | some (P,Q) => ∃ vp vq,e = .returned (.tuple #[.agg #[vp,vq],.int .i64 0]) ∧ StrRow w vp P ∧ PrRow w vq Q
 | none => e = .returned (.tuple #[.agg #[.slice none 0 0,.slice none 0 0],.int .i64 210])
def AskAt (s : List UInt8) (W : World) (i : Value) (wr : World) : Prop :=
 (i = .int .i64 0 ∧ wr = W) ∨ (i = .int .i64 1 ∧ wr = W ∧ (s.head? == some 47) = true) ∨ (i = .int .i64 2 ∧ Below W.heap.size W wr ∧ Gt.ok s = true)
theorem StrRow.setT {w : World} {v : Value} {L : List (List UInt8)} {T : Nat} {p1 p2 : Option Addr} {n1 k1 n2 k2 : Nat} {t : TypeId} (h : StrRow w v L) (hT : w.heap[T]? = some (.cells #[.slice p1 n1 k1,.slice p2 n2 k2] t (0,0))) (i : Nat) (x : Value) :
  StrRow (w.setCell ⟨T,i,none⟩ x) v L:=by
 obtain ⟨p,cap,rfl,h⟩:=h
 refine ⟨p,cap,rfl,h.imp id ?_⟩
 rintro ⟨g,rfl,hc⟩
 refine ⟨g,rfl,fun j hj => ?_⟩
 have h1:=hc j hj
 rw [World.cell?_setCell_other,h1]
 intro e
 obtain rfl : T = g:=by simpa using congrArg Addr.block e
 simp only [World.cell?,hT,Option.bind_eq_bind] at h1
 match j with
 | 0 => simp [tx] at h1
 | 1 => simp [tx] at h1
 | j + 2 => simp at h1
theorem PrRow.slice {w : World} {v : Value} {L : List (List UInt8 × List UInt8)} (h : PrRow w v L) : ∃ p n c,v = .slice p n c:=by
 obtain ⟨B,_,⟨rfl,_⟩ | ⟨g,cap,cur,rfl,_⟩⟩:=h
 ·exact ⟨_,_,_,rfl⟩
 ·exact ⟨_,_,_,rfl⟩
theorem PrRow.setT {w : World} {v : Value} {L : List (List UInt8 × List UInt8)} {T : Nat} {cs : Array Value} {t : TypeId} (h : PrRow w v L) (hT : w.heap[T]? = some (.cells cs t (0,0))) (ht : t ≠ 93) (i : Nat) (x : Value) :
  PrRow (w.setCell ⟨T,i,none⟩ x) v L:=by
 obtain ⟨B,hl,h⟩:=h
 refine ⟨B,hl,h.imp id ?_⟩
 rintro ⟨g,cap,cur,rfl,h1,h2,h3⟩
 refine ⟨g,cap,cur,rfl,h1,?_,h3⟩
 rw [Below.heap_setCell _ _ _ _ (by
  intro e
  obtain rfl : g = T:=by simpa using e
  rw [h2] at hT
  simp at hT
  exact ht hT.2.symm)]
 exact h2
theorem ok_pos {l : List UInt8} (h : Gt.ok l = true) : 1 ≤ Gs.pos 63 l:=by
 unfold Gt.ok at h
 rw [Bool.and_eq_true] at h
 cases l with
 | nil => exact absurd h.1 (by decide)
 | cons c r =>
  have hc : c = 47:=by have:=h.1; simpa using this
  subst hc
  rw [Gs.pos_next _ _ _ (by decide)]
  omega
end Go.Proofs.YtfacmnooklljnaaGreatDoor
namespace Go.Proofs.YtfacmnooklljnaaGreatDoor
open Go.RowKit Go.Shelf
set_option maxHeartbeats 8000000
set_option maxRecDepth 100000
namespace Gt
def QAt (M : List (List UInt8)) (acc : List (List UInt8 × List UInt8)) (k : Nat) : Prop :=
 k ≤ M.length ∧ acc.length ≤ k ∧ all? pairOf (M.filter fun l => !l.isEmpty) = (all? pairOf ((M.drop k).filter fun l => !l.isEmpty)).map (acc ++ ·)
theorem qAt_start (M : List (List UInt8)) : QAt M [] 0:=⟨Nat.zero_le _,Nat.le_refl _,by cases h : all? pairOf (M.filter fun l => !l.isEmpty) <;> simp [h]⟩
theorem qAt_skip {M : List (List UInt8)} {acc : List (List UInt8 × List UInt8)} {k : Nat} (h : QAt M acc k) (hk : k < M.length) (he : M[k].isEmpty = true) : QAt M acc (k + 1):=by
 refine ⟨hk,Nat.le_succ_of_le h.2.1,?_⟩
 rw [h.2.2,List.drop_eq_getElem_cons hk,List.filter_cons,he]; rfl
theorem qAt_next {M : List (List UInt8)} {acc : List (List UInt8 × List UInt8)} {k : Nat} {y : List UInt8 × List UInt8} (h : QAt M acc k) (hk : k < M.length) (he : M[k].isEmpty = false) (hy : pairOf M[k] = some y) : QAt M (acc ++ [y]) (k + 1):=by
 refine ⟨hk,by have:=h.2.1; simp; omega,?_⟩
 rw [h.2.2,List.drop_eq_getElem_cons hk,List.filter_cons,he]
 simp only [Bool.not_false,if_true]
 rw [all_some hy]
 cases all? pairOf ((M.drop (k + 1)).filter fun l => !l.isEmpty) <;> simp
theorem qAt_bad {M : List (List UInt8)} {acc : List (List UInt8 × List UInt8)} {k : Nat} (h : QAt M acc k) (hk : k < M.length) (he : M[k].isEmpty = false) (hy : pairOf M[k] = none) : all? pairOf (M.filter fun l => !l.isEmpty) = none:=by
 rw [h.2.2,List.drop_eq_getElem_cons hk,List.filter_cons,he]
 simp only [Bool.not_false,if_true]
 rw [all_none hy]; rfl
theorem qAt_end {M : List (List UInt8)} {acc : List (List UInt8 × List UInt8)} {k : Nat} (h : QAt M acc k) (hk : M.length ≤ k) : all? pairOf (M.filter fun l => !l.isEmpty) = some acc:=by
 rw [h.2.2,List.drop_eq_nil_of_le hk]
 simp [all_nil]
end Gt
theorem StrRow.fr {w w' : World} {v : Value} {L : List (List UInt8)} {T B : Nat} {p1 p2 : Option Addr} {n1 k1 n2 k2 : Nat} {t : TypeId} (h : StrRow w v L) (hT : w.heap[T]? = some (.cells #[.slice p1 n1 k1,.slice p2 n2 k2] t (0,0))) (hf : Fr T B w w') (hB : w.heap.size ≤ B) : StrRow w' v L:=by
 obtain ⟨p,cap,rfl,h⟩:=h
 refine ⟨p,cap,rfl,h.imp id ?_⟩
 rintro ⟨g,rfl,hc⟩
 refine ⟨g,rfl,fun j hj => ?_⟩
 have h1:=hc j hj
 have hg:=lt_of_cell h1
 have hne : g ≠ T:=by
  intro e
  subst e
  simp only [World.cell?,hT,Option.bind_eq_bind] at h1
  match j with
  | 0 => simp [tx] at h1
  | 1 => simp [tx] at h1
  | j + 2 => simp at h1
 exact (World.cell?_of_block (a:=⟨g,j,none⟩) (hf.block g (Nat.lt_of_lt_of_le hg hB) hne)).trans h1
theorem own_set {w : World} {base : Nat} {e : TypeId} {size : Nat} {v : Value} {n : Nat} {xs : List Value} (h : w.ownsRow base e size v n xs) (T i : Nat) (x : Value) (hT : T < base) : (w.setCell ⟨T,i,none⟩ x).ownsRow base e size v n xs:=by
 refine ⟨h.1,h.2.imp id ?_⟩
 rintro ⟨g,cap,cur,h1,h2,h3,h4⟩
 exact ⟨g,cap,cur,h1,h2,(Below.heap_setCell _ _ _ _ (by simp; omega)).trans h3,h4⟩
theorem own_slice {w : World} {base : Nat} {e : TypeId} {size : Nat} {v : Value} {n : Nat} {xs : List Value} (h : w.ownsRow base e size v n xs) : ∃ p c,v = .slice p n c:=by
 rcases h.2 with ⟨rfl,h0⟩ | ⟨g,cap,cur,h1,_⟩
 ·exact ⟨none,0,by rw [h0]⟩
 ·exact ⟨_,_,h1⟩
theorem ok_head {s : List UInt8} (h : (s.head? == some 47) = false) : Gt.ok s = false:=by unfold Gt.ok; rw [h]; rfl
theorem okB_bad {c : UInt8} {x : Int} (h : (c.toNat : Int) = x) (hb : x < 33 ∨ 126 < x ∨ x = 35) : Gt.okB c = false:=by
 unfold Gt.okB
 rcases hb with h' | h' | h'
 ·rw [show decide (33 ≤ c.toNat) = false from decide_eq_false (by omega)]; rfl
 ·rw [show decide (c.toNat ≤ 126) = false from decide_eq_false (by omega)]; simp
 ·have : c = 35:=UInt8.toNat_inj.1 (by show c.toNat = 35; omega)
  subst this; rfl
theorem okB_good {c : UInt8} {x : Int} (h : (c.toNat : Int) = x) (h1 : ¬ x < 33) (h2 : ¬ 126 < x) (h3 : ¬ x = 35) : Gt.okB c = true:=by
 unfold Gt.okB
 rw [show decide (33 ≤ c.toNat) = true from decide_eq_true (by omega),show decide (c.toNat ≤ 126) = true from decide_eq_true (by omega)]
 have : c ≠ 35:=fun e => h3 (by rw [← h,e]; rfl)
 simpa using this
theorem bad_byte {l : List UInt8} {c : UInt8} (hm : c ∈ l) (h : Gt.okB c = false) : Gt.ok l = false:=by
 unfold Gt.ok
 rw [show l.all Gt.okB = false from List.all_eq_false.2 ⟨c,hm,by rw [h]; simp⟩,Bool.and_false]
theorem ref_Parse (s : ByteArray) (w : World) (hs : s.size ≤ 90000) :
  Calls Tryz.prog 23 #[.string s] w fun e w' => ParseOut w' (Gt.parse s.data.toList) e ∧ Below w.heap.size w w':=by
 obtain ⟨W1,hW1⟩ : ∃ W,w.alloc (.cells #[.slice none 0 0,.slice none 0 0] 36) = W:=⟨_,rfl⟩
 have HB:=Lib.hid (show Below w.heap.size w W1 by rw [← hW1]; exact (Below.refl _ _).alloc (Nat.le_refl _) _)
 have hT : W1.heap[w.heap.size]? = some (.cells #[.slice none 0 0,.slice none 0 0] 36 (0,0)):=by rw [← hW1]; exact World.alloc_heap_new _ _
 have HT:=Lib.hid hT
 have HZ:=Lib.hid (show W1.heap.size = w.heap.size + 1 by rw [← hW1]; simp)
 have c0 : W1.cell? ⟨w.heap.size,0,none⟩ = some (.slice none 0 0):=by simp [World.cell?,hT]
 have c1 : W1.cell? ⟨w.heap.size,1,none⟩ = some (.slice none 0 0):=by simp [World.cell?,hT]
 have z0 : W1.frozen? ⟨w.heap.size,0,none⟩ = false:=frozen_of_row _ _ _ _ _ hT
 have z1 : W1.frozen? ⟨w.heap.size,1,none⟩ = false:=frozen_of_row _ _ _ _ _ hT
 have HW:=Lib.hid hW1
 have HL:=Lib.hid (show s.data.toList.length = s.size from rfl)
 obtain ⟨O,hO⟩ : ∃ O,Gt.parse s.data.toList = O:=⟨_,rfl⟩
 rw [hO]
 have HO:=Lib.hid hO
 clear hW1 hT hO
 have hgs : ∀ (x y : Value) (W : World),(Instr.build 36 #[]).run Tryz.prog W = .ok (.agg #[.slice none 0 0,.slice none 0 0]) W:=fun _ _ _ => by kernel_rfl
 clear hgs
 by_cases h1 : 0 < s.size
 ·obtain ⟨x0,hx0⟩ : ∃ x : Int,((s[0]'h1).toNat : Int) = x:=⟨_,rfl⟩
  have hsz : ((s.size : Int) == 0) = false:=beq_eq_false_iff_ne.2 (by omega)
  have HHD:=Lib.hid (show (s.data.toList.head? == some 47) = (x0 == 47) by
   have h3 : s.data.toList[0]? = some (s[0]'h1):=by rw [List.getElem?_eq_getElem (by rw [HL.out]; exact h1)]; rfl
   rw [List.head?_eq_getElem?,h3]
   rw [Bool.eq_iff_iff,beq_iff_eq,beq_iff_eq]
   constructor
   ·intro h
    have h4 : s[0]'h1 = 47:=Option.some.inj h
    rw [← hx0,h4]; rfl
   ·intro h
    rw [show s[0]'h1 = 47 from UInt8.toNat_inj.1 (by show (s[0]'h1).toNat = 47; omega)])
  by_cases hx : x0 = 47
  ·subst hx
   have HHT:=Lib.hid (show (s.data.toList.head? == some 47) = true from HHD.out)
   go_enter Tryz.func23,Tryz.ntmps23
   go_wp2_with fail
   rw [HW.out]
   go_wp2_with fail
   go_loop [4] (fun i => ∃ k : Nat,k ≤ s.size ∧ i = .int .i64 k ∧ (s.data.toList.take k).all Gt.okB = true) (fun i => s.size - (intOf i).toNat)
   case atStart => exact ⟨0,Nat.zero_le _,rfl,rfl⟩
   case round =>
    obtain ⟨k,hk,rfl,hall⟩:=hrel
    have HAL:=Lib.hid hall
    clear hall
    by_cases hlt : k < s.size
    ·have HKL:=Lib.hid (show k < s.data.toList.length from hlt)
     obtain ⟨c,hcc⟩ : ∃ c,s.data.toList[k]'HKL.out = c:=⟨_,rfl⟩
     obtain ⟨x,hx⟩ : ∃ x : Int,(c.toNat : Int) = x:=⟨_,rfl⟩
     have hsx : ((s[k]'hlt).toNat : Int) = x:=by rw [← hx,← hcc]; rfl
     have HX:=Lib.hid hx
     have HTK:=Lib.hid (show s.data.toList.take (k + 1) = s.data.toList.take k ++ [c] by rw [List.take_succ_eq_append_getElem HKL.out,hcc])
     have HMEM:=Lib.hid (show c ∈ s.data.toList by rw [← hcc]; exact List.getElem_mem _)
     clear hx hcc
     by_cases h33 : x < 33
     ·have HNO:=Lib.hid (Gt.parse_bad (bad_byte HMEM.out (okB_bad HX.out (.inl h33))))
      go_wp2_with fail
      obtain ⟨wz,hwz⟩ : ∃ Z,(W1.setCell ⟨w.heap.size,0,none⟩ (.slice none 0 0)).setCell ⟨w.heap.size,1,none⟩ (.slice none 0 0) = Z:=⟨_,rfl⟩
      rw [hwz]
      have HBz:=Lib.hid (show Below w.heap.size w wz by rw [← hwz]; exact (HB.out.setCell (p:=⟨w.heap.size,0,none⟩) (Nat.le_refl _) _).setCell (p:=⟨w.heap.size,1,none⟩) (Nat.le_refl _) _)
      have hTz : wz.heap[w.heap.size]? = some (.cells #[.slice none 0 0,.slice none 0 0] 36 (0,0)):=by
       rw [← hwz]; exact heap_setCell_same _ _ 1 _ _ _ (heap_setCell_same _ _ 0 _ _ _ HT.out)
      have f0 : wz.cell? ⟨w.heap.size,0,none⟩ = some (.slice none 0 0):=by simp [World.cell?,hTz]
      have f1 : wz.cell? ⟨w.heap.size,1,none⟩ = some (.slice none 0 0):=by simp [World.cell?,hTz]
      exact bodyPost_ret (v:=.tuple #[.agg #[.slice none 0 0,.slice none 0 0],.int .i64 210]) (by simp [results,Tryz.results23,go_sem,f0,f1]) rfl ⟨by rw [← HO.out,HNO.out]; rfl,HBz.out⟩
     ·by_cases h126 : 126 < x
      ·have HNO:=Lib.hid (Gt.parse_bad (bad_byte HMEM.out (okB_bad HX.out (.inr (.inl h126)))))
       go_wp2_with fail
       obtain ⟨wz,hwz⟩ : ∃ Z,(W1.setCell ⟨w.heap.size,0,none⟩ (.slice none 0 0)).setCell ⟨w.heap.size,1,none⟩ (.slice none 0 0) = Z:=⟨_,rfl⟩
       rw [hwz]
       have HBz:=Lib.hid (show Below w.heap.size w wz by rw [← hwz]; exact (HB.out.setCell (p:=⟨w.heap.size,0,none⟩) (Nat.le_refl _) _).setCell (p:=⟨w.heap.size,1,none⟩) (Nat.le_refl _) _)
       have hTz : wz.heap[w.heap.size]? = some (.cells #[.slice none 0 0,.slice none 0 0] 36 (0,0)):=by
        rw [← hwz]; exact heap_setCell_same _ _ 1 _ _ _ (heap_setCell_same _ _ 0 _ _ _ HT.out)
       have f0 : wz.cell? ⟨w.heap.size,0,none⟩ = some (.slice none 0 0):=by simp [World.cell?,hTz]
       have f1 : wz.cell? ⟨w.heap.size,1,none⟩ = some (.slice none 0 0):=by simp [World.cell?,hTz]
       exact bodyPost_ret (v:=.tuple #[.agg #[.slice none 0 0,.slice none 0 0],.int .i64 210]) (by simp [results,Tryz.results23,go_sem,f0,f1]) rfl ⟨by rw [← HO.out,HNO.out]; rfl,HBz.out⟩
      ·by_cases h35 : x = 35
       ·have HNO:=Lib.hid (Gt.parse_bad (bad_byte HMEM.out (okB_bad HX.out (.inr (.inr h35)))))
        have he : (x == 35) = true:=beq_iff_eq.2 h35
        clear h35
        go_wp2_with fail
        obtain ⟨wz,hwz⟩ : ∃ Z,(W1.setCell ⟨w.heap.size,0,none⟩ (.slice none 0 0)).setCell ⟨w.heap.size,1,none⟩ (.slice none 0 0) = Z:=⟨_,rfl⟩
        rw [hwz]
        have HBz:=Lib.hid (show Below w.heap.size w wz by rw [← hwz]; exact (HB.out.setCell (p:=⟨w.heap.size,0,none⟩) (Nat.le_refl _) _).setCell (p:=⟨w.heap.size,1,none⟩) (Nat.le_refl _) _)
        have hTz : wz.heap[w.heap.size]? = some (.cells #[.slice none 0 0,.slice none 0 0] 36 (0,0)):=by
         rw [← hwz]; exact heap_setCell_same _ _ 1 _ _ _ (heap_setCell_same _ _ 0 _ _ _ HT.out)
        have f0 : wz.cell? ⟨w.heap.size,0,none⟩ = some (.slice none 0 0):=by simp [World.cell?,hTz]
        have f1 : wz.cell? ⟨w.heap.size,1,none⟩ = some (.slice none 0 0):=by simp [World.cell?,hTz]
        exact bodyPost_ret (v:=.tuple #[.agg #[.slice none 0 0,.slice none 0 0],.int .i64 210]) (by simp [results,Tryz.results23,go_sem,f0,f1]) rfl ⟨by rw [← HO.out,HNO.out]; rfl,HBz.out⟩
       ·have HOK1:=Lib.hid (show (s.data.toList.take (k + 1)).all Gt.okB = true by rw [HTK.out,List.all_append,HAL.out,List.all_cons,okB_good HX.out h33 h126 h35]; rfl)
        have he : (x == 35) = false:=beq_eq_false_iff_ne.2 h35
        clear h35
        go_wp2_with fail
        go_round
        case rel => exact ⟨k + 1,hlt,by go_num,HOK1.out⟩
        case measure => simp [intOf]; omega
    ·have HOK:=Lib.hid (show Gt.ok s.data.toList = true by
      have h5:=HAL.out
      rw [List.take_of_length_le (by rw [HL.out]; omega)] at h5
      unfold Gt.ok; rw [HHT.out,h5]; rfl)
     have hpp:=Gs.pos_le 63 s.data.toList
     have hp1:=ok_pos HOK.out
     rw [HL.out] at hpp
     have HSG:=Lib.hid (show Gt.segs s.data.toList = Gs.parts 47 [] ((s.data.toList.take (Gs.pos 63 s.data.toList)).drop 1) from rfl)
     have HQG:=Lib.hid (show Gt.qrys s.data.toList = (Gs.parts 38 [] (s.data.toList.drop (Gs.pos 63 s.data.toList + 1))).filter fun l => !l.isEmpty from rfl)
     have KAT:=ref_at s 63 W1 (by omega)
     rw [show (((63 : UInt8).toNat : Nat) : Int) = 63 from rfl] at KAT
     obtain ⟨n,hpos⟩ : ∃ n,Gs.pos 63 s.data.toList = n:=⟨_,rfl⟩
     rw [hpos] at hpp hp1 HSG HQG KAT
     have HSL:=Lib.hid (fun W => slice_mid s W 1 n hp1 hpp (by omega))
     have hsl : ∀ W,(Instr.slice 9 (.string s) (some (.int .i64 1)) (some (.int .i64 (n : Int))) none).run Tryz.prog W = .ok (.string (s.extract 1 n)) W:=fun W => HSL.out W
     obtain ⟨m,hm⟩ : ∃ m,m = min (n + 1) s.size:=⟨_,rfl⟩
     have hm2 : m ≤ s.size:=by omega
     have HFR:=Lib.hid (fun W => str_from s W m hm2 (by omega))
     have HMI:=Lib.hid (fun W => min_i64 (n + 1) s.size m hm W)
     have hfr:=HFR.out
     have hmi : ∀ W,(Builtin.min_ #[3,3] 3 #[.int .i64 ((n : Int) + 1),.int .i64 (s.size : Int)]).run Tryz.prog W = .ok (.int .i64 (m : Int)) W:=fun W => HMI.out W
     have e1 : (s.extract 1 n).data.toList = (s.data.toList.take n).drop 1:=by rw [Lib.extract_data,List.drop_take]
     have e2:=ext_from s m
     rw [drop_min s.data.toList n m hm] at e2
     obtain ⟨pb,hpb⟩ : ∃ z,s.extract 1 n = z:=⟨_,rfl⟩
     obtain ⟨qb,hqb⟩ : ∃ z,s.extract m s.size = z:=⟨_,rfl⟩
     rw [hpb] at hsl e1
     rw [hqb] at hfr e2
     rw [← e1] at HSG
     rw [← e2] at HQG
     have HPS:=Lib.hid (show pb.size ≤ 90000 by
      have h1 : pb.data.toList.length = pb.size:=rfl
      rw [e1,List.length_drop,List.length_take,HL.out] at h1; omega)
     have HQS:=Lib.hid (show qb.size ≤ 90000 by
      have h1 : qb.data.toList.length = qb.size:=rfl
      rw [e2,List.length_drop,HL.out] at h1; omega)
     have HKAT:=Lib.hid KAT
     have hn3 : n ≤ 90000:=by omega
     clear KAT hpos hm hpb hqb e1 e2 HSL HFR HMI c0 c1 z0 z1 HAL
     go_wp2_with fail
     refine HKAT.out.mono ?_
     rintro e w2 ⟨rfl,hb2⟩
     obtain ⟨W2,hW2⟩ : ∃ Z,w2.alloc (.cells #[.slice none 0 0,.slice none 0 0] 36) = Z:=⟨_,rfl⟩
     obtain ⟨T,hTT⟩ : ∃ z,w2.heap.size = z:=⟨_,rfl⟩
     have HTW:=Lib.hid (show w.heap.size < T by have:=hb2.size; rw [HZ.out,hTT] at this; omega)
     have HB2:=Lib.hid (show Below w.heap.size w W2 by rw [← hW2]; exact (HB.out.trans (hb2.mono HB.out.size)).alloc (by rw [hTT]; have:=HTW.out; omega) _)
     have HT2:=Lib.hid (show W2.heap[w.heap.size]? = some (.cells #[.slice none 0 0,.slice none 0 0] 36 (0,0)) by
      rw [← hW2,Below.heap_alloc _ _ _ (by rw [hTT]; exact HTW.out)]; exact (hb2.block _ (by rw [HZ.out]; omega)).trans HT.out)
     have HU2:=Lib.hid (show W2.heap[T]? = some (.cells #[.slice none 0 0,.slice none 0 0] 36 (0,0)) by rw [← hW2,← hTT]; exact World.alloc_heap_new _ _)
     have HW2:=Lib.hid hW2
     have HZ2:=Lib.hid (show W2.heap.size = T + 1 by rw [← hW2,← hTT]; simp)
     have hTT2:=Lib.hid hTT
     clear hb2 hW2 hTT
     go_wp2_with fail
     rw [hTT2.out,HW2.out]
     have KB47:=ref_between pb 47 W2 (by have:=HPS.out; omega)
     rw [show (((47 : UInt8).toNat : Nat) : Int) = 47 from rfl] at KB47
     refine KB47.mono ?_
     clear KB47
     rintro e w3 ⟨r7,rfl,hr7,hb3⟩
     have HR7:=Lib.hid hr7
     obtain ⟨p7,c7,rfl,_⟩:=hr7
     obtain ⟨M,hM⟩ : ∃ M,Gs.parts 47 [] pb.data.toList = M:=⟨_,rfl⟩
     have HML:=Lib.hid (show M.length ≤ 100000 by
      have h1:=Gs.parts_many 47 pb.data.toList []
      rw [hM] at h1
      have h2 : pb.data.toList.length = pb.size:=rfl
      have h3:=HPS.out
      omega)
     have HMS:=Lib.hid (fun l (hl : l ∈ M) => show l.length ≤ 90000 by
      have h1:=Gs.parts_len 47 pb.data.toList [] l (by rw [hM]; exact hl)
      have h2 : pb.data.toList.length = pb.size:=rfl
      have h3:=HPS.out
      simp at h1
      omega)
     rw [hM] at HR7 HSG ⊢
     obtain ⟨N,hN⟩ : ∃ N,M.length = N:=⟨_,rfl⟩
     have HN:=Lib.hid hN
     rw [hN] at HML ⊢
     have HB3:=Lib.hid (HB2.out.trans (hb3.mono HB2.out.size))
     have HT3:=Lib.hid ((hb3.block _ (by rw [HZ2.out]; have:=HTW.out; omega)).trans HT2.out)
     have HU3:=Lib.hid ((hb3.block _ (by rw [HZ2.out]; omega)).trans HU2.out)
     have HZ3:=Lib.hid (show T < w3.heap.size by have:=hb3.size; rw [HZ2.out] at this; omega)
     obtain ⟨B3,hB3⟩ : ∃ b,w3.heap.size = b:=⟨_,rfl⟩
     rw [hB3] at HZ3
     have HB3E:=Lib.hid hB3
     clear hM hN hb3 hB3 HU2 HT2 HB2 HZ2
     obtain ⟨i0,hi,hz0,hz1,hz2⟩:=info_parts (show (Tryz.prog.info? 9).map (fun i => (i.zero,i.size,i.bytes)) = some (some (.string ByteArray.empty),1,16) by kernel_rfl)
     go_wp2_with fail
     have hN9:=HML.out
     go_loopw [8] (fun i wr => ∃ (k : Nat) (acc : List (List UInt8)) (v : Value),k ≤ N ∧ i = .int .i64 k ∧ Gt.AAt Gt.seg M acc k ∧ wr.heap[T]? = some (.cells #[v,.slice none 0 0] 36 (0,0)) ∧ wr.ownsRow B3 9 1 v acc.length (acc.map tx) ∧ Fr T B3 w3 wr)
      (fun i _ => N - (intOf i).toNat)
     case atStart => exact ⟨0,[],.slice none 0 0,Nat.zero_le _,rfl,Gt.aAt_start _ _,HU3.out,World.ownsRow_nil _ _ _ _,Fr.of (Below.refl _ _)⟩
     case round =>
      obtain ⟨k,acc,v,hk,rfl,hat,hTc,hown,hfr'⟩:=hrel
      have HA:=Lib.hid hat
      have HTC:=Lib.hid hTc
      have HO2:=Lib.hid hown
      have HF:=Lib.hid hfr'
      have hR:=HR7.out.fr HU3.out HF.out (Nat.le_of_eq HB3E.out)
      have HR:=Lib.hid hR
      have HBW:=Lib.hid (show Below w.heap.size w wr from HB3.out.trans (HF.out.below (by have:=HTW.out; omega) (by have:=HTW.out; have:=HZ3.out; omega)))
      have HTwr:=Lib.hid (show wr.heap[w.heap.size]? = some (.cells #[.slice none 0 0,.slice none 0 0] 36 (0,0)) from (HF.out.block _ (by have:=HTW.out; have:=HZ3.out; omega) (by have:=HTW.out; omega)).trans HT3.out)
      clear hat hTc hown hfr'
      by_cases hlt : k < N
      ·have HKM:=Lib.hid (show k < M.length by rw [HN.out]; exact hlt)
       obtain ⟨l,hl⟩ : ∃ l,M[k]'HKM.out = l:=⟨_,rfl⟩
       have HLM:=Lib.hid (show l ∈ M by rw [← hl]; exact List.getElem_mem _)
       have hcell : ∃ g,p7 = some ⟨g,0,none⟩ ∧ wr.cell? ⟨g,k,none⟩ = some (tx l):=by
        obtain ⟨p,cap,hp,h⟩:=hR
        rcases h with h | ⟨g,hg,hc⟩
        ·rw [HN.out] at h; omega
        ·refine ⟨g,?_,?_⟩
         ·have : p7 = p:=by injection hp
          rw [this,hg]
         ·rw [hc k HKM.out,List.getD_eq_getElem?_getD,List.getElem?_eq_getElem HKM.out,hl]; rfl
       obtain ⟨g,rfl,hck⟩:=hcell
       obtain ⟨lb,hlb⟩ : ∃ z : ByteArray,(⟨l.toArray⟩ : ByteArray) = z:=⟨_,rfl⟩
       rw [show tx l = .string lb by unfold tx; rw [hlb]] at hck
       have HLB:=Lib.hid (show lb.data.toList = l by rw [← hlb])
       have HLS:=Lib.hid (show lb.size ≤ 1000000 by
        have h1 : lb.data.toList.length = lb.size:=rfl
        rw [HLB.out] at h1
        have:=HMS.out l HLM.out
        omega)
       have K1:=Lib.hid (ref_Decode lb false wr HLS.out)
       rw [HLB.out] at K1
       have HL2:=Lib.hid hl
       clear hR hl hlb
       cases hd : Gt.dec false l with
       | none =>
        rw [hd] at K1
        have HNO:=Lib.hid (Gt.parse_segs HOK.out (by rw [HSG.out]; exact Gt.aAt_bad HA.out HKM.out (by rw [HL2.out]; exact Gt.seg_none hd)))
        clear hd
        simp only [decOut] at K1
        go_wp2_with fail
        refine K1.out.mono ?_
        rintro e w4 ⟨rfl,hb4⟩
        have HB4:=Lib.hid (HBW.out.trans (hb4.mono HBW.out.size))
        have HT4:=Lib.hid ((hb4.block _ (Nat.lt_of_lt_of_le (Array.getElem?_eq_some_iff.1 HT.out).1 (Nat.le_trans (Nat.le_of_eq HZ.out) (by have h1:=HF.out.size; have h2:=HTW.out; have h3:=HZ3.out; have h4:=HB3E.out; omega)))).trans HTwr.out)
        clear hb4
        have c0 : w4.cell? ⟨w.heap.size,0,none⟩ = some (.slice none 0 0):=by simp [World.cell?,HT4.out]
        have c1 : w4.cell? ⟨w.heap.size,1,none⟩ = some (.slice none 0 0):=by simp [World.cell?,HT4.out]
        have z0 : w4.frozen? ⟨w.heap.size,0,none⟩ = false:=frozen_of_row _ _ _ _ _ HT4.out
        have z1 : w4.frozen? ⟨w.heap.size,1,none⟩ = false:=frozen_of_row _ _ _ _ _ HT4.out
        go_wp2_with fail
        obtain ⟨wz,hwz⟩ : ∃ Z,(w4.setCell ⟨w.heap.size,0,none⟩ (.slice none 0 0)).setCell ⟨w.heap.size,1,none⟩ (.slice none 0 0) = Z:=⟨_,rfl⟩
        rw [hwz]
        have HBz:=Lib.hid (show Below w.heap.size w wz by rw [← hwz]; exact (HB4.out.setCell (p:=⟨w.heap.size,0,none⟩) (Nat.le_refl _) _).setCell (p:=⟨w.heap.size,1,none⟩) (Nat.le_refl _) _)
        have hTz : wz.heap[w.heap.size]? = some (.cells #[.slice none 0 0,.slice none 0 0] 36 (0,0)):=by
         rw [← hwz]; exact heap_setCell_same _ _ 1 _ _ _ (heap_setCell_same _ _ 0 _ _ _ HT4.out)
        have f0 : wz.cell? ⟨w.heap.size,0,none⟩ = some (.slice none 0 0):=by simp [World.cell?,hTz]
        have f1 : wz.cell? ⟨w.heap.size,1,none⟩ = some (.slice none 0 0):=by simp [World.cell?,hTz]
        exact bodyPost_ret (v:=.tuple #[.agg #[.slice none 0 0,.slice none 0 0],.int .i64 210]) (by simp [results,Tryz.results23,go_sem,f0,f1]) rfl ⟨by rw [← HO.out,HNO.out]; rfl,HBz.out⟩
       | some q =>
        rw [hd] at K1
        have HSEG:=Lib.hid (Gt.seg_some hd)
        have HQL:=Lib.hid (Gt.dec_length false _ l q (Nat.le_refl _) hd)
        clear hd
        obtain ⟨qq,hqq⟩ : ∃ z : ByteArray,(⟨q.toArray⟩ : ByteArray) = z:=⟨_,rfl⟩
        have HQQ:=Lib.hid (show qq.data.toList = q by rw [← hqq])
        have HQS2:=Lib.hid (show qq.size ≤ 1000000 by
         have h1 : qq.data.toList.length = qq.size:=rfl
         rw [HQQ.out] at h1
         have:=HQL.out
         have:=HMS.out l HLM.out
         omega)
        simp only [decOut,hqq] at K1
        have HTX:=Lib.hid (show tx q = .string qq by unfold tx; rw [hqq])
        have KP:=Lib.hid (fun W => ref_part qq W HQS2.out)
        rw [HQQ.out] at KP
        clear hqq
        cases hf : Gt.fine q with
        | false =>
         rw [hf] at KP
         have HNO:=Lib.hid (Gt.parse_segs HOK.out (by rw [HSG.out]; exact Gt.aAt_bad HA.out HKM.out (by rw [HL2.out,HSEG.out,hf]; rfl)))
         clear hf
         go_wp2_with fail
         refine K1.out.mono ?_
         rintro e w4a ⟨rfl,hb4a⟩
         go_wp2_with fail
         refine (KP.out w4a).mono ?_
         rintro e w4 ⟨rfl,hb4b⟩
         have hb4:=hb4a.trans (hb4b.mono hb4a.size)
         have HB4:=Lib.hid (HBW.out.trans (hb4.mono HBW.out.size))
         have HT4:=Lib.hid ((hb4.block _ (Nat.lt_of_lt_of_le (Array.getElem?_eq_some_iff.1 HT.out).1 (Nat.le_trans (Nat.le_of_eq HZ.out) (by have h1:=HF.out.size; have h2:=HTW.out; have h3:=HZ3.out; have h4:=HB3E.out; omega)))).trans HTwr.out)
         clear hb4 hb4a hb4b
         have c0 : w4.cell? ⟨w.heap.size,0,none⟩ = some (.slice none 0 0):=by simp [World.cell?,HT4.out]
         have c1 : w4.cell? ⟨w.heap.size,1,none⟩ = some (.slice none 0 0):=by simp [World.cell?,HT4.out]
         have z0 : w4.frozen? ⟨w.heap.size,0,none⟩ = false:=frozen_of_row _ _ _ _ _ HT4.out
         have z1 : w4.frozen? ⟨w.heap.size,1,none⟩ = false:=frozen_of_row _ _ _ _ _ HT4.out
         go_wp2_with fail
         obtain ⟨wz,hwz⟩ : ∃ Z,(w4.setCell ⟨w.heap.size,0,none⟩ (.slice none 0 0)).setCell ⟨w.heap.size,1,none⟩ (.slice none 0 0) = Z:=⟨_,rfl⟩
         rw [hwz]
         have HBz:=Lib.hid (show Below w.heap.size w wz by rw [← hwz]; exact (HB4.out.setCell (p:=⟨w.heap.size,0,none⟩) (Nat.le_refl _) _).setCell (p:=⟨w.heap.size,1,none⟩) (Nat.le_refl _) _)
         have hTz : wz.heap[w.heap.size]? = some (.cells #[.slice none 0 0,.slice none 0 0] 36 (0,0)):=by
          rw [← hwz]; exact heap_setCell_same _ _ 1 _ _ _ (heap_setCell_same _ _ 0 _ _ _ HT4.out)
         have f0 : wz.cell? ⟨w.heap.size,0,none⟩ = some (.slice none 0 0):=by simp [World.cell?,hTz]
         have f1 : wz.cell? ⟨w.heap.size,1,none⟩ = some (.slice none 0 0):=by simp [World.cell?,hTz]
         exact bodyPost_ret (v:=.tuple #[.agg #[.slice none 0 0,.slice none 0 0],.int .i64 210]) (by simp [results,Tryz.results23,go_sem,f0,f1]) rfl ⟨by rw [← HO.out,HNO.out]; rfl,HBz.out⟩
        | true =>
         rw [hf] at KP
         have HN1:=Lib.hid (Gt.aAt_next HA.out HKM.out (show Gt.seg (M[k]'HKM.out) = some q by rw [HL2.out,HSEG.out,hf]; rfl))
         clear hf
         go_wp2_with fail
         refine K1.out.mono ?_
         rintro e w4a ⟨rfl,hb4a⟩
         go_wp2_with fail
         refine (KP.out w4a).mono ?_
         rintro e w4 ⟨rfl,hb4b⟩
         have hb4:=hb4a.trans (hb4b.mono hb4a.size)
         have HLT:=Lib.hid (show T < wr.heap.size from (Array.getElem?_eq_some_iff.1 HTC.out).1)
         have hTC4:=(hb4.block _ HLT.out).trans HTC.out
         have HTC4:=Lib.hid hTC4
         have HO4:=Lib.hid (HO2.out.belowed hb4)
         have HF4:=Lib.hid (show Fr T B3 w3 w4 from HF.out.trans (Fr.of (hb4.mono (by have h1:=HF.out.size; rw [HB3E.out] at h1; exact h1))))
         obtain ⟨pv,cv,rfl⟩:=own_slice HO2.out
         have d0 : w4.cell? ⟨T,0,none⟩ = some (.slice pv acc.length cv):=by simp [World.cell?,hTC4]
         have zz0 : w4.frozen? ⟨T,0,none⟩ = false:=frozen_of_row _ _ _ _ _ hTC4
         clear hb4 hb4a hb4b hTC4
         go_wp2_with (at_builtin; refine wpList_append_own _ rfl _ _ 33 rfl B3 9 i0 (.string ByteArray.empty) 1 16 Tryz.underlying33 hi hz0 hz1 hz2 rfl (by decide) _ _ _ rfl (HO4.out.alloc _) ⟨w4.heap.size,0,none⟩ 1 1 [.string qq] rfl rfl ?c1 ?c2 ?c3 ?c4 ?c5 ?_)
         case c1 =>
          intro j u hj
          match j,hj with
          | 0,hj => simp at hj; subst hj; simp [Addr.add]
         case c2 => intro u hu; simp at hu; subst hu; rfl
         case c3 => have:=HA.out.2.1; have:=HML.out; unfold maxLen; omega
         case c4 => have:=HA.out.2.1; have:=HML.out; omega
         case c5 => have h1:=HF4.out.size; rw [HB3E.out] at h1; simp; omega
         intro v' w5 hown' hgrow _
         have HF5:=Lib.hid (show Fr T B3 w3 w5 from HF4.out.trans (Fr.of (Below.grown ((Below.refl _ _).alloc (by have h1:=HF4.out.size; rw [HB3E.out] at h1; exact h1) _) hgrow (by have h1:=HF4.out.size; rw [HB3E.out] at h1; simp; omega) (own_ge HO4.out))))
         have HO5:=Lib.hid (show w5.ownsRow B3 9 1 v' (acc ++ [q]).length ((acc ++ [q]).map tx) by
          rw [List.map_append,List.length_append]
          show w5.ownsRow B3 9 1 v' _ (_ ++ [tx q])
          rw [HTX.out]
          exact hown')
         obtain ⟨pw,cw,rfl⟩:=own_slice hown'
         have hTC5 : w5.heap[T]? = some (.cells #[.slice pv acc.length cv,.slice none 0 0] 36 (0,0)):=by
          have h9 : T < w4.heap.size:=(Array.getElem?_eq_some_iff.1 HTC4.out).1
          have h8 : T < B3:=HZ3.out
          rw [hgrow.block T (by rw [World.size_alloc]; exact Nat.lt_succ_of_lt h9) (fun e => by
           have h1 : B3 ≤ T:=own_ge HO4.out T e.symm
           exact Nat.lt_irrefl _ (Nat.lt_of_lt_of_le h8 h1)),Below.heap_alloc _ _ _ h9]
          exact HTC4.out
         have HTC5:=Lib.hid hTC5
         have d5 : w5.cell? ⟨T,0,none⟩ = some (.slice pv acc.length cv):=by simp [World.cell?,hTC5]
         have zz5 : w5.frozen? ⟨T,0,none⟩ = false:=frozen_of_row _ _ _ _ _ hTC5
         clear hgrow hown' hTC5 d0 zz0
         go_wp2
         go_roundw
         case rel =>
          refine ⟨k + 1,acc ++ [q],.slice pw (acc.length + 1) cw,hlt,by go_num,HN1.out,heap_setCell_same _ _ 0 _ _ _ HTC5.out,?_,HF5.out.trans (Fr.set _ _ _ _ _)⟩
          exact own_set HO5.out T 0 _ HZ3.out
         case measure => simp [intOf]; omega
      ·have HEP:=Lib.hid (show Gt.all? Gt.seg (Gt.segs s.data.toList) = some acc by rw [HSG.out]; exact Gt.aAt_end HA.out (by rw [HN.out]; omega))
       have HPR:=Lib.hid (strRow_own HO2.out)
       obtain ⟨pv,cv,rfl⟩:=own_slice HO2.out
       have KB38:=ref_between qb 38 wr (by have:=HQS.out; omega)
       rw [show (((38 : UInt8).toNat : Nat) : Int) = 38 from rfl] at KB38
       have HKB:=Lib.hid KB38
       obtain ⟨np,hnp⟩ : ∃ z,acc.length = z:=⟨_,rfl⟩
       rw [hnp] at HTC HPR
       clear KB38 hnp
       have HR7:=Lib.hid trivial
       go_wp2_with fail
       refine HKB.out.mono ?_
       rintro e w7 ⟨r11,rfl,hr11,hb7⟩
       have HR11:=Lib.hid hr11
       obtain ⟨p11,c11,rfl,_⟩:=hr11
       obtain ⟨M2,hM2⟩ : ∃ M,Gs.parts 38 [] qb.data.toList = M:=⟨_,rfl⟩
       have HM2L:=Lib.hid (show M2.length ≤ 100000 by
        have h1:=Gs.parts_many 38 qb.data.toList []
        rw [hM2] at h1
        have h2 : qb.data.toList.length = qb.size:=rfl
        have h3:=HQS.out
        omega)
       have HM2S:=Lib.hid (fun l (hl : l ∈ M2) => show l.length ≤ 90000 by
        have h1:=Gs.parts_len 38 qb.data.toList [] l (by rw [hM2]; exact hl)
        have h2 : qb.data.toList.length = qb.size:=rfl
        have h3:=HQS.out
        simp at h1
        omega)
       rw [hM2] at HR11 HQG ⊢
       obtain ⟨N2,hN2⟩ : ∃ N,M2.length = N:=⟨_,rfl⟩
       have HN2:=Lib.hid hN2
       rw [hN2] at HM2L ⊢
       have hn2:=HM2L.out
       have HWL:=Lib.hid (show w.heap.size < wr.heap.size by
        have h1:=HF.out.size; have h2:=HTW.out; have h3:=HZ3.out; have h4:=HB3E.out; omega)
       have HTL:=Lib.hid (show T < wr.heap.size from (Array.getElem?_eq_some_iff.1 HTC.out).1)
       have HB7:=Lib.hid (HBW.out.trans (hb7.mono HBW.out.size))
       have HT7:=Lib.hid ((hb7.block _ HWL.out).trans HTwr.out)
       have HU7:=Lib.hid ((hb7.block _ HTL.out).trans HTC.out)
       have HP7:=Lib.hid (HPR.out.below hb7)
       have HTL7:=Lib.hid (show T < w7.heap.size from Nat.lt_of_lt_of_le HTL.out hb7.size)
       obtain ⟨B7,hB7⟩ : ∃ b,w7.heap.size = b:=⟨_,rfl⟩
       rw [hB7] at HTL7
       have HB7E:=Lib.hid hB7
       clear hM2 hN2 hb7 hB7
       obtain ⟨j0,hj,hjz0,hjz1,hjz2⟩:=info_parts (show (Tryz.prog.info? 93).map (fun i => (i.zero,i.size,i.bytes)) = some (some (.agg #[.string ByteArray.empty,.string ByteArray.empty]),2,32) by kernel_rfl)
       go_wp2_with fail
       go_loopw [12] (fun i wr => ∃ (k : Nat) (acq : List (List UInt8 × List UInt8)) (v : Value),k ≤ N2 ∧ i = .int .i64 k ∧ Gt.QAt M2 acq k ∧ wr.heap[T]? = some (.cells #[.slice pv np cv,v] 36 (0,0)) ∧ wr.ownsRow B7 93 2 v acq.length (prs acq) ∧ Fr T B7 w7 wr)
        (fun i _ => N2 - (intOf i).toNat)
       case atStart => exact ⟨0,[],.slice none 0 0,Nat.zero_le _,rfl,Gt.qAt_start _,HU7.out,World.ownsRow_nil _ _ _ _,Fr.of (Below.refl _ _)⟩
       case round =>
        clear HA HTC HO2 HF HBW HTwr HWL HPR HTL
        obtain ⟨k,acq,v,hk,rfl,hat,hTc,hown,hfr'⟩:=hrel
        have HA:=Lib.hid hat
        have HTC:=Lib.hid hTc
        have HO2:=Lib.hid hown
        have HF:=Lib.hid hfr'
        have hR:=HR11.out.fr HU7.out HF.out (Nat.le_of_eq HB7E.out)
        have hTB : T < B7:=HTL7.out
        have HBW:=Lib.hid (show Below w.heap.size w wr from HB7.out.trans (HF.out.below (by have:=HTW.out; omega) (by have:=HTW.out; omega)))
        have HTwr:=Lib.hid (show wr.heap[w.heap.size]? = some (.cells #[.slice none 0 0,.slice none 0 0] 36 (0,0)) from (HF.out.block _ (by have:=HTW.out; omega) (by have:=HTW.out; omega)).trans HT7.out)
        have HPR:=Lib.hid (HP7.out.fr HU7.out HF.out (Nat.le_of_eq HB7E.out))
        have HWZ:=Lib.hid (show B7 ≤ wr.heap.size by have h1:=HF.out.size; rw [HB7E.out] at h1; exact h1)
        obtain ⟨p2,c2,rfl⟩:=own_slice hown
        clear hat hTc hown hfr'
        by_cases hlt : k < N2
        ·have HKM:=Lib.hid (show k < M2.length by rw [HN2.out]; exact hlt)
         obtain ⟨l,hl⟩ : ∃ l,M2[k]'HKM.out = l:=⟨_,rfl⟩
         have HLM:=Lib.hid (show l ∈ M2 by rw [← hl]; exact List.getElem_mem _)
         have hcell : ∃ g,p11 = some ⟨g,0,none⟩ ∧ wr.cell? ⟨g,k,none⟩ = some (tx l):=by
          obtain ⟨p,cap,hp,h⟩:=hR
          rcases h with h | ⟨g,hg,hc⟩
          ·rw [HN2.out] at h; omega
          ·refine ⟨g,?_,?_⟩
           ·have : p11 = p:=by injection hp
            rw [this,hg]
           ·rw [hc k HKM.out,List.getD_eq_getElem?_getD,List.getElem?_eq_getElem HKM.out,hl]; rfl
         obtain ⟨g,rfl,hck⟩:=hcell
         obtain ⟨lb,hlb⟩ : ∃ z : ByteArray,(⟨l.toArray⟩ : ByteArray) = z:=⟨_,rfl⟩
         rw [show tx l = .string lb by unfold tx; rw [hlb]] at hck
         have HLB:=Lib.hid (show lb.data.toList = l by rw [← hlb])
         have HLS:=Lib.hid (show lb.size ≤ 1000000 by
          have h1 : lb.data.toList.length = lb.size:=rfl
          rw [HLB.out] at h1
          have:=HM2S.out l HLM.out
          omega)
         have HL2:=Lib.hid hl
         clear hR hl hlb
         cases hem : l.isEmpty with
         | true =>
          have HN1:=Lib.hid (Gt.qAt_skip HA.out HKM.out (by rw [HL2.out]; exact hem))
          have hem2 : lb.toList.isEmpty = true:=by rw [Lib.toList_data,HLB.out]; exact hem
          have hem3 : lb.toList = []:=List.isEmpty_iff.1 hem2
          clear hem
          go_wp2_with fail
          go_roundw
          case rel => exact ⟨k + 1,acq,_,hlt,by go_num,HN1.out,HTC.out,HO2.out,HF.out⟩
          case measure => simp [intOf]; omega
         | false =>
          have HEM:=Lib.hid hem
          have hem2 : lb.toList.isEmpty = false:=by rw [Lib.toList_data,HLB.out]; exact hem
          have K1:=Lib.hid (ref_pair lb wr HLS.out)
          rw [HLB.out] at K1
          clear hem
          cases hd : Gt.pairOf l with
          | none =>
           rw [hd] at K1
           have HNO:=Lib.hid (show Gt.parse s.data.toList = none by rw [Gt.parse_is HOK.out HEP.out,HQG.out,Gt.qAt_bad HA.out HKM.out (by rw [HL2.out]; exact HEM.out) (by rw [HL2.out]; exact hd)]; rfl)
           clear hd
           simp only [rprOut] at K1
           obtain ⟨eb,heb⟩ : ∃ z : ByteArray,(⟨#[]⟩ : ByteArray) = z:=⟨_,rfl⟩
           rw [heb] at K1
           clear heb
           go_wp2_with fail
           refine K1.out.mono ?_
           rintro e w8 ⟨rfl,hb8⟩
           obtain ⟨w4,hw4⟩ : ∃ Z,w8.alloc (.cells #[.string eb,.string eb] 93) = Z:=⟨_,rfl⟩
           have hb4 : Below wr.heap.size wr w4:=by rw [← hw4]; exact hb8.alloc hb8.size _
           have HB4:=Lib.hid (HBW.out.trans (hb4.mono HBW.out.size))
           have HT4:=Lib.hid ((hb4.block _ (by have:=HWZ.out; have:=HTW.out; omega)).trans HTwr.out)
           clear hb4 hb8
           have c0 : w4.cell? ⟨w.heap.size,0,none⟩ = some (.slice none 0 0):=by simp [World.cell?,HT4.out]
           have c1 : w4.cell? ⟨w.heap.size,1,none⟩ = some (.slice none 0 0):=by simp [World.cell?,HT4.out]
           have z0 : w4.frozen? ⟨w.heap.size,0,none⟩ = false:=frozen_of_row _ _ _ _ _ HT4.out
           have z1 : w4.frozen? ⟨w.heap.size,1,none⟩ = false:=frozen_of_row _ _ _ _ _ HT4.out
           go_wp2_with fail
           clear hw4
           obtain ⟨wz,hwz⟩ : ∃ Z,(w4.setCell ⟨w.heap.size,0,none⟩ (.slice none 0 0)).setCell ⟨w.heap.size,1,none⟩ (.slice none 0 0) = Z:=⟨_,rfl⟩
           rw [hwz]
           have HBz:=Lib.hid (show Below w.heap.size w wz by rw [← hwz]; exact (HB4.out.setCell (p:=⟨w.heap.size,0,none⟩) (Nat.le_refl _) _).setCell (p:=⟨w.heap.size,1,none⟩) (Nat.le_refl _) _)
           have hTz : wz.heap[w.heap.size]? = some (.cells #[.slice none 0 0,.slice none 0 0] 36 (0,0)):=by
            rw [← hwz]; exact heap_setCell_same _ _ 1 _ _ _ (heap_setCell_same _ _ 0 _ _ _ HT4.out)
           have f0 : wz.cell? ⟨w.heap.size,0,none⟩ = some (.slice none 0 0):=by simp [World.cell?,hTz]
           have f1 : wz.cell? ⟨w.heap.size,1,none⟩ = some (.slice none 0 0):=by simp [World.cell?,hTz]
           exact bodyPost_ret (v:=.tuple #[.agg #[.slice none 0 0,.slice none 0 0],.int .i64 210]) (by simp [results,Tryz.results23,go_sem,f0,f1]) rfl ⟨by rw [← HO.out,HNO.out]; rfl,HBz.out⟩
          | some q =>
           obtain ⟨qa,qd⟩:=q
           rw [hd] at K1
           have HN1:=Lib.hid (Gt.qAt_next HA.out HKM.out (by rw [HL2.out]; exact HEM.out) (by rw [HL2.out]; exact hd))
           clear hd
           simp only [rprOut] at K1
           obtain ⟨ab,hab⟩ : ∃ z : ByteArray,(⟨qa.toArray⟩ : ByteArray) = z:=⟨_,rfl⟩
           obtain ⟨db,hdb⟩ : ∃ z : ByteArray,(⟨qd.toArray⟩ : ByteArray) = z:=⟨_,rfl⟩
           rw [hab,hdb] at K1
           have HTA:=Lib.hid (show [tx qa,tx qd] = [.string ab,.string db] by unfold tx; rw [hab,hdb])
           clear hab hdb
           go_wp2_with fail
           refine K1.out.mono ?_
           rintro e w8 ⟨rfl,hb8⟩
           obtain ⟨w4,hw4⟩ : ∃ Z,w8.alloc (.cells #[.string ab,.string db] 93) = Z:=⟨_,rfl⟩
           have HB4:=Lib.hid (show Below wr.heap.size wr w4 by rw [← hw4]; exact hb8.alloc hb8.size _)
           have hTwr9 : T < wr.heap.size:=by have:=HWZ.out; omega
           have hTC4:=(HB4.out.block _ hTwr9).trans HTC.out
           have hPN : w4.heap[w8.heap.size]? = some (.cells #[.string ab,.string db] 93 (0,0)):=by rw [← hw4]; exact World.alloc_heap_new _ _
           have d1 : w4.cell? ⟨T,1,none⟩ = some (.slice p2 acq.length c2):=by simp [World.cell?,hTC4]
           have g1 : w4.frozen? ⟨T,1,none⟩ = false:=frozen_of_row _ _ _ _ _ hTC4
           have d2 : w4.cell? ⟨w8.heap.size,0,none⟩ = some (.string ab):=by simp [World.cell?,hPN]
           have d3 : w4.cell? ⟨w8.heap.size,1,none⟩ = some (.string db):=by simp [World.cell?,hPN]
           have HTC4:=Lib.hid hTC4
           have HO4:=Lib.hid (HO2.out.belowed HB4.out)
           have HF4:=Lib.hid (show Fr T B7 w7 w4 from HF.out.trans (Fr.of (HB4.out.mono HWZ.out)))
           have HZ4:=Lib.hid (show B7 ≤ w4.heap.size from Nat.le_trans HWZ.out HB4.out.size)
           clear hTC4 hPN hb8
           go_wp2_with (at_builtin; refine wpList_append_own _ rfl _ _ 34 rfl B7 93 j0 (.agg #[.string ByteArray.empty,.string ByteArray.empty]) 2 32 Tryz.underlying34 hj hjz0 hjz1 hjz2 rfl (by decide) _ _ _ rfl (HO4.out.alloc _) ⟨w4.heap.size,0,none⟩ 1 1 [.string ab,.string db] rfl rfl ?e1 ?e2 ?e3 ?e4 ?e5 ?_)
           case e1 =>
            intro j u hj
            match j,hj with
            | 0,hj => simp at hj; subst hj; simp [Addr.add]
            | 1,hj => simp at hj; subst hj; simp [Addr.add]
           case e2 => intro u hu; simp at hu; rcases hu with rfl | rfl <;> rfl
           case e3 => have:=HA.out.2.1; unfold maxLen; omega
           case e4 => have:=HA.out.2.1; omega
           case e5 => have h1:=HZ4.out; simp; omega
           intro v' w5 hown' hgrow _
           have HF5:=Lib.hid (show Fr T B7 w7 w5 from HF4.out.trans (Fr.of (Below.grown ((Below.refl _ _).alloc HZ4.out _) hgrow (by have h1:=HZ4.out; simp; omega) (own_ge2 HO4.out))))
           have HO5:=Lib.hid (show w5.ownsRow B7 93 2 v' (acq ++ [(qa,qd)]).length (prs (acq ++ [(qa,qd)])) by
            rw [prs_snoc,List.length_append,HTA.out]
            exact hown')
           obtain ⟨pw,cw,rfl⟩:=own_slice hown'
           have hTC5 : w5.heap[T]? = some (.cells #[.slice pv np cv,.slice p2 acq.length c2] 36 (0,0)):=by
            have h9 : T < w4.heap.size:=(Array.getElem?_eq_some_iff.1 HTC4.out).1
            have h8 : T < B7:=HTL7.out
            rw [hgrow.block T (by rw [World.size_alloc]; exact Nat.lt_succ_of_lt h9) (fun e => by
             have h1 : B7 ≤ T:=own_ge2 HO4.out T e.symm
             exact Nat.lt_irrefl _ (Nat.lt_of_lt_of_le h8 h1)),Below.heap_alloc _ _ _ h9]
            exact HTC4.out
           have HTC5:=Lib.hid hTC5
           have d5 : w5.cell? ⟨T,1,none⟩ = some (.slice p2 acq.length c2):=by simp [World.cell?,hTC5]
           have zz5 : w5.frozen? ⟨T,1,none⟩ = false:=frozen_of_row _ _ _ _ _ hTC5
           clear hgrow hown' hTC5 d1 g1 d2 d3
           go_wp2
           go_roundw
           case rel =>
            refine ⟨k + 1,acq ++ [(qa,qd)],.slice pw (acq.length + 1) cw,hlt,by go_num,HN1.out,heap_setCell_same _ _ 1 _ _ _ HTC5.out,?_,HF5.out.trans (Fr.set _ _ _ _ _)⟩
            exact own_set HO5.out T 1 _ HTL7.out
           case measure => simp [intOf]; omega
        ·have HEQ:=Lib.hid (show Gt.parse s.data.toList = some (acc,acq) by rw [Gt.parse_is HOK.out HEP.out,HQG.out,Gt.qAt_end HA.out (by rw [HN2.out]; omega)]; rfl)
         have HPQ:=Lib.hid (show PrRow wr (.slice p2 acq.length c2) acq from ⟨B7,HO2.out⟩)
         have d0 : wr.cell? ⟨T,0,none⟩ = some (.slice pv np cv):=by simp [World.cell?,HTC.out]
         have d1 : wr.cell? ⟨T,1,none⟩ = some (.slice p2 acq.length c2):=by simp [World.cell?,HTC.out]
         have c0 : wr.cell? ⟨w.heap.size,0,none⟩ = some (.slice none 0 0):=by simp [World.cell?,HTwr.out]
         have c1 : wr.cell? ⟨w.heap.size,1,none⟩ = some (.slice none 0 0):=by simp [World.cell?,HTwr.out]
         have z0 : wr.frozen? ⟨w.heap.size,0,none⟩ = false:=frozen_of_row _ _ _ _ _ HTwr.out
         have z1 : wr.frozen? ⟨w.heap.size,1,none⟩ = false:=frozen_of_row _ _ _ _ _ HTwr.out
         go_wp2_with fail
         obtain ⟨wz,hwz⟩ : ∃ Z,(wr.setCell ⟨w.heap.size,0,none⟩ (.slice pv np cv)).setCell ⟨w.heap.size,1,none⟩ (.slice p2 acq.length c2) = Z:=⟨_,rfl⟩
         rw [hwz]
         have HBz:=Lib.hid (show Below w.heap.size w wz by rw [← hwz]; exact (HBW.out.setCell (p:=⟨w.heap.size,0,none⟩) (Nat.le_refl _) _).setCell (p:=⟨w.heap.size,1,none⟩) (Nat.le_refl _) _)
         have t1 : (wr.setCell ⟨w.heap.size,0,none⟩ (.slice pv np cv)).heap[w.heap.size]? = some (.cells #[.slice pv np cv,.slice none 0 0] 36 (0,0)):=heap_setCell_same _ _ 0 _ _ (.slice pv np cv) HTwr.out
         have hTz : wz.heap[w.heap.size]? = some (.cells #[.slice pv np cv,.slice p2 acq.length c2] 36 (0,0)):=by
          rw [← hwz]; exact heap_setCell_same _ _ 1 _ _ _ t1
         have HRz:=Lib.hid (show StrRow wz (.slice pv np cv) acc by rw [← hwz]; exact (HPR.out.setT HTwr.out 0 _).setT t1 1 _)
         have HQz:=Lib.hid (show PrRow wz (.slice p2 acq.length c2) acq by rw [← hwz]; exact (HPQ.out.setT HTwr.out (by decide) 0 _).setT t1 (by decide) 1 _)
         have f0 : wz.cell? ⟨w.heap.size,0,none⟩ = some (.slice pv np cv):=by simp [World.cell?,hTz]
         have f1 : wz.cell? ⟨w.heap.size,1,none⟩ = some (.slice p2 acq.length c2):=by simp [World.cell?,hTz]
         clear hwz t1 hTz
         refine bodyPost_ret (v:=.tuple #[.agg #[.slice pv np cv,.slice p2 acq.length c2],.int .i64 0]) (by simp [results,Tryz.results23,go_sem,f0,f1]) rfl ⟨?_,HBz.out⟩
         rw [← HO.out,HEQ.out]
         exact ⟨_,_,rfl,HRz.out,HQz.out⟩
  ·have HNO:=Lib.hid (Gt.parse_bad (ok_head (s:=s.data.toList) (by rw [HHD.out]; exact beq_eq_false_iff_ne.2 hx)))
   have hx' : (x0 == 47) = false:=beq_eq_false_iff_ne.2 hx
   have hx2 : (x0 != 47) = true:=by unfold bne; rw [hx']; rfl
   clear hx
   go_enter Tryz.func23,Tryz.ntmps23
   go_wp2_with fail
   rw [HW.out]
   go_wp2_with fail
   exact bodyPost_ret (v:=.tuple #[.agg #[.slice none 0 0,.slice none 0 0],.int .i64 210]) (by simp [results,Tryz.results23,go_sem,c0,c1]) rfl ⟨by rw [← HO.out,HNO.out]; rfl,HB.out⟩
 ·have HNO:=Lib.hid (Gt.parse_bad (ok_head (s:=s.data.toList) (by
   have h3 : s.data.toList = []:=List.length_eq_zero_iff.1 (by rw [HL.out]; omega)
   rw [h3]; rfl)))
  have hsz : ((s.size : Int) == 0) = true:=beq_iff_eq.2 (by omega)
  go_enter Tryz.func23,Tryz.ntmps23
  go_wp2_with fail
  rw [HW.out]
  go_wp2_with fail
  exact bodyPost_ret (v:=.tuple #[.agg #[.slice none 0 0,.slice none 0 0],.int .i64 210]) (by simp [results,Tryz.results23,go_sem,c0,c1]) rfl ⟨by rw [← HO.out,HNO.out]; rfl,HB.out⟩
end Go.Proofs.YtfacmnooklljnaaGreatDoor
namespace Go.Proofs.YtfacmnooklljnaaGreatDoor
open Go.RowKit Go.Shelf
set_option maxHeartbeats 8000000
set_option maxRecDepth 100000
def TS (w : World) (v : Value) (L : List (List UInt8)) : Prop :=
 (∃ p c,v = .slice p 0 c ∧ L = []) ∨ ∃ b off cap,v = .slice (some ⟨b,off,none⟩) L.length cap ∧ ∀ j,j < L.length → w.cell? ⟨b,off + j,none⟩ = some (tx (L.getD j []))
def PS (w : World) (v : Value) (L : List (List UInt8 × List UInt8)) : Prop :=
 (v = .slice none 0 0 ∧ L = []) ∨ ∃ b off cap,v = .slice (some ⟨b,off,none⟩) L.length cap ∧ ∀ j,j < L.length → w.cell? ⟨b,off + j * 2,none⟩ = some (tx (L.getD j ([],[])).1) ∧ w.cell? ⟨b,off + j * 2 + 1,none⟩ = some (tx (L.getD j ([],[])).2)
theorem TS.below {w w' : World} {v : Value} {L : List (List UInt8)} (h : TS w v L) (k : Below w.heap.size w w') : TS w' v L:=by
 rcases h with h | ⟨b,off,cap,h1,h3⟩
 ·exact .inl h
 ·exact .inr ⟨b,off,cap,h1,fun j hj => cell_below k (h3 j hj)⟩
theorem PS.below {w w' : World} {v : Value} {L : List (List UInt8 × List UInt8)} (h : PS w v L) (k : Below w.heap.size w w') : PS w' v L:=by
 rcases h with h | ⟨b,off,cap,h1,h3⟩
 ·exact .inl h
 ·exact .inr ⟨b,off,cap,h1,fun j hj => ⟨cell_below k (h3 j hj).1,cell_below k (h3 j hj).2⟩⟩
theorem TS.of {w : World} {v : Value} {L : List (List UInt8)} (h : StrRow w v L) : TS w v L:=by
 obtain ⟨p,cap,rfl,h⟩:=h
 rcases h with h | ⟨g,rfl,hc⟩
 ·exact .inl ⟨p,cap,by rw [h],List.length_eq_zero_iff.1 h⟩
 ·refine .inr ⟨g,0,cap,rfl,fun j hj => ?_⟩
  rw [Nat.zero_add]; exact hc j hj
theorem prs_get : ∀ (L : List (List UInt8 × List UInt8)) (j : Nat),j < L.length → (prs L)[j * 2]? = some (tx (L.getD j ([],[])).1) ∧ (prs L)[j * 2 + 1]? = some (tx (L.getD j ([],[])).2)
 | p :: L,0,_ => ⟨rfl,rfl⟩
 | p :: L,j + 1,h => by
  have:=prs_get L j (by simpa using h)
  have e : prs (p :: L) = tx p.1 :: tx p.2 :: prs L:=rfl
  rw [e,show (j + 1) * 2 = j * 2 + 1 + 1 by omega]
  simpa using this
theorem PS.of {w : World} {v : Value} {L : List (List UInt8 × List UInt8)} (h : PrRow w v L) : PS w v L:=by
 obtain ⟨B,hl,h⟩:=h
 rcases h with ⟨rfl,h0⟩ | ⟨g,cap,cur,rfl,_,hg,hc,_,hs,ht⟩
 ·exact .inl ⟨rfl,List.length_eq_zero_iff.1 h0⟩
 ·refine .inr ⟨g,0,cap,rfl,fun j hj => ?_⟩
  have hp:=prs_get L j hj
  rw [Nat.zero_add,← ht,List.getElem?_take_of_lt (by omega),List.getElem?_take_of_lt (by omega)] at *
  refine ⟨?_,?_⟩
  ·rw [← hp.1]; simp [World.cell?,hg]
  ·rw [← hp.2]; simp [World.cell?,hg]
theorem TS.slice {w : World} {v : Value} {L : List (List UInt8)} (h : TS w v L) : ∃ p c,v = .slice p L.length c:=by
 rcases h with ⟨p,c,rfl,rfl⟩ | ⟨b,off,cap,rfl,_⟩
 ·exact ⟨_,_,rfl⟩
 ·exact ⟨_,_,rfl⟩
theorem PS.slice {w : World} {v : Value} {L : List (List UInt8 × List UInt8)} (h : PS w v L) : ∃ p c,v = .slice p L.length c:=by
 rcases h with ⟨rfl,rfl⟩ | ⟨b,off,cap,rfl,_⟩
 ·exact ⟨_,_,rfl⟩
 ·exact ⟨_,_,rfl⟩
theorem TS.cells {w : World} {p : Option Addr} {n c : Nat} {L : List (List UInt8)} (h : TS w (.slice p n c) L) {k : Nat} (hk : k < L.length) : ∃ b off,p = some ⟨b,off,none⟩ ∧ ∀ j,j < L.length → w.cell? ⟨b,off + j,none⟩ = some (tx (L.getD j [])):=by
 rcases h with ⟨p,c,_,rfl⟩ | ⟨b,off,cap,h1,h3⟩
 ·simp at hk
 ·refine ⟨b,off,by injection h1,h3⟩
theorem PS.cells {w : World} {p : Option Addr} {n c : Nat} {L : List (List UInt8 × List UInt8)} (h : PS w (.slice p n c) L) {k : Nat} (hk : k < L.length) : ∃ b off,p = some ⟨b,off,none⟩ ∧ ∀ j,j < L.length → w.cell? ⟨b,off + j * 2,none⟩ = some (tx (L.getD j ([],[])).1) ∧ w.cell? ⟨b,off + j * 2 + 1,none⟩ = some (tx (L.getD j ([],[])).2):=by
 rcases h with ⟨_,rfl⟩ | ⟨b,off,cap,h1,h3⟩
 ·simp at hk
 ·refine ⟨b,off,by injection h1,h3⟩
theorem take_getD {α : Type} (L : List α) (d : α) (k : Nat) (h : k < L.length) : L.take (k + 1) = L.take k ++ [L.getD k d]:=by
 rw [List.take_succ_eq_append_getElem h,List.getD_eq_getElem?_getD,List.getElem?_eq_getElem h]; rfl
end Go.Proofs.YtfacmnooklljnaaGreatDoor
namespace Go.Proofs.YtfacmnooklljnaaGreatDoor
open Go.RowKit Go.Shelf
set_option maxHeartbeats 8000000
set_option maxRecDepth 100000
end Go.Proofs.YtfacmnooklljnaaGreatDoor
namespace Go.Proofs.YtfacmnooklljnaaGreatDoor
open Go.RowKit Go.Shelf
attribute [local go_sem] Oper.semAt_some
set_option maxHeartbeats 8000000
set_option maxRecDepth 100000
end Go.Proofs.YtfacmnooklljnaaGreatDoor
namespace Go.Proofs.YtfacmnooklljnaaGreatDoor
open Go.RowKit Go.Shelf
attribute [local go_sem] Oper.semAt_some
set_option maxHeartbeats 8000000
set_option maxRecDepth 100000
end Go.Proofs.YtfacmnooklljnaaGreatDoor
namespace Go.Proofs.YtfacmnooklljnaaGreatDoor
open Go.RowKit Go.Shelf
set_option maxHeartbeats 4000000
set_option maxRecDepth 100000
end Go.Proofs.YtfacmnooklljnaaGreatDoor
namespace Go.Proofs.YtfacmnooklljnaaGreatDoor
open Go.RowKit
section
variable {P : Program} {ops : Array Oper} {Q : Exit → Act → World → Prop}
end
end Go.Proofs.YtfacmnooklljnaaGreatDoor
namespace Go.Proofs.YtfacmnooklljnaaGreatDoor
open Go.RowKit Go.Shelf
set_option maxHeartbeats 4000000
set_option maxRecDepth 100000
def KT (Z : Nat → Prop) (X Y : World) : Prop:=∀ k cs t fr,X.heap[k]? = some (.cells cs t fr) → t ≠ 5 → ¬ Z k → Y.heap[k]? = some (.cells cs t fr)
theorem KT.refl (Z : Nat → Prop) (X : World) : KT Z X X:=fun _ _ _ _ h _ _ => h
theorem KT.trans {Z : Nat → Prop} {X Y V : World} (h : KT Z X Y) (k : KT Z Y V) : KT Z X V:=fun i cs t fr h1 h2 h3 => k i cs t fr (h i cs t fr h1 h2 h3) h2 h3
theorem KT.mono {Z Z' : Nat → Prop} {X Y : World} (h : KT Z X Y) (hz : ∀ k,Z k → Z' k) : KT Z' X Y:=fun i cs t fr h1 h2 h3 => h i cs t fr h1 h2 (fun e => h3 (hz i e))
theorem KT.setCell {Z : Nat → Prop} (X : World) (b i : Nat) (v : Value) (hz : Z b) : KT Z X (X.setCell ⟨b,i,none⟩ v):=fun k cs t fr h1 h2 h3 => (Below.heap_setCell _ _ _ k (fun e => h3 (by have e2 : k = b:=e; rw [e2]; exact hz))).trans h1
theorem KT.below {Z : Nat → Prop} {X Y : World} (h : Below X.heap.size X Y) : KT Z X Y:=fun k cs t fr h1 _ _ => (h.block k (Array.getElem?_eq_some_iff.1 h1).1).trans h1
theorem KT.drew {Z : Nat → Prop} (X : World) : KT Z X X.drew:=fun _ _ _ _ h _ _ => h
theorem KT.putObj {Z : Nat → Prop} {X : World} {l : Nat} {o : Obj} (o' : Obj) (h : X.heap[l]? = some o) (hc : o.isCells = false) : KT Z X (X.putObj l o'):=fun k cs t fr h1 _ _ => (World.putObj_heap_other (fun e => by subst e; rw [h] at h1; cases h1; cases hc)).trans h1
theorem KT.grown {Z : Nat → Prop} {X Y : World} {row : Option Nat} (h : X.grownBy Y row) (hr : ∀ g,row = some g → ∀ cs t fr,X.heap[g]? = some (.cells cs t fr) → t = 5) : KT Z X Y :=
 fun k cs t fr h1 h2 _ => (h.block k (Array.getElem?_eq_some_iff.1 h1).1 (fun e => h2 (hr k e.symm cs t fr h1))).trans h1
end Go.Proofs.YtfacmnooklljnaaGreatDoor
namespace Go.Proofs.YtfacmnooklljnaaGreatDoor
open Go.RowKit
section
variable {P : Program} {ops : Array Oper} {Q : Exit → Act → World → Prop}
end
end Go.Proofs.YtfacmnooklljnaaGreatDoor
namespace Go.Proofs.YtfacmnooklljnaaGreatDoor
open Go.RowKit Go.Shelf
attribute [local go_sem] Oper.semAt_some
set_option maxHeartbeats 8000000
set_option maxRecDepth 100000
namespace Gt
def by_ (k : Nat) : UInt8:=if k = 0 then 63 else 38
end Gt
theorem BD.turn {B b base : Nat} {X Y : World} {p : Value} {bs : List Value} (h : BD X b base p bs) (ht : Turn B (fun _ => False) X Y) : BD Y b base p bs:=by
 obtain ⟨v,h1,h2⟩:=h
 refine ⟨v,ht.cells h1 rfl (fun h => h),h2.1,h2.2.imp id ?_⟩
 rintro ⟨g,cap,cur,e1,e2,e3,e4⟩
 exact ⟨g,cap,cur,e1,e2,ht.cells e3 rfl (fun h => h),e4⟩
theorem BD.below {b base : Nat} {X Y : World} {p : Value} {bs : List Value} (h : BD X b base p bs) (hb : Below X.heap.size X Y) : BD Y b base p bs:=by
 obtain ⟨v,h1,h2⟩:=h
 exact ⟨v,(hb.block _ (Array.getElem?_eq_some_iff.1 h1).1).trans h1,h2.belowed hb⟩
def TxF (byb kb ek vb ev : ByteArray) : Nat → World → Value → Prop
 | 0,_,v => v = .string byb
 | 1,_,v => v = .string kb
 | 2,_,v => v = .string ek
 | 3,_,v => v = .string (byb ++ ek)
 | 4,_,v => v = .string (byb ++ ek ++ (⟨#[61]⟩ : ByteArray))
 | 5,_,v => v = .string vb
 | 6,_,v => v = .string ev
 | 7,_,v => v = .string (byb ++ ek ++ (⟨#[61]⟩ : ByteArray) ++ ev)
 | _,_,_ => False
theorem TxF.below {byb kb ek vb ev : ByteArray} (i : Nat) (w w' : World) (v : Value) (h : TxF byb kb ek vb ev i w v) (hb : Below w.heap.size w w') : TxF byb kb ek vb ev i w' v:=by
 match i,h with
 | 0,h | 1,h | 2,h | 3,h | 4,h | 5,h | 6,h | 7,h => exact h
 | n + 8,h => exact h.elim
end Go.Proofs.YtfacmnooklljnaaGreatDoor
namespace Go.Proofs.YtfacmnooklljnaaGreatDoor
open Go.RowKit Go.Shelf
set_option maxHeartbeats 4000000
set_option maxRecDepth 100000
end Go.Proofs.YtfacmnooklljnaaGreatDoor
namespace Go.Proofs.YtfacmnooklljnaaGreatDoor
open Go.RowKit Go.Shelf
set_option maxHeartbeats 8000000
set_option maxRecDepth 100000
namespace Gt
def jpath (P : List (List UInt8)) : List UInt8:=P.flatMap fun p => 47 :: p
theorem jpath_snoc (P : List (List UInt8)) (p : List UInt8) : jpath (P ++ [p]) = jpath P ++ (47 :: p):=by unfold jpath; rw [List.flatMap_append]; simp
theorem jpath_len : ∀ (P : List (List UInt8)),(∀ p ∈ P,p.length ≤ 300) → (jpath P).length ≤ P.length * 301
 | [],_ => by simp [jpath]
 | p :: P,h => by
  have h1:=jpath_len P (fun q hq => h q (List.mem_cons_of_mem _ hq))
  have h2:=h p List.mem_cons_self
  have e : jpath (p :: P) = 47 :: p ++ jpath P:=by unfold jpath; rw [List.flatMap_cons]
  rw [e]; simp; omega
end Gt
theorem ba_len (T : ByteArray) (l : List UInt8) (h : T.data.toList = l) : T.size = l.length:=by rw [← h]; rfl
theorem ba_of (T : ByteArray) (l : List UInt8) (h : T.data.toList = l) : T = ⟨l.toArray⟩:=by cases T; subst h; simp
theorem ref_Path (v1 : Value) (P : List (List UInt8)) (w : World) (h1 : TS w v1 P) (hP : P.length ≤ 300) (hs : ∀ p ∈ P,p.length ≤ 300) (p2 : Option Addr) (n2 c2 : Nat) :
  Calls Tryz.prog 84 #[.agg #[v1,.slice p2 n2 c2]] w fun e w' => e = .returned (.string ⟨(Gt.jpath P).toArray⟩) ∧ Below w.heap.size w w':=by
 obtain ⟨p1,c1,rfl⟩:=h1.slice
 obtain ⟨n1,hn1⟩ : ∃ n,P.length = n:=⟨_,rfl⟩
 rw [hn1] at h1 hP ⊢
 obtain ⟨W1,hW1⟩ : ∃ Z,w.alloc (.cells #[.slice p1 n1 c1,.slice p2 n2 c2] 36) = Z:=⟨_,rfl⟩
 have hb1 : Below w.heap.size w W1:=by rw [← hW1]; exact (Below.refl _ _).alloc (Nat.le_refl _) _
 have hA : W1.heap[w.heap.size]? = some (.cells #[.slice p1 n1 c1,.slice p2 n2 c2] 36 (0,0)):=by
  rw [← hW1]; exact World.alloc_heap_new _ _
 have a0 : W1.cell? ⟨w.heap.size,0,none⟩ = some (.slice p1 n1 c1):=by simp [World.cell?,hA]
 have HB:=Lib.hid hb1
 have H1:=Lib.hid (h1.below hb1)
 have HS1:=Lib.hid hs
 have HN1:=Lib.hid hn1
 have HW:=Lib.hid hW1
 clear h1 hb1 hA hn1 hW1 hs
 go_enter Tryz.func84,Tryz.ntmps84
 go_wp2_with fail
 rw [HW.out]
 go_loopw [3,4] (fun v i wr => ∃ (k n : Nat) (T : ByteArray),k ≤ n1 ∧ i = .int .i64 k ∧ v = .string T ∧ T.data.toList = Gt.jpath (P.take k) ∧ wr = W1.drewN n) (fun _ i _ => n1 - (intOf i).toNat)
 case atStart => exact ⟨0,0,⟨#[]⟩,Nat.zero_le _,rfl,rfl,rfl,rfl⟩
 case round =>
  obtain ⟨k,n,T,hk,rfl,rfl,hT,rfl⟩:=hrel
  have HT:=Lib.hid hT
  have hTs : T.size ≤ 100000:=by
   rw [ba_len _ _ hT]
   have h1:=Gt.jpath_len (P.take k) (fun p hp => HS1.out p (List.mem_of_mem_take hp))
   have h2 : (P.take k).length ≤ 300:=by rw [List.length_take]; omega
   have h3:=Nat.mul_le_mul_right 301 h2
   omega
  clear hT
  by_cases hlt : k < n1
  ·obtain ⟨g1,o1,rfl,hc1⟩:=H1.out.cells (k:=k) (by rw [HN1.out]; exact hlt)
   have hx:=hc1 k (by rw [HN1.out]; exact hlt)
   have hTK:=take_getD P [] k (by rw [HN1.out]; exact hlt)
   obtain ⟨x,hxx⟩ : ∃ x,P.getD k [] = x:=⟨_,rfl⟩
   have hxl : x.length ≤ 300:=HS1.out x (by rw [← hxx,List.getD_eq_getElem?_getD,List.getElem?_eq_getElem (by rw [HN1.out]; exact hlt)]; exact List.getElem_mem _)
   rw [hxx] at hx hTK
   unfold tx at hx
   have hxs : (⟨x.toArray⟩ : ByteArray).size = x.length:=by simp [ByteArray.size]
   obtain ⟨xb,hxb⟩ : ∃ z : ByteArray,(⟨x.toArray⟩ : ByteArray) = z:=⟨_,rfl⟩
   have hxd : xb.data.toList = x:=by rw [← hxb]
   rw [hxb] at hx hxs
   have hxz : xb.size ≤ 300:=by omega
   have HN:=Lib.hid (show (T ++ ⟨#[47]⟩ ++ xb : ByteArray).data.toList = Gt.jpath (P.take (k + 1)) by
    rw [hTK,Gt.jpath_snoc,← HT.out,ByteArray.data_append,ByteArray.data_append,Array.toList_append,Array.toList_append,hxd]; simp)
   have hz1 : (T ++ ⟨#[47]⟩ : ByteArray).size ≤ 100001:=by rw [ByteArray.size_append]; have : (⟨#[47]⟩ : ByteArray).size = 1:=rfl; omega
   clear hxb hc1 hxx hxs hxl hxd hTK
   go_wp2_with fail
   go_roundw
   case rel => exact ⟨k + 1,_,_,hlt,by go_num,rfl,HN.out,rfl⟩
   case measure => simp [intOf]; omega
  ·have HF:=Lib.hid (show T = ⟨(Gt.jpath P).toArray⟩ from ba_of _ _ (by rw [HT.out,List.take_of_length_le (by rw [HN1.out]; omega)]))
   have HBe:=Lib.hid (show Below w.heap.size w (W1.drewN n) from HB.out.trans ⟨rfl,rfl,rfl,Nat.le_refl _,fun _ _ => rfl⟩)
   go_wp2_with fail
   go_ret
   exact ⟨by rw [HF.out]; rfl,HBe.out⟩
end Go.Proofs.YtfacmnooklljnaaGreatDoor
namespace Go.Proofs.YtfacmnooklljnaaGreatDoor
open Go.RowKit Go.Shelf
set_option maxHeartbeats 8000000
set_option maxRecDepth 100000
end Go.Proofs.YtfacmnooklljnaaGreatDoor
namespace Go.Proofs.YtfacmnooklljnaaGreatDoor
open Go.RowKit Go.Shelf
set_option maxHeartbeats 8000000
set_option maxRecDepth 100000
theorem StrRow.slice {w : World} {v : Value} {L : List (List UInt8)} (h : StrRow w v L) : ∃ p c,v = .slice p L.length c:=by
 obtain ⟨p,c,rfl,_⟩:=h
 exact ⟨p,c,rfl⟩
end Go.Proofs.YtfacmnooklljnaaGreatDoor
namespace Go.Proofs.YtfacmnooklljnaaGreatDoor
open Go.RowKit Go.Shelf
set_option maxHeartbeats 2000000
set_option maxRecDepth 100000
namespace Gt
abbrev Tg:=List (List UInt8) × List (List UInt8 × List UInt8)
def tgOf (o : Option Tg) : Tg:=o.getD ([],[])
def noOf (o : Option Tg) : Int:=if o.isSome then 0 else 210
theorem parse_bound {s : List UInt8} {P : List (List UInt8)} {Q : List (List UInt8 × List UInt8)} (h : parse s = some (P,Q)) :
  P.length ≤ s.length + 1 ∧ Q.length ≤ s.length + 1 ∧ (∀ p ∈ P,p.length ≤ s.length) ∧ ∀ q ∈ Q,q.1.length ≤ s.length ∧ q.2.length ≤ s.length:=by
 cases hok : ok s with
 | false => rw [parse_bad hok] at h; cases h
 | true =>
  cases hs : all? seg (segs s) with
  | none => rw [parse_segs hok hs] at h; cases h
  | some R =>
   rw [parse_is hok hs] at h
   cases hq : all? pairOf (qrys s) with
   | none => rw [hq] at h; cases h
   | some V =>
    rw [hq] at h
    cases h
    have hl1 : ((s.take (Gs.pos 63 s)).drop 1).length ≤ s.length:=by rw [List.length_drop,List.length_take]; omega
    have hl2 : (s.drop (Gs.pos 63 s + 1)).length ≤ s.length:=by rw [List.length_drop]; omega
    refine ⟨?_,?_,fun p hp => ?_,fun q hq' => ?_⟩
    ·rw [all_length hs]
     have:=Gs.parts_many 47 ((s.take (Gs.pos 63 s)).drop 1) []
     unfold segs
     omega
    ·rw [all_length hq]
     have h1:=Gs.parts_many 38 (s.drop (Gs.pos 63 s + 1)) []
     have h2:=List.length_filter_le (fun l : List UInt8 => !l.isEmpty) (Gs.parts 38 [] (s.drop (Gs.pos 63 s + 1)))
     unfold qrys
     omega
    ·obtain ⟨x,hx,hsx⟩:=all_each hs p hp
     have h1:=Gs.parts_len 47 _ [] x hx
     unfold seg at hsx
     cases hd : dec false x with
     | none => rw [hd] at hsx; cases hsx
     | some y =>
      rw [hd] at hsx
      simp only at hsx
      split at hsx
      ·cases hsx
       have h2:=dec_length false _ x p (Nat.le_refl _) hd
       rw [List.length_nil,Nat.zero_add] at h1
       omega
      ·cases hsx
    ·obtain ⟨x,hx,hpx⟩:=all_each hq q hq'
     have hx':=(List.mem_filter.1 hx).1
     have h1:=Gs.parts_len 38 _ [] x hx'
     unfold pairOf at hpx
     cases hd : dec true (x.take (Gs.pos 61 x)) with
     | none => rw [hd] at hpx; cases hpx
     | some k =>
      rw [hd] at hpx
      simp only at hpx
      cases he : dec true (x.drop (Gs.pos 61 x + 1)) with
      | none => rw [he] at hpx; cases hpx
      | some v =>
       rw [he] at hpx
       cases hpx
       have h2:=dec_length true _ _ k (Nat.le_refl _) hd
       have h3:=dec_length true _ _ v (Nat.le_refl _) he
       rw [List.length_take] at h2
       rw [List.length_drop] at h3
       rw [List.length_nil,Nat.zero_add] at h1
       exact ⟨by simp only; omega,by simp only; omega⟩
theorem tg_bound (s : List UInt8) : (tgOf (parse s)).1.length ≤ s.length + 1 ∧ (tgOf (parse s)).2.length ≤ s.length + 1 ∧ (∀ p ∈ (tgOf (parse s)).1,p.length ≤ s.length) ∧ ∀ q ∈ (tgOf (parse s)).2,q.1.length ≤ s.length ∧ q.2.length ≤ s.length:=by
 cases h : parse s with
 | none => exact ⟨by simp [tgOf],by simp [tgOf],fun p hp => by simp [tgOf] at hp,fun q hq => by simp [tgOf] at hq⟩
 | some r => exact parse_bound h
end Gt
def TgOut (w : World) (o : Option Gt.Tg) (e : Ending) : Prop :=
 ∃ p c q d,e = .returned (.tuple #[.agg #[.slice p (Gt.tgOf o).1.length c,.slice q (Gt.tgOf o).2.length d],.int .i64 (Gt.noOf o)]) ∧ TS w (.slice p (Gt.tgOf o).1.length c) (Gt.tgOf o).1 ∧ PS w (.slice q (Gt.tgOf o).2.length d) (Gt.tgOf o).2
theorem tgOut_of {w : World} {o : Option Gt.Tg} {e : Ending} (h : ParseOut w o e) : TgOut w o e:=by
 cases o with
 | none =>
  have h : e = _:=h
  subst h
  exact ⟨none,0,none,0,rfl,.inl ⟨none,0,rfl,rfl⟩,.inl ⟨rfl,rfl⟩⟩
 | some r =>
  obtain ⟨P,Q⟩:=r
  obtain ⟨vp,vq,rfl,h1,h2⟩:=h
  have h3:=PS.of h2
  obtain ⟨p,c,rfl⟩:=h1.slice
  obtain ⟨q,d,rfl⟩:=h3.slice
  exact ⟨p,c,q,d,rfl,TS.of h1,h3⟩
theorem rparse_any (s : ByteArray) (w : World) (hs : s.size ≤ 90000) :
  Calls Tryz.prog 23 #[.string s] w fun e w' => TgOut w' (Gt.parse s.data.toList) e ∧ Below w.heap.size w w' :=
 (ref_Parse s w hs).mono fun e w' ⟨h1,h2⟩ => ⟨tgOut_of h1,h2⟩
theorem ba_back (s : ByteArray) : (⟨s.data.toList.toArray⟩ : ByteArray) = s:=by cases s; simp
end Go.Proofs.YtfacmnooklljnaaGreatDoor
namespace Go.Proofs.YtfacmnooklljnaaGreatDoor
open Go.RowKit Go.Shelf
set_option maxHeartbeats 2000000
set_option maxRecDepth 100000
namespace Gt
end Gt
section
variable {H : Type} {enc : TypeId × Value → H} {w : World} {base : Nat} {spare : Nat → Bool} {held : Bool}
open Go.ChangeShapes Go.WideShapes
theorem weigh_lit {P : Program} {t : TypeId} (l : List UInt8) : l.length ∈ DataW.weights P t (.lit (.string l) : DataW H):=by simp [DataW.weights]
theorem weigh_two {P : Program} {t : TypeId} {f0 f1 : Field} (ht : P.underlying t = some (.struct #[f0,f1])) (a b : DataW H) {n : Nat} (h : n ∈ a.weights P f0.type ∨ n ∈ b.weights P f1.type) : n ∈ DataW.weights P t (.agg [a,b]):=by
 simp only [DataW.weights,ht,DataW.weightsEach,List.map_cons,List.map_nil]
 simpa using h
theorem weigh_all {P : Program} {e : TypeId} {d : DataW H} {n : Nat} (hn : n ∈ d.weights P e) : ∀ {l : List (DataW H)},d ∈ l → n ∈ DataW.weightsAll P e l
 | x :: l,h => by
  simp only [DataW.weightsAll,List.mem_append]
  rcases List.mem_cons.1 h with rfl | h
  ·exact .inl hn
  ·exact .inr (weigh_all hn h)
theorem weigh_slice {P : Program} {t e : TypeId} (ht : P.underlying t = some (.slice e)) {d : DataW H} {a b : List (DataW H)} {n : Nat} (hd : d ∈ a) (hn : n ∈ d.weights P e) : n ∈ DataW.weights P t (.slice a b):=by
 simp only [DataW.weights,ht,List.mem_cons,List.mem_append]
 exact .inr (.inl (weigh_all hn hd))
end
end Go.Proofs.YtfacmnooklljnaaGreatDoor
namespace Go.Proofs.YtfacmnooklljnaaGreatDoor
open Go.RowKit Go.Shelf
set_option maxHeartbeats 8000000
set_option maxRecDepth 100000
end Go.Proofs.YtfacmnooklljnaaGreatDoor
namespace Go.Proofs.YtfacmnooklljnaaGreatDoor
open Go.RowKit Go.Shelf
set_option maxHeartbeats 8000000
set_option maxRecDepth 100000
theorem TS.sr {w : World} {v : Value} {L : List (List UInt8)} (h : TS w v L) : SR w v (L.map fun l => ⟨l.toArray⟩):=by
 rcases h with ⟨p,c,rfl,rfl⟩ | ⟨b,off,cap,rfl,h3⟩
 ·exact .inl ⟨p,c,rfl,rfl⟩
 ·cases L with
  | nil => exact .inl ⟨some ⟨b,off,none⟩,cap,rfl,rfl⟩
  | cons x L =>
   have h0:=h3 0 (by simp)
   refine .inr ⟨b,off,cap,by simp,lt_of_cell h0,fun j hj => ?_⟩
   rw [List.length_map] at hj
   rw [h3 j hj,List.getElem_map]
   simp only [tx,List.getD_eq_getElem?_getD,List.getElem?_eq_getElem hj,Option.getD_some]
end Go.Proofs.YtfacmnooklljnaaGreatDoor