/- Texts of this claim, one behind the other: TwB, Tb, TwC, Ym, Zf, Yk, Yq, Yn, Yo, Yr, Ys, RA, Yt, Yu, Yv, Dw1, Dr1, Dr2, Dr3. -/
import Derived.Test.YtfacmnooklljnaaGreatDoorCQEm2
import Derived.Laws.Externs
import Derived.Lib.UnsafeStr
import Derived.Lib.QuietBelow
import Derived.BigQuiet
import Derived.Test.YtfacmnooklljnaaGreatDoorCQEm1
import Derived.RangeFuncBox
import Derived.RangeFuncKeeps
import Derived.RangeFuncNested
import Derived.Laws.AppendOwn
import Derived.Deep.Cut
import Derived.Deep.DeepCutAuto
import Derived.Lib.SmallJoins
import Derived.Laws.OwnMore
import Derived.Test.YtfacmnooklljnaaGreatDoorRows
import Derived.OneCell
import Derived.WalkMore
import Derived.Lib.ConvBytes
set_option linter.unusedVariables false
set_option linter.unusedSimpArgs false
namespace Go.Proofs.YtfacmnooklljnaaGreatDoor
open Go.RowKit Go.Shelf
set_option maxHeartbeats 1000000
namespace Tp
theorem qr_end (acc : List UInt8) : qr acc [34] = some acc:=rfl
theorem qr_quote (acc : List UInt8) (d : UInt8) (l : List UInt8) : qr acc (34 :: d :: l) = none:=by rw [qr,if_pos rfl]
theorem qr_one (acc : List UInt8) (c : UInt8) (h : c ≠ 34) : qr acc [c] = none:=by rw [qr,if_neg h]
theorem qr_back (acc : List UInt8) (d : UInt8) (l : List UInt8) : qr acc (92 :: d :: l) = if valB d.toNat then qr (acc ++ [d]) l else none:=by rw [qr,if_neg (by decide),if_pos rfl]
theorem qr_nil (acc : List UInt8) : qr acc [] = none:=by unfold qr; rfl
theorem qr_more (acc : List UInt8) (c : UInt8) (l : List UInt8) (h : c ≠ 34) (h2 : c ≠ 92) : qr acc (c :: l) = if valB c.toNat then qr (acc ++ [c]) l else none:=by
 cases l with
 | nil => rw [qr_one _ _ h,qr_nil]; split <;> rfl
 | cons d l => rw [qr,if_neg h,if_neg h2]
theorem qs_none {l : List UInt8} (h : quoted l = none) : quotedS l = [] ∧ quotedE l = 110:=by unfold quotedS quotedE; rw [h]; exact ⟨rfl,rfl⟩
theorem qs_some {l a : List UInt8} (h : quoted l = some a) : quotedS l = a ∧ quotedE l = 0:=by unfold quotedS quotedE; rw [h]; exact ⟨rfl,rfl⟩
def QAt (l acc : List UInt8) (k : Nat) : Prop:=acc.length ≤ k ∧ qr acc (l.drop k) = quoted l
theorem qAt_end {l acc : List UInt8} {k : Nat} (h : QAt l acc k) (hk : l.length ≤ k) : quoted l = none:=by
 rw [← h.2,List.drop_eq_nil_of_le hk,qr_nil]
theorem qAt_last {l acc : List UInt8} {k : Nat} (h : QAt l acc k) (hk : k < l.length) (hc : l[k] = 34) (hl : k + 1 = l.length) : quoted l = some acc:=by
 rw [← h.2,drop_here l k hk,hc,hl,List.drop_length,qr_end]
theorem qAt_mid {l acc : List UInt8} {k : Nat} (h : QAt l acc k) (hk : k < l.length) (hc : l[k] = 34) (hl : k + 1 < l.length) : quoted l = none:=by
 rw [← h.2,drop_here l k hk,hc,drop_here l (k + 1) hl,qr_quote]
theorem qAt_back_end {l acc : List UInt8} {k : Nat} (h : QAt l acc k) (hk : k < l.length) (hc : l[k] = 92) (hl : l.length ≤ k + 1) : quoted l = none:=by
 rw [← h.2,drop_here l k hk,List.drop_eq_nil_of_le hl,hc,qr_one _ _ (by decide)]
theorem qAt_back_bad {l acc : List UInt8} {k : Nat} (h : QAt l acc k) (hk : k < l.length) (hc : l[k] = 92) (hl : k + 1 < l.length) (hv : valB (l[k + 1].toNat : Int) = false) : quoted l = none:=by
 rw [← h.2,drop_here l k hk,hc,drop_here l (k + 1) hl,qr_back,hv]; rfl
theorem qAt_back {l acc : List UInt8} {k : Nat} (h : QAt l acc k) (hk : k < l.length) (hc : l[k] = 92) (hl : k + 1 < l.length) (hv : valB (l[k + 1].toNat : Int) = true) : QAt l (acc ++ [l[k + 1]]) (k + 2):=by
 refine ⟨by rw [List.length_append]; have:=h.1; simp; omega,?_⟩
 rw [← h.2,drop_here l k hk,hc,drop_here l (k + 1) hl,qr_back,hv]; rfl
theorem qAt_bad {l acc : List UInt8} {k : Nat} (h : QAt l acc k) (hk : k < l.length) (h1 : l[k] ≠ 34) (h2 : l[k] ≠ 92) (hv : valB (l[k].toNat : Int) = false) : quoted l = none:=by
 rw [← h.2,drop_here l k hk,qr_more _ _ _ h1 h2,hv]; rfl
theorem qAt_more {l acc : List UInt8} {k : Nat} (h : QAt l acc k) (hk : k < l.length) (h1 : l[k] ≠ 34) (h2 : l[k] ≠ 92) (hv : valB (l[k].toNat : Int) = true) : QAt l (acc ++ [l[k]]) (k + 1):=by
 refine ⟨by rw [List.length_append]; have:=h.1; simp; omega,?_⟩
 rw [← h.2,drop_here l k hk,qr_more _ _ _ h1 h2,hv]; rfl
end Tp
def bv (b : UInt8) : Value:=.int .u8 b.toNat
theorem conv_own {w : World} {B : Nat} {v : Value} {l : List UInt8} (h : w.ownsRow B 5 1 v l.length (l.map bv)) : (convert 118 9 v).run Tryz.prog w = .ok (.string ⟨l.toArray⟩) w:=by
 rcases h.2 with ⟨rfl,h0⟩ | ⟨g,cap,cur,rfl,_,hg,hc,_,hs,ht⟩
 ·have : l = []:=List.length_eq_zero_iff.1 h0
  subst this
  rw [run_convert_bytes_string w 118 9 5 none 0 0 Tryz.underlying118 Tryz.underlying5 Tryz.underlying9]
  rfl
 ·refine run_convert_bytes_back w 118 9 5 ⟨g,0,none⟩ cap l Tryz.underlying118 Tryz.underlying5 Tryz.underlying9 (fun j hj => ?_)
  rw [Lib.add_plain,Nat.zero_add]
  unfold World.cell?
  rw [show (⟨g,j,none⟩ : Addr).block = g from rfl,hg]
  show (if (none : Option _).isSome then none else cur[j]?) = _
  have h1 : (cur.toList.take (l.length * 1))[j]? = (l.map bv)[j]?:=by rw [ht]
  rw [List.getElem?_take_of_lt (by omega)] at h1
  rw [if_neg (by simp),← Array.getElem?_toList,h1,List.getElem?_map,List.getElem?_eq_getElem hj]
  rfl
theorem app_own {w1 : World} {B : Nat} {v' : Value} {acc : List UInt8} {d : UInt8} {y : Int} (hy : (d.toNat : Int) = y) (h : w1.ownsRow B 5 1 v' (acc.length + 1) (acc.map bv ++ [.int .u8 y])) : w1.ownsRow B 5 1 v' (acc ++ [d]).length ((acc ++ [d]).map bv):=by
 subst hy
 rw [List.length_append,List.map_append]
 exact h
set_option maxRecDepth 100000 in
theorem rtk_quoted (s : ByteArray) (w : World) (hs : s.size ≤ 1000000) :
  Calls Tryz.prog 196 #[.string s] w fun e w' => e = .returned (.tuple #[.string ⟨(Tp.quotedS s.data.toList).toArray⟩,.int .i64 (Tp.quotedE s.data.toList)]) ∧ Below w.heap.size w w':=by
 obtain ⟨i0,hi,hz0,hz1,hz2⟩:=info_parts (show (Tryz.prog.info? 5).map (fun i => (i.zero,i.size,i.bytes)) = some (some (.int .u8 0),1,1) by kernel_rfl)
 have HIX:=Lib.hid (fun k h W => index_at s W k h)
 have hbad : ∀ w',Below w.heap.size w w' → Tp.quoted s.data.toList = none → (Ending.returned (.tuple #[.string ⟨#[]⟩,.int .i64 110]) = .returned (.tuple #[.string ⟨(Tp.quotedS s.data.toList).toArray⟩,.int .i64 (Tp.quotedE s.data.toList)]) ∧ Below w.heap.size w w'):=by
  intro w' hb hq
  obtain ⟨h1,h2⟩:=Tp.qs_none hq
  rw [h1,h2]
  exact ⟨rfl,hb⟩
 have HBAD:=Lib.hid hbad
 clear hbad
 by_cases h2 : s.size < 2
 ·have hq : Tp.quoted s.data.toList = none:=by
   have hl : s.data.toList.length < 2:=by simpa using h2
   match hd : s.data.toList,hl with
   | [],_ => rfl
   | [c],_ => rw [Tp.quoted_cons,Tp.qr_nil]; split <;> rfl
   | c :: d :: l,hl => simp at hl; omega
  have HQ:=Lib.hid hq
  clear hq
  go_enter Tryz.func196,Tryz.ntmps196
  go_wp2_with fail
  exact bodyPost_ret (v:=.tuple #[.string ⟨#[]⟩,.int .i64 110]) (by simp [results,Tryz.results196,go_sem]) rfl (HBAD.out _ (Below.refl _ _) HQ.out)
 ·have hix0:=HIX.out 0 (by omega)
  have hl0 : 0 < s.data.toList.length:=by simp; omega
  obtain ⟨x,hx⟩ : ∃ x : Int,((s[0]).toNat : Int) = x:=⟨_,rfl⟩
  rw [hx] at hix0
  have HX:=Lib.hid hx
  clear hx
  simp only [Int.natCast_zero] at hix0
  have hdd : decide ((s.size : Int) < 2) = false:=decide_eq_false (by omega)
  have hd0 : s.data.toList = s.data.toList[0] :: s.data.toList.drop 1:=(List.drop_zero (l:=s.data.toList)).symm.trans (drop_here _ 0 hl0)
  have HD0:=Lib.hid hd0
  clear hd0
  by_cases hc : x = 34
  ·have hc1 : (x == 34) = true:=beq_iff_eq.2 hc
   have h34 : s.data.toList[0] = 34:=UInt8.toNat_inj.1 (by have:=HX.out; show (s[0]).toNat = 34; omega)
   have HQ0:=Lib.hid (show Tp.QAt s.data.toList [] 1 from ⟨Nat.zero_le _,by conv => rhs; rw [HD0.out,Tp.quoted_cons,if_pos h34]⟩)
   clear h34
   go_enter Tryz.func196,Tryz.ntmps196
   go_wp2_with (simp only [hix0])
   clear hc
   go_loopw [4,5,6] (fun v i _ wr => ∃ (k : Nat) (acc : List UInt8),1 ≤ k ∧ k ≤ s.size ∧ i = .int .i64 k ∧ Tp.QAt s.data.toList acc k ∧ wr.ownsRow w.heap.size 5 1 v acc.length (acc.map bv) ∧ Below w.heap.size w wr) (fun _ i _ _ => s.size - (intOf i).toNat)
   case atStart => exact ⟨1,[],Nat.le_refl _,by omega,rfl,HQ0.out,World.ownsRow_nil _ _ _ _,Below.refl _ _⟩
   case round =>
    clear HQ0 hix0 hdd HD0 HX hc1
    clear hl0
    clear x
    obtain ⟨k,acc,hk1,hk,rfl,hq,hown,hb⟩:=hrel
    have HQ:=Lib.hid hq
    have HO:=Lib.hid hown
    have HB:=Lib.hid hb
    clear hq hown hb
    by_cases hlt : k < s.size
    ·have HKL:=Lib.hid (show k < s.data.toList.length by simpa using hlt)
     have hix:=HIX.out k hlt
     obtain ⟨c,hcc⟩ : ∃ c,s[k]'hlt = c:=⟨_,rfl⟩
     rw [hcc] at hix
     have HCL:=Lib.hid (show s.data.toList[k]'HKL.out = c from hcc)
     obtain ⟨x,hx⟩ : ∃ x : Int,(c.toNat : Int) = x:=⟨_,rfl⟩
     rw [hx] at hix
     have HX:=Lib.hid hx
     have hr1 : (0 : Int) ≤ x:=by omega
     have hr2 : x < 256:=by have:=c.toNat_lt; omega
     clear hx hcc
     by_cases h34 : x = 34
     ·have e1 : (x == 34) = true:=beq_iff_eq.2 h34
      have HC34:=Lib.hid (show c = 34 from UInt8.toNat_inj.1 (by have:=HX.out; show c.toNat = 34; omega))
      clear h34
      by_cases hlast : (k : Int) < (s.size : Int) - 1
      ·have HN:=Lib.hid (Tp.qAt_mid HQ.out HKL.out (HCL.out.trans HC34.out) (by have : s.data.toList.length = s.size:=rfl; omega))
       go_wp2_with (simp only [hix])
       exact bodyPost_ret (v:=.tuple #[.string ⟨#[]⟩,.int .i64 110]) (by simp [results,Tryz.results196,go_sem]) rfl (HBAD.out _ HB.out HN.out)
      ·have HS:=Lib.hid (Tp.qs_some (Tp.qAt_last HQ.out HKL.out (HCL.out.trans HC34.out) (by have : s.data.toList.length = s.size:=rfl; omega)))
       have hcv:=conv_own (l:=acc) HO.out
       go_wp2_with (first | simp only [hix] | simp only [hcv])
       refine bodyPost_ret (v:=.tuple #[.string ⟨acc.toArray⟩,.int .i64 0]) (by simp [results,Tryz.results196,go_sem]) rfl ⟨?_,HB.out⟩
       rw [HS.out.1,HS.out.2]
     ·have e1 : (x == 34) = false:=beq_eq_false_iff_ne.2 h34
      have HC34:=Lib.hid (show c ≠ 34 from fun e => h34 (by rw [← HX.out,e]; rfl))
      clear h34
      by_cases h92 : x = 92
      ·have e2 : (x == 92) = true:=beq_iff_eq.2 h92
       have HC92:=Lib.hid (show c = 92 from UInt8.toNat_inj.1 (by have:=HX.out; show c.toNat = 92; omega))
       clear h92
       by_cases hlt2 : k + 1 < s.size
       ·have HKL2:=Lib.hid (show k + 1 < s.data.toList.length by simpa using hlt2)
        have hix2:=HIX.out (k + 1) hlt2
        obtain ⟨d,hdd⟩ : ∃ c,s[k + 1]'hlt2 = c:=⟨_,rfl⟩
        rw [hdd] at hix2
        have hdl : s.data.toList[k + 1]'HKL2.out = d:=hdd
        have HM0:=Lib.hid (fun h => Tp.qAt_back HQ.out HKL.out (HCL.out.trans HC92.out) HKL2.out h)
        have HN0:=Lib.hid (fun h => Tp.qAt_back_bad HQ.out HKL.out (HCL.out.trans HC92.out) HKL2.out h)
        rw [hdl] at HM0 HN0
        obtain ⟨y,hy⟩ : ∃ x : Int,(d.toNat : Int) = x:=⟨_,rfl⟩
        rw [hy] at hix2 HM0 HN0
        have HY:=Lib.hid hy
        have hr3 : (0 : Int) ≤ y:=by omega
        have hr4 : y < 256:=by have:=d.toNat_lt; omega
        have K:=Lib.hid (rtk_byteOf y wr hr3 hr4)
        clear hy hdl hdd
        obtain ⟨r,hr⟩ : ∃ r,Tp.valB y = r:=⟨_,rfl⟩
        rw [hr] at K HM0 HN0
        clear hr
        simp only [Int.natCast_add,Int.natCast_one] at hix2
        have hn2 : ¬ ((s.size : Int) ≤ (k : Int) + 1):=by omega
        cases r
        ·have HN:=Lib.hid (HN0.out rfl)
         clear HM0 HN0
         go_wp2_with (first | simp only [hix] | simp only [hix2])
         refine K.out.mono ?_
         rintro e w' ⟨rfl,rfl⟩
         go_wp2
         exact bodyPost_ret (v:=.tuple #[.string ⟨#[]⟩,.int .i64 110]) (by simp [results,Tryz.results196,go_sem]) rfl (HBAD.out _ HB.out HN.out)
        ·have HM:=Lib.hid (HM0.out rfl)
         clear HM0 HN0
         go_wp2_with (first | simp only [hix] | simp only [hix2])
         refine K.out.mono ?_
         rintro e w' ⟨rfl,rfl⟩
         go_wp2_with (first
          | (at_builtin; refine wpList_append_own _ rfl _ _ 118 rfl w.heap.size 5 i0 (.int .u8 0) 1 1 Tryz.underlying118 hi hz0 hz1 hz2 rfl (by decide) _ _ _ rfl (HO.out.alloc _) ⟨wr.heap.size,0,none⟩ 1 1 [.int .u8 y] rfl rfl ?c1 ?c2 ?c3 ?c4 ?c5 ?_)
          | simp only [hix2])
         case c1 =>
          intro j u hj
          match j,hj with
          | 0,hj => simp at hj; subst hj; simp [Addr.add]
         case c2 => intro u hu; simp at hu; subst hu; rfl
         case c3 => have:=HQ.out.1; unfold maxLen; omega
         case c4 => have:=HQ.out.1; omega
         case c5 => have:=HB.out.size; simp; omega
         intro v' w1 hown' hgrow _
         have HB1:=Lib.hid (show Below w.heap.size w w1 from Below.grown (HB.out.alloc (by have:=HB.out.size; omega) _) hgrow (by have:=HB.out.size; simp; omega) (own_ge HO.out))
         have HO1:=Lib.hid (app_own HY.out hown')
         clear hgrow hown'
         go_wp2
         go_roundw
         case rel => exact ⟨k + 2,_,by omega,by omega,by go_num,HM.out,HO1.out,HB1.out⟩
         case measure => simp [intOf]; omega
       ·have HN:=Lib.hid (Tp.qAt_back_end HQ.out HKL.out (HCL.out.trans HC92.out) (by have : s.data.toList.length = s.size:=rfl; omega))
        have hn2 : (s.size : Int) ≤ (k : Int) + 1:=by omega
        go_wp2_with (simp only [hix])
        exact bodyPost_ret (v:=.tuple #[.string ⟨#[]⟩,.int .i64 110]) (by simp [results,Tryz.results196,go_sem]) rfl (HBAD.out _ HB.out HN.out)
      ·have e2 : (x == 92) = false:=beq_eq_false_iff_ne.2 h92
       have HC92:=Lib.hid (show c ≠ 92 from fun e => h92 (by rw [← HX.out,e]; rfl))
       clear h92
       have HM0:=Lib.hid (fun h => Tp.qAt_more HQ.out HKL.out (by rw [HCL.out]; exact HC34.out) (by rw [HCL.out]; exact HC92.out) h)
       have HN0:=Lib.hid (fun h => Tp.qAt_bad HQ.out HKL.out (by rw [HCL.out]; exact HC34.out) (by rw [HCL.out]; exact HC92.out) h)
       rw [HCL.out,HX.out] at HM0 HN0
       have K:=Lib.hid (rtk_byteOf x wr hr1 hr2)
       obtain ⟨r,hr⟩ : ∃ r,Tp.valB x = r:=⟨_,rfl⟩
       rw [hr] at K HM0 HN0
       clear hr
       cases r
       ·have HN:=Lib.hid (HN0.out rfl)
        clear HM0 HN0
        go_wp2_with (simp only [hix])
        refine K.out.mono ?_
        rintro e w' ⟨rfl,rfl⟩
        go_wp2
        exact bodyPost_ret (v:=.tuple #[.string ⟨#[]⟩,.int .i64 110]) (by simp [results,Tryz.results196,go_sem]) rfl (HBAD.out _ HB.out HN.out)
       ·have HM:=Lib.hid (HM0.out rfl)
        clear HM0 HN0
        go_wp2_with (simp only [hix])
        refine K.out.mono ?_
        rintro e w' ⟨rfl,rfl⟩
        go_wp2_with (first
         | (at_builtin; refine wpList_append_own _ rfl _ _ 118 rfl w.heap.size 5 i0 (.int .u8 0) 1 1 Tryz.underlying118 hi hz0 hz1 hz2 rfl (by decide) _ _ _ rfl (HO.out.alloc _) ⟨wr.heap.size,0,none⟩ 1 1 [.int .u8 x] rfl rfl ?c1 ?c2 ?c3 ?c4 ?c5 ?_)
         | simp only [hix])
        case c1 =>
         intro j u hj
         match j,hj with
         | 0,hj => simp at hj; subst hj; simp [Addr.add]
        case c2 => intro u hu; simp at hu; subst hu; rfl
        case c3 => have:=HQ.out.1; unfold maxLen; omega
        case c4 => have:=HQ.out.1; omega
        case c5 => have:=HB.out.size; simp; omega
        intro v' w1 hown' hgrow _
        have HB1:=Lib.hid (show Below w.heap.size w w1 from Below.grown (HB.out.alloc (by have:=HB.out.size; omega) _) hgrow (by have:=HB.out.size; simp; omega) (own_ge HO.out))
        have HO1:=Lib.hid (app_own HX.out hown')
        clear hgrow hown'
        go_wp2
        go_roundw
        case rel => exact ⟨k + 1,_,by omega,by omega,by go_num,HM.out,HO1.out,HB1.out⟩
        case measure => simp [intOf]; omega
    ·have HN:=Lib.hid (Tp.qAt_end HQ.out (by have : s.data.toList.length = s.size:=rfl; omega))
     go_wp2
     exact bodyPost_ret (v:=.tuple #[.string ⟨#[]⟩,.int .i64 110]) (by simp [results,Tryz.results196,go_sem]) rfl (HBAD.out _ HB.out HN.out)
  ·have hc1 : (x == 34) = false:=beq_eq_false_iff_ne.2 hc
   have HQ:=Lib.hid (show Tp.quoted s.data.toList = none by rw [HD0.out,Tp.quoted_cons,if_neg (fun e => hc (by rw [← HX.out]; show ((s.data.toList[0]).toNat : Int) = 34; rw [e]; rfl))])
   clear hc
   go_enter Tryz.func196,Tryz.ntmps196
   go_wp2_with (simp only [hix0])
   exact bodyPost_ret (v:=.tuple #[.string ⟨#[]⟩,.int .i64 110]) (by simp [results,Tryz.results196,go_sem]) rfl (HBAD.out _ (Below.refl _ _) HQ.out)
end Go.Proofs.YtfacmnooklljnaaGreatDoor
namespace Go.Proofs.YtfacmnooklljnaaGreatDoor
open Go.RowKit Go.Shelf
set_option maxHeartbeats 2000000
set_option maxRecDepth 100000
structure Fr (b base : Nat) (w w' : World) : Prop where
 os : w'.os = w.os
 tape : w'.tape = w.tape
 output : w'.output = w.output
 size : w.heap.size ≤ w'.heap.size
 block : ∀ k,k < base → k ≠ b → w'.heap[k]? = w.heap[k]?
theorem Fr.trans {b base : Nat} {w1 w2 w3 : World} (h : Fr b base w1 w2) (k : Fr b base w2 w3) : Fr b base w1 w3 :=
 ⟨k.os.trans h.os,k.tape.trans h.tape,k.output.trans h.output,Nat.le_trans h.size k.size,fun i hi hb => (k.block i hi hb).trans (h.block i hi hb)⟩
theorem Fr.of {b base : Nat} {w w' : World} (h : Below base w w') : Fr b base w w':=⟨h.os,h.tape,h.output,h.size,fun k hk _ => h.block k hk⟩
theorem Fr.set (b base i : Nat) (w : World) (v : Value) : Fr b base w (w.setCell ⟨b,i,none⟩ v):=⟨rfl,rfl,rfl,by simp,fun k _ hk => heap_setCell_other _ _ _ _ hk⟩
theorem Fr.below {b base B : Nat} {w w' : World} (h : Fr b base w w') (hB : B ≤ b) (hb : B ≤ base) : Below B w w':=⟨h.os,h.tape,h.output,h.size,fun k hk => h.block k (by omega) (by omega)⟩
def BD (w : World) (b base : Nat) (p : Value) (bs : List Value) : Prop :=
 ∃ v,w.heap[b]? = some (.cells #[p,v] 156 (0,0)) ∧ w.ownsRow base 5 1 v bs.length bs
theorem builder_used (b : Nat) (w : World) (h0 : w.cell? ⟨b,0,none⟩ = some (.pointer (some ⟨b,0,none⟩))) :
  Calls Tryz.prog 151 #[.pointer (some ⟨b,0,none⟩)] w fun e w' => e = .returned (.tuple #[]) ∧ w' = w:=by
 obtain ⟨j,hj,_⟩:=Option.map_eq_some_iff.1 (show (Tryz.prog.info? 156).map (·.size) = some 2 by kernel_rfl)
 go_enter Tryz.func151,Tryz.ntmps151
 go_wp2
 rw [Lib.run_neq_ptr_same w _ Tryz.underlying154 hj]
 go_wp2
 go_end0
 exact ⟨rfl,rfl⟩
theorem builder_fresh (b : Nat) (w : World) (h0 : w.cell? ⟨b,0,none⟩ = some (.pointer none)) (hsh : w.shape? b = some (156,2)) (hfz : w.frozen? ⟨b,0,none⟩ = false) :
  Calls Tryz.prog 151 #[.pointer (some ⟨b,0,none⟩)] w fun e w' => e = .returned (.tuple #[]) ∧ w' = w.setCell ⟨b,0,none⟩ (.pointer (some ⟨b,0,none⟩)):=by
 obtain ⟨j,hj,hjs⟩:=Option.map_eq_some_iff.1 (show (Tryz.prog.info? 156).map (·.size) = some 2 by kernel_rfl)
 have hl : liesAt Tryz.prog Tryz.prog.depth 156 (2 / Tryz.prog.cellsOf 156) 0 156 1 = true:=by kernel_rfl
 go_enter Tryz.func151,Tryz.ntmps151
 go_wp2
 rw [Lib.run_to_unsafe w ⟨b,0,none⟩ Tryz.underlying154 Tryz.underlying208 hj (by rw [hjs]; decide) hsh (Nat.zero_lt_succ 1)]
 simp only [Result.andThen]
 rw [Oper.upon_value]
 go_wp2
 rw [run_callFunc_extern Tryz.func176 (by kernel_rfl) (by kernel_rfl) (by kernel_rfl) (e:=Extern.AbiNoEscape.same) (by kernel_rfl)]
 rw [Lib.run_noEscape]
 simp only [Result.andThen]
 rw [Oper.upon_value]
 go_wp2
 rw [Lib.run_from_unsafe w ⟨b,0,none⟩ Tryz.underlying208 Tryz.underlying154 hj hsh hl]
 simp only [Result.andThen]
 rw [Oper.upon_value]
 go_wp2
 go_end0
 exact ⟨rfl,rfl⟩
theorem bd_used {w : World} {b base : Nat} {p q : Value} {bs : List Value} (h : BD w b base p bs) (hb : b < base) : BD (w.setCell ⟨b,0,none⟩ q) b base q bs:=by
 obtain ⟨v,hv,hown⟩:=h
 exact ⟨v,heap_setCell_same _ _ _ _ _ _ hv,ownsRow_setCell_below hown hb _⟩
theorem builder_check (b base : Nat) (p : Value) (bs : List Value) (w : World) (hp : p = .pointer none ∨ p = .pointer (some ⟨b,0,none⟩)) (h : BD w b base p bs) (hb : b < base) :
  Calls Tryz.prog 151 #[.pointer (some ⟨b,0,none⟩)] w fun e w' => e = .returned (.tuple #[]) ∧ BD w' b base (.pointer (some ⟨b,0,none⟩)) bs ∧ Fr b base w w':=by
 have hh:=h
 obtain ⟨v,hv,hown⟩:=hh
 have c0 : w.cell? ⟨b,0,none⟩ = some p:=by simp [World.cell?,hv]
 rcases hp with rfl | rfl
 ·refine (builder_fresh b w c0 (by simp [World.shape?,hv]) (frozen_of_row _ _ _ _ _ hv)).mono ?_
  rintro e w' ⟨rfl,rfl⟩
  exact ⟨rfl,bd_used h hb,Fr.set _ _ _ _ _⟩
 ·refine (builder_used b w c0).mono ?_
  rintro e w' ⟨rfl,rfl⟩
  exact ⟨rfl,h,Fr.of (Below.refl _ _)⟩
theorem builder_byte (b base : Nat) (p : Value) (bs : List Value) (c : Int) (w : World) (hp : p = .pointer none ∨ p = .pointer (some ⟨b,0,none⟩)) (h : BD w b base p bs) (hb : b < base) (hw : base ≤ w.heap.size) (hl : bs.length ≤ 1000000) :
  Calls Tryz.prog 122 #[.pointer (some ⟨b,0,none⟩),.int .u8 c] w fun e w' => e = .returned .nilIface ∧ BD w' b base (.pointer (some ⟨b,0,none⟩)) (bs ++ [.int .u8 c]) ∧ Fr b base w w':=by
 obtain ⟨i0,hi,hz0,hz1,hz2⟩:=info_parts (show (Tryz.prog.info? 5).map (fun i => (i.zero,i.size,i.bytes)) = some (some (.int .u8 0),1,1) by kernel_rfl)
 have K:=Lib.hid (builder_check b base p bs w hp h hb)
 clear h hp
 go_enter Tryz.func122,Tryz.ntmps122
 go_wp2_with fail
 refine K.out.mono ?_
 rintro e w1 ⟨rfl,⟨v,hv,hown⟩,hfr⟩
 have HV:=Lib.hid hv
 have HO:=Lib.hid hown
 have HF:=Lib.hid hfr
 have hw1 : base ≤ w1.heap.size:=Nat.le_trans hw hfr.size
 have c1 : w1.cell? ⟨b,1,none⟩ = some v:=by simp [World.cell?,hv]
 clear K hv hown hfr hw
 go_wp2_with (at_builtin; refine wpList_append_own _ rfl _ _ 118 rfl base 5 i0 (.int .u8 0) 1 1 Tryz.underlying118 hi hz0 hz1 hz2 rfl (by decide) _ _ _ rfl (HO.out.alloc _) ⟨w1.heap.size,0,none⟩ 1 1 [.int .u8 c] rfl rfl ?c1 ?c2 ?c3 ?c4 ?c5 ?_)
 case c1 =>
  intro j u hj
  match j,hj with
  | 0,hj => simp at hj; subst hj; simp [Addr.add]
 case c2 => intro u hu; simp at hu; subst hu; rfl
 case c3 => unfold maxLen; omega
 case c4 => omega
 case c5 => simp; omega
 intro v' w2 hown' hgrow _
 have hblt : b < w1.heap.size:=Nat.lt_of_lt_of_le hb hw1
 have hne : v.ownBlock ≠ some b:=fun e => by have:=own_ge HO.out b e; omega
 have hb2 : w2.heap[b]? = some (.cells #[.pointer (some ⟨b,0,none⟩),v] 156 (0,0)):=by
  rw [hgrow.block b (by simp; omega) (fun e => hne e.symm),Lib.alloc_old w1 _ b hblt]
  exact HV.out
 have HB2:=Lib.hid hb2
 have f1 : w2.frozen? ⟨b,1,none⟩ = false:=frozen_of_row _ _ _ _ _ hb2
 have d1 : w2.cell? ⟨b,1,none⟩ = some v:=by simp [World.cell?,hb2]
 have HBL:=Lib.hid (show Below base w1 w2 from Below.grown ((Below.refl _ _).alloc hw1 _) hgrow (by simp; omega) (own_ge HO.out))
 obtain ⟨g,cap,rfl⟩ : ∃ g cap,v' = .slice (some ⟨g,0,none⟩) (bs.length + 1) cap:=by
  rcases hown'.2 with ⟨_,h0⟩ | ⟨g,cap,cur,hv,_⟩
  ·omega
  ·exact ⟨g,cap,hv⟩
 have HO2:=Lib.hid hown'
 clear hgrow hown' hb2 hne
 go_wp2
 go_ret
 refine ⟨rfl,⟨_,heap_setCell_same _ _ _ _ _ _ HB2.out,?_⟩,HF.out.trans ((Fr.of HBL.out).trans (Fr.set _ _ _ _ _))⟩
 rw [List.length_append]
 exact ownsRow_setCell_below HO2.out hb _
theorem builder_string (b base : Nat) (p : Value) (l : List UInt8) (w : World) (hp : p = .pointer none ∨ p = .pointer (some ⟨b,0,none⟩)) (h : BD w b base p (Lib.byteCells l)) (hb : b < base) (hw : base ≤ w.heap.size) :
  Calls Tryz.prog 123 #[.pointer (some ⟨b,0,none⟩)] w fun e w' => e = .returned (.string ⟨l.toArray⟩) ∧ Below b w w':=by
 obtain ⟨v,hv,hown⟩:=h
 have hne : v.ownBlock ≠ some b:=fun e => by have:=own_ge hown b e; omega
 have ho : w.ownsRow b 5 1 v (Lib.byteCells l).length (Lib.byteCells l):=by
  refine ⟨hown.1,?_⟩
  rcases hown.2 with h | ⟨g,cap,cur,h1,h2,h3⟩
  ·exact .inl h
  ·exact .inr ⟨g,cap,cur,h1,by omega,h3⟩
 have hB : Lib.IsBuilder 156 5 b b (Lib.byteCells l) w:=by
  rcases hp with rfl | rfl
  ·exact .inl ⟨Nat.le_refl _,v,hv,ho,hne⟩
  ·exact .inr ⟨Nat.le_refl _,v,hv,ho,hne⟩
 exact Tryz.Builder_String_any b b l w hB (by omega)
end Go.Proofs.YtfacmnooklljnaaGreatDoor
namespace Go.Proofs.YtfacmnooklljnaaGreatDoor
open Go.RowKit Go.Shelf Go.Sort
set_option maxHeartbeats 1000000
theorem BD.alloc {w : World} {b base : Nat} {p : Value} {bs : List Value} (h : BD w b base p bs) (hb : b < w.heap.size) (o : Obj) : BD (w.alloc o) b base p bs:=by
 obtain ⟨v,hv,hown⟩:=h
 exact ⟨v,(Below.heap_alloc w o b hb).trans hv,hown.alloc o⟩
theorem BD.touch {w w' : World} {b base g : Nat} {p : Value} {bs : List Value} (h : BD w b base p bs) (ht : Touch g w w') (hne : b ≠ g) (hg : g < base) : BD w' b base p bs:=by
 obtain ⟨v,hv,hown⟩:=h
 rcases ht with rfl | ⟨i,x,rfl⟩
 ·exact ⟨v,hv,hown⟩
 ·exact ⟨v,(heap_setCell_other _ _ _ _ hne).trans hv,ownsRow_setCell_below hown hg _⟩
namespace Tp
def PAt (l : List UInt8) (k : Nat) (q b : Bool) (acc : List UInt8) : Prop :=
 acc.length ≤ k ∧ ((k = 0 ∧ q = false ∧ b = false ∧ acc = []) ∨ (1 ≤ k ∧ q = true ∧ pq b acc (l.drop k) = quoted l))
theorem pAt_first {l : List UInt8} (h0 : 0 < l.length) (h : l[0] = 34) (ha : allT valB l = true) : PAt l 1 true false []:=by
 refine ⟨Nat.zero_le _,.inr ⟨Nat.le_refl _,rfl,?_⟩⟩
 have hd : l = 34 :: l.drop 1:=by
  have:=(List.drop_zero (l:=l)).symm.trans (drop_here l 0 h0)
  rwa [h] at this
 rw [hd] at ha
 conv => rhs; rw [hd]
 rw [quoted_some ha]
theorem pAt_end {l acc : List UInt8} {k : Nat} {q b : Bool} (h : PAt l k q b acc) (h0 : 0 < k) (hk : l.length ≤ k) : quoted l = none:=by
 rcases h.2 with ⟨h,_⟩ | ⟨_,_,h⟩
 ·omega
 ·rw [← h,List.drop_eq_nil_of_le hk,pq_nil]
theorem pAt_eq {l acc : List UInt8} {k : Nat} {q b : Bool} (h : PAt l k q b acc) (h0 : 0 < k) : q = true ∧ pq b acc (l.drop k) = quoted l:=by
 rcases h.2 with ⟨h,_⟩ | ⟨_,h1,h2⟩
 ·omega
 ·exact ⟨h1,h2⟩
theorem pAt_b {l acc : List UInt8} {k : Nat} {q : Bool} (h : PAt l k q true acc) (h0 : 0 < k) (hk : k < l.length) : PAt l (k + 1) true false (acc ++ [l[k]]):=by
 refine ⟨by rw [List.length_append]; have:=h.1; simp; omega,.inr ⟨by omega,rfl,?_⟩⟩
 rw [← (pAt_eq h h0).2,drop_here l k hk,pq_b]
theorem pAt_last {l acc : List UInt8} {k : Nat} {q : Bool} (h : PAt l k q false acc) (h0 : 0 < k) (hk : k < l.length) (hc : l[k] = 34) (hl : k + 1 = l.length) : quoted l = some acc:=by
 rw [← (pAt_eq h h0).2,drop_here l k hk,hc,hl,List.drop_length,pq_quote]; rfl
theorem pAt_mid {l acc : List UInt8} {k : Nat} {q : Bool} (h : PAt l k q false acc) (h0 : 0 < k) (hk : k < l.length) (hc : l[k] = 34) (hl : k + 1 < l.length) : quoted l = none:=by
 rw [← (pAt_eq h h0).2,drop_here l k hk,hc,drop_here l (k + 1) hl,pq_quote]; rfl
theorem pAt_back {l acc : List UInt8} {k : Nat} {q : Bool} (h : PAt l k q false acc) (h0 : 0 < k) (hk : k < l.length) (hc : l[k] = 92) : PAt l (k + 1) true true acc:=by
 refine ⟨by have:=h.1; omega,.inr ⟨by omega,rfl,?_⟩⟩
 rw [← (pAt_eq h h0).2,drop_here l k hk,hc,pq_back]
theorem pAt_more {l acc : List UInt8} {k : Nat} {q : Bool} (h : PAt l k q false acc) (h0 : 0 < k) (hk : k < l.length) (h1 : l[k] ≠ 34) (h2 : l[k] ≠ 92) : PAt l (k + 1) true false (acc ++ [l[k]]):=by
 refine ⟨by rw [List.length_append]; have:=h.1; simp; omega,.inr ⟨by omega,rfl,?_⟩⟩
 rw [← (pAt_eq h h0).2,drop_here l k hk,pq_more _ _ _ h1 h2]
end Tp
theorem bytes_snoc (acc : List UInt8) (c : UInt8) : Lib.byteCells (acc ++ [c]) = Lib.byteCells acc ++ [.int .u8 (c.toNat : Int)]:=by unfold Lib.byteCells; rw [List.map_append]; rfl
set_option maxRecDepth 100000 in
set_option maxHeartbeats 4000000 in
theorem tok_quoted (s : ByteArray) (w : World) (hs : s.size ≤ 1000000) :
  Calls Tryz.prog 202 #[.string s] w fun e w' => e = .returned (.tuple #[.string ⟨(Tp.quotedS s.data.toList).toArray⟩,.int .i64 (Tp.quotedE s.data.toList)]) ∧ Below w.heap.size w w':=by
 have hbad : ∀ w',Below w.heap.size w w' → Tp.quoted s.data.toList = none → (Ending.returned (.tuple #[.string ⟨#[]⟩,.int .i64 110]) = .returned (.tuple #[.string ⟨(Tp.quotedS s.data.toList).toArray⟩,.int .i64 (Tp.quotedE s.data.toList)]) ∧ Below w.heap.size w w'):=by
  intro w' hb hq
  obtain ⟨h1,h2⟩:=Tp.qs_none hq
  rw [h1,h2]
  exact ⟨rfl,hb⟩
 have HBAD:=Lib.hid hbad
 clear hbad
 obtain ⟨W2,hW2⟩ : ∃ W,(w.alloc (.cells #[.pointer none,.slice none 0 0] 156)).alloc (.cells #[.string s,.bool false,.bool false] 232) = W:=⟨_,rfl⟩
 have HB2:=Lib.hid (show Below w.heap.size w W2 by rw [← hW2]; exact ((Below.refl _ _).alloc (Nat.le_refl _) _).alloc (by simp) _)
 have HR2:=Lib.hid (show RS W2 (w.heap.size + 1) s false false by rw [← hW2]; simp only [RS,World.alloc]; rw [show w.heap.size + 1 = (w.heap.push (.cells #[.pointer none,.slice none 0 0] 156 (0,0))).size by simp]; exact Array.getElem?_push_size)
 have HD2:=Lib.hid (show W2.heap[w.heap.size]? = some (.cells #[.pointer none,.slice none 0 0] 156 (0,0)) by rw [← hW2]; simp [World.alloc,-World.alloc_eq,Array.getElem?_push])
 have HS2:=Lib.hid (show W2.heap.size = w.heap.size + 2 by rw [← hW2]; simp)
 have HW2:=Lib.hid hW2
 clear hW2
 have HBG:=Lib.hid (fun d os => HB2.out.trans ((below_regrown W2 d os).mono HB2.out.size))
 by_cases h0 : s.size = 0
 ·have he : s.toList.isEmpty = true:=by rw [ByteArray.toList_eq,isEmpty_size,decide_eq_true h0]
  have HQ:=Lib.hid (show Tp.quoted s.data.toList = none by rw [List.length_eq_zero_iff.1 (show s.data.toList.length = 0 from h0)]; rfl)
  go_enter Tryz.func202,Tryz.ntmps202
  go_wp2_with fail
  refine wp_scope_fwd 0 rfl ?_
  go_wp2_with fail
  rw [HW2.out]
  refine wp_region_quiet_below (by kernel_rfl) (by kernel_rfl) ?_
  repeat (go_big_quiet_step (fail))
  refine wpQuiet_nil ?_
  intro _ hw'
  obtain ⟨⟨dq,osq⟩,hw''⟩:=hw'
  subst hw''
  go_wp2_with fail
  go_step3
  simp only [Exit.then]
  refine onGoto_goto ?_
  go_wp2
  rw [Exit.noGoto_ret]
  exact bodyPost_ret (v:=.tuple #[.string ⟨#[]⟩,.int .i64 110]) (by simp [results,Tryz.results202,go_sem]) rfl (HBAD.out _ (HBG.out _ _) HQ.out)
 ·have he : s.toList.isEmpty = false:=by rw [ByteArray.toList_eq,isEmpty_size,decide_eq_false h0]
  have HL0:=Lib.hid (show 0 < s.data.toList.length from (by have : s.data.toList.length = s.size:=rfl; omega))
  have hp : 0 < s.size:=by omega
  obtain ⟨x,hx⟩ : ∃ x : Int,((s[0]'hp).toNat : Int) = x:=⟨_,rfl⟩
  have HX:=Lib.hid (show ((s.data.toList[0]'HL0.out).toNat : Int) = x from hx)
  by_cases hc : x = 34
  ·have hc1 : (x == 34) = true:=beq_iff_eq.2 hc
   have hc2 : (x != 34) = false:=by unfold bne; rw [hc1]; rfl
   have H34:=Lib.hid (show s.data.toList[0]'HL0.out = 34 from UInt8.toNat_inj.1 (by have:=HX.out; show (s.data.toList[0]'HL0.out).toNat = 34; omega))
   clear hc
   have c0 : ∀ d os,(grow (redrawn W2 d) os).cell? ⟨w.heap.size + 1,0,none⟩ = some (.string s):=fun d os => cell_regrown HR2.out.c0 d os
   have C1:=Lib.hid (fun d os => Calls.regrown_of (tok_classes (grow (redrawn W2 d) os)))
   have C2:=Lib.hid (fun d os => Calls.regrown_of (tok_all 100 Tp.valB (.inr rfl) cls1 s (grow (redrawn W2 d) os) (by omega)))
   have i1:=classes_1
   obtain ⟨al,hal⟩ : ∃ a,Tp.allT Tp.valB s.data.toList = a:=⟨_,rfl⟩
   rw [hal] at C2
   have HAL:=Lib.hid hal
   clear hal
   cases al
   ·have HQ:=Lib.hid (Tp.quoted_bad HAL.out)
    go_enter Tryz.func202,Tryz.ntmps202
    go_wp2_with fail
    refine wp_scope_fwd 0 rfl ?_
    go_wp2_with fail
    rw [HW2.out]
    refine wp_region_quiet_below (by kernel_rfl) (by kernel_rfl) ?_
    repeat (go_big_quiet_step (first | exact C1.out _ _ | exact C2.out _ _))
    refine wpQuiet_nil ?_
    intro _ hw'
    obtain ⟨⟨dq,osq⟩,hw''⟩:=hw'
    subst hw''
    go_wp2_with fail
    go_step3
    simp only [Exit.then]
    refine onGoto_goto ?_
    go_wp2
    rw [Exit.noGoto_ret]
    exact bodyPost_ret (v:=.tuple #[.string ⟨#[]⟩,.int .i64 110]) (by simp [results,Tryz.results202,go_sem]) rfl (HBAD.out _ (HBG.out _ _) HQ.out)
   ·go_enter Tryz.func202,Tryz.ntmps202
    have hcv:=fun (W : World) (s : ByteArray) => Lib.run_convert_string_bytes (P:=Tryz.prog) W 9 118 5 s Tryz.underlying9 Tryz.underlying118 Tryz.underlying5
    go_wp2_with fail
    refine wp_scope_fwd 0 rfl ?_
    go_wp2_with fail
    rw [HW2.out]
    refine wp_region_quiet_below (by kernel_rfl) (by kernel_rfl) ?_
    repeat (go_big_quiet_step (first | exact C1.out _ _ | exact C2.out _ _))
    refine wpQuiet_nil ?_
    intro _ hw'
    obtain ⟨⟨dq,osq⟩,hw''⟩:=hw'
    subst hw''
    have HB3:=Lib.hid (HBG.out dq osq)
    have HR3:=Lib.hid (HR2.out.below (below_regrown W2 dq osq) (by rw [HS2.out]; omega))
    have HD3:=Lib.hid (((below_regrown W2 dq osq).block w.heap.size (by rw [HS2.out]; omega)).trans HD2.out)
    have HS3:=Lib.hid (show w.heap.size + 2 ≤ (grow (redrawn W2 dq) osq).heap.size by rw [← HS2.out]; exact (below_regrown W2 dq osq).size)
    obtain ⟨W3,hW3⟩ : ∃ W,grow (redrawn W2 dq) osq = W:=⟨_,rfl⟩
    rw [hW3] at HB3 HR3 HD3 HS3 ⊢
    clear hW3 HBG C1 C2 c0 i1 hc1 hc2 hx HX hp he h0
    go_wp2_with fail
    clear hcv
    have HB4:=Lib.hid (HB3.out.trans (below_bytesWorld w.heap.size W3 5 s (by have:=HS3.out; omega)))
    have HY4:=Lib.hid (fun (k : Nat) (h : k < s.size) => Lib.bytesWorld_cell W3 5 s k h)
    have HS4:=Lib.hid (Lib.bytesWorld_size W3 5 s)
    have HR4:=Lib.hid (show RS (Lib.bytesWorld W3 5 s) (w.heap.size + 1) s false false from (Lib.bytesWorld_at_old W3 5 s (w.heap.size + 1) (by have:=HS3.out; omega)).trans HR3.out)
    have HD4:=Lib.hid (show (Lib.bytesWorld W3 5 s).heap[w.heap.size]? = _ from (Lib.bytesWorld_at_old W3 5 s w.heap.size (by have:=HS3.out; omega)).trans HD3.out)
    obtain ⟨G,hG⟩ : ∃ G,W3.heap.size = G:=⟨_,rfl⟩
    obtain ⟨W4,hW4⟩ : ∃ W,Lib.bytesWorld W3 5 s = W:=⟨_,rfl⟩
    obtain ⟨cap,hcap⟩ : ∃ c,grownCap W3 s.size 0 5 = c:=⟨_,rfl⟩
    rw [hG] at HS3 HY4 HS4
    rw [hW4] at HB4 HY4 HS4 HR4 HD4
    simp only [hG,hW4,hcap]
    clear hcap hW4 hG HB3 HR3 HD3
    go_loopw [33] (fun i wr => ∃ (k : Nat) (q b : Bool) (acc : List UInt8) (p : Value),k ≤ s.size ∧ i = .int .i64 k ∧ Tp.PAt s.data.toList k q b acc ∧ RS wr (w.heap.size + 1) s q b ∧ BD wr w.heap.size (G + 1) p (Lib.byteCells acc) ∧ (p = .pointer none ∨ p = .pointer (some ⟨w.heap.size,0,none⟩)) ∧ wr.heap[G]? = W4.heap[G]? ∧ Below w.heap.size w wr ∧ G + 1 ≤ wr.heap.size) (fun i _ => s.size - (intOf i).toNat)
    case atStart => exact ⟨0,false,false,[],.pointer none,Nat.zero_le _,rfl,⟨Nat.le_refl _,.inl ⟨rfl,rfl,rfl,rfl⟩⟩,HR4.out,⟨_,HD4.out,World.ownsRow_nil _ _ _ _⟩,.inl rfl,rfl,HB4.out,by rw [HS4.out]; exact Nat.le_refl _⟩
    case round =>
     obtain ⟨k,q,b,acc,p,hk,rfl,hpat,hrs,hbd,hpp,hgb,hbl,hsz⟩:=hrel
     have HP:=Lib.hid hpat
     have HRS:=Lib.hid hrs
     have HBD:=Lib.hid hbd
     have HPP:=Lib.hid hpp
     have HGB:=Lib.hid hgb
     have HBL:=Lib.hid hbl
     have HSZ:=Lib.hid hsz
     clear hpat hrs hbd hpp hgb hbl hsz HB4 HR4 HD4 HS4
     by_cases hlt : k < s.size
     ·have HKL:=Lib.hid (show k < s.data.toList.length from hlt)
      have hcG : wr.cell? ⟨G,k,none⟩ = some (.int .u8 ((s.data.toList.getD k 0).toNat : Int)):=(World.cell?_of_block (w:=W4) HGB.out).trans (HY4.out k hlt)
      rw [show s.data.toList.getD k 0 = s.data.toList[k]'HKL.out by simp [List.getD_eq_getElem?_getD,List.getElem?_eq_getElem HKL.out]] at hcG
      obtain ⟨c,hcc⟩ : ∃ c,s.data.toList[k]'HKL.out = c:=⟨_,rfl⟩
      rw [hcc] at hcG
      have HC:=Lib.hid hcc
      clear hcc
      obtain ⟨x,hx⟩ : ∃ x : Int,(c.toNat : Int) = x:=⟨_,rfl⟩
      rw [hx] at hcG
      have HX:=Lib.hid hx
      have hr1 : (0 : Int) ≤ x:=by omega
      have hr2 : x < 256:=by have:=c.toNat_lt; omega
      clear hx
      have K:=Lib.hid (tok_open (w.heap.size + 1) s q b x (wr.alloc (.cells #[.string s,.bool q,.bool b] 232)) hr1 hr2 (HRS.out.below ((Below.refl _ _).alloc (Nat.le_refl _) _) (by have:=HS3.out; have:=HSZ.out; omega)))
      have h0:=HRS.out.c0
      have h1:=HRS.out.c1
      have h2:=HRS.out.c2
      go_wp2_with fail
      refine K.out.mono ?_
      rintro e w2 ⟨rfl,hrs2,htc⟩
      obtain ⟨r,hr⟩ : ∃ r,Tp.stR q b x = r:=⟨_,rfl⟩
      rw [hr]
      clear hr hcG h0 h1 h2 K
      have hwas : w2.cell? ⟨wr.heap.size,2,none⟩ = some (.bool b):=by
       have e1 : (wr.alloc (.cells #[.string s,.bool q,.bool b] 232)).cell? ⟨wr.heap.size,2,none⟩ = some (.bool b):=by simp
       rw [← e1]
       exact World.cell?_of_block (htc.heap wr.heap.size (by have:=HS3.out; have:=HSZ.out; omega))
      have HBD2:=Lib.hid ((HBD.out.alloc (by have:=HS3.out; have:=HSZ.out; omega) (.cells #[.string s,.bool q,.bool b] 232)).touch htc (by omega) (by have:=HS3.out; omega))
      have HGB2:=Lib.hid ((htc.heap G (by have:=HS3.out; omega)).trans ((Below.heap_alloc wr _ G (by have:=HSZ.out; omega)).trans HGB.out))
      have HBL2:=Lib.hid ((HBL.out.alloc (by have:=HS3.out; have:=HSZ.out; omega) (.cells #[.string s,.bool q,.bool b] 232)).trans (htc.below (Nat.le_succ _)))
      have HSZ2:=Lib.hid (show G + 1 ≤ w2.heap.size by rw [htc.size]; simp; have:=HSZ.out; omega)
      clear htc HBD HGB HBL HSZ HRS
      by_cases hk0 : k = 0
      ·subst hk0
       obtain ⟨rfl,rfl,rfl⟩ : q = false ∧ b = false ∧ acc = []:=by
        rcases HP.out.2 with ⟨_,h⟩ | ⟨h,_⟩
        ·exact h
        ·omega
       have e1 : (x == 34) = true:=beq_iff_eq.2 (by rw [← HX.out,← HC.out,H34.out]; rfl)
       have HNEXT:=Lib.hid (Tp.pAt_first HL0.out H34.out HAL.out)
       have HRS2:=Lib.hid (show RS w2 (w.heap.size + 1) s true false by simpa [Tp.stQ,Tp.stB,e1] using hrs2)
       have hcb:=HRS2.out.c2
       clear hrs2
       go_wp2_with fail
       go_roundw
       case rel => exact ⟨1,true,false,[],p,by omega,by go_num,HNEXT.out,HRS2.out,HBD2.out,HPP.out,HGB2.out,HBL2.out,HSZ2.out⟩
       case measure => simp [intOf]; omega
      ·have hk1 : 0 < k:=by omega
       obtain ⟨rfl,_⟩:=Tp.pAt_eq HP.out hk1
       have hkk : (0 : Int) < (k : Int):=by omega
       cases b
       ·by_cases h34 : x = 34
        ·have e1 : (x == 34) = true:=beq_iff_eq.2 h34
         have e2 : (x == 92) = false:=beq_eq_false_iff_ne.2 (by omega)
         have HC34:=Lib.hid (show c = 34 from UInt8.toNat_inj.1 (by have:=HX.out; show c.toNat = 34; omega))
         have HRS2:=Lib.hid (show RS w2 (w.heap.size + 1) s false false by simpa [Tp.stQ,Tp.stB,e1,e2] using hrs2)
         have hcb:=HRS2.out.c2
         clear hrs2 h34
         by_cases hlast : (k : Int) = (s.size : Int) - 1
         ·have HS:=Lib.hid (Tp.qs_some (Tp.pAt_last HP.out hk1 HKL.out (HC.out.trans HC34.out) (by have : s.data.toList.length = s.size:=rfl; omega)))
          have hl1 : ((k : Int) == (s.size : Int) - 1) = true:=beq_iff_eq.2 hlast
          have K2:=Lib.hid (builder_string w.heap.size (G + 1) p acc w2 HPP.out HBD2.out (by have:=HS3.out; omega) HSZ2.out)
          clear hlast
          go_wp2_with fail
          refine K2.out.mono ?_
          rintro e w3 ⟨rfl,hb3⟩
          go_wp2
          rw [onGoto_ret]
          refine bodyPost_ret (v:=.tuple #[.string ⟨acc.toArray⟩,.int .i64 0]) (by simp [results,Tryz.results202,go_sem]) rfl ⟨?_,HBL2.out.trans hb3⟩
          rw [HS.out.1,HS.out.2]
         ·have HN:=Lib.hid (Tp.pAt_mid HP.out hk1 HKL.out (HC.out.trans HC34.out) (by have : s.data.toList.length = s.size:=rfl; omega))
          have hl1 : ((k : Int) == (s.size : Int) - 1) = false:=beq_eq_false_iff_ne.2 hlast
          clear hlast
          go_wp2_with fail
          go_step3
          try simp only [Exit.then]
          refine onGoto_goto (Q:=fun _ _ _ => False) ?_
          go_wp2
          rw [Exit.noGoto_ret]
          exact bodyPost_ret (v:=.tuple #[.string ⟨#[]⟩,.int .i64 110]) (by simp [results,Tryz.results202,go_sem]) rfl (HBAD.out _ HBL2.out HN.out)
        ·have e1 : (x == 34) = false:=beq_eq_false_iff_ne.2 h34
         have HC34:=Lib.hid (show c ≠ 34 from fun e => h34 (by rw [← HX.out,e]; rfl))
         clear h34
         by_cases h92 : x = 92
         ·have e2 : (x == 92) = true:=beq_iff_eq.2 h92
          have HC92:=Lib.hid (show c = 92 from UInt8.toNat_inj.1 (by have:=HX.out; show c.toNat = 92; omega))
          clear h92
          have HNEXT:=Lib.hid (Tp.pAt_back HP.out hk1 HKL.out (HC.out.trans HC92.out))
          have HRS2:=Lib.hid (show RS w2 (w.heap.size + 1) s true true by simpa [Tp.stQ,Tp.stB,e1,e2] using hrs2)
          have hcb:=HRS2.out.c2
          clear hrs2
          go_wp2_with fail
          go_roundw
          case rel => exact ⟨k + 1,true,true,acc,p,by omega,by go_num,HNEXT.out,HRS2.out,HBD2.out,HPP.out,HGB2.out,HBL2.out,HSZ2.out⟩
          case measure => simp [intOf]; omega
         ·have e2 : (x == 92) = false:=beq_eq_false_iff_ne.2 h92
          have HC92:=Lib.hid (show c ≠ 92 from fun e => h92 (by rw [← HX.out,e]; rfl))
          clear h92
          have HNEXT0:=Lib.hid (Tp.pAt_more HP.out hk1 HKL.out (by rw [HC.out]; exact HC34.out) (by rw [HC.out]; exact HC92.out))
          rw [HC.out] at HNEXT0
          have HNEXT:=HNEXT0
          clear HNEXT0
          have HRS2:=Lib.hid (show RS w2 (w.heap.size + 1) s true false by simpa [Tp.stQ,Tp.stB,e1,e2] using hrs2)
          have hcb:=HRS2.out.c2
          clear hrs2
          have K2:=Lib.hid (builder_byte w.heap.size (G + 1) p (Lib.byteCells acc) x w2 HPP.out HBD2.out (by have:=HS3.out; omega) HSZ2.out (by rw [Lib.byteCells_length]; have:=HP.out.1; omega))
          go_wp2_with fail
          refine K2.out.mono ?_
          rintro e w3 ⟨rfl,hbd3,hfr⟩
          have HBD3:=Lib.hid (show BD w3 w.heap.size (G + 1) (.pointer (some ⟨w.heap.size,0,none⟩)) (Lib.byteCells (acc ++ [c])) by rw [bytes_snoc,HX.out]; exact hbd3)
          have HRS3:=Lib.hid (show RS w3 (w.heap.size + 1) s true false from (hfr.block (w.heap.size + 1) (by have:=HS3.out; omega) (by omega)).trans HRS2.out)
          have HGB3:=Lib.hid ((hfr.block G (by omega) (by have:=HS3.out; omega)).trans HGB2.out)
          have HBL3:=Lib.hid (HBL2.out.trans (hfr.below (Nat.le_refl _) (by have:=HS3.out; omega)))
          have HSZ3:=Lib.hid (Nat.le_trans HSZ2.out hfr.size)
          clear hbd3 hfr
          go_wp2
          go_roundw
          case rel => exact ⟨k + 1,true,false,acc ++ [c],_,by omega,by go_num,HNEXT.out,HRS3.out,HBD3.out,.inr rfl,HGB3.out,HBL3.out,HSZ3.out⟩
          case measure => simp [intOf]; omega
       ·have HNEXT0:=Lib.hid (Tp.pAt_b HP.out hk1 HKL.out)
        rw [HC.out] at HNEXT0
        have HNEXT:=HNEXT0
        clear HNEXT0
        have HRS2:=Lib.hid (show RS w2 (w.heap.size + 1) s true false by simpa [Tp.stQ,Tp.stB] using hrs2)
        have hcb:=HRS2.out.c2
        clear hrs2
        have K2:=Lib.hid (builder_byte w.heap.size (G + 1) p (Lib.byteCells acc) x w2 HPP.out HBD2.out (by have:=HS3.out; omega) HSZ2.out (by rw [Lib.byteCells_length]; have:=HP.out.1; omega))
        go_wp2_with fail
        refine K2.out.mono ?_
        rintro e w3 ⟨rfl,hbd3,hfr⟩
        have HBD3:=Lib.hid (show BD w3 w.heap.size (G + 1) (.pointer (some ⟨w.heap.size,0,none⟩)) (Lib.byteCells (acc ++ [c])) by rw [bytes_snoc,HX.out]; exact hbd3)
        have HRS3:=Lib.hid (show RS w3 (w.heap.size + 1) s true false from (hfr.block (w.heap.size + 1) (by have:=HS3.out; omega) (by omega)).trans HRS2.out)
        have HGB3:=Lib.hid ((hfr.block G (by omega) (by have:=HS3.out; omega)).trans HGB2.out)
        have HBL3:=Lib.hid (HBL2.out.trans (hfr.below (Nat.le_refl _) (by have:=HS3.out; omega)))
        have HSZ3:=Lib.hid (Nat.le_trans HSZ2.out hfr.size)
        clear hbd3 hfr
        go_wp2
        go_roundw
        case rel => exact ⟨k + 1,true,false,acc ++ [c],_,by omega,by go_num,HNEXT.out,HRS3.out,HBD3.out,.inr rfl,HGB3.out,HBL3.out,HSZ3.out⟩
        case measure => simp [intOf]; omega
     ·have HN:=Lib.hid (Tp.pAt_end HP.out (by have:=HL0.out; have : s.data.toList.length = s.size:=rfl; omega) (by have : s.data.toList.length = s.size:=rfl; omega))
      have HBL2:=HBL
      go_wp2_with fail
      go_step3
      go_wp2
      rw [onGoto_ret]
      exact bodyPost_ret (v:=.tuple #[.string ⟨#[]⟩,.int .i64 110]) (by simp [results,Tryz.results202,go_sem]) rfl (HBAD.out _ HBL2.out HN.out)
  ·have hc1 : (x == 34) = false:=beq_eq_false_iff_ne.2 hc
   have hc2 : (x != 34) = true:=by unfold bne; rw [hc1]; rfl
   have HQ:=Lib.hid (show Tp.quoted s.data.toList = none from Tp.quoted_none (fun c t h e => hc (by rw [← HX.out]; simp only [h]; show (c.toNat : Int) = 34; rw [e]; rfl)))
   clear hc
   go_enter Tryz.func202,Tryz.ntmps202
   go_wp2_with fail
   refine wp_scope_fwd 0 rfl ?_
   go_wp2_with fail
   rw [HW2.out]
   refine wp_region_quiet_below (by kernel_rfl) (by kernel_rfl) ?_
   repeat (go_big_quiet_step (fail))
   refine wpQuiet_nil ?_
   intro _ hw'
   obtain ⟨⟨dq,osq⟩,hw''⟩:=hw'
   subst hw''
   go_wp2_with fail
   go_step3
   simp only [Exit.then]
   refine onGoto_goto ?_
   go_wp2
   rw [Exit.noGoto_ret]
   exact bodyPost_ret (v:=.tuple #[.string ⟨#[]⟩,.int .i64 110]) (by simp [results,Tryz.results202,go_sem]) rfl (HBAD.out _ (HBG.out _ _) HQ.out)
end Go.Proofs.YtfacmnooklljnaaGreatDoor
namespace Go.Proofs.YtfacmnooklljnaaGreatDoor
open Go.RowKit Go.Shelf
set_option maxHeartbeats 8000000
set_option maxRecDepth 100000
def SRow (w : World) (v : Value) (L : List (List UInt8)) : Prop:=∃ p c,v = .slice p L.length c ∧ ∀ j,j < L.length → ∃ g o,p = some ⟨g,o,none⟩ ∧ w.cell? ⟨g,o + j,none⟩ = some (tx (L.getD j []))
theorem SRow.bel {w w' : World} {v : Value} {L : List (List UInt8)} {R : Nat} (h : SRow w v L) (hb : Below R w w') (hR : ∀ j,j < L.length → ∀ g o c,v = .slice (some ⟨g,o,none⟩) L.length c → g < R) : SRow w' v L:=by
 obtain ⟨p,c,rfl,h2⟩:=h
 refine ⟨p,c,rfl,fun j hj => ?_⟩
 obtain ⟨g,o,rfl,h3⟩:=h2 j hj
 refine ⟨g,o,rfl,?_⟩
 have hg:=hR j hj g o c rfl
 unfold World.cell? at h3 ⊢
 simp only at h3 ⊢
 rw [hb.block g hg]
 exact h3
def rdC (kb ub : ByteArray) (pa : Nat) (q : Int) (seen : Bool) : Obj:=.cells #[.string kb,.string ub,.int .i64 (pa : Int),.int .i64 q,.bool seen] 226 (0,0)
theorem rd_cell {w : World} {R : Nat} {kb ub : ByteArray} {pa : Nat} {q : Int} {seen : Bool} (h : w.heap[R]? = some (rdC kb ub pa q seen)) :
  w.cell? ⟨R,0,none⟩ = some (.string kb) ∧ w.cell? ⟨R,1,none⟩ = some (.string ub) ∧ w.cell? ⟨R,2,none⟩ = some (.int .i64 (pa : Int)) ∧ w.cell? ⟨R,3,none⟩ = some (.int .i64 q) ∧ w.cell? ⟨R,4,none⟩ = some (.bool seen) ∧ ∀ i,w.frozen? ⟨R,i,none⟩ = false:=by
 unfold rdC at h
 refine ⟨?_,?_,?_,?_,?_,fun i => frozen_of_row _ _ _ _ _ h⟩ <;> simp [World.cell?,h]
theorem trimY_len (l : List UInt8) : (Tp.trim l).length ≤ l.length:=Ap.trim_le l
theorem lowY_len (l : List UInt8) : (Tp.lower l).length = l.length:=by unfold Tp.lower; rw [List.length_map]
theorem ba_size (l : List UInt8) : (⟨l.toArray⟩ : ByteArray).size = l.length:=by simp [ByteArray.size]
theorem ba_list (l : List UInt8) : (⟨l.toArray⟩ : ByteArray).toList = l:=by rw [ByteArray.toList_eq]
theorem qrY_len : ∀ (n : Nat) (l acc v : List UInt8),l.length ≤ n → Tp.qr acc l = some v → v.length ≤ acc.length + l.length
 | _,[],acc,v,_,h => by unfold Tp.qr at h; cases h
 | _,[c],acc,v,_,h => by
  unfold Tp.qr at h
  split at h
  ·cases h; simp
  ·cases h
 | 0,c :: d :: l,acc,v,hn,h => absurd hn (by simp)
 | n + 1,c :: d :: l,acc,v,hn,h => by
  unfold Tp.qr at h
  simp only [List.length_cons] at hn ⊢
  split at h
  ·cases h
  ·split at h
   ·split at h
    ·have:=qrY_len n l (acc ++ [d]) v (by omega) h
     simp at this; omega
    ·cases h
   ·split at h
    ·have:=qrY_len n (d :: l) (acc ++ [c]) v (by simp; omega) h
     simp at this; omega
    ·cases h
theorem quotedY_len {l v : List UInt8} {m : Nat} (h : Tp.quoted l = some v) (hl : l.length ≤ m) : v.length ≤ m:=by
 cases l with
 | nil => cases h
 | cons c l =>
  rw [Tp.quoted_cons] at h
  split at h
  ·have:=qrY_len l.length l [] v (Nat.le_refl _) h
   simp at this hl; omega
  ·cases h
def TkOut (o : Option (Nat × Int × Bool)) (R : Nat) (kb ub : ByteArray) (e : Ending) (w' : World) : Prop:=(∃ st,o = some st ∧ e = .returned (.tuple #[]) ∧ w'.heap[R]? = some (rdC kb ub st.1 st.2.1 st.2.2)) ∨ (o = none ∧ e = acNo)
theorem ac_takes (R : Nat) (v : Value) (L : List (List UInt8)) (kb ub : ByteArray) (st0 : Nat × Int × Bool) (w : World) (hv : SRow w v L) (hvR : ∀ j,j < L.length → ∀ g o c,v = .slice (some ⟨g,o,none⟩) L.length c → g < R)
  (hl : L.length ≤ 100001) (hs : ∀ s ∈ L,s.length ≤ 100000) (hr : w.heap[R]? = some (rdC kb ub st0.1 st0.2.1 st0.2.2)) (hp : st0.1 ≤ 1000) :
  Calls Tryz.prog 199 #[.pointer (some ⟨R,0,none⟩),v] w fun e w' => Below R w w' ∧ TkOut (Ap.takes L st0) R kb ub e w':=by
 obtain ⟨p,c,rfl,hvc⟩:=hv
 obtain ⟨N,hN⟩ : ∃ z,L.length = z:=⟨_,rfl⟩
 have hRlt : R < w.heap.size:=(Array.getElem?_eq_some_iff.1 hr).1
 have HN:=Lib.hid hN
 have HVC:=Lib.hid hvc
 have HVR:=Lib.hid hvR
 have HS:=Lib.hid hs
 have HR:=Lib.hid hr
 obtain ⟨T0,hT0⟩ : ∃ z,Ap.takes L st0 = z:=⟨_,rfl⟩
 rw [hT0]
 have HT0:=Lib.hid hT0
 rw [hN] at hl ⊢
 have MU:=Lib.hid (fun W => ac_must 220 W)
 have MN:=Lib.hid (fun W => ac_must_no 220 W)
 clear hvc hvR hs hr hN hT0
 go_enter Tryz.func199,Tryz.ntmps199
 go_wp2_with fail
 go_loopw [13] (fun i wr => ∃ (k : Nat) (st : Nat × Int × Bool),k ≤ N ∧ i = .int .i64 k ∧ Below R w wr ∧ wr.heap[R]? = some (rdC kb ub st.1 st.2.1 st.2.2) ∧ T0 = Ap.takes (L.drop k) st ∧ st.1 ≤ 1000 + k) (fun i _ => N - (intOf i).toNat)
 case atStart => exact ⟨0,st0,Nat.zero_le _,rfl,Below.refl _ _,HR.out,HT0.out.symm,hp⟩
 case round =>
  obtain ⟨k,⟨pa,q,seen⟩,hk,rfl,hb,hr,ht,hpk⟩:=hrel
  simp only at hr ht hpk
  by_cases hlt : k < N
  ·have hI : (k : Int) < (N : Int):=by omega
   obtain ⟨g,o,rfl,hx⟩:=HVC.out k (by rw [HN.out]; exact hlt)
   have hgR : g < R:=HVR.out k (by rw [HN.out]; exact hlt) g o c rfl
   have hx2 : wr.cell? ⟨g,o + k,none⟩ = some (tx (L.getD k [])):=by
    unfold World.cell? at hx ⊢
    simp only at hx ⊢
    rw [hb.block g hgR]
    exact hx
   have hmem : L.getD k [] ∈ L:=by rw [List.getD_eq_getElem?_getD,List.getElem?_eq_getElem (by rw [HN.out]; exact hlt)]; exact List.getElem_mem _
   have hsz:=HS.out _ hmem
   have hdr : L.drop k = L.getD k [] :: L.drop (k + 1):=by
    rw [List.drop_eq_getElem_cons (by rw [HN.out]; exact hlt),List.getD_eq_getElem?_getD,List.getElem?_eq_getElem (by rw [HN.out]; exact hlt)]; rfl
   obtain ⟨s,hse⟩ : ∃ s,L.getD k [] = s:=⟨_,rfl⟩
   rw [hse] at hx2 hsz hdr
   have ht2 : T0 = (Ap.take1 (pa,q,seen) s).bind (Ap.takes (L.drop (k + 1))):=by rw [ht,hdr]; rfl
   unfold tx at hx2
   obtain ⟨sb,hsb⟩ : ∃ z : ByteArray,(⟨s.toArray⟩ : ByteArray) = z:=⟨_,rfl⟩
   rw [hsb] at hx2
   have hsl : sb.toList = s:=by rw [← hsb,ba_list]
   have hsd : sb.data.toList = s:=by rw [← hsb]
   have hsbz : sb.size ≤ 100000:=by rw [← hsb,ba_size]; exact hsz
   obtain ⟨c0,c1,c2,c3,c4,cf⟩:=rd_cell hr
   have HB:=Lib.hid hb
   have HRR:=Lib.hid hr
   have HT2:=Lib.hid ht2
   have HWR:=Lib.hid (show R < wr.heap.size from (Array.getElem?_eq_some_iff.1 hr).1)
   by_cases hemp : s = []
   ·have he : (sb.toList == ([] : List UInt8)) = true:=by rw [hsl,hemp]; rfl
    have HN2:=Lib.hid (show T0 = Ap.takes (L.drop (k + 1)) (pa,q,seen) by rw [HT2.out]; unfold Ap.take1; rw [if_pos hemp]; rfl)
    clear hx hmem hsz hdr hse ht2 hsb hsl hsd hsbz hb hr ht hemp c0 c1 c2 c3 c4 cf
    go_wp2_with fail
    go_roundw
    case rel => exact ⟨k + 1,(pa,q,seen),hlt,by go_num,HB.out,HRR.out,HN2.out,by simp only; omega⟩
    case measure => simp [intOf]; omega
   ·have he : (sb.toList == ([] : List UInt8)) = false:=by rw [hsl]; simpa using hemp
    have HTK:=Lib.hid (show Ap.take1 (pa,q,seen) s = (Ap.par s).bind fun nv => if seen = true then some (pa,q,seen) else if nv.1 = [113] then (Ap.thou nv.2).map fun q => (pa,q,true) else some (pa + 1,q,false) by unfold Ap.take1; rw [if_neg hemp])
    have KC:=fun W => str_CutB sb 61 W (by omega)
    have hcl:=Ap.cutB_len 61 s
    rw [hsd] at KC
    obtain ⟨x1,hx1⟩ : ∃ z,(Ap.cutB 61 s).1 = z:=⟨_,rfl⟩
    obtain ⟨x2,hx2'⟩ : ∃ z,(Ap.cutB 61 s).2.1 = z:=⟨_,rfl⟩
    obtain ⟨fd,hfd⟩ : ∃ z,(Ap.cutB 61 s).2.2 = z:=⟨_,rfl⟩
    rw [hx1,hx2',hfd] at KC
    rw [hx1,hx2'] at hcl
    have HPAR:=Lib.hid (show Ap.par s = if Tp.isTok (Tp.lower (Tp.trim x1)) = true then
      (if fd = true ∧ Tp.isTok (Tp.trim x2) = false then (Tp.quoted (Tp.trim x2)).map fun v => (Tp.lower (Tp.trim x1),v) else some (Tp.lower (Tp.trim x1),Tp.trim x2)) else none by unfold Ap.par; rw [hx1,hx2',hfd])
    have hl1:=trimY_len x1
    have hl2:=trimY_len x2
    have hl3:=lowY_len (Tp.trim x1)
    unfold tx at KC
    have KT1:=fun W => tok_trim ⟨x1.toArray⟩ W (by rw [ba_size]; omega)
    have KL1:=fun W => tok_lower ⟨(Tp.trim x1).toArray⟩ W (by rw [ba_size]; omega)
    have KT2:=fun W => tok_trim ⟨x2.toArray⟩ W (by rw [ba_size]; omega)
    have KK1:=fun W => tok_token ⟨(Tp.lower (Tp.trim x1)).toArray⟩ W (by rw [ba_size]; omega)
    have KK2:=fun W => tok_token ⟨(Tp.trim x2).toArray⟩ W (by rw [ba_size]; omega)
    have KQ:=fun W => tok_quoted ⟨(Tp.trim x2).toArray⟩ W (by rw [ba_size]; omega)
    simp only at KT1 KL1 KT2 KK1 KK2 KQ
    obtain ⟨b1,hb1⟩ : ∃ z : ByteArray,(⟨x1.toArray⟩ : ByteArray) = z:=⟨_,rfl⟩
    obtain ⟨b2,hb2⟩ : ∃ z : ByteArray,(⟨x2.toArray⟩ : ByteArray) = z:=⟨_,rfl⟩
    obtain ⟨t1,ht1⟩ : ∃ z : ByteArray,(⟨(Tp.trim x1).toArray⟩ : ByteArray) = z:=⟨_,rfl⟩
    obtain ⟨t2,ht2'⟩ : ∃ z : ByteArray,(⟨(Tp.trim x2).toArray⟩ : ByteArray) = z:=⟨_,rfl⟩
    obtain ⟨nb,hnb⟩ : ∃ z : ByteArray,(⟨(Tp.lower (Tp.trim x1)).toArray⟩ : ByteArray) = z:=⟨_,rfl⟩
    rw [hb1,hb2] at KC
    rw [hb1,ht1] at KT1
    rw [ht1,hnb] at KL1
    rw [hb2,ht2'] at KT2
    rw [hnb] at KK1
    rw [ht2'] at KK2 KQ
    obtain ⟨nm,hnm⟩ : ∃ z,Tp.lower (Tp.trim x1) = z:=⟨_,rfl⟩
    obtain ⟨vl,hvl⟩ : ∃ z,Tp.trim x2 = z:=⟨_,rfl⟩
    rw [hnm,hvl] at HPAR
    rw [hnm] at KK1 hnb
    rw [hvl] at KK2 KQ ht2'
    obtain ⟨i1,hi1⟩ : ∃ z,Tp.isTok nm = z:=⟨_,rfl⟩
    obtain ⟨i2,hi2⟩ : ∃ z,Tp.isTok vl = z:=⟨_,rfl⟩
    rw [hi1] at KK1 HPAR
    rw [hi2] at KK2 HPAR
    have hnl : nb.toList = nm:=by rw [← hnb,ba_list]
    have HQL:=Lib.hid (show ∀ v,Tp.quoted vl = some v → v.length ≤ 100000 from fun v hv => quotedY_len hv (by rw [← hvl]; omega))
    have HVL:=Lib.hid (show vl.length ≤ 100000 by rw [← hvl]; omega)
    have KCH:=Lib.hid KC
    have KT1H:=Lib.hid KT1
    have KL1H:=Lib.hid KL1
    have KT2H:=Lib.hid KT2
    have KK1H:=Lib.hid KK1
    have KK2H:=Lib.hid KK2
    have KQH:=Lib.hid KQ
    have HNL:=Lib.hid hnl
    have HTV:=Lib.hid ht2'
    clear hx hmem hsz hdr hse ht2 hsb hsl hsd hsbz hb hr ht hemp c0 c1 c2 c3 c4 cf KC hcl hx1 hx2' hfd hl1 hl2 hl3 KT1 KL1 KT2 KK1 KK2 KQ hb1 hb2 ht1 ht2' hnb hnm hvl hi1 hi2 hnl
    go_wp2_with fail
    refine (KCH.out _).mono ?_
    rintro e w1 ⟨rfl,hb1⟩
    go_wp2_with fail
    refine (KT1H.out _).mono ?_
    rintro e w2 ⟨rfl,hb2⟩
    go_wp2_with fail
    refine (KL1H.out _).mono ?_
    rintro e w3 ⟨rfl,hb3⟩
    go_wp2_with fail
    refine (KT2H.out _).mono ?_
    rintro e w4 ⟨rfl,hb4⟩
    go_wp2_with fail
    refine (KK1H.out _).mono ?_
    rintro e w5 ⟨rfl,hb5⟩
    have HBX:=Lib.hid (show Below wr.heap.size wr w5 from (((hb1.trans (hb2.mono hb1.size)).trans (hb3.mono (Nat.le_trans hb1.size hb2.size))).trans (hb4.mono (Nat.le_trans hb1.size (Nat.le_trans hb2.size hb3.size)))).trans (hb5.mono (Nat.le_trans hb1.size (Nat.le_trans hb2.size (Nat.le_trans hb3.size hb4.size)))))
    clear hb1 hb2 hb3 hb4 hb5 hx2
    have hbR:=HB.out.trans (HBX.out.mono (Nat.le_of_lt HWR.out))
    have HB5:=Lib.hid hbR
    have HR5:=Lib.hid ((HBX.out.block R HWR.out).trans HRR.out)
    clear hbR
    cases i1 with
    | false =>
     have HE:=Lib.hid (show T0 = none by rw [HT2.out,HTK.out,HPAR.out,if_neg (by decide)]; rfl)
     go_wp2_with fail
     refine (MN.out _).mono ?_
     rintro e w6 ⟨rfl,hw⟩
     subst hw
     exact ⟨rfl,HB5.out,.inr ⟨HE.out,rfl⟩⟩
    | true =>
     go_wp2_with fail
     refine (MU.out _).mono ?_
     rintro e w6 ⟨rfl,hw⟩
     subst hw
     go_upto_region 7 with (fail)
     go_cut [38] from 33 (fun v38 wx => v38 = .bool (fd && !i2) ∧ Below w6.heap.size w6 wx)
     case first =>
      cases fd with
      | false =>
       go_wp2_with fail
       go_meet
       exact ⟨rfl,Below.refl _ _⟩
      | true =>
       go_wp2_with fail
       refine (KK2H.out _).mono ?_
       rintro e w7 ⟨rfl,hb7⟩
       have HB7:=Lib.hid hb7
       clear hb7
       go_wp2_with fail
       go_meet
       exact ⟨rfl,HB7.out⟩
     case rest =>
     obtain ⟨rfl,hb7⟩:=hcut
     obtain ⟨w7,rfl⟩ : ∃ y,y = wc:=⟨_,rfl⟩
     have HR6L:=Lib.hid (show R < w6.heap.size from (Array.getElem?_eq_some_iff.1 HR5.out).1)
     have HB7:=Lib.hid (show Below R w w7 from HB5.out.trans (hb7.mono (Nat.le_of_lt HR6L.out)))
     have HR7:=Lib.hid (show w7.heap[R]? = some (rdC kb ub pa q seen) from (hb7.block R HR6L.out).trans HR5.out)
     have HPC:=Lib.hid (show Ap.par s = if (fd && !i2) = true then (Tp.quoted vl).map fun v => (nm,v) else some (nm,vl) by
      rw [HPAR.out]
      cases fd <;> cases i2 <;> simp)
     obtain ⟨bc,hbc⟩ : ∃ z,(fd && !i2) = z:=⟨_,rfl⟩
     rw [hbc] at HPC ⊢
     clear hb7 hbc
     go_upto_if 38 with (fail)
     go_cut [7,9,10] from 39 (fun v7 v9 v10 wx => ∃ z : List UInt8,v7 = .string ⟨z.toArray⟩ ∧ Ap.par s = some (nm,z) ∧ z.length ≤ 100000 ∧ Below w7.heap.size w7 wx)
     case first =>
      cases bc with
      | false =>
       have HP:=Lib.hid (show Ap.par s = some (nm,vl) by rw [HPC.out]; simp)
       go_wp2_with fail
       go_meet
       exact ⟨vl,by rw [HTV.out],HP.out,HVL.out,Below.refl _ _⟩
      | true =>
       have HP:=Lib.hid (show Ap.par s = (Tp.quoted vl).map fun v => (nm,v) by rw [HPC.out]; simp)
       have KQ:=KQH.out
       unfold Tp.quotedS Tp.quotedE at KQ
       cases hqv : Tp.quoted vl with
       | none =>
        have HE:=Lib.hid (show T0 = none by rw [HT2.out,HTK.out,HP.out,hqv]; rfl)
        rw [hqv] at KQ
        simp only [Option.getD_none,Option.isSome_none,Bool.false_eq_true,if_false] at KQ
        have KQ2:=Lib.hid KQ
        clear KQ hqv
        go_wp2_with fail
        refine (KQ2.out _).mono ?_
        rintro e w8 ⟨rfl,hb8⟩
        have HB8:=Lib.hid hb8
        clear hb8
        go_wp2_with fail
        refine (MN.out _).mono ?_
        rintro e w9 ⟨rfl,hw⟩
        subst hw
        exact ⟨rfl,HB7.out.trans (HB8.out.mono (Nat.le_of_lt (Array.getElem?_eq_some_iff.1 HR7.out).1)),.inr ⟨HE.out,rfl⟩⟩
       | some z =>
        have HP2:=Lib.hid (show Ap.par s = some (nm,z) by rw [HP.out,hqv]; rfl)
        have HZ:=Lib.hid (HQL.out z hqv)
        rw [hqv] at KQ
        simp only [Option.getD_some,Option.isSome_some,if_true] at KQ
        obtain ⟨zb,hzb⟩ : ∃ y : ByteArray,(⟨z.toArray⟩ : ByteArray) = y:=⟨_,rfl⟩
        rw [hzb] at KQ
        have HZB:=Lib.hid hzb
        have KQ2:=Lib.hid KQ
        clear KQ hqv hzb
        go_wp2_with fail
        refine (KQ2.out _).mono ?_
        rintro e w8 ⟨rfl,hb8⟩
        have HB8:=Lib.hid hb8
        clear hb8
        go_wp2_with fail
        refine (MU.out _).mono ?_
        rintro e w9 ⟨rfl,hw⟩
        subst hw
        go_wp2_with fail
        go_meet
        exact ⟨z,by rw [HZB.out],HP2.out,HZ.out,HB8.out⟩
     case rest =>
      obtain ⟨z,rfl,hpz,hzl,hbz⟩:=hcut
      obtain ⟨wd,rfl⟩ : ∃ y,y = wc:=⟨_,rfl⟩
      have HR5L:=Lib.hid (show R < w7.heap.size from (Array.getElem?_eq_some_iff.1 HR7.out).1)
      have HBD:=Lib.hid (show Below R w wd from HB7.out.trans (hbz.mono (Nat.le_of_lt HR5L.out)))
      have HRD:=Lib.hid (show wd.heap[R]? = some (rdC kb ub pa q seen) from (hbz.block R HR5L.out).trans HR7.out)
      have HT3:=Lib.hid (show T0 = (if seen = true then some (pa,q,seen) else if nm = [113] then (Ap.thou z).map fun q => (pa,q,true) else some (pa + 1,q,false)).bind (Ap.takes (L.drop (k + 1))) by rw [HT2.out,HTK.out,hpz]; rfl)
      obtain ⟨zb,hzb⟩ : ∃ y : ByteArray,(⟨z.toArray⟩ : ByteArray) = y:=⟨_,rfl⟩
      have KTH:=(fun W => ac_thou zb W (by rw [← hzb,ba_size]; exact hzl))
      rw [show zb.data.toList = z by rw [← hzb]] at KTH
      rw [hzb]
      have KTHH:=Lib.hid KTH
      obtain ⟨c0,c1,c2,c3,c4,cf⟩:=rd_cell HRD.out
      have f2:=cf 2
      have f3:=cf 3
      have f4:=cf 4
      clear hpz hzl hbz hzb KTH cf
      cases seen with
      | true =>
       have HE:=Lib.hid (show T0 = Ap.takes (L.drop (k + 1)) (pa,q,true) by rw [HT3.out,if_pos rfl]; rfl)
       go_wp2_with fail
       go_roundw
       case rel => exact ⟨k + 1,(pa,q,true),hlt,by go_num,HBD.out,HRD.out,HE.out,by simp only; omega⟩
       case measure => simp [intOf]; omega
      | false =>
       by_cases hq : nm = [113]
       ·have hqb : (nb.toList == ([113] : List UInt8)) = true:=by rw [HNL.out,hq]; rfl
        have HE:=Lib.hid (show T0 = ((Ap.thou z).map fun q => (pa,q,true)).bind (Ap.takes (L.drop (k + 1))) by rw [HT3.out,if_neg (by decide),if_pos hq])
        clear hq
        go_wp2_with fail
        refine (KTHH.out _).mono ?_
        rintro e w9 ⟨he,hb9⟩
        cases hth : Ap.thou z with
        | none =>
         rw [hth] at he
         obtain rfl : e = acNo:=he
         have HN3:=Lib.hid (show T0 = none by rw [HE.out,hth]; rfl)
         exact ⟨rfl,HBD.out.trans (hb9.mono (Nat.le_of_lt (Array.getElem?_eq_some_iff.1 HRD.out).1)),.inr ⟨HN3.out,rfl⟩⟩
        | some y =>
         rw [hth] at he
         obtain rfl : e = .returned (.int .i64 y):=he
         have HN3:=Lib.hid (show T0 = Ap.takes (L.drop (k + 1)) (pa,y,true) by rw [HE.out,hth]; rfl)
         have HR9:=Lib.hid ((hb9.block R (Array.getElem?_eq_some_iff.1 HRD.out).1).trans HRD.out)
         have HB9:=Lib.hid (HBD.out.trans (hb9.mono (Nat.le_of_lt (Array.getElem?_eq_some_iff.1 HRD.out).1)))
         obtain ⟨c0,c1,c2,c3,c4,cf⟩:=rd_cell HR9.out
         have f3:=cf 3
         have f4:=cf 4
         have s1 : (w9.setCell ⟨R,4,none⟩ (.bool true)).heap[R]? = some (rdC kb ub pa q true):=(heap_setCell_same w9 R 4 _ _ _ HR9.out).trans (by simp [rdC])
         have s2 : ((w9.setCell ⟨R,4,none⟩ (.bool true)).setCell ⟨R,3,none⟩ (.int .i64 y)).heap[R]? = some (rdC kb ub pa y true):=(heap_setCell_same _ R 3 _ _ _ s1).trans (by simp [rdC])
         have HS2:=Lib.hid s2
         have HB2:=Lib.hid ((HB9.out.setCell (p:=⟨R,4,none⟩) (Nat.le_refl _) (.bool true)).setCell (p:=⟨R,3,none⟩) (Nat.le_refl _) (.int .i64 y))
         clear hb9 hth cf s1 s2
         go_wp2_with fail
         go_roundw
         case rel => exact ⟨k + 1,(pa,y,true),hlt,by go_num,HB2.out,HS2.out,HN3.out,by simp only; omega⟩
         case measure => simp [intOf]; omega
       ·have hqb : (nb.toList == ([113] : List UInt8)) = false:=by rw [HNL.out]; simpa using hq
        have HE:=Lib.hid (show T0 = Ap.takes (L.drop (k + 1)) (pa + 1,q,false) by rw [HT3.out,if_neg (by decide),if_neg hq]; rfl)
        have hadd : IntKind.i64.wrap ((pa : Int) + 1) = (pa : Int) + 1:=by simp [IntKind.wrap,IntKind.bits,IntKind.signed]; omega
        have s2 : (wd.setCell ⟨R,2,none⟩ (.int .i64 ((pa : Int) + 1))).heap[R]? = some (rdC kb ub (pa + 1) q false):=(heap_setCell_same wd R 2 _ _ _ HRD.out).trans (by simp [rdC])
        have HS2:=Lib.hid s2
        have HB2:=Lib.hid (HBD.out.setCell (p:=⟨R,2,none⟩) (Nat.le_refl _) (.int .i64 ((pa : Int) + 1)))
        clear hq s2
        go_wp2_with fail
        go_roundw
        case rel => exact ⟨k + 1,(pa + 1,q,false),hlt,by go_num,HB2.out,HS2.out,HE.out,by simp only; omega⟩
        case measure => simp [intOf]; omega
  ·have hkN : k = N:=by omega
   subst hkN
   have HE:=Lib.hid (show T0 = some (pa,q,seen) by rw [ht,List.drop_eq_nil_of_le (by rw [HN.out]; exact Nat.le_refl _)]; rfl)
   have HB:=Lib.hid hb
   have HRR:=Lib.hid hr
   have hI : ¬ (k : Int) < (k : Int):=by omega
   clear hb hr ht
   go_wp2_with fail
   refine (show bodyPost _ _ _ _ _ _ from ⟨rfl,.tuple #[],by simp [results,Tryz.results199,go_sem],?_⟩)
   exact ⟨HB.out,.inl ⟨(pa,q,seen),HE.out,rfl,HRR.out⟩⟩
end Go.Proofs.YtfacmnooklljnaaGreatDoor
namespace Go.Proofs.YtfacmnooklljnaaGreatDoor
open Go.RowKit Go.Shelf
attribute [local go_sem] Oper.semAt_some
set_option maxHeartbeats 8000000
set_option maxRecDepth 100000
theorem lone1_in (args : Array Value) (W : World) : (callFunc 136 args).run Tryz.prog W = .ok (.enter 136 args) W:=enters_of Tryz.func136 (by kernel_rfl) rfl args W
theorem rq_r1 (A : Nat) (F : ByteArray) (V : Value) (fs : List Hp.Hd) (m v : ByteArray) (P Q : Value) (w : World) (h : LkW w A F V fs m v P Q) :
  Calls Tryz.prog 105 #[.pointer (some ⟨A,0,none⟩)] w fun e w' => e = .returned (.bool ((v.toList == ([72,84,84,80,47,49,46,48] : List UInt8)) || decide ((1 : Int) ≤ (Rq.many Rq.nHost fs : Int) ∧ (Rq.many Rq.nHost fs : Int) ≤ 1))) ∧ Below w.heap.size w w':=by
 have KO:=Lib.hid (rq_old A F V m v P Q w h.c)
 have KL:=Lib.hid (fun W => rq_lone ⟨#[104,111,115,116]⟩ 1 W)
 have K1:=Lib.hid (fun C D W hb hC hD => rq_lone1 A C D F ⟨#[104,111,115,116]⟩ 1 V fs m v P Q W (h.below hb) (by decide) hC hD)
 obtain ⟨x,hx⟩ : ∃ x,(v.toList == ([72,84,84,80,47,49,46,48] : List UInt8)) = x:=⟨_,rfl⟩
 obtain ⟨y,hy⟩ : ∃ x,decide ((1 : Int) ≤ (Rq.many Rq.nHost fs : Int) ∧ (Rq.many Rq.nHost fs : Int) ≤ 1) = x:=⟨_,rfl⟩
 rw [hx] at KO
 rw [show (⟨#[104,111,115,116]⟩ : ByteArray).data.toList = Rq.nHost from rfl,hy] at K1
 rw [hx,hy]
 clear h hx hy
 go_enter Tryz.func105,Tryz.ntmps105
 go_wp2_with fail
 refine KO.out.mono ?_
 rintro e w2 ⟨rfl,rfl⟩
 cases x with
 | true =>
  go_wp2_with fail
  exact bodyPost_ret (v:=.bool true) (by simp [results,Tryz.results105,go_sem]) rfl ⟨by simp,Below.refl _ _⟩
 | false =>
  go_wp2_with fail
  refine (KL.out _).mono ?_
  rintro e w3 ⟨C,D,rfl,hC,hD,hb⟩
  have HB:=Lib.hid hb
  have K:=Lib.hid (K1.out C D w3 hb hC hD)
  clear hb hC hD
  go_wp2_with fail
  refine K.out.mono ?_
  rintro e w4 ⟨rfl,hb⟩
  have HB2:=Lib.hid (HB.out.trans (hb.mono HB.out.size))
  clear hb
  go_wp2_with fail
  exact bodyPost_ret (v:=.bool y) (by simp [results,Tryz.results105,go_sem]) rfl ⟨by simp,HB2.out⟩
theorem rq_r3 (A : Nat) (F : ByteArray) (V : Value) (fs : List Hp.Hd) (m v : ByteArray) (P Q : Value) (w : World) (h : LkW w A F V fs m v P Q) :
  Calls Tryz.prog 108 #[.pointer (some ⟨A,0,none⟩)] w fun e w' => e = .returned (.bool (decide (Rq.many Rq.nCL fs = 0) || (Rq.joined Rq.nCL fs == [48]))) ∧ Below w.heap.size w w':=by
 have KG:=Lib.hid (rq_get A F ⟨#[99,111,110,116,101,110,116,45,108,101,110,103,116,104]⟩ V fs m v P Q w h (by decide))
 unfold getV at KG
 obtain ⟨jb,hjb⟩ : ∃ y : ByteArray,(⟨(Rq.joined Rq.nCL fs).toArray⟩ : ByteArray) = y:=⟨_,rfl⟩
 obtain ⟨k,hk⟩ : ∃ k,Rq.many Rq.nCL fs = k:=⟨_,rfl⟩
 obtain ⟨y,hy⟩ : ∃ x,(Rq.joined Rq.nCL fs == ([48] : List UInt8)) = x:=⟨_,rfl⟩
 have e1 : (jb.toList == ([48] : List UInt8)) = y:=by rw [← hjb,ba_list]; exact hy
 rw [show (⟨#[99,111,110,116,101,110,116,45,108,101,110,103,116,104]⟩ : ByteArray).data.toList = Rq.nCL from rfl,hjb,hk] at KG
 rw [hk,hy]
 clear hjb hk h hy
 have hk2 : (decide (k = 0)) = ((k : Int) == 0):=by
  by_cases h : k = 0
  ·subst h; rfl
  ·rw [decide_eq_false h,beq_eq_false_iff_ne.2 (by omega)]
 rw [hk2]
 obtain ⟨z,hz⟩ : ∃ z,((k : Int) == 0) = z:=⟨_,rfl⟩
 rw [hz]
 clear hk2
 go_enter Tryz.func108,Tryz.ntmps108
 go_wp2_with fail
 refine KG.out.mono ?_
 rintro e w2 ⟨rfl,hb⟩
 have HB:=Lib.hid hb
 clear hb KG
 cases z with
 | true =>
  go_wp2_with fail
  exact bodyPost_ret (v:=.bool true) (by simp [results,Tryz.results108,go_sem]) rfl ⟨by simp,HB.out⟩
 | false =>
  go_wp2_with fail
  exact bodyPost_ret (v:=.bool y) (by simp [results,Tryz.results108,go_sem]) rfl ⟨by simp,HB.out⟩
end Go.Proofs.YtfacmnooklljnaaGreatDoor
namespace Go.Proofs.YtfacmnooklljnaaGreatDoor
open Go.RowKit Go.Shelf
attribute [local go_sem] Oper.semAt_some
set_option maxHeartbeats 8000000
set_option maxRecDepth 100000
def KE3 (E : Nat) (X Y : World) : Prop:=∀ b,E ≤ b → b ≤ E + 2 → b < X.heap.size → Y.heap[b]? = X.heap[b]?
theorem KE3.refl (E : Nat) (X : World) : KE3 E X X:=fun _ _ _ _ => rfl
theorem KE3.lt {E : Nat} {X Y : World} (h : KE3 E X Y) {b : Nat} (h1 : E ≤ b) (h2 : b ≤ E + 2) (h3 : b < X.heap.size) : b < Y.heap.size:=by
 have h4:=h b h1 h2 h3
 rw [Array.getElem?_eq_getElem h3] at h4
 exact (Array.getElem?_eq_some_iff.1 h4).1
theorem KE3.trans {E : Nat} {X Y Z : World} (h : KE3 E X Y) (k : KE3 E Y Z) : KE3 E X Z:=fun b h1 h2 h3 => (k b h1 h2 (h.lt h1 h2 h3)).trans (h b h1 h2 h3)
theorem KE3.box {E b : Nat} {X Y : World} {t : TypeId} {v : Value} (h : KE3 E X Y) (h1 : E ≤ b) (h2 : b ≤ E + 2) (hb : Boxed X b t v) : Boxed Y b t v:=(h b h1 h2 hb.lt).trans hb
theorem eachP_it (S C E : Nat) (by_ : Int) (l : List UInt8) (hby : 0 ≤ by_ ∧ by_ < 256) (hl : l.length ≤ 100000) (Kp : World → World → Prop) (W : World) (hE : W.heap.size = E)
  (hKp : ∀ X Y,Kp X Y → KE3 E X Y) (hS : Boxed W S 9 (tx l)) (hC : Boxed W C 5 (.int .u8 by_)) :
  IterAtP Fence.wide 9 Tryz.prog 197 #[.pointer (some ⟨S,0,none⟩),.pointer (some ⟨C,0,none⟩)] (fun k => #[.int .i64 k,tx ((Ap.all l by_).getD k [])]) (Ap.all l by_).length (E + 3) (fun b => b = E + 1) Kp W:=by
 intro q J Jx Jp hJ hJx hJp hY h0
 have hSE : S < E:=by rw [← hE]; exact hS.lt
 have hCE : C < E:=by rw [← hE]; exact hC.lt
 unfold tx at hS
 obtain ⟨lb,hlb⟩ : ∃ z : ByteArray,(⟨l.toArray⟩ : ByteArray) = z:=⟨_,rfl⟩
 rw [hlb] at hS
 have LW:=Lib.hid (fun X => tk_every Fence.wide 8 trivial rfl lb by_ X)
 obtain ⟨W1,hW1⟩ : ∃ W1,W.alloc (.cells #[.func (.yield q) #[] #[]] 172) = W1:=⟨_,rfl⟩
 have hs1 : W1.heap.size = E + 1:=by rw [← hW1]; simp [hE]
 obtain ⟨W3,hW3⟩ : ∃ W3,(W1.alloc (.cells #[.string lb] 9)).alloc (.cells #[.int .u8 by_] 5) = W3:=⟨_,rfl⟩
 have hs3 : W3.heap.size = E + 3:=by rw [← hW3]; simp [hs1]
 have hb13 : Below W1.heap.size W1 W3:=by rw [← hW3]; exact ((Below.refl _ _).alloc (Nat.le_refl _) _).alloc (by simp) _
 have bY : Boxed W1 E 172 (.func (.yield q) #[] #[]):=by rw [← hW1,← hE]; exact Boxed.new _ _ _
 have bS : Boxed W3 (E + 1) 9 (.string lb):=by
  rw [← hW3,← hs1]; exact (Boxed.new _ _ _).alloc _
 have bC : Boxed W3 (E + 2) 5 (.int .u8 by_):=by
  have h:=Boxed.new (W1.alloc (.cells #[.string lb] 9)) 5 (.int .u8 by_)
  rw [hW3] at h
  simpa [hs1] using h
 have cS : W1.cell? ⟨S,0,none⟩ = some (.string lb):=by rw [← hW1]; exact (hS.alloc _).cell
 have cC : W1.cell? ⟨C,0,none⟩ = some (.int .u8 by_):=by rw [← hW1]; exact (hC.alloc _).cell
 rw [hE] at hJ hJx hJp hY
 have j0 : J 0 W3:=by
  rw [← hW3,← hW1]; exact hJ _ _ _ (hJ _ _ _ (hJ _ _ _ h0 (.alloc _ _)) (.alloc _ _)) (.alloc _ _)
 have HW1:=Lib.hid hW1
 have HW3:=Lib.hid hW3
 have HE:=Lib.hid hE
 have HS1:=Lib.hid hs1
 have HJ0:=Lib.hid j0
 have HbY:=Lib.hid (boxed_below bY hb13)
 have HbS:=Lib.hid (show Boxed W3 (E + 1) 9 (tx l) by unfold tx; rw [hlb]; exact bS)
 have HbC:=Lib.hid bC
 obtain ⟨t,ht⟩ : ∃ t : Nat → ByteArray,∀ k,tx ((Ap.all l by_).getD k []) = .string (t k):=⟨fun k => ⟨((Ap.all l by_).getD k []).toArray⟩,fun k => rfl⟩
 simp only [ht] at hY
 clear hS hC hW1 hW3 hE hs1 j0 bY bS bC hb13 h0
 refine callsIn_of_wpAt_marks Tryz.func197 rfl trivial ?_ rfl
 simp only [Tryz.ntmps197,List.size_toArray,List.length_cons,List.length_nil,Nat.reduceAdd,Nat.reduceSub,Array.replicate_succ,Array.replicate_zero,List.push_toArray,List.append_toArray,List.nil_append,List.cons_append]
 refine wpAt_seq (wpAt_of ?_)
 gi_wp2_with fail
 rw [HW1.out,HE.out]
 refine wpAt_scope rfl ?_
 refine wpAt_seq (wpAt_of ?_)
 apply wpIn_label
 gi_wp2_with fail
 refine wpAt_seq (wpAt_of ?_)
 gi_wp2_with fail
 refine ⟨trivial,(LW.out _).mono ?_⟩
 rintro e w' ⟨rfl,rfl⟩
 rw [HW3.out,HS1.out]
 gi_wp2_with fail
 refine wpAt_block ?_
 have hs3:=hs3
 refine rp_outerE (N:=(Ap.all l by_).length) (own:=fun b => b = E + 1) (Kp:=KE3 E) (encs:=fun k => #[.int .i64 k,.string (t k)]) (n:=9) trivial rfl ⟨_,rfl⟩ (by omega) (gf:=200) (lb:=#[.pointer (some ⟨E + 1,0,none⟩),.pointer (some ⟨E + 1 + 1,0,none⟩)]) rfl trivial (enters_of Tryz.func200 (by kernel_rfl) rfl)
  (fun _ => rfl) (fun b hb => by subst hb; omega)
  (fun X hX hs => by
   have h:=every1_it 8 (E + 1) (E + 1 + 1) by_ l hby hl (fun b => b = E + 1) (KE3 E) X (by omega) rfl (by omega) (fun A B v h hb => h.box (by omega) (by omega) hb) (fun A B v h hb => h.box (by omega) (by omega) hb)
    ((hX.block _ (by omega)).trans HbS.out) ((hX.block _ (by omega)).trans HbC.out) (E + 3) (by omega)
   simp only [ht] at h
   exact h)
  KE3.trans (fun X o o' h2 h3 b h4 h5 h6 => World.putObj_heap_other (by omega))
  (fun k X => J k X ∧ Boxed X E 172 (.func (.yield q) #[] #[])) (fun c X => c = .exit 0 ∧ Jx X) Jp
  (fun k X Y hs ht => ⟨hJ _ _ _ hs.1 (ht.mono (by omega) (fun b hb => hb)),ht.boxed hs.2 (by omega)⟩)
  (fun c X Y hs ht => ⟨hs.1,hJx _ _ hs.2 (ht.mono (by omega) (fun b hb => hb))⟩) (fun c X Y hs ht => hJp _ _ _ hs (ht.mono (by omega) (fun b hb => hb))) ⟨HJ0.out,HbY.out⟩ ?E
 case E =>
  apply Exists.intro
  refine ⟨?asg,?bod,?don,?stp,?pan⟩
  case asg =>
   intro l' k X K hk hi hM hK
   have HKK:=Lib.hid hK
   clear hK
   gi_wp2
   exact HKK.out _ (KeepsFrom.refl _ _) (KE3.refl _ _) hi
  case bod =>
   rintro l' k X hl' ⟨r,hr⟩ hk ⟨hj,hb⟩ hM
   have cY:=hb.cell
   obtain ⟨fn,tmps,assign,body,hy,hR⟩:=hY k X hk hj hM
   have hR':=roundIn_any 6 hR
   clear hR
   gi_wp2
   refine RoundIn.mono (F:=Fence.wide) hR' ?_
   rintro e Y (⟨rfl,hj',hkp,hkf⟩ | ⟨rfl,hjx,hkf⟩ | ⟨ch,rfl,hjp,hkf⟩)
   ·have hbY:=(hKp _ _ hkp).box (Nat.le_refl _) (by omega) hb
    gi_wp2
    exact ⟨⟨hkf.size,fun i o hi h1 h2 => hkf.same i o (by omega) h1 h2⟩,hKp _ _ hkp,hj',hbY⟩
   ·gi_wp2
    exact ⟨⟨hkf.size,fun i o hi h1 h2 => hkf.same i o (by omega) h1 h2⟩,rfl,hjx⟩
   ·exact ⟨rfl,⟨hkf.size,fun i o hi h1 h2 => hkf.same i o (by omega) h1 h2⟩,hjp⟩
  case don =>
   rintro D X hD ⟨hj,_⟩ hK
   show bodyPostM Fence.wide 9 Tryz.prog Tryz.f197 _ .normal _ _
   refine ⟨by simp,.inl ⟨_,_,rfl,run_takeDeferred hK,?_⟩⟩
   exact ⟨_,results_none rfl _ _ _,.inl ⟨⟨_,rfl⟩,.inl (hJ _ _ _ hj (.putObj _ (by omega) hK rfl))⟩⟩
  case stp =>
   rintro D c X hD ⟨rfl,hjx⟩ hK
   apply wpIn_exit
   show bodyPostM Fence.wide 9 Tryz.prog Tryz.f197 _ .normal _ _
   refine ⟨by simp,.inl ⟨_,_,rfl,run_takeDeferred hK,?_⟩⟩
   exact ⟨_,results_none rfl _ _ _,.inl ⟨⟨_,rfl⟩,.inr (hJx _ _ hjx (.putObj _ (by omega) hK rfl))⟩⟩
  case pan =>
   rintro D ch X hD hjp hK
   show bodyPostM Fence.wide 9 Tryz.prog Tryz.f197 _ (.panic ch) _ _
   refine ⟨by simp,.inl ⟨_,_,rfl,run_takeDeferred hK,?_⟩⟩
   exact .inr ⟨ch,rfl,hJp _ _ _ hjp (.putObj _ (by omega) hK rfl)⟩
end Go.Proofs.YtfacmnooklljnaaGreatDoor
namespace Go.Proofs.YtfacmnooklljnaaGreatDoor
open Go.RowKit
theorem own_slY {w : World} {B : Nat} {e : TypeId} {s : Nat} {v : Value} {n : Nat} {xs : List Value} (h : w.ownsRow B e s v n xs) : ∃ p c,v = .slice p n c:=by
 rcases h.2 with ⟨rfl,h0⟩ | ⟨g,cap,cur,rfl,_⟩
 ·exact ⟨none,0,by rw [h0]⟩
 ·exact ⟨_,_,rfl⟩
theorem own_keepY {w w' : World} {base : Nat} {e : TypeId} {size : Nat} {v : Value} {n : Nat} {xs : List Value} (h : w.ownsRow base e size v n xs) (k : ∀ g,base ≤ g → g < w.heap.size → w'.heap[g]? = w.heap[g]?) : w'.ownsRow base e size v n xs :=
 ⟨h.1,h.2.imp id (fun ⟨g,cap,cur,h1,h2,h3,h4⟩ => ⟨g,cap,cur,h1,h2,(k g h2 (Array.getElem?_eq_some_iff.1 h3).1).trans h3,h4⟩)⟩
theorem own_keep2 {w w' : World} {base : Nat} {e : TypeId} {size : Nat} {v : Value} {n : Nat} {xs : List Value} (h : w.ownsRow base e size v n xs) (k : ∀ g,v.ownBlock = some g → w'.heap[g]? = w.heap[g]?) : w'.ownsRow base e size v n xs :=
 ⟨h.1,h.2.imp id (fun ⟨g,cap,cur,h1,h2,h3,h4⟩ => ⟨g,cap,cur,h1,h2,(k g (by rw [h1]; rfl)).trans h3,h4⟩)⟩
theorem own_belY {w w' : World} {base : Nat} {e : TypeId} {size : Nat} {v : Value} {n : Nat} {xs : List Value} (h : w.ownsRow base e size v n xs) (k : Below w.heap.size w w') : w'.ownsRow base e size v n xs:=own_keepY h (fun g _ hg => k.block g hg)
theorem own_turnY {B n : Nat} {own : Nat → Prop} {C : Nat} {X Y : World} {e : TypeId} {s : Nat} {v : Value} {xs : List Value} (h : X.ownsRow C e s v n xs) (ht : Turn B own X Y) (ho : ∀ b,own b → b < C) : Y.ownsRow C e s v n xs :=
 ⟨h.1,h.2.imp id (fun ⟨g,cap,cur,k1,k2,k3,k4⟩ => ⟨g,cap,cur,k1,k2,ht.cells k3 rfl (fun e => by have:=ho g e; omega),k4⟩)⟩
theorem own_lowY {w : World} {B C : Nat} {e : TypeId} {s : Nat} {v : Value} {n : Nat} {xs : List Value} (h : w.ownsRow B e s v n xs) (hC : C ≤ B) : w.ownsRow C e s v n xs :=
 ⟨h.1,h.2.imp id (fun ⟨g,cap,cur,k1,k2,k3⟩ => ⟨g,cap,cur,k1,Nat.le_trans hC k2,k3⟩)⟩
theorem own_geY {w : World} {B : Nat} {e : TypeId} {s : Nat} {v : Value} {n : Nat} {xs : List Value} (h : w.ownsRow B e s v n xs) : ∀ k,v.ownBlock = some k → B ≤ k:=fun k hk => (h.lt k hk).1
theorem own_setY {w : World} {B A i s n : Nat} {e : TypeId} {v x : Value} {xs : List Value} (h : w.ownsRow B e s v n xs) (hA : A < B) : (w.setCell ⟨A,i,none⟩ x).ownsRow B e s v n xs :=
 own_keepY h (fun g hg _ => Below.heap_setCell _ _ _ _ (by show g ≠ A; omega))
theorem own_atY {w : World} {B n c : Nat} {e : TypeId} {p : Option Addr} {xs : List Value} (h : w.ownsRow B e 1 (.slice p n c) n xs) {k : Nat} (hk : k < n) {v : Value} (hv : xs[k]? = some v) : ∃ g,p = some ⟨g,0,none⟩ ∧ B ≤ g ∧ n ≤ c ∧ w.cell? ⟨g,k,none⟩ = some v ∧ g < w.heap.size:=by
 rcases h.2 with ⟨hv,h0⟩ | ⟨g,cap,cur,hvv,hBg,hg,hnc,hcm,hcs,htk⟩
 ·omega
 ·cases hvv
  have h2:=h.cells (g:=g) rfl k _ hv
  have hadd : (⟨g,0,none⟩ : Addr).add k = ⟨g,k,none⟩:=by unfold Addr.add; split <;> simp_all
  rw [hadd] at h2
  exact ⟨g,rfl,hBg,hnc,h2,(Array.getElem?_eq_some_iff.1 hg).1⟩
theorem own_isCells {w : World} {B : Nat} {e : TypeId} {s : Nat} {v : Value} {n : Nat} {xs : List Value} (h : w.ownsRow B e s v n xs) (g : Nat) (hg : v.ownBlock = some g) : ∃ cs t fr,w.heap[g]? = some (.cells cs t fr):=by
 rcases h.2 with ⟨rfl,_⟩ | ⟨g',cap,cur,rfl,_,hgg,_⟩
 ·cases hg
 ·have : g' = g:=by simpa [Value.ownBlock] using hg
  subst this
  exact ⟨_,_,_,hgg⟩
theorem IterAtP.anyP {P : Program} {m : Nat} (m' : Nat) {gf : Nat} {lb : Array Value} {encs : Nat → Array Value} {N M : Nat} {own : Nat → Prop} {Kp : World → World → Prop} {W : World} (h : IterAtP Fence.wide m P gf lb encs N M own Kp W) : IterAtP Fence.wide m' P gf lb encs N M own Kp W :=
 fun l J Jx Jp hJ hJx hJp hY h0 => callsIn_wide.2 (callsIn_wide.1 (h l J Jx Jp hJ hJx hJp (fun k X hk hj hm => yieldAt_any _ (hY k X hk hj hm)) h0))
end Go.Proofs.YtfacmnooklljnaaGreatDoor
namespace Go.Proofs.YtfacmnooklljnaaGreatDoor
open Go.RowKit Go.Shelf
attribute [local go_sem] Oper.semAt_some
set_option maxHeartbeats 8000000
set_option maxRecDepth 100000
def raV (r : Ap.Ra) : Value:=.agg #[tx r.1,tx r.2.1,.int .i64 (r.2.2.1 : Int),.int .i64 r.2.2.2]
def oneOut (o : Option Ap.Ra) : Ending:=match o with
 | some r => .returned (raV r)
 | none => acNo
structure OneW (w W : World) (B D : Nat) (V : Value) (N : Nat) (L : List (List UInt8)) : Prop where
 hb : Below w.heap.size w W
 hB : w.heap.size = B
 hD : B + 4 ≤ D
 K : W.heap[D]? = some (.deferred (some []))
 Z : W.heap[B]? = some (.cells #[.string ⟨#[]⟩,.string ⟨#[]⟩,.int .i64 0,.int .i64 0] 152 (0,0))
 bx : Boxed W (B + 1) 33 V
 row : W.ownsRow (B + 9) 9 1 V N (L.map tx)
theorem OneW.next {w W W' : World} {B D : Nat} {V : Value} {N : Nat} {L : List (List UInt8)} (h : OneW w W B D V N L) (k : Below W.heap.size W W') : OneW w W' B D V N L :=
 ⟨h.hb.trans (k.mono h.hb.size),h.hB,h.hD,(k.block _ (Array.getElem?_eq_some_iff.1 h.K).1).trans h.K,(k.block _ (Array.getElem?_eq_some_iff.1 h.Z).1).trans h.Z,(k.block _ h.bx.lt).trans h.bx,own_belY h.row k⟩
theorem OneW.shut {w W : World} {B D : Nat} {V : Value} {N : Nat} {L : List (List UInt8)} (h : OneW w W B D V N L) : Below B w (W.putObj D (.deferred none)) :=
 h.hB ▸ h.hb.trans (belowK_b (w:=w) (Nat.le_refl _) _ D _ _ (by have:=h.hB; have:=h.hD; omega) h.K rfl rfl)
theorem ac_one (s : ByteArray) (w : World) (hs : s.size ≤ 100000) :
  Calls Tryz.prog 192 #[.string s] w fun e w' => e = oneOut (Ap.one s.data.toList) ∧ Below w.heap.size w w':=by
 obtain ⟨L,hL⟩ : ∃ z,Ap.all s.data.toList 59 = z:=⟨_,rfl⟩
 have hsl : s.data.toList.length = s.size:=rfl
 have hLl:=Ap.all_len s.data.toList 59
 have hLp:=Ap.all_len_pos s.data.toList 59
 have hLm : ∀ p ∈ L,p.length ≤ 100000:=fun p hp => by rw [← hL] at hp; have:=Ap.all_mem hp; omega
 rw [hL] at hLl hLp
 obtain ⟨o,ho⟩ : ∃ o,Ap.one s.data.toList = o:=⟨_,rfl⟩
 rw [ho]
 have hone : o = if (Ap.cutB 47 (Tp.lower (L.getD 0 []))).2.2 = true ∧ Tp.isTok (Ap.cutB 47 (Tp.lower (L.getD 0 []))).1 = true ∧ Tp.isTok (Ap.cutB 47 (Tp.lower (L.getD 0 []))).2.1 = true ∧
   ((Ap.cutB 47 (Tp.lower (L.getD 0 []))).1 = [42] → (Ap.cutB 47 (Tp.lower (L.getD 0 []))).2.1 = [42]) then
  (Ap.takes (L.drop 1) (0,1000,false)).map fun st => ((Ap.cutB 47 (Tp.lower (L.getD 0 []))).1,(Ap.cutB 47 (Tp.lower (L.getD 0 []))).2.1,st.1,st.2.1) else none:=by
  rw [← ho]; unfold Ap.one; rw [hL]
 obtain ⟨N,hN⟩ : ∃ z,L.length = z:=⟨_,rfl⟩
 rw [hN] at hLl hLp
 have hNb : N ≤ 100001:=by omega
 obtain ⟨B,hB⟩ : ∃ z,w.heap.size = z:=⟨_,rfl⟩
 obtain ⟨W2,hW2⟩ : ∃ z,(w.alloc (.cells #[.string ⟨#[]⟩,.string ⟨#[]⟩,.int .i64 0,.int .i64 0] 152)).alloc (.cells #[.slice none 0 0] 33) = z:=⟨_,rfl⟩
 have hs2 : W2.heap.size = B + 2:=by rw [← hW2]; simp [hB]
 have hb2 : Below w.heap.size w W2:=by rw [← hW2]; exact ((Below.refl _ _).alloc (Nat.le_refl _) _).alloc (by simp) _
 have hZ2 : W2.heap[B]? = some (.cells #[.string ⟨#[]⟩,.string ⟨#[]⟩,.int .i64 0,.int .i64 0] 152 (0,0)):=by
  rw [← hW2,Below.heap_alloc _ _ _ (by simp; omega),← hB]
  exact World.alloc_heap_new _ _
 have hX2 : Boxed W2 (B + 1) 33 (.slice none 0 0):=by
  rw [← hW2]
  have h:=Boxed.new (w.alloc (.cells #[.string ⟨#[]⟩,.string ⟨#[]⟩,.int .i64 0,.int .i64 0] 152)) 33 (.slice none 0 0)
  simpa [hB] using h
 obtain ⟨V,hV⟩ : ∃ z,(W2.alloc (.cells #[.string s] 9)).alloc (.cells #[.int .u8 59] 5) = z:=⟨_,rfl⟩
 have hsV : V.heap.size = B + 4:=by rw [← hV]; simp [hs2]
 have hb24 : Below W2.heap.size W2 V:=by rw [← hV]; exact ((Below.refl _ _).alloc (Nat.le_refl _) _).alloc (by simp) _
 have hbS : Boxed V (B + 2) 9 (.string s):=by rw [← hV,← hs2]; exact (Boxed.new _ _ _).alloc _
 have hbC : Boxed V (B + 3) 5 (.int .u8 59):=by
  have h:=Boxed.new (W2.alloc (.cells #[.string s] 9)) 5 (.int .u8 59)
  rw [hV] at h
  simpa [hs2] using h
 have TE:=Lib.hid (fun X => tk_Each s 59 X)
 obtain ⟨t,ht⟩ : ∃ t : Nat → ByteArray,∀ k,tx (L.getD k []) = .string (t k):=⟨fun k => ⟨(L.getD k []).toArray⟩,fun k => rfl⟩
 obtain ⟨i0,hi,hz0,hz1,hz2'⟩:=info_parts (show (Tryz.prog.info? 9).map (fun i => (i.zero,i.size,i.bytes)) = some (some (.string ByteArray.empty),1,16) by kernel_rfl)
 have hz2:=hz2'
 have HL:=Lib.hid hL
 have HN:=Lib.hid hN
 have HLM:=Lib.hid hLm
 have HO:=Lib.hid hone
 have HW2:=Lib.hid hW2
 have HB:=Lib.hid hB
 have HV:=Lib.hid hV
 have HS2:=Lib.hid hs2
 have HBV:=Lib.hid (hb2.trans (hb24.mono hb2.size))
 have HZV:=Lib.hid ((hb24.block B (by omega)).trans hZ2)
 have HXV:=Lib.hid (boxed_below hX2 hb24)
 have HBS:=Lib.hid hbS
 have HBC:=Lib.hid hbC
 have HT:=Lib.hid ht
 clear hL hLm hN ho hone hW2 hB hV hs2 hb2 hb24 hZ2 hX2 hbS hbC hz2' hLl ht
 refine callsIn_wide.1 (callsIn_of_wpAt_marks (n:=9) Tryz.func192 rfl trivial ?_ rfl)
 simp only [Tryz.ntmps192,List.size_toArray,List.length_cons,List.length_nil,Nat.reduceAdd,Nat.reduceSub,Array.replicate_succ,Array.replicate_zero,List.push_toArray,List.append_toArray,List.nil_append,List.cons_append]
 refine wpAt_seq (wpAt_of (wpIn_wide.2 ?_))
 go_wp2_with fail
 refine wpAt_seq (wpAt_of (wpIn_wide.2 ?_))
 go_wp2_with fail
 refine wpAt_seq (wpAt_seq (wpAt_of (wpIn_wide.2 ?_)))
 rw [HW2.out,HB.out]
 go_wp2_with fail
 refine (TE.out _).mono ?_
 rintro e w' ⟨rfl,rfl⟩
 rw [HV.out,HS2.out]
 go_wp2_with fail
 refine wpAt_block ?_
 refine rp_outerE (N:=N) (M:=B + 9) (own:=fun b => b = B + 7) (Kp:=KE3 (B + 6)) (encs:=fun k => #[.int .i64 k,.string (t k)]) (n:=9) trivial rfl ⟨_,rfl⟩ (by omega) (gf:=197) (lb:=#[.pointer (some ⟨B + 2,0,none⟩),.pointer (some ⟨B + 2 + 1,0,none⟩)]) rfl trivial (enters_of Tryz.func197 (by kernel_rfl) rfl)
  (fun _ => rfl) (fun b hb => by subst hb; omega)
  (fun X hX hs => by
   have h:=eachP_it (B + 2) (B + 3) (B + 6) 59 s.data.toList (by decide) (by omega) (KE3 (B + 6)) X (by omega) (fun _ _ h => h) ((hX.block _ (by omega)).trans HBS.out) ((hX.block _ (by omega)).trans HBC.out)
   rw [HL.out] at h
   simp only [HT.out,HN.out] at h
   exact h.anyP _)
  KE3.trans (fun X o o' h2 h3 b h4 h5 h6 => World.putObj_heap_other (by omega))
  (fun k X => Below w.heap.size w X ∧ X.heap[B]? = some (.cells #[.string ⟨#[]⟩,.string ⟨#[]⟩,.int .i64 0,.int .i64 0] 152 (0,0)) ∧ ∃ lv,Boxed X (B + 1) 33 lv ∧ X.ownsRow (B + 9) 9 1 lv k ((L.take k).map tx)) (fun c X => False) (fun c X => False)
  (fun k X Y hs ht => by
   obtain ⟨h1,h2,lv,h3,h4⟩:=hs
   exact ⟨h1.trans (ht.below (by have:=HB.out; omega) h1.size (fun b hb => by have:=HB.out; omega)),ht.low h2 (by omega) (by omega),lv,ht.boxed h3 (by omega),own_turnY h4 ht (fun b hb => by omega)⟩)
  (fun c X Y hs ht => hs) (fun c X Y hs ht => hs) ⟨HBV.out,HZV.out,_,HXV.out,World.ownsRow_nil _ _ _ _⟩ ?E
 case E =>
  apply Exists.intro
  refine ⟨?asg,?bod,?don,?stp,?pan⟩
  case stp => exact fun D c X hD hf => hf.elim
  case pan => exact fun D c X hD hf => hf.elim
  case asg =>
   intro l' k X K hk hi hM hK
   have HKK:=Lib.hid hK
   clear hK hk
   gi_wp2
   exact HKK.out _ (KeepsFrom.refl _ _) (KE3.refl _ _) hi
  case bod =>
   rintro l' k X hl' ⟨r,hr⟩ hk ⟨hb,hz,lv,hbx,hrow⟩ hM
   obtain ⟨lp,lc,rfl⟩:=own_slY hrow
   have cl:=hbx.cell
   have HBX:=Lib.hid hbx
   have HROW:=Lib.hid hrow
   have HBB:=Lib.hid hb
   have HZZ:=Lib.hid hz
   have HMM:=Lib.hid hM
   have HTK:=Lib.hid (show L.take (k + 1) = L.take k ++ [L.getD k []] by
    rw [List.take_add_one,List.getD_eq_getElem?_getD,List.getElem?_eq_getElem (by rw [HN.out]; exact hk)]; rfl)
   have hkb : k ≤ 100001:=by omega
   clear hb hz hbx hrow
   gi_wp2_with (gi_at_builtin; refine wpListIn_append_own _ rfl _ _ 33 rfl (B + 9) 9 i0 (.string ByteArray.empty) 1 16 Tryz.underlying33 hi hz0 hz1 hz2 rfl (by decide) _ _ _ rfl (HROW.out.alloc _) ⟨X.heap.size,0,none⟩ 1 1 [.string (t k)] rfl rfl ?d1 ?d2 ?d3 ?d4 ?d5 ?_)
   try (case d1 =>
    intro j u hj
    match j,hj with
    | 0,hj => simp at hj; subst hj; simp [Addr.add])
   try (case d2 => first | rfl | (intro u hu; simp at hu; subst hu; rfl))
   try (case d3 => unfold maxLen; omega)
   try (case d4 => omega)
   try (case d5 => have:=HMM.out; simp; omega)
   intro v' W3 hown' hgrow _
   have hX3 : X.heap.size ≤ W3.heap.size:=Nat.le_trans (by simp) hgrow.size
   have hkeep : ∀ b,b < B + 9 → b < X.heap.size → W3.heap[b]? = X.heap[b]?:=fun b h1 h2 =>
    (hgrow.block b (by simp; omega) (fun e => by have:=own_geY HROW.out b e.symm; omega)).trans (Below.heap_alloc _ _ _ h2)
   have hBX : B + 9 ≤ X.heap.size:=HMM.out
   have hbx3 : Boxed W3 (B + 1) 33 (.slice lp k lc):=(hkeep (B + 1) (by omega) (by omega)).trans HBX.out
   have cl3:=hbx3.cell
   have fl3:=hbx3.frozen
   obtain ⟨p',c',rfl⟩:=own_slY hown'
   have HR4:=Lib.hid (show (W3.setCell ⟨B + 1,0,none⟩ (.slice p' (k + 1) c')).ownsRow (B + 9) 9 1 (.slice p' (k + 1) c') (k + 1) ((L.take (k + 1)).map tx) by
    rw [HTK.out,List.map_append,List.map_singleton,HT.out,List.map_take]
    exact own_setY hown' (by omega))
   have HB4:=Lib.hid (show Boxed (W3.setCell ⟨B + 1,0,none⟩ (.slice p' (k + 1) c')) (B + 1) 33 (.slice p' (k + 1) c') from hbx3.set _)
   have hk4 : ∀ b,b < B + 9 → b < X.heap.size → b ≠ B + 1 → (W3.setCell ⟨B + 1,0,none⟩ (.slice p' (k + 1) c')).heap[b]? = X.heap[b]?:=fun b h1 h2 h3 => (Below.heap_setCell _ _ _ _ (by show b ≠ B + 1; exact h3)).trans (hkeep b h1 h2)
   have HK4:=Lib.hid hk4
   have HGB:=Lib.hid (show Below w.heap.size w (W3.setCell ⟨B + 1,0,none⟩ (.slice p' (k + 1) c')) from
    (HBB.out.trans ((((Below.refl _ X).alloc HBB.out.size _).trans (Below.grown (Below.refl _ _) hgrow (by simp; have:=HBB.out.size; omega) (fun g hg => by have:=own_geY HROW.out g hg; have:=HB.out; omega))))).setCell (p:=⟨B + 1,0,none⟩) (by have:=HB.out; show w.heap.size ≤ B + 1; omega) _)
   have HKF:=Lib.hid (show KeepsFrom V.heap.size X (W3.setCell ⟨B + 1,0,none⟩ (.slice p' (k + 1) c')) from ⟨Nat.le_trans hX3 (KeepsWalks.setCell W3 _ _).size,fun b o' h1 h2 h3 => by
    have hne : b ≠ B + 1:=by omega
    refine (Below.heap_setCell _ _ _ _ (by show b ≠ B + 1; exact hne)).trans ((hgrow.block b (by have:=(Array.getElem?_eq_some_iff.1 h2).1; simp; omega) (fun e => ?_)).trans ((Below.heap_alloc _ _ _ (Array.getElem?_eq_some_iff.1 h2).1).trans h2))
    obtain ⟨cs,ty,fr,hcs⟩:=own_isCells HROW.out b e.symm
    rw [h2] at hcs
    cases hcs
    cases h3⟩)
   clear hown' hgrow hkeep hbx3 hk4
   gi_wp2
   exact ⟨HKF.out,fun b h1 h2 h3 => HK4.out b (by omega) h3 (by omega),HGB.out,(HK4.out B (by omega) (by omega) (by omega)).trans HZZ.out,_,HB4.out,HR4.out⟩
  case don =>
   rintro D X hD ⟨hb,hz,lv,hbx,hrow⟩ hK
   rw [List.take_of_length_le (by rw [HN.out]; exact Nat.le_refl _)] at hrow
   obtain ⟨lp,lc,rfl⟩:=own_slY hrow
   have HQ:=Lib.hid (show OneW w X B D (.slice lp N lc) N L from ⟨hb,HB.out,by omega,hK,hz,hbx,hrow⟩)
   obtain ⟨g,rfl,hgB,hNc,hx0,hgX⟩:=own_atY hrow (k:=0) hLp (v:=tx (L.getD 0 [])) (by
    rw [List.getElem?_map,List.getD_eq_getElem?_getD,List.getElem?_eq_getElem (by rw [HN.out]; exact hLp)]; rfl)
   have hmem0 : L.getD 0 [] ∈ L:=by rw [List.getD_eq_getElem?_getD,List.getElem?_eq_getElem (by rw [HN.out]; exact hLp)]; exact List.getElem_mem _
   have h0l:=HLM.out _ hmem0
   have hO:=HO.out
   obtain ⟨L0,hL0⟩ : ∃ z,L.getD 0 [] = z:=⟨_,rfl⟩
   rw [hL0] at hx0 h0l hO
   obtain ⟨z,hz'⟩ : ∃ z,Tp.lower L0 = z:=⟨_,rfl⟩
   have hzl : z.length ≤ 100000:=by rw [← hz',lowY_len]; exact h0l
   have KL:=fun W => tok_lower ⟨L0.toArray⟩ W (by rw [ba_size]; omega)
   have KC:=fun W => str_CutB ⟨z.toArray⟩ 47 W (by rw [ba_size]; omega)
   simp only at KL KC
   rw [hz'] at KL hO
   have hcl:=Ap.cutB_len 47 z
   obtain ⟨ty,hty⟩ : ∃ y,(Ap.cutB 47 z).1 = y:=⟨_,rfl⟩
   obtain ⟨su,hsu⟩ : ∃ y,(Ap.cutB 47 z).2.1 = y:=⟨_,rfl⟩
   obtain ⟨fd,hfd⟩ : ∃ y,(Ap.cutB 47 z).2.2 = y:=⟨_,rfl⟩
   rw [hty,hsu,hfd] at KC hO
   rw [hty,hsu] at hcl
   have KK1:=fun W => tok_token ⟨ty.toArray⟩ W (by rw [ba_size]; omega)
   have KK2:=fun W => tok_token ⟨su.toArray⟩ W (by rw [ba_size]; omega)
   simp only at KK1 KK2
   unfold tx at hx0 KC
   obtain ⟨xb,hxb⟩ : ∃ y : ByteArray,(⟨L0.toArray⟩ : ByteArray) = y:=⟨_,rfl⟩
   obtain ⟨zb,hzb⟩ : ∃ y : ByteArray,(⟨z.toArray⟩ : ByteArray) = y:=⟨_,rfl⟩
   obtain ⟨tb,htb⟩ : ∃ y : ByteArray,(⟨ty.toArray⟩ : ByteArray) = y:=⟨_,rfl⟩
   obtain ⟨ub,hub⟩ : ∃ y : ByteArray,(⟨su.toArray⟩ : ByteArray) = y:=⟨_,rfl⟩
   rw [hxb] at hx0 KL
   rw [hzb] at KL KC
   rw [htb] at KC KK1
   rw [hub] at KC KK2
   obtain ⟨i1,hi1⟩ : ∃ y,Tp.isTok ty = y:=⟨_,rfl⟩
   obtain ⟨i2,hi2⟩ : ∃ y,Tp.isTok su = y:=⟨_,rfl⟩
   rw [hi1] at KK1 hO
   rw [hi2] at KK2 hO
   obtain ⟨bk,hbk⟩ : ∃ y,(ty == ([42] : List UInt8)) = y:=⟨_,rfl⟩
   obtain ⟨bs,hbs⟩ : ∃ y,(su == ([42] : List UInt8)) = y:=⟨_,rfl⟩
   have k1 : (tb.toList == ([42] : List UInt8)) = bk:=by rw [← htb,ba_list]; exact hbk
   have k1n : (tb.toList != ([42] : List UInt8)) = !bk:=by rw [← k1]; rfl
   have k2 : (ub.toList == ([42] : List UInt8)) = bs:=by rw [← hub,ba_list]; exact hbs
   have HOO:=Lib.hid (show o = if (fd && i1 && i2 && (!bk || bs)) = true then (Ap.takes (L.drop 1) (0,1000,false)).map fun st => (ty,su,st.1,st.2.1) else none by
    rw [hO]
    have e1 : ty = [42] ↔ bk = true:=by rw [← hbk]; simp
    have e2 : su = [42] ↔ bs = true:=by rw [← hbs]; simp
    simp only [e1,e2]
    cases fd <;> cases i1 <;> cases i2 <;> cases bk <;> cases bs <;> simp)
   have MU:=Lib.hid (fun W => ac_must 220 W)
   have MN:=Lib.hid (fun W => ac_must_no 220 W)
   have HKL:=Lib.hid KL
   have HKC:=Lib.hid KC
   have HK1:=Lib.hid KK1
   have HK2:=Lib.hid KK2
   have HTB:=Lib.hid htb
   have HUB:=Lib.hid hub
   have HX0:=Lib.hid hx0
   have HL0:=Lib.hid hL0
   have HGB:=Lib.hid hgB
   have HGX:=Lib.hid hgX
   have cl:=HQ.out.bx.cell
   have hN1 : 1 ≤ N:=hLp
   have hNI : (1 : Int) ≤ (N : Int):=by omega
   clear hb hz hbx hrow hK hmem0 h0l hO hL0 hz' hzl KL KC hcl hty hsu hfd KK1 KK2 hxb hzb htb hub hi1 hi2 hbk hbs hgB hgX
   refine wpAt_of (wpIn_wide.2 ?_)
   go_wp2_with fail
   refine (HKL.out _).mono ?_
   rintro e w1 ⟨rfl,hb1⟩
   have HQ1:=Lib.hid (HQ.out.next hb1)
   have HGX1:=Lib.hid (Nat.lt_of_lt_of_le HGX.out hb1.size)
   have HX01:=Lib.hid ((hb1.cell (p:=⟨g,0,none⟩) HGX.out).trans HX0.out)
   clear hb1 cl hx0
   go_wp2_with fail
   refine (HKC.out _).mono ?_
   rintro e w2 ⟨rfl,hb2⟩
   have HQ2:=Lib.hid (HQ1.out.next hb2)
   clear hb2
   go_upto_region 6 with (fail)
   go_cut [] from 27 (fun wx => (fd && i1 && i2 && (!bk || bs)) = true ∧ OneW w wx B D (.slice (some ⟨g,0,none⟩) N lc) N L)
   case first =>
    cases fd with
    | false =>
     have HE:=Lib.hid (show o = none by rw [HOO.out]; simp)
     go_wp2_with fail
     refine (MN.out _).mono ?_
     rintro e w9 ⟨rfl,hw⟩
     subst hw
     exact ⟨by simp,.inl ⟨_,_,rfl,run_takeDeferred HQ2.out.K,by rw [HE.out]; rfl,HQ2.out.shut⟩⟩
    | true =>
     go_wp2_with fail
     refine (HK1.out _).mono ?_
     rintro e w3 ⟨rfl,hb3⟩
     have HQ3:=Lib.hid (HQ2.out.next hb3)
     clear hb3
     cases i1 with
     | false =>
      have HE:=Lib.hid (show o = none by rw [HOO.out]; simp)
      go_wp2_with fail
      refine (MN.out _).mono ?_
      rintro e w9 ⟨rfl,hw⟩
      subst hw
      exact ⟨by simp,.inl ⟨_,_,rfl,run_takeDeferred HQ3.out.K,by rw [HE.out]; rfl,HQ3.out.shut⟩⟩
     | true =>
      go_wp2_with fail
      refine (HK2.out _).mono ?_
      rintro e w4 ⟨rfl,hb4⟩
      have HQ4:=Lib.hid (HQ3.out.next hb4)
      clear hb4
      cases i2 with
      | false =>
       have HE:=Lib.hid (show o = none by rw [HOO.out]; simp)
       go_wp2_with fail
       refine (MN.out _).mono ?_
       rintro e w9 ⟨rfl,hw⟩
       subst hw
       exact ⟨by simp,.inl ⟨_,_,rfl,run_takeDeferred HQ4.out.K,by rw [HE.out]; rfl,HQ4.out.shut⟩⟩
      | true =>
       cases bk with
       | false =>
        go_wp2_with fail
        refine (MU.out _).mono ?_
        rintro e w9 ⟨rfl,hw⟩
        subst hw
        go_wp2_with fail
        go_meet
        exact ⟨rfl,HQ4.out⟩
       | true =>
        cases bs with
        | false =>
         have HE:=Lib.hid (show o = none by rw [HOO.out]; simp)
         go_wp2_with fail
         refine (MN.out _).mono ?_
         rintro e w9 ⟨rfl,hw⟩
         subst hw
         exact ⟨by simp,.inl ⟨_,_,rfl,run_takeDeferred HQ4.out.K,by rw [HE.out]; rfl,HQ4.out.shut⟩⟩
        | true =>
         go_wp2_with fail
         refine (MU.out _).mono ?_
         rintro e w9 ⟨rfl,hw⟩
         subst hw
         go_wp2_with fail
         go_meet
         exact ⟨rfl,HQ4.out⟩
   case rest =>
    obtain ⟨hok,hq⟩:=hcut
    obtain ⟨wd,rfl⟩ : ∃ y,y = wc:=⟨_,rfl⟩
    have HQD:=Lib.hid hq
    rw [hok] at HOO
    have HE:=Lib.hid (show o = (Ap.takes (L.drop 1) (0,1000,false)).map fun st => (ty,su,st.1,st.2.1) by rw [HOO.out,if_pos rfl])
    obtain ⟨R,hR⟩ : ∃ y,wd.heap.size = y:=⟨_,rfl⟩
    obtain ⟨we,hwe⟩ : ∃ y,wd.alloc (.cells #[.string tb,.string ub,.int .i64 0,.int .i64 1000,.bool false] 226) = y:=⟨_,rfl⟩
    have hbe : Below wd.heap.size wd we:=by rw [← hwe]; exact (Below.refl _ _).alloc (Nat.le_refl _) _
    have hqe:=hq.next hbe
    have hre : we.heap[R]? = some (rdC tb ub 0 1000 false):=by rw [← hwe,← hR]; exact World.alloc_heap_new _ _
    have cl:=hqe.bx.cell
    have hrow:=hqe.row
    obtain ⟨p1,hslc,hp1,hp2⟩ : ∃ p1 : Option Addr,(∀ W,(Instr.slice 33 (.slice (some ⟨g,0,none⟩) N lc) (some (.int .i64 1)) none none).run Tryz.prog W = .ok (.slice p1 (N - 1) (lc - 1)) W) ∧ (lc ≠ 1 → p1 = some ⟨g,1,none⟩) ∧ (lc = 1 → N = 1):=by
     have hc1 : Tryz.prog.cellsOf 9 = 1:=by kernel_rfl
     by_cases hlc : lc = 1
     ·refine ⟨some ⟨g,0,none⟩,fun W => ?_,fun h => absurd hlc h,fun _ => by omega⟩
      subst hlc
      simp [go_sem,Tryz.underlying33,hNI,hc1]
     ·refine ⟨some ⟨g,1,none⟩,fun W => ?_,fun _ => rfl,fun h => absurd h hlc⟩
      simp [go_sem,Tryz.underlying33,hNI,hc1,hlc]
    have hsrow : SRow we (.slice p1 (N - 1) (lc - 1)) (L.drop 1):=by
     refine ⟨p1,lc - 1,by rw [List.length_drop,HN.out],fun j hj => ?_⟩
     rw [List.length_drop,HN.out] at hj
     refine ⟨g,1,hp1 (fun h => by have:=hp2 h; omega),?_⟩
     obtain ⟨g2,hg2,_,_,hcell,_⟩:=own_atY hrow (k:=1 + j) (by omega) (v:=tx (L.getD (1 + j) [])) (by
      rw [List.getElem?_map,List.getD_eq_getElem?_getD,List.getElem?_eq_getElem (by rw [HN.out]; omega)]; rfl)
     cases hg2
     rw [hcell]
     congr 2
     rw [List.getD_eq_getElem?_getD,List.getD_eq_getElem?_getD,List.getElem?_drop]
    have hgR : g < R:=by rw [← hR]; exact (own_atY hq.row (k:=0) hLp (v:=tx (L.getD 0 [])) (by
     rw [List.getElem?_map,List.getD_eq_getElem?_getD,List.getElem?_eq_getElem (by rw [HN.out]; exact hLp)]; rfl)).elim (fun g2 h => by cases h.1; exact h.2.2.2.2)
    have KT:=ac_takes R (.slice p1 (N - 1) (lc - 1)) (L.drop 1) tb ub (0,1000,false) we hsrow (fun j hj g' o' c' hv => by
     rw [List.length_drop,HN.out] at hj
     have h1:=hp1 (fun h => by have:=hp2 h; omega)
     rw [h1] at hv
     simp only [Value.slice.injEq,Option.some.injEq,Addr.mk.injEq] at hv
     obtain ⟨⟨rfl,_⟩,_⟩:=hv; exact hgR) (by rw [List.length_drop,HN.out]; omega) (fun p hp => HLM.out p (List.mem_of_mem_drop hp)) hre (by decide)
    have HKT:=Lib.hid KT
    have HQE:=Lib.hid hqe
    have HWE:=Lib.hid hwe
    have HR:=Lib.hid hR
    have HRL:=Lib.hid (show R < we.heap.size from (Array.getElem?_eq_some_iff.1 hre).1)
    have HBR:=Lib.hid (show B + 1 < R by rw [← hR]; exact hq.bx.lt)
    clear hq hok HOO hbe hqe hre hrow hsrow hgR KT hwe hR hp1 hp2
    go_upto_region 8 with (fail)
    rw [HWE.out,HR.out]
    go_wp2_with (simp only [hslc])
    refine HKT.out.mono ?_
    rintro e wf ⟨hbf,hout⟩
    have hqf : OneW w wf B D (.slice (some ⟨g,0,none⟩) N lc) N L:=by
     have hlow : ∀ b,b < R → wf.heap[b]? = we.heap[b]?:=fun b hb => hbf.block b hb
     have hq:=HQE.out
     have hq0:=HQD.out
     have hRs:=HR.out
     exact ⟨hq.hb.trans (hbf.mono (by rw [← hRs]; exact hq0.hb.size)),hq.hB,hq.hD,(hlow D (by rw [← hRs]; exact (Array.getElem?_eq_some_iff.1 hq0.K).1)).trans hq.K,(hlow B (Nat.lt_of_succ_lt HBR.out)).trans hq.Z,(hlow (B + 1) HBR.out).trans hq.bx,
      (show wf.ownsRow (B + 9) 9 1 (.slice (some ⟨g,0,none⟩) N lc) N (L.map tx) from own_keep2 hq.row (fun g2 hg2 => (hlow g2 (by
       have h2:=hq0.row.lt g2 hg2
       rw [← hRs]; exact h2.2))))⟩
    have HQF:=Lib.hid hqf
    clear hbf hqf cl hslc
    rcases hout with ⟨⟨pa,q,sn⟩,hst,rfl,hrf⟩ | ⟨hst,rfl⟩
    ·have HF:=Lib.hid (show o = some (ty,su,pa,q) by rw [HE.out,hst]; rfl)
     obtain ⟨c0,c1,c2,c3,c4,_⟩:=rd_cell hrf
     have hz:=HQF.out.Z
     have z0 : wf.frozen? ⟨B,0,none⟩ = false:=frozen_of_row _ _ _ _ _ hz
     have z1 : wf.frozen? ⟨B,1,none⟩ = false:=frozen_of_row _ _ _ _ _ hz
     have z2 : wf.frozen? ⟨B,2,none⟩ = false:=frozen_of_row _ _ _ _ _ hz
     have z3 : wf.frozen? ⟨B,3,none⟩ = false:=frozen_of_row _ _ _ _ _ hz
     have e0 : wf.cell? ⟨B,0,none⟩ = some (.string ⟨#[]⟩):=by simp [World.cell?,hz]
     have e1 : wf.cell? ⟨B,1,none⟩ = some (.string ⟨#[]⟩):=by simp [World.cell?,hz]
     have e2 : wf.cell? ⟨B,2,none⟩ = some (.int .i64 0):=by simp [World.cell?,hz]
     have e3 : wf.cell? ⟨B,3,none⟩ = some (.int .i64 0):=by simp [World.cell?,hz]
     dsimp only at c0 c1 c2 c3 c4
     clear hst hrf hz
     go_wp2_with fail
     have hwfB:=(Array.getElem?_eq_some_iff.1 HQF.out.Z).1
     have hDB : D ≠ B:=by have:=HQF.out.hD; omega
     refine ⟨by simp,.inl ⟨_,_,rfl,run_takeDeferred ((Below.heap_setCell _ _ _ _ hDB).trans ((Below.heap_setCell _ _ _ _ hDB).trans ((Below.heap_setCell _ _ _ _ hDB).trans ((Below.heap_setCell _ _ _ _ hDB).trans HQF.out.K)))),?_⟩⟩
     have f4 : ((((wf.setCell ⟨B,0,none⟩ (.string tb)).setCell ⟨B,1,none⟩ (.string ub)).setCell ⟨B,2,none⟩ (.int .i64 pa)).setCell ⟨B,3,none⟩ (.int .i64 q)).heap[B]? = some (.cells #[.string tb,.string ub,.int .i64 pa,.int .i64 q] 152 (0,0)):=by
      have a1 : (wf.setCell ⟨B,0,none⟩ (.string tb)).heap[B]? = some (.cells #[.string tb,.string ⟨#[]⟩,.int .i64 0,.int .i64 0] 152 (0,0)):=(heap_setCell_same wf B 0 _ _ _ HQF.out.Z).trans (by simp)
      have a2 : ((wf.setCell ⟨B,0,none⟩ (.string tb)).setCell ⟨B,1,none⟩ (.string ub)).heap[B]? = some (.cells #[.string tb,.string ub,.int .i64 0,.int .i64 0] 152 (0,0)):=(heap_setCell_same _ B 1 _ _ _ a1).trans (by simp)
      have a3 : (((wf.setCell ⟨B,0,none⟩ (.string tb)).setCell ⟨B,1,none⟩ (.string ub)).setCell ⟨B,2,none⟩ (.int .i64 pa)).heap[B]? = some (.cells #[.string tb,.string ub,.int .i64 pa,.int .i64 0] 152 (0,0)):=(heap_setCell_same _ B 2 _ _ _ a2).trans (by simp)
      exact (heap_setCell_same _ B 3 _ _ _ a3).trans (by simp)
     have K4 : ((((wf.setCell ⟨B,0,none⟩ (.string tb)).setCell ⟨B,1,none⟩ (.string ub)).setCell ⟨B,2,none⟩ (.int .i64 pa)).setCell ⟨B,3,none⟩ (.int .i64 q)).heap[D]? = some (.deferred (some [])):=((Below.heap_setCell _ _ _ _ hDB).trans ((Below.heap_setCell _ _ _ _ hDB).trans ((Below.heap_setCell _ _ _ _ hDB).trans ((Below.heap_setCell _ _ _ _ hDB).trans HQF.out.K))))
     have B4 : Below B w ((((wf.setCell ⟨B,0,none⟩ (.string tb)).setCell ⟨B,1,none⟩ (.string ub)).setCell ⟨B,2,none⟩ (.int .i64 pa)).setCell ⟨B,3,none⟩ (.int .i64 q)):=by
      have h:=HQF.out.hb
      rw [HB.out] at h
      exact (((h.setCell (p:=⟨B,0,none⟩) (Nat.le_refl _) _).setCell (p:=⟨B,1,none⟩) (Nat.le_refl _) _).setCell (p:=⟨B,2,none⟩) (Nat.le_refl _) _).setCell (p:=⟨B,3,none⟩) (Nat.le_refl _) _
     obtain ⟨W4,hW4⟩ : ∃ y,(((wf.setCell ⟨B,0,none⟩ (.string tb)).setCell ⟨B,1,none⟩ (.string ub)).setCell ⟨B,2,none⟩ (.int .i64 pa)).setCell ⟨B,3,none⟩ (.int .i64 q) = y:=⟨_,rfl⟩
     rw [hW4] at f4 K4 B4 ⊢
     have f5 : (W4.putObj D (.deferred none)).heap[B]? = some (.cells #[.string tb,.string ub,.int .i64 pa,.int .i64 q] 152 (0,0)):=(World.putObj_heap_other (by omega)).trans f4
     have c0 : (W4.putObj D (.deferred none)).cell? ⟨B,0,none⟩ = some (.string tb):=by simp [World.cell?,f5]
     have c1 : (W4.putObj D (.deferred none)).cell? ⟨B,1,none⟩ = some (.string ub):=by simp [World.cell?,f5]
     have c2 : (W4.putObj D (.deferred none)).cell? ⟨B,2,none⟩ = some (.int .i64 pa):=by simp [World.cell?,f5]
     have c3 : (W4.putObj D (.deferred none)).cell? ⟨B,3,none⟩ = some (.int .i64 q):=by simp [World.cell?,f5]
     have B5 : Below B w (W4.putObj D (.deferred none)):=B4.trans (belowK_b (w:=w) (Nat.le_of_eq HB.out.symm) _ D _ _ (by have:=HQF.out.hD; have:=HB.out; omega) K4 rfl rfl)
     refine ⟨_,(by simp [results,Tryz.results192,go_sem,c0,c1,c2,c3]; rfl),?_,B5⟩
     rw [HF.out]
     show _ = Ending.returned (.agg #[tx ty,tx su,.int .i64 (pa : Int),.int .i64 q])
     unfold tx
     rw [HTB.out,HUB.out]
    ·have HF:=Lib.hid (show o = none by rw [HE.out,hst]; rfl)
     exact ⟨by simp,.inl ⟨_,_,rfl,run_takeDeferred HQF.out.K,by rw [HF.out]; rfl,HQF.out.shut⟩⟩
end Go.Proofs.YtfacmnooklljnaaGreatDoor
namespace Go.Proofs.YtfacmnooklljnaaGreatDoor
open Go.RowKit Go.Shelf
attribute [local go_sem] Oper.semAt_some
set_option maxHeartbeats 8000000
set_option maxRecDepth 100000
def raC (r : Ap.Ra) : List Value:=[tx r.1,tx r.2.1,.int .i64 (r.2.2.1 : Int),.int .i64 r.2.2.2]
def raCs (l : List Ap.Ra) : List Value:=l.flatMap raC
theorem raCs_snoc (l : List Ap.Ra) (r : Ap.Ra) : raCs (l ++ [r]) = raCs l ++ raC r:=by simp [raCs]
def RdO (o : Option (List Ap.Ra)) (b : Nat) (e : Ending) (w' : World) : Prop:=match o with
 | some l => ∃ v,e = .returned (.tuple #[v,.int .i64 0]) ∧ w'.ownsRow b 152 4 v l.length (raCs l)
 | none => ∃ v,e = .returned (.tuple #[v,.int .i64 220])
structure RdW (w X : World) (B S : Nat) (lv : Value) (acc : List Ap.Ra) : Prop where
 hb : Below w.heap.size w X
 z : Boxed X (B + 1) 26 (.int .i64 0)
 bx : Boxed X B 147 lv
 row : X.ownsRow (S + 7) 152 4 lv acc.length (raCs acc)
structure PuR (w0 : World) (V B S n : Nat) (V0 : Value) (xs : List Value) (f : Nat → Bool) (w : World) : Prop where
 bel : Below (S + 7) w0 w
 kf : KeepsFrom V w0 w
 an : w.heap[B]? = some (.cells #[V0] 147 (0,0))
 own : f 4 = false → w.ownsRow (S + 7) 152 4 V0 n xs
 n0 : f 0 = false → f 4 = false
 n3 : f 3 = false → f 4 = false
theorem PuR.step {w0 w w' : World} {V B S n : Nat} {V0 : Value} {xs : List Value} {f : Nat → Bool} {i : Nat} (h : PuR w0 V B S n V0 xs f w) (hB : S + 7 ≤ w.heap.size) (k : Below w.heap.size w w') (h1 : i ≠ 4) : PuR w0 V B S n V0 xs (fun j => if j = i then true else f j) w':=by
 refine ⟨h.bel.trans (k.mono hB),h.kf.trans ⟨k.size,fun b o _ hb _ => (k.block b (Array.getElem?_eq_some_iff.1 hb).1).trans hb⟩,(k.block _ (Array.getElem?_eq_some_iff.1 h.an).1).trans h.an,fun h3 => own_belY (h.own (by simpa [Ne.symm h1] using h3)) k,fun h3 => ?_,fun h3 => ?_⟩
 ·have : f 0 = false:=by by_cases e : 0 = i <;> simp_all
  simpa [Ne.symm h1] using h.n0 this
 ·have : f 3 = false:=by by_cases e : 3 = i <;> simp_all
  simpa [Ne.symm h1] using h.n3 this
def puQ (S n : Nat) (p : ByteArray) (o : Option Ap.Ra) (r : Ap.Ra) (V1 : Value) (xs : List Value) : Nat → World → Value → Prop
 | 0,_,v => v = V1
 | 1,_,v => v = .string p
 | 2,_,v => v = raV r ∧ o = some r
 | 3,w,v => o = some r ∧ ∃ g,v = .slice (some ⟨g,0,none⟩) 1 1 ∧ w.heap[g]? = some (.cells (raC r).toArray 152 (0,0)) ∧ some g ≠ V1.ownBlock
 | 4,w,v => o = some r ∧ w.ownsRow (S + 7) 152 4 v (n + 1) (xs ++ raC r)
 | _,_,_ => False
theorem puQ_below {S n : Nat} {p : ByteArray} {o : Option Ap.Ra} {r : Ap.Ra} {V1 : Value} {xs : List Value} {w w' : World} (hb : Below w.heap.size w w') {j : Nat} {v : Value} (h : puQ S n p o r V1 xs j w v) : puQ S n p o r V1 xs j w' v:=by
 match j,h with
 | 0,h | 1,h | 2,h => exact h
 | 3,⟨ho,g,h1,h2,h3⟩ => exact ⟨ho,g,h1,(hb.block g (Array.getElem?_eq_some_iff.1 h2).1).trans h2,h3⟩
 | 4,⟨ho,h⟩ => exact ⟨ho,own_belY h hb⟩
 | n + 5,h => exact h.elim
theorem rg_callQ {P : Program} {o : Oper} {a : Act} {w : World} {K : Act → World → Prop} {Q : Exit → Act → World → Prop} (t k : Nat) (ty : Array TypeId) (v : Value) (R : Ending → World → Prop) (ho : o.op = Op.call { callee:=.value (.func k),args:=#[.tmp t],argTypes:=ty }) (hv : a.tmps.getD t undef = v)
  (eg : ∀ args w,(callFunc k args).run P w = .ok (.enter k args) w) (hc : Calls P k #[v] w R) (hR : ∀ e w',R e w' → (∃ r,e = .returned r ∧ K (a.put o.dst r) w') ∨ ∃ ch,e = .panicked ch ∧ Q (.panic ch) a w') : o.wp P a w K Q:=by
 have e:=rg_ev hv
 have e2 : a.eval (.func k) = .func (.func k) #[] #[]:=rfl
 unfold Oper.wp execOp
 simp [ho,resolve,invoke,e2,e,eg,go_sem]
 refine hc.mono ?_
 intro z w' hz
 rcases hR z w' hz with ⟨r,rfl,hk⟩ | ⟨ch,rfl,hk⟩
 ·exact hk
 ·exact hk
theorem rd_no {fn : Func} {w W : World} {B : Nat} {lv : Value} {tm : Array Value} (hb : Below w.heap.size w W) (hB : w.heap.size = B) (hx : Boxed W B 147 lv) (hz : Boxed W (B + 1) 26 (.int .i64 0)) (R : Ending → World → Prop)
  (hr : ∀ w',w'.cell? ⟨B,0,none⟩ = some lv → w'.cell? ⟨B + 1,0,none⟩ = some (.int .i64 220) → Below w.heap.size w w' → LeavesInM Fence.wide 9 Tryz.prog fn tm R [] .returning w') :
  LeavesInM Fence.wide 9 Tryz.prog fn tm R [{ target:=.fn (.func 189) #[],args:=#[.pointer (some ⟨B + 1,0,none⟩)] }] (.panicking [{ v:=errno 220,recovered:=false }]) W:=by
 refine ⟨by simp,.inr ⟨fun _ => by decide,_,_,189,#[.pointer (some ⟨B + 1,0,none⟩)],rfl,by simp [invoke,go_sem,enters_of Tryz.func189 (by kernel_rfl) rfl],fun _ _ => trivial,?_⟩⟩
 refine (ac_caught _ ⟨B + 1,0,none⟩ 220 [] W _ hz.cell hz.frozen).mono ?_
 rintro e u' w' ⟨rfl,rfl,rfl⟩
 refine hr _ ?_ ?_ ?_
 ·exact (hx.other (by omega) _).cell
 ·exact (Boxed.set (v:=.int .i64 0) _ hz).cell
 ·exact hb.setCell (p:=⟨B + 1,0,none⟩) (by show w.heap.size ≤ B + 1; omega) _
theorem rd_yes {fn : Func} {W : World} {p : Addr} {tm : Array Value} {R : Ending → World → Prop} (h : LeavesInM Fence.wide 9 Tryz.prog fn tm R [] .returning W) :
  LeavesInM Fence.wide 9 Tryz.prog fn tm R [{ target:=.fn (.func 189) #[],args:=#[.pointer (some p)] }] .returning W:=by
 refine ⟨by simp,.inr ⟨fun _ => by decide,_,_,189,#[.pointer (some p)],rfl,by simp [invoke,go_sem,enters_of Tryz.func189 (by kernel_rfl) rfl],fun _ _ => trivial,?_⟩⟩
 refine (ac_caught_idle _ p W).mono ?_
 rintro e u' w' ⟨rfl,rfl,rfl⟩
 exact h
theorem ac_read (s : ByteArray) (w : World) (hs : s.size ≤ 100000) :
  Calls Tryz.prog 181 #[.string s] w fun e w' => Below w.heap.size w w' ∧ RdO (Ap.parse s.data.toList) w.heap.size e w':=by
 obtain ⟨L,hL⟩ : ∃ z,Ap.all s.data.toList 44 = z:=⟨_,rfl⟩
 have hsl : s.data.toList.length = s.size:=rfl
 have hLl:=Ap.all_len s.data.toList 44
 have hLm : ∀ p ∈ L,p.length ≤ 100000:=fun p hp => by rw [← hL] at hp; have:=Ap.all_mem hp; omega
 rw [hL] at hLl
 obtain ⟨o,ho⟩ : ∃ o,Ap.parse s.data.toList = o:=⟨_,rfl⟩
 rw [ho]
 have hpar : o = if Tp.isVal s.data.toList = true then Ap.rd L [] else none:=by rw [← ho]; unfold Ap.parse; rw [hL]
 obtain ⟨N,hN⟩ : ∃ z,L.length = z:=⟨_,rfl⟩
 rw [hN] at hLl
 have hNb : N ≤ 100001:=by omega
 obtain ⟨B,hB⟩ : ∃ z,w.heap.size = z:=⟨_,rfl⟩
 obtain ⟨W2,hW2⟩ : ∃ z,(w.alloc (.cells #[.slice none 0 0] 147)).alloc (.cells #[.int .i64 0] 26) = z:=⟨_,rfl⟩
 have hs2 : W2.heap.size = B + 2:=by rw [← hW2]; simp [hB]
 have hb2 : Below w.heap.size w W2:=by rw [← hW2]; exact ((Below.refl _ _).alloc (Nat.le_refl _) _).alloc (by simp) _
 have hX2 : Boxed W2 B 147 (.slice none 0 0):=by
  rw [← hW2,← hB]; exact (Boxed.new _ _ _).alloc _
 have hZ2 : Boxed W2 (B + 1) 26 (.int .i64 0):=by
  rw [← hW2]
  have h:=Boxed.new (w.alloc (.cells #[.slice none 0 0] 147)) 26 (.int .i64 0)
  simpa [hB] using h
 have HW2:=Lib.hid hW2
 have HB:=Lib.hid hB
 have HS2:=Lib.hid hs2
 have HB2:=Lib.hid hb2
 have HX2:=Lib.hid hX2
 have HZ2:=Lib.hid hZ2
 have KV:=Lib.hid (fun W => tok_value s W (by omega))
 have MU:=Lib.hid (fun W => ac_must 220 W)
 have MN:=Lib.hid (fun W => ac_must_no 220 W)
 obtain ⟨iv,hiv⟩ : ∃ y,Tp.isVal s.data.toList = y:=⟨_,rfl⟩
 rw [hiv] at KV hpar
 have HO:=Lib.hid hpar
 have HL:=Lib.hid hL
 have HN:=Lib.hid hN
 have HLM:=Lib.hid hLm
 clear hL hLm hN ho hpar hW2 hB hs2 hb2 hX2 hZ2 hLl hiv
 refine callsIn_wide.1 (callsIn_of_wpAt_marks (n:=9) Tryz.func181 rfl trivial ?_ rfl)
 simp only [Tryz.ntmps181,List.size_toArray,List.length_cons,List.length_nil,Nat.reduceAdd,Nat.reduceSub,Array.replicate_succ,Array.replicate_zero,List.push_toArray,List.append_toArray,List.nil_append,List.cons_append]
 refine wpAt_seq (wpAt_of (wpIn_wide.2 ?_))
 go_wp2_with fail
 rw [HW2.out,HB.out]
 refine wpAt_seq (wpAt_of (wpIn_wide.2 ?_))
 go_wp2_with fail
 refine wpAt_seq (wpAt_of (wpIn_wide.2 ?_))
 go_wp2_with fail
 refine (KV.out _).mono ?_
 rintro e w3 ⟨rfl,hb3⟩
 have HB3:=Lib.hid (HB2.out.trans (hb3.mono HB2.out.size))
 have HX3:=Lib.hid (boxed_below HX2.out hb3)
 have HZ3:=Lib.hid (boxed_below HZ2.out hb3)
 have HG3:=Lib.hid (show B + 2 ≤ w3.heap.size by rw [← HS2.out]; exact hb3.size)
 clear hb3
 cases iv with
 | false =>
  have HE:=Lib.hid (show o = none by rw [HO.out]; simp)
  go_wp2_with fail
  refine (MN.out _).mono ?_
  rintro e w9 ⟨rfl,hw⟩
  subst hw
  refine rd_no HB3.out HB.out HX3.out HZ3.out _ (fun w' c0 c1 hb => ⟨_,by simp [results,Tryz.results181,go_sem,c0,c1]; rfl,?_⟩)
  rw [HE.out]
  exact ⟨HB.out ▸ hb,_,rfl⟩
 | true =>
  have HE:=Lib.hid (show o = Ap.rd L [] by rw [HO.out]; simp)
  clear HO
  go_wp2_with fail
  refine (MU.out _).mono ?_
  rintro e w9 ⟨rfl,hw⟩
  subst hw
  obtain ⟨S,hS⟩ : ∃ z,w9.heap.size = z:=⟨_,rfl⟩
  obtain ⟨V,hV⟩ : ∃ z,(w9.alloc (.cells #[.string s] 9)).alloc (.cells #[.int .u8 44] 5) = z:=⟨_,rfl⟩
  have hsV : V.heap.size = S + 2:=by rw [← hV]; simp [hS]
  have hb24 : Below w9.heap.size w9 V:=by rw [← hV]; exact ((Below.refl _ _).alloc (Nat.le_refl _) _).alloc (by simp) _
  have hbS : Boxed V S 9 (.string s):=by rw [← hV,← hS]; exact (Boxed.new _ _ _).alloc _
  have hbC : Boxed V (S + 1) 5 (.int .u8 44):=by
   have h:=Boxed.new (w9.alloc (.cells #[.string s] 9)) 5 (.int .u8 44)
   rw [hV] at h
   simpa [hS] using h
  have TE:=Lib.hid (fun X => tk_Each s 44 X)
  obtain ⟨t,ht⟩ : ∃ t : Nat → ByteArray,∀ k,tx (L.getD k []) = .string (t k):=⟨fun k => ⟨(L.getD k []).toArray⟩,fun k => rfl⟩
  obtain ⟨i0,hi,hz0,hz1,hz2'⟩:=info_parts (show (Tryz.prog.info? 152).map (fun i => (i.zero,i.size,i.bytes)) = some (some (.agg #[.string ByteArray.empty,.string ByteArray.empty,.int .i64 0,.int .i64 0]),4,48) by kernel_rfl)
  have hz2:=hz2'
  have HS:=Lib.hid hS
  have HV:=Lib.hid hV
  have HBV:=Lib.hid (HB3.out.trans (hb24.mono HB3.out.size))
  have HXV:=Lib.hid (boxed_below HX3.out hb24)
  have HZV:=Lib.hid (boxed_below HZ3.out hb24)
  have HBS:=Lib.hid hbS
  have HBC:=Lib.hid hbC
  have HT:=Lib.hid ht
  have HSB:=Lib.hid (show B + 2 ≤ S by rw [← hS]; exact HG3.out)
  clear hS hV hb24 hbS hbC hz2' ht
  go_wp2_with fail
  refine wpAt_seq (wpAt_seq (wpAt_of (wpIn_wide.2 ?_)))
  go_wp2_with fail
  refine (TE.out _).mono ?_
  rintro e w' ⟨rfl,rfl⟩
  rw [HV.out,HS.out]
  go_wp2_with fail
  refine wpAt_block ?_
  refine rp_outerE (N:=N) (M:=S + 7) (own:=fun b => b = S + 5) (Kp:=KE3 (S + 4)) (encs:=fun k => #[.int .i64 k,.string (t k)]) (n:=9) trivial rfl ⟨_,rfl⟩ (by omega) (gf:=197) (lb:=#[.pointer (some ⟨S,0,none⟩),.pointer (some ⟨S + 1,0,none⟩)]) rfl trivial (enters_of Tryz.func197 (by kernel_rfl) rfl)
   (fun _ => rfl) (fun b hb => by subst hb; omega)
   (fun X hX hs => by
    have h:=eachP_it S (S + 1) (S + 4) 44 s.data.toList (by decide) (by omega) (KE3 (S + 4)) X (by omega) (fun _ _ h => h) ((hX.block _ (by omega)).trans HBS.out) ((hX.block _ (by omega)).trans HBC.out)
    rw [HL.out] at h
    simp only [HT.out,HN.out] at h
    exact h.anyP _)
   KE3.trans (fun X o o' h2 h3 b h4 h5 h6 => World.putObj_heap_other (by omega))
   (fun k X => ∃ acc lv,RdW w X B S lv acc ∧ Ap.rd L [] = Ap.rd (L.drop k) acc ∧ acc.length ≤ k) (fun c X => False) (fun ch X => ch = [{ v:=errno 220,recovered:=false }] ∧ Ap.rd L [] = none ∧ Below w.heap.size w X ∧ Boxed X (B + 1) 26 (.int .i64 0) ∧ ∃ lv,Boxed X B 147 lv)
   (fun k X Y hs ht => by
    obtain ⟨acc,lv,⟨h1,h2,h3,h4⟩,h5,h6⟩:=hs
    have:=HB.out
    have:=HSB.out
    exact ⟨acc,lv,⟨h1.trans (ht.below (by omega) h1.size (fun b hb => by omega)),ht.boxed h2 (by omega),ht.boxed h3 (by omega),own_turnY h4 ht (fun b hb => by omega)⟩,h5,h6⟩)
   (fun c X Y hs ht => hs)
   (fun c X Y hs ht => by
    obtain ⟨h0,h1,h2,h3,lv,h4⟩:=hs
    have:=HB.out
    have:=HSB.out
    exact ⟨h0,h1,h2.trans (ht.below (by omega) h2.size (fun b hb => by omega)),ht.boxed h3 (by omega),lv,ht.boxed h4 (by omega)⟩)
   ⟨[],_,⟨HBV.out,HZV.out,HXV.out,World.ownsRow_nil _ _ _ _⟩,rfl,Nat.le_refl _⟩ ?E
  case E =>
   apply Exists.intro
   refine ⟨?asg,?bod,?don,?stp,?pan⟩
   case stp => exact fun D c X hD hf => hf.elim
   case pan =>
    rintro D ch X hD ⟨rfl,hn,hb,hz,lv,hx⟩ hK
    refine ⟨by simp,.inl ⟨_,_,rfl,run_takeDeferred hK,?_⟩⟩
    have hBD : B + 1 < D:=by have:=HSB.out; omega
    have hbD : Below B w (X.putObj D (.deferred none)):=by
     have h:=hb
     rw [HB.out] at h
     exact h.trans (belowK_b (w:=w) (Nat.le_of_eq HB.out.symm) _ D _ _ (by have:=HB.out; omega) hK rfl rfl)
    refine rd_no (lv:=lv) (HB.out.symm ▸ hbD) HB.out ((World.putObj_heap_other (by omega)).trans hx) ((World.putObj_heap_other (by omega)).trans hz) _ (fun w' c0 c1 hb => ⟨_,by simp [results,Tryz.results181,go_sem,c0,c1]; rfl,?_⟩)
    rw [HE.out,hn]
    exact ⟨HB.out ▸ hb,_,rfl⟩
   case asg =>
    intro l' k X K hk hi hM hK
    have HKK:=Lib.hid hK
    clear hK hk
    gi_wp2
    exact HKK.out _ (KeepsFrom.refl _ _) (KE3.refl _ _) hi
   case bod =>
    rintro l' k X hl' ⟨rl,hrl⟩ hk ⟨acc,lv,hq,hrd,hal⟩ hM
    have htk : (⟨(L.getD k []).toArray⟩ : ByteArray) = t k:=by
     have h:=HT.out k
     unfold tx at h
     exact Value.string.inj h
    have htl : (t k).toList = L.getD k []:=by rw [← htk,ba_list]
    have hdr : L.drop k = L.getD k [] :: L.drop (k + 1):=by
     rw [List.drop_eq_getElem_cons (by rw [HN.out]; exact hk),List.getD_eq_getElem?_getD,List.getElem?_eq_getElem (by rw [HN.out]; exact hk)]; rfl
    have hmem : L.getD k [] ∈ L:=by rw [List.getD_eq_getElem?_getD,List.getElem?_eq_getElem (by rw [HN.out]; exact hk)]; exact List.getElem_mem _
    have hpl:=HLM.out _ hmem
    rw [hdr] at hrd
    obtain ⟨pl,hpl'⟩ : ∃ y,L.getD k [] = y:=⟨_,rfl⟩
    obtain ⟨pb,hpb⟩ : ∃ y,t k = y:=⟨_,rfl⟩
    rw [hpl'] at htk htl hrd hpl
    rw [hpb] at htk htl ⊢
    have HRD:=Lib.hid hrd
    have HQ:=Lib.hid hq
    have HM:=Lib.hid hM
    have hkb : k ≤ 100001:=by omega
    by_cases hemp : pl = []
    ·have he : (pb.toList == ([] : List UInt8)) = true:=by rw [htl,hemp]; rfl
     have hen : (pb.toList != ([] : List UInt8)) = false:=by rw [htl,hemp]; rfl
     have HEM:=Lib.hid hemp
     clear hrd hmem hdr htk htl hpl hpl' hpb hq hM hrl hk hemp
     gi_wp2
     exact ⟨KeepsFrom.refl _ _,KE3.refl _ _,acc,lv,HQ.out,by rw [HRD.out]; simp [Ap.rd,HEM.out],by omega⟩
    ·have he : (pb.toList == ([] : List UInt8)) = false:=by rw [htl]; simpa using hemp
     have hen : (pb.toList != ([] : List UInt8)) = true:=by rw [htl]; simpa using hemp
     obtain ⟨oo,hoo⟩ : ∃ y,Ap.one pl = y:=⟨_,rfl⟩
     obtain ⟨r,hr⟩ : ∃ r,∀ x,oo = some x → x = r:=⟨oo.getD ([],[],0,0),fun x h => by rw [h]; rfl⟩
     have KO:=Lib.hid (fun W => by
      have h:=ac_one pb W (by rw [← htk,ba_size]; exact hpl)
      rw [show pb.data.toList = pl by rw [← htk],hoo] at h
      exact h)
     have HR2:=Lib.hid (show Ap.rd L [] = oo.bind fun r => Ap.rd (L.drop (k + 1)) (acc ++ [r]) by
      rw [hrd,← hoo]; simp [Ap.rd,hemp])
     have HRR:=Lib.hid hr
     clear hrd hmem hdr htk htl hpl hpl' hpb hq hM hrl hk hemp hoo hr
     gi_wp2_with fail
     obtain ⟨hb,hz,hx,hrow⟩:=HQ.out
     have hBS:=HSB.out
     have HB0:=Lib.hid hb
     have HZ0:=Lib.hid hz
     have HX0:=Lib.hid hx
     have HROW:=Lib.hid hrow
     have HPO:=Lib.hid (show PuR X (S + 2) B S acc.length lv (raCs acc) (fun _ => false) X.drew from
      ⟨(Below.refl _ _).drew,⟨(Below.refl 0 X).drew.size,fun b o _ hb _ => hb⟩,hx,fun _ => own_belY hrow (Below.refl _ _).drew,fun _ => rfl,fun _ => rfl⟩)
     clear hb hz hx hrow
     refine region_last6R 5 (fun i => 15 + min i 4) (fun _ => puQ S acc.length pb oo r lv (raCs acc)) (PuR X (S + 2) B S acc.length lv (raCs acc)) (by kernel_rfl) (by kernel_rfl) (by kernel_rfl) (by kernel_rfl) ?ng rfl (by kernel_rfl) (fun i => by show 15 + min i 4 < _; simp; omega) (fun i j hi hj h => by have h : 15 + min i 4 = 15 + min j 4:=h; omega) ?start ?dst ?step ?last
     case ng =>
      intro i o ho
      match i,ho with
      | 0,ho | 1,ho | 2,ho | 3,ho | 4,ho | 5,ho => cases ho; rfl
      | n + 6,ho => exact absurd ho (by simp)
     case start => exact HPO.out
     case dst =>
      intro i o hi ho
      match i,hi,ho with
      | 0,_,ho | 1,_,ho | 2,_,ho | 3,_,ho | 4,_,ho => cases ho; rfl
      | n + 5,hi,_ => exact absurd hi (by omega)
     case step =>
      intro f a' W i oo' hib ho hfi hpre hT hrest hdf
      have hBW : S + 7 ≤ W.heap.size:=Nat.le_trans HM.out hT.bel.size
      match i,hib,ho with
      | 0,_,ho =>
       cases ho
       have q2 : a'.tmps.getD 2 undef = .pointer (some ⟨B,0,none⟩):=(hrest 2 (by intro i hi; show 15 + min i 4 ≠ _; omega))
       have c1 : W.cell? ⟨B,0,none⟩ = some lv:=by simp [World.cell?,hT.an]
       have e2:=rg_ev q2
       exact rg_same2 lv (by unfold Oper.wp execOp; go_simp; all_goals ((try simp only [e2]); (try go_simp); first | done | rfl | exact ⟨rfl,rfl⟩ | trivial)) rfl (hT.step hBW (Below.refl _ _) (by decide))
      | 1,_,ho =>
       cases ho
       have q5 : a'.tmps.getD 5 undef = .string pb:=(hrest 5 (by intro i hi; show 15 + min i 4 ≠ _; omega))
       have e5:=rg_ev q5
       exact rg_same2 (.string pb) (by unfold Oper.wp execOp; go_simp; all_goals ((try simp only [e5]); (try go_simp); first | done | rfl | exact ⟨rfl,rfl⟩ | trivial)) rfl (hT.step hBW (Below.refl _ _) (by decide))
      | 2,_,ho =>
       cases ho
       have q16 : a'.tmps.getD 16 undef = .string pb:=(hpre { on:=1,ground:=.data } (by simp) rfl).2
       refine rg_callQ 16 192 _ _ _ rfl q16 (enters_of Tryz.func192 (by kernel_rfl) rfl) (KO.out W) (fun e w' h => ?_)
       obtain ⟨rfl,hb⟩:=h
       cases hoo : oo with
       | some x =>
        have hxr:=HRR.out x hoo
        subst hxr
        exact .inl ⟨_,rfl,_,rfl,⟨rfl,rfl⟩,hT.step hBW hb (by decide),fun j u _ hF => puQ_below hb hF⟩
       | none =>
        refine .inr ⟨_,rfl,?_⟩
        have h4:=hT.kf.trans (show KeepsFrom (S + 2) W w' from ⟨hb.size,fun b o _ hb' _ => (hb.block b (Array.getElem?_eq_some_iff.1 hb').1).trans hb'⟩)
        have hBw:=HB.out
        have hsz:=HB0.out.size
        exact ⟨hdf,hsV.symm ▸ h4,rfl,by rw [HR2.out,hoo]; rfl,HB0.out.trans ((hT.bel.mono (by omega)).trans (hb.mono (by have:=hT.bel.size; omega))),
         boxed_below ((hT.bel.block _ (by omega)).trans HZ0.out) hb,lv,boxed_below hT.an hb⟩
      | 3,_,ho =>
       cases ho
       obtain ⟨q17,hor⟩ : a'.tmps.getD 17 undef = raV r ∧ oo = some r:=(hpre { on:=2,ground:=.data } (by simp) rfl).2
       unfold raV tx at q17
       have e17:=rg_ev q17
       have hO:=hT.own (hT.n3 hfi)
       unfold Oper.wp execOp
       go_simp
       (try simp only [e17])
       (try go_simp)
       refine ⟨_,rfl,⟨by first | exact hor | rfl,W.heap.size,rfl,World.alloc_heap_new _ _,fun h => Nat.lt_irrefl _ (hO.lt _ h.symm).2⟩,?_,fun j u _ h => puQ_below ((Below.refl _ _).alloc (Nat.le_refl _) _) h⟩
       first | exact hT.step (i:=3) hBW ((Below.refl _ _).alloc (Nat.le_refl _) _) (by decide) | (rw [show (fun j => decide (j = 3) || f j) = (fun j => if j = 3 then true else f j) by funext j; by_cases h : j = 3 <;> simp [h]]; exact hT.step (i:=3) hBW ((Below.refl _ _).alloc (Nat.le_refl _) _) (by decide))
      | 4,_,ho =>
       cases ho
       have f15:=(hpre { on:=0,ground:=.data } (by simp) rfl).1
       have q15 : a'.tmps.getD 15 undef = lv:=(hpre { on:=0,ground:=.data } (by simp) rfl).2
       have f18:=(hpre { on:=3,ground:=.data } (by simp) rfl).1
       obtain ⟨hor,g,hg1,hg2,hg3⟩:=(hpre { on:=3,ground:=.data } (by simp) rfl).2
       have qa : a'.eval (.tmp 15) = lv:=q15
       have qb : a'.eval (.tmp 18) = .slice (some ⟨g,0,none⟩) 1 1:=hg1
       have hO:=hT.own hfi
       refine wp_append_own _ _ _ 147 rfl (S + 7) 152 i0 (.agg #[.string ByteArray.empty,.string ByteArray.empty,.int .i64 0,.int .i64 0]) 4 48 Tryz.underlying147 hi hz0 hz1 hz2 rfl (by decide) lv acc.length (raCs acc) qa hO ⟨g,0,none⟩ 1 1 (raC r) qb rfl ?_ ?_ ?_ ?_ ?_ ?_
       ·intro j u hj
        have h4 : W.cell? ⟨g,j,none⟩ = some u:=by simpa [World.cell?,hg2] using hj
        have hadd : (⟨g,0,none⟩ : Addr).add j = ⟨g,j,none⟩:=by unfold Addr.add; split <;> simp_all
        rw [hadd]; exact h4
       ·intro u hu; simp [raC] at hu; rcases hu with rfl | rfl | rfl | rfl <;> rfl
       ·unfold maxLen; omega
       ·omega
       ·exact hBW
       ·intro v' w' hown' hgrow _
        have hne : ∀ b,b < S + 7 → some b ≠ lv.ownBlock:=fun b hb e => by have:=own_geY hO b e.symm; omega
        refine ⟨v',rfl,⟨hor,hown'⟩,⟨Below.grown hT.bel hgrow hBW (fun k hk => (hO.lt k hk).1),hT.kf.trans ⟨hgrow.size,fun b o2 h1 h2 h3 => (hgrow.block b (Array.getElem?_eq_some_iff.1 h2).1 (fun e => by
          obtain ⟨cs,ty,fr,hcs⟩:=own_isCells hO b e.symm
          rw [h2] at hcs
          cases hcs
          cases h3)).trans h2⟩,(hgrow.block B (by omega) (hne B (by omega))).trans hT.an,fun h => by simp at h,fun h => by simp [f15] at h,fun h => by simp [f18] at h⟩,fun j u hj hF => ?_⟩
        match j,hF with
        | 0,h | 1,h | 2,h => exact h
        | 3,⟨h0,g',h1,h2,h3⟩ => exact ⟨h0,g',h1,(hgrow.block g' (Array.getElem?_eq_some_iff.1 h2).1 h3).trans h2,h3⟩
        | 4,h => rw [hfi] at hj; cases hj
        | n + 5,h => exact h.elim
      | n + 5,hib,_ => exact absurd hib (by omega)
     case last =>
      intro f vs W oL ho hall hT hvs
      have hopL : oL.op = Op.store 147 (.tmp 2) (.tmp 19):=by cases ho; rfl
      have hdsL : oL.dst = none:=by cases ho; rfl
      clear ho hall
      have v0 : vs 0 = lv:=hvs 0 (by decide)
      have v1 : vs 1 = .string pb:=hvs 1 (by decide)
      obtain ⟨v2,hor⟩ : vs 2 = raV r ∧ oo = some r:=hvs 2 (by decide)
      obtain ⟨y3,v3,_⟩ : ∃ z,vs 3 = z ∧ puQ S acc.length pb oo r lv (raCs acc) 3 W z:=⟨_,rfl,hvs 3 (by decide)⟩
      obtain ⟨y4,v4,w4⟩ : ∃ z,vs 4 = z ∧ puQ S acc.length pb oo r lv (raCs acc) 4 W z:=⟨_,rfl,hvs 4 (by decide)⟩
      simp only [fillN,List.size_toArray,List.length_cons,List.length_nil,Nat.reduceAdd,show List.range 5 = [0,1,2,3,4] from rfl,List.foldl_cons,List.foldl_nil,show 15 + min 0 4 = 15 from rfl,show 15 + min 1 4 = 16 from rfl,show 15 + min 2 4 = 17 from rfl,show 15 + min 3 4 = 18 from rfl,show 15 + min 4 4 = 19 from rfl,v0,v1,v2,v3,v4]
      clear v0 v1 v2 v3 v4 hvs
      have w4' : W.ownsRow (S + 7) 152 4 y4 (acc.length + 1) (raCs acc ++ raC r):=w4.2
      obtain ⟨g4,c4,rfl⟩:=Go.Joins.ownsRow_form w4' (by omega)
      have hAn : Boxed W B 147 lv:=hT.an
      have hcA:=hAn.cell
      have hzA:=hAn.frozen
      have hBw:=HB.out
      have hMM:=HM.out
      have HKF:=Lib.hid (hT.kf.trans (show KeepsFrom (S + 2) W (W.setCell ⟨B,0,none⟩ (.slice (some ⟨g4,0,none⟩) (acc.length + 1) c4)) from ⟨(KeepsWalks.setCell W _ _).size,fun b o' h1 h2 h3 => (Below.heap_setCell _ _ _ _ (by show b ≠ B; omega)).trans h2⟩))
      have HK3:=Lib.hid (show KE3 (S + 4) X (W.setCell ⟨B,0,none⟩ (.slice (some ⟨g4,0,none⟩) (acc.length + 1) c4)) from fun b h1 h2 h3 => (Below.heap_setCell _ _ _ _ (by show b ≠ B; omega)).trans (hT.bel.block b (by omega)))
      have HNX:=Lib.hid (show RdW w (W.setCell ⟨B,0,none⟩ (.slice (some ⟨g4,0,none⟩) (acc.length + 1) c4)) B S (.slice (some ⟨g4,0,none⟩) (acc.length + 1) c4) (acc ++ [r]) from
       ⟨(HB0.out.trans (hT.bel.mono (by omega))).setCell (p:=⟨B,0,none⟩) (by show w.heap.size ≤ B; omega) _,Boxed.other ((hT.bel.block _ (by omega)).trans HZ0.out) (by omega) _,Boxed.set (v:=lv) _ hAn,by
        rw [raCs_snoc,List.length_append,List.length_singleton]
        exact own_setY w4' (by omega)⟩)
      have HRL:=Lib.hid (show Ap.rd L [] = Ap.rd (L.drop (k + 1)) (acc ++ [r]) by rw [HR2.out,hor]; rfl)
      clear hT hAn w4 w4' hor
      unfold Oper.wp execOp
      simp only [hopL]
      go_simp
      clear hcA hzA hopL hdsL
      exact ⟨hsV.symm ▸ HKF.out,HK3.out,acc ++ [r],_,HNX.out,HRL.out,by rw [List.length_append,List.length_singleton]; omega⟩
   case don =>
    rintro D X hD ⟨acc,lv,⟨hb,hz,hx,hrow⟩,hrd,hal⟩ hK
    rw [List.drop_of_length_le (by rw [HN.out]; exact Nat.le_refl _)] at hrd
    have HF:=Lib.hid (show o = some acc by rw [HE.out,hrd]; rfl)
    have hnb : lv = lv:=rfl
    obtain ⟨lp,lc,rfl⟩:=own_slY hrow
    have c0:=hx.cell
    have z0:=hx.frozen
    have c1:=hz.cell
    have z1:=hz.frozen
    have hBD : B + 1 < D:=by have:=HSB.out; omega
    have HR:=Lib.hid hrow
    have HX:=Lib.hid hx
    have HZ:=Lib.hid hz
    have HK:=Lib.hid hK
    have HBB:=Lib.hid hb
    clear hb hz hx hrow hrd hK hnb
    refine wpAt_of (wpIn_wide.2 ?_)
    go_wp2_with fail
    have b1 : Boxed (X.setCell ⟨B,0,none⟩ (.slice lp acc.length lc)) B 147 (.slice lp acc.length lc):=HX.out.set _
    have b2 : Boxed ((X.setCell ⟨B,0,none⟩ (.slice lp acc.length lc)).setCell ⟨B + 1,0,none⟩ (.int .i64 0)) B 147 (.slice lp acc.length lc):=b1.other (by omega) _
    have b3 : Boxed ((X.setCell ⟨B,0,none⟩ (.slice lp acc.length lc)).setCell ⟨B + 1,0,none⟩ (.int .i64 0)) (B + 1) 26 (.int .i64 0):=Boxed.set (v:=.int .i64 0) _ (HZ.out.other (by omega) _)
    have hBS:=HSB.out
    have K2 : ((X.setCell ⟨B,0,none⟩ (.slice lp acc.length lc)).setCell ⟨B + 1,0,none⟩ (.int .i64 0)).heap[D]? = some (.deferred (some [])):=(Below.heap_setCell _ _ _ _ (by show D ≠ B + 1; omega)).trans ((Below.heap_setCell _ _ _ _ (by show D ≠ B; omega)).trans HK.out)
    have r2:=own_setY (i:=0) (x:=.int .i64 0) (A:=B + 1) (own_setY (i:=0) (x:=.slice lp acc.length lc) (A:=B) HR.out (by omega)) (by omega)
    have B2 : Below B w ((X.setCell ⟨B,0,none⟩ (.slice lp acc.length lc)).setCell ⟨B + 1,0,none⟩ (.int .i64 0)):=by
     have h:=HBB.out
     rw [HB.out] at h
     exact (h.setCell (p:=⟨B,0,none⟩) (Nat.le_refl _) _).setCell (p:=⟨B + 1,0,none⟩) (by show B ≤ B + 1; omega) _
    obtain ⟨W4,hW4⟩ : ∃ y,(X.setCell ⟨B,0,none⟩ (.slice lp acc.length lc)).setCell ⟨B + 1,0,none⟩ (.int .i64 0) = y:=⟨_,rfl⟩
    rw [hW4] at b2 b3 K2 r2 B2 ⊢
    refine ⟨by simp,.inl ⟨_,_,rfl,run_takeDeferred K2,rd_yes ?_⟩⟩
    have d0 : Boxed (W4.putObj D (.deferred none)) B 147 (.slice lp acc.length lc):=(World.putObj_heap_other (by omega)).trans b2
    have d1 : Boxed (W4.putObj D (.deferred none)) (B + 1) 26 (.int .i64 0):=(World.putObj_heap_other (by omega)).trans b3
    have c0:=d0.cell
    have c1:=d1.cell
    have B5 : Below B w (W4.putObj D (.deferred none)):=B2.trans (belowK_b (w:=w) (Nat.le_of_eq HB.out.symm) _ D _ _ (by have:=HB.out; omega) K2 rfl rfl)
    refine ⟨_,by simp [results,Tryz.results181,go_sem,c0,c1]; rfl,B5,?_⟩
    rw [HF.out]
    refine ⟨_,rfl,?_⟩
    have hrr : (W4.putObj D (.deferred none)).ownsRow (S + 7) 152 4 (.slice lp acc.length lc) acc.length (raCs acc):=own_keep2 r2 (fun g hg => World.putObj_heap_other (fun e => by
     obtain ⟨cs,ty,fr,hc⟩:=own_isCells r2 g hg
     rw [e,K2] at hc
     cases hc))
    exact own_lowY hrr (by omega)
end Go.Proofs.YtfacmnooklljnaaGreatDoor
namespace Go.Proofs.YtfacmnooklljnaaGreatDoor
open Go.RowKit Go.Shelf
attribute [local go_sem] Oper.semAt_some
set_option maxHeartbeats 8000000
set_option maxRecDepth 100000
def PaO (o : Option (List Ap.Ra)) (b : Nat) (e : Ending) (w' : World) : Prop:=match o with
 | some l => ∃ v,e = .returned (.tuple #[v,.int .i64 0]) ∧ w'.ownsRow b 152 4 v l.length (raCs l)
 | none => e = .returned (.tuple #[.slice none 0 0,.int .i64 220])
theorem ac_Parse (s : ByteArray) (w : World) (hs : s.size ≤ 100000) :
  Calls Tryz.prog 159 #[.string s] w fun e w' => Below w.heap.size w w' ∧ PaO (Ap.parse s.data.toList) w.heap.size e w':=by
 have K:=ac_read s w hs
 obtain ⟨o,ho⟩ : ∃ y,Ap.parse s.data.toList = y:=⟨_,rfl⟩
 rw [ho] at K ⊢
 clear ho
 go_enter Tryz.func159,Tryz.ntmps159
 go_wp2_with fail
 refine K.mono ?_
 rintro e w' ⟨hb,h⟩
 cases o with
 | some l =>
  obtain ⟨v,rfl,hown⟩:=h
  obtain ⟨p,c,rfl⟩:=own_slY hown
  have HO:=Lib.hid hown
  have HB:=Lib.hid hb
  clear hown hb K
  go_wp2_with fail
  exact bodyPost_ret (v:=.tuple #[.slice p l.length c,.int .i64 0]) (by simp [results,Tryz.results159,go_sem]) rfl ⟨HB.out,_,rfl,HO.out⟩
 | none =>
  obtain ⟨v,rfl⟩:=h
  have HB:=Lib.hid hb
  clear hb K
  go_wp2_with fail
  exact bodyPost_ret (v:=.tuple #[.slice none 0 0,.int .i64 220]) (by simp [results,Tryz.results159,go_sem]) rfl ⟨HB.out,rfl⟩
theorem ac_fits1 (r : Ap.Ra)  (w : World) :
  Calls Tryz.prog 193 #[raV r] w fun e w' => e = .returned (.bool (r.1 == ([42] : List UInt8) && r.2.1 == ([42] : List UInt8))) ∧ Below w.heap.size w w':=by
 obtain ⟨a,b,n,q⟩:=r
 unfold raV tx
 dsimp only
 obtain ⟨ab,hab⟩ : ∃ y : ByteArray,(⟨a.toArray⟩ : ByteArray) = y:=⟨_,rfl⟩
 obtain ⟨bb,hbb⟩ : ∃ y : ByteArray,(⟨b.toArray⟩ : ByteArray) = y:=⟨_,rfl⟩
 obtain ⟨x,hx⟩ : ∃ x,(a == ([42] : List UInt8)) = x:=⟨_,rfl⟩
 obtain ⟨y,hy⟩ : ∃ x,(b == ([42] : List UInt8)) = x:=⟨_,rfl⟩
 have e1 : (ab.toList == ([42] : List UInt8)) = x:=by rw [← hab,ba_list]; exact hx
 have e2 : (bb.toList == ([42] : List UInt8)) = y:=by rw [← hbb,ba_list]; exact hy
 rw [hab,hbb,hx,hy]
 clear hab hbb hx hy
 go_enter Tryz.func193,Tryz.ntmps193
 cases x
 ·go_wp2_with fail
  exact bodyPost_ret (v:=.bool false) (by simp [results,Tryz.results193,go_sem]) rfl ⟨by simp,(Below.refl _ _).alloc (Nat.le_refl _) _⟩
 ·go_wp2_with fail
  exact bodyPost_ret (v:=.bool y) (by simp [results,Tryz.results193,go_sem]) rfl ⟨by simp,(Below.refl _ _).alloc (Nat.le_refl _) _⟩
theorem ac_fits2 (r : Ap.Ra) (kb : ByteArray) (K : Nat) (w : World) (hK : Boxed w K 9 (.string kb)) :
  Calls Tryz.prog 194 #[raV r,.pointer (some ⟨K,0,none⟩)] w fun e w' => e = .returned (.bool (r.1 == kb.toList && r.2.1 == ([42] : List UInt8))) ∧ Below w.heap.size w w':=by
 obtain ⟨a,b,n,q⟩:=r
 unfold raV tx
 dsimp only
 have cK:=hK.cell
 have zK:=hK.frozen
 have lK:=hK.lt
 obtain ⟨ab,hab⟩ : ∃ y : ByteArray,(⟨a.toArray⟩ : ByteArray) = y:=⟨_,rfl⟩
 obtain ⟨bb,hbb⟩ : ∃ y : ByteArray,(⟨b.toArray⟩ : ByteArray) = y:=⟨_,rfl⟩
 obtain ⟨x,hx⟩ : ∃ x,(a == kb.toList) = x:=⟨_,rfl⟩
 obtain ⟨y,hy⟩ : ∃ x,(b == ([42] : List UInt8)) = x:=⟨_,rfl⟩
 have e1 : (ab.toList == kb.toList) = x:=by rw [← hab,ba_list]; exact hx
 have e2 : (bb.toList == ([42] : List UInt8)) = y:=by rw [← hbb,ba_list]; exact hy
 rw [hab,hbb,hx,hy]
 clear hab hbb hx hy
 go_enter Tryz.func194,Tryz.ntmps194
 cases x
 ·go_wp2_with fail
  exact bodyPost_ret (v:=.bool false) (by simp [results,Tryz.results194,go_sem]) rfl ⟨by simp,(Below.refl _ _).alloc (Nat.le_refl _) _⟩
 ·go_wp2_with fail
  exact bodyPost_ret (v:=.bool y) (by simp [results,Tryz.results194,go_sem]) rfl ⟨by simp,(Below.refl _ _).alloc (Nat.le_refl _) _⟩
theorem ac_fits3 (r : Ap.Ra) (kb ub : ByteArray) (K U : Nat) (w : World) (hK : Boxed w K 9 (.string kb)) (hU : Boxed w U 9 (.string ub)) :
  Calls Tryz.prog 195 #[raV r,.pointer (some ⟨K,0,none⟩),.pointer (some ⟨U,0,none⟩)] w fun e w' => e = .returned (.bool (r.1 == kb.toList && r.2.1 == ub.toList)) ∧ Below w.heap.size w w':=by
 obtain ⟨a,b,n,q⟩:=r
 unfold raV tx
 dsimp only
 have cK:=hK.cell
 have zK:=hK.frozen
 have lK:=hK.lt
 have cU:=hU.cell
 have zU:=hU.frozen
 have lU:=hU.lt
 obtain ⟨ab,hab⟩ : ∃ y : ByteArray,(⟨a.toArray⟩ : ByteArray) = y:=⟨_,rfl⟩
 obtain ⟨bb,hbb⟩ : ∃ y : ByteArray,(⟨b.toArray⟩ : ByteArray) = y:=⟨_,rfl⟩
 obtain ⟨x,hx⟩ : ∃ x,(a == kb.toList) = x:=⟨_,rfl⟩
 obtain ⟨y,hy⟩ : ∃ x,(b == ub.toList) = x:=⟨_,rfl⟩
 have e1 : (ab.toList == kb.toList) = x:=by rw [← hab,ba_list]; exact hx
 have e2 : (bb.toList == ub.toList) = y:=by rw [← hbb,ba_list]; exact hy
 rw [hab,hbb,hx,hy]
 clear hab hbb hx hy
 go_enter Tryz.func195,Tryz.ntmps195
 cases x
 ·go_wp2_with fail
  exact bodyPost_ret (v:=.bool false) (by simp [results,Tryz.results195,go_sem]) rfl ⟨by simp,(Below.refl _ _).alloc (Nat.le_refl _) _⟩
 ·go_wp2_with fail
  exact bodyPost_ret (v:=.bool y) (by simp [results,Tryz.results195,go_sem]) rfl ⟨by simp,(Below.refl _ _).alloc (Nat.le_refl _) _⟩
end Go.Proofs.YtfacmnooklljnaaGreatDoor
namespace Go.Proofs.YtfacmnooklljnaaGreatDoor
open Go.RowKit Go.Shelf
attribute [local go_sem] Oper.semAt_some
set_option maxHeartbeats 8000000
set_option maxRecDepth 100000
theorem ac_fits (kb ub : ByteArray) (w : World) :
  Calls Tryz.prog 182 #[.string kb,.string ub] w fun e w' => ∃ K U,e = .returned (.agg #[.func (.func 193) #[] #[],.func (.func 194) #[] #[.pointer (some ⟨K,0,none⟩)],.func (.func 195) #[] #[.pointer (some ⟨K,0,none⟩),.pointer (some ⟨U,0,none⟩)]]) ∧
   Boxed w' K 9 (.string kb) ∧ Boxed w' U 9 (.string ub) ∧ Below w.heap.size w w':=by
 obtain ⟨V,hV⟩ : ∃ z,(w.alloc (.cells #[.string kb] 9)).alloc (.cells #[.string ub] 9) = z:=⟨_,rfl⟩
 have hK : Boxed V w.heap.size 9 (.string kb):=by rw [← hV]; exact (Boxed.new _ _ _).alloc _
 have hU : Boxed V (w.heap.size + 1) 9 (.string ub):=by
  have h:=Boxed.new (w.alloc (.cells #[.string kb] 9)) 9 (.string ub)
  rw [hV] at h
  simpa using h
 have hb : Below w.heap.size w V:=by rw [← hV]; exact ((Below.refl _ _).alloc (Nat.le_refl _) _).alloc (by simp) _
 have HV:=Lib.hid hV
 have HK:=Lib.hid hK
 have HU:=Lib.hid hU
 have HB:=Lib.hid hb
 clear hV hK hU hb
 go_enter Tryz.func182,Tryz.ntmps182
 go_wp2_with fail
 rw [HV.out]
 obtain ⟨c3,hc3⟩ : ∃ z : Array Value,#[.func (.func 193) #[] #[],.func (.func 194) #[] #[.pointer (some ⟨w.heap.size,0,none⟩)],.func (.func 195) #[] #[.pointer (some ⟨w.heap.size,0,none⟩),.pointer (some ⟨w.heap.size + 1,0,none⟩)]] = z:=⟨_,rfl⟩
 have hsV : V.heap.size = w.heap.size + 1 + 1:=by rw [← HV.out]; simp
 have hZ : (V.alloc (.cells c3 212)).heap[w.heap.size + 1 + 1]? = some (.cells c3 212 (0,0)):=by rw [← hsV]; exact World.alloc_heap_new _ _
 have hK3:=HK.out.alloc (.cells c3 212)
 have hU3:=HU.out.alloc (.cells c3 212)
 have hB3:=HB.out.alloc HB.out.size (.cells c3 212)
 rw [hc3]
 obtain ⟨Z,hz⟩ : ∃ z,V.alloc (.cells c3 212) = z:=⟨_,rfl⟩
 rw [hz] at hZ hK3 hU3 hB3 ⊢
 have c0 : Z.cell? ⟨w.heap.size + 1 + 1,0,none⟩ = some (.func (.func 193) #[] #[]):=by simp [World.cell?,hZ,← hc3]
 have c1 : Z.cell? ⟨w.heap.size + 1 + 1,1,none⟩ = some (.func (.func 194) #[] #[.pointer (some ⟨w.heap.size,0,none⟩)]):=by simp [World.cell?,hZ,← hc3]
 have c2 : Z.cell? ⟨w.heap.size + 1 + 1,2,none⟩ = some (.func (.func 195) #[] #[.pointer (some ⟨w.heap.size,0,none⟩),.pointer (some ⟨w.heap.size + 1,0,none⟩)]):=by simp [World.cell?,hZ,← hc3]
 rw [← hc3]
 exact bodyPost_ret (v:=.agg #[.func (.func 193) #[] #[],.func (.func 194) #[] #[.pointer (some ⟨w.heap.size,0,none⟩)],.func (.func 195) #[] #[.pointer (some ⟨w.heap.size,0,none⟩),.pointer (some ⟨w.heap.size + 1,0,none⟩)]]) (by simp [results,Tryz.results182,go_sem,c0,c1,c2]) rfl ⟨_,_,rfl,hK3,hU3,hB3⟩
theorem fits_ix0 (K U : Nat) (W : World) : (Instr.index 212 (.agg #[.func (.func 193) #[] #[],.func (.func 194) #[] #[.pointer (some ⟨K,0,none⟩)],.func (.func 195) #[] #[.pointer (some ⟨K,0,none⟩),.pointer (some ⟨U,0,none⟩)]]) (.int .i64 0)).run Tryz.prog W = .ok (.func (.func 193) #[] #[]) W:=by
 first | rfl | kernel_rfl
theorem fits_ix1 (K U : Nat) (W : World) : (Instr.index 212 (.agg #[.func (.func 193) #[] #[],.func (.func 194) #[] #[.pointer (some ⟨K,0,none⟩)],.func (.func 195) #[] #[.pointer (some ⟨K,0,none⟩),.pointer (some ⟨U,0,none⟩)]]) (.int .i64 1)).run Tryz.prog W = .ok (.func (.func 194) #[] #[.pointer (some ⟨K,0,none⟩)]) W:=by
 first | rfl | kernel_rfl
theorem fits_ix2 (K U : Nat) (W : World) : (Instr.index 212 (.agg #[.func (.func 193) #[] #[],.func (.func 194) #[] #[.pointer (some ⟨K,0,none⟩)],.func (.func 195) #[] #[.pointer (some ⟨K,0,none⟩),.pointer (some ⟨U,0,none⟩)]]) (.int .i64 2)).run Tryz.prog W = .ok (.func (.func 195) #[] #[.pointer (some ⟨K,0,none⟩),.pointer (some ⟨U,0,none⟩)]) W:=by
 first | rfl | kernel_rfl
def fitB (r : Ap.Ra) (k u : List UInt8) : Nat → Bool
 | 0 => r.1 == [42] && r.2.1 == [42]
 | 1 => r.1 == k && r.2.1 == [42]
 | _ => r.1 == k && r.2.1 == u
theorem fits_eq (r : Ap.Ra) (k u : List UInt8) : Ap.fits r k u = if 0 < r.2.2.1 then 0 else if fitB r k u 0 = true then 1 else if fitB r k u 1 = true then 2 else if fitB r k u 2 = true then 3 else 0:=by
 unfold Ap.fits fitB
 simp
theorem ac_Fits (r : Ap.Ra) (kb ub : ByteArray) (w : World) (hn : r.2.2.1 < 2000000) :
  Calls Tryz.prog 162 #[raV r,.string kb,.string ub] w fun e w' => e = .returned (.int .i64 (Ap.fits r kb.toList ub.toList)) ∧ Below w.heap.size w w':=by
 obtain ⟨F,hF⟩ : ∃ y,Ap.fits r kb.toList ub.toList = y:=⟨_,rfl⟩
 have hFe:=fits_eq r kb.toList ub.toList
 rw [hF] at hFe ⊢
 obtain ⟨V,hV⟩ : ∃ z,w.alloc (.cells (raC r).toArray 152) = z:=⟨_,rfl⟩
 have hb : Below w.heap.size w V:=by rw [← hV]; exact (Below.refl _ _).alloc (Nat.le_refl _) _
 have hR : V.heap[w.heap.size]? = some (.cells (raC r).toArray 152 (0,0)):=by rw [← hV]; exact World.alloc_heap_new _ _
 obtain ⟨A,hA⟩ : ∃ z,w.heap.size = z:=⟨_,rfl⟩
 rw [hA] at hR hb ⊢
 have HV:=Lib.hid hV
 have HA:=Lib.hid hA
 have HB:=Lib.hid hb
 have HFE:=Lib.hid hFe
 have KF:=Lib.hid (fun W => ac_fits kb ub W)
 have K1:=Lib.hid (show ∀ W,Calls Tryz.prog 193 #[raV r] W fun e w' => e = .returned (.bool (fitB r kb.toList ub.toList 0)) ∧ Below W.heap.size W w' from fun W => ac_fits1 r W)
 have K2:=Lib.hid (show ∀ K W,Boxed W K 9 (.string kb) → Calls Tryz.prog 194 #[raV r,.pointer (some ⟨K,0,none⟩)] W fun e w' => e = .returned (.bool (fitB r kb.toList ub.toList 1)) ∧ Below W.heap.size W w' from fun K W h => ac_fits2 r kb K W h)
 have K3:=Lib.hid (show ∀ K U W,Boxed W K 9 (.string kb) → Boxed W U 9 (.string ub) → Calls Tryz.prog 195 #[raV r,.pointer (some ⟨K,0,none⟩),.pointer (some ⟨U,0,none⟩)] W fun e w' => e = .returned (.bool (fitB r kb.toList ub.toList 2)) ∧ Below W.heap.size W w' from fun K U W h h2 => ac_fits3 r kb ub K U W h h2)
 obtain ⟨b0,hb0⟩ : ∃ y,fitB r kb.toList ub.toList 0 = y:=⟨_,rfl⟩
 obtain ⟨b1,hb1⟩ : ∃ y,fitB r kb.toList ub.toList 1 = y:=⟨_,rfl⟩
 obtain ⟨b2,hb2⟩ : ∃ y,fitB r kb.toList ub.toList 2 = y:=⟨_,rfl⟩
 rw [hb0,hb1,hb2] at HFE
 rw [hb0] at K1
 rw [hb1] at K2
 rw [hb2] at K3
 obtain ⟨n,hn'⟩ : ∃ y,r.2.2.1 = y:=⟨_,rfl⟩
 rw [hn'] at HFE hn
 obtain ⟨xb,hxb⟩ : ∃ y : ByteArray,(⟨r.1.toArray⟩ : ByteArray) = y:=⟨_,rfl⟩
 obtain ⟨yb,hyb⟩ : ∃ y : ByteArray,(⟨r.2.1.toArray⟩ : ByteArray) = y:=⟨_,rfl⟩
 obtain ⟨q,hq⟩ : ∃ y,r.2.2.2 = y:=⟨_,rfl⟩
 have hraV : raV r = .agg #[.string xb,.string yb,.int .i64 (n : Int),.int .i64 q]:=by unfold raV tx; rw [hxb,hyb,hn',hq]
 have hraC : raC r = [.string xb,.string yb,.int .i64 (n : Int),.int .i64 q]:=by unfold raC tx; rw [hxb,hyb,hn',hq]
 rw [hraV] at K1 K2 K3 ⊢
 rw [hraC] at HV hR
 have HR:=Lib.hid hR
 clear hb0 hb1 hb2 hn' hxb hyb hq hraV hraC hV hA hb hFe hF hR
 by_cases h0 : 0 < n
 ·have HE:=Lib.hid (show F = 0 by rw [HFE.out,if_pos h0])
  go_enter Tryz.func162,Tryz.ntmps162
  go_wp2_with fail
  rw [HV.out]
  exact bodyPost_ret (v:=.int .i64 0) (by simp [results,Tryz.results162,go_sem]) rfl ⟨by rw [HE.out],HB.out⟩
 ·rw [if_neg h0] at HFE
  go_enter Tryz.func162,Tryz.ntmps162
  go_wp2_with fail
  rw [HV.out,HA.out]
  refine (KF.out _).mono ?_
  rintro e w2 ⟨K,U,rfl,hK,hU,hb⟩
  have HK:=Lib.hid hK
  have HU:=Lib.hid hU
  have HB2:=Lib.hid (HB.out.trans (hb.mono (by have:=HA.out; have:=HB.out.size; omega)))
  have HR2:=Lib.hid ((hb.block A (Array.getElem?_eq_some_iff.1 HR.out).1).trans HR.out)
  clear hK hU hb h0
  go_wp2_with fail
  go_loopw [15] (fun i wr => (i = .int .i64 0 ∨ (i = .int .i64 1 ∧ b0 = false) ∨ (i = .int .i64 2 ∧ b0 = false ∧ b1 = false) ∨ (i = .int .i64 3 ∧ b0 = false ∧ b1 = false ∧ b2 = false)) ∧ Below A w wr ∧ Boxed wr K 9 (.string kb) ∧ Boxed wr U 9 (.string ub) ∧ wr.heap[A]? = some (.cells #[.string xb,.string yb,.int .i64 (n : Int),.int .i64 q] 152 (0,0))) (fun i _ => 3 - (intOf i).toNat)
  case atStart => exact ⟨.inl rfl,HB2.out,HK.out,HU.out,HR2.out⟩
  case round =>
   obtain ⟨hi,hb,hK,hU,hR⟩:=hrel
   have k0 : wr.cell? ⟨A,0,none⟩ = some (.string xb):=by simp [World.cell?,hR]
   have k1 : wr.cell? ⟨A,1,none⟩ = some (.string yb):=by simp [World.cell?,hR]
   have k2 : wr.cell? ⟨A,2,none⟩ = some (.int .i64 (n : Int)):=by simp [World.cell?,hR]
   have k3 : wr.cell? ⟨A,3,none⟩ = some (.int .i64 q):=by simp [World.cell?,hR]
   have HKK:=Lib.hid hK
   have HUU:=Lib.hid hU
   have HRR:=Lib.hid hR
   have HBB:=Lib.hid hb
   clear HK HU HB2 HR2 hK hU hR hb
   rcases hi with rfl | ⟨rfl,f0⟩ | ⟨rfl,f0,f1⟩ | ⟨rfl,f0,f1,f2⟩
   ·go_wp2_with (simp only [fits_ix0])
    go_wp2_with fail
    refine (K1.out _).mono ?_
    rintro e w3 ⟨rfl,hb3⟩
    have HN:=Lib.hid (show Below A w w3 ∧ Boxed w3 K 9 (.string kb) ∧ Boxed w3 U 9 (.string ub) ∧ w3.heap[A]? = some (.cells #[.string xb,.string yb,.int .i64 (n : Int),.int .i64 q] 152 (0,0)) from
     ⟨HBB.out.trans (hb3.mono (by have:=HA.out; have:=HBB.out.size; omega)),boxed_below HKK.out hb3,boxed_below HUU.out hb3,(hb3.block A (Array.getElem?_eq_some_iff.1 HRR.out).1).trans HRR.out⟩)
    clear hb3
    cases b0 with
    | true =>
     have HE:=Lib.hid (show F = 1 by rw [HFE.out,if_pos rfl])
     go_wp2_with fail
     go_ret
     exact ⟨by rw [HE.out]; rfl,HN.out.1⟩
    | false =>
     go_wp2_with fail
     go_roundw
     case rel => exact ⟨by simp_all,HN.out.1,HN.out.2.1,HN.out.2.2.1,HN.out.2.2.2⟩
     case measure => simp [intOf]
   ·go_wp2_with (simp only [fits_ix1])
    go_wp2_with fail
    refine (K2.out K _ HKK.out).mono ?_
    rintro e w3 ⟨rfl,hb3⟩
    have HN:=Lib.hid (show Below A w w3 ∧ Boxed w3 K 9 (.string kb) ∧ Boxed w3 U 9 (.string ub) ∧ w3.heap[A]? = some (.cells #[.string xb,.string yb,.int .i64 (n : Int),.int .i64 q] 152 (0,0)) from
     ⟨HBB.out.trans (hb3.mono (by have:=HA.out; have:=HBB.out.size; omega)),boxed_below HKK.out hb3,boxed_below HUU.out hb3,(hb3.block A (Array.getElem?_eq_some_iff.1 HRR.out).1).trans HRR.out⟩)
    clear hb3
    cases b1 with
    | true =>
     have HE:=Lib.hid (show F = 2 by rw [HFE.out,f0]; simp)
     go_wp2_with fail
     go_ret
     exact ⟨by rw [HE.out]; rfl,HN.out.1⟩
    | false =>
     go_wp2_with fail
     go_roundw
     case rel => exact ⟨by simp_all,HN.out.1,HN.out.2.1,HN.out.2.2.1,HN.out.2.2.2⟩
     case measure => simp [intOf]
   ·go_wp2_with (simp only [fits_ix2])
    go_wp2_with fail
    refine (K3.out K U _ HKK.out HUU.out).mono ?_
    rintro e w3 ⟨rfl,hb3⟩
    have HN:=Lib.hid (show Below A w w3 ∧ Boxed w3 K 9 (.string kb) ∧ Boxed w3 U 9 (.string ub) ∧ w3.heap[A]? = some (.cells #[.string xb,.string yb,.int .i64 (n : Int),.int .i64 q] 152 (0,0)) from
     ⟨HBB.out.trans (hb3.mono (by have:=HA.out; have:=HBB.out.size; omega)),boxed_below HKK.out hb3,boxed_below HUU.out hb3,(hb3.block A (Array.getElem?_eq_some_iff.1 HRR.out).1).trans HRR.out⟩)
    clear hb3
    cases b2 with
    | true =>
     have HE:=Lib.hid (show F = 3 by rw [HFE.out,f0,f1]; simp)
     go_wp2_with fail
     go_ret
     exact ⟨by rw [HE.out]; rfl,HN.out.1⟩
    | false =>
     go_wp2_with fail
     go_roundw
     case rel => exact ⟨by simp_all,HN.out.1,HN.out.2.1,HN.out.2.2.1,HN.out.2.2.2⟩
     case measure => simp [intOf]
   ·have HE:=Lib.hid (show F = 0 by rw [HFE.out,f0,f1,f2]; simp)
    go_wp2_with fail
    go_ret
    exact ⟨by rw [HE.out]; rfl,HBB.out⟩
end Go.Proofs.YtfacmnooklljnaaGreatDoor
namespace Go.Proofs.YtfacmnooklljnaaGreatDoor
open Go.RowKit
set_option maxHeartbeats 4000000
set_option maxRecDepth 100000
section
variable {α : Type}
def Rin (f : α → List Value) (m : Nat) (d : α) (w : World) (v : Value) (qs : List α) : Prop:=∃ p c,v = .slice p qs.length c ∧ (qs.length = 0 ∨ ∃ g o,p = some ⟨g,o,none⟩ ∧ ∀ j,j < qs.length → ∀ i x,(f (qs.getD j d))[i]? = some x → w.cell? ⟨g,o + j * m + i,none⟩ = some x)
theorem Rin.below {f : α → List Value} {m : Nat} {d : α} {w w' : World} {v : Value} {qs : List α} (h : Rin f m d w v qs) (hb : Below w.heap.size w w') : Rin f m d w' v qs:=by
 obtain ⟨p,c,h1,h2⟩:=h
 exact ⟨p,c,h1,h2.imp id (fun ⟨g,o,a1,a2⟩ => ⟨g,o,a1,fun j hj i x hx => cell_below hb (a2 j hj i x hx)⟩)⟩
theorem Rin.slice {f : α → List Value} {m : Nat} {d : α} {w : World} {v : Value} {qs : List α} (h : Rin f m d w v qs) : ∃ p c,v = .slice p qs.length c:=by
 obtain ⟨p,c,h1,_⟩:=h
 exact ⟨p,c,h1⟩
theorem Rin.nil {f : α → List Value} {m : Nat} {d : α} (w : World) : Rin f m d w (.slice none 0 0) []:=⟨none,0,rfl,.inl rfl⟩
theorem Rin.at {f : α → List Value} {m : Nat} {d : α} {w : World} {v : Value} {qs : List α} (h : Rin f m d w v qs) {j : Nat} (hj : j < qs.length) :
  ∃ g o c,v = .slice (some ⟨g,o,none⟩) qs.length c ∧ ∀ i x,(f (qs.getD j d))[i]? = some x → w.cell? ⟨g,o + j * m + i,none⟩ = some x:=by
 obtain ⟨p,c,rfl,h2⟩:=h
 rcases h2 with h2 | ⟨g,o,rfl,h2⟩
 ·omega
 ·exact ⟨g,o,c,rfl,h2 j hj⟩
theorem flat_len (f : α → List Value) (m : Nat) (hf : ∀ q,(f q).length = m) (qs : List α) : (qs.flatMap f).length = qs.length * m:=by
 induction qs with
 | nil => simp
 | cons q qs ih => rw [List.flatMap_cons,List.length_append,ih,hf,List.length_cons,Nat.add_mul]; omega
theorem flat_get (f : α → List Value) (m : Nat) (d : α) (hf : ∀ q,(f q).length = m) : ∀ (qs : List α) (j i : Nat) (x : Value),j < qs.length → i < m → (f (qs.getD j d))[i]? = some x → (qs.flatMap f)[j * m + i]? = some x
 | [],j,i,x,hj,_,_ => by simp at hj
 | q :: qs,0,i,x,hj,hi,hx => by
  rw [List.flatMap_cons,List.getElem?_append_left (by rw [hf]; omega),Nat.zero_mul,Nat.zero_add]
  exact hx
 | q :: qs,j + 1,i,x,hj,hi,hx => by
  rw [List.flatMap_cons,List.getElem?_append_right (by rw [hf,Nat.add_mul]; omega),hf,show (j + 1) * m + i - m = j * m + i by rw [Nat.add_mul]; omega]
  exact flat_get f m d hf qs j i x (by simpa using hj) hi hx
theorem Rin.of_own {f : α → List Value} {m : Nat} {d : α} (hf : ∀ q,(f q).length = m) (hm : 0 < m) {w : World} {C n : Nat} {e : TypeId} {v : Value} {qs : List α} (h : w.ownsRow C e m v n (qs.flatMap f)) : Rin f m d w v qs:=by
 have hl : n = qs.length:=by
  have h1:=h.1
  rw [flat_len f m hf] at h1
  exact (Nat.eq_of_mul_eq_mul_right hm h1).symm
 rcases h.2 with ⟨rfl,h0⟩ | ⟨g,cap,cur,rfl,_,hg,hc,_⟩
 ·exact ⟨none,0,by rw [← hl,h0],.inl (by rw [← hl,h0])⟩
 ·refine ⟨some ⟨g,0,none⟩,cap,by rw [← hl],.inr ⟨g,0,rfl,fun j hj i x hx => ?_⟩⟩
  have hi : i < m:=by
   rcases Nat.lt_or_ge i m with h | h
   ·exact h
   ·rw [List.getElem?_eq_none (by rw [hf]; exact h)] at hx; cases hx
  have h4:=h.cells (g:=g) rfl (j * m + i) x (flat_get f m d hf qs j i x hj hi hx)
  have hadd : (⟨g,0,none⟩ : Addr).add (j * m + i) = ⟨g,0 + j * m + i,none⟩:=by unfold Addr.add; split <;> simp_all
  rw [hadd] at h4
  exact h4
end
end Go.Proofs.YtfacmnooklljnaaGreatDoor
namespace Go.Proofs.YtfacmnooklljnaaGreatDoor
open Go.RowKit Go.Shelf
attribute [local go_sem] Oper.semAt_some
set_option maxHeartbeats 8000000
set_option maxRecDepth 100000
def ra0 : Ap.Ra:=([],[],0,0)
theorem raC_len (r : Ap.Ra) : (raC r).length = 4:=rfl
theorem ac_Quality1 (r : Ap.Ra) (kb ub : ByteArray) (K U : Nat) (w : World) (hn : r.2.2.1 < 2000000) (hK : Boxed w K 9 (.string kb)) (hU : Boxed w U 9 (.string ub)) :
  Calls Tryz.prog 161 #[raV r,.pointer (some ⟨K,0,none⟩),.pointer (some ⟨U,0,none⟩)] w fun e w' => e = .returned (.int .i64 (Ap.fits r kb.toList ub.toList)) ∧ Below w.heap.size w w':=by
 have KF:=Lib.hid (fun W => ac_Fits r kb ub W hn)
 obtain ⟨F,hF⟩ : ∃ y,Ap.fits r kb.toList ub.toList = y:=⟨_,rfl⟩
 rw [hF] at KF ⊢
 have cK:=hK.cell
 have zK:=hK.frozen
 have lK:=hK.lt
 have cU:=hU.cell
 have zU:=hU.frozen
 have lU:=hU.lt
 unfold raV at KF ⊢
 unfold tx at KF ⊢
 clear hF hK hU
 go_enter Tryz.func161,Tryz.ntmps161
 go_wp2_with fail
 refine (KF.out _).mono ?_
 rintro e w2 ⟨rfl,hb⟩
 have HB:=Lib.hid (((Below.refl w.heap.size w).alloc (Nat.le_refl _) _).trans (hb.mono (by simp)))
 clear hb
 go_wp2_with fail
 exact bodyPost_ret (v:=.int .i64 F) (by simp [results,Tryz.results161,go_sem]) rfl ⟨rfl,HB.out⟩
theorem set4 {W : World} {B : Nat} {t : TypeId} {a b c d a' b' c' d' : Value} (h : W.heap[B]? = some (.cells #[a,b,c,d] t (0,0))) :
  ((((W.setCell ⟨B,0,none⟩ a').setCell ⟨B,1,none⟩ b').setCell ⟨B,2,none⟩ c').setCell ⟨B,3,none⟩ d').heap[B]? = some (.cells #[a',b',c',d'] t (0,0)):=by
 have a1 : (W.setCell ⟨B,0,none⟩ a').heap[B]? = some (.cells #[a',b,c,d] t (0,0)):=(heap_setCell_same W B 0 _ _ _ h).trans (by simp)
 have a2 : ((W.setCell ⟨B,0,none⟩ a').setCell ⟨B,1,none⟩ b').heap[B]? = some (.cells #[a',b',c,d] t (0,0)):=(heap_setCell_same _ B 1 _ _ _ a1).trans (by simp)
 have a3 : (((W.setCell ⟨B,0,none⟩ a').setCell ⟨B,1,none⟩ b').setCell ⟨B,2,none⟩ c').heap[B]? = some (.cells #[a',b',c',d] t (0,0)):=(heap_setCell_same _ B 2 _ _ _ a2).trans (by simp)
 exact (heap_setCell_same _ B 3 _ _ _ a3).trans (by simp)
def bestV (st : Option Ap.Ra × Int) : Value:=.tuple #[raV (st.1.getD ra0),.bool st.1.isSome]
theorem ac_best (v : Value) (l : List Ap.Ra) (kb ub : ByteArray) (K U : Nat) (w : World) (hv : Rin raC 4 ra0 w v l) (hl : l.length ≤ 1000000) (hn : ∀ r ∈ l,r.2.2.1 < 2000000) (hK : Boxed w K 9 (.string kb)) (hU : Boxed w U 9 (.string ub)) :
  Calls Tryz.prog 160 #[v,.func (.func 161) #[] #[.pointer (some ⟨K,0,none⟩),.pointer (some ⟨U,0,none⟩)]] w fun e w' => e = .returned (bestV (Ap.best (fun r => Ap.fits r kb.toList ub.toList) l)) ∧ Below w.heap.size w w':=by
 obtain ⟨p,c,rfl⟩:=hv.slice
 obtain ⟨N,hN⟩ : ∃ z,l.length = z:=⟨_,rfl⟩
 rw [hN] at hv hl ⊢
 obtain ⟨f,hf⟩ : ∃ f : Ap.Ra → Int,(fun r => Ap.fits r kb.toList ub.toList) = f:=⟨_,rfl⟩
 obtain ⟨B,hB⟩ : ∃ z,w.heap.size = z:=⟨_,rfl⟩
 obtain ⟨V,hV⟩ : ∃ z,w.alloc (.cells #[.string ⟨#[]⟩,.string ⟨#[]⟩,.int .i64 0,.int .i64 0] 152) = z:=⟨_,rfl⟩
 have hbV : Below B w V:=by rw [← hV,← hB]; exact (Below.refl _ _).alloc (Nat.le_refl _) _
 have hRV : V.heap[B]? = some (.cells (raC ra0).toArray 152 (0,0)):=by rw [← hV,← hB]; exact World.alloc_heap_new _ _
 have HQ:=Lib.hid (fun r W (h1 : r.2.2.1 < 2000000) (h2 : Boxed W K 9 (.string kb)) (h3 : Boxed W U 9 (.string ub)) => show Calls Tryz.prog 161 #[raV r,.pointer (some ⟨K,0,none⟩),.pointer (some ⟨U,0,none⟩)] W fun e w' => e = .returned (.int .i64 (f r)) ∧ Below W.heap.size W w' from by rw [← hf]; exact ac_Quality1 r kb ub K U W h1 h2 h3)
 rw [hf,hB]
 have HVV:=Lib.hid hV
 have HB:=Lib.hid hB
 have HBV:=Lib.hid hbV
 have HRV:=Lib.hid hRV
 have HIN:=Lib.hid hv
 have HN:=Lib.hid hN
 have HNN:=Lib.hid hn
 have HK:=Lib.hid hK
 have HU:=Lib.hid hU
 clear hf hB hV hbV hRV hv hN hn hK hU
 go_enter Tryz.func160,Tryz.ntmps160
 go_wp2_with fail
 rw [HVV.out,HB.out]
 go_loopw [5,6,12] (fun b m i wr => ∃ (k : Nat) (o : Option Ap.Ra) (q : Int),k ≤ N ∧ i = .int .i64 k ∧ b = .bool o.isSome ∧ m = .int .i64 q ∧ Ap.best f (l.take k) = (o,q) ∧ Below B w wr ∧ wr.heap[B]? = some (.cells (raC (o.getD ra0)).toArray 152 (0,0))) (fun _ _ i _ => N - (intOf i).toNat)
 case atStart => exact ⟨0,none,0,Nat.zero_le _,rfl,rfl,rfl,rfl,HBV.out,HRV.out⟩
 case round =>
  obtain ⟨k,o,q,hk,rfl,rfl,rfl,hst,hb,hcl⟩:=hrel
  obtain ⟨b,hbb⟩ : ∃ y,o.isSome = y:=⟨_,rfl⟩
  obtain ⟨r0,hr0⟩ : ∃ y,o.getD ra0 = y:=⟨_,rfl⟩
  rw [hr0] at hcl
  rw [hbb]
  by_cases hlt : k < N
  ·have hI : (k : Int) < (N : Int):=by omega
   obtain ⟨g,oo,c',hsl,hx⟩:=(HIN.out.below (HB.out.symm ▸ hb)).at (j:=k) (by rw [HN.out]; exact hlt)
   obtain ⟨rfl,rfl⟩ : p = some ⟨g,oo,none⟩ ∧ c = c':=by
    simp only [Value.slice.injEq] at hsl
    exact ⟨hsl.1,hsl.2.2⟩
   obtain ⟨r,hr⟩ : ∃ x,l.getD k ra0 = x:=⟨_,rfl⟩
   have hmem : l.getD k ra0 ∈ l:=by rw [List.getD_eq_getElem?_getD,List.getElem?_eq_getElem (by rw [HN.out]; exact hlt)]; exact List.getElem_mem _
   have htk : l.take (k + 1) = l.take k ++ [l.getD k ra0]:=by
    rw [List.take_add_one,List.getD_eq_getElem?_getD,List.getElem?_eq_getElem (by rw [HN.out]; exact hlt)]; rfl
   have hfew:=HNN.out _ hmem
   rw [hr] at hx htk hfew
   have hnx : Ap.best f (l.take (k + 1)) = Ap.best1 f (o,q) r:=by
    rw [htk,← hst]; unfold Ap.best; rw [List.foldl_append]; rfl
   have x0:=hx 0 _ rfl
   have x1:=hx 1 _ rfl
   have x2:=hx 2 _ rfl
   have x3:=hx 3 _ rfl
   rw [Nat.add_zero] at x0
   obtain ⟨V2,hV2⟩ : ∃ z,wr.alloc (.cells (raC r).toArray 152) = z:=⟨_,rfl⟩
   have hb2 : Below wr.heap.size wr V2:=by rw [← hV2]; exact (Below.refl _ _).alloc (Nat.le_refl _) _
   obtain ⟨D,hD⟩ : ∃ z,wr.heap.size = z:=⟨_,rfl⟩
   have hr2 : V2.heap[D]? = some (.cells (raC r).toArray 152 (0,0)):=by rw [← hV2,← hD]; exact World.alloc_heap_new _ _
   have hwB:=HB.out
   have hBD : B < D:=by rw [← hD]; exact (Array.getElem?_eq_some_iff.1 hcl).1
   have hbB2 : Below B w V2:=hb.trans (hb2.mono (by omega))
   have hcl2:=(hb2.block B (by omega)).trans hcl
   have KQ:=Lib.hid (HQ.out r V2 hfew ((hbB2.block K (by have:=HK.out.lt; omega)).trans HK.out) ((hbB2.block U (by have:=HU.out.lt; omega)).trans HU.out))
   obtain ⟨y,hy⟩ : ∃ y,f r = y:=⟨_,rfl⟩
   rw [hy] at KQ
   have hb1 : Ap.best1 f (o,q) r = if q < y then (some r,y) else (o,q):=by unfold Ap.best1; rw [hy]
   rw [hb1] at hnx
   obtain ⟨xb,hxb⟩ : ∃ y : ByteArray,(⟨r.1.toArray⟩ : ByteArray) = y:=⟨_,rfl⟩
   obtain ⟨yb,hyb⟩ : ∃ y : ByteArray,(⟨r.2.1.toArray⟩ : ByteArray) = y:=⟨_,rfl⟩
   have hraC : raC r = [.string xb,.string yb,.int .i64 (r.2.2.1 : Int),.int .i64 r.2.2.2]:=by unfold raC tx; rw [hxb,hyb]
   unfold tx at x0 x1
   rw [hxb] at x0
   rw [hyb] at x1
   unfold raV tx at KQ
   rw [hxb,hyb] at KQ
   rw [hraC] at hV2 hr2
   have HNX:=Lib.hid hnx
   have HV2:=Lib.hid hV2
   have HD:=Lib.hid hD
   have HR2:=Lib.hid hr2
   have HB2:=Lib.hid hbB2
   have HC2:=Lib.hid hcl2
   have HRC:=Lib.hid hraC
   have HBD:=Lib.hid hBD
   have HR0:=Lib.hid hr0
   have HBO:=Lib.hid hbb
   clear hst hb hcl hx hr hmem htk hfew hnx hb2 hr2 hbB2 hcl2 hy hb1 hxb hyb hV2 hD hwB hBD hsl hraC hr0 hbb
   go_wp2_with fail
   rw [HV2.out,HD.out]
   refine KQ.out.mono ?_
   rintro e w3 ⟨rfl,hb3⟩
   have hDl:=(Array.getElem?_eq_some_iff.1 HR2.out).1
   have hc3 : w3.heap[B]? = some (.cells (raC r0).toArray 152 (0,0)):=(hb3.block B (by have:=HBD.out; omega)).trans HC2.out
   have hd3 : w3.heap[D]? = some (.cells #[.string xb,.string yb,.int .i64 (r.2.2.1 : Int),.int .i64 r.2.2.2] 152 (0,0)):=(hb3.block D hDl).trans HR2.out
   have HB3:=Lib.hid (HB2.out.trans (hb3.mono (by have:=HBD.out; omega)))
   have e0 : w3.cell? ⟨B,0,none⟩ = some (tx r0.1):=by simp [World.cell?,hc3,raC]
   have e1 : w3.cell? ⟨B,1,none⟩ = some (tx r0.2.1):=by simp [World.cell?,hc3,raC]
   have e2 : w3.cell? ⟨B,2,none⟩ = some (.int .i64 (r0.2.2.1 : Int)):=by simp [World.cell?,hc3,raC]
   have e3 : w3.cell? ⟨B,3,none⟩ = some (.int .i64 r0.2.2.2):=by simp [World.cell?,hc3,raC]
   have z0 : w3.frozen? ⟨B,0,none⟩ = false:=frozen_of_row _ _ _ _ _ hc3
   have z1 : w3.frozen? ⟨B,1,none⟩ = false:=frozen_of_row _ _ _ _ _ hc3
   have z2 : w3.frozen? ⟨B,2,none⟩ = false:=frozen_of_row _ _ _ _ _ hc3
   have z3 : w3.frozen? ⟨B,3,none⟩ = false:=frozen_of_row _ _ _ _ _ hc3
   have d0 : w3.cell? ⟨D,0,none⟩ = some (.string xb):=by simp [World.cell?,hd3]
   have d1 : w3.cell? ⟨D,1,none⟩ = some (.string yb):=by simp [World.cell?,hd3]
   have d2 : w3.cell? ⟨D,2,none⟩ = some (.int .i64 (r.2.2.1 : Int)):=by simp [World.cell?,hd3]
   have d3 : w3.cell? ⟨D,3,none⟩ = some (.int .i64 r.2.2.2):=by simp [World.cell?,hd3]
   have HC3:=Lib.hid hc3
   unfold tx at e0 e1
   clear hb3 hc3 hd3 x0 x1 x2 x3 hDl
   by_cases hqy : q < y
   ·rw [if_pos hqy] at HNX
    go_wp2_with fail
    have hc:=HC3.out
    obtain ⟨u0,hu0⟩ : ∃ z,tx r0.1 = z:=⟨_,rfl⟩
    obtain ⟨u1,hu1⟩ : ∃ z,tx r0.2.1 = z:=⟨_,rfl⟩
    unfold raC at hc
    rw [hu0,hu1] at hc
    have a1 : (w3.setCell ⟨B,0,none⟩ (.string xb)).heap[B]? = some (.cells #[.string xb,u1,.int .i64 (r0.2.2.1 : Int),.int .i64 r0.2.2.2] 152 (0,0)):=(heap_setCell_same w3 B 0 _ _ _ hc).trans (by simp)
    have a2 : ((w3.setCell ⟨B,0,none⟩ (.string xb)).setCell ⟨B,1,none⟩ (.string yb)).heap[B]? = some (.cells #[.string xb,.string yb,.int .i64 (r0.2.2.1 : Int),.int .i64 r0.2.2.2] 152 (0,0)):=(heap_setCell_same _ B 1 _ _ _ a1).trans (by simp)
    have a3 : (((w3.setCell ⟨B,0,none⟩ (.string xb)).setCell ⟨B,1,none⟩ (.string yb)).setCell ⟨B,2,none⟩ (.int .i64 (r.2.2.1 : Int))).heap[B]? = some (.cells #[.string xb,.string yb,.int .i64 (r.2.2.1 : Int),.int .i64 r0.2.2.2] 152 (0,0)):=(heap_setCell_same _ B 2 _ _ _ a2).trans (by simp)
    have a4 : ((((w3.setCell ⟨B,0,none⟩ (.string xb)).setCell ⟨B,1,none⟩ (.string yb)).setCell ⟨B,2,none⟩ (.int .i64 (r.2.2.1 : Int))).setCell ⟨B,3,none⟩ (.int .i64 r.2.2.2)).heap[B]? = some (.cells #[.string xb,.string yb,.int .i64 (r.2.2.1 : Int),.int .i64 r.2.2.2] 152 (0,0)):=(heap_setCell_same _ B 3 _ _ _ a3).trans (by simp)
    have B4 : Below B w ((((w3.setCell ⟨B,0,none⟩ (.string xb)).setCell ⟨B,1,none⟩ (.string yb)).setCell ⟨B,2,none⟩ (.int .i64 (r.2.2.1 : Int))).setCell ⟨B,3,none⟩ (.int .i64 r.2.2.2)) :=
     (((HB3.out.setCell (p:=⟨B,0,none⟩) (Nat.le_refl _) _).setCell (p:=⟨B,1,none⟩) (Nat.le_refl _) _).setCell (p:=⟨B,2,none⟩) (Nat.le_refl _) _).setCell (p:=⟨B,3,none⟩) (Nat.le_refl _) _
    rw [← HRC.out] at a4
    have HA4:=Lib.hid a4
    have HB4:=Lib.hid B4
    clear hc hu0 hu1 a1 a2 a3 a4 B4 hqy
    go_roundw
    case rel => exact ⟨k + 1,some r,y,hlt,by go_num,rfl,rfl,HNX.out,HB4.out,HA4.out⟩
    case measure => simp [intOf]; omega
   ·rw [if_neg hqy] at HNX
    go_wp2_with fail
    go_roundw
    case rel => exact ⟨k + 1,o,q,hlt,by go_num,by rw [HBO.out],rfl,HNX.out,HB3.out,by rw [HR0.out]; exact HC3.out⟩
    case measure => simp [intOf]; omega
  ·obtain rfl : k = N:=by omega
   have hI : ¬ (k : Int) < (k : Int):=by omega
   rw [List.take_of_length_le (by rw [HN.out]; exact Nat.le_refl _)] at hst
   have HST:=Lib.hid hst
   have HBB:=Lib.hid hb
   have HCC:=Lib.hid hcl
   have e0 : wr.cell? ⟨B,0,none⟩ = some (.string ⟨r0.1.toArray⟩):=by simp [World.cell?,hcl,raC,tx]
   have e1 : wr.cell? ⟨B,1,none⟩ = some (.string ⟨r0.2.1.toArray⟩):=by simp [World.cell?,hcl,raC,tx]
   have e2 : wr.cell? ⟨B,2,none⟩ = some (.int .i64 (r0.2.2.1 : Int)):=by simp [World.cell?,hcl,raC]
   have e3 : wr.cell? ⟨B,3,none⟩ = some (.int .i64 r0.2.2.2):=by simp [World.cell?,hcl,raC]
   have z0 : wr.frozen? ⟨B,0,none⟩ = false:=frozen_of_row _ _ _ _ _ hcl
   have z1 : wr.frozen? ⟨B,1,none⟩ = false:=frozen_of_row _ _ _ _ _ hcl
   have z2 : wr.frozen? ⟨B,2,none⟩ = false:=frozen_of_row _ _ _ _ _ hcl
   have z3 : wr.frozen? ⟨B,3,none⟩ = false:=frozen_of_row _ _ _ _ _ hcl
   clear hst hb hcl
   go_wp2_with fail
   have hf4:=set4 (a':=.string ⟨r0.1.toArray⟩) (b':=.string ⟨r0.2.1.toArray⟩) (c':=.int .i64 (r0.2.2.1 : Int)) (d':=.int .i64 r0.2.2.2) HCC.out
   have B4:=(((HBB.out.setCell (p:=⟨B,0,none⟩) (Nat.le_refl _) (.string ⟨r0.1.toArray⟩)).setCell (p:=⟨B,1,none⟩) (Nat.le_refl _) (.string ⟨r0.2.1.toArray⟩)).setCell (p:=⟨B,2,none⟩) (Nat.le_refl _) (.int .i64 (r0.2.2.1 : Int))).setCell (p:=⟨B,3,none⟩) (Nat.le_refl _) (.int .i64 r0.2.2.2)
   obtain ⟨W4,hW4⟩ : ∃ y,(((wr.setCell ⟨B,0,none⟩ (.string ⟨r0.1.toArray⟩)).setCell ⟨B,1,none⟩ (.string ⟨r0.2.1.toArray⟩)).setCell ⟨B,2,none⟩ (.int .i64 (r0.2.2.1 : Int))).setCell ⟨B,3,none⟩ (.int .i64 r0.2.2.2) = y:=⟨_,rfl⟩
   rw [hW4] at hf4 B4 ⊢
   have c0 : W4.cell? ⟨B,0,none⟩ = some (.string ⟨r0.1.toArray⟩):=by simp [World.cell?,hf4]
   have c1 : W4.cell? ⟨B,1,none⟩ = some (.string ⟨r0.2.1.toArray⟩):=by simp [World.cell?,hf4]
   have c2 : W4.cell? ⟨B,2,none⟩ = some (.int .i64 (r0.2.2.1 : Int)):=by simp [World.cell?,hf4]
   have c3 : W4.cell? ⟨B,3,none⟩ = some (.int .i64 r0.2.2.2):=by simp [World.cell?,hf4]
   refine bodyPost_ret (v:=.tuple #[.agg #[.string ⟨r0.1.toArray⟩,.string ⟨r0.2.1.toArray⟩,.int .i64 (r0.2.2.1 : Int),.int .i64 r0.2.2.2],.bool b]) (by simp [results,Tryz.results160,go_sem,c0,c1,c2,c3]) rfl ⟨?_,B4⟩
   rw [HST.out]
   unfold bestV
   simp only
   rw [hbb,hr0]
   rfl
end Go.Proofs.YtfacmnooklljnaaGreatDoor
namespace Go.Proofs.YtfacmnooklljnaaGreatDoor
namespace Ap
theorem fig_le {c : UInt8} (h : fig c = true) : 48 ≤ (c.toNat : Int) ∧ (c.toNat : Int) ≤ 57:=by unfold fig at h; simpa using h
theorem num_three {l : List UInt8} (h : l.all fig = true) (h3 : l.length = 3) : 0 ≤ num l ∧ num l ≤ 999:=by
 match l,h3 with
 | [a,b,c],_ =>
  simp only [List.all_cons,List.all_nil,Bool.and_true,Bool.and_eq_true] at h
  have ha:=fig_le h.1
  have hb:=fig_le h.2.1
  have hc:=fig_le h.2.2
  unfold num
  simp only [List.foldl_cons,List.foldl_nil]
  omega
theorem thou_le {s : List UInt8} {q : Int} (h : thou s = some q) : 0 ≤ q ∧ q ≤ 1000:=by
 unfold thou at h
 split at h
 ·rename_i hc
  obtain ⟨h1,h2,h3⟩:=hc
  have h4:=num_three h3 (by rw [List.length_append,List.length_drop]; simp; omega)
  split at h
  ·split at h
   ·cases h; omega
   ·cases h
  ·cases h; omega
 ·cases h
def StOk (n : Nat) (st : Nat × Int × Bool) : Prop:=st.1 ≤ n ∧ 0 ≤ st.2.1 ∧ st.2.1 ≤ 1000
theorem take1_ok {n : Nat} {st st' : Nat × Int × Bool} {s : List UInt8} (h : take1 st s = some st') (hs : StOk n st) : StOk (n + 1) st':=by
 unfold take1 at h
 split at h
 ·cases h; exact ⟨Nat.le_succ_of_le hs.1,hs.2⟩
 ·cases hp : par s with
  | none => rw [hp] at h; cases h
  | some nv =>
   rw [hp] at h
   simp only [Option.bind_some] at h
   split at h
   ·cases h; exact ⟨Nat.le_succ_of_le hs.1,hs.2⟩
   ·split at h
    ·cases ht : thou nv.2 with
     | none => rw [ht] at h; cases h
     | some q =>
      rw [ht] at h
      cases h
      exact ⟨Nat.le_succ_of_le hs.1,thou_le ht⟩
    ·cases h; exact ⟨Nat.succ_le_succ hs.1,hs.2⟩
theorem takes_ok : ∀ {L : List (List UInt8)} {n : Nat} {st st' : Nat × Int × Bool},takes L st = some st' → StOk n st → StOk (n + L.length) st'
 | [],n,st,st',h,hs => by cases h; exact hs
 | s :: L,n,st,st',h,hs => by
  unfold takes at h
  cases ht : take1 st s with
  | none => rw [ht] at h; cases h
  | some st2 =>
   rw [ht] at h
   have:=takes_ok (n:=n + 1) h (take1_ok ht hs)
   rw [List.length_cons,show n + (L.length + 1) = n + 1 + L.length by omega]
   exact this
theorem one_ok {s : List UInt8} {r : Ra} (h : one s = some r) : r.2.2.1 ≤ s.length + 1 ∧ 0 ≤ r.2.2.2 ∧ r.2.2.2 ≤ 1000:=by
 unfold one at h
 split at h
 ·cases ht : takes ((all s 59).drop 1) (0,1000,false) with
  | none => rw [ht] at h; cases h
  | some st =>
   rw [ht] at h
   cases h
   have h1:=takes_ok (n:=0) ht ⟨Nat.le_refl _,by decide,by decide⟩
   have h2:=all_len s 59
   rw [List.length_drop] at h1
   exact ⟨by have:=h1.1; show st.1 ≤ _; omega,h1.2⟩
 ·cases h
theorem rd_ok (P : Ra → Prop) : ∀ {L : List (List UInt8)} {acc l : List Ra},rd L acc = some l → (∀ r ∈ acc,P r) → (∀ p ∈ L,∀ r,one p = some r → P r) → (∀ r ∈ l,P r) ∧ l.length ≤ acc.length + L.length
 | [],acc,l,h,ha,_ => by cases h; exact ⟨ha,Nat.le_refl _⟩
 | p :: L,acc,l,h,ha,hp => by
  unfold rd at h
  split at h
  ·have:=rd_ok P h ha (fun q hq => hp q (List.mem_cons_of_mem _ hq))
   exact ⟨this.1,by rw [List.length_cons]; omega⟩
  ·cases ho : one p with
   | none => rw [ho] at h; cases h
   | some r =>
    rw [ho] at h
    have:=rd_ok P (acc:=acc ++ [r]) h (fun x hx => by
     rcases List.mem_append.1 hx with h1 | h1
     ·exact ha x h1
     ·rw [List.mem_singleton] at h1
      subst h1
      exact hp p (List.mem_cons_self ..) _ ho) (fun q hq => hp q (List.mem_cons_of_mem _ hq))
    refine ⟨this.1,?_⟩
    have h2:=this.2
    rw [List.length_append,List.length_singleton] at h2
    rw [List.length_cons]; omega
theorem parse_ok {s : List UInt8} {l : List Ra} (h : parse s = some l) : (∀ r ∈ l,r.2.2.1 ≤ s.length + 1 ∧ 0 ≤ r.2.2.2 ∧ r.2.2.2 ≤ 1000) ∧ l.length ≤ s.length + 1:=by
 unfold parse at h
 split at h
 ·have h1:=rd_ok (fun r => r.2.2.1 ≤ s.length + 1 ∧ 0 ≤ r.2.2.2 ∧ r.2.2.2 ≤ 1000) h (fun r hr => by cases hr) (fun p hp r hr => by
   have h2:=one_ok hr
   have h3:=all_mem hp
   exact ⟨by omega,h2.2⟩)
  have h4:=all_len s 44
  exact ⟨h1.1,by have:=h1.2; simp at this; omega⟩
 ·cases h
end Ap
end Go.Proofs.YtfacmnooklljnaaGreatDoor
namespace Go.Proofs.YtfacmnooklljnaaGreatDoor
open Go.RowKit Go.Shelf
attribute [local go_sem] Oper.semAt_some
set_option maxHeartbeats 8000000
set_option maxRecDepth 100000
def quV (o : Option Int) : Value:=match o with
 | some q => .tuple #[.int .i64 q,.int .i64 0]
 | none => .tuple #[.int .i64 0,.int .i64 220]
def obQ (ob : Option Ap.Ra) : Int:=match ob with
 | none => 0
 | some r => r.2.2.2
theorem ac_Quality (s k u : ByteArray) (w : World) (hs : s.size ≤ 100000) :
  Calls Tryz.prog 137 #[.string s,.string k,.string u] w fun e w' => e = .returned (quV (Ap.qual s.data.toList k.toList u.toList)) ∧ Below w.heap.size w w':=by
 have hsl : s.data.toList.length = s.size:=rfl
 obtain ⟨o,ho⟩ : ∃ y,Ap.parse s.data.toList = y:=⟨_,rfl⟩
 have hqu : Ap.qual s.data.toList k.toList u.toList = o.map fun l => if l = [] then 1000 else obQ (Ap.best (fun r => Ap.fits r k.toList u.toList) l).1:=by rw [← ho]; rfl
 rw [hqu]
 have hok : ∀ l,o = some l → (∀ r ∈ l,r.2.2.1 < 2000000) ∧ l.length ≤ 1000000:=fun l hl => by
  have h:=Ap.parse_ok (ho.trans hl)
  exact ⟨fun r hr => by have:=(h.1 r hr).1; omega,by omega⟩
 have KP:=Lib.hid (fun W => by
  have h:=ac_Parse s W hs
  rw [ho] at h
  exact h)
 obtain ⟨V,hV⟩ : ∃ z,(w.alloc (.cells #[.string k] 9)).alloc (.cells #[.string u] 9) = z:=⟨_,rfl⟩
 have hb : Below w.heap.size w V:=by rw [← hV]; exact ((Below.refl _ _).alloc (Nat.le_refl _) _).alloc (by simp) _
 obtain ⟨B,hB⟩ : ∃ z,w.heap.size = z:=⟨_,rfl⟩
 have hK : Boxed V B 9 (.string k):=by rw [← hV,← hB]; exact (Boxed.new _ _ _).alloc _
 have hU : Boxed V (B + 1) 9 (.string u):=by
  have h:=Boxed.new (w.alloc (.cells #[.string k] 9)) 9 (.string u)
  rw [hV] at h
  simpa [hB] using h
 have HB:=Lib.hid hB
 have HV:=Lib.hid hV
 have HBV:=Lib.hid hb
 have HK:=Lib.hid hK
 have HU:=Lib.hid hU
 have HOK:=Lib.hid hok
 clear hqu hok hV hb hB hK hU ho
 go_enter Tryz.func137,Tryz.ntmps137
 go_wp2_with fail
 rw [HV.out,HB.out]
 refine (KP.out _).mono ?_
 rintro e w2 ⟨hb2,hpo⟩
 have HB2:=Lib.hid (HBV.out.trans (hb2.mono HBV.out.size))
 have HK2:=Lib.hid (boxed_below HK.out hb2)
 have HU2:=Lib.hid (boxed_below HU.out hb2)
 cases o with
 | none =>
  obtain rfl:=hpo
  clear hb2
  go_wp2_with fail
  exact bodyPost_ret (v:=.tuple #[.int .i64 0,.int .i64 220]) (by simp [results,Tryz.results137,go_sem]) rfl ⟨rfl,HB.out ▸ HB2.out⟩
 | some l =>
  obtain ⟨v,rfl,hown⟩:=hpo
  have hin : Rin raC 4 ra0 w2 v l:=Rin.of_own raC_len (by decide) hown
  obtain ⟨p,c,rfl⟩:=hin.slice
  obtain ⟨h1,h2⟩:=HOK.out l rfl
  have HIN:=Lib.hid hin
  have HH1:=Lib.hid h1
  have HH2:=Lib.hid h2
  clear hb2 hown hin h1
  by_cases hl0 : l.length = 0
  ·obtain rfl : l = []:=List.eq_nil_of_length_eq_zero hl0
   clear hl0 h2
   go_wp2_with fail
   exact bodyPost_ret (v:=.tuple #[.int .i64 1000,.int .i64 0]) (by simp [results,Tryz.results137,go_sem]) rfl ⟨by simp [quV],HB.out ▸ HB2.out⟩
  ·have hI : ¬ ((l.length : Nat) : Int) = 0:=by omega
   have hne : l ≠ []:=fun h => hl0 (by rw [h]; rfl)
   have HNE:=Lib.hid hne
   have KB:=Lib.hid (ac_best (.slice p l.length c) l k u B (B + 1) w2 HIN.out HH2.out HH1.out HK2.out HU2.out)
   obtain ⟨N,hN⟩ : ∃ z,l.length = z:=⟨_,rfl⟩
   rw [hN] at KB hl0 h2 ⊢
   rw [hN] at hI
   obtain ⟨⟨ob,m⟩,hob⟩ : ∃ y,Ap.best (fun r => Ap.fits r k.toList u.toList) l = y:=⟨_,rfl⟩
   rw [hob] at KB
   have HQ:=Lib.hid (show quV ((some l : Option (List Ap.Ra)).map fun l => if l = [] then 1000 else obQ (Ap.best (fun r => Ap.fits r k.toList u.toList) l).1) = .tuple #[.int .i64 (obQ ob),.int .i64 0] by
     show Value.tuple #[.int .i64 (if l = [] then 1000 else _),.int .i64 0] = _
     rw [if_neg hne,hob])
   unfold bestV raV tx at KB
   dsimp only at KB
   clear hN hne hob
   go_wp2_with fail
   refine KB.out.mono ?_
   rintro e w3 ⟨rfl,hb3⟩
   have HB3:=Lib.hid (HB2.out.trans (hb3.mono HB2.out.size))
   clear hb3
   cases ob with
   | none =>
    go_wp2_with fail
    exact bodyPost_ret (v:=.tuple #[.int .i64 0,.int .i64 0]) (by simp [results,Tryz.results137,go_sem]) rfl ⟨by rw [HQ.out]; rfl,HB.out ▸ HB3.out.alloc HB3.out.size _⟩
   | some r =>
    go_wp2_with fail
    exact bodyPost_ret (v:=.tuple #[.int .i64 r.2.2.2,.int .i64 0]) (by simp [results,Tryz.results137,go_sem]) rfl ⟨by rw [HQ.out]; rfl,HB.out ▸ HB3.out.alloc HB3.out.size _⟩
def takesB (o : Option Int) : Bool:=match o with
 | some q => decide (0 < q)
 | none => false
theorem ac_Takes (s k u : ByteArray) (w : World) (hs : s.size ≤ 100000) :
  Calls Tryz.prog 112 #[.string s,.string k,.string u] w fun e w' => e = .returned (.bool (takesB (Ap.qual s.data.toList k.toList u.toList))) ∧ Below w.heap.size w w':=by
 have KQ:=Lib.hid (ac_Quality s k u w hs)
 obtain ⟨o,ho⟩ : ∃ y,Ap.qual s.data.toList k.toList u.toList = y:=⟨_,rfl⟩
 rw [ho] at KQ ⊢
 clear ho
 go_enter Tryz.func112,Tryz.ntmps112
 go_wp2_with fail
 refine KQ.out.mono ?_
 rintro e w2 ⟨rfl,hb⟩
 have HB:=Lib.hid hb
 clear hb KQ
 cases o with
 | none =>
  unfold quV
  dsimp only
  go_wp2_with fail
  exact bodyPost_ret (v:=.bool false) (by simp [results,Tryz.results112,go_sem]) rfl ⟨rfl,HB.out⟩
 | some q =>
  unfold quV
  dsimp only
  go_wp2_with fail
  exact bodyPost_ret (v:=.bool (decide (0 < q))) (by simp [results,Tryz.results112,go_sem]) rfl ⟨rfl,HB.out⟩
end Go.Proofs.YtfacmnooklljnaaGreatDoor
namespace Go.Proofs.YtfacmnooklljnaaGreatDoor
open Go.RowKit
theorem dec_add (a b : Int) (w : World) (ha : Dp.U a) (hb : Dp.U b) :
  Calls Tryz.prog 175 #[.int .u64 a,.int .u64 b] w fun e w' => e = .returned (.tuple #[.int .u64 (Dp.addN a b),.int .i64 (Dp.addE a b)]) ∧ w = w':=by
 go_enter Tryz.func175,Tryz.ntmps175
 go_wp2
 all_goals go_ret2
 all_goals (refine ⟨ret_pair ?_ ?_,rfl⟩ <;> simp only [Dp.U,IntKind.wrap_u64,Dp.addN,Dp.addE] at * <;> split <;> omega)
theorem mul_test {a b : Int} (ha : Dp.U a) (hb : Dp.U b) (h0 : a ≠ 0) : (IntKind.u64.wrap ((IntKind.u64.wrap (a * b)).tdiv a) != b) = !decide (a * b < 18446744073709551616):=by
 have h:=Dp.mul_div ha hb h0
 have hp : 0 ≤ a * b:=Int.mul_nonneg ha.1 hb.1
 unfold Dp.U at ha hb
 have hm : 0 ≤ (a * b) % 18446744073709551616 ∧ (a * b) % 18446744073709551616 < 18446744073709551616:=by omega
 have e1 : IntKind.u64.wrap ((IntKind.u64.wrap (a * b)).tdiv a) = ((a * b) % 18446744073709551616) / a:=by
  rw [IntKind.wrap_u64,IntKind.wrap_u64,Int.tdiv_eq_ediv_of_nonneg hm.1]
  have h1 : 0 ≤ ((a * b) % 18446744073709551616) / a:=Int.ediv_nonneg hm.1 ha.1
  have h2 : ((a * b) % 18446744073709551616) / a ≤ (a * b) % 18446744073709551616:=Int.ediv_le_self _ hm.1
  omega
 rw [e1]
 by_cases hc : a * b < 18446744073709551616
 ·rw [decide_eq_true hc]
  have:=h.2 hc
  simp [this]
 ·rw [decide_eq_false hc]
  have : ¬ _:=fun x => hc (h.1 x)
  simpa using this
theorem dec_mul (a b : Int) (w : World) (ha : Dp.U a) (hb : Dp.U b) :
  Calls Tryz.prog 174 #[.int .u64 a,.int .u64 b] w fun e w' => e = .returned (.tuple #[.int .u64 (Dp.mulN a b),.int .i64 (Dp.mulE a b)]) ∧ w = w':=by
 have hp : 0 ≤ a * b:=Int.mul_nonneg ha.1 hb.1
 by_cases h0 : a = 0
 ·subst h0
  go_enter Tryz.func174,Tryz.ntmps174
  go_wp2
  go_ret2
  refine ⟨ret_pair ?_ ?_,rfl⟩ <;> simp [Dp.mulN,Dp.mulE,IntKind.wrap_u64]
 ·have h1 : (a != 0) = true:=bne_iff_ne.2 h0
  by_cases hc : a * b < 18446744073709551616
  ·have H1:=Lib.hid (show Dp.mulN a b = a * b from if_pos hc)
   have H2:=Lib.hid (show Dp.mulE a b = 0 from if_pos hc)
   have H3:=Lib.hid (show IntKind.u64.wrap (a * b) = a * b from by rw [IntKind.wrap_u64]; omega)
   have ht : (IntKind.u64.wrap ((IntKind.u64.wrap (a * b)).tdiv a) != b) = false:=by rw [mul_test ha hb h0,decide_eq_true hc]; rfl
   clear hc hp
   go_enter Tryz.func174,Tryz.ntmps174
   go_wp2
   go_ret2
   exact ⟨ret_pair (H3.out.trans H1.out.symm) H2.out.symm,rfl⟩
  ·have H1:=Lib.hid (show Dp.mulN a b = 0 from if_neg hc)
   have H2:=Lib.hid (show Dp.mulE a b = 111 from if_neg hc)
   have ht : (IntKind.u64.wrap ((IntKind.u64.wrap (a * b)).tdiv a) != b) = true:=by rw [mul_test ha hb h0,decide_eq_false hc]; rfl
   clear hc hp
   go_enter Tryz.func174,Tryz.ntmps174
   go_wp2
   go_ret2
   exact ⟨ret_pair H1.out.symm H2.out.symm,rfl⟩
end Go.Proofs.YtfacmnooklljnaaGreatDoor
namespace Go.Proofs.YtfacmnooklljnaaGreatDoor
open Go.RowKit
set_option maxHeartbeats 400000
theorem strings_indexByte (s : ByteArray) (c : Int) (w : World) :
  Calls Tryz.prog 169 #[.string s,.int .u8 c] w fun e w' => e = .returned (.int .i64 (Lib.indexByte s.data.toList c.toNat.toUInt8)) ∧ w = w' :=
 (Tryz.strings_IndexByte s c w).mono fun _ _ h => ⟨h.1,h.2.symm⟩
theorem val_ten {c : Int} (h0 : 0 ≤ c) (h1 : c < 256) : Lib.indexByte (Dp.known 10) c.toNat.toUInt8 = Dp.valV 10 c:=by
 obtain ⟨n,rfl⟩:=Int.eq_ofNat_of_zero_le h0
 exact Dp.index_ten ⟨n,by omega⟩
theorem val_hex_low {c : Int} (h0 : 0 ≤ c) (h1 : c < 256) (h : ¬ (65 ≤ c ∧ c ≤ 70)) : Lib.indexByte (Dp.known 16) c.toNat.toUInt8 = Dp.valV 16 c:=by
 obtain ⟨n,rfl⟩:=Int.eq_ofNat_of_zero_le h0
 have:=Dp.index_hex ⟨n,by omega⟩
 simp only [show ¬ (65 ≤ n ∧ n ≤ 70) by omega,if_false] at this
 exact this
theorem val_hex_up {c : Int} (h : 65 ≤ c ∧ c ≤ 70) : Lib.indexByte (Dp.known 16) (c + 32).toNat.toUInt8 = Dp.valV 16 c:=by
 obtain ⟨n,rfl⟩:=Int.eq_ofNat_of_zero_le (show 0 ≤ c by omega)
 have:=Dp.index_hex ⟨n,by omega⟩
 simp only [show (65 ≤ n ∧ n ≤ 70) by omega,and_self,if_true] at this
 exact this
theorem val_any (b : Int) (hb : b = 10 ∨ b = 16) (c : Int) (rb kb : Nat) (w : World) (h0 : 0 ≤ c) (h1 : c < 256) (hr : w.cell? ⟨rb,1,none⟩ = some (.int .i64 b)) (hk : w.cell? ⟨kb,0,none⟩ = some (.string ⟨(Dp.known b).toArray⟩)) :
  Calls Tryz.prog 168 #[.int .u8 c,.pointer (some ⟨rb,0,none⟩),.pointer (some ⟨kb,0,none⟩)] w fun e w' => e = .returned (.int .i64 (Dp.valV b c)) ∧ w = w':=by
 have H10 : Hid (Lib.indexByte (Dp.known 10) c.toNat.toUInt8 = Dp.valV 10 c):=val_ten h0 h1
 rcases hb with rfl | rfl
 ·go_enter Tryz.func168,Tryz.ntmps168
  go_wp2_with fail
  refine (strings_indexByte _ _ _).mono ?_
  rintro e w' ⟨rfl,rfl⟩
  go_wp2
  go_ret
  exact ⟨ret_int H10.out,rfl⟩
 ·by_cases h : 65 ≤ c ∧ c ≤ 70
  ·have H:=Lib.hid (val_hex_up h)
   obtain ⟨h2,h3⟩:=h
   go_enter Tryz.func168,Tryz.ntmps168
   go_wp2_with fail
   refine (strings_indexByte _ _ _).mono ?_
   rintro e w' ⟨rfl,rfl⟩
   go_wp2
   go_ret
   exact ⟨ret_int H.out,rfl⟩
  ·have H:=Lib.hid (val_hex_low h0 h1 h)
   go_enter Tryz.func168,Tryz.ntmps168
   go_wp2_with fail
   all_goals (try (exfalso; omega))
   all_goals (
    refine (strings_indexByte _ _ _).mono ?_
    rintro e w' ⟨rfl,rfl⟩
    go_wp2
    go_ret
    exact ⟨ret_int H.out,rfl⟩)
theorem is_any (b : Int) (hb : b = 10 ∨ b = 16) (c : Int) (rb kb vb : Nat) (w : World) (h0 : 0 ≤ c) (h1 : c < 256) (hr : w.cell? ⟨rb,1,none⟩ = some (.int .i64 b)) (hk : w.cell? ⟨kb,0,none⟩ = some (.string ⟨(Dp.known b).toArray⟩))
  (hv : w.cell? ⟨vb,0,none⟩ = some (.func (.func 168) #[] #[.pointer (some ⟨rb,0,none⟩),.pointer (some ⟨kb,0,none⟩)])) :
  Calls Tryz.prog 171 #[.int .u8 c,.pointer (some ⟨vb,0,none⟩)] w fun e w' => e = .returned (.bool (decide (Dp.digV c < b))) ∧ w = w':=by
 have K:=Lib.hid (val_any b hb c rb kb w h0 h1 hr hk)
 clear hr hk
 go_enter Tryz.func171,Tryz.ntmps171
 go_wp2_with fail
 refine K.out.mono ?_
 rintro e w' ⟨rfl,rfl⟩
 go_wp2
 go_ret
 refine ⟨?_,rfl⟩
 have:=Dp.digV_lo c
 congr 2
 unfold Dp.valV
 simp
 split <;> omega
theorem digits_any (b : Int) (hb : b = 10 ∨ b = 16) (s : ByteArray) (rb kb vb : Nat) (w : World) (hs : s.size ≤ 1000000) (hr : w.cell? ⟨rb,1,none⟩ = some (.int .i64 b)) (hk : w.cell? ⟨kb,0,none⟩ = some (.string ⟨(Dp.known b).toArray⟩))
  (hv : w.cell? ⟨vb,0,none⟩ = some (.func (.func 168) #[] #[.pointer (some ⟨rb,0,none⟩),.pointer (some ⟨kb,0,none⟩)])) :
  Calls Tryz.prog 170 #[.agg #[.string s],.func (.func 171) #[] #[.pointer (some ⟨vb,0,none⟩)]] w fun e w' =>
   e = .returned (.bool (!s.data.toList.isEmpty && Dp.allD b s.data.toList)) ∧ w.alloc (.cells #[.string s] 184) = w':=by
 go_enter Tryz.func170,Tryz.ntmps170
 have K:=Lib.hid (fun (c : Int) (W : World) (h0 : 0 ≤ c) (h1 : c < 256) (hW : Below w.heap.size w W) => is_any b hb c rb kb vb W h0 h1 (cell_below hW hr) (cell_below hW hk) (cell_below hW hv))
 clear hr hk hv
 go_wp2_with fail
 go_loop [5,9] (fun _ i => ∃ k : Nat,k ≤ s.size ∧ i = .int .i64 k ∧ Dp.allD b (s.data.toList.take k) = true) (fun _ i => s.size - (intOf i).toNat)
 case atStart => exact ⟨0,Nat.zero_le _,rfl,rfl⟩
 case round =>
  obtain ⟨k,hk,rfl,hall⟩:=hrel
  have HA:=Lib.hid hall
  clear hall
  by_cases hlt : k < s.size
  ·have hb0 : 0 ≤ ((s[k]).toNat : Int):=by omega
   have hb1 : ((s[k]).toNat : Int) < 256:=by have:=(s[k]).toNat_lt; omega
   go_wp2_with fail
   refine (K.out _ _ hb0 hb1 ((Below.refl _ _).alloc (Nat.le_refl _) _)).mono ?_
   rintro e w' ⟨rfl,rfl⟩
   have HT:=Lib.hid (take_snoc s k hlt)
   generalize hd : decide (Dp.digV ((s[k]).toNat : Int) < b) = d
   have HD:=Lib.hid hd
   clear hd
   cases d
   ·go_wp2
    go_ret
    refine ⟨ret_bool ?_,rfl⟩
    have hn:=Dp.allD_no (b:=b) (l:=s.data.toList) (k:=k) (by simpa using hlt) (by exact HD.out)
    rw [hn]
    simp
   ·go_wp2
    go_round
    case rel => exact ⟨k + 1,by omega,by go_num,by rw [HT.out]; unfold Dp.allD at *; rw [List.all_append,HA.out]; simpa using HD.out⟩
    case measure => simp [intOf]; omega
  ·go_wp2
   go_ret
   refine ⟨ret_bool ?_,rfl⟩
   have h1 : s.data.toList.take k = s.data.toList:=List.take_of_length_le (by simp; omega)
   have h2:=HA.out
   rw [h1] at h2
   rw [h2]
   simp [ByteArray.toList_eq]
end Go.Proofs.YtfacmnooklljnaaGreatDoor
namespace Go.Proofs.YtfacmnooklljnaaGreatDoor
open Go.RowKit
set_option maxHeartbeats 400000
def Env (w : World) (b : Int) (rb kb vb : Nat) : Prop :=
 w.cell? ⟨rb,1,none⟩ = some (.int .i64 b) ∧ w.cell? ⟨kb,0,none⟩ = some (.string ⟨(Dp.known b).toArray⟩) ∧
 w.cell? ⟨vb,0,none⟩ = some (.func (.func 168) #[] #[.pointer (some ⟨rb,0,none⟩),.pointer (some ⟨kb,0,none⟩)])
theorem Env.below {w w' : World} {b : Int} {rb kb vb : Nat} (h : Env w b rb kb vb) (hb : Below w.heap.size w w') : Env w' b rb kb vb :=
 ⟨cell_below hb h.1,cell_below hb h.2.1,cell_below hb h.2.2⟩
def stepN (b n c : Int) : Int:=if Dp.mulE n b = 0 then Dp.addN (Dp.mulN n b) (Dp.digV c) else 0
def stepE (b n c : Int) : Int:=if Dp.mulE n b = 0 then Dp.addE (Dp.mulN n b) (Dp.digV c) else Dp.mulE n b
theorem step_any (b : Int) (hb : b = 10 ∨ b = 16) (n c : Int) (rb kb vb : Nat) (w : World) (hn : Dp.U n) (h0 : 0 ≤ c) (h1 : c < 256) (hd : Dp.digV c < b) (hE : Env w b rb kb vb) :
  Calls Tryz.prog 173 #[.int .u64 n,.int .u8 c,.pointer (some ⟨rb,0,none⟩),.pointer (some ⟨vb,0,none⟩)] w fun e w' => e = .returned (.tuple #[.int .u64 (stepN b n c),.int .i64 (stepE b n c)]) ∧ w = w':=by
 have hbU : Dp.U b:=by unfold Dp.U; omega
 have hb0 : 0 ≤ b:=by omega
 have hb1 : b < 18446744073709551616:=by omega
 have K:=Lib.hid (val_any b hb c rb kb w h0 h1 hE.1 hE.2.1)
 have hr:=hE.1
 have hv:=hE.2.2
 have M:=Lib.hid (dec_mul n b w hn hbU)
 have hS1:=Lib.hid (show stepN b n c = if Dp.mulE n b = 0 then Dp.addN (Dp.mulN n b) (Dp.digV c) else 0 from rfl)
 have hS2:=Lib.hid (show stepE b n c = if Dp.mulE n b = 0 then Dp.addE (Dp.mulN n b) (Dp.digV c) else Dp.mulE n b from rfl)
 have HV:=Lib.hid (show Dp.valV b c = Dp.digV c from if_pos hd)
 have HW:=Lib.hid (show IntKind.u64.wrap (Dp.digV c) = Dp.digV c from by have:=Dp.digV_lo c; rw [IntKind.wrap_u64]; omega)
 have A:=Lib.hid (dec_add (Dp.mulN n b) (Dp.digV c) w (Dp.mulN_U hn hbU) (Dp.digit_U c))
 clear hE hd hb hbU hn
 go_enter Tryz.func173,Tryz.ntmps173
 go_wp2_with fail
 refine M.out.mono ?_
 rintro e w' ⟨rfl,rfl⟩
 obtain ⟨m,hm⟩ : ∃ m,Dp.mulE n b = m:=⟨_,rfl⟩
 rw [hm]
 have Hm:=Lib.hid hm
 clear hm
 by_cases hm0 : m = 0
 ·subst hm0
  go_wp2_with fail
  refine K.out.mono ?_
  rintro e w' ⟨rfl,rfl⟩
  rw [HV.out]
  go_wp2_with fail
  rw [HW.out]
  refine A.out.mono ?_
  rintro e w' ⟨rfl,rfl⟩
  go_wp2
  go_ret2
  exact ⟨ret_pair (by rw [hS1.out,Hm.out,if_pos rfl]) (by rw [hS2.out,Hm.out,if_pos rfl]),rfl⟩
 ·have hm1 : (m != 0) = true:=bne_iff_ne.2 hm0
  have Hm0:=Lib.hid hm0
  clear hm0
  go_wp2
  go_ret2
  exact ⟨ret_pair (by rw [hS1.out,Hm.out,if_neg Hm0.out]) (by rw [hS2.out,Hm.out,if_neg Hm0.out]),rfl⟩
theorem stepN_rd {b n : Int} {c : UInt8} {l : List UInt8} : stepE b n c.toNat = 0 → Dp.rd b (c :: l) n = Dp.rd b l (stepN b n c.toNat):=by
 unfold stepE stepN
 intro h
 by_cases h1 : Dp.mulE n b = 0
 ·rw [if_pos h1] at h ⊢
  simp [Dp.rd,h1,h]
 ·rw [if_neg h1] at h; exact absurd h h1
theorem stepE_rd {b n : Int} {c : UInt8} {l : List UInt8} : stepE b n c.toNat ≠ 0 → Dp.rd b (c :: l) n = (0,111) ∧ stepE b n c.toNat = 111:=by
 unfold stepE
 intro h
 by_cases h1 : Dp.mulE n b = 0
 ·rw [if_pos h1] at h ⊢
  refine ⟨by simp [Dp.rd,h1,h],?_⟩
  unfold Dp.addE at h ⊢
  split at h
  ·exact absurd rfl h
  ·rw [if_neg (by assumption)]
 ·rw [if_neg h1] at h ⊢
  refine ⟨by simp [Dp.rd,h1],?_⟩
  unfold Dp.mulE at h1 ⊢
  split at h1
  ·exact absurd rfl h1
  ·rw [if_neg (by assumption)]
theorem stepN_U {b n c : Int} (hb : b = 10 ∨ b = 16) (hn : Dp.U n) : Dp.U (stepN b n c):=by
 unfold stepN
 split
 ·exact Dp.addN_U (Dp.mulN_U hn (by unfold Dp.U; omega)) (Dp.digit_U c)
 ·unfold Dp.U; omega
theorem folded_any (b : Int) (hb : b = 10 ∨ b = 16) (l : List UInt8) (B cap rb kb vb : Nat) (w : World) (hl : l.length ≤ 1000000) (hall : Dp.allD b l = true) (hE : Env w b rb kb vb) (hB : Bytes w B 0 l) :
  Calls Tryz.prog 172 #[.func (.func 173) #[] #[.pointer (some ⟨rb,0,none⟩),.pointer (some ⟨vb,0,none⟩)],.slice (some ⟨B,0,none⟩) l.length cap] w fun e w' =>
   e = .returned (.tuple #[.int .u64 (Dp.rd b l 0).1,.int .i64 (Dp.rd b l 0).2]) ∧ w = w':=by
 have K:=Lib.hid (fun (n c : Int) (hn : Dp.U n) (h0 : 0 ≤ c) (h1 : c < 256) (hd : Dp.digV c < b) => step_any b hb n c rb kb vb w hn h0 h1 hd hE)
 have HU:=Lib.hid (fun (n c : Int) (hn : Dp.U n) => stepN_U (c:=c) hb hn)
 have HA:=Lib.hid hall
 have HB:=Lib.hid hB
 clear hE hall hb hB
 go_enter Tryz.func172,Tryz.ntmps172
 go_wp2_with fail
 go_loop [4,5,7,10] (fun n _ _ i => ∃ (k : Nat) (m : Int),k ≤ l.length ∧ i = .int .i64 k ∧ n = .int .u64 m ∧ Dp.U m ∧ Dp.rd b l 0 = Dp.rd b (l.drop k) m) (fun _ _ _ i => l.length - (intOf i).toNat)
 case atStart => exact ⟨0,0,Nat.zero_le _,rfl,rfl,by unfold Dp.U; omega,rfl⟩
 case round =>
  obtain ⟨k,m,hk,rfl,rfl,hm,hrd⟩:=hrel
  have HR:=Lib.hid hrd
  have HM:=Lib.hid hm
  clear hrd hm
  by_cases hlt : k < l.length
  ·have hc:=HB.out k hlt
   rw [Nat.zero_add] at hc
   have hdr : l.drop k = l.getD k 0 :: l.drop (k + 1):=by rw [List.drop_eq_getElem_cons hlt]; simp [List.getD_eq_getElem?_getD,List.getElem?_eq_getElem hlt]
   have HD:=Lib.hid hdr
   clear hdr
   have hx:=(l.getD k 0).toNat_lt
   have hdig : Dp.digV ((l.getD k 0).toNat : Int) < b:=by
    have:=HA.out
    unfold Dp.allD at this
    rw [List.all_eq_true] at this
    have h2:=this (l.getD k 0) (by simp [List.getD_eq_getElem?_getD,List.getElem?_eq_getElem hlt])
    simpa using h2
   have HG:=Lib.hid hdig
   clear hdig
   have S1:=Lib.hid (@stepN_rd b m (l.getD k 0) (l.drop (k + 1)))
   have S2:=Lib.hid (@stepE_rd b m (l.getD k 0) (l.drop (k + 1)))
   have S3:=Lib.hid (HU.out m ((l.getD k 0).toNat : Int) HM.out)
   generalize l.getD k 0 = c at *
   go_wp2_with fail
   refine (K.out m (c.toNat : Int) HM.out (by omega) (by omega) HG.out).mono ?_
   rintro e w' ⟨rfl,rfl⟩
   obtain ⟨sn,hN⟩ : ∃ sn,stepN b m (c.toNat : Int) = sn:=⟨_,rfl⟩
   obtain ⟨se,hEr⟩ : ∃ se,stepE b m (c.toNat : Int) = se:=⟨_,rfl⟩
   rw [hN,hEr]
   have HN:=Lib.hid hN
   have HEr:=Lib.hid hEr
   clear hN hEr
   by_cases hz : se = 0
   ·subst hz
    go_wp2
    go_round
    case rel => exact ⟨k + 1,sn,by omega,by go_num,rfl,by rw [← HN.out]; exact S3.out,by rw [HR.out,HD.out,S1.out HEr.out,HN.out]⟩
    case measure => simp [intOf]; omega
   ·have hz1 : (se != 0) = true:=bne_iff_ne.2 hz
    have HZ:=Lib.hid hz
    clear hz
    go_wp2
    go_ret2
    refine ⟨ret_pair ?_ ?_,rfl⟩
    ·rw [HR.out,HD.out,(S2.out (by rw [HEr.out]; exact HZ.out)).1]
    ·rw [HR.out,HD.out,(S2.out (by rw [HEr.out]; exact HZ.out)).1,← HEr.out]; exact (S2.out (by rw [HEr.out]; exact HZ.out)).2
  ·go_wp2
   go_ret2
   have h1 : l.drop k = []:=List.drop_eq_nil_of_le (by omega)
   refine ⟨ret_pair ?_ ?_,rfl⟩
   ·rw [HR.out,h1]; rfl
   ·rw [HR.out,h1]; rfl
theorem folded_at (b : Int) (hb : b = 10 ∨ b = 16) (l : List UInt8) (n B cap rb kb vb : Nat) (w : World) (hn : n = l.length) (hl : l.length ≤ 1000000) (hall : Dp.allD b l = true) (hE : Env w b rb kb vb) (hB : Bytes w B 0 l) :
  Calls Tryz.prog 172 #[.func (.func 173) #[] #[.pointer (some ⟨rb,0,none⟩),.pointer (some ⟨vb,0,none⟩)],.slice (some ⟨B,0,none⟩) n cap] w fun e w' =>
   e = .returned (.tuple #[.int .u64 (Dp.rd b l 0).1,.int .i64 (Dp.rd b l 0).2]) ∧ w = w':=by
 subst hn
 exact folded_any b hb l B cap rb kb vb w hl hall hE hB
end Go.Proofs.YtfacmnooklljnaaGreatDoor
namespace Go.Proofs.YtfacmnooklljnaaGreatDoor
open Go.RowKit
set_option maxHeartbeats 1000000
set_option maxRecDepth 100000 in
theorem num_bad {b : Int} {l : List UInt8} (h : (!l.isEmpty && Dp.allD b l) = false) : Dp.numN b l = 0 ∧ Dp.numE b l = 110:=by
 have : l = [] ∨ Dp.allD b l = false:=by
  rw [Bool.and_eq_false_iff] at h
  rcases h with h | h
  ·exact .inl (by simpa using h)
  ·exact .inr h
 exact ⟨if_pos this,if_pos this⟩
theorem num_good {b : Int} {l : List UInt8} (h : (!l.isEmpty && Dp.allD b l) = true) : Dp.numN b l = (Dp.rd b l 0).1 ∧ Dp.numE b l = (Dp.rd b l 0).2 ∧ Dp.allD b l = true:=by
 rw [Bool.and_eq_true] at h
 have : ¬ (l = [] ∨ Dp.allD b l = false):=by
  rintro (h' | h')
  ·subst h'; simp at h
  ·rw [h'] at h; simp at h
 exact ⟨if_neg this,if_neg this,h.2⟩
set_option maxRecDepth 100000 in
theorem number_any (b : Int) (hb : b = 10 ∨ b = 16) (s : ByteArray) (w : World) (hs : s.size ≤ 1000000) :
  Calls Tryz.prog 150 #[.agg #[.string s,.int .i64 b]] w fun e w' =>
   e = .returned (.tuple #[.int .u64 (Dp.numN b s.data.toList),.int .i64 (Dp.numE b s.data.toList)]) ∧ Below w.heap.size w w':=by
 rcases hb with rfl | rfl
 ·go_enter Tryz.func150,Tryz.ntmps150
  have hcv:=fun (W : World) (s : ByteArray) => Lib.run_convert_string_bytes (P:=Tryz.prog) W 9 118 5 s Tryz.underlying9 Tryz.underlying118 Tryz.underlying5
  go_wp2_with fail
  refine wp_scope_fwd 0 rfl ?_
  go_wp2_with fail
  refine (digits_any 10 (.inl rfl) s w.heap.size (w.heap.size + 1) (w.heap.size + 2) _ hs ?_ ?_ ?_).mono ?_
  ·go_simp
  ·go_simp
   rfl
  ·go_simp
  rintro e w' ⟨rfl,rfl⟩
  obtain ⟨d,hd⟩ : ∃ d,(!s.data.toList.isEmpty && Dp.allD 10 s.data.toList) = d:=⟨_,rfl⟩
  rw [hd]
  have HD:=Lib.hid hd
  clear hd
  cases d
  ·go_wp2_with fail
   go_step3
   simp only [Exit.then]
   refine onGoto_goto ?_
   go_wp2
   rw [Exit.noGoto_ret]
   go_ret2
   obtain ⟨h1,h2⟩:=num_bad HD.out
   refine ⟨ret_pair h1.symm h2.symm,?_⟩
   exact ((((Below.refl _ _).alloc (Nat.le_refl _) _).alloc (by simp) _).alloc (by simp; omega) _).alloc (by simp; omega) _
  ·go_wp2_with fail
   obtain ⟨h1,h2,h3⟩:=num_good HD.out
   have H1:=Lib.hid h1
   have H2:=Lib.hid h2
   clear h1 h2
   refine (folded_at 10 (.inl rfl) s.data.toList _ _ _ w.heap.size (w.heap.size + 1) (w.heap.size + 2) _ rfl (by simpa using hs) h3 ?_ ?_).mono ?_
   ·refine ⟨?_,?_,?_⟩
    ·rw [Lib.bytesWorld_old _ _ _ _ (by simp <;> omega)]
     go_simp
    ·rw [Lib.bytesWorld_old _ _ _ _ (by simp <;> omega)]
     go_simp
     rfl
    ·rw [Lib.bytesWorld_old _ _ _ _ (by simp <;> omega)]
     go_simp
   ·exact bytes_bytesWorld_at _ _ s _ (by simp)
   rintro e w' ⟨rfl,rfl⟩
   have R:=Lib.hid (Dp.rd_err 10 s.data.toList 0)
   obtain ⟨r1,hr1⟩ : ∃ r,(Dp.rd 10 s.data.toList 0).1 = r:=⟨_,rfl⟩
   obtain ⟨r2,hr2⟩ : ∃ r,(Dp.rd 10 s.data.toList 0).2 = r:=⟨_,rfl⟩
   rw [hr1,hr2]
   have HR1:=Lib.hid hr1
   have HR2:=Lib.hid hr2
   clear hr1 hr2 h3 hcv
   by_cases hz : r2 = 0
   ·subst hz
    go_wp2
    rw [onGoto_ret]
    go_ret2
    refine ⟨ret_pair (by rw [H1.out,HR1.out]) (by rw [H2.out,HR2.out]),?_⟩
    exact (((((Below.refl _ _).alloc (Nat.le_refl _) _).alloc (by simp) _).alloc (by simp; omega) _).alloc (by simp; omega) _).trans (below_bytesWorld _ _ _ _ (by simp; omega))
   ·have hz1 : (r2 != 0) = true:=bne_iff_ne.2 hz
    have HZ:=Lib.hid hz
    clear hz
    go_wp2_with fail
    go_step3
    simp only [Exit.then]
    refine onGoto_goto ?_
    go_wp2
    rw [Exit.noGoto_ret]
    go_ret2
    refine ⟨ret_pair ?_ (by rw [H2.out,HR2.out]),?_⟩
    ·rw [H1.out]
     rcases R.out with h | h
     ·exact absurd (HR2.out.symm.trans h) HZ.out
     ·exact h.1.symm
    exact (((((Below.refl _ _).alloc (Nat.le_refl _) _).alloc (by simp) _).alloc (by simp; omega) _).alloc (by simp; omega) _).trans (below_bytesWorld _ _ _ _ (by simp; omega))
 ·go_enter Tryz.func150,Tryz.ntmps150
  have hcv:=fun (W : World) (s : ByteArray) => Lib.run_convert_string_bytes (P:=Tryz.prog) W 9 118 5 s Tryz.underlying9 Tryz.underlying118 Tryz.underlying5
  go_wp2_with fail
  refine wp_scope_fwd 0 rfl ?_
  go_wp2_with fail
  refine (digits_any 16 (.inr rfl) s w.heap.size (w.heap.size + 1) (w.heap.size + 2) _ hs ?_ ?_ ?_).mono ?_
  ·go_simp
  ·go_simp
   rfl
  ·go_simp
  rintro e w' ⟨rfl,rfl⟩
  obtain ⟨d,hd⟩ : ∃ d,(!s.data.toList.isEmpty && Dp.allD 16 s.data.toList) = d:=⟨_,rfl⟩
  rw [hd]
  have HD:=Lib.hid hd
  clear hd
  cases d
  ·go_wp2_with fail
   go_step3
   simp only [Exit.then]
   refine onGoto_goto ?_
   go_wp2
   rw [Exit.noGoto_ret]
   go_ret2
   obtain ⟨h1,h2⟩:=num_bad HD.out
   refine ⟨ret_pair h1.symm h2.symm,?_⟩
   exact ((((Below.refl _ _).alloc (Nat.le_refl _) _).alloc (by simp) _).alloc (by simp; omega) _).alloc (by simp; omega) _
  ·go_wp2_with fail
   obtain ⟨h1,h2,h3⟩:=num_good HD.out
   have H1:=Lib.hid h1
   have H2:=Lib.hid h2
   clear h1 h2
   refine (folded_at 16 (.inr rfl) s.data.toList _ _ _ w.heap.size (w.heap.size + 1) (w.heap.size + 2) _ rfl (by simpa using hs) h3 ?_ ?_).mono ?_
   ·refine ⟨?_,?_,?_⟩
    ·rw [Lib.bytesWorld_old _ _ _ _ (by simp <;> omega)]
     go_simp
    ·rw [Lib.bytesWorld_old _ _ _ _ (by simp <;> omega)]
     go_simp
     rfl
    ·rw [Lib.bytesWorld_old _ _ _ _ (by simp <;> omega)]
     go_simp
   ·exact bytes_bytesWorld_at _ _ s _ (by simp)
   rintro e w' ⟨rfl,rfl⟩
   have R:=Lib.hid (Dp.rd_err 16 s.data.toList 0)
   obtain ⟨r1,hr1⟩ : ∃ r,(Dp.rd 16 s.data.toList 0).1 = r:=⟨_,rfl⟩
   obtain ⟨r2,hr2⟩ : ∃ r,(Dp.rd 16 s.data.toList 0).2 = r:=⟨_,rfl⟩
   rw [hr1,hr2]
   have HR1:=Lib.hid hr1
   have HR2:=Lib.hid hr2
   clear hr1 hr2 h3 hcv
   by_cases hz : r2 = 0
   ·subst hz
    go_wp2
    rw [onGoto_ret]
    go_ret2
    refine ⟨ret_pair (by rw [H1.out,HR1.out]) (by rw [H2.out,HR2.out]),?_⟩
    exact (((((Below.refl _ _).alloc (Nat.le_refl _) _).alloc (by simp) _).alloc (by simp; omega) _).alloc (by simp; omega) _).trans (below_bytesWorld _ _ _ _ (by simp; omega))
   ·have hz1 : (r2 != 0) = true:=bne_iff_ne.2 hz
    have HZ:=Lib.hid hz
    clear hz
    go_wp2_with fail
    go_step3
    simp only [Exit.then]
    refine onGoto_goto ?_
    go_wp2
    rw [Exit.noGoto_ret]
    go_ret2
    refine ⟨ret_pair ?_ (by rw [H2.out,HR2.out]),?_⟩
    ·rw [H1.out]
     rcases R.out with h | h
     ·exact absurd (HR2.out.symm.trans h) HZ.out
     ·exact h.1.symm
    exact (((((Below.refl _ _).alloc (Nat.le_refl _) _).alloc (by simp) _).alloc (by simp; omega) _).alloc (by simp; omega) _).trans (below_bytesWorld _ _ _ _ (by simp; omega))
end Go.Proofs.YtfacmnooklljnaaGreatDoor