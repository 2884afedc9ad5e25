/- Texts of this claim, one behind the other: Wk, Wl, Wq, Wn, LQE. -/
import Derived.Test.YtfacmnooklljnaaGreatDoorCQEm7
import Derived.Test.YtfacmnooklljnaaGreatDoorCQEm4
import Derived.Test.YtfacmnooklljnaaGreatDoorCQEm6
import Derived.Test.YtfacmnooklljnaaGreatDoorCQEm5
import Derived.Test.YtfacmnooklljnaaGreatDoorCQEm2
import Derived.Test.YtfacmnooklljnaaGreatDoorCQEm1
set_option linter.unusedVariables false
set_option linter.unusedSimpArgs false
namespace Go.Proofs.YtfacmnooklljnaaGreatDoor
open Go.RowKit Go.Shelf
attribute [local go_sem] Oper.semAt_some
set_option maxHeartbeats 8000000
set_option maxRecDepth 100000
theorem rf_get13 (F : List UInt8) (nb : ByteArray) (V : Value) (fs : List Hp.Hd) (w : World) (hv : HS w V fs) (hl : fs.length ≤ 1000) (hs : ∀ f ∈ fs,f.1.length ≤ 100000 ∧ f.2.length ≤ 100000) (hnm : nb.size ≤ 100000) :
  Calls Tryz.prog 39 #[.agg #[Hp.sx F,V],.string nb] w fun e w' => e = .returned (.tuple #[.string ⟨(Rq.joined nb.data.toList fs).toArray⟩,.int .i64 ((Rq.many nb.data.toList fs : Nat) : Int)]) ∧ Below w.heap.size w w':=by
 have h:=ref_Get F nb.data.toList V fs w hv hl hs hnm
 rw [show bx nb.data.toList = nb from ba_back nb,Hr.get_is] at h
 exact h
theorem rf_many (F : List UInt8) (nb : ByteArray) (V : Value) (fs : List Hp.Hd) (w : World) (hv : HS w V fs) (hl : fs.length ≤ 1000) (hs : ∀ f ∈ fs,f.1.length ≤ 100000 ∧ f.2.length ≤ 100000) (hnm : nb.size ≤ 100000) :
  Calls Tryz.prog 82 #[.agg #[Hp.sx F,V],.string nb] w fun e w' => e = .returned (.int .i64 ((Rq.many nb.data.toList fs : Nat) : Int)) ∧ Below w.heap.size w w':=by
 obtain ⟨W1,hW1⟩ : ∃ z,w.alloc (.cells #[Hp.sx F,V] 25) = z:=⟨_,rfl⟩
 have hb1 : Below w.heap.size w W1:=by rw [← hW1]; exact (Below.refl _ _).alloc (Nat.le_refl _) _
 have KG:=Lib.hid (rf_get13 F nb V fs W1 (hv.below hb1) hl hs hnm)
 obtain ⟨p,c,rfl⟩:=hv.slice
 have hH : W1.heap[w.heap.size]? = some (.cells #[Hp.sx F,.slice p fs.length c] 25 (0,0)):=by rw [← hW1]; exact World.alloc_heap_new _ _
 obtain ⟨n,hn⟩ : ∃ n,fs.length = n:=⟨_,rfl⟩
 obtain ⟨k,hk⟩ : ∃ k,Rq.many nb.data.toList fs = k:=⟨_,rfl⟩
 obtain ⟨jb,hjb⟩ : ∃ y : ByteArray,(⟨(Rq.joined nb.data.toList fs).toArray⟩ : ByteArray) = y:=⟨_,rfl⟩
 rw [hn] at hH KG hW1 ⊢
 rw [hk,hjb] at KG
 rw [hk]
 unfold Hp.sx at KG hH hW1 ⊢
 obtain ⟨fb,hfb⟩ : ∃ z : ByteArray,(⟨F.toArray⟩ : ByteArray) = z:=⟨_,rfl⟩
 rw [hfb] at KG hH hW1 ⊢
 obtain ⟨A,hA⟩ : ∃ z,w.heap.size = z:=⟨_,rfl⟩
 rw [hA] at hH
 have c0 : W1.cell? ⟨A,0,none⟩ = some (.string fb):=by simp [World.cell?,hH]
 have c1 : W1.cell? ⟨A,1,none⟩ = some (.slice p n c):=by simp [World.cell?,hH]
 have HW1:=Lib.hid hW1
 have HA:=Lib.hid hA
 have HB1:=Lib.hid hb1
 clear hv hs hnm hW1 hb1 hH hn hk hjb hfb hA
 go_enter Tryz.func82,Tryz.ntmps82
 go_upto_region 1 with (fail)
 rw [HW1.out,HA.out]
 go_wp2_with fail
 refine KG.out.mono ?_
 rintro e w2 ⟨rfl,hb⟩
 have HB:=Lib.hid (HB1.out.trans (hb.mono HB1.out.size))
 clear hb c0 c1
 go_wp2_with fail
 go_ret
 exact ⟨rfl,HA.out ▸ HB.out⟩
structure SmW (w X : World) (A D : Nat) (fb : ByteArray) (p : Option Addr) (n c : Nat) (fs : List Hp.Hd) (p2 : Option Addr) (n2 c2 : Nat) (q2 : Option Addr) (k2 d2 : Nat) (P : List (List UInt8)) : Prop where
 bel : Below w.heap.size w X
 h : X.heap[A]? = some (.cells #[.string fb,.slice p n c] 25 (0,0))
 t : X.heap[D]? = some (tgC p2 n2 c2 q2 k2 d2)
 hs : HS X (.slice p n c) fs
 ts : TS X (.slice p2 n2 c2) P
theorem SmW.next {w X Y : World} {A D : Nat} {fb : ByteArray} {p : Option Addr} {n c : Nat} {fs : List Hp.Hd} {p2 : Option Addr} {n2 c2 : Nat} {q2 : Option Addr} {k2 d2 : Nat} {P : List (List UInt8)} (h : SmW w X A D fb p n c fs p2 n2 c2 q2 k2 d2 P) (b : Below X.heap.size X Y) : SmW w Y A D fb p n c fs p2 n2 c2 q2 k2 d2 P :=
 ⟨h.bel.trans (b.mono h.bel.size),(b.block _ (Array.getElem?_eq_some_iff.1 h.h).1).trans h.h,(b.block _ (Array.getElem?_eq_some_iff.1 h.t).1).trans h.t,h.hs.below b,h.ts.below b⟩
theorem SmW.cells {w X : World} {A D : Nat} {fb : ByteArray} {p : Option Addr} {n c : Nat} {fs : List Hp.Hd} {p2 : Option Addr} {n2 c2 : Nat} {q2 : Option Addr} {k2 d2 : Nat} {P : List (List UInt8)} (h : SmW w X A D fb p n c fs p2 n2 c2 q2 k2 d2 P) : X.cell? ⟨A,0,none⟩ = some (.string fb) ∧ X.cell? ⟨A,1,none⟩ = some (.slice p n c) ∧ X.cell? ⟨D,0,none⟩ = some (.slice p2 n2 c2) ∧ X.cell? ⟨D,1,none⟩ = some (.slice q2 k2 d2):=by
 have hH:=h.h
 exact ⟨by simp [World.cell?,hH],by simp [World.cell?,hH],(tgC_cells h.t).1,(tgC_cells h.t).2.1⟩
theorem rf_Status13 (F : List UInt8) (V : Value) (fs : List Hp.Hd) (w : World) (hv : HS w V fs) (ho : RqOk F fs) :
  Calls Tryz.prog 37 #[.agg #[Hp.sx F,V]] w fun e w' => e = .returned (.int .i64 (Rq.status F fs)) ∧ Below w.heap.size w w':=by
 have hmax : ∀ (N : ByteArray) (nm : List UInt8),N.data.toList = nm → N.size ≤ 100000 → ∀ X,HS X V fs → Calls Tryz.prog 82 #[.agg #[Hp.sx F,V],.string N] X fun e w' => e = .returned (.int .i64 ((Rq.many nm fs : Nat) : Int)) ∧ Below X.heap.size X w':=fun N nm hnm hN X hX => hnm ▸ rf_many F N V fs X hX ho.l ho.s hN
 have hget : ∀ (N : ByteArray) (nm : List UInt8),N.data.toList = nm → N.size ≤ 100000 → ∀ X,HS X V fs → Calls Tryz.prog 39 #[.agg #[Hp.sx F,V],.string N] X fun e w' => e = .returned (.tuple #[.string ⟨(Rq.joined nm fs).toArray⟩,.int .i64 ((Rq.many nm fs : Nat) : Int)]) ∧ Below X.heap.size X w':=fun N nm hnm hN X hX => hnm ▸ rf_get13 F N V fs X hX ho.l ho.s hN
 obtain ⟨W1,hW1⟩ : ∃ z,w.alloc (.cells #[Hp.sx F,V] 25) = z:=⟨_,rfl⟩
 have hb1 : Below w.heap.size w W1:=by rw [← hW1]; exact (Below.refl _ _).alloc (Nat.le_refl _) _
 have hH : W1.heap[w.heap.size]? = some (.cells #[Hp.sx F,V] 25 (0,0)):=by rw [← hW1]; exact World.alloc_heap_new _ _
 have hv1:=hv.below hb1
 obtain ⟨p,c,rfl⟩:=hv.slice
 obtain ⟨n,hn⟩ : ∃ n,fs.length = n:=⟨_,rfl⟩
 have KL0:=fun X => rf_line ⟨F.toArray⟩ X (by have:=ho.f; simp only [ByteArray.size,List.size_toArray]; omega)
 have KH:=Lib.hid (fun X hX => show Calls Tryz.prog _ #[_,.string ⟨#[104,111,115,116]⟩] X _ from hmax ⟨#[104,111,115,116]⟩ Rq.nHost rfl (by decide) X hX)
 have KT:=Lib.hid (fun X hX => show Calls Tryz.prog _ #[_,.string ⟨#[116,114,97,110,115,102,101,114,45,101,110,99,111,100,105,110,103]⟩] X _ from hmax ⟨#[116,114,97,110,115,102,101,114,45,101,110,99,111,100,105,110,103]⟩ Rq.nTE rfl (by decide) X hX)
 have KI:=Lib.hid (fun X hX => show Calls Tryz.prog _ #[_,.string ⟨#[108,97,115,116,45,101,118,101,110,116,45,105,100]⟩] X _ from hmax ⟨#[108,97,115,116,45,101,118,101,110,116,45,105,100]⟩ Rq.nId rfl (by decide) X hX)
 have KC:=Lib.hid (fun X hX => show Calls Tryz.prog _ #[_,.string ⟨#[99,111,110,116,101,110,116,45,108,101,110,103,116,104]⟩] X _ from hget ⟨#[99,111,110,116,101,110,116,45,108,101,110,103,116,104]⟩ Rq.nCL rfl (by decide) X hX)
 have KA:=Lib.hid (fun X hX => show Calls Tryz.prog _ #[_,.string ⟨#[97,99,99,101,112,116]⟩] X _ from hget ⟨#[97,99,99,101,112,116]⟩ Rq.nAcc rfl (by decide) X hX)
 have HAC:=Lib.hid (show (Rq.joined Rq.nAcc fs).length ≤ 5000 from ho.a)
 have hF250:=ho.f
 have hst : Rq.status F fs = match Rq.line F with | none => 400 | some l => Rq.stat3 l fs:=rfl
 obtain ⟨o,hoo⟩ : ∃ z,Rq.line F = z:=⟨_,rfl⟩
 rw [hoo] at hst
 have hlok : ∀ m g v,o = some (m,g,v) → Rq.ver v ≠ 0 ∧ m.length ≤ F.length ∧ v.length ≤ F.length ∧ g.1.length ≤ F.length + 1 ∧ ∀ p ∈ g.1,p.length ≤ F.length:=fun m g v h => Rq.line_ok (hoo.trans h)
 obtain ⟨st,hs⟩ : ∃ z,Rq.status F fs = z:=⟨_,rfl⟩
 rw [hs] at hst ⊢
 simp only [show (⟨F.toArray⟩ : ByteArray).data.toList = F from rfl,hoo] at KL0
 rw [hn] at hH hv1 hW1 ⊢
 simp only [hn] at KH KT KI KC KA
 unfold Hp.sx at hH hW1 KH KT KI KC KA ⊢
 obtain ⟨fb,hfb⟩ : ∃ z : ByteArray,(⟨F.toArray⟩ : ByteArray) = z:=⟨_,rfl⟩
 simp only [hfb] at hH hW1 KL0 KH KT KI KC KA ⊢
 obtain ⟨A,hA⟩ : ∃ z,w.heap.size = z:=⟨_,rfl⟩
 rw [hA] at hH
 have c0 : W1.cell? ⟨A,0,none⟩ = some (.string fb):=by simp [World.cell?,hH]
 have c1 : W1.cell? ⟨A,1,none⟩ = some (.slice p n c):=by simp [World.cell?,hH]
 have KL:=Lib.hid KL0
 have HST:=Lib.hid hst
 have HLK:=Lib.hid hlok
 have HW1:=Lib.hid hW1
 have HA:=Lib.hid hA
 have HB1:=Lib.hid hb1
 have HH1:=Lib.hid hH
 have HV1:=Lib.hid hv1
 have HFL:=Lib.hid hF250
 clear hv ho hmax hget hW1 hb1 hH hv1 hn KL0 hst hoo hlok hs hfb hA hF250
 go_enter Tryz.func37,Tryz.ntmps37
 go_upto_region 1 with (fail)
 rw [HW1.out,HA.out]
 go_wp2_with fail
 refine (KL.out _).mono ?_
 rintro e w2 ⟨⟨mb,vb,p2,n2,c2,q2,k2,d2,rfl,hli⟩,hb2⟩
 have HLI:=Lib.hid hli
 have HS2:=Lib.hid (HV1.out.below hb2)
 have HH2:=Lib.hid ((hb2.block _ (Array.getElem?_eq_some_iff.1 HH1.out).1).trans HH1.out)
 have HB2:=Lib.hid (HB1.out.trans (hb2.mono HB1.out.size))
 clear hb2 hli c0 c1
 go_upto_region 2 with (fail)
 obtain ⟨w3,hw3⟩ : ∃ z,w2.alloc (.cells #[.slice p2 n2 c2,.slice q2 k2 d2] 36) = z:=⟨_,rfl⟩
 have hb3 : Below w2.heap.size w2 w3:=by rw [← hw3]; exact (Below.refl _ _).alloc (Nat.le_refl _) _
 have hT3 : w3.heap[w2.heap.size]? = some (tgC p2 n2 c2 q2 k2 d2):=by rw [← hw3]; exact World.alloc_heap_new _ _
 rw [hw3]
 have HS3:=Lib.hid (HS2.out.below hb3)
 have hH3:=(hb3.block _ (Array.getElem?_eq_some_iff.1 HH2.out).1).trans HH2.out
 have HB3:=Lib.hid (HB2.out.trans (hb3.mono HB2.out.size))
 obtain ⟨D,hD⟩ : ∃ z,w2.heap.size = z:=⟨_,rfl⟩
 rw [hD] at hT3 ⊢
 have HBL3:=Lib.hid hb3
 have c0 : w3.cell? ⟨A,0,none⟩ = some (.string fb):=by simp [World.cell?,hH3]
 have c1 : w3.cell? ⟨A,1,none⟩ = some (.slice p n c):=by simp [World.cell?,hH3]
 have HH3:=Lib.hid hH3
 have HT3:=Lib.hid hT3
 clear hw3 hb3 hT3 hH3 hD
 go_wp2_with fail
 refine (KC.out _ HS3.out).mono ?_
 rintro e w4 ⟨rfl,hb4⟩
 have HS4:=Lib.hid (HS3.out.below hb4)
 have HH4:=Lib.hid ((hb4.block _ (Array.getElem?_eq_some_iff.1 HH3.out).1).trans HH3.out)
 have HT4:=Lib.hid ((hb4.block _ (Array.getElem?_eq_some_iff.1 HT3.out).1).trans HT3.out)
 have HB4:=Lib.hid (HB3.out.trans (hb4.mono HB3.out.size))
 have HB24:=Lib.hid (HBL3.out.trans (hb4.mono HBL3.out.size))
 clear hb4 c0 c1
 cases o with
 | none =>
  have HO:=Lib.hid (show st = 400 by rw [HST.out])
  simp only [Option.isSome_none]
  go_wp2_with fail
  go_ret
  exact ⟨by rw [HO.out]; rfl,HA.out ▸ HB4.out⟩
 | some l =>
 obtain ⟨m,g,v⟩:=l
 simp only [Option.isSome_some]
 obtain ⟨h1,h2,h3⟩:=HLI.out m g v rfl
 obtain ⟨hv0,g1,g2,g3,g4⟩:=HLK.out m g v rfl
 have hF:=HFL.out
 have HTS4:=Lib.hid (h3.below HB24.out)
 have hst:=HST.out
 simp only at hst
 rw [Rq.stat13 m g v fs hv0] at hst
 have hclt : (⟨(Rq.joined Rq.nCL fs).toArray⟩ : ByteArray).toList = Rq.joined Rq.nCL fs:=ba_list _
 obtain ⟨clb,hclb⟩ : ∃ z : ByteArray,(⟨(Rq.joined Rq.nCL fs).toArray⟩ : ByteArray) = z:=⟨_,rfl⟩
 rw [hclb] at hclt ⊢
 obtain ⟨cz,hcz⟩ : ∃ z,(Rq.joined Rq.nCL fs == [48]) = z:=⟨_,rfl⟩
 have ec : (clb.toList == ([48] : List UInt8)) = cz:=by rw [hclt]; exact hcz
 have e10 : (vb.toList == ([72,84,84,80,47,49,46,48] : List UInt8)) = (v == Rq.v10):=by rw [ba_listD,h2]; rfl
 have emg : (mb.toList == ([71,69,84] : List UInt8)) = (m == Rq.nGET):=by rw [ba_listD,h1]; rfl
 have KV0:=fun X => rf_version vb X (by have h:=congrArg List.length h2; have h' : vb.data.toList.length = vb.size:=rfl; omega)
 simp only [h2] at KV0
 have KV:=Lib.hid KV0
 obtain ⟨a,ha⟩ : ∃ z,(v == Rq.v10) = z:=⟨_,rfl⟩
 obtain ⟨mg,hmg⟩ : ∃ z,(m == Rq.nGET) = z:=⟨_,rfl⟩
 rw [ha] at e10 hst
 rw [hmg] at emg
 have hmge : (m ≠ Rq.nGET) ↔ mg = false:=by rw [← hmg]; simp
 obtain ⟨vn,hvn⟩ : ∃ z,Rq.ver v = z:=⟨_,rfl⟩
 obtain ⟨nh,hnh⟩ : ∃ z,Rq.many Rq.nHost fs = z:=⟨_,rfl⟩
 obtain ⟨nt,hnt⟩ : ∃ z,Rq.many Rq.nTE fs = z:=⟨_,rfl⟩
 obtain ⟨nc,hnc⟩ : ∃ z,Rq.many Rq.nCL fs = z:=⟨_,rfl⟩
 obtain ⟨ni,hni⟩ : ∃ z,Rq.many Rq.nId fs = z:=⟨_,rfl⟩
 rw [hvn] at KV hst hv0
 rw [hnh] at KH hst
 rw [hnt] at KT hst
 rw [hni] at KI hst
 rw [hnc] at hst ⊢
 rw [hcz] at hst
 simp only [hmge] at hst
 have HSTT:=Lib.hid hst
 have HSM:=Lib.hid (show SmW w w4 A D fb p n c fs p2 n2 c2 q2 k2 d2 g.1 from ⟨HB4.out,HH4.out,HT4.out,HS4.out,HTS4.out⟩)
 have HG3:=Lib.hid (show g.1.length ≤ 251 by omega)
 have HG4:=Lib.hid (show ∀ q ∈ g.1,q.length ≤ 250 from fun q hq => by have:=g4 q hq; omega)
 have hv12 : vn = 1 ∨ vn = 2:=by
  have : Rq.ver v ≤ 2:=by
   unfold Rq.ver
   split
   ·decide
   ·split <;> decide
  omega
 have HVA:=Lib.hid (show vn = 2 → a = false from fun h => by
  rw [← ha,beq_eq_false_iff_ne]
  rintro rfl
  have : Rq.ver Rq.v10 = 1:=by decide
  omega)
 clear HT4 h1 h2 h3 g1 g2 g3 g4 hv0 hF hst hclt hclb hcz ha hmg hmge hvn hnh hnt hnc hni KV0 HST HLI HLK HTS4 HS4 HH4 HB4 HB24 HS3 HH3 HB3 HBL3 HT3 HS2 HH2 HB2 HFL HV1 HH1 KC KL
 go_upto_region 4 with (fail)
 obtain ⟨x4,hx4⟩ : ∃ z,Rq.c4 a vn nh = z:=⟨_,rfl⟩
 have HX4:=Lib.hid hx4
 clear hx4
 obtain ⟨d0,d1,d2',d3⟩:=HSM.out.cells
 go_cut [26] from 13 (fun s26 wx => s26 = .bool x4 ∧ SmW w wx A D fb p n c fs p2 n2 c2 q2 k2 d2 g.1)
 case first =>
  cases a with
  | true =>
   go_wp2_with fail
   obtain rfl : x4 = false:=by rw [← HX4.out]; rfl
   go_meet
   exact ⟨rfl,HSM.out⟩
  | false =>
   rcases hv12 with rfl | rfl
   ·by_cases hnh : nh = 1
    ·have e1 : ((nh : Int) == 1) = true:=beq_iff_eq.2 (by omega)
     have e2 : ((nh : Int) != 1) = false:=by unfold bne; rw [e1]; rfl
     go_wp2_with fail
     refine (KV.out _).mono ?_
     rintro e w9 ⟨rfl,hw9⟩
     subst w9
     go_wp2_with fail
     refine (KH.out _ HSM.out.hs).mono ?_
     rintro e w6 ⟨rfl,hb⟩
     have HSM6:=Lib.hid (HSM.out.next hb)
     obtain ⟨d0,d1,d2',d3⟩:=HSM6.out.cells
     clear hb
     go_wp2_with fail
     obtain rfl : x4 = false:=by rw [← HX4.out]; unfold Rq.c4; simp [hnh]
     go_meet
     exact ⟨rfl,HSM6.out⟩
    ·have e1 : ((nh : Int) == 1) = false:=beq_eq_false_iff_ne.2 (by omega)
     have e2 : ((nh : Int) != 1) = true:=by unfold bne; rw [e1]; rfl
     go_wp2_with fail
     refine (KV.out _).mono ?_
     rintro e w9 ⟨rfl,hw9⟩
     subst w9
     go_wp2_with fail
     refine (KH.out _ HSM.out.hs).mono ?_
     rintro e w6 ⟨rfl,hb⟩
     have HSM6:=Lib.hid (HSM.out.next hb)
     obtain ⟨d0,d1,d2',d3⟩:=HSM6.out.cells
     clear hb
     go_wp2_with fail
     obtain rfl : x4 = true:=by rw [← HX4.out]; unfold Rq.c4; simp [hnh]
     go_meet
     exact ⟨rfl,HSM6.out⟩
   ·go_wp2_with fail
    refine (KV.out _).mono ?_
    rintro e w9 ⟨rfl,hw9⟩
    subst w9
    go_wp2_with fail
    obtain rfl : x4 = false:=by rw [← HX4.out]; unfold Rq.c4; simp
    go_meet
    exact ⟨rfl,HSM.out⟩
 case rest =>
 obtain ⟨rfl,hsm⟩:=hcut
 obtain ⟨v4,rfl⟩ : ∃ z,z = wc:=⟨_,rfl⟩
 have HSM:=Lib.hid hsm
 clear hsm d0 d1 d2' d3
 obtain ⟨d0,d1,d2',d3⟩:=HSM.out.cells
 cases x4 with
 | true =>
  have HO:=Lib.hid (show st = 400 by rw [HSTT.out,HX4.out]; rfl)
  go_wp2_with fail
  go_ret
  exact ⟨by rw [HO.out]; rfl,HA.out ▸ HSM.out.bel⟩
 | false =>
 obtain ⟨x5,hx5⟩ : ∃ z,Rq.c5 vn nt nc cz ni = z:=⟨_,rfl⟩
 have HX5:=Lib.hid hx5
 clear hx5
 go_upto_region 5 with (fail)
 go_cut [26] from 13 (fun s26 wx => s26 = .bool x5 ∧ SmW w wx A D fb p n c fs p2 n2 c2 q2 k2 d2 g.1)
 case first =>
  rcases hv12 with rfl | rfl
  rotate_left
  ·go_wp2_with fail
   refine (KV.out _).mono ?_
   rintro e w9 ⟨rfl,hw9⟩
   subst w9
   go_wp2_with fail
   obtain rfl : x5 = false:=by rw [← HX5.out]; unfold Rq.c5; simp
   go_meet
   exact ⟨rfl,HSM.out⟩
  go_wp2_with fail
  refine (KV.out _).mono ?_
  rintro e w9 ⟨rfl,hw9⟩
  subst w9
  go_wp2_with fail
  refine (KT.out _ HSM.out.hs).mono ?_
  rintro e w6 ⟨rfl,hb⟩
  have HSM6:=Lib.hid (HSM.out.next hb)
  obtain ⟨d0,d1,d2',d3⟩:=HSM6.out.cells
  clear hb
  by_cases hnt : 0 < nt
  ·have hI : (0 : Int) < (nt : Int):=by omega
   go_wp2_with fail
   obtain rfl : x5 = true:=by rw [← HX5.out]; unfold Rq.c5; simp [hnt]
   go_meet
   exact ⟨rfl,HSM6.out⟩
  ·have hI : ¬ ((0 : Int) < (nt : Int)):=by omega
   by_cases hnc : 0 < nc
   ·have hI2 : (0 : Int) < (nc : Int):=by omega
    cases cz with
    | false =>
     go_wp2_with fail
     obtain rfl : x5 = true:=by rw [← HX5.out]; unfold Rq.c5; simp [ hnc]
     go_meet
     exact ⟨rfl,HSM6.out⟩
    | true =>
     go_wp2_with fail
     refine (KI.out _ HSM6.out.hs).mono ?_
     rintro e w6i ⟨rfl,hb⟩
     have HSM6i:=Lib.hid (HSM6.out.next hb)
     obtain ⟨d0,d1,d2',d3⟩:=HSM6i.out.cells
     clear hb
     by_cases hni : 1 < ni
     ·have hI3 : (1 : Int) < (ni : Int):=by omega
      go_wp2_with fail
      obtain rfl : x5 = true:=by rw [← HX5.out]; unfold Rq.c5; simp [ hnt,hnc,hni]
      go_meet
      exact ⟨rfl,HSM6i.out⟩
     ·have hI3 : ¬ ((1 : Int) < (ni : Int)):=by omega
      go_wp2_with fail
      obtain rfl : x5 = false:=by rw [← HX5.out]; unfold Rq.c5; simp [ hnt,hnc,hni]
      go_meet
      exact ⟨by rw [decide_eq_false (show ¬ ((1 : Int) < (ni : Int)) by omega)],HSM6i.out⟩
   ·have hI2 : ¬ ((0 : Int) < (nc : Int)):=by omega
    go_wp2_with fail
    refine (KI.out _ HSM6.out.hs).mono ?_
    rintro e w6i ⟨rfl,hb⟩
    have HSM6i:=Lib.hid (HSM6.out.next hb)
    obtain ⟨d0,d1,d2',d3⟩:=HSM6i.out.cells
    clear hb
    by_cases hni : 1 < ni
    ·have hI3 : (1 : Int) < (ni : Int):=by omega
     go_wp2_with fail
     obtain rfl : x5 = true:=by rw [← HX5.out]; unfold Rq.c5; simp [ hnt,hnc,hni]
     go_meet
     exact ⟨rfl,HSM6i.out⟩
    ·have hI3 : ¬ ((1 : Int) < (ni : Int)):=by omega
     go_wp2_with fail
     obtain rfl : x5 = false:=by rw [← HX5.out]; unfold Rq.c5; simp [ hnt,hnc,hni]
     go_meet
     exact ⟨by rw [decide_eq_false (show ¬ ((1 : Int) < (ni : Int)) by omega)],HSM6i.out⟩
 case rest =>
 obtain ⟨rfl,hsm⟩:=hcut
 clear HSM d0 d1 d2' d3
 obtain ⟨v5,rfl⟩ : ∃ z,z = wc:=⟨_,rfl⟩
 have HSM:=Lib.hid hsm
 clear hsm
 obtain ⟨d0,d1,d2',d3⟩:=HSM.out.cells
 cases x5 with
 | true =>
  have HO:=Lib.hid (show st = 400 by rw [HSTT.out,HX4.out,HX5.out]; rfl)
  go_wp2_with fail
  go_ret
  exact ⟨by rw [HO.out]; rfl,HA.out ▸ HSM.out.bel⟩
 | false =>
 obtain ⟨x7,hx7⟩ : ∃ z,Rq.c7 vn nh nt nc cz ni = z:=⟨_,rfl⟩
 have HX7:=Lib.hid hx7
 clear hx7
 go_upto_region 7 with (fail)
 go_cut [62] from 13 (fun s62 wx => s62 = .bool x7 ∧ SmW w wx A D fb p n c fs p2 n2 c2 q2 k2 d2 g.1)
 case first =>
  rcases hv12 with rfl | rfl
  ·go_wp2_with fail
   refine (KV.out _).mono ?_
   rintro e w9 ⟨rfl,hw9⟩
   subst w9
   go_wp2_with fail
   obtain rfl : x7 = false:=by rw [← HX7.out]; unfold Rq.c7; simp
   go_meet
   exact ⟨rfl,HSM.out⟩
  go_wp2_with fail
  refine (KV.out _).mono ?_
  rintro e w9 ⟨rfl,hw9⟩
  subst w9
  go_wp2_with fail
  refine (KH.out _ HSM.out.hs).mono ?_
  rintro e w5 ⟨rfl,hb⟩
  have HSM5:=Lib.hid (HSM.out.next hb)
  obtain ⟨d0,d1,d2',d3⟩:=HSM5.out.cells
  clear hb
  by_cases hnh : nh = 1
  rotate_left
  ·have e1 : ((nh : Int) == 1) = false:=beq_eq_false_iff_ne.2 (by omega)
   have e2 : ((nh : Int) != 1) = true:=by unfold bne; rw [e1]; rfl
   go_wp2_with fail
   obtain rfl : x7 = true:=by rw [← HX7.out]; unfold Rq.c7; simp [hnh]
   go_meet
   exact ⟨rfl,HSM5.out⟩
  have e1 : ((nh : Int) == 1) = true:=beq_iff_eq.2 (by omega)
  have e2 : ((nh : Int) != 1) = false:=by unfold bne; rw [e1]; rfl
  go_wp2_with fail
  refine (KT.out _ HSM5.out.hs).mono ?_
  rintro e w6 ⟨rfl,hb⟩
  have HSM6:=Lib.hid (HSM5.out.next hb)
  obtain ⟨d0,d1,d2',d3⟩:=HSM6.out.cells
  clear hb
  by_cases hnt : 0 < nt
  ·have hI : (0 : Int) < (nt : Int):=by omega
   go_wp2_with fail
   obtain rfl : x7 = true:=by rw [← HX7.out]; unfold Rq.c7; simp [hnh,hnt]
   go_meet
   exact ⟨rfl,HSM6.out⟩
  ·have hI : ¬ ((0 : Int) < (nt : Int)):=by omega
   by_cases hnc : 0 < nc
   ·have hI2 : (0 : Int) < (nc : Int):=by omega
    cases cz with
    | false =>
     go_wp2_with fail
     obtain rfl : x7 = true:=by rw [← HX7.out]; unfold Rq.c7; simp [hnh,hnc]
     go_meet
     exact ⟨rfl,HSM6.out⟩
    | true =>
     go_wp2_with fail
     refine (KI.out _ HSM6.out.hs).mono ?_
     rintro e w6i ⟨rfl,hb⟩
     have HSM6i:=Lib.hid (HSM6.out.next hb)
     obtain ⟨d0,d1,d2',d3⟩:=HSM6i.out.cells
     clear hb
     by_cases hni : 1 < ni
     ·have hI3 : (1 : Int) < (ni : Int):=by omega
      go_wp2_with fail
      obtain rfl : x7 = true:=by rw [← HX7.out]; unfold Rq.c7; simp [hnh,hnt,hnc,hni]
      go_meet
      exact ⟨rfl,HSM6i.out⟩
     ·have hI3 : ¬ ((1 : Int) < (ni : Int)):=by omega
      go_wp2_with fail
      obtain rfl : x7 = false:=by rw [← HX7.out]; unfold Rq.c7; simp [hnh,hnt,hnc,hni]
      go_meet
      exact ⟨by rw [decide_eq_false (show ¬ ((1 : Int) < (ni : Int)) by omega)],HSM6i.out⟩
   ·have hI2 : ¬ ((0 : Int) < (nc : Int)):=by omega
    go_wp2_with fail
    refine (KI.out _ HSM6.out.hs).mono ?_
    rintro e w6i ⟨rfl,hb⟩
    have HSM6i:=Lib.hid (HSM6.out.next hb)
    obtain ⟨d0,d1,d2',d3⟩:=HSM6i.out.cells
    clear hb
    by_cases hni : 1 < ni
    ·have hI3 : (1 : Int) < (ni : Int):=by omega
     go_wp2_with fail
     obtain rfl : x7 = true:=by rw [← HX7.out]; unfold Rq.c7; simp [hnh,hnt,hnc,hni]
     go_meet
     exact ⟨rfl,HSM6i.out⟩
    ·have hI3 : ¬ ((1 : Int) < (ni : Int)):=by omega
     go_wp2_with fail
     obtain rfl : x7 = false:=by rw [← HX7.out]; unfold Rq.c7; simp [hnh,hnt,hnc,hni]
     go_meet
     exact ⟨by rw [decide_eq_false (show ¬ ((1 : Int) < (ni : Int)) by omega)],HSM6i.out⟩
 case rest =>
 obtain ⟨rfl,hsm⟩:=hcut
 clear HSM d0 d1 d2' d3
 obtain ⟨v7,rfl⟩ : ∃ z,z = wc:=⟨_,rfl⟩
 have HSM:=Lib.hid hsm
 clear hsm
 obtain ⟨d0,d1,d2',d3⟩:=HSM.out.cells
 cases x7 with
 | true =>
  have HO:=Lib.hid (show st = 400 by rw [HSTT.out,HX4.out,HX5.out,HX7.out]; rfl)
  go_wp2_with fail
  go_ret
  exact ⟨by rw [HO.out]; rfl,HA.out ▸ HSM.out.bel⟩
 | false =>
 rcases hv12 with rfl | rfl
 rotate_left
 ·have HO:=Lib.hid (show st = 505 by rw [HSTT.out,HX4.out,HX5.out,HX7.out]; rfl)
  go_wp2_with fail
  refine (KV.out _).mono ?_
  rintro e w9 ⟨rfl,hw9⟩
  subst w9
  go_wp2_with fail
  go_ret
  exact ⟨by rw [HO.out]; rfl,HA.out ▸ HSM.out.bel⟩
 cases mg with
 | false =>
  have HO:=Lib.hid (show st = 405 by rw [HSTT.out,HX4.out,HX5.out,HX7.out]; rfl)
  go_wp2_with fail
  refine (KV.out _).mono ?_
  rintro e w9 ⟨rfl,hw9⟩
  subst w9
  go_wp2_with fail
  go_ret
  exact ⟨by rw [HO.out]; rfl,HA.out ▸ HSM.out.bel⟩
 | true =>
 have HO:=Lib.hid (show st = if Rq.takes (Ap.qual (Rq.joined Rq.nAcc fs) Rq.tTx Rq.tEv) = true ∨ g.1.flatMap (fun p => 47 :: p) = Rq.pHealth then 200 else 406 by rw [HSTT.out,HX4.out,HX5.out,HX7.out]; rfl)
 clear HSTT HX4 HX5 HX7
 go_wp2_with fail
 refine (KV.out _).mono ?_
 rintro e w9 ⟨rfl,hw9⟩
 subst w9
 go_wp2_with fail
 refine (KA.out _ HSM.out.hs).mono ?_
 rintro e w8 ⟨rfl,hb⟩
 have HSM8:=Lib.hid (HSM.out.next hb)
 obtain ⟨d0,d1,d2',d3⟩:=HSM8.out.cells
 clear hb
 have hacz : (⟨(Rq.joined Rq.nAcc fs).toArray⟩ : ByteArray).size ≤ 5000:=by simpa [ByteArray.size] using HAC.out
 have KQ:=rf_Quality ⟨(Rq.joined Rq.nAcc fs).toArray⟩ ⟨#[116,101,120,116]⟩ ⟨#[101,118,101,110,116,45,115,116,114,101,97,109]⟩ w8 (by omega)
 rw [show (⟨#[116,101,120,116]⟩ : ByteArray).toList = Rq.tTx from ba_list Rq.tTx,show (⟨#[101,118,101,110,116,45,115,116,114,101,97,109]⟩ : ByteArray).toList = Rq.tEv from ba_list Rq.tEv,show (⟨(Rq.joined Rq.nAcc fs).toArray⟩ : ByteArray).data.toList = Rq.joined Rq.nAcc fs from rfl] at KQ
 obtain ⟨oq,hoq⟩ : ∃ z,Ap.qual (Rq.joined Rq.nAcc fs) Rq.tTx Rq.tEv = z:=⟨_,rfl⟩
 have hpos : ∀ q,oq = some q → 0 ≤ q:=fun q hq => Ap.qual_pos (hoq.trans hq)
 have HO2:=Lib.hid (show st = if Rq.takes oq = true ∨ Gt.jpath g.1 = Rq.pHealth then 200 else 406 by rw [HO.out,hoq]; rfl)
 rw [hoq] at KQ
 obtain ⟨acb,hacb⟩ : ∃ z : ByteArray,(⟨(Rq.joined Rq.nAcc fs).toArray⟩ : ByteArray) = z:=⟨_,rfl⟩
 rw [hacb] at KQ ⊢
 have KQH:=Lib.hid KQ
 have KPA:=Lib.hid (fun X hX => ref_Path (.slice p2 n2 c2) g.1 X hX (by have:=HG3.out; omega) (fun q hq => by have:=HG4.out q hq; omega) q2 k2 d2)
 obtain ⟨jb,hjb⟩ : ∃ z : ByteArray,(⟨(Gt.jpath g.1).toArray⟩ : ByteArray) = z:=⟨_,rfl⟩
 simp only [hjb] at KPA
 have hjt : jb.toList = Gt.jpath g.1:=by rw [← hjb,ba_list]
 obtain ⟨pz,hpz⟩ : ∃ z,(Gt.jpath g.1 == Rq.pHealth) = z:=⟨_,rfl⟩
 have ep : (jb.toList == ([47,104,101,97,108,116,104] : List UInt8)) = pz:=by rw [hjt]; exact hpz
 have hpz' : (Gt.jpath g.1 = Rq.pHealth) ↔ pz = true:=by rw [← hpz]; simp
 have HO3:=Lib.hid (show st = if Rq.takes oq = true ∨ pz = true then 200 else 406 by rw [HO2.out]; simp only [hpz'])
 clear hacz KQ hoq hacb hjb hjt hpz hpz' HO HO2
 cases oq with
 | none =>
  unfold quV at KQH
  go_wp2_with fail
  refine KQH.out.mono ?_
  rintro e w9 ⟨rfl,hb9⟩
  have HSM9:=Lib.hid (HSM8.out.next hb9)
  clear hb9 d0 d1 d2' d3
  obtain ⟨d0,d1,d2',d3⟩:=HSM9.out.cells
  go_wp2_with fail
  refine (KPA.out _ HSM9.out.ts).mono ?_
  rintro e wp ⟨rfl,hbp⟩
  have HSP:=Lib.hid (HSM9.out.next hbp)
  clear hbp
  cases pz with
  | true =>
   have HOO:=Lib.hid (show st = 200 by rw [HO3.out]; simp [Rq.takes])
   go_wp2_with fail
   go_ret
   exact ⟨by rw [HOO.out]; rfl,HA.out ▸ HSP.out.bel⟩
  | false =>
   have HOO:=Lib.hid (show st = 406 by rw [HO3.out]; simp [Rq.takes])
   go_wp2_with fail
   go_ret
   exact ⟨by rw [HOO.out]; rfl,HA.out ▸ HSP.out.bel⟩
 | some y =>
  have hy:=hpos y rfl
  unfold quV at KQH
  by_cases hy0 : y = 0
  ·subst hy0
   go_wp2_with fail
   refine KQH.out.mono ?_
   rintro e w9 ⟨rfl,hb9⟩
   have HSM9:=Lib.hid (HSM8.out.next hb9)
   clear hb9 d0 d1 d2' d3
   obtain ⟨d0,d1,d2',d3⟩:=HSM9.out.cells
   go_wp2_with fail
   refine (KPA.out _ HSM9.out.ts).mono ?_
   rintro e wp ⟨rfl,hbp⟩
   have HSP:=Lib.hid (HSM9.out.next hbp)
   clear hbp
   cases pz with
   | true =>
    have HOO:=Lib.hid (show st = 200 by rw [HO3.out]; simp [Rq.takes])
    go_wp2_with fail
    go_ret
    exact ⟨by rw [HOO.out]; rfl,HA.out ▸ HSP.out.bel⟩
   | false =>
    have HOO:=Lib.hid (show st = 406 by rw [HO3.out]; simp [Rq.takes])
    go_wp2_with fail
    go_ret
    exact ⟨by rw [HOO.out]; rfl,HA.out ▸ HSP.out.bel⟩
  ·have e1 : (y == 0) = false:=beq_eq_false_iff_ne.2 hy0
   have HOO:=Lib.hid (show st = 200 by rw [HO3.out]; simp [Rq.takes,show 0 < y by omega])
   go_wp2_with fail
   refine KQH.out.mono ?_
   rintro e w9 ⟨rfl,hb9⟩
   have HSM9:=Lib.hid (HSM8.out.next hb9)
   clear hb9 d0 d1 d2' d3
   obtain ⟨d0,d1,d2',d3⟩:=HSM9.out.cells
   go_wp2_with fail
   go_ret
   exact ⟨by rw [HOO.out]; rfl,HA.out ▸ HSM9.out.bel⟩
end Go.Proofs.YtfacmnooklljnaaGreatDoor
namespace Go.Proofs.YtfacmnooklljnaaGreatDoor
open Go.RowKit Go.Shelf
attribute [local go_sem] Oper.semAt_some
set_option maxHeartbeats 8000000
set_option maxRecDepth 100000
def OqO (F : List UInt8) (fs : List Hp.Hd) (e : Ending) : Prop:=∃ (m ib : ByteArray) (p : Option Addr) (n c : Nat) (q : Option Addr) (k d : Nat) (ob hb kb : Bool) (z : Int),e = .returned (.tuple #[rqV m (.slice p n c) (.slice q k d) ob hb kb ib,.int .i64 (Rq.stW F fs).1,.int .i64 z])
structure OqW (w X : World) (A R : Nat) (fb : ByteArray) (p : Option Addr) (n c : Nat) (fs : List Hp.Hd) : Prop where
 bel : Below w.heap.size w X
 h : X.heap[A]? = some (.cells #[.string fb,.slice p n c] 25 (0,0))
 r : X.heap[R]? = some rq0C
 hs : HS X (.slice p n c) fs
theorem OqW.next {w X Y : World} {A R : Nat} {fb : ByteArray} {p : Option Addr} {n c : Nat} {fs : List Hp.Hd} (h : OqW w X A R fb p n c fs) (b : Below X.heap.size X Y) : OqW w Y A R fb p n c fs :=
 ⟨h.bel.trans (b.mono h.bel.size),(b.block _ (Array.getElem?_eq_some_iff.1 h.h).1).trans h.h,(b.block _ (Array.getElem?_eq_some_iff.1 h.r).1).trans h.r,h.hs.below b⟩
theorem OqW.cells {w X : World} {A R : Nat} {fb : ByteArray} {p : Option Addr} {n c : Nat} {fs : List Hp.Hd} (h : OqW w X A R fb p n c fs) : X.cell? ⟨A,0,none⟩ = some (.string fb) ∧ X.cell? ⟨A,1,none⟩ = some (.slice p n c):=by
 have hH:=h.h
 exact ⟨by simp [World.cell?,hH],by simp [World.cell?,hH]⟩
structure OqL (w X : World) (R Q : Nat) (mb ib : ByteArray) (P1 Q1 : Value) (ob hb : Bool) (L : List (List UInt8)) (g : Option Addr) (N cp : Nat) (kb : Bool) : Prop where
 bel : Below w.heap.size w X
 q : X.heap[Q]? = some (rqC mb P1 Q1 ob hb kb ib)
 r : X.heap[R]? = some rq0C
 row : StrRow X (.slice g N cp) L
theorem OqL.next {w X Y : World} {R Q : Nat} {mb ib : ByteArray} {P1 Q1 : Value} {ob hb : Bool} {L : List (List UInt8)} {g : Option Addr} {N cp : Nat} {kb : Bool} (h : OqL w X R Q mb ib P1 Q1 ob hb L g N cp kb) (b : Below X.heap.size X Y) : OqL w Y R Q mb ib P1 Q1 ob hb L g N cp kb:=by
 refine ⟨h.bel.trans (b.mono h.bel.size),(b.block _ (Array.getElem?_eq_some_iff.1 h.q).1).trans h.q,(b.block _ (Array.getElem?_eq_some_iff.1 h.r).1).trans h.r,?_⟩
 obtain ⟨p,c,h1,h2⟩:=h.row
 exact ⟨p,c,h1,h2.imp id (fun ⟨g,a,k⟩ => ⟨g,a,fun j hj => cell_below b (k j hj)⟩)⟩
theorem OqL.set {w X : World} {R Q : Nat} {mb ib : ByteArray} {P1 Q1 : Value} {ob hb : Bool} {L : List (List UInt8)} {g : Option Addr} {N cp : Nat} {kb : Bool} (h : OqL w X R Q mb ib P1 Q1 ob hb L g N cp kb) (hw : w.heap.size ≤ Q) (hr : R ≠ Q) (b : Bool) : OqL w (X.setCell ⟨Q,5,none⟩ (.bool b)) R Q mb ib P1 Q1 ob hb L g N cp b:=by
 have hq:=h.q
 refine ⟨h.bel.setCell (p:=⟨Q,5,none⟩) hw _,?_,(Below.heap_setCell _ _ _ _ (by show R ≠ Q; exact hr)).trans h.r,?_⟩
 ·unfold rqC at hq ⊢
  rw [heap_setCell_same X Q 5 _ _ (.bool b) hq]
  simp
 ·obtain ⟨p,c,h1,h2⟩:=h.row
  refine ⟨p,c,h1,h2.imp id (fun ⟨g,a,k⟩ => ⟨g,a,fun j hj => ?_⟩)⟩
  have hk:=k j hj
  have hne : (⟨Q,5,none⟩ : Addr) ≠ ⟨g,j,none⟩:=fun e => by
   cases e
   have h5:=(rqC_cells hq).2.2.2.2.2.1
   rw [h5] at hk
   unfold tx at hk
   cases hk
  rw [World.cell?_setCell_other (h:=hne)]
  exact hk
theorem rf_Of13 (F : List UInt8) (V : Value) (fs : List Hp.Hd) (w : World) (hv : HS w V fs) (ho : RqOk F fs) :
  Calls Tryz.prog 16 #[.agg #[Hp.sx F,V]] w fun e w' => OqO F fs e ∧ Below w.heap.size w w':=by
 have hget : ∀ (N : ByteArray) (nm : List UInt8),N.data.toList = nm → N.size ≤ 100000 → ∀ X,HS X V fs → Calls Tryz.prog 39 #[.agg #[Hp.sx F,V],.string N] X fun e w' => e = .returned (.tuple #[.string ⟨(Rq.joined nm fs).toArray⟩,.int .i64 ((Rq.many nm fs : Nat) : Int)]) ∧ Below X.heap.size X w':=fun N nm hnm hN X hX => hnm ▸ rf_get13 F N V fs X hX ho.l ho.s hN
 have hright : ∀ X,HS X V fs → Calls Tryz.prog 12 #[.agg #[Hp.sx F,V]] X fun e w' => e = .returned (.bool (Hr.okB F fs)) ∧ Below X.heap.size X w':=fun X hX => rf_Right F V fs X hX (by have:=ho.f; omega) ho.l ho.s
 have hstat : ∀ X,HS X V fs → Calls Tryz.prog 37 #[.agg #[Hp.sx F,V]] X fun e w' => e = .returned (.int .i64 (Rq.status F fs)) ∧ Below X.heap.size X w':=fun X hX => rf_Status13 F V fs X hX ho
 obtain ⟨A,hA⟩ : ∃ z,w.heap.size = z:=⟨_,rfl⟩
 obtain ⟨W1,hW1⟩ : ∃ z,(w.alloc (.cells #[Hp.sx F,V] 25)).alloc (.cells #[.string ⟨#[]⟩,.slice none 0 0,.slice none 0 0,.bool false,.bool false,.bool false,.string ⟨#[]⟩] 38) = z:=⟨_,rfl⟩
 have hb1 : Below w.heap.size w W1:=by rw [← hW1]; exact ((Below.refl _ _).alloc (Nat.le_refl _) _).alloc (by simp) _
 have hz1 : W1.heap.size = A + 2:=by rw [← hW1,← hA]; simp
 have hH : W1.heap[A]? = some (.cells #[Hp.sx F,V] 25 (0,0)):=by
  have h:=World.alloc_heap_new w (.cells #[Hp.sx F,V] 25)
  rw [hA] at h
  rw [← hW1,Below.heap_alloc _ _ _ (by simp [hA])]
  exact h
 have hR : W1.heap[A + 1]? = some rq0C:=by
  have h:=World.alloc_heap_new (w.alloc (.cells #[Hp.sx F,V] 25)) (.cells #[.string ⟨#[]⟩,.slice none 0 0,.slice none 0 0,.bool false,.bool false,.bool false,.string ⟨#[]⟩] 38)
  rw [hW1] at h
  simpa [hA,rq0C,rqC] using h
 have hv1:=hv.below hb1
 obtain ⟨p,c,rfl⟩:=hv.slice
 obtain ⟨n,hn⟩ : ∃ n,fs.length = n:=⟨_,rfl⟩
 have hv0:=hv
 rw [hn] at hv0
 have KL0:=fun X => rf_line ⟨F.toArray⟩ X (by have:=ho.f; simp only [ByteArray.size,List.size_toArray]; omega)
 have KI:=Lib.hid (fun X hX => show Calls Tryz.prog _ #[_,.string ⟨#[108,97,115,116,45,101,118,101,110,116,45,105,100]⟩] X _ from hget ⟨#[108,97,115,116,45,101,118,101,110,116,45,105,100]⟩ Rq.nId rfl (by decide) X hX)
 have KC:=Lib.hid (fun X hX => show Calls Tryz.prog _ #[_,.string ⟨#[99,111,110,110,101,99,116,105,111,110]⟩] X _ from hget ⟨#[99,111,110,110,101,99,116,105,111,110]⟩ Rq.nCon rfl (by decide) X hX)
 have KR:=Lib.hid hright
 have KS:=Lib.hid hstat
 have HCZ:=Lib.hid (show (Rq.joined Rq.nCon fs).length ≤ 5000 from ho.c)
 have hzz : (Rq.stW F fs).1 = (if Hr.okB F fs = true then (Rq.status F fs,(0 : Int)) else (0,2)).1:=rfl
 obtain ⟨ok,hok⟩ : ∃ z,Hr.okB F fs = z:=⟨_,rfl⟩
 obtain ⟨st,hst⟩ : ∃ z,Rq.status F fs = z:=⟨_,rfl⟩
 simp only [hok] at KR
 simp only [hst] at KS
 rw [hok,hst] at hzz
 have HZS:=Lib.hid hzz
 clear hzz
 rw [hn] at hH hv1 hW1 ⊢
 simp only [hn] at KI KC KR KS
 unfold Hp.sx at hH hW1 KI KC KR KS ⊢
 obtain ⟨fb,hfb⟩ : ∃ z : ByteArray,(⟨F.toArray⟩ : ByteArray) = z:=⟨_,rfl⟩
 simp only [hfb] at hH hW1 KL0 KI KC KR KS ⊢
 have KL:=Lib.hid KL0
 have HS1:=Lib.hid (show OqW w W1 A (A + 1) fb p n c fs from ⟨hb1,hH,hR,hv1⟩)
 have HW1:=Lib.hid hW1
 have HA:=Lib.hid hA
 have HS0:=Lib.hid hv0
 clear hv hv0 ho hget hright hstat hb1 hz1 hH hR hv1 hn KL0 hok hst hfb hW1 hA
 obtain ⟨d0,d1⟩:=HS1.out.cells
 go_enter Tryz.func16,Tryz.ntmps16
 go_upto_region 1 with (fail)
 rw [HW1.out,HA.out]
 go_wp2_with fail
 refine (KR.out _ HS1.out.hs).mono ?_
 rintro e w2 ⟨rfl,hb⟩
 have HS2:=Lib.hid (HS1.out.next hb)
 clear hb d0 d1
 obtain ⟨d0,d1⟩:=HS2.out.cells
 cases ok with
 | false =>
  obtain ⟨x0,x1,x2,x3,x4,x5,x6,z⟩:=rqC_cells HS2.out.r
  have z0:=z 0
  have z1:=z 1
  have z2:=z 2
  have z3:=z 3
  have z4:=z 4
  have z5:=z 5
  have z6:=z 6
  clear z
  go_wp2_with fail
  have hX:=rqPut_heap HS2.out.r ⟨#[]⟩ (.slice none 0 0) (.slice none 0 0) false false false ⟨#[]⟩
  have hbX:=rqPut_below HS2.out.bel (R:=A + 1) (by have:=HA.out; omega) ⟨#[]⟩ (.slice none 0 0) (.slice none 0 0) false false false ⟨#[]⟩
  unfold rqPut at hX hbX
  obtain ⟨X,hXX⟩ : ∃ X,((((((w2.setCell ⟨A + 1,0,none⟩ (.string ⟨#[]⟩)).setCell ⟨A + 1,1,none⟩ (.slice none 0 0)).setCell ⟨A + 1,2,none⟩ (.slice none 0 0)).setCell ⟨A + 1,3,none⟩ (.bool false)).setCell ⟨A + 1,4,none⟩ (.bool false)).setCell ⟨A + 1,5,none⟩ (.bool false)).setCell ⟨A + 1,6,none⟩ (.string ⟨#[]⟩) = X:=⟨_,rfl⟩
  rw [hXX] at hX hbX ⊢
  obtain ⟨u0,u1,u2,u3,u4,u5,u6,_⟩:=rqC_cells hX
  clear hXX hX x0 x1 x2 x3 x4 x5 x6 z0 z1 z2 z3 z4 z5 z6
  exact bodyPost_ret (v:=.tuple #[rq0,.int .i64 0,.int .i64 2]) (by simp [results,Tryz.results16,go_sem,u0,u1,u2,u3,u4,u5,u6,rq0,rqV]) rfl ⟨⟨⟨#[]⟩,⟨#[]⟩,none,0,0,none,0,0,false,false,false,2,by rw [HZS.out]; rfl⟩,hbX⟩
 | true =>
 go_wp2_with fail
 refine (KS.out _ HS2.out.hs).mono ?_
 rintro e w3 ⟨rfl,hb⟩
 have HS3:=Lib.hid (HS2.out.next hb)
 clear hb d0 d1
 obtain ⟨d0,d1⟩:=HS3.out.cells
 by_cases hs2 : st = 200
 rotate_left
 ·have e1 : (st == 200) = false:=beq_eq_false_iff_ne.2 hs2
  clear hs2
  obtain ⟨x0,x1,x2,x3,x4,x5,x6,z⟩:=rqC_cells HS3.out.r
  have z0:=z 0
  have z1:=z 1
  have z2:=z 2
  have z3:=z 3
  have z4:=z 4
  have z5:=z 5
  have z6:=z 6
  clear z
  go_wp2_with fail
  have hX:=rqPut_heap HS3.out.r ⟨#[]⟩ (.slice none 0 0) (.slice none 0 0) false false false ⟨#[]⟩
  have hbX:=rqPut_below HS3.out.bel (R:=A + 1) (by have:=HA.out; omega) ⟨#[]⟩ (.slice none 0 0) (.slice none 0 0) false false false ⟨#[]⟩
  unfold rqPut at hX hbX
  obtain ⟨X,hXX⟩ : ∃ X,((((((w3.setCell ⟨A + 1,0,none⟩ (.string ⟨#[]⟩)).setCell ⟨A + 1,1,none⟩ (.slice none 0 0)).setCell ⟨A + 1,2,none⟩ (.slice none 0 0)).setCell ⟨A + 1,3,none⟩ (.bool false)).setCell ⟨A + 1,4,none⟩ (.bool false)).setCell ⟨A + 1,5,none⟩ (.bool false)).setCell ⟨A + 1,6,none⟩ (.string ⟨#[]⟩) = X:=⟨_,rfl⟩
  rw [hXX] at hX hbX ⊢
  obtain ⟨u0,u1,u2,u3,u4,u5,u6,_⟩:=rqC_cells hX
  clear hXX hX x0 x1 x2 x3 x4 x5 x6 z0 z1 z2 z3 z4 z5 z6
  exact bodyPost_ret (v:=.tuple #[rq0,.int .i64 st,.int .i64 230]) (by simp [results,Tryz.results16,go_sem,u0,u1,u2,u3,u4,u5,u6,rq0,rqV]) rfl ⟨⟨⟨#[]⟩,⟨#[]⟩,none,0,0,none,0,0,false,false,false,230,by rw [HZS.out]; rfl⟩,hbX⟩
 subst hs2
 go_wp2_with fail
 refine (KL.out _).mono ?_
 rintro e w4 ⟨⟨mb,vb,p2,n2,c2,q2,k2,d2,rfl,_⟩,hb⟩
 have HS4:=Lib.hid (HS3.out.next hb)
 clear hb d0 d1
 go_upto_region 7 with (fail)
 obtain ⟨w5,hw5⟩ : ∃ z,w4.alloc (.cells #[.slice p2 n2 c2,.slice q2 k2 d2] 36) = z:=⟨_,rfl⟩
 have hb5 : Below w4.heap.size w4 w5:=by rw [← hw5]; exact (Below.refl _ _).alloc (Nat.le_refl _) _
 have hT5 : w5.heap[w4.heap.size]? = some (tgC p2 n2 c2 q2 k2 d2):=by rw [← hw5]; exact World.alloc_heap_new _ _
 rw [hw5]
 have HS5:=Lib.hid (HS4.out.next hb5)
 obtain ⟨t0,t1,_,_⟩:=tgC_cells hT5
 obtain ⟨D,hD⟩ : ∃ z,w4.heap.size = z:=⟨_,rfl⟩
 rw [hD] at t0 t1 ⊢
 obtain ⟨ob,hob⟩ : ∃ z,(vb.toList == ([72,84,84,80,47,49,46,48] : List UInt8)) = z:=⟨_,rfl⟩
 clear hw5 hb5 hT5 hD
 go_upto_region 8 with (fail)
 obtain ⟨w6,hw6⟩ : ∃ z,w5.alloc (.cells #[.string mb,.slice p2 n2 c2,.slice q2 k2 d2,.bool ob,.bool false,.bool false,.string ⟨#[]⟩] 38) = z:=⟨_,rfl⟩
 have hb6 : Below w5.heap.size w5 w6:=by rw [← hw6]; exact (Below.refl _ _).alloc (Nat.le_refl _) _
 have hQ6 : w6.heap[w5.heap.size]? = some (rqC mb (.slice p2 n2 c2) (.slice q2 k2 d2) ob false false ⟨#[]⟩):=by rw [← hw6]; exact World.alloc_heap_new _ _
 rw [hw6]
 have HS6:=Lib.hid (HS5.out.next hb6)
 have HSZ:=Lib.hid (show w.heap.size ≤ w5.heap.size from HS5.out.bel.size)
 have HRQ:=Lib.hid (show A + 1 ≠ w5.heap.size from Nat.ne_of_lt (Array.getElem?_eq_some_iff.1 HS5.out.r).1)
 obtain ⟨Q,hQ⟩ : ∃ z,w5.heap.size = z:=⟨_,rfl⟩
 have HQE:=Lib.hid hQ
 rw [hQ] at hQ6 HSZ HRQ ⊢
 have HQ6:=Lib.hid hQ6
 clear hw6 hb6 hQ6 hQ t0 t1
 obtain ⟨d0,d1⟩:=HS6.out.cells
 go_wp2_with fail
 refine (KI.out _ HS6.out.hs).mono ?_
 rintro e w7 ⟨rfl,hb⟩
 have HS7:=Lib.hid (HS6.out.next hb)
 have HQ7:=Lib.hid ((hb.block _ (Array.getElem?_eq_some_iff.1 HQ6.out).1).trans HQ6.out)
 clear hb d0 d1
 obtain ⟨ib,hib⟩ : ∃ z : ByteArray,(⟨(Rq.joined Rq.nId fs).toArray⟩ : ByteArray) = z:=⟨_,rfl⟩
 obtain ⟨ni,hni⟩ : ∃ z,Rq.many Rq.nId fs = z:=⟨_,rfl⟩
 rw [hib,hni]
 obtain ⟨x0,x1,x2,x3,x4,x5,x6,z⟩:=rqC_cells HQ7.out
 have z4:=z 4
 have z5:=z 5
 have z6:=z 6
 clear z hib hni
 go_upto_region 10 with (fail)
 have hX1 : ((((w7.setCell ⟨Q,6,none⟩ (.string ib)).setCell ⟨Q,4,none⟩ (.bool (decide (0 < ni)))).setCell ⟨Q,5,none⟩ (.bool ob))).heap[Q]? = some (rqC mb (.slice p2 n2 c2) (.slice q2 k2 d2) ob (decide (0 < ni)) ob ib):=by
  have h:=HQ7.out
  unfold rqC at h ⊢
  have h1:=heap_setCell_same w7 Q 6 _ _ (.string ib) h
  have h2:=heap_setCell_same _ Q 4 _ _ (.bool (decide (0 < ni))) h1
  have h3:=heap_setCell_same _ Q 5 _ _ (.bool ob) h2
  rw [h3]
  simp
 have hX2 : Below w.heap.size w (((w7.setCell ⟨Q,6,none⟩ (.string ib)).setCell ⟨Q,4,none⟩ (.bool (decide (0 < ni)))).setCell ⟨Q,5,none⟩ (.bool ob)):=((HS7.out.bel.setCell (p:=⟨Q,6,none⟩) HSZ.out _).setCell (p:=⟨Q,4,none⟩) HSZ.out _).setCell (p:=⟨Q,5,none⟩) HSZ.out _
 have hX3 : ∀ j,j ≠ Q → (((w7.setCell ⟨Q,6,none⟩ (.string ib)).setCell ⟨Q,4,none⟩ (.bool (decide (0 < ni)))).setCell ⟨Q,5,none⟩ (.bool ob)).heap[j]? = w7.heap[j]?:=fun j hj => by
  rw [Below.heap_setCell _ _ _ _ (by show j ≠ Q; exact hj),Below.heap_setCell _ _ _ _ (by show j ≠ Q; exact hj),Below.heap_setCell _ _ _ _ (by show j ≠ Q; exact hj)]
 have hAQ : A ≠ Q:=by have h1:=HSZ.out; have h2:=HA.out; have h3:=(Array.getElem?_eq_some_iff.1 HS5.out.r).1; have h5:=(Array.getElem?_eq_some_iff.1 HS5.out.r).1; rw [← HQE.out]; omega
 obtain ⟨w8,hw8⟩ : ∃ z,(((w7.setCell ⟨Q,6,none⟩ (.string ib)).setCell ⟨Q,4,none⟩ (.bool (decide (0 < ni)))).setCell ⟨Q,5,none⟩ (.bool ob)) = z:=⟨_,rfl⟩
 rw [hw8] at hX1 hX2 hX3 ⊢
 have hH8:=(hX3 A hAQ).trans HS7.out.h
 have hR8:=(hX3 (A + 1) HRQ.out).trans HS7.out.r
 have hS8 : HS w8 (.slice p n c) fs:=HS0.out.below hX2
 have HX1:=Lib.hid hX1
 have HS8:=Lib.hid (show OqW w w8 A (A + 1) fb p n c fs from ⟨hX2,hH8,hR8,hS8⟩)
 clear hw8 hX1 hX2 hX3 hH8 hR8 hS8 x0 x1 x2 x3 x4 x5 x6 z4 z5 z6
 obtain ⟨d0,d1⟩:=HS8.out.cells
 go_wp2_with fail
 refine (KC.out _ HS8.out.hs).mono ?_
 rintro e w9 ⟨rfl,hb⟩
 have HS9:=Lib.hid (HS8.out.next hb)
 have HQ9:=Lib.hid ((hb.block _ (Array.getElem?_eq_some_iff.1 HX1.out).1).trans HX1.out)
 clear hb d0 d1
 have KIT:=rtk_items ⟨(Rq.joined Rq.nCon fs).toArray⟩ w9 (by simpa [ByteArray.size] using HCZ.out)
 obtain ⟨cb,hcb⟩ : ∃ z : ByteArray,(⟨(Rq.joined Rq.nCon fs).toArray⟩ : ByteArray) = z:=⟨_,rfl⟩
 rw [hcb] at KIT ⊢
 have hcz : cb.size ≤ 5000:=by rw [← hcb]; simpa [ByteArray.size] using HCZ.out
 have hnl:=items_lengthZ cb.data.toList
 have hcl : cb.data.toList.length = cb.size:=rfl
 have hml:=fun x (hx : x ∈ Tp.items cb.data.toList) => Tp.items_len hx
 obtain ⟨L,hL⟩ : ∃ z,Tp.items cb.data.toList = z:=⟨_,rfl⟩
 rw [hL] at KIT hnl
 simp only [hL] at hml
 have HML:=Lib.hid (show ∀ x ∈ L,x.length ≤ 5000 from fun x hx => by have:=hml x hx; omega)
 have hN1 : L.length ≤ 5001:=by omega
 have KITH:=Lib.hid KIT
 clear KIT hcb hnl hml hL
 go_wp2_with fail
 refine KITH.out.mono ?_
 rintro e w10 ⟨r,rfl,hrow,hb⟩
 obtain ⟨g,cp,rfl,hcells⟩:=hrow
 have HQA:=Lib.hid ((hb.block _ (Array.getElem?_eq_some_iff.1 HQ9.out).1).trans HQ9.out)
 have HSA:=Lib.hid (HS9.out.next hb)
 have HLL:=Lib.hid (show OqL w w10 (A + 1) Q mb ib (.slice p2 n2 c2) (.slice q2 k2 d2) ob (decide (0 < ni)) L g L.length cp ob from ⟨HSA.out.bel,HQA.out,HSA.out.r,g,cp,rfl,hcells⟩)
 obtain ⟨N,hN⟩ : ∃ z,L.length = z:=⟨_,rfl⟩
 rw [hN] at hN1 HLL ⊢
 have HN:=Lib.hid hN
 clear hb hcells hN
 go_wp2_with fail
 go_loopw [16] (fun iv wr => ∃ (k : Nat) (kb : Bool),k ≤ N ∧ iv = .int .i64 (k : Int) ∧ OqL w wr (A + 1) Q mb ib (.slice p2 n2 c2) (.slice q2 k2 d2) ob (decide (0 < ni)) L g N cp kb) (fun iv _ => N - (intOf iv).toNat)
 case atStart => exact ⟨0,ob,Nat.zero_le _,rfl,HLL.out⟩
 case round =>
  obtain ⟨k,kb,hk,rfl,hl⟩:=hrel
  have HL:=Lib.hid hl
  obtain ⟨x0,x1,x2,x3,x4,x5,x6,z⟩:=rqC_cells hl.q
  have z5:=z 5
  clear z
  by_cases hlt : k < N
  ·have hI : (k : Int) < (N : Int):=by omega
   cases kb with
   | true =>
    have HL2:=Lib.hid (hl.set HSZ.out HRQ.out true)
    clear hl
    go_wp2_with fail
    go_roundw
    case rel => exact ⟨k + 1,true,hlt,by go_num,HL2.out⟩
    case measure => simp [intOf]; omega
   | false =>
    obtain ⟨g',cp',he,hcs⟩:=hl.row
    rw [HN.out] at he
    simp only [Value.slice.injEq,true_and] at he
    obtain ⟨rfl,rfl⟩:=he
    rcases hcs with h0 | ⟨gg,rfl,hcs⟩
    ·exact absurd hlt (by rw [← HN.out,h0]; omega)
    have hcx:=hcs k (by rw [HN.out]; exact hlt)
    obtain ⟨x,hx⟩ : ∃ z,L.getD k [] = z:=⟨_,rfl⟩
    have hxl:=HML.out x (by rw [← hx,List.getD_eq_getElem?_getD,List.getElem?_eq_getElem (show k < L.length by rw [HN.out]; exact hlt)]; exact List.getElem_mem _)
    rw [hx] at hcx
    unfold tx at hcx
    obtain ⟨xb,hxb⟩ : ∃ z : ByteArray,(⟨x.toArray⟩ : ByteArray) = z:=⟨_,rfl⟩
    have hxz : xb.size ≤ 5000:=by rw [← hxb]; simpa [ByteArray.size] using hxl
    rw [hxb] at hcx
    have KLO:=Lib.hid (rtk_lower xb wr (by omega))
    obtain ⟨lb,hlb⟩ : ∃ z : ByteArray,(⟨(Tp.lower xb.data.toList).toArray⟩ : ByteArray) = z:=⟨_,rfl⟩
    rw [hlb] at KLO
    obtain ⟨cz,hcz2⟩ : ∃ z,(lb.toList == ([99,108,111,115,101] : List UInt8)) = z:=⟨_,rfl⟩
    clear hl hcs hx hxl hxb hlb
    go_wp2_with fail
    refine KLO.out.mono ?_
    rintro e w11 ⟨rfl,hb⟩
    have hl2:=HL.out.next hb
    obtain ⟨y0,y1,y2,y3,y4,y5,y6,z⟩:=rqC_cells hl2.q
    have u5:=z 5
    have HL2:=Lib.hid (hl2.set HSZ.out HRQ.out cz)
    clear hb hl2 z x0 x1 x2 x3 x4 x5 x6 z5 hcx
    go_wp2_with fail
    go_roundw
    case rel => exact ⟨k + 1,cz,hlt,by go_num,HL2.out⟩
    case measure => simp [intOf]; omega
  ·have hI : ¬ ((k : Int) < (N : Int)):=by omega
   clear hl z5
   obtain ⟨r0,r1,r2,r3,r4,r5,r6,z⟩:=rqC_cells HL.out.r
   have z0:=z 0
   have z1:=z 1
   have z2:=z 2
   have z3:=z 3
   have z4:=z 4
   have z5:=z 5
   have z6:=z 6
   clear z
   go_wp2_with fail
   have hX:=rqPut_heap HL.out.r mb (.slice p2 n2 c2) (.slice q2 k2 d2) ob (decide (0 < ni)) kb ib
   have hbX:=rqPut_below HL.out.bel (R:=A + 1) (by have:=HA.out; omega) mb (.slice p2 n2 c2) (.slice q2 k2 d2) ob (decide (0 < ni)) kb ib
   unfold rqPut at hX hbX
   obtain ⟨X,hXX⟩ : ∃ X,((((((wr.setCell ⟨A + 1,0,none⟩ (.string mb)).setCell ⟨A + 1,1,none⟩ (.slice p2 n2 c2)).setCell ⟨A + 1,2,none⟩ (.slice q2 k2 d2)).setCell ⟨A + 1,3,none⟩ (.bool ob)).setCell ⟨A + 1,4,none⟩ (.bool (decide (0 < ni)))).setCell ⟨A + 1,5,none⟩ (.bool kb)).setCell ⟨A + 1,6,none⟩ (.string ib) = X:=⟨_,rfl⟩
   rw [hXX] at hX hbX ⊢
   obtain ⟨u0,u1,u2,u3,u4,u5,u6,_⟩:=rqC_cells hX
   clear hXX hX x0 x1 x2 x3 x4 x5 x6 z0 z1 z2 z3 z4 z5 z6 r0 r1 r2 r3 r4 r5 r6
   exact bodyPost_ret (v:=.tuple #[rqV mb (.slice p2 n2 c2) (.slice q2 k2 d2) ob (decide (0 < ni)) kb ib,.int .i64 200,.int .i64 0]) (by simp [results,Tryz.results16,go_sem,u0,u1,u2,u3,u4,u5,u6,rqV]) rfl ⟨⟨mb,ib,p2,n2,c2,q2,k2,d2,ob,decide (0 < ni),kb,0,by rw [HZS.out]; rfl⟩,hbX⟩
end Go.Proofs.YtfacmnooklljnaaGreatDoor
namespace Go.Proofs.YtfacmnooklljnaaGreatDoor
open Go.RowKit Go.Shelf
attribute [local go_sem] Oper.semAt_some
set_option maxHeartbeats 8000000
set_option maxRecDepth 100000
def stI (q : HQ) : Int:=(Rq.stW q.1 q.2.1).1
def stC (q : HQ) : Value:=.int .i64 (stI q)
theorem HdIn.of_blocks {w X : World} {v : Value} {hs : List HQ} (h : HdIn w v hs) (k : ∀ b,b < w.heap.size → X.heap[b]? = w.heap[b]?) : HdIn X v hs:=by
 refine ⟨?_,fun q hq => (h.2 q hq).of_blocks k⟩
 obtain ⟨p,c,h1,h2⟩:=h.1
 exact ⟨p,c,h1,h2.imp id (fun ⟨g,o,a1,a2⟩ => ⟨g,o,a1,fun j hj i x hx => (World.cell?_of_block (a:=⟨g,o + j * 2 + i,none⟩) (k g (lt_of_cell (a2 j hj i x hx)))).trans (a2 j hj i x hx)⟩)⟩
theorem rq_every (v : Value) (p : Option Addr) (n c : Nat) (hv : v = .slice p n c) (w : World) :
  Calls Tryz.prog 41 #[v] w fun e w' => e = .returned (.func (.func 86) #[] #[.pointer (some ⟨w.heap.size,0,none⟩)]) ∧ w' = w.alloc (.cells #[v] 44):=by
 subst hv
 have hmf : ∀ (fn : Fn) (first cap : Array Value) (w : World),(Instr.makeFunc fn first cap).run Tryz.prog w = .ok (.func fn first cap) w:=fun _ _ _ _ => rfl
 go_enter Tryz.func41,Tryz.ntmps41
 go_wp2_with fail
 go_ret
 exact ⟨rfl,rfl⟩
theorem rq_every_it (m HB : Nat) (v : Value) (hs : List HQ) (own : Nat → Prop) (Kp : World → World → Prop) (S : World → Prop) (hl : hs.length ≤ 1000) (hok : ∀ q ∈ hs,RqOk q.1 q.2.1) (W : World)
  (hS : ∀ X,S X → X.heap[HB]? = some (.cells #[v] 44 (0,0)) ∧ HdIn X v hs ∧ Mx X) (hKp : ∀ X Y,Kp X Y → S X → S Y) (hTu : ∀ X Y,Turn W.heap.size own X Y → S X → S Y) (hv : S W) :
  IterAt Fence.wide m Tryz.prog 86 #[.pointer (some ⟨HB,0,none⟩)] (fun j => #[.int .i64 (j : Int),.int .i64 (stI (hs.getD j hqd))]) hs.length own Kp W:=by
 intro l J Jx hJ hJx hY h0
 obtain ⟨h1,h2,h3⟩:=hS W hv
 obtain ⟨p,c,rfl⟩:=h2.1.slice
 obtain ⟨N,hN⟩ : ∃ z,hs.length = z:=⟨_,rfl⟩
 rw [hN] at hY hl ⊢
 have c1 : W.cell? ⟨HB,0,none⟩ = some (.slice p N c):=by rw [← hN]; simp [World.cell?,h1]
 have HN:=Lib.hid hN
 have HV:=Lib.hid hv
 have HSS:=Lib.hid hS
 have HTU:=Lib.hid hTu
 have HKP:=Lib.hid hKp
 have HJ:=Lib.hid hJ
 have HY:=Lib.hid hY
 have HJ0:=Lib.hid h0
 have HOK:=Lib.hid hok
 clear hN hv h1 h2 h3 hS hTu hKp hJ hY h0 hok
 refine callsIn_of_wp Tryz.func86 rfl trivial ?_ rfl
 simp only [Tryz.ntmps86,List.size_toArray,List.length_cons,List.length_nil,Nat.reduceAdd,Nat.reduceSub,Array.replicate_succ,Array.replicate_zero,List.push_toArray,List.append_toArray,List.nil_append,List.cons_append]
 gi_wp2_with fail
 gi_loopw [9] (fun i wr => ∃ k : Nat,k ≤ N ∧ i = .int .i64 k ∧ J k wr ∧ S wr) (fun i _ => N - (intOf i).toNat)
 case atStart => exact ⟨0,Nat.zero_le _,rfl,HJ0.out,HV.out⟩
 case round =>
  obtain ⟨k,hk,rfl,hj,hs'⟩:=hrel
  have HJK:=Lib.hid hj
  have HSW:=Lib.hid hs'
  clear hj hs'
  by_cases hlt : k < N
  ·have hI1 : ((k : Int) < (N : Int)):=by omega
   obtain ⟨h1,h2,h3⟩:=HSS.out wr HSW.out
   obtain ⟨g,o,c',hsl,hcl⟩:=h2.1.at (j:=k) (by rw [HN.out]; exact hlt)
   rw [HN.out] at hsl
   obtain ⟨rfl,rfl⟩ : p = some ⟨g,o,none⟩ ∧ c = c':=by
    simp only [Value.slice.injEq] at hsl
    exact ⟨hsl.1,hsl.2.2⟩
   obtain ⟨⟨F,fs,V⟩,hq⟩ : ∃ x,hs.getD k hqd = x:=⟨_,rfl⟩
   have hmem : hs.getD k hqd ∈ hs:=by rw [List.getD_eq_getElem?_getD,List.getElem?_eq_getElem (by rw [HN.out]; exact hlt)]; exact List.getElem_mem _
   have hHS:=h2.2 _ hmem
   have hfw:=HOK.out _ hmem
   rw [hq] at hHS hfw hcl
   have x0:=hcl 0 _ rfl
   have x1:=hcl 1 _ rfl
   rw [Nat.add_zero] at x0
   simp only at hHS hfw x1
   obtain ⟨p2,c2,rfl⟩:=hHS.slice
   obtain ⟨fb,hfb⟩ : ∃ z : ByteArray,(⟨F.toArray⟩ : ByteArray) = z:=⟨_,rfl⟩
   have hp0 : 0 < wr.heap.size:=by obtain ⟨m,hm⟩:=h3; exact lt_of_cell hm
   have KO:=(fun W (h : Below wr.heap.size wr W) => rq_Status F (.slice p2 fs.length c2) fs W (hHS.below h) hfw (h3.below h hp0))
   obtain ⟨a,ha⟩ : ∃ z,stI (hs.getD k hqd) = z:=⟨_,rfl⟩
   have hst : (Rq.stW F fs).1 = a:=by rw [← ha,hq]; rfl
   obtain ⟨er,her⟩ : ∃ z,(Rq.stW F fs).2 = z:=⟨_,rfl⟩
   rw [hst,her] at KO
   unfold Hp.sx at KO x0
   rw [hfb] at KO x0
   obtain ⟨M,hM⟩ : ∃ z,fs.length = z:=⟨_,rfl⟩
   rw [hM] at KO x1
   obtain ⟨W3,hW3⟩ : ∃ z,wr.alloc (.cells #[.string fb,.slice p2 M c2] 25) = z:=⟨_,rfl⟩
   have hb3 : Below wr.heap.size wr W3:=by rw [← hW3]; exact (Below.refl _ _).alloc (Nat.le_refl _) _
   have hH3 : W3.heap[wr.heap.size]? = some (.cells #[.string fb,.slice p2 M c2] 25 (0,0)):=by rw [← hW3]; exact World.alloc_heap_new _ _
   have KO3:=Lib.hid ((callsIn_wide (n:=m - 1)).2 (KO W3 hb3))
   obtain ⟨D,hD⟩ : ∃ z,wr.heap.size = z:=⟨_,rfl⟩
   rw [hD] at hH3
   have y0 : W3.cell? ⟨D,0,none⟩ = some (.string fb):=by simp [World.cell?,hH3]
   have y1 : W3.cell? ⟨D,1,none⟩ = some (.slice p2 M c2):=by simp [World.cell?,hH3]
   have HJ3:=Lib.hid (HJ.out _ _ _ HJK.out (turn_belQ hb3))
   have HS3:=Lib.hid (HTU.out _ _ (turn_belQ hb3) HSW.out)
   have HW3:=Lib.hid hW3
   have HD:=Lib.hid hD
   have HA:=Lib.hid ha
   clear h1 h2 h3 hcl hsl hq hmem hHS hfw hfb hst her hM hW3 hb3 hH3 hD KO ha hp0
   gi_wp2_with fail
   rw [HW3.out,HD.out]
   refine ⟨trivial,(fun h => by cases h),KO3.out.mono ?_⟩
   rintro e w4 ⟨rfl,hb4⟩
   have HJ4:=Lib.hid (HJ.out _ _ _ HJ3.out (turn_belQ hb4))
   have HS4:=Lib.hid (HTU.out _ _ (turn_belQ hb4) HS3.out)
   obtain ⟨fn,tmps,assign,body,hy,hR⟩:=HY.out k w4 hlt HJ4.out
   try simp only at hy
   rw [HA.out] at hy
   clear hb4 x0 x1 y0 y1 KO3
   gi_wp2_with fail
   refine ⟨(fun h => by cases h),hR.mono ?_⟩
   rintro z Y (⟨rfl,hj',hkp,_⟩ | ⟨rfl,hjx,_⟩)
   ·have HSZ:=Lib.hid (HKP.out _ _ hkp HS4.out)
    have HJ5:=Lib.hid hj'
    clear hy hR hj' hkp
    gi_wp2
    try go_roundw
    case rel => exact ⟨k + 1,hlt,by go_num,HJ5.out,HSZ.out⟩
    case measure => simp [intOf]; omega
   ·clear hy hR
    gi_wp2
    simp [bodyPost,results,Tryz.results86,go_sem]
    exact .inr hjx
  ·have hI1 : ¬ ((k : Int) < (N : Int)):=by omega
   have HKN:=Lib.hid (show k = N by omega)
   gi_wp2
   try rw [Exit.noGoto_normal]
   go_end0
   exact ⟨⟨_,rfl⟩,.inl (by rw [← HKN.out]; exact HJK.out)⟩
theorem rq_Each (v : Value) (hs : List HQ) (w : World) (hv : HdIn w v hs) (hl : hs.length ≤ 8) (hok : ∀ q ∈ hs,RqOk q.1 q.2.1) (hm : Mx w) :
  Calls Tryz.prog 17 #[v] w fun e w' => ∃ X B,e = .returned (.func (.func 42) #[] #[.pointer (some ⟨X,0,none⟩)]) ∧ RwI 3 45 w X B (hs.map stC) w':=by
 have hmf : ∀ (fn : Fn) (first cap : Array Value) (w : World),(Instr.makeFunc fn first cap).run Tryz.prog w = .ok (.func fn first cap) w:=fun _ _ _ _ => rfl
 obtain ⟨i0,hi,hz0,hz1,hz2⟩:=info_parts (show (Tryz.prog.info? 3).map (fun i => (i.zero,i.size,i.bytes)) = some (some (.int .i64 0),1,8) by kernel_rfl)
 obtain ⟨p,c,rfl⟩:=hv.1.slice
 obtain ⟨N,hN⟩ : ∃ z,hs.length = z:=⟨_,rfl⟩
 rw [hN] at hv hl ⊢
 obtain ⟨B,hB⟩ : ∃ B,w.heap.size = B:=⟨_,rfl⟩
 have hB0 : 0 < B:=by obtain ⟨m,h⟩:=hm; rw [← hB]; exact lt_of_cell h
 obtain ⟨w1,hw1⟩ : ∃ z,w.alloc (.cells #[.slice none 0 0] 45) = z:=⟨_,rfl⟩
 have hb1 : Below w.heap.size w w1:=by rw [← hw1]; exact (Below.refl _ _).alloc (Nat.le_refl _) _
 have hz1' : w1.heap.size = B + 1:=by rw [← hw1,← hB]; simp
 obtain ⟨V,hV⟩ : ∃ z,w1.alloc (.cells #[.slice p N c] 44) = z:=⟨_,rfl⟩
 have hbV : Below w1.heap.size w1 V:=by rw [← hV]; exact (Below.refl _ _).alloc (Nat.le_refl _) _
 have hzV : V.heap.size = B + 2:=by rw [← hV]; simp [hz1']
 have hBl : Boxed V B 45 (.slice none 0 0):=by
  have h:=Boxed.new w 45 (.slice none 0 0)
  rw [hw1,hB] at h
  exact (hbV.block _ h.lt).trans h
 have hHB : V.heap[B + 1]? = some (.cells #[.slice p N c] 44 (0,0)):=by
  have h:=World.alloc_heap_new w1 (.cells #[.slice p N c] 44)
  rw [hz1',hV] at h
  exact h
 have HV0:=Lib.hid (show Below w.heap.size w V from hb1.trans (hbV.mono hb1.size))
 have KE:=Lib.hid (rq_every (.slice p N c) p N c rfl w1)
 rw [hV,hz1'] at KE
 have HVV:=Lib.hid hv
 have HM:=Lib.hid hm
 have HOK:=Lib.hid hok
 have HN:=Lib.hid hN
 have HBB:=Lib.hid hB
 have HW1:=Lib.hid hw1
 have HZV:=Lib.hid hzV
 have HBL:=Lib.hid hBl
 have HHB:=Lib.hid hHB
 have HVL:=Lib.hid (show (hs.map stC).length = N by rw [List.length_map,hN])
 have HVAT:=Lib.hid (show ∀ k,k < N → (hs.map stC).take (k + 1) = (hs.map stC).take k ++ [.int .i64 (stI (hs.getD k hqd))] from fun k hk => by
  rw [List.take_add_one,List.getElem?_map,List.getElem?_eq_getElem (show k < hs.length by omega),List.getD_eq_getElem?_getD,List.getElem?_eq_getElem (show k < hs.length by omega)]
  rfl)
 obtain ⟨vs,hvs⟩ : ∃ z,hs.map stC = z:=⟨_,rfl⟩
 rw [hvs] at HVL HVAT ⊢
 clear hv hm hok hN hB hw1 hzV hBl hHB hb1 hbV hz1' hV hvs
 refine callsIn_wide.1 (callsIn_of_wp_marks (F:=Fence.wide) (n:=9) Tryz.func17 rfl trivial ?_ rfl)
 simp only [Tryz.ntmps17,List.size_toArray,List.length_cons,List.length_nil,Nat.reduceAdd,Nat.reduceSub,Array.replicate_succ,Array.replicate_zero,List.push_toArray,List.append_toArray,List.nil_append,List.cons_append]
 refine wpIn_wide.2 ?_
 go_wp2_with fail
 rw [HW1.out,HBB.out]
 refine KE.out.mono ?_
 rintro e wx ⟨rfl,hwx⟩
 subst wx
 go_wp2_with fail
 refine (wpIn_wide (n:=9)).1 ?_
 have hVz : V.heap.size = B + 2:=HZV.out
 refine rf_outerE (N:=N) (own:=fun _ => False) (Kp:=fun X Y => ∀ b,b < B + 2 → b ≠ B → Y.heap[b]? = X.heap[b]?) (encs:=fun j => #[.int .i64 (j : Int),.int .i64 (stI (hs.getD j hqd))]) rfl (by omega) (gf:=86) (lb:=#[.pointer (some ⟨B + 1,0,none⟩)]) rfl trivial (enters_of Tryz.func86 (by kernel_rfl) rfl)
  (fun _ => rfl) (fun b hb => hb.elim) ?iter (fun h k b h1 h2 => (k b h1 h2).trans (h b h1 h2)) (fun X o o' h2 h3 b h1 _ => World.putObj_heap_other (by omega))
  (fun k X => Below w.heap.size w X ∧ (∀ b,b < B + 2 → b ≠ B → X.heap[b]? = V.heap[b]?) ∧ B + 2 ≤ X.heap.size ∧ ∃ lv,Boxed X B 45 lv ∧ X.ownsRow (B + 2) 3 1 lv k (vs.take k)) (fun c X => False)
  (fun k X Y hs ht => by
   obtain ⟨h1,h2,h3,lv,h4,h5⟩:=hs
   have hbt:=ht.below (N:=B + 2) (by omega) (by omega) (fun b hb => hb.elim)
   exact ⟨h1.trans (hbt.mono (by have:=HBB.out; omega)),fun b hb hne => (hbt.block b hb).trans (h2 b hb hne),Nat.le_trans h3 hbt.size,lv,ht.boxed h4 id,own_turn h5 ht (fun _ h => h)⟩) (fun c X Y hs ht => hs)
  ⟨HV0.out,fun _ _ _ => rfl,by omega,_,HBL.out,by rw [List.take_zero]; exact World.ownsRow_nil _ _ _ _⟩ ?E
 case iter =>
  intro X hX hs'
  have h:=rq_every_it (9 - 1) (B + 1) (.slice p N c) hs (fun _ => False) (fun X Y => ∀ b,b < B + 2 → b ≠ B → Y.heap[b]? = X.heap[b]?) (fun Y => ∀ b,b < B + 2 → b ≠ B → Y.heap[b]? = V.heap[b]?) (by have:=HN.out; omega) HOK.out X
   (fun Y hY => ⟨(hY (B + 1) (by omega) (by omega)).trans HHB.out,HVV.out.of_blocks (fun b hb => (hY b (by have:=HBB.out; omega) (by have:=HBB.out; omega)).trans (HV0.out.block b hb)),by
    obtain ⟨m,h⟩:=HM.out
    exact ⟨m,(World.cell?_of_block (a:=⟨0,0,none⟩) ((hY 0 (by omega) (by omega)).trans (HV0.out.block 0 (by have:=HBB.out; omega)))).trans h⟩⟩)
   (fun Y Z hk hy b h1 h2 => (hk b h1 h2).trans (hy b h1 h2))
   (fun Y Z ht hy b h1 h2 => (ht.low ((hy b h1 h2).trans (Array.getElem?_eq_getElem (by omega))) (by omega) id).trans (Array.getElem?_eq_getElem (by omega)).symm)
   (fun b h1 h2 => hX.block b (by omega))
  rw [HN.out] at h
  exact h
 case E =>
  apply Exists.intro
  refine ⟨?asg,?bod,?don,?stp⟩
  case asg =>
   intro l' k X K hk hi hK
   have HKK:=Lib.hid hK
   clear hK hk
   gi_wp2
   exact HKK.out _ (KeepsFrom.refl _ _) (fun _ _ _ => rfl) hi
  case stp => exact fun D c X hD hf => hf.elim
  case bod =>
   rintro l' k X hl' ⟨r,hr⟩ hk ⟨hb,hold,hsz,lv,hbx,hrow⟩
   obtain ⟨lp,lc,rfl⟩:=own_slQ hrow
   have HTK:=Lib.hid (HVAT.out k hk)
   obtain ⟨x,hx⟩ : ∃ z,stI (hs.getD k hqd) = z:=⟨_,rfl⟩
   rw [hx] at HTK
   rw [List.getD_eq_getElem?_getD] at hx
   rw [hx]
   have cl:=hbx.cell
   have HB:=Lib.hid hb
   have HOLD:=Lib.hid hold
   have HSZ:=Lib.hid hsz
   have HBX:=Lib.hid hbx
   have HROW:=Lib.hid hrow
   have hkN : k ≤ 1000:=by omega
   clear hb hold hsz hbx hrow hx
   gi_wp2_with (gi_at_builtin; refine wpListIn_append_own _ rfl _ _ 45 rfl (B + 2) 3 i0 (.int .i64 0) 1 8 Tryz.underlying45 hi hz0 hz1 hz2 rfl (by decide) _ _ _ rfl (HROW.out.alloc _) ⟨X.heap.size,0,none⟩ 1 1 [.int .i64 x] rfl rfl ?d1 ?d2 ?d3 ?d4 ?d5 ?_)
   try (case d1 =>
    intro j u hj
    match j,hj with
    | 0,hj => simp at hj; subst hj; simp [Addr.add])
   try (case d2 => first | rfl | (intro u hu; simp at hu; subst hu; rfl))
   try (case d3 => unfold maxLen; omega)
   try (case d4 => omega)
   try (case d5 => have:=HSZ.out; simp; omega)
   intro v' W3 hown' hgrow _
   have hapx:=Boxed.appended HBX.out (by decide : 45 ≠ 3) (own_low HROW.out (Nat.le_succ_of_le (Nat.le_succ _) : B ≤ B + 2)) (by have:=HSZ.out; omega) (Nat.le_refl _) (own_low hown' (by omega)) hgrow
   obtain ⟨a1,a2,a3,a4,a5⟩:=hapx
   have cl3:=a1.cell
   have fl3:=a1.frozen
   obtain ⟨p',c',rfl⟩:=own_slQ hown'
   have hr4:=hown'.kept (grownBy_setCell' W3 B (.slice p' (k + 1) c')) (.inr (a1.not_row (by decide) hown').symm)
   have HR4:=Lib.hid (show (W3.setCell ⟨B,0,none⟩ (.slice p' (k + 1) c')).ownsRow (B + 2) 3 1 (.slice p' (k + 1) c') (k + 1) (vs.take (k + 1)) by
    rw [HTK.out]
    exact hr4)
   have HOL:=Lib.hid (show ∀ b,b < B + 2 → b ≠ B → (W3.setCell ⟨B,0,none⟩ (.slice p' (k + 1) c')).heap[b]? = X.heap[b]? from fun b h1 h2 =>
    (Below.heap_setCell _ _ _ _ (by show b ≠ B; exact h2)).trans ((hgrow.block b (by have:=HSZ.out; simp; omega) (fun e => by have:=own_geH HROW.out b e.symm; omega)).trans (Below.heap_alloc _ _ _ (by have:=HSZ.out; omega))))
   have HA2:=Lib.hid a2
   have HA4:=Lib.hid a4
   have HA5:=Lib.hid a5
   clear hown' hgrow a1 a2 a3 a4 a5 hr4
   gi_wp2
   change KeepsFrom _ _ _ ∧ _ ∧ _
   exact ⟨HA4.out.from _,HOL.out,HB.out.trans (HA5.out.mono (by have:=HBB.out; omega)),fun b h1 h2 => (HOL.out b h1 h2).trans (HOLD.out b h1 h2),Nat.le_trans HSZ.out HA5.out.size,_,HA2.out,HR4.out⟩
  case don =>
   rintro D X hD ⟨hb,hold,hsz,lv,hbx,hrow⟩ hKD
   rw [List.take_of_length_le (by rw [HVL.out]; exact Nat.le_refl _)] at hrow
   have HB:=Lib.hid hb
   have HROW:=Lib.hid hrow
   have HKD:=Lib.hid (show X.heap[D]? = some (.deferred (some [])) from hKD)
   have HBX:=Lib.hid hbx
   have HSZ:=Lib.hid hsz
   have HDD:=Lib.hid (show B + 2 ≤ D by rw [← hVz]; exact hD)
   clear hb hold hsz hbx hrow hKD
   go_wp2_with fail
   refine ⟨by simp,.inl ⟨_,_,rfl,run_takeDeferred HKD.out,?_⟩⟩
   refine ⟨.func (.func 42) #[] #[.pointer (some ⟨B,0,none⟩)],?_,B,B + 2,rfl,?_⟩
   ·simp [results,Tryz.results17,go_sem]
   ·refine ⟨lv,(World.putObj_heap_other (by have:=HDD.out; omega)).trans HBX.out,?_,by simpa using HSZ.out,by have:=HBB.out; omega,by omega,HB.out.trans (belowK_b (w:=w) (Nat.le_refl _) _ D _ _ (by have:=HDD.out; have:=HBB.out; omega) HKD.out rfl rfl)⟩
    have hr:=HROW.out
    rw [show vs.length = N from HVL.out]
    refine ⟨hr.1,hr.2.imp id (fun ⟨g,cap,cur,k1,k2,k3,k4⟩ => ⟨g,cap,cur,k1,k2,(World.putObj_heap_other (fun e => ?_)).trans k3,k4⟩)⟩
    subst e
    have h:=HKD.out
    rw [k3] at h
    cases h
end Go.Proofs.YtfacmnooklljnaaGreatDoor
namespace Go.Proofs.YtfacmnooklljnaaGreatDoor
open Go.RowKit Go.Shelf
set_option maxHeartbeats 8000000
set_option maxRecDepth 100000
namespace Rs
def fewF (f : Hp.Hd) : Bool:=decide (f.1.length + f.2.length ≤ 200)
def few (F : List UInt8) (fs : List Hp.Hd) : Bool:=(fs.take 13).all fewF && (decide (fs.length ≤ 12) && decide (F.length ≤ 200))
theorem few_is {F : List UInt8} {fs : List Hp.Hd} (h : few F fs = true) : fs.length ≤ 12 ∧ F.length ≤ 200 ∧ ∀ f ∈ fs,f.1.length + f.2.length ≤ 200:=by
 unfold few at h
 simp only [Bool.and_eq_true,decide_eq_true_eq,List.all_eq_true] at h
 obtain ⟨h1,h2,h3⟩:=h
 refine ⟨h2,h3,fun f hf => ?_⟩
 have h4:=h1 f (by rw [List.take_of_length_le (by omega)]; exact hf)
 exact of_decide_eq_true h4
theorem join_le : ∀ (vs : List (List UInt8)) (z : List UInt8) (m : Nat),(∀ v ∈ vs,v.length ≤ m) → (Lib.join vs z).length ≤ vs.length * (m + z.length)
 | [],z,m,_ => by simp [Lib.join]
 | v :: vs,z,m,h => by
  have h1:=h v (by simp)
  cases vs with
  | nil => simp [Lib.join]; omega
  | cons u us =>
   have h2:=join_le (u :: us) z m (fun x hx => h x (List.mem_cons_of_mem _ hx))
   have h3 : (Lib.join (v :: u :: us) z).length = v.length + z.length + (Lib.join (u :: us) z).length:=by
    simp [Lib.join]; omega
   rw [h3,List.length_cons,Nat.succ_mul]
   omega
theorem vals_le {nm : List UInt8} {fs : List Hp.Hd} {m : Nat} (h : ∀ f ∈ fs,f.2.length ≤ m) : (Hg.vals nm fs).length ≤ fs.length ∧ ∀ v ∈ Hg.vals nm fs,v.length ≤ m:=by
 unfold Hg.vals
 refine ⟨?_,fun v hv => ?_⟩
 ·rw [List.length_map]; exact List.length_filter_le _ _
 ·obtain ⟨f,hf,rfl⟩:=List.mem_map.1 hv
  exact h f (List.mem_filter.1 hf).1
theorem joined_le {nm : List UInt8} {fs : List Hp.Hd} (hl : fs.length ≤ 12) (h : ∀ f ∈ fs,f.1.length + f.2.length ≤ 200) : (joined nm fs).length ≤ 5000:=by
 obtain ⟨h1,h2⟩:=vals_le (nm:=nm) (fs:=fs) (m:=200) (fun f hf => by have:=h f hf; omega)
 have h3:=join_le (Hg.vals nm fs) [44,32] 200 h2
 unfold joined
 have h4 : (Hg.vals nm fs).length * (200 + [44,32].length) ≤ 12 * 202:=Nat.mul_le_mul (by omega) (by decide)
 omega
end Rs
def fwF (H g o N c k a b : Nat) (nb vb : ByteArray) : Nat → World → Value → Prop
 | 0,_,v => v = .pointer (some ⟨H,1,none⟩)
 | 1,_,v => v = .slice (some ⟨g,o,none⟩) N c
 | 2,_,v => v = .int .i64 (k : Int)
 | 3,_,v => v = .pointer (some ⟨g,o + k * 2,none⟩)
 | 4,_,v => v = .pointer (some ⟨g,o + k * 2,none⟩)
 | 5,_,v => v = .string nb
 | 6,_,v => v = .int .i64 (a : Int)
 | 7,_,v => v = .pointer (some ⟨H,1,none⟩)
 | 8,_,v => v = .slice (some ⟨g,o,none⟩) N c
 | 9,_,v => v = .int .i64 (k : Int)
 | 10,_,v => v = .pointer (some ⟨g,o + k * 2,none⟩)
 | 11,_,v => v = .pointer (some ⟨g,o + k * 2 + 1,none⟩)
 | 12,_,v => v = .string vb
 | 13,_,v => v = .int .i64 (b : Int)
 | 14,_,v => v = .int .i64 ((a : Int) + (b : Int))
 | 15,_,v => v = .bool (decide ((200 : Int) < (a : Int) + (b : Int)))
 | _,_,_ => False
theorem rs_few (F : List UInt8) (v : Value) (fs : List Hp.Hd) (w : World) (hv : HS w v fs) (hF : F.length ≤ 140737488355328) (hl : fs.length ≤ 9223372036854775807) (hs : ∀ f ∈ fs,f.1.length ≤ 140737488355328 ∧ f.2.length ≤ 140737488355328) :
  Calls Tryz.prog 15 #[.agg #[Hp.sx F,v]] w fun e w' => e = .returned (.bool (Rs.few F fs)) ∧ Below w.heap.size w w':=by
 obtain ⟨p,c,rfl⟩:=hv.slice
 obtain ⟨N,hN⟩ : ∃ N,fs.length = N:=⟨_,rfl⟩
 rw [hN] at hv hl ⊢
 unfold Hp.sx
 obtain ⟨fb,hfb⟩ : ∃ z : ByteArray,(⟨F.toArray⟩ : ByteArray) = z:=⟨_,rfl⟩
 have hfz : fb.size = F.length:=by rw [← hfb]; simp [ByteArray.size]
 rw [hfb]
 obtain ⟨H,hH⟩ : ∃ H,w.heap.size = H:=⟨_,rfl⟩
 obtain ⟨W1,hW1⟩ : ∃ Z,w.alloc (.cells #[.string fb,.slice p N c] 25) = Z:=⟨_,rfl⟩
 have HB1:=Lib.hid (show Below H w W1 by rw [← hW1,← hH]; exact (Below.refl _ _).alloc (Nat.le_refl _) _)
 have HG1:=Lib.hid (show W1.heap[H]? = some (.cells #[.string fb,.slice p N c] 25 (0,0)) by rw [← hW1,← hH]; exact World.alloc_heap_new _ _)
 have hb1:=HB1.out
 have HV:=Lib.hid (hv.below (by rw [hH]; exact hb1))
 have HW1:=Lib.hid hW1
 have HHH:=Lib.hid hH
 have HNN:=Lib.hid hN
 have HSZ:=Lib.hid hs
 have HFZ:=Lib.hid hfz
 obtain ⟨z,hz⟩ : ∃ z,fb.size = z:=⟨_,rfl⟩
 have HZZ:=Lib.hid hz
 have hzl : z ≤ 140737488355328:=by omega
 clear hv hs hN hfb hfz hz hH hW1 hb1
 go_enter Tryz.func15,Tryz.ntmps15
 go_wp2_with fail
 rw [HHH.out,HW1.out]
 have HFEW:=Lib.hid (show Rs.few F fs = ((fs.take 13).all Rs.fewF && (decide (N ≤ 12) && decide (z ≤ 200))) by unfold Rs.few; rw [HNN.out,← HFZ.out,HZZ.out])
 go_loopw [3] (fun i wr => ∃ k : Nat,k ≤ N ∧ k ≤ 13 ∧ i = .int .i64 k ∧ (fs.take k).all Rs.fewF = true ∧ Below W1.heap.size W1 wr) (fun i _ => N - (intOf i).toNat)
 case atStart => exact ⟨0,Nat.zero_le _,Nat.zero_le _,rfl,rfl,Below.refl _ _⟩
 case round =>
  obtain ⟨k,hk,hk13,rfl,hall,hbw⟩:=hrel
  have HAL:=Lib.hid hall
  have HBW:=Lib.hid hbw
  have HBB:=Lib.hid (show Below w.heap.size w wr by rw [HHH.out]; exact HB1.out.trans (hbw.mono (by have h1:=HB1.out.size; have h2:=HHH.out; omega)))
  have hgw:=(hbw.block H (Array.getElem?_eq_some_iff.1 HG1.out).1).trans HG1.out
  have HGW:=Lib.hid hgw
  have a0 : wr.cell? ⟨H,0,none⟩ = some (.string fb):=by simp [World.cell?,hgw]
  have a1 : wr.cell? ⟨H,1,none⟩ = some (.slice p N c):=by simp [World.cell?,hgw]
  clear hall hbw hgw
  have hfin : N ≤ k ∨ k = 13 → (fs.take 13).all Rs.fewF = true:=fun h => by
   rcases h with h | h
   ·rw [List.take_of_length_le (by rw [HNN.out]; omega)]
    have h2:=HAL.out
    rwa [List.take_of_length_le (by rw [HNN.out]; omega)] at h2
   ·have h2:=HAL.out
    rwa [h] at h2
  have HFIN:=Lib.hid hfin
  clear hfin
  by_cases hlt : k < N
  ·have hI : (k : Int) < (N : Int):=by omega
   by_cases h13 : k = 13
   ·subst h13
    have HE:=Lib.hid (show Rs.few F fs = false by rw [HFEW.out,decide_eq_false (show ¬ N ≤ 12 by omega),Bool.false_and,Bool.and_false])
    have hN12 : ¬ (N : Int) ≤ 12:=by omega
    go_wp2_with fail
    go_ret
    exact ⟨by rw [HE.out]; rfl,HBB.out⟩
   ·have h12 : (k : Int) ≤ 12:=by omega
    have HVR:=Lib.hid (HV.out.below HBW.out)
    obtain ⟨g,o,rfl,hc1⟩:=HVR.out.cells (k:=k) (by rw [HNN.out]; exact hlt)
    obtain ⟨hx,hy⟩:=hc1 k (by rw [HNN.out]; exact hlt)
    have hmem : fs.getD k ([],[]) ∈ fs:=by rw [List.getD_eq_getElem?_getD,List.getElem?_eq_getElem (by rw [HNN.out]; exact hlt)]; exact List.getElem_mem _
    have hszf:=HSZ.out _ hmem
    have htk : fs.take (k + 1) = fs.take k ++ [fs.getD k ([],[])]:=by
     rw [List.take_add_one,List.getD_eq_getElem?_getD,List.getElem?_eq_getElem (by rw [HNN.out]; exact hlt)]; rfl
    have htm : fs.getD k ([],[]) ∈ fs.take 13:=by
     refine (List.take_subset_take_left fs (show k + 1 ≤ 13 by omega)) ?_
     rw [htk]; simp
    obtain ⟨⟨n0,v0⟩,hf⟩ : ∃ x,fs.getD k ([],[]) = x:=⟨_,rfl⟩
    rw [hf] at hx hy hszf htk htm
    simp only at hx hy hszf
    unfold Hp.sx at hx hy
    obtain ⟨nb,hnb⟩ : ∃ z : ByteArray,(⟨n0.toArray⟩ : ByteArray) = z:=⟨_,rfl⟩
    obtain ⟨vb,hvb⟩ : ∃ z : ByteArray,(⟨v0.toArray⟩ : ByteArray) = z:=⟨_,rfl⟩
    have hnl : nb.size = n0.length:=by rw [← hnb]; simp [ByteArray.size]
    have hvl : vb.size = v0.length:=by rw [← hvb]; simp [ByteArray.size]
    rw [hnb] at hx
    rw [hvb] at hy
    obtain ⟨a,ha⟩ : ∃ z,nb.size = z:=⟨_,rfl⟩
    obtain ⟨b,hb⟩ : ∃ z,vb.size = z:=⟨_,rfl⟩
    have hA : a ≤ 140737488355328:=by omega
    have hB : b ≤ 140737488355328:=by omega
    have HWR:=Lib.hid (show IntKind.i64.wrap ((a : Int) + (b : Int)) = (a : Int) + (b : Int) by simp [IntKind.wrap,IntKind.bits,IntKind.signed]; omega)
    have HX:=Lib.hid hx
    have HY:=Lib.hid hy
    have HLA:=Lib.hid ha
    have HLB:=Lib.hid hb
    have HTK:=Lib.hid htk
    have HTM:=Lib.hid htm
    have HQ:=Lib.hid (show Rs.fewF (n0,v0) = decide (a + b ≤ 200) by unfold Rs.fewF; simp only; rw [← hnl,← hvl,ha,hb])
    clear hc1 hmem hszf htk htm hf hnb hvb hnl hvl hx hy ha hb hA hB
    go_wp2_with fail
    refine region_slotsG (fun i => 15 + min i 15) (fwF H g o N c k a b nb vb) (fun _ => true) (by kernel_rfl) (by kernel_rfl) (fun i => by show 15 + min i 15 < _; simp; omega) (fun i j hi hj h => by have hi : i < 16:=hi; have hj : j < 16:=hj; omega) ?mono ?dst ?gu ?ng ?skip ?step ?done
    case mono =>
     intro i W W' v h hbw
     match i,h with
     | 0,h | 1,h | 2,h | 3,h | 4,h | 5,h | 6,h | 7,h | 8,h | 9,h | 10,h | 11,h | 12,h | 13,h | 14,h | 15,h => exact h
     | n + 16,h => exact h.elim
    case dst =>
     intro i o ho
     match i,ho with
     | 0,ho | 1,ho | 2,ho | 3,ho | 4,ho | 5,ho | 6,ho | 7,ho | 8,ho | 9,ho | 10,ho | 11,ho | 12,ho | 13,ho | 14,ho | 15,ho => cases ho; rfl
     | n + 16,ho => exact absurd ho (by simp)
    case gu =>
     intro i o g b ho hgd W v hv
     match i,ho with
     | 0,ho => cases ho; cases hgd
     | 1,ho => cases ho; cases hgd
     | 2,ho => cases ho; cases hgd
     | 3,ho => cases ho; cases hgd
     | 4,ho => cases ho; cases hgd
     | 5,ho => cases ho; cases hgd
     | 6,ho => cases ho; cases hgd
     | 7,ho => cases ho; cases hgd
     | 8,ho => cases ho; cases hgd
     | 9,ho => cases ho; cases hgd
     | 10,ho => cases ho; cases hgd
     | 11,ho => cases ho; cases hgd
     | 12,ho => cases ho; cases hgd
     | 13,ho => cases ho; cases hgd
     | 14,ho => cases ho; cases hgd
     | 15,ho => cases ho; cases hgd
     | n + 16,ho => exact absurd ho (by simp)
    case ng =>
     intro i o ho hgd
     match i,ho with
     | 0,ho => cases ho; first | rfl | cases hgd
     | 1,ho => cases ho; first | rfl | cases hgd
     | 2,ho => cases ho; first | rfl | cases hgd
     | 3,ho => cases ho; first | rfl | cases hgd
     | 4,ho => cases ho; first | rfl | cases hgd
     | 5,ho => cases ho; first | rfl | cases hgd
     | 6,ho => cases ho; first | rfl | cases hgd
     | 7,ho => cases ho; first | rfl | cases hgd
     | 8,ho => cases ho; first | rfl | cases hgd
     | 9,ho => cases ho; first | rfl | cases hgd
     | 10,ho => cases ho; first | rfl | cases hgd
     | 11,ho => cases ho; first | rfl | cases hgd
     | 12,ho => cases ho; first | rfl | cases hgd
     | 13,ho => cases ho; first | rfl | cases hgd
     | 14,ho => cases ho; first | rfl | cases hgd
     | 15,ho => cases ho; first | rfl | cases hgd
     | n + 16,ho => exact absurd ho (by simp)
    case skip =>
     intro i W hi hsel
     match i,hi,hsel with
     | 0,_,hsel => first | exact absurd hsel (by decide) | rfl
     | 1,_,hsel => first | exact absurd hsel (by decide) | rfl
     | 2,_,hsel => first | exact absurd hsel (by decide) | rfl
     | 3,_,hsel => first | exact absurd hsel (by decide) | rfl
     | 4,_,hsel => first | exact absurd hsel (by decide) | rfl
     | 5,_,hsel => first | exact absurd hsel (by decide) | rfl
     | 6,_,hsel => first | exact absurd hsel (by decide) | rfl
     | 7,_,hsel => first | exact absurd hsel (by decide) | rfl
     | 8,_,hsel => first | exact absurd hsel (by decide) | rfl
     | 9,_,hsel => first | exact absurd hsel (by decide) | rfl
     | 10,_,hsel => first | exact absurd hsel (by decide) | rfl
     | 11,_,hsel => first | exact absurd hsel (by decide) | rfl
     | 12,_,hsel => first | exact absurd hsel (by decide) | rfl
     | 13,_,hsel => first | exact absurd hsel (by decide) | rfl
     | 14,_,hsel => first | exact absurd hsel (by decide) | rfl
     | 15,_,hsel => first | exact absurd hsel (by decide) | rfl
     | n + 16,hi,_ => exact absurd hi (by simp)
    case step =>
     intro f a' W i o ho hsel hpre hbel hrest
     match i,ho,hsel with
     | 0,ho,_ =>
      cases ho
      have q1 : a'.tmps.getD 1 undef = .pointer (some ⟨H,0,none⟩):=(hrest 1 (by intro i hi; have hi : i < 16:=hi; show 15 + min i 15 ≠ _; omega))
      have e1:=rg_ev q1
      exact rg_same (.pointer (some ⟨H,1,none⟩)) (by unfold Oper.wp execOp; go_simp; all_goals ((try simp only [e1]); (try go_simp); (try rw [if_pos (by omega)]); (try rw [if_neg (by omega)]); first | done | rfl | exact ⟨rfl,rfl⟩ | trivial)) rfl
     | 1,ho,_ =>
      cases ho
      have q15 : a'.tmps.getD 15 undef = .pointer (some ⟨H,1,none⟩):=(hpre { on:=0,ground:=.data } (by simp) rfl)
      have hH:=(hbel.block H (Array.getElem?_eq_some_iff.1 HGW.out).1).trans HGW.out
      have y1 : W.cell? ⟨H,1,none⟩ = some (.slice (some ⟨g,o,none⟩) N c):=by simp [World.cell?,hH]
      have e15:=rg_ev q15
      exact rg_same (.slice (some ⟨g,o,none⟩) N c) (by unfold Oper.wp execOp; go_simp; all_goals ((try simp only [e15]); (try go_simp); (try rw [if_pos (by omega)]); (try rw [if_neg (by omega)]); first | done | rfl | exact ⟨rfl,rfl⟩ | trivial)) rfl
     | 2,ho,_ =>
      cases ho
      have q3 : a'.tmps.getD 3 undef = .int .i64 (k : Int):=(hrest 3 (by intro i hi; have hi : i < 16:=hi; show 15 + min i 15 ≠ _; omega))
      have e3:=rg_ev q3
      exact rg_same (.int .i64 (k : Int)) (by unfold Oper.wp execOp; go_simp; all_goals ((try simp only [e3]); (try go_simp); (try rw [if_pos (by omega)]); (try rw [if_neg (by omega)]); first | done | rfl | exact ⟨rfl,rfl⟩ | trivial)) rfl
     | 3,ho,_ =>
      cases ho
      have q16 : a'.tmps.getD 16 undef = .slice (some ⟨g,o,none⟩) N c:=(hpre { on:=1,ground:=.data } (by simp) rfl)
      have q17 : a'.tmps.getD 17 undef = .int .i64 (k : Int):=(hpre { on:=2,ground:=.data } (by simp) rfl)
      have e16:=rg_ev q16
      have e17:=rg_ev q17
      exact rg_same (.pointer (some ⟨g,o + k * 2,none⟩)) (by unfold Oper.wp execOp; go_simp; all_goals ((try simp only [e16,e17]); (try go_simp); (try rw [if_pos (by omega)]); (try rw [if_neg (by omega)]); first | done | rfl | exact ⟨rfl,rfl⟩ | trivial)) rfl
     | 4,ho,_ =>
      cases ho
      have q18 : a'.tmps.getD 18 undef = .pointer (some ⟨g,o + k * 2,none⟩):=(hpre { on:=3,ground:=.data } (by simp) rfl)
      have e18:=rg_ev q18
      exact rg_same (.pointer (some ⟨g,o + k * 2,none⟩)) (by unfold Oper.wp execOp; go_simp; all_goals ((try simp only [e18]); (try go_simp); (try rw [if_pos (by omega)]); (try rw [if_neg (by omega)]); first | done | rfl | exact ⟨rfl,rfl⟩ | trivial)) rfl
     | 5,ho,_ =>
      cases ho
      have q19 : a'.tmps.getD 19 undef = .pointer (some ⟨g,o + k * 2,none⟩):=(hpre { on:=4,ground:=.data } (by simp) rfl)
      have y2:=(hbel.cell (p:=⟨g,o + k * 2,none⟩) (lt_of_cell HX.out)).trans HX.out
      have e19:=rg_ev q19
      exact rg_same (.string nb) (by unfold Oper.wp execOp; go_simp; all_goals ((try simp only [e19]); (try go_simp); (try rw [if_pos (by omega)]); (try rw [if_neg (by omega)]); first | done | rfl | exact ⟨rfl,rfl⟩ | trivial)) rfl
     | 6,ho,_ =>
      cases ho
      have q20 : a'.tmps.getD 20 undef = .string nb:=(hpre { on:=5,ground:=.data } (by simp) rfl)
      have hla:=HLA.out
      have e20:=rg_ev q20
      exact rg_same (.int .i64 (a : Int)) (by unfold Oper.wp execOp; go_simp; all_goals ((try simp only [e20]); (try go_simp); (try rw [if_pos (by omega)]); (try rw [if_neg (by omega)]); first | done | rfl | exact ⟨rfl,rfl⟩ | trivial)) rfl
     | 7,ho,_ =>
      cases ho
      have q1 : a'.tmps.getD 1 undef = .pointer (some ⟨H,0,none⟩):=(hrest 1 (by intro i hi; have hi : i < 16:=hi; show 15 + min i 15 ≠ _; omega))
      have e1:=rg_ev q1
      exact rg_same (.pointer (some ⟨H,1,none⟩)) (by unfold Oper.wp execOp; go_simp; all_goals ((try simp only [e1]); (try go_simp); (try rw [if_pos (by omega)]); (try rw [if_neg (by omega)]); first | done | rfl | exact ⟨rfl,rfl⟩ | trivial)) rfl
     | 8,ho,_ =>
      cases ho
      have q22 : a'.tmps.getD 22 undef = .pointer (some ⟨H,1,none⟩):=(hpre { on:=7,ground:=.data } (by simp) rfl)
      have hH:=(hbel.block H (Array.getElem?_eq_some_iff.1 HGW.out).1).trans HGW.out
      have y1 : W.cell? ⟨H,1,none⟩ = some (.slice (some ⟨g,o,none⟩) N c):=by simp [World.cell?,hH]
      have e22:=rg_ev q22
      exact rg_same (.slice (some ⟨g,o,none⟩) N c) (by unfold Oper.wp execOp; go_simp; all_goals ((try simp only [e22]); (try go_simp); (try rw [if_pos (by omega)]); (try rw [if_neg (by omega)]); first | done | rfl | exact ⟨rfl,rfl⟩ | trivial)) rfl
     | 9,ho,_ =>
      cases ho
      have q3 : a'.tmps.getD 3 undef = .int .i64 (k : Int):=(hrest 3 (by intro i hi; have hi : i < 16:=hi; show 15 + min i 15 ≠ _; omega))
      have e3:=rg_ev q3
      exact rg_same (.int .i64 (k : Int)) (by unfold Oper.wp execOp; go_simp; all_goals ((try simp only [e3]); (try go_simp); (try rw [if_pos (by omega)]); (try rw [if_neg (by omega)]); first | done | rfl | exact ⟨rfl,rfl⟩ | trivial)) rfl
     | 10,ho,_ =>
      cases ho
      have q23 : a'.tmps.getD 23 undef = .slice (some ⟨g,o,none⟩) N c:=(hpre { on:=8,ground:=.data } (by simp) rfl)
      have q24 : a'.tmps.getD 24 undef = .int .i64 (k : Int):=(hpre { on:=9,ground:=.data } (by simp) rfl)
      have e23:=rg_ev q23
      have e24:=rg_ev q24
      exact rg_same (.pointer (some ⟨g,o + k * 2,none⟩)) (by unfold Oper.wp execOp; go_simp; all_goals ((try simp only [e23,e24]); (try go_simp); (try rw [if_pos (by omega)]); (try rw [if_neg (by omega)]); first | done | rfl | exact ⟨rfl,rfl⟩ | trivial)) rfl
     | 11,ho,_ =>
      cases ho
      have q25 : a'.tmps.getD 25 undef = .pointer (some ⟨g,o + k * 2,none⟩):=(hpre { on:=10,ground:=.data } (by simp) rfl)
      have e25:=rg_ev q25
      exact rg_same (.pointer (some ⟨g,o + k * 2 + 1,none⟩)) (by unfold Oper.wp execOp; go_simp; all_goals ((try simp only [e25]); (try go_simp); (try rw [if_pos (by omega)]); (try rw [if_neg (by omega)]); first | done | rfl | exact ⟨rfl,rfl⟩ | trivial)) rfl
     | 12,ho,_ =>
      cases ho
      have q26 : a'.tmps.getD 26 undef = .pointer (some ⟨g,o + k * 2 + 1,none⟩):=(hpre { on:=11,ground:=.data } (by simp) rfl)
      have y2:=(hbel.cell (p:=⟨g,o + k * 2 + 1,none⟩) (lt_of_cell HY.out)).trans HY.out
      have e26:=rg_ev q26
      exact rg_same (.string vb) (by unfold Oper.wp execOp; go_simp; all_goals ((try simp only [e26]); (try go_simp); (try rw [if_pos (by omega)]); (try rw [if_neg (by omega)]); first | done | rfl | exact ⟨rfl,rfl⟩ | trivial)) rfl
     | 13,ho,_ =>
      cases ho
      have q27 : a'.tmps.getD 27 undef = .string vb:=(hpre { on:=12,ground:=.data } (by simp) rfl)
      have hlb:=HLB.out
      have e27:=rg_ev q27
      exact rg_same (.int .i64 (b : Int)) (by unfold Oper.wp execOp; go_simp; all_goals ((try simp only [e27]); (try go_simp); (try rw [if_pos (by omega)]); (try rw [if_neg (by omega)]); first | done | rfl | exact ⟨rfl,rfl⟩ | trivial)) rfl
     | 14,ho,_ =>
      cases ho
      have q21 : a'.tmps.getD 21 undef = .int .i64 (a : Int):=(hpre { on:=6,ground:=.data } (by simp) rfl)
      have q28 : a'.tmps.getD 28 undef = .int .i64 (b : Int):=(hpre { on:=13,ground:=.data } (by simp) rfl)
      have e21:=rg_ev q21
      have e28:=rg_ev q28
      exact rg_same (.int .i64 ((a : Int) + (b : Int))) (by unfold Oper.wp execOp; go_simp; (try simp only [e21,e28]); (try go_simp); (try rw [HWR.out])) rfl
     | 15,ho,_ =>
      cases ho
      have q29 : a'.tmps.getD 29 undef = .int .i64 ((a : Int) + (b : Int)):=(hpre { on:=14,ground:=.data } (by simp) rfl)
      have e29:=rg_ev q29
      exact rg_same (.bool (decide ((200 : Int) < (a : Int) + (b : Int)))) (by unfold Oper.wp execOp; go_simp; all_goals ((try simp only [e29]); (try go_simp); (try rw [if_pos (by omega)]); (try rw [if_neg (by omega)]); first | done | rfl | exact ⟨rfl,rfl⟩ | trivial)) rfl
     | n + 16,ho,_ => exact absurd ho (by simp)
    case done =>
     intro vs W hbel hvs
     have v0 : vs 0 = .pointer (some ⟨H,1,none⟩):=hvs 0 (by decide)
     have v1 : vs 1 = .slice (some ⟨g,o,none⟩) N c:=hvs 1 (by decide)
     have v2 : vs 2 = .int .i64 (k : Int):=hvs 2 (by decide)
     have v3 : vs 3 = .pointer (some ⟨g,o + k * 2,none⟩):=hvs 3 (by decide)
     have v4 : vs 4 = .pointer (some ⟨g,o + k * 2,none⟩):=hvs 4 (by decide)
     have v5 : vs 5 = .string nb:=hvs 5 (by decide)
     have v6 : vs 6 = .int .i64 (a : Int):=hvs 6 (by decide)
     have v7 : vs 7 = .pointer (some ⟨H,1,none⟩):=hvs 7 (by decide)
     have v8 : vs 8 = .slice (some ⟨g,o,none⟩) N c:=hvs 8 (by decide)
     have v9 : vs 9 = .int .i64 (k : Int):=hvs 9 (by decide)
     have v10 : vs 10 = .pointer (some ⟨g,o + k * 2,none⟩):=hvs 10 (by decide)
     have v11 : vs 11 = .pointer (some ⟨g,o + k * 2 + 1,none⟩):=hvs 11 (by decide)
     have v12 : vs 12 = .string vb:=hvs 12 (by decide)
     have v13 : vs 13 = .int .i64 (b : Int):=hvs 13 (by decide)
     have v14 : vs 14 = .int .i64 ((a : Int) + (b : Int)):=hvs 14 (by decide)
     have v15 : vs 15 = .bool (decide ((200 : Int) < (a : Int) + (b : Int))):=hvs 15 (by decide)
     have HBR:=Lib.hid hbel
     simp only [fillN,List.size_toArray,List.length_cons,List.length_nil,Nat.reduceAdd,show List.range 16 = [0,1,2,3,4,5,6,7,8,9,10,11,12,13,14,15] from rfl,List.foldl_cons,List.foldl_nil,show 15 + min 0 15 = 15 from rfl,show 15 + min 1 15 = 16 from rfl,show 15 + min 2 15 = 17 from rfl,show 15 + min 3 15 = 18 from rfl,show 15 + min 4 15 = 19 from rfl,show 15 + min 5 15 = 20 from rfl,show 15 + min 6 15 = 21 from rfl,show 15 + min 7 15 = 22 from rfl,show 15 + min 8 15 = 23 from rfl,show 15 + min 9 15 = 24 from rfl,show 15 + min 10 15 = 25 from rfl,show 15 + min 11 15 = 26 from rfl,show 15 + min 12 15 = 27 from rfl,show 15 + min 13 15 = 28 from rfl,show 15 + min 14 15 = 29 from rfl,show 15 + min 15 15 = 30 from rfl,v0,v1,v2,v3,v4,v5,v6,v7,v8,v9,v10,v11,v12,v13,v14,v15]
     clear v0 v1 v2 v3 v4 v5 v6 v7 v8 v9 v10 v11 v12 v13 v14 v15 hvs hbel
     go_simp
     by_cases hq : (200 : Int) < (a : Int) + (b : Int)
     ·have HE:=Lib.hid (show Rs.few F fs = false by
       have h1 : (fs.take 13).all Rs.fewF = false:=by
        rw [List.all_eq_false]
        exact ⟨_,HTM.out,by rw [HQ.out]; simp; omega⟩
       rw [HFEW.out,h1,Bool.false_and])
      go_wp2_with fail
      go_ret
      exact ⟨by rw [HE.out]; rfl,HBB.out.trans (HBR.out.mono HBB.out.size)⟩
     ·have HA2:=Lib.hid (show (fs.take (k + 1)).all Rs.fewF = true by
       rw [HTK.out,List.all_append,HAL.out]
       simp [HQ.out]; omega)
      go_wp2_with fail
      go_roundw
      case rel => exact ⟨k + 1,hlt,by omega,by go_num,HA2.out,HBW.out.trans (HBR.out.mono HBW.out.size)⟩
      case measure => simp [intOf]; omega
  ·have hI : ¬ (k : Int) < (N : Int):=by omega
   have HA2:=Lib.hid (HFIN.out (.inl (by omega)))
   have HEE:=Lib.hid (show Rs.few F fs = (decide (N ≤ 12) && decide (z ≤ 200)) by rw [HFEW.out,HA2.out,Bool.true_and])
   have hzz:=HZZ.out
   by_cases hN12 : N ≤ 12
   ·have q1 : (N : Int) ≤ 12:=by omega
    have HE:=Lib.hid (show Rs.few F fs = decide ((z : Int) ≤ 200) by rw [HEE.out,decide_eq_true hN12,Bool.true_and]; congr 1; simp only [eq_iff_iff]; omega)
    go_wp2_with fail
    go_ret
    exact ⟨by rw [HE.out]; rfl,HBB.out⟩
   ·have q1 : ¬ (N : Int) ≤ 12:=by omega
    have HE:=Lib.hid (show Rs.few F fs = false by rw [HEE.out,decide_eq_false hN12,Bool.false_and])
    go_wp2_with fail
    go_ret
    exact ⟨by rw [HE.out]; rfl,HBB.out⟩
end Go.Proofs.YtfacmnooklljnaaGreatDoor
namespace Go.Proofs.YtfacmnooklljnaaGreatDoor
open Go.RowKit Go.Shelf
attribute [local go_sem] Oper.semAt_some
set_option maxHeartbeats 8000000
set_option maxRecDepth 100000
structure KXE (w : World) : Prop where
 kr : Mx w
 pos : 0 < w.heap.size
theorem KXE.of {w : World} (h : ML w) : KXE w:=⟨h,by obtain ⟨m,hm⟩:=h; exact lt_of_cell hm⟩
theorem KXE.below {w w' : World} (h : KXE w) (hb : Below w.heap.size w w') : KXE w':=⟨h.kr.below hb h.pos,Nat.lt_of_lt_of_le h.pos hb.size⟩
theorem rqok_few {F : List UInt8} {fs : List Hp.Hd} (h : Rs.few F fs = true) : RqOk F fs:=by
 obtain ⟨h1,h2,h3⟩:=Rs.few_is h
 exact ⟨by omega,by omega,fun f hf => by have:=h3 f hf; omega,Rs.joined_le h1 h3,Rs.joined_le h1 h3⟩
theorem at_maxE (ts : Array TypeId) (t : TypeId) (a b : Int) (w : World) : (Builtin.max_ ts t #[.int .i64 a,.int .i64 b]).run Tryz.prog w = .ok (.int .i64 (if b > a then b else a)) w:=by
 simp [Builtin.max_,Builtin.max2,go_sem]
theorem at_minE (ts : Array TypeId) (t : TypeId) (a b : Int) (w : World) : (Builtin.min_ ts t #[.int .i64 a,.int .i64 b]).run Tryz.prog w = .ok (.int .i64 (if b < a then b else a)) w:=by
 simp [Builtin.min_,Builtin.min2,go_sem]
theorem seq_nilE (f : Fn) (a c : Array Value) (W : World) : (binOp BinOp.eql 49 (.func f a c) .nilFunc).run Tryz.prog W = .ok (.bool false) W:=by kernel_rfl
structure TQE (w W : World) (m : Int) (B : Nat) : Prop where
 hb : Below w.heap.size w W
 hB : w.heap.size = B
 m : Boxed W B 3 (.int .i64 m)
 r : Boxed W (B + 1) 4 (.bool false)
theorem TQE.next {w W W' : World} {m : Int} {B : Nat} (h : TQE w W m B) (k : Below W.heap.size W W') : TQE w W' m B :=
 ⟨h.hb.trans (k.mono h.hb.size),h.hB,(k.block _ h.m.lt).trans h.m,(k.block _ h.r.lt).trans h.r⟩
theorem walkQE (v : Value) (hs : List HQ) (m : Int) (w : World) (hv : HdIn w v hs) (hq : ∀ q ∈ hs,q.1.length ≤ reachBytes ∧ (∀ f ∈ q.2.1,f.1.length ≤ reachBytes ∧ f.2.length ≤ reachBytes) ∧ q.2.1.length ≤ maxLen) (hl : hs.length ≤ maxLen) (hm : (Lit.int .i64 m).wf = true) (hml : ML w) :
  Calls Tryz.prog 5 #[v,.int .i64 m] w fun e w' => e = .returned (.bool true) ∧ Below w.heap.size w w':=by
 unfold reachBytes maxLen at hq
 unfold maxLen at hl
 have WK:=Lib.hid (fun W (h : KXE W) => rq_works W h.kr)
 have hk:=KXE.of hml
 have HK:=Lib.hid hk
 clear hml
 have hsq:=seq_nilE
 obtain ⟨p,c,rfl⟩:=hv.1.slice
 obtain ⟨N,hN⟩ : ∃ z,hs.length = z:=⟨_,rfl⟩
 rw [hN] at hv hl ⊢
 have HV:=Lib.hid hv
 have HQQ:=Lib.hid hq
 have HN:=Lib.hid hN
 obtain ⟨B,hB⟩ : ∃ B,w.heap.size = B:=⟨_,rfl⟩
 obtain ⟨W1,hW1⟩ : ∃ W1,((w.alloc (.cells #[.int .i64 m] 3)).alloc (.cells #[.bool false] 4)) = W1:=⟨_,rfl⟩
 have e1 : TQE w W1 m B:=by
  subst hW1
  have b1:=Boxed.new w 3 (.int .i64 m)
  have b2:=Boxed.new (w.alloc (.cells #[.int .i64 m] 3)) 4 (.bool false)
  simp only [World.size_alloc,hB] at b1 b2
  exact ⟨((Below.refl _ w).alloc (Nat.le_refl _) _).alloc (by simp) _,hB,b1.alloc _,b2⟩
 have HQ1:=Lib.hid e1
 have HBB:=Lib.hid hB
 have HW1:=Lib.hid hW1
 clear hk hv hq hN e1 hB hW1 hm
 refine callsIn_wide.1 (callsIn_of_wp_marks (F:=Fence.wide) (n:=9) Tryz.func5 rfl trivial ?_ rfl)
 simp only [Tryz.ntmps5,List.size_toArray,List.length_cons,List.length_nil,Nat.reduceAdd,Nat.reduceSub,Array.replicate_succ,Array.replicate_zero,List.push_toArray,List.append_toArray,List.nil_append,List.cons_append]
 refine wpIn_wide.2 ?_
 by_cases h8 : 8 < N
 ·have q1 : ((8 : Int) < (N : Int)):=by omega
  go_wp2_with fail
  rw [HW1.out,HBB.out]
  refine (WK.out _ (HK.out.below HQ1.out.hb)).mono ?_
  rintro e w9 ⟨rfl,hb⟩
  have HQ9:=Lib.hid (HQ1.out.next hb)
  clear hb
  have cR:=HQ9.out.r.cell
  have fR:=HQ9.out.r.frozen
  go_wp2_with fail
  have c0:=(HQ9.out.r.set (.bool true)).cell
  refine ⟨.bool true,?_,rfl,HQ9.out.hb.setCell (p:=⟨B + 1,0,none⟩) (by have:=HBB.out; show w.heap.size ≤ B + 1; omega) _⟩
  simp [results,Tryz.results5,go_sem,c0]
 have q1 : ¬ ((8 : Int) < (N : Int)):=by omega
 have hN8 : N ≤ 8:=by omega
 obtain ⟨Q,hQ⟩ : ∃ Q,W1.heap.size = Q:=⟨_,rfl⟩
 obtain ⟨W2,hW2⟩ : ∃ Z,W1.alloc (.cells #[.slice none 0 0] 45) = Z:=⟨_,rfl⟩
 have HST:=Lib.hid (show RwI 3 45 W1 Q (Q + 1) [] W2 from ⟨.slice none 0 0,by rw [← hW2,← hQ]; exact Boxed.new _ _ _,World.ownsRow_nil _ _ _ _,by rw [← hW2]; simp [hQ],by omega,by omega,by rw [← hW2]; exact (Below.refl _ _).alloc (Nat.le_refl _) _⟩)
 obtain ⟨i0,hi,hz0,hz1,hz2'⟩:=info_parts (show (Tryz.prog.info? 3).map (fun i => (i.zero,i.size,i.bytes)) = some (some (.int .i64 0),1,8) by kernel_rfl)
 have hz2:=hz2'
 have HW2:=Lib.hid hW2
 have HQQ1:=Lib.hid hQ
 clear hW2 hQ hz2' h8
 go_upto_region 3 with (fail)
 rw [HW1.out,HBB.out]
 go_wp2_with fail
 rw [HW2.out,HQQ1.out]
 go_wp2_with fail
 go_loopw [6] (fun i wr => ∃ k : Nat,k ≤ N ∧ i = .int .i64 k ∧ RwI 3 45 W1 Q (Q + 1) ((hs.take k).map stC) wr ∧ (∀ j,j < k → Rs.few (hs.getD j hqd).1 (hs.getD j hqd).2.1 = true)) (fun i _ => N - (intOf i).toNat)
 case atStart => exact ⟨0,Nat.zero_le _,rfl,HST.out,fun j hj => absurd hj (by omega)⟩
 case round =>
  obtain ⟨k,hk,rfl,hst,hfa⟩:=hrel
  have HBW:=Lib.hid (show Below W1.heap.size W1 wr by obtain ⟨_,_,_,_,_,_,h⟩:=hst; exact h)
  have HQR:=Lib.hid (HQ1.out.next HBW.out)
  by_cases hlt : k < N
  ·have hI : (k : Int) < (N : Int):=by omega
   have HVR:=Lib.hid (HV.out.below HQR.out.hb)
   obtain ⟨g,o,c',hsl,hcl⟩:=HVR.out.1.at (j:=k) (by rw [HN.out]; exact hlt)
   obtain ⟨rfl,rfl⟩ : p = some ⟨g,o,none⟩ ∧ c = c':=by
    simp only [Value.slice.injEq] at hsl
    exact ⟨hsl.1,hsl.2.2⟩
   obtain ⟨⟨F,fs,V⟩,hqe⟩ : ∃ x,hs.getD k hqd = x:=⟨_,rfl⟩
   have hmem : hs.getD k hqd ∈ hs:=by rw [List.getD_eq_getElem?_getD,List.getElem?_eq_getElem (by rw [HN.out]; exact hlt)]; exact List.getElem_mem _
   have hHS:=HVR.out.2 _ hmem
   have hqs:=HQQ.out _ hmem
   have htk : hs.take (k + 1) = hs.take k ++ [hs.getD k hqd]:=by
    rw [List.take_add_one,List.getD_eq_getElem?_getD,List.getElem?_eq_getElem (by rw [HN.out]; exact hlt)]; rfl
   rw [hqe] at hHS hqs hcl htk
   have x0:=hcl 0 _ rfl
   have x1:=hcl 1 _ rfl
   rw [Nat.add_zero] at x0
   simp only at hHS hqs x1
   obtain ⟨p2,c2,rfl⟩:=hHS.slice
   obtain ⟨fb,hfb⟩ : ∃ z : ByteArray,(⟨F.toArray⟩ : ByteArray) = z:=⟨_,rfl⟩
   have KF:=rs_few F (.slice p2 fs.length c2) fs wr hHS (by omega) (by omega) (fun f hf => by have:=hqs.2.1 f hf; omega)
   obtain ⟨q,hq⟩ : ∃ z,Rs.few F fs = z:=⟨_,rfl⟩
   rw [hq] at KF
   unfold Hp.sx at KF x0
   rw [hfb] at KF x0
   have HFE:=Lib.hid (fun (e : q = true) W (h : Below wr.heap.size wr W) => rf_Of13 F (.slice p2 fs.length c2) fs W (hHS.below h) (rqok_few (by rw [hq,e])))
   obtain ⟨mm,hmm⟩ : ∃ z,fs.length = z:=⟨_,rfl⟩
   rw [hmm] at KF x1
   have KFH:=Lib.hid KF
   have HQE:=Lib.hid hqe
   have HHS:=Lib.hid hHS
   have HTK:=Lib.hid htk
   have HFB:=Lib.hid hfb
   have HMM:=Lib.hid hmm
   have HQ:=Lib.hid hq
   have HX0:=Lib.hid x0
   have HX1:=Lib.hid x1
   have HSS:=Lib.hid hst
   have HFA:=Lib.hid hfa
   clear hHS hqs hmem hsl hcl htk hfb KF hq hqe hmm hst hfa
   go_wp2_with fail
   refine KFH.out.mono ?_
   rintro e w3 ⟨rfl,hb⟩
   have HQ3:=Lib.hid (HQR.out.next hb)
   have HS3:=Lib.hid (HSS.out.next hb)
   have HBA:=Lib.hid hb
   clear hb x0 x1
   cases q with
   | false =>
    go_wp2_with fail
    refine (WK.out _ (HK.out.below HQ3.out.hb)).mono ?_
    rintro e w9 ⟨rfl,hb⟩
    have HQ9:=Lib.hid (HQ3.out.next hb)
    clear hb
    have cR:=HQ9.out.r.cell
    have fR:=HQ9.out.r.frozen
    go_wp2_with fail
    have c0:=(HQ9.out.r.set (.bool true)).cell
    refine ⟨.bool true,?_,rfl,HQ9.out.hb.setCell (p:=⟨B + 1,0,none⟩) (by have:=HBB.out; show w.heap.size ≤ B + 1; omega) _⟩
    simp [results,Tryz.results5,go_sem,c0]
   | true =>
    have KO:=HFE.out rfl
    obtain ⟨x,hx⟩ : ∃ z,(Rq.stW F fs).1 = z:=⟨_,rfl⟩
    have htd : stC (F,fs,.slice p2 fs.length c2) = .int .i64 x:=by unfold stC stI; simp only; rw [hx]
    rw [HMM.out] at KO
    unfold Hp.sx at KO
    rw [HFB.out] at KO
    rw [HMM.out] at htd
    obtain ⟨xs,hxs⟩ : ∃ z,(hs.take k).map stC = z:=⟨_,rfl⟩
    have hxl : xs.length = k:=by rw [← hxs,List.length_map,List.length_take]; have:=HN.out; omega
    have HTK2:=Lib.hid (show (hs.take (k + 1)).map stC = xs ++ [.int .i64 x] by rw [HTK.out,HMM.out,List.map_append,hxs,List.map_singleton,htd])
    have hst:=HS3.out
    rw [hxs] at hst
    have HLX:=Lib.hid hxl
    have HS4:=Lib.hid hst
    have KO3:=Lib.hid (KO w3 HBA.out)
    have HXV:=Lib.hid hx
    have x0:=(HBA.out.cell (p:=⟨g,o + k * 2,none⟩) (lt_of_cell HX0.out)).trans HX0.out
    have x1:=(HBA.out.cell (p:=⟨g,o + k * 2 + 1,none⟩) (lt_of_cell HX1.out)).trans HX1.out
    have HFA2:=Lib.hid (show ∀ j,j < k + 1 → Rs.few (hs.getD j hqd).1 (hs.getD j hqd).2.1 = true from fun j hj => by
     by_cases h : j < k
     ·exact HFA.out j h
     ·obtain rfl : j = k:=by omega
      rw [HQE.out]; exact HQ.out)
    clear KO hx htd hxs hxl hst
    go_wp2_with fail
    refine KO3.out.mono ?_
    rintro e w4 ⟨⟨mb,ib,pq,nq,cq,qq,kq,dq,ob,hbb,kb,zz,rfl⟩,hb⟩
    rw [HXV.out]
    unfold rqV
    have HS5:=Lib.hid (HS4.out.next hb)
    clear hb x0 x1
    go_upto_region 10 with (fail)
    obtain ⟨w5,hw5⟩ : ∃ z,w4.alloc (.cells #[.string mb,.slice pq nq cq,.slice qq kq dq,.bool ob,.bool hbb,.bool kb,.string ib] 38) = z:=⟨_,rfl⟩
    have hb5 : Below w4.heap.size w4 w5:=by rw [← hw5]; exact (Below.refl _ _).alloc (Nat.le_refl _) _
    rw [hw5]
    obtain ⟨V1,hA1,hO1,hB1,h01,hA01,hb1⟩:=HS5.out.next hb5
    rw [HLX.out] at hO1
    obtain ⟨lp,lc,rfl⟩:=own_slQ hO1
    have cl:=hA1.cell
    have HA1:=Lib.hid hA1
    have HO1:=Lib.hid hO1
    have HBR0:=Lib.hid hB1
    have H01:=Lib.hid h01
    have HBB1:=Lib.hid hb1
    clear hA1 hO1 hB1 h01 hA01 hb1 hb5 hw5
    go_wp2_with (at_builtin; refine wpList_append_own _ rfl _ _ 45 rfl (Q + 1) 3 i0 (.int .i64 0) 1 8 Tryz.underlying45 hi hz0 hz1 hz2 rfl (by decide) _ _ _ rfl (HO1.out.alloc _) ⟨w5.heap.size,0,none⟩ 1 1 [.int .i64 x] rfl rfl ?c1 ?c2 ?c3 ?c4 ?c5 ?_)
    case c1 =>
     intro j u hj
     match j,hj with
     | 0,hj => simp at hj; subst hj; simp [Addr.add]
    case c2 => intro u hu; simp at hu; subst hu; rfl
    case c3 => unfold maxLen; omega
    case c4 => omega
    case c5 => have:=HBR0.out; simp; omega
    intro v' W3 hown' hgrow _
    have hapx:=Boxed.appended HA1.out (by decide : 45 ≠ 3) (own_low HO1.out (Nat.le_succ Q : Q ≤ Q + 1)) (by have:=HBR0.out; omega) (Nat.le_refl _) (own_low hown' (by omega)) hgrow
    obtain ⟨a1,a2,a3,a4,a5⟩:=hapx
    have cl3:=a1.cell
    have fl3:=a1.frozen
    obtain ⟨p',c',rfl⟩:=own_slQ hown'
    have hr4:=hown'.kept (grownBy_setCell' W3 Q (.slice p' (k + 1) c')) (.inr (a1.not_row (by decide) hown').symm)
    have HST:=Lib.hid (show RwI 3 45 W1 Q (Q + 1) (xs ++ [.int .i64 x]) (W3.setCell ⟨Q,0,none⟩ (.slice p' (k + 1) c')) from ⟨_,a2,by
     rw [List.length_append,List.length_singleton,HLX.out]; exact hr4,by have:=HBR0.out; have:=a5.size; omega,H01.out,Nat.lt_succ_self Q,HBB1.out.trans (a5.mono H01.out)⟩)
    clear hown' hgrow a1 a2 a3 a4 a5 hr4
    go_wp2
    go_roundw
    case rel => exact ⟨k + 1,hlt,by go_num,by rw [HTK2.out]; exact HST.out,HFA2.out⟩
    case measure => simp [intOf]; omega
  ·obtain rfl : k = N:=by omega
   have hI : ¬ (k : Int) < (k : Int):=by omega
   have HS2:=Lib.hid (show RwI 3 45 W1 Q (Q + 1) (hs.map stC) wr by rwa [List.take_of_length_le (by rw [HN.out]; exact Nat.le_refl _)] at hst)
   have HFA:=Lib.hid (show ∀ q ∈ hs,Rs.few q.1 q.2.1 = true from fun q hq => by
    obtain ⟨j,hj,rfl⟩:=List.mem_iff_getElem.1 hq
    have h:=hfa j (by rw [← HN.out]; exact hj)
    rwa [List.getD_eq_getElem?_getD,List.getElem?_eq_getElem hj] at h)
   have KE:=Lib.hid (rq_Each (.slice p k c) hs wr (HV.out.below HQR.out.hb) (by rw [HN.out]; exact hN8) (fun q hq => rqok_few (HFA.out q hq)) (HK.out.below HQR.out.hb).kr)
   clear hst hfa
   go_wp2_with fail
   refine KE.out.mono ?_
   rintro e V ⟨C,BC,rfl,hrw⟩
   obtain ⟨N,rfl⟩ : ∃ z,z = k:=⟨_,rfl⟩
   obtain ⟨vt,hvb,hvo,hvB,hvX,hvC,hVb⟩:=hrw
   obtain ⟨vw,hwb,hwo,hwB,hwX,hwC,hwb1⟩:=HS2.out.next hVb
   rw [List.length_map,HN.out] at hvo hwo
   obtain ⟨pt,ct,rfl⟩:=own_slQ hvo
   obtain ⟨pw,cw,rfl⟩:=own_slQ hwo
   obtain ⟨t,ht⟩ : ∃ t : Nat → Int,∀ k,k < N → (hs.map stC)[k]? = some (.int .i64 (t k)):=⟨fun k => stI (hs.getD k hqd),fun k hk => by
    show (hs.map stC)[k]? = some (.int .i64 (stI (hs.getD k hqd)))
    rw [List.getElem?_map,List.getD_eq_getElem?_getD,List.getElem?_eq_getElem (by rw [HN.out]; exact hk)]; rfl⟩
   have HIT:=Lib.hid (InRow.own hvo t ht)
   have HIW:=Lib.hid (InRow.own hwo t ht)
   have HBT:=Lib.hid hvb
   have HWQ:=Lib.hid hwb
   have HQV:=Lib.hid (HQR.out.next hVb)
   have hCV : C < V.heap.size:=hvb.lt
   have hQV : Q < V.heap.size:=hwb.lt
   clear hvb hvo hvB hvX hvC hVb hwb hwo hwB hwX hwC hwb1 ht KE HFA HS2 HBW HQR
   obtain ⟨TV,hTV⟩ : ∃ TV,V.heap.size = TV:=⟨_,rfl⟩
   obtain ⟨V0,hV0⟩ : ∃ V0,V.alloc (.cells #[.int .i64 0] 3) = V0:=⟨_,rfl⟩
   have E0 : Below V.heap.size V V0:=by rw [← hV0]; exact (Below.refl _ _).alloc (Nat.le_refl _) _
   have bT : Boxed V0 TV 3 (.int .i64 0):=by rw [← hV0,← hTV]; exact Boxed.new _ _ _
   have HTV:=Lib.hid hTV
   have HV0:=Lib.hid hV0
   have hQT : Q < TV:=by rw [← hTV]; exact hQV
   have hCT : C < TV:=by rw [← hTV]; exact hCV
   have hBT : B + 1 < TV:=by rw [← hTV]; exact HQV.out.r.lt
   clear hTV hV0 hQV hCV
   go_wp2_with fail
   rw [HV0.out,HTV.out]
   refine (wpIn_wide (n:=9)).1 ?_
   refine wpIn_loop_rounds 3 ?_
   rw [roundsIn_succ]
   have cT:=bT.cell
   obtain ⟨T1,hT1⟩ : ∃ z,V0.heap.size = z:=⟨_,rfl⟩
   obtain ⟨X1,hX1⟩ : ∃ z,V0.alloc (.cells #[.int .i64 0] 3) = z:=⟨_,rfl⟩
   have hVT : V.heap.size = TV:=HTV.out
   rw [hVT] at E0
   have HE1 : Hid (Below TV V X1):=Lib.hid (by rw [← hX1]; exact E0.alloc (Nat.le_trans (Nat.le_of_eq hVT.symm) E0.size) _)
   have HbT1 : Hid (Boxed X1 TV 3 (.int .i64 0)):=Lib.hid (by rw [← hX1]; exact bT.alloc _)
   have Hbn1 : Hid (Boxed X1 T1 3 (.int .i64 0)):=Lib.hid (by rw [← hX1,← hT1]; exact Boxed.new _ _ _)
   have HS1:=Lib.hid (show X1.heap.size = T1 + 1 by rw [← hX1,← hT1]; simp)
   have hTT : TV < T1:=by rw [← hT1]; exact bT.lt
   have HX1:=Lib.hid hX1
   have HT1:=Lib.hid hT1
   clear hX1 hT1 E0 hVT bT
   gi_wp2_with fail
   rw [HX1.out,HT1.out]
   refine rf_breakE (id:=4) (N:=N) (own:=fun _ => False) (Kp:=KeepB TV (T1 + 3)) (encs:=fun j => #[.int .i64 j,.int .i64 (t j)]) rfl (by omega) (gf:=42) (lb:=#[.pointer (some ⟨C,0,none⟩)]) rfl trivial (enters_of Tryz.func42 (by kernel_rfl) rfl)
    (fun _ => rfl) (fun b hb => hb.elim) ?iter KeepB.trans (fun X o o' h2 h3 => KeepB.putObj _ _ (by have:=HS1.out; omega))
    (fun k X => Below TV V X ∧ Boxed X TV 3 (.int .i64 0) ∧ Boxed X T1 3 (.int .i64 (k : Int)) ∧ (1 ≤ k → (k : Int) < m))
    (fun X => ∃ k : Nat,k ≤ N ∧ (k = N ∨ m ≤ (k : Int)) ∧ (k = 0 → N = 0) ∧ (2 ≤ k → (k : Int) - 1 < m) ∧ Below TV V X ∧ Boxed X TV 3 (.int .i64 0) ∧ Boxed X T1 3 (.int .i64 (k : Int)))
    (fun k X Y hs ht => ⟨hs.1.trans (ht.below (by have:=HS1.out; omega) (by have h1:=hs.1.size; have h2:=HTV.out; omega) (fun b hb => hb.elim)),ht.boxed hs.2.1 (fun h => h),ht.boxed hs.2.2.1 (fun h => h),hs.2.2.2⟩)
    (fun X Y hs ht => by
     obtain ⟨k,h2,h3,h4,h5,h6,h7,h8⟩:=hs
     exact ⟨k,h2,h3,h4,h5,h6.trans (ht.below (by have:=HS1.out; omega) (by have h1:=h6.size; have h2:=HTV.out; omega) (fun b hb => hb.elim)),ht.boxed h7 (fun h => h),ht.boxed h8 (fun h => h)⟩)
    ⟨HE1.out,HbT1.out,Hbn1.out,by omega⟩ ?E
   case iter =>
    intro X hX hsz
    have hE1:=HS1.out
    have hVs:=HTV.out
    exact (each1_it C (T1 + 3) pt N ct t (by omega) (KeepB TV (T1 + 3)) (AgV V) X (by omega) (fun Y hY => ⟨hY.row HIT.out,(hY C (by omega)).trans HBT.out⟩) (fun Y Z hk hy => hy.keep hVs hk) (fun Y Z ht hy => hy.turn ht (by omega))
     (fun Y l o' hl hy b hb => (World.putObj_heap_other (by omega)).trans (hy b hb)) (fun Y Z u hk hb => (hk _ (.inr rfl) hb.lt).trans hb) (fun b hb => (hX.block b (by omega)).trans (HE1.out.block b (by omega)))).any _
   case E =>
    apply Exists.intro
    refine ⟨?asg,?bod,?all,?don⟩
    case asg =>
     intro l' k X K hk hi hK
     have HKK:=Lib.hid hK
     clear hK hk
     gi_wp2
     exact HKK.out _ (KeepsFrom.refl _ _) (KeepB.refl _ _ _) hi
    case bod =>
     rintro l' k X hl' ⟨r,hr⟩ hk ⟨hE2,bT2,bn2,hkm⟩
     have HE2:=Lib.hid hE2
     have HbT2:=Lib.hid bT2
     have Hbn2:=Lib.hid bn2
     have HKM:=Lib.hid hkm
     obtain ⟨g,off,rfl,y1⟩:=HIW.out k hk
     have x1:=(hE2.cell (p:=⟨g,off + k,none⟩) (by show g < TV; rw [← HTV.out]; exact lt_of_cell y1)).trans y1
     have cn:=bn2.cell
     have fn:=bn2.frozen
     have cT2:=bT2.cell
     have cw:=(show Boxed X Q 45 _ from (hE2.block Q hQT).trans HWQ.out).cell
     have cm:=(show Boxed X B 3 _ from (hE2.block B (by omega)).trans HQV.out.m).cell
     obtain ⟨a,ha⟩ : ∃ z : Int,t k = z:=⟨_,rfl⟩
     rw [ha] at x1 ⊢
     have hkI : ((k : Int) < (N : Int)):=by omega
     have hk12 : ((k : Int) < 12):=by omega
     clear hE2 bT2 bn2 hkm ha y1 cT
     gi_wp2
     ·have h1 : m ≤ (k : Int) + 1:=by assumption
      exact ⟨(KeepsOthers.setCell _ _ _).from _,rfl,k + 1,by omega,.inr (by omega),by omega,fun h => by have:=HKM.out (by omega); omega,HE2.out.setCell (p:=⟨T1,0,none⟩) (by show TV ≤ T1; omega) _,HbT2.out.other (by omega) _,Hbn2.out.set _⟩
     ·have h1 : (k : Int) + 1 < m:=by assumption
      exact ⟨(KeepsOthers.setCell _ _ _).from _,KeepB.setCell _ _ (by omega),HE2.out.setCell (p:=⟨T1,0,none⟩) (by show TV ≤ T1; omega) _,HbT2.out.other (by omega) _,Hbn2.out.set _,fun _ => by omega⟩
    case all =>
     rintro X ⟨h1,h2,h3,h4⟩
     exact ⟨N,Nat.le_refl _,.inl rfl,id,fun h => by have:=h4 (by omega); omega,h1,h2,h3⟩
    case don =>
     rintro D1 X hD1 ⟨k,hkN,hkm,hk0,hkl,hE2,bT2,bn2⟩ hK1
     have HE2:=Lib.hid hE2
     have HbT2:=Lib.hid bT2
     have Hbn2:=Lib.hid bn2
     have HK1:=Lib.hid hK1
     have cn:=bn2.cell
     have cT2:=bT2.cell
     have fT2:=bT2.frozen
     have cw:=(show Boxed X Q 45 _ from (hE2.block Q hQT).trans HWQ.out).cell
     have cm:=(show Boxed X B 3 _ from (hE2.block B (by omega)).trans HQV.out.m).cell
     obtain ⟨mx,hmx,hmi⟩ : ∃ mx : Int,(∀ W,(Builtin.max_ #[3,3] 3 #[.int .i64 1,.int .i64 m]).run Tryz.prog W = .ok (.int .i64 mx) W) ∧ (∀ W,(Builtin.min_ #[3,3] 3 #[.int .i64 N,.int .i64 mx]).run Tryz.prog W = .ok (.int .i64 (k : Int)) W):=by
      refine ⟨if m > 1 then m else 1,fun W => at_maxE _ _ _ _ W,fun W => ?_⟩
      rw [at_minE]
      congr 2
      split <;> split <;> omega
     clear hE2 bT2 bn2 hkm hK1 hkl hk0 cT
     gi_wp2_with fail
     rw [roundsIn_succ]
     obtain ⟨T2,hT2⟩ : ∃ T2,X.heap.size = T2:=⟨_,rfl⟩
     obtain ⟨X2,hX2⟩ : ∃ X2,X.alloc (.cells #[.int .i64 1] 3) = X2:=⟨_,rfl⟩
     obtain ⟨X3,hX3⟩ : ∃ X3,X2.alloc (.cells #[.int .i64 0] 3) = X3:=⟨_,rfl⟩
     have hCX : T1 < X.heap.size:=by have:=Hbn2.out.lt; omega
     have hVT : V.heap.size = TV:=HTV.out
     have E3 : Below TV V X3:=by rw [← hX3,← hX2]; exact (HE2.out.alloc (by omega) _).alloc (by simp; omega) _
     have bT3 : Boxed X3 T2 3 (.int .i64 1):=by rw [← hX3,← hX2,← hT2]; exact (Boxed.new _ _ _).alloc _
     obtain ⟨C2,hC2⟩ : ∃ C2,X2.heap.size = C2:=⟨_,rfl⟩
     have hTC2 : C2 = T2 + 1:=by rw [← hC2,← hX2,← hT2]; simp
     have bn3 : Boxed X3 C2 3 (.int .i64 0):=by rw [← hX3,← hC2]; exact Boxed.new _ _ _
     have hs3 : X3.heap.size = C2 + 1:=by rw [← hX3,← hC2]; simp
     have hD1s : D1 < T2:=by rw [← hT2]; exact (Array.getElem?_eq_some_iff.1 HK1.out).1
     have K3 : X3.heap[D1]? = some (.deferred (some [])):=by
      rw [← hX3,← hX2]
      exact (Below.heap_alloc _ _ _ (by simp; omega)).trans ((Below.heap_alloc _ _ _ (by omega)).trans HK1.out)
     have cT2 : X2.cell? ⟨T2,0,none⟩ = some (.int .i64 1):=by rw [← hX2,← hT2]; exact (Boxed.new _ _ _).cell
     have cT2b : (X2.alloc (.cells #[.int .i64 0] 3)).cell? ⟨T2,0,none⟩ = some (.int .i64 1):=by rw [hX3]; exact bT3.cell
     rw [hT2,hX2]
     have HX3:=Lib.hid hX3
     have HC2:=Lib.hid hC2
     have HTC2:=Lib.hid hTC2
     have HS3:=Lib.hid hs3
     have HE3:=Lib.hid E3
     have HbT3:=Lib.hid bT3
     have Hbn3:=Lib.hid bn3
     have HK3:=Lib.hid K3
     have hTT2 : T1 < T2:=by omega
     clear hX3 hC2 hT2 hX2 hTC2 cn fT2 cw cm hVT E3 bT3 bn3 K3 hs3 hCX
     gi_wp2_with fail
     rw [HX3.out,HC2.out]
     have hTC2 : T2 < C2:=by have:=HTC2.out; omega
     clear cT2 cT2b
     refine rf_breakE (id:=4) (N:=N) (own:=fun _ => False) (Kp:=KeepB TV (C2 + 3)) (encs:=fun j => #[.int .i64 j,.int .i64 (t j)]) rfl (by omega) (gf:=42) (lb:=#[.pointer (some ⟨C,0,none⟩)]) rfl trivial (enters_of Tryz.func42 (by kernel_rfl) rfl)
      (fun _ => rfl) (fun b hb => hb.elim) ?iter2 KeepB.trans (fun X o o' h2 h3 => KeepB.putObj _ _ (by have:=HS3.out; omega))
      (fun k Y => Below TV V Y ∧ Boxed Y T2 3 (.int .i64 1) ∧ Boxed Y C2 3 (.int .i64 (k : Int)) ∧ Y.heap[D1]? = some (.deferred (some [])))
      (fun Y => Below TV V Y ∧ Boxed Y T2 3 (.int .i64 1) ∧ Boxed Y C2 3 (.int .i64 (N : Int)) ∧ Y.heap[D1]? = some (.deferred (some [])))
      (fun k X Y hs ht => ⟨hs.1.trans (ht.below (by have:=HS3.out; omega) (by have h1:=hs.1.size; have h2:=HTV.out; omega) (fun b hb => hb.elim)),ht.boxed hs.2.1 (fun h => h),ht.boxed hs.2.2.1 (fun h => h),ht.low hs.2.2.2 (by have:=HS3.out; omega) (fun h => h)⟩)
      (fun X Y hs ht => ⟨hs.1.trans (ht.below (by have:=HS3.out; omega) (by have h1:=hs.1.size; have h2:=HTV.out; omega) (fun b hb => hb.elim)),ht.boxed hs.2.1 (fun h => h),ht.boxed hs.2.2.1 (fun h => h),ht.low hs.2.2.2 (by have:=HS3.out; omega) (fun h => h)⟩)
      ⟨HE3.out,HbT3.out,Hbn3.out,HK3.out⟩ ?E2
     case iter2 =>
      intro Y hY hsz
      have hE1:=HS3.out
      have hVs:=HTV.out
      exact (each1_it C (C2 + 3) pt N ct t (by omega) (KeepB TV (C2 + 3)) (AgV V) Y (by omega) (fun Z hZ => ⟨hZ.row HIT.out,(hZ C (by omega)).trans HBT.out⟩) (fun Z U hk hy => hy.keep hVs hk) (fun Z U ht hy => hy.turn ht (by omega))
       (fun Z l o' hl hy b hb => (World.putObj_heap_other (by omega)).trans (hy b hb)) (fun Z U u hk hb => (hk _ (.inr rfl) hb.lt).trans hb) (fun b hb => (hY.block b (by omega)).trans (HE3.out.block b (by omega)))).any _
     case E2 =>
      apply Exists.intro
      refine ⟨?asg2,?bod2,?all2,?don2⟩
      case asg2 =>
       intro l' k X K hk hi hK
       have HKK:=Lib.hid hK
       clear hK hk
       gi_wp2
       exact HKK.out _ (KeepsFrom.refl _ _) (KeepB.refl _ _ _) hi
      case bod2 =>
       rintro l' k Y hl' ⟨r,hr⟩ hk ⟨hE4,bT4,bn4,K4⟩
       have HE4:=Lib.hid hE4
       have HbT4:=Lib.hid bT4
       have Hbn4:=Lib.hid bn4
       have HK4:=Lib.hid K4
       obtain ⟨g,off,rfl,y1⟩:=HIW.out k hk
       have x1:=(hE4.cell (p:=⟨g,off + k,none⟩) (by show g < TV; rw [← HTV.out]; exact lt_of_cell y1)).trans y1
       have cn:=bn4.cell
       have fn:=bn4.frozen
       have cT4:=bT4.cell
       have cw:=(show Boxed Y Q 45 _ from (hE4.block Q hQT).trans HWQ.out).cell
       obtain ⟨a,ha⟩ : ∃ z : Int,t k = z:=⟨_,rfl⟩
       rw [ha] at x1 ⊢
       have hkI : ((k : Int) < (N : Int)):=by omega
       have hk12 : ((k : Int) < 12):=by omega
       clear hE4 bT4 bn4 K4 ha y1 hmx hmi
       gi_wp2
       exact ⟨(KeepsOthers.setCell _ _ _).from _,KeepB.setCell _ _ (by omega),HE4.out.setCell (p:=⟨C2,0,none⟩) (by show TV ≤ C2; omega) _,HbT4.out.other (by omega) _,Hbn4.out.set _,(Below.heap_setCell _ _ _ _ (by show D1 ≠ C2; omega)).trans HK4.out⟩
      case all2 => exact fun Y h => h
      case don2 =>
       rintro D2 Y hD2 ⟨hE5,bT5,bn5,K5⟩ hK2
       have HE5:=Lib.hid hE5
       have HbT5:=Lib.hid bT5
       have HK5:=Lib.hid K5
       have HK2:=Lib.hid hK2
       have cn:=bn5.cell
       have cT5:=bT5.cell
       have fT5:=bT5.frozen
       have cw:=(show Boxed Y Q 45 _ from (hE5.block Q hQT).trans HWQ.out).cell
       have r3 : ((N : Int) != (N : Int)) = false:=bne_self_eq_false _
       clear hE5 bT5 bn5 K5 hK2 hmx hmi
       gi_wp2_with fail
       rw [roundsIn_succ]
       obtain ⟨Z,hZ⟩ : ∃ Z,Y.alloc (.cells #[.int .i64 2] 3) = Z:=⟨_,rfl⟩
       obtain ⟨T3,hT3⟩ : ∃ T3,Y.heap.size = T3:=⟨_,rfl⟩
       have hVT : V.heap.size = TV:=HTV.out
       have cZ : Z.cell? ⟨T3,0,none⟩ = some (.int .i64 2):=by rw [← hZ,← hT3]; exact (Boxed.new _ _ _).cell
       have E6 : Below TV V Z:=by rw [← hZ]; exact HE5.out.alloc (by have h:=HE5.out.size; omega) _
       have K6 : Z.heap[D1]? = some (.deferred (some [])):=by rw [← hZ]; exact (Below.heap_alloc _ _ _ (Array.getElem?_eq_some_iff.1 HK5.out).1).trans HK5.out
       have K7 : Z.heap[D2]? = some (.deferred (some [])):=by rw [← hZ]; exact (Below.heap_alloc _ _ _ (Array.getElem?_eq_some_iff.1 HK2.out).1).trans HK2.out
       rw [hT3,hZ]
       rw [← hVT] at E6
       have HQZ:=Lib.hid (HQV.out.next E6)
       have HK6:=Lib.hid K6
       have HK7:=Lib.hid K7
       have WKZ:=Lib.hid (WK.out Z (HK.out.below HQZ.out.hb))
       have hD1s : D1 < T2:=hD1s
       clear hT3 hZ E6 K6 K7 cn cT5 fT5 cw r3 hVT
       gi_wp2_with fail
       go_wp2_with fail
       refine WKZ.out.mono ?_
       rintro e V' ⟨rfl,hbV⟩
       have bR : Boxed V' (B + 1) 4 (.bool false):=(hbV.block _ HQZ.out.r.lt).trans HQZ.out.r
       have K8 : V'.heap[D1]? = some (.deferred (some [])):=(hbV.block _ (Array.getElem?_eq_some_iff.1 HK6.out).1).trans HK6.out
       have K9 : V'.heap[D2]? = some (.deferred (some [])):=(hbV.block _ (Array.getElem?_eq_some_iff.1 HK7.out).1).trans HK7.out
       have bV:=HQZ.out.hb.trans (hbV.mono HQZ.out.hb.size)
       have cR:=bR.cell
       have fR:=bR.frozen
       have HK8:=Lib.hid K8
       have HK9:=Lib.hid K9
       have HbR:=Lib.hid bR
       have HbV:=Lib.hid bV
       clear bR K8 K9 bV hbV cZ
       first | go_wp2_with fail | skip
       have hBw:=HQZ.out.hB
       have hX1:=HS1.out
       have hX3:=HS3.out
       have d1 : B + 1 < D1:=by omega
       have d2 : B + 1 < D2:=by omega
       have d12 : D1 ≠ D2:=by omega
       have L9 : (V'.setCell ⟨B + 1,0,none⟩ (.bool true)).heap[D2]? = some (.deferred (some [])):=(Below.heap_setCell _ _ _ _ (by show D2 ≠ B + 1; omega)).trans HK9.out
       have L8 : ((V'.setCell ⟨B + 1,0,none⟩ (.bool true)).putObj D2 (.deferred none)).heap[D1]? = some (.deferred (some [])):=(World.putObj_heap_other d12).trans ((Below.heap_setCell _ _ _ _ (by show D1 ≠ B + 1; omega)).trans HK8.out)
       have L0 : Boxed (((V'.setCell ⟨B + 1,0,none⟩ (.bool true)).putObj D2 (.deferred none)).putObj D1 (.deferred none)) (B + 1) 4 (.bool true):=(World.putObj_heap_other (by omega)).trans ((World.putObj_heap_other (by omega)).trans (HbR.out.set _))
       have c0:=L0.cell
       refine ⟨by simp,.inl ⟨_,_,rfl,run_takeDeferred L9,?_⟩⟩
       refine ⟨by simp,.inl ⟨_,_,rfl,run_takeDeferred L8,?_⟩⟩
       refine ⟨.bool true,?_,rfl,?_⟩
       ·simp [results,Tryz.results5,go_sem,c0]
       ·refine (HbV.out.setCell (p:=⟨B + 1,0,none⟩) (by show w.heap.size ≤ B + 1; omega) _).trans ((belowK_b (w:=w) (Nat.le_refl _) _ D2 _ _ (by omega) L9 rfl rfl).trans (belowK_b (w:=w) (Nat.le_refl _) _ D1 _ _ (by omega) L8 rfl rfl))
end Go.Proofs.YtfacmnooklljnaaGreatDoor