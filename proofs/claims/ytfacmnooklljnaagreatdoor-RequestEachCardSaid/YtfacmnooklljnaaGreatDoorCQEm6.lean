/- Texts of this claim, one behind the other: Qv, Zl, Zm, Zo, Ql, Qq, Qr, Zt, Zu, Zi, Zv. -/
import Derived.Test.YtfacmnooklljnaaGreatDoorCQEm5
import Derived.Test.YtfacmnooklljnaaGreatDoorCQEm2
import Derived.Test.YtfacmnooklljnaaGreatDoorCQEm1
import Derived.Test.YtfacmnooklljnaaGreatDoorCQEm4
import Derived.ChangeMaps4
import Derived.MapKept
import Derived.Maps.RangeRun
import Derived.ProofKit
set_option linter.unusedVariables false
set_option linter.unusedSimpArgs false
namespace Go.Proofs.YtfacmnooklljnaaGreatDoor
open Go.RowKit Go.Shelf
set_option maxHeartbeats 8000000
set_option maxRecDepth 100000
theorem hd_must_no (n : Int) (w : World) :
  Calls Tryz.prog 67 #[.bool false,.int .i64 n] w fun e w' => e = .panicked [{ v:=errno n,recovered:=false }] ∧ w' = w:=by
 go_enter Tryz.func67,Tryz.ntmps67
 go_wp2
 all_goals first | contradiction | simp [errno,bodyPost]
theorem hd_caught (p : Addr) (n : Int) (older : List PanicEntry) (w : World) (old : Value) (hc : w.cell? p = some old) (hz : w.frozen? p = false) :
  CallsD Tryz.prog 66 #[.pointer (some p)] (.panicking ({ v:=errno n,recovered:=false } :: older)) w fun e u' w' =>
   e = .returned (.tuple #[]) ∧ u' = .panicking ({ v:=errno n,recovered:=true } :: older) ∧ w' = w.setCell p (.int .i64 n):=by
 refine callsD_of_wpS Tryz.func66 rfl fun c₀ cs hu => ?_
 apply wpS_seq
 apply wpS_region
 simp [wpOpsS,go_sem,recoverD,hu,Tryz.ntmps66,Exit.thenS]
 apply wpS_seq
 apply wpS_region
 simp [wpOpsS,go_sem,recoverD,hu,Exit.thenS,errno]
 refine wpS_cond (t:=true) (by simp [Act.eval,Array.replicate]) ?_
 simp only [if_true]
 refine wpS_of_wp ?_
 simp [Array.replicate,List.replicate,List.setIfInBounds_toArray]
 have hta : ∀ (v : Value) (W : World),(Instr.typeAssert (.iface 26 v) 20 26 true).run Tryz.prog W = .ok (.tuple #[v,.bool true]) W:=errno_is
 go_wp2_with fail
 simp [bodyPostS,results,Tryz.results66,go_sem]
theorem hd_door (a : Act) (E : Nat) (W : World) (Q : Ending → World → Prop) (hd : a.defers = [{ target:=Target.fn (Fn.func 66) #[],args:=#[.pointer (some ⟨E,0,none⟩)] }]) (h2 : a.tmps.getD 2 undef = .pointer (some ⟨E,0,none⟩))
  (hE : W.heap[E]? = some (.cells #[.int .i64 0] 26 (0,0))) (hQ : Q (.returned (.int .i64 2)) (W.setCell ⟨E,0,none⟩ (.int .i64 2))) :
  bodyPostD Tryz.prog Tryz.f25 Q (.panic [{ v:=errno 2,recovered:=false }]) a W:=by
 obtain ⟨tm,df⟩:=a
 simp only at hd h2
 subst hd
 have e2:=rg_ev (a:=⟨tm,[]⟩) h2
 simp only at e2
 have c2 : W.cell? ⟨E,0,none⟩ = some (.int .i64 0):=by simp [World.cell?,hE]
 have z2 : W.frozen? ⟨E,0,none⟩ = false:=frozen_of_row _ _ _ _ _ hE
 refine leaves_cons (f:=66) (args:=#[.pointer (some ⟨E,0,none⟩)]) (by simp) (by simp [go_sem]) ?_
 refine (hd_caught ⟨E,0,none⟩ 2 [] W _ c2 z2).mono ?_
 rintro e u' w'' ⟨rfl,rfl,rfl⟩
 have hE2 : (W.setCell ⟨E,0,none⟩ (.int .i64 2)).heap[E]? = some (.cells #[.int .i64 2] 26 (0,0)):=heap_setCell_same _ _ 0 _ _ _ hE
 have xe : (W.setCell ⟨E,0,none⟩ (.int .i64 2)).cell? ⟨E,0,none⟩ = some (.int .i64 2):=by simp [World.cell?,hE2]
 obtain ⟨X,hX⟩ : ∃ X,W.setCell ⟨E,0,none⟩ (.int .i64 2) = X:=⟨_,rfl⟩
 rw [hX] at xe hQ ⊢
 clear hX hE2 c2 z2 hE
 simp [Leaves,settle,results,Tryz.results25,go_sem,e2,xe]
 exact hQ
theorem ck_callno {P : Program} {o : Oper} {a : Act} {w : World} {K : Act → World → Prop} {Q : Exit → Act → World → Prop} (t k : Nat) (ty : Array TypeId) (v c : Value) (ch : List PanicEntry) (R : Ending → World → Prop) (ho : o.op = Op.call { callee:=.value (.func k),args:=#[.tmp t,.const c],argTypes:=ty }) (hv : a.tmps.getD t undef = v)
  (eg : ∀ args w,(callFunc k args).run P w = .ok (.enter k args) w) (hc : Calls P k #[v,c] w R) (hR : ∀ e w',R e w' → e = .panicked ch ∧ Q (.panic ch) a w') : o.wp P a w K Q:=by
 have e:=rg_ev hv
 have e2 : a.eval (.func k) = .func (.func k) #[] #[]:=rfl
 have e3 : a.eval (.const c) = c:=rfl
 unfold Oper.wp execOp
 simp [ho,resolve,invoke,e2,e3,e,eg,go_sem]
 refine hc.mono ?_
 intro z w' hz
 obtain ⟨rfl,hk⟩:=hR z w' hz
 exact hk
def ckGA (V : Nat) (nb vb lb : ByteArray) : Nat → World → Value → Prop
 | 0,_,v => v = .pointer (some ⟨V,0,none⟩)
 | 1,_,v => v = .string nb
 | 2,_,v => v = .bool false
 | 3,_,v => v = .bool false
 | 4,_,v => v = undef
 | 5,_,v => v = undef
 | 6,_,v => v = undef
 | 7,_,v => v = undef
 | 8,_,v => v = undef
 | 9,_,v => v = undef
 | 10,_,v => v = .bool false
 | 11,_,v => v = .bool false
 | 12,_,v => v = undef
 | 13,_,v => v = undef
 | 14,_,v => v = undef
 | 15,_,v => v = .bool false
 | 16,w,v => False
 | _,_,_ => False
def ckGB (V : Nat) (nb vb lb : ByteArray) : Nat → World → Value → Prop
 | 0,_,v => v = .pointer (some ⟨V,0,none⟩)
 | 1,_,v => v = .string nb
 | 2,_,v => v = .bool true
 | 3,_,v => v = .bool true
 | 4,_,v => v = .pointer (some ⟨V,0,none⟩)
 | 5,_,v => v = .string nb
 | 6,_,v => v = .string lb
 | 7,_,v => v = .pointer (some ⟨V,0,none⟩)
 | 8,_,v => v = .string nb
 | 9,_,v => v = .bool false
 | 10,_,v => v = .bool false
 | 11,_,v => v = .bool false
 | 12,_,v => v = undef
 | 13,_,v => v = undef
 | 14,_,v => v = undef
 | 15,_,v => v = .bool false
 | 16,w,v => False
 | _,_,_ => False
def ckGC (V : Nat) (nb vb lb : ByteArray) : Nat → World → Value → Prop
 | 0,_,v => v = .pointer (some ⟨V,0,none⟩)
 | 1,_,v => v = .string nb
 | 2,_,v => v = .bool true
 | 3,_,v => v = .bool true
 | 4,_,v => v = .pointer (some ⟨V,0,none⟩)
 | 5,_,v => v = .string nb
 | 6,_,v => v = .string lb
 | 7,_,v => v = .pointer (some ⟨V,0,none⟩)
 | 8,_,v => v = .string nb
 | 9,_,v => v = .bool true
 | 10,_,v => v = .bool true
 | 11,_,v => v = .bool true
 | 12,_,v => v = .pointer (some ⟨V,1,none⟩)
 | 13,_,v => v = .string vb
 | 14,_,v => v = .bool false
 | 15,_,v => v = .bool false
 | 16,w,v => False
 | _,_,_ => False
def ckGD (V : Nat) (nb vb lb : ByteArray) : Nat → World → Value → Prop
 | 0,_,v => v = .pointer (some ⟨V,0,none⟩)
 | 1,_,v => v = .string nb
 | 2,_,v => v = .bool true
 | 3,_,v => v = .bool true
 | 4,_,v => v = .pointer (some ⟨V,0,none⟩)
 | 5,_,v => v = .string nb
 | 6,_,v => v = .string lb
 | 7,_,v => v = .pointer (some ⟨V,0,none⟩)
 | 8,_,v => v = .string nb
 | 9,_,v => v = .bool true
 | 10,_,v => v = .bool true
 | 11,_,v => v = .bool true
 | 12,_,v => v = .pointer (some ⟨V,1,none⟩)
 | 13,_,v => v = .string vb
 | 14,_,v => v = .bool true
 | 15,_,v => v = .bool true
 | 16,_,v => v = .tuple #[]
 | _,_,_ => False
theorem blank_first {c : UInt8} (h : (c.toNat : Int) = 9 ∨ (c.toNat : Int) = 32) : Tp.trim [c] = []:=by
 have : c = 9 ∨ c = 32:=h.imp (fun h => UInt8.toNat_inj.1 (by have : (9 : UInt8).toNat = 9:=rfl; omega)) (fun h => UInt8.toNat_inj.1 (by have : (32 : UInt8).toNat = 32:=rfl; omega))
 rcases this with rfl | rfl <;> decide
theorem hd_CheckG (F : List UInt8) (v : Value) (fs : List Hp.Hd) (w : World) (hv : HS w v fs) (hF : F.length ≤ 100000) (hl : fs.length ≤ 1000) (hs : ∀ f ∈ fs,f.1.length ≤ 100000 ∧ f.2.length ≤ 100000) :
  Calls Tryz.prog 25 #[.agg #[Hp.sx F,v]] w fun e w' => e = .returned (.int .i64 (if Hr.okB F fs then 0 else 2)) ∧ Below w.heap.size w w':=by
 by_cases hok : Hr.okB F fs = true
 ·rw [if_pos hok]
  exact hd_Check F v fs w hv (Hr.hok_of hok) hF (by omega) hs
 rw [if_neg hok]
 have hok : Hr.okB F fs = false:=by simpa using hok
 obtain ⟨p,c,rfl⟩:=hv.slice
 obtain ⟨N,hN⟩ : ∃ N,fs.length = N:=⟨_,rfl⟩
 rw [hN] at hv hl ⊢
 unfold Hp.sx
 obtain ⟨fb,hfb⟩ : ∃ z : ByteArray,(⟨F.toArray⟩ : ByteArray) = z:=⟨_,rfl⟩
 rw [hfb]
 have hfs : fb.size ≤ 100000:=by rw [← hfb]; exact hF
 obtain ⟨H,hH⟩ : ∃ H,w.heap.size = H:=⟨_,rfl⟩
 obtain ⟨W2,hW2⟩ : ∃ Z,(w.alloc (.cells #[.string fb,.slice p N c] 25)).alloc (.cells #[.int .i64 0] 26) = Z:=⟨_,rfl⟩
 have HB2:=Lib.hid (show Below H w W2 by rw [← hW2,← hH]; exact ((Below.refl _ _).alloc (Nat.le_refl _) _).alloc (by simp) _)
 have HZ2:=Lib.hid (show W2.heap.size = H + 2 by rw [← hW2,← hH]; simp)
 have HG0:=Lib.hid (show W2.heap[H]? = some (.cells #[.string fb,.slice p N c] 25 (0,0)) by
  rw [← hW2,← hH,Below.heap_alloc _ _ _ (by simp)]; exact World.alloc_heap_new _ _)
 have HG1:=Lib.hid (show W2.heap[H + 1]? = some (.cells #[.int .i64 0] 26 (0,0)) by
  rw [← hW2,← hH]
  have:=World.alloc_heap_new (w.alloc (.cells #[.string fb,.slice p N c] 25)) (.cells #[.int .i64 0] 26)
  simpa using this)
 have HV2:=Lib.hid (hv.below (by rw [hH]; exact HB2.out))
 -- how it gives up at any world that goes on from the start
 have HDOOR:=Lib.hid (show ∀ (a : Act) (W : World),a.defers = [{ target:=Target.fn (Fn.func 66) #[],args:=#[.pointer (some ⟨H + 1,0,none⟩)] }] → a.tmps.getD 2 undef = .pointer (some ⟨H + 1,0,none⟩) → Below W2.heap.size W2 W →
   bodyPostD Tryz.prog Tryz.f25 (fun e w' => e = .returned (.int .i64 2) ∧ Below w.heap.size w w') (.panic [{ v:=errno 2,recovered:=false }]) a W from fun a W hd h2 hb => by
  refine hd_door a (H + 1) W _ hd h2 ((hb.block _ (Array.getElem?_eq_some_iff.1 HG1.out).1).trans HG1.out) ⟨rfl,?_⟩
  rw [hH]
  exact (HB2.out.trans (hb.mono (by rw [HZ2.out]; omega))).setCell (Nat.le_succ _) _)
 have HW2:=Lib.hid hW2
 have HHH:=Lib.hid hH
 have HNN:=Lib.hid hN
 have HSS:=Lib.hid hs
 have HFB:=Lib.hid hfb
 have HOK:=Lib.hid hok
 have a0 : W2.cell? ⟨H,0,none⟩ = some (.string fb):=by simp [World.cell?,HG0.out]
 have a1 : W2.cell? ⟨H,1,none⟩ = some (.slice p N c):=by simp [World.cell?,HG0.out]
 have KMN:=Lib.hid (hd_must_no 2)
 clear hv hok hs hN hH hW2 hfb
 by_cases h0 : fb.size = 0
 ·have hf0 : fb = ⟨#[]⟩:=by
   obtain ⟨d⟩:=fb
   simp only [ByteArray.size,Array.size_eq_zero_iff] at h0
   rw [h0]
  subst hf0
  go_enter_defers Tryz.func25,Tryz.ntmps25
  go_wp2_with fail
  rw [HHH.out,HW2.out]
  go_wp2_with fail
  refine (KMN.out W2).mono ?_
  rintro e w5 ⟨rfl,hw5⟩
  subst w5
  exact HDOOR.out _ _ rfl rfl (Below.refl _ _)
 ·have hpos : 0 < fb.size:=Nat.pos_of_ne_zero h0
  have hne : (fb.toList == []) = false:=by
   rw [ByteArray.toList_eq,beq_eq_false_iff_ne]
   intro h
   apply h0
   show fb.data.size = 0
   rw [← Array.length_toList,h]; rfl
  obtain ⟨c0,F',hFF⟩ : ∃ c0 F',F = c0 :: F':=by
   match F,HFB.out with
   | [],h => exfalso; apply h0; rw [← h]; rfl
   | c0 :: F',_ => exact ⟨c0,F',rfl⟩
  have hba:=x_mid F
  have hta:=take_one F
  rw [HFB.out] at hba hta
  have hsl : ∀ W,(Instr.slice 9 (.string fb) none (some (.int .i64 1)) none).run Tryz.prog W = .ok (.string (fb.extract 0 1)) W:=fun W => by
   have h2 : (1 : Int) ≤ fb.size:=by omega
   simp [go_sem,Tryz.underlying9,h2]
  obtain ⟨tb,htb⟩ : ∃ z : ByteArray,fb.extract 0 1 = z:=⟨_,rfl⟩
  rw [htb] at hta hsl
  have htbs : tb.size ≤ 9223372036854775807:=by
   have h1 : tb.data.toList.length = tb.size:=rfl
   rw [hta,List.length_take] at h1; omega
  have KT:=Lib.hid (fun W => tok_trim tb W htbs)
  have HTA:=Lib.hid (show tb.data.toList = [c0] by rw [hta,hFF]; rfl)
  clear hta htb htbs
  by_cases hbl : (c0.toNat : Int) = 9 ∨ (c0.toNat : Int) = 32
  ·have hub : (⟨(Tp.trim tb.data.toList).toArray⟩ : ByteArray) = ⟨#[]⟩:=by rw [HTA.out,blank_first hbl]
   rw [hub] at KT
   clear hbl hub hba
   go_enter_defers Tryz.func25,Tryz.ntmps25
   go_wp2_with fail
   rw [HHH.out,HW2.out]
   refine (KT.out W2).mono ?_
   rintro e w3 ⟨rfl,hb3⟩
   have HC3:=Lib.hid hb3
   clear hb3 a0 a1
   go_wp2_with fail
   refine (KMN.out w3).mono ?_
   rintro e w5 ⟨rfl,hw5⟩
   subst w5
   exact HDOOR.out _ _ rfl rfl HC3.out
  ·have hbl1 : Tp.blankB c0 = false:=by
    rw [not_or] at hbl
    unfold Tp.blankB Tp.blank
    simp
    omega
   obtain ⟨ub,hub⟩ : ∃ z : ByteArray,(⟨(Tp.trim tb.data.toList).toArray⟩ : ByteArray) = z:=⟨_,rfl⟩
   have hun : (ub.toList == []) = false:=by
    rw [← hub,ByteArray.toList_eq,HTA.out]
    have : Tp.trim [c0] = [c0]:=by
     unfold Tp.trim
     rw [Hp.trimL_no hbl1,show [c0] = [] ++ [c0] from rfl,Hp.trimR_no hbl1]
    rw [this]; rfl
   rw [hub] at KT
   obtain ⟨xb,hxb⟩ : ∃ z : ByteArray,(⟨#[120]⟩ : ByteArray) ++ fb ++ ⟨#[120]⟩ = z:=⟨_,rfl⟩
   rw [hxb] at hba
   have hxbs : xb.size ≤ 9223372036854775807:=by
    have h1 : xb.data.toList.length = xb.size:=rfl
    rw [hba] at h1; simp at h1; omega
   have KV:=Lib.hid (fun W => tok_value xb W hxbs)
   rw [hba] at KV
   have HXB:=Lib.hid hxb
   have HO2:=Lib.hid (show (Tp.isVal (120 :: F ++ [120]) && fs.all Hr.fldB) = false by
    have h:=HOK.out
    unfold Hr.okB at h
    rw [hFF] at h ⊢
    rw [not_or] at hbl
    simpa [hbl.1,hbl.2] using h)
   obtain ⟨bv,hbv⟩ : ∃ z,Tp.isVal (120 :: F ++ [120]) = z:=⟨_,rfl⟩
   rw [hbv] at KV HO2
   clear hub hba hxb hxbs hbl hbl1 hFF hbv
   go_enter_defers Tryz.func25,Tryz.ntmps25
   go_wp2_with fail
   rw [HHH.out,HW2.out]
   refine (KT.out W2).mono ?_
   rintro e w3 ⟨rfl,hb3⟩
   have HC3:=Lib.hid hb3
   have hg3:=(hb3.block H (by rw [HZ2.out]; omega)).trans HG0.out
   have b0 : w3.cell? ⟨H,0,none⟩ = some (.string fb):=by simp [World.cell?,hg3]
   clear hb3 hg3 a0 a1
   go_wp2_with fail
   rw [HXB.out]
   refine (KV.out w3).mono ?_
   rintro e w4 ⟨rfl,hb4⟩
   have HC4:=Lib.hid (HC3.out.trans (hb4.mono HC3.out.size))
   clear hb4 b0
   cases bv
   ·go_wp2_with fail
    refine (KMN.out w4).mono ?_
    rintro e w5 ⟨rfl,hw5⟩
    subst w5
    exact HDOOR.out _ _ rfl rfl HC4.out
   ·go_wp2_with fail
    refine (hd_must 2 w4).mono ?_
    rintro e w5 ⟨rfl,hw5⟩
    subst w5
    have hg4:=(HC4.out.block H (by rw [HZ2.out]; omega)).trans HG0.out
    have b1 : w4.cell? ⟨H,1,none⟩ = some (.slice p N c):=by simp [World.cell?,hg4]
    clear hg4
    go_wp2_with fail
    clear b1
    go_loopw [26] (fun i wr => ∃ k : Nat,k ≤ N ∧ i = .int .i64 k ∧ (fs.take k).all Hr.fldB = true ∧ Below W2.heap.size W2 wr) (fun i _ => N - (intOf i).toNat)
    case atStart => exact ⟨0,Nat.zero_le _,rfl,rfl,HC4.out⟩
    case round =>
     obtain ⟨k,hk,rfl,hall,hbl⟩:=hrel
     have HALL:=Lib.hid hall
     have HBL:=Lib.hid hbl
     clear hbl hall
     by_cases hlt : k < N
     ·obtain ⟨g1,o1,rfl,hc1⟩:=(HV2.out.below HBL.out).cells (k:=k) (by rw [HNN.out]; exact hlt)
      obtain ⟨hx,hy⟩:=hc1 k (by rw [HNN.out]; exact hlt)
      have HTK:=Lib.hid (show fs.take (k + 1) = fs.take k ++ [fs.getD k ([],[])] by
       rw [List.take_add_one,List.getElem?_eq_getElem (by rw [HNN.out]; exact hlt),List.getD_eq_getElem?_getD,List.getElem?_eq_getElem (by rw [HNN.out]; exact hlt)]; rfl)
      have hszf:=HSS.out (fs.getD k ([],[])) (by rw [List.getD_eq_getElem?_getD,List.getElem?_eq_getElem (by rw [HNN.out]; exact hlt)]; exact List.getElem_mem _)
      obtain ⟨⟨n0,v0⟩,hf⟩ : ∃ x,fs.getD k ([],[]) = x:=⟨_,rfl⟩
      rw [hf] at hx hy HTK hszf
      unfold Hp.sx at hx hy
      simp only at hx hy hszf
      obtain ⟨nb,hnb⟩ : ∃ z : ByteArray,(⟨n0.toArray⟩ : ByteArray) = z:=⟨_,rfl⟩
      obtain ⟨vb,hvb⟩ : ∃ z : ByteArray,(⟨v0.toArray⟩ : ByteArray) = z:=⟨_,rfl⟩
      rw [hnb] at hx
      rw [hvb] at hy
      have hns : nb.size ≤ 100000:=by rw [← hnb]; exact hszf.1
      have hvs : vb.size ≤ 100000:=by rw [← hvb]; exact hszf.2
      have KT0:=fun W => tok_token nb W (by omega)
      have KL0:=fun W => tok_lower nb W (by omega)
      have KV0:=fun W => tok_value vb W (by omega)
      rw [show nb.data.toList = n0 by rw [← hnb]] at KT0 KL0
      rw [show vb.data.toList = v0 by rw [← hvb]] at KV0
      obtain ⟨lb,hlb⟩ : ∃ z : ByteArray,(⟨(Tp.lower n0).toArray⟩ : ByteArray) = z:=⟨_,rfl⟩
      rw [hlb] at KL0
      have hq : (lb.toList == nb.toList) = (Tp.lower n0 == n0):=by
       rw [← hlb,← hnb,ByteArray.toList_eq,ByteArray.toList_eq]
      obtain ⟨q1,hq1⟩ : ∃ z,Tp.isTok n0 = z:=⟨_,rfl⟩
      obtain ⟨q2,hq2⟩ : ∃ z,(Tp.lower n0 == n0) = z:=⟨_,rfl⟩
      obtain ⟨q3,hq3⟩ : ∃ z,Tp.isVal v0 = z:=⟨_,rfl⟩
      rw [hq1] at KT0
      rw [hq2] at hq
      rw [hq3] at KV0
      have HFB2:=Lib.hid (show Hr.fldB (n0,v0) = (q1 && q2 && q3) by rw [← hq1,← hq2,← hq3]; rfl)
      have KTO:=Lib.hid KT0
      have KLO:=Lib.hid KL0
      have KVA:=Lib.hid KV0
      have HQ:=Lib.hid hq
      obtain ⟨V,hV⟩ : ∃ z,wr.heap.size = z:=⟨_,rfl⟩
      obtain ⟨W6,hW6⟩ : ∃ Z,wr.alloc (.cells #[.string nb,.string vb] 59) = Z:=⟨_,rfl⟩
      have hb6 : Below wr.heap.size wr W6:=by rw [← hW6]; exact (Below.refl _ _).alloc (Nat.le_refl _) _
      have HB6:=Lib.hid (HBL.out.trans (hb6.mono HBL.out.size))
      have hg6 : W6.heap[V]? = some (.cells #[.string nb,.string vb] 59 (0,0)):=by rw [← hW6,← hV]; exact World.alloc_heap_new _ _
      have HVL0:=Lib.hid (show V < W6.heap.size from (Array.getElem?_eq_some_iff.1 hg6).1)
      have HC0:=Lib.hid (show W6.cell? ⟨V,0,none⟩ = some (.string nb) by simp [World.cell?,hg6])
      have HC1:=Lib.hid (show W6.cell? ⟨V,1,none⟩ = some (.string vb) by simp [World.cell?,hg6])
      have HW6:=Lib.hid hW6
      have HVV:=Lib.hid hV
      clear hf hszf hnb hvb KT0 KL0 KV0 hlb hq hq1 hq2 hq3 hns hvs hc1 hb6 hg6 hW6 hV
      go_wp2_with fail
      rw [HVV.out,HW6.out]
      clear hx hy
      cases q1
      ·refine region_slotsP (fun i => 30 + min i 16) (ckGA V nb vb lb) (fun i => ([true,true,true,true,false,false,false,false,false,false,true,true,false,false,false,true,true] : List Bool).getD i true) (by kernel_rfl) (by kernel_rfl) (fun i => by show 30 + min i 16 < _; simp; omega) (fun i j hi hj h => by have hi : i < 17:=hi; have hj : j < 17:=hj; omega) ?mono ?dst ?gu ?ng ?skip ?step ?done
       case mono =>
        intro i W W' v h hbw
        match i,h with
        | 0,h | 1,h | 2,h | 3,h | 4,h | 5,h | 6,h | 7,h | 8,h | 9,h | 10,h | 11,h | 12,h | 13,h | 14,h | 15,h | 16,h => exact h
        | n + 17,h => exact h.elim
       case dst =>
        intro i o ho
        match i,ho with
        | 0,ho | 1,ho | 2,ho | 3,ho | 4,ho | 5,ho | 6,ho | 7,ho | 8,ho | 9,ho | 10,ho | 11,ho | 12,ho | 13,ho | 14,ho | 15,ho | 16,ho => cases ho; rfl
        | n + 17,ho => exact absurd ho (by simp)
       case gu =>
        intro i o g b ho hgd W v hv
        match i,ho with
        | 0,ho => cases ho; cases hgd
        | 1,ho => cases ho; cases hgd
        | 2,ho => cases ho; cases hgd
        | 3,ho => cases ho; cases hgd
        | 4,ho => cases ho; cases hgd; first | exact .inl hv | exact .inr ⟨rfl,hv⟩
        | 5,ho => cases ho; cases hgd; first | exact .inl hv | exact .inr ⟨rfl,hv⟩
        | 6,ho => cases ho; cases hgd; first | exact .inl hv | exact .inr ⟨rfl,hv⟩
        | 7,ho => cases ho; cases hgd; first | exact .inl hv | exact .inr ⟨rfl,hv⟩
        | 8,ho => cases ho; cases hgd; first | exact .inl hv | exact .inr ⟨rfl,hv⟩
        | 9,ho => cases ho; cases hgd; first | exact .inl hv | exact .inr ⟨rfl,hv⟩
        | 10,ho => cases ho; cases hgd
        | 11,ho => cases ho; cases hgd
        | 12,ho => cases ho; cases hgd; first | exact .inl hv | exact .inr ⟨rfl,hv⟩
        | 13,ho => cases ho; cases hgd; first | exact .inl hv | exact .inr ⟨rfl,hv⟩
        | 14,ho => cases ho; cases hgd; first | exact .inl hv | exact .inr ⟨rfl,hv⟩
        | 15,ho => cases ho; cases hgd
        | 16,ho => cases ho; cases hgd
        | n + 17,ho => exact absurd ho (by simp)
       case ng =>
        intro i o ho hgd
        match i,ho with
        | 0,ho => cases ho; first | rfl | cases hgd
        | 1,ho => cases ho; first | rfl | cases hgd
        | 2,ho => cases ho; first | rfl | cases hgd
        | 3,ho => cases ho; first | rfl | cases hgd
        | 4,ho => cases ho; first | rfl | cases hgd
        | 5,ho => cases ho; first | rfl | cases hgd
        | 6,ho => cases ho; first | rfl | cases hgd
        | 7,ho => cases ho; first | rfl | cases hgd
        | 8,ho => cases ho; first | rfl | cases hgd
        | 9,ho => cases ho; first | rfl | cases hgd
        | 10,ho => cases ho; first | rfl | cases hgd
        | 11,ho => cases ho; first | rfl | cases hgd
        | 12,ho => cases ho; first | rfl | cases hgd
        | 13,ho => cases ho; first | rfl | cases hgd
        | 14,ho => cases ho; first | rfl | cases hgd
        | 15,ho => cases ho; first | rfl | cases hgd
        | 16,ho => cases ho; first | rfl | cases hgd
        | n + 17,ho => exact absurd ho (by simp)
       case skip =>
        intro i W hi hsel
        match i,hi,hsel with
        | 0,_,hsel => first | exact absurd hsel (by decide) | rfl
        | 1,_,hsel => first | exact absurd hsel (by decide) | rfl
        | 2,_,hsel => first | exact absurd hsel (by decide) | rfl
        | 3,_,hsel => first | exact absurd hsel (by decide) | rfl
        | 4,_,hsel => first | exact absurd hsel (by decide) | rfl
        | 5,_,hsel => first | exact absurd hsel (by decide) | rfl
        | 6,_,hsel => first | exact absurd hsel (by decide) | rfl
        | 7,_,hsel => first | exact absurd hsel (by decide) | rfl
        | 8,_,hsel => first | exact absurd hsel (by decide) | rfl
        | 9,_,hsel => first | exact absurd hsel (by decide) | rfl
        | 10,_,hsel => first | exact absurd hsel (by decide) | rfl
        | 11,_,hsel => first | exact absurd hsel (by decide) | rfl
        | 12,_,hsel => first | exact absurd hsel (by decide) | rfl
        | 13,_,hsel => first | exact absurd hsel (by decide) | rfl
        | 14,_,hsel => first | exact absurd hsel (by decide) | rfl
        | 15,_,hsel => first | exact absurd hsel (by decide) | rfl
        | 16,_,hsel => first | exact absurd hsel (by decide) | rfl
        | n + 17,hi,_ => exact absurd hi (by simp)
       case step =>
        intro f a' W i o ho hsel hpre hbel hrest hdf
        match i,ho,hsel with
        | 0,ho,_ =>
         cases ho
         have q4 : a'.tmps.getD 4 undef = .pointer (some ⟨V,0,none⟩):=(hrest 4 (by intro i hi; have hi : i < 17:=hi; show 30 + min i 16 ≠ _; omega))
         have e4:=rg_ev q4
         exact rg_same (.pointer (some ⟨V,0,none⟩)) (by unfold Oper.wp execOp; go_simp; all_goals ((try simp only [e4]); (try go_simp); (try rw [if_pos (by omega)]); (try rw [if_neg (by omega)]); first | done | rfl | exact ⟨rfl,rfl⟩ | trivial)) rfl
        | 1,ho,_ =>
         cases ho
         have q30 : a'.tmps.getD 30 undef = .pointer (some ⟨V,0,none⟩):=(hpre { on:=0,ground:=.data } (by simp) rfl)
         have c0 : W.cell? ⟨V,0,none⟩ = some (.string nb):=(hbel.cell (p:=⟨V,0,none⟩) HVL0.out).trans HC0.out
         have e30:=rg_ev q30
         exact rg_same (.string nb) (by unfold Oper.wp execOp; go_simp; all_goals ((try simp only [e30]); (try go_simp); (try rw [if_pos (by omega)]); (try rw [if_neg (by omega)]); first | done | rfl | exact ⟨rfl,rfl⟩ | trivial)) rfl
        | 2,ho,_ =>
         cases ho
         have q31 : a'.tmps.getD 31 undef = .string nb:=(hpre { on:=1,ground:=.data } (by simp) rfl)
         exact rg_call 31 68 _ _ _ rfl q31 (enters_of Tryz.func68 (by kernel_rfl) rfl) (KTO.out W) (fun e w' h => ⟨_,h.1,_,rfl,rfl,h.2⟩)
        | 3,ho,_ =>
         cases ho
         have q32 : a'.tmps.getD 32 undef = .bool false:=(hpre { on:=2,ground:=.data } (by simp) rfl)
         have e32:=rg_ev q32
         exact rg_same (.bool false) (by unfold Oper.wp execOp; go_simp; all_goals ((try simp only [e32]); (try go_simp); (try rw [if_pos (by omega)]); (try rw [if_neg (by omega)]); first | done | rfl | exact ⟨rfl,rfl⟩ | trivial)) rfl
        | 4,ho,hsel => exact absurd hsel (by decide)
        | 5,ho,hsel => exact absurd hsel (by decide)
        | 6,ho,hsel => exact absurd hsel (by decide)
        | 7,ho,hsel => exact absurd hsel (by decide)
        | 8,ho,hsel => exact absurd hsel (by decide)
        | 9,ho,hsel => exact absurd hsel (by decide)
        | 10,ho,_ =>
         cases ho
         have q33 : a'.tmps.getD 33 undef = .bool false:=(hpre { on:=3,ground:=.data } (by simp) rfl)
         have q39 : a'.tmps.getD 39 undef = undef:=(hpre { on:=9,ground:=.data } (by simp) rfl)
         have e33:=rg_ev q33
         have e39:=rg_ev q39
         exact rg_same (.bool false) (by unfold Oper.wp execOp; go_simp; all_goals ((try simp only [e33,e39]); (try go_simp); (try rw [if_pos (by omega)]); (try rw [if_neg (by omega)]); first | done | rfl | exact ⟨rfl,rfl⟩ | trivial)) rfl
        | 11,ho,_ =>
         cases ho
         have q40 : a'.tmps.getD 40 undef = .bool false:=(hpre { on:=10,ground:=.data } (by simp) rfl)
         have e40:=rg_ev q40
         exact rg_same (.bool false) (by unfold Oper.wp execOp; go_simp; all_goals ((try simp only [e40]); (try go_simp); (try rw [if_pos (by omega)]); (try rw [if_neg (by omega)]); first | done | rfl | exact ⟨rfl,rfl⟩ | trivial)) rfl
        | 12,ho,hsel => exact absurd hsel (by decide)
        | 13,ho,hsel => exact absurd hsel (by decide)
        | 14,ho,hsel => exact absurd hsel (by decide)
        | 15,ho,_ =>
         cases ho
         have q41 : a'.tmps.getD 41 undef = .bool false:=(hpre { on:=11,ground:=.data } (by simp) rfl)
         have q44 : a'.tmps.getD 44 undef = undef:=(hpre { on:=14,ground:=.data } (by simp) rfl)
         have e41:=rg_ev q41
         have e44:=rg_ev q44
         exact rg_same (.bool false) (by unfold Oper.wp execOp; go_simp; all_goals ((try simp only [e41,e44]); (try go_simp); (try rw [if_pos (by omega)]); (try rw [if_neg (by omega)]); first | done | rfl | exact ⟨rfl,rfl⟩ | trivial)) rfl
        | 16,ho,_ =>
         cases ho
         have q45 : a'.tmps.getD 45 undef = .bool false:=(hpre { on:=15,ground:=.data } (by simp) rfl)
         refine ck_callno 45 67 _ _ _ [{ v:=errno 2,recovered:=false }] _ rfl q45 (enters_of Tryz.func67 (by kernel_rfl) rfl) (KMN.out W) ?_
         rintro e w' ⟨rfl,rfl⟩
         exact ⟨rfl,HDOOR.out _ _ hdf (hrest 2 (by intro i hi; show 30 + min i 16 ≠ _; omega)) (HB6.out.trans (hbel.mono HB6.out.size))⟩
        | n + 17,ho,_ => exact absurd ho (by simp)
       case done =>
        intro vs W hbel hvs
        exact (hvs 16 (by decide)).elim
      ·cases q2
       ·have hn : (lb.toList == nb.toList) = false:=HQ.out
        refine region_slotsP (fun i => 30 + min i 16) (ckGB V nb vb lb) (fun i => ([true,true,true,true,true,true,true,true,true,true,true,true,false,false,false,true,true] : List Bool).getD i true) (by kernel_rfl) (by kernel_rfl) (fun i => by show 30 + min i 16 < _; simp; omega) (fun i j hi hj h => by have hi : i < 17:=hi; have hj : j < 17:=hj; omega) ?mono ?dst ?gu ?ng ?skip ?step ?done
        case mono =>
         intro i W W' v h hbw
         match i,h with
         | 0,h | 1,h | 2,h | 3,h | 4,h | 5,h | 6,h | 7,h | 8,h | 9,h | 10,h | 11,h | 12,h | 13,h | 14,h | 15,h | 16,h => exact h
         | n + 17,h => exact h.elim
        case dst =>
         intro i o ho
         match i,ho with
         | 0,ho | 1,ho | 2,ho | 3,ho | 4,ho | 5,ho | 6,ho | 7,ho | 8,ho | 9,ho | 10,ho | 11,ho | 12,ho | 13,ho | 14,ho | 15,ho | 16,ho => cases ho; rfl
         | n + 17,ho => exact absurd ho (by simp)
        case gu =>
         intro i o g b ho hgd W v hv
         match i,ho with
         | 0,ho => cases ho; cases hgd
         | 1,ho => cases ho; cases hgd
         | 2,ho => cases ho; cases hgd
         | 3,ho => cases ho; cases hgd
         | 4,ho => cases ho; cases hgd; first | exact .inl hv | exact .inr ⟨rfl,hv⟩
         | 5,ho => cases ho; cases hgd; first | exact .inl hv | exact .inr ⟨rfl,hv⟩
         | 6,ho => cases ho; cases hgd; first | exact .inl hv | exact .inr ⟨rfl,hv⟩
         | 7,ho => cases ho; cases hgd; first | exact .inl hv | exact .inr ⟨rfl,hv⟩
         | 8,ho => cases ho; cases hgd; first | exact .inl hv | exact .inr ⟨rfl,hv⟩
         | 9,ho => cases ho; cases hgd; first | exact .inl hv | exact .inr ⟨rfl,hv⟩
         | 10,ho => cases ho; cases hgd
         | 11,ho => cases ho; cases hgd
         | 12,ho => cases ho; cases hgd; first | exact .inl hv | exact .inr ⟨rfl,hv⟩
         | 13,ho => cases ho; cases hgd; first | exact .inl hv | exact .inr ⟨rfl,hv⟩
         | 14,ho => cases ho; cases hgd; first | exact .inl hv | exact .inr ⟨rfl,hv⟩
         | 15,ho => cases ho; cases hgd
         | 16,ho => cases ho; cases hgd
         | n + 17,ho => exact absurd ho (by simp)
        case ng =>
         intro i o ho hgd
         match i,ho with
         | 0,ho => cases ho; first | rfl | cases hgd
         | 1,ho => cases ho; first | rfl | cases hgd
         | 2,ho => cases ho; first | rfl | cases hgd
         | 3,ho => cases ho; first | rfl | cases hgd
         | 4,ho => cases ho; first | rfl | cases hgd
         | 5,ho => cases ho; first | rfl | cases hgd
         | 6,ho => cases ho; first | rfl | cases hgd
         | 7,ho => cases ho; first | rfl | cases hgd
         | 8,ho => cases ho; first | rfl | cases hgd
         | 9,ho => cases ho; first | rfl | cases hgd
         | 10,ho => cases ho; first | rfl | cases hgd
         | 11,ho => cases ho; first | rfl | cases hgd
         | 12,ho => cases ho; first | rfl | cases hgd
         | 13,ho => cases ho; first | rfl | cases hgd
         | 14,ho => cases ho; first | rfl | cases hgd
         | 15,ho => cases ho; first | rfl | cases hgd
         | 16,ho => cases ho; first | rfl | cases hgd
         | n + 17,ho => exact absurd ho (by simp)
        case skip =>
         intro i W hi hsel
         match i,hi,hsel with
         | 0,_,hsel => first | exact absurd hsel (by decide) | rfl
         | 1,_,hsel => first | exact absurd hsel (by decide) | rfl
         | 2,_,hsel => first | exact absurd hsel (by decide) | rfl
         | 3,_,hsel => first | exact absurd hsel (by decide) | rfl
         | 4,_,hsel => first | exact absurd hsel (by decide) | rfl
         | 5,_,hsel => first | exact absurd hsel (by decide) | rfl
         | 6,_,hsel => first | exact absurd hsel (by decide) | rfl
         | 7,_,hsel => first | exact absurd hsel (by decide) | rfl
         | 8,_,hsel => first | exact absurd hsel (by decide) | rfl
         | 9,_,hsel => first | exact absurd hsel (by decide) | rfl
         | 10,_,hsel => first | exact absurd hsel (by decide) | rfl
         | 11,_,hsel => first | exact absurd hsel (by decide) | rfl
         | 12,_,hsel => first | exact absurd hsel (by decide) | rfl
         | 13,_,hsel => first | exact absurd hsel (by decide) | rfl
         | 14,_,hsel => first | exact absurd hsel (by decide) | rfl
         | 15,_,hsel => first | exact absurd hsel (by decide) | rfl
         | 16,_,hsel => first | exact absurd hsel (by decide) | rfl
         | n + 17,hi,_ => exact absurd hi (by simp)
        case step =>
         intro f a' W i o ho hsel hpre hbel hrest hdf
         match i,ho,hsel with
         | 0,ho,_ =>
          cases ho
          have q4 : a'.tmps.getD 4 undef = .pointer (some ⟨V,0,none⟩):=(hrest 4 (by intro i hi; have hi : i < 17:=hi; show 30 + min i 16 ≠ _; omega))
          have e4:=rg_ev q4
          exact rg_same (.pointer (some ⟨V,0,none⟩)) (by unfold Oper.wp execOp; go_simp; all_goals ((try simp only [e4]); (try go_simp); (try rw [if_pos (by omega)]); (try rw [if_neg (by omega)]); first | done | rfl | exact ⟨rfl,rfl⟩ | trivial)) rfl
         | 1,ho,_ =>
          cases ho
          have q30 : a'.tmps.getD 30 undef = .pointer (some ⟨V,0,none⟩):=(hpre { on:=0,ground:=.data } (by simp) rfl)
          have c0 : W.cell? ⟨V,0,none⟩ = some (.string nb):=(hbel.cell (p:=⟨V,0,none⟩) HVL0.out).trans HC0.out
          have e30:=rg_ev q30
          exact rg_same (.string nb) (by unfold Oper.wp execOp; go_simp; all_goals ((try simp only [e30]); (try go_simp); (try rw [if_pos (by omega)]); (try rw [if_neg (by omega)]); first | done | rfl | exact ⟨rfl,rfl⟩ | trivial)) rfl
         | 2,ho,_ =>
          cases ho
          have q31 : a'.tmps.getD 31 undef = .string nb:=(hpre { on:=1,ground:=.data } (by simp) rfl)
          exact rg_call 31 68 _ _ _ rfl q31 (enters_of Tryz.func68 (by kernel_rfl) rfl) (KTO.out W) (fun e w' h => ⟨_,h.1,_,rfl,rfl,h.2⟩)
         | 3,ho,_ =>
          cases ho
          have q32 : a'.tmps.getD 32 undef = .bool true:=(hpre { on:=2,ground:=.data } (by simp) rfl)
          have e32:=rg_ev q32
          exact rg_same (.bool true) (by unfold Oper.wp execOp; go_simp; all_goals ((try simp only [e32]); (try go_simp); (try rw [if_pos (by omega)]); (try rw [if_neg (by omega)]); first | done | rfl | exact ⟨rfl,rfl⟩ | trivial)) rfl
         | 4,ho,_ =>
          cases ho
          have q4 : a'.tmps.getD 4 undef = .pointer (some ⟨V,0,none⟩):=(hrest 4 (by intro i hi; have hi : i < 17:=hi; show 30 + min i 16 ≠ _; omega))
          have e4:=rg_ev q4
          exact rg_same (.pointer (some ⟨V,0,none⟩)) (by unfold Oper.wp execOp; go_simp; all_goals ((try simp only [e4]); (try go_simp); (try rw [if_pos (by omega)]); (try rw [if_neg (by omega)]); first | done | rfl | exact ⟨rfl,rfl⟩ | trivial)) rfl
         | 5,ho,_ =>
          cases ho
          have q34 : a'.tmps.getD 34 undef = .pointer (some ⟨V,0,none⟩):=(hpre { on:=4,ground:=.data } (by simp) rfl)
          have c0 : W.cell? ⟨V,0,none⟩ = some (.string nb):=(hbel.cell (p:=⟨V,0,none⟩) HVL0.out).trans HC0.out
          have e34:=rg_ev q34
          exact rg_same (.string nb) (by unfold Oper.wp execOp; go_simp; all_goals ((try simp only [e34]); (try go_simp); (try rw [if_pos (by omega)]); (try rw [if_neg (by omega)]); first | done | rfl | exact ⟨rfl,rfl⟩ | trivial)) rfl
         | 6,ho,_ =>
          cases ho
          have q35 : a'.tmps.getD 35 undef = .string nb:=(hpre { on:=5,ground:=.data } (by simp) rfl)
          exact rg_call 35 69 _ _ _ rfl q35 (enters_of Tryz.func69 (by kernel_rfl) rfl) (KLO.out W) (fun e w' h => ⟨_,h.1,_,rfl,rfl,h.2⟩)
         | 7,ho,_ =>
          cases ho
          have q4 : a'.tmps.getD 4 undef = .pointer (some ⟨V,0,none⟩):=(hrest 4 (by intro i hi; have hi : i < 17:=hi; show 30 + min i 16 ≠ _; omega))
          have e4:=rg_ev q4
          exact rg_same (.pointer (some ⟨V,0,none⟩)) (by unfold Oper.wp execOp; go_simp; all_goals ((try simp only [e4]); (try go_simp); (try rw [if_pos (by omega)]); (try rw [if_neg (by omega)]); first | done | rfl | exact ⟨rfl,rfl⟩ | trivial)) rfl
         | 8,ho,_ =>
          cases ho
          have q37 : a'.tmps.getD 37 undef = .pointer (some ⟨V,0,none⟩):=(hpre { on:=7,ground:=.data } (by simp) rfl)
          have c0 : W.cell? ⟨V,0,none⟩ = some (.string nb):=(hbel.cell (p:=⟨V,0,none⟩) HVL0.out).trans HC0.out
          have e37:=rg_ev q37
          exact rg_same (.string nb) (by unfold Oper.wp execOp; go_simp; all_goals ((try simp only [e37]); (try go_simp); (try rw [if_pos (by omega)]); (try rw [if_neg (by omega)]); first | done | rfl | exact ⟨rfl,rfl⟩ | trivial)) rfl
         | 9,ho,_ =>
          cases ho
          have q36 : a'.tmps.getD 36 undef = .string lb:=(hpre { on:=6,ground:=.data } (by simp) rfl)
          have q38 : a'.tmps.getD 38 undef = .string nb:=(hpre { on:=8,ground:=.data } (by simp) rfl)
          have e36:=rg_ev q36
          have e38:=rg_ev q38
          exact rg_same (.bool false) (by unfold Oper.wp execOp; go_simp; all_goals ((try simp only [e36,e38]); (try go_simp); (try rw [if_pos (by omega)]); (try rw [if_neg (by omega)]); first | done | rfl | exact ⟨rfl,rfl⟩ | trivial)) rfl
         | 10,ho,_ =>
          cases ho
          have q33 : a'.tmps.getD 33 undef = .bool true:=(hpre { on:=3,ground:=.data } (by simp) rfl)
          have q39 : a'.tmps.getD 39 undef = .bool false:=(hpre { on:=9,ground:=.data } (by simp) rfl)
          have e33:=rg_ev q33
          have e39:=rg_ev q39
          exact rg_same (.bool false) (by unfold Oper.wp execOp; go_simp; all_goals ((try simp only [e33,e39]); (try go_simp); (try rw [if_pos (by omega)]); (try rw [if_neg (by omega)]); first | done | rfl | exact ⟨rfl,rfl⟩ | trivial)) rfl
         | 11,ho,_ =>
          cases ho
          have q40 : a'.tmps.getD 40 undef = .bool false:=(hpre { on:=10,ground:=.data } (by simp) rfl)
          have e40:=rg_ev q40
          exact rg_same (.bool false) (by unfold Oper.wp execOp; go_simp; all_goals ((try simp only [e40]); (try go_simp); (try rw [if_pos (by omega)]); (try rw [if_neg (by omega)]); first | done | rfl | exact ⟨rfl,rfl⟩ | trivial)) rfl
         | 12,ho,hsel => exact absurd hsel (by decide)
         | 13,ho,hsel => exact absurd hsel (by decide)
         | 14,ho,hsel => exact absurd hsel (by decide)
         | 15,ho,_ =>
          cases ho
          have q41 : a'.tmps.getD 41 undef = .bool false:=(hpre { on:=11,ground:=.data } (by simp) rfl)
          have q44 : a'.tmps.getD 44 undef = undef:=(hpre { on:=14,ground:=.data } (by simp) rfl)
          have e41:=rg_ev q41
          have e44:=rg_ev q44
          exact rg_same (.bool false) (by unfold Oper.wp execOp; go_simp; all_goals ((try simp only [e41,e44]); (try go_simp); (try rw [if_pos (by omega)]); (try rw [if_neg (by omega)]); first | done | rfl | exact ⟨rfl,rfl⟩ | trivial)) rfl
         | 16,ho,_ =>
          cases ho
          have q45 : a'.tmps.getD 45 undef = .bool false:=(hpre { on:=15,ground:=.data } (by simp) rfl)
          refine ck_callno 45 67 _ _ _ [{ v:=errno 2,recovered:=false }] _ rfl q45 (enters_of Tryz.func67 (by kernel_rfl) rfl) (KMN.out W) ?_
          rintro e w' ⟨rfl,rfl⟩
          exact ⟨rfl,HDOOR.out _ _ hdf (hrest 2 (by intro i hi; show 30 + min i 16 ≠ _; omega)) (HB6.out.trans (hbel.mono HB6.out.size))⟩
         | n + 17,ho,_ => exact absurd ho (by simp)
        case done =>
         intro vs W hbel hvs
         exact (hvs 16 (by decide)).elim
       ·have hn : (lb.toList == nb.toList) = true:=HQ.out
        cases q3
        ·refine region_slotsP (fun i => 30 + min i 16) (ckGC V nb vb lb) (fun _ => true) (by kernel_rfl) (by kernel_rfl) (fun i => by show 30 + min i 16 < _; simp; omega) (fun i j hi hj h => by have hi : i < 17:=hi; have hj : j < 17:=hj; omega) ?mono ?dst ?gu ?ng ?skip ?step ?done
         case mono =>
          intro i W W' v h hbw
          match i,h with
          | 0,h | 1,h | 2,h | 3,h | 4,h | 5,h | 6,h | 7,h | 8,h | 9,h | 10,h | 11,h | 12,h | 13,h | 14,h | 15,h | 16,h => exact h
          | n + 17,h => exact h.elim
         case dst =>
          intro i o ho
          match i,ho with
          | 0,ho | 1,ho | 2,ho | 3,ho | 4,ho | 5,ho | 6,ho | 7,ho | 8,ho | 9,ho | 10,ho | 11,ho | 12,ho | 13,ho | 14,ho | 15,ho | 16,ho => cases ho; rfl
          | n + 17,ho => exact absurd ho (by simp)
         case gu =>
          intro i o g b ho hgd W v hv
          match i,ho with
          | 0,ho => cases ho; cases hgd
          | 1,ho => cases ho; cases hgd
          | 2,ho => cases ho; cases hgd
          | 3,ho => cases ho; cases hgd
          | 4,ho => cases ho; cases hgd; first | exact .inl hv | exact .inr ⟨rfl,hv⟩
          | 5,ho => cases ho; cases hgd; first | exact .inl hv | exact .inr ⟨rfl,hv⟩
          | 6,ho => cases ho; cases hgd; first | exact .inl hv | exact .inr ⟨rfl,hv⟩
          | 7,ho => cases ho; cases hgd; first | exact .inl hv | exact .inr ⟨rfl,hv⟩
          | 8,ho => cases ho; cases hgd; first | exact .inl hv | exact .inr ⟨rfl,hv⟩
          | 9,ho => cases ho; cases hgd; first | exact .inl hv | exact .inr ⟨rfl,hv⟩
          | 10,ho => cases ho; cases hgd
          | 11,ho => cases ho; cases hgd
          | 12,ho => cases ho; cases hgd; first | exact .inl hv | exact .inr ⟨rfl,hv⟩
          | 13,ho => cases ho; cases hgd; first | exact .inl hv | exact .inr ⟨rfl,hv⟩
          | 14,ho => cases ho; cases hgd; first | exact .inl hv | exact .inr ⟨rfl,hv⟩
          | 15,ho => cases ho; cases hgd
          | 16,ho => cases ho; cases hgd
          | n + 17,ho => exact absurd ho (by simp)
         case ng =>
          intro i o ho hgd
          match i,ho with
          | 0,ho => cases ho; first | rfl | cases hgd
          | 1,ho => cases ho; first | rfl | cases hgd
          | 2,ho => cases ho; first | rfl | cases hgd
          | 3,ho => cases ho; first | rfl | cases hgd
          | 4,ho => cases ho; first | rfl | cases hgd
          | 5,ho => cases ho; first | rfl | cases hgd
          | 6,ho => cases ho; first | rfl | cases hgd
          | 7,ho => cases ho; first | rfl | cases hgd
          | 8,ho => cases ho; first | rfl | cases hgd
          | 9,ho => cases ho; first | rfl | cases hgd
          | 10,ho => cases ho; first | rfl | cases hgd
          | 11,ho => cases ho; first | rfl | cases hgd
          | 12,ho => cases ho; first | rfl | cases hgd
          | 13,ho => cases ho; first | rfl | cases hgd
          | 14,ho => cases ho; first | rfl | cases hgd
          | 15,ho => cases ho; first | rfl | cases hgd
          | 16,ho => cases ho; first | rfl | cases hgd
          | n + 17,ho => exact absurd ho (by simp)
         case skip =>
          intro i W hi hsel
          match i,hi,hsel with
          | 0,_,hsel => first | exact absurd hsel (by decide) | rfl
          | 1,_,hsel => first | exact absurd hsel (by decide) | rfl
          | 2,_,hsel => first | exact absurd hsel (by decide) | rfl
          | 3,_,hsel => first | exact absurd hsel (by decide) | rfl
          | 4,_,hsel => first | exact absurd hsel (by decide) | rfl
          | 5,_,hsel => first | exact absurd hsel (by decide) | rfl
          | 6,_,hsel => first | exact absurd hsel (by decide) | rfl
          | 7,_,hsel => first | exact absurd hsel (by decide) | rfl
          | 8,_,hsel => first | exact absurd hsel (by decide) | rfl
          | 9,_,hsel => first | exact absurd hsel (by decide) | rfl
          | 10,_,hsel => first | exact absurd hsel (by decide) | rfl
          | 11,_,hsel => first | exact absurd hsel (by decide) | rfl
          | 12,_,hsel => first | exact absurd hsel (by decide) | rfl
          | 13,_,hsel => first | exact absurd hsel (by decide) | rfl
          | 14,_,hsel => first | exact absurd hsel (by decide) | rfl
          | 15,_,hsel => first | exact absurd hsel (by decide) | rfl
          | 16,_,hsel => first | exact absurd hsel (by decide) | rfl
          | n + 17,hi,_ => exact absurd hi (by simp)
         case step =>
          intro f a' W i o ho hsel hpre hbel hrest hdf
          match i,ho,hsel with
          | 0,ho,_ =>
           cases ho
           have q4 : a'.tmps.getD 4 undef = .pointer (some ⟨V,0,none⟩):=(hrest 4 (by intro i hi; have hi : i < 17:=hi; show 30 + min i 16 ≠ _; omega))
           have e4:=rg_ev q4
           exact rg_same (.pointer (some ⟨V,0,none⟩)) (by unfold Oper.wp execOp; go_simp; all_goals ((try simp only [e4]); (try go_simp); (try rw [if_pos (by omega)]); (try rw [if_neg (by omega)]); first | done | rfl | exact ⟨rfl,rfl⟩ | trivial)) rfl
          | 1,ho,_ =>
           cases ho
           have q30 : a'.tmps.getD 30 undef = .pointer (some ⟨V,0,none⟩):=(hpre { on:=0,ground:=.data } (by simp) rfl)
           have c0 : W.cell? ⟨V,0,none⟩ = some (.string nb):=(hbel.cell (p:=⟨V,0,none⟩) HVL0.out).trans HC0.out
           have e30:=rg_ev q30
           exact rg_same (.string nb) (by unfold Oper.wp execOp; go_simp; all_goals ((try simp only [e30]); (try go_simp); (try rw [if_pos (by omega)]); (try rw [if_neg (by omega)]); first | done | rfl | exact ⟨rfl,rfl⟩ | trivial)) rfl
          | 2,ho,_ =>
           cases ho
           have q31 : a'.tmps.getD 31 undef = .string nb:=(hpre { on:=1,ground:=.data } (by simp) rfl)
           exact rg_call 31 68 _ _ _ rfl q31 (enters_of Tryz.func68 (by kernel_rfl) rfl) (KTO.out W) (fun e w' h => ⟨_,h.1,_,rfl,rfl,h.2⟩)
          | 3,ho,_ =>
           cases ho
           have q32 : a'.tmps.getD 32 undef = .bool true:=(hpre { on:=2,ground:=.data } (by simp) rfl)
           have e32:=rg_ev q32
           exact rg_same (.bool true) (by unfold Oper.wp execOp; go_simp; all_goals ((try simp only [e32]); (try go_simp); (try rw [if_pos (by omega)]); (try rw [if_neg (by omega)]); first | done | rfl | exact ⟨rfl,rfl⟩ | trivial)) rfl
          | 4,ho,_ =>
           cases ho
           have q4 : a'.tmps.getD 4 undef = .pointer (some ⟨V,0,none⟩):=(hrest 4 (by intro i hi; have hi : i < 17:=hi; show 30 + min i 16 ≠ _; omega))
           have e4:=rg_ev q4
           exact rg_same (.pointer (some ⟨V,0,none⟩)) (by unfold Oper.wp execOp; go_simp; all_goals ((try simp only [e4]); (try go_simp); (try rw [if_pos (by omega)]); (try rw [if_neg (by omega)]); first | done | rfl | exact ⟨rfl,rfl⟩ | trivial)) rfl
          | 5,ho,_ =>
           cases ho
           have q34 : a'.tmps.getD 34 undef = .pointer (some ⟨V,0,none⟩):=(hpre { on:=4,ground:=.data } (by simp) rfl)
           have c0 : W.cell? ⟨V,0,none⟩ = some (.string nb):=(hbel.cell (p:=⟨V,0,none⟩) HVL0.out).trans HC0.out
           have e34:=rg_ev q34
           exact rg_same (.string nb) (by unfold Oper.wp execOp; go_simp; all_goals ((try simp only [e34]); (try go_simp); (try rw [if_pos (by omega)]); (try rw [if_neg (by omega)]); first | done | rfl | exact ⟨rfl,rfl⟩ | trivial)) rfl
          | 6,ho,_ =>
           cases ho
           have q35 : a'.tmps.getD 35 undef = .string nb:=(hpre { on:=5,ground:=.data } (by simp) rfl)
           exact rg_call 35 69 _ _ _ rfl q35 (enters_of Tryz.func69 (by kernel_rfl) rfl) (KLO.out W) (fun e w' h => ⟨_,h.1,_,rfl,rfl,h.2⟩)
          | 7,ho,_ =>
           cases ho
           have q4 : a'.tmps.getD 4 undef = .pointer (some ⟨V,0,none⟩):=(hrest 4 (by intro i hi; have hi : i < 17:=hi; show 30 + min i 16 ≠ _; omega))
           have e4:=rg_ev q4
           exact rg_same (.pointer (some ⟨V,0,none⟩)) (by unfold Oper.wp execOp; go_simp; all_goals ((try simp only [e4]); (try go_simp); (try rw [if_pos (by omega)]); (try rw [if_neg (by omega)]); first | done | rfl | exact ⟨rfl,rfl⟩ | trivial)) rfl
          | 8,ho,_ =>
           cases ho
           have q37 : a'.tmps.getD 37 undef = .pointer (some ⟨V,0,none⟩):=(hpre { on:=7,ground:=.data } (by simp) rfl)
           have c0 : W.cell? ⟨V,0,none⟩ = some (.string nb):=(hbel.cell (p:=⟨V,0,none⟩) HVL0.out).trans HC0.out
           have e37:=rg_ev q37
           exact rg_same (.string nb) (by unfold Oper.wp execOp; go_simp; all_goals ((try simp only [e37]); (try go_simp); (try rw [if_pos (by omega)]); (try rw [if_neg (by omega)]); first | done | rfl | exact ⟨rfl,rfl⟩ | trivial)) rfl
          | 9,ho,_ =>
           cases ho
           have q36 : a'.tmps.getD 36 undef = .string lb:=(hpre { on:=6,ground:=.data } (by simp) rfl)
           have q38 : a'.tmps.getD 38 undef = .string nb:=(hpre { on:=8,ground:=.data } (by simp) rfl)
           have e36:=rg_ev q36
           have e38:=rg_ev q38
           exact rg_same (.bool true) (by unfold Oper.wp execOp; go_simp; all_goals ((try simp only [e36,e38]); (try go_simp); (try rw [if_pos (by omega)]); (try rw [if_neg (by omega)]); first | done | rfl | exact ⟨rfl,rfl⟩ | trivial)) rfl
          | 10,ho,_ =>
           cases ho
           have q33 : a'.tmps.getD 33 undef = .bool true:=(hpre { on:=3,ground:=.data } (by simp) rfl)
           have q39 : a'.tmps.getD 39 undef = .bool true:=(hpre { on:=9,ground:=.data } (by simp) rfl)
           have e33:=rg_ev q33
           have e39:=rg_ev q39
           exact rg_same (.bool true) (by unfold Oper.wp execOp; go_simp; all_goals ((try simp only [e33,e39]); (try go_simp); (try rw [if_pos (by omega)]); (try rw [if_neg (by omega)]); first | done | rfl | exact ⟨rfl,rfl⟩ | trivial)) rfl
          | 11,ho,_ =>
           cases ho
           have q40 : a'.tmps.getD 40 undef = .bool true:=(hpre { on:=10,ground:=.data } (by simp) rfl)
           have e40:=rg_ev q40
           exact rg_same (.bool true) (by unfold Oper.wp execOp; go_simp; all_goals ((try simp only [e40]); (try go_simp); (try rw [if_pos (by omega)]); (try rw [if_neg (by omega)]); first | done | rfl | exact ⟨rfl,rfl⟩ | trivial)) rfl
          | 12,ho,_ =>
           cases ho
           have q4 : a'.tmps.getD 4 undef = .pointer (some ⟨V,0,none⟩):=(hrest 4 (by intro i hi; have hi : i < 17:=hi; show 30 + min i 16 ≠ _; omega))
           have e4:=rg_ev q4
           exact rg_same (.pointer (some ⟨V,1,none⟩)) (by unfold Oper.wp execOp; go_simp; all_goals ((try simp only [e4]); (try go_simp); (try rw [if_pos (by omega)]); (try rw [if_neg (by omega)]); first | done | rfl | exact ⟨rfl,rfl⟩ | trivial)) rfl
          | 13,ho,_ =>
           cases ho
           have q42 : a'.tmps.getD 42 undef = .pointer (some ⟨V,1,none⟩):=(hpre { on:=12,ground:=.data } (by simp) rfl)
           have c1 : W.cell? ⟨V,1,none⟩ = some (.string vb):=(hbel.cell (p:=⟨V,1,none⟩) HVL0.out).trans HC1.out
           have e42:=rg_ev q42
           exact rg_same (.string vb) (by unfold Oper.wp execOp; go_simp; all_goals ((try simp only [e42]); (try go_simp); (try rw [if_pos (by omega)]); (try rw [if_neg (by omega)]); first | done | rfl | exact ⟨rfl,rfl⟩ | trivial)) rfl
          | 14,ho,_ =>
           cases ho
           have q43 : a'.tmps.getD 43 undef = .string vb:=(hpre { on:=13,ground:=.data } (by simp) rfl)
           exact rg_call 43 22 _ _ _ rfl q43 (enters_of Tryz.func22 (by kernel_rfl) rfl) (KVA.out W) (fun e w' h => ⟨_,h.1,_,rfl,rfl,h.2⟩)
          | 15,ho,_ =>
           cases ho
           have q41 : a'.tmps.getD 41 undef = .bool true:=(hpre { on:=11,ground:=.data } (by simp) rfl)
           have q44 : a'.tmps.getD 44 undef = .bool false:=(hpre { on:=14,ground:=.data } (by simp) rfl)
           have e41:=rg_ev q41
           have e44:=rg_ev q44
           exact rg_same (.bool false) (by unfold Oper.wp execOp; go_simp; all_goals ((try simp only [e41,e44]); (try go_simp); (try rw [if_pos (by omega)]); (try rw [if_neg (by omega)]); first | done | rfl | exact ⟨rfl,rfl⟩ | trivial)) rfl
          | 16,ho,_ =>
           cases ho
           have q45 : a'.tmps.getD 45 undef = .bool false:=(hpre { on:=15,ground:=.data } (by simp) rfl)
           refine ck_callno 45 67 _ _ _ [{ v:=errno 2,recovered:=false }] _ rfl q45 (enters_of Tryz.func67 (by kernel_rfl) rfl) (KMN.out W) ?_
           rintro e w' ⟨rfl,rfl⟩
           exact ⟨rfl,HDOOR.out _ _ hdf (hrest 2 (by intro i hi; show 30 + min i 16 ≠ _; omega)) (HB6.out.trans (hbel.mono HB6.out.size))⟩
          | n + 17,ho,_ => exact absurd ho (by simp)
         case done =>
          intro vs W hbel hvs
          exact (hvs 16 (by decide)).elim
        ·refine region_slotsP (fun i => 30 + min i 16) (ckGD V nb vb lb) (fun _ => true) (by kernel_rfl) (by kernel_rfl) (fun i => by show 30 + min i 16 < _; simp; omega) (fun i j hi hj h => by have hi : i < 17:=hi; have hj : j < 17:=hj; omega) ?mono ?dst ?gu ?ng ?skip ?step ?done
         case mono =>
          intro i W W' v h hbw
          match i,h with
          | 0,h | 1,h | 2,h | 3,h | 4,h | 5,h | 6,h | 7,h | 8,h | 9,h | 10,h | 11,h | 12,h | 13,h | 14,h | 15,h | 16,h => exact h
          | n + 17,h => exact h.elim
         case dst =>
          intro i o ho
          match i,ho with
          | 0,ho | 1,ho | 2,ho | 3,ho | 4,ho | 5,ho | 6,ho | 7,ho | 8,ho | 9,ho | 10,ho | 11,ho | 12,ho | 13,ho | 14,ho | 15,ho | 16,ho => cases ho; rfl
          | n + 17,ho => exact absurd ho (by simp)
         case gu =>
          intro i o g b ho hgd W v hv
          match i,ho with
          | 0,ho => cases ho; cases hgd
          | 1,ho => cases ho; cases hgd
          | 2,ho => cases ho; cases hgd
          | 3,ho => cases ho; cases hgd
          | 4,ho => cases ho; cases hgd; first | exact .inl hv | exact .inr ⟨rfl,hv⟩
          | 5,ho => cases ho; cases hgd; first | exact .inl hv | exact .inr ⟨rfl,hv⟩
          | 6,ho => cases ho; cases hgd; first | exact .inl hv | exact .inr ⟨rfl,hv⟩
          | 7,ho => cases ho; cases hgd; first | exact .inl hv | exact .inr ⟨rfl,hv⟩
          | 8,ho => cases ho; cases hgd; first | exact .inl hv | exact .inr ⟨rfl,hv⟩
          | 9,ho => cases ho; cases hgd; first | exact .inl hv | exact .inr ⟨rfl,hv⟩
          | 10,ho => cases ho; cases hgd
          | 11,ho => cases ho; cases hgd
          | 12,ho => cases ho; cases hgd; first | exact .inl hv | exact .inr ⟨rfl,hv⟩
          | 13,ho => cases ho; cases hgd; first | exact .inl hv | exact .inr ⟨rfl,hv⟩
          | 14,ho => cases ho; cases hgd; first | exact .inl hv | exact .inr ⟨rfl,hv⟩
          | 15,ho => cases ho; cases hgd
          | 16,ho => cases ho; cases hgd
          | n + 17,ho => exact absurd ho (by simp)
         case ng =>
          intro i o ho hgd
          match i,ho with
          | 0,ho => cases ho; first | rfl | cases hgd
          | 1,ho => cases ho; first | rfl | cases hgd
          | 2,ho => cases ho; first | rfl | cases hgd
          | 3,ho => cases ho; first | rfl | cases hgd
          | 4,ho => cases ho; first | rfl | cases hgd
          | 5,ho => cases ho; first | rfl | cases hgd
          | 6,ho => cases ho; first | rfl | cases hgd
          | 7,ho => cases ho; first | rfl | cases hgd
          | 8,ho => cases ho; first | rfl | cases hgd
          | 9,ho => cases ho; first | rfl | cases hgd
          | 10,ho => cases ho; first | rfl | cases hgd
          | 11,ho => cases ho; first | rfl | cases hgd
          | 12,ho => cases ho; first | rfl | cases hgd
          | 13,ho => cases ho; first | rfl | cases hgd
          | 14,ho => cases ho; first | rfl | cases hgd
          | 15,ho => cases ho; first | rfl | cases hgd
          | 16,ho => cases ho; first | rfl | cases hgd
          | n + 17,ho => exact absurd ho (by simp)
         case skip =>
          intro i W hi hsel
          match i,hi,hsel with
          | 0,_,hsel => first | exact absurd hsel (by decide) | rfl
          | 1,_,hsel => first | exact absurd hsel (by decide) | rfl
          | 2,_,hsel => first | exact absurd hsel (by decide) | rfl
          | 3,_,hsel => first | exact absurd hsel (by decide) | rfl
          | 4,_,hsel => first | exact absurd hsel (by decide) | rfl
          | 5,_,hsel => first | exact absurd hsel (by decide) | rfl
          | 6,_,hsel => first | exact absurd hsel (by decide) | rfl
          | 7,_,hsel => first | exact absurd hsel (by decide) | rfl
          | 8,_,hsel => first | exact absurd hsel (by decide) | rfl
          | 9,_,hsel => first | exact absurd hsel (by decide) | rfl
          | 10,_,hsel => first | exact absurd hsel (by decide) | rfl
          | 11,_,hsel => first | exact absurd hsel (by decide) | rfl
          | 12,_,hsel => first | exact absurd hsel (by decide) | rfl
          | 13,_,hsel => first | exact absurd hsel (by decide) | rfl
          | 14,_,hsel => first | exact absurd hsel (by decide) | rfl
          | 15,_,hsel => first | exact absurd hsel (by decide) | rfl
          | 16,_,hsel => first | exact absurd hsel (by decide) | rfl
          | n + 17,hi,_ => exact absurd hi (by simp)
         case step =>
          intro f a' W i o ho hsel hpre hbel hrest hdf
          match i,ho,hsel with
          | 0,ho,_ =>
           cases ho
           have q4 : a'.tmps.getD 4 undef = .pointer (some ⟨V,0,none⟩):=(hrest 4 (by intro i hi; have hi : i < 17:=hi; show 30 + min i 16 ≠ _; omega))
           have e4:=rg_ev q4
           exact rg_same (.pointer (some ⟨V,0,none⟩)) (by unfold Oper.wp execOp; go_simp; all_goals ((try simp only [e4]); (try go_simp); (try rw [if_pos (by omega)]); (try rw [if_neg (by omega)]); first | done | rfl | exact ⟨rfl,rfl⟩ | trivial)) rfl
          | 1,ho,_ =>
           cases ho
           have q30 : a'.tmps.getD 30 undef = .pointer (some ⟨V,0,none⟩):=(hpre { on:=0,ground:=.data } (by simp) rfl)
           have c0 : W.cell? ⟨V,0,none⟩ = some (.string nb):=(hbel.cell (p:=⟨V,0,none⟩) HVL0.out).trans HC0.out
           have e30:=rg_ev q30
           exact rg_same (.string nb) (by unfold Oper.wp execOp; go_simp; all_goals ((try simp only [e30]); (try go_simp); (try rw [if_pos (by omega)]); (try rw [if_neg (by omega)]); first | done | rfl | exact ⟨rfl,rfl⟩ | trivial)) rfl
          | 2,ho,_ =>
           cases ho
           have q31 : a'.tmps.getD 31 undef = .string nb:=(hpre { on:=1,ground:=.data } (by simp) rfl)
           exact rg_call 31 68 _ _ _ rfl q31 (enters_of Tryz.func68 (by kernel_rfl) rfl) (KTO.out W) (fun e w' h => ⟨_,h.1,_,rfl,rfl,h.2⟩)
          | 3,ho,_ =>
           cases ho
           have q32 : a'.tmps.getD 32 undef = .bool true:=(hpre { on:=2,ground:=.data } (by simp) rfl)
           have e32:=rg_ev q32
           exact rg_same (.bool true) (by unfold Oper.wp execOp; go_simp; all_goals ((try simp only [e32]); (try go_simp); (try rw [if_pos (by omega)]); (try rw [if_neg (by omega)]); first | done | rfl | exact ⟨rfl,rfl⟩ | trivial)) rfl
          | 4,ho,_ =>
           cases ho
           have q4 : a'.tmps.getD 4 undef = .pointer (some ⟨V,0,none⟩):=(hrest 4 (by intro i hi; have hi : i < 17:=hi; show 30 + min i 16 ≠ _; omega))
           have e4:=rg_ev q4
           exact rg_same (.pointer (some ⟨V,0,none⟩)) (by unfold Oper.wp execOp; go_simp; all_goals ((try simp only [e4]); (try go_simp); (try rw [if_pos (by omega)]); (try rw [if_neg (by omega)]); first | done | rfl | exact ⟨rfl,rfl⟩ | trivial)) rfl
          | 5,ho,_ =>
           cases ho
           have q34 : a'.tmps.getD 34 undef = .pointer (some ⟨V,0,none⟩):=(hpre { on:=4,ground:=.data } (by simp) rfl)
           have c0 : W.cell? ⟨V,0,none⟩ = some (.string nb):=(hbel.cell (p:=⟨V,0,none⟩) HVL0.out).trans HC0.out
           have e34:=rg_ev q34
           exact rg_same (.string nb) (by unfold Oper.wp execOp; go_simp; all_goals ((try simp only [e34]); (try go_simp); (try rw [if_pos (by omega)]); (try rw [if_neg (by omega)]); first | done | rfl | exact ⟨rfl,rfl⟩ | trivial)) rfl
          | 6,ho,_ =>
           cases ho
           have q35 : a'.tmps.getD 35 undef = .string nb:=(hpre { on:=5,ground:=.data } (by simp) rfl)
           exact rg_call 35 69 _ _ _ rfl q35 (enters_of Tryz.func69 (by kernel_rfl) rfl) (KLO.out W) (fun e w' h => ⟨_,h.1,_,rfl,rfl,h.2⟩)
          | 7,ho,_ =>
           cases ho
           have q4 : a'.tmps.getD 4 undef = .pointer (some ⟨V,0,none⟩):=(hrest 4 (by intro i hi; have hi : i < 17:=hi; show 30 + min i 16 ≠ _; omega))
           have e4:=rg_ev q4
           exact rg_same (.pointer (some ⟨V,0,none⟩)) (by unfold Oper.wp execOp; go_simp; all_goals ((try simp only [e4]); (try go_simp); (try rw [if_pos (by omega)]); (try rw [if_neg (by omega)]); first | done | rfl | exact ⟨rfl,rfl⟩ | trivial)) rfl
          | 8,ho,_ =>
           cases ho
           have q37 : a'.tmps.getD 37 undef = .pointer (some ⟨V,0,none⟩):=(hpre { on:=7,ground:=.data } (by simp) rfl)
           have c0 : W.cell? ⟨V,0,none⟩ = some (.string nb):=(hbel.cell (p:=⟨V,0,none⟩) HVL0.out).trans HC0.out
           have e37:=rg_ev q37
           exact rg_same (.string nb) (by unfold Oper.wp execOp; go_simp; all_goals ((try simp only [e37]); (try go_simp); (try rw [if_pos (by omega)]); (try rw [if_neg (by omega)]); first | done | rfl | exact ⟨rfl,rfl⟩ | trivial)) rfl
          | 9,ho,_ =>
           cases ho
           have q36 : a'.tmps.getD 36 undef = .string lb:=(hpre { on:=6,ground:=.data } (by simp) rfl)
           have q38 : a'.tmps.getD 38 undef = .string nb:=(hpre { on:=8,ground:=.data } (by simp) rfl)
           have e36:=rg_ev q36
           have e38:=rg_ev q38
           exact rg_same (.bool true) (by unfold Oper.wp execOp; go_simp; all_goals ((try simp only [e36,e38]); (try go_simp); (try rw [if_pos (by omega)]); (try rw [if_neg (by omega)]); first | done | rfl | exact ⟨rfl,rfl⟩ | trivial)) rfl
          | 10,ho,_ =>
           cases ho
           have q33 : a'.tmps.getD 33 undef = .bool true:=(hpre { on:=3,ground:=.data } (by simp) rfl)
           have q39 : a'.tmps.getD 39 undef = .bool true:=(hpre { on:=9,ground:=.data } (by simp) rfl)
           have e33:=rg_ev q33
           have e39:=rg_ev q39
           exact rg_same (.bool true) (by unfold Oper.wp execOp; go_simp; all_goals ((try simp only [e33,e39]); (try go_simp); (try rw [if_pos (by omega)]); (try rw [if_neg (by omega)]); first | done | rfl | exact ⟨rfl,rfl⟩ | trivial)) rfl
          | 11,ho,_ =>
           cases ho
           have q40 : a'.tmps.getD 40 undef = .bool true:=(hpre { on:=10,ground:=.data } (by simp) rfl)
           have e40:=rg_ev q40
           exact rg_same (.bool true) (by unfold Oper.wp execOp; go_simp; all_goals ((try simp only [e40]); (try go_simp); (try rw [if_pos (by omega)]); (try rw [if_neg (by omega)]); first | done | rfl | exact ⟨rfl,rfl⟩ | trivial)) rfl
          | 12,ho,_ =>
           cases ho
           have q4 : a'.tmps.getD 4 undef = .pointer (some ⟨V,0,none⟩):=(hrest 4 (by intro i hi; have hi : i < 17:=hi; show 30 + min i 16 ≠ _; omega))
           have e4:=rg_ev q4
           exact rg_same (.pointer (some ⟨V,1,none⟩)) (by unfold Oper.wp execOp; go_simp; all_goals ((try simp only [e4]); (try go_simp); (try rw [if_pos (by omega)]); (try rw [if_neg (by omega)]); first | done | rfl | exact ⟨rfl,rfl⟩ | trivial)) rfl
          | 13,ho,_ =>
           cases ho
           have q42 : a'.tmps.getD 42 undef = .pointer (some ⟨V,1,none⟩):=(hpre { on:=12,ground:=.data } (by simp) rfl)
           have c1 : W.cell? ⟨V,1,none⟩ = some (.string vb):=(hbel.cell (p:=⟨V,1,none⟩) HVL0.out).trans HC1.out
           have e42:=rg_ev q42
           exact rg_same (.string vb) (by unfold Oper.wp execOp; go_simp; all_goals ((try simp only [e42]); (try go_simp); (try rw [if_pos (by omega)]); (try rw [if_neg (by omega)]); first | done | rfl | exact ⟨rfl,rfl⟩ | trivial)) rfl
          | 14,ho,_ =>
           cases ho
           have q43 : a'.tmps.getD 43 undef = .string vb:=(hpre { on:=13,ground:=.data } (by simp) rfl)
           exact rg_call 43 22 _ _ _ rfl q43 (enters_of Tryz.func22 (by kernel_rfl) rfl) (KVA.out W) (fun e w' h => ⟨_,h.1,_,rfl,rfl,h.2⟩)
          | 15,ho,_ =>
           cases ho
           have q41 : a'.tmps.getD 41 undef = .bool true:=(hpre { on:=11,ground:=.data } (by simp) rfl)
           have q44 : a'.tmps.getD 44 undef = .bool true:=(hpre { on:=14,ground:=.data } (by simp) rfl)
           have e41:=rg_ev q41
           have e44:=rg_ev q44
           exact rg_same (.bool true) (by unfold Oper.wp execOp; go_simp; all_goals ((try simp only [e41,e44]); (try go_simp); (try rw [if_pos (by omega)]); (try rw [if_neg (by omega)]); first | done | rfl | exact ⟨rfl,rfl⟩ | trivial)) rfl
          | 16,ho,_ =>
           cases ho
           have q45 : a'.tmps.getD 45 undef = .bool true:=(hpre { on:=15,ground:=.data } (by simp) rfl)
           exact rg_callc 45 67 _ _ _ _ rfl q45 (enters_of Tryz.func67 (by kernel_rfl) rfl) (hd_must 2 W) (fun e w' h => ⟨_,h.1,_,rfl,rfl,by rw [h.2]; exact Below.refl _ _⟩)
          | n + 17,ho,_ => exact absurd ho (by simp)
         case done =>
          intro vs W hbel hvs
          have v0 : vs 0 = .pointer (some ⟨V,0,none⟩):=hvs 0 (by decide)
          have v1 : vs 1 = .string nb:=hvs 1 (by decide)
          have v2 : vs 2 = .bool true:=hvs 2 (by decide)
          have v3 : vs 3 = .bool true:=hvs 3 (by decide)
          have v4 : vs 4 = .pointer (some ⟨V,0,none⟩):=hvs 4 (by decide)
          have v5 : vs 5 = .string nb:=hvs 5 (by decide)
          have v6 : vs 6 = .string lb:=hvs 6 (by decide)
          have v7 : vs 7 = .pointer (some ⟨V,0,none⟩):=hvs 7 (by decide)
          have v8 : vs 8 = .string nb:=hvs 8 (by decide)
          have v9 : vs 9 = .bool true:=hvs 9 (by decide)
          have v10 : vs 10 = .bool true:=hvs 10 (by decide)
          have v11 : vs 11 = .bool true:=hvs 11 (by decide)
          have v12 : vs 12 = .pointer (some ⟨V,1,none⟩):=hvs 12 (by decide)
          have v13 : vs 13 = .string vb:=hvs 13 (by decide)
          have v14 : vs 14 = .bool true:=hvs 14 (by decide)
          have v15 : vs 15 = .bool true:=hvs 15 (by decide)
          have v16 : vs 16 = .tuple #[]:=hvs 16 (by decide)
          have HBR:=Lib.hid hbel
          simp only [fillN,List.size_toArray,List.length_cons,List.length_nil,Nat.reduceAdd,show List.range 17 = [0,1,2,3,4,5,6,7,8,9,10,11,12,13,14,15,16] from rfl,List.foldl_cons,List.foldl_nil,show 30 + min 0 16 = 30 from rfl,show 30 + min 1 16 = 31 from rfl,show 30 + min 2 16 = 32 from rfl,show 30 + min 3 16 = 33 from rfl,show 30 + min 4 16 = 34 from rfl,show 30 + min 5 16 = 35 from rfl,show 30 + min 6 16 = 36 from rfl,show 30 + min 7 16 = 37 from rfl,show 30 + min 8 16 = 38 from rfl,show 30 + min 9 16 = 39 from rfl,show 30 + min 10 16 = 40 from rfl,show 30 + min 11 16 = 41 from rfl,show 30 + min 12 16 = 42 from rfl,show 30 + min 13 16 = 43 from rfl,show 30 + min 14 16 = 44 from rfl,show 30 + min 15 16 = 45 from rfl,show 30 + min 16 16 = 46 from rfl,v0,v1,v2,v3,v4,v5,v6,v7,v8,v9,v10,v11,v12,v13,v14,v15,v16]
          clear v0 v1 v2 v3 v4 v5 v6 v7 v8 v9 v10 v11 v12 v13 v14 v15 v16 hvs hbel
          go_simp
          go_wp2_with fail
          go_roundw
          case rel =>
           refine ⟨k + 1,hlt,by go_num,?_,HB6.out.trans (HBR.out.mono HB6.out.size)⟩
           rw [HTK.out,List.all_append,HALL.out,List.all_cons,HFB2.out]; rfl
          case measure => simp [intOf]; omega
     ·exfalso
      have h:=HALL.out
      rw [List.take_of_length_le (by rw [HNN.out]; omega)] at h
      have h2:=HO2.out
      rw [h] at h2
      cases h2
end Go.Proofs.YtfacmnooklljnaaGreatDoor
namespace Go.Proofs.YtfacmnooklljnaaGreatDoor
open Go.RowKit Go.Shelf
attribute [local go_sem] Oper.semAt_some
set_option maxHeartbeats 8000000
set_option maxRecDepth 100000
theorem ix_texts (fid : FuncId) (p : List UInt8 → Bool) (v : Value) (L : List (List UInt8)) (w : World) (hv : TS w v L) (hL : L.length ≤ 100000) (eg : ∀ args W,(callFunc fid args).run Tryz.prog W = .ok (.enter fid args) W)
  (hp : ∀ x ∈ L,∀ W,Calls Tryz.prog fid #[tx x] W fun e w' => e = .returned (.bool (p x)) ∧ Below W.heap.size W w') :
  Calls Tryz.prog 96 #[v,.func (.func fid) #[] #[]] w fun e w' => (∃ z : Int,e = .returned (.int .i64 z) ∧ decide (0 ≤ z) = L.any p) ∧ Below w.heap.size w w':=by
 obtain ⟨q,c,rfl⟩:=hv.slice
 obtain ⟨n,hn⟩ : ∃ n,L.length = n:=⟨_,rfl⟩
 rw [hn] at hv hL ⊢
 have HV:=Lib.hid hv
 have HN:=Lib.hid hn
 have HP:=Lib.hid hp
 clear hv hn hp
 go_enter Tryz.func96,Tryz.ntmps96
 go_wp2_with fail
 go_loopw [8] (fun i wr => ∃ k : Nat,k ≤ n ∧ i = .int .i64 (k : Int) ∧ (∀ x ∈ L.take k,p x = false) ∧ Below w.heap.size w wr) (fun i _ => n - (intOf i).toNat)
 case atStart => exact ⟨0,Nat.zero_le _,rfl,fun x hx => by simp at hx,Below.refl _ _⟩
 case round =>
  obtain ⟨k,hk,rfl,hf,hb⟩:=hrel
  by_cases hlt : k < n
  ·obtain ⟨g1,o1,rfl,hc1⟩:=(HV.out.below hb).cells (k:=k) (by rw [HN.out]; exact hlt)
   have hx:=hc1 k (by rw [HN.out]; exact hlt)
   have HK:=Lib.hid (take_getD L [] k (by rw [HN.out]; exact hlt))
   have hmem : L.getD k [] ∈ L:=by rw [List.getD_eq_getElem?_getD,List.getElem?_eq_getElem (by rw [HN.out]; exact hlt)]; exact List.getElem_mem _
   have KP:=HP.out _ hmem wr
   obtain ⟨x,hxx⟩ : ∃ x,L.getD k [] = x:=⟨_,rfl⟩
   rw [hxx] at hx HK KP hmem
   obtain ⟨bb,hbb⟩ : ∃ z,p x = z:=⟨_,rfl⟩
   rw [hbb] at KP
   unfold tx at hx KP
   obtain ⟨xb,hxb⟩ : ∃ z : ByteArray,(⟨x.toArray⟩ : ByteArray) = z:=⟨_,rfl⟩
   rw [hxb] at hx KP
   have K:=Lib.hid KP
   have HF:=Lib.hid hf
   have HB:=Lib.hid hb
   have HBB:=Lib.hid hbb
   have HM:=Lib.hid hmem
   have hI : (k : Int) < (n : Int):=by omega
   clear KP hf hb hbb hxb hxx hc1 hmem
   go_wp2_with fail
   refine K.out.mono ?_
   rintro e w2 ⟨rfl,hb2⟩
   have HB2:=Lib.hid (HB.out.trans (hb2.mono HB.out.size))
   clear hb2 hx
   cases bb with
   | true =>
    have HR:=Lib.hid (show decide ((0 : Int) ≤ (k : Int)) = L.any p by
     rw [decide_eq_true (by omega)]
     exact (List.any_eq_true.2 ⟨x,HM.out,HBB.out⟩).symm)
    go_wp2_with fail
    go_ret
    exact ⟨⟨_,rfl,HR.out⟩,HB2.out⟩
   | false =>
    go_wp2_with fail
    go_roundw
    case rel =>
     refine ⟨k + 1,hlt,by go_num,fun y hy => ?_,HB2.out⟩
     rw [HK.out] at hy
     rcases List.mem_append.1 hy with h | h
     ·exact HF.out y h
     ·obtain rfl : y = x:=by simpa using h
      exact HBB.out
    case measure => simp [intOf]; omega
  ·have HR:=Lib.hid (show decide ((0 : Int) ≤ -1) = L.any p by
    rw [decide_eq_false (by omega)]
    symm
    rw [List.any_eq_false]
    intro x hx
    have h:=hf x (by rw [List.take_of_length_le (by rw [HN.out]; omega)]; exact hx)
    rw [h]; decide)
   have HB:=Lib.hid hb
   have hI : ¬ ((k : Int) < (n : Int)):=by omega
   clear hf hb
   go_wp2_with fail
   go_ret
   exact ⟨⟨_,rfl,HR.out⟩,HB.out⟩
theorem ct_texts (fid : FuncId) (p : List UInt8 → Bool) (v : Value) (L : List (List UInt8)) (w : World) (hv : TS w v L) (hL : L.length ≤ 100000) (eg : ∀ args W,(callFunc fid args).run Tryz.prog W = .ok (.enter fid args) W)
  (hp : ∀ x ∈ L,∀ W,Calls Tryz.prog fid #[tx x] W fun e w' => e = .returned (.bool (p x)) ∧ Below W.heap.size W w') :
  Calls Tryz.prog 75 #[v,.func (.func fid) #[] #[]] w fun e w' => e = .returned (.bool (L.any p)) ∧ Below w.heap.size w w':=by
 have K:=Lib.hid (ix_texts fid p v L w hv hL eg hp)
 obtain ⟨q,c,rfl⟩:=hv.slice
 obtain ⟨n,hn⟩ : ∃ n,L.length = n:=⟨_,rfl⟩
 rw [hn] at K ⊢
 obtain ⟨a,ha⟩ : ∃ z,L.any p = z:=⟨_,rfl⟩
 rw [ha] at K ⊢
 clear hv hn hp eg ha
 go_enter Tryz.func75,Tryz.ntmps75
 go_wp2_with fail
 refine K.out.mono ?_
 rintro e w2 ⟨⟨z,rfl,hz⟩,hb⟩
 subst hz
 have HB:=Lib.hid hb
 clear hb K
 go_wp2_with fail
 exact bodyPost_ret (v:=.bool (decide (0 ≤ z))) (by simp [results,Tryz.results75,go_sem]) rfl ⟨rfl,HB.out⟩
theorem rq_sought (fid : FuncId) (p : List UInt8 → Bool) (v : Value) (L : List (List UInt8)) (w : World) (hv : TS w v L) (hL : L.length ≤ 100000) (eg : ∀ args W,(callFunc fid args).run Tryz.prog W = .ok (.enter fid args) W)
  (hp : ∀ x ∈ L,∀ W,Calls Tryz.prog fid #[tx x] W fun e w' => e = .returned (.bool (p x)) ∧ Below W.heap.size W w') :
  Calls Tryz.prog 28 #[v,.func (.func fid) #[] #[]] w fun e w' => e = .returned (.bool (L.any p)) ∧ Below w.heap.size w w':=by
 have K:=Lib.hid (ct_texts fid p v L w hv hL eg hp)
 obtain ⟨q,c,rfl⟩:=hv.slice
 obtain ⟨n,hn⟩ : ∃ n,L.length = n:=⟨_,rfl⟩
 rw [hn] at K ⊢
 obtain ⟨a,ha⟩ : ∃ z,L.any p = z:=⟨_,rfl⟩
 rw [ha] at K ⊢
 clear hv hn hp eg ha
 go_enter Tryz.func28,Tryz.ntmps28
 go_wp2_with fail
 refine K.out.mono ?_
 rintro e w2 ⟨rfl,hb⟩
 have HB:=Lib.hid hb
 clear hb K
 go_wp2_with fail
 exact bodyPost_ret (v:=.bool a) (by simp [results,Tryz.results28,go_sem]) rfl ⟨rfl,HB.out⟩
def Rq.wClose : List UInt8:=[99,108,111,115,101]
def Rq.isClose (x : List UInt8) : Bool:=Tp.lower x == Rq.wClose
theorem rq_of1 (x : List UInt8) (w : World) (hx : x.length ≤ 1000000) :
  Calls Tryz.prog 30 #[tx x] w fun e w' => e = .returned (.bool (Rq.isClose x)) ∧ Below w.heap.size w w':=by
 have K:=Lib.hid (tok_same ⟨x.toArray⟩ ⟨#[99,108,111,115,101]⟩ w (by simp [ByteArray.size]; omega) (by decide))
 have e : (Tp.lower (⟨x.toArray⟩ : ByteArray).data.toList == Tp.lower (⟨#[99,108,111,115,101]⟩ : ByteArray).data.toList) = Rq.isClose x:=by
  unfold Rq.isClose
  rw [show Tp.lower (⟨#[99,108,111,115,101]⟩ : ByteArray).data.toList = Rq.wClose by decide]
 rw [e] at K
 obtain ⟨b,hb⟩ : ∃ z,Rq.isClose x = z:=⟨_,rfl⟩
 rw [hb] at K ⊢
 unfold tx
 obtain ⟨xb,hxb⟩ : ∃ z : ByteArray,(⟨x.toArray⟩ : ByteArray) = z:=⟨_,rfl⟩
 rw [hxb] at K ⊢
 clear e hb hxb
 go_enter Tryz.func30,Tryz.ntmps30
 go_wp2_with fail
 refine K.out.mono ?_
 rintro e w2 ⟨rfl,hb⟩
 have HB:=Lib.hid hb
 clear hb K
 go_wp2_with fail
 exact bodyPost_ret (v:=.bool b) (by simp [results,Tryz.results30,go_sem]) rfl ⟨rfl,HB.out⟩
theorem of1_in (args : Array Value) (W : World) : (callFunc 30 args).run Tryz.prog W = .ok (.enter 30 args) W:=enters_of Tryz.func30 (by kernel_rfl) rfl args W
structure RqOk (F : List UInt8) (fs : List Hp.Hd) : Prop where
 f : F.length ≤ 250
 l : fs.length ≤ 1000
 s : ∀ f ∈ fs,f.1.length ≤ 100000 ∧ f.2.length ≤ 100000
 a : (Rq.joined Rq.nAcc fs).length ≤ 5000
 c : (Rq.joined Rq.nCon fs).length ≤ 5000
def Rq.stW (F : List UInt8) (fs : List Hp.Hd) : Int × Int:=if Hr.okB F fs = true then (Rq.status F fs,0) else (0,2)
theorem rq_Status (F : List UInt8) (v : Value) (fs : List Hp.Hd) (w : World) (hv : HS w v fs) (ho : RqOk F fs) (hm : Mx w) :
  Calls Tryz.prog 19 #[.agg #[Hp.sx F,v]] w fun e w' => e = .returned (.tuple #[.int .i64 (Rq.stW F fs).1,.int .i64 (Rq.stW F fs).2]) ∧ Below w.heap.size w w':=by
 have h0 : 0 < w.heap.size:=by obtain ⟨m,hm⟩:=hm; exact lt_of_cell hm
 obtain ⟨W1,hW1⟩ : ∃ z,w.alloc (.cells #[Hp.sx F,v] 25) = z:=⟨_,rfl⟩
 have hb1 : Below w.heap.size w W1:=by rw [← hW1]; exact (Below.refl _ _).alloc (Nat.le_refl _) _
 have KC:=hd_CheckG F v fs W1 (hv.below hb1) (by have:=ho.f; omega) ho.l ho.s
 obtain ⟨p,c,rfl⟩:=hv.slice
 obtain ⟨n,hn⟩ : ∃ n,fs.length = n:=⟨_,rfl⟩
 rw [hn] at hv hW1 KC ⊢
 have hH : W1.heap[w.heap.size]? = some (.cells #[Hp.sx F,.slice p n c] 25 (0,0)):=by rw [← hW1]; exact World.alloc_heap_new _ _
 unfold Rq.stW
 obtain ⟨ok,hok⟩ : ∃ z,Hr.okB F fs = z:=⟨_,rfl⟩
 obtain ⟨st,hst⟩ : ∃ z,Rq.status F fs = z:=⟨_,rfl⟩
 rw [hok] at KC
 rw [hok,hst]
 obtain ⟨zc,hzc⟩ : ∃ z : Int,(if ok = true then 0 else 2) = z:=⟨_,rfl⟩
 rw [hzc] at KC
 have KL:=fun W (hb : Below w.heap.size w W) => rq_looked ⟨F.toArray⟩ p n c fs W (hv.below hb) ho.l ho.s (by simpa [ByteArray.size] using ho.f) (by have:=ho.a; omega) (hm.below hb h0)
 unfold LkO at KL
 simp only [hst] at KL
 unfold Hp.sx at KC hW1 hH ⊢
 obtain ⟨fb,hfb⟩ : ∃ z : ByteArray,(⟨F.toArray⟩ : ByteArray) = z:=⟨_,rfl⟩
 have hfd : fb.data.toList = F:=by rw [← hfb]
 rw [hfb] at KC hW1 hH ⊢
 simp only [hfb,hfd,hst] at KL
 have KC:=Lib.hid KC
 have KL:=Lib.hid KL
 have HH:=Lib.hid hH
 have HB1:=Lib.hid hb1
 have HW1:=Lib.hid hW1
 clear hv ho hm h0 hW1 hb1 hH hok hst hfb hfd hn
 obtain ⟨A,hA⟩ : ∃ z,w.heap.size = z:=⟨_,rfl⟩
 have HA:=Lib.hid hA
 rw [hA] at HH
 have c0 : W1.cell? ⟨A,0,none⟩ = some (.string fb):=by simp [World.cell?,HH.out]
 have c1 : W1.cell? ⟨A,1,none⟩ = some (.slice p n c):=by simp [World.cell?,HH.out]
 clear hA
 cases ok with
 | false =>
  obtain rfl : zc = 2:=hzc.symm
  clear hzc
  rw [if_neg (by decide)]
  go_enter Tryz.func19,Tryz.ntmps19
  go_upto_region 1 with (fail)
  rw [HW1.out,HA.out]
  go_wp2_with fail
  refine KC.out.mono ?_
  rintro e w2 ⟨rfl,hb⟩
  have HB:=Lib.hid (HB1.out.trans (hb.mono HB1.out.size))
  clear hb c0 c1
  go_wp2_with fail
  exact bodyPost_ret (v:=.tuple #[.int .i64 0,.int .i64 2]) (by simp [results,Tryz.results19,go_sem]) rfl ⟨rfl,HA.out ▸ HB.out⟩
 | true =>
  obtain rfl : zc = 0:=hzc.symm
  clear hzc
  rw [if_pos rfl]
  go_enter Tryz.func19,Tryz.ntmps19
  go_upto_region 1 with (fail)
  rw [HW1.out,HA.out]
  go_wp2_with fail
  refine KC.out.mono ?_
  rintro e w2 ⟨rfl,hb⟩
  have HB:=Lib.hid (HB1.out.trans (hb.mono HB1.out.size))
  have hH2:=(hb.block _ (Array.getElem?_eq_some_iff.1 HH.out).1).trans HH.out
  have d0 : w2.cell? ⟨A,0,none⟩ = some (.string fb):=by simp [World.cell?,hH2]
  have d1 : w2.cell? ⟨A,1,none⟩ = some (.slice p n c):=by simp [World.cell?,hH2]
  clear hb c0 c1 hH2
  go_wp2_with fail
  refine (KL.out _ HB.out).mono ?_
  rintro e w3 ⟨⟨L,rfl,_⟩,hb3⟩
  have HB3:=Lib.hid (HB.out.trans (hb3.mono HB.out.size))
  clear hb3 d0 d1
  go_wp2_with fail
  exact bodyPost_ret (v:=.tuple #[.int .i64 st,.int .i64 0]) (by simp [results,Tryz.results19,go_sem]) rfl ⟨rfl,HA.out ▸ HB3.out⟩
end Go.Proofs.YtfacmnooklljnaaGreatDoor
namespace Go.Proofs.YtfacmnooklljnaaGreatDoor
open Go.RowKit Go.Shelf
attribute [local go_sem] Oper.semAt_some
set_option maxHeartbeats 8000000
set_option maxRecDepth 100000
def rqC (m : ByteArray) (P Q : Value) (ob hb kb : Bool) (ib : ByteArray) : Obj:=.cells #[.string m,P,Q,.bool ob,.bool hb,.bool kb,.string ib] 38 (0,0)
def rq0C : Obj:=rqC ⟨#[]⟩ (.slice none 0 0) (.slice none 0 0) false false false ⟨#[]⟩
def rqV (m : ByteArray) (P Q : Value) (ob hb kb : Bool) (ib : ByteArray) : Value:=.agg #[.string m,P,Q,.bool ob,.bool hb,.bool kb,.string ib]
def rq0 : Value:=rqV ⟨#[]⟩ (.slice none 0 0) (.slice none 0 0) false false false ⟨#[]⟩
def rqPut (w : World) (R : Nat) (m : ByteArray) (P Q : Value) (ob hb kb : Bool) (ib : ByteArray) : World:=((((((w.setCell ⟨R,0,none⟩ (.string m)).setCell ⟨R,1,none⟩ P).setCell ⟨R,2,none⟩ Q).setCell ⟨R,3,none⟩ (.bool ob)).setCell ⟨R,4,none⟩ (.bool hb)).setCell ⟨R,5,none⟩ (.bool kb)).setCell ⟨R,6,none⟩ (.string ib)
theorem rqPut_heap {w : World} {R : Nat} (h : w.heap[R]? = some rq0C) (m : ByteArray) (P Q : Value) (ob hb kb : Bool) (ib : ByteArray) : (rqPut w R m P Q ob hb kb ib).heap[R]? = some (rqC m P Q ob hb kb ib):=by
 unfold rq0C rqC at h
 have h0:=heap_setCell_same w R 0 _ _ (.string m) h
 have h1:=heap_setCell_same _ R 1 _ _ P h0
 have h2:=heap_setCell_same _ R 2 _ _ Q h1
 have h3:=heap_setCell_same _ R 3 _ _ (.bool ob) h2
 have h4:=heap_setCell_same _ R 4 _ _ (.bool hb) h3
 have h5:=heap_setCell_same _ R 5 _ _ (.bool kb) h4
 have h6:=heap_setCell_same _ R 6 _ _ (.string ib) h5
 unfold rqPut rqC
 rw [h6]
 simp
theorem rqPut_other {w : World} {R j : Nat} (hj : j ≠ R) (m : ByteArray) (P Q : Value) (ob hb kb : Bool) (ib : ByteArray) : (rqPut w R m P Q ob hb kb ib).heap[j]? = w.heap[j]?:=by
 unfold rqPut
 rw [Below.heap_setCell _ _ _ _ (by show j ≠ R; exact hj),Below.heap_setCell _ _ _ _ (by show j ≠ R; exact hj),Below.heap_setCell _ _ _ _ (by show j ≠ R; exact hj),Below.heap_setCell _ _ _ _ (by show j ≠ R; exact hj),Below.heap_setCell _ _ _ _ (by show j ≠ R; exact hj),Below.heap_setCell _ _ _ _ (by show j ≠ R; exact hj),Below.heap_setCell _ _ _ _ (by show j ≠ R; exact hj)]
theorem rqPut_size (w : World) (R : Nat) (m : ByteArray) (P Q : Value) (ob hb kb : Bool) (ib : ByteArray) : (rqPut w R m P Q ob hb kb ib).heap.size = w.heap.size:=by
 unfold rqPut; simp
theorem rqPut_below {w0 w : World} {B R : Nat} (h : Below B w0 w) (hB : B ≤ R) (m : ByteArray) (P Q : Value) (ob hb kb : Bool) (ib : ByteArray) : Below B w0 (rqPut w R m P Q ob hb kb ib):=by
 unfold rqPut
 exact ((((((h.setCell (p:=⟨R,0,none⟩) hB _).setCell (p:=⟨R,1,none⟩) hB _).setCell (p:=⟨R,2,none⟩) hB _).setCell (p:=⟨R,3,none⟩) hB _).setCell (p:=⟨R,4,none⟩) hB _).setCell (p:=⟨R,5,none⟩) hB _).setCell (p:=⟨R,6,none⟩) hB _
theorem rqC_cells {w : World} {R : Nat} {m ib : ByteArray} {P Q : Value} {ob hb kb : Bool} (h : w.heap[R]? = some (rqC m P Q ob hb kb ib)) :
  w.cell? ⟨R,0,none⟩ = some (.string m) ∧ w.cell? ⟨R,1,none⟩ = some P ∧ w.cell? ⟨R,2,none⟩ = some Q ∧ w.cell? ⟨R,3,none⟩ = some (.bool ob) ∧ w.cell? ⟨R,4,none⟩ = some (.bool hb) ∧ w.cell? ⟨R,5,none⟩ = some (.bool kb) ∧ w.cell? ⟨R,6,none⟩ = some (.string ib) ∧ ∀ m,w.frozen? ⟨R,m,none⟩ = false:=by
 have h2:=h
 unfold rqC at h2
 refine ⟨?_,?_,?_,?_,?_,?_,?_,fun m => frozen_of_row _ _ _ _ _ h2⟩ <;> simp [World.cell?,h2]
def Rq.closes (fs : List Hp.Hd) : Bool:=(Tp.items (Rq.joined Rq.nCon fs)).any Rq.isClose
def OfO (F : List UInt8) (fs : List Hp.Hd) (e : Ending) (w' : World) : Prop :=
 if Hr.okB F fs = false then e = .returned (.tuple #[rq0,.int .i64 0,.int .i64 2])
 else if Rq.status F fs ≠ 200 then e = .returned (.tuple #[rq0,.int .i64 (Rq.status F fs),.int .i64 230])
 else ∃ m g v p n c q k d,Rq.line F = some (m,g,v) ∧ e = .returned (.tuple #[rqV ⟨m.toArray⟩ (.slice p n c) (.slice q k d) (v == Rq.v10) (decide ((0 : Int) < (Rq.many Rq.nId fs : Int))) (Rq.closes fs || (v == Rq.v10)) ⟨(Rq.joined Rq.nId fs).toArray⟩,.int .i64 200,.int .i64 0]) ∧ SwRow w' (.slice p n c) g.1 ∧ PrRow w' (.slice q k d) g.2
theorem OfO.no {F : List UInt8} {fs : List Hp.Hd} {w : World} (h : Hr.okB F fs = false) : OfO F fs (.returned (.tuple #[rq0,.int .i64 0,.int .i64 2])) w:=by
 unfold OfO
 rw [if_pos h]
theorem OfO.bad {F : List UInt8} {fs : List Hp.Hd} {w : World} {st : Int} (h : Hr.okB F fs = true) (h2 : Rq.status F fs = st) (h3 : st ≠ 200) : OfO F fs (.returned (.tuple #[rq0,.int .i64 st,.int .i64 230])) w:=by
 unfold OfO
 rw [if_neg (by rw [h]; decide),h2,if_pos h3]
theorem OfO.yes {F : List UInt8} {fs : List Hp.Hd} {w : World} {m : List UInt8} {g : Rq.Tg} {v : List UInt8} {p : Option Addr} {n c : Nat} {q : Option Addr} {k d many : Nat} {mb jb : ByteArray} {ob cl : Bool} (h : Hr.okB F fs = true) (h2 : Rq.status F fs = 200) (hl : Rq.line F = some (m,g,v))
  (hm : (⟨m.toArray⟩ : ByteArray) = mb) (ho : (v == Rq.v10) = ob) (hn : Rq.many Rq.nId fs = many) (hc : Rq.closes fs = cl) (hj : (⟨(Rq.joined Rq.nId fs).toArray⟩ : ByteArray) = jb) (ht : SwRow w (.slice p n c) g.1) (hp : PrRow w (.slice q k d) g.2) :
  OfO F fs (.returned (.tuple #[rqV mb (.slice p n c) (.slice q k d) ob (decide ((0 : Int) < (many : Int))) (cl || ob) jb,.int .i64 200,.int .i64 0])) w:=by
 unfold OfO
 rw [if_neg (by rw [h]; decide),if_neg (fun e => e h2)]
 subst hm ho hn hc hj
 exact ⟨m,g,v,p,n,c,q,k,d,hl,rfl,ht,hp⟩
theorem parts_lengthZ : ∀ (l a : List UInt8),(Tp.parts a l).length ≤ l.length + 1
 | [],a => by unfold Tp.parts; simp
 | c :: l,a => by
  unfold Tp.parts
  by_cases h : c = 44
  ·rw [if_pos h,List.length_cons,List.length_cons]
   have:=parts_lengthZ l []
   omega
  ·rw [if_neg h,List.length_cons]
   have:=parts_lengthZ l (a ++ [c])
   omega
theorem items_lengthZ (l : List UInt8) : (Tp.items l).length ≤ l.length + 1:=by
 unfold Tp.items Tp.itm
 refine Nat.le_trans (List.length_filter_le _ _) ?_
 rw [List.length_map]
 exact parts_lengthZ l []
def ofA (L : Nat) (p1 q1 : Option Addr) (n1 c1 k1 d1 k : Nat) (mb jb : ByteArray) (ob : Bool) : Nat → Value → Prop
 | 0,v => v = .pointer (some ⟨L,0,none⟩)
 | 1,v => v = .pointer (some ⟨L,0,none⟩)
 | 2,v => v = .pointer (some ⟨L,2,none⟩)
 | 3,v => v = .string mb
 | 4,v => v = .pointer (some ⟨L,0,none⟩)
 | 5,v => v = .pointer (some ⟨L,0,none⟩)
 | 6,v => v = .pointer (some ⟨L,4,none⟩)
 | 7,v => v = .agg #[.slice p1 n1 c1,.slice q1 k1 d1]
 | 8,v => v = .pointer (some ⟨L,0,none⟩)
 | 9,v => v = .bool ob
 | 10,v => v = .int .i64 (k : Int)
 | 11,v => v = .bool (decide ((0 : Int) < (k : Int)))
 | 12,v => v = .bool true
 | 13,v => v = .bool true
 | 14,v => v = undef
 | 15,v => v = undef
 | 16,v => v = .bool true
 | 17,v => v = .string jb
 | 18,v => v = .agg #[.string mb,.slice p1 n1 c1,.slice q1 k1 d1,.bool ob,.bool (decide ((0 : Int) < (k : Int))),.bool true,.string jb]
 | 19,v => v = .int .i64 200
 | 20,v => True
 | 21,v => v = .int .i64 200
 | 22,v => v = .int .i64 0
 | _,_ => False
def ofFA (L : Nat) (p1 q1 : Option Addr) (n1 c1 k1 d1 k : Nat) (mb jb : ByteArray) (ob : Bool) (f : Nat → Bool) (j : Nat) (w : World) (v : Value) : Prop:=ofA L p1 q1 n1 c1 k1 d1 k mb jb ob j v
def ofB (L : Nat) (p1 q1 : Option Addr) (n1 c1 k1 d1 k : Nat) (mb jb : ByteArray) (ob : Bool) : Nat → Value → Prop
 | 0,v => v = .pointer (some ⟨L,0,none⟩)
 | 1,v => v = .pointer (some ⟨L,0,none⟩)
 | 2,v => v = .pointer (some ⟨L,2,none⟩)
 | 3,v => v = .string mb
 | 4,v => v = .pointer (some ⟨L,0,none⟩)
 | 5,v => v = .pointer (some ⟨L,0,none⟩)
 | 6,v => v = .pointer (some ⟨L,4,none⟩)
 | 7,v => v = .agg #[.slice p1 n1 c1,.slice q1 k1 d1]
 | 8,v => v = .pointer (some ⟨L,0,none⟩)
 | 9,v => v = .bool ob
 | 10,v => v = .int .i64 (k : Int)
 | 11,v => v = .bool (decide ((0 : Int) < (k : Int)))
 | 12,v => v = .bool false
 | 13,v => v = .bool false
 | 14,v => v = .pointer (some ⟨L,0,none⟩)
 | 15,v => v = .bool ob
 | 16,v => v = .bool ob
 | 17,v => v = .string jb
 | 18,v => v = .agg #[.string mb,.slice p1 n1 c1,.slice q1 k1 d1,.bool ob,.bool (decide ((0 : Int) < (k : Int))),.bool ob,.string jb]
 | 19,v => v = .int .i64 200
 | 20,v => True
 | 21,v => v = .int .i64 200
 | 22,v => v = .int .i64 0
 | _,_ => False
def ofFB (L : Nat) (p1 q1 : Option Addr) (n1 c1 k1 d1 k : Nat) (mb jb : ByteArray) (ob : Bool) (f : Nat → Bool) (j : Nat) (w : World) (v : Value) : Prop:=ofB L p1 q1 n1 c1 k1 d1 k mb jb ob j v
structure ofT (w0 : World) (R : Nat) (rC : Obj) (f : Nat → Bool) (w : World) : Prop where
 size : w.heap.size = w0.heap.size
 yet : f 20 = false → w.heap[R]? = some rq0C
 put : f 20 = true → w.heap[R]? = some rC
 oth : ∀ j,j ≠ R → w.heap[j]? = w0.heap[j]?
 bel : Below R w0 w
theorem ofT.step {w0 : World} {R : Nat} {rC : Obj} {w : World} {f : Nat → Bool} (i : Nat) (h : ofT w0 R rC f w) (h20 : 20 ≠ i) : ofT w0 R rC (fun j => if j = i then true else f j) w :=
 ⟨h.size,fun e => h.yet (by simpa [h20] using e),fun e => h.put (by simpa [h20] using e),h.oth,h.bel⟩
theorem ofT.done {w0 : World} {R : Nat} {m ib : ByteArray} {P Q : Value} {ob hb kb : Bool} {w : World} {f : Nat → Bool} (h : ofT w0 R (rqC m P Q ob hb kb ib) f w) (h20 : f 20 = false) : ofT w0 R (rqC m P Q ob hb kb ib) (fun j => if j = 20 then true else f j) (rqPut w R m P Q ob hb kb ib) :=
 ⟨(rqPut_size _ _ _ _ _ _ _ _ _).trans h.size,fun e => by simp at e,fun _ => rqPut_heap (h.yet h20) _ _ _ _ _ _ _,fun j hj => (rqPut_other hj _ _ _ _ _ _ _).trans (h.oth j hj),rqPut_below h.bel (Nat.le_refl _) _ _ _ _ _ _ _⟩
def ofSlot (i : Nat) : Nat:=([41,42,43,44,45,46,47,48,49,50,51,52,53,54,55,56,57,58,59,60,13,3,4] : List Nat).getD i 4
theorem ofSlot_lt (i : Nat) : ofSlot i < 61:=by
 match i with
 | 0 | 1 | 2 | 3 | 4 | 5 | 6 | 7 | 8 | 9 | 10 | 11 | 12 | 13 | 14 | 15 | 16 | 17 | 18 | 19 | 20 | 21 | 22 => decide
 | n + 23 => show 4 < 61; decide
theorem ofSlot_inj : ∀ i j,i < 23 → j < 23 → ofSlot i = ofSlot j → i = j:=by
 have h : ∀ i j : Fin 23,ofSlot i.val = ofSlot j.val → i = j:=by decide +kernel
 intro i j hi hj e
 have:=h ⟨i,hi⟩ ⟨j,hj⟩ e
 simpa using this
theorem ofNot : ∀ i,i < 23 → ofSlot i ≠ 2 ∧ ofSlot i ≠ 6 ∧ ofSlot i ≠ 7 ∧ ofSlot i ≠ 8 ∧ ofSlot i ≠ 9 ∧ ofSlot i ≠ 12:=by
 have h : ∀ i : Fin 23,ofSlot i.val ≠ 2 ∧ ofSlot i.val ≠ 6 ∧ ofSlot i.val ≠ 7 ∧ ofSlot i.val ≠ 8 ∧ ofSlot i.val ≠ 9 ∧ ofSlot i.val ≠ 12:=by decide +kernel
 exact fun i hi => h ⟨i,hi⟩
theorem rq_Of (F : List UInt8) (v : Value) (fs : List Hp.Hd) (w : World) (hv : HS w v fs) (ho : RqOk F fs) (hm : Mx w) :
  Calls Tryz.prog 11 #[.agg #[Hp.sx F,v]] w fun e w' => OfO F fs e w' ∧ Below w.heap.size w w':=by
 have h0 : 0 < w.heap.size:=by obtain ⟨m,hm⟩:=hm; exact lt_of_cell hm
 obtain ⟨W1,hW1⟩ : ∃ z,(w.alloc (.cells #[Hp.sx F,v] 25)).alloc rq0C = z:=⟨_,rfl⟩
 have hb1 : Below w.heap.size w W1:=by rw [← hW1]; exact ((Below.refl _ _).alloc (Nat.le_refl _) _).alloc (by simp) _
 have KC:=hd_CheckG F v fs W1 (hv.below hb1) (by have:=ho.f; omega) ho.l ho.s
 obtain ⟨p,c,rfl⟩:=hv.slice
 obtain ⟨n,hn⟩ : ∃ n,fs.length = n:=⟨_,rfl⟩
 rw [hn] at hv hW1 KC ⊢
 have hH : W1.heap[w.heap.size]? = some (.cells #[Hp.sx F,.slice p n c] 25 (0,0)):=by
  rw [← hW1,Below.heap_alloc _ _ _ (by simp)]; exact World.alloc_heap_new _ _
 have hR1 : W1.heap[w.heap.size + 1]? = some rq0C:=by
  rw [← hW1]
  have h:=World.alloc_heap_new (w.alloc (.cells #[Hp.sx F,.slice p n c] 25)) rq0C
  simpa using h
 obtain ⟨ok,hok⟩ : ∃ z,Hr.okB F fs = z:=⟨_,rfl⟩
 obtain ⟨st,hst⟩ : ∃ z,Rq.status F fs = z:=⟨_,rfl⟩
 obtain ⟨il,hil⟩ : ∃ z,Rq.line F = z:=⟨_,rfl⟩
 rw [hok] at KC
 have HOK:=Lib.hid hok
 have HST:=Lib.hid hst
 have HLI:=Lib.hid hil
 obtain ⟨zc,hzc⟩ : ∃ z : Int,(if ok = true then 0 else 2) = z:=⟨_,rfl⟩
 rw [hzc] at KC
 have KL:=fun W (hb : Below w.heap.size w W) => rq_looked ⟨F.toArray⟩ p n c fs W (hv.below hb) ho.l ho.s (by simpa [ByteArray.size] using ho.f) (by have:=ho.a; omega) (hm.below hb h0)
 unfold LkO at KL
 simp only [hst,hil] at KL
 have KI:=Lib.hid (fun W (hb : Below w.heap.size w W) => tok_items ⟨(Rq.joined Rq.nCon fs).toArray⟩ W (by simpa [ByteArray.size] using ho.c) (by
  obtain ⟨m,h⟩:=hm.below hb h0
  exact ⟨m,h⟩))
 have HCL:=Lib.hid (show Rq.closes fs = (Tp.items (Rq.joined Rq.nCon fs)).any Rq.isClose from rfl)
 have HIL:=Lib.hid (fun p (hp : p ∈ Tp.items (Rq.joined Rq.nCon fs)) => Tp.items_len hp)
 have HJL:=Lib.hid ho.c
 obtain ⟨cl,hcl⟩ : ∃ z,Rq.closes fs = z:=⟨_,rfl⟩
 have HCC:=Lib.hid hcl
 rw [hcl] at HCL
 unfold Hp.sx at KC hW1 hH ⊢
 obtain ⟨fb,hfb⟩ : ∃ z : ByteArray,(⟨F.toArray⟩ : ByteArray) = z:=⟨_,rfl⟩
 have hfd : fb.data.toList = F:=by rw [← hfb]
 rw [hfb] at KC hW1 hH ⊢
 simp only [hfb,hfd,hst,hil] at KL
 have KC:=Lib.hid KC
 have KL:=Lib.hid KL
 have HH:=Lib.hid hH
 have HR1:=Lib.hid hR1
 have HB1:=Lib.hid hb1
 unfold rq0C rqC at hW1
 have HW1:=Lib.hid hW1
 clear hv ho hm h0 hW1 hb1 hH hR1 hok hst hil hfb hfd hn hcl
 obtain ⟨A,hA⟩ : ∃ z,w.heap.size = z:=⟨_,rfl⟩
 have HA:=Lib.hid hA
 rw [hA] at HH HR1
 have c0 : W1.cell? ⟨A,0,none⟩ = some (.string fb):=by simp [World.cell?,HH.out]
 have c1 : W1.cell? ⟨A,1,none⟩ = some (.slice p n c):=by simp [World.cell?,HH.out]
 clear hA
 go_enter Tryz.func11,Tryz.ntmps11
 go_upto_region 1 with (fail)
 rw [HW1.out,HA.out]
 go_wp2_with fail
 refine KC.out.mono ?_
 rintro e w2 ⟨rfl,hb2⟩
 have HB2:=Lib.hid (HB1.out.trans (hb2.mono HB1.out.size))
 have hH2:=(hb2.block _ (Array.getElem?_eq_some_iff.1 HH.out).1).trans HH.out
 have hR2:=(hb2.block _ (Array.getElem?_eq_some_iff.1 HR1.out).1).trans HR1.out
 have d0 : w2.cell? ⟨A,0,none⟩ = some (.string fb):=by simp [World.cell?,hH2]
 have d1 : w2.cell? ⟨A,1,none⟩ = some (.slice p n c):=by simp [World.cell?,hH2]
 have HR2:=Lib.hid hR2
 clear hb2 c0 c1 hH2 hR2 KC
 cases ok with
 | false =>
  obtain rfl : zc = 2:=hzc.symm
  clear hzc
  obtain ⟨x0,x1,x2,x3,x4,x5,x6,z⟩:=rqC_cells HR2.out
  have z0:=z 0
  have z1:=z 1
  have z2:=z 2
  have z3:=z 3
  have z4:=z 4
  have z5:=z 5
  have z6:=z 6
  clear z d0 d1
  go_wp2_with fail
  have hX:=rqPut_heap HR2.out ⟨#[]⟩ (.slice none 0 0) (.slice none 0 0) false false false ⟨#[]⟩
  have hbX:=rqPut_below HB2.out (R:=A + 1) (by rw [HA.out]; exact Nat.le_succ _) ⟨#[]⟩ (.slice none 0 0) (.slice none 0 0) false false false ⟨#[]⟩
  unfold rqPut at hX hbX
  obtain ⟨X,hXX⟩ : ∃ X,((((((w2.setCell ⟨A + 1,0,none⟩ (.string ⟨#[]⟩)).setCell ⟨A + 1,1,none⟩ (.slice none 0 0)).setCell ⟨A + 1,2,none⟩ (.slice none 0 0)).setCell ⟨A + 1,3,none⟩ (.bool false)).setCell ⟨A + 1,4,none⟩ (.bool false)).setCell ⟨A + 1,5,none⟩ (.bool false)).setCell ⟨A + 1,6,none⟩ (.string ⟨#[]⟩) = X:=⟨_,rfl⟩
  rw [hXX] at hX hbX ⊢
  obtain ⟨y0,y1,y2,y3,y4,y5,y6,_⟩:=rqC_cells hX
  clear hXX hX x0 x1 x2 x3 x4 x5 x6 z0 z1 z2 z3 z4 z5 z6
  exact bodyPost_ret (v:=.tuple #[rq0,.int .i64 0,.int .i64 2]) (by simp [rq0,rqV,results,Tryz.results11,go_sem,y0,y1,y2,y3,y4,y5,y6]) rfl ⟨OfO.no HOK.out,HA.out ▸ hbX⟩
 | true =>
 obtain rfl : zc = 0:=hzc.symm
 clear hzc
 go_wp2_with fail
 refine (KL.out _ HB2.out).mono ?_
 rintro e w3 ⟨⟨L,rfl,hlk⟩,hb3⟩
 have HB3:=Lib.hid (HB2.out.trans (hb3.mono HB2.out.size))
 have HR3:=Lib.hid ((hb3.block _ (Array.getElem?_eq_some_iff.1 HR2.out).1).trans HR2.out)
 clear hb3 d0 d1 HR2
 by_cases hst : st = 200
 rotate_left
 ·have e2 : (st != 200) = true:=bne_iff_ne.2 hst
  have e3 : (st == 200) = false:=beq_eq_false_iff_ne.2 hst
  obtain ⟨x0,x1,x2,x3,x4,x5,x6,z⟩:=rqC_cells HR3.out
  have z0:=z 0
  have z1:=z 1
  have z2:=z 2
  have z3:=z 3
  have z4:=z 4
  have z5:=z 5
  have z6:=z 6
  have HNS:=Lib.hid hst
  clear z hst hlk
  go_wp2_with fail
  have hX:=rqPut_heap HR3.out ⟨#[]⟩ (.slice none 0 0) (.slice none 0 0) false false false ⟨#[]⟩
  have hbX:=rqPut_below HB3.out (R:=A + 1) (by rw [HA.out]; exact Nat.le_succ _) ⟨#[]⟩ (.slice none 0 0) (.slice none 0 0) false false false ⟨#[]⟩
  unfold rqPut at hX hbX
  obtain ⟨X,hXX⟩ : ∃ X,((((((w3.setCell ⟨A + 1,0,none⟩ (.string ⟨#[]⟩)).setCell ⟨A + 1,1,none⟩ (.slice none 0 0)).setCell ⟨A + 1,2,none⟩ (.slice none 0 0)).setCell ⟨A + 1,3,none⟩ (.bool false)).setCell ⟨A + 1,4,none⟩ (.bool false)).setCell ⟨A + 1,5,none⟩ (.bool false)).setCell ⟨A + 1,6,none⟩ (.string ⟨#[]⟩) = X:=⟨_,rfl⟩
  rw [hXX] at hX hbX ⊢
  obtain ⟨y0,y1,y2,y3,y4,y5,y6,_⟩:=rqC_cells hX
  clear hXX hX x0 x1 x2 x3 x4 x5 x6 z0 z1 z2 z3 z4 z5 z6
  exact bodyPost_ret (v:=.tuple #[rq0,.int .i64 st,.int .i64 230]) (by simp [rq0,rqV,results,Tryz.results11,go_sem,y0,y1,y2,y3,y4,y5,y6]) rfl ⟨OfO.bad HOK.out HST.out HNS.out,HA.out ▸ hbX⟩
 obtain ⟨m,g,v,p1,n1,c1,q1,k1,d1,hil,hLK,hts,hps⟩:=hlk hst
 subst hst
 have HLK:=Lib.hid hLK
 have HTS:=Lib.hid hts
 have HPS:=Lib.hid hps
 have HIN:=Lib.hid hil
 obtain ⟨mb,hmb⟩ : ∃ z : ByteArray,(⟨m.toArray⟩ : ByteArray) = z:=⟨_,rfl⟩
 have HMB:=Lib.hid hmb
 have G1:=Lib.hid (fun W (hb : Below w3.heap.size w3 W) => rq_get L fb ⟨#[108,97,115,116,45,101,118,101,110,116,45,105,100]⟩ (.slice p n c) fs ⟨m.toArray⟩ ⟨v.toArray⟩ (.slice p1 n1 c1) (.slice q1 k1 d1) W (hLK.below hb) (by decide))
 have G2:=Lib.hid (fun W (hb : Below w3.heap.size w3 W) => rq_get L fb ⟨#[99,111,110,110,101,99,116,105,111,110]⟩ (.slice p n c) fs ⟨m.toArray⟩ ⟨v.toArray⟩ (.slice p1 n1 c1) (.slice q1 k1 d1) W (hLK.below hb) (by decide))
 unfold getV at G1 G2
 rw [show (⟨#[108,97,115,116,45,101,118,101,110,116,45,105,100]⟩ : ByteArray).data.toList = Rq.nId from rfl] at G1
 rw [show (⟨#[99,111,110,110,101,99,116,105,111,110]⟩ : ByteArray).data.toList = Rq.nCon from rfl] at G2
 obtain ⟨jb,hjb⟩ : ∃ y : ByteArray,(⟨(Rq.joined Rq.nId fs).toArray⟩ : ByteArray) = y:=⟨_,rfl⟩
 obtain ⟨k,hk⟩ : ∃ k,Rq.many Rq.nId fs = k:=⟨_,rfl⟩
 obtain ⟨tb,htb⟩ : ∃ y : ByteArray,(⟨(Rq.joined Rq.nCon fs).toArray⟩ : ByteArray) = y:=⟨_,rfl⟩
 obtain ⟨k2,hk2⟩ : ∃ k,Rq.many Rq.nCon fs = k:=⟨_,rfl⟩
 have htd : tb.data.toList = Rq.joined Rq.nCon fs:=by rw [← htb]
 rw [hjb,hk] at G1
 rw [htb,hk2] at G2
 rw [htb] at KI
 have KO:=Lib.hid (fun W (h : W.heap[L]? = some (lkC fb (.slice p n c) ⟨m.toArray⟩ ⟨v.toArray⟩ (.slice p1 n1 c1) (.slice q1 k1 d1))) => rq_old L fb (.slice p n c) ⟨m.toArray⟩ ⟨v.toArray⟩ (.slice p1 n1 c1) (.slice q1 k1 d1) W h)
 rw [show ((⟨v.toArray⟩ : ByteArray).toList == ([72,84,84,80,47,49,46,48] : List UInt8)) = (v == Rq.v10) by rw [ba_list]; rfl] at KO
 obtain ⟨ob,hob⟩ : ∃ z,(v == Rq.v10) = z:=⟨_,rfl⟩
 rw [hob] at KO
 obtain ⟨vb,hvb⟩ : ∃ z : ByteArray,(⟨v.toArray⟩ : ByteArray) = z:=⟨_,rfl⟩
 rw [hmb,hvb] at KO
 have HLC:=Lib.hid (show w3.heap[L]? = some (lkC fb (.slice p n c) mb vb (.slice p1 n1 c1) (.slice q1 k1 d1)) by rw [← hmb,← hvb]; exact hLK.c)
 have HOB:=Lib.hid hob
 have HJB:=Lib.hid hjb
 have HKK:=Lib.hid hk
 have HVB:=Lib.hid hvb
 clear hLK hts hps hil hmb hjb hk htb hk2 htd hob hvb
 go_wp2_with fail
 refine (G1.out _ (Below.refl _ _)).mono ?_
 rintro e w4 ⟨rfl,hb4⟩
 have HB4:=Lib.hid hb4
 clear hb4
 go_wp2_with fail
 refine (G2.out _ HB4.out).mono ?_
 rintro e w5 ⟨rfl,hb5⟩
 have HB5:=Lib.hid (HB4.out.trans (hb5.mono HB4.out.size))
 clear hb5
 go_wp2_with fail
 refine (KI.out _ (HB3.out.trans (HB5.out.mono HB3.out.size))).mono ?_
 rintro e w6 ⟨r,rfl,hr,hb6⟩
 have HB6:=Lib.hid (HB5.out.trans (hb6.mono HB5.out.size))
 have KS:=rq_sought 30 Rq.isClose r _ w6 (TS.of hr) (by
  have h1:=HJL.out
  have h2:=items_lengthZ (Rq.joined Rq.nCon fs)
  omega) of1_in (fun x hx W => rq_of1 x W (by have h1:=HIL.out x hx; have h2:=HJL.out; omega))
 rw [← HCL.out] at KS
 obtain ⟨rp,rc,rfl⟩:=(TS.of hr).slice
 obtain ⟨rn,hrn⟩ : ∃ z,(Tp.items (Rq.joined Rq.nCon fs)).length = z:=⟨_,rfl⟩
 rw [hrn] at KS ⊢
 have KS:=Lib.hid KS
 clear hb6 hr hrn
 go_wp2_with fail
 refine KS.out.mono ?_
 rintro e w7 ⟨rfl,hb7⟩
 have HB7:=Lib.hid (HB6.out.trans (hb7.mono HB6.out.size))
 clear hb7
 have HR7:=Lib.hid ((HB7.out.block _ (Array.getElem?_eq_some_iff.1 HR3.out).1).trans HR3.out)
 have HL7:=Lib.hid ((HB7.out.block _ (Array.getElem?_eq_some_iff.1 HLC.out).1).trans HLC.out)
 have HT7:=Lib.hid (HTS.out.below HB7.out)
 have HP7:=Lib.hid (HPS.out.belowW HB7.out)
 have HBW7:=Lib.hid (HB3.out.trans (HB7.out.mono HB3.out.size))
 have HLR:=Lib.hid (show L ≠ A + 1 by
  intro e
  have h1:=HR3.out
  rw [← e,HLC.out] at h1
  unfold lkC rq0C rqC at h1
  simp at h1)
 obtain ⟨R,hR⟩ : ∃ z,A + 1 = z:=⟨_,rfl⟩
 rw [hR] at HR7 HLR ⊢
 have HRA:=Lib.hid hR
 clear hR G1 G2 KI KS HR3 KL
 go_upto_region 10 with (fail)
 cases cl with
 | true =>
  refine region_slots6 ofSlot (ofFA L p1 q1 n1 c1 k1 d1 k mb jb ob) (ofT w7 R (rqC mb (.slice p1 n1 c1) (.slice q1 k1 d1) ob (decide ((0 : Int) < (k : Int))) true jb)) (fun i => !(i == 14 || i == 15)) (by kernel_rfl) (by kernel_rfl) (fun i => Nat.lt_of_lt_of_le (ofSlot_lt i) (by show 61 ≤ _; simp)) (fun i j hi hj h => ofSlot_inj i j hi hj h) ?start ?dst ?gu ?ng ?skip ?step ?done
  case start => exact ⟨rfl,fun _ => HR7.out,fun e => (by cases e),fun _ _ => rfl,(Below.refl _ _).drew⟩
  case dst =>
   intro i o ho
   match i,ho with
   | 0,ho => cases ho; exact .inl rfl
   | 1,ho => cases ho; exact .inl rfl
   | 2,ho => cases ho; exact .inl rfl
   | 3,ho => cases ho; exact .inl rfl
   | 4,ho => cases ho; exact .inl rfl
   | 5,ho => cases ho; exact .inl rfl
   | 6,ho => cases ho; exact .inl rfl
   | 7,ho => cases ho; exact .inl rfl
   | 8,ho => cases ho; exact .inl rfl
   | 9,ho => cases ho; exact .inl rfl
   | 10,ho => cases ho; exact .inl rfl
   | 11,ho => cases ho; exact .inl rfl
   | 12,ho => cases ho; exact .inl rfl
   | 13,ho => cases ho; exact .inl rfl
   | 14,ho => cases ho; exact .inl rfl
   | 15,ho => cases ho; exact .inl rfl
   | 16,ho => cases ho; exact .inl rfl
   | 17,ho => cases ho; exact .inl rfl
   | 18,ho => cases ho; exact .inl rfl
   | 19,ho => cases ho; exact .inl rfl
   | 20,ho => cases ho; exact .inr rfl
   | 21,ho => cases ho; exact .inl rfl
   | 22,ho => cases ho; exact .inl rfl
   | n + 23,ho => exact absurd ho (by simp)
  case gu =>
   intro i o g b ho hgd
   match i,ho with
   | 0,ho => cases ho; cases hgd
   | 1,ho => cases ho; cases hgd
   | 2,ho => cases ho; cases hgd
   | 3,ho => cases ho; cases hgd
   | 4,ho => cases ho; cases hgd
   | 5,ho => cases ho; cases hgd
   | 6,ho => cases ho; cases hgd
   | 7,ho => cases ho; cases hgd
   | 8,ho => cases ho; cases hgd
   | 9,ho => cases ho; cases hgd
   | 10,ho => cases ho; cases hgd
   | 11,ho => cases ho; cases hgd
   | 12,ho => cases ho; cases hgd
   | 13,ho => cases ho; cases hgd
   | 14,ho => cases ho; cases hgd; exact ⟨fun o' h' => by cases h'; rfl,fun f W v hv => .inl hv⟩
   | 15,ho => cases ho; cases hgd; exact ⟨fun o' h' => by cases h'; rfl,fun f W v hv => .inl hv⟩
   | 16,ho => cases ho; cases hgd
   | 17,ho => cases ho; cases hgd
   | 18,ho => cases ho; cases hgd
   | 19,ho => cases ho; cases hgd
   | 20,ho => cases ho; cases hgd
   | 21,ho => cases ho; cases hgd
   | 22,ho => cases ho; cases hgd
   | n + 23,ho => exact absurd ho (by simp)
  case ng =>
   intro i o ho hgd
   match i,ho with
   | 0,ho => cases ho; first | rfl | cases hgd
   | 1,ho => cases ho; first | rfl | cases hgd
   | 2,ho => cases ho; first | rfl | cases hgd
   | 3,ho => cases ho; first | rfl | cases hgd
   | 4,ho => cases ho; first | rfl | cases hgd
   | 5,ho => cases ho; first | rfl | cases hgd
   | 6,ho => cases ho; first | rfl | cases hgd
   | 7,ho => cases ho; first | rfl | cases hgd
   | 8,ho => cases ho; first | rfl | cases hgd
   | 9,ho => cases ho; first | rfl | cases hgd
   | 10,ho => cases ho; first | rfl | cases hgd
   | 11,ho => cases ho; first | rfl | cases hgd
   | 12,ho => cases ho; first | rfl | cases hgd
   | 13,ho => cases ho; first | rfl | cases hgd
   | 14,ho => cases ho; first | rfl | cases hgd
   | 15,ho => cases ho; first | rfl | cases hgd
   | 16,ho => cases ho; first | rfl | cases hgd
   | 17,ho => cases ho; first | rfl | cases hgd
   | 18,ho => cases ho; first | rfl | cases hgd
   | 19,ho => cases ho; first | rfl | cases hgd
   | 20,ho => cases ho; first | rfl | cases hgd
   | 21,ho => cases ho; first | rfl | cases hgd
   | 22,ho => cases ho; first | rfl | cases hgd
   | n + 23,ho => exact absurd ho (by simp)
  case skip =>
   intro f W i o ho hsel hT
   match i,ho,hsel with
   | 0,ho,hsel => exact absurd hsel (by decide)
   | 1,ho,hsel => exact absurd hsel (by decide)
   | 2,ho,hsel => exact absurd hsel (by decide)
   | 3,ho,hsel => exact absurd hsel (by decide)
   | 4,ho,hsel => exact absurd hsel (by decide)
   | 5,ho,hsel => exact absurd hsel (by decide)
   | 6,ho,hsel => exact absurd hsel (by decide)
   | 7,ho,hsel => exact absurd hsel (by decide)
   | 8,ho,hsel => exact absurd hsel (by decide)
   | 9,ho,hsel => exact absurd hsel (by decide)
   | 10,ho,hsel => exact absurd hsel (by decide)
   | 11,ho,hsel => exact absurd hsel (by decide)
   | 12,ho,hsel => exact absurd hsel (by decide)
   | 13,ho,hsel => exact absurd hsel (by decide)
   | 14,ho,hsel => cases ho; exact ⟨rfl,rfl,hT.step 14 (by decide),fun j v' h => h⟩
   | 15,ho,hsel => cases ho; exact ⟨rfl,rfl,hT.step 15 (by decide),fun j v' h => h⟩
   | 16,ho,hsel => exact absurd hsel (by decide)
   | 17,ho,hsel => exact absurd hsel (by decide)
   | 18,ho,hsel => exact absurd hsel (by decide)
   | 19,ho,hsel => exact absurd hsel (by decide)
   | 20,ho,hsel => exact absurd hsel (by decide)
   | 21,ho,hsel => exact absurd hsel (by decide)
   | 22,ho,hsel => exact absurd hsel (by decide)
   | n + 23,ho,_ => exact absurd ho (by simp)
  case step =>
   intro f a' W i o ho hsel hfi hpre hT hrest
   have hR : ∀ j m,j ≠ R → W.cell? ⟨j,m,none⟩ = w7.cell? ⟨j,m,none⟩:=fun j m hj => by simp only [World.cell?,hT.oth j hj]
   have hLW:=(hT.oth L HLR.out).trans HL7.out
   match i,ho,hsel with
   | 0,ho,_ =>
    cases ho
    have q6 : a'.tmps.getD 6 undef = .pointer (some ⟨L,0,none⟩):=(hrest 6 (fun i hi => (ofNot i hi).2.1))
    have e6:=rg_ev q6
    exact rg_same4 (.pointer (some ⟨L,0,none⟩)) (by unfold Oper.wp execOp; go_simp; all_goals ((try simp only [e6]); (try go_simp); (try rw [if_pos (by omega)]); (try rw [if_neg (by omega)]); first | done | rfl | exact ⟨rfl,rfl⟩ | trivial)) (by simp) rfl (hT.step 0 (by decide)) (fun j v' h => h)
   | 1,ho,_ =>
    cases ho
    have q41 : a'.tmps.getD 41 undef = .pointer (some ⟨L,0,none⟩):=(hpre { on:=0,ground:=.data } (by simp) rfl).2
    have e41:=rg_ev q41
    exact rg_same4 (.pointer (some ⟨L,0,none⟩)) (by unfold Oper.wp execOp; go_simp; all_goals ((try simp only [e41]); (try go_simp); (try rw [if_pos (by omega)]); (try rw [if_neg (by omega)]); first | done | rfl | exact ⟨rfl,rfl⟩ | trivial)) (by simp) rfl (hT.step 1 (by decide)) (fun j v' h => h)
   | 2,ho,_ =>
    cases ho
    have q42 : a'.tmps.getD 42 undef = .pointer (some ⟨L,0,none⟩):=(hpre { on:=1,ground:=.data } (by simp) rfl).2
    have e42:=rg_ev q42
    exact rg_same4 (.pointer (some ⟨L,2,none⟩)) (by unfold Oper.wp execOp; go_simp; all_goals ((try simp only [e42]); (try go_simp); (try rw [if_pos (by omega)]); (try rw [if_neg (by omega)]); first | done | rfl | exact ⟨rfl,rfl⟩ | trivial)) (by simp) rfl (hT.step 2 (by decide)) (fun j v' h => h)
   | 3,ho,_ =>
    cases ho
    have q43 : a'.tmps.getD 43 undef = .pointer (some ⟨L,2,none⟩):=(hpre { on:=2,ground:=.data } (by simp) rfl).2
    have e43:=rg_ev q43
    have hc : W.cell? ⟨L,2,none⟩ = some (.string mb):=by simp [World.cell?,hLW,lkC]
    exact rg_same4 (.string mb) (by unfold Oper.wp execOp; go_simp; all_goals ((try simp only [e43]); (try go_simp); (try rw [if_pos (by omega)]); (try rw [if_neg (by omega)]); first | done | rfl | exact ⟨rfl,rfl⟩ | trivial)) (by simp) rfl (hT.step 3 (by decide)) (fun j v' h => h)
   | 4,ho,_ =>
    cases ho
    have q6 : a'.tmps.getD 6 undef = .pointer (some ⟨L,0,none⟩):=(hrest 6 (fun i hi => (ofNot i hi).2.1))
    have e6:=rg_ev q6
    exact rg_same4 (.pointer (some ⟨L,0,none⟩)) (by unfold Oper.wp execOp; go_simp; all_goals ((try simp only [e6]); (try go_simp); (try rw [if_pos (by omega)]); (try rw [if_neg (by omega)]); first | done | rfl | exact ⟨rfl,rfl⟩ | trivial)) (by simp) rfl (hT.step 4 (by decide)) (fun j v' h => h)
   | 5,ho,_ =>
    cases ho
    have q45 : a'.tmps.getD 45 undef = .pointer (some ⟨L,0,none⟩):=(hpre { on:=4,ground:=.data } (by simp) rfl).2
    have e45:=rg_ev q45
    exact rg_same4 (.pointer (some ⟨L,0,none⟩)) (by unfold Oper.wp execOp; go_simp; all_goals ((try simp only [e45]); (try go_simp); (try rw [if_pos (by omega)]); (try rw [if_neg (by omega)]); first | done | rfl | exact ⟨rfl,rfl⟩ | trivial)) (by simp) rfl (hT.step 5 (by decide)) (fun j v' h => h)
   | 6,ho,_ =>
    cases ho
    have q46 : a'.tmps.getD 46 undef = .pointer (some ⟨L,0,none⟩):=(hpre { on:=5,ground:=.data } (by simp) rfl).2
    have e46:=rg_ev q46
    exact rg_same4 (.pointer (some ⟨L,4,none⟩)) (by unfold Oper.wp execOp; go_simp; all_goals ((try simp only [e46]); (try go_simp); (try rw [if_pos (by omega)]); (try rw [if_neg (by omega)]); first | done | rfl | exact ⟨rfl,rfl⟩ | trivial)) (by simp) rfl (hT.step 6 (by decide)) (fun j v' h => h)
   | 7,ho,_ =>
    cases ho
    have q47 : a'.tmps.getD 47 undef = .pointer (some ⟨L,4,none⟩):=(hpre { on:=6,ground:=.data } (by simp) rfl).2
    have e47:=rg_ev q47
    have hc : W.cell? ⟨L,4,none⟩ = some (.slice p1 n1 c1):=by simp [World.cell?,hLW,lkC]
    have hc2 : W.cell? ⟨L,5,none⟩ = some (.slice q1 k1 d1):=by simp [World.cell?,hLW,lkC]
    exact rg_same4 (.agg #[.slice p1 n1 c1,.slice q1 k1 d1]) (by unfold Oper.wp execOp; go_simp; all_goals ((try simp only [e47]); (try go_simp); (try rw [if_pos (by omega)]); (try rw [if_neg (by omega)]); first | done | rfl | exact ⟨rfl,rfl⟩ | trivial)) (by simp) rfl (hT.step 7 (by decide)) (fun j v' h => h)
   | 8,ho,_ =>
    cases ho
    have q6 : a'.tmps.getD 6 undef = .pointer (some ⟨L,0,none⟩):=(hrest 6 (fun i hi => (ofNot i hi).2.1))
    have e6:=rg_ev q6
    exact rg_same4 (.pointer (some ⟨L,0,none⟩)) (by unfold Oper.wp execOp; go_simp; all_goals ((try simp only [e6]); (try go_simp); (try rw [if_pos (by omega)]); (try rw [if_neg (by omega)]); first | done | rfl | exact ⟨rfl,rfl⟩ | trivial)) (by simp) rfl (hT.step 8 (by decide)) (fun j v' h => h)
   | 9,ho,_ =>
    cases ho
    have q49 : a'.tmps.getD 49 undef = .pointer (some ⟨L,0,none⟩):=(hpre { on:=8,ground:=.data } (by simp) rfl).2
    refine rg_call 49 32 _ _ _ rfl q49 (enters_of Tryz.func32 (by kernel_rfl) rfl) (KO.out W hLW) (fun e w' h => ?_)
    obtain ⟨rfl,rfl⟩:=h
    exact ⟨_,rfl,_,rfl,fun h => absurd h (by simp),rfl,hT.step 9 (by decide),fun j _ h => h⟩
   | 10,ho,_ =>
    cases ho
    have q9 : a'.tmps.getD 9 undef = .int .i64 (k : Int):=(hrest 9 (fun i hi => (ofNot i hi).2.2.2.2.1))
    have e9:=rg_ev q9
    exact rg_same4 (.int .i64 (k : Int)) (by unfold Oper.wp execOp; go_simp; all_goals ((try simp only [e9]); (try go_simp); (try rw [if_pos (by omega)]); (try rw [if_neg (by omega)]); first | done | rfl | exact ⟨rfl,rfl⟩ | trivial)) (by simp) rfl (hT.step 10 (by decide)) (fun j v' h => h)
   | 11,ho,_ =>
    cases ho
    have q51 : a'.tmps.getD 51 undef = .int .i64 (k : Int):=(hpre { on:=10,ground:=.data } (by simp) rfl).2
    have e51:=rg_ev q51
    exact rg_same4 (.bool (decide ((0 : Int) < (k : Int)))) (by unfold Oper.wp execOp; go_simp; all_goals ((try simp only [e51]); (try go_simp); (try rw [if_pos (by omega)]); (try rw [if_neg (by omega)]); first | done | rfl | exact ⟨rfl,rfl⟩ | trivial)) (by simp) rfl (hT.step 11 (by decide)) (fun j v' h => h)
   | 12,ho,_ =>
    cases ho
    have q12 : a'.tmps.getD 12 undef = .bool true:=(hrest 12 (fun i hi => (ofNot i hi).2.2.2.2.2))
    have e12:=rg_ev q12
    exact rg_same4 (.bool true) (by unfold Oper.wp execOp; go_simp; all_goals ((try simp only [e12]); (try go_simp); (try rw [if_pos (by omega)]); (try rw [if_neg (by omega)]); first | done | rfl | exact ⟨rfl,rfl⟩ | trivial)) (by simp) rfl (hT.step 12 (by decide)) (fun j v' h => h)
   | 13,ho,_ =>
    cases ho
    have q53 : a'.tmps.getD 53 undef = .bool true:=(hpre { on:=12,ground:=.data } (by simp) rfl).2
    have e53:=rg_ev q53
    exact rg_same4 (.bool true) (by unfold Oper.wp execOp; go_simp; all_goals ((try simp only [e53]); (try go_simp); (try rw [if_pos (by omega)]); (try rw [if_neg (by omega)]); first | done | rfl | exact ⟨rfl,rfl⟩ | trivial)) (by simp) rfl (hT.step 13 (by decide)) (fun j v' h => h)
   | 14,ho,hsel => exact absurd hsel (by decide)
   | 15,ho,hsel => exact absurd hsel (by decide)
   | 16,ho,_ =>
    cases ho
    have q54 : a'.tmps.getD 54 undef = .bool true:=(hpre { on:=13,ground:=.data } (by simp) rfl).2
    have q56 : a'.tmps.getD 56 undef = undef:=(hpre { on:=15,ground:=.data } (by simp) rfl).2
    have e54:=rg_ev q54
    have e56:=rg_ev q56
    exact rg_same4 (.bool true) (by unfold Oper.wp execOp; go_simp; all_goals ((try simp only [e54,e56]); (try go_simp); (try rw [if_pos (by omega)]); (try rw [if_neg (by omega)]); first | done | rfl | exact ⟨rfl,rfl⟩ | trivial)) (by simp) rfl (hT.step 16 (by decide)) (fun j v' h => h)
   | 17,ho,_ =>
    cases ho
    have q8 : a'.tmps.getD 8 undef = .string jb:=(hrest 8 (fun i hi => (ofNot i hi).2.2.2.1))
    have e8:=rg_ev q8
    exact rg_same4 (.string jb) (by unfold Oper.wp execOp; go_simp; all_goals ((try simp only [e8]); (try go_simp); (try rw [if_pos (by omega)]); (try rw [if_neg (by omega)]); first | done | rfl | exact ⟨rfl,rfl⟩ | trivial)) (by simp) rfl (hT.step 17 (by decide)) (fun j v' h => h)
   | 18,ho,_ =>
    cases ho
    have q44 : a'.tmps.getD 44 undef = .string mb:=(hpre { on:=3,ground:=.data } (by simp) rfl).2
    have q48 : a'.tmps.getD 48 undef = .agg #[.slice p1 n1 c1,.slice q1 k1 d1]:=(hpre { on:=7,ground:=.data } (by simp) rfl).2
    have q50 : a'.tmps.getD 50 undef = .bool ob:=(hpre { on:=9,ground:=.data } (by simp) rfl).2
    have q52 : a'.tmps.getD 52 undef = .bool (decide ((0 : Int) < (k : Int))):=(hpre { on:=11,ground:=.data } (by simp) rfl).2
    have q57 : a'.tmps.getD 57 undef = .bool true:=(hpre { on:=16,ground:=.data } (by simp) rfl).2
    have q58 : a'.tmps.getD 58 undef = .string jb:=(hpre { on:=17,ground:=.data } (by simp) rfl).2
    have e44:=rg_ev q44
    have e48:=rg_ev q48
    have e50:=rg_ev q50
    have e52:=rg_ev q52
    have e57:=rg_ev q57
    have e58:=rg_ev q58
    exact rg_same4 (.agg #[.string mb,.slice p1 n1 c1,.slice q1 k1 d1,.bool ob,.bool (decide ((0 : Int) < (k : Int))),.bool true,.string jb]) (by unfold Oper.wp execOp; go_simp; all_goals ((try simp only [e44,e48,e50,e52,e57,e58]); (try go_simp); (try rw [if_pos (by omega)]); (try rw [if_neg (by omega)]); first | done | rfl | exact ⟨rfl,rfl⟩ | trivial)) (by simp) rfl (hT.step 18 (by decide)) (fun j v' h => h)
   | 19,ho,_ =>
    cases ho
    have q7 : a'.tmps.getD 7 undef = .int .i64 200:=(hrest 7 (fun i hi => (ofNot i hi).2.2.1))
    have e7:=rg_ev q7
    exact rg_same4 (.int .i64 200) (by unfold Oper.wp execOp; go_simp; all_goals ((try simp only [e7]); (try go_simp); (try rw [if_pos (by omega)]); (try rw [if_neg (by omega)]); first | done | rfl | exact ⟨rfl,rfl⟩ | trivial)) (by simp) rfl (hT.step 19 (by decide)) (fun j v' h => h)
   | 20,ho,_ =>
    cases ho
    have q2 : a'.tmps.getD 2 undef = .pointer (some ⟨R,0,none⟩):=(hrest 2 (fun i hi => (ofNot i hi).1))
    have q59 : a'.tmps.getD 59 undef = .agg #[.string mb,.slice p1 n1 c1,.slice q1 k1 d1,.bool ob,.bool (decide ((0 : Int) < (k : Int))),.bool true,.string jb]:=(hpre { on:=18,ground:=.data } (by simp) rfl).2
    have e2:=rg_ev q2
    have e59:=rg_ev q59
    obtain ⟨x0,x1,x2,x3,x4,x5,x6,hz⟩:=rqC_cells (show W.heap[R]? = some (rqC _ _ _ _ _ _ _) from hT.yet hfi)
    have z0:=hz 0
    have z1:=hz 1
    have z2:=hz 2
    have z3:=hz 3
    have z4:=hz 4
    have z5:=hz 5
    have z6:=hz 6
    have TN:=hT.done hfi
    unfold rqPut at TN
    have HTN:=Lib.hid TN
    clear TN hz hT
    unfold Oper.wp execOp
    go_simp
    (try simp only [e59])
    (try go_simp)
    first | done | (refine ⟨trivial,?_,fun j _ h => h⟩; have h:=HTN.out; simpa using h)
   | 21,ho,_ =>
    cases ho
    have q60 : a'.tmps.getD 60 undef = .int .i64 200:=(hpre { on:=19,ground:=.data } (by simp) rfl).2
    have e60:=rg_ev q60
    exact rg_same4 (.int .i64 200) (by unfold Oper.wp execOp; go_simp; all_goals ((try simp only [e60]); (try go_simp); (try rw [if_pos (by omega)]); (try rw [if_neg (by omega)]); first | done | rfl | exact ⟨rfl,rfl⟩ | trivial)) (by simp) rfl (hT.step 21 (by decide)) (fun j v' h => h)
   | 22,ho,_ =>
    cases ho
    exact rg_same4 (.int .i64 0) (by unfold Oper.wp execOp; go_simp; all_goals ((try simp only []); (try go_simp); (try rw [if_pos (by omega)]); (try rw [if_neg (by omega)]); first | done | rfl | exact ⟨rfl,rfl⟩ | trivial)) (by simp) rfl (hT.step 22 (by decide)) (fun j v' h => h)
   | n + 23,ho,_ => exact absurd ho (by simp)
  case done =>
   intro f vs W hall hT hvs
   have v0 : vs 0 = .pointer (some ⟨L,0,none⟩):=hvs 0 (by decide)
   have v1 : vs 1 = .pointer (some ⟨L,0,none⟩):=hvs 1 (by decide)
   have v2 : vs 2 = .pointer (some ⟨L,2,none⟩):=hvs 2 (by decide)
   have v3 : vs 3 = .string mb:=hvs 3 (by decide)
   have v4 : vs 4 = .pointer (some ⟨L,0,none⟩):=hvs 4 (by decide)
   have v5 : vs 5 = .pointer (some ⟨L,0,none⟩):=hvs 5 (by decide)
   have v6 : vs 6 = .pointer (some ⟨L,4,none⟩):=hvs 6 (by decide)
   have v7 : vs 7 = .agg #[.slice p1 n1 c1,.slice q1 k1 d1]:=hvs 7 (by decide)
   have v8 : vs 8 = .pointer (some ⟨L,0,none⟩):=hvs 8 (by decide)
   have v9 : vs 9 = .bool ob:=hvs 9 (by decide)
   have v10 : vs 10 = .int .i64 (k : Int):=hvs 10 (by decide)
   have v11 : vs 11 = .bool (decide ((0 : Int) < (k : Int))):=hvs 11 (by decide)
   have v12 : vs 12 = .bool true:=hvs 12 (by decide)
   have v13 : vs 13 = .bool true:=hvs 13 (by decide)
   have v14 : vs 14 = undef:=hvs 14 (by decide)
   have v15 : vs 15 = undef:=hvs 15 (by decide)
   have v16 : vs 16 = .bool true:=hvs 16 (by decide)
   have v17 : vs 17 = .string jb:=hvs 17 (by decide)
   have v18 : vs 18 = .agg #[.string mb,.slice p1 n1 c1,.slice q1 k1 d1,.bool ob,.bool (decide ((0 : Int) < (k : Int))),.bool true,.string jb]:=hvs 18 (by decide)
   have v19 : vs 19 = .int .i64 200:=hvs 19 (by decide)
   obtain ⟨z20,v20⟩ : ∃ z,vs 20 = z:=⟨_,rfl⟩
   have v21 : vs 21 = .int .i64 200:=hvs 21 (by decide)
   have v22 : vs 22 = .int .i64 0:=hvs 22 (by decide)
   simp only [fillN,List.size_toArray,List.length_cons,List.length_nil,Nat.reduceAdd,show List.range 23 = [0,1,2,3,4,5,6,7,8,9,10,11,12,13,14,15,16,17,18,19,20,21,22] from rfl,List.foldl_cons,List.foldl_nil,show ofSlot 0 = 41 from rfl,show ofSlot 1 = 42 from rfl,show ofSlot 2 = 43 from rfl,show ofSlot 3 = 44 from rfl,show ofSlot 4 = 45 from rfl,show ofSlot 5 = 46 from rfl,show ofSlot 6 = 47 from rfl,show ofSlot 7 = 48 from rfl,show ofSlot 8 = 49 from rfl,show ofSlot 9 = 50 from rfl,show ofSlot 10 = 51 from rfl,show ofSlot 11 = 52 from rfl,show ofSlot 12 = 53 from rfl,show ofSlot 13 = 54 from rfl,show ofSlot 14 = 55 from rfl,show ofSlot 15 = 56 from rfl,show ofSlot 16 = 57 from rfl,show ofSlot 17 = 58 from rfl,show ofSlot 18 = 59 from rfl,show ofSlot 19 = 60 from rfl,show ofSlot 20 = 13 from rfl,show ofSlot 21 = 3 from rfl,show ofSlot 22 = 4 from rfl,v0,v1,v2,v3,v4,v5,v6,v7,v8,v9,v10,v11,v12,v13,v14,v15,v16,v17,v18,v19,v20,v21,v22]
   clear v0 v1 v2 v3 v4 v5 v6 v7 v8 v9 v10 v11 v12 v13 v14 v15 v16 v17 v18 v19 v20 v21 v22 hvs
   have hRW:=hT.put (hall 20 (by decide))
   obtain ⟨y0,y1,y2,y3,y4,y5,y6,_⟩:=rqC_cells hRW
   have HBF:=Lib.hid (show Below w.heap.size w W from HBW7.out.trans (hT.bel.mono (by rw [← HRA.out,HA.out]; exact Nat.le_succ _)))
   have HTF:=Lib.hid (show SwRow W (.slice p1 n1 c1) g.1 from HT7.out.keep (t:=38) HR7.out (by decide) hT.oth)
   have HPF:=Lib.hid (show PrRow W (.slice q1 k1 d1) g.2 from HP7.out.keep (t:=38) HR7.out (by decide) hT.oth)
   clear hRW hT hall
   go_simp
   go_wp2_with fail
   exact bodyPost_ret (v:=.tuple #[rqV mb (.slice p1 n1 c1) (.slice q1 k1 d1) ob (decide ((0 : Int) < (k : Int))) true jb,.int .i64 200,.int .i64 0]) (by simp [rqV,results,Tryz.results11,go_sem,y0,y1,y2,y3,y4,y5,y6]) rfl ⟨by
    have h:=OfO.yes HOK.out HST.out (HLI.out.trans HIN.out) HMB.out HOB.out HKK.out HCC.out HJB.out HTF.out HPF.out
    simpa using h,HBF.out⟩
 | false =>
  refine region_slots6 ofSlot (ofFB L p1 q1 n1 c1 k1 d1 k mb jb ob) (ofT w7 R (rqC mb (.slice p1 n1 c1) (.slice q1 k1 d1) ob (decide ((0 : Int) < (k : Int))) ob jb)) (fun i => true) (by kernel_rfl) (by kernel_rfl) (fun i => Nat.lt_of_lt_of_le (ofSlot_lt i) (by show 61 ≤ _; simp)) (fun i j hi hj h => ofSlot_inj i j hi hj h) ?start ?dst ?gu ?ng ?skip ?step ?done
  case start => exact ⟨rfl,fun _ => HR7.out,fun e => (by cases e),fun _ _ => rfl,(Below.refl _ _).drew⟩
  case dst =>
   intro i o ho
   match i,ho with
   | 0,ho => cases ho; exact .inl rfl
   | 1,ho => cases ho; exact .inl rfl
   | 2,ho => cases ho; exact .inl rfl
   | 3,ho => cases ho; exact .inl rfl
   | 4,ho => cases ho; exact .inl rfl
   | 5,ho => cases ho; exact .inl rfl
   | 6,ho => cases ho; exact .inl rfl
   | 7,ho => cases ho; exact .inl rfl
   | 8,ho => cases ho; exact .inl rfl
   | 9,ho => cases ho; exact .inl rfl
   | 10,ho => cases ho; exact .inl rfl
   | 11,ho => cases ho; exact .inl rfl
   | 12,ho => cases ho; exact .inl rfl
   | 13,ho => cases ho; exact .inl rfl
   | 14,ho => cases ho; exact .inl rfl
   | 15,ho => cases ho; exact .inl rfl
   | 16,ho => cases ho; exact .inl rfl
   | 17,ho => cases ho; exact .inl rfl
   | 18,ho => cases ho; exact .inl rfl
   | 19,ho => cases ho; exact .inl rfl
   | 20,ho => cases ho; exact .inr rfl
   | 21,ho => cases ho; exact .inl rfl
   | 22,ho => cases ho; exact .inl rfl
   | n + 23,ho => exact absurd ho (by simp)
  case gu =>
   intro i o g b ho hgd
   match i,ho with
   | 0,ho => cases ho; cases hgd
   | 1,ho => cases ho; cases hgd
   | 2,ho => cases ho; cases hgd
   | 3,ho => cases ho; cases hgd
   | 4,ho => cases ho; cases hgd
   | 5,ho => cases ho; cases hgd
   | 6,ho => cases ho; cases hgd
   | 7,ho => cases ho; cases hgd
   | 8,ho => cases ho; cases hgd
   | 9,ho => cases ho; cases hgd
   | 10,ho => cases ho; cases hgd
   | 11,ho => cases ho; cases hgd
   | 12,ho => cases ho; cases hgd
   | 13,ho => cases ho; cases hgd
   | 14,ho => cases ho; cases hgd; exact ⟨fun o' h' => by cases h'; rfl,fun f W v hv => .inl hv⟩
   | 15,ho => cases ho; cases hgd; exact ⟨fun o' h' => by cases h'; rfl,fun f W v hv => .inl hv⟩
   | 16,ho => cases ho; cases hgd
   | 17,ho => cases ho; cases hgd
   | 18,ho => cases ho; cases hgd
   | 19,ho => cases ho; cases hgd
   | 20,ho => cases ho; cases hgd
   | 21,ho => cases ho; cases hgd
   | 22,ho => cases ho; cases hgd
   | n + 23,ho => exact absurd ho (by simp)
  case ng =>
   intro i o ho hgd
   match i,ho with
   | 0,ho => cases ho; first | rfl | cases hgd
   | 1,ho => cases ho; first | rfl | cases hgd
   | 2,ho => cases ho; first | rfl | cases hgd
   | 3,ho => cases ho; first | rfl | cases hgd
   | 4,ho => cases ho; first | rfl | cases hgd
   | 5,ho => cases ho; first | rfl | cases hgd
   | 6,ho => cases ho; first | rfl | cases hgd
   | 7,ho => cases ho; first | rfl | cases hgd
   | 8,ho => cases ho; first | rfl | cases hgd
   | 9,ho => cases ho; first | rfl | cases hgd
   | 10,ho => cases ho; first | rfl | cases hgd
   | 11,ho => cases ho; first | rfl | cases hgd
   | 12,ho => cases ho; first | rfl | cases hgd
   | 13,ho => cases ho; first | rfl | cases hgd
   | 14,ho => cases ho; first | rfl | cases hgd
   | 15,ho => cases ho; first | rfl | cases hgd
   | 16,ho => cases ho; first | rfl | cases hgd
   | 17,ho => cases ho; first | rfl | cases hgd
   | 18,ho => cases ho; first | rfl | cases hgd
   | 19,ho => cases ho; first | rfl | cases hgd
   | 20,ho => cases ho; first | rfl | cases hgd
   | 21,ho => cases ho; first | rfl | cases hgd
   | 22,ho => cases ho; first | rfl | cases hgd
   | n + 23,ho => exact absurd ho (by simp)
  case skip =>
   intro f W i o ho hsel hT
   match i,ho,hsel with
   | 0,ho,hsel => exact absurd hsel (by decide)
   | 1,ho,hsel => exact absurd hsel (by decide)
   | 2,ho,hsel => exact absurd hsel (by decide)
   | 3,ho,hsel => exact absurd hsel (by decide)
   | 4,ho,hsel => exact absurd hsel (by decide)
   | 5,ho,hsel => exact absurd hsel (by decide)
   | 6,ho,hsel => exact absurd hsel (by decide)
   | 7,ho,hsel => exact absurd hsel (by decide)
   | 8,ho,hsel => exact absurd hsel (by decide)
   | 9,ho,hsel => exact absurd hsel (by decide)
   | 10,ho,hsel => exact absurd hsel (by decide)
   | 11,ho,hsel => exact absurd hsel (by decide)
   | 12,ho,hsel => exact absurd hsel (by decide)
   | 13,ho,hsel => exact absurd hsel (by decide)
   | 14,ho,hsel => exact absurd hsel (by decide)
   | 15,ho,hsel => exact absurd hsel (by decide)
   | 16,ho,hsel => exact absurd hsel (by decide)
   | 17,ho,hsel => exact absurd hsel (by decide)
   | 18,ho,hsel => exact absurd hsel (by decide)
   | 19,ho,hsel => exact absurd hsel (by decide)
   | 20,ho,hsel => exact absurd hsel (by decide)
   | 21,ho,hsel => exact absurd hsel (by decide)
   | 22,ho,hsel => exact absurd hsel (by decide)
   | n + 23,ho,_ => exact absurd ho (by simp)
  case step =>
   intro f a' W i o ho hsel hfi hpre hT hrest
   have hR : ∀ j m,j ≠ R → W.cell? ⟨j,m,none⟩ = w7.cell? ⟨j,m,none⟩:=fun j m hj => by simp only [World.cell?,hT.oth j hj]
   have hLW:=(hT.oth L HLR.out).trans HL7.out
   match i,ho,hsel with
   | 0,ho,_ =>
    cases ho
    have q6 : a'.tmps.getD 6 undef = .pointer (some ⟨L,0,none⟩):=(hrest 6 (fun i hi => (ofNot i hi).2.1))
    have e6:=rg_ev q6
    exact rg_same4 (.pointer (some ⟨L,0,none⟩)) (by unfold Oper.wp execOp; go_simp; all_goals ((try simp only [e6]); (try go_simp); (try rw [if_pos (by omega)]); (try rw [if_neg (by omega)]); first | done | rfl | exact ⟨rfl,rfl⟩ | trivial)) (by simp) rfl (hT.step 0 (by decide)) (fun j v' h => h)
   | 1,ho,_ =>
    cases ho
    have q41 : a'.tmps.getD 41 undef = .pointer (some ⟨L,0,none⟩):=(hpre { on:=0,ground:=.data } (by simp) rfl).2
    have e41:=rg_ev q41
    exact rg_same4 (.pointer (some ⟨L,0,none⟩)) (by unfold Oper.wp execOp; go_simp; all_goals ((try simp only [e41]); (try go_simp); (try rw [if_pos (by omega)]); (try rw [if_neg (by omega)]); first | done | rfl | exact ⟨rfl,rfl⟩ | trivial)) (by simp) rfl (hT.step 1 (by decide)) (fun j v' h => h)
   | 2,ho,_ =>
    cases ho
    have q42 : a'.tmps.getD 42 undef = .pointer (some ⟨L,0,none⟩):=(hpre { on:=1,ground:=.data } (by simp) rfl).2
    have e42:=rg_ev q42
    exact rg_same4 (.pointer (some ⟨L,2,none⟩)) (by unfold Oper.wp execOp; go_simp; all_goals ((try simp only [e42]); (try go_simp); (try rw [if_pos (by omega)]); (try rw [if_neg (by omega)]); first | done | rfl | exact ⟨rfl,rfl⟩ | trivial)) (by simp) rfl (hT.step 2 (by decide)) (fun j v' h => h)
   | 3,ho,_ =>
    cases ho
    have q43 : a'.tmps.getD 43 undef = .pointer (some ⟨L,2,none⟩):=(hpre { on:=2,ground:=.data } (by simp) rfl).2
    have e43:=rg_ev q43
    have hc : W.cell? ⟨L,2,none⟩ = some (.string mb):=by simp [World.cell?,hLW,lkC]
    exact rg_same4 (.string mb) (by unfold Oper.wp execOp; go_simp; all_goals ((try simp only [e43]); (try go_simp); (try rw [if_pos (by omega)]); (try rw [if_neg (by omega)]); first | done | rfl | exact ⟨rfl,rfl⟩ | trivial)) (by simp) rfl (hT.step 3 (by decide)) (fun j v' h => h)
   | 4,ho,_ =>
    cases ho
    have q6 : a'.tmps.getD 6 undef = .pointer (some ⟨L,0,none⟩):=(hrest 6 (fun i hi => (ofNot i hi).2.1))
    have e6:=rg_ev q6
    exact rg_same4 (.pointer (some ⟨L,0,none⟩)) (by unfold Oper.wp execOp; go_simp; all_goals ((try simp only [e6]); (try go_simp); (try rw [if_pos (by omega)]); (try rw [if_neg (by omega)]); first | done | rfl | exact ⟨rfl,rfl⟩ | trivial)) (by simp) rfl (hT.step 4 (by decide)) (fun j v' h => h)
   | 5,ho,_ =>
    cases ho
    have q45 : a'.tmps.getD 45 undef = .pointer (some ⟨L,0,none⟩):=(hpre { on:=4,ground:=.data } (by simp) rfl).2
    have e45:=rg_ev q45
    exact rg_same4 (.pointer (some ⟨L,0,none⟩)) (by unfold Oper.wp execOp; go_simp; all_goals ((try simp only [e45]); (try go_simp); (try rw [if_pos (by omega)]); (try rw [if_neg (by omega)]); first | done | rfl | exact ⟨rfl,rfl⟩ | trivial)) (by simp) rfl (hT.step 5 (by decide)) (fun j v' h => h)
   | 6,ho,_ =>
    cases ho
    have q46 : a'.tmps.getD 46 undef = .pointer (some ⟨L,0,none⟩):=(hpre { on:=5,ground:=.data } (by simp) rfl).2
    have e46:=rg_ev q46
    exact rg_same4 (.pointer (some ⟨L,4,none⟩)) (by unfold Oper.wp execOp; go_simp; all_goals ((try simp only [e46]); (try go_simp); (try rw [if_pos (by omega)]); (try rw [if_neg (by omega)]); first | done | rfl | exact ⟨rfl,rfl⟩ | trivial)) (by simp) rfl (hT.step 6 (by decide)) (fun j v' h => h)
   | 7,ho,_ =>
    cases ho
    have q47 : a'.tmps.getD 47 undef = .pointer (some ⟨L,4,none⟩):=(hpre { on:=6,ground:=.data } (by simp) rfl).2
    have e47:=rg_ev q47
    have hc : W.cell? ⟨L,4,none⟩ = some (.slice p1 n1 c1):=by simp [World.cell?,hLW,lkC]
    have hc2 : W.cell? ⟨L,5,none⟩ = some (.slice q1 k1 d1):=by simp [World.cell?,hLW,lkC]
    exact rg_same4 (.agg #[.slice p1 n1 c1,.slice q1 k1 d1]) (by unfold Oper.wp execOp; go_simp; all_goals ((try simp only [e47]); (try go_simp); (try rw [if_pos (by omega)]); (try rw [if_neg (by omega)]); first | done | rfl | exact ⟨rfl,rfl⟩ | trivial)) (by simp) rfl (hT.step 7 (by decide)) (fun j v' h => h)
   | 8,ho,_ =>
    cases ho
    have q6 : a'.tmps.getD 6 undef = .pointer (some ⟨L,0,none⟩):=(hrest 6 (fun i hi => (ofNot i hi).2.1))
    have e6:=rg_ev q6
    exact rg_same4 (.pointer (some ⟨L,0,none⟩)) (by unfold Oper.wp execOp; go_simp; all_goals ((try simp only [e6]); (try go_simp); (try rw [if_pos (by omega)]); (try rw [if_neg (by omega)]); first | done | rfl | exact ⟨rfl,rfl⟩ | trivial)) (by simp) rfl (hT.step 8 (by decide)) (fun j v' h => h)
   | 9,ho,_ =>
    cases ho
    have q49 : a'.tmps.getD 49 undef = .pointer (some ⟨L,0,none⟩):=(hpre { on:=8,ground:=.data } (by simp) rfl).2
    refine rg_call 49 32 _ _ _ rfl q49 (enters_of Tryz.func32 (by kernel_rfl) rfl) (KO.out W hLW) (fun e w' h => ?_)
    obtain ⟨rfl,rfl⟩:=h
    exact ⟨_,rfl,_,rfl,fun h => absurd h (by simp),rfl,hT.step 9 (by decide),fun j _ h => h⟩
   | 10,ho,_ =>
    cases ho
    have q9 : a'.tmps.getD 9 undef = .int .i64 (k : Int):=(hrest 9 (fun i hi => (ofNot i hi).2.2.2.2.1))
    have e9:=rg_ev q9
    exact rg_same4 (.int .i64 (k : Int)) (by unfold Oper.wp execOp; go_simp; all_goals ((try simp only [e9]); (try go_simp); (try rw [if_pos (by omega)]); (try rw [if_neg (by omega)]); first | done | rfl | exact ⟨rfl,rfl⟩ | trivial)) (by simp) rfl (hT.step 10 (by decide)) (fun j v' h => h)
   | 11,ho,_ =>
    cases ho
    have q51 : a'.tmps.getD 51 undef = .int .i64 (k : Int):=(hpre { on:=10,ground:=.data } (by simp) rfl).2
    have e51:=rg_ev q51
    exact rg_same4 (.bool (decide ((0 : Int) < (k : Int)))) (by unfold Oper.wp execOp; go_simp; all_goals ((try simp only [e51]); (try go_simp); (try rw [if_pos (by omega)]); (try rw [if_neg (by omega)]); first | done | rfl | exact ⟨rfl,rfl⟩ | trivial)) (by simp) rfl (hT.step 11 (by decide)) (fun j v' h => h)
   | 12,ho,_ =>
    cases ho
    have q12 : a'.tmps.getD 12 undef = .bool false:=(hrest 12 (fun i hi => (ofNot i hi).2.2.2.2.2))
    have e12:=rg_ev q12
    exact rg_same4 (.bool false) (by unfold Oper.wp execOp; go_simp; all_goals ((try simp only [e12]); (try go_simp); (try rw [if_pos (by omega)]); (try rw [if_neg (by omega)]); first | done | rfl | exact ⟨rfl,rfl⟩ | trivial)) (by simp) rfl (hT.step 12 (by decide)) (fun j v' h => h)
   | 13,ho,_ =>
    cases ho
    have q53 : a'.tmps.getD 53 undef = .bool false:=(hpre { on:=12,ground:=.data } (by simp) rfl).2
    have e53:=rg_ev q53
    exact rg_same4 (.bool false) (by unfold Oper.wp execOp; go_simp; all_goals ((try simp only [e53]); (try go_simp); (try rw [if_pos (by omega)]); (try rw [if_neg (by omega)]); first | done | rfl | exact ⟨rfl,rfl⟩ | trivial)) (by simp) rfl (hT.step 13 (by decide)) (fun j v' h => h)
   | 14,ho,_ =>
    cases ho
    have q6 : a'.tmps.getD 6 undef = .pointer (some ⟨L,0,none⟩):=(hrest 6 (fun i hi => (ofNot i hi).2.1))
    have e6:=rg_ev q6
    exact rg_same4 (.pointer (some ⟨L,0,none⟩)) (by unfold Oper.wp execOp; go_simp; all_goals ((try simp only [e6]); (try go_simp); (try rw [if_pos (by omega)]); (try rw [if_neg (by omega)]); first | done | rfl | exact ⟨rfl,rfl⟩ | trivial)) (by simp) rfl (hT.step 14 (by decide)) (fun j v' h => h)
   | 15,ho,_ =>
    cases ho
    have q55 : a'.tmps.getD 55 undef = .pointer (some ⟨L,0,none⟩):=(hpre { on:=14,ground:=.data } (by simp) rfl).2
    refine rg_call 55 32 _ _ _ rfl q55 (enters_of Tryz.func32 (by kernel_rfl) rfl) (KO.out W hLW) (fun e w' h => ?_)
    obtain ⟨rfl,rfl⟩:=h
    exact ⟨_,rfl,_,rfl,fun h => absurd h (by simp),rfl,hT.step 15 (by decide),fun j _ h => h⟩
   | 16,ho,_ =>
    cases ho
    have q54 : a'.tmps.getD 54 undef = .bool false:=(hpre { on:=13,ground:=.data } (by simp) rfl).2
    have q56 : a'.tmps.getD 56 undef = .bool ob:=(hpre { on:=15,ground:=.data } (by simp) rfl).2
    have e54:=rg_ev q54
    have e56:=rg_ev q56
    exact rg_same4 (.bool ob) (by unfold Oper.wp execOp; go_simp; all_goals ((try simp only [e54,e56]); (try go_simp); (try rw [if_pos (by omega)]); (try rw [if_neg (by omega)]); first | done | rfl | exact ⟨rfl,rfl⟩ | trivial)) (by simp) rfl (hT.step 16 (by decide)) (fun j v' h => h)
   | 17,ho,_ =>
    cases ho
    have q8 : a'.tmps.getD 8 undef = .string jb:=(hrest 8 (fun i hi => (ofNot i hi).2.2.2.1))
    have e8:=rg_ev q8
    exact rg_same4 (.string jb) (by unfold Oper.wp execOp; go_simp; all_goals ((try simp only [e8]); (try go_simp); (try rw [if_pos (by omega)]); (try rw [if_neg (by omega)]); first | done | rfl | exact ⟨rfl,rfl⟩ | trivial)) (by simp) rfl (hT.step 17 (by decide)) (fun j v' h => h)
   | 18,ho,_ =>
    cases ho
    have q44 : a'.tmps.getD 44 undef = .string mb:=(hpre { on:=3,ground:=.data } (by simp) rfl).2
    have q48 : a'.tmps.getD 48 undef = .agg #[.slice p1 n1 c1,.slice q1 k1 d1]:=(hpre { on:=7,ground:=.data } (by simp) rfl).2
    have q50 : a'.tmps.getD 50 undef = .bool ob:=(hpre { on:=9,ground:=.data } (by simp) rfl).2
    have q52 : a'.tmps.getD 52 undef = .bool (decide ((0 : Int) < (k : Int))):=(hpre { on:=11,ground:=.data } (by simp) rfl).2
    have q57 : a'.tmps.getD 57 undef = .bool ob:=(hpre { on:=16,ground:=.data } (by simp) rfl).2
    have q58 : a'.tmps.getD 58 undef = .string jb:=(hpre { on:=17,ground:=.data } (by simp) rfl).2
    have e44:=rg_ev q44
    have e48:=rg_ev q48
    have e50:=rg_ev q50
    have e52:=rg_ev q52
    have e57:=rg_ev q57
    have e58:=rg_ev q58
    exact rg_same4 (.agg #[.string mb,.slice p1 n1 c1,.slice q1 k1 d1,.bool ob,.bool (decide ((0 : Int) < (k : Int))),.bool ob,.string jb]) (by unfold Oper.wp execOp; go_simp; all_goals ((try simp only [e44,e48,e50,e52,e57,e58]); (try go_simp); (try rw [if_pos (by omega)]); (try rw [if_neg (by omega)]); first | done | rfl | exact ⟨rfl,rfl⟩ | trivial)) (by simp) rfl (hT.step 18 (by decide)) (fun j v' h => h)
   | 19,ho,_ =>
    cases ho
    have q7 : a'.tmps.getD 7 undef = .int .i64 200:=(hrest 7 (fun i hi => (ofNot i hi).2.2.1))
    have e7:=rg_ev q7
    exact rg_same4 (.int .i64 200) (by unfold Oper.wp execOp; go_simp; all_goals ((try simp only [e7]); (try go_simp); (try rw [if_pos (by omega)]); (try rw [if_neg (by omega)]); first | done | rfl | exact ⟨rfl,rfl⟩ | trivial)) (by simp) rfl (hT.step 19 (by decide)) (fun j v' h => h)
   | 20,ho,_ =>
    cases ho
    have q2 : a'.tmps.getD 2 undef = .pointer (some ⟨R,0,none⟩):=(hrest 2 (fun i hi => (ofNot i hi).1))
    have q59 : a'.tmps.getD 59 undef = .agg #[.string mb,.slice p1 n1 c1,.slice q1 k1 d1,.bool ob,.bool (decide ((0 : Int) < (k : Int))),.bool ob,.string jb]:=(hpre { on:=18,ground:=.data } (by simp) rfl).2
    have e2:=rg_ev q2
    have e59:=rg_ev q59
    obtain ⟨x0,x1,x2,x3,x4,x5,x6,hz⟩:=rqC_cells (show W.heap[R]? = some (rqC _ _ _ _ _ _ _) from hT.yet hfi)
    have z0:=hz 0
    have z1:=hz 1
    have z2:=hz 2
    have z3:=hz 3
    have z4:=hz 4
    have z5:=hz 5
    have z6:=hz 6
    have TN:=hT.done hfi
    unfold rqPut at TN
    have HTN:=Lib.hid TN
    clear TN hz hT
    unfold Oper.wp execOp
    go_simp
    (try simp only [e59])
    (try go_simp)
    first | done | (refine ⟨trivial,?_,fun j _ h => h⟩; have h:=HTN.out; simpa using h)
   | 21,ho,_ =>
    cases ho
    have q60 : a'.tmps.getD 60 undef = .int .i64 200:=(hpre { on:=19,ground:=.data } (by simp) rfl).2
    have e60:=rg_ev q60
    exact rg_same4 (.int .i64 200) (by unfold Oper.wp execOp; go_simp; all_goals ((try simp only [e60]); (try go_simp); (try rw [if_pos (by omega)]); (try rw [if_neg (by omega)]); first | done | rfl | exact ⟨rfl,rfl⟩ | trivial)) (by simp) rfl (hT.step 21 (by decide)) (fun j v' h => h)
   | 22,ho,_ =>
    cases ho
    exact rg_same4 (.int .i64 0) (by unfold Oper.wp execOp; go_simp; all_goals ((try simp only []); (try go_simp); (try rw [if_pos (by omega)]); (try rw [if_neg (by omega)]); first | done | rfl | exact ⟨rfl,rfl⟩ | trivial)) (by simp) rfl (hT.step 22 (by decide)) (fun j v' h => h)
   | n + 23,ho,_ => exact absurd ho (by simp)
  case done =>
   intro f vs W hall hT hvs
   have v0 : vs 0 = .pointer (some ⟨L,0,none⟩):=hvs 0 (by decide)
   have v1 : vs 1 = .pointer (some ⟨L,0,none⟩):=hvs 1 (by decide)
   have v2 : vs 2 = .pointer (some ⟨L,2,none⟩):=hvs 2 (by decide)
   have v3 : vs 3 = .string mb:=hvs 3 (by decide)
   have v4 : vs 4 = .pointer (some ⟨L,0,none⟩):=hvs 4 (by decide)
   have v5 : vs 5 = .pointer (some ⟨L,0,none⟩):=hvs 5 (by decide)
   have v6 : vs 6 = .pointer (some ⟨L,4,none⟩):=hvs 6 (by decide)
   have v7 : vs 7 = .agg #[.slice p1 n1 c1,.slice q1 k1 d1]:=hvs 7 (by decide)
   have v8 : vs 8 = .pointer (some ⟨L,0,none⟩):=hvs 8 (by decide)
   have v9 : vs 9 = .bool ob:=hvs 9 (by decide)
   have v10 : vs 10 = .int .i64 (k : Int):=hvs 10 (by decide)
   have v11 : vs 11 = .bool (decide ((0 : Int) < (k : Int))):=hvs 11 (by decide)
   have v12 : vs 12 = .bool false:=hvs 12 (by decide)
   have v13 : vs 13 = .bool false:=hvs 13 (by decide)
   have v14 : vs 14 = .pointer (some ⟨L,0,none⟩):=hvs 14 (by decide)
   have v15 : vs 15 = .bool ob:=hvs 15 (by decide)
   have v16 : vs 16 = .bool ob:=hvs 16 (by decide)
   have v17 : vs 17 = .string jb:=hvs 17 (by decide)
   have v18 : vs 18 = .agg #[.string mb,.slice p1 n1 c1,.slice q1 k1 d1,.bool ob,.bool (decide ((0 : Int) < (k : Int))),.bool ob,.string jb]:=hvs 18 (by decide)
   have v19 : vs 19 = .int .i64 200:=hvs 19 (by decide)
   obtain ⟨z20,v20⟩ : ∃ z,vs 20 = z:=⟨_,rfl⟩
   have v21 : vs 21 = .int .i64 200:=hvs 21 (by decide)
   have v22 : vs 22 = .int .i64 0:=hvs 22 (by decide)
   simp only [fillN,List.size_toArray,List.length_cons,List.length_nil,Nat.reduceAdd,show List.range 23 = [0,1,2,3,4,5,6,7,8,9,10,11,12,13,14,15,16,17,18,19,20,21,22] from rfl,List.foldl_cons,List.foldl_nil,show ofSlot 0 = 41 from rfl,show ofSlot 1 = 42 from rfl,show ofSlot 2 = 43 from rfl,show ofSlot 3 = 44 from rfl,show ofSlot 4 = 45 from rfl,show ofSlot 5 = 46 from rfl,show ofSlot 6 = 47 from rfl,show ofSlot 7 = 48 from rfl,show ofSlot 8 = 49 from rfl,show ofSlot 9 = 50 from rfl,show ofSlot 10 = 51 from rfl,show ofSlot 11 = 52 from rfl,show ofSlot 12 = 53 from rfl,show ofSlot 13 = 54 from rfl,show ofSlot 14 = 55 from rfl,show ofSlot 15 = 56 from rfl,show ofSlot 16 = 57 from rfl,show ofSlot 17 = 58 from rfl,show ofSlot 18 = 59 from rfl,show ofSlot 19 = 60 from rfl,show ofSlot 20 = 13 from rfl,show ofSlot 21 = 3 from rfl,show ofSlot 22 = 4 from rfl,v0,v1,v2,v3,v4,v5,v6,v7,v8,v9,v10,v11,v12,v13,v14,v15,v16,v17,v18,v19,v20,v21,v22]
   clear v0 v1 v2 v3 v4 v5 v6 v7 v8 v9 v10 v11 v12 v13 v14 v15 v16 v17 v18 v19 v20 v21 v22 hvs
   have hRW:=hT.put (hall 20 (by decide))
   obtain ⟨y0,y1,y2,y3,y4,y5,y6,_⟩:=rqC_cells hRW
   have HBF:=Lib.hid (show Below w.heap.size w W from HBW7.out.trans (hT.bel.mono (by rw [← HRA.out,HA.out]; exact Nat.le_succ _)))
   have HTF:=Lib.hid (show SwRow W (.slice p1 n1 c1) g.1 from HT7.out.keep (t:=38) HR7.out (by decide) hT.oth)
   have HPF:=Lib.hid (show PrRow W (.slice q1 k1 d1) g.2 from HP7.out.keep (t:=38) HR7.out (by decide) hT.oth)
   clear hRW hT hall
   go_simp
   go_wp2_with fail
   exact bodyPost_ret (v:=.tuple #[rqV mb (.slice p1 n1 c1) (.slice q1 k1 d1) ob (decide ((0 : Int) < (k : Int))) ob jb,.int .i64 200,.int .i64 0]) (by simp [rqV,results,Tryz.results11,go_sem,y0,y1,y2,y3,y4,y5,y6]) rfl ⟨by
    have h:=OfO.yes HOK.out HST.out (HLI.out.trans HIN.out) HMB.out HOB.out HKK.out HCC.out HJB.out HTF.out HPF.out
    simpa using h,HBF.out⟩
end Go.Proofs.YtfacmnooklljnaaGreatDoor
namespace Go.Proofs.YtfacmnooklljnaaGreatDoor
open Go.RowKit Go.Shelf
open Go.ChangeMaps (setBlock)
set_option maxHeartbeats 4000000
set_option maxRecDepth 100000
def rfE1 : MapEntry:=⟨.int .i64 0,.int .i64 0,0⟩
def rfE2 : MapEntry:=⟨.int .i64 201,.int .i64 431,1⟩
theorem rmap_put (W : World) (b : Nat) (es : Array MapEntry) (clock : Nat) (k : Int) (v : Value) (hb : W.heap[b]? = some (.map es clock)) (hn : Instr.findNow (.int .i64) (.int .i64 k) es.toList 0 = some none) :
  (Instr.mapUpdate 81 (.map (some b)) (.int .i64 k) v).run Tryz.prog W = .ok () (setBlock W b (.map (es.push ⟨.int .i64 k,v,clock⟩) (clock + 1))):=by
 simp [Instr.mapUpdate,run_underlying Tryz.underlying81,MapKept.run_getObj_map hb,MapKept.run_checkKey (k:=.int .i64 k) Tryz.underlying26 (by simp [MapKept.IsKey]) false 9999,MapKept.run_findKey Tryz.underlying26 hn,MapKept.run_setObj_map _ hb,Result.andThen,setBlock]
theorem rmap_look (W : World) (b : Nat) (es : Array MapEntry) (clock : Nat) (k : Int) (i : Nat) (v : Value) (hb : W.heap[b]? = some (.map es clock)) (hn : Instr.findNow (.int .i64) (.int .i64 k) es.toList 0 = some (some (i,v))) (c : Bool) :
  (Instr.lookup 81 (.map (some b)) (.int .i64 k) c).run Tryz.prog W = .ok (if c then .tuple #[v,.bool true] else v) W:=by
 simp [Instr.lookup,run_underlying Tryz.underlying81,MapKept.run_getObj_map hb,MapKept.run_checkKey (k:=.int .i64 k) Tryz.underlying26 (by simp [MapKept.IsKey]) _ 9999,MapKept.run_findKey Tryz.underlying26 hn,Result.andThen]
theorem setBlock_atR {w : World} {b : Nat} {o o' : Obj} (h : w.heap[b]? = some o) : (setBlock w b o').heap[b]? = some o':=by
 have hb:=(Array.getElem?_eq_some_iff.1 h).1
 simp [setBlock,hb]
theorem setBlock_belowR (w : World) (b B : Nat) (o : Obj) (hB : B ≤ b) : Below B w (setBlock w b o) :=
 ⟨rfl,rfl,rfl,by simp [setBlock],fun k hk => by simp only [setBlock]; rw [Array.getElem?_setIfInBounds_ne]; omega⟩
theorem rq_Refusal (w : World) :
  Calls Tryz.prog 20 #[.int .i64 201] w fun e w' => e = .returned (.int .i64 431) ∧ Below w.heap.size w w':=by
 have hmm:=@run_makeMap Tryz.prog
 have hn:=World.alloc_heap_new w (.map #[] 0)
 have hu1:=rmap_put (w.alloc (.map #[] 0)) w.heap.size #[] 0 0 (.int .i64 0) hn rfl
 obtain ⟨W1,hW1⟩ : ∃ Z,setBlock (w.alloc (.map #[] 0)) w.heap.size (.map (#[].push ⟨.int .i64 0,.int .i64 0,0⟩) (0 + 1)) = Z:=⟨_,rfl⟩
 rw [hW1] at hu1
 have hn1 : W1.heap[w.heap.size]? = some (.map #[rfE1] 1):=by rw [← hW1]; exact setBlock_atR hn
 have hb1 : Below w.heap.size w W1:=by rw [← hW1]; exact ((Below.refl _ _).alloc (Nat.le_refl _) _).trans (setBlock_belowR _ _ _ _ (Nat.le_refl _))
 have hu2:=rmap_put W1 w.heap.size _ 1 201 (.int .i64 431) hn1 rfl
 obtain ⟨W2,hW2⟩ : ∃ Z,setBlock W1 w.heap.size (.map (#[rfE1].push ⟨.int .i64 201,.int .i64 431,1⟩) (1 + 1)) = Z:=⟨_,rfl⟩
 rw [hW2] at hu2
 have hn2 : W2.heap[w.heap.size]? = some (.map #[rfE1,rfE2] 2):=by rw [← hW2]; exact setBlock_atR hn1
 have hlk:=rmap_look W2 w.heap.size _ 2 201 1 (.int .i64 431) hn2 rfl true
 have HB:=Lib.hid (show Below w.heap.size w W2 by rw [← hW2]; exact hb1.trans (setBlock_belowR _ _ _ _ (Nat.le_refl _)))
 rw [if_pos rfl] at hlk
 clear hn hn1 hb1 hW1 hW2 hn2
 go_enter Tryz.func20,Tryz.ntmps20
 go_wp2_with fail
 exact bodyPost_ret (v:=.int .i64 431) (by simp [results,Tryz.results20,go_sem]) rfl ⟨rfl,HB.out⟩
end Go.Proofs.YtfacmnooklljnaaGreatDoor
namespace Go.Proofs.YtfacmnooklljnaaGreatDoor
open Go.RowKit Go.Shelf
set_option maxHeartbeats 8000000
set_option maxRecDepth 100000
namespace Rs
def okR (r : Rep) : Prop:=(100 ≤ r.1 ∧ r.1 ≤ 599) ∧ ¬ (r.2.2.1 = true ∧ r.2.2.2.1 = true) ∧ ¬ (0 < r.2.2.2.2 ∧ r.2.2.2.1 = false)
instance (r : Rep) : Decidable (okR r):=by unfold okR; infer_instance
def line (r : Rep) : List UInt8:=Hp.http ++ Dp.digs 10 r.1.toNat ++ [32,120]
def flds (r : Rep) : List Hp.Hd:=(if r.2.1 then [(Hp.ct,Hp.es)] else []) ++ (if r.2.2.1 then [(Hp.te,Hp.ch)] else []) ++ (if r.2.2.2.1 then [(Hp.cl,Dp.digs 10 r.2.2.2.2.toNat)] else [])
def head (r : Rep) : Option (List UInt8 × List Hp.Hd):=if okR r then some (line r,flds r) else none
end Rs
def HdCells (w : World) (g : Nat) (L : List (Bool × Value × Value)) : Prop:=∀ k,k < 3 → w.cell? ⟨g,k * 3,none⟩ = some (.bool (L.getD k (false,undef,undef)).1) ∧ w.cell? ⟨g,k * 3 + 1,none⟩ = some (L.getD k (false,undef,undef)).2.1 ∧ w.cell? ⟨g,k * 3 + 2,none⟩ = some (L.getD k (false,undef,undef)).2.2
theorem HdCells.below {w w' : World} {g : Nat} {L : List (Bool × Value × Value)} (h : HdCells w g L) (hb : Below w.heap.size w w') : HdCells w' g L :=
 fun k hk => ⟨cell_below hb (h k hk).1,cell_below hb (h k hk).2.1,cell_below hb (h k hk).2.2⟩
theorem own_setQ {w : World} {B A i s n : Nat} {e : TypeId} {v x : Value} {xs : List Value} (h : w.ownsRow B e s v n xs) (hA : A < B) : (w.setCell ⟨A,i,none⟩ x).ownsRow B e s v n xs:=by
 refine ⟨h.1,h.2.imp id ?_⟩
 rintro ⟨g,cap,cur,e1,e2,e3,e4⟩
 exact ⟨g,cap,cur,e1,e2,(Below.heap_setCell _ _ _ _ (by show g ≠ A; omega)).trans e3,e4⟩
theorem hd_stored {w : World} {A : Nat} {a b : Value} (h : w.heap[A]? = some (.cells #[a,b] 25 (0,0))) (x y : Value) :
  ((w.setCell ⟨A,0,none⟩ x).setCell ⟨A,1,none⟩ y).cell? ⟨A,0,none⟩ = some x ∧ ((w.setCell ⟨A,0,none⟩ x).setCell ⟨A,1,none⟩ y).cell? ⟨A,1,none⟩ = some y:=by
 have h1:=heap_setCell_same w A 0 _ _ x h
 have h2:=heap_setCell_same _ A 1 _ _ y h1
 exact ⟨by simp [World.cell?,h2],by simp [World.cell?,h2]⟩
end Go.Proofs.YtfacmnooklljnaaGreatDoor
namespace Go.Proofs.YtfacmnooklljnaaGreatDoor
open Go.RowKit Go.Shelf
set_option maxHeartbeats 8000000
set_option maxRecDepth 100000
structure PuH (w0 : World) (D B n : Nat) (fb : ByteArray) (V0 : Value) (xs : List Value) (f : Nat → Bool) (w : World) : Prop where
 bel : Below B w0 w
 an : w.heap[D]? = some (.cells #[.string fb,V0] 25 (0,0))
 oth : ∀ (k : Nat) (cs : Array Value) (t : TypeId),t ≠ 59 → w0.heap[k]? = some (.cells cs t (0,0)) → w.heap[k]? = some (.cells cs t (0,0))
 own : f 7 = false → w.ownsRow B 59 2 V0 n xs
 n1 : f 1 = false → f 7 = false
 n6 : f 6 = false → f 7 = false
theorem PuH.step {w0 w : World} {D B n : Nat} {fb : ByteArray} {V0 : Value} {xs : List Value} {f : Nat → Bool} {i : Nat} (h : PuH w0 D B n fb V0 xs f w) (h1 : i ≠ 7) : PuH w0 D B n fb V0 xs (fun j => if j = i then true else f j) w:=by
 refine ⟨h.bel,h.an,h.oth,fun h3 => h.own (by simpa [Ne.symm h1] using h3),fun h3 => ?_,fun h3 => ?_⟩
 ·have : f 1 = false:=by by_cases e : 1 = i <;> simp_all
  simpa [Ne.symm h1] using h.n1 this
 ·have : f 6 = false:=by by_cases e : 6 = i <;> simp_all
  simpa [Ne.symm h1] using h.n6 this
theorem PuH.alloc {w0 w : World} {D B n : Nat} {fb : ByteArray} {V0 : Value} {xs : List Value} {f : Nat → Bool} (h : PuH w0 D B n fb V0 xs f w) (hB : B ≤ w.heap.size) (ob : Obj) : PuH w0 D B n fb V0 xs f (w.alloc ob) :=
 ⟨h.bel.alloc hB _,heap_alloc_old' _ h.an,fun k cs t ht hk => heap_alloc_old' _ (h.oth k cs t ht hk),fun h3 => (h.own h3).alloc _,h.n1,h.n6⟩
end Go.Proofs.YtfacmnooklljnaaGreatDoor
namespace Go.Proofs.YtfacmnooklljnaaGreatDoor
open Go.RowKit Go.Shelf
set_option maxHeartbeats 8000000
set_option maxRecDepth 100000
def roF (D B m G n c k : Nat) (nb vb : ByteArray) (V1 : Value) (xs : List Value) : Nat → World → Value → Prop
 | 0,_,v => v = .pointer (some ⟨D,1,none⟩)
 | 1,_,v => v = V1
 | 2,_,v => v = .slice (some ⟨G,0,none⟩) n c
 | 3,_,v => v = .int .i64 (k : Int)
 | 4,_,v => v = .pointer (some ⟨G,k,none⟩)
 | 5,_,v => v = .string nb
 | 6,_,v => v = .slice (some ⟨G,0,none⟩) n c
 | 7,_,v => v = .int .i64 (k : Int)
 | 8,_,v => v = .int .i64 ((k : Int) + 1)
 | 9,_,v => v = .pointer (some ⟨G,k + 1,none⟩)
 | 10,_,v => v = .string vb
 | 11,_,v => v = .agg #[.string nb,.string vb]
 | 12,w,v => ∃ g,v = .slice (some ⟨g,0,none⟩) 1 1 ∧ w.heap[g]? = some (.cells #[.string nb,.string vb] 59 (0,0)) ∧ some g ≠ V1.ownBlock
 | 13,w,v => w.ownsRow B 59 2 v (m + 1) (xs ++ [.string nb,.string vb])
 | 14,_,v => v = .pointer (some ⟨D,1,none⟩)
 | _,_,_ => False
theorem roF_alloc {D B m G n c k : Nat} {nb vb : ByteArray} {V1 : Value} {xs : List Value} {w : World} (j : Nat) (ob : Obj) (v : Value) (h : roF D B m G n c k nb vb V1 xs j w v) : roF D B m G n c k nb vb V1 xs j (w.alloc ob) v:=by
 match j,h with
 | 0,h | 1,h | 2,h | 3,h | 4,h | 5,h | 6,h | 7,h | 8,h | 9,h | 10,h | 11,h | 14,h => exact h
 | 12,⟨g,h1,h2,h3⟩ => exact ⟨g,h1,heap_alloc_old' _ h2,h3⟩
 | 13,h => exact World.ownsRow.alloc h _
 | n + 15,h => exact h.elim
structure PuG (al nx : Nat) (w0 : World) (D B n : Nat) (fb : ByteArray) (V0 : Value) (xs : List Value) (f : Nat → Bool) (w : World) : Prop where
 bel : Below B w0 w
 an : w.heap[D]? = some (.cells #[.string fb,V0] 25 (0,0))
 oth : ∀ (k : Nat) (cs : Array Value) (t : TypeId),t ≠ 59 → w0.heap[k]? = some (.cells cs t (0,0)) → w.heap[k]? = some (.cells cs t (0,0))
 own : f al = false → w.ownsRow B 59 2 V0 n xs
 n1 : f 1 = false → f al = false
 n6 : f nx = false → f al = false
theorem PuG.step {al nx : Nat} {w0 w : World} {D B n : Nat} {fb : ByteArray} {V0 : Value} {xs : List Value} {f : Nat → Bool} {i : Nat} (h : PuG al nx w0 D B n fb V0 xs f w) (h1 : i ≠ al) : PuG al nx w0 D B n fb V0 xs (fun j => if j = i then true else f j) w:=by
 refine ⟨h.bel,h.an,h.oth,fun h3 => h.own (by simpa [Ne.symm h1] using h3),fun h3 => ?_,fun h3 => ?_⟩
 ·have : f 1 = false:=by by_cases e : 1 = i <;> simp_all
  simpa [Ne.symm h1] using h.n1 this
 ·have : f nx = false:=by by_cases e : nx = i <;> simp_all
  simpa [Ne.symm h1] using h.n6 this
theorem PuG.alloc {al nx : Nat} {w0 w : World} {D B n : Nat} {fb : ByteArray} {V0 : Value} {xs : List Value} {f : Nat → Bool} (h : PuG al nx w0 D B n fb V0 xs f w) (hB : B ≤ w.heap.size) (ob : Obj) : PuG al nx w0 D B n fb V0 xs f (w.alloc ob) :=
 ⟨h.bel.alloc hB _,heap_alloc_old' _ h.an,fun k cs t ht hk => heap_alloc_old' _ (h.oth k cs t ht hk),fun h3 => (h.own h3).alloc _,h.n1,h.n6⟩
end Go.Proofs.YtfacmnooklljnaaGreatDoor
namespace Go.Proofs.YtfacmnooklljnaaGreatDoor
open Go.RowKit Go.Shelf
set_option maxHeartbeats 8000000
set_option maxRecDepth 100000
theorem law_of13 (fb : ByteArray) (G n c : Nat) (p : Option Addr) (ps : List Hp.Hd) (w : World) (hn : n = ps.length * 2) (hnc : n ≤ c ∧ c ≤ 1000) (hG : 0 < n → p = some ⟨G,0,none⟩ ∧ w.heap[G]? = some (.cells (hds ps).toArray 9 (0,0))) (hl : ps.length ≤ 100) :
  Calls Tryz.prog 18 #[.string fb,.slice p n c] w fun e w' => ∃ v,e = .returned (.agg #[.string fb,v]) ∧ HS w' v ps ∧ Below w.heap.size w w':=by
 obtain ⟨A,hA⟩ : ∃ z,w.heap.size = z:=⟨_,rfl⟩
 obtain ⟨W2,hW2⟩ : ∃ z,(w.alloc (.cells #[.string ⟨#[]⟩,.slice none 0 0] 25)).alloc (.cells #[.string fb,.slice none 0 0] 25) = z:=⟨_,rfl⟩
 have hb2 : Below w.heap.size w W2:=by rw [← hW2]; exact ((Below.refl _ _).alloc (Nat.le_refl _) _).alloc (by simp) _
 have hz2 : W2.heap.size = A + 2:=by rw [← hW2,← hA]; simp
 have hH : W2.heap[A]? = some (.cells #[.string ⟨#[]⟩,.slice none 0 0] 25 (0,0)):=by
  rw [← hW2,Below.heap_alloc _ _ _ (by simp [hA]),← hA]; exact World.alloc_heap_new _ _
 have hDb : W2.heap[A + 1]? = some (.cells #[.string fb,.slice none 0 0] 25 (0,0)):=by
  have h:=World.alloc_heap_new (w.alloc (.cells #[.string ⟨#[]⟩,.slice none 0 0] 25)) (.cells #[.string fb,.slice none 0 0] 25)
  rw [hW2] at h
  simpa [hA] using h
 obtain ⟨D,hD⟩ : ∃ z,A + 1 = z:=⟨_,rfl⟩
 obtain ⟨B,hB⟩ : ∃ z,A + 2 = z:=⟨_,rfl⟩
 rw [hD] at hDb
 rw [hB] at hz2
 have HST:=Lib.hid (show RSt w D B fb [] W2 from ⟨.slice none 0 0,hDb,World.ownsRow_nil _ _ _ _,by omega,by rw [hA]; omega,by rw [hA]; omega,hb2⟩)
 have HG0:=Lib.hid (show 0 < n → W2.heap[G]? = some (.cells (hds ps).toArray 9 (0,0)) from fun h => (hb2.block _ (Array.getElem?_eq_some_iff.1 (hG h).2).1).trans (hG h).2)
 have HP:=Lib.hid (fun h => (hG h).1)
 have HGD:=Lib.hid (show ∀ h : 0 < n,G ≠ D from fun h => by have:=(Array.getElem?_eq_some_iff.1 (hG h).2).1; omega)
 have HH:=Lib.hid hH
 have HAD2:=Lib.hid (show A ≠ D by omega)
 have HAV:=Lib.hid (show A < B by omega)
 have HDB2:=Lib.hid (show D < B by omega)
 have HW2:=Lib.hid hW2
 have HA:=Lib.hid hA
 have HD:=Lib.hid hD
 obtain ⟨i0,hi,hz0,hz1,hz2'⟩:=info_parts (show (Tryz.prog.info? 59).map (fun i => (i.zero,i.size,i.bytes)) = some (some (.agg #[.string ByteArray.empty,.string ByteArray.empty]),2,32) by kernel_rfl)
 have hz2:=hz2'
 clear hb2 hH hDb hG hW2 hA hD hB hz2'
 go_enter Tryz.func18,Tryz.ntmps18
 go_upto_region 2 with (fail)
 rw [HW2.out,HA.out,HD.out]
 go_wp2_with fail
 go_loopw [6] (fun i wr => ∃ j : Nat,j ≤ ps.length ∧ i = .int .i64 ((j * 2 : Nat) : Int) ∧ RSt w D B fb (ps.take j) wr ∧ (0 < n → wr.heap[G]? = some (.cells (hds ps).toArray 9 (0,0))) ∧ wr.heap[A]? = some (.cells #[.string ⟨#[]⟩,.slice none 0 0] 25 (0,0))) (fun i _ => n - (intOf i).toNat)
 case atStart => exact ⟨0,Nat.zero_le _,rfl,HST.out,HG0.out,HH.out⟩
 case round =>
  obtain ⟨j,hj,rfl,hst,hg,hh⟩:=hrel
  obtain ⟨k,hk⟩ : ∃ k,j * 2 = k:=⟨_,rfl⟩
  rw [hk]
  by_cases hlt : j < ps.length
  ·have hk1 : k + 1 < n:=by omega
   have hk2 : (k : Int) + 1 < (n : Int):=by omega
   have hk3 : (k : Int) < (n : Int):=by omega
   have HWR:=Lib.hid (show IntKind.i64.wrap ((k : Int) + 1) = (k : Int) + 1 by simp [IntKind.wrap,IntKind.bits,IntKind.signed]; omega)
   have hpos : 0 < n:=by omega
   obtain rfl:=HP.out hpos
   have HGX:=Lib.hid (hg hpos)
   have HGD':=HGD.out hpos
   clear HGD
   have HGD:=Lib.hid HGD'
   obtain ⟨hc1,hc2⟩:=hds_get ps j hlt
   rw [hk] at hc1 hc2
   obtain ⟨⟨x,y⟩,hxy⟩ : ∃ q,ps.getD j ([],[]) = q:=⟨_,rfl⟩
   rw [hxy] at hc1 hc2
   obtain ⟨nb,hnb⟩ : ∃ z : ByteArray,(⟨x.toArray⟩ : ByteArray) = z:=⟨_,rfl⟩
   obtain ⟨vb,hvb⟩ : ∃ z : ByteArray,(⟨y.toArray⟩ : ByteArray) = z:=⟨_,rfl⟩
   have HX:=Lib.hid (show Hp.sx x = .string nb by rw [← hnb]; rfl)
   have HY:=Lib.hid (show Hp.sx y = .string vb by rw [← hvb]; rfl)
   have HCN:=Lib.hid (show (hds ps)[k]? = some (.string nb) by rw [hc1,← HX.out])
   have HCV:=Lib.hid (show (hds ps)[k + 1]? = some (.string vb) by rw [hc2,← HY.out])
   have HTK:=Lib.hid (show ps.take (j + 1) = ps.take j ++ [(x,y)] by
    rw [List.take_add_one,List.getElem?_eq_getElem hlt]
    have h : ps[j] = (x,y):=by rw [← hxy,List.getD_eq_getElem?_getD,List.getElem?_eq_getElem hlt]; rfl
    rw [h]; rfl)
   have hfl : (ps.take j).length ≤ 100:=by rw [List.length_take]; omega
   obtain ⟨fs,hfs⟩ : ∃ z,ps.take j = z:=⟨_,rfl⟩
   rw [hfs] at hst HTK hfl
   obtain ⟨V1,hA1,hO1,hB1,h01,hA01,hb1⟩:=hst
   have HA1:=Lib.hid hA1
   have HO1:=Lib.hid hO1
   have HBR0:=Lib.hid hB1
   have HQ1:=Lib.hid (And.intro h01 (And.intro hA01 hb1))
   have HHX:=Lib.hid hh
   clear hA1 hO1 hB1 h01 hA01 hb1 hg hh hc1 hc2 hxy hnb hvb hfs HGD'
   go_upto_region 5 with (fail)
   refine region_last2 15 (fun i => 16 + min i 14) (roF D B fs.length G n c k nb vb V1 (hds fs)) (PuG 13 12 wr D B fs.length fb V1 (hds fs)) (by kernel_rfl) (by kernel_rfl) rfl (by kernel_rfl) (fun i => by show 16 + min i 14 < _; simp; omega) (fun i j hi hj h => by have h : 16 + min i 14 = 16 + min j 14:=h; omega) ?start ?dst ?step ?last
   case dst =>
    intro i o hi ho
    match i,hi,ho with
    | 0,_,ho => cases ho; rfl
    | 1,_,ho => cases ho; rfl
    | 2,_,ho => cases ho; rfl
    | 3,_,ho => cases ho; rfl
    | 4,_,ho => cases ho; rfl
    | 5,_,ho => cases ho; rfl
    | 6,_,ho => cases ho; rfl
    | 7,_,ho => cases ho; rfl
    | 8,_,ho => cases ho; rfl
    | 9,_,ho => cases ho; rfl
    | 10,_,ho => cases ho; rfl
    | 11,_,ho => cases ho; rfl
    | 12,_,ho => cases ho; rfl
    | 13,_,ho => cases ho; rfl
    | 14,_,ho => cases ho; rfl
    | n + 15,hi,_ => exact absurd hi (by omega)
   case step =>
    intro f a' W i o hib ho hfi hpre hT hrest
    match i,hib,ho with
    | 0,_,ho =>
     cases ho
     have q5 : a'.tmps.getD 5 undef = .pointer (some ⟨D,0,none⟩):=(hrest 5 (by intro i hi; show 16 + min i 14 ≠ _; omega))
     have e5:=rg_ev q5
     exact rg_same2 (.pointer (some ⟨D,1,none⟩)) (by unfold Oper.wp execOp; go_simp; all_goals ((try simp only [e5]); (try go_simp); (try rw [if_pos (by omega)]); (try rw [if_neg (by omega)]); first | done | rfl | exact ⟨rfl,rfl⟩ | trivial)) rfl (hT.step (by decide))
    | 1,_,ho =>
     cases ho
     have f16:=(hpre { on:=0,ground:=.data } (by simp) rfl).1
     have q16 : a'.tmps.getD 16 undef = .pointer (some ⟨D,1,none⟩):=(hpre { on:=0,ground:=.data } (by simp) rfl).2
     have c1 : W.cell? ⟨D,1,none⟩ = some V1:=by simp [World.cell?,hT.an]
     have e16:=rg_ev q16
     exact rg_same2 (V1) (by unfold Oper.wp execOp; go_simp; all_goals ((try simp only [e16]); (try go_simp); (try rw [if_pos (by omega)]); (try rw [if_neg (by omega)]); first | done | rfl | exact ⟨rfl,rfl⟩ | trivial)) rfl (hT.step (by decide))
    | 2,_,ho =>
     cases ho
     have q1 : a'.tmps.getD 1 undef = .slice (some ⟨G,0,none⟩) n c:=(hrest 1 (by intro i hi; show 16 + min i 14 ≠ _; omega))
     have e1:=rg_ev q1
     exact rg_same2 (.slice (some ⟨G,0,none⟩) n c) (by unfold Oper.wp execOp; go_simp; all_goals ((try simp only [e1]); (try go_simp); (try rw [if_pos (by omega)]); (try rw [if_neg (by omega)]); first | done | rfl | exact ⟨rfl,rfl⟩ | trivial)) rfl (hT.step (by decide))
    | 3,_,ho =>
     cases ho
     have q6 : a'.tmps.getD 6 undef = .int .i64 (k : Int):=(hrest 6 (by intro i hi; show 16 + min i 14 ≠ _; omega))
     have e6:=rg_ev q6
     exact rg_same2 (.int .i64 (k : Int)) (by unfold Oper.wp execOp; go_simp; all_goals ((try simp only [e6]); (try go_simp); (try rw [if_pos (by omega)]); (try rw [if_neg (by omega)]); first | done | rfl | exact ⟨rfl,rfl⟩ | trivial)) rfl (hT.step (by decide))
    | 4,_,ho =>
     cases ho
     have f18:=(hpre { on:=2,ground:=.data } (by simp) rfl).1
     have q18 : a'.tmps.getD 18 undef = .slice (some ⟨G,0,none⟩) n c:=(hpre { on:=2,ground:=.data } (by simp) rfl).2
     have f19:=(hpre { on:=3,ground:=.data } (by simp) rfl).1
     have q19 : a'.tmps.getD 19 undef = .int .i64 (k : Int):=(hpre { on:=3,ground:=.data } (by simp) rfl).2
     have e18:=rg_ev q18
     have e19:=rg_ev q19
     exact rg_same2 (.pointer (some ⟨G,k,none⟩)) (by unfold Oper.wp execOp; go_simp; all_goals ((try simp only [e18,e19]); (try go_simp); (try rw [if_pos (by omega)]); (try rw [if_neg (by omega)]); first | done | rfl | exact ⟨rfl,rfl⟩ | trivial)) rfl (hT.step (by decide))
    | 5,_,ho =>
     cases ho
     have f20:=(hpre { on:=4,ground:=.data } (by simp) rfl).1
     have q20 : a'.tmps.getD 20 undef = .pointer (some ⟨G,k,none⟩):=(hpre { on:=4,ground:=.data } (by simp) rfl).2
     have c2 : W.cell? ⟨G,k,none⟩ = some (.string nb):=by simp [World.cell?,hT.oth G _ _ (by decide) HGX.out,HCN.out]
     have e20:=rg_ev q20
     exact rg_same2 (.string nb) (by unfold Oper.wp execOp; go_simp; all_goals ((try simp only [e20]); (try go_simp); (try rw [if_pos (by omega)]); (try rw [if_neg (by omega)]); first | done | rfl | exact ⟨rfl,rfl⟩ | trivial)) rfl (hT.step (by decide))
    | 6,_,ho =>
     cases ho
     have q1 : a'.tmps.getD 1 undef = .slice (some ⟨G,0,none⟩) n c:=(hrest 1 (by intro i hi; show 16 + min i 14 ≠ _; omega))
     have e1:=rg_ev q1
     exact rg_same2 (.slice (some ⟨G,0,none⟩) n c) (by unfold Oper.wp execOp; go_simp; all_goals ((try simp only [e1]); (try go_simp); (try rw [if_pos (by omega)]); (try rw [if_neg (by omega)]); first | done | rfl | exact ⟨rfl,rfl⟩ | trivial)) rfl (hT.step (by decide))
    | 7,_,ho =>
     cases ho
     have q6 : a'.tmps.getD 6 undef = .int .i64 (k : Int):=(hrest 6 (by intro i hi; show 16 + min i 14 ≠ _; omega))
     have e6:=rg_ev q6
     exact rg_same2 (.int .i64 (k : Int)) (by unfold Oper.wp execOp; go_simp; all_goals ((try simp only [e6]); (try go_simp); (try rw [if_pos (by omega)]); (try rw [if_neg (by omega)]); first | done | rfl | exact ⟨rfl,rfl⟩ | trivial)) rfl (hT.step (by decide))
    | 8,_,ho =>
     cases ho
     have f23:=(hpre { on:=7,ground:=.data } (by simp) rfl).1
     have q23 : a'.tmps.getD 23 undef = .int .i64 (k : Int):=(hpre { on:=7,ground:=.data } (by simp) rfl).2
     have e23:=rg_ev q23
     exact rg_same2 (.int .i64 ((k : Int) + 1)) (by unfold Oper.wp execOp; go_simp; (try simp only [e23]); (try go_simp); (try rw [HWR.out])) rfl (hT.step (by decide))
    | 9,_,ho =>
     cases ho
     have f22:=(hpre { on:=6,ground:=.data } (by simp) rfl).1
     have q22 : a'.tmps.getD 22 undef = .slice (some ⟨G,0,none⟩) n c:=(hpre { on:=6,ground:=.data } (by simp) rfl).2
     have f24:=(hpre { on:=8,ground:=.data } (by simp) rfl).1
     have q24 : a'.tmps.getD 24 undef = .int .i64 ((k : Int) + 1):=(hpre { on:=8,ground:=.data } (by simp) rfl).2
     have e22:=rg_ev q22
     have e24:=rg_ev q24
     exact rg_same2 (.pointer (some ⟨G,k + 1,none⟩)) (by unfold Oper.wp execOp; go_simp; all_goals ((try simp only [e22,e24]); (try go_simp); (try rw [if_pos (by omega)]); (try rw [if_neg (by omega)]); first | done | rfl | exact ⟨rfl,rfl⟩ | trivial)) rfl (hT.step (by decide))
    | 10,_,ho =>
     cases ho
     have f25:=(hpre { on:=9,ground:=.data } (by simp) rfl).1
     have q25 : a'.tmps.getD 25 undef = .pointer (some ⟨G,k + 1,none⟩):=(hpre { on:=9,ground:=.data } (by simp) rfl).2
     have c3 : W.cell? ⟨G,k + 1,none⟩ = some (.string vb):=by simp [World.cell?,hT.oth G _ _ (by decide) HGX.out,HCV.out]
     have e25:=rg_ev q25
     exact rg_same2 (.string vb) (by unfold Oper.wp execOp; go_simp; all_goals ((try simp only [e25]); (try go_simp); (try rw [if_pos (by omega)]); (try rw [if_neg (by omega)]); first | done | rfl | exact ⟨rfl,rfl⟩ | trivial)) rfl (hT.step (by decide))
    | 11,_,ho =>
     cases ho
     have f21:=(hpre { on:=5,ground:=.data } (by simp) rfl).1
     have q21 : a'.tmps.getD 21 undef = .string nb:=(hpre { on:=5,ground:=.data } (by simp) rfl).2
     have f26:=(hpre { on:=10,ground:=.data } (by simp) rfl).1
     have q26 : a'.tmps.getD 26 undef = .string vb:=(hpre { on:=10,ground:=.data } (by simp) rfl).2
     have e21:=rg_ev q21
     have e26:=rg_ev q26
     exact rg_same2 (.agg #[.string nb,.string vb]) (by unfold Oper.wp execOp; go_simp; all_goals ((try simp only [e21,e26]); (try go_simp); (try rw [if_pos (by omega)]); (try rw [if_neg (by omega)]); first | done | rfl | exact ⟨rfl,rfl⟩ | trivial)) rfl (hT.step (by decide))
    | 12,_,ho =>
     cases ho
     have f27:=(hpre { on:=11,ground:=.data } (by simp) rfl).1
     have q27 : a'.tmps.getD 27 undef = .agg #[.string nb,.string vb]:=(hpre { on:=11,ground:=.data } (by simp) rfl).2
     have e27:=rg_ev q27
     have hO:=hT.own (hT.n6 hfi)
     have hBW : B ≤ W.heap.size:=Nat.le_trans HBR0.out hT.bel.size
     unfold Oper.wp execOp
     go_simp
     (try simp only [e27])
     (try go_simp)
     refine ⟨_,rfl,⟨W.heap.size,rfl,World.alloc_heap_new _ _,fun h => Nat.lt_irrefl _ (hO.lt _ h.symm).2⟩,?_,fun j u _ h => roF_alloc j _ u h⟩
     first | exact (hT.step (i:=12) (by decide)).alloc hBW _ | (rw [show (fun j => decide (j = 12) || f j) = (fun j => if j = 12 then true else f j) by funext j; by_cases h : j = 12 <;> simp [h]]; exact (hT.step (i:=12) (by decide)).alloc hBW _)
    | 13,_,ho =>
     cases ho
     have f17:=(hpre { on:=1,ground:=.data } (by simp) rfl).1
     have q17 : a'.tmps.getD 17 undef = V1:=(hpre { on:=1,ground:=.data } (by simp) rfl).2
     have f28:=(hpre { on:=12,ground:=.data } (by simp) rfl).1
     have h28:=(hpre { on:=12,ground:=.data } (by simp) rfl).2
     obtain ⟨g,hg1,hg2,hg3⟩:=h28
     have q23a : a'.eval (.tmp 17) = V1:=q17
     have q23b : a'.eval (.tmp 28) = .slice (some ⟨g,0,none⟩) 1 1:=hg1
     have hO:=hT.own hfi
     have hBW : B ≤ W.heap.size:=Nat.le_trans HBR0.out hT.bel.size
     refine wp_append_own _ _ _ 23 rfl B 59 i0 (.agg #[.string ByteArray.empty,.string ByteArray.empty]) 2 32 Tryz.underlying23 hi hz0 hz1 hz2 rfl (by decide) V1 fs.length (hds fs) q23a hO ⟨g,0,none⟩ 1 1 [.string nb,.string vb] q23b rfl ?_ ?_ ?_ ?_ ?_ ?_
     ·intro j u hj
      match j,hj with
      | 0,hj => simp at hj; subst hj; simp [Addr.add,World.cell?,hg2]
      | 1,hj => simp at hj; subst hj; simp [Addr.add,World.cell?,hg2]
     ·intro u hu; simp at hu; rcases hu with rfl | rfl <;> rfl
     ·unfold maxLen; omega
     ·omega
     ·exact hBW
     ·intro v' w' hown' hgrow _
      have keep : ∀ (k : Nat) (cs : Array Value) (t : TypeId) (fr : Nat × Nat),t ≠ 59 → W.heap[k]? = some (.cells cs t fr) → w'.heap[k]? = some (.cells cs t fr):=fun k cs t fr ht hk => (hgrow.block k (Array.getElem?_eq_some_iff.1 hk).1 (own_ne hO hk ht)).trans hk
      refine ⟨v',rfl,hown',⟨Below.grown hT.bel hgrow hBW (own_geH hO),keep _ _ _ _ (by decide) hT.an,fun k cs t ht hk => keep _ _ _ _ ht (hT.oth k cs t ht hk),fun h => by simp at h,fun h => by simp [f17] at h,fun h => by simp [f28] at h⟩,fun j u hj hF => ?_⟩
      match j,hF with
      | 0,h | 1,h | 2,h | 3,h | 4,h | 5,h | 6,h | 7,h | 8,h | 9,h | 10,h | 11,h | 14,h => exact h
      | 12,⟨g',h1,h2,h3⟩ => exact ⟨g',h1,(hgrow.block g' (Array.getElem?_eq_some_iff.1 h2).1 h3).trans h2,h3⟩
      | 13,h => rw [hfi] at hj; cases hj
      | n + 15,h => exact h.elim
    | 14,_,ho =>
     cases ho
     have q5 : a'.tmps.getD 5 undef = .pointer (some ⟨D,0,none⟩):=(hrest 5 (by intro i hi; show 16 + min i 14 ≠ _; omega))
     have e5:=rg_ev q5
     exact rg_same2 (.pointer (some ⟨D,1,none⟩)) (by unfold Oper.wp execOp; go_simp; all_goals ((try simp only [e5]); (try go_simp); (try rw [if_pos (by omega)]); (try rw [if_neg (by omega)]); first | done | rfl | exact ⟨rfl,rfl⟩ | trivial)) rfl (hT.step (by decide))
    | n + 15,hib,_ => exact absurd hib (by omega)
   case last =>
    intro f vs W oL ho hall hT hvs
    have hopL : oL.op = Op.store 23 (.tmp 30) (.tmp 29):=by cases ho; rfl
    have hdsL : oL.dst = none:=by cases ho; rfl
    clear ho hall
    have v0 : vs 0 = .pointer (some ⟨D,1,none⟩):=hvs 0 (by decide)
    have v1 : vs 1 = V1:=hvs 1 (by decide)
    have v2 : vs 2 = .slice (some ⟨G,0,none⟩) n c:=hvs 2 (by decide)
    have v3 : vs 3 = .int .i64 (k : Int):=hvs 3 (by decide)
    have v4 : vs 4 = .pointer (some ⟨G,k,none⟩):=hvs 4 (by decide)
    have v5 : vs 5 = .string nb:=hvs 5 (by decide)
    have v6 : vs 6 = .slice (some ⟨G,0,none⟩) n c:=hvs 6 (by decide)
    have v7 : vs 7 = .int .i64 (k : Int):=hvs 7 (by decide)
    have v8 : vs 8 = .int .i64 ((k : Int) + 1):=hvs 8 (by decide)
    have v9 : vs 9 = .pointer (some ⟨G,k + 1,none⟩):=hvs 9 (by decide)
    have v10 : vs 10 = .string vb:=hvs 10 (by decide)
    have v11 : vs 11 = .agg #[.string nb,.string vb]:=hvs 11 (by decide)
    obtain ⟨y12,v12,w12⟩ : ∃ z,vs 12 = z ∧ roF D B fs.length G n c k nb vb V1 (hds fs) 12 W z:=⟨_,rfl,hvs 12 (by decide)⟩
    obtain ⟨y13,v13,w13⟩ : ∃ z,vs 13 = z ∧ roF D B fs.length G n c k nb vb V1 (hds fs) 13 W z:=⟨_,rfl,hvs 13 (by decide)⟩
    have v14 : vs 14 = .pointer (some ⟨D,1,none⟩):=hvs 14 (by decide)
    simp only [fillN,List.size_toArray,List.length_cons,List.length_nil,Nat.reduceAdd,show List.range 15 = [0,1,2,3,4,5,6,7,8,9,10,11,12,13,14] from rfl,List.foldl_cons,List.foldl_nil,show 16 + min 0 14 = 16 from rfl,show 16 + min 1 14 = 17 from rfl,show 16 + min 2 14 = 18 from rfl,show 16 + min 3 14 = 19 from rfl,show 16 + min 4 14 = 20 from rfl,show 16 + min 5 14 = 21 from rfl,show 16 + min 6 14 = 22 from rfl,show 16 + min 7 14 = 23 from rfl,show 16 + min 8 14 = 24 from rfl,show 16 + min 9 14 = 25 from rfl,show 16 + min 10 14 = 26 from rfl,show 16 + min 11 14 = 27 from rfl,show 16 + min 12 14 = 28 from rfl,show 16 + min 13 14 = 29 from rfl,show 16 + min 14 14 = 30 from rfl,v0,v1,v2,v3,v4,v5,v6,v7,v8,v9,v10,v11,v12,v13,v14]
    clear v0 v1 v2 v3 v4 v5 v6 v7 v8 v9 v10 v11 v12 v13 v14 hvs
    obtain ⟨g14,c14,rfl⟩:=Go.Joins.ownsRow_form (show W.ownsRow B 59 2 y13 (fs.length + 1) (hds fs ++ [.string nb,.string vb]) from w13) (by omega)
    have hAn:=hT.an
    have hcA : W.cell? ⟨D,1,none⟩ = some V1:=by simp [World.cell?,hAn]
    have hzA : W.frozen? ⟨D,1,none⟩ = false:=frozen_of_row _ _ _ _ _ hAn
    have HST:=Lib.hid (show RSt w D B fb (fs ++ [(x,y)]) (W.setCell ⟨D,1,none⟩ (.slice (some ⟨g14,0,none⟩) (fs.length + 1) c14)) from ⟨_,heap_setCell_same _ _ 1 _ _ _ hAn,by
     rw [hds_snoc,List.length_append]
     show World.ownsRow _ B _ 2 _ (fs.length + 1) (hds fs ++ [Hp.sx x,Hp.sx y])
     rw [HX.out,HY.out]
     exact own_setQ w13 HDB2.out,by simpa using Nat.le_trans HBR0.out hT.bel.size,HQ1.out.1,HQ1.out.2.1,(HQ1.out.2.2.trans (hT.bel.mono HQ1.out.1)).setCell (p:=⟨D,1,none⟩) HQ1.out.2.1 _⟩)
    have HG3:=Lib.hid ((Below.heap_setCell _ _ _ _ HGD.out).trans (hT.oth G _ _ (by decide) HGX.out) : (W.setCell ⟨D,1,none⟩ (.slice (some ⟨g14,0,none⟩) (fs.length + 1) c14)).heap[G]? = some (.cells (hds ps).toArray 9 (0,0)))
    have HW3:=Lib.hid ((Below.heap_setCell _ _ _ _ HAD2.out).trans (hT.oth A _ _ (by decide) HHX.out) : (W.setCell ⟨D,1,none⟩ (.slice (some ⟨g14,0,none⟩) (fs.length + 1) c14)).heap[A]? = some (.cells #[.string ⟨#[]⟩,.slice none 0 0] 25 (0,0)))
    clear hT hAn
    unfold Oper.wp execOp
    simp only [hopL]
    go_simp
    clear hcA hzA w12 w13 hopL hdsL
    go_wp2_with fail
    go_roundw
    case rel => exact ⟨j + 1,by omega,by go_num,(by rw [HTK.out]; exact HST.out),fun _ => HG3.out,HW3.out⟩
    case measure => simp [intOf]; omega
   case start =>
    exact ⟨(Below.refl _ _).drew,HA1.out,fun k cs t ht h => h,fun _ => own_bel HO1.out (Below.refl _ _).drew,fun _ => rfl,fun _ => rfl⟩
  ·obtain rfl : j = ps.length:=by omega
   rw [List.take_length] at hst
   have hk1 : ¬ (k : Int) + 1 < (n : Int):=by omega
   obtain ⟨V1,hA1,hO1,hB1,h01,hA01,hb1⟩:=hst
   obtain ⟨q1,c1,rfl⟩:=own_slQ hO1
   have d0 : wr.cell? ⟨D,0,none⟩ = some (.string fb):=by simp [World.cell?,hA1]
   obtain ⟨n1,hn1⟩ : ∃ z,ps.length = z:=⟨_,rfl⟩
   have d1 : wr.cell? ⟨D,1,none⟩ = some (.slice q1 n1 c1):=by rw [← hn1]; simp [World.cell?,hA1]
   have e0 : wr.cell? ⟨A,0,none⟩ = some (.string ⟨#[]⟩):=by simp [World.cell?,hh]
   have e1 : wr.cell? ⟨A,1,none⟩ = some (.slice none 0 0):=by simp [World.cell?,hh]
   have z0 : wr.frozen? ⟨A,0,none⟩ = false:=frozen_of_row _ _ _ _ _ hh
   have z1 : wr.frozen? ⟨A,1,none⟩ = false:=frozen_of_row _ _ _ _ _ hh
   have hbX:=(hb1.setCell (p:=⟨A,0,none⟩) (by rw [HA.out]; exact Nat.le_refl _) (.string fb)).setCell (p:=⟨A,1,none⟩) (by rw [HA.out]; exact Nat.le_refl _) (.slice q1 n1 c1)
   obtain ⟨x0,x1⟩:=hd_stored hh (.string fb) (.slice q1 n1 c1)
   have hOX:=HS.own (own_setQ (own_setQ hO1 HAV.out (i:=0) (x:=.string fb)) HAV.out (i:=1) (x:=.slice q1 n1 c1))
   rw [hn1] at hOX
   have HFX:=Lib.hid hOX
   have HBX:=Lib.hid hbX
   have HX0:=Lib.hid x0
   have HX1:=Lib.hid x1
   clear hA1 hO1 hB1 h01 hA01 hb1 hh hg hOX hbX x0 x1 hj hlt
   go_wp2_with fail
   obtain ⟨X,hX⟩ : ∃ X,(wr.setCell ⟨A,0,none⟩ (.string fb)).setCell ⟨A,1,none⟩ (.slice q1 n1 c1) = X:=⟨_,rfl⟩
   rw [hX] at HFX HBX HX0 HX1 ⊢
   have x0:=HX0.out
   have x1:=HX1.out
   clear hX
   simp [bodyPost,results,Tryz.results18,go_sem,x0,x1]
   exact ⟨HFX.out,HBX.out⟩
theorem rq_num (n : Int) (w : World) : Calls Tryz.prog 10 #[.int .i64 n] w fun e w' => e = .returned (.int .i64 n) ∧ w' = w:=by
 go_enter Tryz.func10,Tryz.ntmps10
 go_wp2
 go_ret
 exact ⟨rfl,rfl⟩
end Go.Proofs.YtfacmnooklljnaaGreatDoor
namespace Go.Proofs.YtfacmnooklljnaaGreatDoor
open Go.RowKit Go.Shelf
attribute [local go_sem] Oper.semAt_some
set_option maxHeartbeats 8000000
set_option maxRecDepth 100000
namespace Rq
def hs (p : Option (List UInt8 × List UInt8)) : List Hp.Hd:=match p with
 | none => []
 | some q => [q]
def f0 : List UInt8:=[71,69,84,32,47,97,32,72,84,84,80,47,49,46,49]
def s0 : List Hp.Hd:=[([104,111,115,116],[120])]
def wF0 : List UInt8:=[71,69,84,32,47,97,32,72,84,84,80,47,49,46,49]
def wS0 : List Hp.Hd:=[]
def wF1 : List UInt8:=[80,79,83,84,32,47,97,32,72,84,84,80,47,49,46,49]
def wS1 : List Hp.Hd:=[([104,111,115,116],[120])]
def wF2 : List UInt8:=[71,69,84,32,47,97,32,72,84,84,80,47,50,46,48]
def wS2 : List Hp.Hd:=[([104,111,115,116],[120])]
def wF3 : List UInt8:=[71,69,84,32,97,32,72,84,84,80,47,49,46,49]
def wS3 : List Hp.Hd:=[([104,111,115,116],[120])]
def wF4 : List UInt8:=[71,69,84,32,47,97,32,72,84,84,80,47,49,46,48]
def wS4 : List Hp.Hd:=[([97,99,99,101,112,116],[116,101,120,116,47,104,116,109,108])]
def wF5 : List UInt8:=[71,69,84,32,47,104,101,97,108,116,104,32,72,84,84,80,47,49,46,48]
def wS5 : List Hp.Hd:=[([97,99,99,101,112,116],[116,101,120,116,47,104,116,109,108])]
def wF : Nat → List UInt8
 | 0 => wF0
 | 1 => wF1
 | 2 => wF2
 | 3 => wF3
 | 4 => wF4
 | _ => wF5
def wS : Nat → List Hp.Hd
 | 0 => wS0
 | 1 => wS1
 | 2 => wS2
 | 3 => wS3
 | 4 => wS4
 | _ => wS5
def wN : Nat → Int
 | 0 => 400
 | 1 => 405
 | 2 => 505
 | 3 => 400
 | 4 => 406
 | _ => 200
theorem s0_st : status f0 s0 = 200:=by decide +kernel
theorem s0_ok : Hr.okB f0 s0 = true:=by decide +kernel
theorem s0_ln : line f0 = some (nGET,([[97]],[]),v11):=by kernel_rfl
theorem s0_id : many nId s0 = 0:=by decide +kernel
theorem s0_cl : closes s0 = false:=by decide +kernel
theorem s0_few : (joined nAcc s0).length ≤ 5000 ∧ (joined nCon s0).length ≤ 5000:=by decide +kernel
theorem w0_st : stW wF0 wS0 = (400,0):=by decide +kernel
theorem w0_few : (joined nAcc wS0).length ≤ 5000 ∧ (joined nCon wS0).length ≤ 5000:=by decide +kernel
theorem w1_st : stW wF1 wS1 = (405,0):=by decide +kernel
theorem w1_few : (joined nAcc wS1).length ≤ 5000 ∧ (joined nCon wS1).length ≤ 5000:=by decide +kernel
theorem w2_st : stW wF2 wS2 = (505,0):=by decide +kernel
theorem w2_few : (joined nAcc wS2).length ≤ 5000 ∧ (joined nCon wS2).length ≤ 5000:=by decide +kernel
theorem w3_st : stW wF3 wS3 = (400,0):=by decide +kernel
theorem w3_few : (joined nAcc wS3).length ≤ 5000 ∧ (joined nCon wS3).length ≤ 5000:=by decide +kernel
theorem w4_st : stW wF4 wS4 = (406,0):=by decide +kernel
theorem w4_few : (joined nAcc wS4).length ≤ 5000 ∧ (joined nCon wS4).length ≤ 5000:=by decide +kernel
theorem w5_st : stW wF5 wS5 = (200,0):=by decide +kernel
theorem w5_few : (joined nAcc wS5).length ≤ 5000 ∧ (joined nCon wS5).length ≤ 5000:=by decide +kernel
end Rq
theorem s0_rq : RqOk Rq.f0 Rq.s0:=⟨by decide,by decide,by intro f hf; simp [Rq.s0] at hf; subst hf; decide,Rq.s0_few.1,Rq.s0_few.2⟩
theorem w0_rq : RqOk Rq.wF0 Rq.wS0:=⟨by decide,by decide,by intro f hf; simp [Rq.wS0] at hf,Rq.w0_few.1,Rq.w0_few.2⟩
theorem w1_rq : RqOk Rq.wF1 Rq.wS1:=⟨by decide,by decide,by intro f hf; simp [Rq.wS1] at hf; subst hf; decide,Rq.w1_few.1,Rq.w1_few.2⟩
theorem w2_rq : RqOk Rq.wF2 Rq.wS2:=⟨by decide,by decide,by intro f hf; simp [Rq.wS2] at hf; subst hf; decide,Rq.w2_few.1,Rq.w2_few.2⟩
theorem w3_rq : RqOk Rq.wF3 Rq.wS3:=⟨by decide,by decide,by intro f hf; simp [Rq.wS3] at hf; subst hf; decide,Rq.w3_few.1,Rq.w3_few.2⟩
theorem w4_rq : RqOk Rq.wF4 Rq.wS4:=⟨by decide,by decide,by intro f hf; simp [Rq.wS4] at hf; subst hf; decide,Rq.w4_few.1,Rq.w4_few.2⟩
theorem w5_rq : RqOk Rq.wF5 Rq.wS5:=⟨by decide,by decide,by intro f hf; simp [Rq.wS5] at hf; subst hf; decide,Rq.w5_few.1,Rq.w5_few.2⟩
theorem w_rq : ∀ k,RqOk (Rq.wF k) (Rq.wS k)
 | 0 => w0_rq
 | 1 => w1_rq
 | 2 => w2_rq
 | 3 => w3_rq
 | 4 => w4_rq
 | n + 5 => w5_rq
theorem w_st : ∀ k,Rq.stW (Rq.wF k) (Rq.wS k) = (Rq.wN k,0)
 | 0 => Rq.w0_st
 | 1 => Rq.w1_st
 | 2 => Rq.w2_st
 | 3 => Rq.w3_st
 | 4 => Rq.w4_st
 | n + 5 => Rq.w5_st
theorem cell_keep {w w' : World} {b o : Nat} {v : Value} (hb : Below w.heap.size w w') (h : w.cell? ⟨b,o,none⟩ = some v) : w'.cell? ⟨b,o,none⟩ = some v:=cell_below hb h
theorem hs_slice {w : World} {v : Value} {fs : List Hp.Hd} (h : HS w v fs) : ∃ p c,v = .slice p fs.length c:=h.slice
theorem rq_works (w : World) (hm : Mx w) :
  Calls Tryz.prog 6 #[] w fun e w' => e = .returned (.bool true) ∧ Below w.heap.size w w':=by
 have h0 : 0 < w.heap.size:=by obtain ⟨m,hm⟩:=hm; exact lt_of_cell hm
 have HM:=Lib.hid (fun W (hb : Below w.heap.size w W) => hm.below hb h0)
 have KN:=Lib.hid rq_num
 clear hm h0
 have HB:=Lib.hid (Below.refl w.heap.size w)
 go_enter Tryz.func6,Tryz.ntmps6
 obtain ⟨Gz,hG⟩ : ∃ z,w.heap.size = z:=⟨_,rfl⟩
 obtain ⟨wtz,hw⟩ : ∃ z,w.alloc (.cells #[.string ⟨#[104,111,115,116]⟩,.string ⟨#[120]⟩] 9) = z:=⟨_,rfl⟩
 have hb : Below w.heap.size w wtz:=by rw [← hw]; exact (Below.refl _ _).alloc (Nat.le_refl _) _
 have HGz:=Lib.hid (show wtz.heap[Gz]? = some (.cells (hds Rq.s0).toArray 9 (0,0)) by rw [← hw,← hG]; exact World.alloc_heap_new _ _)
 have HWz:=Lib.hid hw
 have HGGz:=Lib.hid hG
 have HB:=Lib.hid (HB.out.trans (hb.mono HB.out.size))
 have HBw:=Lib.hid hb
 clear hb hw hG
 have K1:=Lib.hid (law_of13 ⟨#[71,69,84,32,47,97,32,72,84,84,80,47,49,46,49]⟩ Gz 2 2 (some ⟨Gz,0,none⟩) Rq.s0 wtz rfl (by decide) (fun _ => ⟨rfl,HGz.out⟩) (by decide))
 go_wp2_with fail
 rw [HGGz.out,HWz.out]
 refine K1.out.mono ?_
 rintro e wa ⟨v,rfl,hv,hb⟩
 have HB:=Lib.hid (HB.out.trans (hb.mono HB.out.size))
 have K2:=rq_Of Rq.f0 v Rq.s0 wa hv s0_rq (HM.out _ HB.out)
 unfold Hp.sx at K2
 have K2:=Lib.hid K2
 clear hb K1
 obtain ⟨vp,vc,rfl⟩:=hv.slice
 clear hv
 go_wp2_with fail
 refine K2.out.mono ?_
 rintro e wb ⟨hof,hb⟩
 have HB:=Lib.hid (HB.out.trans (hb.mono HB.out.size))
 unfold OfO at hof
 rw [if_neg (by rw [Rq.s0_ok]; decide),Rq.s0_st,if_neg (by decide)] at hof
 obtain ⟨m,g,v,p,n,c,q,k,d,hl,rfl,hts,hps⟩:=hof
 rw [Rq.s0_ln] at hl
 simp only [Option.some.injEq,Prod.mk.injEq] at hl
 obtain ⟨hl1,hl2,hl3⟩:=hl
 subst hl1 hl2 hl3
 rw [Rq.s0_id,Rq.s0_cl,show (Rq.v11 == Rq.v10) = false by decide]
 have hts2:=TS.of hts.str
 have hnn : n = 1:=by obtain ⟨p',c',h⟩:=hts.slice; simpa using (Value.slice.inj h).2.1
 subst hnn
 obtain ⟨b,off,rfl,hcs⟩:=hts2.cells (k:=0) (by decide)
 have hc0:=hcs 0 (by decide)
 obtain ⟨R,hR⟩ : ∃ z,wb.heap.size = z:=⟨_,rfl⟩
 unfold rqV
 rw [show decide ((0 : Int) < ((0 : Nat) : Int)) = false by decide,show (false || false) = false from rfl]
 obtain ⟨jb,hjb⟩ : ∃ z : ByteArray,(⟨(Rq.joined Rq.nId Rq.s0).toArray⟩ : ByteArray) = z:=⟨_,rfl⟩
 obtain ⟨mb,hmb⟩ : ∃ z : ByteArray,(⟨Rq.nGET.toArray⟩ : ByteArray) = z:=⟨_,rfl⟩
 have hml : (mb.toList == ([71,69,84] : List UInt8)) = true:=by rw [← hmb,ba_list]; rfl
 have hmn : (mb.toList != ([71,69,84] : List UInt8)) = false:=by rw [← hmb,ba_list]; rfl
 rw [hjb,hmb]
 obtain ⟨wc,hw⟩ : ∃ z,wb.alloc (.cells #[.string mb,.slice (some ⟨b,off,none⟩) 1 c,.slice q k d,.bool false,.bool false,.bool false,.string jb] 38) = z:=⟨_,rfl⟩
 have hbw : Below wb.heap.size wb wc:=by rw [← hw]; exact (Below.refl _ _).alloc (Nat.le_refl _) _
 have hRc : wc.heap[R]? = some (.cells #[.string mb,.slice (some ⟨b,off,none⟩) 1 c,.slice q k d,.bool false,.bool false,.bool false,.string jb] 38 (0,0)):=by rw [← hw,← hR]; exact World.alloc_heap_new _ _
 have r0 : wc.cell? ⟨R,0,none⟩ = some (.string mb):=by simp [World.cell?,hRc]
 have r1 : wc.cell? ⟨R,1,none⟩ = some (.slice (some ⟨b,off,none⟩) 1 c):=by simp [World.cell?,hRc]
 have r3 : wc.cell? ⟨R,3,none⟩ = some (.bool false):=by simp [World.cell?,hRc]
 have r4 : wc.cell? ⟨R,4,none⟩ = some (.bool false):=by simp [World.cell?,hRc]
 have r5 : wc.cell? ⟨R,5,none⟩ = some (.bool false):=by simp [World.cell?,hRc]
 have c0 : wc.cell? ⟨b,off,none⟩ = some (.string ⟨#[97]⟩):=cell_below hbw hc0
 have HB:=Lib.hid (HB.out.trans (hbw.mono HB.out.size))
 have HW:=Lib.hid hw
 have HR:=Lib.hid hR
 clear hjb hmb hb hw hR hbw hRc hc0 hcs hts hts2 hps K2
 go_upto_region 2 with (fail)
 rw [HW.out,HR.out]
 go_wp2_with fail
 refine (KN.out _ _).mono ?_
 rintro e w9 ⟨rfl,hw9⟩
 subst w9
 go_wp2_with fail
 have K1:=Lib.hid (law_of13 ⟨#[71,69,84,32,47,97,32,72,84,84,80,47,49,46,49]⟩ 0 0 0 none [] wc rfl (by decide) (fun h => absurd h (by decide)) (by decide))
 refine K1.out.mono ?_
 rintro e wo0 ⟨v0,rfl,hv0,hb⟩
 have HB:=Lib.hid (HB.out.trans (hb.mono HB.out.size))
 have HV0:=Lib.hid hv0
 obtain ⟨vp0,vc0,rfl⟩:=hs_slice hv0
 clear hv0 hb K1
 obtain ⟨G1,hG⟩ : ∃ z,wo0.heap.size = z:=⟨_,rfl⟩
 obtain ⟨wt1,hw⟩ : ∃ z,wo0.alloc (.cells #[.string ⟨#[104,111,115,116]⟩,.string ⟨#[120]⟩] 9) = z:=⟨_,rfl⟩
 have hb : Below wo0.heap.size wo0 wt1:=by rw [← hw]; exact (Below.refl _ _).alloc (Nat.le_refl _) _
 have HG1:=Lib.hid (show wt1.heap[G1]? = some (.cells (hds Rq.wS1).toArray 9 (0,0)) by rw [← hw,← hG]; exact World.alloc_heap_new _ _)
 have HW1:=Lib.hid hw
 have HGG1:=Lib.hid hG
 have HB:=Lib.hid (HB.out.trans (hb.mono HB.out.size))
 clear hb hw hG
 have K1:=Lib.hid (law_of13 ⟨#[80,79,83,84,32,47,97,32,72,84,84,80,47,49,46,49]⟩ G1 2 2 (some ⟨G1,0,none⟩) Rq.wS1 wt1 rfl (by decide) (fun _ => ⟨rfl,HG1.out⟩) (by decide))
 go_wp2_with fail
 rw [HGG1.out,HW1.out]
 refine K1.out.mono ?_
 rintro e wo1 ⟨v1,rfl,hv1,hb⟩
 have HB:=Lib.hid (HB.out.trans (hb.mono HB.out.size))
 have HV0:=Lib.hid (HV0.out.below ((show Below wo0.heap.size wo0 wt1 by rw [← HW1.out]; exact (Below.refl _ _).alloc (Nat.le_refl _) _).trans (hb.mono (by rw [← HW1.out]; simp))))
 have HV1:=Lib.hid hv1
 obtain ⟨vp1,vc1,rfl⟩:=hs_slice hv1
 clear hv1 hb K1
 obtain ⟨G2,hG⟩ : ∃ z,wo1.heap.size = z:=⟨_,rfl⟩
 obtain ⟨wt2,hw⟩ : ∃ z,wo1.alloc (.cells #[.string ⟨#[104,111,115,116]⟩,.string ⟨#[120]⟩] 9) = z:=⟨_,rfl⟩
 have hb : Below wo1.heap.size wo1 wt2:=by rw [← hw]; exact (Below.refl _ _).alloc (Nat.le_refl _) _
 have HG2:=Lib.hid (show wt2.heap[G2]? = some (.cells (hds Rq.wS2).toArray 9 (0,0)) by rw [← hw,← hG]; exact World.alloc_heap_new _ _)
 have HW2:=Lib.hid hw
 have HGG2:=Lib.hid hG
 have HB:=Lib.hid (HB.out.trans (hb.mono HB.out.size))
 clear hb hw hG
 have K1:=Lib.hid (law_of13 ⟨#[71,69,84,32,47,97,32,72,84,84,80,47,50,46,48]⟩ G2 2 2 (some ⟨G2,0,none⟩) Rq.wS2 wt2 rfl (by decide) (fun _ => ⟨rfl,HG2.out⟩) (by decide))
 go_wp2_with fail
 rw [HGG2.out,HW2.out]
 refine K1.out.mono ?_
 rintro e wo2 ⟨v2,rfl,hv2,hb⟩
 have HB:=Lib.hid (HB.out.trans (hb.mono HB.out.size))
 have HV0:=Lib.hid (HV0.out.below ((show Below wo1.heap.size wo1 wt2 by rw [← HW2.out]; exact (Below.refl _ _).alloc (Nat.le_refl _) _).trans (hb.mono (by rw [← HW2.out]; simp))))
 have HV1:=Lib.hid (HV1.out.below ((show Below wo1.heap.size wo1 wt2 by rw [← HW2.out]; exact (Below.refl _ _).alloc (Nat.le_refl _) _).trans (hb.mono (by rw [← HW2.out]; simp))))
 have HV2:=Lib.hid hv2
 obtain ⟨vp2,vc2,rfl⟩:=hs_slice hv2
 clear hv2 hb K1
 obtain ⟨G3,hG⟩ : ∃ z,wo2.heap.size = z:=⟨_,rfl⟩
 obtain ⟨wt3,hw⟩ : ∃ z,wo2.alloc (.cells #[.string ⟨#[104,111,115,116]⟩,.string ⟨#[120]⟩] 9) = z:=⟨_,rfl⟩
 have hb : Below wo2.heap.size wo2 wt3:=by rw [← hw]; exact (Below.refl _ _).alloc (Nat.le_refl _) _
 have HG3:=Lib.hid (show wt3.heap[G3]? = some (.cells (hds Rq.wS3).toArray 9 (0,0)) by rw [← hw,← hG]; exact World.alloc_heap_new _ _)
 have HW3:=Lib.hid hw
 have HGG3:=Lib.hid hG
 have HB:=Lib.hid (HB.out.trans (hb.mono HB.out.size))
 clear hb hw hG
 have K1:=Lib.hid (law_of13 ⟨#[71,69,84,32,97,32,72,84,84,80,47,49,46,49]⟩ G3 2 2 (some ⟨G3,0,none⟩) Rq.wS3 wt3 rfl (by decide) (fun _ => ⟨rfl,HG3.out⟩) (by decide))
 go_wp2_with fail
 rw [HGG3.out,HW3.out]
 refine K1.out.mono ?_
 rintro e wo3 ⟨v3,rfl,hv3,hb⟩
 have HB:=Lib.hid (HB.out.trans (hb.mono HB.out.size))
 have HV0:=Lib.hid (HV0.out.below ((show Below wo2.heap.size wo2 wt3 by rw [← HW3.out]; exact (Below.refl _ _).alloc (Nat.le_refl _) _).trans (hb.mono (by rw [← HW3.out]; simp))))
 have HV1:=Lib.hid (HV1.out.below ((show Below wo2.heap.size wo2 wt3 by rw [← HW3.out]; exact (Below.refl _ _).alloc (Nat.le_refl _) _).trans (hb.mono (by rw [← HW3.out]; simp))))
 have HV2:=Lib.hid (HV2.out.below ((show Below wo2.heap.size wo2 wt3 by rw [← HW3.out]; exact (Below.refl _ _).alloc (Nat.le_refl _) _).trans (hb.mono (by rw [← HW3.out]; simp))))
 have HV3:=Lib.hid hv3
 obtain ⟨vp3,vc3,rfl⟩:=hs_slice hv3
 clear hv3 hb K1
 obtain ⟨G4,hG⟩ : ∃ z,wo3.heap.size = z:=⟨_,rfl⟩
 obtain ⟨wt4,hw⟩ : ∃ z,wo3.alloc (.cells #[.string ⟨#[97,99,99,101,112,116]⟩,.string ⟨#[116,101,120,116,47,104,116,109,108]⟩] 9) = z:=⟨_,rfl⟩
 have hb : Below wo3.heap.size wo3 wt4:=by rw [← hw]; exact (Below.refl _ _).alloc (Nat.le_refl _) _
 have HG4:=Lib.hid (show wt4.heap[G4]? = some (.cells (hds Rq.wS4).toArray 9 (0,0)) by rw [← hw,← hG]; exact World.alloc_heap_new _ _)
 have HW4:=Lib.hid hw
 have HGG4:=Lib.hid hG
 have HB:=Lib.hid (HB.out.trans (hb.mono HB.out.size))
 clear hb hw hG
 have K1:=Lib.hid (law_of13 ⟨#[71,69,84,32,47,97,32,72,84,84,80,47,49,46,48]⟩ G4 2 2 (some ⟨G4,0,none⟩) Rq.wS4 wt4 rfl (by decide) (fun _ => ⟨rfl,HG4.out⟩) (by decide))
 go_wp2_with fail
 rw [HGG4.out,HW4.out]
 refine K1.out.mono ?_
 rintro e wo4 ⟨v4,rfl,hv4,hb⟩
 have HB:=Lib.hid (HB.out.trans (hb.mono HB.out.size))
 have HV0:=Lib.hid (HV0.out.below ((show Below wo3.heap.size wo3 wt4 by rw [← HW4.out]; exact (Below.refl _ _).alloc (Nat.le_refl _) _).trans (hb.mono (by rw [← HW4.out]; simp))))
 have HV1:=Lib.hid (HV1.out.below ((show Below wo3.heap.size wo3 wt4 by rw [← HW4.out]; exact (Below.refl _ _).alloc (Nat.le_refl _) _).trans (hb.mono (by rw [← HW4.out]; simp))))
 have HV2:=Lib.hid (HV2.out.below ((show Below wo3.heap.size wo3 wt4 by rw [← HW4.out]; exact (Below.refl _ _).alloc (Nat.le_refl _) _).trans (hb.mono (by rw [← HW4.out]; simp))))
 have HV3:=Lib.hid (HV3.out.below ((show Below wo3.heap.size wo3 wt4 by rw [← HW4.out]; exact (Below.refl _ _).alloc (Nat.le_refl _) _).trans (hb.mono (by rw [← HW4.out]; simp))))
 have HV4:=Lib.hid hv4
 obtain ⟨vp4,vc4,rfl⟩:=hs_slice hv4
 clear hv4 hb K1
 obtain ⟨G5,hG⟩ : ∃ z,wo4.heap.size = z:=⟨_,rfl⟩
 obtain ⟨wt5,hw⟩ : ∃ z,wo4.alloc (.cells #[.string ⟨#[97,99,99,101,112,116]⟩,.string ⟨#[116,101,120,116,47,104,116,109,108]⟩] 9) = z:=⟨_,rfl⟩
 have hb : Below wo4.heap.size wo4 wt5:=by rw [← hw]; exact (Below.refl _ _).alloc (Nat.le_refl _) _
 have HG5:=Lib.hid (show wt5.heap[G5]? = some (.cells (hds Rq.wS5).toArray 9 (0,0)) by rw [← hw,← hG]; exact World.alloc_heap_new _ _)
 have HW5:=Lib.hid hw
 have HGG5:=Lib.hid hG
 have HB:=Lib.hid (HB.out.trans (hb.mono HB.out.size))
 clear hb hw hG
 have K1:=Lib.hid (law_of13 ⟨#[71,69,84,32,47,104,101,97,108,116,104,32,72,84,84,80,47,49,46,48]⟩ G5 2 2 (some ⟨G5,0,none⟩) Rq.wS5 wt5 rfl (by decide) (fun _ => ⟨rfl,HG5.out⟩) (by decide))
 go_wp2_with fail
 rw [HGG5.out,HW5.out]
 refine K1.out.mono ?_
 rintro e wo5 ⟨v5,rfl,hv5,hb⟩
 have HB:=Lib.hid (HB.out.trans (hb.mono HB.out.size))
 have HV0:=Lib.hid (HV0.out.below ((show Below wo4.heap.size wo4 wt5 by rw [← HW5.out]; exact (Below.refl _ _).alloc (Nat.le_refl _) _).trans (hb.mono (by rw [← HW5.out]; simp))))
 have HV1:=Lib.hid (HV1.out.below ((show Below wo4.heap.size wo4 wt5 by rw [← HW5.out]; exact (Below.refl _ _).alloc (Nat.le_refl _) _).trans (hb.mono (by rw [← HW5.out]; simp))))
 have HV2:=Lib.hid (HV2.out.below ((show Below wo4.heap.size wo4 wt5 by rw [← HW5.out]; exact (Below.refl _ _).alloc (Nat.le_refl _) _).trans (hb.mono (by rw [← HW5.out]; simp))))
 have HV3:=Lib.hid (HV3.out.below ((show Below wo4.heap.size wo4 wt5 by rw [← HW5.out]; exact (Below.refl _ _).alloc (Nat.le_refl _) _).trans (hb.mono (by rw [← HW5.out]; simp))))
 have HV4:=Lib.hid (HV4.out.below ((show Below wo4.heap.size wo4 wt5 by rw [← HW5.out]; exact (Below.refl _ _).alloc (Nat.le_refl _) _).trans (hb.mono (by rw [← HW5.out]; simp))))
 have HV5:=Lib.hid hv5
 obtain ⟨vp5,vc5,rfl⟩:=hs_slice hv5
 clear hv5 hb K1
 obtain ⟨H,hH⟩ : ∃ z,wo5.heap.size = z:=⟨_,rfl⟩
 obtain ⟨wx,hwx⟩ : ∃ z,(wo5.alloc (.cells #[.string ⟨#[71,69,84,32,47,97,32,72,84,84,80,47,49,46,49]⟩,.slice vp0 0 vc0,.string ⟨#[80,79,83,84,32,47,97,32,72,84,84,80,47,49,46,49]⟩,.slice vp1 Rq.wS1.length vc1,.string ⟨#[71,69,84,32,47,97,32,72,84,84,80,47,50,46,48]⟩,.slice vp2 Rq.wS2.length vc2,.string ⟨#[71,69,84,32,97,32,72,84,84,80,47,49,46,49]⟩,.slice vp3 Rq.wS3.length vc3,.string ⟨#[71,69,84,32,47,97,32,72,84,84,80,47,49,46,48]⟩,.slice vp4 Rq.wS4.length vc4,.string ⟨#[71,69,84,32,47,104,101,97,108,116,104,32,72,84,84,80,47,49,46,48]⟩,.slice vp5 Rq.wS5.length vc5] 25)).alloc (.cells #[.int .i64 400,.int .i64 405,.int .i64 505,.int .i64 400,.int .i64 406,.int .i64 200] 3) = z:=⟨_,rfl⟩
 have hbx : Below wo5.heap.size wo5 wx:=by rw [← hwx]; exact ((Below.refl _ _).alloc (Nat.le_refl _) _).alloc (by simp) _
 have HHX:=Lib.hid (show wx.heap[H]? = some (.cells #[.string ⟨#[71,69,84,32,47,97,32,72,84,84,80,47,49,46,49]⟩,.slice vp0 0 vc0,.string ⟨#[80,79,83,84,32,47,97,32,72,84,84,80,47,49,46,49]⟩,.slice vp1 Rq.wS1.length vc1,.string ⟨#[71,69,84,32,47,97,32,72,84,84,80,47,50,46,48]⟩,.slice vp2 Rq.wS2.length vc2,.string ⟨#[71,69,84,32,97,32,72,84,84,80,47,49,46,49]⟩,.slice vp3 Rq.wS3.length vc3,.string ⟨#[71,69,84,32,47,97,32,72,84,84,80,47,49,46,48]⟩,.slice vp4 Rq.wS4.length vc4,.string ⟨#[71,69,84,32,47,104,101,97,108,116,104,32,72,84,84,80,47,49,46,48]⟩,.slice vp5 Rq.wS5.length vc5] 25 (0,0)) by rw [← hwx,← hH,Below.heap_alloc _ _ _ (by simp)]; exact World.alloc_heap_new _ _)
 have HNX:=Lib.hid (show wx.heap[H + 1]? = some (.cells #[.int .i64 400,.int .i64 405,.int .i64 505,.int .i64 400,.int .i64 406,.int .i64 200] 3 (0,0)) by
  rw [← hwx,← hH]
  have h:=World.alloc_heap_new (wo5.alloc (.cells #[.string ⟨#[71,69,84,32,47,97,32,72,84,84,80,47,49,46,49]⟩,.slice vp0 0 vc0,.string ⟨#[80,79,83,84,32,47,97,32,72,84,84,80,47,49,46,49]⟩,.slice vp1 Rq.wS1.length vc1,.string ⟨#[71,69,84,32,47,97,32,72,84,84,80,47,50,46,48]⟩,.slice vp2 Rq.wS2.length vc2,.string ⟨#[71,69,84,32,97,32,72,84,84,80,47,49,46,49]⟩,.slice vp3 Rq.wS3.length vc3,.string ⟨#[71,69,84,32,47,97,32,72,84,84,80,47,49,46,48]⟩,.slice vp4 Rq.wS4.length vc4,.string ⟨#[71,69,84,32,47,104,101,97,108,116,104,32,72,84,84,80,47,49,46,48]⟩,.slice vp5 Rq.wS5.length vc5] 25)) (.cells #[.int .i64 400,.int .i64 405,.int .i64 505,.int .i64 400,.int .i64 406,.int .i64 200] 3)
  simpa using h)
 have HBX:=Lib.hid (HB.out.trans (hbx.mono HB.out.size))
 have HV0:=Lib.hid (HV0.out.below hbx)
 have HV1:=Lib.hid (HV1.out.below hbx)
 have HV2:=Lib.hid (HV2.out.below hbx)
 have HV3:=Lib.hid (HV3.out.below hbx)
 have HV4:=Lib.hid (HV4.out.below hbx)
 have HV5:=Lib.hid (HV5.out.below hbx)
 have HWX:=Lib.hid hwx
 have HHH:=Lib.hid hH
 clear hwx hH hbx
 have HAT:=Lib.hid (show ∀ k,k < 6 → ∃ fb p n c v,wx.cell? ⟨H,k * 2,none⟩ = some (.string fb) ∧ wx.cell? ⟨H,k * 2 + 1,none⟩ = some (.slice p n c) ∧ wx.cell? ⟨H + 1,k,none⟩ = some (.int .i64 (Rq.wN k)) ∧ v = .slice p n c ∧ Hp.sx (Rq.wF k) = .string fb ∧ HS wx v (Rq.wS k) from fun k hk => by
  match k,hk with
  | 0,_ => exact ⟨⟨#[71,69,84,32,47,97,32,72,84,84,80,47,49,46,49]⟩,vp0,0,vc0,_,by simp [World.cell?,HHX.out],by simp [World.cell?,HHX.out],by simp [World.cell?,HNX.out,Rq.wN],rfl,rfl,HV0.out⟩
  | 1,_ => exact ⟨⟨#[80,79,83,84,32,47,97,32,72,84,84,80,47,49,46,49]⟩,vp1,Rq.wS1.length,vc1,_,by simp [World.cell?,HHX.out],by simp [World.cell?,HHX.out],by simp [World.cell?,HNX.out,Rq.wN],rfl,rfl,HV1.out⟩
  | 2,_ => exact ⟨⟨#[71,69,84,32,47,97,32,72,84,84,80,47,50,46,48]⟩,vp2,Rq.wS2.length,vc2,_,by simp [World.cell?,HHX.out],by simp [World.cell?,HHX.out],by simp [World.cell?,HNX.out,Rq.wN],rfl,rfl,HV2.out⟩
  | 3,_ => exact ⟨⟨#[71,69,84,32,97,32,72,84,84,80,47,49,46,49]⟩,vp3,Rq.wS3.length,vc3,_,by simp [World.cell?,HHX.out],by simp [World.cell?,HHX.out],by simp [World.cell?,HNX.out,Rq.wN],rfl,rfl,HV3.out⟩
  | 4,_ => exact ⟨⟨#[71,69,84,32,47,97,32,72,84,84,80,47,49,46,48]⟩,vp4,Rq.wS4.length,vc4,_,by simp [World.cell?,HHX.out],by simp [World.cell?,HHX.out],by simp [World.cell?,HNX.out,Rq.wN],rfl,rfl,HV4.out⟩
  | 5,_ => exact ⟨⟨#[71,69,84,32,47,104,101,97,108,116,104,32,72,84,84,80,47,49,46,48]⟩,vp5,Rq.wS5.length,vc5,_,by simp [World.cell?,HHX.out],by simp [World.cell?,HHX.out],by simp [World.cell?,HNX.out,Rq.wN],rfl,rfl,HV5.out⟩
  | k + 6,hk => exact absurd hk (by omega))
 clear HV0 HV1 HV2 HV3 HV4 HV5
 go_upto_region 6 with (fail)
 rw [HHH.out,HWX.out]
 go_wp2_with fail
 go_loopw [6] (fun i wr => ∃ k : Nat,k ≤ 6 ∧ i = .int .i64 (k : Int) ∧ Below wx.heap.size wx wr) (fun i _ => (6 - intOf i).toNat)
 case atStart => exact ⟨0,by omega,rfl,Below.refl _ _⟩
 case round =>
  obtain ⟨k,hk,rfl,hbr⟩:=hrel
  by_cases hlt : k < 6
  ·obtain ⟨fb,p,n,c,v,h1,h2,h3,h4,h5,h6⟩:=HAT.out k hlt
   subst h4
   have K:=rq_Status (Rq.wF k) (.slice p n c) (Rq.wS k) wr (h6.below hbr) (w_rq k) (HM.out _ (HBX.out.trans (hbr.mono HBX.out.size)))
   rw [w_st,h5] at K
   simp only at K
   have hI : (k : Int) < 6:=by omega
   have x1:=cell_keep hbr h1
   have x2:=cell_keep hbr h2
   have x3 : ∀ W,Below wr.heap.size wr W → W.cell? ⟨H + 1,k,none⟩ = some (.int .i64 (Rq.wN k)):=fun W hb => cell_keep (hbr.trans (hb.mono hbr.size)) h3
   obtain ⟨st,hst⟩ : ∃ z,Rq.wN k = z:=⟨_,rfl⟩
   simp only [hst] at K x3
   have K:=Lib.hid K
   have X3:=Lib.hid x3
   have HBR:=Lib.hid hbr
   clear h1 h2 h3 h5 h6 hst x3 hbr
   go_wp2_with fail
   refine K.out.mono ?_
   rintro e w8 ⟨rfl,hb⟩
   have x3:=X3.out _ hb
   have HBR2:=Lib.hid (HBR.out.trans (hb.mono HBR.out.size))
   have e1 : (st != st) = false:=by simp
   clear hb x1 x2
   go_wp2_with fail
   refine (KN.out _ _).mono ?_
   rintro e w9 ⟨rfl,hw9⟩
   subst w9
   go_wp2_with fail
   go_roundw
   case rel => exact ⟨k + 1,hlt,by go_num,HBR2.out⟩
   case measure => simp [intOf]; omega
  ·have hI : ¬ ((k : Int) < 6):=by omega
   have HBR:=Lib.hid (HBX.out.trans (hbr.mono HBX.out.size))
   have KR:=Lib.hid (rq_Refusal wr)
   clear hbr
   go_wp2_with fail
   refine KR.out.mono ?_
   rintro e w8 ⟨rfl,hb⟩
   have HB8:=Lib.hid (HBR.out.trans (hb.mono HBR.out.size))
   clear hb
   go_wp2_with fail
   exact bodyPost_ret (v:=.bool true) (by simp [results,Tryz.results6,go_sem]) rfl ⟨rfl,HB8.out⟩
end Go.Proofs.YtfacmnooklljnaaGreatDoor
namespace Go.Proofs.YtfacmnooklljnaaGreatDoor
open Go.RowKit Go.Shelf
attribute [local go_sem] Oper.semAt_some
set_option maxHeartbeats 8000000
set_option maxRecDepth 100000
end Go.Proofs.YtfacmnooklljnaaGreatDoor
namespace Go.Proofs.YtfacmnooklljnaaGreatDoor
open Go.RowKit Go.Shelf Go.WideShapes
set_option maxHeartbeats 8000000
set_option maxRecDepth 100000
section
variable {H : Type} {enc : TypeId × Value → H} {w : World} {base : Nat} {spare : Nat → Bool} {held : Bool}
end
end Go.Proofs.YtfacmnooklljnaaGreatDoor