/- Texts of this claim, one behind the other: Wm, Wo, Yz, Wp, Wa, Wb, Vc, Wc, Wd, We, Wf, Wg, Wh, Wi, Wj, Va, Vb. -/
import Derived.Test.YtfacmnooklljnaaGreatDoorCQEm1
import Derived.SizedLaws
import Derived.ChangeSame
import Derived.Test.YtfacmnooklljnaaGreatDoorCQEm6
import Derived.WideShapes
import Derived.ChangeSlices
import Derived.OpenShut
import Derived.Test.YtfacmnooklljnaaGreatDoorCQEm2
import Derived.RangeFuncBox
import Derived.OwnWalkIn
import Derived.TacticsInMore
import Derived.LoopNIn
import Derived.LoopIn
import Derived.Test.YtfacmnooklljnaaGreatDoorCQEm3
import Derived.Deep.Cut
import Derived.IntWalk
import Derived.Deep.QuietTactic
import Derived.BigQuiet
import Derived.Scope
import Derived.Lib.QuietBelow
import Derived.Test.YtfacmnooklljnaaGreatDoorCQEm4
import Derived.Test.YtfacmnooklljnaaGreatDoorCQEm5
set_option linter.unusedVariables false
set_option linter.unusedSimpArgs false
namespace Go.Proofs.YtfacmnooklljnaaGreatDoor
open Go.RowKit Go.Shelf Go.WideShapes Go.ChangeShapes Go.ChangeAt
set_option maxHeartbeats 8000000
set_option maxRecDepth 100000
theorem list_of_allW {α : Type} (d : α) (P : Nat → α → Prop) : ∀ n : Nat,(∀ j,j < n → ∃ a,P j a) → ∃ l : List α,l.length = n ∧ ∀ j,j < n → P j (l.getD j d)
 | 0,_ => ⟨[],rfl,fun j hj => by omega⟩
 | n + 1,h => by
  obtain ⟨l,hl,hp⟩:=list_of_allW d P n (fun j hj => h j (by omega))
  obtain ⟨a,ha⟩:=h n (by omega)
  refine ⟨l ++ [a],by rw [List.length_append,hl]; rfl,fun j hj => ?_⟩
  by_cases e : j < n
  ·rw [List.getD_eq_getElem?_getD,List.getElem?_append_left (by omega),← List.getD_eq_getElem?_getD]
   exact hp j e
  ·obtain rfl : j = n:=by omega
   rw [List.getD_eq_getElem?_getD,List.getElem?_append_right (by omega),hl,Nat.sub_self]
   exact ha
theorem spot_of_cellW {w : World} {b o : Nat} {s : Option Nat} {v : Value} (h : w.cell? ⟨b,o,s⟩ = some v) : s = none:=by
 cases s with
 | none => rfl
 | some x =>
  unfold World.cell? at h
  cases hx : w.heap[b]? with
  | none => simp [hx] at h
  | some ob => cases ob <;> simp [hx] at h
section
variable {H : Type} {enc : TypeId × Value → H} {w : World} {base : Nat} {spare : Nat → Bool} {held : Bool}
theorem rin_ofW {α : Type} (f : α → List Value) (m : Nat) (d : α) (hm : 0 < m) (hf : ∀ q,(f q).length = m) (P : α → Prop) (a : Addr) (len cap : Nat)
  (each : ∀ j,j < len → ∃ q : α,(∀ i x,(f q)[i]? = some x → w.cell? ((a.add (j * m)).add i) = some x) ∧ P q) : ∃ qs : List α,Rin f m d w (.slice (some a) len cap) qs ∧ qs.length = len ∧ ∀ q ∈ qs,P q:=by
 obtain ⟨qs,hql,hqs⟩:=list_of_allW d _ len each
 refine ⟨qs,⟨some a,cap,by rw [hql],?_⟩,hql,fun q hq => ?_⟩
 ·by_cases h0 : len = 0
  ·exact .inl (by omega)
  ·obtain ⟨b,off,spot⟩:=a
   obtain ⟨x,hx⟩ : ∃ x,(f (qs.getD 0 d))[0]? = some x:=⟨_,List.getElem?_eq_getElem (by rw [hf]; exact hm)⟩
   have hc0:=(hqs 0 (by omega)).1 0 x hx
   have hadd : ((⟨b,off,spot⟩ : Addr).add (0 * m)).add 0 = ⟨b,off,spot⟩:=by rw [Nat.zero_mul]; rfl
   rw [hadd] at hc0
   obtain rfl : spot = none:=spot_of_cellW hc0
   refine .inr ⟨b,off,rfl,fun j hj i x hx => ?_⟩
   have h1:=(hqs j (by omega)).1 i x hx
   rw [Lib.add_plain,Lib.add_plain] at h1
   exact h1
 ·obtain ⟨j,hj,rfl⟩:=List.getElem_of_mem hq
  have h:=(hqs j (by omega)).2
  rwa [List.getD_eq_getElem?_getD,List.getElem?_eq_getElem hj] at h
end
abbrev HQ:=List UInt8 × List Hp.Hd × Value
def hqC (q : HQ) : List Value:=[Hp.sx q.1,q.2.2]
theorem hqC_len (q : HQ) : (hqC q).length = 2:=rfl
def hqd : HQ:=([],[],undef)
def hdC (q : Hp.Hd) : List Value:=[Hp.sx q.1,Hp.sx q.2]
theorem hdC_len (q : Hp.Hd) : (hdC q).length = 2:=rfl
def HdIn (w : World) (v : Value) (hs : List HQ) : Prop:=Rin hqC 2 hqd w v hs ∧ ∀ q ∈ hs,HS w q.2.2 q.2.1
theorem HdIn.below {w w' : World} {v : Value} {hs : List HQ} (h : HdIn w v hs) (hb : Below w.heap.size w w') : HdIn w' v hs:=⟨h.1.below hb,fun q hq => (h.2 q hq).below hb⟩
theorem hs_rin {w : World} {v : Value} {fs : List Hp.Hd} (h : Rin hdC 2 ([],[]) w v fs) : HS w v fs:=by
 obtain ⟨p,c,h1,h2⟩:=h
 rcases h2 with h0 | ⟨g,o,rfl,h3⟩
 ·exact .inl ⟨p,c,by rw [h1,h0],List.length_eq_zero_iff.1 h0⟩
 ·exact .inr ⟨g,o,c,h1,fun j hj => ⟨h3 j hj 0 _ rfl,h3 j hj 1 _ rfl⟩⟩
theorem sx_back (k : ByteArray) : Hp.sx k.data.toList = .string k:=rfl
section
variable {H : Type} {enc : TypeId × Value → H} {w : World} {base : Nat} {spare : Nat → Bool} {held : Bool}
theorem hs_in {fuel : Nat} {v : Value} {y : DataW H × List MemPlace} (h : DataW.trod enc Tryz.prog w base spare held fuel 23 [v] = some y) (hwt : ∀ n ∈ y.1.weights Tryz.prog 23,n ≤ reachBytes) :
  ∃ fs,HS w v fs ∧ (∀ f ∈ fs,f.1.length ≤ reachBytes ∧ f.2.length ≤ reachBytes) ∧ fs.length ≤ maxLen:=by
 have hc2 : Tryz.prog.cellsOf 59 = 2:=by kernel_rfl
 have hc1 : Tryz.prog.cellsOf 9 = 1:=by kernel_rfl
 rcases DataW.trod_slice Tryz.underlying23 h with ⟨hcs,_⟩ | ⟨a,len,cap,elems,rest,n,_,hcs,hyd,hb,hl,hm,hlen,hel,_,_⟩
 ·simp only [List.cons.injEq,and_true] at hcs
  subst hcs
  exact ⟨[],.inl ⟨none,0,rfl,rfl⟩,(fun q hq => by cases hq),by simp⟩
 ·simp only [List.cons.injEq,and_true] at hcs
  subst hcs
  have each : ∀ j,j < len → ∃ q : Hp.Hd,(∀ i x,(hdC q)[i]? = some x → w.cell? ((a.add (j * 2)).add i) = some x) ∧ (q.1.length ≤ reachBytes ∧ q.2.length ≤ reachBytes):=by
   intro j hj
   have h1:=hel j hj
   rw [List.getElem?_eq_getElem (by omega),Option.bind_eq_some_iff,hc2] at h1
   obtain ⟨cs,h2,h3⟩:=h1
   have h6:=(World.cells?_some h2).2
   match cs,h6.1,h3,h6.2 with
   | [c0,c1],_,h3,h6 =>
    obtain ⟨y0,y1,n',hx,_,h4,h5⟩:=trod_struct2 Tryz.underlying59 h3
    simp [hc1] at h4 h5
    obtain ⟨k,hk,hy0,hks⟩:=DataW.trod_string Tryz.underlying9 h4
    obtain ⟨u,hu,hy1,hus⟩:=DataW.trod_string Tryz.underlying9 h5
    simp only [List.cons.injEq,and_true] at hk hu
    subst hk
    subst hu
    have hin : (elems[j]'(by omega)).1 ∈ elems.map (·.1):=List.mem_map_of_mem (List.getElem_mem _)
    have hle : ∀ n ∈ (elems[j]'(by omega)).1.weights Tryz.prog 59,n ≤ reachBytes:=fun n hn => hwt n (by rw [hyd]; exact weigh_slice Tryz.underlying23 hin hn)
    rw [hx,hy0,hy1] at hle
    refine ⟨(k.data.toList,u.data.toList),fun i x hx => ?_,hle _ (weigh_two Tryz.underlying59 _ _ (.inl (weigh_lit k.data.toList))),hle _ (weigh_two Tryz.underlying59 _ _ (.inr (weigh_lit u.data.toList)))⟩
    have hi : i < 2:=by
     rcases Nat.lt_or_ge i 2 with h | h
     ·exact h
     ·rw [List.getElem?_eq_none (by show 2 ≤ i; exact h)] at hx; cases hx
    have h7:=h6 i hi
    unfold hdC at hx
    simp only [sx_back] at hx
    rw [hx] at h7
    exact h7
  obtain ⟨fs,h1,h2,h3⟩:=rin_ofW hdC 2 ([],[]) (by decide) hdC_len _ a len cap each
  exact ⟨fs,hs_rin h1,h3,by omega⟩
theorem heads_in {r : Reach} {b0 : Nat} {v : Value} {d : DataW H} {p : List MemPlace} (hv : Value.okWide Tryz.prog w r b0 44 v) (h : DataW.Trod enc Tryz.prog w base spare held 44 v d p) (hwt : ∀ n ∈ d.weights Tryz.prog 44,n ≤ reachBytes) :
  ∃ hs,HdIn w v hs ∧ (∀ q ∈ hs,q.1.length ≤ reachBytes ∧ (∀ f ∈ q.2.1,f.1.length ≤ reachBytes ∧ f.2.length ≤ reachBytes) ∧ q.2.1.length ≤ maxLen) ∧ hs.length ≤ maxLen:=by
 obtain ⟨a0,len0,cap0,rfl⟩:=okWide_slice Tryz.underlying44 hv
 have hc2 : Tryz.prog.cellsOf 25 = 2:=by kernel_rfl
 have hc1 : Tryz.prog.cellsOf 9 = 1:=by kernel_rfl
 have hc3 : Tryz.prog.cellsOf 23 = 1:=by kernel_rfl
 obtain ⟨fuel,hf⟩:=h
 rcases DataW.trod_slice Tryz.underlying44 hf with ⟨hcs,_⟩ | ⟨a,len,cap,elems,rest,n,_,hcs,hyd,hb,hl,hm,hlen,hel,_,_⟩
 ·simp [Value.cells] at hcs
  obtain ⟨rfl,rfl,rfl⟩:=hcs
  exact ⟨[],⟨Rin.nil w,fun q hq => by cases hq⟩,(fun q hq => by cases hq),by simp⟩
 ·simp [Value.cells] at hcs
  obtain ⟨rfl,rfl,rfl⟩:=hcs
  have each : ∀ j,j < len0 → ∃ q : HQ,(∀ i x,(hqC q)[i]? = some x → w.cell? ((a.add (j * 2)).add i) = some x) ∧ (HS w q.2.2 q.2.1 ∧ q.1.length ≤ reachBytes ∧ (∀ f ∈ q.2.1,f.1.length ≤ reachBytes ∧ f.2.length ≤ reachBytes) ∧ q.2.1.length ≤ maxLen):=by
   intro j hj
   have h1:=hel j hj
   rw [List.getElem?_eq_getElem (by omega),Option.bind_eq_some_iff,hc2] at h1
   obtain ⟨cs,h2,h3⟩:=h1
   have h6:=(World.cells?_some h2).2
   match cs,h6.1,h3,h6.2 with
   | [c0,c1],_,h3,h6 =>
    obtain ⟨y0,y1,n',hx,_,h4,h5⟩:=trod_struct2 Tryz.underlying25 h3
    simp [hc1,hc3] at h4 h5
    obtain ⟨k,hk,hy0,hks⟩:=DataW.trod_string Tryz.underlying9 h4
    simp only [List.cons.injEq,and_true] at hk
    subst hk
    have hin : (elems[j]'(by omega)).1 ∈ elems.map (·.1):=List.mem_map_of_mem (List.getElem_mem _)
    have hle : ∀ n ∈ (elems[j]'(by omega)).1.weights Tryz.prog 25,n ≤ reachBytes:=fun n hn => hwt n (by rw [show d = _ from congrArg Prod.fst hyd]; exact weigh_slice Tryz.underlying44 hin hn)
    rw [hx,hy0] at hle
    obtain ⟨fs,g1,g2,g3⟩:=hs_in h5 (fun n hn => hle n (weigh_two Tryz.underlying25 _ _ (.inr hn)))
    refine ⟨(k.data.toList,fs,c1),fun i x hx => ?_,g1,hle _ (weigh_two Tryz.underlying25 _ _ (.inl (weigh_lit k.data.toList))),g2,g3⟩
    have hi : i < 2:=by
     rcases Nat.lt_or_ge i 2 with h | h
     ·exact h
     ·rw [List.getElem?_eq_none (by show 2 ≤ i; exact h)] at hx; cases hx
    have h7:=h6 i hi
    unfold hqC at hx
    simp only [sx_back] at hx
    rw [hx] at h7
    exact h7
  obtain ⟨hs,h1,h2,h3⟩:=rin_ofW hqC 2 hqd (by decide) hqC_len _ a len0 cap0 each
  exact ⟨hs,⟨h1,fun q hq => (h3 q hq).1⟩,fun q hq => (h3 q hq).2,by omega⟩
end
end Go.Proofs.YtfacmnooklljnaaGreatDoor
namespace Go.Proofs.YtfacmnooklljnaaGreatDoor
open Go.RowKit Go.Shelf
attribute [local go_sem] Oper.semAt_some
set_option maxHeartbeats 8000000
set_option maxRecDepth 100000
def RwI (e T : TypeId) (w : World) (X B : Nat) (xs : List Value) (W : World) : Prop:=∃ V,Boxed W X T V ∧ W.ownsRow B e 1 V xs.length xs ∧ B ≤ W.heap.size ∧ w.heap.size ≤ X ∧ X < B ∧ Below w.heap.size w W
theorem RwI.next {e T : TypeId} {w W W' : World} {X B : Nat} {xs : List Value} (h : RwI e T w X B xs W) (k : Below W.heap.size W W') : RwI e T w X B xs W':=by
 obtain ⟨V,h1,h2,h3,h4,h5,h6⟩:=h
 exact ⟨V,(k.block _ h1.lt).trans h1,own_bel h2 k,Nat.le_trans h3 k.size,h4,h5,h6.trans (k.mono h6.size)⟩
def InRow (X : World) (p : Option Addr) (N : Nat) (t : Nat → Int) : Prop:=∀ k,k < N → ∃ g o,p = some ⟨g,o,none⟩ ∧ X.cell? ⟨g,o + k,none⟩ = some (.int .i64 (t k))
theorem sl_allT (F : Fence) (n : Nat) (h : F.fn 43) (hro : F.round = none) (v : Value) (p : Option Addr) (m c : Nat) (hv : v = .slice p m c) (w : World) :
  CallsIn F n Tryz.prog 43 #[v] w fun e w' => e = .returned (.func (.func 87) #[] #[.pointer (some ⟨w.heap.size,0,none⟩)]) ∧ w' = w.alloc (.cells #[v] 45):=by
 subst hv
 refine callsIn_of_wp Tryz.func43 rfl h ?_ hro
 simp only [Tryz.ntmps43,List.size_toArray,List.length_cons,List.length_nil,Nat.reduceAdd,Nat.reduceSub,Array.replicate_succ,Array.replicate_zero,List.push_toArray,List.append_toArray,List.nil_append,List.cons_append]
 gi_wp2
 go_ret
 exact ⟨rfl,rfl⟩
theorem all1T_it (m : Nat) (p : Option Addr) (N c B : Nat) (t : Nat → Int) (hN : N ≤ 1000000) (own : Nat → Prop) (Kp : World → World → Prop) (S : World → Prop) (W : World) (hB : ¬ own B)
  (hS : ∀ X,S X → InRow X p N t) (hKp : ∀ X Y,Kp X Y → S X → S Y) (hTu : ∀ X Y,Turn W.heap.size own X Y → S X → S Y)
  (hWB : Boxed W B 45 (.slice p N c)) (hv : S W) :
  IterAt Fence.wide m Tryz.prog 87 #[.pointer (some ⟨B,0,none⟩)] (fun k => #[.int .i64 k,.int .i64 (t k)]) N own Kp W:=by
 intro l J Jx hJ hJx hY h0
 have HV:=Lib.hid hv
 have hc0:=hWB.cell
 clear hv
 refine callsIn_of_wp Tryz.func87 rfl trivial ?_ rfl
 simp only [Tryz.ntmps87,List.size_toArray,List.length_cons,List.length_nil,Nat.reduceAdd,Nat.reduceSub,Array.replicate_succ,Array.replicate_zero,List.push_toArray,List.append_toArray,List.nil_append,List.cons_append]
 gi_wp2
 gi_loopw [7] (fun i wr => ∃ k : Nat,k ≤ N ∧ i = .int .i64 k ∧ J k wr ∧ S wr) (fun i _ => N - (intOf i).toNat)
 case atStart => exact ⟨0,Nat.zero_le _,rfl,h0,HV.out⟩
 case round =>
  obtain ⟨k,hk,rfl,hj,hp⟩:=hrel
  by_cases hlt : k < N
  ·have hI : (k : Int) < (N : Int):=by omega
   obtain ⟨g,o,rfl,h1⟩:=hS _ hp k hlt
   have HJ:=Lib.hid hj
   have HP:=Lib.hid hp
   obtain ⟨a,ha⟩ : ∃ z,t k = z:=⟨_,rfl⟩
   rw [ha] at h1
   obtain ⟨fn,tmps,assign,body,hy,hR⟩:=hY k _ hlt HJ.out
   rw [ha] at hy
   clear hj hp ha
   gi_wp2
   refine ⟨(fun h => by cases h),hR.mono ?_⟩
   rintro z Y (⟨rfl,hj',hkp,_⟩ | ⟨rfl,hjx,_⟩)
   ·have HPY:=Lib.hid (hKp _ _ hkp HP.out)
    clear hy
    gi_wp2
    go_roundw
    case rel => exact ⟨k + 1,hlt,by go_num,hj',HPY.out⟩
    case measure => simp [intOf]; omega
   ·gi_wp2
    refine bodyPost_ret (results_none rfl _ _ _) rfl ?_
    exact ⟨⟨_,rfl⟩,.inr hjx⟩
  ·have hI : ¬ (k : Int) < (N : Int):=by omega
   have hkN : k = N:=by omega
   subst hkN
   gi_wp2
   go_end0
   exact ⟨⟨_,rfl⟩,.inl hj⟩
theorem turn_belowV {B : Nat} {own : Nat → Prop} {W W' : World} (h : Below W.heap.size W W') : Turn B own W W' :=
 ⟨h.os,h.tape,h.output,h.size,fun k hk _ _ => h.block k hk⟩
theorem each1_it (C E : Nat) (p : Option Addr) (N c : Nat) (t : Nat → Int) (hN : N ≤ 1000000) (Kp : World → World → Prop) (S : World → Prop) (W : World) (hE : W.heap.size = E)
  (hS : ∀ X,S X → InRow X p N t ∧ Boxed X C 45 (.slice p N c)) (hKp : ∀ X Y,Kp X Y → S X → S Y) (hTu : ∀ X Y,Turn E (fun _ => False) X Y → S X → S Y) (hPu : ∀ X l o',E ≤ l → S X → S (X.putObj l o'))
  (hKf : ∀ X Y u,Kp X Y → Boxed X E 78 u → Boxed Y E 78 u)
  (hv : S W) :
  IterAt Fence.wide 9 Tryz.prog 42 #[.pointer (some ⟨C,0,none⟩)] (fun k => #[.int .i64 k,.int .i64 (t k)]) N (fun _ => False) Kp W:=by
 intro l J Jx hJ hJx hY h0
 have hbC:=(hS _ hv).2
 have hCE : C < E:=by rw [← hE]; exact hbC.lt
 refine callsIn_of_wp_marks Tryz.func42 rfl trivial ?_ rfl
 simp only [Tryz.ntmps42,List.size_toArray,List.length_cons,List.length_nil,Nat.reduceAdd,Nat.reduceSub,Array.replicate_succ,Array.replicate_zero,List.push_toArray,List.append_toArray,List.nil_append,List.cons_append]
 have LW:=Lib.hid (fun X => sl_allT Fence.wide 8 trivial rfl (.slice p N c) _ _ _ rfl X)
 have HV:=Lib.hid hv
 have cC:=hbC.cell
 obtain ⟨W1,hW1⟩ : ∃ W1,W.alloc (.cells #[.func (.yield l) #[] #[]] 78) = W1:=⟨_,rfl⟩
 have cC1 : W1.cell? ⟨C,0,none⟩ = some (.slice p N c):=by rw [← hW1]; exact (hbC.alloc _).cell
 have HW1:=Lib.hid hW1
 have HEE:=Lib.hid hE
 clear hv hbC hW1 hE
 gi_wp2_with fail
 rw [HW1.out,HEE.out]
 refine wpW_scope ?_
 gi_step
 apply wpIn_label
 gi_wp2_with fail
 refine ⟨trivial,(LW.out _).mono ?_⟩
 rintro e w' ⟨rfl,rfl⟩
 have hW1:=HW1.out
 have hE:=HEE.out
 obtain ⟨W0,hW0⟩ : ∃ W0,W1.alloc (.cells #[.slice p N c] 45) = W0:=⟨_,rfl⟩
 have hs0 : W0.heap.size = E + 2:=by rw [← hW0,← hW1]; simp; omega
 have bY : Boxed W0 E 78 (.func (.yield l) #[] #[]):=by
  rw [← hW0,← hW1,← hE]; exact (Boxed.new W _ _).alloc _
 have hsz : W1.heap.size = E + 1:=by rw [← hW1]; simp; omega
 have bN : Boxed W0 (E + 1) 45 (.slice p N c):=by
  rw [← hW0,← hsz]; exact Boxed.new W1 _ _
 have j0 : J 0 W0:=by rw [← hW0,← hW1]; exact hJ _ _ _ (hJ _ _ _ h0 (.alloc _ _)) (.alloc _ _)
 have s0 : S W0:=by rw [← hW0,← hW1]; exact hTu _ _ (.alloc _ _) (hTu _ _ (.alloc _ _) HV.out)
 rw [hsz,hW0]
 clear hW0 hsz hW1 cC cC1 h0
 gi_wp2_with fail
 refine rf_outerE (N:=N) (own:=fun _ => False) (Kp:=fun X Y => S X → S Y) (encs:=fun k => #[.int .i64 k,.int .i64 (t k)]) rfl (by omega) (gf:=87) (lb:=#[.pointer (some ⟨E + 1,0,none⟩)]) rfl trivial (enters_of Tryz.func87 (by kernel_rfl) rfl)
  (fun _ => rfl) (fun b hb => hb.elim)
  (fun X hX hs => by
   exact all1T_it 8 p N c (E + 1) t hN (fun _ => False) (fun X Y => S X → S Y) S X (fun h => h) (fun X h => (hS X h).1) (fun _ _ h => h) (fun A B h => hTu A B (h.mono (by omega) (fun _ h => h)))
    ((hX.block _ (by omega)).trans bN) (hTu _ _ (turn_belowV hX) s0))
  (fun h k hs => k (h hs)) (fun X o o' h2 h3 hs => hPu _ _ _ (by omega) hs)
  (fun k X => J k X ∧ Boxed X E 78 (.func (.yield l) #[] #[]) ∧ S X) (fun c X => c = .exit 0 ∧ Jx X)
  (fun k X Y hs ht => ⟨hJ _ _ _ hs.1 (ht.mono (by omega) (fun b hb => hb)),ht.boxed hs.2.1 (fun h => h),hTu _ _ (ht.mono (by omega) (fun b hb => hb)) hs.2.2⟩)
  (fun c X Y hs ht => ⟨hs.1,hJx _ _ hs.2 (ht.mono (by omega) (fun b hb => hb))⟩) ⟨j0,bY,s0⟩ ?E
 case E =>
  apply Exists.intro
  refine ⟨?asg,?bod,?don,?stp⟩
  case asg =>
   intro l' k X K hk hi hK
   have HKK:=Lib.hid hK
   clear hK
   gi_wp2
   exact HKK.out _ (KeepsFrom.refl _ _) (fun h => h) hi
  case bod =>
   rintro l' k X hl' ⟨r,hr⟩ hk ⟨hj,hb,hs⟩
   have cY:=hb.cell
   obtain ⟨fn,tmps,assign,body,hy,hR⟩:=hY k X hk hj
   have hR':=roundIn_any 6 hR
   obtain ⟨a,ha⟩ : ∃ z,t k = z:=⟨_,rfl⟩
   rw [ha] at hy
   clear hR
   gi_wp2
   refine RoundIn.mono (F:=Fence.wide) hR' ?_
   rintro e Y (⟨rfl,hj',hkp,hkf⟩ | ⟨rfl,hjx,hkf⟩)
   ·have hbY:=hKf _ _ _ hkp hb
    have hsY:=hKp _ _ hkp hs
    gi_wp2
    exact ⟨⟨hkf.size,fun i o hi h1 h2 => hkf.same i o (by omega) h1 h2⟩,fun _ => hsY,hj',hbY,hsY⟩
   ·gi_wp2
    exact ⟨⟨hkf.size,fun i o hi h1 h2 => hkf.same i o (by omega) h1 h2⟩,rfl,hjx⟩
  case don =>
   rintro D X hD ⟨hj,_,_⟩ hK
   gi_wp2
   rw [Exit.noGoto_normal]
   refine ⟨by simp,.inl ⟨_,_,rfl,run_takeDeferred hK,?_⟩⟩
   exact ⟨_,results_none rfl _ _ _,⟨_,rfl⟩,.inl (hJ _ _ _ hj (.putObj _ (by omega) hK rfl))⟩
  case stp =>
   rintro D c X hD ⟨rfl,hjx⟩ hK
   gi_wp2
   rw [Exit.noGoto_normal]
   refine ⟨by simp,.inl ⟨_,_,rfl,run_takeDeferred hK,?_⟩⟩
   exact ⟨_,results_none rfl _ _ _,⟨_,rfl⟩,.inr (hJx _ _ hjx (.putObj _ (by omega) hK rfl))⟩
theorem InRow.own {W : World} {B n c : Nat} {e : TypeId} {p : Option Addr} {xs : List Value} (h : W.ownsRow B e 1 (.slice p n c) n xs) (t : Nat → Int) (ht : ∀ k,k < n → xs[k]? = some (.int .i64 (t k))) : InRow W p n t:=by
 intro k hk
 rcases h.2 with ⟨hv,h0⟩ | ⟨g,cap,cur,hv,hBg,hg,hnc,hcm,hcs,htk⟩
 ·omega
 ·cases hv
  have h2:=h.cells (g:=g) rfl k _ (ht k hk)
  have hadd : (⟨g,0,none⟩ : Addr).add k = ⟨g,0 + k,none⟩:=by unfold Addr.add; split <;> simp_all
  rw [hadd] at h2
  exact ⟨g,0,rfl,h2⟩
def AgV (W X : World) : Prop:=∀ b,b < W.heap.size → X.heap[b]? = W.heap[b]?
theorem AgV.size {W X : World} (h : AgV W X) : W.heap.size ≤ X.heap.size:=by
 rcases Nat.eq_zero_or_pos W.heap.size with h0 | h0
 ·omega
 ·have h1:=h (W.heap.size - 1) (by omega)
  rw [Array.getElem?_eq_getElem (by omega : W.heap.size - 1 < W.heap.size)] at h1
  have:=(Array.getElem?_eq_some_iff.1 h1).1
  omega
theorem AgV.of {W X : World} (h : Below W.heap.size W X) : AgV W X:=fun b hb => h.block b hb
theorem AgV.turn {B : Nat} {W X Y : World} (h : AgV W X) (ht : Turn B (fun _ => False) X Y) (hB : W.heap.size ≤ B) : AgV W Y :=
 fun b hb => (ht.block b (Nat.lt_of_lt_of_le hb h.size) id (fun h => by omega)).trans (h b hb)
theorem AgV.keep {W X Y : World} {E n : Nat} (hn : W.heap.size = n) (h : AgV W X) (ht : KeepB n E X Y) : AgV W Y :=
 fun b hb => (ht b (.inl (by omega)) (Nat.lt_of_lt_of_le hb h.size)).trans (h b hb)
theorem AgV.cell {W X : World} (h : AgV W X) {g i : Nat} {v : Value} (ha : W.cell? ⟨g,i,none⟩ = some v) : X.cell? ⟨g,i,none⟩ = some v:=by
 have hb : g < W.heap.size:=lt_of_cell ha
 unfold World.cell? at ha ⊢
 simp only at ha ⊢
 rw [h _ hb]
 exact ha
theorem AgV.row {W X : World} {p : Option Addr} {n : Nat} {t : Nat → Int} (h : AgV W X) (hr : InRow W p n t) : InRow X p n t:=fun k hk => by
 obtain ⟨g,o,h1,h2⟩:=hr k hk
 exact ⟨g,o,h1,h.cell h2⟩
end Go.Proofs.YtfacmnooklljnaaGreatDoor
namespace Go.Proofs.YtfacmnooklljnaaGreatDoor
namespace Ap
open Tp
def fq : Bool → Bool → List UInt8 → Bool × Bool
 | q,b,[] => (q,b)
 | q,b,c :: l => fq (stQ q b c.toNat) (stB q b c.toNat) l
def Cl (l : List UInt8) : Prop:=fq false false l = (false,false)
theorem st_plain {c : UInt8} (h : c ≠ 34) : stQ false false c.toNat = false ∧ stB false false c.toNat = false:=by
 have h2 : ((c.toNat : Int) == 34) = false:=by
  rw [beq_eq_false_iff_ne]
  intro e
  apply h
  apply UInt8.toNat.inj
  show c.toNat = 34
  omega
 unfold stQ stB
 simp [h2]
theorem Cl.plain : ∀ {l : List UInt8},(∀ c ∈ l,c ≠ 34) → Cl l
 | [],_ => rfl
 | c :: l,h => by
  have h1:=st_plain (h c (List.mem_cons_self ..))
  show fq _ _ l = _
  rw [h1.1,h1.2]
  exact Cl.plain (fun d hd => h d (List.mem_cons_of_mem _ hd))
end Ap
end Go.Proofs.YtfacmnooklljnaaGreatDoor
namespace Go.Proofs.YtfacmnooklljnaaGreatDoor
namespace Ap
def pad3 (r : List UInt8) : List UInt8:=r ++ ([48,48,48] : List UInt8).drop r.length
def thH (s : List UInt8) : Bool:=match s with
 | [] => false
 | [a] => decide (a = 48 ∨ a = 49)
 | a :: b :: r => decide (a = 48 ∨ a = 49) && decide (b = 46) && decide (r.length ≤ 3)
def thR (s : List UInt8) : Int :=
 if thH s = true ∧ (pad3 (s.drop 2)).all fig = true then (if s.getD 0 0 = 49 then (if num (pad3 (s.drop 2)) = 0 then 1000 else -1) else num (pad3 (s.drop 2))) else -1
theorem thH_iff (l : List UInt8) : thH l = true ↔ 1 ≤ l.length ∧ l.length ≤ 5 ∧ (l.getD 0 0 = 48 ∨ l.getD 0 0 = 49) ∧ (1 < l.length → l.getD 1 0 = 46):=by
 match l with
 | [] => simp [thH]
 | [a] => simp [thH]
 | a :: b :: r =>
  simp only [thH,Bool.and_eq_true,decide_eq_true_eq,List.length_cons,List.getD_cons_zero,List.getD_cons_succ]
  constructor
  ·rintro ⟨⟨h1,h2⟩,h3⟩
   exact ⟨by omega,by omega,h1,fun _ => h2⟩
  ·rintro ⟨_,h1,h2,h3⟩
   exact ⟨⟨h2,h3 (by omega)⟩,by omega⟩
theorem pad3_len {r : List UInt8} (h : r.length ≤ 3) : (pad3 r).length = 3:=by
 unfold pad3
 rw [List.length_append,List.length_drop]
 simp; omega
theorem pad3_at {r : List UInt8} {k : Nat} (h : k < r.length) : (pad3 r).getD k 0 = r.getD k 0:=by
 unfold pad3
 rw [List.getD_eq_getElem?_getD,List.getElem?_append_left h,← List.getD_eq_getElem?_getD]
theorem pad3_far {r : List UInt8} {k : Nat} (h : r.length ≤ k) (hk : k < 3) : (pad3 r).getD k 0 = 48:=by
 unfold pad3
 rw [List.getD_eq_getElem?_getD,List.getElem?_append_right h,List.getElem?_drop,show r.length + (k - r.length) = k by omega]
 match k,hk with
 | 0,_ | 1,_ | 2,_ => rfl
 | k + 3,hk => exact absurd hk (by omega)
theorem cut_at (c : UInt8) : ∀ (l : List UInt8) (k : Nat),k ≤ l.length → (∀ j,j < k → l.getD j 0 ≠ c) → (k < l.length → l.getD k 0 = c) → (cutB c l).1.length = k
 | [],k,h,_,_ => by simp at h; subst h; rfl
 | x :: l,0,_,_,h => by
  have h1 : x = c:=h (by simp)
  rw [cutB_cons,if_pos h1]; rfl
 | x :: l,k + 1,h,h2,h3 => by
  have h1 : x ≠ c:=h2 0 (by omega)
  rw [cutB_cons,if_neg h1]
  show (cutB c l).1.length + 1 = k + 1
  rw [cut_at c l k (by simpa using h) (fun j hj => h2 (j + 1) (by omega)) (fun hk => h3 (by simpa using hk))]
theorem cut_len (c : UInt8) (l : List UInt8) : (cutB c l).1.length ≤ l.length ∧ (cutB c l).1 = l.take (cutB c l).1.length ∧ ((cutB c l).2.2 = true ↔ (cutB c l).1.length < l.length) ∧ ((cutB c l).2.2 = true → (cutB c l).2.1 = l.drop ((cutB c l).1.length + 1)):=by
 cases h : (cutB c l).2.2 with
 | true =>
  obtain ⟨k,_,hk,he⟩:=ix_yes h
  rw [he]
  have hkl : (l.take k).length = k:=by rw [List.length_take]; omega
  simp only [hkl]
  exact ⟨by omega,trivial,by simp; exact hk,fun _ => trivial⟩
 | false =>
  obtain ⟨_,he⟩:=ix_no h
  rw [he]
  simp
theorem thR_is (s : List UInt8) : thR s = (thou s).getD (-1):=by
 match s with
 | [] => rfl
 | [a] =>
  by_cases h46 : a = 46
  ·subst h46; rfl
  ·have hc : cutB 46 [a] = ([a],[],false):=by rw [cutB_cons,if_neg h46]; rfl
   unfold thR thou
   rw [hc]
   by_cases h8 : a = 48
   ·subst h8; rfl
   ·by_cases h9 : a = 49
    ·subst h9; rfl
    ·rw [if_neg (by simp [thH,h8,h9]),if_neg (by simp [h8,h9])]; rfl
 | a :: b :: r =>
  by_cases h46 : a = 46
  ·subst h46
   unfold thR thou
   rw [cutB_cons,if_pos rfl,if_neg (by simp [thH]),if_neg (by simp)]; rfl
  ·by_cases hb : b = 46
   ·subst hb
    have hc : cutB 46 (a :: 46 :: r) = ([a],r,true):=by rw [cutB_cons,if_neg h46,cutB_cons,if_pos rfl]
    unfold thR thou
    rw [hc]
    show (if thH (a :: 46 :: r) = true ∧ (pad3 r).all fig = true then (if a = 49 then (if num (pad3 r) = 0 then 1000 else -1) else num (pad3 r)) else -1) = (if ([a] = [48] ∨ [a] = [49]) ∧ r.length ≤ 3 ∧ (pad3 r).all fig = true then (if [a] = [49] then (if num (pad3 r) = 0 then some 1000 else none) else some (num (pad3 r))) else none).getD (-1)
    by_cases hh : (a = 48 ∨ a = 49) ∧ r.length ≤ 3
    ·have e1 : thH (a :: 46 :: r) = true:=by simp [thH,hh.1,hh.2]
     have e2 : ([a] = [48] ∨ [a] = [49]):=by simpa using hh.1
     by_cases hf : (pad3 r).all fig = true
     ·have c1 : thH (a :: 46 :: r) = true ∧ (pad3 r).all fig = true:=⟨e1,hf⟩
      have c2 : ([a] = [48] ∨ [a] = [49]) ∧ r.length ≤ 3 ∧ (pad3 r).all fig = true:=⟨e2,hh.2,hf⟩
      rw [if_pos c1,if_pos c2]
      by_cases h9 : a = 49
      ·have d9 : ([a] : List UInt8) = [49]:=by rw [h9]
       rw [if_pos h9,if_pos d9]
       split <;> rfl
      ·have d9 : ¬ ([a] : List UInt8) = [49]:=by simpa using h9
       rw [if_neg h9,if_neg d9]; rfl
     ·rw [if_neg (fun h => hf h.2),if_neg (fun h => hf h.2.2)]; rfl
    ·have e1 : ¬ thH (a :: 46 :: r) = true:=by
      simp only [thH,Bool.and_eq_true,decide_eq_true_eq]
      exact fun h => hh ⟨h.1.1,h.2⟩
     rw [if_neg (fun h => e1 h.1),if_neg (fun h => hh ⟨by simpa using h.1,h.2.1⟩)]; rfl
   ·have hc : (cutB 46 (a :: b :: r)).1 = a :: b :: (cutB 46 r).1:=by rw [cutB_cons,if_neg h46,cutB_cons,if_neg hb]
    unfold thR thou
    rw [hc,if_neg (by simp [thH,hb]),if_neg (by simp)]; rfl
theorem low_byte : ∀ c : Fin 256,(Tp.tokB (UInt8.ofNat (Tp.lowB (UInt8.ofNat c.val).toNat).toNat).toNat = Tp.tokB (UInt8.ofNat c.val).toNat) ∧ (UInt8.ofNat (Tp.lowB (UInt8.ofNat c.val).toNat).toNat = 47 ↔ UInt8.ofNat c.val = 47):=by decide +kernel
theorem low_byte2 (c : UInt8) : (Tp.tokB (UInt8.ofNat (Tp.lowB c.toNat).toNat).toNat = Tp.tokB c.toNat) ∧ (UInt8.ofNat (Tp.lowB c.toNat).toNat = 47 ↔ c = 47):=by
 have h:=low_byte ⟨c.toNat,c.toNat_lt⟩
 have e : UInt8.ofNat c.toNat = c:=by simp
 simpa only [e] using h
theorem tok_low (l : List UInt8) : Tp.isTok (Tp.lower l) = Tp.isTok l:=by
 unfold Tp.isTok Tp.lower Tp.allT
 rw [List.all_map]
 have h : ((fun c : UInt8 => Tp.tokB c.toNat) ∘ fun c : UInt8 => UInt8.ofNat (Tp.lowB c.toNat).toNat) = fun c : UInt8 => Tp.tokB c.toNat:=by
  funext c
  exact (low_byte2 c).1
 rw [h]
 cases l <;> rfl
theorem cut_low : ∀ l : List UInt8,cutB 47 (Tp.lower l) = (Tp.lower (cutB 47 l).1,Tp.lower (cutB 47 l).2.1,(cutB 47 l).2.2)
 | [] => rfl
 | c :: l => by
  have hl : Tp.lower (c :: l) = UInt8.ofNat (Tp.lowB c.toNat).toNat :: Tp.lower l:=rfl
  rw [hl,cutB_cons,cutB_cons,cut_low l]
  by_cases h : c = 47
  ·rw [if_pos h,if_pos ((low_byte2 c).2.2 h)]; rfl
  ·rw [if_neg h,if_neg (fun e => h ((low_byte2 c).2.1 e))]; rfl
def parR (s : List UInt8) : Option (List UInt8 × List UInt8) :=
 if Tp.isTok (Tp.trim (cutB 61 s).1) = true then
  (if (cutB 61 s).2.2 = false then some (Tp.lower (Tp.trim (cutB 61 s).1),[])
   else if Tp.isTok (Tp.trim (cutB 61 s).2.1) = true then some (Tp.lower (Tp.trim (cutB 61 s).1),Tp.trim (cutB 61 s).2.1)
   else (Tp.quoted (Tp.trim (cutB 61 s).2.1)).map fun v => (Tp.lower (Tp.trim (cutB 61 s).1),v))
 else none
theorem parR_is (s : List UInt8) : parR s = par s:=by
 unfold parR par
 rw [tok_low]
 by_cases h1 : Tp.isTok (Tp.trim (cutB 61 s).1) = true
 ·rw [if_pos h1,if_pos h1]
  by_cases h2 : (cutB 61 s).2.2 = false
  ·have h3:=(Ap.ix_no h2).2
   rw [if_pos h2,if_neg (by rw [h2]; simp),h3]; rfl
  ·have h2 : (cutB 61 s).2.2 = true:=by simpa using h2
   rw [if_neg (by rw [h2]; simp)]
   by_cases h3 : Tp.isTok (Tp.trim (cutB 61 s).2.1) = true
   ·rw [if_pos h3,if_neg (by rw [h3]; simp)]
   ·rw [if_neg h3,if_pos ⟨h2,by simpa using h3⟩]
 ·rw [if_neg h1,if_neg h1]
def oneH (l : List UInt8) : Bool:=(cutB 47 l).2.2 && Tp.isTok (Tp.lower (cutB 47 l).1) && Tp.isTok (Tp.lower (cutB 47 l).2.1) && (!(Tp.lower (cutB 47 l).1 == [42]) || (Tp.lower (cutB 47 l).2.1 == [42]))
theorem one_is (s : List UInt8) : one s = if oneH ((all s 59).getD 0 []) = true then (takes ((all s 59).drop 1) (0,1000,false)).map fun st => (Tp.lower (cutB 47 ((all s 59).getD 0 [])).1,Tp.lower (cutB 47 ((all s 59).getD 0 [])).2.1,st.1,st.2.1) else none:=by
 unfold one
 rw [cut_low]
 generalize (all s 59).getD 0 [] = l
 generalize (takes ((all s 59).drop 1) (0,1000,false)) = t
 simp only
 unfold oneH
 generalize Tp.lower (cutB 47 l).1 = a
 generalize Tp.lower (cutB 47 l).2.1 = b
 generalize (cutB 47 l).2.2 = f
 congr 1
 simp only [Bool.and_eq_true,Bool.or_eq_true,Bool.not_eq_true',beq_eq_false_iff_ne,beq_iff_eq,and_assoc]
 by_cases h : a = [42] <;> simp [h]
end Ap
end Go.Proofs.YtfacmnooklljnaaGreatDoor
namespace Go.Proofs.YtfacmnooklljnaaGreatDoor
open Go.RowKit Go.Shelf
attribute [local go_sem] Oper.semAt_some
set_option maxHeartbeats 4000000
set_option maxRecDepth 100000
theorem byte_eq (a c : UInt8) : a = c ↔ ((a.toNat : Int) = (c.toNat : Int)):=⟨fun h => by rw [h],fun h => UInt8.toNat_inj.1 (by omega)⟩
theorem getD_byte (s : ByteArray) (k : Nat) (h : k < s.size) : s.data.toList.getD k 0 = s[k]:=by
 rw [List.getD_eq_getElem?_getD,List.getElem?_eq_getElem (show k < s.data.toList.length from h)]; rfl
theorem rf_at (s : ByteArray) (c : UInt8) (w : World) (hs : s.size ≤ 1000000) :
  Calls Tryz.prog 185 #[.string s,.int .u8 (c.toNat : Int)] w fun e w' => e = .returned (.int .i64 ((Ap.cutB c s.data.toList).1.length : Nat)) ∧ w' = w:=by
 have HIX:=Lib.hid (fun k h W => index_at s W k h)
 obtain ⟨n,hn⟩ : ∃ z,s.size = z:=⟨_,rfl⟩
 have HN:=Lib.hid hn
 have HSL:=Lib.hid (show s.data.toList.length = n by rw [← hn]; rfl)
 have HCA:=Lib.hid (Ap.cut_at c s.data.toList)
 obtain ⟨r,hr⟩ : ∃ z,(Ap.cutB c s.data.toList).1.length = z:=⟨_,rfl⟩
 simp only [hr] at HCA
 rw [hr]
 obtain ⟨cc,hcc⟩ : ∃ z : Int,(c.toNat : Int) = z:=⟨_,rfl⟩
 rw [hcc]
 have HCC:=Lib.hid hcc
 rw [hn] at hs
 clear hr hcc
 go_enter Tryz.func185,Tryz.ntmps185
 go_wp2_with fail
 go_loopw [5] (fun i wr => ∃ k : Nat,k ≤ n ∧ i = .int .i64 (k : Int) ∧ (∀ j,j < k → s.data.toList.getD j 0 ≠ c) ∧ wr = w) (fun i _ => n - (intOf i).toNat)
 case atStart => exact ⟨0,Nat.zero_le _,rfl,fun j hj => absurd hj (by omega),rfl⟩
 case round =>
  obtain ⟨k,hk,rfl,hf,hw⟩:=hrel
  subst hw
  by_cases hlt : k < n
  ·have hlt2 : k < s.size:=by rw [hn]; exact hlt
   have hI : (k : Int) < (n : Int):=by omega
   have hix:=HIX.out k hlt2
   have hgd:=getD_byte s k hlt2
   obtain ⟨x,hx⟩ : ∃ x : Int,((s[k]).toNat : Int) = x:=⟨_,rfl⟩
   rw [hx] at hix
   have hxc : s.data.toList.getD k 0 = c ↔ x = cc:=by rw [hgd,byte_eq,hx,HCC.out]
   have HF:=Lib.hid hf
   by_cases hc : x = cc
   ·have HR:=Lib.hid (HCA.out k (by rw [HSL.out]; omega) hf (fun _ => hxc.2 hc))
    have e1 : (x != cc) = false:=by simpa using hc
    have e2 : (x == cc) = true:=by simpa using hc
    clear hc hxc hgd hx hf
    go_wp2_with (simp only [hix])
    exact bodyPost_ret (v:=.int .i64 (k : Int)) (by simp [results,Tryz.results185,go_sem]) rfl ⟨by rw [HR.out],by first | trivial | rfl⟩
   ·have HNC:=Lib.hid (fun h => hc (hxc.1 h))
    have e1 : (x != cc) = true:=by simpa using hc
    have e2 : (x == cc) = false:=by simpa using hc
    clear hc hxc hgd hx hf
    go_wp2_with (simp only [hix])
    go_roundw
    case rel =>
     refine ⟨k + 1,hlt,by go_num,fun j hj => ?_,by first | trivial | rfl⟩
     by_cases h : j = k
     ·subst h; exact HNC.out
     ·exact HF.out j (by omega)
    case measure => simp [intOf]; omega
  ·have hkn : k = n:=by omega
   have HR:=Lib.hid (HCA.out k (by rw [HSL.out]; omega) hf (fun h => by rw [HSL.out] at h; omega))
   have hI : ¬ ((k : Int) < (n : Int)):=by omega
   clear hf hkn
   go_wp2_with fail
   exact bodyPost_ret (v:=.int .i64 (k : Int)) (by simp [results,Tryz.results185,go_sem]) rfl ⟨by rw [HR.out],by first | trivial | rfl⟩
theorem rf_thou (s : ByteArray) (w : World) (hs : s.size ≤ 1000000) :
  Calls Tryz.prog 187 #[.string s] w fun e w' => e = .returned (.int .i64 (Ap.thR s.data.toList)) ∧ w' = w:=by
 have HIX:=Lib.hid (fun k h W => index_at s W k h)
 obtain ⟨n,hn⟩ : ∃ z,s.size = z:=⟨_,rfl⟩
 have hl : s.data.toList.length = n:=hn
 have hH:=Ap.thH_iff s.data.toList
 rw [hl] at hH
 have hv0 : Ap.thR s.data.toList = if Ap.thH s.data.toList = true ∧ (Ap.pad3 (s.data.toList.drop 2)).all Ap.fig = true then (if s.data.toList.getD 0 0 = 49 then (if Ap.num (Ap.pad3 (s.data.toList.drop 2)) = 0 then 1000 else -1) else Ap.num (Ap.pad3 (s.data.toList.drop 2))) else -1:=rfl
 obtain ⟨v,hv⟩ : ∃ z,Ap.thR s.data.toList = z:=⟨_,rfl⟩
 rw [hv] at hv0 ⊢
 have no : Ap.thH s.data.toList ≠ true → v = -1:=fun h => by rw [hv0,if_neg (fun x => h x.1)]
 clear hv
 by_cases h1 : n < 1
 ·have HV:=Lib.hid (no (fun h => by have:=hH.1 h; omega))
  have hI : (n : Int) < 1:=by omega
  rw [HV.out]
  clear hv0 no hH h1 hl
  go_enter Tryz.func187,Tryz.ntmps187
  go_wp2_with fail
  exact bodyPost_ret (v:=.int .i64 (-1)) (by simp [results,Tryz.results187,go_sem]) rfl ⟨rfl,rfl⟩
 have hI1 : ¬ ((n : Int) < 1):=by omega
 by_cases h5 : 5 < n
 ·have HV:=Lib.hid (no (fun h => by have:=hH.1 h; omega))
  have hI : (5 : Int) < (n : Int):=by omega
  rw [HV.out]
  clear hv0 no hH h1 hl h5
  go_enter Tryz.func187,Tryz.ntmps187
  go_wp2_with fail
  exact bodyPost_ret (v:=.int .i64 (-1)) (by simp [results,Tryz.results187,go_sem]) rfl ⟨rfl,rfl⟩
 have hI5 : ¬ ((5 : Int) < (n : Int)):=by omega
 have hp0 : 0 < s.size:=by omega
 have hix0 : ∀ W,(Instr.index 9 (.string s) (.int .i64 0)).run Tryz.prog W = .ok (.int .u8 ((s[0]).toNat : Int)) W:=fun W => HIX.out 0 hp0 W
 have g0:=getD_byte s 0 hp0
 obtain ⟨y,hy⟩ : ∃ x : Int,((s[0]).toNat : Int) = x:=⟨_,rfl⟩
 simp only [hy] at hix0
 have q48 : s.data.toList.getD 0 0 = 48 ↔ y = 48:=by rw [g0,byte_eq,hy]; rfl
 have q49 : s.data.toList.getD 0 0 = 49 ↔ y = 49:=by rw [g0,byte_eq,hy]; rfl
 rw [q48,q49] at hH
 clear g0 hy
 by_cases hy8 : y ≠ 48 ∧ y ≠ 49
 ·have HV:=Lib.hid (no (fun h => by have:=hH.1 h; omega))
  have e1 : (y != 48) = true:=by simpa using hy8.1
  have e2 : (y != 49) = true:=by simpa using hy8.2
  have e3 : (y == 48) = false:=by simpa using hy8.1
  have e4 : (y == 49) = false:=by simpa using hy8.2
  rw [HV.out]
  clear hv0 no hH h1 hl h5 hy8 q48 q49
  go_enter Tryz.func187,Tryz.ntmps187
  go_wp2_with (simp only [hix0])
  exact bodyPost_ret (v:=.int .i64 (-1)) (by simp [results,Tryz.results187,go_sem]) rfl ⟨rfl,rfl⟩
 by_cases hs1 : 1 < n ∧ s.data.toList.getD 1 0 ≠ 46
 ·obtain ⟨hn1,h46⟩:=hs1
  have HV:=Lib.hid (no (fun h => h46 ((hH.1 h).2.2.2 hn1)))
  have hp1 : 1 < s.size:=by omega
  have hix1 : ∀ W,(Instr.index 9 (.string s) (.int .i64 1)).run Tryz.prog W = .ok (.int .u8 ((s[1]).toNat : Int)) W:=fun W => HIX.out 1 hp1 W
  have g1:=getD_byte s 1 hp1
  rw [g1,Ne,byte_eq] at h46
  obtain ⟨z,hz⟩ : ∃ x : Int,((s[1]).toNat : Int) = x:=⟨_,rfl⟩
  simp only [hz] at hix1
  rw [hz,show ((46 : UInt8).toNat : Int) = 46 from rfl] at h46
  have e1 : (z != 46) = true:=by simpa using h46
  have e2 : (z == 46) = false:=by simpa using h46
  have hI : (1 : Int) < (n : Int):=by omega
  rw [HV.out]
  clear hv0 no hH h1 hl h5 q48 q49 g1 hz h46
  have hyy : y = 48 ∨ y = 49:=by omega
  clear hy8
  rcases hyy with rfl | rfl
  all_goals
   go_enter Tryz.func187,Tryz.ntmps187
   go_wp2_with (simp only [hix0,hix1])
   exact bodyPost_ret (v:=.int .i64 (-1)) (by simp [results,Tryz.results187,go_sem]) rfl ⟨rfl,rfl⟩
 have hs1' : 1 < n → s.data.toList.getD 1 0 = 46:=fun h => by
  by_cases h2 : s.data.toList.getD 1 0 = 46
  ·exact h2
  ·exact absurd ⟨h,h2⟩ hs1
 have hyy : y = 48 ∨ y = 49:=by omega
 have hth : Ap.thH s.data.toList = true:=hH.2 ⟨by omega,by omega,hyy,hs1'⟩
 obtain ⟨pd,hpd⟩ : ∃ z,Ap.pad3 (s.data.toList.drop 2) = z:=⟨_,rfl⟩
 have hpl : pd.length = 3:=by rw [← hpd]; exact Ap.pad3_len (by rw [List.length_drop]; omega)
 have hat : ∀ k,2 ≤ k → k < n → pd.getD (k - 2) 0 = s.data.toList.getD k 0:=fun k h1 h2 => by
  rw [← hpd,Ap.pad3_at (by rw [List.length_drop]; omega),List.getD_eq_getElem?_getD,List.getD_eq_getElem?_getD,List.getElem?_drop,show 2 + (k - 2) = k by omega]
 have hfar : ∀ k,n ≤ k → 2 ≤ k → k < 5 → pd.getD (k - 2) 0 = 48:=fun k h1 h2 h3 => by
  rw [← hpd]; exact Ap.pad3_far (by rw [List.length_drop]; omega) (by omega)
 rw [hpd] at hv0
 have hv1 : v = if pd.all Ap.fig = true then (if y = 49 then (if Ap.num pd = 0 then 1000 else -1) else Ap.num pd) else -1:=by
  rw [hv0]
  by_cases hf : pd.all Ap.fig = true
  ·have c1 : Ap.thH s.data.toList = true ∧ pd.all Ap.fig = true:=⟨hth,hf⟩
   rw [if_pos c1,if_pos hf]
   by_cases h9 : y = 49
   ·rw [if_pos h9,if_pos (q49.2 h9)]
   ·rw [if_neg h9,if_neg (fun h => h9 (q49.1 h))]
  ·rw [if_neg (fun h => hf h.2),if_neg hf]
 have HV:=Lib.hid hv1
 have HPL:=Lib.hid hpl
 have HAT:=Lib.hid hat
 have HFAR:=Lib.hid hfar
 have HN:=Lib.hid hn
 have HY:=Lib.hid hyy
 have hz1 : ∀ W,1 < n → (Instr.index 9 (.string s) (.int .i64 1)).run Tryz.prog W = .ok (.int .u8 46) W:=fun W h => by
  have hp1 : 1 < s.size:=by omega
  have h2 : (Instr.index 9 (.string s) (.int .i64 1)).run Tryz.prog W = .ok (.int .u8 ((s[1]).toNat : Int)) W:=HIX.out 1 hp1 W
  rw [h2]
  have g1:=getD_byte s 1 hp1
  rw [← g1,hs1' h]; rfl
 clear hv0 no hH q48 q49 hs1 hs1' hth hpd hpl hat hfar hv1 hl hy8 hp0 h1 h5 hyy
 go_enter Tryz.func187,Tryz.ntmps187
 go_upto_region 1 with (fail)
 go_cut [32] from 5 (fun s32 wx => s32 = .bool false ∧ wx = w)
 case first =>
  by_cases hn1 : 1 < n
  ·have hI : (1 : Int) < (n : Int):=by omega
   have hix1:=fun W => hz1 W hn1
   clear hz1 hn1
   rcases HY.out with rfl | rfl
   all_goals
    go_wp2_with (simp only [hix0,hix1])
    go_meet
    exact ⟨rfl,rfl⟩
  ·have hI : ¬ ((1 : Int) < (n : Int)):=by omega
   clear hz1 hn1
   rcases HY.out with rfl | rfl
   all_goals
    go_wp2_with (simp only [hix0])
    go_meet
    exact ⟨rfl,rfl⟩
 case rest =>
  obtain ⟨rfl,hw⟩:=hcut
  subst hw
  clear hz1
  go_wp2_with fail
  go_loopw [3,4] (fun q i wr => ∃ k : Nat,2 ≤ k ∧ k ≤ 5 ∧ i = .int .i64 (k : Int) ∧ q = .int .i64 (Ap.num (pd.take (k - 2))) ∧ (pd.take (k - 2)).all Ap.fig = true ∧ wr = wc) (fun _ i _ => 5 - (intOf i).toNat)
  case atStart => exact ⟨2,by omega,by omega,rfl,rfl,rfl,rfl⟩
  case round =>
   obtain ⟨k,hk2,hk,rfl,rfl,hf,hw⟩:=hrel
   subst hw
   have hb:=num_bound (k - 2) (pd.take (k - 2)) (by rw [List.length_take]; have:=HPL.out; omega) hf
   have hb3 : 0 ≤ Ap.num (pd.take (k - 2)) ∧ Ap.num (pd.take (k - 2)) < 1000:=by
    refine ⟨hb.1,Int.lt_of_lt_of_le hb.2 ?_⟩
    have : (k - 2) ≤ 3:=by omega
    match k - 2,this with
    | 0,_ | 1,_ | 2,_ | 3,_ => decide
    | m + 4,h => exact absurd h (by omega)
   by_cases hlt : k < 5
   ·have hI : (k : Int) < 5:=by omega
    have htk : pd.take (k + 1 - 2) = pd.take (k - 2) ++ [pd.getD (k - 2) 0]:=by
     rw [show k + 1 - 2 = (k - 2) + 1 by omega,List.take_add_one,List.getD_eq_getElem?_getD,List.getElem?_eq_getElem (by have:=HPL.out; omega)]; rfl
    have hns : Ap.num (pd.take (k + 1 - 2)) = 10 * Ap.num (pd.take (k - 2)) + (((pd.getD (k - 2) 0).toNat : Int) - 48):=by rw [htk]; exact num_snoc _ _
    have hfs : (pd.take (k + 1 - 2)).all Ap.fig = Ap.fig (pd.getD (k - 2) 0):=by rw [htk,List.all_append,hf]; simp
    obtain ⟨m,hm⟩ : ∃ z,Ap.num (pd.take (k - 2)) = z:=⟨_,rfl⟩
    rw [hm] at hb3 hns ⊢
    have HTK:=Lib.hid htk
    by_cases hkn : n ≤ k
    ·have h48:=HFAR.out k hkn hk2 hlt
     have HNS:=Lib.hid (show Ap.num (pd.take (k + 1 - 2)) = 10 * m by rw [hns,h48]; show 10 * m + (48 - 48) = _; omega)
     have HFS:=Lib.hid (show (pd.take (k + 1 - 2)).all Ap.fig = true by rw [hfs,h48]; decide)
     have hI2 : (n : Int) ≤ (k : Int):=by omega
     clear hb hm hns hfs htk h48 hf
     go_wp2_with fail
     go_roundw
     case rel => exact ⟨k + 1,by omega,by omega,by go_num,by rw [HNS.out],HFS.out,by first | trivial | rfl⟩
     case measure => simp [intOf]; omega
    ·have hks : k < s.size:=by have:=HN.out; omega
     have hix:=fun W => HIX.out k hks W
     have hgd:=getD_byte s k hks
     have hag:=HAT.out k hk2 (by omega)
     rw [hgd] at hag
     have hx0:=(s[k]).toNat_lt
     obtain ⟨x,hx⟩ : ∃ x : Int,((s[k]).toNat : Int) = x:=⟨_,rfl⟩
     simp only [hx] at hix
     rw [hag,hx] at hns
     rw [hag] at hfs
     have hfx : Ap.fig (s[k]) = decide (48 ≤ x ∧ x ≤ 57):=by unfold Ap.fig; rw [hx]
     rw [hfx] at hfs
     have hxb : 0 ≤ x ∧ x < 256:=by omega
     have HNS:=Lib.hid hns
     have HFS:=Lib.hid hfs
     have hI2 : ¬ ((n : Int) ≤ (k : Int)):=by omega
     have HBAD:=Lib.hid (show ¬ (48 ≤ x ∧ x ≤ 57) → v = -1 from fun h => by
      rw [HV.out,if_neg]
      intro hall
      rw [List.all_eq_true] at hall
      have h2:=hall (pd.getD (k - 2) 0) (by
       rw [List.getD_eq_getElem?_getD,List.getElem?_eq_getElem (show k - 2 < pd.length by have:=HPL.out; omega)]; exact List.getElem_mem _)
      rw [hag,hfx] at h2
      exact h (by simpa using h2))
     clear hb hm hns hfs htk hag hgd hfx hx hx0 hf hks hkn
     by_cases hx48 : x < 48
     ·have HB:=Lib.hid (HBAD.out (by omega))
      clear hxb
      go_wp2_with (simp only [hix])
      exact bodyPost_ret (v:=.int .i64 (-1)) (by simp [results,Tryz.results187,go_sem]) rfl ⟨by rw [HB.out],by first | trivial | rfl⟩
     ·by_cases hx57 : 57 < x
      ·have HB:=Lib.hid (HBAD.out (by omega))
       clear hxb
       go_wp2_with (simp only [hix])
       exact bodyPost_ret (v:=.int .i64 (-1)) (by simp [results,Tryz.results187,go_sem]) rfl ⟨by rw [HB.out],by first | trivial | rfl⟩
      ·have hw8 : IntKind.u8.wrap (x - 48) = x - 48:=by
        have : (0 : Int) ≤ x - 48 ∧ x - 48 ≤ 255:=by omega
        simp [IntKind.wrap,IntKind.signed,IntKind.bits]; omega
       have HFX:=Lib.hid (show decide (48 ≤ x ∧ x ≤ 57) = true from decide_eq_true (by omega))
       go_wp2_with (simp only [hix])
       go_roundw
       case rel =>
        refine ⟨k + 1,by omega,by omega,by go_num,by rw [HNS.out],by rw [HFS.out,HFX.out],by first | trivial | rfl⟩
       case measure => simp [intOf]; omega
   ·have hk5 : k = 5:=by omega
    subst hk5
    have htk : pd.take (5 - 2) = pd:=List.take_of_length_le (by rw [HPL.out]; omega)
    rw [htk] at hf hb3 ⊢
    have HV2:=Lib.hid (show v = if y = 49 then (if Ap.num pd = 0 then 1000 else -1) else Ap.num pd by rw [HV.out,if_pos hf])
    obtain ⟨m,hm⟩ : ∃ z,Ap.num pd = z:=⟨_,rfl⟩
    rw [hm] at hb3 HV2 ⊢
    clear hb hm htk hf HV
    have HYY:=HY.out
    rcases HYY with rfl | rfl
    ·have HR:=Lib.hid (show v = m by rw [HV2.out]; rfl)
     go_wp2_with (simp only [hix0])
     exact bodyPost_ret (v:=.int .i64 m) (by simp [results,Tryz.results187,go_sem]) rfl ⟨by rw [HR.out],by first | trivial | rfl⟩
    ·by_cases hm0 : m = 0
     ·subst hm0
      have HR:=Lib.hid (show v = 1000 by rw [HV2.out]; rfl)
      go_wp2_with (simp only [hix0])
      exact bodyPost_ret (v:=.int .i64 1000) (by simp [results,Tryz.results187,go_sem]) rfl ⟨by rw [HR.out],by first | trivial | rfl⟩
     ·have HR:=Lib.hid (show v = -1 by rw [HV2.out,if_pos rfl,if_neg hm0])
      have hI : 0 < m:=by omega
      go_wp2_with (simp only [hix0])
      exact bodyPost_ret (v:=.int .i64 (-1)) (by simp [results,Tryz.results187,go_sem]) rfl ⟨by rw [HR.out],by first | trivial | rfl⟩
end Go.Proofs.YtfacmnooklljnaaGreatDoor
namespace Go.Proofs.YtfacmnooklljnaaGreatDoor
open Go.RowKit Go.Shelf
attribute [local go_sem] Oper.semAt_some
set_option maxHeartbeats 4000000
set_option maxRecDepth 100000
def PmO (o : Option (List UInt8 × List UInt8)) (e : Ending) : Prop:=∃ a b : ByteArray,e = .returned (.tuple #[.string a,.string b,.bool o.isSome]) ∧ ∀ x y,o = some (x,y) → a = ⟨x.toArray⟩ ∧ b = ⟨y.toArray⟩
theorem rf_param (s : ByteArray) (w : World) (hs : s.size ≤ 100000) :
  Calls Tryz.prog 186 #[.string s] w fun e w' => PmO (Ap.par s.data.toList) e ∧ Below w.heap.size w w':=by
 rw [← Ap.parR_is]
 have hd : Ap.parR s.data.toList = if Tp.isTok (Tp.trim (Ap.cutB 61 s.data.toList).1) = true then
  (if (Ap.cutB 61 s.data.toList).2.2 = false then some (Tp.lower (Tp.trim (Ap.cutB 61 s.data.toList).1),[])
   else if Tp.isTok (Tp.trim (Ap.cutB 61 s.data.toList).2.1) = true then some (Tp.lower (Tp.trim (Ap.cutB 61 s.data.toList).1),Tp.trim (Ap.cutB 61 s.data.toList).2.1)
   else (Tp.quoted (Tp.trim (Ap.cutB 61 s.data.toList).2.1)).map fun v => (Tp.lower (Tp.trim (Ap.cutB 61 s.data.toList).1),v))
 else none:=rfl
 obtain ⟨o,ho⟩ : ∃ z,Ap.parR s.data.toList = z:=⟨_,rfl⟩
 rw [ho] at hd ⊢
 have KA:=rf_at s 61 w (by omega)
 obtain ⟨hk,h1,h2,h3⟩:=Ap.cut_len 61 s.data.toList
 obtain ⟨k,hkk⟩ : ∃ z,(Ap.cutB 61 s.data.toList).1.length = z:=⟨_,rfl⟩
 obtain ⟨f,hf⟩ : ∃ z,(Ap.cutB 61 s.data.toList).2.2 = z:=⟨_,rfl⟩
 obtain ⟨a1,ha1⟩ : ∃ z,(Ap.cutB 61 s.data.toList).1 = z:=⟨_,rfl⟩
 obtain ⟨a2,ha2⟩ : ∃ z,(Ap.cutB 61 s.data.toList).2.1 = z:=⟨_,rfl⟩
 rw [hkk] at KA hk h1 h2 h3
 rw [hf] at hd h2 h3
 rw [ha1] at hd h1
 rw [ha2] at hd h3
 clear ho hkk hf ha1 ha2
 obtain ⟨n,hn⟩ : ∃ z,s.size = z:=⟨_,rfl⟩
 have hl : s.data.toList.length = n:=hn
 rw [hl] at hk h2
 have hkn : k ≤ s.size:=by omega
 have hsl:=fun W => slice_to s W k hkn (by omega)
 have hzd : (s.extract 0 k).data.toList = a1:=by rw [h1]; exact Lib.extract_from_zero s k
 have hzs : (s.extract 0 k).size ≤ 100000:=by rw [ByteArray.size_extract]; omega
 obtain ⟨z1,hz1⟩ : ∃ z,s.extract 0 k = z:=⟨_,rfl⟩
 rw [hz1] at hzd hzs
 simp only [hz1] at hsl
 have KT:=fun W => rtk_trim z1 W (by omega)
 rw [hzd] at KT
 have htl : (Tp.trim a1).length ≤ 100000:=Nat.le_trans (Ap.trim_le a1) (by rw [← hzd]; exact hzs)
 obtain ⟨t1,ht1⟩ : ∃ z : ByteArray,(⟨(Tp.trim a1).toArray⟩ : ByteArray) = z:=⟨_,rfl⟩
 have htd : t1.data.toList = Tp.trim a1:=by rw [← ht1]
 have htz : t1.size ≤ 100000:=by rw [← ht1]; simpa [ByteArray.size] using htl
 simp only [ht1] at KT
 have KK:=fun W => rtk_token t1 W (by omega)
 have KL:=fun W => rtk_lower t1 W (by omega)
 rw [htd] at KK KL
 obtain ⟨b1,hb1⟩ : ∃ z,Tp.isTok (Tp.trim a1) = z:=⟨_,rfl⟩
 rw [hb1] at hd
 simp only [hb1] at KK
 obtain ⟨lb,hlb⟩ : ∃ z : ByteArray,(⟨(Tp.lower (Tp.trim a1)).toArray⟩ : ByteArray) = z:=⟨_,rfl⟩
 simp only [hlb] at KL
 have HA:=Lib.hid KA
 have HT:=Lib.hid KT
 have HK:=Lib.hid KK
 have HL:=Lib.hid KL
 have HLB:=Lib.hid hlb
 have HN:=Lib.hid hn
 have HD:=Lib.hid hd
 have H3:=Lib.hid h3
 have H2:=Lib.hid h2
 clear KA KT KK KL hd hb1 hlb htd htz htl ht1 hzd hzs hz1 h1 h2 h3 hl
 go_enter Tryz.func186,Tryz.ntmps186
 go_wp2_with fail
 refine HA.out.mono ?_
 rintro e w1 ⟨rfl,hw1⟩
 subst w1
 go_wp2_with (simp only [hsl])
 refine (HT.out _).mono ?_
 rintro e w1 ⟨rfl,hw1⟩
 subst w1
 go_wp2_with fail
 refine (HK.out _).mono ?_
 rintro e w1 ⟨rfl,hw1⟩
 subst w1
 cases b1 with
 | false =>
  have HO:=Lib.hid (show o = none by rw [HD.out]; rfl)
  go_wp2_with fail
  exact bodyPost_ret (v:=.tuple #[.string ⟨#[]⟩,.string ⟨#[]⟩,.bool false]) (by simp [results,Tryz.results186,go_sem]) rfl ⟨⟨_,_,by rw [HO.out]; rfl,fun x y h => by rw [HO.out] at h; cases h⟩,Below.refl _ _⟩
 | true =>
 cases f with
 | false =>
  have HO:=Lib.hid (show o = some (Tp.lower (Tp.trim a1),[]) by rw [HD.out]; rfl)
  have hkn2 : k = s.size:=by
   have:=H2.out
   have h4:=HN.out
   by_cases h : k < n
   ·exact absurd (this.2 h) (by decide)
   ·omega
  have e1 : ((k : Int) == (s.size : Int)) = true:=by rw [hkn2]; simp
  clear hkn2
  go_wp2_with fail
  refine (HL.out _).mono ?_
  rintro e w2 ⟨rfl,hb2⟩
  have HB:=Lib.hid hb2
  clear hb2
  go_wp2_with fail
  exact bodyPost_ret (v:=.tuple #[.string lb,.string ⟨#[]⟩,.bool true]) (by simp [results,Tryz.results186,go_sem]) rfl ⟨⟨_,_,by rw [HO.out]; rfl,fun x y h => by rw [HO.out] at h; cases h; exact ⟨HLB.out.symm,rfl⟩⟩,HB.out⟩
 | true =>
 have hks : k < s.size:=by have:=H2.out.1 rfl; have:=HN.out; omega
 have e1 : ((k : Int) == (s.size : Int)) = false:=beq_eq_false_iff_ne.2 (by omega)
 have hsf:=fun W => slice_from s W k hks (by omega)
 have hzd : (s.extract (k + 1) s.size).data.toList = a2:=by rw [H3.out rfl]; exact Lib.extract_to_end s (k + 1)
 have hzs : (s.extract (k + 1) s.size).size ≤ 100000:=by rw [ByteArray.size_extract]; omega
 obtain ⟨z2,hz2⟩ : ∃ z,s.extract (k + 1) s.size = z:=⟨_,rfl⟩
 rw [hz2] at hzd hzs
 simp only [hz2] at hsf
 have KT:=fun W => rtk_trim z2 W (by omega)
 rw [hzd] at KT
 have htl : (Tp.trim a2).length ≤ 100000:=Nat.le_trans (Ap.trim_le a2) (by rw [← hzd]; exact hzs)
 obtain ⟨t2,ht2⟩ : ∃ z : ByteArray,(⟨(Tp.trim a2).toArray⟩ : ByteArray) = z:=⟨_,rfl⟩
 have htd : t2.data.toList = Tp.trim a2:=by rw [← ht2]
 have htz : t2.size ≤ 100000:=by rw [← ht2]; simpa [ByteArray.size] using htl
 simp only [ht2] at KT
 have KK:=fun W => rtk_token t2 W (by omega)
 have KQ:=fun W => rtk_quoted t2 W (by omega)
 rw [htd] at KK KQ
 obtain ⟨b2,hb2⟩ : ∃ z,Tp.isTok (Tp.trim a2) = z:=⟨_,rfl⟩
 simp only [hb2] at KK
 have HT2:=Lib.hid KT
 have HK2:=Lib.hid KK
 have HTD:=Lib.hid ht2
 have HB2:=Lib.hid hb2
 obtain ⟨qb,hqb⟩ : ∃ z : ByteArray,(⟨(Tp.quotedS (Tp.trim a2)).toArray⟩ : ByteArray) = z:=⟨_,rfl⟩
 obtain ⟨qe,hqe⟩ : ∃ z,Tp.quotedE (Tp.trim a2) = z:=⟨_,rfl⟩
 simp only [hqb,hqe] at KQ
 have HQ:=Lib.hid KQ
 have HQB:=Lib.hid hqb
 have HQE:=Lib.hid hqe
 have hw : IntKind.i64.wrap ((k : Int) + 1) = (k : Int) + 1:=IntWalk.i64_in _ (by omega)
 clear KT KK KQ hb2 htd htz htl ht2 hzd hzs hz2 hqb hqe hsl
 go_wp2_with (simp only [hsf])
 refine (HT2.out _).mono ?_
 rintro e w1 ⟨rfl,hw1⟩
 subst w1
 go_wp2_with fail
 refine (HK2.out _).mono ?_
 rintro e w1 ⟨rfl,hw1⟩
 subst w1
 cases b2 with
 | true =>
  have HO:=Lib.hid (show o = some (Tp.lower (Tp.trim a1),Tp.trim a2) by rw [HD.out,HB2.out]; rfl)
  go_wp2_with fail
  refine (HL.out _).mono ?_
  rintro e w2 ⟨rfl,hb2⟩
  have HB:=Lib.hid hb2
  clear hb2
  go_wp2_with fail
  exact bodyPost_ret (v:=.tuple #[.string lb,.string t2,.bool true]) (by simp [results,Tryz.results186,go_sem]) rfl ⟨⟨_,_,by rw [HO.out]; rfl,fun x y h => by rw [HO.out] at h; cases h; exact ⟨HLB.out.symm,HTD.out.symm⟩⟩,HB.out⟩
 | false =>
  have HO:=Lib.hid (show o = (Tp.quoted (Tp.trim a2)).map fun v => (Tp.lower (Tp.trim a1),v) by rw [HD.out,HB2.out]; rfl)
  go_wp2_with fail
  refine (HQ.out _).mono ?_
  rintro e w2 ⟨rfl,hb2⟩
  have HB:=Lib.hid hb2
  clear hb2
  go_wp2_with fail
  refine (HL.out _).mono ?_
  rintro e w3 ⟨rfl,hb3⟩
  have HB3:=Lib.hid (HB.out.trans (hb3.mono HB.out.size))
  clear hb3
  cases hq : Tp.quoted (Tp.trim a2) with
  | none =>
   have HE:=Lib.hid (show qe = 110 by rw [← HQE.out]; unfold Tp.quotedE; rw [hq]; rfl)
   have HO2:=Lib.hid (show o = none by rw [HO.out,hq]; rfl)
   rw [HE.out]
   clear hq
   go_wp2_with fail
   exact bodyPost_ret (v:=.tuple #[.string lb,.string qb,.bool false]) (by simp [results,Tryz.results186,go_sem]) rfl ⟨⟨_,_,by rw [HO2.out]; rfl,fun x y h => by rw [HO2.out] at h; cases h⟩,HB3.out⟩
  | some v =>
   have HE:=Lib.hid (show qe = 0 by rw [← HQE.out]; unfold Tp.quotedE; rw [hq]; rfl)
   have HV:=Lib.hid (show (⟨v.toArray⟩ : ByteArray) = qb by rw [← HQB.out]; unfold Tp.quotedS; rw [hq]; rfl)
   have HO2:=Lib.hid (show o = some (Tp.lower (Tp.trim a1),v) by rw [HO.out,hq]; rfl)
   rw [HE.out]
   clear hq
   go_wp2_with fail
   exact bodyPost_ret (v:=.tuple #[.string lb,.string qb,.bool true]) (by simp [results,Tryz.results186,go_sem]) rfl ⟨⟨_,_,by rw [HO2.out]; rfl,fun x y h => by rw [HO2.out] at h; cases h; exact ⟨HLB.out.symm,HV.out.symm⟩⟩,HB3.out⟩
theorem rf_Fits (r : Ap.Ra) (k u : ByteArray) (w : World) :
  Calls Tryz.prog 117 #[raV r,.string k,.string u] w fun e w' => e = .returned (.int .i64 (Ap.fits r k.toList u.toList)) ∧ Below w.heap.size w w':=by
 obtain ⟨a,b,p,q⟩:=r
 unfold Ap.fits raV tx
 simp only
 obtain ⟨ab,hab⟩ : ∃ z : ByteArray,(⟨a.toArray⟩ : ByteArray) = z:=⟨_,rfl⟩
 obtain ⟨bb,hbb⟩ : ∃ z : ByteArray,(⟨b.toArray⟩ : ByteArray) = z:=⟨_,rfl⟩
 have hal : ab.toList = a:=by rw [← hab,ba_list]
 have hbl : bb.toList = b:=by rw [← hbb,ba_list]
 rw [hab,hbb,← hal,← hbl]
 obtain ⟨V,hV⟩ : ∃ z,w.alloc (.cells #[.string ab,.string bb,.int .i64 (p : Int),.int .i64 q] 152) = z:=⟨_,rfl⟩
 have HB:=Lib.hid (show Below w.heap.size w V by rw [← hV]; exact (Below.refl _ _).alloc (Nat.le_refl _) _)
 have hR : V.heap[w.heap.size]? = some (.cells #[.string ab,.string bb,.int .i64 (p : Int),.int .i64 q] 152 (0,0)):=by rw [← hV]; exact World.alloc_heap_new _ _
 obtain ⟨B,hB⟩ : ∃ z,w.heap.size = z:=⟨_,rfl⟩
 rw [hB] at hR
 have c0 : V.cell? ⟨B,0,none⟩ = some (.string ab):=by simp [World.cell?,hR]
 have c1 : V.cell? ⟨B,1,none⟩ = some (.string bb):=by simp [World.cell?,hR]
 have c2 : V.cell? ⟨B,2,none⟩ = some (.int .i64 (p : Int)):=by simp [World.cell?,hR]
 have HV:=Lib.hid hV
 have HBB:=Lib.hid hB
 have fin : ∀ (x : Int),True → True:=fun _ h => h
 clear hR hab hbb hal hbl hV hB fin
 obtain ⟨x1,hx1⟩ : ∃ z,(ab.toList == ([42] : List UInt8)) = z:=⟨_,rfl⟩
 obtain ⟨x2,hx2⟩ : ∃ z,(bb.toList == ([42] : List UInt8)) = z:=⟨_,rfl⟩
 obtain ⟨x3,hx3⟩ : ∃ z,(ab.toList == k.toList) = z:=⟨_,rfl⟩
 obtain ⟨x4,hx4⟩ : ∃ z,(bb.toList == u.toList) = z:=⟨_,rfl⟩
 have y1 : (ab.toList = [42]) ↔ x1 = true:=by rw [← hx1]; simp
 have y2 : (bb.toList = [42]) ↔ x2 = true:=by rw [← hx2]; simp
 have y3 : (ab.toList = k.toList) ↔ x3 = true:=by rw [← hx3]; simp
 have y4 : (bb.toList = u.toList) ↔ x4 = true:=by rw [← hx4]; simp
 simp only [y1,y2,y3,y4]
 clear y1 y2 y3 y4
 by_cases hp : 0 < p
 ·have hI : (0 : Int) < (p : Int):=by omega
  rw [if_pos hp]
  clear hp
  go_enter Tryz.func117,Tryz.ntmps117
  go_upto_region 1 with (fail)
  rw [HV.out,HBB.out]
  go_wp2_with fail
  exact bodyPost_ret (v:=.int .i64 0) (by simp [results,Tryz.results117,go_sem]) rfl ⟨rfl,HBB.out ▸ HB.out⟩
 ·have hI : ¬ ((0 : Int) < (p : Int)):=by omega
  rw [if_neg hp]
  clear hp
  cases x1 <;> cases x2 <;> cases x3 <;> cases x4
  all_goals
   simp only [Bool.false_eq_true,and_self,and_true,true_and,and_false,false_and,if_true,if_false]
   go_enter Tryz.func117,Tryz.ntmps117
   go_upto_region 1 with (fail)
   rw [HV.out,HBB.out]
   go_wp2_with fail
   exact bodyPost_ret (by simp [results,Tryz.results117,go_sem]) rfl ⟨rfl,HBB.out ▸ HB.out⟩
end Go.Proofs.YtfacmnooklljnaaGreatDoor
namespace Go.Proofs.YtfacmnooklljnaaGreatDoor
open Go.RowKit Go.Shelf Go.Sort
set_option maxHeartbeats 4000000
set_option maxRecDepth 100000
namespace Tp
theorem cutSt_esc {l : List UInt8} {by_ : Int} {k : Nat} (h : CutSt l by_ true false k) (hk : k < l.length) (hc : (l[k].toNat : Int) = 92) :
  (k + 1 < l.length → CutSt l by_ true false (k + 2)) ∧ (k + 1 = l.length → cut l by_ = (trim l,[],false)):=by
 have h1:=cutSt_next h hk rfl
 rw [hc] at h1
 have h2 : CutSt l by_ true true (k + 1):=h1
 refine ⟨fun hk2 => ?_,fun hk2 => cutSt_end h2 hk2⟩
 exact cutSt_next h2 hk2 rfl
theorem cutSt_quote {l : List UInt8} {by_ : Int} {q : Bool} {k : Nat} (h : CutSt l by_ q false k) (hk : k < l.length) (hn : (!q && ((l[k].toNat : Int) == by_)) = false) (h92 : (q && ((l[k].toNat : Int) == 92)) = false) :
  CutSt l by_ (if (l[k].toNat : Int) == 34 then !q else q) false (k + 1):=by
 have h1:=cutSt_next h hk hn
 unfold stQ stB at h1
 simp only [h92,Bool.false_eq_true,if_false] at h1
 exact h1
end Tp
def cuF (s : ByteArray) (k : Nat) (z1 z2 t1 t2 : ByteArray) : Nat → World → Value → Prop
 | 0,_,v => v = .string s
 | 1,_,v => v = .int .i64 (k : Int)
 | 2,_,v => v = .string z1
 | 3,_,v => v = .string t1
 | 4,_,v => v = .string s
 | 5,_,v => v = .int .i64 (k : Int)
 | 6,_,v => v = .int .i64 ((k : Int) + 1)
 | 7,_,v => v = .string z2
 | 8,_,v => v = .string t2
 | 9,_,v => v = .string t1
 | 10,_,v => v = .string t2
 | 11,_,v => v = .bool true
 | _,_,_ => False
theorem cuF_lt : ∀ i,([35,36,37,38,39,40,41,42,43,4,5,6] : List Nat).getD i 6 < 53
 | 0 | 1 | 2 | 3 | 4 | 5 | 6 | 7 | 8 | 9 | 10 | 11 => by decide
 | n + 12 => by show 6 < 53; decide
theorem cuF_inj : ∀ i < 12,∀ j < 12,([35,36,37,38,39,40,41,42,43,4,5,6] : List Nat).getD i 6 = ([35,36,37,38,39,40,41,42,43,4,5,6] : List Nat).getD j 6 → i = j:=by decide
theorem rtk_cut (s : ByteArray) (by_ : Int) (w : World) (hs : s.size ≤ 1000000) :
  Calls Tryz.prog 184 #[.string s,.int .u8 by_] w fun e w' =>
   e = .returned (.tuple #[tx (Tp.cut s.data.toList by_).1,tx (Tp.cut s.data.toList by_).2.1,.bool (Tp.cut s.data.toList by_).2.2]) ∧ Below w.heap.size w w':=by
 have HIX:=Lib.hid (fun k h W => index_at s W k h)
 obtain ⟨n,hn⟩ : ∃ z,s.size = z:=⟨_,rfl⟩
 have HN:=Lib.hid hn
 have HSL:=Lib.hid (show s.data.toList.length = n by rw [← hn]; rfl)
 rw [hn] at hs
 go_enter Tryz.func184,Tryz.ntmps184
 go_wp2_with fail
 go_loopw [7,8] (fun q i wr => ∃ (k : Nat) (b : Bool),k ≤ n + 1 ∧ i = .int .i64 k ∧ q = .bool b ∧ (k ≤ n → Tp.CutSt s.data.toList by_ b false k) ∧ (k = n + 1 → Tp.cut s.data.toList by_ = (Tp.trim s.data.toList,[],false)) ∧ wr = w) (fun _ i _ => n + 1 - (intOf i).toNat)
 case atStart => exact ⟨0,false,Nat.zero_le _,rfl,rfl,fun _ => Tp.cutSt_start _ _,fun h => absurd h (by omega),rfl⟩
 case round =>
  obtain ⟨k,b,hk,rfl,rfl,hst,hen,hw⟩:=hrel
  subst hw
  have HST:=Lib.hid hst
  have HEN:=Lib.hid hen
  clear hst hen
  by_cases hlt : k < n
  ·have hlt2 : k < s.size:=by rw [hn]; exact hlt
   have hkl : k < s.data.toList.length:=by rw [HSL.out]; exact hlt
   have hI : (k : Int) < (n : Int):=by omega
   have hix:=HIX.out k hlt2
   have HS:=Lib.hid (HST.out (by omega))
   have HE1:=Lib.hid (fun (e : b = true) (hc : ((s.data.toList[k]).toNat : Int) = 92) => Tp.cutSt_esc (by have h:=HS.out; rw [e] at h; exact h) hkl hc)
   have HQ1:=Lib.hid (Tp.cutSt_quote HS.out hkl)
   have HH:=Lib.hid (Tp.cutSt_hit HS.out hkl)
   rw [show s.data.toList[k] = s[k] from rfl] at HE1 HQ1 HH
   obtain ⟨x,hx⟩ : ∃ x : Int,((s[k]).toNat : Int) = x:=⟨_,rfl⟩
   rw [hx] at hix HE1 HQ1 HH
   clear hx hkl
   have hk6 : k ≤ 1000000:=by omega
   cases b with
   | true =>
    by_cases h92 : x = 92
    ·subst h92
     have e1 : ((92 : Int) == 92) = true:=rfl
     have HE2:=Lib.hid (HE1.out rfl rfl)
     clear HE1 HQ1 HH
     go_wp2_with (simp only [hix])
     go_roundw
     case rel =>
      refine ⟨k + 2,true,by omega,by go_num,rfl,fun h => HE2.out.1 (by rw [HSL.out]; omega),fun h => HE2.out.2 (by rw [HSL.out]; omega),by first | trivial | rfl⟩
     case measure => simp [intOf]; omega
    ·have e1 : (x == 92) = false:=beq_eq_false_iff_ne.2 h92
     have HQ2:=Lib.hid (HQ1.out rfl (by rw [e1]; rfl))
     clear HE1 HQ1 HH h92
     cases e9 : (x == by_) with
     | true =>
      by_cases h34 : x = 34
      ·have e2 : (x == 34) = true:=beq_iff_eq.2 h34
       clear h34
       rw [e2] at HQ2
       go_wp2_with (simp only [hix])
       go_roundw
       case rel => exact ⟨k + 1,false,by omega,by go_num,rfl,fun h => HQ2.out,fun h => absurd h (by omega),by first | trivial | rfl⟩
       case measure => simp [intOf]; omega
      ·have e2 : (x == 34) = false:=beq_eq_false_iff_ne.2 h34
       clear h34
       rw [e2] at HQ2
       go_wp2_with (simp only [hix])
       go_roundw
       case rel => exact ⟨k + 1,true,by omega,by go_num,rfl,fun h => HQ2.out,fun h => absurd h (by omega),by first | trivial | rfl⟩
       case measure => simp [intOf]; omega
     | false =>
      by_cases h34 : x = 34
      ·have e2 : (x == 34) = true:=beq_iff_eq.2 h34
       clear h34
       rw [e2] at HQ2
       go_wp2_with (simp only [hix])
       go_roundw
       case rel => exact ⟨k + 1,false,by omega,by go_num,rfl,fun h => HQ2.out,fun h => absurd h (by omega),by first | trivial | rfl⟩
       case measure => simp [intOf]; omega
      ·have e2 : (x == 34) = false:=beq_eq_false_iff_ne.2 h34
       clear h34
       rw [e2] at HQ2
       go_wp2_with (simp only [hix])
       go_roundw
       case rel => exact ⟨k + 1,true,by omega,by go_num,rfl,fun h => HQ2.out,fun h => absurd h (by omega),by first | trivial | rfl⟩
       case measure => simp [intOf]; omega
   | false =>
    by_cases hby : x = by_
    ·have e0 : (x == by_) = true:=beq_iff_eq.2 hby
     have HC:=Lib.hid (HH.out (by rw [e0]; rfl))
     clear HE1 HQ1 HH hby
     have hsl1:=fun W => slice_to s W k (by omega) (by omega)
     have hsl2:=fun W => slice_from s W k hlt2 (by omega)
     have hz1 : (s.extract 0 k).size ≤ 9223372036854775807:=by rw [ByteArray.size_extract]; omega
     have hz2 : (s.extract (k + 1) s.size).size ≤ 9223372036854775807:=by rw [ByteArray.size_extract]; omega
     have hd1 : (s.extract 0 k).data.toList = s.data.toList.take k:=Lib.extract_from_zero s k
     have hd2 : (s.extract (k + 1) s.size).data.toList = s.data.toList.drop (k + 1):=Lib.extract_to_end s (k + 1)
     have c1:=fun W => rtk_trim (s.extract 0 k) W hz1
     have c2:=fun W => rtk_trim (s.extract (k + 1) s.size) W hz2
     rw [hd1] at c1
     rw [hd2] at c2
     clear hz1 hz2 hd1 hd2
     obtain ⟨z1,hz1⟩ : ∃ z,s.extract 0 k = z:=⟨_,rfl⟩
     obtain ⟨z2,hz2⟩ : ∃ z,s.extract (k + 1) s.size = z:=⟨_,rfl⟩
     rw [hz1] at hsl1 c1
     rw [hz2] at hsl2 c2
     clear hz1 hz2
     obtain ⟨t1,ht1⟩ : ∃ z : ByteArray,(⟨(Tp.trim (s.data.toList.take k)).toArray⟩ : ByteArray) = z:=⟨_,rfl⟩
     obtain ⟨t2,ht2⟩ : ∃ z : ByteArray,(⟨(Tp.trim (s.data.toList.drop (k + 1))).toArray⟩ : ByteArray) = z:=⟨_,rfl⟩
     simp only [ht1] at c1
     simp only [ht2] at c2
     have HT1:=Lib.hid ht1
     have HT2:=Lib.hid ht2
     clear ht1 ht2
     have C1:=Lib.hid c1
     have C2:=Lib.hid c2
     clear c1 c2
     have hw : IntKind.i64.wrap ((k : Int) + 1) = (k : Int) + 1:=IntWalk.i64_in _ (by omega)
     have hk1 : (0 : Int) ≤ (k : Int) + 1:=by omega
     go_wp2_with (simp only [hix])
     refine region_slotsG (fun i => ([35,36,37,38,39,40,41,42,43,4,5,6] : List Nat).getD i 6) (cuF s k z1 z2 t1 t2) (fun _ => true) (by kernel_rfl) (by kernel_rfl) (fun i => cuF_lt i) (fun i j hi hj h => cuF_inj i hi j hj h) ?mono ?dst ?gu ?ng ?skip ?step ?done
     case mono =>
      intro i W W' v h hbw
      match i,h with
      | 0,h | 1,h | 2,h | 3,h | 4,h | 5,h | 6,h | 7,h | 8,h | 9,h | 10,h | 11,h => exact h
      | n + 12,h => exact h.elim
     case dst =>
      intro i o ho
      match i,ho with
      | 0,ho | 1,ho | 2,ho | 3,ho | 4,ho | 5,ho | 6,ho | 7,ho | 8,ho | 9,ho | 10,ho | 11,ho => cases ho; rfl
      | n + 12,ho => exact absurd ho (by simp)
     case gu =>
      intro i o g b ho hgd W v hv
      match i,ho with
      | 0,ho => cases ho; cases hgd
      | 1,ho => cases ho; cases hgd
      | 2,ho => cases ho; cases hgd
      | 3,ho => cases ho; cases hgd
      | 4,ho => cases ho; cases hgd
      | 5,ho => cases ho; cases hgd
      | 6,ho => cases ho; cases hgd
      | 7,ho => cases ho; cases hgd
      | 8,ho => cases ho; cases hgd
      | 9,ho => cases ho; cases hgd
      | 10,ho => cases ho; cases hgd
      | 11,ho => cases ho; cases hgd
      | n + 12,ho => exact absurd ho (by simp)
     case ng =>
      intro i o ho hgd
      match i,ho with
      | 0,ho => cases ho; first | rfl | cases hgd
      | 1,ho => cases ho; first | rfl | cases hgd
      | 2,ho => cases ho; first | rfl | cases hgd
      | 3,ho => cases ho; first | rfl | cases hgd
      | 4,ho => cases ho; first | rfl | cases hgd
      | 5,ho => cases ho; first | rfl | cases hgd
      | 6,ho => cases ho; first | rfl | cases hgd
      | 7,ho => cases ho; first | rfl | cases hgd
      | 8,ho => cases ho; first | rfl | cases hgd
      | 9,ho => cases ho; first | rfl | cases hgd
      | 10,ho => cases ho; first | rfl | cases hgd
      | 11,ho => cases ho; first | rfl | cases hgd
      | n + 12,ho => exact absurd ho (by simp)
     case skip =>
      intro i W hi hsel
      match i,hi,hsel with
      | 0,_,hsel => first | exact absurd hsel (by decide) | rfl
      | 1,_,hsel => first | exact absurd hsel (by decide) | rfl
      | 2,_,hsel => first | exact absurd hsel (by decide) | rfl
      | 3,_,hsel => first | exact absurd hsel (by decide) | rfl
      | 4,_,hsel => first | exact absurd hsel (by decide) | rfl
      | 5,_,hsel => first | exact absurd hsel (by decide) | rfl
      | 6,_,hsel => first | exact absurd hsel (by decide) | rfl
      | 7,_,hsel => first | exact absurd hsel (by decide) | rfl
      | 8,_,hsel => first | exact absurd hsel (by decide) | rfl
      | 9,_,hsel => first | exact absurd hsel (by decide) | rfl
      | 10,_,hsel => first | exact absurd hsel (by decide) | rfl
      | 11,_,hsel => first | exact absurd hsel (by decide) | rfl
      | n + 12,hi,_ => exact absurd hi (by simp)
     case step =>
      intro f a' W i o ho hsel hpre hbel hrest
      match i,ho,hsel with
      | 0,ho,_ =>
       cases ho
       have q0 : a'.tmps.getD 0 undef = .string s:=(hrest 0 (by intro i hi; have hi : i < 12:=hi; show ([35,36,37,38,39,40,41,42,43,4,5,6] : List Nat).getD i 6 ≠ _; revert i; decide))
       have e0:=rg_ev q0
       exact rg_same (.string s) (by unfold Oper.wp execOp; go_simp; all_goals ((try simp only [e0]); (try go_simp); (try rw [if_pos (by omega)]); (try rw [if_neg (by omega)]); first | done | rfl | exact ⟨rfl,rfl⟩ | trivial)) rfl
      | 1,ho,_ =>
       cases ho
       have q8 : a'.tmps.getD 8 undef = .int .i64 (k : Int):=(hrest 8 (by intro i hi; have hi : i < 12:=hi; show ([35,36,37,38,39,40,41,42,43,4,5,6] : List Nat).getD i 6 ≠ _; revert i; decide))
       have e8:=rg_ev q8
       exact rg_same (.int .i64 (k : Int)) (by unfold Oper.wp execOp; go_simp; all_goals ((try simp only [e8]); (try go_simp); (try rw [if_pos (by omega)]); (try rw [if_neg (by omega)]); first | done | rfl | exact ⟨rfl,rfl⟩ | trivial)) rfl
      | 2,ho,_ =>
       cases ho
       have q35 : a'.tmps.getD 35 undef = .string s:=(hpre { on:=0,ground:=.data } (by simp) rfl)
       have q36 : a'.tmps.getD 36 undef = .int .i64 (k : Int):=(hpre { on:=1,ground:=.data } (by simp) rfl)
       have e35:=rg_ev q35
       have e36:=rg_ev q36
       exact rg_same (.string z1) (by unfold Oper.wp execOp; go_simp; all_goals ((try simp only [e35,e36]); (try go_simp); (try rw [if_pos (by omega)]); (try rw [if_neg (by omega)]); first | done | rfl | exact ⟨rfl,rfl⟩ | trivial)) rfl
      | 3,ho,_ =>
       cases ho
       have q37 : a'.tmps.getD 37 undef = .string z1:=(hpre { on:=2,ground:=.data } (by simp) rfl)
       exact rg_call 37 65 _ _ _ rfl q37 (enters_of Tryz.func65 (by kernel_rfl) rfl) (C1.out W) (fun e w' h => ⟨_,h.1,_,rfl,rfl,by rw [← h.2]; exact Below.refl _ _⟩)
      | 4,ho,_ =>
       cases ho
       have q0 : a'.tmps.getD 0 undef = .string s:=(hrest 0 (by intro i hi; have hi : i < 12:=hi; show ([35,36,37,38,39,40,41,42,43,4,5,6] : List Nat).getD i 6 ≠ _; revert i; decide))
       have e0:=rg_ev q0
       exact rg_same (.string s) (by unfold Oper.wp execOp; go_simp; all_goals ((try simp only [e0]); (try go_simp); (try rw [if_pos (by omega)]); (try rw [if_neg (by omega)]); first | done | rfl | exact ⟨rfl,rfl⟩ | trivial)) rfl
      | 5,ho,_ =>
       cases ho
       have q8 : a'.tmps.getD 8 undef = .int .i64 (k : Int):=(hrest 8 (by intro i hi; have hi : i < 12:=hi; show ([35,36,37,38,39,40,41,42,43,4,5,6] : List Nat).getD i 6 ≠ _; revert i; decide))
       have e8:=rg_ev q8
       exact rg_same (.int .i64 (k : Int)) (by unfold Oper.wp execOp; go_simp; all_goals ((try simp only [e8]); (try go_simp); (try rw [if_pos (by omega)]); (try rw [if_neg (by omega)]); first | done | rfl | exact ⟨rfl,rfl⟩ | trivial)) rfl
      | 6,ho,_ =>
       cases ho
       have q40 : a'.tmps.getD 40 undef = .int .i64 (k : Int):=(hpre { on:=5,ground:=.data } (by simp) rfl)
       have e40:=rg_ev q40
       exact rg_same (.int .i64 ((k : Int) + 1)) (by unfold Oper.wp execOp; go_simp; all_goals ((try simp only [e40]); (try go_simp); (try rw [if_pos (by omega)]); (try rw [if_neg (by omega)]); first | done | rfl | exact ⟨rfl,rfl⟩ | trivial)) rfl
      | 7,ho,_ =>
       cases ho
       have q39 : a'.tmps.getD 39 undef = .string s:=(hpre { on:=4,ground:=.data } (by simp) rfl)
       have q41 : a'.tmps.getD 41 undef = .int .i64 ((k : Int) + 1):=(hpre { on:=6,ground:=.data } (by simp) rfl)
       have e39:=rg_ev q39
       have e41:=rg_ev q41
       exact rg_same (.string z2) (by unfold Oper.wp execOp; go_simp; all_goals ((try simp only [e39,e41]); (try go_simp); (try rw [if_pos (by omega)]); (try rw [if_neg (by omega)]); first | done | rfl | exact ⟨rfl,rfl⟩ | trivial)) rfl
      | 8,ho,_ =>
       cases ho
       have q42 : a'.tmps.getD 42 undef = .string z2:=(hpre { on:=7,ground:=.data } (by simp) rfl)
       exact rg_call 42 65 _ _ _ rfl q42 (enters_of Tryz.func65 (by kernel_rfl) rfl) (C2.out W) (fun e w' h => ⟨_,h.1,_,rfl,rfl,by rw [← h.2]; exact Below.refl _ _⟩)
      | 9,ho,_ =>
       cases ho
       have q38 : a'.tmps.getD 38 undef = .string t1:=(hpre { on:=3,ground:=.data } (by simp) rfl)
       have e38:=rg_ev q38
       exact rg_same (.string t1) (by unfold Oper.wp execOp; go_simp; all_goals ((try simp only [e38]); (try go_simp); (try rw [if_pos (by omega)]); (try rw [if_neg (by omega)]); first | done | rfl | exact ⟨rfl,rfl⟩ | trivial)) rfl
      | 10,ho,_ =>
       cases ho
       have q43 : a'.tmps.getD 43 undef = .string t2:=(hpre { on:=8,ground:=.data } (by simp) rfl)
       have e43:=rg_ev q43
       exact rg_same (.string t2) (by unfold Oper.wp execOp; go_simp; all_goals ((try simp only [e43]); (try go_simp); (try rw [if_pos (by omega)]); (try rw [if_neg (by omega)]); first | done | rfl | exact ⟨rfl,rfl⟩ | trivial)) rfl
      | 11,ho,_ =>
       cases ho
       exact rg_same (.bool true) (by unfold Oper.wp execOp; go_simp; all_goals ((try simp only []); (try go_simp); (try rw [if_pos (by omega)]); (try rw [if_neg (by omega)]); first | done | rfl | exact ⟨rfl,rfl⟩ | trivial)) rfl
      | n + 12,ho,_ => exact absurd ho (by simp)
     case done =>
      intro vs W hbel hvs
      have v0 : vs 0 = .string s:=hvs 0 (by decide)
      have v1 : vs 1 = .int .i64 (k : Int):=hvs 1 (by decide)
      have v2 : vs 2 = .string z1:=hvs 2 (by decide)
      have v3 : vs 3 = .string t1:=hvs 3 (by decide)
      have v4 : vs 4 = .string s:=hvs 4 (by decide)
      have v5 : vs 5 = .int .i64 (k : Int):=hvs 5 (by decide)
      have v6 : vs 6 = .int .i64 ((k : Int) + 1):=hvs 6 (by decide)
      have v7 : vs 7 = .string z2:=hvs 7 (by decide)
      have v8 : vs 8 = .string t2:=hvs 8 (by decide)
      have v9 : vs 9 = .string t1:=hvs 9 (by decide)
      have v10 : vs 10 = .string t2:=hvs 10 (by decide)
      have v11 : vs 11 = .bool true:=hvs 11 (by decide)
      have HBR:=Lib.hid hbel
      simp only [fillN,List.size_toArray,List.length_cons,List.length_nil,Nat.reduceAdd,show List.range 12 = [0,1,2,3,4,5,6,7,8,9,10,11] from rfl,List.foldl_cons,List.foldl_nil,show ([35,36,37,38,39,40,41,42,43,4,5,6] : List Nat).getD 0 6 = 35 from rfl,show ([35,36,37,38,39,40,41,42,43,4,5,6] : List Nat).getD 1 6 = 36 from rfl,show ([35,36,37,38,39,40,41,42,43,4,5,6] : List Nat).getD 2 6 = 37 from rfl,show ([35,36,37,38,39,40,41,42,43,4,5,6] : List Nat).getD 3 6 = 38 from rfl,show ([35,36,37,38,39,40,41,42,43,4,5,6] : List Nat).getD 4 6 = 39 from rfl,show ([35,36,37,38,39,40,41,42,43,4,5,6] : List Nat).getD 5 6 = 40 from rfl,show ([35,36,37,38,39,40,41,42,43,4,5,6] : List Nat).getD 6 6 = 41 from rfl,show ([35,36,37,38,39,40,41,42,43,4,5,6] : List Nat).getD 7 6 = 42 from rfl,show ([35,36,37,38,39,40,41,42,43,4,5,6] : List Nat).getD 8 6 = 43 from rfl,show ([35,36,37,38,39,40,41,42,43,4,5,6] : List Nat).getD 9 6 = 4 from rfl,show ([35,36,37,38,39,40,41,42,43,4,5,6] : List Nat).getD 10 6 = 5 from rfl,show ([35,36,37,38,39,40,41,42,43,4,5,6] : List Nat).getD 11 6 = 6 from rfl,v0,v1,v2,v3,v4,v5,v6,v7,v8,v9,v10,v11]
      clear v0 v1 v2 v3 v4 v5 v6 v7 v8 v9 v10 v11 hvs hbel
      go_simp
      go_wp2_with fail
      refine bodyPost_ret (v:=.tuple #[.string t1,.string t2,.bool true]) (by simp [results,Tryz.results184,go_sem]) rfl ⟨?_,?_⟩
      ·rw [HC.out,← HT1.out,← HT2.out]; rfl
      ·exact HBR.out
    ·have e0 : (x == by_) = false:=beq_eq_false_iff_ne.2 hby
     have HQ2:=Lib.hid (HQ1.out (by rw [e0]; rfl) rfl)
     clear HE1 HQ1 HH hby
     by_cases h34 : x = 34
     ·have e2 : (x == 34) = true:=beq_iff_eq.2 h34
      clear h34
      rw [e2] at HQ2
      go_wp2_with (simp only [hix])
      go_roundw
      case rel => exact ⟨k + 1,true,by omega,by go_num,rfl,fun h => HQ2.out,fun h => absurd h (by omega),by first | trivial | rfl⟩
      case measure => simp [intOf]; omega
     ·have e2 : (x == 34) = false:=beq_eq_false_iff_ne.2 h34
      clear h34
      rw [e2] at HQ2
      go_wp2_with (simp only [hix])
      go_roundw
      case rel => exact ⟨k + 1,false,by omega,by go_num,rfl,fun h => HQ2.out,fun h => absurd h (by omega),by first | trivial | rfl⟩
      case measure => simp [intOf]; omega
  ·have hI : ¬ (k : Int) < (n : Int):=by omega
   have HC:=Lib.hid (show Tp.cut s.data.toList by_ = (Tp.trim s.data.toList,[],false) from by
    by_cases h : k = n
    ·exact Tp.cutSt_end (HST.out (by omega)) (by rw [HSL.out]; exact h)
    ·exact HEN.out (by omega))
   have c1:=rtk_trim s wr (by omega)
   have C1:=Lib.hid c1
   clear c1
   go_wp2_with fail
   refine C1.out.mono ?_
   rintro e w' ⟨rfl,hw⟩
   subst hw
   go_wp2_with fail
   refine bodyPost_ret (v:=.tuple #[.string ⟨(Tp.trim s.data.toList).toArray⟩,.string ⟨#[]⟩,.bool false]) (by simp [results,Tryz.results184,go_sem]) rfl ⟨?_,Below.refl _ _⟩
   rw [HC.out]; rfl
end Go.Proofs.YtfacmnooklljnaaGreatDoor
namespace Go.Proofs.YtfacmnooklljnaaGreatDoor
open Go.RowKit Go.Shelf
attribute [local go_sem] Oper.semAt_some
set_option maxHeartbeats 4000000
set_option maxRecDepth 100000
def strLen : Value → Nat
 | .string b => b.size
 | _ => 0
theorem rf_All9 (s : ByteArray) (by_ : Int) (w : World) (hs : s.size ≤ 100000) :
  Calls Tryz.prog 164 #[.string s,.int .u8 by_] w fun e w' => ∃ v,e = .returned v ∧ w'.ownsRow w.heap.size 9 1 v (Ap.all s.data.toList by_).length ((Ap.all s.data.toList by_).map tx) ∧ Below w.heap.size w w':=by
 obtain ⟨i0,hi,hz0,hz1,hz2⟩:=info_parts (show (Tryz.prog.info? 9).map (fun i => (i.zero,i.size,i.bytes)) = some (some (.string ByteArray.empty),1,16) by kernel_rfl)
 obtain ⟨B,hB⟩ : ∃ B,w.heap.size = B:=⟨_,rfl⟩
 have hll : s.data.toList.length = s.size:=rfl
 have hal:=Ap.all_len s.data.toList by_
 have hpos:=Ap.all_len_pos s.data.toList by_
 have HAT:=Lib.hid (fun k => Ap.all_at k s.data.toList by_)
 obtain ⟨L,hL⟩ : ∃ z,Ap.all s.data.toList by_ = z:=⟨_,rfl⟩
 rw [hL] at hal hpos ⊢
 simp only [hL] at HAT
 have HR:=Lib.hid (fun k => Ap.restA_succ k s.data.toList by_)
 obtain ⟨N,hN⟩ : ∃ z,L.length = z:=⟨_,rfl⟩
 rw [hN] at hal hpos
 have hN1 : N ≤ 100001:=by omega
 have HN:=Lib.hid hN
 have HS0:=Lib.hid (show s = ⟨(Ap.restA 0 s.data.toList by_).toArray⟩ by show s = ⟨s.data.toList.toArray⟩; cases s; simp)
 rw [hB]
 clear hL hN hal
 go_enter Tryz.func164,Tryz.ntmps164
 go_wp2_with fail
 go_loopw [0,5] (fun sv v wr => ∃ k : Nat,k < N ∧ sv = .string ⟨(Ap.restA k s.data.toList by_).toArray⟩ ∧ wr.ownsRow B 9 1 v k ((L.map tx).take k) ∧ Below B w wr) (fun sv _ _ => strLen sv)
 case atStart => exact ⟨0,hpos,by rw [← HS0.out],World.ownsRow_nil _ _ _ _,Below.refl _ _⟩
 case round =>
  obtain ⟨k,hk,rfl,hown,hbl⟩:=hrel
  obtain ⟨g1,g2,g3⟩:=HAT.out k (by rw [HN.out]; exact hk)
  have g4:=HR.out k
  rw [HN.out] at g2
  obtain ⟨r,hr⟩ : ∃ z,Ap.restA k s.data.toList by_ = z:=⟨_,rfl⟩
  rw [hr] at g1 g2 g3 g4 ⊢
  have hrl : (⟨r.toArray⟩ : ByteArray).data.toList = r:=rfl
  have hrz : (⟨r.toArray⟩ : ByteArray).size = r.length:=by simp [ByteArray.size]
  have KC:=rtk_cut ⟨r.toArray⟩ by_ wr (by rw [hrz]; omega)
  rw [hrl] at KC
  have hcut:=@Ap.cut_lt r by_
  obtain ⟨x1,hx1⟩ : ∃ z,(Tp.cut r by_).1 = z:=⟨_,rfl⟩
  obtain ⟨x2,hx2⟩ : ∃ z,(Tp.cut r by_).2.1 = z:=⟨_,rfl⟩
  obtain ⟨x3,hx3⟩ : ∃ z,(Tp.cut r by_).2.2 = z:=⟨_,rfl⟩
  rw [hx1,hx2,hx3] at KC
  rw [hx1] at g1
  rw [hx3] at g2
  rw [hx2] at g4
  rw [hx2,hx3] at hcut
  have HK:=Lib.hid KC
  have htk : (L.map tx).take (k + 1) = (L.map tx).take k ++ [tx x1]:=by
   rw [List.take_add_one,← g1,List.getD_eq_getElem?_getD,List.getElem?_map,List.getElem?_eq_getElem (show k < L.length by rw [HN.out]; exact hk)]; rfl
  have HTK:=Lib.hid htk
  have HG2:=Lib.hid g2
  have HG4:=Lib.hid g4
  have HCT:=Lib.hid hcut
  have HO:=Lib.hid hown
  have HBL:=Lib.hid hbl
  have HRZ:=Lib.hid hrz
  obtain ⟨rb,hrb⟩ : ∃ z : ByteArray,(⟨r.toArray⟩ : ByteArray) = z:=⟨_,rfl⟩
  rw [hrb] at HK HRZ ⊢
  have hkb : k ≤ 100001:=by omega
  clear KC hx1 hx2 hx3 g1 g2 g3 g4 hr hrl hrz hcut htk hown hbl hrb
  go_wp2_with fail
  refine HK.out.mono ?_
  rintro e w2 ⟨rfl,hb2⟩
  have HB2:=Lib.hid (show Below B w w2 from HBL.out.trans (hb2.mono (hB ▸ HBL.out.size)))
  have HO2:=Lib.hid (HO.out.belowed hb2)
  have HTX:=Lib.hid (show tx x1 = .string ⟨x1.toArray⟩ from rfl)
  unfold tx
  obtain ⟨qb,hqb⟩ : ∃ z : ByteArray,(⟨x1.toArray⟩ : ByteArray) = z:=⟨_,rfl⟩
  rw [hqb] at HTX ⊢
  obtain ⟨yb,hyb⟩ : ∃ z : ByteArray,(⟨x2.toArray⟩ : ByteArray) = z:=⟨_,rfl⟩
  rw [hyb]
  have HYB:=Lib.hid hyb
  clear hb2 hqb hyb
  cases x3 with
  | true =>
   have hk1:=HG2.out.1 rfl
   have hlt:=HCT.out rfl
   go_wp2_with (at_builtin; refine wpList_append_own _ rfl _ _ 33 rfl B 9 i0 (.string ByteArray.empty) 1 16 Tryz.underlying33 hi hz0 hz1 hz2 rfl (by decide) _ _ _ rfl (HO2.out.alloc _) ⟨w2.heap.size,0,none⟩ 1 1 [.string qb] rfl rfl ?c1 ?c2 ?c3 ?c4 ?c5 ?_)
   case c1 =>
    intro j u hj
    match j,hj with
    | 0,hj => simp at hj; subst hj; simp [Addr.add]
   case c2 => intro u hu; simp at hu; subst hu; rfl
   case c3 => unfold maxLen; omega
   case c4 => omega
   case c5 => have:=HB2.out.size; simp; omega
   intro v' w3 hown' hgrow _
   have HB3:=Lib.hid (show Below B w w3 from Below.grown (HB2.out.alloc (by have:=HB2.out.size; omega) _) hgrow (by have:=HB2.out.size; simp; omega) (own_ge HO2.out))
   have HO3:=Lib.hid (show w3.ownsRow B 9 1 v' (k + 1) ((L.map tx).take (k + 1)) by
    rw [HTK.out,HTX.out]
    exact hown')
   clear hgrow hown'
   go_wp2
   go_roundw
   case rel => exact ⟨k + 1,hk1,by rw [HG4.out,HYB.out],HO3.out,HB3.out⟩
   case measure =>
    show yb.size < rb.size
    have h1:=HRZ.out
    have h2 : yb.size = x2.length:=by rw [← HYB.out]; simp [ByteArray.size]
    omega
  | false =>
   have hkN : k + 1 = N:=by
    have:=HG2.out
    by_cases h : k + 1 < N
    ·exact absurd (this.2 h) (by decide)
    ·omega
   have HKN:=Lib.hid hkN
   clear hkN
   go_wp2_with (at_builtin; refine wpList_append_own _ rfl _ _ 33 rfl B 9 i0 (.string ByteArray.empty) 1 16 Tryz.underlying33 hi hz0 hz1 hz2 rfl (by decide) _ _ _ rfl (HO2.out.alloc _) ⟨w2.heap.size,0,none⟩ 1 1 [.string qb] rfl rfl ?c1 ?c2 ?c3 ?c4 ?c5 ?_)
   case c1 =>
    intro j u hj
    match j,hj with
    | 0,hj => simp at hj; subst hj; simp [Addr.add]
   case c2 => intro u hu; simp at hu; subst hu; rfl
   case c3 => unfold maxLen; omega
   case c4 => omega
   case c5 => have:=HB2.out.size; simp; omega
   intro v' w3 hown' hgrow _
   have HB3:=Lib.hid (show Below B w w3 from Below.grown (HB2.out.alloc (by have:=HB2.out.size; omega) _) hgrow (by have:=HB2.out.size; simp; omega) (own_ge HO2.out))
   have HO3:=Lib.hid (show w3.ownsRow B 9 1 v' L.length (L.map tx) by
    have h : w3.ownsRow B 9 1 v' (k + 1) ((L.map tx).take (k + 1)):=by
     rw [HTK.out,HTX.out]
     exact hown'
    rw [List.take_of_length_le (by rw [List.length_map,HN.out]; have:=HKN.out; omega),HKN.out,← HN.out] at h
    exact h)
   clear hgrow hown'
   go_wp2
   go_ret
   exact ⟨_,rfl,HO3.out,HB3.out⟩
end Go.Proofs.YtfacmnooklljnaaGreatDoor
namespace Go.Proofs.YtfacmnooklljnaaGreatDoor
open Go.RowKit Go.Shelf
attribute [local go_sem] Oper.semAt_some
set_option maxHeartbeats 8000000
set_option maxRecDepth 100000
theorem Ap.par_len {s nm v : List UInt8} (h : Ap.par s = some (nm,v)) : nm.length ≤ s.length ∧ v.length ≤ s.length:=by
 have hl:=Ap.cutB_len 61 s
 have t1:=Ap.trim_le (Ap.cutB 61 s).1
 have t2:=Ap.trim_le (Ap.cutB 61 s).2.1
 unfold Ap.par at h
 split at h
 ·split at h
  ·cases hq : Tp.quoted (Tp.trim (Ap.cutB 61 s).2.1) with
   | none => rw [hq] at h; cases h
   | some u =>
    rw [hq] at h
    cases h
    have:=quotedY_len (m:=s.length) hq (by omega)
    exact ⟨by rw [lowY_len]; omega,this⟩
  ·cases h
   exact ⟨by rw [lowY_len]; omega,by omega⟩
 ·cases h
def OnO (o : Option Ap.Ra) (e : Ending) : Prop:=∃ (a b : ByteArray) (p q : Int),e = .returned (.tuple #[.agg #[.string a,.string b,.int .i64 p,.int .i64 q],.bool o.isSome]) ∧ ∀ r,o = some r → raV r = .agg #[.string a,.string b,.int .i64 p,.int .i64 q]
def rgO (a b : ByteArray) (p q : Int) : Obj:=.cells #[.string a,.string b,.int .i64 p,.int .i64 q] 152 (0,0)
theorem rgO_cells {w : World} {D : Nat} {a b : ByteArray} {p q : Int} (h : w.heap[D]? = some (rgO a b p q)) : w.cell? ⟨D,0,none⟩ = some (.string a) ∧ w.cell? ⟨D,1,none⟩ = some (.string b) ∧ w.cell? ⟨D,2,none⟩ = some (.int .i64 p) ∧ w.cell? ⟨D,3,none⟩ = some (.int .i64 q) ∧ ∀ m,w.frozen? ⟨D,m,none⟩ = false:=by
 unfold rgO at h
 refine ⟨?_,?_,?_,?_,fun m => frozen_of_row _ _ _ _ _ h⟩ <;> simp [World.cell?,h]
def rgPut (w : World) (D : Nat) (a b : ByteArray) (p q : Int) : World:=(((w.setCell ⟨D,0,none⟩ (.string a)).setCell ⟨D,1,none⟩ (.string b)).setCell ⟨D,2,none⟩ (.int .i64 p)).setCell ⟨D,3,none⟩ (.int .i64 q)
theorem rgPut_heap {w : World} {D : Nat} {a0 b0 : ByteArray} {p0 q0 : Int} (h : w.heap[D]? = some (rgO a0 b0 p0 q0)) (a b : ByteArray) (p q : Int) : (rgPut w D a b p q).heap[D]? = some (rgO a b p q):=by
 unfold rgO at h
 have h0:=heap_setCell_same w D 0 _ _ (.string a) h
 have h1:=heap_setCell_same _ D 1 _ _ (.string b) h0
 have h2:=heap_setCell_same _ D 2 _ _ (.int .i64 p) h1
 have h3:=heap_setCell_same _ D 3 _ _ (.int .i64 q) h2
 unfold rgPut rgO
 rw [h3]
 simp
theorem rgPut_other {w : World} {D j : Nat} (hj : j ≠ D) (a b : ByteArray) (p q : Int) : (rgPut w D a b p q).heap[j]? = w.heap[j]?:=by
 unfold rgPut
 rw [Below.heap_setCell _ _ _ _ (by show j ≠ D; exact hj),Below.heap_setCell _ _ _ _ (by show j ≠ D; exact hj),Below.heap_setCell _ _ _ _ (by show j ≠ D; exact hj),Below.heap_setCell _ _ _ _ (by show j ≠ D; exact hj)]
theorem rgPut_below {w0 w : World} {B D : Nat} (h : Below B w0 w) (hB : B ≤ D) (a b : ByteArray) (p q : Int) : Below B w0 (rgPut w D a b p q):=by
 unfold rgPut
 exact (((h.setCell (p:=⟨D,0,none⟩) hB _).setCell (p:=⟨D,1,none⟩) hB _).setCell (p:=⟨D,2,none⟩) hB _).setCell (p:=⟨D,3,none⟩) hB _
structure OnW (w0 w : World) (S D : Nat) (ka ub : ByteArray) (st : Nat × Int × Bool) : Prop where
 row : w.heap[D]? = some (rgO ka ub (st.1 : Int) st.2.1)
 oth : ∀ b,b < S → b ≠ D → w.heap[b]? = w0.heap[b]?
 sz : S ≤ w.heap.size
theorem OnW.next {w0 w w' : World} {S D : Nat} {ka ub : ByteArray} {st : Nat × Int × Bool} (h : OnW w0 w S D ka ub st) (k : Below w.heap.size w w') : OnW w0 w' S D ka ub st :=
 ⟨(k.block _ (Array.getElem?_eq_some_iff.1 h.row).1).trans h.row,fun b hb hne => (k.block b (Nat.lt_of_lt_of_le hb h.sz)).trans (h.oth b hb hne),Nat.le_trans h.sz k.size⟩
theorem OnW.set2 {w0 w : World} {S D : Nat} {ka ub : ByteArray} {st : Nat × Int × Bool} (h : OnW w0 w S D ka ub st) (p : Nat) : OnW w0 (w.setCell ⟨D,2,none⟩ (.int .i64 (p : Int))) S D ka ub (p,st.2.1,st.2.2):=by
 have hr:=h.row
 unfold rgO at hr
 refine ⟨?_,fun b hb hne => (Below.heap_setCell _ _ _ _ (by show b ≠ D; exact hne)).trans (h.oth b hb hne),by simpa using h.sz⟩
 rw [heap_setCell_same w D 2 _ _ _ hr]
 simp [rgO]
theorem OnW.set3 {w0 w : World} {S D : Nat} {ka ub : ByteArray} {st : Nat × Int × Bool} (h : OnW w0 w S D ka ub st) (q : Int) (b : Bool) : OnW w0 (w.setCell ⟨D,3,none⟩ (.int .i64 q)) S D ka ub (st.1,q,b):=by
 have hr:=h.row
 unfold rgO at hr
 refine ⟨?_,fun b hb hne => (Below.heap_setCell _ _ _ _ (by show b ≠ D; exact hne)).trans (h.oth b hb hne),by simpa using h.sz⟩
 rw [heap_setCell_same w D 3 _ _ _ hr]
 simp [rgO]
def oneF (S g N c k : Nat) (xb z1 z2 ka ub : ByteArray) (f : Nat → Bool) : Nat → World → Value → Prop
 | 0,_,v => v = .slice (some ⟨g,0,none⟩) N c
 | 1,_,v => v = .pointer (some ⟨g,0,none⟩)
 | 2,_,v => v = .string xb
 | 3,_,v => v = .int .i64 (k : Int)
 | 4,_,v => v = .string z1
 | 5,_,v => v = .string ka
 | 6,_,v => v = .slice (some ⟨g,0,none⟩) N c
 | 7,_,v => v = .pointer (some ⟨g,0,none⟩)
 | 8,_,v => v = .string xb
 | 9,_,v => v = .int .i64 (k : Int)
 | 10,_,v => v = .int .i64 ((k : Int) + 1)
 | 11,_,v => v = .string z2
 | 12,_,v => v = .string ub
 | 13,_,v => v = .agg #[.string ka,.string ub,.int .i64 0,.int .i64 1000]
 | 14,w,v => ∃ D,v = .pointer (some ⟨D,0,none⟩) ∧ S ≤ D ∧ w.heap[D]? = some (if f 15 = true then rgO ka ub 0 1000 else rgO ⟨#[]⟩ ⟨#[]⟩ 0 0)
 | 15,_,_ => True
 | _,_,_ => False
theorem oneF_next {S g N c k : Nat} {xb z1 z2 ka ub : ByteArray} {f : Nat → Bool} {w w' : World} (hb : Below w.heap.size w w') (i : Nat) (hi : i ≠ 15) (j : Nat) (v : Value) (h : oneF S g N c k xb z1 z2 ka ub f j w v) : oneF S g N c k xb z1 z2 ka ub (fun j => if j = i then true else f j) j w' v:=by
 match j,h with
 | 14,h =>
  obtain ⟨D,h1,h2,h3⟩:=h
  refine ⟨D,h1,h2,?_⟩
  show w'.heap[D]? = some (if (if 15 = i then true else f 15) = true then rgO ka ub 0 1000 else rgO ⟨#[]⟩ ⟨#[]⟩ 0 0)
  rw [if_neg (Ne.symm hi)]
  exact (hb.block _ (Array.getElem?_eq_some_iff.1 h3).1).trans h3
 | 15,_ => trivial
 | 0,h | 1,h | 2,h | 3,h | 4,h | 5,h | 6,h | 7,h | 8,h | 9,h | 10,h | 11,h | 12,h | 13,h => exact h
 | n + 16,h => exact h.elim
def oneT (w0 : World) (f : Nat → Bool) (w : World) : Prop:=Below w0.heap.size w0 w ∧ (f 15 = true → f 14 = true)
theorem oneT_next {w0 w w' : World} {f : Nat → Bool} (h : oneT w0 f w) (hb : Below w.heap.size w w') (i : Nat) (hi : i ≠ 15) : oneT w0 (fun j => if j = i then true else f j) w':=by
 refine ⟨h.1.trans (hb.mono h.1.size),fun e => ?_⟩
 have e : f 15 = true:=by simpa [Ne.symm hi] using e
 have h2:=h.2 e
 show (if 14 = i then true else f 14) = true
 by_cases h3 : 14 = i <;> simp [h3,h2]
def oneSlot (i : Nat) : Nat:=([25,26,27,28,29,30,31,32,33,34,35,36,37,38,6,50] : List Nat).getD i 50
theorem oneSlot_lt (i : Nat) : oneSlot i < 98:=by
 match i with
 | 0 | 1 | 2 | 3 | 4 | 5 | 6 | 7 | 8 | 9 | 10 | 11 | 12 | 13 | 14 | 15 => decide
 | n + 16 => show 50 < 98; decide
theorem oneSlot_inj : ∀ i j,i < 16 → j < 16 → oneSlot i = oneSlot j → i = j:=by
 have h : ∀ i j : Fin 16,oneSlot i.val = oneSlot j.val → i = j:=by decide +kernel
 intro i j hi hj e
 have:=h ⟨i,hi⟩ ⟨j,hj⟩ e
 simpa using this
theorem oneNot : ∀ i,i < 16 → oneSlot i ≠ 4 ∧ oneSlot i ≠ 5:=by
 have h : ∀ i : Fin 16,oneSlot i.val ≠ 4 ∧ oneSlot i.val ≠ 5:=by decide +kernel
 exact fun i hi => h ⟨i,hi⟩
theorem rf_one (s : ByteArray) (w : World) (hs : s.size ≤ 90000) :
  Calls Tryz.prog 165 #[.string s] w fun e w' => OnO (Ap.one s.data.toList) e ∧ Below w.heap.size w w':=by
 have hone:=Ap.one_is s.data.toList
 obtain ⟨o,ho⟩ : ∃ z,Ap.one s.data.toList = z:=⟨_,rfl⟩
 rw [ho] at hone ⊢
 have hal:=Ap.all_len s.data.toList 59
 have hpos:=Ap.all_len_pos s.data.toList 59
 have hmem:=fun p (hp : p ∈ Ap.all s.data.toList 59) => Ap.all_mem hp
 have hsl : s.data.toList.length = s.size:=rfl
 obtain ⟨B,hB⟩ : ∃ z,w.heap.size = z:=⟨_,rfl⟩
 obtain ⟨W1,hW1⟩ : ∃ z,w.alloc (.cells #[.string ⟨#[]⟩,.string ⟨#[]⟩,.int .i64 0,.int .i64 0] 152) = z:=⟨_,rfl⟩
 have hb1 : Below w.heap.size w W1:=by rw [← hW1]; exact (Below.refl _ _).alloc (Nat.le_refl _) _
 have hz1 : W1.heap.size = B + 1:=by rw [← hW1,← hB]; simp
 have hR1 : W1.heap[B]? = some (rgO ⟨#[]⟩ ⟨#[]⟩ 0 0):=by rw [← hW1,← hB]; exact World.alloc_heap_new _ _
 have KA:=Lib.hid (rf_All9 s 59 W1 (by omega))
 obtain ⟨L,hL⟩ : ∃ z,Ap.all s.data.toList 59 = z:=⟨_,rfl⟩
 rw [hL] at hone hal hpos KA
 simp only [hL] at hmem
 obtain ⟨N,hN⟩ : ∃ z,L.length = z:=⟨_,rfl⟩
 have hml : ∀ p ∈ L,p.length ≤ 90000:=fun p hp => by have:=hmem p hp; omega
 rw [hN] at hal hpos
 have hN1 : N ≤ 100001:=by omega
 have HONE:=Lib.hid hone
 have HML:=Lib.hid hml
 have HN:=Lib.hid hN
 have HB:=Lib.hid hB
 have HB1:=Lib.hid hb1
 have HZ1:=Lib.hid hz1
 have HR1:=Lib.hid hR1
 have HW1:=Lib.hid hW1
 clear ho hal hmem hsl hB hW1 hb1 hz1 hR1 hL hN hml hone
 go_enter Tryz.func165,Tryz.ntmps165
 go_wp2_with fail
 rw [HW1.out,HB.out]
 refine KA.out.mono ?_
 rintro e w2 ⟨v,rfl,hrow,hb2⟩
 have HB2:=Lib.hid (HB1.out.trans (hb2.mono HB1.out.size))
 have HR2:=Lib.hid ((hb2.block _ (by rw [HZ1.out]; omega)).trans HR1.out)
 have hS2 : B + 1 ≤ w2.heap.size:=by have:=hb2.size; rw [HZ1.out] at this; exact this
 obtain ⟨g,c,rfl⟩:=Go.Joins.ownsRow_form hrow (by rw [HN.out]; exact hpos)
 have hgB : B + 1 ≤ g ∧ g < w2.heap.size:=by
  have:=hrow.lt g rfl
  rw [HZ1.out] at this; exact this
 have hcs : ∀ j,j < N → w2.cell? ⟨g,j,none⟩ = some (tx (L.getD j [])):=fun j hj => by
  have h:=hrow.cellAt j (by rw [HN.out]; omega)
  rw [h,List.getElem?_map,List.getElem?_eq_getElem (show j < L.length by rw [HN.out]; exact hj),List.getD_eq_getElem?_getD,List.getElem?_eq_getElem (show j < L.length by rw [HN.out]; exact hj)]
  rfl
 rw [HN.out]
 have HCS:=Lib.hid hcs
 have HGB:=Lib.hid hgB
 have HS2:=Lib.hid hS2
 obtain ⟨x,hx⟩ : ∃ z,L.getD 0 [] = z:=⟨_,rfl⟩
 have hxm : x ∈ L:=by rw [← hx,List.getD_eq_getElem?_getD,List.getElem?_eq_getElem (show 0 < L.length by rw [HN.out]; exact hpos)]; exact List.getElem_mem _
 have hxl:=HML.out x hxm
 have hc0:=hcs 0 hpos
 rw [hx] at hc0
 have HO1:=Lib.hid (show o = if Ap.oneH x = true then (Ap.takes (L.drop 1) (0,1000,false)).map fun st => (Tp.lower (Ap.cutB 47 x).1,Tp.lower (Ap.cutB 47 x).2.1,st.1,st.2.1) else none by rw [HONE.out,hx])
 unfold tx at hc0
 obtain ⟨xb,hxb⟩ : ∃ z : ByteArray,(⟨x.toArray⟩ : ByteArray) = z:=⟨_,rfl⟩
 rw [hxb] at hc0
 have hxd : xb.data.toList = x:=by rw [← hxb]
 have hxz : xb.size ≤ 90000:=by rw [← hxb]; simpa [ByteArray.size] using hxl
 have KAT:=rf_at xb 47 w2 (by omega)
 rw [hxd] at KAT
 obtain ⟨hk,h1,h2,h3⟩:=Ap.cut_len 47 x
 obtain ⟨k,hkk⟩ : ∃ z,(Ap.cutB 47 x).1.length = z:=⟨_,rfl⟩
 obtain ⟨f,hf⟩ : ∃ z,(Ap.cutB 47 x).2.2 = z:=⟨_,rfl⟩
 have hoh : Ap.oneH x = ((Ap.cutB 47 x).2.2 && Tp.isTok (Tp.lower (Ap.cutB 47 x).1) && Tp.isTok (Tp.lower (Ap.cutB 47 x).2.1) && (!(Tp.lower (Ap.cutB 47 x).1 == [42]) || (Tp.lower (Ap.cutB 47 x).2.1 == [42]))):=rfl
 obtain ⟨a1,ha1⟩ : ∃ z,(Ap.cutB 47 x).1 = z:=⟨_,rfl⟩
 obtain ⟨a2,ha2⟩ : ∃ z,(Ap.cutB 47 x).2.1 = z:=⟨_,rfl⟩
 rw [hkk] at KAT hk h1 h2 h3
 rw [hf] at h2 h3 hoh
 rw [ha1] at h1 hoh
 rw [ha2] at h3 hoh
 rw [ha1,ha2] at HO1
 have hxlen : x.length = xb.size:=by rw [← hxd]; rfl
 rw [hxlen] at hk h2
 have HKAT:=Lib.hid KAT
 have HH1:=Lib.hid h1
 have HH2:=Lib.hid h2
 have HH3:=Lib.hid h3
 have HOH:=Lib.hid hoh
 have HXD:=Lib.hid hxd
 have hNp : (0 : Int) < (N : Int):=by omega
 clear KAT h1 h2 h3 hoh hkk hf ha1 ha2 hx hxm hxl hxb hxd hcs hgB hS2 hrow hb2 hxlen
 go_wp2_with fail
 refine HKAT.out.mono ?_
 rintro e w3 ⟨rfl,hw3⟩
 subst w3
 cases f with
 | false =>
  have HO:=Lib.hid (show o = none by rw [HO1.out,if_neg (by rw [HOH.out]; simp)])
  have hke : k = xb.size:=by
   by_cases h : k < xb.size
   ·exact absurd (HH2.out.2 h) (by decide)
   ·omega
  have e1 : ((k : Int) == (xb.size : Int)) = true:=by rw [hke]; simp
  obtain ⟨x0,x1,x2,x3,z⟩:=rgO_cells HR2.out
  have z0:=z 0
  have z1:=z 1
  have z2:=z 2
  have z3:=z 3
  clear z hke
  go_wp2_with fail
  have hX:=rgPut_heap HR2.out ⟨#[]⟩ ⟨#[]⟩ 0 0
  have hbX:=rgPut_below HB2.out (D:=B) (Nat.le_of_eq HB.out) ⟨#[]⟩ ⟨#[]⟩ 0 0
  unfold rgPut at hX hbX
  obtain ⟨X,hXX⟩ : ∃ X,(((w2.setCell ⟨B,0,none⟩ (.string ⟨#[]⟩)).setCell ⟨B,1,none⟩ (.string ⟨#[]⟩)).setCell ⟨B,2,none⟩ (.int .i64 0)).setCell ⟨B,3,none⟩ (.int .i64 0) = X:=⟨_,rfl⟩
  rw [hXX] at hX hbX ⊢
  obtain ⟨y0,y1,y2,y3,_⟩:=rgO_cells hX
  clear hXX hX x0 x1 x2 x3 z0 z1 z2 z3
  exact bodyPost_ret (v:=.tuple #[.agg #[.string ⟨#[]⟩,.string ⟨#[]⟩,.int .i64 0,.int .i64 0],.bool false]) (by simp [results,Tryz.results165,go_sem,y0,y1,y2,y3]) rfl ⟨⟨_,_,_,_,by rw [HO.out]; rfl,fun r h => by rw [HO.out] at h; cases h⟩,HB.out ▸ hbX⟩
 | true =>
 have hks : k < xb.size:=HH2.out.1 rfl
 have e1 : ((k : Int) == (xb.size : Int)) = false:=beq_eq_false_iff_ne.2 (by omega)
 have hsl:=fun W => slice_to xb W k (by omega) (by omega)
 have hsf:=fun W => slice_from xb W k hks (by omega)
 have d1 : (xb.extract 0 k).data.toList = a1:=by rw [HH1.out,← HXD.out]; exact Lib.extract_from_zero xb k
 have d2 : (xb.extract (k + 1) xb.size).data.toList = a2:=by rw [HH3.out rfl,← HXD.out]; exact Lib.extract_to_end xb (k + 1)
 have s1 : (xb.extract 0 k).size ≤ 90000:=by rw [ByteArray.size_extract]; omega
 have s2 : (xb.extract (k + 1) xb.size).size ≤ 90000:=by rw [ByteArray.size_extract]; omega
 obtain ⟨z1,hz1⟩ : ∃ z,xb.extract 0 k = z:=⟨_,rfl⟩
 obtain ⟨z2,hz2⟩ : ∃ z,xb.extract (k + 1) xb.size = z:=⟨_,rfl⟩
 rw [hz1] at d1 s1
 rw [hz2] at d2 s2
 simp only [hz1] at hsl
 simp only [hz2] at hsf
 have KL1:=fun W => rtk_lower z1 W (by omega)
 have KL2:=fun W => rtk_lower z2 W (by omega)
 rw [d1] at KL1
 rw [d2] at KL2
 obtain ⟨ka,hka⟩ : ∃ z : ByteArray,(⟨(Tp.lower a1).toArray⟩ : ByteArray) = z:=⟨_,rfl⟩
 obtain ⟨ub,hub⟩ : ∃ z : ByteArray,(⟨(Tp.lower a2).toArray⟩ : ByteArray) = z:=⟨_,rfl⟩
 have kd : ka.data.toList = Tp.lower a1:=by rw [← hka]
 have ud : ub.data.toList = Tp.lower a2:=by rw [← hub]
 have kz : ka.size ≤ 90000:=by rw [← hka]; simp only [ByteArray.size,List.size_toArray,lowY_len]; rw [← d1]; exact s1
 have uz : ub.size ≤ 90000:=by rw [← hub]; simp only [ByteArray.size,List.size_toArray,lowY_len]; rw [← d2]; exact s2
 simp only [hka] at KL1
 simp only [hub] at KL2
 have KT1:=fun W => rtk_token ka W (by omega)
 have KT2:=fun W => rtk_token ub W (by omega)
 rw [kd] at KT1
 rw [ud] at KT2
 have hw : IntKind.i64.wrap ((k : Int) + 1) = (k : Int) + 1:=IntWalk.i64_in _ (by omega)
 have hk1 : (0 : Int) ≤ (k : Int) + 1:=by omega
 have HL1:=Lib.hid KL1
 have HL2:=Lib.hid KL2
 have HSL:=Lib.hid hsl
 have HSF:=Lib.hid hsf
 have HKA:=Lib.hid hka
 have HUB:=Lib.hid hub
 have HC0:=Lib.hid hc0
 have hkl : ka.toList = Tp.lower a1:=by rw [← hka,ba_list]
 have hul : ub.toList = Tp.lower a2:=by rw [← hub,ba_list]
 obtain ⟨t1,ht1⟩ : ∃ z,Tp.isTok (Tp.lower a1) = z:=⟨_,rfl⟩
 obtain ⟨t2,ht2⟩ : ∃ z,Tp.isTok (Tp.lower a2) = z:=⟨_,rfl⟩
 obtain ⟨q1,hq1⟩ : ∃ z,(Tp.lower a1 == ([42] : List UInt8)) = z:=⟨_,rfl⟩
 obtain ⟨q2,hq2⟩ : ∃ z,(Tp.lower a2 == ([42] : List UInt8)) = z:=⟨_,rfl⟩
 have HOH2:=Lib.hid (show Ap.oneH x = (t1 && t2 && (!q1 || q2)) by rw [HOH.out,ht1,ht2,hq1,hq2]; simp)
 have e5 : (ka.toList == ([42] : List UInt8)) = q1:=by rw [hkl]; exact hq1
 have e6 : (ub.toList == ([42] : List UInt8)) = q2:=by rw [hul]; exact hq2
 have e7 : (ub.toList != ([42] : List UInt8)) = !q2:=by rw [hul]; show (!(Tp.lower a2 == [42])) = _; rw [hq2]
 simp only [ht1] at KT1
 simp only [ht2] at KT2
 have HT1:=Lib.hid KT1
 have HT2:=Lib.hid KT2
 clear KL1 KL2 KT1 KT2 hka hub kd ud kz uz d1 d2 s1 s2 hz1 hz2 hkl hul ht1 ht2 hq1 hq2 hsl hsf
 go_upto_region 5 with (fail)
 clear hc0
 refine region_slots4 oneSlot (oneF w2.heap.size g N c k xb z1 z2 ka ub) (oneT w2) (by kernel_rfl) (by kernel_rfl) (fun i => Nat.lt_of_lt_of_le (oneSlot_lt i) (by show 98 ≤ _; simp)) (fun i j hi hj h => oneSlot_inj i j hi hj h) ?start ?dst ?step ?done
 case start => exact ⟨(Below.refl _ _).drew,fun e => by cases e⟩
 case dst =>
  intro i o ho
  match i,ho with
  | 0,ho => cases ho; exact .inl rfl
  | 1,ho => cases ho; exact .inl rfl
  | 2,ho => cases ho; exact .inl rfl
  | 3,ho => cases ho; exact .inl rfl
  | 4,ho => cases ho; exact .inl rfl
  | 5,ho => cases ho; exact .inl rfl
  | 6,ho => cases ho; exact .inl rfl
  | 7,ho => cases ho; exact .inl rfl
  | 8,ho => cases ho; exact .inl rfl
  | 9,ho => cases ho; exact .inl rfl
  | 10,ho => cases ho; exact .inl rfl
  | 11,ho => cases ho; exact .inl rfl
  | 12,ho => cases ho; exact .inl rfl
  | 13,ho => cases ho; exact .inl rfl
  | 14,ho => cases ho; exact .inl rfl
  | 15,ho => cases ho; exact .inr rfl
  | n + 16,ho => exact absurd ho (by simp)
 case step =>
  intro f a' W i o ho hfi hpre hT hrest
  have HT : oneT w2 f W:=hT
  have hT : Below w2.heap.size w2 W:=HT.1
  match i,ho with
  | 0,ho =>
   cases ho
   have q4 : a'.tmps.getD 4 undef = .slice (some ⟨g,0,none⟩) N c:=(hrest 4 (fun i hi => (oneNot i hi).1))
   have e4:=rg_ev q4
   exact rg_same4 (.slice (some ⟨g,0,none⟩) N c) (by unfold Oper.wp execOp; go_simp; all_goals ((try simp only [e4]); (try go_simp); (try rw [if_pos (by omega)]); (try rw [if_neg (by omega)]); first | done | rfl | exact ⟨rfl,rfl⟩ | trivial)) (by simp) rfl (oneT_next HT (Below.refl _ _) 0 (by decide)) (fun j v' h => oneF_next (Below.refl _ _) 0 (by decide) j v' h)
  | 1,ho =>
   cases ho
   have q25 : a'.tmps.getD 25 undef = .slice (some ⟨g,0,none⟩) N c:=(hpre { on:=0,ground:=.data } (by simp) rfl).2
   have e25:=rg_ev q25
   exact rg_same4 (.pointer (some ⟨g,0,none⟩)) (by unfold Oper.wp execOp; go_simp; all_goals ((try simp only [e25]); (try go_simp); (try rw [if_pos (by omega)]); (try rw [if_neg (by omega)]); first | done | rfl | exact ⟨rfl,rfl⟩ | trivial)) (by simp) rfl (oneT_next HT (Below.refl _ _) 1 (by decide)) (fun j v' h => oneF_next (Below.refl _ _) 1 (by decide) j v' h)
  | 2,ho =>
   cases ho
   have q26 : a'.tmps.getD 26 undef = .pointer (some ⟨g,0,none⟩):=(hpre { on:=1,ground:=.data } (by simp) rfl).2
   have e26:=rg_ev q26
   have hc : W.cell? ⟨g,0,none⟩ = some (.string xb):=cell_below hT HC0.out
   exact rg_same4 (.string xb) (by unfold Oper.wp execOp; go_simp; all_goals ((try simp only [e26]); (try go_simp); (try rw [if_pos (by omega)]); (try rw [if_neg (by omega)]); first | done | rfl | exact ⟨rfl,rfl⟩ | trivial)) (by simp) rfl (oneT_next HT (Below.refl _ _) 2 (by decide)) (fun j v' h => oneF_next (Below.refl _ _) 2 (by decide) j v' h)
  | 3,ho =>
   cases ho
   have q5 : a'.tmps.getD 5 undef = .int .i64 (k : Int):=(hrest 5 (fun i hi => (oneNot i hi).2))
   have e5:=rg_ev q5
   exact rg_same4 (.int .i64 (k : Int)) (by unfold Oper.wp execOp; go_simp; all_goals ((try simp only [e5]); (try go_simp); (try rw [if_pos (by omega)]); (try rw [if_neg (by omega)]); first | done | rfl | exact ⟨rfl,rfl⟩ | trivial)) (by simp) rfl (oneT_next HT (Below.refl _ _) 3 (by decide)) (fun j v' h => oneF_next (Below.refl _ _) 3 (by decide) j v' h)
  | 4,ho =>
   cases ho
   have q27 : a'.tmps.getD 27 undef = .string xb:=(hpre { on:=2,ground:=.data } (by simp) rfl).2
   have q28 : a'.tmps.getD 28 undef = .int .i64 (k : Int):=(hpre { on:=3,ground:=.data } (by simp) rfl).2
   have e27:=rg_ev q27
   have e28:=rg_ev q28
   have hs1:=HSL.out W
   exact rg_same4 (.string z1) (by unfold Oper.wp execOp; go_simp; all_goals ((try simp only [e27,e28,hs1]); (try go_simp); (try rw [if_pos (by omega)]); (try rw [if_neg (by omega)]); first | done | rfl | exact ⟨rfl,rfl⟩ | trivial)) (by simp) rfl (oneT_next HT (Below.refl _ _) 4 (by decide)) (fun j v' h => oneF_next (Below.refl _ _) 4 (by decide) j v' h)
  | 5,ho =>
   cases ho
   have q29 : a'.tmps.getD 29 undef = .string z1:=(hpre { on:=4,ground:=.data } (by simp) rfl).2
   refine rg_call 29 34 _ _ _ rfl q29 (enters_of Tryz.func34 (by kernel_rfl) rfl) (HL1.out W) (fun e w' h => ?_)
   obtain ⟨rfl,hb⟩:=h
   exact ⟨_,rfl,_,rfl,fun h => absurd h (by simp),rfl,oneT_next HT hb 5 (by decide),fun j _ h => oneF_next hb 5 (by decide) j _ h⟩
  | 6,ho =>
   cases ho
   have q4 : a'.tmps.getD 4 undef = .slice (some ⟨g,0,none⟩) N c:=(hrest 4 (fun i hi => (oneNot i hi).1))
   have e4:=rg_ev q4
   exact rg_same4 (.slice (some ⟨g,0,none⟩) N c) (by unfold Oper.wp execOp; go_simp; all_goals ((try simp only [e4]); (try go_simp); (try rw [if_pos (by omega)]); (try rw [if_neg (by omega)]); first | done | rfl | exact ⟨rfl,rfl⟩ | trivial)) (by simp) rfl (oneT_next HT (Below.refl _ _) 6 (by decide)) (fun j v' h => oneF_next (Below.refl _ _) 6 (by decide) j v' h)
  | 7,ho =>
   cases ho
   have q31 : a'.tmps.getD 31 undef = .slice (some ⟨g,0,none⟩) N c:=(hpre { on:=6,ground:=.data } (by simp) rfl).2
   have e31:=rg_ev q31
   exact rg_same4 (.pointer (some ⟨g,0,none⟩)) (by unfold Oper.wp execOp; go_simp; all_goals ((try simp only [e31]); (try go_simp); (try rw [if_pos (by omega)]); (try rw [if_neg (by omega)]); first | done | rfl | exact ⟨rfl,rfl⟩ | trivial)) (by simp) rfl (oneT_next HT (Below.refl _ _) 7 (by decide)) (fun j v' h => oneF_next (Below.refl _ _) 7 (by decide) j v' h)
  | 8,ho =>
   cases ho
   have q32 : a'.tmps.getD 32 undef = .pointer (some ⟨g,0,none⟩):=(hpre { on:=7,ground:=.data } (by simp) rfl).2
   have e32:=rg_ev q32
   have hc : W.cell? ⟨g,0,none⟩ = some (.string xb):=cell_below hT HC0.out
   exact rg_same4 (.string xb) (by unfold Oper.wp execOp; go_simp; all_goals ((try simp only [e32]); (try go_simp); (try rw [if_pos (by omega)]); (try rw [if_neg (by omega)]); first | done | rfl | exact ⟨rfl,rfl⟩ | trivial)) (by simp) rfl (oneT_next HT (Below.refl _ _) 8 (by decide)) (fun j v' h => oneF_next (Below.refl _ _) 8 (by decide) j v' h)
  | 9,ho =>
   cases ho
   have q5 : a'.tmps.getD 5 undef = .int .i64 (k : Int):=(hrest 5 (fun i hi => (oneNot i hi).2))
   have e5:=rg_ev q5
   exact rg_same4 (.int .i64 (k : Int)) (by unfold Oper.wp execOp; go_simp; all_goals ((try simp only [e5]); (try go_simp); (try rw [if_pos (by omega)]); (try rw [if_neg (by omega)]); first | done | rfl | exact ⟨rfl,rfl⟩ | trivial)) (by simp) rfl (oneT_next HT (Below.refl _ _) 9 (by decide)) (fun j v' h => oneF_next (Below.refl _ _) 9 (by decide) j v' h)
  | 10,ho =>
   cases ho
   have q34 : a'.tmps.getD 34 undef = .int .i64 (k : Int):=(hpre { on:=9,ground:=.data } (by simp) rfl).2
   have e34:=rg_ev q34
   exact rg_same4 (.int .i64 ((k : Int) + 1)) (by unfold Oper.wp execOp; go_simp; all_goals ((try simp only [e34]); (try go_simp); (try rw [if_pos (by omega)]); (try rw [if_neg (by omega)]); first | done | rfl | exact ⟨rfl,rfl⟩ | trivial)) (by simp) rfl (oneT_next HT (Below.refl _ _) 10 (by decide)) (fun j v' h => oneF_next (Below.refl _ _) 10 (by decide) j v' h)
  | 11,ho =>
   cases ho
   have q33 : a'.tmps.getD 33 undef = .string xb:=(hpre { on:=8,ground:=.data } (by simp) rfl).2
   have q35 : a'.tmps.getD 35 undef = .int .i64 ((k : Int) + 1):=(hpre { on:=10,ground:=.data } (by simp) rfl).2
   have e33:=rg_ev q33
   have e35:=rg_ev q35
   have hs2:=HSF.out W
   exact rg_same4 (.string z2) (by unfold Oper.wp execOp; go_simp; all_goals ((try simp only [e33,e35,hs2]); (try go_simp); (try rw [if_pos (by omega)]); (try rw [if_neg (by omega)]); first | done | rfl | exact ⟨rfl,rfl⟩ | trivial)) (by simp) rfl (oneT_next HT (Below.refl _ _) 11 (by decide)) (fun j v' h => oneF_next (Below.refl _ _) 11 (by decide) j v' h)
  | 12,ho =>
   cases ho
   have q36 : a'.tmps.getD 36 undef = .string z2:=(hpre { on:=11,ground:=.data } (by simp) rfl).2
   refine rg_call 36 34 _ _ _ rfl q36 (enters_of Tryz.func34 (by kernel_rfl) rfl) (HL2.out W) (fun e w' h => ?_)
   obtain ⟨rfl,hb⟩:=h
   exact ⟨_,rfl,_,rfl,fun h => absurd h (by simp),rfl,oneT_next HT hb 12 (by decide),fun j _ h => oneF_next hb 12 (by decide) j _ h⟩
  | 13,ho =>
   cases ho
   have q30 : a'.tmps.getD 30 undef = .string ka:=(hpre { on:=5,ground:=.data } (by simp) rfl).2
   have q37 : a'.tmps.getD 37 undef = .string ub:=(hpre { on:=12,ground:=.data } (by simp) rfl).2
   have e30:=rg_ev q30
   have e37:=rg_ev q37
   exact rg_same4 (.agg #[.string ka,.string ub,.int .i64 0,.int .i64 1000]) (by unfold Oper.wp execOp; go_simp; all_goals ((try simp only [e30,e37]); (try go_simp); (try rw [if_pos (by omega)]); (try rw [if_neg (by omega)]); first | done | rfl | exact ⟨rfl,rfl⟩ | trivial)) (by simp) rfl (oneT_next HT (Below.refl _ _) 13 (by decide)) (fun j v' h => oneF_next (Below.refl _ _) 13 (by decide) j v' h)
  | 14,ho =>
   cases ho
   have f15 : f 15 = false:=by
    cases h15 : f 15 with
    | false => rfl
    | true => have:=HT.2 h15; rw [hfi] at this; cases this
   unfold Oper.wp execOp
   go_simp
   exact ⟨_,rfl,⟨W.heap.size,rfl,hT.size,by
    show _ = some (if (if 15 = 14 then true else f 15) = true then rgO ka ub 0 1000 else rgO ⟨#[]⟩ ⟨#[]⟩ 0 0)
    rw [if_neg (by rw [if_neg (by decide),f15]; decide)]
    exact World.alloc_heap_new _ _⟩,oneT_next HT ((Below.refl _ _).alloc (Nat.le_refl _) _) 14 (by decide),fun j _ h => oneF_next ((Below.refl _ _).alloc (Nat.le_refl _) _) 14 (by decide) j _ h⟩
  | 15,ho =>
   cases ho
   obtain ⟨D,q6,hSD,hD⟩:=(hpre { on:=14,ground:=.data } (by simp) rfl).2
   have q6 : a'.tmps.getD 6 undef = .pointer (some ⟨D,0,none⟩):=q6
   rw [hfi,if_neg (by decide)] at hD
   have q38 : a'.tmps.getD 38 undef = .agg #[.string ka,.string ub,.int .i64 0,.int .i64 1000]:=(hpre { on:=13,ground:=.data } (by simp) rfl).2
   have e6:=rg_ev q6
   have e38:=rg_ev q38
   have f14:=(hpre { on:=14,ground:=.data } (by simp) rfl).1
   obtain ⟨x0,x1,x2,x3,hz⟩:=rgO_cells hD
   have z0:=hz 0
   have z1:=hz 1
   have z2:=hz 2
   have z3:=hz 3
   have TN:=rgPut_heap hD ka ub 0 1000
   have TB : Below w2.heap.size w2 (rgPut W D ka ub 0 1000):=rgPut_below hT hSD _ _ _ _
   have TO:=fun j (hj : j ≠ D) => rgPut_other (w:=W) hj ka ub 0 1000
   unfold rgPut at TN TB TO
   have HTN:=Lib.hid TN
   have HTB:=Lib.hid TB
   have HTO:=Lib.hid TO
   have HQ6:=Lib.hid (show a'.tmps[oneSlot 14]?.getD undef = .pointer (some ⟨D,0,none⟩) from rg_ev q6)
   clear TN TB TO hz hT
   unfold Oper.wp execOp
   go_simp
   (try simp only [e38,e6])
   (try go_simp)
   refine ⟨?_,?_,fun j hj h => ?_⟩
   ·first | trivial | rfl
   ·exact ⟨HTB.out,fun _ => by show (if 14 = 15 then true else f 14) = true; rw [if_neg (by decide)]; exact f14⟩
   ·match j,h with
    | 14,h =>
     obtain ⟨D',h1,h2,h3⟩:=h
     rw [HQ6.out] at h1
     obtain rfl : D = D':=by simpa using h1
     exact ⟨D,HQ6.out,h2,by
      show _ = some (if (if 15 = 15 then true else f 15) = true then rgO ka ub 0 1000 else rgO ⟨#[]⟩ ⟨#[]⟩ 0 0)
      rw [if_pos rfl,if_pos rfl]
      exact HTN.out⟩
    | 15,_ => trivial
    | 0,h | 1,h | 2,h | 3,h | 4,h | 5,h | 6,h | 7,h | 8,h | 9,h | 10,h | 11,h | 12,h | 13,h => exact h
    | n + 16,h => exact h.elim
  | n + 16,ho => exact absurd ho (by simp)
 case done =>
  intro f vs W hall hT hvs
  have hT : Below w2.heap.size w2 W:=hT.1
  have v0 : vs 0 = .slice (some ⟨g,0,none⟩) N c:=hvs 0 (by decide)
  have v1 : vs 1 = .pointer (some ⟨g,0,none⟩):=hvs 1 (by decide)
  have v2 : vs 2 = .string xb:=hvs 2 (by decide)
  have v3 : vs 3 = .int .i64 (k : Int):=hvs 3 (by decide)
  have v4 : vs 4 = .string z1:=hvs 4 (by decide)
  have v5 : vs 5 = .string ka:=hvs 5 (by decide)
  have v6 : vs 6 = .slice (some ⟨g,0,none⟩) N c:=hvs 6 (by decide)
  have v7 : vs 7 = .pointer (some ⟨g,0,none⟩):=hvs 7 (by decide)
  have v8 : vs 8 = .string xb:=hvs 8 (by decide)
  have v9 : vs 9 = .int .i64 (k : Int):=hvs 9 (by decide)
  have v10 : vs 10 = .int .i64 ((k : Int) + 1):=hvs 10 (by decide)
  have v11 : vs 11 = .string z2:=hvs 11 (by decide)
  have v12 : vs 12 = .string ub:=hvs 12 (by decide)
  have v13 : vs 13 = .agg #[.string ka,.string ub,.int .i64 0,.int .i64 1000]:=hvs 13 (by decide)
  obtain ⟨D,v14,hSD,hD⟩:=hvs 14 (by decide)
  rw [if_pos (hall 15 (by decide))] at hD
  obtain ⟨z15,v15⟩ : ∃ z,vs 15 = z:=⟨_,rfl⟩
  simp only [fillN,List.size_toArray,List.length_cons,List.length_nil,Nat.reduceAdd,show List.range 16 = [0,1,2,3,4,5,6,7,8,9,10,11,12,13,14,15] from rfl,List.foldl_cons,List.foldl_nil,show oneSlot 0 = 25 from rfl,show oneSlot 1 = 26 from rfl,show oneSlot 2 = 27 from rfl,show oneSlot 3 = 28 from rfl,show oneSlot 4 = 29 from rfl,show oneSlot 5 = 30 from rfl,show oneSlot 6 = 31 from rfl,show oneSlot 7 = 32 from rfl,show oneSlot 8 = 33 from rfl,show oneSlot 9 = 34 from rfl,show oneSlot 10 = 35 from rfl,show oneSlot 11 = 36 from rfl,show oneSlot 12 = 37 from rfl,show oneSlot 13 = 38 from rfl,show oneSlot 14 = 6 from rfl,show oneSlot 15 = 50 from rfl,v0,v1,v2,v3,v4,v5,v6,v7,v8,v9,v10,v11,v12,v13,v14,v15]
  clear v0 v1 v2 v3 v4 v5 v6 v7 v8 v9 v10 v11 v12 v13 v14 v15 hvs
  have hS2:=HS2.out
  have hGB:=HGB.out
  have HB3:=Lib.hid (show Below w.heap.size w W from HB2.out.trans (hT.mono HB2.out.size))
  have HRB:=Lib.hid ((hT.block _ (show B < w2.heap.size by omega)).trans HR2.out)
  have HDW:=Lib.hid hD
  have HBD:=Lib.hid (show B < D by omega)
  have HGD:=Lib.hid (show g ≠ D by omega)
  have HGW:=Lib.hid (show g < W.heap.size by have:=hT.size; omega)
  have HBW:=Lib.hid (show B < W.heap.size by have:=hT.size; omega)
  have HCW:=Lib.hid (fun j hj => (cell_below hT (HCS.out j hj) : W.cell? ⟨g,j,none⟩ = _))
  obtain ⟨r0,r1,r2,r3,zz⟩:=rgO_cells hD
  clear hD hT hall hSD zz hS2 hGB
  go_simp
  go_upto_region 6 with (fail)
  obtain ⟨gd,hgd⟩ : ∃ z,(t1 && t2 && (!q1 || q2)) = z:=⟨_,rfl⟩
  go_cut [58] from 12 (fun s58 wx => s58 = .bool (!gd) ∧ wx = W)
  case first =>
   subst hgd
   cases t1 with
   | false =>
    go_wp2_with fail
    refine (HT1.out _).mono ?_
    rintro e w1 ⟨rfl,hw1⟩
    subst w1
    go_wp2_with fail
    go_meet
    exact ⟨rfl,rfl⟩
   | true =>
    cases t2 with
    | false =>
     go_wp2_with fail
     refine (HT1.out _).mono ?_
     rintro e w1 ⟨rfl,hw1⟩
     subst w1
     go_wp2_with fail
     refine (HT2.out _).mono ?_
     rintro e w1 ⟨rfl,hw1⟩
     subst w1
     go_wp2_with fail
     go_meet
     exact ⟨rfl,rfl⟩
    | true =>
     cases q1 <;> cases q2
     all_goals
      go_wp2_with fail
      refine (HT1.out _).mono ?_
      rintro e w1 ⟨rfl,hw1⟩
      subst w1
      go_wp2_with fail
      refine (HT2.out _).mono ?_
      rintro e w1 ⟨rfl,hw1⟩
      subst w1
      go_wp2_with fail
      go_meet
      exact ⟨rfl,rfl⟩
  case rest =>
   obtain ⟨rfl,hw⟩:=hcut
   have hw2:=hw.symm
   subst hw2
   clear hw e5 e6 e7 r0 r1 r2 r3
   have HGD2:=Lib.hid hgd
   clear hgd
   cases gd with
   | false =>
    have HO:=Lib.hid (show o = none by rw [HO1.out,if_neg (by rw [HOH2.out,HGD2.out]; decide)])
    obtain ⟨x0,x1,x2,x3,z⟩:=rgO_cells (HRB.out)
    have z0:=z 0
    have z1:=z 1
    have z2:=z 2
    have z3:=z 3
    clear z
    go_wp2_with fail
    have hX:=rgPut_heap (HRB.out) ⟨#[]⟩ ⟨#[]⟩ 0 0
    have hbX:=rgPut_below (HB3.out) (D:=B) (Nat.le_of_eq HB.out) ⟨#[]⟩ ⟨#[]⟩ 0 0
    unfold rgPut at hX hbX
    obtain ⟨X,hXX⟩ : ∃ X,(((W.setCell ⟨B,0,none⟩ (.string ⟨#[]⟩)).setCell ⟨B,1,none⟩ (.string ⟨#[]⟩)).setCell ⟨B,2,none⟩ (.int .i64 0)).setCell ⟨B,3,none⟩ (.int .i64 0) = X:=⟨_,rfl⟩
    rw [hXX] at hX hbX ⊢
    obtain ⟨u0,u1,u2,u3,_⟩:=rgO_cells hX
    clear hXX hX x0 x1 x2 x3 z0 z1 z2 z3
    exact bodyPost_ret (v:=.tuple #[.agg #[.string ⟨#[]⟩,.string ⟨#[]⟩,.int .i64 0,.int .i64 0],.bool false]) (by simp [results,Tryz.results165,go_sem,u0,u1,u2,u3]) rfl ⟨⟨_,_,_,_,by rw [HO.out]; rfl,fun r h => by rw [HO.out] at h; cases h⟩,HB.out ▸ hbX⟩
   | true =>
   rw [show (!true) = false from rfl]
   have HO:=Lib.hid (show o = (Ap.takes (L.drop 1) (0,1000,false)).map fun st => (Tp.lower a1,Tp.lower a2,st.1,st.2.1) by rw [HO1.out,if_pos (by rw [HOH2.out,HGD2.out])])
   clear HO1 HOH HOH2
   go_wp2_with fail
   go_loopw [7,8] (fun sv i wr => ∃ (k : Nat) (st : Nat × Int × Bool),1 ≤ k ∧ k ≤ N ∧ i = .int .i64 (k : Int) ∧ sv = .bool st.2.2 ∧ OnW W wr W.heap.size D ka ub st ∧ Below w.heap.size w wr ∧ Ap.takes (L.drop 1) (0,1000,false) = Ap.takes (L.drop k) st ∧ st.1 ≤ k ∧ 0 ≤ st.2.1 ∧ st.2.1 ≤ 1000) (fun _ i _ => N - (intOf i).toNat)
   case atStart => exact ⟨1,(0,1000,false),by omega,by omega,rfl,rfl,⟨HDW.out,fun _ _ _ => rfl,Nat.le_refl _⟩,HB3.out,rfl,by simp,by simp,by simp⟩
   case round =>
    obtain ⟨m,⟨p,q,sn⟩,hm1,hm,rfl,rfl,hon,hbl,htk,hp,hq0,hq1⟩:=hrel
    simp only at hp hq0 hq1
    have HON:=Lib.hid hon
    have HBL:=Lib.hid hbl
    have HTK:=Lib.hid htk
    have HRW:=Lib.hid ((hon.oth B HBW.out (by have:=HBD.out; omega)).trans HRB.out)
    by_cases hlt : m < N
    ·have hI : (m : Int) < (N : Int):=by omega
     obtain ⟨x,hx⟩ : ∃ z,L.getD m [] = z:=⟨_,rfl⟩
     have hxm : x ∈ L:=by rw [← hx,List.getD_eq_getElem?_getD,List.getElem?_eq_getElem (show m < L.length by rw [HN.out]; exact hlt)]; exact List.getElem_mem _
     have hxl:=HML.out x hxm
     have hdr : L.drop m = x :: L.drop (m + 1):=by
      rw [List.drop_eq_getElem_cons (by rw [HN.out]; exact hlt),← hx,List.getD_eq_getElem?_getD,List.getElem?_eq_getElem (by rw [HN.out]; exact hlt)]; rfl
     have hcx : wr.cell? ⟨g,m,none⟩ = some (tx x):=by
      rw [← hx]
      exact (World.cell?_of_block (a:=⟨g,m,none⟩) (hon.oth g HGW.out HGD.out)).trans (HCW.out m hlt)
     have HST:=Lib.hid (show Ap.takes (L.drop 1) (0,1000,false) = (Ap.take1 (p,q,sn) x).bind (Ap.takes (L.drop (m + 1))) by rw [htk,hdr]; rfl)
     unfold tx at hcx
     obtain ⟨xb',hxb⟩ : ∃ z : ByteArray,(⟨x.toArray⟩ : ByteArray) = z:=⟨_,rfl⟩
     rw [hxb] at hcx
     have hxd : xb'.data.toList = x:=by rw [← hxb]
     have hxt : xb'.toList = x:=by rw [← hxb,ba_list]
     have hxz : xb'.size ≤ 90000:=by rw [← hxb]; simpa [ByteArray.size] using hxl
     have KP:=rf_param xb' wr (by omega)
     rw [hxd] at KP
     obtain ⟨op,hop⟩ : ∃ z,Ap.par x = z:=⟨_,rfl⟩
     rw [hop] at KP
     have KPH:=Lib.hid KP
     have HOP:=Lib.hid hop
     have HXL:=Lib.hid hxl
     clear hxb hxd hdr hx hxm KP hop hon hbl htk
     by_cases hem : x = []
     ·have e1 : (xb'.toList == ([] : List UInt8)) = true:=by rw [hxt,hem]; rfl
      have HT0:=Lib.hid (show Ap.take1 (p,q,sn) x = some (p,q,sn) by unfold Ap.take1; rw [if_pos hem])
      clear hem hxt hxl
      go_wp2_with fail
      go_roundw
      case rel => exact ⟨m + 1,(p,q,sn),by omega,hlt,by go_num,rfl,HON.out,HBL.out,by rw [HST.out,HT0.out]; rfl,by simp only; omega,hq0,hq1⟩
      case measure => simp [intOf]; omega
     ·have e1 : (xb'.toList == ([] : List UInt8)) = false:=by rw [hxt]; simpa using hem
      have HT0:=Lib.hid (show Ap.take1 (p,q,sn) x = op.bind fun nv => if sn = true then some (p,q,sn) else if nv.1 = [113] then (Ap.thou nv.2).map fun q => (p,q,true) else some (p + 1,q,false) by
       unfold Ap.take1
       rw [if_neg hem,HOP.out])
      clear hem hxt hxl
      go_wp2_with fail
      refine KPH.out.mono ?_
      rintro e w5 ⟨⟨ab,vb,rfl,hab⟩,hb5⟩
      have HON5:=Lib.hid (HON.out.next hb5)
      have HBL5:=Lib.hid (HBL.out.trans (hb5.mono HBL.out.size))
      have HRW5:=Lib.hid ((hb5.block _ (Array.getElem?_eq_some_iff.1 HRW.out).1).trans HRW.out)
      clear hb5 hcx
      cases op with
      | none =>
       have HF:=Lib.hid (show o = none by rw [HO.out,HST.out,HT0.out]; rfl)
       simp only [Option.isSome_none]
       clear HO
       have HO:=Lib.hid HF.out
       obtain ⟨x0,x1,x2,x3,z⟩:=rgO_cells (HRW5.out)
       have z0:=z 0
       have z1:=z 1
       have z2:=z 2
       have z3:=z 3
       clear z
       go_wp2_with fail
       have hX:=rgPut_heap (HRW5.out) ⟨#[]⟩ ⟨#[]⟩ 0 0
       have hbX:=rgPut_below (HBL5.out) (D:=B) (Nat.le_of_eq HB.out) ⟨#[]⟩ ⟨#[]⟩ 0 0
       unfold rgPut at hX hbX
       obtain ⟨X,hXX⟩ : ∃ X,(((w5.setCell ⟨B,0,none⟩ (.string ⟨#[]⟩)).setCell ⟨B,1,none⟩ (.string ⟨#[]⟩)).setCell ⟨B,2,none⟩ (.int .i64 0)).setCell ⟨B,3,none⟩ (.int .i64 0) = X:=⟨_,rfl⟩
       rw [hXX] at hX hbX ⊢
       obtain ⟨u0,u1,u2,u3,_⟩:=rgO_cells hX
       clear hXX hX x0 x1 x2 x3 z0 z1 z2 z3
       exact bodyPost_ret (v:=.tuple #[.agg #[.string ⟨#[]⟩,.string ⟨#[]⟩,.int .i64 0,.int .i64 0],.bool false]) (by simp [results,Tryz.results165,go_sem,u0,u1,u2,u3]) rfl ⟨⟨_,_,_,_,by rw [HO.out]; rfl,fun r h => by rw [HO.out] at h; cases h⟩,HB.out ▸ hbX⟩
      | some nv =>
       obtain ⟨nm,v⟩:=nv
       obtain ⟨h1,h2⟩:=hab nm v rfl
       simp only [Option.isSome_some]
       have hvz : vb.size ≤ 1000000:=by
        have h3:=(Ap.par_len HOP.out).2
        have h4:=HXL.out
        rw [h2]
        simp only [ByteArray.size,List.size_toArray]
        omega
       cases sn with
       | true =>
        have HT1':=Lib.hid (show Ap.take1 (p,q,true) x = some (p,q,true) by rw [HT0.out]; rfl)
        clear h1 h2 hvz hab
        go_wp2_with fail
        go_roundw
        case rel => exact ⟨m + 1,(p,q,true),by omega,hlt,by go_num,rfl,HON5.out,HBL5.out,by rw [HST.out,HT1'.out]; rfl,by simp only; omega,hq0,hq1⟩
        case measure => simp [intOf]; omega
       | false =>
        have hnt : ab.toList = nm:=by rw [h1,ba_list]
        have hvd : vb.data.toList = v:=by rw [h2]
        obtain ⟨y0,y1,y2,y3,zz⟩:=rgO_cells HON5.out.row
        have z2:=zz 2
        have z3:=zz 3
        simp only at y2 y3
        by_cases hq : nm = [113]
        ·have e2 : (ab.toList == ([113] : List UInt8)) = true:=by rw [hnt,hq]; rfl
         have e3 : (ab.toList != ([113] : List UInt8)) = false:=by rw [hnt,hq]; rfl
         have KTH:=rf_thou vb w5 hvz
         rw [hvd,Ap.thR_is] at KTH
         have HT1':=Lib.hid (show Ap.take1 (p,q,false) x = (Ap.thou v).map fun q => (p,q,true) by rw [HT0.out]; simp [hq])
         clear h1 h2 hvz hab hnt hvd hq zz
         cases hth : Ap.thou v with
         | none =>
          rw [hth] at KTH
          have KTH : Calls Tryz.prog 187 #[.string vb] w5 fun e w' => e = .returned (.int .i64 (-1)) ∧ w' = w5:=KTH
          have HTH:=Lib.hid KTH
          have HF:=Lib.hid (show o = none by rw [HO.out,HST.out,HT1'.out,hth]; rfl)
          clear KTH hth
          go_wp2_with fail
          refine HTH.out.mono ?_
          rintro e w6 ⟨rfl,hw6⟩
          subst w6
          have hon6:=HON5.out.set3 (-1) true
          have hb6:=HBL5.out.setCell (p:=⟨D,3,none⟩) (by have h1:=HB.out; have h2:=HBD.out; show w.heap.size ≤ D; omega) (.int .i64 (-1))
          have hr6:=(Below.heap_setCell w5 ⟨D,3,none⟩ (.int .i64 (-1)) B (by have:=HBD.out; show B ≠ D; omega)).trans HRW5.out
          obtain ⟨w6,hw6⟩ : ∃ z,w5.setCell ⟨D,3,none⟩ (.int .i64 (-1)) = z:=⟨_,rfl⟩
          rw [hw6] at hon6 hb6 hr6
          have HW6:=Lib.hid hw6
          have y3' : w6.cell? ⟨D,3,none⟩ = some (.int .i64 (-1)):=(rgO_cells hon6.row).2.2.2.1
          have HB6:=Lib.hid hb6
          have HR6:=Lib.hid hr6
          clear hon6 hb6 hr6 hw6
          go_upto_region 21 with (fail)
          rw [HW6.out]
          clear HO y0 y1 y2 y3 z2 z3
          have HO:=Lib.hid HF.out
          obtain ⟨x0,x1,x2,x3,z⟩:=rgO_cells (HR6.out)
          have z0:=z 0
          have z1:=z 1
          have z2:=z 2
          have z3:=z 3
          clear z
          go_wp2_with fail
          have hX:=rgPut_heap (HR6.out) ⟨#[]⟩ ⟨#[]⟩ 0 0
          have hbX:=rgPut_below (HB6.out) (D:=B) (Nat.le_of_eq HB.out) ⟨#[]⟩ ⟨#[]⟩ 0 0
          unfold rgPut at hX hbX
          obtain ⟨X,hXX⟩ : ∃ X,(((w6.setCell ⟨B,0,none⟩ (.string ⟨#[]⟩)).setCell ⟨B,1,none⟩ (.string ⟨#[]⟩)).setCell ⟨B,2,none⟩ (.int .i64 0)).setCell ⟨B,3,none⟩ (.int .i64 0) = X:=⟨_,rfl⟩
          rw [hXX] at hX hbX ⊢
          obtain ⟨u0,u1,u2,u3,_⟩:=rgO_cells hX
          clear hXX hX x0 x1 x2 x3 z0 z1 z2 z3
          exact bodyPost_ret (v:=.tuple #[.agg #[.string ⟨#[]⟩,.string ⟨#[]⟩,.int .i64 0,.int .i64 0],.bool false]) (by simp [results,Tryz.results165,go_sem,u0,u1,u2,u3]) rfl ⟨⟨_,_,_,_,by rw [HO.out]; rfl,fun r h => by rw [HO.out] at h; cases h⟩,HB.out ▸ hbX⟩
         | some q2' =>
          rw [hth] at KTH
          have KTH : Calls Tryz.prog 187 #[.string vb] w5 fun e w' => e = .returned (.int .i64 q2') ∧ w' = w5:=KTH
          have HTH:=Lib.hid KTH
          have hqb:=Ap.thou_le hth
          have HT2':=Lib.hid (show Ap.take1 (p,q,false) x = some (p,q2',true) by rw [HT1'.out,hth]; rfl)
          clear KTH hth
          go_wp2_with fail
          refine HTH.out.mono ?_
          rintro e w6 ⟨rfl,hw6⟩
          subst w6
          have HON6:=Lib.hid (HON5.out.set3 q2' true)
          have HB6:=Lib.hid (HBL5.out.setCell (p:=⟨D,3,none⟩) (by have h1:=HB.out; have h2:=HBD.out; show w.heap.size ≤ D; omega) (.int .i64 q2'))
          have y3' : (w5.setCell ⟨D,3,none⟩ (.int .i64 q2')).cell? ⟨D,3,none⟩ = some (.int .i64 q2'):=(rgO_cells HON6.out.row).2.2.2.1
          have hI3 : ¬ (q2' < 0):=by omega
          go_wp2_with fail
          go_roundw
          case rel => exact ⟨m + 1,(p,q2',true),by omega,hlt,by go_num,rfl,HON6.out,HB6.out,by rw [HST.out,HT2'.out]; rfl,by simp only; omega,hqb.1,hqb.2⟩
          case measure => simp [intOf]; omega
        ·have e2 : (ab.toList == ([113] : List UInt8)) = false:=by rw [hnt]; simpa using hq
         have e3 : (ab.toList != ([113] : List UInt8)) = true:=by rw [hnt]; simpa using hq
         have HT1':=Lib.hid (show Ap.take1 (p,q,false) x = some (p + 1,q,false) by rw [HT0.out]; simp [hq])
         clear h1 h2 hvz hab hnt hvd hq zz
         have HON6:=Lib.hid (HON5.out.set2 (p + 1))
         have HB6:=Lib.hid (HBL5.out.setCell (p:=⟨D,2,none⟩) (by have h1:=HB.out; have h2:=HBD.out; show w.heap.size ≤ D; omega) (.int .i64 ((p + 1 : Nat) : Int)))
         have hpc : ((p + 1 : Nat) : Int) = (p : Int) + 1:=by omega
         rw [hpc] at HON6 HB6
         have hpn : (p : Int) ≤ 100001:=by omega
         have hp0 : (0 : Int) ≤ (p : Int):=by omega
         clear hpc
         go_wp2_with fail
         go_roundw
         case rel => exact ⟨m + 1,(p + 1,q,false),by omega,hlt,by go_num,rfl,HON6.out,HB6.out,by rw [HST.out,HT1'.out]; rfl,by simp only; omega,hq0,hq1⟩
         case measure => simp [intOf]; omega
    ·have hmN : m = N:=by omega
     have HF:=Lib.hid (show o = some (Tp.lower a1,Tp.lower a2,p,q) by
      rw [HO.out,HTK.out,List.drop_of_length_le (by rw [HN.out]; omega)]; rfl)
     have hI : ¬ ((m : Int) < (N : Int)):=by omega
     obtain ⟨y0,y1,y2,y3,_⟩:=rgO_cells HON.out.row
     simp only at y2 y3
     obtain ⟨x0,x1,x2,x3,z⟩:=rgO_cells HRW.out
     have z0:=z 0
     have z1:=z 1
     have z2:=z 2
     have z3:=z 3
     clear z hmN hon hbl htk
     go_wp2_with fail
     have hX:=rgPut_heap HRW.out ka ub (p : Int) q
     have hbX:=rgPut_below HBL.out (D:=B) (Nat.le_of_eq HB.out) ka ub (p : Int) q
     unfold rgPut at hX hbX
     obtain ⟨X,hXX⟩ : ∃ X,(((wr.setCell ⟨B,0,none⟩ (.string ka)).setCell ⟨B,1,none⟩ (.string ub)).setCell ⟨B,2,none⟩ (.int .i64 (p : Int))).setCell ⟨B,3,none⟩ (.int .i64 q) = X:=⟨_,rfl⟩
     rw [hXX] at hX hbX ⊢
     obtain ⟨u0,u1,u2,u3,_⟩:=rgO_cells hX
     clear hXX hX x0 x1 x2 x3 z0 z1 z2 z3 y0 y1 y2 y3
     exact bodyPost_ret (v:=.tuple #[.agg #[.string ka,.string ub,.int .i64 (p : Int),.int .i64 q],.bool true]) (by simp [results,Tryz.results165,go_sem,u0,u1,u2,u3]) rfl ⟨⟨_,_,_,_,by rw [HF.out]; rfl,fun r h => by
      rw [HF.out] at h
      cases h
      unfold raV tx
      simp only
      rw [HKA.out,HUB.out]⟩,HB.out ▸ hbX⟩
end Go.Proofs.YtfacmnooklljnaaGreatDoor
namespace Go.Proofs.YtfacmnooklljnaaGreatDoor
open Go.RowKit Go.Shelf
attribute [local go_sem] Oper.semAt_some
set_option maxHeartbeats 8000000
set_option maxRecDepth 100000
def AlO (o : Option (List Ap.Ra)) (b : Nat) (e : Ending) (w' : World) : Prop:=∃ v,e = .returned (.tuple #[v,.bool o.isSome]) ∧ ∀ l,o = some l → w'.ownsRow b 152 4 v l.length (raCs l)
theorem own_lowW {w : World} {B C : Nat} {e : TypeId} {s : Nat} {v : Value} {n : Nat} {xs : List Value} (h : w.ownsRow B e s v n xs) (hC : C ≤ B) : w.ownsRow C e s v n xs :=
 ⟨h.1,h.2.imp id (fun ⟨g,a,b,h1,h2,h3⟩ => ⟨g,a,b,h1,Nat.le_trans hC h2,h3⟩)⟩
theorem rf_all12 (s : ByteArray) (w : World) (hs : s.size ≤ 90000) :
  Calls Tryz.prog 144 #[.string s] w fun e w' => AlO (Ap.parse s.data.toList) w.heap.size e w' ∧ Below w.heap.size w w':=by
 obtain ⟨i0,hi,hz0,hz1,hz2⟩:=info_parts (show (Tryz.prog.info? 152).map (fun i => (i.zero,i.size,i.bytes)) = some (some (.agg #[.string ByteArray.empty,.string ByteArray.empty,.int .i64 0,.int .i64 0]),4,48) by kernel_rfl)
 have hal:=Ap.all_len s.data.toList 44
 have hmem:=fun p (hp : p ∈ Ap.all s.data.toList 44) => Ap.all_mem hp
 have hpos:=Ap.all_len_pos s.data.toList 44
 have hsl : s.data.toList.length = s.size:=rfl
 obtain ⟨o,ho⟩ : ∃ z,Ap.parse s.data.toList = z:=⟨_,rfl⟩
 have hpar : o = if Tp.isVal s.data.toList = true then Ap.rd (Ap.all s.data.toList 44) [] else none:=by rw [← ho]; rfl
 rw [ho]
 obtain ⟨B,hB⟩ : ∃ z,w.heap.size = z:=⟨_,rfl⟩
 have KA:=Lib.hid (rf_All9 s 44 w (by omega))
 have KV:=Lib.hid (rtk_value s w (by omega))
 obtain ⟨L,hL⟩ : ∃ z,Ap.all s.data.toList 44 = z:=⟨_,rfl⟩
 obtain ⟨iv,hiv⟩ : ∃ z,Tp.isVal s.data.toList = z:=⟨_,rfl⟩
 rw [hL] at hal hpos KA hpar
 rw [hiv] at KV hpar
 simp only [hL] at hmem
 obtain ⟨N,hN⟩ : ∃ z,L.length = z:=⟨_,rfl⟩
 have hml : ∀ p ∈ L,p.length ≤ 90000:=fun p hp => by have:=hmem p hp; omega
 rw [hN] at hal hpos
 have hN1 : N ≤ 100001:=by omega
 have HML:=Lib.hid hml
 have HN:=Lib.hid hN
 have HB:=Lib.hid hB
 have HP:=Lib.hid hpar
 clear ho hal hmem hsl hB hL hN hml hpar hiv
 go_enter Tryz.func144,Tryz.ntmps144
 go_wp2_with fail
 refine KV.out.mono ?_
 rintro e w1 ⟨rfl,hw1⟩
 subst w1
 cases iv with
 | false =>
  have HO:=Lib.hid (show o = none by rw [HP.out]; simp)
  go_wp2_with fail
  exact bodyPost_ret (v:=.tuple #[.slice none 0 0,.bool false]) (by simp [results,Tryz.results144,go_sem]) rfl ⟨⟨.slice none 0 0,by rw [HO.out]; rfl,fun l h => by rw [HO.out] at h; cases h⟩,Below.refl _ _⟩
 | true =>
 have HO:=Lib.hid (show o = Ap.rd L [] by rw [HP.out]; simp)
 clear HP
 go_wp2_with fail
 refine KA.out.mono ?_
 rintro e w2 ⟨v,rfl,hrow,hb2⟩
 have HB2:=Lib.hid hb2
 obtain ⟨g,c,rfl⟩:=Go.Joins.ownsRow_form hrow (by rw [HN.out]; exact hpos)
 have hgB : B ≤ g ∧ g < w2.heap.size:=by
  have:=hrow.lt g rfl
  rw [HB.out] at this; exact this
 have hcs : ∀ j,j < N → w2.cell? ⟨g,j,none⟩ = some (tx (L.getD j [])):=fun j hj => by
  have h:=hrow.cellAt j (by rw [HN.out]; omega)
  rw [h,List.getElem?_map,List.getElem?_eq_getElem (show j < L.length by rw [HN.out]; exact hj),List.getD_eq_getElem?_getD,List.getElem?_eq_getElem (show j < L.length by rw [HN.out]; exact hj)]
  rfl
 rw [HN.out]
 have HCS:=Lib.hid hcs
 have HGB:=Lib.hid hgB
 clear hb2 hcs hgB hrow
 go_wp2_with fail
 go_loopw [4,6] (fun av i wr => ∃ (k : Nat) (acc : List Ap.Ra),k ≤ N ∧ i = .int .i64 (k : Int) ∧ wr.ownsRow w2.heap.size 152 4 av acc.length (raCs acc) ∧ Below w2.heap.size w2 wr ∧ Ap.rd L [] = Ap.rd (L.drop k) acc ∧ acc.length ≤ k) (fun _ i _ => N - (intOf i).toNat)
 case atStart => exact ⟨0,[],by omega,rfl,World.ownsRow_nil _ _ _ _,Below.refl _ _,rfl,by simp⟩
 case round =>
  obtain ⟨m,acc,hm,rfl,hown,hbl,hrd,hac⟩:=hrel
  have HOW:=Lib.hid hown
  have HBL:=Lib.hid hbl
  have HRD:=Lib.hid hrd
  by_cases hlt : m < N
  ·have hI : (m : Int) < (N : Int):=by omega
   obtain ⟨x,hx⟩ : ∃ z,L.getD m [] = z:=⟨_,rfl⟩
   have hxm : x ∈ L:=by rw [← hx,List.getD_eq_getElem?_getD,List.getElem?_eq_getElem (show m < L.length by rw [HN.out]; exact hlt)]; exact List.getElem_mem _
   have hxl:=HML.out x hxm
   have hdr : L.drop m = x :: L.drop (m + 1):=by
    rw [List.drop_eq_getElem_cons (by rw [HN.out]; exact hlt),← hx,List.getD_eq_getElem?_getD,List.getElem?_eq_getElem (by rw [HN.out]; exact hlt)]; rfl
   have hcx : wr.cell? ⟨g,m,none⟩ = some (tx x):=by
    rw [← hx]
    exact cell_below hbl (HCS.out m hlt)
   have HST:=Lib.hid (show Ap.rd L [] = if x = [] then Ap.rd (L.drop (m + 1)) acc else (Ap.one x).bind fun r => Ap.rd (L.drop (m + 1)) (acc ++ [r]) by rw [hrd,hdr]; rfl)
   unfold tx at hcx
   obtain ⟨xb',hxb⟩ : ∃ z : ByteArray,(⟨x.toArray⟩ : ByteArray) = z:=⟨_,rfl⟩
   rw [hxb] at hcx
   have hxd : xb'.data.toList = x:=by rw [← hxb]
   have hxt : xb'.toList = x:=by rw [← hxb,ba_list]
   have hxz : xb'.size ≤ 90000:=by rw [← hxb]; simpa [ByteArray.size] using hxl
   have KP:=rf_one xb' wr hxz
   rw [hxd] at KP
   obtain ⟨op,hop⟩ : ∃ z,Ap.one x = z:=⟨_,rfl⟩
   rw [hop] at KP
   have KPH:=Lib.hid KP
   have HOP:=Lib.hid hop
   clear hxb hxd hdr hx hxm KP hop hown hbl hrd
   by_cases hem : x = []
   ·have e1 : (xb'.toList == ([] : List UInt8)) = true:=by rw [hxt,hem]; rfl
    have HT0:=Lib.hid (show Ap.rd L [] = Ap.rd (L.drop (m + 1)) acc by rw [HST.out,if_pos hem])
    clear hem hxt hxl
    go_wp2_with fail
    go_roundw
    case rel => exact ⟨m + 1,acc,by omega,by go_num,HOW.out,HBL.out,HT0.out,by omega⟩
    case measure => simp [intOf]; omega
   ·have e1 : (xb'.toList == ([] : List UInt8)) = false:=by rw [hxt]; simpa using hem
    have HT0:=Lib.hid (show Ap.rd L [] = op.bind fun r => Ap.rd (L.drop (m + 1)) (acc ++ [r]) by rw [HST.out,if_neg hem,HOP.out])
    clear hem hxt hxl
    go_wp2_with fail
    refine KPH.out.mono ?_
    rintro e w5 ⟨⟨qa,qb,qp,qq,rfl,hor⟩,hb5⟩
    have HBL5:=Lib.hid (HBL.out.trans (hb5.mono HBL.out.size))
    have HOW5:=Lib.hid (HOW.out.belowed hb5)
    clear hb5 hcx
    go_upto_region 10 with (fail)
    obtain ⟨W6,hW6⟩ : ∃ z,w5.alloc (.cells #[.string qa,.string qb,.int .i64 qp,.int .i64 qq] 152) = z:=⟨_,rfl⟩
    have HR6:=Lib.hid (show W6.heap[w5.heap.size]? = some (rgO qa qb qp qq) by rw [← hW6]; exact World.alloc_heap_new _ _)
    have HB6:=Lib.hid (show Below w5.heap.size w5 W6 by rw [← hW6]; exact (Below.refl _ _).alloc (Nat.le_refl _) _)
    rw [hW6]
    have HBL6:=Lib.hid (HBL5.out.trans (HB6.out.mono HBL5.out.size))
    have HOW6:=Lib.hid (HOW5.out.belowed HB6.out)
    have HR2:=Lib.hid hor
    clear HB6 hW6 hor
    cases op with
    | none =>
     have HF:=Lib.hid (show o = none by rw [HO.out,HT0.out]; rfl)
     simp only [Option.isSome_none]
     go_wp2_with fail
     exact bodyPost_ret (v:=.tuple #[u4,.bool false]) (by simp [results,Tryz.results144,go_sem]) rfl ⟨⟨u4,by rw [HF.out]; rfl,fun l h => by rw [HF.out] at h; cases h⟩,HB2.out.trans (HBL6.out.mono HB2.out.size)⟩
    | some r =>
     simp only [Option.isSome_some]
     have hra:=HR2.out r rfl
     have HT1:=Lib.hid (show Ap.rd L [] = Ap.rd (L.drop (m + 1)) (acc ++ [r]) by rw [HT0.out]; rfl)
     have hrc : raC r = [.string qa,.string qb,.int .i64 qp,.int .i64 qq]:=by
      unfold raV at hra
      unfold raC
      simpa using hra
     obtain ⟨x0,x1,x2,x3,_⟩:=rgO_cells HR6.out
     have hlt6 : w2.heap.size ≤ W6.heap.size:=HBL6.out.size
     go_wp2_with (at_builtin; refine wpList_append_own _ rfl _ _ 147 rfl w2.heap.size 152 i0 (.agg #[.string ByteArray.empty,.string ByteArray.empty,.int .i64 0,.int .i64 0]) 4 48 Tryz.underlying147 hi hz0 hz1 hz2 rfl (by decide) _ _ _ rfl (HOW6.out.alloc _) ⟨W6.heap.size,0,none⟩ 1 1 [.string qa,.string qb,.int .i64 qp,.int .i64 qq] rfl rfl ?c1 ?c2 ?c3 ?c4 ?c5 ?_)
     case c1 =>
      intro j u hj
      match j,hj with
      | 0,hj | 1,hj | 2,hj | 3,hj => simp at hj; subst hj; simp [Addr.add]
     case c2 => intro u hu; simp at hu; rcases hu with rfl | rfl | rfl | rfl <;> rfl
     case c3 => unfold maxLen; omega
     case c4 => omega
     case c5 => simp; omega
     intro v' w7 hown' hgrow _
     have HB7:=Lib.hid (show Below w2.heap.size w2 w7 from Below.grown (HBL6.out.alloc hlt6 _) hgrow (by simp; omega) (fun k hk => (HOW6.out.lt k hk).1))
     have HO7:=Lib.hid (show w7.ownsRow w2.heap.size 152 4 v' (acc ++ [r]).length (raCs (acc ++ [r])) by
      rw [raCs_snoc,hrc,List.length_append,List.length_singleton]
      exact hown')
     clear hgrow hown' x0 x1 x2 x3
     go_wp2
     go_roundw
     case rel => exact ⟨m + 1,acc ++ [r],by omega,by go_num,HO7.out,HB7.out,HT1.out,by rw [List.length_append,List.length_singleton]; omega⟩
     case measure => simp [intOf]; omega
  ·have hmN : m = N:=by omega
   have HF:=Lib.hid (show o = some acc by
    rw [HO.out,HRD.out,List.drop_of_length_le (by rw [HN.out]; omega)]; rfl)
   have hI : ¬ ((m : Int) < (N : Int)):=by omega
   clear hmN hown hbl hrd
   go_wp2_with fail
   exact bodyPost_ret (v:=.tuple #[u4,.bool true]) (by simp [results,Tryz.results144,go_sem]) rfl ⟨⟨u4,by rw [HF.out]; rfl,fun l h => by rw [HF.out] at h; cases h; exact own_lowW HOW.out (HB2.out.size)⟩,HB2.out.trans (HBL.out.mono HB2.out.size)⟩
theorem rf_parse12 (s : ByteArray) (w : World) (hs : s.size ≤ 90000) :
  Calls Tryz.prog 116 #[.string s] w fun e w' => RdO (Ap.parse s.data.toList) w.heap.size e w' ∧ Below w.heap.size w w':=by
 have KA:=Lib.hid (rf_all12 s w hs)
 obtain ⟨o,ho⟩ : ∃ z,Ap.parse s.data.toList = z:=⟨_,rfl⟩
 rw [ho] at KA ⊢
 clear ho
 go_enter Tryz.func116,Tryz.ntmps116
 go_wp2_with fail
 refine KA.out.mono ?_
 rintro e w1 ⟨⟨v,rfl,hv⟩,hb⟩
 have HV:=Lib.hid hv
 have HB:=Lib.hid hb
 clear hv hb
 cases o with
 | none =>
  simp only [Option.isSome_none]
  go_wp2_with fail
  exact bodyPost_ret (v:=.tuple #[.slice none 0 0,.int .i64 220]) (by simp [results,Tryz.results116,go_sem]) rfl ⟨⟨_,rfl⟩,HB.out⟩
 | some l =>
  simp only [Option.isSome_some]
  go_wp2_with fail
  exact bodyPost_ret (v:=.tuple #[v,.int .i64 0]) (by simp [results,Tryz.results116,go_sem]) rfl ⟨⟨_,rfl,HV.out l rfl⟩,HB.out⟩
end Go.Proofs.YtfacmnooklljnaaGreatDoor
namespace Go.Proofs.YtfacmnooklljnaaGreatDoor
open Go.RowKit Go.Shelf
attribute [local go_sem] Oper.semAt_some
set_option maxHeartbeats 8000000
set_option maxRecDepth 100000
theorem rf_Quality (s k u : ByteArray) (w : World) (hs : s.size ≤ 90000) :
  Calls Tryz.prog 83 #[.string s,.string k,.string u] w fun e w' => e = .returned (quV (Ap.qual s.data.toList k.toList u.toList)) ∧ Below w.heap.size w w':=by
 obtain ⟨o,ho⟩ : ∃ y,Ap.parse s.data.toList = y:=⟨_,rfl⟩
 have hqu : Ap.qual s.data.toList k.toList u.toList = o.map fun l => if l = [] then 1000 else obQ (Ap.best (fun r => Ap.fits r k.toList u.toList) l).1:=by rw [← ho]; rfl
 rw [hqu]
 have hsl : s.data.toList.length = s.size:=rfl
 have hok : ∀ l,o = some l → l.length ≤ 1000000:=fun l hl => by
  have h:=Ap.parse_ok (ho.trans hl)
  omega
 have KP:=Lib.hid (by
  have h:=rf_parse12 s w hs
  rw [ho] at h
  exact h)
 have HF:=Lib.hid (fun r W => rf_Fits r k u W)
 obtain ⟨f,hf⟩ : ∃ f : Ap.Ra → Int,(fun r => Ap.fits r k.toList u.toList) = f:=⟨_,rfl⟩
 have hfr : ∀ r,Ap.fits r k.toList u.toList = f r:=fun r => congrFun hf r
 simp only [hfr] at HF
 rw [show (fun l => if l = [] then (1000 : Int) else obQ (Ap.best (fun r => Ap.fits r k.toList u.toList) l).1) = (fun l => if l = [] then (1000 : Int) else obQ (Ap.best f l).1) by rw [hf]]
 have HOK:=Lib.hid hok
 clear hqu hok ho hf hfr hsl
 go_enter Tryz.func83,Tryz.ntmps83
 go_wp2_with fail
 refine KP.out.mono ?_
 rintro e w2 ⟨hpo,hb2⟩
 have HB2:=Lib.hid hb2
 cases o with
 | none =>
  obtain ⟨v,rfl⟩:=hpo
  clear hb2
  go_wp2_with fail
  exact bodyPost_ret (v:=.tuple #[.int .i64 0,.int .i64 220]) (by simp [results,Tryz.results83,go_sem]) rfl ⟨rfl,HB2.out⟩
 | some l =>
  obtain ⟨v,rfl,hown⟩:=hpo
  have hin : Rin raC 4 ra0 w2 v l:=Rin.of_own raC_len (by decide) hown
  obtain ⟨p,c,rfl⟩:=hin.slice
  have h2:=HOK.out l rfl
  have HIN:=Lib.hid hin
  clear hb2 hown hin
  by_cases hl0 : l.length = 0
  ·obtain rfl : l = []:=List.eq_nil_of_length_eq_zero hl0
   clear hl0 h2
   go_wp2_with fail
   exact bodyPost_ret (v:=.tuple #[.int .i64 1000,.int .i64 0]) (by simp [results,Tryz.results83,go_sem]) rfl ⟨by simp [quV],HB2.out⟩
  ·have hI : (((l.length : Nat) : Int) == 0) = false:=beq_eq_false_iff_ne.2 (by omega)
   have hne : l ≠ []:=fun h => hl0 (by rw [h]; rfl)
   have HNE:=Lib.hid hne
   obtain ⟨N,hN⟩ : ∃ z,l.length = z:=⟨_,rfl⟩
   rw [hN] at hl0 h2 hI ⊢
   have HN:=Lib.hid hN
   clear hN hne
   go_wp2_with fail
   go_loopw [10,11,12] (fun b q i wr => ∃ (j : Nat) (ob : Option Ap.Ra) (y : Int),j ≤ N ∧ i = .int .i64 j ∧ b = .int .i64 y ∧ q = .int .i64 (obQ ob) ∧ Ap.best f (l.take j) = (ob,y) ∧ Below w2.heap.size w2 wr) (fun _ _ i _ => N - (intOf i).toNat)
   case atStart => exact ⟨0,none,0,Nat.zero_le _,rfl,rfl,rfl,rfl,Below.refl _ _⟩
   case round =>
    obtain ⟨m,ob,y,hm,rfl,rfl,rfl,hst,hbl⟩:=hrel
    have HBL:=Lib.hid hbl
    by_cases hlt : m < N
    ·have hI2 : (m : Int) < (N : Int):=by omega
     obtain ⟨g,oo,c',hsl,hx⟩:=(HIN.out.below hbl).at (j:=m) (by rw [HN.out]; exact hlt)
     obtain ⟨rfl,rfl⟩ : p = some ⟨g,oo,none⟩ ∧ c = c':=by
      simp only [Value.slice.injEq] at hsl
      exact ⟨hsl.1,hsl.2.2⟩
     obtain ⟨r,hr⟩ : ∃ x,l.getD m ra0 = x:=⟨_,rfl⟩
     have htk : l.take (m + 1) = l.take m ++ [l.getD m ra0]:=by
      rw [List.take_add_one,List.getD_eq_getElem?_getD,List.getElem?_eq_getElem (by rw [HN.out]; exact hlt)]; rfl
     rw [hr] at hx htk
     have hnx : Ap.best f (l.take (m + 1)) = if y < f r then (some r,f r) else (ob,y):=by
      rw [htk]
      have : Ap.best f (l.take m ++ [r]) = Ap.best1 f (Ap.best f (l.take m)) r:=by unfold Ap.best; rw [List.foldl_append]; rfl
      rw [this,hst]; rfl
     have x0:=hx 0 _ rfl
     have x1:=hx 1 _ rfl
     have x2:=hx 2 _ rfl
     have x3:=hx 3 _ rfl
     rw [Nat.add_zero] at x0
     have KQ:=HF.out r wr
     obtain ⟨z,hz⟩ : ∃ z,f r = z:=⟨_,rfl⟩
     rw [hz] at hnx KQ
     unfold tx at x0 x1
     unfold raV tx at KQ
     obtain ⟨xb,hxb⟩ : ∃ y : ByteArray,(⟨r.1.toArray⟩ : ByteArray) = y:=⟨_,rfl⟩
     obtain ⟨yb,hyb⟩ : ∃ y : ByteArray,(⟨r.2.1.toArray⟩ : ByteArray) = y:=⟨_,rfl⟩
     obtain ⟨pp,hpp⟩ : ∃ y : Int,(r.2.2.1 : Int) = y:=⟨_,rfl⟩
     obtain ⟨qq,hqq⟩ : ∃ y : Int,r.2.2.2 = y:=⟨_,rfl⟩
     have hob : obQ (some r) = qq:=hqq
     rw [hxb] at x0 KQ
     rw [hyb] at x1 KQ
     rw [hpp] at x2 KQ
     rw [hqq] at x3 KQ
     have KQH:=Lib.hid KQ
     have HNX:=Lib.hid hnx
     have HOB:=Lib.hid hob
     clear hnx hz hx htk hr hsl hst hbl KQ hxb hyb hpp hqq hob
     go_wp2_with fail
     refine KQH.out.mono ?_
     rintro e w5 ⟨rfl,hb5⟩
     have HB5:=Lib.hid (HBL.out.trans (hb5.mono HBL.out.size))
     have x3':=cell_below hb5 x3
     clear hb5 x0 x1 x2 x3
     by_cases hy : y < z
     ·have HNY:=Lib.hid (show Ap.best f (l.take (m + 1)) = (some r,z) by rw [HNX.out,if_pos hy])
      rw [← HOB.out] at x3'
      go_upto_region 12 with (fail)
      go_quiet (fail)
      go_wp2_with fail
      go_roundw
      case rel => exact ⟨m + 1,some r,z,by omega,by go_num,rfl,rfl,HNY.out,HB5.out.trans ⟨rfl,rfl,rfl,Nat.le_refl _,fun _ _ => rfl⟩⟩
      case measure => simp [intOf]; omega
     ·have HNY:=Lib.hid (show Ap.best f (l.take (m + 1)) = (ob,y) by rw [HNX.out,if_neg hy])
      go_wp2_with fail
      go_roundw
      case rel => exact ⟨m + 1,ob,y,by omega,by go_num,rfl,rfl,HNY.out,HB5.out⟩
      case measure => simp [intOf]; omega
    ·have hmN : m = N:=by omega
     have hI2 : ¬ ((m : Int) < (N : Int)):=by omega
     have HE:=Lib.hid (show Ap.best f l = (ob,y) by rw [← hst,List.take_of_length_le (by rw [HN.out]; omega)])
     clear hst hbl
     go_wp2_with fail
     exact bodyPost_ret (v:=.tuple #[.int .i64 (obQ ob),.int .i64 0]) (by simp [results,Tryz.results83,go_sem]) rfl ⟨by
      rw [HE.out]
      rfl,HB2.out.trans (HBL.out.mono HB2.out.size)⟩
end Go.Proofs.YtfacmnooklljnaaGreatDoor
namespace Go.Proofs.YtfacmnooklljnaaGreatDoor
open Go.RowKit Go.Shelf
set_option maxHeartbeats 4000000
set_option maxRecDepth 100000
theorem rf_words13 (s : ByteArray) (w : World) (hs : s.size ≤ 100000) :
  Calls Tryz.prog 85 #[.string s] w fun e w' => ∃ r,e = .returned r ∧ w'.ownsRow w.heap.size 9 1 r (Gs.parts 32 [] s.data.toList).length ((Gs.parts 32 [] s.data.toList).map tx) ∧ Below w.heap.size w w':=by
 obtain ⟨i0,hi,hz0,hz1,hz2⟩:=info_parts (show (Tryz.prog.info? 9).map (fun i => (i.zero,i.size,i.bytes)) = some (some (.string ByteArray.empty),1,16) by kernel_rfl)
 obtain ⟨B,hB⟩ : ∃ B,w.heap.size = B:=⟨_,rfl⟩
 rw [hB]
 have HL:=Lib.hid (show s.data.toList.length = s.size from rfl)
 have HSL:=Lib.hid (fun a k h1 h2 W => slice_mid s W a k h1 h2 (by omega))
 obtain ⟨z,hz⟩ : ∃ z : UInt8,(32 : UInt8) = z:=⟨_,rfl⟩
 have HZ:=Lib.hid hz
 rw [hz]
 obtain ⟨y,hy⟩ : ∃ y : Int,(z.toNat : Int) = y:=⟨_,rfl⟩
 have HY:=Lib.hid hy
 have hyc : y = 32:=by rw [← hy,← hz]; rfl
 clear hy hz
 subst hyc
 go_enter Tryz.func85,Tryz.ntmps85
 go_wp2_with fail
 go_loopw [3,4,5] (fun v f i wr => ∃ (k a : Nat) (L : List (List UInt8)),k ≤ s.size + 1 ∧ i = .int .i64 k ∧ f = .int .i64 a ∧ Gs.SAt z s.data.toList L a k ∧ wr.ownsRow B 9 1 v L.length (L.map tx) ∧ Below B w wr) (fun _ _ i _ => s.size + 1 - (intOf i).toNat)
 case atStart => exact ⟨0,0,[],Nat.zero_le _,rfl,rfl,Gs.sAt_start _ _,World.ownsRow_nil _ _ _ _,Below.refl _ _⟩
 case round =>
  obtain ⟨k,a,L,hk,rfl,rfl,hat,hown,hb⟩:=hrel
  have HA:=Lib.hid hat
  have HO:=Lib.hid hown
  have HB:=Lib.hid hb
  clear hat hown hb
  by_cases hle : k ≤ s.size
  ·have ha : a ≤ k:=Gs.sAt_ha HA.out (by rw [HL.out]; exact hle)
   have hsl:=HSL.out a k ha hle
   obtain ⟨q,hq⟩ : ∃ q,s.extract a k = q:=⟨_,rfl⟩
   have hqd : (s.data.toList.drop a).take (k - a) = q.data.toList:=by rw [← hq,Lib.extract_data]
   rw [hq] at hsl
   have HTQ:=Lib.hid (show tx q.data.toList = .string q by unfold tx; rfl)
   have HQD:=Lib.hid hqd
   clear hqd hq
   by_cases hcut : ∀ h : k < s.size,s[k]'h = z
   ·have HM0:=Lib.hid (Gs.sAt_cut HA.out (by rw [HL.out]; exact hle) (fun hh => hcut hh))
    rw [HQD.out] at HM0
    by_cases hlt : k < s.size
    ·have hsx : ((s[k]'hlt).toNat : Int) = 32:=by rw [hcut hlt]; exact HY.out
     have hkn : ((k : Int) == (s.size : Int)) = false:=beq_eq_false_iff_ne.2 (by omega)
     clear hcut
     go_wp2_with (first
      | (at_builtin; refine wpList_append_own _ rfl _ _ 33 rfl B 9 i0 (.string ByteArray.empty) 1 16 Tryz.underlying33 hi hz0 hz1 hz2 rfl (by decide) _ _ _ rfl (HO.out.alloc _) ⟨wr.heap.size,0,none⟩ 1 1 [.string q] rfl rfl ?c1 ?c2 ?c3 ?c4 ?c5 ?_)
      | simp only [hsl])
     case c1 =>
      intro j u hj
      match j,hj with
      | 0,hj => simp at hj; subst hj; simp [Addr.add]
     case c2 => intro u hu; simp at hu; subst hu; rfl
     case c3 => have:=HA.out.1; unfold maxLen; omega
     case c4 => have:=HA.out.1; omega
     case c5 => have:=HB.out.size; simp; omega
     intro v' w1 hown' hgrow _
     have hb1 : Below B w w1:=Below.grown (HB.out.alloc (by have:=HB.out.size; omega) _) hgrow (by have:=HB.out.size; simp; omega) (own_ge HO.out)
     have HB1:=Lib.hid hb1
     have ho : w1.ownsRow B 9 1 v' (L ++ [q.data.toList]).length ((L ++ [q.data.toList]).map tx):=by
      rw [List.map_append,List.length_append]
      show w1.ownsRow B 9 1 v' _ (_ ++ [tx q.data.toList])
      rw [HTQ.out]
      exact hown'
     have HO1:=Lib.hid ho
     clear ho hb1 hgrow hown'
     go_wp2
     go_roundw
     case rel => exact ⟨k + 1,k + 1,L ++ [q.data.toList],by omega,by go_num,by go_num,HM0.out,HO1.out,HB1.out⟩
     case measure => simp [intOf]; omega
    ·have hke : k = s.size:=by omega
     have hkn : ((k : Int) == (s.size : Int)) = true:=beq_iff_eq.2 (by omega)
     clear hcut hke hlt
     go_wp2_with (first
      | (at_builtin; refine wpList_append_own _ rfl _ _ 33 rfl B 9 i0 (.string ByteArray.empty) 1 16 Tryz.underlying33 hi hz0 hz1 hz2 rfl (by decide) _ _ _ rfl (HO.out.alloc _) ⟨wr.heap.size,0,none⟩ 1 1 [.string q] rfl rfl ?c1 ?c2 ?c3 ?c4 ?c5 ?_)
      | simp only [hsl])
     case c1 =>
      intro j u hj
      match j,hj with
      | 0,hj => simp at hj; subst hj; simp [Addr.add]
     case c2 => intro u hu; simp at hu; subst hu; rfl
     case c3 => have:=HA.out.1; unfold maxLen; omega
     case c4 => have:=HA.out.1; omega
     case c5 => have:=HB.out.size; simp; omega
     intro v' w1 hown' hgrow _
     have hb1 : Below B w w1:=Below.grown (HB.out.alloc (by have:=HB.out.size; omega) _) hgrow (by have:=HB.out.size; simp; omega) (own_ge HO.out)
     have HB1:=Lib.hid hb1
     have ho : w1.ownsRow B 9 1 v' (L ++ [q.data.toList]).length ((L ++ [q.data.toList]).map tx):=by
      rw [List.map_append,List.length_append]
      show w1.ownsRow B 9 1 v' _ (_ ++ [tx q.data.toList])
      rw [HTQ.out]
      exact hown'
     have HO1:=Lib.hid ho
     clear ho hb1 hgrow hown'
     go_wp2
     go_roundw
     case rel => exact ⟨k + 1,k + 1,L ++ [q.data.toList],by omega,by go_num,by go_num,HM0.out,HO1.out,HB1.out⟩
     case measure => simp [intOf]; omega
   ·have hlt : k < s.size:=by
     by_cases h : k < s.size
     ·exact h
     ·exact absurd (fun h' => absurd h' h) hcut
    have hkn : ((k : Int) == (s.size : Int)) = false:=beq_eq_false_iff_ne.2 (fun e => Nat.ne_of_lt hlt (Int.ofNat.inj e))
    have hne : s[k]'hlt ≠ z:=fun e => hcut (fun _ => e)
    have HM:=Lib.hid (Gs.sAt_more HA.out (by rw [HL.out]; exact hlt) hne)
    obtain ⟨x,hx⟩ : ∃ x : Int,((s[k]'hlt).toNat : Int) = x:=⟨_,rfl⟩
    have e1 : (x == 32) = false:=beq_eq_false_iff_ne.2 (fun e => hne (UInt8.toNat_inj.1 (Int.ofNat.inj ((hx.trans e).trans HY.out.symm))))
    clear hcut hne
    go_wp2_with fail
    go_roundw
    case rel => exact ⟨k + 1,a,L,by omega,by go_num,rfl,HM.out,HO.out,HB.out⟩
    case measure => simp [intOf]; omega
  ·have hL : L = Gs.parts z [] s.data.toList:=Gs.sAt_end HA.out (by rw [HL.out]; omega)
   have HL2:=Lib.hid hL
   clear hL
   go_wp2_with fail
   go_ret
   exact ⟨_,rfl,by rw [← HL2.out]; exact HO.out,HB.out⟩
end Go.Proofs.YtfacmnooklljnaaGreatDoor
namespace Go.Proofs.YtfacmnooklljnaaGreatDoor
open Go.RowKit Go.Shelf
attribute [local go_sem] Oper.semAt_some
set_option maxHeartbeats 8000000
set_option maxRecDepth 100000
theorem ba_listD (v : ByteArray) : v.toList = v.data.toList:=by
 obtain ⟨⟨l⟩⟩:=v
 exact ba_list l
theorem Rq.ver8 {L : List UInt8} (h1 : L ≠ Rq.v11) (h2 : L ≠ Rq.v10) (hl : L.length = 8) : Rq.ver L = if (L.take 5 = [72,84,84,80,47]) ∧ ((L.getD 6 0).toNat : Int) = ((46 : UInt8).toNat : Int) ∧ (48 ≤ ((L.getD 5 0).toNat : Int) ∧ ((L.getD 5 0).toNat : Int) ≤ 57) ∧ (48 ≤ ((L.getD 7 0).toNat : Int) ∧ ((L.getD 7 0).toNat : Int) ≤ 57) then 2 else 0:=by
 unfold Rq.ver
 rw [if_neg (fun h => h.elim h1 h2)]
 unfold Ap.fig
 simp only [decide_eq_true_eq,hl,true_and,byte_eq]
theorem rf_version (v : ByteArray) (w : World) (hv : v.size ≤ 1000000) :
  Calls Tryz.prog 81 #[.string v] w fun e w' => e = .returned (.int .i64 (Rq.ver v.data.toList : Int)) ∧ w' = w:=by
 have hE:=ba_listD v
 have hlen : v.data.toList.length = v.size:=rfl
 have HIX:=Lib.hid (fun k h W => index_at v W k h)
 have HSL:=Lib.hid (fun k h W => slice_to v W k h (by omega))
 have g0:=fun k h => getD_byte v k h
 have hex:=Lib.extract_from_zero v 5
 by_cases h1 : v.data.toList = Rq.v11
 ·have e1 : (v.toList == ([72,84,84,80,47,49,46,49] : List UInt8)) = true:=by rw [hE,h1]; rfl
  have HR:=Lib.hid (show Rq.ver v.data.toList = 1 by unfold Rq.ver; rw [if_pos (.inl h1)])
  rw [HR.out]
  clear hE hlen g0 hex h1
  go_enter Tryz.func81,Tryz.ntmps81
  go_wp2_with fail
  go_ret
  exact ⟨rfl,rfl⟩
 have e1 : (v.toList == ([72,84,84,80,47,49,46,49] : List UInt8)) = false:=by rw [hE]; exact beq_eq_false_iff_ne.2 h1
 by_cases h2 : v.data.toList = Rq.v10
 ·have e2 : (v.toList == ([72,84,84,80,47,49,46,48] : List UInt8)) = true:=by rw [hE,h2]; rfl
  have HR:=Lib.hid (show Rq.ver v.data.toList = 1 by unfold Rq.ver; rw [if_pos (.inr h2)])
  rw [HR.out]
  clear hE hlen g0 hex h1 h2
  go_enter Tryz.func81,Tryz.ntmps81
  go_wp2_with fail
  go_ret
  exact ⟨rfl,rfl⟩
 have e2 : (v.toList == ([72,84,84,80,47,49,46,48] : List UInt8)) = false:=by rw [hE]; exact beq_eq_false_iff_ne.2 h2
 by_cases h8 : v.size = 8
 rotate_left
 ·have e3 : ((v.size : Int) == 8) = false:=beq_eq_false_iff_ne.2 (by omega)
  have e4 : ((v.size : Int) != 8) = true:=by simp; omega
  have HR:=Lib.hid (show Rq.ver v.data.toList = 0 by
   unfold Rq.ver
   rw [if_neg (fun h => h.elim h1 h2),if_neg (fun h => by have:=h.2.1; omega)])
  rw [HR.out]
  clear hE hlen g0 hex h1 h2 h8
  go_enter Tryz.func81,Tryz.ntmps81
  go_wp2_with fail
  go_ret
  exact ⟨rfl,rfl⟩
 have hsz : (v.size : Int) = 8:=by omega
 have hV8:=Rq.ver8 h1 h2 (hlen.trans h8)
 rw [g0 5 (by omega),g0 6 (by omega),g0 7 (by omega)] at hV8
 have i5 : ∀ W,(Instr.index 9 (.string v) (.int .i64 5)).run Tryz.prog W = .ok (.int .u8 ((v[5]'(by omega)).toNat : Int)) W:=fun W => HIX.out 5 (by omega) W
 have i6 : ∀ W,(Instr.index 9 (.string v) (.int .i64 6)).run Tryz.prog W = .ok (.int .u8 ((v[6]'(by omega)).toNat : Int)) W:=fun W => HIX.out 6 (by omega) W
 have i7 : ∀ W,(Instr.index 9 (.string v) (.int .i64 7)).run Tryz.prog W = .ok (.int .u8 ((v[7]'(by omega)).toNat : Int)) W:=fun W => HIX.out 7 (by omega) W
 have sl : ∀ W,(Instr.slice 9 (.string v) none (some (.int .i64 5)) none).run Tryz.prog W = .ok (.string (v.extract 0 5)) W:=fun W => HSL.out 5 (by omega) W
 obtain ⟨x5,hx5⟩ : ∃ x : Int,((v[5]'(by omega)).toNat : Int) = x:=⟨_,rfl⟩
 obtain ⟨x6,hx6⟩ : ∃ x : Int,((v[6]'(by omega)).toNat : Int) = x:=⟨_,rfl⟩
 obtain ⟨x7,hx7⟩ : ∃ x : Int,((v[7]'(by omega)).toNat : Int) = x:=⟨_,rfl⟩
 obtain ⟨q,hq⟩ : ∃ x : ByteArray,v.extract 0 5 = x:=⟨_,rfl⟩
 rw [hx5,hx6,hx7,show ((46 : UInt8).toNat : Int) = 46 from rfl] at hV8
 simp only [hx5] at i5
 simp only [hx6] at i6
 simp only [hx7] at i7
 simp only [hq] at sl
 have hqt : q.toList = v.data.toList.take 5:=by rw [ba_listD,← hq,hex]
 rw [← hqt] at hV8
 obtain ⟨o,ho⟩ : ∃ z,Rq.ver v.data.toList = z:=⟨_,rfl⟩
 rw [ho] at hV8 ⊢
 have HV:=Lib.hid hV8
 clear hE hlen g0 hex h1 h2 h8 hV8 hx5 hx6 hx7 hq hqt ho
 by_cases hp : q.toList = [72,84,84,80,47]
 rotate_left
 ·have e3 : (q.toList == ([72,84,84,80,47] : List UInt8)) = false:=by simpa using hp
  have e4 : (q.toList != ([72,84,84,80,47] : List UInt8)) = true:=by simpa using hp
  have HR:=Lib.hid (show o = 0 by rw [HV.out,if_neg (fun h => hp h.1)])
  rw [HR.out]
  clear hp
  go_enter Tryz.func81,Tryz.ntmps81
  go_wp2_with (simp only [sl])
  go_ret
  exact ⟨rfl,rfl⟩
 have e3 : (q.toList == ([72,84,84,80,47] : List UInt8)) = true:=by rw [hp]; rfl
 have e4 : (q.toList != ([72,84,84,80,47] : List UInt8)) = false:=by rw [hp]; rfl
 by_cases h46 : x6 = 46
 rotate_left
 ·have e5 : (x6 == 46) = false:=by simpa using h46
  have e6 : (x6 != 46) = true:=by simpa using h46
  have HR:=Lib.hid (show o = 0 by rw [HV.out,if_neg (fun h => h46 h.2.1)])
  rw [HR.out]
  clear hp h46
  go_enter Tryz.func81,Tryz.ntmps81
  go_wp2_with (first | simp only [sl] | simp only [i6])
  go_ret
  exact ⟨rfl,rfl⟩
 subst h46
 have HP:=Lib.hid hp
 clear hp
 by_cases a1 : x5 < 48
 ·have HR:=Lib.hid (show o = 0 by rw [HV.out,if_neg (fun h => by omega)])
  rw [HR.out]
  go_enter Tryz.func81,Tryz.ntmps81
  go_wp2_with (first | simp only [sl] | simp only [i6] | simp only [i5])
  go_ret
  exact ⟨rfl,rfl⟩
 by_cases a2 : 57 < x5
 ·have HR:=Lib.hid (show o = 0 by rw [HV.out,if_neg (fun h => by omega)])
  rw [HR.out]
  go_enter Tryz.func81,Tryz.ntmps81
  go_wp2_with (first | simp only [sl] | simp only [i6] | simp only [i5])
  go_ret
  exact ⟨rfl,rfl⟩
 by_cases a3 : x7 < 48
 ·have HR:=Lib.hid (show o = 0 by rw [HV.out,if_neg (fun h => by omega)])
  rw [HR.out]
  go_enter Tryz.func81,Tryz.ntmps81
  go_wp2_with (first | simp only [sl] | simp only [i6] | simp only [i5] | simp only [i7])
  go_ret
  exact ⟨rfl,rfl⟩
 by_cases a4 : 57 < x7
 ·have HR:=Lib.hid (show o = 0 by rw [HV.out,if_neg (fun h => by omega)])
  rw [HR.out]
  go_enter Tryz.func81,Tryz.ntmps81
  go_wp2_with (first | simp only [sl] | simp only [i6] | simp only [i5] | simp only [i7])
  go_ret
  exact ⟨rfl,rfl⟩
 have HR:=Lib.hid (show o = 2 by rw [HV.out,if_pos ⟨HP.out,rfl,by omega,by omega⟩])
 rw [HR.out]
 go_enter Tryz.func81,Tryz.ntmps81
 go_wp2_with (first | simp only [sl] | simp only [i6] | simp only [i5] | simp only [i7])
 go_ret
 exact ⟨rfl,rfl⟩
end Go.Proofs.YtfacmnooklljnaaGreatDoor
namespace Go.Proofs.YtfacmnooklljnaaGreatDoor
open Go.RowKit Go.Shelf
attribute [local go_sem] Oper.semAt_some
set_option maxHeartbeats 8000000
set_option maxRecDepth 100000
def LiW (w : World) (o : Option (List UInt8 × Rq.Tg × List UInt8)) (e : Ending) : Prop:=∃ (a b : ByteArray) (p : Option Addr) (n c : Nat) (q : Option Addr) (k d : Nat),e = .returned (.tuple #[.string a,.agg #[.slice p n c,.slice q k d],.string b,.bool o.isSome]) ∧ ∀ m g v,o = some (m,g,v) → a.data.toList = m ∧ b.data.toList = v ∧ TS w (.slice p n c) g.1
def tgC (p : Option Addr) (n c : Nat) (q : Option Addr) (k d : Nat) : Obj:=.cells #[.slice p n c,.slice q k d] 36 (0,0)
theorem tgC_cells {w : World} {D : Nat} {p : Option Addr} {n c : Nat} {q : Option Addr} {k d : Nat} (h : w.heap[D]? = some (tgC p n c q k d)) : w.cell? ⟨D,0,none⟩ = some (.slice p n c) ∧ w.cell? ⟨D,1,none⟩ = some (.slice q k d) ∧ w.frozen? ⟨D,0,none⟩ = false ∧ w.frozen? ⟨D,1,none⟩ = false:=by
 unfold tgC at h
 refine ⟨?_,?_,frozen_of_row _ _ _ _ _ h,frozen_of_row _ _ _ _ _ h⟩ <;> simp [World.cell?,h]
theorem tgC_put {w : World} {D : Nat} {p : Option Addr} {n c : Nat} {q : Option Addr} {k d : Nat} (h : w.heap[D]? = some (tgC p n c q k d)) (p' : Option Addr) (n' c' : Nat) (q' : Option Addr) (k' d' : Nat) : ((w.setCell ⟨D,0,none⟩ (.slice p' n' c')).setCell ⟨D,1,none⟩ (.slice q' k' d')).heap[D]? = some (tgC p' n' c' q' k' d'):=by
 unfold tgC at h ⊢
 have h0:=heap_setCell_same w D 0 _ _ (.slice p' n' c') h
 have h1:=heap_setCell_same _ D 1 _ _ (.slice q' k' d') h0
 rw [h1]
 simp
theorem rf_line (F : ByteArray) (w : World) (hF : F.size ≤ 90000) :
  Calls Tryz.prog 38 #[.string F] w fun e w' => LiW w' (Rq.line F.data.toList) e ∧ Below w.heap.size w w':=by
 obtain ⟨B,hB⟩ : ∃ z,w.heap.size = z:=⟨_,rfl⟩
 obtain ⟨W1,hW1⟩ : ∃ z,w.alloc (.cells #[.slice none 0 0,.slice none 0 0] 36) = z:=⟨_,rfl⟩
 have hb1 : Below w.heap.size w W1:=by rw [← hW1]; exact (Below.refl _ _).alloc (Nat.le_refl _) _
 have hz1 : W1.heap.size = B + 1:=by rw [← hW1,← hB]; simp
 have hR1 : W1.heap[B]? = some (tgC none 0 0 none 0 0):=by rw [← hW1,← hB]; exact World.alloc_heap_new _ _
 have KW:=Lib.hid (rf_words13 F W1 (by omega))
 obtain ⟨o,ho⟩ : ∃ z,Rq.line F.data.toList = z:=⟨_,rfl⟩
 have hln : o = Rq.line3 (Gs.parts 32 [] F.data.toList):=by rw [← ho]; rfl
 have hDs:=fun x hx => Gs.parts_len 32 F.data.toList [] x hx
 rw [ho]
 obtain ⟨L,hL⟩ : ∃ z,Gs.parts 32 [] F.data.toList = z:=⟨_,rfl⟩
 rw [hL] at KW hln
 simp only [hL] at hDs
 have hsz : F.data.toList.length = F.size:=rfl
 have hml : ∀ x ∈ L,x.length ≤ 90000:=fun x hx => by have:=hDs x hx; simp only [List.length_nil] at this; omega
 have HML:=Lib.hid hml
 have HLN:=Lib.hid hln
 have HB:=Lib.hid hB
 have HB1:=Lib.hid hb1
 have HZ1:=Lib.hid hz1
 have HR1:=Lib.hid hR1
 have HW1:=Lib.hid hW1
 clear ho hln hDs hL hsz hml hB hb1 hz1 hR1 hW1
 go_enter Tryz.func38,Tryz.ntmps38
 go_wp2_with fail
 rw [HW1.out,HB.out]
 refine KW.out.mono ?_
 rintro e w2 ⟨r,rfl,hrow,hb2⟩
 have HB2:=Lib.hid (HB1.out.trans (hb2.mono HB1.out.size))
 have HR2:=Lib.hid ((hb2.block _ (by rw [HZ1.out]; omega)).trans HR1.out)
 clear hb2
 by_cases h3 : L.length = 3
 rotate_left
 ·obtain ⟨p,c,rfl,_⟩:=strRow_own hrow
  have HO:=Lib.hid (show o = none by rw [HLN.out]; exact Rq.line3_len h3)
  have e3 : ((L.length : Int) == 3) = false:=beq_eq_false_iff_ne.2 (by omega)
  have e4 : ((L.length : Int) != 3) = true:=by simp; omega
  obtain ⟨N,hN⟩ : ∃ z,L.length = z:=⟨_,rfl⟩
  rw [hN] at e3 e4 ⊢
  clear hrow h3 hN
  obtain ⟨k0,k1,z0,z1⟩:=tgC_cells HR2.out
  go_wp2_with fail
  have hX:=tgC_put HR2.out none 0 0 none 0 0
  have hbX:=(HB2.out.setCell (p:=⟨B,0,none⟩) (by have:=HB.out; show w.heap.size ≤ B; omega) (.slice none 0 0)).setCell (p:=⟨B,1,none⟩) (by have:=HB.out; show w.heap.size ≤ B; omega) (.slice none 0 0)
  obtain ⟨X,hXX⟩ : ∃ X,(w2.setCell ⟨B,0,none⟩ (.slice none 0 0)).setCell ⟨B,1,none⟩ (.slice none 0 0) = X:=⟨_,rfl⟩
  rw [hXX] at hX hbX ⊢
  obtain ⟨u0,u1,_,_⟩:=tgC_cells hX
  clear hXX hX k0 k1 z0 z1
  exact bodyPost_ret (v:=.tuple #[.string ⟨#[]⟩,.agg #[.slice none 0 0,.slice none 0 0],.string ⟨#[]⟩,.bool false]) (by simp [results,Tryz.results38,go_sem,u0,u1]) rfl ⟨⟨⟨#[]⟩,⟨#[]⟩,none,0,0,none,0,0,by rw [HO.out]; rfl,fun m' g' v' h => by rw [HO.out] at h; cases h⟩,hbX⟩
 obtain ⟨g,c,rfl⟩:=Go.Joins.ownsRow_form hrow (by omega)
 have hgB : B + 1 ≤ g ∧ g < w2.heap.size:=by
  have:=hrow.lt g rfl
  rw [HZ1.out] at this; exact this
 match L,h3,HML with
 | [m,t,v],_,HML =>
 have x0 : w2.cell? ⟨g,0,none⟩ = some (tx m):=hrow.cellAt 0 (by simp)
 have x1 : w2.cell? ⟨g,1,none⟩ = some (tx t):=hrow.cellAt 1 (by simp)
 have x2 : w2.cell? ⟨g,2,none⟩ = some (tx v):=hrow.cellAt 2 (by simp)
 have m0:=HML.out m (by simp)
 have m1:=HML.out t (by simp)
 have m2:=HML.out v (by simp)
 have hlo : o = Rq.line3 [m,t,v]:=HLN.out
 unfold tx at x0 x1 x2
 obtain ⟨mb,hmb⟩ : ∃ z : ByteArray,(⟨m.toArray⟩ : ByteArray) = z:=⟨_,rfl⟩
 obtain ⟨tb,htb⟩ : ∃ z : ByteArray,(⟨t.toArray⟩ : ByteArray) = z:=⟨_,rfl⟩
 obtain ⟨vb,hvb⟩ : ∃ z : ByteArray,(⟨v.toArray⟩ : ByteArray) = z:=⟨_,rfl⟩
 rw [hmb] at x0
 rw [htb] at x1
 rw [hvb] at x2
 have dm : mb.data.toList = m:=by rw [← hmb]
 have dt : tb.data.toList = t:=by rw [← htb]
 have dv : vb.data.toList = v:=by rw [← hvb]
 have zm : mb.size ≤ 90000:=by rw [← hmb]; simpa [ByteArray.size] using m0
 have zt : tb.size ≤ 90000:=by rw [← htb]; simpa [ByteArray.size] using m1
 have zv : vb.size ≤ 90000:=by rw [← hvb]; simpa [ByteArray.size] using m2
 have KT:=Lib.hid (fun W => rtk_token mb W (by omega))
 have KV:=Lib.hid (fun W => rf_version vb W (by omega))
 have KP:=Lib.hid (fun W => rparse_any tb W zt)
 rw [dm] at KT
 rw [dv] at KV
 rw [dt] at KP
 obtain ⟨tk,htk⟩ : ∃ z,Tp.isTok m = z:=⟨_,rfl⟩
 obtain ⟨vn,hvn⟩ : ∃ z,Rq.ver v = z:=⟨_,rfl⟩
 obtain ⟨op,hop⟩ : ∃ z,Gt.parse t = z:=⟨_,rfl⟩
 rw [htk] at KT
 rw [hvn] at KV
 rw [hop] at KP
 have HLO:=Lib.hid hlo
 have HTK:=Lib.hid htk
 have HVN:=Lib.hid hvn
 have HOP:=Lib.hid hop
 have HDM:=Lib.hid dm
 have HDV:=Lib.hid dv
 have HGB:=Lib.hid hgB
 clear hmb htb hvb dm dt dv m0 m1 m2 hlo htk hvn hop hrow HLN HML hgB
 simp only [List.length_cons,List.length_nil,Nat.reduceAdd]
 cases tk with
 | false =>
  have HO:=Lib.hid (show o = none by rw [HLO.out]; exact Rq.line3_tok HTK.out)
  go_wp2_with fail
  refine (KT.out _).mono ?_
  rintro e w3 ⟨rfl,hw3⟩
  subst w3
  obtain ⟨k0,k1,z0,z1⟩:=tgC_cells HR2.out
  go_wp2_with fail
  have hX:=tgC_put HR2.out none 0 0 none 0 0
  have hbX:=(HB2.out.setCell (p:=⟨B,0,none⟩) (by have:=HB.out; show w.heap.size ≤ B; omega) (.slice none 0 0)).setCell (p:=⟨B,1,none⟩) (by have:=HB.out; show w.heap.size ≤ B; omega) (.slice none 0 0)
  obtain ⟨X,hXX⟩ : ∃ X,(w2.setCell ⟨B,0,none⟩ (.slice none 0 0)).setCell ⟨B,1,none⟩ (.slice none 0 0) = X:=⟨_,rfl⟩
  rw [hXX] at hX hbX ⊢
  obtain ⟨u0,u1,_,_⟩:=tgC_cells hX
  clear hXX hX k0 k1 z0 z1
  exact bodyPost_ret (v:=.tuple #[.string ⟨#[]⟩,.agg #[.slice none 0 0,.slice none 0 0],.string ⟨#[]⟩,.bool false]) (by simp [results,Tryz.results38,go_sem,u0,u1]) rfl ⟨⟨⟨#[]⟩,⟨#[]⟩,none,0,0,none,0,0,by rw [HO.out]; rfl,fun m' g' v' h => by rw [HO.out] at h; cases h⟩,hbX⟩
 | true =>
 by_cases hv0 : vn = 0
 ·have HO:=Lib.hid (show o = none by rw [HLO.out]; exact Rq.line3_ver (HVN.out.trans hv0))
  subst hv0
  go_wp2_with fail
  refine (KT.out _).mono ?_
  rintro e w3 ⟨rfl,hw3⟩
  subst w3
  go_wp2_with fail
  refine (KV.out _).mono ?_
  rintro e w4 ⟨rfl,hw4⟩
  subst w4
  obtain ⟨k0,k1,z0,z1⟩:=tgC_cells HR2.out
  go_wp2_with fail
  have hX:=tgC_put HR2.out none 0 0 none 0 0
  have hbX:=(HB2.out.setCell (p:=⟨B,0,none⟩) (by have:=HB.out; show w.heap.size ≤ B; omega) (.slice none 0 0)).setCell (p:=⟨B,1,none⟩) (by have:=HB.out; show w.heap.size ≤ B; omega) (.slice none 0 0)
  obtain ⟨X,hXX⟩ : ∃ X,(w2.setCell ⟨B,0,none⟩ (.slice none 0 0)).setCell ⟨B,1,none⟩ (.slice none 0 0) = X:=⟨_,rfl⟩
  rw [hXX] at hX hbX ⊢
  obtain ⟨u0,u1,_,_⟩:=tgC_cells hX
  clear hXX hX k0 k1 z0 z1
  exact bodyPost_ret (v:=.tuple #[.string ⟨#[]⟩,.agg #[.slice none 0 0,.slice none 0 0],.string ⟨#[]⟩,.bool false]) (by simp [results,Tryz.results38,go_sem,u0,u1]) rfl ⟨⟨⟨#[]⟩,⟨#[]⟩,none,0,0,none,0,0,by rw [HO.out]; rfl,fun m' g' v' h => by rw [HO.out] at h; cases h⟩,hbX⟩
 have ev : ((vn : Int) == 0) = false:=beq_eq_false_iff_ne.2 (by omega)
 have HV0:=Lib.hid (show Rq.ver v ≠ 0 by rw [HVN.out]; exact hv0)
 clear hv0
 go_wp2_with fail
 refine (KT.out _).mono ?_
 rintro e w3 ⟨rfl,hw3⟩
 subst w3
 go_wp2_with fail
 refine (KV.out _).mono ?_
 rintro e w4 ⟨rfl,hw4⟩
 subst w4
 go_wp2_with fail
 refine (KP.out _).mono ?_
 rintro e w5 ⟨⟨p,cp,q,cq,rfl,hts,_⟩,hb5⟩
 have HB5:=Lib.hid (HB2.out.trans (hb5.mono HB2.out.size))
 have HR5:=Lib.hid ((hb5.block _ (Array.getElem?_eq_some_iff.1 HR2.out).1).trans HR2.out)
 have y0:=cell_below hb5 x0
 have y2:=cell_below hb5 x2
 have HGS:=Lib.hid hb5.size
 have hoi : o.isSome = (Gt.noOf op == 0):=by
  rw [HLO.out]
  cases op with
  | none => rw [Rq.line3_par HOP.out]; rfl
  | some gg => rw [Rq.line3_yes HTK.out HOP.out HV0.out]; rfl
 have hgo : ∀ m' g' v',o = some (m',g',v') → m = m' ∧ v = v' ∧ (Gt.tgOf op).1 = g'.1:=by
  intro m' g' v' h
  rw [HLO.out] at h
  cases op with
  | none => rw [Rq.line3_par HOP.out] at h; cases h
  | some gg =>
   rw [Rq.line3_yes HTK.out HOP.out HV0.out] at h
   cases h
   exact ⟨rfl,rfl,rfl⟩
 obtain ⟨P,hP⟩ : ∃ z,(Gt.tgOf op).1 = z:=⟨_,rfl⟩
 obtain ⟨nq,hnq⟩ : ∃ z,(Gt.tgOf op).2.length = z:=⟨_,rfl⟩
 obtain ⟨no,hno⟩ : ∃ z,Gt.noOf op = z:=⟨_,rfl⟩
 rw [hP] at hts
 simp only [hP] at hgo
 rw [hno] at hoi
 rw [hP,hnq,hno]
 obtain ⟨np,hnp⟩ : ∃ z,P.length = z:=⟨_,rfl⟩
 rw [hnp] at hts ⊢
 have HTS:=Lib.hid hts
 have HOI:=Lib.hid hoi
 have HGO:=Lib.hid hgo
 clear hb5 x0 x1 x2 hts hoi hgo hP hnq hno hnp ev
 go_upto_region 5 with (fail)
 obtain ⟨W6,hW6⟩ : ∃ z,w5.alloc (.cells #[.slice p np cp,.slice q nq cq] 36) = z:=⟨_,rfl⟩
 have hb6 : Below w5.heap.size w5 W6:=by rw [← hW6]; exact (Below.refl _ _).alloc (Nat.le_refl _) _
 have hR6 : W6.heap[w5.heap.size]? = some (tgC p np cp q nq cq):=by rw [← hW6]; exact World.alloc_heap_new _ _
 rw [hW6]
 have HB6:=Lib.hid (HB5.out.trans (hb6.mono HB5.out.size))
 have HR6:=Lib.hid ((hb6.block _ (Array.getElem?_eq_some_iff.1 HR5.out).1).trans HR5.out)
 have HTS6:=Lib.hid (HTS.out.below hb6)
 have s0:=cell_below hb6 y0
 have s2:=cell_below hb6 y2
 obtain ⟨D,hD⟩ : ∃ z,w5.heap.size = z:=⟨_,rfl⟩
 rw [hD] at hR6 ⊢
 obtain ⟨u0,u1,_,_⟩:=tgC_cells hR6
 obtain ⟨v0,v1,z0,z1⟩:=tgC_cells HR6.out
 clear hW6 hb6 hR6 y0 y2 hD
 go_region
 have hX:=tgC_put HR6.out p np cp q nq cq
 have hbX:=(HB6.out.setCell (p:=⟨B,0,none⟩) (by have:=HB.out; show w.heap.size ≤ B; omega) (.slice p np cp)).setCell (p:=⟨B,1,none⟩) (by have:=HB.out; show w.heap.size ≤ B; omega) (.slice q nq cq)
 have hTX : TS ((W6.setCell ⟨B,0,none⟩ (.slice p np cp)).setCell ⟨B,1,none⟩ (.slice q nq cq)) (.slice p np cp) P:=by
  rcases HTS6.out with h | ⟨b,off,cap,h1,h3⟩
  ·exact .inl h
  ·refine .inr ⟨b,off,cap,h1,fun j hj => ?_⟩
   have h4:=h3 j hj
   have hne : b ≠ B:=by
    rintro rfl
    have hb:=HR6.out
    unfold tgC at hb
    unfold tx at h4
    obtain ⟨i,hi⟩ : ∃ i,off + j = i:=⟨_,rfl⟩
    rw [hi] at h4
    match i with
    | 0 => simp [World.cell?,hb] at h4
    | 1 => simp [World.cell?,hb] at h4
    | n + 2 => simp [World.cell?,hb] at h4
   exact (World.cell?_of_block (a:=⟨b,off + j,none⟩) ((Below.heap_setCell _ _ _ _ (by show b ≠ B; exact hne)).trans (Below.heap_setCell _ _ _ _ (by show b ≠ B; exact hne)))).trans h4
 obtain ⟨X,hXX⟩ : ∃ X,(W6.setCell ⟨B,0,none⟩ (.slice p np cp)).setCell ⟨B,1,none⟩ (.slice q nq cq) = X:=⟨_,rfl⟩
 rw [hXX] at hX hbX hTX ⊢
 have k0 : X.drew.cell? ⟨B,0,none⟩ = some (.slice p np cp):=(tgC_cells hX).1
 have k1 : X.drew.cell? ⟨B,1,none⟩ = some (.slice q nq cq):=(tgC_cells hX).2.1
 clear hXX hX u0 u1 v0 v1 z0 z1 s0 s2
 go_wp2_with fail
 exact bodyPost_ret (v:=.tuple #[.string mb,.agg #[.slice p np cp,.slice q nq cq],.string vb,.bool (no == 0)]) (by simp [results,Tryz.results38,go_sem,k0,k1]) rfl ⟨⟨mb,vb,p,np,cp,q,nq,cq,by rw [HOI.out],fun m' g' v' h => by
  obtain ⟨h1,h2,h3⟩:=HGO.out m' g' v' h
  exact ⟨HDM.out.trans h1,HDV.out.trans h2,h3 ▸ hTX.below (Below.refl _ _).drew⟩⟩,hbX.drew⟩
end Go.Proofs.YtfacmnooklljnaaGreatDoor
namespace Go.Proofs.YtfacmnooklljnaaGreatDoor
namespace Ap
theorem best_mem (f : Ra → Int) : ∀ (l : List Ra) (st : Option Ra × Int) (r : Ra),(l.foldl (best1 f) st).1 = some r → st.1 = some r ∨ r ∈ l
 | [],st,r,h => .inl h
 | x :: l,st,r,h => by
  have h1:=best_mem f l (best1 f st x) r h
  rcases h1 with h1 | h1
  ·unfold best1 at h1
   split at h1
   ·cases h1; exact .inr List.mem_cons_self
   ·exact .inl h1
  ·exact .inr (List.mem_cons_of_mem _ h1)
theorem qual_pos {s k u : List UInt8} {q : Int} (h : qual s k u = some q) : 0 ≤ q:=by
 unfold qual at h
 cases hp : parse s with
 | none => rw [hp] at h; cases h
 | some l =>
  rw [hp] at h
  have hq : (if l = [] then (1000 : Int) else match (best (fun r => fits r k u) l).1 with | none => 0 | some r => r.2.2.2) = q:=Option.some.inj h
  split at hq
  ·omega
  ·have hm:=best_mem (fun r => fits r k u) l (none,0)
   unfold best at hq
   split at hq
   ·omega
   ·rename_i r hr
    rcases hm r hr with h1 | h1
    ·cases h1
    ·have:=((parse_ok hp).1 r h1).2.1
     omega
end Ap
namespace Rq
def c4 (b10 : Bool) (vn nh : Nat) : Bool:=!b10 && (vn == 1) && (nh != 1)
def c5 (vn nt nc : Nat) (cz : Bool) (ni : Nat) : Bool:=(vn == 1) && (decide (0 < nt) || (decide (0 < nc) && !cz) || decide (1 < ni))
def c7 (vn nh nt nc : Nat) (cz : Bool) (ni : Nat) : Bool:=(vn == 2) && ((nh != 1) || decide (0 < nt) || (decide (0 < nc) && !cz) || decide (1 < ni))
theorem stat13 (m : List UInt8) (g : Tg) (v : List UInt8) (fs : List Hp.Hd) (hv : ver v ≠ 0) : stat3 (m,g,v) fs =
  if c4 (v == v10) (ver v) (many nHost fs) = true then 400 else if c5 (ver v) (many nTE fs) (many nCL fs) (joined nCL fs == [48]) (many nId fs) = true then 400
  else if c7 (ver v) (many nHost fs) (many nTE fs) (many nCL fs) (joined nCL fs == [48]) (many nId fs) = true then 400 else if ver v = 2 then 505 else if m ≠ nGET then 405
  else if takes (Ap.qual (joined nAcc fs) tTx tEv) = true ∨ g.1.flatMap (fun p => 47 :: p) = pHealth then 200 else 406:=by
 have h12 : ver v = 1 ∨ (ver v = 2 ∧ v ≠ v10):=by
  unfold ver at hv ⊢
  by_cases h : v = v11 ∨ v = v10
  ·rw [if_pos h]; exact .inl rfl
  ·rw [if_neg h] at hv ⊢
   split at hv
   ·rename_i h3; rw [if_pos h3]; exact .inr ⟨rfl,fun e => h (.inr e)⟩
   ·exact absurd rfl hv
 unfold stat3
 simp only
 obtain ⟨vn,hvn⟩ : ∃ z,ver v = z:=⟨_,rfl⟩
 obtain ⟨nh,hnh⟩ : ∃ z,many nHost fs = z:=⟨_,rfl⟩
 obtain ⟨nt,hnt⟩ : ∃ z,many nTE fs = z:=⟨_,rfl⟩
 obtain ⟨nc,hnc⟩ : ∃ z,many nCL fs = z:=⟨_,rfl⟩
 obtain ⟨ni,hni⟩ : ∃ z,many nId fs = z:=⟨_,rfl⟩
 obtain ⟨a,ha⟩ : ∃ z,(v == v10) = z:=⟨_,rfl⟩
 obtain ⟨cz,hcz⟩ : ∃ z,(joined nCL fs == [48]) = z:=⟨_,rfl⟩
 have ha' : (v = v10) ↔ a = true:=by rw [← ha]; simp
 have hcz' : (joined nCL fs = [48]) ↔ cz = true:=by rw [← hcz]; simp
 rw [hvn] at h12
 rw [hvn,hnh,hnt,hnc,hni,ha,hcz]
 simp only [ha',hcz',Ne] at h12 ⊢
 unfold c4 c5 c7
 rcases h12 with rfl | ⟨rfl,h2⟩
 ·by_cases e0 : nh = 1 <;> by_cases e1 : nt = 0 <;> by_cases e2 : nc = 0 <;> by_cases e3 : 1 < ni <;> cases a <;> cases cz <;> simp_all [Nat.pos_iff_ne_zero]
 ·obtain rfl : a = false:=by simpa using h2
  by_cases e0 : nh = 1 <;> by_cases e1 : nt = 0 <;> by_cases e2 : nc = 0 <;> by_cases e3 : 1 < ni <;> cases cz <;> simp_all [Nat.pos_iff_ne_zero]
theorem line_ok {F m v : List UInt8} {g : Tg} (h : line F = some (m,g,v)) : ver v ≠ 0 ∧ m.length ≤ F.length ∧ v.length ≤ F.length ∧ g.1.length ≤ F.length + 1 ∧ ∀ p ∈ g.1,p.length ≤ F.length:=by
 unfold line at h
 have hl:=fun x hx => Gs.parts_len 32 F [] x hx
 obtain ⟨L,hL⟩ : ∃ z,Gs.parts 32 [] F = z:=⟨_,rfl⟩
 rw [hL] at h
 simp only [hL,List.length_nil,Nat.zero_add] at hl
 match L,h with
 | [a,t,b],h =>
  unfold line3 at h
  simp only at h
  split at h
  ·cases hp : Gt.parse t with
   | none => rw [hp] at h; cases h
   | some g' =>
    rw [hp] at h
    simp only [Option.bind_some] at h
    split at h
    ·cases h
    ·rename_i hv
     obtain ⟨P,Q⟩:=g'
     cases h
     have h1:=hl t (by simp)
     have h2:=Gt.parse_bound hp
     exact ⟨hv,by have:=hl m (by simp); omega,by have:=hl v (by simp); omega,by have:=h2.1; show P.length ≤ _; omega,fun p hp => by have:=h2.2.2.1 p hp; omega⟩
  ·cases h
end Rq
end Go.Proofs.YtfacmnooklljnaaGreatDoor
namespace Go.Proofs.YtfacmnooklljnaaGreatDoor
open Go.RowKit Go.Shelf
set_option maxHeartbeats 2000000
namespace Rs
def fig (c : UInt8) : Bool:=decide (48 ≤ (c.toNat : Int) ∧ (c.toNat : Int) ≤ 57)
def three (a b c : UInt8) : Int:=((a.toNat : Int) - 48) * 100 + ((b.toNat : Int) - 48) * 10 + ((c.toNat : Int) - 48)
def stB : List UInt8 → Int
 | a :: b :: c :: r => if (r = [] ∨ r.head? = some 32) ∧ fig a = true ∧ fig b = true ∧ fig c = true ∧ 100 ≤ three a b c ∧ three a b c ≤ 599 then three a b c else 0
 | _ => 0
def stW (F : List UInt8) : Int:=match rest F with
 | none => 0
 | some r => stB r
end Rs
namespace Hr
def get1 (nm : List UInt8) (st : List UInt8 × Nat) (f : Hp.Hd) : List UInt8 × Nat:=if Tp.lower f.1 = Tp.lower nm then ((if 0 < st.2 then st.1 ++ [44,32] else st.1) ++ f.2,st.2 + 1) else st
def get (nm : List UInt8) (fs : List Hp.Hd) : List UInt8 × Nat:=fs.foldl (get1 nm) ([],0)
theorem join_snoc (vs : List (List UInt8)) (x z : List UInt8) : Lib.join (vs ++ [x]) z = (if 0 < vs.length then Lib.join vs z ++ z else Lib.join vs z) ++ x:=by
 cases vs with
 | nil => rw [List.nil_append,Lib.join_one,if_neg (by decide),Lib.join_nil,List.nil_append]
 | cons y r =>
  rw [List.cons_append,Lib.join_cons,Lib.join_cons,if_pos (by simp)]
  unfold Lib.joinTail
  simp [List.append_assoc]
theorem get_go (nm : List UInt8) : ∀ (fs : List Hp.Hd) (vs : List (List UInt8)),fs.foldl (get1 nm) (Lib.join vs [44,32],vs.length) = (Lib.join (vs ++ Hg.vals nm fs) [44,32],(vs ++ Hg.vals nm fs).length):=by
 intro fs
 induction fs with
 | nil => intro vs; show (_,_) = _; unfold Hg.vals; simp
 | cons f fs ih =>
  intro vs
  rw [List.foldl_cons]
  by_cases h : Tp.lower f.1 = Tp.lower nm
  ·have h1 : get1 nm (Lib.join vs [44,32],vs.length) f = (Lib.join (vs ++ [f.2]) [44,32],(vs ++ [f.2]).length):=by
    unfold get1
    rw [if_pos h,join_snoc]
    simp
   have h2 : Hg.vals nm (f :: fs) = f.2 :: Hg.vals nm fs:=by
    unfold Hg.vals
    rw [List.filter_cons_of_pos (by unfold Hg.isNm; simpa using h)]
    rfl
   rw [h1,ih,h2]
   simp [List.append_assoc]
  ·have h1 : get1 nm (Lib.join vs [44,32],vs.length) f = (Lib.join vs [44,32],vs.length):=by unfold get1; rw [if_neg h]
   have h2 : Hg.vals nm (f :: fs) = Hg.vals nm fs:=by
    unfold Hg.vals
    rw [List.filter_cons_of_neg (by unfold Hg.isNm; simpa using h)]
   rw [h1,ih,h2]
theorem get_is (nm : List UInt8) (fs : List Hp.Hd) : get nm fs = (Rs.joined nm fs,(Hg.vals nm fs).length):=by
 have h:=get_go nm fs []
 rw [List.nil_append] at h
 exact h
end Hr
end Go.Proofs.YtfacmnooklljnaaGreatDoor
namespace Go.Proofs.YtfacmnooklljnaaGreatDoor
open Go.RowKit Go.Shelf
set_option maxHeartbeats 8000000
set_option maxRecDepth 100000
def bx (l : List UInt8) : ByteArray:=⟨l.toArray⟩
theorem bx_size (l : List UInt8) : (bx l).size = l.length:=by simp [bx,ByteArray.size]
theorem bx_beq (a b : List UInt8) : ((bx a).toList == (bx b).toList) = (a == b):=by
 rw [ByteArray.toList_eq,ByteArray.toList_eq]; simp [bx]
theorem ref_Get (F nm : List UInt8) (V : Value) (fs : List Hp.Hd) (w : World) (hv : HS w V fs) (hl : fs.length ≤ 1000) (hs : ∀ f ∈ fs,f.1.length ≤ 100000 ∧ f.2.length ≤ 100000) (hnm : nm.length ≤ 100000) :
  Calls Tryz.prog 39 #[.agg #[Hp.sx F,V],.string (bx nm)] w fun e w' => e = .returned (.tuple #[.string (bx (Hr.get nm fs).1),.int .i64 ((Hr.get nm fs).2 : Nat)]) ∧ Below w.heap.size w w':=by
 obtain ⟨p,c,rfl⟩:=hv.slice
 obtain ⟨N,hN⟩ : ∃ N,fs.length = N:=⟨_,rfl⟩
 rw [hN] at hv hl ⊢
 unfold Hp.sx
 obtain ⟨fb,hfb⟩ : ∃ z : ByteArray,(⟨F.toArray⟩ : ByteArray) = z:=⟨_,rfl⟩
 rw [hfb]
 obtain ⟨nb,hnb⟩ : ∃ z : ByteArray,bx nm = z:=⟨_,rfl⟩
 have hns : nb.size ≤ 100000:=by rw [← hnb,bx_size]; exact hnm
 have KN0:=fun W => rtk_lower nb W (by omega)
 rw [show nb.data.toList = nm by rw [← hnb]; simp [bx],show (⟨(Tp.lower nm).toArray⟩ : ByteArray) = bx (Tp.lower nm) from rfl] at KN0
 obtain ⟨ln,hln⟩ : ∃ z : ByteArray,bx (Tp.lower nm) = z:=⟨_,rfl⟩
 rw [hln] at KN0
 have KN:=Lib.hid KN0
 have HLN:=Lib.hid hln
 rw [hnb]
 obtain ⟨H,hH⟩ : ∃ H,w.heap.size = H:=⟨_,rfl⟩
 obtain ⟨W1,hW1⟩ : ∃ Z,w.alloc (.cells #[.string fb,.slice p N c] 25) = Z:=⟨_,rfl⟩
 have HB1:=Lib.hid (show Below H w W1 by rw [← hW1,← hH]; exact (Below.refl _ _).alloc (Nat.le_refl _) _)
 have HG1:=Lib.hid (show W1.heap[H]? = some (.cells #[.string fb,.slice p N c] 25 (0,0)) by rw [← hW1,← hH]; exact World.alloc_heap_new _ _)
 have HV:=Lib.hid hv
 have HW1:=Lib.hid hW1
 have HHH:=Lib.hid hH
 have HNN:=Lib.hid hN
 have HSZ:=Lib.hid hs
 clear hv hs hN hfb hnb hH hW1 KN0 hln
 go_enter Tryz.func39,Tryz.ntmps39
 go_wp2_with fail
 rw [HHH.out,HW1.out]
 go_wp2_with fail
 go_loopw [6,7,8] (fun v6 v7 i wr => ∃ (k : Nat) (st : List UInt8 × Nat),k ≤ N ∧ i = .int .i64 k ∧ v6 = .string (bx st.1) ∧ v7 = .int .i64 (st.2 : Nat) ∧ Hr.get nm fs = (fs.drop k).foldl (Hr.get1 nm) st ∧ st.2 ≤ k ∧ st.1.length ≤ k * 100002 ∧
   wr.heap[H]? = some (.cells #[.string fb,.slice p N c] 25 (0,0)) ∧ Below H w wr) (fun _ _ i _ => N - (intOf i).toNat)
 case atStart => exact ⟨0,([],0),Nat.zero_le _,rfl,rfl,rfl,rfl,Nat.le_refl _,Nat.le_refl _,HG1.out,HB1.out⟩
 case round =>
  obtain ⟨k,⟨sl,m⟩,hk,rfl,rfl,rfl,hgt,hm,hsl,hg,hbl⟩:=hrel
  simp only at hm hsl hgt ⊢
  have HGT:=Lib.hid hgt
  have HG:=Lib.hid hg
  have HBL:=Lib.hid hbl
  have a1 : wr.cell? ⟨H,1,none⟩ = some (.slice p N c):=by simp [World.cell?,hg]
  have HM:=Lib.hid hm
  have HSL:=Lib.hid hsl
  clear hgt hg hbl hm hsl
  by_cases hlt : k < N
  ·have HLK:=Lib.hid (show fs.drop k = fs.getD k ([],[]) :: fs.drop (k + 1) by
    rw [List.drop_eq_getElem_cons (by rw [HNN.out]; exact hlt),List.getD_eq_getElem?_getD,List.getElem?_eq_getElem (by rw [HNN.out]; exact hlt)]; rfl)
   have hszf:=HSZ.out (fs.getD k ([],[])) (by rw [List.getD_eq_getElem?_getD,List.getElem?_eq_getElem (by rw [HNN.out]; exact hlt)]; exact List.getElem_mem _)
   have HVR:=Lib.hid (HV.out.below (by rw [HHH.out]; exact HBL.out))
   obtain ⟨g1,o1,rfl,hc1⟩:=HVR.out.cells (k:=k) (by rw [HNN.out]; exact hlt)
   obtain ⟨hx,hy⟩:=hc1 k (by rw [HNN.out]; exact hlt)
   obtain ⟨⟨n0,v0⟩,hf⟩ : ∃ x,fs.getD k ([],[]) = x:=⟨_,rfl⟩
   rw [hf] at hx hy HLK hszf
   simp only at hx hy hszf
   rw [show Hp.sx n0 = .string (bx n0) from rfl] at hx
   rw [show Hp.sx v0 = .string (bx v0) from rfl] at hy
   have KL0:=fun W => rtk_lower (bx n0) W (by rw [bx_size]; omega)
   rw [show (bx n0).data.toList = n0 by simp [bx],show (⟨(Tp.lower n0).toArray⟩ : ByteArray) = bx (Tp.lower n0) from rfl] at KL0
   have hbq:=bx_beq (Tp.lower n0) (Tp.lower nm)
   rw [HLN.out] at hbq
   obtain ⟨lo,hlo⟩ : ∃ z : ByteArray,bx (Tp.lower n0) = z:=⟨_,rfl⟩
   rw [hlo] at KL0 hbq
   have KL:=Lib.hid KL0
   have HX:=Lib.hid hx
   have HY:=Lib.hid hy
   have hvl : (bx v0).size ≤ 100000:=by rw [bx_size]; omega
   have hsl2 : (bx sl).size ≤ 100100000:=by rw [bx_size]; have:=HSL.out; have : k * 100002 ≤ 1000 * 100002:=Nat.mul_le_mul_right _ (by omega); omega
   have hsj:=(show (bx sl ++ (⟨#[44,32]⟩ : ByteArray)).size ≤ 100100002 by rw [ByteArray.size_append]; have : (⟨#[44,32]⟩ : ByteArray).size = 2:=rfl; omega)
   have HJ:=Lib.hid (show bx sl ++ (⟨#[44,32]⟩ : ByteArray) ++ bx v0 = bx (sl ++ [44,32] ++ v0) by apply ByteArray.ext; apply Array.ext'; simp [bx])
   have HJ0:=Lib.hid (show bx sl ++ bx v0 = bx (sl ++ v0) by apply ByteArray.ext; apply Array.ext'; simp [bx])
   obtain ⟨q,hq⟩ : ∃ q,(Tp.lower n0 == Tp.lower nm) = q:=⟨_,rfl⟩
   rw [hq] at hbq
   have HQ:=Lib.hid hq
   have HSV:=Lib.hid hszf
   clear hc1 hf KL0 hlo hq hszf hy
   go_wp2_with fail
   refine (KL.out wr).mono ?_
   rintro e w1 ⟨rfl,hb1⟩
   go_wp2_with fail
   refine (KN.out w1).mono ?_
   rintro e w2 ⟨rfl,hb2⟩
   have hb12:=hb1.trans (hb2.mono hb1.size)
   have hg2:=(hb12.block H (Array.getElem?_eq_some_iff.1 HG.out).1).trans HG.out
   have HB2:=Lib.hid (show Below H w w2 from HBL.out.trans (hb12.mono (Nat.le_of_lt (Array.getElem?_eq_some_iff.1 HG.out).1)))
   have b1 : w2.cell? ⟨H,1,none⟩ = some (.slice (some ⟨g1,o1,none⟩) N c):=by simp [World.cell?,hg2]
   have hy2:=(hb12.cell (p:=⟨g1,o1 + k * 2 + 1,none⟩) (lt_of_cell HY.out)).trans HY.out
   have HG2:=Lib.hid hg2
   clear a1 hx hb1 hb2 hb12 hg2
   cases q with
   | false =>
    go_wp2_with fail
    go_roundw
    case rel =>
     refine ⟨k + 1,(sl,m),hlt,by go_num,rfl,rfl,?_,by have:=HM.out; simp only; omega,Nat.le_trans HSL.out (Nat.mul_le_mul_right _ (Nat.le_succ k)),HG2.out,HB2.out⟩
     rw [HGT.out,HLK.out,List.foldl_cons]
     unfold Hr.get1
     simp only
     rw [if_neg (by have:=HQ.out; simpa using this)]
    case measure => simp [intOf]; omega
   | true =>
    have HGS:=Lib.hid (show Hr.get nm fs = (fs.drop (k + 1)).foldl (Hr.get1 nm) ((if 0 < m then sl ++ [44,32] else sl) ++ v0,m + 1) by
     rw [HGT.out,HLK.out,List.foldl_cons]
     conv => lhs; rw [show Hr.get1 nm (sl,m) (n0,v0) = ((if 0 < m then sl ++ [44,32] else sl) ++ v0,m + 1) by unfold Hr.get1; simp only; rw [if_pos (by have:=HQ.out; simpa using this)]])
    by_cases hm0 : 0 < m
    ·have HM0:=Lib.hid hm0
     have hm1 : 0 < (m : Int):=by omega
     have hm2 : (m : Int) ≤ 1000:=by have:=HM.out; omega
     clear hm0
     go_wp2_with fail
     go_roundw
     case rel =>
      refine ⟨k + 1,(sl ++ [44,32] ++ v0,m + 1),hlt,by go_num,by rw [← HJ.out],by go_num,?_,Nat.succ_le_succ HM.out,?_,HG2.out,HB2.out⟩
      ·rw [HGS.out,if_pos HM0.out]
      ·have h1:=HSL.out; have h2:=HSV.out; simp only [List.length_append,List.length_cons,List.length_nil]; omega
     case measure => simp [intOf]; omega
    ·have HM0:=Lib.hid hm0
     have hm1 : m = 0:=by omega
     subst hm1
     clear hm0
     go_wp2_with fail
     go_roundw
     case rel =>
      refine ⟨k + 1,(sl ++ v0,1),hlt,by go_num,by rw [← HJ0.out],by go_num,?_,Nat.succ_le_succ HM.out,?_,HG2.out,HB2.out⟩
      ·rw [HGS.out,if_neg HM0.out]
      ·have h1:=HSL.out; have h2:=HSV.out; simp only [List.length_append]; omega
     case measure => simp [intOf]; omega
  ·have HRE:=Lib.hid (show Hr.get nm fs = (sl,m) by rw [HGT.out,List.drop_eq_nil_of_le (by rw [HNN.out]; omega)]; rfl)
   go_wp2_with fail
   simp [bodyPost,results,Tryz.results39,go_sem]
   rw [HRE.out]
   exact ⟨⟨rfl,rfl⟩,by rw [HHH.out]; exact HBL.out⟩
end Go.Proofs.YtfacmnooklljnaaGreatDoor