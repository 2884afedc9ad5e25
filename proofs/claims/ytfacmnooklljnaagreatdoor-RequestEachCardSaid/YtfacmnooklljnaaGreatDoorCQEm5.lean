/- Texts of this claim, one behind the other: Ib, Zg, Qe, Zs, Zj, Zh, Zr, Rp, Zk, Qf, Qg, Qh, Qi, Qj, Qk, Qu. -/
import Derived.Test.YtfacmnooklljnaaGreatDoorCQEm4
import Derived.Test.YtfacmnooklljnaaGreatDoorCQEm1
import Derived.Lib.Join
import Derived.Test.YtfacmnooklljnaaGreatDoorCQEm3
import Derived.Test.YtfacmnooklljnaaGreatDoorCQEm2
import Derived.Deep.Cut
import Derived.Lib.AppendIntMem
set_option linter.unusedVariables false
set_option linter.unusedSimpArgs false
namespace Go.Proofs.YtfacmnooklljnaaGreatDoor
open Go.RowKit Go.Shelf
set_option maxHeartbeats 8000000
set_option maxRecDepth 100000
theorem tg_madeO (f : FuncId) (g : List UInt8 → Option (List UInt8)) (v : Value) (L : List ByteArray) (w : World) (hv : SR w v L) (hL : L.length ≤ 100000)
  (hce : ∀ args W,(callFunc f args).run Tryz.prog W = .ok (.enter f args) W)
  (hf : ∀ s ∈ L,∀ W,Calls Tryz.prog f #[.string s] W fun e w' => e = decEnd (g s.data.toList) ∧ Below W.heap.size W w') :
  Calls Tryz.prog 49 #[.func (.func f) #[] #[],v] w fun e w' =>
   ((∃ R r,Gt.all? g (L.map (·.data.toList)) = some R ∧ e = .returned r ∧ ∃ B,w'.ownsRow B 9 1 r R.length (R.map tx)) ∨ (Gt.all? g (L.map (·.data.toList)) = none ∧ e = .panicked [{ v:=errno 210,recovered:=false }])) ∧ Below w.heap.size w w':=by
 obtain ⟨i0,hi,hz0,hz1,hz2⟩:=info_parts (show (Tryz.prog.info? 9).map (fun i => (i.zero,i.size,i.bytes)) = some (some (.string ByteArray.empty),1,16) by kernel_rfl)
 obtain ⟨B,hB⟩ : ∃ B,w.heap.size = B:=⟨_,rfl⟩
 rw [hB]
 rcases hv with ⟨p0,c0,rfl,rfl⟩ | ⟨b,off,cap,rfl,hb,hc⟩
 ·go_enter Tryz.func49,Tryz.ntmps49
  go_wp2_with fail
  go_loopw [4,9] (fun v i wr => v = .slice none 0 0 ∧ i = .int .i64 0 ∧ wr = w) (fun _ _ _ => 0)
  case atStart => exact ⟨rfl,rfl,rfl⟩
  case round =>
   obtain ⟨rfl,rfl,rfl⟩:=hrel
   go_wp2_with fail
   go_ret
   exact ⟨.inl ⟨[],_,rfl,rfl,⟨0,World.ownsRow_nil _ _ _ _⟩⟩,Below.refl _ _⟩
 ·have HC:=Lib.hid hc
  have HF:=Lib.hid hf
  obtain ⟨N,hN⟩ : ∃ N,L.length = N:=⟨_,rfl⟩
  have HNL:=Lib.hid hN
  have HBB:=Lib.hid hb
  rw [hN] at hL ⊢
  obtain ⟨M,hM⟩ : ∃ M,L.map (·.data.toList) = M:=⟨_,rfl⟩
  rw [hM]
  have HML:=Lib.hid (show M.length = N by rw [← hM,List.length_map,hN])
  have HM:=Lib.hid hM
  clear hc hf hM hN hb
  go_enter Tryz.func49,Tryz.ntmps49
  go_wp2_with fail
  go_loopw [4,9] (fun v i wr => ∃ (k : Nat) (acc : List (List UInt8)),k ≤ N ∧ i = .int .i64 k ∧ Gt.AAt g M acc k ∧ wr.ownsRow B 9 1 v acc.length (acc.map tx) ∧ Below B w wr)
   (fun _ i _ => N - (intOf i).toNat)
  case atStart => exact ⟨0,[],Nat.zero_le _,rfl,Gt.aAt_start _ _,World.ownsRow_nil _ _ _ _,Below.refl _ _⟩
  case round =>
   obtain ⟨k,acc,hk,rfl,hat,hown,hbl⟩:=hrel
   have HA:=Lib.hid hat
   have HO:=Lib.hid hown
   have HBL:=Lib.hid hbl
   clear hat hown hbl
   by_cases hlt : k < N
   ·have hkl : k < L.length:=by have:=HNL.out; omega
    have HBW:=Lib.hid (show b < B by rw [← hB]; exact HBB.out)
    have hck : wr.cell? ⟨b,off + k,none⟩ = some (.string L[k]):=(HBL.out.cell (p:=⟨b,off + k,none⟩) HBW.out).trans (HC.out k hkl)
    obtain ⟨S,hS⟩ : ∃ S,L[k] = S:=⟨_,rfl⟩
    rw [hS] at hck
    have HKM:=Lib.hid (show k < M.length by rw [HML.out]; exact hlt)
    have HMK:=Lib.hid (show M[k]'HKM.out = S.data.toList by
     have : M[k]? = some S.data.toList:=by rw [← HM.out,List.getElem?_map,List.getElem?_eq_getElem hkl,hS]; rfl
     exact (List.getElem?_eq_some_iff.1 this).2)
    have K:=Lib.hid (HF.out S (by rw [← hS]; exact List.getElem_mem _) wr)
    clear hS hkl
    cases hg : g S.data.toList with
    | none =>
     rw [hg] at K
     have HN:=Lib.hid (Gt.aAt_bad HA.out HKM.out (by rw [HMK.out]; exact hg))
     clear hg
     go_wp2_with fail
     refine K.out.mono ?_
     rintro e w2 ⟨rfl,hb2⟩
     exact ⟨rfl,.inr ⟨HN.out,rfl⟩,HBL.out.trans (hb2.mono (hB ▸ HBL.out.size))⟩
    | some q =>
     rw [hg] at K
     have HN:=Lib.hid (Gt.aAt_next HA.out HKM.out (by rw [HMK.out]; exact hg))
     clear hg
     go_wp2_with fail
     refine K.out.mono ?_
     rintro e w2 ⟨rfl,hb2⟩
     have HB2:=Lib.hid (HBL.out.trans (hb2.mono (hB ▸ HBL.out.size)))
     have HO2:=Lib.hid (show w2.ownsRow B 9 1 _ acc.length (acc.map tx) from HO.out.belowed hb2)
     simp only [decEnd]
     obtain ⟨qb,hqb⟩ : ∃ z : ByteArray,(⟨q.toArray⟩ : ByteArray) = z:=⟨_,rfl⟩
     rw [hqb]
     have HTQ:=Lib.hid (show tx q = .string qb by unfold tx; rw [hqb])
     clear hb2 hqb K
     go_wp2_with (at_builtin; refine wpList_append_own _ rfl _ _ 33 rfl B 9 i0 (.string ByteArray.empty) 1 16 Tryz.underlying33 hi hz0 hz1 hz2 rfl (by decide) _ _ _ rfl (HO2.out.alloc _) ⟨w2.heap.size,0,none⟩ 1 1 [.string qb] rfl rfl ?c1 ?c2 ?c3 ?c4 ?c5 ?_)
     case c1 =>
      intro j u hj
      match j,hj with
      | 0,hj => simp at hj; subst hj; simp [Addr.add]
     case c2 => intro u hu; simp at hu; subst hu; rfl
     case c3 => have:=HA.out.2.1; unfold maxLen; omega
     case c4 => have:=HA.out.2.1; omega
     case c5 => have:=HB2.out.size; simp; omega
     intro v' w3 hown' hgrow _
     have HB3:=Lib.hid (show Below B w w3 from Below.grown (HB2.out.alloc (by have:=HB2.out.size; omega) _) hgrow (by have:=HB2.out.size; simp; omega) (own_ge HO2.out))
     have HO3:=Lib.hid (show w3.ownsRow B 9 1 v' (acc ++ [q]).length ((acc ++ [q]).map tx) by
      rw [List.map_append,List.length_append]
      show w3.ownsRow B 9 1 v' _ (_ ++ [tx q])
      rw [HTQ.out]
      exact hown')
     clear hgrow hown'
     go_wp2
     go_roundw
     case rel => exact ⟨k + 1,acc ++ [q],hlt,by go_num,HN.out,HO3.out,HB3.out⟩
     case measure => simp [intOf]; omega
   ·have HE:=Lib.hid (Gt.aAt_end HA.out (by rw [HML.out]; omega))
    go_wp2_with fail
    go_ret
    exact ⟨.inl ⟨acc,_,HE.out,rfl,⟨_,HO.out⟩⟩,HBL.out⟩
theorem tg_path1 (s : ByteArray) (w : World) (hs : s.size ≤ 100000) :
  Calls Tryz.prog 138 #[.string s] w fun e w' => e = decEnd (some (47 :: s.data.toList)) ∧ Below w.heap.size w w':=by
 have HQ:=Lib.hid (show (⟨#[47]⟩ ++ s : ByteArray) = ⟨(47 :: s.data.toList).toArray⟩ from ba_of _ _ (by simp [ByteArray.data_append]))
 go_enter Tryz.func138,Tryz.ntmps138
 go_wp2_with fail
 go_ret
 refine ⟨?_,Below.refl _ _⟩
 show Ending.returned (.string (⟨#[47]⟩ ++ s)) = Ending.returned (.string ⟨(47 :: s.data.toList).toArray⟩)
 rw [HQ.out]
theorem path1_enter (args : Array Value) (W : World) : (callFunc 138 args).run Tryz.prog W = .ok (.enter 138 args) W:=by
 simp [callFunc,go_sem,Tryz.func138]
 rw [if_neg (by decide),if_neg (by decide)]
namespace Gt
theorem join_none : ∀ L : List (List UInt8),Lib.join L [] = L.flatten
 | [] => rfl
 | [x] => by simp [Lib.join]
 | x :: y :: L => by
  have h:=join_none (y :: L)
  unfold Lib.join at h ⊢
  rw [List.intercalate_cons_cons,h]; simp
theorem join_path (P : List (List UInt8)) : Lib.join (P.map fun p => 47 :: p) [] = jpath P:=by
 rw [join_none]; unfold jpath; rw [List.flatMap_def]
theorem all_const {α β : Type} (f : α → β) : ∀ L : List α,all? (fun x => some (f x)) L = some (L.map f)
 | [] => rfl
 | x :: L => by unfold all?; simp [all_const f L]
end Gt
theorem join_path_own {w : World} {B : Nat} {v : Value} (L : List (List UInt8)) (h : w.ownsRow B 9 1 v L.length (L.map tx)) (hj : (Lib.join L []).length ≤ 140737488355328) (hl : L.length ≤ 100000) :
  Calls Tryz.prog 115 #[v,.string ⟨#[]⟩] w fun e w' => e = .returned (.string ⟨(Lib.join L []).toArray⟩) ∧ Below w.heap.size w w':=by
 cases L with
 | nil =>
  rcases h.2 with ⟨rfl,h0⟩ | ⟨g,cap,cur,rfl,hBg,hg,hnc,_,hcs,htk⟩
  ·exact (Tryz.strings_Join_none none 0 ⟨#[]⟩ w).mono (fun e w' h => ⟨h.1,by rw [h.2]; exact Below.refl _ _⟩)
  ·exact (Tryz.strings_Join_none _ _ ⟨#[]⟩ w).mono (fun e w' h => ⟨h.1,by rw [h.2]; exact Below.refl _ _⟩)
 | cons x L' =>
  obtain ⟨L,hL⟩ : ∃ L,x :: L' = L:=⟨_,rfl⟩
  have hp : 0 < L.length:=by rw [← hL]; simp
  rw [hL] at h hj hl ⊢
  rcases h.2 with ⟨rfl,h0⟩ | ⟨g,cap,cur,rfl,hBg,hg,hnc,_,hcs,htk⟩
  ·omega
  ·have hlt : g < w.heap.size:=(Array.getElem?_eq_some_iff.1 hg).1
   have hm : (L.map fun l => (⟨l.toArray⟩ : ByteArray)).map (·.data.toList) = L:=by
    rw [List.map_map]
    conv => rhs; rw [← List.map_id L]
    refine List.map_congr_left (fun l _ => ?_)
    simp
   have K:=Tryz.strings_Join g 0 cap (L.map fun l => (⟨l.toArray⟩ : ByteArray)) ⟨#[]⟩ w (fun j x hx => by
    rw [List.getElem?_map] at hx
    cases hLj : L[j]? with
    | none => rw [hLj] at hx; cases hx
    | some l =>
     rw [hLj] at hx
     cases hx
     have hjl : j < L.length:=(List.getElem?_eq_some_iff.1 hLj).1
     have h1 : cur.toList[j]? = some (tx l):=by
      have h2 : (cur.toList.take (L.length * 1))[j]? = some (tx l):=by rw [htk,List.getElem?_map,hLj]; rfl
      rwa [List.getElem?_take_of_lt (by omega)] at h2
     rw [Nat.zero_add]
     simp only [World.cell?,hg,Option.isSome_none,Bool.false_eq_true,if_false]
     rw [Array.getElem?_toList] at h1
     exact h1) hlt (by rw [List.length_map]; omega) (by rw [List.length_map]; exact hnc) (by rw [hm]; exact hj)
   rw [hm,List.length_map] at K
   exact K
theorem tg_Path (v1 : Value) (P : List (List UInt8)) (w : World) (h1 : TS w v1 P) (hP : P.length ≤ 300) (hs : ∀ p ∈ P,p.length ≤ 300) (p2 : Option Addr) (n2 c2 : Nat) :
  Calls Tryz.prog 113 #[.agg #[v1,.slice p2 n2 c2]] w fun e w' => e = .returned (.string ⟨(Gt.jpath P).toArray⟩) ∧ Below w.heap.size w w':=by
 obtain ⟨p1,c1,rfl⟩:=h1.slice
 obtain ⟨n1,hn1⟩ : ∃ n,P.length = n:=⟨_,rfl⟩
 have hJL : (Gt.jpath P).length ≤ 140737488355328:=by
  have h1:=Gt.jpath_len P hs
  have h3:=Nat.mul_le_mul_right 301 hP
  omega
 obtain ⟨W1,hW1⟩ : ∃ Z,w.alloc (.cells #[.slice p1 n1 c1,.slice p2 n2 c2] 36) = Z:=⟨_,rfl⟩
 have hb1 : Below w.heap.size w W1:=by rw [← hW1]; exact (Below.refl _ _).alloc (Nat.le_refl _) _
 have KM:=tg_madeO 138 (fun l => some (47 :: l)) _ _ W1 (h1.below hb1).sr (by simp; omega) path1_enter (fun s hs' W => tg_path1 s W (by
  obtain ⟨p,hp,rfl⟩:=List.mem_map.1 hs'
  have:=hs p hp
  simp [ByteArray.size]; omega))
 rw [Gt.all_const,List.map_map,List.map_map,show ((List.cons 47 ∘ fun x : ByteArray => x.data.toList) ∘ fun l : List UInt8 => (⟨l.toArray⟩ : ByteArray)) = (fun p => 47 :: p) from by funext l; simp,hn1] at KM
 rw [hn1] at h1 ⊢
 have hA : W1.heap[w.heap.size]? = some (.cells #[.slice p1 n1 c1,.slice p2 n2 c2] 36 (0,0)):=by
  rw [← hW1]; exact World.alloc_heap_new _ _
 have a0 : W1.cell? ⟨w.heap.size,0,none⟩ = some (.slice p1 n1 c1):=by simp [World.cell?,hA]
 have HB:=Lib.hid hb1
 have HK:=Lib.hid KM
 have HW:=Lib.hid hW1
 have HN1:=Lib.hid hn1
 have HJL:=Lib.hid hJL
 clear h1 hb1 KM hA hW1 hs hn1 hJL
 go_enter Tryz.func113,Tryz.ntmps113
 go_wp2_with fail
 rw [HW.out]
 refine HK.out.mono ?_
 rintro e w2 ⟨⟨R,r,hR,rfl,hrow⟩ | ⟨hR,_⟩,hb2⟩
 ·cases hR
  obtain ⟨B,hrow⟩:=hrow
  have KJ:=Lib.hid (join_path_own _ hrow (by rw [Gt.join_path]; exact HJL.out) (by have:=HN1.out; rw [List.length_map]; omega))
  have HB2:=Lib.hid (HB.out.trans (hb2.mono HB.out.size))
  obtain ⟨pr,cr,hr⟩:=own_slice hrow
  rw [List.length_map,HN1.out] at hr
  subst hr
  rw [Gt.join_path] at KJ
  clear hrow hb2 a0
  go_wp2_with fail
  refine KJ.out.mono ?_
  rintro e w3 ⟨rfl,hb3⟩
  have HB3:=Lib.hid (HB2.out.trans (hb3.mono HB2.out.size))
  clear hb3
  go_wp2_with fail
  go_ret
  exact ⟨rfl,HB3.out⟩
 ·cases hR
end Go.Proofs.YtfacmnooklljnaaGreatDoor
namespace Go.Proofs.YtfacmnooklljnaaGreatDoor
open Go.RowKit Go.Shelf
attribute [local go_sem] Oper.semAt_some
set_option maxHeartbeats 8000000
set_option maxRecDepth 100000
theorem rq_r6 (A : Nat) (F : ByteArray) (V : Value) (fs : List Hp.Hd) (m v : ByteArray) (P : Value) (L : List (List UInt8)) (p2 : Option Addr) (n2 c2 : Nat) (w : World) (h : LkW w A F V fs m v P (.slice p2 n2 c2))
  (hT : TS w P L) (hL : L.length ≤ 300) (hs : ∀ p ∈ L,p.length ≤ 300) (hj : (Rq.joined Rq.nAcc fs).length ≤ 100000) :
  Calls Tryz.prog 111 #[.pointer (some ⟨A,0,none⟩)] w fun e w' => e = .returned (.bool (takesB (Ap.qual (Rq.joined Rq.nAcc fs) Rq.tTx Rq.tEv) || (Gt.jpath L == Rq.pHealth))) ∧ Below w.heap.size w w':=by
 have KG:=Lib.hid (rq_get A F ⟨#[97,99,99,101,112,116]⟩ V fs m v P (.slice p2 n2 c2) w h (by decide))
 unfold getV at KG
 have KT:=fun W => ac_Takes ⟨(Rq.joined Rq.nAcc fs).toArray⟩ ⟨#[116,101,120,116]⟩ ⟨#[101,118,101,110,116,45,115,116,114,101,97,109]⟩ W (by rw [ba_size]; exact hj)
 rw [show (⟨#[116,101,120,116]⟩ : ByteArray).toList = Rq.tTx from ba_list Rq.tTx,show (⟨#[101,118,101,110,116,45,115,116,114,101,97,109]⟩ : ByteArray).toList = Rq.tEv from ba_list Rq.tEv] at KT
 simp only at KT
 obtain ⟨jb,hjb⟩ : ∃ y : ByteArray,(⟨(Rq.joined Rq.nAcc fs).toArray⟩ : ByteArray) = y:=⟨_,rfl⟩
 obtain ⟨k,hk⟩ : ∃ k,Rq.many Rq.nAcc fs = k:=⟨_,rfl⟩
 obtain ⟨x,hx⟩ : ∃ x,takesB (Ap.qual (Rq.joined Rq.nAcc fs) Rq.tTx Rq.tEv) = x:=⟨_,rfl⟩
 obtain ⟨y,hy⟩ : ∃ x,(Gt.jpath L == Rq.pHealth) = x:=⟨_,rfl⟩
 obtain ⟨pb,hpb⟩ : ∃ z : ByteArray,(⟨(Gt.jpath L).toArray⟩ : ByteArray) = z:=⟨_,rfl⟩
 have KP:=Lib.hid (fun W (hb : Below w.heap.size w W) => tg_Path P L W (hT.below hb) hL hs p2 n2 c2)
 rw [hpb] at KP
 have e1 : (pb.toList == ([47,104,101,97,108,116,104] : List UInt8)) = y:=by rw [← hpb,ba_list]; exact hy
 rw [show (⟨#[97,99,99,101,112,116]⟩ : ByteArray).data.toList = Rq.nAcc from rfl,hjb,hk] at KG
 rw [hjb,hx] at KT
 have HKT:=Lib.hid KT
 have HH:=Lib.hid h
 obtain ⟨pp,pc,rfl⟩:=hT.slice
 rw [hx,hy]
 clear hjb hk hx hy hpb KT h hT
 go_enter Tryz.func111,Tryz.ntmps111
 go_wp2_with fail
 refine KG.out.mono ?_
 rintro e w2 ⟨rfl,hb⟩
 have HB:=Lib.hid hb
 clear hb KG
 go_wp2_with fail
 refine (HKT.out _).mono ?_
 rintro e w3 ⟨rfl,hb⟩
 have HB3:=Lib.hid (HB.out.trans (hb.mono HB.out.size))
 clear hb
 obtain ⟨c0,c1,c2,c3,c4,c5⟩:=lk_cells (HH.out.below HB3.out).c
 cases x with
 | true =>
  go_wp2_with fail
  exact bodyPost_ret (v:=.bool true) (by simp [results,Tryz.results111,go_sem]) rfl ⟨by simp,HB3.out⟩
 | false =>
  go_wp2_with fail
  refine (KP.out _ HB3.out).mono ?_
  rintro e w4 ⟨rfl,hb⟩
  have HB4:=Lib.hid (HB3.out.trans (hb.mono HB3.out.size))
  clear hb
  go_wp2_with fail
  exact bodyPost_ret (v:=.bool y) (by simp [results,Tryz.results111,go_sem]) rfl ⟨by simp,HB4.out⟩
end Go.Proofs.YtfacmnooklljnaaGreatDoor
namespace Go.Proofs.YtfacmnooklljnaaGreatDoor
open Go.RowKit Go.Shelf
set_option maxHeartbeats 4000000
set_option maxRecDepth 100000
namespace Rs
def pre0 : List UInt8:=[72,84,84,80,47,49,46,48,32]
def rest (F : List UInt8) : Option (List UInt8):=if F.take 9 = pre0 then some (F.drop 9) else if F.take 9 = Hp.http then some (F.drop 9) else none
def code (r : List UInt8) : List UInt8:=(Lib.cut r [32]).1
def status (F : List UInt8) : Option Int:=match rest F with
 | none => none
 | some r => if (code r).length = 3 ∧ Dp.numE 10 (code r) = 0 ∧ 100 ≤ Dp.numN 10 (code r) ∧ Dp.numN 10 (code r) ≤ 599 then some (Dp.numN 10 (code r)) else none
end Rs
structure KR (w : World) : Prop where
 mx : ∃ m,w.cell? ⟨0,0,none⟩ = some (.int .i64 m)
 pos : 0 < w.heap.size
theorem KR.below {w w' : World} (h : KR w) (hb : Below w.heap.size w w') : KR w':=by
 obtain ⟨⟨m,hm⟩,hp⟩:=h
 exact ⟨⟨m,(hb.cell (p:=⟨0,0,none⟩) hp).trans hm⟩,Nat.lt_of_lt_of_le hp hb.size⟩
theorem sl_hasprefix (s t : ByteArray) (w : World) (hs : s.size ≤ 9223372036854775807) (ht : t.size ≤ 100000) :
  Calls Tryz.prog 118 #[.string s,.string t] w fun e w' => e = .returned (.bool (decide (s.data.toList.take t.size = t.data.toList))) ∧ w' = w:=by
 by_cases h : t.size ≤ s.size
 ·have hI : ((t.size : Int) ≤ (s.size : Int)):=by omega
  have hsl:=fun W => slice_to s W t.size h hs
  have hd : ((s.extract 0 t.size).toList == t.toList) = decide (s.data.toList.take t.size = t.data.toList):=by
   rw [ByteArray.toList_eq,ByteArray.toList_eq,Lib.extract_data]
   simp
   by_cases e : List.take t.size s.data.toList = t.data.toList
   ·rw [e]; simp
   ·simp [e]
  obtain ⟨x,hx⟩ : ∃ z : ByteArray,s.extract 0 t.size = z:=⟨_,rfl⟩
  rw [hx] at hd
  simp only [hx] at hsl
  obtain ⟨d,hdd⟩ : ∃ d,decide (s.data.toList.take t.size = t.data.toList) = d:=⟨_,rfl⟩
  rw [hdd] at hd ⊢
  clear hx hdd
  go_enter Tryz.func118,Tryz.ntmps118
  go_wp2_with fail
  go_ret
  exact ⟨rfl,rfl⟩
 ·have hI : ¬ ((t.size : Int) ≤ (s.size : Int)):=by omega
  have hd : decide (s.data.toList.take t.size = t.data.toList) = false:=decide_eq_false (fun e => h (by
   have h1:=congrArg List.length e
   rw [List.length_take] at h1
   have h2 : s.data.toList.length = s.size:=rfl
   have h3 : t.data.toList.length = t.size:=rfl
   omega))
  rw [hd]
  clear hd
  go_enter Tryz.func118,Tryz.ntmps118
  go_wp2_with fail
  go_ret
  exact ⟨rfl,rfl⟩
theorem sl_cutprefix (s t : ByteArray) (w : World) (hs : s.size ≤ 9223372036854775807) (ht : t.size ≤ 100000) :
  Calls Tryz.prog 103 #[.string s,.string t] w fun e w' => e = .returned (.tuple #[.string (if s.data.toList.take t.size = t.data.toList then s.extract t.size s.size else s),.bool (decide (s.data.toList.take t.size = t.data.toList))]) ∧ w' = w:=by
 have K:=Lib.hid (sl_hasprefix s t w hs ht)
 have K2 : Hid (Calls Tryz.prog 135 #[.string s,.string t] w fun e w' => e = .returned (.tuple #[.string (if s.data.toList.take t.size = t.data.toList then s.extract t.size s.size else s),.bool (decide (s.data.toList.take t.size = t.data.toList))]) ∧ w' = w):=by
  refine Lib.hid ?_
  by_cases e : s.data.toList.take t.size = t.data.toList
  ·rw [decide_eq_true e] at K ⊢
   rw [if_pos e]
   have hle : t.size ≤ s.size:=by
    have h1:=congrArg List.length e
    rw [List.length_take] at h1
    have h2 : s.data.toList.length = s.size:=rfl
    have h3 : t.data.toList.length = t.size:=rfl
    omega
   have hsl : ∀ W,(Instr.slice 9 (.string s) (some (.int .i64 (t.size : Int))) none none).run Tryz.prog W = .ok (.string (s.extract t.size s.size)) W:=fun W => by
    have h2 : (t.size : Int) ≤ s.size:=by omega
    simp [go_sem,Tryz.underlying9,h2]
   clear e
   go_enter Tryz.func135,Tryz.ntmps135
   go_wp2_with fail
   refine K.out.mono ?_
   rintro e w2 ⟨rfl,hw⟩
   subst hw
   go_wp2_with fail
   simp [bodyPost,results,Tryz.results135,go_sem]
  ·rw [decide_eq_false e] at K ⊢
   rw [if_neg e]
   clear e
   go_enter Tryz.func135,Tryz.ntmps135
   go_wp2_with fail
   refine K.out.mono ?_
   rintro e w2 ⟨rfl,hw⟩
   subst hw
   go_wp2_with fail
   simp [bodyPost,results,Tryz.results135,go_sem]
 obtain ⟨x,hx⟩ : ∃ z : ByteArray,(if s.data.toList.take t.size = t.data.toList then s.extract t.size s.size else s) = z:=⟨_,rfl⟩
 obtain ⟨d,hd⟩ : ∃ d,decide (s.data.toList.take t.size = t.data.toList) = d:=⟨_,rfl⟩
 rw [hx,hd] at K2 ⊢
 clear hx hd K
 go_enter Tryz.func103,Tryz.ntmps103
 go_wp2_with fail
 refine K2.out.mono ?_
 rintro e w2 ⟨rfl,hw⟩
 subst hw
 go_wp2_with fail
 simp [bodyPost,results,Tryz.results103,go_sem]
end Go.Proofs.YtfacmnooklljnaaGreatDoor
namespace Go.Proofs.YtfacmnooklljnaaGreatDoor
open Go.RowKit Go.Shelf
set_option maxHeartbeats 4000000
set_option maxRecDepth 100000
def SwRow (w : World) (v : Value) (L : List (List UInt8)) : Prop:=∃ B,w.ownsRow B 9 1 v L.length (L.map tx)
theorem SwRow.str {w : World} {v : Value} {L : List (List UInt8)} (h : SwRow w v L) : StrRow w v L:=by
 obtain ⟨B,h⟩:=h
 exact strRow_own h
theorem SwRow.slice {w : World} {v : Value} {L : List (List UInt8)} (h : SwRow w v L) : ∃ p c,v = .slice p L.length c:=by
 obtain ⟨p,c,h,_⟩:=h.str
 exact ⟨p,c,h⟩
theorem SwRow.below {w w' : World} {v : Value} {L : List (List UInt8)} (h : SwRow w v L) (k : Below w.heap.size w w') : SwRow w' v L:=by
 obtain ⟨B,h⟩:=h
 exact ⟨B,h.belowed k⟩
theorem SwRow.keep {w w' : World} {v : Value} {L : List (List UInt8)} {T : Nat} {cs : Array Value} {t : TypeId} (h : SwRow w v L) (hT : w.heap[T]? = some (.cells cs t (0,0))) (ht : t ≠ 9) (ho : ∀ j,j ≠ T → w'.heap[j]? = w.heap[j]?) : SwRow w' v L:=by
 obtain ⟨B,hl,h⟩:=h
 refine ⟨B,hl,h.imp id ?_⟩
 rintro ⟨g,cap,cur,rfl,h1,h2,h3⟩
 refine ⟨g,cap,cur,rfl,h1,?_,h3⟩
 rw [ho g (by
  intro e
  subst e
  rw [h2] at hT
  simp at hT
  exact ht hT.2.symm)]
 exact h2
theorem PrRow.keep {w w' : World} {v : Value} {L : List (List UInt8 × List UInt8)} {T : Nat} {cs : Array Value} {t : TypeId} (h : PrRow w v L) (hT : w.heap[T]? = some (.cells cs t (0,0))) (ht : t ≠ 93) (ho : ∀ j,j ≠ T → w'.heap[j]? = w.heap[j]?) : PrRow w' v L:=by
 obtain ⟨B,hl,h⟩:=h
 refine ⟨B,hl,h.imp id ?_⟩
 rintro ⟨g,cap,cur,rfl,h1,h2,h3⟩
 refine ⟨g,cap,cur,rfl,h1,?_,h3⟩
 rw [ho g (by
  intro e
  subst e
  rw [h2] at hT
  simp at hT
  exact ht hT.2.symm)]
 exact h2
theorem PrRow.belowW {w w' : World} {v : Value} {L : List (List UInt8 × List UInt8)} (h : PrRow w v L) (k : Below w.heap.size w w') : PrRow w' v L:=by
 obtain ⟨B,h⟩:=h
 exact ⟨B,h.belowed k⟩
theorem SwRow.setT {w : World} {v : Value} {L : List (List UInt8)} {T : Nat} {cs : Array Value} {t : TypeId} (h : SwRow w v L) (hT : w.heap[T]? = some (.cells cs t (0,0))) (ht : t ≠ 9) (i : Nat) (x : Value) : SwRow (w.setCell ⟨T,i,none⟩ x) v L :=
 h.keep hT ht fun j hj => Below.heap_setCell _ _ _ _ (by show j ≠ T; exact hj)
theorem tg_madeW (f : FuncId) (g : List UInt8 → Option (List UInt8)) (v : Value) (L : List ByteArray) (w : World) (hv : SR w v L) (hL : L.length ≤ 100000)
  (hce : ∀ args W,(callFunc f args).run Tryz.prog W = .ok (.enter f args) W)
  (hf : ∀ s ∈ L,∀ W,Calls Tryz.prog f #[.string s] W fun e w' => e = decEnd (g s.data.toList) ∧ Below W.heap.size W w') :
  Calls Tryz.prog 49 #[.func (.func f) #[] #[],v] w fun e w' =>
   ((∃ R r,Gt.all? g (L.map (·.data.toList)) = some R ∧ e = .returned r ∧ SwRow w' r R) ∨ (Gt.all? g (L.map (·.data.toList)) = none ∧ e = .panicked [{ v:=errno 210,recovered:=false }])) ∧ Below w.heap.size w w':=by
 obtain ⟨i0,hi,hz0,hz1,hz2⟩:=info_parts (show (Tryz.prog.info? 9).map (fun i => (i.zero,i.size,i.bytes)) = some (some (.string ByteArray.empty),1,16) by kernel_rfl)
 obtain ⟨B,hB⟩ : ∃ B,w.heap.size = B:=⟨_,rfl⟩
 rw [hB]
 rcases hv with ⟨p0,c0,rfl,rfl⟩ | ⟨b,off,cap,rfl,hb,hc⟩
 ·go_enter Tryz.func49,Tryz.ntmps49
  go_wp2_with fail
  go_loopw [4,9] (fun v i wr => v = .slice none 0 0 ∧ i = .int .i64 0 ∧ wr = w) (fun _ _ _ => 0)
  case atStart => exact ⟨rfl,rfl,rfl⟩
  case round =>
   obtain ⟨rfl,rfl,rfl⟩:=hrel
   go_wp2_with fail
   go_ret
   exact ⟨.inl ⟨[],_,rfl,rfl,⟨0,World.ownsRow_nil _ _ _ _⟩⟩,Below.refl _ _⟩
 ·have HC:=Lib.hid hc
  have HF:=Lib.hid hf
  obtain ⟨N,hN⟩ : ∃ N,L.length = N:=⟨_,rfl⟩
  have HNL:=Lib.hid hN
  have HBB:=Lib.hid hb
  rw [hN] at hL ⊢
  obtain ⟨M,hM⟩ : ∃ M,L.map (·.data.toList) = M:=⟨_,rfl⟩
  rw [hM]
  have HML:=Lib.hid (show M.length = N by rw [← hM,List.length_map,hN])
  have HM:=Lib.hid hM
  clear hc hf hM hN hb
  go_enter Tryz.func49,Tryz.ntmps49
  go_wp2_with fail
  go_loopw [4,9] (fun v i wr => ∃ (k : Nat) (acc : List (List UInt8)),k ≤ N ∧ i = .int .i64 k ∧ Gt.AAt g M acc k ∧ wr.ownsRow B 9 1 v acc.length (acc.map tx) ∧ Below B w wr)
   (fun _ i _ => N - (intOf i).toNat)
  case atStart => exact ⟨0,[],Nat.zero_le _,rfl,Gt.aAt_start _ _,World.ownsRow_nil _ _ _ _,Below.refl _ _⟩
  case round =>
   obtain ⟨k,acc,hk,rfl,hat,hown,hbl⟩:=hrel
   have HA:=Lib.hid hat
   have HO:=Lib.hid hown
   have HBL:=Lib.hid hbl
   clear hat hown hbl
   by_cases hlt : k < N
   ·have hkl : k < L.length:=by have:=HNL.out; omega
    have HBW:=Lib.hid (show b < B by rw [← hB]; exact HBB.out)
    have hck : wr.cell? ⟨b,off + k,none⟩ = some (.string L[k]):=(HBL.out.cell (p:=⟨b,off + k,none⟩) HBW.out).trans (HC.out k hkl)
    obtain ⟨S,hS⟩ : ∃ S,L[k] = S:=⟨_,rfl⟩
    rw [hS] at hck
    have HKM:=Lib.hid (show k < M.length by rw [HML.out]; exact hlt)
    have HMK:=Lib.hid (show M[k]'HKM.out = S.data.toList by
     have : M[k]? = some S.data.toList:=by rw [← HM.out,List.getElem?_map,List.getElem?_eq_getElem hkl,hS]; rfl
     exact (List.getElem?_eq_some_iff.1 this).2)
    have K:=Lib.hid (HF.out S (by rw [← hS]; exact List.getElem_mem _) wr)
    clear hS hkl
    cases hg : g S.data.toList with
    | none =>
     rw [hg] at K
     have HN:=Lib.hid (Gt.aAt_bad HA.out HKM.out (by rw [HMK.out]; exact hg))
     clear hg
     go_wp2_with fail
     refine K.out.mono ?_
     rintro e w2 ⟨rfl,hb2⟩
     exact ⟨rfl,.inr ⟨HN.out,rfl⟩,HBL.out.trans (hb2.mono (hB ▸ HBL.out.size))⟩
    | some q =>
     rw [hg] at K
     have HN:=Lib.hid (Gt.aAt_next HA.out HKM.out (by rw [HMK.out]; exact hg))
     clear hg
     go_wp2_with fail
     refine K.out.mono ?_
     rintro e w2 ⟨rfl,hb2⟩
     have HB2:=Lib.hid (HBL.out.trans (hb2.mono (hB ▸ HBL.out.size)))
     have HO2:=Lib.hid (show w2.ownsRow B 9 1 _ acc.length (acc.map tx) from HO.out.belowed hb2)
     simp only [decEnd]
     obtain ⟨qb,hqb⟩ : ∃ z : ByteArray,(⟨q.toArray⟩ : ByteArray) = z:=⟨_,rfl⟩
     rw [hqb]
     have HTQ:=Lib.hid (show tx q = .string qb by unfold tx; rw [hqb])
     clear hb2 hqb K
     go_wp2_with (at_builtin; refine wpList_append_own _ rfl _ _ 33 rfl B 9 i0 (.string ByteArray.empty) 1 16 Tryz.underlying33 hi hz0 hz1 hz2 rfl (by decide) _ _ _ rfl (HO2.out.alloc _) ⟨w2.heap.size,0,none⟩ 1 1 [.string qb] rfl rfl ?c1 ?c2 ?c3 ?c4 ?c5 ?_)
     case c1 =>
      intro j u hj
      match j,hj with
      | 0,hj => simp at hj; subst hj; simp [Addr.add]
     case c2 => intro u hu; simp at hu; subst hu; rfl
     case c3 => have:=HA.out.2.1; unfold maxLen; omega
     case c4 => have:=HA.out.2.1; omega
     case c5 => have:=HB2.out.size; simp; omega
     intro v' w3 hown' hgrow _
     have HB3:=Lib.hid (show Below B w w3 from Below.grown (HB2.out.alloc (by have:=HB2.out.size; omega) _) hgrow (by have:=HB2.out.size; simp; omega) (own_ge HO2.out))
     have HO3:=Lib.hid (show w3.ownsRow B 9 1 v' (acc ++ [q]).length ((acc ++ [q]).map tx) by
      rw [List.map_append,List.length_append]
      show w3.ownsRow B 9 1 v' _ (_ ++ [tx q])
      rw [HTQ.out]
      exact hown')
     clear hgrow hown'
     go_wp2
     go_roundw
     case rel => exact ⟨k + 1,acc ++ [q],hlt,by go_num,HN.out,HO3.out,HB3.out⟩
     case measure => simp [intOf]; omega
   ·have HE:=Lib.hid (Gt.aAt_end HA.out (by rw [HML.out]; omega))
    go_wp2_with fail
    go_ret
    exact ⟨.inl ⟨acc,_,HE.out,rfl,⟨_,HO.out⟩⟩,HBL.out⟩
def ParseOutW (w : World) (o : Option (List (List UInt8) × List (List UInt8 × List UInt8))) (e : Ending) : Prop:=match o with
 | some (P,Q) => ∃ vp vq,e = .returned (.tuple #[.agg #[vp,vq],.int .i64 0]) ∧ SwRow w vp P ∧ PrRow w vq Q
 | none => e = .returned (.tuple #[.agg #[.slice none 0 0,.slice none 0 0],.int .i64 210])
theorem parse_doorW (s : ByteArray) (w W : World) (hB : Below w.heap.size w W) (u v : Value) (hT : W.heap[w.heap.size]? = some (.cells #[u,v] 36 (0,0))) (hE : W.heap[w.heap.size + 1]? = some (.cells #[.int .i64 0] 26 (0,0)))
  (hp : Gt.parse s.data.toList = none) (x1 x4 x5 x6 x7 x8 x9 x10 x11 x12 x13 x14 x15 x16 x17 x18 x19 x20 x21 x22 x23 x24 x25 x26 x27 x28 x29 x30 x31 x32 x33 x34 x35 : Value) :
  bodyPostD Tryz.prog Tryz.f21 (fun e w' => ParseOutW w' (Gt.parse s.data.toList) e ∧ Below w.heap.size w w') (.panic [{ v:=errno 210,recovered:=false }])
   { tmps:=#[.string s,x1,.pointer (some ⟨w.heap.size,0,none⟩),.pointer (some ⟨w.heap.size + 1,0,none⟩),x4,x5,x6,x7,x8,x9,x10,x11,x12,x13,x14,x15,x16,x17,x18,x19,x20,x21,x22,x23,x24,x25,x26,x27,x28,x29,x30,x31,x32,x33,x34,x35],defers:=[{ target:=Target.fn (Fn.func 44) #[],args:=#[.pointer (some ⟨w.heap.size + 1,0,none⟩),.func (.func 45) #[] #[.pointer (some ⟨w.heap.size,0,none⟩)]] }] } W:=by
 rw [hp]
 have c1 : W.cell? ⟨w.heap.size + 1,0,none⟩ = some (.int .i64 0):=by simp [World.cell?,hE]
 have z1 : W.frozen? ⟨w.heap.size + 1,0,none⟩ = false:=frozen_of_row _ _ _ _ _ hE
 have t1:=heap_setCell_same _ _ 0 _ _ (.slice none 0 0) hT
 have t2 : ((W.setCell ⟨w.heap.size,0,none⟩ (.slice none 0 0)).setCell ⟨w.heap.size,1,none⟩ (.slice none 0 0)).heap[w.heap.size]? = some (.cells #[.slice none 0 0,.slice none 0 0] 36 (0,0)):=heap_setCell_same _ _ 1 _ _ (.slice none 0 0) t1
 obtain ⟨W2,hW2⟩ : ∃ Z,(W.setCell ⟨w.heap.size,0,none⟩ (.slice none 0 0)).setCell ⟨w.heap.size,1,none⟩ (.slice none 0 0) = Z:=⟨_,rfl⟩
 have HB2:=Lib.hid (show Below w.heap.size w W2 by rw [← hW2]; exact (hB.setCell (Nat.le_refl _) _).setCell (Nat.le_refl _) _)
 have c2 : W2.cell? ⟨w.heap.size + 1,0,none⟩ = some (.int .i64 0):=by
  rw [← hW2,World.cell?_setCell_other,World.cell?_setCell_other]; exact c1; simp; simp
 have z2 : W2.frozen? ⟨w.heap.size + 1,0,none⟩ = false:=by rw [← hW2]; simpa using z1
 have K:=tg_clearT w.heap.size u v W hT
 rw [hW2] at t2 K
 refine leaves_cons (f:=44) (args:=#[.pointer (some ⟨w.heap.size + 1,0,none⟩),.func (.func 45) #[] #[.pointer (some ⟨w.heap.size,0,none⟩)]]) (by simp) (by simp [go_sem]) ?_
 refine (tg_caught ⟨w.heap.size + 1,0,none⟩ 45 #[.pointer (some ⟨w.heap.size,0,none⟩)] 210 [] W W2 (clearT_enter _) K (.int .i64 0) c2 z2).mono ?_
 rintro e u' w'' ⟨rfl,rfl,rfl⟩
 have d0 : W2.cell? ⟨w.heap.size,0,none⟩ = some (.slice none 0 0):=by simp [World.cell?,t2]
 have d1 : W2.cell? ⟨w.heap.size,1,none⟩ = some (.slice none 0 0):=by simp [World.cell?,t2]
 simp [Leaves,settle,results,Tryz.results21,go_sem,d0,d1,c2]
 exact ⟨rfl,HB2.out.setCell (Nat.le_succ _) _⟩
theorem tg_ParseW (s : ByteArray) (w : World) (hs : s.size ≤ 90000) (hm : Mx w) (h0 : 0 < w.heap.size) :
  Calls Tryz.prog 21 #[.string s] w fun e w' => ParseOutW w' (Gt.parse s.data.toList) e ∧ Below w.heap.size w w':=by
 have hce1:=ask1_enter
 have hce2:=ask2_enter
 have hmf : ∀ (fn : Fn) (first cap : Array Value) (w : World),(Instr.makeFunc fn first cap).run Tryz.prog w = .ok (.func fn first cap) w:=fun _ _ _ _ => rfl
 have hi0 : ∀ (x y : Value) (w : World),(Instr.index 84 (.agg #[x,y]) (.int .i64 0)).run Tryz.prog w = .ok x w:=fun _ _ _ => by kernel_rfl
 have hi1 : ∀ (x y : Value) (w : World),(Instr.index 84 (.agg #[x,y]) (.int .i64 1)).run Tryz.prog w = .ok y w:=fun _ _ _ => by kernel_rfl
 obtain ⟨W1,hW1⟩ : ∃ W,(w.alloc (.cells #[.slice none 0 0,.slice none 0 0] 36)).alloc (.cells #[.int .i64 0] 26) = W:=⟨_,rfl⟩
 have HSZ:=Lib.hid (show W1.heap.size = w.heap.size + 2 by rw [← hW1]; simp)
 have HB:=Lib.hid (show Below w.heap.size w W1 by
  rw [← hW1]
  exact ((Below.refl _ _).alloc (Nat.le_refl _) _).alloc (by simp) _)
 have HC0:=Lib.hid (show W1.heap[w.heap.size]? = some (.cells #[.slice none 0 0,.slice none 0 0] 36 (0,0)) by
  rw [← hW1,Below.heap_alloc _ _ _ (by simp)]
  exact World.alloc_heap_new _ _)
 have HC1:=Lib.hid (show W1.heap[w.heap.size + 1]? = some (.cells #[.int .i64 0] 26 (0,0)) by
  rw [← hW1]
  have:=World.alloc_heap_new (w.alloc (.cells #[.slice none 0 0,.slice none 0 0] 36)) (.cells #[.int .i64 0] 26)
  simpa using this)
 have HW1:=Lib.hid hW1
 have HM:=Lib.hid hm
 clear hW1 hm
 have KA:=Lib.hid (tg_asks W1)
 have K1:=Lib.hid (fun W => tg_ask1 s W)
 have K2:=Lib.hid (fun W => tg_ask2 s W)
 obtain ⟨a1,ha1⟩ : ∃ o,(s.data.toList.head? == some 47) = o:=⟨_,rfl⟩
 obtain ⟨a2,ha2⟩ : ∃ o,s.data.toList.all Gt.okB = o:=⟨_,rfl⟩
 rw [ha1] at K1
 rw [ha2] at K2
 have HA1:=Lib.hid ha1
 have HA2:=Lib.hid ha2
 clear ha1 ha2
 go_enter_defers Tryz.func21,Tryz.ntmps21
 go_wp2_with fail
 rw [HW1.out]
 refine KA.out.mono ?_
 rintro e w2 ⟨rfl,hb⟩
 have HB2:=Lib.hid hb
 clear hb
 go_wp2_with fail
 go_loopw [11] (fun i wr => AskAt s.data.toList w2 i wr) (fun i _ => (2 - intOf i).toNat)
 case atStart => exact .inl ⟨rfl,rfl⟩
 case round =>
  rcases hrel with ⟨rfl,rfl⟩ | ⟨rfl,rfl,hh⟩ | ⟨rfl,hb3,hok⟩
  ·cases a1 with
   | true =>
    go_wp2_with fail
    refine (K1.out wr).mono ?_
    rintro e w3 ⟨rfl,hw3⟩
    subst w3
    go_wp2_with fail
    refine (tg_must 210 wr).mono ?_
    rintro e w4 ⟨rfl,hw4⟩
    subst w4
    go_wp2
    go_roundw
    case rel => exact .inr (.inl ⟨rfl,rfl,HA1.out⟩)
    case measure => simp [intOf]
   | false =>
    go_wp2_with fail
    refine (K1.out wr).mono ?_
    rintro e w3 ⟨rfl,hw3⟩
    subst w3
    go_wp2_with fail
    refine (tg_must_no 210 wr).mono ?_
    rintro e w4 ⟨rfl,hw4⟩
    subst w4
    exact parse_doorW s w wr (HB.out.trans (HB2.out.mono HB.out.size)) (.slice none 0 0) (.slice none 0 0) ((HB2.out.block _ (by rw [HSZ.out]; omega)).trans HC0.out) ((HB2.out.block _ (by rw [HSZ.out]; omega)).trans HC1.out) (Gt.parse_bad (by unfold Gt.ok; rw [HA1.out]; rfl)) _ _ _ _ _ _ _ _ _ _ _ _ _ _ _ _ _ _ _ _ _ _ _ _ _ _ _ _ _ _ _ _ _
  ·cases a2 with
   | true =>
    go_wp2_with fail
    refine (K2.out wr).mono ?_
    rintro e w3 ⟨rfl,hb3⟩
    have HB3:=Lib.hid hb3
    clear hb3
    go_wp2_with fail
    refine (tg_must 210 w3).mono ?_
    rintro e w4 ⟨rfl,hw4⟩
    subst w4
    go_wp2
    go_roundw
    case rel => exact .inr (.inr ⟨rfl,HB3.out,by unfold Gt.ok; rw [hh,HA2.out]; rfl⟩)
    case measure => simp [intOf]
   | false =>
    go_wp2_with fail
    refine (K2.out wr).mono ?_
    rintro e w3 ⟨rfl,hb3⟩
    have HB3:=Lib.hid (HB2.out.trans (hb3.mono HB2.out.size))
    clear hb3
    go_wp2_with fail
    refine (tg_must_no 210 w3).mono ?_
    rintro e w4 ⟨rfl,hw4⟩
    subst w4
    exact parse_doorW s w w3 (HB.out.trans (HB3.out.mono HB.out.size)) (.slice none 0 0) (.slice none 0 0) ((HB3.out.block _ (by rw [HSZ.out]; omega)).trans HC0.out) ((HB3.out.block _ (by rw [HSZ.out]; omega)).trans HC1.out) (Gt.parse_bad (by unfold Gt.ok; rw [HA2.out,Bool.and_false])) _ _ _ _ _ _ _ _ _ _ _ _ _ _ _ _ _ _ _ _ _ _ _ _ _ _ _ _ _ _ _ _ _
  ·have HBR:=Lib.hid (HB2.out.trans (hb3.mono HB2.out.size))
   have HOK:=Lib.hid hok
   obtain ⟨m,hm'⟩:=HM.out.below (HB.out.trans (HBR.out.mono HB.out.size)) h0
   have KC:=Lib.hid (Tryz.strings_Cut s ⟨#[63]⟩ m wr (by omega) hm')
   rw [show (⟨#[63]⟩ : ByteArray).data.toList = [63] from rfl,Gs.cut_is] at KC
   obtain ⟨pb,hpb⟩ : ∃ z : ByteArray,(⟨(s.data.toList.take (Gs.pos 63 s.data.toList)).toArray⟩ : ByteArray) = z:=⟨_,rfl⟩
   obtain ⟨qb,hqb⟩ : ∃ z : ByteArray,(⟨(s.data.toList.drop (Gs.pos 63 s.data.toList + 1)).toArray⟩ : ByteArray) = z:=⟨_,rfl⟩
   obtain ⟨is,his⟩ : ∃ b,decide (Gs.pos 63 s.data.toList < s.data.toList.length) = b:=⟨_,rfl⟩
   simp only [hpb,hqb,his] at KC
   have HPL:=Lib.hid (show pb.data.toList = s.data.toList.take (Gs.pos 63 s.data.toList) by rw [← hpb])
   have HQL:=Lib.hid (show qb.data.toList = s.data.toList.drop (Gs.pos 63 s.data.toList + 1) by rw [← hqb])
   have hp1 : 1 ≤ pb.size:=by
    have h1:=ok_pos hok
    have h2 : pb.data.toList.length = pb.size:=rfl
    have h3:=Gs.pos_le 63 s.data.toList
    rw [HPL.out,List.length_take] at h2
    omega
   have HPS:=Lib.hid (show pb.size ≤ 100000 by
    have h1 : pb.data.toList.length = pb.size:=rfl
    have h2 : s.data.toList.length = s.size:=rfl
    rw [HPL.out,List.length_take] at h1; omega)
   have HQS:=Lib.hid (show qb.size ≤ 90000 by
    have h1 : qb.data.toList.length = qb.size:=rfl
    have h2 : s.data.toList.length = s.size:=rfl
    rw [HQL.out,List.length_drop] at h1; omega)
   clear hpb hqb his hm' hb3 hok
   go_wp2_with fail
   refine KC.out.mono ?_
   rintro e w5 ⟨rfl,n,hw5⟩
   have HB5:=Lib.hid (show Below W1.heap.size W1 w5 by rw [hw5]; exact below_drewN HBR.out n)
   clear hw5
   go_wp2_with fail
   obtain ⟨p1,hp⟩ : ∃ z,pb.extract 1 pb.size = z:=⟨_,rfl⟩
   rw [hp]
   have HSEG:=Lib.hid (show Gt.segs s.data.toList = Gs.parts 47 [] p1.data.toList by
    unfold Gt.segs
    rw [← HPL.out,← hp,Lib.extract_data,List.take_of_length_le]
    rw [List.length_drop]; exact Nat.le_refl _)
   have HP1P:=Lib.hid (show p1.size + 1 ≤ pb.size by
    have h1 : (pb.extract 1 pb.size).data.toList.length = p1.size:=by rw [hp]; rfl
    have h2 : pb.data.toList.length = pb.size:=rfl
    rw [Lib.extract_data,List.length_take,List.length_drop] at h1; omega)
   have HP1S:=Lib.hid (show p1.size ≤ 100000 by
    have h1 : (pb.extract 1 pb.size).data.toList.length = p1.size:=by rw [hp]; rfl
    have h2 : pb.data.toList.length = pb.size:=rfl
    have h3:=HPS.out
    rw [Lib.extract_data,List.length_take,List.length_drop] at h1; omega)
   have HT5:=Lib.hid ((HB5.out.block _ (by rw [HSZ.out]; omega)).trans HC0.out)
   have HE5:=Lib.hid ((HB5.out.block _ (by rw [HSZ.out]; omega)).trans HC1.out)
   have HBW5:=Lib.hid (HB.out.trans (HB5.out.mono HB.out.size))
   have HZ5:=Lib.hid (show w.heap.size + 2 ≤ w5.heap.size by have:=HB5.out.size; rw [HSZ.out] at this; exact this)
   clear hp hp1 KC KA K1 K2 HB5 HBR HB2 HB HC0 HC1 HW1
   refine (tg_split p1 47 w5 (by have:=HP1S.out; omega) (HM.out.below HBW5.out h0)).mono ?_
   rintro e w6 ⟨D,hD,rfl,hw6⟩
   have HB6:=Lib.hid (show Below w5.heap.size w5 w6 by rw [hw6]; exact (Below.refl _ _).alloc (Nat.le_refl _) _)
   have HSR:=Lib.hid (show SR w6 (.slice (some ⟨w5.heap.size,0,none⟩) D.length D.length) D from .inr ⟨w5.heap.size,0,D.length,rfl,by rw [hw6]; simp,fun j hj => by
    have hnew : w6.heap[w5.heap.size]? = some (.cells (D.map Value.string).toArray 9 (0,0)):=by rw [hw6]; exact World.alloc_heap_new _ _
    simp [World.cell?,hnew,List.getElem?_eq_getElem hj]⟩)
   have HD:=Lib.hid hD
   have HDL:=Lib.hid (show D.length ≤ 100000 by
    have h1:=Gs.parts_many 47 p1.data.toList []
    rw [← hD,List.length_map] at h1
    have h2 : p1.data.toList.length = p1.size:=rfl
    have h3:=ok_pos HOK.out
    have h4 : pb.data.toList.length = pb.size:=rfl
    have h5:=HPS.out
    have h6:=HP1S.out
    have h7:=HP1P.out
    omega)
   have HDS:=Lib.hid (fun z (hz : z ∈ D) => show z.size ≤ 1000000 by
    have h1:=Gs.parts_len 47 p1.data.toList [] z.data.toList (by rw [← hD]; exact List.mem_map.2 ⟨z,hz,rfl⟩)
    have h2 : p1.data.toList.length = p1.size:=rfl
    have h3 : z.data.toList.length = z.size:=rfl
    have h4:=HP1S.out
    simp at h1
    omega)
   clear hw6 hD
   go_wp2_with fail
   refine (tg_madeW 50 Gt.seg _ D w6 HSR.out HDL.out part_enter (fun z hz W => tg_part z W (HDS.out z hz))).mono ?_
   rintro e w7 ⟨hor,hb7⟩
   have HB7:=Lib.hid (show Below w5.heap.size w5 w7 from HB6.out.trans (hb7.mono HB6.out.size))
   clear hb7
   rw [HD.out,← HSEG.out] at hor
   have HT7:=Lib.hid ((HB7.out.block _ (by have:=HZ5.out; omega)).trans HT5.out)
   have HE7:=Lib.hid ((HB7.out.block _ (by have:=HZ5.out; omega)).trans HE5.out)
   have HBW7:=Lib.hid (HBW5.out.trans (HB7.out.mono HBW5.out.size))
   have HZ7:=Lib.hid (show w.heap.size + 2 ≤ w7.heap.size from Nat.le_trans HZ5.out HB7.out.size)
   clear HB7 HB6 HSR HDS HT5 HE5 HBW5
   rcases hor with ⟨R,r,h1,rfl,hrow⟩ | ⟨h1,rfl⟩
   ·have HP1:=Lib.hid h1
    have HROW:=Lib.hid hrow
    obtain ⟨pr,cr,hr⟩:=hrow.slice
    obtain ⟨nr,hnr⟩ : ∃ z,R.length = z:=⟨_,rfl⟩
    rw [hnr] at hr
    subst hr
    have c0 : w7.cell? ⟨w.heap.size,0,none⟩ = some (.slice none 0 0):=by simp [World.cell?,HT7.out]
    have z0 : w7.frozen? ⟨w.heap.size,0,none⟩ = false:=frozen_of_row _ _ _ _ _ HT7.out
    clear h1 hnr
    go_wp2_with fail
    obtain ⟨w8,hw8⟩ : ∃ Z,w7.setCell ⟨w.heap.size,0,none⟩ (.slice pr nr cr) = Z:=⟨_,rfl⟩
    rw [hw8]
    have HT8:=Lib.hid (show w8.heap[w.heap.size]? = some (.cells #[.slice pr nr cr,.slice none 0 0] 36 (0,0)) by
     rw [← hw8]; exact heap_setCell_same _ _ 0 _ _ (.slice pr nr cr) HT7.out)
    have HE8:=Lib.hid (show w8.heap[w.heap.size + 1]? = some (.cells #[.int .i64 0] 26 (0,0)) by
     rw [← hw8,Below.heap_setCell _ _ _ _ (by simp)]; exact HE7.out)
    have HR8:=Lib.hid (show SwRow w8 (.slice pr nr cr) R by rw [← hw8]; exact HROW.out.setT HT7.out (by decide) 0 _)
    have HBW8:=Lib.hid (show Below w.heap.size w w8 by rw [← hw8]; exact HBW7.out.setCell (Nat.le_refl _) _)
    have HZ8:=Lib.hid (show w.heap.size + 2 ≤ w8.heap.size by rw [← hw8]; simpa using HZ7.out)
    clear hw8 c0 z0 HT7 HE7 HROW HBW7 HZ7
    refine (tg_split qb 38 w8 (by have:=HQS.out; omega) (HM.out.below HBW8.out h0)).mono ?_
    rintro e w9 ⟨D2,hD2,rfl,hw9⟩
    have hnew : w9.heap[w8.heap.size]? = some (.cells (D2.map Value.string).toArray 9 (0,0)):=by rw [hw9]; exact World.alloc_heap_new _ _
    have HB9:=Lib.hid (show Below w8.heap.size w8 w9 by rw [hw9]; exact (Below.refl _ _).alloc (Nat.le_refl _) _)
    have HD2L:=Lib.hid (show D2.length ≤ 100000 by
     have h1:=Gs.parts_many 38 qb.data.toList []
     rw [← hD2,List.length_map] at h1
     have h2 : qb.data.toList.length = qb.size:=rfl
     have h3:=HQS.out
     omega)
    have HD2S:=Lib.hid (fun z (hz : z ∈ D2) => show z.size ≤ 1000000 by
     have h1:=Gs.parts_len 38 qb.data.toList [] z.data.toList (by rw [← hD2]; exact List.mem_map.2 ⟨z,hz,rfl⟩)
     have h2 : qb.data.toList.length = qb.size:=rfl
     have h3 : z.data.toList.length = z.size:=rfl
     have h4:=HQS.out
     simp at h1
     omega)
    have HQR:=Lib.hid (show (D2.filter fun s => !s.data.toList.isEmpty).map (·.data.toList) = Gt.qrys s.data.toList by
     unfold Gt.qrys
     rw [← HQL.out,← hD2,List.filter_map]; rfl)
    have KST:=Lib.hid (tg_strike w8.heap.size D2.length D2 w9 hnew (Nat.le_refl _) (by have:=HD2L.out; omega))
    clear hD2 hnew hw9
    go_wp2_with fail
    refine KST.out.mono ?_
    rintro e w10 ⟨v,rfl,hsr,hb10⟩
    have HB10:=Lib.hid (show Below w8.heap.size w8 w10 from HB9.out.trans hb10)
    have HSR:=Lib.hid hsr
    have HFL:=Lib.hid (show (D2.filter fun s => !s.data.toList.isEmpty).length ≤ 100000 from Nat.le_trans (List.length_filter_le _ _) HD2L.out)
    have HFS:=Lib.hid (fun z (hz : z ∈ D2.filter fun s => !s.data.toList.isEmpty) => HD2S.out z (List.mem_filter.1 hz).1)
    obtain ⟨F,hF⟩ : ∃ z,(D2.filter fun s => !s.data.toList.isEmpty) = z:=⟨_,rfl⟩
    rw [hF] at HSR HQR HFL HFS
    clear hb10 hsr KST HB9 HD2S HD2L hF
    go_wp2_with fail
    refine (tg_madeP 53 Gt.pairOf v F w10 HSR.out HFL.out pair_enter (fun z hz W hbW => tg_pair z W (HFS.out z hz)
     (HM.out.below (HBW8.out.trans ((HB10.out.trans (hbW.mono HB10.out.size)).mono (by have:=HZ8.out; omega))) h0) (by have:=hbW.size; have:=HB10.out.size; have:=HZ8.out; omega))).mono ?_
    rintro e w11 ⟨hor,hb11⟩
    have HB11:=Lib.hid (show Below w8.heap.size w8 w11 from HB10.out.trans (hb11.mono HB10.out.size))
    clear hb11
    rw [HQR.out] at hor
    have HT11:=Lib.hid ((HB11.out.block _ (by have:=HZ8.out; omega)).trans HT8.out)
    have HE11:=Lib.hid ((HB11.out.block _ (by have:=HZ8.out; omega)).trans HE8.out)
    have HBW11:=Lib.hid (HBW8.out.trans (HB11.out.mono HBW8.out.size))
    have HR11:=Lib.hid (HR8.out.below HB11.out)
    clear HB11 HB10 HSR HFS HT8 HE8 HBW8 HR8
    rcases hor with ⟨Q,q,h1,rfl,hrow⟩ | ⟨h1,rfl⟩
    ·have HPQ:=Lib.hid (show Gt.parse s.data.toList = some (R,Q) by rw [Gt.parse_is HOK.out HP1.out,h1]; rfl)
     have HROW:=Lib.hid hrow
     obtain ⟨pq,nq,cq,hq⟩:=hrow.slice
     subst hq
     have c1 : w11.cell? ⟨w.heap.size,1,none⟩ = some (.slice none 0 0):=by simp [World.cell?,HT11.out]
     have z1 : w11.frozen? ⟨w.heap.size,1,none⟩ = false:=frozen_of_row _ _ _ _ _ HT11.out
     have c0 : w11.cell? ⟨w.heap.size,0,none⟩ = some (.slice pr nr cr):=by simp [World.cell?,HT11.out]
     have z0 : w11.frozen? ⟨w.heap.size,0,none⟩ = false:=frozen_of_row _ _ _ _ _ HT11.out
     have c2 : w11.cell? ⟨w.heap.size + 1,0,none⟩ = some (.int .i64 0):=by simp [World.cell?,HE11.out]
     have z2 : w11.frozen? ⟨w.heap.size + 1,0,none⟩ = false:=frozen_of_row _ _ _ _ _ HE11.out
     clear h1 hrow
     go_wp2_with fail
     obtain ⟨w12,hw12⟩ : ∃ Z,((((w11.setCell ⟨w.heap.size,1,none⟩ (.slice pq nq cq)).setCell ⟨w.heap.size,0,none⟩ (.slice pr nr cr)).setCell ⟨w.heap.size,1,none⟩ (.slice pq nq cq)).setCell ⟨w.heap.size + 1,0,none⟩ (.int .i64 0)) = Z:=⟨_,rfl⟩
     rw [hw12]
     have t1 : (w11.setCell ⟨w.heap.size,1,none⟩ (.slice pq nq cq)).heap[w.heap.size]? = some (.cells #[.slice pr nr cr,.slice pq nq cq] 36 (0,0)):=heap_setCell_same _ _ 1 _ _ (.slice pq nq cq) HT11.out
     have t2 : ((w11.setCell ⟨w.heap.size,1,none⟩ (.slice pq nq cq)).setCell ⟨w.heap.size,0,none⟩ (.slice pr nr cr)).heap[w.heap.size]? = some (.cells #[.slice pr nr cr,.slice pq nq cq] 36 (0,0)):=heap_setCell_same _ _ 0 _ _ (.slice pr nr cr) t1
     have t3 : (((w11.setCell ⟨w.heap.size,1,none⟩ (.slice pq nq cq)).setCell ⟨w.heap.size,0,none⟩ (.slice pr nr cr)).setCell ⟨w.heap.size,1,none⟩ (.slice pq nq cq)).heap[w.heap.size]? = some (.cells #[.slice pr nr cr,.slice pq nq cq] 36 (0,0)):=heap_setCell_same _ _ 1 _ _ (.slice pq nq cq) t2
     have e3 : (((w11.setCell ⟨w.heap.size,1,none⟩ (.slice pq nq cq)).setCell ⟨w.heap.size,0,none⟩ (.slice pr nr cr)).setCell ⟨w.heap.size,1,none⟩ (.slice pq nq cq)).heap[w.heap.size + 1]? = some (.cells #[.int .i64 0] 26 (0,0)):=by
      rw [Below.heap_setCell _ _ _ _ (by simp),Below.heap_setCell _ _ _ _ (by simp),Below.heap_setCell _ _ _ _ (by simp)]; exact HE11.out
     have r1:=HR11.out.setT HT11.out (by decide) 1 (.slice pq nq cq)
     have r2:=r1.setT t1 (by decide) 0 (.slice pr nr cr)
     have r3:=r2.setT t2 (by decide) 1 (.slice pq nq cq)
     have q1:=HROW.out.setT HT11.out (by decide) 1 (.slice pq nq cq)
     have q2:=q1.setT t1 (by decide) 0 (.slice pr nr cr)
     have q3:=q2.setT t2 (by decide) 1 (.slice pq nq cq)
     have q4:=q3.setT e3 (by decide) 0 (.int .i64 0)
     have r4 : SwRow ((((w11.setCell ⟨w.heap.size,1,none⟩ (.slice pq nq cq)).setCell ⟨w.heap.size,0,none⟩ (.slice pr nr cr)).setCell ⟨w.heap.size,1,none⟩ (.slice pq nq cq)).setCell ⟨w.heap.size + 1,0,none⟩ (.int .i64 0)) (.slice pr nr cr) R:=r3.setT e3 (by decide) 0 (.int .i64 0)
     have t4 : ((((w11.setCell ⟨w.heap.size,1,none⟩ (.slice pq nq cq)).setCell ⟨w.heap.size,0,none⟩ (.slice pr nr cr)).setCell ⟨w.heap.size,1,none⟩ (.slice pq nq cq)).setCell ⟨w.heap.size + 1,0,none⟩ (.int .i64 0)).heap[w.heap.size]? = some (.cells #[.slice pr nr cr,.slice pq nq cq] 36 (0,0)):=by
      rw [Below.heap_setCell _ _ _ _ (by simp)]; exact t3
     have e4:=heap_setCell_same _ _ 0 _ _ (.int .i64 0) e3
     have HBW12:=Lib.hid ((((HBW11.out.setCell (p:=⟨w.heap.size,1,none⟩) (Nat.le_refl _) (.slice pq nq cq)).setCell (p:=⟨w.heap.size,0,none⟩) (Nat.le_refl _) (.slice pr nr cr)).setCell (p:=⟨w.heap.size,1,none⟩) (Nat.le_refl _) (.slice pq nq cq)).setCell (p:=⟨w.heap.size + 1,0,none⟩) (Nat.le_succ _) (.int .i64 0))
     rw [hw12] at q4 r4 t4 e4 HBW12
     have HQ4:=Lib.hid q4
     have HR4:=Lib.hid r4
     clear t1 t2 t3 e3 r1 r2 r3 q1 q2 q3 c0 c1 c2 z0 z1 z2 q4 r4 hw12
     refine leaves_cons (f:=44) (args:=#[.pointer (some ⟨w.heap.size + 1,0,none⟩),.func (.func 45) #[] #[.pointer (some ⟨w.heap.size,0,none⟩)]]) (by simp) (by simp [go_sem]) ?_
     refine (tg_caught_idle _ _ _).mono ?_
     rintro e u' w'' ⟨rfl,rfl,rfl⟩
     have d0 : w''.cell? ⟨w.heap.size,0,none⟩ = some (.slice pr nr cr):=by simp [World.cell?,t4]
     have d1 : w''.cell? ⟨w.heap.size,1,none⟩ = some (.slice pq nq cq):=by simp [World.cell?,t4]
     have d2 : w''.cell? ⟨w.heap.size + 1,0,none⟩ = some (.int .i64 0):=by simp [World.cell?,e4]
     clear t4 e4
     simp [Leaves,settle,results,Tryz.results21,go_sem,d0,d1,d2]
     rw [HPQ.out]
     exact ⟨⟨_,_,rfl,HR4.out,HQ4.out⟩,HBW12.out⟩
    ·exact parse_doorW s w w11 HBW11.out (.slice pr nr cr) (.slice none 0 0) HT11.out HE11.out (by rw [Gt.parse_is HOK.out HP1.out,h1]; rfl) _ _ _ _ _ _ _ _ _ _ _ _ _ _ _ _ _ _ _ _ _ _ _ _ _ _ _ _ _ _ _ _ _
   ·exact parse_doorW s w w7 HBW7.out (.slice none 0 0) (.slice none 0 0) HT7.out HE7.out (Gt.parse_segs HOK.out h1) _ _ _ _ _ _ _ _ _ _ _ _ _ _ _ _ _ _ _ _ _ _ _ _ _ _ _ _ _ _ _ _ _
end Go.Proofs.YtfacmnooklljnaaGreatDoor
namespace Go.Proofs.YtfacmnooklljnaaGreatDoor
open Go.RowKit Go.Shelf
attribute [local go_sem] Oper.semAt_some
set_option maxHeartbeats 8000000
set_option maxRecDepth 100000
theorem rq_digit (i V : Nat) (vb : ByteArray) (w : World) (h : Boxed w V 9 (.string vb)) (hi : i < vb.size) (hz : vb.size ≤ 1000000) :
  Calls Tryz.prog 104 #[.int .i64 (i : Int),.pointer (some ⟨V,0,none⟩)] w fun e w' => e = .returned (.bool (Ap.fig (vb.data.toList.getD i 0))) ∧ w' = w:=by
 have hix:=fun W => index_at vb W i hi
 have hc:=h.cell
 have e : vb.data.toList.getD i 0 = vb[i]:=by rw [List.getD_eq_getElem?_getD,List.getElem?_eq_getElem (show i < vb.data.toList.length from hi)]; rfl
 rw [e]
 unfold Ap.fig
 obtain ⟨x,hx⟩ : ∃ x : Int,((vb[i]).toNat : Int) = x:=⟨_,rfl⟩
 rw [hx]
 simp only [hx] at hix
 clear h hx e
 go_enter Tryz.func104,Tryz.ntmps104
 by_cases h1 : 48 ≤ x
 ·have e1 : decide (48 ≤ x ∧ x ≤ 57) = decide (x ≤ 57):=by simp [h1]
  rw [e1]
  clear e1
  go_wp2_with (simp only [hix])
  exact bodyPost_ret (v:=.bool (decide (x ≤ 57))) (by simp [results,Tryz.results104,go_sem]) rfl ⟨rfl,rfl⟩
 ·have e1 : decide (48 ≤ x ∧ x ≤ 57) = false:=by simp [h1]
  rw [e1]
  clear e1
  go_wp2_with (simp only [hix])
  exact bodyPost_ret (v:=.bool false) (by simp [results,Tryz.results104,go_sem]) rfl ⟨rfl,rfl⟩
theorem digit_in (args : Array Value) (W : World) : (callFunc 104 args).run Tryz.prog W = .ok (.enter 104 args) W:=enters_of Tryz.func104 (by kernel_rfl) rfl args W
def LnO (A : Nat) (F : ByteArray) (V : Value) (o : Option (List UInt8 × Rq.Tg × List UInt8)) (e : Ending) (w' : World) : Prop:=match o with
 | none => e = .panicked [{ v:=stat 400,recovered:=false }]
 | some (m,g,v) => e = .returned (.tuple #[]) ∧ ∃ (p q : Option Addr) (n c k d : Nat),w'.heap[A]? = some (lkC F V ⟨m.toArray⟩ ⟨v.toArray⟩ (.slice p n c) (.slice q k d)) ∧ SwRow w' (.slice p n c) g.1 ∧ PrRow w' (.slice q k d) g.2
def liF (A G : Nat) (F mb vb : ByteArray) (p pp qp : Option Addr) (n c np pc qn qc : Nat) : Nat → Value → Prop
 | 0,v => v = .pointer (some ⟨A,0,none⟩)
 | 1,v => v = .pointer (some ⟨A,0,none⟩)
 | 2,v => v = .pointer (some ⟨A,0,none⟩)
 | 3,v => v = .slice (some ⟨G,0,none⟩) 3 3
 | 4,v => v = .pointer (some ⟨G,0,none⟩)
 | 5,v => v = .string mb
 | 6,v => v = .agg #[.slice pp np pc,.slice qp qn qc]
 | 7,v => v = .slice (some ⟨G,0,none⟩) 3 3
 | 8,v => v = .pointer (some ⟨G,2,none⟩)
 | 9,v => v = .string vb
 | 10,v => v = .pointer (some ⟨A,0,none⟩)
 | 11,v => v = .pointer (some ⟨A,2,none⟩)
 | 12,v => True
 | 13,v => v = .pointer (some ⟨A,0,none⟩)
 | 14,v => v = .pointer (some ⟨A,4,none⟩)
 | 15,v => True
 | 16,v => v = .pointer (some ⟨A,0,none⟩)
 | 17,v => v = .pointer (some ⟨A,3,none⟩)
 | 18,v => True
 | _,_ => False
def liG (A G : Nat) (F mb vb : ByteArray) (p pp qp : Option Addr) (n c np pc qn qc : Nat) (f : Nat → Bool) (j : Nat) (w : World) (v : Value) : Prop:=liF A G F mb vb p pp qp n c np pc qn qc j v
structure liT (w0 : World) (A G : Nat) (F mb vb : ByteArray) (p pp qp : Option Addr) (n c np pc qn qc : Nat) (f : Nat → Bool) (w : World) : Prop where
 bel : Below A w0 w
 size : w.heap.size = w0.heap.size
 row : ∃ a b P Q,w.heap[A]? = some (lkC F (.slice p n c) a b P Q) ∧ (f 12 = true → a = mb) ∧ (f 15 = true → P = .slice pp np pc ∧ Q = .slice qp qn qc) ∧ (f 18 = true → b = vb)
 oth : ∀ j,j ≠ A → w.heap[j]? = w0.heap[j]?
theorem li_true {f : Nat → Bool} {i j : Nat} (hn : j ≠ i) (h : (if j = i then true else f j) = true) : f j = true:=by simpa [hn] using h
theorem liT.step {w0 : World} {A G : Nat} {F mb vb : ByteArray} {p pp qp : Option Addr} {n c np pc qn qc : Nat} {w : World} {f : Nat → Bool} (i : Nat) (h : liT w0 A G F mb vb p pp qp n c np pc qn qc f w) (h12 : 12 ≠ i) (h15 : 15 ≠ i) (h18 : 18 ≠ i) : liT w0 A G F mb vb p pp qp n c np pc qn qc (fun j => if j = i then true else f j) w:=by
 obtain ⟨a,b,P,Q,h1,h2,h3,h4⟩:=h.row
 exact ⟨h.bel,h.size,⟨a,b,P,Q,h1,fun e => h2 (li_true h12 e),fun e => h3 (li_true h15 e),fun e => h4 (li_true h18 e)⟩,h.oth⟩
theorem liT.put12 {w0 : World} {A G : Nat} {F mb vb : ByteArray} {p pp qp : Option Addr} {n c np pc qn qc : Nat} {w : World} {f : Nat → Bool} (h : liT w0 A G F mb vb p pp qp n c np pc qn qc f w) : liT w0 A G F mb vb p pp qp n c np pc qn qc (fun j => if j = 12 then true else f j) (w.setCell ⟨A,2,none⟩ (.string mb)):=by
 obtain ⟨a,b,P,Q,h1,h2,h3,h4⟩:=h.row
 unfold lkC at h1
 have hr:=heap_setCell_same w A 2 _ _ (.string mb) h1
 exact ⟨h.bel.setCell (p:=⟨A,2,none⟩) (Nat.le_refl A) _,by have:=h.size; simpa using this,⟨mb,b,P,Q,by rw [hr]; simp [lkC],fun _ => rfl,fun e => h3 (li_true (by decide) e),fun e => h4 (li_true (by decide) e)⟩,fun j hj => (Below.heap_setCell _ _ _ _ (by show j ≠ A; exact hj)).trans (h.oth j hj)⟩
theorem liT.put18 {w0 : World} {A G : Nat} {F mb vb : ByteArray} {p pp qp : Option Addr} {n c np pc qn qc : Nat} {w : World} {f : Nat → Bool} (h : liT w0 A G F mb vb p pp qp n c np pc qn qc f w) : liT w0 A G F mb vb p pp qp n c np pc qn qc (fun j => if j = 18 then true else f j) (w.setCell ⟨A,3,none⟩ (.string vb)):=by
 obtain ⟨a,b,P,Q,h1,h2,h3,h4⟩:=h.row
 unfold lkC at h1
 have hr:=heap_setCell_same w A 3 _ _ (.string vb) h1
 exact ⟨h.bel.setCell (p:=⟨A,3,none⟩) (Nat.le_refl A) _,by have:=h.size; simpa using this,⟨a,vb,P,Q,by rw [hr]; simp [lkC],fun e => h2 (li_true (by decide) e),fun e => h3 (li_true (by decide) e),fun _ => rfl⟩,fun j hj => (Below.heap_setCell _ _ _ _ (by show j ≠ A; exact hj)).trans (h.oth j hj)⟩
theorem liT.put15 {w0 : World} {A G : Nat} {F mb vb : ByteArray} {p pp qp : Option Addr} {n c np pc qn qc : Nat} {w : World} {f : Nat → Bool} (h : liT w0 A G F mb vb p pp qp n c np pc qn qc f w) : liT w0 A G F mb vb p pp qp n c np pc qn qc (fun j => if j = 15 then true else f j) ((w.setCell ⟨A,4,none⟩ (.slice pp np pc)).setCell ⟨A,5,none⟩ (.slice qp qn qc)):=by
 obtain ⟨a,b,P,Q,h1,h2,h3,h4⟩:=h.row
 unfold lkC at h1
 have hr0:=heap_setCell_same w A 4 _ _ (.slice pp np pc) h1
 have hr:=heap_setCell_same _ A 5 _ _ (.slice qp qn qc) hr0
 exact ⟨(h.bel.setCell (p:=⟨A,4,none⟩) (Nat.le_refl A) _).setCell (p:=⟨A,5,none⟩) (Nat.le_refl A) _,by have:=h.size; simpa using this,⟨a,b,_,_,by rw [hr]; simp [lkC],fun e => h2 (li_true (by decide) e),fun _ => ⟨rfl,rfl⟩,fun e => h4 (li_true (by decide) e)⟩,fun j hj => ((Below.heap_setCell _ _ _ _ (by show j ≠ A; exact hj)).trans (Below.heap_setCell _ _ _ _ (by show j ≠ A; exact hj))).trans (h.oth j hj)⟩
def liSlot (i : Nat) : Nat:=([34,35,36,37,38,39,40,41,42,43,44,45,8,46,47,9,48,49,10] : List Nat).getD i 10
theorem liSlot_lt (i : Nat) : liSlot i < 79:=by
 match i with
 | 0 | 1 | 2 | 3 | 4 | 5 | 6 | 7 | 8 | 9 | 10 | 11 | 12 | 13 | 14 | 15 | 16 | 17 | 18 => decide
 | n + 19 => show 10 < 79; decide
theorem liSlot_inj : ∀ i j,i < 19 → j < 19 → liSlot i = liSlot j → i = j:=by
 have h : ∀ i j : Fin 19,liSlot i.val = liSlot j.val → i = j:=by decide +kernel
 intro i j hi hj e
 have:=h ⟨i,hi⟩ ⟨j,hj⟩ e
 simpa using this
theorem liNot : ∀ i,i < 19 → liSlot i ≠ 0 ∧ liSlot i ≠ 2 ∧ liSlot i ≠ 3:=by
 have h : ∀ i : Fin 19,liSlot i.val ≠ 0 ∧ liSlot i.val ≠ 2 ∧ liSlot i.val ≠ 3:=by decide +kernel
 exact fun i hi => h ⟨i,hi⟩
theorem rq_line (A : Nat) (F : ByteArray) (p : Option Addr) (n c : Nat) (w : World) (h : w.heap[A]? = some (lkC F (.slice p n c) ⟨#[]⟩ ⟨#[]⟩ (.slice none 0 0) (.slice none 0 0))) (hF : F.size ≤ 250) (hm : Mx w) (hA : 0 < A) :
  Calls Tryz.prog 71 #[.pointer (some ⟨A,0,none⟩)] w fun e w' => Below A w w' ∧ LnO A F (.slice p n c) (Rq.line F.data.toList) e w':=by
 obtain ⟨c0,c1,c2,c3,c4,c5⟩:=lk_cells h
 have hAl : A < w.heap.size:=(Array.getElem?_eq_some_iff.1 h).1
 have HSP:=Lib.hid (tg_split F 32 w (by omega) hm)
 have HM:=Lib.hid hm
 have HH:=Lib.hid h
 have HAL:=Lib.hid hAl
 have HAP:=Lib.hid hA
 have MU:=Lib.hid (fun W => rq_must 400 W)
 have MN:=Lib.hid (fun W => rq_must_no 400 W)
 have HFZ:=Lib.hid hF
 obtain ⟨o,ho⟩ : ∃ z,Rq.line F.data.toList = z:=⟨_,rfl⟩
 rw [ho]
 have HOO:=Lib.hid ho
 clear h hm c1 c2 c3 c4 c5 hAl hA hF ho
 go_enter Tryz.func71,Tryz.ntmps71
 go_wp2_with fail
 refine HSP.out.mono ?_
 rintro e w1 ⟨D,hD,rfl,hw1⟩
 have hg : w1.heap[w.heap.size]? = some (.cells (D.map Value.string).toArray 9 (0,0)):=by rw [hw1]; exact World.alloc_heap_new _ _
 have hb1 : Below w.heap.size w w1:=by rw [hw1]; exact (Below.refl _ _).alloc (Nat.le_refl _) _
 have hln : o = Rq.line3 (D.map (·.data.toList)):=by rw [← HOO.out]; unfold Rq.line; rw [hD]
 have hDs : ∀ z ∈ D,z.size ≤ 250:=fun z hz => by
  have h1:=Gs.parts_len 32 F.data.toList [] z.data.toList (by rw [← hD]; exact List.mem_map.2 ⟨z,hz,rfl⟩)
  have h2 : F.data.toList.length = F.size:=rfl
  have h3 : z.data.toList.length = z.size:=rfl
  have h4:=HFZ.out
  simp only [List.length_nil] at h1
  omega
 obtain ⟨G,hG⟩ : ∃ z,w.heap.size = z:=⟨_,rfl⟩
 rw [hG] at hg ⊢
 have HG:=Lib.hid hG
 have HB1:=Lib.hid hb1
 clear hw1 hD hb1 hG c0
 by_cases h3 : D.length = 3
 rotate_left
 ·have e3 : ((D.length : Int) == 3) = false:=beq_eq_false_iff_ne.2 (by omega)
  have HO:=Lib.hid (show o = none by rw [hln]; exact Rq.line3_len (by simpa using h3))
  obtain ⟨N,hN⟩ : ∃ z,D.length = z:=⟨_,rfl⟩
  rw [hN] at e3 ⊢
  clear hN h3 hln hDs hg
  go_wp2_with fail
  refine (MN.out _).mono ?_
  rintro e w5 ⟨rfl,rfl⟩
  exact ⟨rfl,HB1.out.mono (Nat.le_of_lt HAL.out),by rw [HO.out]; rfl⟩
 match D,h3 with
 | [mb,tb,vb],_ =>
 have hg0 : w1.cell? ⟨G,0,none⟩ = some (.string mb):=by simp [World.cell?,hg]
 have KT:=Lib.hid (fun W => tok_token mb W (by have:=hDs mb (by simp); omega))
 obtain ⟨tk,htk⟩ : ∃ z,Tp.isTok mb.data.toList = z:=⟨_,rfl⟩
 rw [htk] at KT
 have HG1:=Lib.hid hg
 have HTZ:=Lib.hid (hDs tb (by simp))
 have HVZ:=Lib.hid (hDs vb (by simp))
 have hlo : o = Rq.line3 [mb.data.toList,tb.data.toList,vb.data.toList]:=hln
 have HLN:=Lib.hid hlo
 have HTK:=Lib.hid htk
 clear hln hDs hg htk hlo
 simp only [List.length_cons,List.length_nil,Nat.reduceAdd]
 cases tk with
 | false =>
  have HO:=Lib.hid (show o = none by rw [HLN.out]; exact Rq.line3_tok HTK.out)
  go_wp2_with fail
  refine (KT.out _).mono ?_
  rintro e w2 ⟨rfl,hb2⟩
  have HB2:=Lib.hid (HB1.out.trans (hb2.mono HB1.out.size))
  clear hb2
  go_wp2_with fail
  refine (MN.out _).mono ?_
  rintro e w5 ⟨rfl,rfl⟩
  exact ⟨rfl,HB2.out.mono (Nat.le_of_lt HAL.out),by rw [HO.out]; rfl⟩
 | true =>
 go_wp2_with fail
 refine (KT.out _).mono ?_
 rintro e w2 ⟨rfl,hb2⟩
 have HB2:=Lib.hid (HB1.out.trans (hb2.mono HB1.out.size))
 have HG2:=Lib.hid ((hb2.block _ (Array.getElem?_eq_some_iff.1 HG1.out).1).trans HG1.out)
 clear hb2 hg0 HG1
 go_wp2_with fail
 refine (MU.out _).mono ?_
 rintro e w9 ⟨rfl,hw9⟩
 subst hw9
 have g1 : w9.cell? ⟨G,1,none⟩ = some (.string tb):=by simp [World.cell?,HG2.out]
 have HP:=Lib.hid (tg_ParseW tb w9 (by have:=HTZ.out; omega) (HM.out.below HB2.out (by have:=HAL.out; have:=HAP.out; omega)) (by have:=HB2.out.size; have:=HAL.out; omega))
 obtain ⟨og,hog⟩ : ∃ z,Gt.parse tb.data.toList = z:=⟨_,rfl⟩
 rw [hog] at HP
 have HOG:=Lib.hid hog
 clear hog
 go_wp2_with fail
 refine HP.out.mono ?_
 rintro e w3 ⟨hpo,hb3⟩
 have HB3:=Lib.hid (HB2.out.trans (hb3.mono HB2.out.size))
 have HG3:=Lib.hid ((hb3.block _ (Array.getElem?_eq_some_iff.1 HG2.out).1).trans HG2.out)
 clear hb3 HG2 g1 HP
 cases og with
 | none =>
  have hpo : e = _:=hpo
  subst hpo
  have HO:=Lib.hid (show o = none by rw [HLN.out]; exact Rq.line3_par HOG.out)
  go_wp2_with fail
  refine (MN.out _).mono ?_
  rintro e w5 ⟨rfl,rfl⟩
  exact ⟨rfl,(HB3.out.mono (Nat.le_of_lt HAL.out)).alloc (by have:=HB3.out.size; have:=HAL.out; omega) _,by rw [HO.out]; rfl⟩
 | some g =>
 obtain ⟨P,Q⟩:=g
 obtain ⟨vp,vq,rfl,hvp,hvq⟩:=hpo
 obtain ⟨pp,pc,rfl⟩:=hvp.slice
 obtain ⟨qp,qn,qc,rfl⟩:=hvq.slice
 obtain ⟨np,hnp⟩ : ∃ z,P.length = z:=⟨_,rfl⟩
 rw [hnp] at hvp ⊢
 obtain ⟨w4,hw4⟩ : ∃ z,w3.alloc (.cells #[.slice pp np pc,.slice qp qn qc] 36) = z:=⟨_,rfl⟩
 have hb4 : Below w3.heap.size w3 w4:=by rw [← hw4]; exact (Below.refl _ _).alloc (Nat.le_refl _) _
 obtain ⟨T,hT⟩ : ∃ z,w3.heap.size = z:=⟨_,rfl⟩
 have HT4:=Lib.hid (show w4.heap[T]? = some (.cells #[.slice pp np pc,.slice qp qn qc] 36 (0,0)) by rw [← hw4,← hT]; exact World.alloc_heap_new _ _)
 have HB4:=Lib.hid (HB3.out.trans (hb4.mono HB3.out.size))
 have HG4:=Lib.hid ((hb4.block _ (Array.getElem?_eq_some_iff.1 HG3.out).1).trans HG3.out)
 have HA4:=Lib.hid ((HB4.out.block _ HAL.out).trans HH.out)
 have HVP:=Lib.hid (show SwRow w4 (.slice pp np pc) P from hvp.below hb4)
 have HVQ:=Lib.hid (show PrRow w4 (.slice qp qn qc) Q from hvq.belowW hb4)
 have HW4:=Lib.hid hw4
 have HTT:=Lib.hid hT
 have HGA:=Lib.hid (show G ≠ A by have h1:=HG.out; have h2:=HAL.out; omega)
 have HTA:=Lib.hid (show T ≠ A by have h1:=HG.out; have h2:=HAL.out; have h3:=HB3.out.size; omega)
 clear hvp hvq hnp hw4 hT hb4 HG3
 go_wp2_with fail
 refine (MU.out _).mono ?_
 rintro e w9 ⟨rfl,hw9⟩
 rw [HW4.out] at hw9
 subst w9
 rw [HTT.out]
 go_upto_region 4 with (fail)
 refine region_slots4 liSlot (liG A G F mb vb p pp qp n c np pc qn qc) (liT w4 A G F mb vb p pp qp n c np pc qn qc) (by kernel_rfl) (by kernel_rfl) (fun i => Nat.lt_of_lt_of_le (liSlot_lt i) (by show 79 ≤ _; simp)) (fun i j hi hj h => liSlot_inj i j hi hj h) ?start ?dst ?step ?done
 case start => exact ⟨(Below.refl _ _).drew,rfl,⟨_,_,_,_,HA4.out,fun e => (by cases e),fun e => (by cases e),fun e => (by cases e)⟩,fun _ _ => rfl⟩
 case dst =>
  intro i o ho
  match i,ho with
  | 0,ho => cases ho; exact .inl rfl
  | 1,ho => cases ho; exact .inl rfl
  | 2,ho => cases ho; exact .inl rfl
  | 3,ho => cases ho; exact .inl rfl
  | 4,ho => cases ho; exact .inl rfl
  | 5,ho => cases ho; exact .inl rfl
  | 6,ho => cases ho; exact .inl rfl
  | 7,ho => cases ho; exact .inl rfl
  | 8,ho => cases ho; exact .inl rfl
  | 9,ho => cases ho; exact .inl rfl
  | 10,ho => cases ho; exact .inl rfl
  | 11,ho => cases ho; exact .inl rfl
  | 12,ho => cases ho; exact .inr rfl
  | 13,ho => cases ho; exact .inl rfl
  | 14,ho => cases ho; exact .inl rfl
  | 15,ho => cases ho; exact .inr rfl
  | 16,ho => cases ho; exact .inl rfl
  | 17,ho => cases ho; exact .inl rfl
  | 18,ho => cases ho; exact .inr rfl
  | n + 19,ho => exact absurd ho (by simp)
 case step =>
  intro f a' W i o ho hfi hpre hT hrest
  have hR : ∀ j m,j ≠ A → W.cell? ⟨j,m,none⟩ = w4.cell? ⟨j,m,none⟩:=fun j m hj => by simp only [World.cell?,hT.oth j hj]
  match i,ho with
  | 0,ho =>
   cases ho
   have q0 : a'.tmps.getD 0 undef = .pointer (some ⟨A,0,none⟩):=(hrest 0 (fun i hi => (liNot i hi).1))
   have e0:=rg_ev q0
   exact rg_same4 (.pointer (some ⟨A,0,none⟩)) (by unfold Oper.wp execOp; go_simp; all_goals ((try simp only [e0]); (try go_simp); (try rw [if_pos (by omega)]); (try rw [if_neg (by omega)]); first | done | rfl | exact ⟨rfl,rfl⟩ | trivial)) (by simp) rfl (hT.step 0 (by decide) (by decide) (by decide)) (fun j v' h => h)
  | 1,ho =>
   cases ho
   have q0 : a'.tmps.getD 0 undef = .pointer (some ⟨A,0,none⟩):=(hrest 0 (fun i hi => (liNot i hi).1))
   have e0:=rg_ev q0
   exact rg_same4 (.pointer (some ⟨A,0,none⟩)) (by unfold Oper.wp execOp; go_simp; all_goals ((try simp only [e0]); (try go_simp); (try rw [if_pos (by omega)]); (try rw [if_neg (by omega)]); first | done | rfl | exact ⟨rfl,rfl⟩ | trivial)) (by simp) rfl (hT.step 1 (by decide) (by decide) (by decide)) (fun j v' h => h)
  | 2,ho =>
   cases ho
   have q0 : a'.tmps.getD 0 undef = .pointer (some ⟨A,0,none⟩):=(hrest 0 (fun i hi => (liNot i hi).1))
   have e0:=rg_ev q0
   exact rg_same4 (.pointer (some ⟨A,0,none⟩)) (by unfold Oper.wp execOp; go_simp; all_goals ((try simp only [e0]); (try go_simp); (try rw [if_pos (by omega)]); (try rw [if_neg (by omega)]); first | done | rfl | exact ⟨rfl,rfl⟩ | trivial)) (by simp) rfl (hT.step 2 (by decide) (by decide) (by decide)) (fun j v' h => h)
  | 3,ho =>
   cases ho
   have q2 : a'.tmps.getD 2 undef = .slice (some ⟨G,0,none⟩) 3 3:=(hrest 2 (fun i hi => (liNot i hi).2.1))
   have e2:=rg_ev q2
   exact rg_same4 (.slice (some ⟨G,0,none⟩) 3 3) (by unfold Oper.wp execOp; go_simp; all_goals ((try simp only [e2]); (try go_simp); (try rw [if_pos (by omega)]); (try rw [if_neg (by omega)]); first | done | rfl | exact ⟨rfl,rfl⟩ | trivial)) (by simp) rfl (hT.step 3 (by decide) (by decide) (by decide)) (fun j v' h => h)
  | 4,ho =>
   cases ho
   have q37 : a'.tmps.getD 37 undef = .slice (some ⟨G,0,none⟩) 3 3:=(hpre { on:=3,ground:=.data } (by simp) rfl).2
   have e37:=rg_ev q37
   exact rg_same4 (.pointer (some ⟨G,0,none⟩)) (by unfold Oper.wp execOp; go_simp; all_goals ((try simp only [e37]); (try go_simp); (try rw [if_pos (by omega)]); (try rw [if_neg (by omega)]); first | done | rfl | exact ⟨rfl,rfl⟩ | trivial)) (by simp) rfl (hT.step 4 (by decide) (by decide) (by decide)) (fun j v' h => h)
  | 5,ho =>
   cases ho
   have q38 : a'.tmps.getD 38 undef = .pointer (some ⟨G,0,none⟩):=(hpre { on:=4,ground:=.data } (by simp) rfl).2
   have e38:=rg_ev q38
   have hc : W.cell? ⟨G,0,none⟩ = some (.string mb):=(hR G 0 HGA.out).trans (by simp [World.cell?,HG4.out])
   exact rg_same4 (.string mb) (by unfold Oper.wp execOp; go_simp; all_goals ((try simp only [e38]); (try go_simp); (try rw [if_pos (by omega)]); (try rw [if_neg (by omega)]); first | done | rfl | exact ⟨rfl,rfl⟩ | trivial)) (by simp) rfl (hT.step 5 (by decide) (by decide) (by decide)) (fun j v' h => h)
  | 6,ho =>
   cases ho
   have q3 : a'.tmps.getD 3 undef = .pointer (some ⟨T,0,none⟩):=(hrest 3 (fun i hi => (liNot i hi).2.2))
   have e3:=rg_ev q3
   have hc : W.cell? ⟨T,0,none⟩ = some (.slice pp np pc):=(hR T 0 HTA.out).trans (by simp [World.cell?,HT4.out])
   have hc2 : W.cell? ⟨T,1,none⟩ = some (.slice qp qn qc):=(hR T 1 HTA.out).trans (by simp [World.cell?,HT4.out])
   exact rg_same4 (.agg #[.slice pp np pc,.slice qp qn qc]) (by unfold Oper.wp execOp; go_simp; all_goals ((try simp only [e3]); (try go_simp); (try rw [if_pos (by omega)]); (try rw [if_neg (by omega)]); first | done | rfl | exact ⟨rfl,rfl⟩ | trivial)) (by simp) rfl (hT.step 6 (by decide) (by decide) (by decide)) (fun j v' h => h)
  | 7,ho =>
   cases ho
   have q2 : a'.tmps.getD 2 undef = .slice (some ⟨G,0,none⟩) 3 3:=(hrest 2 (fun i hi => (liNot i hi).2.1))
   have e2:=rg_ev q2
   exact rg_same4 (.slice (some ⟨G,0,none⟩) 3 3) (by unfold Oper.wp execOp; go_simp; all_goals ((try simp only [e2]); (try go_simp); (try rw [if_pos (by omega)]); (try rw [if_neg (by omega)]); first | done | rfl | exact ⟨rfl,rfl⟩ | trivial)) (by simp) rfl (hT.step 7 (by decide) (by decide) (by decide)) (fun j v' h => h)
  | 8,ho =>
   cases ho
   have q41 : a'.tmps.getD 41 undef = .slice (some ⟨G,0,none⟩) 3 3:=(hpre { on:=7,ground:=.data } (by simp) rfl).2
   have e41:=rg_ev q41
   exact rg_same4 (.pointer (some ⟨G,2,none⟩)) (by unfold Oper.wp execOp; go_simp; all_goals ((try simp only [e41]); (try go_simp); (try rw [if_pos (by omega)]); (try rw [if_neg (by omega)]); first | done | rfl | exact ⟨rfl,rfl⟩ | trivial)) (by simp) rfl (hT.step 8 (by decide) (by decide) (by decide)) (fun j v' h => h)
  | 9,ho =>
   cases ho
   have q42 : a'.tmps.getD 42 undef = .pointer (some ⟨G,2,none⟩):=(hpre { on:=8,ground:=.data } (by simp) rfl).2
   have e42:=rg_ev q42
   have hc : W.cell? ⟨G,2,none⟩ = some (.string vb):=(hR G 2 HGA.out).trans (by simp [World.cell?,HG4.out])
   exact rg_same4 (.string vb) (by unfold Oper.wp execOp; go_simp; all_goals ((try simp only [e42]); (try go_simp); (try rw [if_pos (by omega)]); (try rw [if_neg (by omega)]); first | done | rfl | exact ⟨rfl,rfl⟩ | trivial)) (by simp) rfl (hT.step 9 (by decide) (by decide) (by decide)) (fun j v' h => h)
  | 10,ho =>
   cases ho
   have q34 : a'.tmps.getD 34 undef = .pointer (some ⟨A,0,none⟩):=(hpre { on:=0,ground:=.data } (by simp) rfl).2
   have e34:=rg_ev q34
   exact rg_same4 (.pointer (some ⟨A,0,none⟩)) (by unfold Oper.wp execOp; go_simp; all_goals ((try simp only [e34]); (try go_simp); (try rw [if_pos (by omega)]); (try rw [if_neg (by omega)]); first | done | rfl | exact ⟨rfl,rfl⟩ | trivial)) (by simp) rfl (hT.step 10 (by decide) (by decide) (by decide)) (fun j v' h => h)
  | 11,ho =>
   cases ho
   have q44 : a'.tmps.getD 44 undef = .pointer (some ⟨A,0,none⟩):=(hpre { on:=10,ground:=.data } (by simp) rfl).2
   have e44:=rg_ev q44
   exact rg_same4 (.pointer (some ⟨A,2,none⟩)) (by unfold Oper.wp execOp; go_simp; all_goals ((try simp only [e44]); (try go_simp); (try rw [if_pos (by omega)]); (try rw [if_neg (by omega)]); first | done | rfl | exact ⟨rfl,rfl⟩ | trivial)) (by simp) rfl (hT.step 11 (by decide) (by decide) (by decide)) (fun j v' h => h)
  | 12,ho =>
   cases ho
   have q45 : a'.tmps.getD 45 undef = .pointer (some ⟨A,2,none⟩):=(hpre { on:=11,ground:=.data } (by simp) rfl).2
   have q39 : a'.tmps.getD 39 undef = .string mb:=(hpre { on:=5,ground:=.data } (by simp) rfl).2
   have e45:=rg_ev q45
   have e39:=rg_ev q39
   obtain ⟨a,b,P1,Q1,hd,_⟩:=hT.row
   unfold lkC at hd
   have hz2 : W.frozen? ⟨A,2,none⟩ = false:=frozen_of_row _ _ _ _ _ hd
   have hc2 : W.cell? ⟨A,2,none⟩ = some (.string a):=by simp [World.cell?,hd]
   have TN:=hT.put12
   have HTN:=Lib.hid TN
   clear TN hd
   unfold Oper.wp execOp
   go_simp
   first | done | (refine ⟨trivial,?_,fun j _ h => h⟩; have h:=HTN.out; simpa using h)
  | 13,ho =>
   cases ho
   have q35 : a'.tmps.getD 35 undef = .pointer (some ⟨A,0,none⟩):=(hpre { on:=1,ground:=.data } (by simp) rfl).2
   have e35:=rg_ev q35
   exact rg_same4 (.pointer (some ⟨A,0,none⟩)) (by unfold Oper.wp execOp; go_simp; all_goals ((try simp only [e35]); (try go_simp); (try rw [if_pos (by omega)]); (try rw [if_neg (by omega)]); first | done | rfl | exact ⟨rfl,rfl⟩ | trivial)) (by simp) rfl (hT.step 13 (by decide) (by decide) (by decide)) (fun j v' h => h)
  | 14,ho =>
   cases ho
   have q46 : a'.tmps.getD 46 undef = .pointer (some ⟨A,0,none⟩):=(hpre { on:=13,ground:=.data } (by simp) rfl).2
   have e46:=rg_ev q46
   exact rg_same4 (.pointer (some ⟨A,4,none⟩)) (by unfold Oper.wp execOp; go_simp; all_goals ((try simp only [e46]); (try go_simp); (try rw [if_pos (by omega)]); (try rw [if_neg (by omega)]); first | done | rfl | exact ⟨rfl,rfl⟩ | trivial)) (by simp) rfl (hT.step 14 (by decide) (by decide) (by decide)) (fun j v' h => h)
  | 15,ho =>
   cases ho
   have q47 : a'.tmps.getD 47 undef = .pointer (some ⟨A,4,none⟩):=(hpre { on:=14,ground:=.data } (by simp) rfl).2
   have q40 : a'.tmps.getD 40 undef = .agg #[.slice pp np pc,.slice qp qn qc]:=(hpre { on:=6,ground:=.data } (by simp) rfl).2
   have e47:=rg_ev q47
   have e40:=rg_ev q40
   obtain ⟨a,b,P1,Q1,hd,_⟩:=hT.row
   unfold lkC at hd
   have hz4 : W.frozen? ⟨A,4,none⟩ = false:=frozen_of_row _ _ _ _ _ hd
   have hc4 : W.cell? ⟨A,4,none⟩ = some (P1):=by simp [World.cell?,hd]
   have hz5 : W.frozen? ⟨A,5,none⟩ = false:=frozen_of_row _ _ _ _ _ hd
   have hc5 : W.cell? ⟨A,5,none⟩ = some (Q1):=by simp [World.cell?,hd]
   have TN:=hT.put15
   have HTN:=Lib.hid TN
   clear TN hd
   unfold Oper.wp execOp
   go_simp
   first | done | (refine ⟨trivial,?_,fun j _ h => h⟩; have h:=HTN.out; simpa using h)
  | 16,ho =>
   cases ho
   have q36 : a'.tmps.getD 36 undef = .pointer (some ⟨A,0,none⟩):=(hpre { on:=2,ground:=.data } (by simp) rfl).2
   have e36:=rg_ev q36
   exact rg_same4 (.pointer (some ⟨A,0,none⟩)) (by unfold Oper.wp execOp; go_simp; all_goals ((try simp only [e36]); (try go_simp); (try rw [if_pos (by omega)]); (try rw [if_neg (by omega)]); first | done | rfl | exact ⟨rfl,rfl⟩ | trivial)) (by simp) rfl (hT.step 16 (by decide) (by decide) (by decide)) (fun j v' h => h)
  | 17,ho =>
   cases ho
   have q48 : a'.tmps.getD 48 undef = .pointer (some ⟨A,0,none⟩):=(hpre { on:=16,ground:=.data } (by simp) rfl).2
   have e48:=rg_ev q48
   exact rg_same4 (.pointer (some ⟨A,3,none⟩)) (by unfold Oper.wp execOp; go_simp; all_goals ((try simp only [e48]); (try go_simp); (try rw [if_pos (by omega)]); (try rw [if_neg (by omega)]); first | done | rfl | exact ⟨rfl,rfl⟩ | trivial)) (by simp) rfl (hT.step 17 (by decide) (by decide) (by decide)) (fun j v' h => h)
  | 18,ho =>
   cases ho
   have q49 : a'.tmps.getD 49 undef = .pointer (some ⟨A,3,none⟩):=(hpre { on:=17,ground:=.data } (by simp) rfl).2
   have q43 : a'.tmps.getD 43 undef = .string vb:=(hpre { on:=9,ground:=.data } (by simp) rfl).2
   have e49:=rg_ev q49
   have e43:=rg_ev q43
   obtain ⟨a,b,P1,Q1,hd,_⟩:=hT.row
   unfold lkC at hd
   have hz3 : W.frozen? ⟨A,3,none⟩ = false:=frozen_of_row _ _ _ _ _ hd
   have hc3 : W.cell? ⟨A,3,none⟩ = some (.string b):=by simp [World.cell?,hd]
   have TN:=hT.put18
   have HTN:=Lib.hid TN
   clear TN hd
   unfold Oper.wp execOp
   go_simp
   first | done | (refine ⟨trivial,?_,fun j _ h => h⟩; have h:=HTN.out; simpa using h)
  | n + 19,ho => exact absurd ho (by simp)
 case done =>
  intro f vs W hall hT hvs
  have v0 : vs 0 = .pointer (some ⟨A,0,none⟩):=hvs 0 (by decide)
  have v1 : vs 1 = .pointer (some ⟨A,0,none⟩):=hvs 1 (by decide)
  have v2 : vs 2 = .pointer (some ⟨A,0,none⟩):=hvs 2 (by decide)
  have v3 : vs 3 = .slice (some ⟨G,0,none⟩) 3 3:=hvs 3 (by decide)
  have v4 : vs 4 = .pointer (some ⟨G,0,none⟩):=hvs 4 (by decide)
  have v5 : vs 5 = .string mb:=hvs 5 (by decide)
  have v6 : vs 6 = .agg #[.slice pp np pc,.slice qp qn qc]:=hvs 6 (by decide)
  have v7 : vs 7 = .slice (some ⟨G,0,none⟩) 3 3:=hvs 7 (by decide)
  have v8 : vs 8 = .pointer (some ⟨G,2,none⟩):=hvs 8 (by decide)
  have v9 : vs 9 = .string vb:=hvs 9 (by decide)
  have v10 : vs 10 = .pointer (some ⟨A,0,none⟩):=hvs 10 (by decide)
  have v11 : vs 11 = .pointer (some ⟨A,2,none⟩):=hvs 11 (by decide)
  obtain ⟨z12,v12⟩ : ∃ z,vs 12 = z:=⟨_,rfl⟩
  have v13 : vs 13 = .pointer (some ⟨A,0,none⟩):=hvs 13 (by decide)
  have v14 : vs 14 = .pointer (some ⟨A,4,none⟩):=hvs 14 (by decide)
  obtain ⟨z15,v15⟩ : ∃ z,vs 15 = z:=⟨_,rfl⟩
  have v16 : vs 16 = .pointer (some ⟨A,0,none⟩):=hvs 16 (by decide)
  have v17 : vs 17 = .pointer (some ⟨A,3,none⟩):=hvs 17 (by decide)
  obtain ⟨z18,v18⟩ : ∃ z,vs 18 = z:=⟨_,rfl⟩
  simp only [fillN,List.size_toArray,List.length_cons,List.length_nil,Nat.reduceAdd,show List.range 19 = [0,1,2,3,4,5,6,7,8,9,10,11,12,13,14,15,16,17,18] from rfl,List.foldl_cons,List.foldl_nil,show liSlot 0 = 34 from rfl,show liSlot 1 = 35 from rfl,show liSlot 2 = 36 from rfl,show liSlot 3 = 37 from rfl,show liSlot 4 = 38 from rfl,show liSlot 5 = 39 from rfl,show liSlot 6 = 40 from rfl,show liSlot 7 = 41 from rfl,show liSlot 8 = 42 from rfl,show liSlot 9 = 43 from rfl,show liSlot 10 = 44 from rfl,show liSlot 11 = 45 from rfl,show liSlot 12 = 8 from rfl,show liSlot 13 = 46 from rfl,show liSlot 14 = 47 from rfl,show liSlot 15 = 9 from rfl,show liSlot 16 = 48 from rfl,show liSlot 17 = 49 from rfl,show liSlot 18 = 10 from rfl,v0,v1,v2,v3,v4,v5,v6,v7,v8,v9,v10,v11,v12,v13,v14,v15,v16,v17,v18]
  clear v0 v1 v2 v3 v4 v5 v6 v7 v8 v9 v10 v11 v12 v13 v14 v15 v16 v17 v18 hvs
  obtain ⟨a,b,P1,Q1,hd,g1,g2,g3⟩:=hT.row
  have ha:=g1 (hall 12 (by decide))
  have hbv:=g3 (hall 18 (by decide))
  obtain ⟨hp1,hq1⟩:=g2 (hall 15 (by decide))
  subst ha hbv hp1 hq1
  have HBW:=Lib.hid (show Below A w W from (HB4.out.mono (Nat.le_of_lt HAL.out)).trans hT.bel)
  have HTS:=Lib.hid (show SwRow W (.slice pp np pc) P from HVP.out.keep (t:=71) HA4.out (by decide) hT.oth)
  have HPS:=Lib.hid (show PrRow W (.slice qp qn qc) Q from HVQ.out.keep (t:=71) HA4.out (by decide) hT.oth)
  have HSW:=Lib.hid (show A < W.heap.size from (Array.getElem?_eq_some_iff.1 hd).1)
  have x3 : W.cell? ⟨A,3,none⟩ = some (.string b):=by simp [World.cell?,hd,lkC]
  have HAW:=Lib.hid hd
  clear g1 g2 g3 hd hT hall
  have KC:=sl_cutprefix b ⟨#[72,84,84,80,47]⟩ W (by have:=HVZ.out; omega) (by decide)
  rw [show (⟨#[72,84,84,80,47]⟩ : ByteArray).data.toList = Rq.pH from rfl,show (⟨#[72,84,84,80,47]⟩ : ByteArray).size = 5 from rfl] at KC
  have HVN:=Lib.hid (Rq.ver_ne b.data.toList)
  by_cases hfd : b.data.toList.take 5 = Rq.pH
  rotate_left
  ·have HO:=Lib.hid (show o = none by
    rw [HLN.out]
    refine Rq.line3_ver ?_
    by_cases h0 : Rq.ver b.data.toList = 0
    ·exact h0
    ·exact absurd (HVN.out.1 h0).1 hfd)
   rw [if_neg hfd,decide_eq_false hfd] at KC
   have KC:=Lib.hid KC
   clear hfd
   go_simp
   go_wp2_with fail
   refine KC.out.mono ?_
   rintro e w9 ⟨rfl,hw9⟩
   subst w9
   go_wp2_with fail
   refine (MN.out _).mono ?_
   rintro e w9 ⟨rfl,hw9⟩
   subst w9
   exact ⟨rfl,HBW.out.alloc (Nat.le_of_lt HSW.out) _,by rw [HO.out]; rfl⟩
  rw [if_pos hfd,decide_eq_true hfd] at KC
  have hrd : (b.extract 5 b.size).data.toList = b.data.toList.drop 5:=Lib.extract_to_end b 5
  obtain ⟨r,hr⟩ : ∃ z,b.extract 5 b.size = z:=⟨_,rfl⟩
  rw [hr] at KC hrd
  have hrl : (b.data.toList.drop 5).length = r.size:=by rw [← hrd]; rfl
  have KC:=Lib.hid KC
  have HFD:=Lib.hid hfd
  have HRL:=Lib.hid hrl
  have HRD:=Lib.hid hrd
  have HRZ:=Lib.hid (show r.size ≤ 250 by
   have h1:=HVZ.out
   have h2 : b.data.toList.length = b.size:=rfl
   rw [List.length_drop] at hrl; omega)
  obtain ⟨W2,hW2⟩ : ∃ z,W.alloc (.cells #[.string r] 9) = z:=⟨_,rfl⟩
  obtain ⟨X,hX⟩ : ∃ z,W.heap.size = z:=⟨_,rfl⟩
  have hbx : Boxed W2 X 9 (.string r):=by rw [← hW2,← hX]; exact Boxed.new _ _ _
  have HB2:=Lib.hid (show Below W.heap.size W W2 by rw [← hW2]; exact (Below.refl _ _).alloc (Nat.le_refl _) _)
  have HBX:=Lib.hid hbx
  have cx:=hbx.cell
  have HW2:=Lib.hid hW2
  have HX:=Lib.hid hX
  have HFIN:=Lib.hid (show Below A w W2 from HBW.out.trans (HB2.out.mono (Nat.le_of_lt HSW.out)))
  have D0:=Lib.hid (fun (h : 0 < r.size) => rq_digit 0 X r W2 hbx h (by have:=HRZ.out; omega))
  have D2:=Lib.hid (fun (h : 2 < r.size) => rq_digit 2 X r W2 hbx h (by have:=HRZ.out; omega))
  clear hfd hrd hr hrl hbx hW2 hX
  by_cases h3 : r.size = 3
  rotate_left
  ·have HO:=Lib.hid (show o = none by
    rw [HLN.out]
    refine Rq.line3_ver ?_
    by_cases h0 : Rq.ver b.data.toList = 0
    ·exact h0
    ·exact absurd ((HVN.out.1 h0).2.1) (by rw [HRL.out]; exact h3))
   have e3 : ((r.size : Int) == 3) = false:=beq_eq_false_iff_ne.2 (by omega)
   clear h3
   go_simp
   go_wp2_with fail
   refine KC.out.mono ?_
   rintro e w9 ⟨rfl,hw9⟩
   subst w9
   go_upto_region 6 with (fail)
   rw [HW2.out,HX.out]
   go_wp2_with fail
   refine (MN.out _).mono ?_
   rintro e w9 ⟨rfl,hw9⟩
   subst w9
   exact ⟨rfl,HFIN.out,by rw [HO.out]; rfl⟩
  have e3 : ((r.size : Int) == 3) = true:=beq_iff_eq.2 (by omega)
  have hix : ∀ W,(Instr.index 9 (.string r) (.int .i64 1)).run Tryz.prog W = .ok (.int .u8 ((r[1]).toNat : Int)) W:=fun W => index_at r W 1 (by omega)
  have eg : r.data.toList.getD 1 0 = r[1]:=by rw [List.getD_eq_getElem?_getD,List.getElem?_eq_getElem (show 1 < r.data.toList.length by show 1 < r.size; omega)]; rfl
  have D0:=Lib.hid (D0.out (by omega))
  have D2:=Lib.hid (D2.out (by omega))
  obtain ⟨d0,hd0⟩ : ∃ z,Ap.fig (r.data.toList.getD 0 0) = z:=⟨_,rfl⟩
  obtain ⟨d2,hd2⟩ : ∃ z,Ap.fig (r.data.toList.getD 2 0) = z:=⟨_,rfl⟩
  rw [hd0] at D0
  rw [hd2] at D2
  have hvn:=HVN.out
  rw [← HRD.out,hd0,hd2,eg] at hvn
  have hpt : r[1] = 46 ↔ ((r[1]).toNat : Int) = 46:=⟨fun h => by rw [h]; rfl,fun h => UInt8.toNat_inj.1 (by have : (46 : UInt8).toNat = 46:=rfl; omega)⟩
  rw [hpt] at hvn
  obtain ⟨y,hy⟩ : ∃ x : Int,((r[1]).toNat : Int) = x:=⟨_,rfl⟩
  rw [hy] at hvn
  simp only [hy] at hix
  have HVN:=Lib.hid hvn
  have H3:=Lib.hid (show r.data.toList.length = 3 from h3)
  clear hy eg hvn hd0 hd2 h3 hpt
  have HNO:=Lib.hid (fun (hh : ¬ (y = 46 ∧ d0 = true ∧ d2 = true)) => show o = none by
   rw [HLN.out]
   refine Rq.line3_ver ?_
   by_cases h0 : Rq.ver b.data.toList = 0
   ·exact h0
   ·have h1:=HVN.out.1 h0
    exact absurd ⟨h1.2.2.1,h1.2.2.2⟩ hh)
  by_cases hy : y = 46
  rotate_left
  ·have HO:=Lib.hid (HNO.out (fun h => hy h.1))
   have ey : (y == 46) = false:=beq_eq_false_iff_ne.2 hy
   clear hy
   go_simp
   go_wp2_with fail
   refine KC.out.mono ?_
   rintro e w9 ⟨rfl,hw9⟩
   subst w9
   go_upto_region 6 with (fail)
   rw [HW2.out,HX.out]
   go_wp2_with (simp only [hix])
   refine (MN.out _).mono ?_
   rintro e w9 ⟨rfl,hw9⟩
   subst w9
   exact ⟨rfl,HFIN.out,by rw [HO.out]; rfl⟩
  subst hy
  go_simp
  go_wp2_with fail
  refine KC.out.mono ?_
  rintro e w9 ⟨rfl,hw9⟩
  subst w9
  go_upto_region 6 with (fail)
  rw [HW2.out,HX.out]
  have DI:=digit_in
  cases d0 with
  | false =>
   have HO:=Lib.hid (HNO.out (fun h => absurd h.2.1 (by decide)))
   go_wp2_with (simp only [hix])
   refine D0.out.mono ?_
   rintro e w9 ⟨rfl,hw9⟩
   subst w9
   go_wp2_with fail
   refine (MN.out _).mono ?_
   rintro e w9 ⟨rfl,hw9⟩
   subst w9
   exact ⟨rfl,HFIN.out,by rw [HO.out]; rfl⟩
  | true =>
   go_wp2_with (simp only [hix])
   refine D0.out.mono ?_
   rintro e w9 ⟨rfl,hw9⟩
   subst w9
   go_wp2_with fail
   refine D2.out.mono ?_
   rintro e w9 ⟨rfl,hw9⟩
   subst w9
   cases d2 with
   | false =>
    have HO:=Lib.hid (HNO.out (fun h => absurd h.2.2 (by decide)))
    go_wp2_with fail
    refine (MN.out _).mono ?_
    rintro e w9 ⟨rfl,hw9⟩
    subst w9
    exact ⟨rfl,HFIN.out,by rw [HO.out]; rfl⟩
   | true =>
    have HO:=Lib.hid (show o = some (a.data.toList,(P,Q),b.data.toList) by
     rw [HLN.out]
     exact Rq.line3_yes HTK.out HOG.out (HVN.out.2 ⟨HFD.out,H3.out,by first | rfl | trivial,by first | rfl | trivial,by first | rfl | trivial⟩))
    go_wp2_with fail
    refine (MU.out _).mono ?_
    rintro e w9 ⟨rfl,hw9⟩
    subst w9
    have HL:=Lib.hid ((HB2.out.block _ HSW.out).trans HAW.out)
    clear MU MN
    go_wp2_with fail
    simp [bodyPost,results,Tryz.results71,go_sem]
    refine ⟨HFIN.out,?_⟩
    rw [HO.out]
    refine ⟨rfl,pp,qp,np,pc,qn,qc,?_,HTS.out.below HB2.out,HPS.out.belowW HB2.out⟩
    rw [ba_back,ba_back]
    exact HL.out
end Go.Proofs.YtfacmnooklljnaaGreatDoor
namespace Go.Proofs.YtfacmnooklljnaaGreatDoor
open Go.RowKit Go.Shelf
attribute [local go_sem] Oper.semAt_some
set_option maxHeartbeats 8000000
set_option maxRecDepth 100000
def ruC (C D : Nat) : Array Value:=#[.int .i64 400,.func (.func 105) #[] #[],.int .i64 400,.func (.func 107) #[] #[],.int .i64 400,.func (.func 108) #[] #[],.int .i64 400,.func (.func 136) #[] #[.pointer (some ⟨C,0,none⟩),.pointer (some ⟨D,0,none⟩)],.int .i64 505,.func (.func 109) #[] #[],.int .i64 405,.func (.func 110) #[] #[],.int .i64 406,.func (.func 111) #[] #[]]
theorem rq_rules (w : World) :
  Calls Tryz.prog 72 #[] w fun e w' => ∃ C D,e = .returned (.agg (ruC C D)) ∧ Boxed w' C 9 (.string ⟨#[108,97,115,116,45,101,118,101,110,116,45,105,100]⟩) ∧ Boxed w' D 3 (.int .i64 0) ∧ Below w.heap.size w w':=by
 have KL:=Lib.hid (fun W => rq_lone ⟨#[108,97,115,116,45,101,118,101,110,116,45,105,100]⟩ 0 W)
 obtain ⟨B,hB⟩ : ∃ B,w.heap.size = B:=⟨_,rfl⟩
 have HB:=Lib.hid hB
 rw [hB]
 clear hB
 go_enter Tryz.func72,Tryz.ntmps72
 go_wp2_with fail
 obtain ⟨V,hV⟩ : ∃ z,w.alloc (.cells #[.int .i64 0,.nilFunc,.int .i64 0,.nilFunc,.int .i64 0,.nilFunc,.int .i64 0,.nilFunc,.int .i64 0,.nilFunc,.int .i64 0,.nilFunc,.int .i64 0,.nilFunc] 114) = z:=⟨_,rfl⟩
 have hVB : V.heap[B]? = some (.cells #[.int .i64 0,.nilFunc,.int .i64 0,.nilFunc,.int .i64 0,.nilFunc,.int .i64 0,.nilFunc,.int .i64 0,.nilFunc,.int .i64 0,.nilFunc,.int .i64 0,.nilFunc] 114 (0,0)):=by rw [← hV,← HB.out]; exact World.alloc_heap_new _ _
 have hbV : Below B w V:=by rw [← hV,← HB.out]; exact (Below.refl _ _).alloc (Nat.le_refl _) _
 rw [hV,HB.out]
 have HVB:=Lib.hid hVB
 have HBV:=Lib.hid hbV
 clear hV hVB hbV
 refine (KL.out _).mono ?_
 rintro e w2 ⟨C,D,rfl,hC,hD,hb⟩
 have hBl:=(Array.getElem?_eq_some_iff.1 HVB.out).1
 have h0 : w2.heap[B]? = some (.cells #[.int .i64 0,.nilFunc,.int .i64 0,.nilFunc,.int .i64 0,.nilFunc,.int .i64 0,.nilFunc,.int .i64 0,.nilFunc,.int .i64 0,.nilFunc,.int .i64 0,.nilFunc] 114 (0,0)):=(hb.block B hBl).trans HVB.out
 have hBC : C ≠ B:=fun e => by
  subst e
  have h : w2.heap[C]? = some (.cells #[.string ⟨#[108,97,115,116,45,101,118,101,110,116,45,105,100]⟩] 9 (0,0)):=hC
  rw [h0] at h
  cases h
 have hBD : D ≠ B:=fun e => by
  subst e
  have h : w2.heap[D]? = some (.cells #[.int .i64 0] 3 (0,0)):=hD
  rw [h0] at h
  cases h
 have HC:=Lib.hid hC
 have HD:=Lib.hid hD
 have HB2:=Lib.hid (HBV.out.trans (hb.mono (by have:=HB.out; have:=HBV.out.size; omega)))
 have H0:=Lib.hid h0
 have c0 : w2.cell? ⟨B,0,none⟩ = some (.int .i64 0):=by simp [World.cell?,h0]
 have z0 : w2.frozen? ⟨B,0,none⟩ = false:=frozen_of_row _ _ _ _ _ h0
 have c1 : w2.cell? ⟨B,1,none⟩ = some (.nilFunc):=by simp [World.cell?,h0]
 have z1 : w2.frozen? ⟨B,1,none⟩ = false:=frozen_of_row _ _ _ _ _ h0
 have c2 : w2.cell? ⟨B,2,none⟩ = some (.int .i64 0):=by simp [World.cell?,h0]
 have z2 : w2.frozen? ⟨B,2,none⟩ = false:=frozen_of_row _ _ _ _ _ h0
 have c3 : w2.cell? ⟨B,3,none⟩ = some (.nilFunc):=by simp [World.cell?,h0]
 have z3 : w2.frozen? ⟨B,3,none⟩ = false:=frozen_of_row _ _ _ _ _ h0
 have c4 : w2.cell? ⟨B,4,none⟩ = some (.int .i64 0):=by simp [World.cell?,h0]
 have z4 : w2.frozen? ⟨B,4,none⟩ = false:=frozen_of_row _ _ _ _ _ h0
 have c5 : w2.cell? ⟨B,5,none⟩ = some (.nilFunc):=by simp [World.cell?,h0]
 have z5 : w2.frozen? ⟨B,5,none⟩ = false:=frozen_of_row _ _ _ _ _ h0
 have c6 : w2.cell? ⟨B,6,none⟩ = some (.int .i64 0):=by simp [World.cell?,h0]
 have z6 : w2.frozen? ⟨B,6,none⟩ = false:=frozen_of_row _ _ _ _ _ h0
 have c7 : w2.cell? ⟨B,7,none⟩ = some (.nilFunc):=by simp [World.cell?,h0]
 have z7 : w2.frozen? ⟨B,7,none⟩ = false:=frozen_of_row _ _ _ _ _ h0
 have c8 : w2.cell? ⟨B,8,none⟩ = some (.int .i64 0):=by simp [World.cell?,h0]
 have z8 : w2.frozen? ⟨B,8,none⟩ = false:=frozen_of_row _ _ _ _ _ h0
 have c9 : w2.cell? ⟨B,9,none⟩ = some (.nilFunc):=by simp [World.cell?,h0]
 have z9 : w2.frozen? ⟨B,9,none⟩ = false:=frozen_of_row _ _ _ _ _ h0
 have c10 : w2.cell? ⟨B,10,none⟩ = some (.int .i64 0):=by simp [World.cell?,h0]
 have z10 : w2.frozen? ⟨B,10,none⟩ = false:=frozen_of_row _ _ _ _ _ h0
 have c11 : w2.cell? ⟨B,11,none⟩ = some (.nilFunc):=by simp [World.cell?,h0]
 have z11 : w2.frozen? ⟨B,11,none⟩ = false:=frozen_of_row _ _ _ _ _ h0
 have c12 : w2.cell? ⟨B,12,none⟩ = some (.int .i64 0):=by simp [World.cell?,h0]
 have z12 : w2.frozen? ⟨B,12,none⟩ = false:=frozen_of_row _ _ _ _ _ h0
 have c13 : w2.cell? ⟨B,13,none⟩ = some (.nilFunc):=by simp [World.cell?,h0]
 have z13 : w2.frozen? ⟨B,13,none⟩ = false:=frozen_of_row _ _ _ _ _ h0
 clear hC hD hb h0 hBl
 go_wp2_with fail
 have a0 : (w2.setCell ⟨B,0,none⟩ (.int .i64 400)).heap[B]? = some (.cells #[.int .i64 400,.nilFunc,.int .i64 0,.nilFunc,.int .i64 0,.nilFunc,.int .i64 0,.nilFunc,.int .i64 0,.nilFunc,.int .i64 0,.nilFunc,.int .i64 0,.nilFunc] 114 (0,0)):=(heap_setCell_same _ B 0 _ _ _ H0.out).trans (by simp)
 have b0:=HB2.out.setCell (p:=⟨B,0,none⟩) (Nat.le_refl _) (.int .i64 400)
 have p0 : Boxed (w2.setCell ⟨B,0,none⟩ (.int .i64 400)) C _ _:=(Below.heap_setCell _ ⟨B,0,none⟩ _ C hBC).trans HC.out
 have q0 : Boxed (w2.setCell ⟨B,0,none⟩ (.int .i64 400)) D _ _:=(Below.heap_setCell _ ⟨B,0,none⟩ _ D hBD).trans HD.out
 obtain ⟨W1,hW1⟩ : ∃ z,w2.setCell ⟨B,0,none⟩ (.int .i64 400) = z:=⟨_,rfl⟩
 rw [hW1] at a0 b0 p0 q0 ⊢
 have a1 : (W1.setCell ⟨B,1,none⟩ (.func (.func 105) #[] #[])).heap[B]? = some (.cells #[.int .i64 400,.func (.func 105) #[] #[],.int .i64 0,.nilFunc,.int .i64 0,.nilFunc,.int .i64 0,.nilFunc,.int .i64 0,.nilFunc,.int .i64 0,.nilFunc,.int .i64 0,.nilFunc] 114 (0,0)):=(heap_setCell_same _ B 1 _ _ _ a0).trans (by simp)
 have b1:=b0.setCell (p:=⟨B,1,none⟩) (Nat.le_refl _) (.func (.func 105) #[] #[])
 have p1 : Boxed (W1.setCell ⟨B,1,none⟩ (.func (.func 105) #[] #[])) C _ _:=(Below.heap_setCell _ ⟨B,1,none⟩ _ C hBC).trans p0
 have q1 : Boxed (W1.setCell ⟨B,1,none⟩ (.func (.func 105) #[] #[])) D _ _:=(Below.heap_setCell _ ⟨B,1,none⟩ _ D hBD).trans q0
 obtain ⟨W2,hW2⟩ : ∃ z,W1.setCell ⟨B,1,none⟩ (.func (.func 105) #[] #[]) = z:=⟨_,rfl⟩
 rw [hW2] at a1 b1 p1 q1 ⊢
 have a2 : (W2.setCell ⟨B,2,none⟩ (.int .i64 400)).heap[B]? = some (.cells #[.int .i64 400,.func (.func 105) #[] #[],.int .i64 400,.nilFunc,.int .i64 0,.nilFunc,.int .i64 0,.nilFunc,.int .i64 0,.nilFunc,.int .i64 0,.nilFunc,.int .i64 0,.nilFunc] 114 (0,0)):=(heap_setCell_same _ B 2 _ _ _ a1).trans (by simp)
 have b2:=b1.setCell (p:=⟨B,2,none⟩) (Nat.le_refl _) (.int .i64 400)
 have p2 : Boxed (W2.setCell ⟨B,2,none⟩ (.int .i64 400)) C _ _:=(Below.heap_setCell _ ⟨B,2,none⟩ _ C hBC).trans p1
 have q2 : Boxed (W2.setCell ⟨B,2,none⟩ (.int .i64 400)) D _ _:=(Below.heap_setCell _ ⟨B,2,none⟩ _ D hBD).trans q1
 obtain ⟨W3,hW3⟩ : ∃ z,W2.setCell ⟨B,2,none⟩ (.int .i64 400) = z:=⟨_,rfl⟩
 rw [hW3] at a2 b2 p2 q2 ⊢
 have a3 : (W3.setCell ⟨B,3,none⟩ (.func (.func 107) #[] #[])).heap[B]? = some (.cells #[.int .i64 400,.func (.func 105) #[] #[],.int .i64 400,.func (.func 107) #[] #[],.int .i64 0,.nilFunc,.int .i64 0,.nilFunc,.int .i64 0,.nilFunc,.int .i64 0,.nilFunc,.int .i64 0,.nilFunc] 114 (0,0)):=(heap_setCell_same _ B 3 _ _ _ a2).trans (by simp)
 have b3:=b2.setCell (p:=⟨B,3,none⟩) (Nat.le_refl _) (.func (.func 107) #[] #[])
 have p3 : Boxed (W3.setCell ⟨B,3,none⟩ (.func (.func 107) #[] #[])) C _ _:=(Below.heap_setCell _ ⟨B,3,none⟩ _ C hBC).trans p2
 have q3 : Boxed (W3.setCell ⟨B,3,none⟩ (.func (.func 107) #[] #[])) D _ _:=(Below.heap_setCell _ ⟨B,3,none⟩ _ D hBD).trans q2
 obtain ⟨W4,hW4⟩ : ∃ z,W3.setCell ⟨B,3,none⟩ (.func (.func 107) #[] #[]) = z:=⟨_,rfl⟩
 rw [hW4] at a3 b3 p3 q3 ⊢
 have a4 : (W4.setCell ⟨B,4,none⟩ (.int .i64 400)).heap[B]? = some (.cells #[.int .i64 400,.func (.func 105) #[] #[],.int .i64 400,.func (.func 107) #[] #[],.int .i64 400,.nilFunc,.int .i64 0,.nilFunc,.int .i64 0,.nilFunc,.int .i64 0,.nilFunc,.int .i64 0,.nilFunc] 114 (0,0)):=(heap_setCell_same _ B 4 _ _ _ a3).trans (by simp)
 have b4:=b3.setCell (p:=⟨B,4,none⟩) (Nat.le_refl _) (.int .i64 400)
 have p4 : Boxed (W4.setCell ⟨B,4,none⟩ (.int .i64 400)) C _ _:=(Below.heap_setCell _ ⟨B,4,none⟩ _ C hBC).trans p3
 have q4 : Boxed (W4.setCell ⟨B,4,none⟩ (.int .i64 400)) D _ _:=(Below.heap_setCell _ ⟨B,4,none⟩ _ D hBD).trans q3
 obtain ⟨W5,hW5⟩ : ∃ z,W4.setCell ⟨B,4,none⟩ (.int .i64 400) = z:=⟨_,rfl⟩
 rw [hW5] at a4 b4 p4 q4 ⊢
 have a5 : (W5.setCell ⟨B,5,none⟩ (.func (.func 108) #[] #[])).heap[B]? = some (.cells #[.int .i64 400,.func (.func 105) #[] #[],.int .i64 400,.func (.func 107) #[] #[],.int .i64 400,.func (.func 108) #[] #[],.int .i64 0,.nilFunc,.int .i64 0,.nilFunc,.int .i64 0,.nilFunc,.int .i64 0,.nilFunc] 114 (0,0)):=(heap_setCell_same _ B 5 _ _ _ a4).trans (by simp)
 have b5:=b4.setCell (p:=⟨B,5,none⟩) (Nat.le_refl _) (.func (.func 108) #[] #[])
 have p5 : Boxed (W5.setCell ⟨B,5,none⟩ (.func (.func 108) #[] #[])) C _ _:=(Below.heap_setCell _ ⟨B,5,none⟩ _ C hBC).trans p4
 have q5 : Boxed (W5.setCell ⟨B,5,none⟩ (.func (.func 108) #[] #[])) D _ _:=(Below.heap_setCell _ ⟨B,5,none⟩ _ D hBD).trans q4
 obtain ⟨W6,hW6⟩ : ∃ z,W5.setCell ⟨B,5,none⟩ (.func (.func 108) #[] #[]) = z:=⟨_,rfl⟩
 rw [hW6] at a5 b5 p5 q5 ⊢
 have a6 : (W6.setCell ⟨B,6,none⟩ (.int .i64 400)).heap[B]? = some (.cells #[.int .i64 400,.func (.func 105) #[] #[],.int .i64 400,.func (.func 107) #[] #[],.int .i64 400,.func (.func 108) #[] #[],.int .i64 400,.nilFunc,.int .i64 0,.nilFunc,.int .i64 0,.nilFunc,.int .i64 0,.nilFunc] 114 (0,0)):=(heap_setCell_same _ B 6 _ _ _ a5).trans (by simp)
 have b6:=b5.setCell (p:=⟨B,6,none⟩) (Nat.le_refl _) (.int .i64 400)
 have p6 : Boxed (W6.setCell ⟨B,6,none⟩ (.int .i64 400)) C _ _:=(Below.heap_setCell _ ⟨B,6,none⟩ _ C hBC).trans p5
 have q6 : Boxed (W6.setCell ⟨B,6,none⟩ (.int .i64 400)) D _ _:=(Below.heap_setCell _ ⟨B,6,none⟩ _ D hBD).trans q5
 obtain ⟨W7,hW7⟩ : ∃ z,W6.setCell ⟨B,6,none⟩ (.int .i64 400) = z:=⟨_,rfl⟩
 rw [hW7] at a6 b6 p6 q6 ⊢
 have a7 : (W7.setCell ⟨B,7,none⟩ (.func (.func 136) #[] #[.pointer (some ⟨C,0,none⟩),.pointer (some ⟨D,0,none⟩)])).heap[B]? = some (.cells #[.int .i64 400,.func (.func 105) #[] #[],.int .i64 400,.func (.func 107) #[] #[],.int .i64 400,.func (.func 108) #[] #[],.int .i64 400,.func (.func 136) #[] #[.pointer (some ⟨C,0,none⟩),.pointer (some ⟨D,0,none⟩)],.int .i64 0,.nilFunc,.int .i64 0,.nilFunc,.int .i64 0,.nilFunc] 114 (0,0)):=(heap_setCell_same _ B 7 _ _ _ a6).trans (by simp)
 have b7:=b6.setCell (p:=⟨B,7,none⟩) (Nat.le_refl _) (.func (.func 136) #[] #[.pointer (some ⟨C,0,none⟩),.pointer (some ⟨D,0,none⟩)])
 have p7 : Boxed (W7.setCell ⟨B,7,none⟩ (.func (.func 136) #[] #[.pointer (some ⟨C,0,none⟩),.pointer (some ⟨D,0,none⟩)])) C _ _:=(Below.heap_setCell _ ⟨B,7,none⟩ _ C hBC).trans p6
 have q7 : Boxed (W7.setCell ⟨B,7,none⟩ (.func (.func 136) #[] #[.pointer (some ⟨C,0,none⟩),.pointer (some ⟨D,0,none⟩)])) D _ _:=(Below.heap_setCell _ ⟨B,7,none⟩ _ D hBD).trans q6
 obtain ⟨W8,hW8⟩ : ∃ z,W7.setCell ⟨B,7,none⟩ (.func (.func 136) #[] #[.pointer (some ⟨C,0,none⟩),.pointer (some ⟨D,0,none⟩)]) = z:=⟨_,rfl⟩
 rw [hW8] at a7 b7 p7 q7 ⊢
 have a8 : (W8.setCell ⟨B,8,none⟩ (.int .i64 505)).heap[B]? = some (.cells #[.int .i64 400,.func (.func 105) #[] #[],.int .i64 400,.func (.func 107) #[] #[],.int .i64 400,.func (.func 108) #[] #[],.int .i64 400,.func (.func 136) #[] #[.pointer (some ⟨C,0,none⟩),.pointer (some ⟨D,0,none⟩)],.int .i64 505,.nilFunc,.int .i64 0,.nilFunc,.int .i64 0,.nilFunc] 114 (0,0)):=(heap_setCell_same _ B 8 _ _ _ a7).trans (by simp)
 have b8:=b7.setCell (p:=⟨B,8,none⟩) (Nat.le_refl _) (.int .i64 505)
 have p8 : Boxed (W8.setCell ⟨B,8,none⟩ (.int .i64 505)) C _ _:=(Below.heap_setCell _ ⟨B,8,none⟩ _ C hBC).trans p7
 have q8 : Boxed (W8.setCell ⟨B,8,none⟩ (.int .i64 505)) D _ _:=(Below.heap_setCell _ ⟨B,8,none⟩ _ D hBD).trans q7
 obtain ⟨W9,hW9⟩ : ∃ z,W8.setCell ⟨B,8,none⟩ (.int .i64 505) = z:=⟨_,rfl⟩
 rw [hW9] at a8 b8 p8 q8 ⊢
 have a9 : (W9.setCell ⟨B,9,none⟩ (.func (.func 109) #[] #[])).heap[B]? = some (.cells #[.int .i64 400,.func (.func 105) #[] #[],.int .i64 400,.func (.func 107) #[] #[],.int .i64 400,.func (.func 108) #[] #[],.int .i64 400,.func (.func 136) #[] #[.pointer (some ⟨C,0,none⟩),.pointer (some ⟨D,0,none⟩)],.int .i64 505,.func (.func 109) #[] #[],.int .i64 0,.nilFunc,.int .i64 0,.nilFunc] 114 (0,0)):=(heap_setCell_same _ B 9 _ _ _ a8).trans (by simp)
 have b9:=b8.setCell (p:=⟨B,9,none⟩) (Nat.le_refl _) (.func (.func 109) #[] #[])
 have p9 : Boxed (W9.setCell ⟨B,9,none⟩ (.func (.func 109) #[] #[])) C _ _:=(Below.heap_setCell _ ⟨B,9,none⟩ _ C hBC).trans p8
 have q9 : Boxed (W9.setCell ⟨B,9,none⟩ (.func (.func 109) #[] #[])) D _ _:=(Below.heap_setCell _ ⟨B,9,none⟩ _ D hBD).trans q8
 obtain ⟨W10,hW10⟩ : ∃ z,W9.setCell ⟨B,9,none⟩ (.func (.func 109) #[] #[]) = z:=⟨_,rfl⟩
 rw [hW10] at a9 b9 p9 q9 ⊢
 have a10 : (W10.setCell ⟨B,10,none⟩ (.int .i64 405)).heap[B]? = some (.cells #[.int .i64 400,.func (.func 105) #[] #[],.int .i64 400,.func (.func 107) #[] #[],.int .i64 400,.func (.func 108) #[] #[],.int .i64 400,.func (.func 136) #[] #[.pointer (some ⟨C,0,none⟩),.pointer (some ⟨D,0,none⟩)],.int .i64 505,.func (.func 109) #[] #[],.int .i64 405,.nilFunc,.int .i64 0,.nilFunc] 114 (0,0)):=(heap_setCell_same _ B 10 _ _ _ a9).trans (by simp)
 have b10:=b9.setCell (p:=⟨B,10,none⟩) (Nat.le_refl _) (.int .i64 405)
 have p10 : Boxed (W10.setCell ⟨B,10,none⟩ (.int .i64 405)) C _ _:=(Below.heap_setCell _ ⟨B,10,none⟩ _ C hBC).trans p9
 have q10 : Boxed (W10.setCell ⟨B,10,none⟩ (.int .i64 405)) D _ _:=(Below.heap_setCell _ ⟨B,10,none⟩ _ D hBD).trans q9
 obtain ⟨W11,hW11⟩ : ∃ z,W10.setCell ⟨B,10,none⟩ (.int .i64 405) = z:=⟨_,rfl⟩
 rw [hW11] at a10 b10 p10 q10 ⊢
 have a11 : (W11.setCell ⟨B,11,none⟩ (.func (.func 110) #[] #[])).heap[B]? = some (.cells #[.int .i64 400,.func (.func 105) #[] #[],.int .i64 400,.func (.func 107) #[] #[],.int .i64 400,.func (.func 108) #[] #[],.int .i64 400,.func (.func 136) #[] #[.pointer (some ⟨C,0,none⟩),.pointer (some ⟨D,0,none⟩)],.int .i64 505,.func (.func 109) #[] #[],.int .i64 405,.func (.func 110) #[] #[],.int .i64 0,.nilFunc] 114 (0,0)):=(heap_setCell_same _ B 11 _ _ _ a10).trans (by simp)
 have b11:=b10.setCell (p:=⟨B,11,none⟩) (Nat.le_refl _) (.func (.func 110) #[] #[])
 have p11 : Boxed (W11.setCell ⟨B,11,none⟩ (.func (.func 110) #[] #[])) C _ _:=(Below.heap_setCell _ ⟨B,11,none⟩ _ C hBC).trans p10
 have q11 : Boxed (W11.setCell ⟨B,11,none⟩ (.func (.func 110) #[] #[])) D _ _:=(Below.heap_setCell _ ⟨B,11,none⟩ _ D hBD).trans q10
 obtain ⟨W12,hW12⟩ : ∃ z,W11.setCell ⟨B,11,none⟩ (.func (.func 110) #[] #[]) = z:=⟨_,rfl⟩
 rw [hW12] at a11 b11 p11 q11 ⊢
 have a12 : (W12.setCell ⟨B,12,none⟩ (.int .i64 406)).heap[B]? = some (.cells #[.int .i64 400,.func (.func 105) #[] #[],.int .i64 400,.func (.func 107) #[] #[],.int .i64 400,.func (.func 108) #[] #[],.int .i64 400,.func (.func 136) #[] #[.pointer (some ⟨C,0,none⟩),.pointer (some ⟨D,0,none⟩)],.int .i64 505,.func (.func 109) #[] #[],.int .i64 405,.func (.func 110) #[] #[],.int .i64 406,.nilFunc] 114 (0,0)):=(heap_setCell_same _ B 12 _ _ _ a11).trans (by simp)
 have b12:=b11.setCell (p:=⟨B,12,none⟩) (Nat.le_refl _) (.int .i64 406)
 have p12 : Boxed (W12.setCell ⟨B,12,none⟩ (.int .i64 406)) C _ _:=(Below.heap_setCell _ ⟨B,12,none⟩ _ C hBC).trans p11
 have q12 : Boxed (W12.setCell ⟨B,12,none⟩ (.int .i64 406)) D _ _:=(Below.heap_setCell _ ⟨B,12,none⟩ _ D hBD).trans q11
 obtain ⟨W13,hW13⟩ : ∃ z,W12.setCell ⟨B,12,none⟩ (.int .i64 406) = z:=⟨_,rfl⟩
 rw [hW13] at a12 b12 p12 q12 ⊢
 have a13 : (W13.setCell ⟨B,13,none⟩ (.func (.func 111) #[] #[])).heap[B]? = some (.cells #[.int .i64 400,.func (.func 105) #[] #[],.int .i64 400,.func (.func 107) #[] #[],.int .i64 400,.func (.func 108) #[] #[],.int .i64 400,.func (.func 136) #[] #[.pointer (some ⟨C,0,none⟩),.pointer (some ⟨D,0,none⟩)],.int .i64 505,.func (.func 109) #[] #[],.int .i64 405,.func (.func 110) #[] #[],.int .i64 406,.func (.func 111) #[] #[]] 114 (0,0)):=(heap_setCell_same _ B 13 _ _ _ a12).trans (by simp)
 have b13:=b12.setCell (p:=⟨B,13,none⟩) (Nat.le_refl _) (.func (.func 111) #[] #[])
 have p13 : Boxed (W13.setCell ⟨B,13,none⟩ (.func (.func 111) #[] #[])) C _ _:=(Below.heap_setCell _ ⟨B,13,none⟩ _ C hBC).trans p12
 have q13 : Boxed (W13.setCell ⟨B,13,none⟩ (.func (.func 111) #[] #[])) D _ _:=(Below.heap_setCell _ ⟨B,13,none⟩ _ D hBD).trans q12
 obtain ⟨W14,hW14⟩ : ∃ z,W13.setCell ⟨B,13,none⟩ (.func (.func 111) #[] #[]) = z:=⟨_,rfl⟩
 rw [hW14] at a13 b13 p13 q13 ⊢
 have d0 : W14.cell? ⟨B,0,none⟩ = some (.int .i64 400):=by simp [World.cell?,a13]
 have d1 : W14.cell? ⟨B,1,none⟩ = some (.func (.func 105) #[] #[]):=by simp [World.cell?,a13]
 have d2 : W14.cell? ⟨B,2,none⟩ = some (.int .i64 400):=by simp [World.cell?,a13]
 have d3 : W14.cell? ⟨B,3,none⟩ = some (.func (.func 107) #[] #[]):=by simp [World.cell?,a13]
 have d4 : W14.cell? ⟨B,4,none⟩ = some (.int .i64 400):=by simp [World.cell?,a13]
 have d5 : W14.cell? ⟨B,5,none⟩ = some (.func (.func 108) #[] #[]):=by simp [World.cell?,a13]
 have d6 : W14.cell? ⟨B,6,none⟩ = some (.int .i64 400):=by simp [World.cell?,a13]
 have d7 : W14.cell? ⟨B,7,none⟩ = some (.func (.func 136) #[] #[.pointer (some ⟨C,0,none⟩),.pointer (some ⟨D,0,none⟩)]):=by simp [World.cell?,a13]
 have d8 : W14.cell? ⟨B,8,none⟩ = some (.int .i64 505):=by simp [World.cell?,a13]
 have d9 : W14.cell? ⟨B,9,none⟩ = some (.func (.func 109) #[] #[]):=by simp [World.cell?,a13]
 have d10 : W14.cell? ⟨B,10,none⟩ = some (.int .i64 405):=by simp [World.cell?,a13]
 have d11 : W14.cell? ⟨B,11,none⟩ = some (.func (.func 110) #[] #[]):=by simp [World.cell?,a13]
 have d12 : W14.cell? ⟨B,12,none⟩ = some (.int .i64 406):=by simp [World.cell?,a13]
 have d13 : W14.cell? ⟨B,13,none⟩ = some (.func (.func 111) #[] #[]):=by simp [World.cell?,a13]
 exact bodyPost_ret (v:=.agg (ruC C D)) (by simp [ruC,results,Tryz.results72,go_sem,d0,d1,d2,d3,d4,d5,d6,d7,d8,d9,d10,d11,d12,d13]) rfl ⟨C,D,rfl,p13,q13,b13⟩
end Go.Proofs.YtfacmnooklljnaaGreatDoor
namespace Go.Proofs.YtfacmnooklljnaaGreatDoor
namespace Rq
def ruB (l : List UInt8 × Tg × List UInt8) (fs : List Hp.Hd) : Nat → Bool
 | 0 => (l.2.2 == v10) || decide ((1 : Int) ≤ (many nHost fs : Int) ∧ (many nHost fs : Int) ≤ 1)
 | 1 => decide (many nTE fs = 0)
 | 2 => decide (many nCL fs = 0) || (joined nCL fs == [48])
 | 3 => decide ((0 : Int) ≤ (many nId fs : Int) ∧ (many nId fs : Int) ≤ 1)
 | 4 => (l.2.2 == v10) || (l.2.2 == v11)
 | 5 => l.1 == nGET
 | _ => takesB (Ap.qual (joined nAcc fs) tTx tEv) || (Gt.jpath l.2.1.1 == pHealth)
def ruN : Nat → Int
 | 0 => 400
 | 1 => 400
 | 2 => 400
 | 3 => 400
 | 4 => 505
 | 5 => 405
 | _ => 406
def stN (l : List UInt8 × Tg × List UInt8) (fs : List Hp.Hd) : Nat → Nat → Int
 | 0,_ => 200
 | n + 1,k => if ruB l fs k = true then stN l fs n (k + 1) else ruN k
theorem takes_is (o : Option Int) : takes o = takesB o:=by cases o <;> rfl
theorem jpath_is (P : List (List UInt8)) : P.flatMap (fun p => 47 :: p) = Gt.jpath P:=rfl
theorem stat3_is {l : List UInt8 × Tg × List UInt8} (fs : List Hp.Hd) (hv : ver l.2.2 ≠ 0) : stat3 l fs = stN l fs 7 0:=by
 obtain ⟨m,g,v⟩:=l
 simp only at hv
 unfold stat3 stN stN stN stN stN stN stN stN
 simp only [ruB,ruN]
 rw [takes_is,jpath_is]
 have e0 : ((v == v10) || decide ((1 : Int) ≤ (many nHost fs : Int) ∧ (many nHost fs : Int) ≤ 1)) = decide (v = v10 ∨ many nHost fs = 1):=by
  rw [Bool.eq_iff_iff]; simp only [Bool.or_eq_true,beq_iff_eq,decide_eq_true_eq]; exact or_congr Iff.rfl (by omega)
 have e2 : (decide (many nCL fs = 0) || (joined nCL fs == [48])) = decide (many nCL fs = 0 ∨ joined nCL fs = [48]):=by
  rw [Bool.eq_iff_iff]; simp
 have e3 : decide ((0 : Int) ≤ (many nId fs : Int) ∧ (many nId fs : Int) ≤ 1) = decide (¬ 1 < many nId fs):=by
  rw [Bool.eq_iff_iff]; simp only [decide_eq_true_eq]; omega
 have e4 : ((v == v10) || (v == v11)) = decide (¬ ver v = 2):=by
  rw [Bool.eq_iff_iff]
  simp only [Bool.or_eq_true,beq_iff_eq,decide_eq_true_eq]
  unfold ver at hv ⊢
  by_cases h : v = v11 ∨ v = v10
  ·rw [if_pos h]; simp [h.symm]
  ·rw [if_neg h] at hv ⊢
   constructor
   ·intro h2; exact absurd h2.symm h
   ·intro h2
    exfalso
    split at hv
    ·rename_i h3; rw [if_pos h3] at h2; exact h2 rfl
    ·exact hv rfl
 rw [e0,e2,e3,e4]
 simp only [decide_eq_true_eq,beq_iff_eq,Bool.or_eq_true]
 by_cases h0 : v = v10 ∨ many nHost fs = 1
 ·rw [if_neg (fun h => h h0),if_pos h0]
  by_cases h1 : many nTE fs = 0
  ·rw [if_neg (fun h => h h1),if_pos h1]
   by_cases h2 : many nCL fs = 0 ∨ joined nCL fs = [48]
   ·rw [if_neg (fun h => h h2),if_pos h2]
    by_cases h3 : 1 < many nId fs
    ·rw [if_pos h3,if_neg (fun h => h h3)]
    ·rw [if_neg h3,if_pos h3]
     by_cases h4 : ver v = 2
     ·rw [if_pos h4,if_neg (fun h => h h4)]
     ·rw [if_neg h4,if_pos h4]
      by_cases h5 : m = nGET
      ·rw [if_neg (fun h => h h5),if_pos h5]
      ·rw [if_pos h5,if_neg h5]
   ·rw [if_pos h2,if_neg h2]
  ·rw [if_pos h1,if_neg h1]
 ·rw [if_pos h0,if_neg h0]
end Rq
end Go.Proofs.YtfacmnooklljnaaGreatDoor
namespace Go.Proofs.YtfacmnooklljnaaGreatDoor
open Go.RowKit
set_option maxHeartbeats 2000000
section
variable {P : Program} {ops : Array Oper} {Q : Exit → Act → World → Prop}
theorem region_slotsP {id : Nat} {a0 : Act} {w0 : World} (slot : Nat → Nat) (F : Nat → World → Value → Prop) (sel : Nat → Bool) (hm : P.follows .mixedOrders = true) (hb : backG .any ops = true)
  (hs : ∀ i,slot i < a0.tmps.size) (hinj : ∀ i j,i < ops.size → j < ops.size → slot i = slot j → i = j) (hF : ∀ i w w' v,F i w v → Below w.heap.size w w' → F i w' v)
  (hdst : ∀ i o,ops[i]? = some o → o.dst = some (slot i))
  (hgu : ∀ i o g b,ops[i]? = some o → o.guard = some (g,b) → ∀ w v,F g w v → v = .bool (if sel i then b else !b) ∨ (sel i = false ∧ v = undef))
  (hng : ∀ i o,ops[i]? = some o → o.guard = none → sel i = true)
  (hskip : ∀ i w,i < ops.size → sel i = false → F i w undef)
  (hstep : ∀ (f : Nat → Bool) (a : Act) (w : World) (i : Nat) (o : Oper),ops[i]? = some o → sel i = true → (∀ e ∈ o.after,Region.binds .any e = true → F e.on w (a.tmps.getD (slot e.on) undef)) → Below w0.heap.size w0 w →
   (∀ j,(∀ i,i < ops.size → slot i ≠ j) → a.tmps.getD j undef = a0.tmps.getD j undef) → a.defers = a0.defers → o.wp P a w (fun a' w' => ∃ v,a' = a.put o.dst v ∧ F i w' v ∧ Below w.heap.size w w') Q)
  (hdone : ∀ (vs : Nat → Value) (w : World),Below w0.heap.size w0 w → (∀ i,i < ops.size → F i w (vs i)) → Q .normal { a0 with tmps:=fillN slot vs ops.size a0.tmps } w) : (Code.region id ops true).wp P Q a0 w0:=by
 refine region_invG hm hb (Stand a0 w0 ops.size slot F) ⟨rfl,rfl,fun _ _ => rfl,⟨rfl,rfl,rfl,Nat.le_refl _,fun _ _ => rfl⟩,fun _ _ h => by cases h⟩ ?_ ?_
 ·intro f a w i o ho hf hpre hI
  have hi:=(Array.getElem?_eq_some_iff.1 ho).1
  have hsl : slot i < a.tmps.size:=by rw [hI.size]; exact hs i
  have hput : ∀ w' v,F i w' v → Below w.heap.size w w' → Stand a0 w0 ops.size slot F (fun j => if j = i then true else f j) (a.put o.dst v) w':=by
   intro w' v hv hbw
   rw [hdst i o ho]
   refine ⟨hI.defers,by rw [← hI.size]; exact Array.size_setIfInBounds ..,fun j hj => ?_,hI.bel.trans (hbw.mono hI.bel.size),fun j hj hfj => ?_⟩
   ·show (a.tmps.setIfInBounds (slot i) v).getD j undef = _
    rw [getD_set _ _ _ _ hsl,if_neg (Ne.symm (hj i hi))]
    exact hI.rest j hj
   ·show F j w' ((a.tmps.setIfInBounds (slot i) v).getD (slot j) undef)
    rw [getD_set _ _ _ _ hsl]
    by_cases hji : j = i
    ·subst hji; rw [if_pos rfl]; exact hv
    ·rw [if_neg (fun e => hji (hinj j i hj hi e))]
     have h2 : f j = true:=by simpa [hji] using hfj
     exact hF j w w' _ (hI.have_ j hj h2) hbw
  have hwant : Region.wanted o (yielded ops a.tmps) = sel i:=by
   unfold Region.wanted
   cases hg : o.guard with
   | none => exact (hng i o ho hg).symm
   | some gb =>
    obtain ⟨g,b⟩:=gb
    obtain ⟨e,he,heg,hbd⟩:=(back_ofG hb ho).1 g b hg
    have hgi : g < i:=by rw [← heg]; exact (back_ofG hb ho).2 e he hbd
    have hfg : f g = true:=by rw [← heg]; exact hpre e he hbd
    have hv:=hgu i o g b ho hg w _ (hI.have_ g (by omega) hfg)
    have hsg : slot g < a.tmps.size:=by rw [hI.size]; exact hs g
    have hy : yielded ops a.tmps g = (match a.tmps.getD (slot g) undef with | .bool x => some x | _ => none):=by
     unfold yielded
     rw [Array.getElem?_eq_getElem (show g < ops.size by omega),Option.bind_some,hdst g _ (Array.getElem?_eq_getElem (by omega)),Option.bind_some,Array.getElem?_eq_getElem hsg]
     rw [Array.getD_eq_getD_getElem?,Array.getElem?_eq_getElem hsg,Option.getD_some]
     cases a.tmps[slot g] <;> rfl
    show (yielded ops a.tmps g == some b) = sel i
    rw [hy]
    rcases hv with hv | ⟨hsi,hv⟩
    ·rw [hv]
     cases sel i <;> cases b <;> rfl
    ·rw [hv,hsi]; rfl
  rw [hwant]
  cases hsel : sel i with
  | true =>
   rw [if_pos rfl]
   refine Oper.wp_mono ?_ (hstep f a w i o ho hsel (fun e he hbd => hI.have_ e.on (by have:=(back_ofG hb ho).2 e he hbd; omega) (hpre e he hbd)) hI.bel hI.rest hI.defers)
   rintro a' w' ⟨v,rfl,hv,hbw⟩
   exact hput w' v hv hbw
  | false =>
   rw [if_neg (by decide)]
   exact hput w undef (hskip i w hi hsel) (Below.refl _ _)
 ·intro f a w hall hI
  have e : a = { a0 with tmps:=fillN slot (fun i => a.tmps.getD (slot i) undef) ops.size a0.tmps }:=by
   have h1 : a.tmps = fillN slot (fun i => a.tmps.getD (slot i) undef) ops.size a0.tmps:=by
    refine ext_getD (by rw [fillN_size,hI.size]) (fun j => ?_)
    by_cases hj : ∃ i,i < ops.size ∧ slot i = j
    ·obtain ⟨i,hi,rfl⟩:=hj
     rw [fillN_at slot _ _ hs _ hinj i hi]
    ·rw [fillN_get slot _ _ hs _ j (fun i hi e => hj ⟨i,hi,e⟩),hI.rest j (fun i hi e => hj ⟨i,hi,e⟩)]
   obtain ⟨t,d⟩:=a
   have h2:=hI.defers
   simp only at h1 h2
   rw [← h1,h2]
  rw [e]
  exact hdone _ w hI.bel (fun i hi => hI.have_ i hi (hall i hi))
end
end Go.Proofs.YtfacmnooklljnaaGreatDoor
namespace Go.Proofs.YtfacmnooklljnaaGreatDoor
open Go.RowKit Go.Shelf
attribute [local go_sem] Oper.semAt_some
set_option maxHeartbeats 8000000
set_option maxRecDepth 100000
theorem Rq.line_inv {F : List UInt8} {l : List UInt8 × Rq.Tg × List UInt8} (h : Rq.line F = some l) : Rq.ver l.2.2 ≠ 0 ∧ ∃ t,Gt.parse t = some l.2.1 ∧ t.length ≤ F.length:=by
 unfold Rq.line at h
 have hp:=Gs.parts_len 32 F []
 generalize Gs.parts 32 [] F = L at h hp
 match L,h,hp with
 | [m,t,v],h,hp =>
  have h : (if Tp.isTok m = true then (Gt.parse t).bind fun g => if Rq.ver v = 0 then none else some (m,g,v) else none) = some l:=h
  by_cases h1 : Tp.isTok m = true
  ·rw [if_pos h1] at h
   cases hg : Gt.parse t with
   | none => rw [hg] at h; cases h
   | some g =>
    rw [hg] at h
    have h : (if Rq.ver v = 0 then none else some (m,g,v)) = some l:=h
    by_cases h2 : Rq.ver v = 0
    ·rw [if_pos h2] at h; cases h
    ·rw [if_neg h2] at h
     cases h
     refine ⟨h2,t,hg,?_⟩
     have:=hp t (by simp)
     simpa using this
  ·rw [if_neg h1] at h; cases h
theorem rq_mustB (b : Bool) (n : Int) (w : World) :
  Calls Tryz.prog 73 #[.bool b,.int .i64 n] w fun e w' => (if b = true then e = .returned (.tuple #[]) else e = .panicked [{ v:=stat n,recovered:=false }]) ∧ w' = w:=by
 cases b with
 | true => exact (rq_must n w).mono fun e w' h => ⟨by rw [if_pos rfl]; exact h.1,h.2⟩
 | false => exact (rq_must_no n w).mono fun e w' h => ⟨by rw [if_neg (by decide)]; exact h.1,h.2⟩
theorem rq_caughtD_idle (p : Addr) (w : World) :
  CallsD Tryz.prog 70 #[.pointer (some p)] .returning w fun e u' w' => e = .returned (.tuple #[]) ∧ u' = .returning ∧ w' = w:=by
 refine callsD_of_wpS Tryz.func70 rfl fun c₀ cs hu => ?_
 apply wpS_seq
 apply wpS_region
 simp [wpOpsS,go_sem,recoverD,hu,Tryz.ntmps70,Exit.thenS]
 apply wpS_seq
 apply wpS_region
 simp [wpOpsS,go_sem,recoverD,hu,Exit.thenS]
 refine wpS_cond (t:=false) (by simp [Act.eval,Array.replicate]) ?_
 simp only [Bool.false_eq_true,if_false]
 refine wpS_of_wp (wp_skip ?_)
 cases c₀
 simp_all [bodyPostS,results,Tryz.results70]
theorem rq_caughtD (p : Addr) (n : Int) (older : List PanicEntry) (w : World) (old : Value) (hc : w.cell? p = some old) (hz : w.frozen? p = false) :
  CallsD Tryz.prog 70 #[.pointer (some p)] (.panicking ({ v:=stat n,recovered:=false } :: older)) w fun e u' w' =>
   e = .returned (.tuple #[]) ∧ u' = .panicking ({ v:=stat n,recovered:=true } :: older) ∧ w' = w.setCell p (.int .i64 n):=by
 refine callsD_of_wpS Tryz.func70 rfl fun c₀ cs hu => ?_
 apply wpS_seq
 apply wpS_region
 simp [wpOpsS,go_sem,recoverD,hu,Tryz.ntmps70,Exit.thenS]
 apply wpS_seq
 apply wpS_region
 simp [wpOpsS,go_sem,recoverD,hu,Exit.thenS,stat]
 refine wpS_cond (t:=true) (by simp [Act.eval,Array.replicate]) ?_
 simp only [if_true]
 refine wpS_of_wp ?_
 simp [Array.replicate,List.replicate,List.setIfInBounds_toArray]
 have hta : ∀ (v : Value) (W : World),(Instr.typeAssert (.iface 3 v) 20 3 true).run Tryz.prog W = .ok (.tuple #[v,.bool true]) W:=stat_is
 go_wp2_with fail
 simp [bodyPostS,results,Tryz.results70,go_sem]
theorem Rq.ruN_ne : ∀ k,Rq.ruN k ≠ 200
 | 0 | 1 | 2 | 3 | 4 | 5 => by decide
 | n + 6 => by show (406 : Int) ≠ 200; decide
theorem rq_door (a : Act) (S E : Nat) (W : World) (n : Int) (Q : Ending → World → Prop) (hd : a.defers = [{ target:=Target.fn (Fn.func 70) #[],args:=#[.pointer (some ⟨E,0,none⟩)] }]) (h2 : a.tmps.getD 2 undef = .pointer (some ⟨S,0,none⟩)) (h3 : a.tmps.getD 3 undef = .pointer (some ⟨E,0,none⟩))
  (hE : Boxed W E 3 (.int .i64 0)) (hQ : Q (.returned (.tuple #[.pointer (some ⟨S,0,none⟩),.int .i64 n])) (W.setCell ⟨E,0,none⟩ (.int .i64 n))) :
  bodyPostD Tryz.prog Tryz.f26 Q (.panic [{ v:=stat n,recovered:=false }]) a W:=by
 obtain ⟨tm,df⟩:=a
 simp only at hd h2 h3
 subst hd
 have e2:=rg_ev (a:=⟨tm,[]⟩) h2
 have e3:=rg_ev (a:=⟨tm,[]⟩) h3
 simp only at e2 e3
 refine leaves_cons (f:=70) (args:=#[.pointer (some ⟨E,0,none⟩)]) (by simp) (by simp [go_sem]) ?_
 refine (rq_caughtD ⟨E,0,none⟩ n [] W _ hE.cell hE.frozen).mono ?_
 rintro e u' w'' ⟨rfl,rfl,rfl⟩
 have xe:=(Boxed.set (v:=.int .i64 0) (.int .i64 n) hE).cell
 obtain ⟨X,hX⟩ : ∃ X,W.setCell ⟨E,0,none⟩ (.int .i64 n) = X:=⟨_,rfl⟩
 rw [hX] at xe hQ ⊢
 clear hX hE
 simp [Leaves,settle,results,Tryz.results26,go_sem,e2,e3,xe]
 exact hQ
theorem rg_callV {P : Program} {o : Oper} {a : Act} {w : World} {K : Act → World → Prop} {Q : Exit → Act → World → Prop} (s t k : Nat) (cap : Array Value) (ty : Array TypeId) (v : Value) (R : Ending → World → Prop) (ho : o.op = Op.call { callee:=.value (.tmp s),args:=#[.tmp t],argTypes:=ty })
  (hs : a.tmps.getD s undef = .func (.func k) #[] cap) (hv : a.tmps.getD t undef = v)
  (eg : ∀ args w,(callFunc k args).run P w = .ok (.enter k args) w) (hc : Calls P k (#[v] ++ cap) w R) (hR : ∀ e w',R e w' → ∃ r,e = .returned r ∧ K (a.put o.dst r) w') : o.wp P a w K Q:=by
 have e:=rg_ev hv
 have e2:=rg_ev hs
 unfold Oper.wp execOp
 simp [ho,resolve,invoke,e2,e,eg,go_sem]
 refine hc.mono ?_
 intro z w' hz
 obtain ⟨r,rfl,hk⟩:=hR z w' hz
 exact hk
theorem rg_callP2 {P : Program} {o : Oper} {a : Act} {w : World} {K : Act → World → Prop} {Q : Exit → Act → World → Prop} (s t k : Nat) (ty : Array TypeId) (u v : Value) (R : Ending → World → Prop) (ho : o.op = Op.call { callee:=.value (.func k),args:=#[.tmp s,.tmp t],argTypes:=ty }) (hu : a.tmps.getD s undef = u) (hv : a.tmps.getD t undef = v)
  (eg : ∀ args w,(callFunc k args).run P w = .ok (.enter k args) w) (hc : Calls P k #[u,v] w R) (hR : ∀ e w',R e w' → (∃ r,e = .returned r ∧ K (a.put o.dst r) w') ∨ ∃ ch,e = .panicked ch ∧ Q (.panic ch) a w') : o.wp P a w K Q:=by
 have e:=rg_ev hv
 have e1:=rg_ev hu
 have e2 : a.eval (.func k) = .func (.func k) #[] #[]:=rfl
 unfold Oper.wp execOp
 simp [ho,resolve,invoke,e2,e,e1,eg,go_sem]
 refine hc.mono ?_
 intro z w' hz
 rcases hR z w' hz with ⟨r,rfl,hk⟩ | ⟨ch,rfl,hk⟩
 ·exact hk
 ·exact hk
theorem rq_rule (A C D : Nat) (F : ByteArray) (V P : Value) (fs : List Hp.Hd) (l : List UInt8 × Rq.Tg × List UInt8) (q : Option Addr) (n c : Nat) (w : World) (h : LkW w A F V fs ⟨l.1.toArray⟩ ⟨l.2.2.toArray⟩ P (.slice q n c)) (hT : TS w P l.2.1.1) (hL : l.2.1.1.length ≤ 300) (hs : ∀ p ∈ l.2.1.1,p.length ≤ 300)
  (hj : (Rq.joined Rq.nAcc fs).length ≤ 100000) (hC : Boxed w C 9 (.string ⟨#[108,97,115,116,45,101,118,101,110,116,45,105,100]⟩)) (hD : Boxed w D 3 (.int .i64 0)) (k : Nat) (hk : k < 7) :
  ∃ fid cap,(∀ W,(Instr.index 114 (.agg (ruC C D)) (.int .i64 (k : Int))).run Tryz.prog W = .ok (.agg #[.int .i64 (Rq.ruN k),.func (.func fid) #[] cap]) W) ∧ (∀ args W,(callFunc fid args).run Tryz.prog W = .ok (.enter fid args) W) ∧
   ∀ W,Below w.heap.size w W → Calls Tryz.prog fid (#[.pointer (some ⟨A,0,none⟩)] ++ cap) W fun e w' => e = .returned (.bool (Rq.ruB l fs k)) ∧ Below W.heap.size W w':=by
 have ev : (⟨l.2.2.toArray⟩ : ByteArray).toList = l.2.2:=ba_list _
 have em : (⟨l.1.toArray⟩ : ByteArray).toList = l.1:=ba_list _
 match k,hk with
 | 0,_ =>
  refine ⟨105,#[],fun W => rfl,enters_of Tryz.func105 (by kernel_rfl) rfl,fun W hb => ?_⟩
  have K:=rq_r1 A F V fs ⟨l.1.toArray⟩ ⟨l.2.2.toArray⟩ P (.slice q n c) W (h.below hb)
  rw [ev] at K
  exact K
 | 1,_ =>
  refine ⟨107,#[],fun W => rfl,enters_of Tryz.func107 (by kernel_rfl) rfl,fun W hb => ?_⟩
  exact rq_r2 A F V fs ⟨l.1.toArray⟩ ⟨l.2.2.toArray⟩ P (.slice q n c) W (h.below hb)
 | 2,_ =>
  refine ⟨108,#[],fun W => rfl,enters_of Tryz.func108 (by kernel_rfl) rfl,fun W hb => ?_⟩
  exact rq_r3 A F V fs ⟨l.1.toArray⟩ ⟨l.2.2.toArray⟩ P (.slice q n c) W (h.below hb)
 | 3,_ =>
  refine ⟨136,#[.pointer (some ⟨C,0,none⟩),.pointer (some ⟨D,0,none⟩)],fun W => rfl,lone1_in,fun W hb => ?_⟩
  exact rq_lone1 A C D F ⟨#[108,97,115,116,45,101,118,101,110,116,45,105,100]⟩ 0 V fs ⟨l.1.toArray⟩ ⟨l.2.2.toArray⟩ P (.slice q n c) W (h.below hb) (by decide) (boxed_below hC hb) (boxed_below hD hb)
 | 4,_ =>
  refine ⟨109,#[],fun W => rfl,enters_of Tryz.func109 (by kernel_rfl) rfl,fun W hb => ?_⟩
  have K:=rq_r4 A F V ⟨l.1.toArray⟩ ⟨l.2.2.toArray⟩ P (.slice q n c) W (h.below hb).c
  rw [ev] at K
  exact K.mono fun e w' h => ⟨h.1,by rw [h.2]; exact Below.refl _ _⟩
 | 5,_ =>
  refine ⟨110,#[],fun W => rfl,enters_of Tryz.func110 (by kernel_rfl) rfl,fun W hb => ?_⟩
  have K:=rq_r5 A F V ⟨l.1.toArray⟩ ⟨l.2.2.toArray⟩ P (.slice q n c) W (h.below hb).c
  rw [em] at K
  exact K.mono fun e w' h => ⟨h.1,by rw [h.2]; exact Below.refl _ _⟩
 | 6,_ =>
  refine ⟨111,#[],fun W => rfl,enters_of Tryz.func111 (by kernel_rfl) rfl,fun W hb => ?_⟩
  exact rq_r6 A F V fs ⟨l.1.toArray⟩ ⟨l.2.2.toArray⟩ P l.2.1.1 q n c W (h.below hb) (hT.below hb) hL hs hj
 | k + 7,hk => exact absurd hk (by omega)
def Rq.sto (o : Option (List UInt8 × Rq.Tg × List UInt8)) (fs : List Hp.Hd) : Int:=match o with
 | none => 400
 | some l => Rq.stat3 l fs
def LkO (F : ByteArray) (V : Value) (fs : List Hp.Hd) (e : Ending) (w' : World) : Prop:=∃ A,e = .returned (.tuple #[.pointer (some ⟨A,0,none⟩),.int .i64 (Rq.status F.data.toList fs)]) ∧
 (Rq.status F.data.toList fs = 200 → ∃ m g v p n c q k d,Rq.line F.data.toList = some (m,g,v) ∧ LkW w' A F V fs ⟨m.toArray⟩ ⟨v.toArray⟩ (.slice p n c) (.slice q k d) ∧ SwRow w' (.slice p n c) g.1 ∧ PrRow w' (.slice q k d) g.2)
def rlF (A R : Nat) (fid : FuncId) (cap : Array Value) (sn : Int) (b : Bool) : Nat → World → Value → Prop
 | 0,_,v => v = .pointer (some ⟨R,1,none⟩)
 | 1,_,v => v = .func (.func fid) #[] cap
 | 2,_,v => v = .pointer (some ⟨A,0,none⟩)
 | 3,_,v => v = .bool b
 | 4,_,v => v = .pointer (some ⟨R,0,none⟩)
 | 5,_,v => v = .int .i64 sn
 | 6,w,v => b = true ∧ v = .tuple #[]
 | _,_,_ => False
theorem rq_looked (F : ByteArray) (p : Option Addr) (n c : Nat) (fs : List Hp.Hd) (w : World) (hv : HS w (.slice p n c) fs) (hl : fs.length ≤ 1000) (hf : ∀ f ∈ fs,f.1.length ≤ 100000 ∧ f.2.length ≤ 100000) (hF : F.size ≤ 250) (hj : (Rq.joined Rq.nAcc fs).length ≤ 100000) (hm : Mx w) :
  Calls Tryz.prog 26 #[.agg #[.string F,.slice p n c]] w fun e w' => LkO F (.slice p n c) fs e w' ∧ Below w.heap.size w w':=by
 have h0 : 0 < w.heap.size:=by obtain ⟨m,hm⟩:=hm; exact lt_of_cell hm
 obtain ⟨B,hB⟩ : ∃ z,w.heap.size = z:=⟨_,rfl⟩
 obtain ⟨W3,hW3⟩ : ∃ z,((w.alloc (.cells #[.string F,.slice p n c] 25)).alloc (.cells #[.int .i64 0] 3)).alloc (.cells #[.string F,.slice p n c,.string ⟨#[]⟩,.string ⟨#[]⟩,.slice none 0 0,.slice none 0 0] 71) = z:=⟨_,rfl⟩
 have hb3 : Below w.heap.size w W3:=by rw [← hW3]; exact (((Below.refl _ _).alloc (Nat.le_refl _) _).alloc (by simp) _).alloc (by simp; omega) _
 have hz3 : W3.heap.size = B + 3:=by rw [← hW3,← hB]; simp
 have hE3 : Boxed W3 (B + 1) 3 (.int .i64 0):=by
  rw [← hW3,← hB]
  refine Boxed.alloc ?_ _
  have:=Boxed.new (w.alloc (.cells #[.string F,.slice p n c] 25)) 3 (.int .i64 0)
  simpa using this
 have hA3 : W3.heap[B + 2]? = some (lkC F (.slice p n c) ⟨#[]⟩ ⟨#[]⟩ (.slice none 0 0) (.slice none 0 0)):=by
  rw [← hW3,← hB]
  have:=World.alloc_heap_new ((w.alloc (.cells #[.string F,.slice p n c] 25)).alloc (.cells #[.int .i64 0] 3)) (lkC F (.slice p n c) ⟨#[]⟩ ⟨#[]⟩ (.slice none 0 0) (.slice none 0 0))
  simpa [lkC] using this
 have KL:=Lib.hid (rq_line (B + 2) F p n c W3 hA3 hF (hm.below hb3 h0) (by omega))
 obtain ⟨o,ho⟩ : ∃ z,Rq.line F.data.toList = z:=⟨_,rfl⟩
 rw [ho] at KL
 have KR:=Lib.hid (fun W => rq_rules W)
 have HV:=Lib.hid hv
 have HL:=Lib.hid hl
 have HF:=Lib.hid hf
 have HJ:=Lib.hid hj
 have HB:=Lib.hid hB
 have HW3:=Lib.hid hW3
 have HB3:=Lib.hid hb3
 have HZ3:=Lib.hid hz3
 have HE3:=Lib.hid hE3
 have HO:=Lib.hid ho
 have HFZ:=Lib.hid hF
 have HZT:=Lib.hid (show Rq.status F.data.toList fs = Rq.sto o fs by rw [← ho]; rfl)
 unfold LkO
 rw [ho]
 obtain ⟨st,hst⟩ : ∃ z,Rq.status F.data.toList fs = z:=⟨_,rfl⟩
 rw [hst] at HZT ⊢
 clear hv hl hf hF hj hm hB hW3 hb3 hz3 hE3 hA3 ho hst h0
 go_enter_defers Tryz.func26,Tryz.ntmps26
 go_wp2_with fail
 rw [HW3.out,HB.out]
 refine KL.out.mono ?_
 rintro e w4 ⟨hb4,hln⟩
 have HE4:=Lib.hid ((hb4.block _ (by omega)).trans HE3.out : Boxed w4 (B + 1) 3 (.int .i64 0))
 have HB4:=Lib.hid (show Below w.heap.size w w4 from HB3.out.trans (hb4.mono (by rw [HB.out]; omega)))
 have HZ4:=Lib.hid (show B + 3 ≤ w4.heap.size from HZ3.out ▸ hb4.size)
 clear hb4
 cases o with
 | none =>
  have hln : e = _:=hln
  subst hln
  have HS:=Lib.hid (show st = 400 from HZT.out)
  refine rq_door _ (B + 2) (B + 1) w4 400 _ rfl rfl rfl HE4.out ⟨⟨_,by rw [HS.out],fun h => absurd (HS.out.symm.trans h) (by decide)⟩,HB4.out.setCell (p:=⟨B + 1,0,none⟩) (by rw [HB.out]; exact Nat.le_succ _) _⟩
 | some l =>
  obtain ⟨rfl,p1,q1,n1,c1,k1,d1,hA4,hts,hps⟩:=hln
  have HA4:=Lib.hid hA4
  have HTS:=Lib.hid hts
  have HPS:=Lib.hid hps
  have HST:=Lib.hid (show st = Rq.stN l fs 7 0 from HZT.out.trans (Rq.stat3_is fs (Rq.line_inv HO.out).1))
  clear hA4 hts hps
  go_wp2_with fail
  refine (KR.out _).mono ?_
  rintro e w5 ⟨C,D,rfl,hC,hD,hb5⟩
  have HB5:=Lib.hid (HB4.out.trans (hb5.mono HB4.out.size))
  have hA5:=(hb5.block _ (Array.getElem?_eq_some_iff.1 HA4.out).1).trans HA4.out
  have HLK:=Lib.hid (show LkW w5 (B + 2) F (.slice p n c) fs ⟨l.1.toArray⟩ ⟨l.2.2.toArray⟩ (.slice p1 n1 c1) (.slice q1 k1 d1) from ⟨hA5,HV.out.below HB5.out,HL.out,HF.out⟩)
  have HE5:=Lib.hid (boxed_below HE4.out hb5)
  have HZ5:=Lib.hid (show B + 3 ≤ w5.heap.size from Nat.le_trans HZ4.out hb5.size)
  have HT5:=Lib.hid (HTS.out.below hb5)
  have HP5:=Lib.hid (HPS.out.belowW hb5)
  have HRU:=Lib.hid (fun k hk => rq_rule (B + 2) C D F (.slice p n c) (.slice p1 n1 c1) fs l q1 k1 d1 w5 HLK.out (TS.of HT5.out.str)
   (by obtain ⟨_,t,h1,h2⟩:=Rq.line_inv HO.out
       have h3:=(Gt.tg_bound t).1
       rw [h1] at h3
       have h4 : F.data.toList.length = F.size:=rfl
       have h5:=HFZ.out
       exact Nat.le_trans h3 (by omega))
   (by obtain ⟨_,t,h1,h2⟩:=Rq.line_inv HO.out
       have h3:=(Gt.tg_bound t).2.2.1
       rw [h1] at h3
       have h4 : F.data.toList.length = F.size:=rfl
       have h5:=HFZ.out
       exact fun p hp => Nat.le_trans (h3 p hp) (by omega)) HJ.out hC hD k hk)
  clear hC hD hb5 hA5
  obtain ⟨ru,hru⟩ : ∃ z,ruC C D = z:=⟨_,rfl⟩
  rw [hru] at HRU ⊢
  clear hru
  go_wp2_with fail
  go_loopw [12] (fun i wr => ∃ k : Nat,k ≤ 7 ∧ i = .int .i64 (k : Int) ∧ Below w5.heap.size w5 wr ∧ st = Rq.stN l fs (7 - k) k) (fun i _ => (7 - intOf i).toNat)
  case atStart => exact ⟨0,by omega,rfl,Below.refl _ _,HST.out⟩
  case round =>
   obtain ⟨k,hk,rfl,hbr,hsk⟩:=hrel
   by_cases hlt : k < 7
   ·obtain ⟨fid,cap,hix,eg,hc⟩:=HRU.out k hlt
    have hsn : st = if Rq.ruB l fs k = true then Rq.stN l fs (7 - (k + 1)) (k + 1) else Rq.ruN k:=by
     rw [hsk,show 7 - k = (7 - (k + 1)) + 1 by omega]; rfl
    obtain ⟨b,hb⟩ : ∃ z,Rq.ruB l fs k = z:=⟨_,rfl⟩
    rw [hb] at hsn
    simp only [hb] at hc
    obtain ⟨sn,hsn'⟩ : ∃ z,Rq.ruN k = z:=⟨_,rfl⟩
    rw [hsn'] at hsn
    simp only [hsn'] at hix
    obtain ⟨W6,hW6⟩ : ∃ z,wr.alloc (.cells #[.int .i64 sn,.func (.func fid) #[] cap] 113) = z:=⟨_,rfl⟩
    obtain ⟨R,hR⟩ : ∃ z,wr.heap.size = z:=⟨_,rfl⟩
    have HR6:=Lib.hid (show W6.heap[R]? = some (.cells #[.int .i64 sn,.func (.func fid) #[] cap] 113 (0,0)) by rw [← hW6,← hR]; exact World.alloc_heap_new _ _)
    have HB6:=Lib.hid (show Below w5.heap.size w5 W6 by rw [← hW6]; exact hbr.alloc hbr.size _)
    have HC:=Lib.hid hc
    have HSN:=Lib.hid hsn
    have HS2:=Lib.hid (show sn ≠ 200 by rw [← hsn']; exact Rq.ruN_ne k)
    have HW6:=Lib.hid hW6
    have HRR:=Lib.hid hR
    have hI : (k : Int) < 7:=by omega
    clear hbr hsk hc hb hsn' hsn hW6 hR
    go_wp2_with (simp only [hix])
    rw [HW6.out,HRR.out]
    refine region_slotsP (fun i => 15 + min i 6) (rlF (B + 2) R fid cap sn b) (fun _ => true) (by kernel_rfl) (by kernel_rfl) (fun i => by show 15 + min i 6 < _; simp; omega) (fun i j hi hj h => by have hi : i < 7:=hi; have hj : j < 7:=hj; omega) ?mono ?dst ?gu ?ng ?skip ?step ?done
    case mono =>
     intro i W W' v h hbw
     match i,h with
     | 0,h | 1,h | 2,h | 3,h | 4,h | 5,h => exact h
     | 6,h => exact h
     | n + 7,h => exact h.elim
    case dst =>
     intro i o ho
     match i,ho with
     | 0,ho | 1,ho | 2,ho | 3,ho | 4,ho | 5,ho | 6,ho => cases ho; rfl
     | n + 7,ho => exact absurd ho (by simp)
    case gu =>
     intro i o g b ho hgd W v hv
     match i,ho with
     | 0,ho => cases ho; cases hgd
     | 1,ho => cases ho; cases hgd
     | 2,ho => cases ho; cases hgd
     | 3,ho => cases ho; cases hgd
     | 4,ho => cases ho; cases hgd
     | 5,ho => cases ho; cases hgd
     | 6,ho => cases ho; cases hgd
     | n + 7,ho => exact absurd ho (by simp)
    case ng =>
     intro i o ho hgd
     match i,ho with
     | 0,ho => cases ho; first | rfl | cases hgd
     | 1,ho => cases ho; first | rfl | cases hgd
     | 2,ho => cases ho; first | rfl | cases hgd
     | 3,ho => cases ho; first | rfl | cases hgd
     | 4,ho => cases ho; first | rfl | cases hgd
     | 5,ho => cases ho; first | rfl | cases hgd
     | 6,ho => cases ho; first | rfl | cases hgd
     | n + 7,ho => exact absurd ho (by simp)
    case skip =>
     intro i W hi hsel
     match i,hi,hsel with
     | 0,_,hsel => first | exact absurd hsel (by decide) | rfl
     | 1,_,hsel => first | exact absurd hsel (by decide) | rfl
     | 2,_,hsel => first | exact absurd hsel (by decide) | rfl
     | 3,_,hsel => first | exact absurd hsel (by decide) | rfl
     | 4,_,hsel => first | exact absurd hsel (by decide) | rfl
     | 5,_,hsel => first | exact absurd hsel (by decide) | rfl
     | 6,_,hsel => first | exact absurd hsel (by decide) | rfl
     | n + 7,hi,_ => exact absurd hi (by simp)
    case step =>
     intro f a' W i o ho hsel hpre hbel hrest hdf
     match i,ho,hsel with
     | 0,ho,_ =>
      cases ho
      have q5 : a'.tmps.getD 5 undef = .pointer (some ⟨R,0,none⟩):=(hrest 5 (by intro i hi; have hi : i < 7:=hi; show 15 + min i 6 ≠ _; omega))
      have e5:=rg_ev q5
      exact rg_same (.pointer (some ⟨R,1,none⟩)) (by unfold Oper.wp execOp; go_simp; all_goals ((try simp only [e5]); (try go_simp); (try rw [if_pos (by omega)]); (try rw [if_neg (by omega)]); first | done | rfl | exact ⟨rfl,rfl⟩ | trivial)) rfl
     | 1,ho,_ =>
      cases ho
      have q15 : a'.tmps.getD 15 undef = .pointer (some ⟨R,1,none⟩):=(hpre { on:=0,ground:=.data } (by simp) rfl)
      have c1 : W.cell? ⟨R,1,none⟩ = some (.func (.func fid) #[] cap):=(hbel.cell (p:=⟨R,1,none⟩) (Array.getElem?_eq_some_iff.1 HR6.out).1).trans (by simp [World.cell?,HR6.out])
      have e15:=rg_ev q15
      exact rg_same (.func (.func fid) #[] cap) (by unfold Oper.wp execOp; go_simp; all_goals ((try simp only [e15]); (try go_simp); (try rw [if_pos (by omega)]); (try rw [if_neg (by omega)]); first | done | rfl | exact ⟨rfl,rfl⟩ | trivial)) rfl
     | 2,ho,_ =>
      cases ho
      have q2 : a'.tmps.getD 2 undef = .pointer (some ⟨B + 2,0,none⟩):=(hrest 2 (by intro i hi; have hi : i < 7:=hi; show 15 + min i 6 ≠ _; omega))
      have e2:=rg_ev q2
      exact rg_same (.pointer (some ⟨B + 2,0,none⟩)) (by unfold Oper.wp execOp; go_simp; all_goals ((try simp only [e2]); (try go_simp); (try rw [if_pos (by omega)]); (try rw [if_neg (by omega)]); first | done | rfl | exact ⟨rfl,rfl⟩ | trivial)) rfl
     | 3,ho,_ =>
      cases ho
      have q16 : a'.tmps.getD 16 undef = .func (.func fid) #[] cap:=(hpre { on:=1,ground:=.data } (by simp) rfl)
      have q17 : a'.tmps.getD 17 undef = .pointer (some ⟨B + 2,0,none⟩):=(hpre { on:=2,ground:=.data } (by simp) rfl)
      exact rg_callV 16 17 fid cap _ _ _ rfl q16 q17 eg (HC.out W (HB6.out.trans (hbel.mono HB6.out.size))) (fun e w' h => ⟨_,h.1,_,rfl,rfl,h.2⟩)
     | 4,ho,_ =>
      cases ho
      have q5 : a'.tmps.getD 5 undef = .pointer (some ⟨R,0,none⟩):=(hrest 5 (by intro i hi; have hi : i < 7:=hi; show 15 + min i 6 ≠ _; omega))
      have e5:=rg_ev q5
      exact rg_same (.pointer (some ⟨R,0,none⟩)) (by unfold Oper.wp execOp; go_simp; all_goals ((try simp only [e5]); (try go_simp); (try rw [if_pos (by omega)]); (try rw [if_neg (by omega)]); first | done | rfl | exact ⟨rfl,rfl⟩ | trivial)) rfl
     | 5,ho,_ =>
      cases ho
      have q19 : a'.tmps.getD 19 undef = .pointer (some ⟨R,0,none⟩):=(hpre { on:=4,ground:=.data } (by simp) rfl)
      have c0 : W.cell? ⟨R,0,none⟩ = some (.int .i64 sn):=(hbel.cell (p:=⟨R,0,none⟩) (Array.getElem?_eq_some_iff.1 HR6.out).1).trans (by simp [World.cell?,HR6.out])
      have e19:=rg_ev q19
      exact rg_same (.int .i64 sn) (by unfold Oper.wp execOp; go_simp; all_goals ((try simp only [e19]); (try go_simp); (try rw [if_pos (by omega)]); (try rw [if_neg (by omega)]); first | done | rfl | exact ⟨rfl,rfl⟩ | trivial)) rfl
     | 6,ho,_ =>
      cases ho
      have q18 : a'.tmps.getD 18 undef = .bool b:=(hpre { on:=3,ground:=.data } (by simp) rfl)
      have q20 : a'.tmps.getD 20 undef = .int .i64 sn:=(hpre { on:=5,ground:=.data } (by simp) rfl)
      refine rg_callP2 18 20 73 _ _ _ _ rfl q18 q20 (enters_of Tryz.func73 (by kernel_rfl) rfl) (rq_mustB b sn W) ?_
      rintro e w' ⟨he,rfl⟩
      cases b with
      | true =>
       rw [if_pos rfl] at he
       exact .inl ⟨_,he,_,rfl,⟨rfl,rfl⟩,Below.refl _ _⟩
      | false =>
       rw [if_neg (by decide)] at he
       have hs : st = sn:=HSN.out
       refine .inr ⟨_,he,rq_door _ (B + 2) (B + 1) w' sn _ hdf (hrest 2 (by intro i hi; show 15 + min i 6 ≠ _; omega)) (hrest 3 (by intro i hi; show 15 + min i 6 ≠ _; omega)) (boxed_below HE5.out (HB6.out.trans (hbel.mono HB6.out.size))) ⟨⟨_,by rw [hs],fun h => ?_⟩,?_⟩⟩
       ·exact absurd (hs.symm.trans h) HS2.out
       ·exact ((HB5.out.trans ((HB6.out.trans (hbel.mono HB6.out.size)).mono HB5.out.size)).setCell (p:=⟨B + 1,0,none⟩) (by rw [HB.out]; exact Nat.le_succ _) _)
     | n + 7,ho,_ => exact absurd ho (by simp)
    case done =>
     intro vs W hbel hvs
     have v0 : vs 0 = .pointer (some ⟨R,1,none⟩):=hvs 0 (by decide)
     have v1 : vs 1 = .func (.func fid) #[] cap:=hvs 1 (by decide)
     have v2 : vs 2 = .pointer (some ⟨B + 2,0,none⟩):=hvs 2 (by decide)
     have v3 : vs 3 = .bool b:=hvs 3 (by decide)
     have v4 : vs 4 = .pointer (some ⟨R,0,none⟩):=hvs 4 (by decide)
     have v5 : vs 5 = .int .i64 sn:=hvs 5 (by decide)
     obtain ⟨hbt,v6⟩ : b = true ∧ vs 6 = .tuple #[]:=hvs 6 (by decide)
     have HBR:=Lib.hid hbel
     simp only [fillN,List.size_toArray,List.length_cons,List.length_nil,Nat.reduceAdd,show List.range 7 = [0,1,2,3,4,5,6] from rfl,List.foldl_cons,List.foldl_nil,show 15 + min 0 6 = 15 from rfl,show 15 + min 1 6 = 16 from rfl,show 15 + min 2 6 = 17 from rfl,show 15 + min 3 6 = 18 from rfl,show 15 + min 4 6 = 19 from rfl,show 15 + min 5 6 = 20 from rfl,show 15 + min 6 6 = 21 from rfl,v0,v1,v2,v3,v4,v5,v6]
     clear v0 v1 v2 v3 v4 v5 v6 hvs hbel
     go_simp
     subst hbt
     have HN:=Lib.hid (show st = Rq.stN l fs (7 - (k + 1)) (k + 1) from HSN.out)
     clear eg hix
     go_wp2_with fail
     go_roundw
     case rel => exact ⟨k + 1,by omega,by go_num,HB6.out.trans (HBR.out.mono HB6.out.size),HN.out⟩
     case measure => simp [intOf]; omega
   ·have h7 : k = 7:=by omega
    have HSK:=Lib.hid (show st = 200 by rw [hsk,h7]; rfl)
    have hI : ¬ ((k : Int) < 7):=by omega
    have HBR:=Lib.hid hbr
    have he:=boxed_below HE5.out hbr
    have ce:=he.cell
    have ze:=he.frozen
    have HE6:=Lib.hid he
    have HT6:=Lib.hid ((HT5.out.below hbr).keep (w':=wr.setCell ⟨B + 1,0,none⟩ (.int .i64 200)) (t:=3) he (by decide) fun j hj => Below.heap_setCell _ _ _ _ (by show j ≠ B + 1; exact hj))
    have HP6:=Lib.hid ((HP5.out.belowW hbr).keep (w':=wr.setCell ⟨B + 1,0,none⟩ (.int .i64 200)) (t:=3) he (by decide) fun j hj => Below.heap_setCell _ _ _ _ (by show j ≠ B + 1; exact hj))
    have HBF:=Lib.hid (show Below w.heap.size w (wr.setCell ⟨B + 1,0,none⟩ (.int .i64 200)) from (HB5.out.trans (hbr.mono HB5.out.size)).setCell (p:=⟨B + 1,0,none⟩) (by rw [HB.out]; exact Nat.le_succ _) _)
    have HAF:=Lib.hid ((Below.heap_setCell wr ⟨B + 1,0,none⟩ (.int .i64 200) (B + 2) (by show B + 2 ≠ B + 1; omega)).trans ((hbr.block _ (Array.getElem?_eq_some_iff.1 HLK.out.c).1).trans HLK.out.c))
    have cf:=(Boxed.set (v:=.int .i64 0) (.int .i64 200) he).cell
    clear hsk h7 hbr he hlt
    go_wp2_with fail
    obtain ⟨X,hX⟩ : ∃ X,wr.setCell ⟨B + 1,0,none⟩ (.int .i64 200) = X:=⟨_,rfl⟩
    rw [hX] at cf HT6 HP6 HBF HAF ⊢
    clear hX ce ze
    refine leaves_cons (f:=70) (args:=#[.pointer (some ⟨B + 1,0,none⟩)]) (by simp) (by simp [go_sem]) ?_
    refine (rq_caughtD_idle _ _).mono ?_
    rintro e u' w'' ⟨rfl,rfl,rfl⟩
    simp [Leaves,settle,results,Tryz.results26,go_sem,cf]
    exact ⟨⟨B + 2,⟨rfl,HSK.out.symm⟩,fun _ => ⟨l.1,l.2.1.1,l.2.1.2,l.2.2,rfl,p1,n1,c1,q1,k1,d1,⟨HAF.out,HV.out.below HBF.out,HL.out,HF.out⟩,HT6.out,HP6.out⟩⟩,HBF.out⟩
end Go.Proofs.YtfacmnooklljnaaGreatDoor
namespace Go.Proofs.YtfacmnooklljnaaGreatDoor
open Go.RowKit Go.Shelf
set_option maxHeartbeats 4000000
set_option maxRecDepth 100000
namespace Rs
theorem rd_step {c : UInt8} {l : List UInt8} {n M : Int} (h0 : 0 ≤ M) (hc : Dp.digV c.toNat < 10) (hc0 : 0 ≤ Dp.digV c.toNat) (hn : 0 ≤ n) (h : ∀ m,0 ≤ m → m ≤ n * 10 + 9 → 0 ≤ (Dp.rd 10 l m).1 ∧ (Dp.rd 10 l m).1 ≤ M) : 0 ≤ (Dp.rd 10 (c :: l) n).1 ∧ (Dp.rd 10 (c :: l) n).1 ≤ M:=by
 simp only [Dp.rd]
 by_cases h1 : Dp.mulE n 10 ≠ 0
 ·rw [if_pos h1]; exact ⟨Int.le_refl _,h0⟩
 ·rw [if_neg h1]
  by_cases h2 : Dp.addE (Dp.mulN n 10) (Dp.digV c.toNat) ≠ 0
  ·rw [if_pos h2]; exact ⟨Int.le_refl _,h0⟩
  ·rw [if_neg h2]
   refine h _ ?_ ?_
   ·unfold Dp.addN Dp.mulN; split <;> split <;> omega
   ·unfold Dp.addN Dp.mulN; split <;> split <;> omega
theorem num_three {l : List UInt8} (h : l.length = 3) : 0 ≤ Dp.numN 10 l ∧ Dp.numN 10 l ≤ 999:=by
 match l,h with
 | [a,b,c],_ =>
  unfold Dp.numN
  by_cases hd : [a,b,c] = [] ∨ Dp.allD 10 [a,b,c] = false
  ·rw [if_pos hd]; omega
  ·rw [if_neg hd]
   have ha : Dp.allD 10 [a,b,c] = true:=by
    cases e : Dp.allD 10 [a,b,c] with
    | true => rfl
    | false => exact absurd (.inr e) hd
   simp [Dp.allD] at ha
   obtain ⟨h1,h2,h3⟩:=ha
   have l1:=Dp.digV_lo (a.toNat : Int)
   have l2:=Dp.digV_lo (b.toNat : Int)
   have l3:=Dp.digV_lo (c.toNat : Int)
   refine rd_step (by omega) h1 l1.1 (by omega) (fun m m0 m1 => rd_step (by omega) h2 l2.1 m0 (fun k k0 k1 => rd_step (by omega) h3 l3.1 k0 (fun j j0 j1 => ?_)))
   show 0 ≤ j ∧ j ≤ 999
   omega
end Rs
end Go.Proofs.YtfacmnooklljnaaGreatDoor
namespace Go.Proofs.YtfacmnooklljnaaGreatDoor
open Go.RowKit Go.Shelf
set_option maxHeartbeats 4000000
set_option maxRecDepth 100000
namespace Rs
abbrev Rep:=Int × Bool × Bool × Bool × Int
def joined (nm : List UInt8) (fs : List Hp.Hd) : List UInt8:=Lib.join (Hg.vals nm fs) [44,32]
def isEv (fs : List Hp.Hd) : Bool:=decide ((Hg.vals Hp.ct fs).length = 1) && (Tp.lower (Tp.cut (joined Hp.ct fs) 59).1 == Hp.es)
def ofK (st : Int) (fs : List Hp.Hd) : Option Rep :=
 if 0 < (Hg.vals Hp.te fs).length then
  (if (Hg.vals Hp.cl fs).length = 0 ∧ (Tp.items (joined Hp.te fs)).length = 1 ∧ Tp.lower ((Tp.items (joined Hp.te fs)).getD 0 []) = Hp.ch then some (st,isEv fs,true,false,0) else none)
 else if 0 < (Hg.vals Hp.cl fs).length then
  (if (Hg.vals Hp.cl fs).length = 1 ∧ Dp.numE 10 (joined Hp.cl fs) = 0 then some (st,isEv fs,false,true,Dp.numN 10 (joined Hp.cl fs)) else none)
 else some (st,isEv fs,false,false,0)
def of (F : List UInt8) (fs : List Hp.Hd) : Option Rep:=(status F).bind fun st => ofK st fs
end Rs
def stR (w : World) (R : Nat) (r : Rs.Rep) : World:=((((w.setCell ⟨R,0,none⟩ (.int .i64 r.1)).setCell ⟨R,1,none⟩ (.bool r.2.1)).setCell ⟨R,2,none⟩ (.bool r.2.2.1)).setCell ⟨R,3,none⟩ (.bool r.2.2.2.1)).setCell ⟨R,4,none⟩ (.int .u64 r.2.2.2.2)
end Go.Proofs.YtfacmnooklljnaaGreatDoor
namespace Go.Proofs.YtfacmnooklljnaaGreatDoor
open Go.RowKit Go.Shelf
set_option maxHeartbeats 8000000
set_option maxRecDepth 100000
end Go.Proofs.YtfacmnooklljnaaGreatDoor
namespace Go.Proofs.YtfacmnooklljnaaGreatDoor
open Go.RowKit Go.Shelf
set_option maxHeartbeats 8000000
set_option maxRecDepth 100000
theorem Tp.trim_len (l : List UInt8) : (Tp.trim l).length ≤ l.length:=by
 unfold Tp.trim Tp.trimR Tp.trimL
 rw [List.length_reverse]
 refine Nat.le_trans (List.dropWhile_sublist _).length_le ?_
 rw [List.length_reverse]
 exact (List.dropWhile_sublist _).length_le
theorem Tp.cut_len (l : List UInt8) (b : Int) : (Tp.cut l b).1.length ≤ l.length:=by
 unfold Tp.cut
 split
 ·refine Nat.le_trans (Tp.trim_len _) ?_
  rw [List.length_take]; omega
 ·exact Tp.trim_len _
theorem Tp.items_len {l p : List UInt8} (hp : p ∈ Tp.items l) : p.length ≤ l.length:=by
 obtain ⟨r,hr,rfl⟩:=List.mem_map.1 (List.mem_filter.1 hp).1
 have h1:=Tp.parts_len l [] r hr
 exact Nat.le_trans (Tp.trim_len _) (by simpa using h1)
end Go.Proofs.YtfacmnooklljnaaGreatDoor
namespace Go.Proofs.YtfacmnooklljnaaGreatDoor
open Go.RowKit Go.Shelf
set_option maxHeartbeats 4000000
set_option maxRecDepth 100000
def Rs.name (k : Int) : Value:=if k = 1 then .string ⟨#[115,116,114,101,97,109]⟩ else if k = 2 then .string ⟨#[115,116,111,112]⟩ else if k = 3 then .string ⟨#[97,103,97,105,110]⟩ else .string ⟨#[]⟩
end Go.Proofs.YtfacmnooklljnaaGreatDoor
namespace Go.Proofs.YtfacmnooklljnaaGreatDoor
open Go.RowKit Go.Shelf
set_option maxHeartbeats 8000000
set_option maxRecDepth 100000
def hds (l : List Hp.Hd) : List Value:=l.flatMap fun p => [Hp.sx p.1,Hp.sx p.2]
theorem hds_snoc (l : List Hp.Hd) (p : Hp.Hd) : hds (l ++ [p]) = hds l ++ [Hp.sx p.1,Hp.sx p.2]:=by unfold hds; rw [List.flatMap_append]; simp
theorem hds_get : ∀ (L : List Hp.Hd) (j : Nat),j < L.length → (hds L)[j * 2]? = some (Hp.sx (L.getD j ([],[])).1) ∧ (hds L)[j * 2 + 1]? = some (Hp.sx (L.getD j ([],[])).2)
 | p :: L,0,_ => ⟨rfl,rfl⟩
 | p :: L,j + 1,h => by
  have:=hds_get L j (by simpa using h)
  have e : hds (p :: L) = Hp.sx p.1 :: Hp.sx p.2 :: hds L:=rfl
  rw [e,show (j + 1) * 2 = j * 2 + 1 + 1 by omega]
  simpa using this
theorem HS.own {w : World} {B : Nat} {v : Value} {fs : List Hp.Hd} (h : w.ownsRow B 59 2 v fs.length (hds fs)) : HS w v fs:=by
 rcases h.2 with ⟨rfl,h0⟩ | ⟨g,cap,cur,rfl,hBg,hg,hnc,_,hcs,htk⟩
 ·exact .inl ⟨none,0,rfl,List.length_eq_zero_iff.1 h0⟩
 ·refine .inr ⟨g,0,cap,rfl,fun j hj => ?_⟩
  have hp:=hds_get fs j hj
  rw [← htk] at hp
  rw [List.getElem?_take_of_lt (by omega),List.getElem?_take_of_lt (by omega)] at hp
  rw [Nat.zero_add]
  refine ⟨?_,?_⟩
  ·rw [← hp.1]; simp [World.cell?,hg]
  ·rw [← hp.2]; simp [World.cell?,hg]
theorem heap_alloc_old' {w : World} {k : Nat} {x : Obj} (o : Obj) (h : w.heap[k]? = some x) : (w.alloc o).heap[k]? = some x:=by
 rw [Below.heap_alloc _ _ _ (Array.getElem?_eq_some_iff.1 h).1]; exact h
theorem own_ne {w : World} {B n : Nat} {v : Value} {xs : List Value} (h : w.ownsRow B 59 2 v n xs) {k : Nat} {cs : Array Value} {t : TypeId} {fr : Nat × Nat} (hk : w.heap[k]? = some (.cells cs t fr)) (ht : t ≠ 59) : some k ≠ v.ownBlock:=by
 rcases h.2 with ⟨rfl,h0⟩ | ⟨g,cap,cur,rfl,hBg,hg,hnc,_,hcs,htk⟩
 ·intro e; cases e
 ·intro e
  obtain rfl : k = g:=by simpa [Value.ownBlock] using e
  rw [hk] at hg
  cases hg
  exact ht rfl
def RSt (w0 : World) (A B : Nat) (F : ByteArray) (fs : List Hp.Hd) (w : World) : Prop:=∃ V,w.heap[A]? = some (.cells #[.string F,V] 25 (0,0)) ∧ w.ownsRow B 59 2 V fs.length (hds fs) ∧ B ≤ w.heap.size ∧ w0.heap.size ≤ B ∧ w0.heap.size ≤ A ∧ Below w0.heap.size w0 w
end Go.Proofs.YtfacmnooklljnaaGreatDoor
namespace Go.Proofs.YtfacmnooklljnaaGreatDoor
open Go.RowKit Go.Shelf
set_option maxHeartbeats 8000000
set_option maxRecDepth 100000
namespace Hr
def fldB (f : Hp.Hd) : Bool:=Tp.isTok f.1 && (Tp.lower f.1 == f.1) && Tp.isVal f.2
def okB (F : List UInt8) (fs : List Hp.Hd) : Bool:=(match F with | [] => false | c :: _ => !(decide ((c.toNat : Int) = 9) || decide ((c.toNat : Int) = 32))) && Tp.isVal (120 :: F ++ [120]) && fs.all fldB
theorem hok_of {F : List UInt8} {fs : List Hp.Hd} (h : okB F fs = true) : Hp.HOk F fs:=by
 unfold okB at h
 rw [Bool.and_eq_true,Bool.and_eq_true,List.all_eq_true] at h
 obtain ⟨⟨h1,h2⟩,h3⟩:=h
 match F,h1 with
 | c :: l,h1 =>
  refine ⟨by simp,?_,h2,fun f hf => ?_⟩
  ·show Tp.trim [c] ≠ []
   simp at h1
   have hb : Tp.blankB c = false:=by
    unfold Tp.blankB Tp.blank
    simp
    omega
   unfold Tp.trim
   rw [Hp.trimL_no hb,show [c] = [] ++ [c] from rfl,Hp.trimR_no hb]
   simp
  ·have:=h3 f hf
   unfold fldB at this
   simp at this
   exact ⟨this.1.1,this.1.2,this.2⟩
end Hr
def rrA (C : Nat) (nb vb lb : ByteArray) (q3 : Bool) : Nat → World → Value → Prop
 | 0,_,v => v = .pointer (some ⟨C,0,none⟩)
 | 1,_,v => v = .string nb
 | 2,_,v => v = .bool false
 | 3,_,v => v = .bool true
 | 4,_,v => v = .bool true
 | 5,_,v => v = undef
 | 6,_,v => v = undef
 | 7,_,v => v = undef
 | 8,_,v => v = undef
 | 9,_,v => v = undef
 | 10,_,v => v = undef
 | 11,_,v => v = .bool true
 | 12,_,v => v = .bool true
 | 13,_,v => v = undef
 | 14,_,v => v = undef
 | 15,_,v => v = undef
 | 16,_,v => v = undef
 | 17,_,v => v = .bool true
 | _,_,_ => False
def rrB (C : Nat) (nb vb lb : ByteArray) (q3 : Bool) : Nat → World → Value → Prop
 | 0,_,v => v = .pointer (some ⟨C,0,none⟩)
 | 1,_,v => v = .string nb
 | 2,_,v => v = .bool true
 | 3,_,v => v = .bool false
 | 4,_,v => v = .bool false
 | 5,_,v => v = .pointer (some ⟨C,0,none⟩)
 | 6,_,v => v = .string nb
 | 7,_,v => v = .string lb
 | 8,_,v => v = .pointer (some ⟨C,0,none⟩)
 | 9,_,v => v = .string nb
 | 10,_,v => v = .bool true
 | 11,_,v => v = .bool true
 | 12,_,v => v = .bool true
 | 13,_,v => v = undef
 | 14,_,v => v = undef
 | 15,_,v => v = undef
 | 16,_,v => v = undef
 | 17,_,v => v = .bool true
 | _,_,_ => False
def rrC (C : Nat) (nb vb lb : ByteArray) (q3 : Bool) : Nat → World → Value → Prop
 | 0,_,v => v = .pointer (some ⟨C,0,none⟩)
 | 1,_,v => v = .string nb
 | 2,_,v => v = .bool true
 | 3,_,v => v = .bool false
 | 4,_,v => v = .bool false
 | 5,_,v => v = .pointer (some ⟨C,0,none⟩)
 | 6,_,v => v = .string nb
 | 7,_,v => v = .string lb
 | 8,_,v => v = .pointer (some ⟨C,0,none⟩)
 | 9,_,v => v = .string nb
 | 10,_,v => v = .bool false
 | 11,_,v => v = .bool false
 | 12,_,v => v = .bool false
 | 13,_,v => v = .pointer (some ⟨C,1,none⟩)
 | 14,_,v => v = .string vb
 | 15,_,v => v = .bool q3
 | 16,_,v => v = .bool (!q3)
 | 17,_,v => v = .bool (!q3)
 | _,_,_ => False
theorem rf_Right (F : List UInt8) (V : Value) (fs : List Hp.Hd) (w : World) (hv : HS w V fs) (hF : F.length ≤ 100000) (hl : fs.length ≤ 1000) (hs : ∀ f ∈ fs,f.1.length ≤ 100000 ∧ f.2.length ≤ 100000) :
  Calls Tryz.prog 12 #[.agg #[Hp.sx F,V]] w fun e w' => e = .returned (.bool (Hr.okB F fs)) ∧ Below w.heap.size w w':=by
 obtain ⟨p,c,rfl⟩:=hv.slice
 obtain ⟨N,hN⟩ : ∃ N,fs.length = N:=⟨_,rfl⟩
 rw [hN] at hv hl ⊢
 unfold Hp.sx
 obtain ⟨fb,hfb⟩ : ∃ z : ByteArray,(⟨F.toArray⟩ : ByteArray) = z:=⟨_,rfl⟩
 rw [hfb]
 have hfs : fb.size ≤ 100000:=by rw [← hfb]; exact hF
 obtain ⟨H,hH⟩ : ∃ H,w.heap.size = H:=⟨_,rfl⟩
 obtain ⟨W1,hW1⟩ : ∃ Z,w.alloc (.cells #[.string fb,.slice p N c] 25) = Z:=⟨_,rfl⟩
 have HB1:=Lib.hid (show Below H w W1 by rw [← hW1,← hH]; exact (Below.refl _ _).alloc (Nat.le_refl _) _)
 have HG1:=Lib.hid (show W1.heap[H]? = some (.cells #[.string fb,.slice p N c] 25 (0,0)) by rw [← hW1,← hH]; exact World.alloc_heap_new _ _)
 have hc0 : W1.cell? ⟨H,0,none⟩ = some (.string fb):=by simp [World.cell?,HG1.out]
 have HC0:=Lib.hid hc0
 have HV:=Lib.hid hv
 have HW1:=Lib.hid hW1
 have HHH:=Lib.hid hH
 have HNN:=Lib.hid hN
 have HSZ:=Lib.hid hs
 have HFB:=Lib.hid hfb
 clear hv hs hN hfb hH hW1 hc0
 by_cases h0 : fb.size = 0
 ·have hF0 : F = []:=by rw [← List.length_eq_zero_iff]; rw [← HFB.out] at h0; exact h0
  subst hF0
  have hf0 : fb = ⟨#[]⟩:=HFB.out.symm
  subst hf0
  have hc0:=HC0.out
  go_enter Tryz.func12,Tryz.ntmps12
  go_wp2_with fail
  rw [HHH.out,HW1.out]
  go_wp2_with fail
  go_ret
  exact ⟨rfl,HB1.out⟩
 ·have hpos : 0 < fb.size:=Nat.pos_of_ne_zero h0
  obtain ⟨c0,F',hFF⟩ : ∃ c0 F',F = c0 :: F':=by
   match F,HFB.out with
   | [],h => exfalso; apply h0; rw [← h]; rfl
   | c0 :: F',_ => exact ⟨c0,F',rfl⟩
  have hc : (fb[0]).toNat = c0.toNat:=by
   have h:=HFB.out
   subst h
   subst hFF
   rfl
  have HOB:=Lib.hid (show Hr.okB F fs = (!(decide (((fb[0]).toNat : Int) = 9) || decide (((fb[0]).toNat : Int) = 32)) && Tp.isVal (120 :: F ++ [120]) && fs.all Hr.fldB) by rw [hc,hFF]; rfl)
  have e0 : (fb.toList == []) = false:=by
   rw [ByteArray.toList_eq,beq_eq_false_iff_ne]
   intro h
   apply h0
   show fb.data.size = 0
   rw [← Array.length_toList,h]; rfl
  clear hc hFF
  by_cases h9 : ((fb[0]).toNat : Int) = 9
  ·have hc0:=HC0.out
   have HO2:=Lib.hid (show Hr.okB F fs = false by rw [HOB.out,decide_eq_true h9]; rfl)
   go_enter Tryz.func12,Tryz.ntmps12
   go_wp2_with fail
   rw [HHH.out,HW1.out]
   go_wp2_with fail
   go_ret
   exact ⟨by rw [HO2.out]; rfl,by first | exact HB1.out | (rw [HHH.out]; exact HB1.out)⟩
  ·by_cases h32 : ((fb[0]).toNat : Int) = 32
   ·have hc0:=HC0.out
    have HO2:=Lib.hid (show Hr.okB F fs = false by rw [HOB.out,decide_eq_true h32,Bool.or_true]; rfl)
    go_enter Tryz.func12,Tryz.ntmps12
    go_wp2_with fail
    rw [HHH.out,HW1.out]
    go_wp2_with fail
    go_ret
    exact ⟨by rw [HO2.out]; rfl,by first | exact HB1.out | (rw [HHH.out]; exact HB1.out)⟩
   ·have HO2:=Lib.hid (show Hr.okB F fs = (Tp.isVal (120 :: F ++ [120]) && fs.all Hr.fldB) by rw [HOB.out,decide_eq_false h9,decide_eq_false h32]; rfl)
    have hc0:=HC0.out
    have K1:=rtk_value ((⟨#[120]⟩ : ByteArray) ++ fb ++ (⟨#[120]⟩ : ByteArray)) W1 (by rw [ByteArray.size_append,ByteArray.size_append]; have : (⟨#[120]⟩ : ByteArray).size = 1:=rfl; omega)
    rw [show ((⟨#[120]⟩ : ByteArray) ++ fb ++ (⟨#[120]⟩ : ByteArray)).data.toList = 120 :: F ++ [120] by rw [← HFB.out]; simp] at K1
    have K1:=Lib.hid K1
    obtain ⟨bv,hbv⟩ : ∃ z,Tp.isVal (120 :: F ++ [120]) = z:=⟨_,rfl⟩
    rw [hbv] at K1 HO2
    have h9b : (((fb[0]).toNat : Int) == 9) = false:=by simpa using h9
    have h32b : (((fb[0]).toNat : Int) == 32) = false:=by simpa using h32
    clear hbv HOB h9 h32
    go_enter Tryz.func12,Tryz.ntmps12
    go_wp2_with fail
    rw [HHH.out,HW1.out]
    go_wp2_with fail
    refine K1.out.mono ?_
    rintro e w1 ⟨rfl,hw⟩
    subst w1
    cases bv
    ·go_wp2_with fail
     go_ret
     exact ⟨by rw [HO2.out]; rfl,by first | exact HB1.out | (rw [HHH.out]; exact HB1.out)⟩
    ·go_wp2_with fail
     clear h9b h32b e0
     go_loopw [3] (fun i wr => ∃ k : Nat,k ≤ N ∧ i = .int .i64 k ∧ (fs.take k).all Hr.fldB = true ∧ wr.heap[H]? = some (.cells #[.string fb,.slice p N c] 25 (0,0)) ∧ Below H w wr) (fun i _ => N - (intOf i).toNat)
     case atStart => exact ⟨0,Nat.zero_le _,rfl,rfl,HG1.out,HB1.out⟩
     case round =>
      obtain ⟨k,hk,rfl,hall,hg,hbl⟩:=hrel
      have HALL:=Lib.hid hall
      have HG:=Lib.hid hg
      have HBL:=Lib.hid hbl
      have a1 : wr.cell? ⟨H,1,none⟩ = some (.slice p N c):=by simp [World.cell?,hg]
      clear hall hg hbl
      by_cases hlt : k < N
      ·have HTK:=Lib.hid (show fs.take (k + 1) = fs.take k ++ [fs.getD k ([],[])] by
        rw [List.take_add_one,List.getElem?_eq_getElem (by rw [HNN.out]; exact hlt),List.getD_eq_getElem?_getD,List.getElem?_eq_getElem (by rw [HNN.out]; exact hlt)]; rfl)
       have HMM:=Lib.hid (show fs.getD k ([],[]) ∈ fs by rw [List.getD_eq_getElem?_getD,List.getElem?_eq_getElem (by rw [HNN.out]; exact hlt)]; exact List.getElem_mem _)
       have hszf:=HSZ.out _ HMM.out
       have HVR:=Lib.hid (HV.out.below (by rw [HHH.out]; exact HBL.out))
       obtain ⟨g1,o1,rfl,hc1⟩:=HVR.out.cells (k:=k) (by rw [HNN.out]; exact hlt)
       obtain ⟨hx,hy⟩:=hc1 k (by rw [HNN.out]; exact hlt)
       obtain ⟨⟨n0,v0⟩,hf⟩ : ∃ x,fs.getD k ([],[]) = x:=⟨_,rfl⟩
       rw [hf] at hx hy HTK HMM hszf
       simp only at hx hy hszf
       obtain ⟨nb,hnb⟩ : ∃ z : ByteArray,(⟨n0.toArray⟩ : ByteArray) = z:=⟨_,rfl⟩
       obtain ⟨vb,hvb⟩ : ∃ z : ByteArray,(⟨v0.toArray⟩ : ByteArray) = z:=⟨_,rfl⟩
       rw [show Hp.sx n0 = .string nb by rw [← hnb]; rfl] at hx
       rw [show Hp.sx v0 = .string vb by rw [← hvb]; rfl] at hy
       have hns : nb.size ≤ 100000:=by rw [← hnb]; exact hszf.1
       have hvs : vb.size ≤ 100000:=by rw [← hvb]; exact hszf.2
       have KT0:=fun W => rtk_token nb W (by omega)
       have KL0:=fun W => rtk_lower nb W (by omega)
       have KV0:=fun W => rtk_value vb W (by omega)
       rw [show nb.data.toList = n0 by rw [← hnb]] at KT0 KL0
       rw [show vb.data.toList = v0 by rw [← hvb]] at KV0
       obtain ⟨lb,hlb⟩ : ∃ z : ByteArray,(⟨(Tp.lower n0).toArray⟩ : ByteArray) = z:=⟨_,rfl⟩
       rw [hlb] at KL0
       have hq : (lb.toList == nb.toList) = (Tp.lower n0 == n0):=by
        rw [← hlb,← hnb,ByteArray.toList_eq,ByteArray.toList_eq]
       obtain ⟨q1,hq1⟩ : ∃ z,Tp.isTok n0 = z:=⟨_,rfl⟩
       obtain ⟨q2,hq2⟩ : ∃ z,(Tp.lower n0 == n0) = z:=⟨_,rfl⟩
       obtain ⟨q3,hq3⟩ : ∃ z,Tp.isVal v0 = z:=⟨_,rfl⟩
       rw [hq1] at KT0
       rw [hq2] at hq
       rw [hq3] at KV0
       have HFB2:=Lib.hid (show Hr.fldB (n0,v0) = (q1 && q2 && q3) by rw [← hq1,← hq2,← hq3]; rfl)
       have KT:=Lib.hid KT0
       have KL:=Lib.hid KL0
       have KV:=Lib.hid KV0
       have HQ:=Lib.hid hq
       clear hc1 hf hszf hnb hvb KT0 KL0 KV0 hlb hq hq1 hq2 hq3 hns hvs
       go_upto_region 7 with (fail)
       obtain ⟨C,hC⟩ : ∃ z,wr.heap.size = z:=⟨_,rfl⟩
       obtain ⟨w0,hw0⟩ : ∃ z,wr.alloc (.cells #[.string nb,.string vb] 59) = z:=⟨_,rfl⟩
       have hb : Below wr.heap.size wr w0:=by rw [← hw0]; exact (Below.refl _ _).alloc (Nat.le_refl _) _
       have hh : w0.heap[C]? = some (.cells #[.string nb,.string vb] 59 (0,0)):=by rw [← hw0,← hC]; exact World.alloc_heap_new _ _
       have HCE:=Lib.hid (show ∀ W,Below w0.heap.size w0 W → W.cell? ⟨C,0,none⟩ = some (.string nb) ∧ W.cell? ⟨C,1,none⟩ = some (.string vb) from fun W h => by
        have h2:=(h.block _ (Array.getElem?_eq_some_iff.1 hh).1).trans hh
        constructor <;> simp [World.cell?,h2])
       have HG:=Lib.hid ((hb.block _ (Array.getElem?_eq_some_iff.1 HG.out).1).trans HG.out)
       have HB0:=Lib.hid (show Below H w w0 from HBL.out.trans (hb.mono (HHH.out ▸ HBL.out.size)))
       have HZ:=Lib.hid (show H ≤ w0.heap.size from HHH.out ▸ HB0.out.size)
       rw [hC,hw0]
       clear hb hh hC hw0 a1 hx hy
       cases q1
       ·refine region_slotsG (fun i => 40 + min i 17) (rrA C nb vb lb q3) (fun i => ([true,true,true,true,true,false,false,false,false,false,false,true,true,false,false,false,false,true] : List Bool).getD i true) (by kernel_rfl) (by kernel_rfl) (fun i => by show 40 + min i 17 < _; simp; omega) (fun i j hi hj h => by have hi : i < 18:=hi; have hj : j < 18:=hj; omega) ?mono ?dst ?gu ?ng ?skip ?step ?done
        case mono =>
         intro i W W' v h hbw
         match i,h with
         | 0,h | 1,h | 2,h | 3,h | 4,h | 5,h | 6,h | 7,h | 8,h | 9,h | 10,h | 11,h | 12,h | 13,h | 14,h | 15,h | 16,h | 17,h => exact h
         | n + 18,h => exact h.elim
        case dst =>
         intro i o ho
         match i,ho with
         | 0,ho | 1,ho | 2,ho | 3,ho | 4,ho | 5,ho | 6,ho | 7,ho | 8,ho | 9,ho | 10,ho | 11,ho | 12,ho | 13,ho | 14,ho | 15,ho | 16,ho | 17,ho => cases ho; rfl
         | n + 18,ho => exact absurd ho (by simp)
        case gu =>
         intro i o g b ho hgd W v hv
         match i,ho with
         | 0,ho => cases ho; cases hgd
         | 1,ho => cases ho; cases hgd
         | 2,ho => cases ho; cases hgd
         | 3,ho => cases ho; cases hgd
         | 4,ho => cases ho; cases hgd
         | 5,ho => cases ho; cases hgd; exact hv
         | 6,ho => cases ho; cases hgd; exact hv
         | 7,ho => cases ho; cases hgd; exact hv
         | 8,ho => cases ho; cases hgd; exact hv
         | 9,ho => cases ho; cases hgd; exact hv
         | 10,ho => cases ho; cases hgd; exact hv
         | 11,ho => cases ho; cases hgd
         | 12,ho => cases ho; cases hgd
         | 13,ho => cases ho; cases hgd; exact hv
         | 14,ho => cases ho; cases hgd; exact hv
         | 15,ho => cases ho; cases hgd; exact hv
         | 16,ho => cases ho; cases hgd; exact hv
         | 17,ho => cases ho; cases hgd
         | n + 18,ho => exact absurd ho (by simp)
        case ng =>
         intro i o ho hgd
         match i,ho with
         | 0,ho => cases ho; first | rfl | cases hgd
         | 1,ho => cases ho; first | rfl | cases hgd
         | 2,ho => cases ho; first | rfl | cases hgd
         | 3,ho => cases ho; first | rfl | cases hgd
         | 4,ho => cases ho; first | rfl | cases hgd
         | 5,ho => cases ho; first | rfl | cases hgd
         | 6,ho => cases ho; first | rfl | cases hgd
         | 7,ho => cases ho; first | rfl | cases hgd
         | 8,ho => cases ho; first | rfl | cases hgd
         | 9,ho => cases ho; first | rfl | cases hgd
         | 10,ho => cases ho; first | rfl | cases hgd
         | 11,ho => cases ho; first | rfl | cases hgd
         | 12,ho => cases ho; first | rfl | cases hgd
         | 13,ho => cases ho; first | rfl | cases hgd
         | 14,ho => cases ho; first | rfl | cases hgd
         | 15,ho => cases ho; first | rfl | cases hgd
         | 16,ho => cases ho; first | rfl | cases hgd
         | 17,ho => cases ho; first | rfl | cases hgd
         | n + 18,ho => exact absurd ho (by simp)
        case skip =>
         intro i W hi hsel
         match i,hi,hsel with
         | 0,_,hsel => first | exact absurd hsel (by decide) | rfl
         | 1,_,hsel => first | exact absurd hsel (by decide) | rfl
         | 2,_,hsel => first | exact absurd hsel (by decide) | rfl
         | 3,_,hsel => first | exact absurd hsel (by decide) | rfl
         | 4,_,hsel => first | exact absurd hsel (by decide) | rfl
         | 5,_,hsel => first | exact absurd hsel (by decide) | rfl
         | 6,_,hsel => first | exact absurd hsel (by decide) | rfl
         | 7,_,hsel => first | exact absurd hsel (by decide) | rfl
         | 8,_,hsel => first | exact absurd hsel (by decide) | rfl
         | 9,_,hsel => first | exact absurd hsel (by decide) | rfl
         | 10,_,hsel => first | exact absurd hsel (by decide) | rfl
         | 11,_,hsel => first | exact absurd hsel (by decide) | rfl
         | 12,_,hsel => first | exact absurd hsel (by decide) | rfl
         | 13,_,hsel => first | exact absurd hsel (by decide) | rfl
         | 14,_,hsel => first | exact absurd hsel (by decide) | rfl
         | 15,_,hsel => first | exact absurd hsel (by decide) | rfl
         | 16,_,hsel => first | exact absurd hsel (by decide) | rfl
         | 17,_,hsel => first | exact absurd hsel (by decide) | rfl
         | n + 18,hi,_ => exact absurd hi (by simp)
        case step =>
         intro f a' W i o ho hsel hpre hbel hrest
         match i,ho,hsel with
         | 0,ho,_ =>
          cases ho
          have q4 : a'.tmps.getD 4 undef = .pointer (some ⟨C,0,none⟩):=(hrest 4 (by intro i hi; have hi : i < 18:=hi; show 40 + min i 17 ≠ _; omega))
          have e4:=rg_ev q4
          exact rg_same (.pointer (some ⟨C,0,none⟩)) (by unfold Oper.wp execOp; go_simp; all_goals ((try simp only [e4]); (try go_simp); (try rw [if_pos (by omega)]); (try rw [if_neg (by omega)]); first | done | rfl | exact ⟨rfl,rfl⟩ | trivial)) rfl
         | 1,ho,_ =>
          cases ho
          have q40 : a'.tmps.getD 40 undef = .pointer (some ⟨C,0,none⟩):=(hpre { on:=0,ground:=.data } (by simp) rfl)
          have ce:=HCE.out W hbel
          have c0:=ce.1
          have c1:=ce.2
          have e40:=rg_ev q40
          exact rg_same (.string nb) (by unfold Oper.wp execOp; go_simp; all_goals ((try simp only [e40]); (try go_simp); (try rw [if_pos (by omega)]); (try rw [if_neg (by omega)]); first | done | rfl | exact ⟨rfl,rfl⟩ | trivial)) rfl
         | 2,ho,_ =>
          cases ho
          have q41 : a'.tmps.getD 41 undef = .string nb:=(hpre { on:=1,ground:=.data } (by simp) rfl)
          exact rg_call 41 33 _ _ _ rfl q41 (enters_of Tryz.func33 (by kernel_rfl) rfl) (KT.out W) (fun e w' h => ⟨_,h.1,_,rfl,rfl,by rw [h.2]; exact Below.refl _ _⟩)
         | 3,ho,_ =>
          cases ho
          have q42 : a'.tmps.getD 42 undef = .bool false:=(hpre { on:=2,ground:=.data } (by simp) rfl)
          have e42:=rg_ev q42
          exact rg_same (.bool true) (by unfold Oper.wp execOp; go_simp; all_goals ((try simp only [e42]); (try go_simp); (try rw [if_pos (by omega)]); (try rw [if_neg (by omega)]); first | done | rfl | exact ⟨rfl,rfl⟩ | trivial)) rfl
         | 4,ho,_ =>
          cases ho
          have q43 : a'.tmps.getD 43 undef = .bool true:=(hpre { on:=3,ground:=.data } (by simp) rfl)
          have e43:=rg_ev q43
          exact rg_same (.bool true) (by unfold Oper.wp execOp; go_simp; all_goals ((try simp only [e43]); (try go_simp); (try rw [if_pos (by omega)]); (try rw [if_neg (by omega)]); first | done | rfl | exact ⟨rfl,rfl⟩ | trivial)) rfl
         | 5,ho,hsel => exact absurd hsel (by decide)
         | 6,ho,hsel => exact absurd hsel (by decide)
         | 7,ho,hsel => exact absurd hsel (by decide)
         | 8,ho,hsel => exact absurd hsel (by decide)
         | 9,ho,hsel => exact absurd hsel (by decide)
         | 10,ho,hsel => exact absurd hsel (by decide)
         | 11,ho,_ =>
          cases ho
          have q44 : a'.tmps.getD 44 undef = .bool true:=(hpre { on:=4,ground:=.data } (by simp) rfl)
          have q50 : a'.tmps.getD 50 undef = undef:=(hpre { on:=10,ground:=.data } (by simp) rfl)
          have e44:=rg_ev q44
          have e50:=rg_ev q50
          exact rg_same (.bool true) (by unfold Oper.wp execOp; go_simp; all_goals ((try simp only [e44,e50]); (try go_simp); (try rw [if_pos (by omega)]); (try rw [if_neg (by omega)]); first | done | rfl | exact ⟨rfl,rfl⟩ | trivial)) rfl
         | 12,ho,_ =>
          cases ho
          have q51 : a'.tmps.getD 51 undef = .bool true:=(hpre { on:=11,ground:=.data } (by simp) rfl)
          have e51:=rg_ev q51
          exact rg_same (.bool true) (by unfold Oper.wp execOp; go_simp; all_goals ((try simp only [e51]); (try go_simp); (try rw [if_pos (by omega)]); (try rw [if_neg (by omega)]); first | done | rfl | exact ⟨rfl,rfl⟩ | trivial)) rfl
         | 13,ho,hsel => exact absurd hsel (by decide)
         | 14,ho,hsel => exact absurd hsel (by decide)
         | 15,ho,hsel => exact absurd hsel (by decide)
         | 16,ho,hsel => exact absurd hsel (by decide)
         | 17,ho,_ =>
          cases ho
          have q52 : a'.tmps.getD 52 undef = .bool true:=(hpre { on:=12,ground:=.data } (by simp) rfl)
          have q56 : a'.tmps.getD 56 undef = undef:=(hpre { on:=16,ground:=.data } (by simp) rfl)
          have e52:=rg_ev q52
          have e56:=rg_ev q56
          exact rg_same (.bool true) (by unfold Oper.wp execOp; go_simp; all_goals ((try simp only [e52,e56]); (try go_simp); (try rw [if_pos (by omega)]); (try rw [if_neg (by omega)]); first | done | rfl | exact ⟨rfl,rfl⟩ | trivial)) rfl
         | n + 18,ho,_ => exact absurd ho (by simp)
        case done =>
         intro vs W hbel hvs
         have v0 : vs 0 = .pointer (some ⟨C,0,none⟩):=hvs 0 (by decide)
         have v1 : vs 1 = .string nb:=hvs 1 (by decide)
         have v2 : vs 2 = .bool false:=hvs 2 (by decide)
         have v3 : vs 3 = .bool true:=hvs 3 (by decide)
         have v4 : vs 4 = .bool true:=hvs 4 (by decide)
         have v5 : vs 5 = undef:=hvs 5 (by decide)
         have v6 : vs 6 = undef:=hvs 6 (by decide)
         have v7 : vs 7 = undef:=hvs 7 (by decide)
         have v8 : vs 8 = undef:=hvs 8 (by decide)
         have v9 : vs 9 = undef:=hvs 9 (by decide)
         have v10 : vs 10 = undef:=hvs 10 (by decide)
         have v11 : vs 11 = .bool true:=hvs 11 (by decide)
         have v12 : vs 12 = .bool true:=hvs 12 (by decide)
         have v13 : vs 13 = undef:=hvs 13 (by decide)
         have v14 : vs 14 = undef:=hvs 14 (by decide)
         have v15 : vs 15 = undef:=hvs 15 (by decide)
         have v16 : vs 16 = undef:=hvs 16 (by decide)
         have v17 : vs 17 = .bool true:=hvs 17 (by decide)
         have HBR:=Lib.hid hbel
         simp only [fillN,List.size_toArray,List.length_cons,List.length_nil,Nat.reduceAdd,show List.range 18 = [0,1,2,3,4,5,6,7,8,9,10,11,12,13,14,15,16,17] from rfl,List.foldl_cons,List.foldl_nil,show 40 + min 0 17 = 40 from rfl,show 40 + min 1 17 = 41 from rfl,show 40 + min 2 17 = 42 from rfl,show 40 + min 3 17 = 43 from rfl,show 40 + min 4 17 = 44 from rfl,show 40 + min 5 17 = 45 from rfl,show 40 + min 6 17 = 46 from rfl,show 40 + min 7 17 = 47 from rfl,show 40 + min 8 17 = 48 from rfl,show 40 + min 9 17 = 49 from rfl,show 40 + min 10 17 = 50 from rfl,show 40 + min 11 17 = 51 from rfl,show 40 + min 12 17 = 52 from rfl,show 40 + min 13 17 = 53 from rfl,show 40 + min 14 17 = 54 from rfl,show 40 + min 15 17 = 55 from rfl,show 40 + min 16 17 = 56 from rfl,show 40 + min 17 17 = 57 from rfl,v0,v1,v2,v3,v4,v5,v6,v7,v8,v9,v10,v11,v12,v13,v14,v15,v16,v17]
         clear v0 v1 v2 v3 v4 v5 v6 v7 v8 v9 v10 v11 v12 v13 v14 v15 v16 v17 hvs hbel
         go_simp
         go_wp2_with fail
         go_ret
         refine ⟨?_,?_⟩
         ·rw [HO2.out,Bool.true_and,show fs.all Hr.fldB = false from List.all_eq_false.2 ⟨_,HMM.out,by rw [HFB2.out]; simp⟩]; rfl
         ·first | exact HB0.out.trans (HBR.out.mono HZ.out) | (rw [HHH.out]; exact HB0.out.trans (HBR.out.mono HZ.out))
       ·cases q2
        ·have hn : (lb.toList == nb.toList) = false:=HQ.out
         have hn2 : (lb.toList != nb.toList) = true:=by simp [bne,hn]
         refine region_slotsG (fun i => 40 + min i 17) (rrB C nb vb lb q3) (fun i => ([true,true,true,true,true,true,true,true,true,true,true,true,true,false,false,false,false,true] : List Bool).getD i true) (by kernel_rfl) (by kernel_rfl) (fun i => by show 40 + min i 17 < _; simp; omega) (fun i j hi hj h => by have hi : i < 18:=hi; have hj : j < 18:=hj; omega) ?mono ?dst ?gu ?ng ?skip ?step ?done
         case mono =>
          intro i W W' v h hbw
          match i,h with
          | 0,h | 1,h | 2,h | 3,h | 4,h | 5,h | 6,h | 7,h | 8,h | 9,h | 10,h | 11,h | 12,h | 13,h | 14,h | 15,h | 16,h | 17,h => exact h
          | n + 18,h => exact h.elim
         case dst =>
          intro i o ho
          match i,ho with
          | 0,ho | 1,ho | 2,ho | 3,ho | 4,ho | 5,ho | 6,ho | 7,ho | 8,ho | 9,ho | 10,ho | 11,ho | 12,ho | 13,ho | 14,ho | 15,ho | 16,ho | 17,ho => cases ho; rfl
          | n + 18,ho => exact absurd ho (by simp)
         case gu =>
          intro i o g b ho hgd W v hv
          match i,ho with
          | 0,ho => cases ho; cases hgd
          | 1,ho => cases ho; cases hgd
          | 2,ho => cases ho; cases hgd
          | 3,ho => cases ho; cases hgd
          | 4,ho => cases ho; cases hgd
          | 5,ho => cases ho; cases hgd; exact hv
          | 6,ho => cases ho; cases hgd; exact hv
          | 7,ho => cases ho; cases hgd; exact hv
          | 8,ho => cases ho; cases hgd; exact hv
          | 9,ho => cases ho; cases hgd; exact hv
          | 10,ho => cases ho; cases hgd; exact hv
          | 11,ho => cases ho; cases hgd
          | 12,ho => cases ho; cases hgd
          | 13,ho => cases ho; cases hgd; exact hv
          | 14,ho => cases ho; cases hgd; exact hv
          | 15,ho => cases ho; cases hgd; exact hv
          | 16,ho => cases ho; cases hgd; exact hv
          | 17,ho => cases ho; cases hgd
          | n + 18,ho => exact absurd ho (by simp)
         case ng =>
          intro i o ho hgd
          match i,ho with
          | 0,ho => cases ho; first | rfl | cases hgd
          | 1,ho => cases ho; first | rfl | cases hgd
          | 2,ho => cases ho; first | rfl | cases hgd
          | 3,ho => cases ho; first | rfl | cases hgd
          | 4,ho => cases ho; first | rfl | cases hgd
          | 5,ho => cases ho; first | rfl | cases hgd
          | 6,ho => cases ho; first | rfl | cases hgd
          | 7,ho => cases ho; first | rfl | cases hgd
          | 8,ho => cases ho; first | rfl | cases hgd
          | 9,ho => cases ho; first | rfl | cases hgd
          | 10,ho => cases ho; first | rfl | cases hgd
          | 11,ho => cases ho; first | rfl | cases hgd
          | 12,ho => cases ho; first | rfl | cases hgd
          | 13,ho => cases ho; first | rfl | cases hgd
          | 14,ho => cases ho; first | rfl | cases hgd
          | 15,ho => cases ho; first | rfl | cases hgd
          | 16,ho => cases ho; first | rfl | cases hgd
          | 17,ho => cases ho; first | rfl | cases hgd
          | n + 18,ho => exact absurd ho (by simp)
         case skip =>
          intro i W hi hsel
          match i,hi,hsel with
          | 0,_,hsel => first | exact absurd hsel (by decide) | rfl
          | 1,_,hsel => first | exact absurd hsel (by decide) | rfl
          | 2,_,hsel => first | exact absurd hsel (by decide) | rfl
          | 3,_,hsel => first | exact absurd hsel (by decide) | rfl
          | 4,_,hsel => first | exact absurd hsel (by decide) | rfl
          | 5,_,hsel => first | exact absurd hsel (by decide) | rfl
          | 6,_,hsel => first | exact absurd hsel (by decide) | rfl
          | 7,_,hsel => first | exact absurd hsel (by decide) | rfl
          | 8,_,hsel => first | exact absurd hsel (by decide) | rfl
          | 9,_,hsel => first | exact absurd hsel (by decide) | rfl
          | 10,_,hsel => first | exact absurd hsel (by decide) | rfl
          | 11,_,hsel => first | exact absurd hsel (by decide) | rfl
          | 12,_,hsel => first | exact absurd hsel (by decide) | rfl
          | 13,_,hsel => first | exact absurd hsel (by decide) | rfl
          | 14,_,hsel => first | exact absurd hsel (by decide) | rfl
          | 15,_,hsel => first | exact absurd hsel (by decide) | rfl
          | 16,_,hsel => first | exact absurd hsel (by decide) | rfl
          | 17,_,hsel => first | exact absurd hsel (by decide) | rfl
          | n + 18,hi,_ => exact absurd hi (by simp)
         case step =>
          intro f a' W i o ho hsel hpre hbel hrest
          match i,ho,hsel with
          | 0,ho,_ =>
           cases ho
           have q4 : a'.tmps.getD 4 undef = .pointer (some ⟨C,0,none⟩):=(hrest 4 (by intro i hi; have hi : i < 18:=hi; show 40 + min i 17 ≠ _; omega))
           have e4:=rg_ev q4
           exact rg_same (.pointer (some ⟨C,0,none⟩)) (by unfold Oper.wp execOp; go_simp; all_goals ((try simp only [e4]); (try go_simp); (try rw [if_pos (by omega)]); (try rw [if_neg (by omega)]); first | done | rfl | exact ⟨rfl,rfl⟩ | trivial)) rfl
          | 1,ho,_ =>
           cases ho
           have q40 : a'.tmps.getD 40 undef = .pointer (some ⟨C,0,none⟩):=(hpre { on:=0,ground:=.data } (by simp) rfl)
           have ce:=HCE.out W hbel
           have c0:=ce.1
           have c1:=ce.2
           have e40:=rg_ev q40
           exact rg_same (.string nb) (by unfold Oper.wp execOp; go_simp; all_goals ((try simp only [e40]); (try go_simp); (try rw [if_pos (by omega)]); (try rw [if_neg (by omega)]); first | done | rfl | exact ⟨rfl,rfl⟩ | trivial)) rfl
          | 2,ho,_ =>
           cases ho
           have q41 : a'.tmps.getD 41 undef = .string nb:=(hpre { on:=1,ground:=.data } (by simp) rfl)
           exact rg_call 41 33 _ _ _ rfl q41 (enters_of Tryz.func33 (by kernel_rfl) rfl) (KT.out W) (fun e w' h => ⟨_,h.1,_,rfl,rfl,by rw [h.2]; exact Below.refl _ _⟩)
          | 3,ho,_ =>
           cases ho
           have q42 : a'.tmps.getD 42 undef = .bool true:=(hpre { on:=2,ground:=.data } (by simp) rfl)
           have e42:=rg_ev q42
           exact rg_same (.bool false) (by unfold Oper.wp execOp; go_simp; all_goals ((try simp only [e42]); (try go_simp); (try rw [if_pos (by omega)]); (try rw [if_neg (by omega)]); first | done | rfl | exact ⟨rfl,rfl⟩ | trivial)) rfl
          | 4,ho,_ =>
           cases ho
           have q43 : a'.tmps.getD 43 undef = .bool false:=(hpre { on:=3,ground:=.data } (by simp) rfl)
           have e43:=rg_ev q43
           exact rg_same (.bool false) (by unfold Oper.wp execOp; go_simp; all_goals ((try simp only [e43]); (try go_simp); (try rw [if_pos (by omega)]); (try rw [if_neg (by omega)]); first | done | rfl | exact ⟨rfl,rfl⟩ | trivial)) rfl
          | 5,ho,_ =>
           cases ho
           have q4 : a'.tmps.getD 4 undef = .pointer (some ⟨C,0,none⟩):=(hrest 4 (by intro i hi; have hi : i < 18:=hi; show 40 + min i 17 ≠ _; omega))
           have e4:=rg_ev q4
           exact rg_same (.pointer (some ⟨C,0,none⟩)) (by unfold Oper.wp execOp; go_simp; all_goals ((try simp only [e4]); (try go_simp); (try rw [if_pos (by omega)]); (try rw [if_neg (by omega)]); first | done | rfl | exact ⟨rfl,rfl⟩ | trivial)) rfl
          | 6,ho,_ =>
           cases ho
           have q45 : a'.tmps.getD 45 undef = .pointer (some ⟨C,0,none⟩):=(hpre { on:=5,ground:=.data } (by simp) rfl)
           have ce:=HCE.out W hbel
           have c0:=ce.1
           have c1:=ce.2
           have e45:=rg_ev q45
           exact rg_same (.string nb) (by unfold Oper.wp execOp; go_simp; all_goals ((try simp only [e45]); (try go_simp); (try rw [if_pos (by omega)]); (try rw [if_neg (by omega)]); first | done | rfl | exact ⟨rfl,rfl⟩ | trivial)) rfl
          | 7,ho,_ =>
           cases ho
           have q46 : a'.tmps.getD 46 undef = .string nb:=(hpre { on:=6,ground:=.data } (by simp) rfl)
           exact rg_call 46 34 _ _ _ rfl q46 (enters_of Tryz.func34 (by kernel_rfl) rfl) (KL.out W) (fun e w' h => ⟨_,h.1,_,rfl,rfl,h.2⟩)
          | 8,ho,_ =>
           cases ho
           have q4 : a'.tmps.getD 4 undef = .pointer (some ⟨C,0,none⟩):=(hrest 4 (by intro i hi; have hi : i < 18:=hi; show 40 + min i 17 ≠ _; omega))
           have e4:=rg_ev q4
           exact rg_same (.pointer (some ⟨C,0,none⟩)) (by unfold Oper.wp execOp; go_simp; all_goals ((try simp only [e4]); (try go_simp); (try rw [if_pos (by omega)]); (try rw [if_neg (by omega)]); first | done | rfl | exact ⟨rfl,rfl⟩ | trivial)) rfl
          | 9,ho,_ =>
           cases ho
           have q48 : a'.tmps.getD 48 undef = .pointer (some ⟨C,0,none⟩):=(hpre { on:=8,ground:=.data } (by simp) rfl)
           have ce:=HCE.out W hbel
           have c0:=ce.1
           have c1:=ce.2
           have e48:=rg_ev q48
           exact rg_same (.string nb) (by unfold Oper.wp execOp; go_simp; all_goals ((try simp only [e48]); (try go_simp); (try rw [if_pos (by omega)]); (try rw [if_neg (by omega)]); first | done | rfl | exact ⟨rfl,rfl⟩ | trivial)) rfl
          | 10,ho,_ =>
           cases ho
           have q47 : a'.tmps.getD 47 undef = .string lb:=(hpre { on:=7,ground:=.data } (by simp) rfl)
           have q49 : a'.tmps.getD 49 undef = .string nb:=(hpre { on:=9,ground:=.data } (by simp) rfl)
           have e47:=rg_ev q47
           have e49:=rg_ev q49
           exact rg_same (.bool true) (by unfold Oper.wp execOp; go_simp; all_goals ((try simp only [e47,e49]); (try go_simp); (try rw [if_pos (by omega)]); (try rw [if_neg (by omega)]); first | done | rfl | exact ⟨rfl,rfl⟩ | trivial)) rfl
          | 11,ho,_ =>
           cases ho
           have q44 : a'.tmps.getD 44 undef = .bool false:=(hpre { on:=4,ground:=.data } (by simp) rfl)
           have q50 : a'.tmps.getD 50 undef = .bool true:=(hpre { on:=10,ground:=.data } (by simp) rfl)
           have e44:=rg_ev q44
           have e50:=rg_ev q50
           exact rg_same (.bool true) (by unfold Oper.wp execOp; go_simp; all_goals ((try simp only [e44,e50]); (try go_simp); (try rw [if_pos (by omega)]); (try rw [if_neg (by omega)]); first | done | rfl | exact ⟨rfl,rfl⟩ | trivial)) rfl
          | 12,ho,_ =>
           cases ho
           have q51 : a'.tmps.getD 51 undef = .bool true:=(hpre { on:=11,ground:=.data } (by simp) rfl)
           have e51:=rg_ev q51
           exact rg_same (.bool true) (by unfold Oper.wp execOp; go_simp; all_goals ((try simp only [e51]); (try go_simp); (try rw [if_pos (by omega)]); (try rw [if_neg (by omega)]); first | done | rfl | exact ⟨rfl,rfl⟩ | trivial)) rfl
          | 13,ho,hsel => exact absurd hsel (by decide)
          | 14,ho,hsel => exact absurd hsel (by decide)
          | 15,ho,hsel => exact absurd hsel (by decide)
          | 16,ho,hsel => exact absurd hsel (by decide)
          | 17,ho,_ =>
           cases ho
           have q52 : a'.tmps.getD 52 undef = .bool true:=(hpre { on:=12,ground:=.data } (by simp) rfl)
           have q56 : a'.tmps.getD 56 undef = undef:=(hpre { on:=16,ground:=.data } (by simp) rfl)
           have e52:=rg_ev q52
           have e56:=rg_ev q56
           exact rg_same (.bool true) (by unfold Oper.wp execOp; go_simp; all_goals ((try simp only [e52,e56]); (try go_simp); (try rw [if_pos (by omega)]); (try rw [if_neg (by omega)]); first | done | rfl | exact ⟨rfl,rfl⟩ | trivial)) rfl
          | n + 18,ho,_ => exact absurd ho (by simp)
         case done =>
          intro vs W hbel hvs
          have v0 : vs 0 = .pointer (some ⟨C,0,none⟩):=hvs 0 (by decide)
          have v1 : vs 1 = .string nb:=hvs 1 (by decide)
          have v2 : vs 2 = .bool true:=hvs 2 (by decide)
          have v3 : vs 3 = .bool false:=hvs 3 (by decide)
          have v4 : vs 4 = .bool false:=hvs 4 (by decide)
          have v5 : vs 5 = .pointer (some ⟨C,0,none⟩):=hvs 5 (by decide)
          have v6 : vs 6 = .string nb:=hvs 6 (by decide)
          have v7 : vs 7 = .string lb:=hvs 7 (by decide)
          have v8 : vs 8 = .pointer (some ⟨C,0,none⟩):=hvs 8 (by decide)
          have v9 : vs 9 = .string nb:=hvs 9 (by decide)
          have v10 : vs 10 = .bool true:=hvs 10 (by decide)
          have v11 : vs 11 = .bool true:=hvs 11 (by decide)
          have v12 : vs 12 = .bool true:=hvs 12 (by decide)
          have v13 : vs 13 = undef:=hvs 13 (by decide)
          have v14 : vs 14 = undef:=hvs 14 (by decide)
          have v15 : vs 15 = undef:=hvs 15 (by decide)
          have v16 : vs 16 = undef:=hvs 16 (by decide)
          have v17 : vs 17 = .bool true:=hvs 17 (by decide)
          have HBR:=Lib.hid hbel
          simp only [fillN,List.size_toArray,List.length_cons,List.length_nil,Nat.reduceAdd,show List.range 18 = [0,1,2,3,4,5,6,7,8,9,10,11,12,13,14,15,16,17] from rfl,List.foldl_cons,List.foldl_nil,show 40 + min 0 17 = 40 from rfl,show 40 + min 1 17 = 41 from rfl,show 40 + min 2 17 = 42 from rfl,show 40 + min 3 17 = 43 from rfl,show 40 + min 4 17 = 44 from rfl,show 40 + min 5 17 = 45 from rfl,show 40 + min 6 17 = 46 from rfl,show 40 + min 7 17 = 47 from rfl,show 40 + min 8 17 = 48 from rfl,show 40 + min 9 17 = 49 from rfl,show 40 + min 10 17 = 50 from rfl,show 40 + min 11 17 = 51 from rfl,show 40 + min 12 17 = 52 from rfl,show 40 + min 13 17 = 53 from rfl,show 40 + min 14 17 = 54 from rfl,show 40 + min 15 17 = 55 from rfl,show 40 + min 16 17 = 56 from rfl,show 40 + min 17 17 = 57 from rfl,v0,v1,v2,v3,v4,v5,v6,v7,v8,v9,v10,v11,v12,v13,v14,v15,v16,v17]
          clear v0 v1 v2 v3 v4 v5 v6 v7 v8 v9 v10 v11 v12 v13 v14 v15 v16 v17 hvs hbel
          go_simp
          go_wp2_with fail
          go_ret
          refine ⟨?_,?_⟩
          ·rw [HO2.out,Bool.true_and,show fs.all Hr.fldB = false from List.all_eq_false.2 ⟨_,HMM.out,by rw [HFB2.out]; simp⟩]; rfl
          ·first | exact HB0.out.trans (HBR.out.mono HZ.out) | (rw [HHH.out]; exact HB0.out.trans (HBR.out.mono HZ.out))
        ·have hn : (lb.toList == nb.toList) = true:=HQ.out
         have hn2 : (lb.toList != nb.toList) = false:=by simp [bne,hn]
         refine region_slotsG (fun i => 40 + min i 17) (rrC C nb vb lb q3) (fun _ => true) (by kernel_rfl) (by kernel_rfl) (fun i => by show 40 + min i 17 < _; simp; omega) (fun i j hi hj h => by have hi : i < 18:=hi; have hj : j < 18:=hj; omega) ?mono ?dst ?gu ?ng ?skip ?step ?done
         case mono =>
          intro i W W' v h hbw
          match i,h with
          | 0,h | 1,h | 2,h | 3,h | 4,h | 5,h | 6,h | 7,h | 8,h | 9,h | 10,h | 11,h | 12,h | 13,h | 14,h | 15,h | 16,h | 17,h => exact h
          | n + 18,h => exact h.elim
         case dst =>
          intro i o ho
          match i,ho with
          | 0,ho | 1,ho | 2,ho | 3,ho | 4,ho | 5,ho | 6,ho | 7,ho | 8,ho | 9,ho | 10,ho | 11,ho | 12,ho | 13,ho | 14,ho | 15,ho | 16,ho | 17,ho => cases ho; rfl
          | n + 18,ho => exact absurd ho (by simp)
         case gu =>
          intro i o g b ho hgd W v hv
          match i,ho with
          | 0,ho => cases ho; cases hgd
          | 1,ho => cases ho; cases hgd
          | 2,ho => cases ho; cases hgd
          | 3,ho => cases ho; cases hgd
          | 4,ho => cases ho; cases hgd
          | 5,ho => cases ho; cases hgd; exact hv
          | 6,ho => cases ho; cases hgd; exact hv
          | 7,ho => cases ho; cases hgd; exact hv
          | 8,ho => cases ho; cases hgd; exact hv
          | 9,ho => cases ho; cases hgd; exact hv
          | 10,ho => cases ho; cases hgd; exact hv
          | 11,ho => cases ho; cases hgd
          | 12,ho => cases ho; cases hgd
          | 13,ho => cases ho; cases hgd; exact hv
          | 14,ho => cases ho; cases hgd; exact hv
          | 15,ho => cases ho; cases hgd; exact hv
          | 16,ho => cases ho; cases hgd; exact hv
          | 17,ho => cases ho; cases hgd
          | n + 18,ho => exact absurd ho (by simp)
         case ng =>
          intro i o ho hgd
          match i,ho with
          | 0,ho => cases ho; first | rfl | cases hgd
          | 1,ho => cases ho; first | rfl | cases hgd
          | 2,ho => cases ho; first | rfl | cases hgd
          | 3,ho => cases ho; first | rfl | cases hgd
          | 4,ho => cases ho; first | rfl | cases hgd
          | 5,ho => cases ho; first | rfl | cases hgd
          | 6,ho => cases ho; first | rfl | cases hgd
          | 7,ho => cases ho; first | rfl | cases hgd
          | 8,ho => cases ho; first | rfl | cases hgd
          | 9,ho => cases ho; first | rfl | cases hgd
          | 10,ho => cases ho; first | rfl | cases hgd
          | 11,ho => cases ho; first | rfl | cases hgd
          | 12,ho => cases ho; first | rfl | cases hgd
          | 13,ho => cases ho; first | rfl | cases hgd
          | 14,ho => cases ho; first | rfl | cases hgd
          | 15,ho => cases ho; first | rfl | cases hgd
          | 16,ho => cases ho; first | rfl | cases hgd
          | 17,ho => cases ho; first | rfl | cases hgd
          | n + 18,ho => exact absurd ho (by simp)
         case skip =>
          intro i W hi hsel
          match i,hi,hsel with
          | 0,_,hsel => first | exact absurd hsel (by decide) | rfl
          | 1,_,hsel => first | exact absurd hsel (by decide) | rfl
          | 2,_,hsel => first | exact absurd hsel (by decide) | rfl
          | 3,_,hsel => first | exact absurd hsel (by decide) | rfl
          | 4,_,hsel => first | exact absurd hsel (by decide) | rfl
          | 5,_,hsel => first | exact absurd hsel (by decide) | rfl
          | 6,_,hsel => first | exact absurd hsel (by decide) | rfl
          | 7,_,hsel => first | exact absurd hsel (by decide) | rfl
          | 8,_,hsel => first | exact absurd hsel (by decide) | rfl
          | 9,_,hsel => first | exact absurd hsel (by decide) | rfl
          | 10,_,hsel => first | exact absurd hsel (by decide) | rfl
          | 11,_,hsel => first | exact absurd hsel (by decide) | rfl
          | 12,_,hsel => first | exact absurd hsel (by decide) | rfl
          | 13,_,hsel => first | exact absurd hsel (by decide) | rfl
          | 14,_,hsel => first | exact absurd hsel (by decide) | rfl
          | 15,_,hsel => first | exact absurd hsel (by decide) | rfl
          | 16,_,hsel => first | exact absurd hsel (by decide) | rfl
          | 17,_,hsel => first | exact absurd hsel (by decide) | rfl
          | n + 18,hi,_ => exact absurd hi (by simp)
         case step =>
          intro f a' W i o ho hsel hpre hbel hrest
          match i,ho,hsel with
          | 0,ho,_ =>
           cases ho
           have q4 : a'.tmps.getD 4 undef = .pointer (some ⟨C,0,none⟩):=(hrest 4 (by intro i hi; have hi : i < 18:=hi; show 40 + min i 17 ≠ _; omega))
           have e4:=rg_ev q4
           exact rg_same (.pointer (some ⟨C,0,none⟩)) (by unfold Oper.wp execOp; go_simp; all_goals ((try simp only [e4]); (try go_simp); (try rw [if_pos (by omega)]); (try rw [if_neg (by omega)]); first | done | rfl | exact ⟨rfl,rfl⟩ | trivial)) rfl
          | 1,ho,_ =>
           cases ho
           have q40 : a'.tmps.getD 40 undef = .pointer (some ⟨C,0,none⟩):=(hpre { on:=0,ground:=.data } (by simp) rfl)
           have ce:=HCE.out W hbel
           have c0:=ce.1
           have c1:=ce.2
           have e40:=rg_ev q40
           exact rg_same (.string nb) (by unfold Oper.wp execOp; go_simp; all_goals ((try simp only [e40]); (try go_simp); (try rw [if_pos (by omega)]); (try rw [if_neg (by omega)]); first | done | rfl | exact ⟨rfl,rfl⟩ | trivial)) rfl
          | 2,ho,_ =>
           cases ho
           have q41 : a'.tmps.getD 41 undef = .string nb:=(hpre { on:=1,ground:=.data } (by simp) rfl)
           exact rg_call 41 33 _ _ _ rfl q41 (enters_of Tryz.func33 (by kernel_rfl) rfl) (KT.out W) (fun e w' h => ⟨_,h.1,_,rfl,rfl,by rw [h.2]; exact Below.refl _ _⟩)
          | 3,ho,_ =>
           cases ho
           have q42 : a'.tmps.getD 42 undef = .bool true:=(hpre { on:=2,ground:=.data } (by simp) rfl)
           have e42:=rg_ev q42
           exact rg_same (.bool false) (by unfold Oper.wp execOp; go_simp; all_goals ((try simp only [e42]); (try go_simp); (try rw [if_pos (by omega)]); (try rw [if_neg (by omega)]); first | done | rfl | exact ⟨rfl,rfl⟩ | trivial)) rfl
          | 4,ho,_ =>
           cases ho
           have q43 : a'.tmps.getD 43 undef = .bool false:=(hpre { on:=3,ground:=.data } (by simp) rfl)
           have e43:=rg_ev q43
           exact rg_same (.bool false) (by unfold Oper.wp execOp; go_simp; all_goals ((try simp only [e43]); (try go_simp); (try rw [if_pos (by omega)]); (try rw [if_neg (by omega)]); first | done | rfl | exact ⟨rfl,rfl⟩ | trivial)) rfl
          | 5,ho,_ =>
           cases ho
           have q4 : a'.tmps.getD 4 undef = .pointer (some ⟨C,0,none⟩):=(hrest 4 (by intro i hi; have hi : i < 18:=hi; show 40 + min i 17 ≠ _; omega))
           have e4:=rg_ev q4
           exact rg_same (.pointer (some ⟨C,0,none⟩)) (by unfold Oper.wp execOp; go_simp; all_goals ((try simp only [e4]); (try go_simp); (try rw [if_pos (by omega)]); (try rw [if_neg (by omega)]); first | done | rfl | exact ⟨rfl,rfl⟩ | trivial)) rfl
          | 6,ho,_ =>
           cases ho
           have q45 : a'.tmps.getD 45 undef = .pointer (some ⟨C,0,none⟩):=(hpre { on:=5,ground:=.data } (by simp) rfl)
           have ce:=HCE.out W hbel
           have c0:=ce.1
           have c1:=ce.2
           have e45:=rg_ev q45
           exact rg_same (.string nb) (by unfold Oper.wp execOp; go_simp; all_goals ((try simp only [e45]); (try go_simp); (try rw [if_pos (by omega)]); (try rw [if_neg (by omega)]); first | done | rfl | exact ⟨rfl,rfl⟩ | trivial)) rfl
          | 7,ho,_ =>
           cases ho
           have q46 : a'.tmps.getD 46 undef = .string nb:=(hpre { on:=6,ground:=.data } (by simp) rfl)
           exact rg_call 46 34 _ _ _ rfl q46 (enters_of Tryz.func34 (by kernel_rfl) rfl) (KL.out W) (fun e w' h => ⟨_,h.1,_,rfl,rfl,h.2⟩)
          | 8,ho,_ =>
           cases ho
           have q4 : a'.tmps.getD 4 undef = .pointer (some ⟨C,0,none⟩):=(hrest 4 (by intro i hi; have hi : i < 18:=hi; show 40 + min i 17 ≠ _; omega))
           have e4:=rg_ev q4
           exact rg_same (.pointer (some ⟨C,0,none⟩)) (by unfold Oper.wp execOp; go_simp; all_goals ((try simp only [e4]); (try go_simp); (try rw [if_pos (by omega)]); (try rw [if_neg (by omega)]); first | done | rfl | exact ⟨rfl,rfl⟩ | trivial)) rfl
          | 9,ho,_ =>
           cases ho
           have q48 : a'.tmps.getD 48 undef = .pointer (some ⟨C,0,none⟩):=(hpre { on:=8,ground:=.data } (by simp) rfl)
           have ce:=HCE.out W hbel
           have c0:=ce.1
           have c1:=ce.2
           have e48:=rg_ev q48
           exact rg_same (.string nb) (by unfold Oper.wp execOp; go_simp; all_goals ((try simp only [e48]); (try go_simp); (try rw [if_pos (by omega)]); (try rw [if_neg (by omega)]); first | done | rfl | exact ⟨rfl,rfl⟩ | trivial)) rfl
          | 10,ho,_ =>
           cases ho
           have q47 : a'.tmps.getD 47 undef = .string lb:=(hpre { on:=7,ground:=.data } (by simp) rfl)
           have q49 : a'.tmps.getD 49 undef = .string nb:=(hpre { on:=9,ground:=.data } (by simp) rfl)
           have e47:=rg_ev q47
           have e49:=rg_ev q49
           exact rg_same (.bool false) (by unfold Oper.wp execOp; go_simp; all_goals ((try simp only [e47,e49]); (try go_simp); (try rw [if_pos (by omega)]); (try rw [if_neg (by omega)]); first | done | rfl | exact ⟨rfl,rfl⟩ | trivial)) rfl
          | 11,ho,_ =>
           cases ho
           have q44 : a'.tmps.getD 44 undef = .bool false:=(hpre { on:=4,ground:=.data } (by simp) rfl)
           have q50 : a'.tmps.getD 50 undef = .bool false:=(hpre { on:=10,ground:=.data } (by simp) rfl)
           have e44:=rg_ev q44
           have e50:=rg_ev q50
           exact rg_same (.bool false) (by unfold Oper.wp execOp; go_simp; all_goals ((try simp only [e44,e50]); (try go_simp); (try rw [if_pos (by omega)]); (try rw [if_neg (by omega)]); first | done | rfl | exact ⟨rfl,rfl⟩ | trivial)) rfl
          | 12,ho,_ =>
           cases ho
           have q51 : a'.tmps.getD 51 undef = .bool false:=(hpre { on:=11,ground:=.data } (by simp) rfl)
           have e51:=rg_ev q51
           exact rg_same (.bool false) (by unfold Oper.wp execOp; go_simp; all_goals ((try simp only [e51]); (try go_simp); (try rw [if_pos (by omega)]); (try rw [if_neg (by omega)]); first | done | rfl | exact ⟨rfl,rfl⟩ | trivial)) rfl
          | 13,ho,_ =>
           cases ho
           have q4 : a'.tmps.getD 4 undef = .pointer (some ⟨C,0,none⟩):=(hrest 4 (by intro i hi; have hi : i < 18:=hi; show 40 + min i 17 ≠ _; omega))
           have e4:=rg_ev q4
           exact rg_same (.pointer (some ⟨C,1,none⟩)) (by unfold Oper.wp execOp; go_simp; all_goals ((try simp only [e4]); (try go_simp); (try rw [if_pos (by omega)]); (try rw [if_neg (by omega)]); first | done | rfl | exact ⟨rfl,rfl⟩ | trivial)) rfl
          | 14,ho,_ =>
           cases ho
           have q53 : a'.tmps.getD 53 undef = .pointer (some ⟨C,1,none⟩):=(hpre { on:=13,ground:=.data } (by simp) rfl)
           have ce:=HCE.out W hbel
           have c0:=ce.1
           have c1:=ce.2
           have e53:=rg_ev q53
           exact rg_same (.string vb) (by unfold Oper.wp execOp; go_simp; all_goals ((try simp only [e53]); (try go_simp); (try rw [if_pos (by omega)]); (try rw [if_neg (by omega)]); first | done | rfl | exact ⟨rfl,rfl⟩ | trivial)) rfl
          | 15,ho,_ =>
           cases ho
           have q54 : a'.tmps.getD 54 undef = .string vb:=(hpre { on:=14,ground:=.data } (by simp) rfl)
           exact rg_call 54 24 _ _ _ rfl q54 (enters_of Tryz.func24 (by kernel_rfl) rfl) (KV.out W) (fun e w' h => ⟨_,h.1,_,rfl,rfl,by rw [h.2]; exact Below.refl _ _⟩)
          | 16,ho,_ =>
           cases ho
           have q55 : a'.tmps.getD 55 undef = .bool q3:=(hpre { on:=15,ground:=.data } (by simp) rfl)
           have e55:=rg_ev q55
           exact rg_same (.bool (!q3)) (by unfold Oper.wp execOp; go_simp; all_goals ((try simp only [e55]); (try go_simp); (try rw [if_pos (by omega)]); (try rw [if_neg (by omega)]); first | done | rfl | exact ⟨rfl,rfl⟩ | trivial)) rfl
          | 17,ho,_ =>
           cases ho
           have q52 : a'.tmps.getD 52 undef = .bool false:=(hpre { on:=12,ground:=.data } (by simp) rfl)
           have q56 : a'.tmps.getD 56 undef = .bool (!q3):=(hpre { on:=16,ground:=.data } (by simp) rfl)
           have e52:=rg_ev q52
           have e56:=rg_ev q56
           exact rg_same (.bool (!q3)) (by unfold Oper.wp execOp; go_simp; all_goals ((try simp only [e52,e56]); (try go_simp); (try rw [if_pos (by omega)]); (try rw [if_neg (by omega)]); first | done | rfl | exact ⟨rfl,rfl⟩ | trivial)) rfl
          | n + 18,ho,_ => exact absurd ho (by simp)
         case done =>
          intro vs W hbel hvs
          have v0 : vs 0 = .pointer (some ⟨C,0,none⟩):=hvs 0 (by decide)
          have v1 : vs 1 = .string nb:=hvs 1 (by decide)
          have v2 : vs 2 = .bool true:=hvs 2 (by decide)
          have v3 : vs 3 = .bool false:=hvs 3 (by decide)
          have v4 : vs 4 = .bool false:=hvs 4 (by decide)
          have v5 : vs 5 = .pointer (some ⟨C,0,none⟩):=hvs 5 (by decide)
          have v6 : vs 6 = .string nb:=hvs 6 (by decide)
          have v7 : vs 7 = .string lb:=hvs 7 (by decide)
          have v8 : vs 8 = .pointer (some ⟨C,0,none⟩):=hvs 8 (by decide)
          have v9 : vs 9 = .string nb:=hvs 9 (by decide)
          have v10 : vs 10 = .bool false:=hvs 10 (by decide)
          have v11 : vs 11 = .bool false:=hvs 11 (by decide)
          have v12 : vs 12 = .bool false:=hvs 12 (by decide)
          have v13 : vs 13 = .pointer (some ⟨C,1,none⟩):=hvs 13 (by decide)
          have v14 : vs 14 = .string vb:=hvs 14 (by decide)
          have v15 : vs 15 = .bool q3:=hvs 15 (by decide)
          have v16 : vs 16 = .bool (!q3):=hvs 16 (by decide)
          have v17 : vs 17 = .bool (!q3):=hvs 17 (by decide)
          have HBR:=Lib.hid hbel
          simp only [fillN,List.size_toArray,List.length_cons,List.length_nil,Nat.reduceAdd,show List.range 18 = [0,1,2,3,4,5,6,7,8,9,10,11,12,13,14,15,16,17] from rfl,List.foldl_cons,List.foldl_nil,show 40 + min 0 17 = 40 from rfl,show 40 + min 1 17 = 41 from rfl,show 40 + min 2 17 = 42 from rfl,show 40 + min 3 17 = 43 from rfl,show 40 + min 4 17 = 44 from rfl,show 40 + min 5 17 = 45 from rfl,show 40 + min 6 17 = 46 from rfl,show 40 + min 7 17 = 47 from rfl,show 40 + min 8 17 = 48 from rfl,show 40 + min 9 17 = 49 from rfl,show 40 + min 10 17 = 50 from rfl,show 40 + min 11 17 = 51 from rfl,show 40 + min 12 17 = 52 from rfl,show 40 + min 13 17 = 53 from rfl,show 40 + min 14 17 = 54 from rfl,show 40 + min 15 17 = 55 from rfl,show 40 + min 16 17 = 56 from rfl,show 40 + min 17 17 = 57 from rfl,v0,v1,v2,v3,v4,v5,v6,v7,v8,v9,v10,v11,v12,v13,v14,v15,v16,v17]
          clear v0 v1 v2 v3 v4 v5 v6 v7 v8 v9 v10 v11 v12 v13 v14 v15 v16 v17 hvs hbel
          go_simp
          cases q3
          ·go_wp2_with fail
           go_ret
           refine ⟨?_,?_⟩
           ·rw [HO2.out,Bool.true_and,show fs.all Hr.fldB = false from List.all_eq_false.2 ⟨_,HMM.out,by rw [HFB2.out]; simp⟩]; rfl
           ·first | exact HB0.out.trans (HBR.out.mono HZ.out) | (rw [HHH.out]; exact HB0.out.trans (HBR.out.mono HZ.out))
          ·go_wp2_with fail
           go_roundw
           case rel =>
            refine ⟨k + 1,hlt,by go_num,?_,(HBR.out.block _ (Array.getElem?_eq_some_iff.1 HG.out).1).trans HG.out,HB0.out.trans (HBR.out.mono HZ.out)⟩
            rw [HTK.out,List.all_append,HALL.out,List.all_cons,HFB2.out]; rfl
           case measure => simp [intOf]; omega
      ·obtain rfl : k = N:=by omega
       go_wp2_with fail
       go_ret
       refine ⟨?_,?_⟩
       ·have h:=HALL.out
        rw [List.take_of_length_le (by rw [HNN.out]; omega)] at h
        rw [HO2.out,h]; rfl
       ·first | exact HBL.out | (rw [HHH.out]; exact HBL.out)
end Go.Proofs.YtfacmnooklljnaaGreatDoor