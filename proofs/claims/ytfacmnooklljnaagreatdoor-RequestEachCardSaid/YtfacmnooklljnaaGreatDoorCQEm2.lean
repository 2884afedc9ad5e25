/- Texts of this claim, one behind the other: Ti, Tw6, Rg, Qa, Tw7, Tw9, Tw8, TwA, Tk, Yp, Zp, Zq, G1, Yb, Yc, Zc, Qb, Qc, Rq, Qd, Pj, RC, RD, Yj, Zd, Ze, Ye, Yl. -/
import Derived.Test.YtfacmnooklljnaaGreatDoorCQEm1
import Derived.Lib.SplitLaws
import Derived.Lib.Replace
import Derived.WalkKit
import Derived.Lib.ItoaMem
import Derived.Deep.QuietTactic
import Derived.BigQuiet
import Derived.Maps.AppendAt
import Derived.OwnWalkIn
import Derived.TacticsInMore
import Derived.LoopNIn
import Derived.LoopIn
import Derived.IntWalk
import Derived.Lib.QuietBelow
import Derived.Lib.Join
import Derived.Defers
import Derived.Recover
import Derived.BigCall
import Derived.DefersIn
import Derived.RangeFuncBox
import Derived.Deep.RegionWith
import Derived.RangeFuncKeeps
import Derived.Scope
import Derived.Lib.DecodeN
import Derived.Laws.RangeString
import Derived.Laws.Runes
import Derived.Deep.Cut
import Derived.Deep.DeepCutAuto
set_option linter.unusedVariables false
set_option linter.unusedSimpArgs false
namespace Go.Proofs.YtfacmnooklljnaaGreatDoor
namespace Tp
def parts : List UInt8 → List UInt8 → List (List UInt8)
 | cur,[] => [cur]
 | cur,c :: l => if c = 44 then cur :: parts [] l else parts (cur ++ [c]) l
def some? (l : List UInt8) : Bool:=!l.isEmpty
def itm (cur rest : List UInt8) : List (List UInt8):=((parts cur rest).map trim).filter some?
def items (l : List UInt8) : List (List UInt8):=itm [] l
theorem parts_cur : ∀ (l a b : List UInt8),parts (a ++ b) l = (match parts b l with | h :: t => (a ++ h) :: t | [] => [])
 | [],a,b => rfl
 | c :: l,a,b => by
  unfold parts
  by_cases h : c = 44
  ·rw [if_pos h,if_pos h]
  ·rw [if_neg h,if_neg h,List.append_assoc,parts_cur l a (b ++ [c])]
theorem split_is : ∀ l : List UInt8,Lib.splitK [44] 0 (Lib.count l [44]) l = parts [] l
 | [] => by rw [Lib.count_miss (by simp [Lib.index])]; rfl
 | c :: l => by
  have ih:=split_is l
  unfold parts
  by_cases h : c = 44
  ·subst h
   have hix : Lib.index (44 :: l) [44] = 0:=by rw [Lib.index]; simp [List.isPrefixOf]
   rw [if_pos rfl,Lib.count_cons_eq,Nat.add_comm,Lib.splitK,hix,← ih]
   rfl
  ·rw [if_neg h,Lib.count_cons_ne c 44 l h,List.nil_append,show [c] = [c] ++ [] from rfl,parts_cur,← ih]
   cases hn : Lib.count l [44] with
   | zero => rfl
   | succ n =>
    obtain ⟨j,hj⟩:=Lib.index_of_count (s:=l) (old:=[44]) (by omega)
    have hp : ([44] : List UInt8).isPrefixOf (c :: l) = false:=by simp [List.isPrefixOf,Ne.symm h]
    have hix : Lib.index (c :: l) [44] = ((j + 1 : Nat) : Int):=by
     rw [Lib.index,hp]
     simp [hj]
    rw [Lib.splitK,Lib.splitK,hix,hj]
    have h1 : ¬ ((((j + 1 : Nat) : Int)) == -1) = true:=by intro e; have:=beq_iff_eq.1 e; omega
    have h2 : ¬ (((j : Nat) : Int) == -1) = true:=by intro e; have:=beq_iff_eq.1 e; omega
    rw [if_neg h1,if_neg h2]
    simp only [Int.toNat_natCast,Nat.add_zero,List.take_succ_cons,List.singleton_append,List.length_singleton,List.drop_succ_cons]
theorem parts_len : ∀ (l a : List UInt8),∀ p ∈ parts a l,p.length ≤ a.length + l.length
 | [],a,p,hp => by
  have : p = a:=by simpa [parts] using hp
  subst this
  omega
 | c :: l,a,p,hp => by
  unfold parts at hp
  by_cases h : c = 44
  ·rw [if_pos h] at hp
   rcases List.mem_cons.1 hp with rfl | hp
   ·omega
   ·have:=parts_len l [] p hp; simp only [List.length_nil,List.length_cons] at *; omega
  ·rw [if_neg h] at hp
   have:=parts_len l _ p hp
   simp only [List.length_append,List.length_cons,List.length_nil] at *
   omega
theorem parts_at (l : List UInt8) (j : Nat) : ((parts [] l).getD j []).length ≤ l.length:=by
 by_cases h : j < (parts [] l).length
 ·have:=parts_len l [] _ (List.getElem_mem h)
  simpa [List.getD_eq_getElem?_getD,List.getElem?_eq_getElem h] using this
 ·simp [List.getD_eq_getElem?_getD,List.getElem?_eq_none (Nat.le_of_not_lt h)]
theorem parts_count (s : ByteArray) : (Lib.splitB ⟨#[44]⟩ 0 (Lib.countB s ⟨#[44]⟩) s).map (·.data.toList) = parts [] s.data.toList:=by
 rw [Lib.splitB_data]
 exact split_is _
end Tp
open Go.RowKit
def tx (l : List UInt8) : Value:=.string ⟨l.toArray⟩
def StrRow (w : World) (v : Value) (L : List (List UInt8)) : Prop :=
 ∃ p cap,v = .slice p L.length cap ∧ (L.length = 0 ∨ ∃ g,p = some ⟨g,0,none⟩ ∧ ∀ j,j < L.length → w.cell? ⟨g,j,none⟩ = some (tx (L.getD j [])))
theorem strRow_own {w : World} {base : Nat} {e : TypeId} {v : Value} {n : Nat} {L : List (List UInt8)} (h : w.ownsRow base e 1 v n (L.map tx)) : StrRow w v L:=by
 obtain ⟨hl,h⟩:=h
 have hn : n = L.length:=by simpa using hl.symm
 subst hn
 rcases h with ⟨rfl,h0⟩ | ⟨g,cap,cur,rfl,_,hg,hc,_,hs,ht⟩
 ·refine ⟨none,0,by rw [h0],.inl h0⟩
 ·refine ⟨some ⟨g,0,none⟩,cap,rfl,.inr ⟨g,rfl,fun j hj => ?_⟩⟩
  unfold World.cell?
  rw [show (⟨g,j,none⟩ : Addr).block = g from rfl,hg]
  show (if (none : Option _).isSome then none else cur[j]?) = _
  have h1 : (cur.toList.take (L.length * 1))[j]? = (L.map tx)[j]?:=by rw [ht]
  rw [List.getElem?_take_of_lt (by omega)] at h1
  rw [if_neg (by simp),← Array.getElem?_toList,h1,List.getElem?_map,List.getElem?_eq_getElem hj]
  simp [List.getD_eq_getElem?_getD,List.getElem?_eq_getElem hj]
theorem StrRow.below {w w' : World} {v : Value} {L : List (List UInt8)} (h : StrRow w v L) (hb : Below w.heap.size w w') : StrRow w' v L:=by
 obtain ⟨p,cap,rfl,h⟩:=h
 refine ⟨p,cap,rfl,?_⟩
 rcases h with h | ⟨g,rfl,h⟩
 ·exact .inl h
 ·exact .inr ⟨g,rfl,fun j hj => cell_below hb (h j hj)⟩
end Go.Proofs.YtfacmnooklljnaaGreatDoor
namespace Go.Proofs.YtfacmnooklljnaaGreatDoor
open Go.RowKit Go.Shelf
set_option maxHeartbeats 1000000
theorem tok_same (s t : ByteArray) (w : World) (hs : s.size ≤ 9223372036854775807) (ht : t.size ≤ 9223372036854775807) :
  Calls Tryz.prog 31 #[.string s,.string t] w fun e w' => e = .returned (.bool (Tp.lower s.data.toList == Tp.lower t.data.toList)) ∧ Below w.heap.size w w':=by
 have D1:=Lib.hid (fun W => tok_lower s W hs)
 have D2:=Lib.hid (fun W => tok_lower t W ht)
 go_enter Tryz.func31,Tryz.ntmps31
 go_wp2_with fail
 refine (D1.out _).mono ?_
 rintro e w1 ⟨rfl,hb1⟩
 obtain ⟨x,hx⟩ : ∃ x : ByteArray,(⟨(Tp.lower s.data.toList).toArray⟩ : ByteArray) = x:=⟨_,rfl⟩
 rw [hx]
 have HX:=Lib.hid hx
 clear hx
 go_wp2_with fail
 refine (D2.out _).mono ?_
 rintro e w2 ⟨rfl,hb2⟩
 obtain ⟨y,hy⟩ : ∃ y : ByteArray,(⟨(Tp.lower t.data.toList).toArray⟩ : ByteArray) = y:=⟨_,rfl⟩
 rw [hy]
 have HY:=Lib.hid hy
 clear hy
 go_wp2_with fail
 go_ret
 refine ⟨ret_bool ?_,hb1.trans (hb2.mono hb1.size)⟩
 have h1 : x.toList = Tp.lower s.data.toList:=by rw [← HX.out,ByteArray.toList_eq]
 have h2 : y.toList = Tp.lower t.data.toList:=by rw [← HY.out,ByteArray.toList_eq]
 rw [← h1,← h2]
theorem tok_some (s : ByteArray) (w : World) :
  Calls Tryz.prog 77 #[.string s] w fun e w' => e = .returned (.bool (Tp.some? s.data.toList)) ∧ w = w':=by
 go_enter Tryz.func77,Tryz.ntmps77
 go_wp2_with fail
 go_ret
 refine ⟨ret_bool ?_,rfl⟩
 unfold Tp.some?
 rw [ByteArray.toList_eq]
theorem own_ge {w : World} {B : Nat} {e : TypeId} {v : Value} {n : Nat} {xs : List Value} (h : w.ownsRow B e 1 v n xs) : ∀ k,v.ownBlock = some k → B ≤ k:=by
 intro k hk
 rcases h.2 with ⟨rfl,_⟩ | ⟨g,cap,cur,rfl,hg,_⟩
 ·simp [Value.ownBlock] at hk
 ·have : g = k:=by simpa [Value.ownBlock] using hk
  omega
theorem filter_le (L : List (List UInt8)) (k : Nat) : ((L.take k).filter Tp.some?).length ≤ L.length :=
 Nat.le_trans (List.length_filter_le _ _) (by rw [List.length_take]; omega)
set_option maxRecDepth 100000 in
theorem tok_sifted (B : Nat) (v : Value) (L : List (List UInt8)) (w : World) (hB : w.heap.size = B) (h : StrRow w v L) (hl : L.length ≤ 10000) :
  Calls Tryz.prog 76 #[.func (.func 77) #[] #[],v] w fun e w' => ∃ r,e = .returned r ∧ w'.ownsRow B 9 1 r (L.filter Tp.some?).length ((L.filter Tp.some?).map tx) ∧ Below B w w':=by
 obtain ⟨p,c,rfl,h⟩:=h
 have H:=Lib.hid h
 clear h
 obtain ⟨n,hn⟩ : ∃ n,L.length = n:=⟨_,rfl⟩
 rw [hn] at hl ⊢
 have HN:=Lib.hid hn
 clear hn
 obtain ⟨i0,hi,hz0,hz1,hz2⟩:=info_parts (show (Tryz.prog.info? 9).map (fun i => (i.zero,i.size,i.bytes)) = some (some (.string ByteArray.empty),1,16) by kernel_rfl)
 go_enter Tryz.func76,Tryz.ntmps76
 go_wp2_with fail
 go_loopw [4,6,9] (fun v _ i wr => ∃ k : Nat,k ≤ n ∧ i = .int .i64 k ∧ wr.ownsRow B 9 1 v ((L.take k).filter Tp.some?).length (((L.take k).filter Tp.some?).map tx) ∧ Below B w wr) (fun _ _ i _ => n - (intOf i).toNat)
 case atStart => exact ⟨0,Nat.zero_le _,rfl,World.ownsRow_nil _ _ _ _,Below.refl _ _⟩
 case round =>
  obtain ⟨k,hk,rfl,hown,hb⟩:=hrel
  have HO:=Lib.hid hown
  have HB:=Lib.hid hb
  clear hown hb
  by_cases hlt : k < n
  ·obtain ⟨g,rfl,hc⟩:=H.out.resolve_left (by rw [HN.out]; omega)
   have hb0 : Below w.heap.size w wr:=by rw [hB]; exact HB.out
   have hx:=cell_below hb0 (hc k (by rw [HN.out]; exact hlt))
   clear hb0
   have ht : L.take (k + 1) = L.take k ++ [L.getD k []]:=by rw [List.take_succ_eq_append_getElem (by rw [HN.out]; exact hlt)]; simp [List.getD_eq_getElem?_getD,List.getElem?_eq_getElem (show k < L.length by rw [HN.out]; exact hlt)]
   obtain ⟨x,hxx⟩ : ∃ x,L.getD k [] = x:=⟨_,rfl⟩
   rw [hxx] at hx ht
   have HT:=Lib.hid ht
   clear hc hxx ht
   obtain ⟨xb,hxb⟩ : ∃ z : ByteArray,(⟨x.toArray⟩ : ByteArray) = z:=⟨_,rfl⟩
   have hxd : xb.data.toList = x:=by rw [← hxb]
   have HX:=Lib.hid hxb
   unfold tx at hx
   rw [hxb] at hx
   have K:=Lib.hid (tok_some xb wr)
   rw [hxd] at K
   clear hxb hxd
   go_wp2_with fail
   refine K.out.mono ?_
   rintro e w' ⟨rfl,rfl⟩
   obtain ⟨d,hd⟩ : ∃ d,Tp.some? x = d:=⟨_,rfl⟩
   rw [hd]
   have HD:=Lib.hid hd
   clear hd
   cases d
   ·go_wp2_with fail
    go_roundw
    case rel => exact ⟨k + 1,by omega,by go_num,by rw [HT.out,List.filter_append,show [x].filter Tp.some? = [] by simp [HD.out],List.append_nil]; exact HO.out,HB.out⟩
    case measure => simp [intOf]; omega
   ·go_wp2_with (first
     | (at_builtin; refine wpList_append_own _ rfl _ _ 33 rfl B 9 i0 (.string ByteArray.empty) 1 16 Tryz.underlying33 hi hz0 hz1 hz2 rfl (by decide) _ _ _ rfl (HO.out.alloc _) ⟨wr.heap.size,0,none⟩ 1 1 [.string xb] rfl rfl ?c1 ?c2 ?c3 ?c4 ?c5 ?_)
     | go_in)
    case c1 =>
     intro j u hj
     match j,hj with
     | 0,hj => simp at hj; subst hj; simp [Addr.add]
    case c2 => intro u hu; simp at hu; subst hu; rfl
    case c3 => have:=filter_le L k; rw [HN.out] at this; unfold maxLen; omega
    case c4 => have:=filter_le L k; rw [HN.out] at this; omega
    case c5 => have:=HB.out.size; simp; omega
    intro v' w1 hown' hgrow _
    have hb1 : Below B w w1:=Below.grown (HB.out.alloc (by have:=HB.out.size; omega) _) hgrow (by have:=HB.out.size; simp; omega) (own_ge HO.out)
    have HB1:=Lib.hid hb1
    have hf : (L.take (k + 1)).filter Tp.some? = (L.take k).filter Tp.some? ++ [x]:=by rw [HT.out,List.filter_append,show [x].filter Tp.some? = [x] by simp [HD.out]]
    have ho : w1.ownsRow B 9 1 v' ((L.take (k + 1)).filter Tp.some?).length (((L.take (k + 1)).filter Tp.some?).map tx):=by
     rw [hf,List.map_append,List.length_append]
     have : tx x = .string xb:=by unfold tx; rw [HX.out]
     show w1.ownsRow B 9 1 v' _ (_ ++ [tx x])
     rw [this]
     exact hown'
    have HO1:=Lib.hid ho
    clear ho hf hb1 hgrow hown'
    go_wp2
    go_roundw
    case rel => exact ⟨k + 1,by omega,by go_num,HO1.out,HB1.out⟩
    case measure => simp [intOf]; omega
  ·have hk1 : k = n:=by omega
   subst hk1
   have hL:=HO.out
   rw [List.take_of_length_le (by rw [HN.out]; exact Nat.le_refl _)] at hL
   have HL:=Lib.hid hL
   clear hL
   go_wp2_with fail
   go_ret
   exact ⟨_,rfl,HL.out,HB.out⟩
end Go.Proofs.YtfacmnooklljnaaGreatDoor
namespace Go.Proofs.YtfacmnooklljnaaGreatDoor
open Go.RowKit
def IterG (F : Fence) (n : Nat) (P : Program) (gf : Nat) (lb : Array Value) (Enc : Nat → Array Value → World → Prop) (N : Nat) (own : Nat → Prop) (Kp : World → World → Prop) (W : World) : Prop :=
 ∀ (l : Nat) (J : Nat → World → Prop) (Jx : World → Prop),
  (∀ k X Y,J k X → Turn W.heap.size own X Y → J k Y) → (∀ X Y,Jx X → Turn W.heap.size own X Y → Jx Y) →
  (∀ k X args,k < N → J k X → Enc k args X → YieldAt F (n - 1) P l args X fun e Y => (e = .returned (.bool true) ∧ J (k + 1) Y ∧ Kp X Y ∧ KeepsFrom W.heap.size X Y) ∨ (e = .returned (.bool false) ∧ Jx Y ∧ KeepsFrom W.heap.size X Y)) →
  J 0 W → CallsIn F n P gf (#[.func (.yield l) #[] #[]] ++ lb) W fun e Y => (∃ v,e = .returned v) ∧ (J N Y ∨ Jx Y)
theorem IterG.of {F : Fence} {n : Nat} {P : Program} {gf : Nat} {lb : Array Value} {encs : Nat → Array Value} {N : Nat} {own : Nat → Prop} {Kp : World → World → Prop} {W : World} (h : IterAt F n P gf lb encs N own Kp W) : IterG F n P gf lb (fun k a _ => a = encs k) N own Kp W :=
 fun l J Jx hJ hJx hY h0 => h l J Jx hJ hJx (fun k X hk hj => hY k X _ hk hj rfl) h0
variable {F : Fence} {n : Nat} {P : Program}
def KeepB (n E : Nat) (X Y : World) : Prop:=∀ b,(b < n ∨ b = E) → b < X.heap.size → Y.heap[b]? = X.heap[b]?
theorem KeepB.lt {n E : Nat} {X Y : World} (h : KeepB n E X Y) {b : Nat} (hb : b < n ∨ b = E) (hx : b < X.heap.size) : b < Y.heap.size:=by
 have h1:=h b hb hx
 rw [Array.getElem?_eq_getElem hx] at h1
 exact (Array.getElem?_eq_some_iff.1 h1).1
theorem KeepB.trans {n E : Nat} {X Y Z : World} (h : KeepB n E X Y) (k : KeepB n E Y Z) : KeepB n E X Z:=fun b hb hx => (k b hb (h.lt hb hx)).trans (h b hb hx)
theorem KeepB.refl (n E : Nat) (X : World) : KeepB n E X X:=fun _ _ _ => rfl
theorem KeepB.putObj {n E l : Nat} (W : World) (o : Obj) (hl : ¬ (l < n ∨ l = E)) : KeepB n E W (W.putObj l o):=fun b hb _ => World.putObj_heap_other (fun e => hl (e ▸ hb))
theorem KeepB.below {n E : Nat} {X Y : World} (h : Below X.heap.size X Y) : KeepB n E X Y:=fun b _ hx => h.block b hx
theorem KeepB.setCell {n E c : Nat} (W : World) (v : Value) (hc : ¬ (c < n ∨ c = E)) : KeepB n E W (W.setCell ⟨c,0,none⟩ v):=fun b hb _ => Below.heap_setCell _ _ _ _ (fun e => hc (by have e2 : b = c:=e; rw [← e2]; exact hb))
theorem IterG.any {m : Nat} (m' : Nat) {gf : Nat} {lb : Array Value} {Enc : Nat → Array Value → World → Prop} {N : Nat} {own : Nat → Prop} {Kp : World → World → Prop} {W : World} (h : IterG Fence.wide m P gf lb Enc N own Kp W) : IterG Fence.wide m' P gf lb Enc N own Kp W :=
 fun l J Jx hJ hJx hY h0 => callsIn_wide.2 (callsIn_wide.1 (h l J Jx hJ hJx (fun k X args hk hj he => yieldAt_any _ (hY k X args hk hj he)) h0))
end Go.Proofs.YtfacmnooklljnaaGreatDoor
namespace Go.Proofs.YtfacmnooklljnaaGreatDoor
open Go.RowKit Go.Shelf
attribute [local go_sem] Oper.semAt_some
set_option maxHeartbeats 8000000
set_option maxRecDepth 100000
namespace Hg
def selN (g : Hp.Hd → Bool) (fs : List Hp.Hd) (n : Nat) : List Nat:=(List.range n).filter fun j => g (fs.getD j ([],[]))
theorem selN_yes {g : Hp.Hd → Bool} {fs : List Hp.Hd} {k : Nat} (h : g (fs.getD k ([],[])) = true) : selN g fs (k + 1) = selN g fs k ++ [k]:=by
 unfold selN; rw [List.range_succ,List.filter_append]; simp only [List.filter_cons,h]; rfl
theorem selN_no {g : Hp.Hd → Bool} {fs : List Hp.Hd} {k : Nat} (h : g (fs.getD k ([],[])) = false) : selN g fs (k + 1) = selN g fs k:=by
 unfold selN; rw [List.range_succ,List.filter_append]; simp only [List.filter_cons,h]; exact List.append_nil _
theorem selN_len (g : Hp.Hd → Bool) (fs : List Hp.Hd) (k : Nat) : (selN g fs k).length ≤ k:=by
 unfold selN; refine Nat.le_trans (List.length_filter_le _ _) ?_; simp
theorem selN_mem {g : Hp.Hd → Bool} {fs : List Hp.Hd} {k j : Nat} (h : j < (selN g fs k).length) : (selN g fs k).getD j 0 < k:=by
 rw [List.getD_eq_getElem?_getD,List.getElem?_eq_getElem h]
 have:=List.getElem_mem h
 unfold selN at this
 exact List.mem_range.1 (List.mem_filter.1 this).1
theorem selN_vals (g : Hp.Hd → Bool) (fs : List Hp.Hd) : ∀ n,n ≤ fs.length → (selN g fs n).map (fun j => (fs.getD j ([],[])).2) = ((fs.take n).filter g).map (·.2)
 | 0,_ => rfl
 | n + 1,h => by
  have ih:=selN_vals g fs n (by omega)
  have ht : fs.take (n + 1) = fs.take n ++ [fs.getD n ([],[])]:=by
   rw [List.take_succ_eq_append_getElem (by omega),List.getD_eq_getElem?_getD,List.getElem?_eq_getElem (by omega)]; rfl
  rw [ht,List.filter_append,List.map_append,← ih]
  cases hg : g (fs.getD n ([],[])) with
  | true => rw [selN_yes hg,List.map_append,List.filter_cons,hg]; rfl
  | false => rw [selN_no hg,List.filter_cons,hg]; exact (List.append_nil _).symm
def isNm (nm : List UInt8) (f : Hp.Hd) : Bool:=Tp.lower f.1 == Tp.lower nm
def vals (nm : List UInt8) (fs : List Hp.Hd) : List (List UInt8):=(fs.filter (isNm nm)).map (·.2)
end Hg
theorem hd_e1 (f : Hp.Hd) (NB : Nat) (nb : ByteArray) (w : World) (hc : w.cell? ⟨NB,0,none⟩ = some (.string nb)) (hf : f.1.length ≤ 100000) (hn : nb.size ≤ 100000) :
  Calls Tryz.prog 141 #[.agg #[Hp.sx f.1,Hp.sx f.2],.pointer (some ⟨NB,0,none⟩)] w fun e w' => e = .returned (.bool (Hg.isNm nb.data.toList f)) ∧ Below w.heap.size w w':=by
 obtain ⟨n,v⟩:=f
 unfold Hp.sx
 obtain ⟨fb,hfb⟩ : ∃ z : ByteArray,(⟨n.toArray⟩ : ByteArray) = z:=⟨_,rfl⟩
 obtain ⟨vb,hvb⟩ : ∃ z : ByteArray,(⟨v.toArray⟩ : ByteArray) = z:=⟨_,rfl⟩
 have hfn : fb.data.toList = n:=by rw [← hfb]
 have hfz : fb.size ≤ 100000:=by rw [← hfb]; simpa [ByteArray.size] using hf
 show Calls _ _ #[.agg #[.string ⟨n.toArray⟩,.string ⟨v.toArray⟩],_] _ _
 rw [hfb,hvb]
 obtain ⟨W1,hW1⟩ : ∃ Z,w.alloc (.cells #[.string fb,.string vb] 59) = Z:=⟨_,rfl⟩
 have hb : Below w.heap.size w W1:=by rw [← hW1]; exact (Below.refl _ _).alloc (Nat.le_refl _) _
 have hg : W1.heap[w.heap.size]? = some (.cells #[.string fb,.string vb] 59 (0,0)):=by rw [← hW1]; exact World.alloc_heap_new _ _
 have y0 : W1.cell? ⟨w.heap.size,0,none⟩ = some (.string fb):=by simp [World.cell?,hg]
 have x0 : W1.cell? ⟨NB,0,none⟩ = some (.string nb):=(hb.cell (p:=⟨NB,0,none⟩) (lt_of_cell hc)).trans hc
 have K:=Lib.hid (tok_same fb nb W1 (by omega) (by omega))
 rw [hfn] at K
 have HB:=Lib.hid hb
 have HW:=Lib.hid hW1
 have x1 : (w.alloc (.cells #[.string fb,.string vb] 59)).cell? ⟨NB,0,none⟩ = some (.string nb):=by rw [hW1]; exact x0
 obtain ⟨d,hd⟩ : ∃ d,Hg.isNm nb.data.toList (n,v) = d:=⟨_,rfl⟩
 rw [show (Tp.lower n == Tp.lower nb.data.toList) = d from hd] at K
 rw [hd]
 clear hb hg hc hW1 hd hfb hvb hfn hf
 go_enter Tryz.func141,Tryz.ntmps141
 go_wp2_with fail
 rw [HW.out]
 refine K.out.mono ?_
 rintro e w2 ⟨rfl,hb2⟩
 have HB2:=Lib.hid (HB.out.trans (hb2.mono HB.out.size))
 clear hb2
 go_wp2_with fail
 go_ret
 exact ⟨rfl,HB2.out⟩
def natv (l : List Nat) : List Value:=l.map fun (j : Nat) => .int .i64 (j : Int)
theorem own_slQ {w : World} {B : Nat} {e : TypeId} {s : Nat} {v : Value} {n : Nat} {xs : List Value} (h : w.ownsRow B e s v n xs) : ∃ p c,v = .slice p n c:=by
 rcases h.2 with ⟨rfl,h0⟩ | ⟨g,cap,cur,rfl,_⟩
 ·exact ⟨none,0,by rw [h0]⟩
 ·exact ⟨_,_,rfl⟩
theorem own_bel {w w' : World} {base : Nat} {e : TypeId} {size : Nat} {v : Value} {n : Nat} {xs : List Value} (h : w.ownsRow base e size v n xs) (k : Below w.heap.size w w') : w'.ownsRow base e size v n xs:=by
 refine ⟨h.1,h.2.imp id ?_⟩
 rintro ⟨g,cap,cur,h1,h2,h3,h4⟩
 refine ⟨g,cap,cur,h1,h2,(k.block g ?_).trans h3,h4⟩
 rcases Nat.lt_or_ge g w.heap.size with h' | h'
 ·exact h'
 ·rw [Array.getElem?_eq_none h'] at h3; simp at h3
theorem hd_sifted (f : FuncId) (cap : Array Value) (g : Hp.Hd → Bool) (v : Value) (fs : List Hp.Hd) (w : World) (hv : HS w v fs) (hl : fs.length ≤ 1000)
  (hce : ∀ args W,(callFunc f args).run Tryz.prog W = .ok (.enter f args) W)
  (hf : ∀ x ∈ fs,∀ W,Below w.heap.size w W → Calls Tryz.prog f (#[.agg #[Hp.sx x.1,Hp.sx x.2]] ++ cap) W fun e w' => e = .returned (.bool (g x)) ∧ Below W.heap.size W w') :
  Calls Tryz.prog 140 #[v,.func (.func f) #[] cap] w fun e w' => ∃ r,e = .returned r ∧ w'.ownsRow w.heap.size 3 1 r (Hg.selN g fs fs.length).length (natv (Hg.selN g fs fs.length)) ∧ Below w.heap.size w w':=by
 obtain ⟨i0,hi,hz0,hz1,hz2⟩:=info_parts (show (Tryz.prog.info? 3).map (fun i => (i.zero,i.size,i.bytes)) = some (some (.int .i64 0),1,8) by kernel_rfl)
 obtain ⟨p,c,rfl⟩:=hv.slice
 obtain ⟨n,hn⟩ : ∃ n,fs.length = n:=⟨_,rfl⟩
 rw [hn] at hv hl ⊢
 have HV:=Lib.hid hv
 have HN:=Lib.hid hn
 have HF:=Lib.hid hf
 clear hv hn hf
 go_enter Tryz.func140,Tryz.ntmps140
 go_wp2_with fail
 go_loopw [4,9] (fun v4 i wr => ∃ k : Nat,k ≤ n ∧ i = .int .i64 k ∧ wr.ownsRow w.heap.size 3 1 v4 (Hg.selN g fs k).length (natv (Hg.selN g fs k)) ∧ Below w.heap.size w wr) (fun _ i _ => n - (intOf i).toNat)
 case atStart => exact ⟨0,Nat.zero_le _,rfl,World.ownsRow_nil _ _ _ _,Below.refl _ _⟩
 case round =>
  obtain ⟨k,hk,rfl,hown,hbl⟩:=hrel
  obtain ⟨acc,hacc⟩ : ∃ z,Hg.selN g fs k = z:=⟨_,rfl⟩
  have HACC:=Lib.hid hacc
  have hal : acc.length ≤ k:=by rw [← hacc]; exact Hg.selN_len _ _ _
  rw [hacc] at hown
  obtain ⟨p4,c4,rfl⟩:=own_slQ hown
  obtain ⟨na,hna⟩ : ∃ z,acc.length = z:=⟨_,rfl⟩
  have HNA:=Lib.hid hna
  rw [hna] at hown hal ⊢
  have HOW:=Lib.hid hown
  have HBL:=Lib.hid hbl
  clear hown hbl hacc hna
  by_cases hlt : k < n
  ·have hI1 : ((k : Int) < (n : Int)):=by omega
   have HLK:=Lib.hid (show k < fs.length by rw [HN.out]; exact hlt)
   obtain ⟨b,off,rfl,hc⟩:=HV.out.cells HLK.out
   obtain ⟨y1,y2⟩:=hc k HLK.out
   have x1:=(HBL.out.cell (p:=⟨b,off + k * 2,none⟩) (lt_of_cell y1)).trans y1
   have x2:=(HBL.out.cell (p:=⟨b,off + k * 2 + 1,none⟩) (lt_of_cell y2)).trans y2
   obtain ⟨fk,hfk⟩ : ∃ z,fs.getD k ([],[]) = z:=⟨_,rfl⟩
   rw [hfk] at x1 x2
   have HFK:=Lib.hid hfk
   have hmem : fk ∈ fs:=by rw [← hfk,List.getD_eq_getElem?_getD,List.getElem?_eq_getElem HLK.out]; exact List.getElem_mem _
   obtain ⟨a1,ha1⟩ : ∃ z : ByteArray,(⟨fk.1.toArray⟩ : ByteArray) = z:=⟨_,rfl⟩
   obtain ⟨a2,ha2⟩ : ∃ z : ByteArray,(⟨fk.2.toArray⟩ : ByteArray) = z:=⟨_,rfl⟩
   obtain ⟨w2,hw2⟩ : ∃ z,wr.alloc (.cells #[.string a1,.string a2] 59) = z:=⟨_,rfl⟩
   have hb : Below wr.heap.size wr w2:=by rw [← hw2]; exact (Below.refl _ _).alloc (Nat.le_refl _) _
   have HB2:=Lib.hid (HBL.out.trans (hb.mono HBL.out.size))
   have HOW2:=Lib.hid (own_bel HOW.out hb)
   have hg2 : w2.heap[wr.heap.size]? = some (.cells #[.string a1,.string a2] 59 (0,0)):=by rw [← hw2]; exact World.alloc_heap_new _ _
   have z1 : w2.cell? ⟨wr.heap.size,0,none⟩ = some (.string a1):=by simp [World.cell?,hg2]
   have z2 : w2.cell? ⟨wr.heap.size,1,none⟩ = some (.string a2):=by simp [World.cell?,hg2]
   have KF:=Lib.hid (HF.out fk hmem w2 HB2.out)
   unfold Hp.sx at x1 x2 KF
   rw [ha1] at x1 KF
   rw [ha2] at x2 KF
   have HW2:=Lib.hid hw2
   obtain ⟨d,hd⟩ : ∃ d,g fk = d:=⟨_,rfl⟩
   rw [hd] at KF
   have HD:=Lib.hid (show g (fs.getD k ([],[])) = d by rw [hfk]; exact hd)
   clear hc y1 y2 hfk hmem ha1 ha2 hb hg2 hw2 hd
   cases d with
   | false =>
    have HSN:=Lib.hid (show Hg.selN g fs (k + 1) = acc by rw [Hg.selN_no HD.out,HACC.out])
    go_wp2_with fail
    rw [HW2.out]
    go_wp2_with fail
    refine KF.out.mono ?_
    rintro e w3 ⟨rfl,hb3⟩
    have HB3:=Lib.hid (HB2.out.trans (hb3.mono HB2.out.size))
    have HOW3:=Lib.hid (own_bel HOW2.out hb3)
    clear hb3
    go_wp2_with fail
    try go_roundw
    case rel => exact ⟨k + 1,hlt,by go_num,by rw [HSN.out,HNA.out]; exact HOW3.out,HB3.out⟩
    case measure => simp [intOf]; omega
   | true =>
    have HSN:=Lib.hid (show Hg.selN g fs (k + 1) = acc ++ [k] by rw [Hg.selN_yes HD.out,HACC.out])
    go_wp2_with fail
    rw [HW2.out]
    go_wp2_with fail
    refine KF.out.mono ?_
    rintro e w3 ⟨rfl,hb3⟩
    have HB3:=Lib.hid (HB2.out.trans (hb3.mono HB2.out.size))
    have HOW3:=Lib.hid (own_bel HOW2.out hb3)
    clear hb3
    go_wp2_with (at_builtin; refine wpList_append_own _ rfl _ _ 45 rfl w.heap.size 3 i0 (.int .i64 0) 1 8 Tryz.underlying45 hi hz0 hz1 hz2 rfl (by decide) _ _ _ rfl (HOW3.out.alloc _) ⟨w3.heap.size,0,none⟩ 1 1 [.int .i64 (k : Int)] rfl rfl ?d1 ?d2 ?d3 ?d4 ?d5 ?_)
    try (case d1 =>
     intro j u hj
     match j,hj with
     | 0,hj => simp at hj; subst hj; simp [Addr.add])
    try (case d2 => first | rfl | (intro u hu; simp at hu; subst hu; rfl))
    try (case d3 => unfold maxLen; omega)
    try (case d4 => omega)
    try (case d5 => have:=HB3.out.size; simp; omega)
    intro v' w4 hown' hgrow _
    have HB4:=Lib.hid (show Below w.heap.size w w4 from Below.grown (HB3.out.alloc HB3.out.size _) hgrow (by have:=HB3.out.size; simp; omega) (own_geH HOW3.out))
    have HOW4:=Lib.hid (show w4.ownsRow w.heap.size 3 1 v' (acc ++ [k]).length (natv (acc ++ [k])) by
     unfold natv at hown' ⊢
     rw [List.map_append,List.length_append,HNA.out]
     exact hown')
    clear hgrow hown'
    go_wp2_with fail
    try go_roundw
    case rel => exact ⟨k + 1,hlt,by go_num,by rw [HSN.out]; exact HOW4.out,HB4.out⟩
    case measure => simp [intOf]; omega
  ·have hI1 : ¬ ((k : Int) < (n : Int)):=by omega
   have HKN:=Lib.hid (show k = n by omega)
   go_wp2_with fail
   go_ret
   refine ⟨_,rfl,?_,HBL.out⟩
   rw [← HKN.out,HACC.out,HNA.out]
   exact HOW.out
end Go.Proofs.YtfacmnooklljnaaGreatDoor
namespace Go.Proofs.YtfacmnooklljnaaGreatDoor
open Go.RowKit Go.Shelf
set_option maxHeartbeats 1000000
def ML (w : World) : Prop:=∃ m,w.cell? ⟨0,0,none⟩ = some (.int .i64 m)
theorem ML.below {w w' : World} (h : ML w) (hb : Below w.heap.size w w') : ML w':=let ⟨m,hm⟩:=h; ⟨m,cell_below hb hm⟩
def trF (P : List (List UInt8)) (k j : Nat) : List UInt8:=if j < k then Tp.trim (P.getD j []) else P.getD j []
def TrRow (w : World) (B : Nat) (P : List (List UInt8)) (k : Nat) : Prop:=∀ j,j < P.length → w.cell? ⟨B,j,none⟩ = some (tx (trF P k j)) ∧ w.frozen? ⟨B,j,none⟩ = false
theorem trRow_below {w w' : World} {B : Nat} {P : List (List UInt8)} {k : Nat} (h : TrRow w B P k) (hb : Below w.heap.size w w') (hB : B < w.heap.size) : TrRow w' B P k :=
 fun j hj => ⟨cell_below hb (h j hj).1,(hb.frozen (p:=⟨B,j,none⟩) hB).trans (h j hj).2⟩
theorem trRow_set {w : World} {B : Nat} {P : List (List UInt8)} {k : Nat} (h : TrRow w B P k) (hk : k < P.length) : TrRow (w.setCell ⟨B,k,none⟩ (tx (Tp.trim (P.getD k [])))) B P (k + 1):=by
 intro j hj
 refine ⟨?_,by rw [World.frozen?_setCell]; exact (h j hj).2⟩
 by_cases hjk : j = k
 ·subst hjk
  rw [World.cell?_setCell_same _ _ _ (h j hj).1]
  unfold trF
  rw [if_pos (by omega)]
 ·rw [World.cell?_setCell_other _ _ _ _ (by intro e; cases e; exact hjk rfl),(h j hj).1]
  unfold trF
  by_cases h2 : j < k
  ·rw [if_pos h2,if_pos (by omega)]
  ·rw [if_neg h2,if_neg (by omega)]
theorem trRow_start (w : World) (s : ByteArray) (B : Nat) (hB : w.heap.size = B) : TrRow (w.alloc (.cells ((Lib.splitB ⟨#[44]⟩ 0 (Lib.countB s ⟨#[44]⟩) s).map Value.string).toArray 9)) B (Tp.parts [] s.data.toList) 0:=by
 subst hB
 intro j hj
 have hp:=Tp.parts_count s
 refine ⟨?_,?_⟩
 ·rw [World.cell?_alloc_new]
  rw [← hp] at hj ⊢
  unfold trF
  rw [if_neg (by omega)]
  have hj' : j < (Lib.splitB ⟨#[44]⟩ 0 (Lib.countB s ⟨#[44]⟩) s).length:=by simpa using hj
  rw [List.getElem?_toArray,List.getElem?_map,List.getElem?_eq_getElem hj',List.getD_eq_getElem?_getD,List.getElem?_map,List.getElem?_eq_getElem hj']
  rfl
 ·simp [World.frozen?,World.alloc,-World.alloc_eq]
theorem trRow_done {w : World} {B cap : Nat} {P : List (List UInt8)} (h : TrRow w B P P.length) : StrRow w (.slice (some ⟨B,0,none⟩) P.length cap) (P.map Tp.trim):=by
 refine ⟨some ⟨B,0,none⟩,cap,by rw [List.length_map],.inr ⟨B,rfl,fun j hj => ?_⟩⟩
 rw [List.length_map] at hj
 rw [(h j hj).1]
 unfold trF
 rw [if_pos hj]
 congr 2
 simp [List.getD_eq_getElem?_getD,List.getElem?_eq_getElem hj]
set_option maxRecDepth 100000 in
theorem tok_items (s : ByteArray) (w : World) (hs : s.size ≤ 5000) (hm : ML w) :
  Calls Tryz.prog 29 #[.string s] w fun e w' => ∃ r,e = .returned r ∧ StrRow w' r (Tp.items s.data.toList) ∧ Below w.heap.size w w':=by
 obtain ⟨m,hm⟩:=hm
 have SP:=Lib.hid (Tryz.strings_Split s ⟨#[44]⟩ m w (by omega) hm (by decide))
 clear hm
 have hn : (Tp.parts [] s.data.toList).length = Lib.countB s ⟨#[44]⟩ + 1:=by
  rw [← Tp.parts_count s,List.length_map,Lib.splitB_all _ (by decide) 0 _ s rfl]
 have hle : Lib.countB s ⟨#[44]⟩ ≤ s.size:=Lib.countB_le _ (by decide) s.size s (Nat.le_refl _)
 have ST:=Lib.hid (trRow_start w s w.heap.size rfl)
 have PA:=Lib.hid (Tp.parts_at s.data.toList)
 have HI:=Lib.hid (show Tp.items s.data.toList = ((Tp.parts [] s.data.toList).map Tp.trim).filter Tp.some? from rfl)
 obtain ⟨C,hC⟩ : ∃ C,((Lib.splitB ⟨#[44]⟩ 0 (Lib.countB s ⟨#[44]⟩) s).map Value.string).toArray = C:=⟨_,rfl⟩
 rw [hC] at SP ST
 obtain ⟨P,hP⟩ : ∃ P,Tp.parts [] s.data.toList = P:=⟨_,rfl⟩
 rw [hP] at hn ST PA HI
 rw [HI.out]
 rw [← hn] at SP
 have hPl : P.length ≤ 5001:=by omega
 obtain ⟨n,hnn⟩ : ∃ n,P.length = n:=⟨_,rfl⟩
 rw [hnn] at SP hPl
 have HN:=Lib.hid hnn
 clear hnn hn hle hC hP
 have hsz : s.data.toList.length ≤ 5000:=by simpa using hs
 have HS:=Lib.hid hsz
 clear hsz
 go_enter Tryz.func29,Tryz.ntmps29
 go_wp2_with fail
 refine SP.out.mono ?_
 rintro e w1 ⟨rfl,rfl⟩
 go_wp2_with fail
 have hb1 : Below w.heap.size w (w.alloc (.cells C 9)):=(Below.refl _ _).alloc (Nat.le_refl _) _
 have HB1:=Lib.hid hb1
 clear hb1
 go_loopw [4,9] (fun _ i wr => ∃ k : Nat,k ≤ n ∧ i = .int .i64 k ∧ Below w.heap.size w wr ∧ TrRow wr w.heap.size P k ∧ w.heap.size < wr.heap.size) (fun _ i _ => n - (intOf i).toNat)
 case atStart => exact ⟨0,Nat.zero_le _,rfl,HB1.out,ST.out,by simp⟩
 case round =>
  clear ST HB1
  obtain ⟨k,hk,rfl,hb,hrow,hlen⟩:=hrel
  have HB:=Lib.hid hb
  have HR:=Lib.hid hrow
  have HL:=Lib.hid hlen
  clear hb hrow hlen
  by_cases hlt : k < n
  ·have hc:=(HR.out k (by rw [HN.out]; exact hlt)).1
   have hcur : trF P k k = P.getD k []:=if_neg (Nat.lt_irrefl k)
   rw [hcur] at hc
   clear hcur
   have hxs : (P.getD k []).length ≤ 5000:=Nat.le_trans (PA.out k) HS.out
   have HW:=Lib.hid (fun W h => trRow_set (w:=W) (k:=k) (P:=P) (B:=w.heap.size) h (by rw [HN.out]; exact hlt))
   obtain ⟨x,hx⟩ : ∃ x,P.getD k [] = x:=⟨_,rfl⟩
   rw [hx] at hc hxs HW
   clear hx
   have K:=Lib.hid (tok_trim ⟨x.toArray⟩ wr (by show x.toArray.size ≤ _; simp; omega))
   rw [show (⟨x.toArray⟩ : ByteArray).data.toList = x from rfl] at K
   clear hxs
   unfold tx at hc
   obtain ⟨xb,hxb⟩ : ∃ z : ByteArray,(⟨x.toArray⟩ : ByteArray) = z:=⟨_,rfl⟩
   rw [hxb] at hc K
   clear hxb
   obtain ⟨y,hy⟩ : ∃ y : ByteArray,(⟨(Tp.trim x).toArray⟩ : ByteArray) = y:=⟨_,rfl⟩
   have hy2 : tx (Tp.trim x) = .string y:=by unfold tx; rw [hy]
   rw [hy] at K
   rw [hy2] at HW
   clear hy hy2
   go_wp2_with fail
   refine K.out.mono ?_
   rintro e w2 ⟨rfl,hb2⟩
   have hrow2:=trRow_below HR.out hb2 HL.out
   have hc2:=(hrow2 k (by rw [HN.out]; exact hlt)).1
   have hf2:=(hrow2 k (by rw [HN.out]; exact hlt)).2
   have HR2:=Lib.hid (HW.out _ hrow2)
   have HB2:=Lib.hid ((HB.out.trans (hb2.mono HB.out.size)).setCell (p:=⟨w.heap.size,k,none⟩) (Nat.le_refl _) (.string y))
   have HL2:=Lib.hid (show w.heap.size < (w2.setCell ⟨w.heap.size,k,none⟩ (.string y)).heap.size by rw [World.size_setCell]; exact Nat.lt_of_lt_of_le HL.out hb2.size)
   clear hrow2 hb2
   clear hc
   go_wp2_with fail
   go_roundw
   case rel => exact ⟨k + 1,by omega,by go_num,HB2.out,HR2.out,HL2.out⟩
   case measure => simp [intOf]; omega
  ·have hk1 : k = n:=by omega
   have hrow:=HR.out
   rw [hk1,← HN.out] at hrow
   have F:=Lib.hid (fun c W (h : W = wr) => tok_sifted wr.heap.size (.slice (some ⟨w.heap.size,0,none⟩) n c) (P.map Tp.trim) W (by rw [h]) (by rw [h,← HN.out]; exact trRow_done hrow) (by rw [List.length_map,HN.out]; omega))
   clear hrow
   go_wp2_with fail
   refine (F.out _ _ rfl).mono ?_
   rintro e w2 ⟨r,rfl,hown,hb2⟩
   go_wp2
   go_ret
   exact ⟨r,rfl,strRow_own hown,HB.out.trans (hb2.mono HB.out.size)⟩
end Go.Proofs.YtfacmnooklljnaaGreatDoor
namespace Go.Proofs.YtfacmnooklljnaaGreatDoor
open Go.RowKit Go.Shelf
set_option maxHeartbeats 1000000
namespace Tp
def stQ (q b : Bool) (c : Int) : Bool:=if b then q else if q && c == 92 then q else if c == 34 then !q else q
def stB (q b : Bool) (c : Int) : Bool:=if b then false else q && c == 92
def stR (q b : Bool) (c : Int) : Bool:=if b then false else if q && c == 92 then false else if c == 34 then q else !q
end Tp
def RS (w : World) (B : Nat) (s : ByteArray) (q b : Bool) : Prop:=w.heap[B]? = some (.cells #[.string s,.bool q,.bool b] 232 (0,0))
theorem RS.c0 {w : World} {B : Nat} {s : ByteArray} {q b : Bool} (h : RS w B s q b) : w.cell? ⟨B,0,none⟩ = some (.string s):=by unfold RS at h; simp [World.cell?,h]
theorem RS.c1 {w : World} {B : Nat} {s : ByteArray} {q b : Bool} (h : RS w B s q b) : w.cell? ⟨B,1,none⟩ = some (.bool q):=by unfold RS at h; simp [World.cell?,h]
theorem RS.c2 {w : World} {B : Nat} {s : ByteArray} {q b : Bool} (h : RS w B s q b) : w.cell? ⟨B,2,none⟩ = some (.bool b):=by unfold RS at h; simp [World.cell?,h]
theorem RS.f {w : World} {B : Nat} {s : ByteArray} {q b : Bool} (h : RS w B s q b) (j : Nat) : w.frozen? ⟨B,j,none⟩ = false:=frozen_of_row _ _ _ _ _ h
theorem RS.set1 {w : World} {B : Nat} {s : ByteArray} {q b : Bool} (h : RS w B s q b) (x : Bool) : RS (w.setCell ⟨B,1,none⟩ (.bool x)) B s x b:=heap_setCell_same _ _ _ _ _ _ h
theorem RS.set2 {w : World} {B : Nat} {s : ByteArray} {q b : Bool} (h : RS w B s q b) (x : Bool) : RS (w.setCell ⟨B,2,none⟩ (.bool x)) B s q x:=heap_setCell_same _ _ _ _ _ _ h
theorem RS.below {w w' : World} {B : Nat} {s : ByteArray} {q b : Bool} (h : RS w B s q b) (hb : Below w.heap.size w w') (hB : B < w.heap.size) : RS w' B s q b:=(hb.block B hB).trans h
def Touch (B : Nat) (w w' : World) : Prop:=w' = w ∨ ∃ i v,w' = w.setCell ⟨B,i,none⟩ v
theorem Touch.below {B N : Nat} {w w' : World} (h : Touch B w w') (hN : N ≤ B) : Below N w w':=by
 rcases h with rfl | ⟨i,v,rfl⟩
 ·exact Below.refl _ _
 ·exact (Below.refl _ _).setCell hN _
theorem Touch.size {B : Nat} {w w' : World} (h : Touch B w w') : w'.heap.size = w.heap.size:=by
 rcases h with rfl | ⟨i,v,rfl⟩
 ·rfl
 ·simp
theorem Touch.heap {B : Nat} {w w' : World} (h : Touch B w w') (k : Nat) (hk : k ≠ B) : w'.heap[k]? = w.heap[k]?:=by
 rcases h with rfl | ⟨i,v,rfl⟩
 ·rfl
 ·exact heap_setCell_other _ _ _ _ hk
theorem tok_open (B : Nat) (s : ByteArray) (q b : Bool) (c : Int) (w : World) (h0 : 0 ≤ c) (h1 : c < 256) (h : RS w B s q b) :
  Calls Tryz.prog 204 #[.pointer (some ⟨B,0,none⟩),.int .u8 c] w fun e w' => e = .returned (.bool (Tp.stR q b c)) ∧ RS w' B s (Tp.stQ q b c) (Tp.stB q b c) ∧ Touch B w w':=by
 have HR:=Lib.hid h
 have hc1:=h.c1
 have hc2:=h.c2
 have hf1:=h.f 1
 have hf2:=h.f 2
 clear h
 cases b
 ·cases q
  ·by_cases hc : c = 34
   ·have e1 : (c == 34) = true:=beq_iff_eq.2 hc
    have e2 : (c == 92) = false:=beq_eq_false_iff_ne.2 (by omega)
    clear hc
    go_enter Tryz.func204,Tryz.ntmps204
    go_wp2
    go_ret
    exact ⟨ret_bool (by simp [Tp.stR,e1]),by simpa [Tp.stQ,Tp.stB,e1] using HR.out.set1 true,.inr ⟨_,_,rfl⟩⟩
   ·have e1 : (c == 34) = false:=beq_eq_false_iff_ne.2 hc
    clear hc
    go_enter Tryz.func204,Tryz.ntmps204
    go_wp2
    go_ret
    exact ⟨ret_bool (by simp [Tp.stR,e1]),by simpa [Tp.stQ,Tp.stB,e1] using HR.out,.inl rfl⟩
  ·by_cases hc : c = 34
   ·have e1 : (c == 34) = true:=beq_iff_eq.2 hc
    have e2 : (c == 92) = false:=beq_eq_false_iff_ne.2 (by omega)
    clear hc
    go_enter Tryz.func204,Tryz.ntmps204
    go_wp2
    go_ret
    exact ⟨ret_bool (by simp [Tp.stR,e1,e2]),by simpa [Tp.stQ,Tp.stB,e1,e2] using HR.out.set1 false,.inr ⟨_,_,rfl⟩⟩
   ·have e1 : (c == 34) = false:=beq_eq_false_iff_ne.2 hc
    clear hc
    by_cases hd : c = 92
    ·have e2 : (c == 92) = true:=beq_iff_eq.2 hd
     clear hd
     go_enter Tryz.func204,Tryz.ntmps204
     go_wp2
     go_ret
     exact ⟨ret_bool (by simp [Tp.stR,e1,e2]),by simpa [Tp.stQ,Tp.stB,e1,e2] using HR.out.set2 true,.inr ⟨_,_,rfl⟩⟩
    ·have e2 : (c == 92) = false:=beq_eq_false_iff_ne.2 hd
     clear hd
     go_enter Tryz.func204,Tryz.ntmps204
     go_wp2
     go_ret
     exact ⟨ret_bool (by simp [Tp.stR,e1,e2]),by simpa [Tp.stQ,Tp.stB,e1,e2] using HR.out,.inl rfl⟩
 ·go_enter Tryz.func204,Tryz.ntmps204
  go_wp2
  go_ret
  exact ⟨ret_bool (by simp [Tp.stR]),by simpa [Tp.stQ,Tp.stB] using HR.out.set2 false,.inr ⟨_,_,rfl⟩⟩
end Go.Proofs.YtfacmnooklljnaaGreatDoor
namespace Go.Proofs.YtfacmnooklljnaaGreatDoor
open Go.RowKit Go.Shelf
set_option maxHeartbeats 1000000
theorem itm_nil (cur : List UInt8) : Tp.itm cur [] = [Tp.trim cur].filter Tp.some?:=rfl
theorem itm_comma (cur l : List UInt8) : Tp.itm cur (44 :: l) = [Tp.trim cur].filter Tp.some? ++ Tp.itm [] l:=by
 unfold Tp.itm
 rw [Tp.parts,if_pos rfl,List.map_cons,← List.singleton_append,List.filter_append]
theorem itm_more (cur l : List UInt8) (c : UInt8) (h : c ≠ 44) : Tp.itm cur (c :: l) = Tp.itm (cur ++ [c]) l:=by
 unfold Tp.itm
 rw [Tp.parts,if_neg h]
theorem cut_snoc (l : List UInt8) (a k : Nat) (h : a ≤ k) (hk : k < l.length) : (l.drop a).take (k - a) ++ [l[k]] = (l.drop a).take (k + 1 - a):=by
 rw [show k + 1 - a = (k - a) + 1 by omega,List.take_succ_eq_append_getElem (by rw [List.length_drop]; omega),List.getElem_drop]
 congr 3
 omega
theorem drop_here (l : List UInt8) (k : Nat) (hk : k < l.length) : l.drop k = l[k] :: l.drop (k + 1):=List.drop_eq_getElem_cons hk
def ItAt (l : List UInt8) (L : List (List UInt8)) (a k : Nat) : Prop :=
 L.length ≤ k ∧ ((k ≤ l.length ∧ a ≤ k ∧ L ++ Tp.itm ((l.drop a).take (k - a)) (l.drop k) = Tp.items l) ∨ (k = l.length + 1 ∧ L = Tp.items l))
theorem itAt_start (l : List UInt8) : ItAt l [] 0 0:=⟨Nat.le_refl _,.inl ⟨Nat.zero_le _,Nat.le_refl _,rfl⟩⟩
theorem itAt_more {l : List UInt8} {L : List (List UInt8)} {a k : Nat} (h : ItAt l L a k) (hk : k < l.length) (hc : l[k] ≠ 44) : ItAt l L a (k + 1):=by
 obtain ⟨h1,h2⟩:=h
 rcases h2 with ⟨_,ha,h2⟩ | ⟨h2,_⟩
 ·refine ⟨by omega,.inl ⟨by omega,by omega,?_⟩⟩
  rw [drop_here l k hk,itm_more _ _ _ hc,cut_snoc l a k ha hk] at h2
  exact h2
 ·omega
theorem itAt_cut {l : List UInt8} {L : List (List UInt8)} {a k : Nat} (h : ItAt l L a k) (hk : k ≤ l.length) (hc : ∀ h : k < l.length,l[k] = 44) : ItAt l (L ++ [Tp.trim ((l.drop a).take (k - a))].filter Tp.some?) (k + 1) (k + 1):=by
 obtain ⟨h1,h2⟩:=h
 rcases h2 with ⟨_,ha,h2⟩ | ⟨h2,_⟩
 ·refine ⟨?_,?_⟩
  ·have:=List.length_filter_le Tp.some? [Tp.trim ((l.drop a).take (k - a))]
   rw [List.length_append]
   simp only [List.length_singleton] at this
   omega
  ·by_cases hlt : k < l.length
   ·refine .inl ⟨hlt,Nat.le_refl _,?_⟩
    rw [drop_here l k hlt,hc hlt,itm_comma] at h2
    rw [Nat.sub_self,List.take_zero,List.append_assoc]
    exact h2
   ·refine .inr ⟨by omega,?_⟩
    have : k = l.length:=by omega
    rw [this,List.drop_length,itm_nil] at h2
    rw [this]
    exact h2
 ·omega
theorem slice_mid (u : ByteArray) (w : World) (a k : Nat) (h : a ≤ k) (hk : k ≤ u.size) (hu : u.size ≤ 9223372036854775807) : (Instr.slice 9 (.string u) (some (.int .i64 (a : Int))) (some (.int .i64 (k : Int))) none).run Tryz.prog w = .ok (.string (u.extract a k)) w:=by
 have h1 : (a : Int) ≤ k:=by omega
 have h2 : (k : Int) ≤ u.size:=by omega
 simp [go_sem,Tryz.underlying9,h1,h2]
theorem index_at (u : ByteArray) (w : World) (k : Nat) (h : k < u.size) : (Instr.index 9 (.string u) (.int .i64 (k : Int))).run Tryz.prog w = .ok (.int .u8 ((u[k]).toNat : Int)) w:=by
 have hi : (0 : Int) ≤ (k : Int) ∧ (k : Int) < u.size:=by omega
 rw [run_index_string w 9 u .i64 _ Tryz.underlying9,dif_pos hi]
 simp only [Int.toNat_natCast]
set_option maxRecDepth 100000 in
theorem rtk_items (s : ByteArray) (w : World) (hs : s.size ≤ 5000) :
  Calls Tryz.prog 40 #[.string s] w fun e w' => ∃ r,e = .returned r ∧ StrRow w' r (Tp.items s.data.toList) ∧ Below w.heap.size w w':=by
 obtain ⟨i0,hi,hz0,hz1,hz2⟩:=info_parts (show (Tryz.prog.info? 9).map (fun i => (i.zero,i.size,i.bytes)) = some (some (.string ByteArray.empty),1,16) by kernel_rfl)
 obtain ⟨B,hB⟩ : ∃ B,w.heap.size = B:=⟨_,rfl⟩
 rw [hB]
 have HSL:=Lib.hid (fun a k h1 h2 W => slice_mid s W a k h1 h2 (by omega))
 have HIX:=Lib.hid (fun k h W => index_at s W k h)
 go_enter Tryz.func40,Tryz.ntmps40
 go_wp2_with fail
 go_loopw [3,4,5,6] (fun v f i _ wr => ∃ (k a : Nat) (L : List (List UInt8)),k ≤ s.size + 1 ∧ i = .int .i64 k ∧ f = .int .i64 a ∧ ItAt s.data.toList L a k ∧ wr.ownsRow B 9 1 v L.length (L.map tx) ∧ Below B w wr) (fun _ _ i _ _ => s.size + 1 - (intOf i).toNat)
 case atStart => exact ⟨0,0,[],Nat.zero_le _,rfl,rfl,itAt_start _,World.ownsRow_nil _ _ _ _,Below.refl _ _⟩
 case round =>
  obtain ⟨k,a,L,hk,rfl,rfl,hat,hown,hb⟩:=hrel
  have HA:=Lib.hid hat
  have HO:=Lib.hid hown
  have HB:=Lib.hid hb
  clear hat hown hb
  by_cases hlt : k < s.size
  ·have hix:=HIX.out k hlt
   have hcl : s.data.toList[k]'(by simpa using hlt) = s[k]:=rfl
   obtain ⟨x,hx⟩ : ∃ x : Int,((s[k]).toNat : Int) = x:=⟨_,rfl⟩
   rw [hx] at hix
   have HX:=Lib.hid hx
   clear hx
   by_cases hc : x = 44
   ·have hc1 : (x == 44) = true:=beq_iff_eq.2 hc
    have HM:=Lib.hid (itAt_cut HA.out (by simp; omega) (fun hh => UInt8.toNat_inj.1 (by have:=HX.out; rw [hc] at this; show (s[k]).toNat = 44; omega)))
    clear hc hcl
    have ha : a ≤ k:=by rcases HA.out.2 with ⟨_,h,_⟩ | ⟨h,_⟩; exact h; simp at h; omega
    have hsl:=HSL.out a k ha (by omega)
    obtain ⟨z,hz⟩ : ∃ z,s.extract a k = z:=⟨_,rfl⟩
    have hzl : z.size ≤ 9223372036854775807:=by rw [← hz,ByteArray.size_extract]; omega
    have hzd : (s.data.toList.drop a).take (k - a) = z.data.toList:=by rw [← hz,Lib.extract_data]
    rw [hzd] at HM
    rw [hz] at hsl
    have K:=Lib.hid (rtk_trim z wr hzl)
    clear hzd hzl hz
    obtain ⟨y,hy⟩ : ∃ y,Tp.trim z.data.toList = y:=⟨_,rfl⟩
    rw [hy] at HM K
    clear hy
    go_wp2_with (first | simp only [hix] | simp only [hsl])
    refine K.out.mono ?_
    rintro e w' ⟨rfl,rfl⟩
    obtain ⟨yb,hyb⟩ : ∃ z : ByteArray,(⟨y.toArray⟩ : ByteArray) = z:=⟨_,rfl⟩
    rw [hyb]
    have HTY:=Lib.hid (show tx y = .string yb by unfold tx; rw [hyb])
    obtain ⟨d,hd⟩ : ∃ d,y.isEmpty = d:=⟨_,rfl⟩
    have hq : yb.toList.isEmpty = d:=by rw [← hyb,ByteArray.toList_eq]; exact hd
    have hso : Tp.some? y = !d:=by unfold Tp.some?; rw [hd]
    clear hyb hd
    cases d
    ·rw [show [y].filter Tp.some? = [y] by simp [hso]] at HM
     clear hso
     go_wp2_with (first
      | (at_builtin; refine wpList_append_own _ rfl _ _ 33 rfl B 9 i0 (.string ByteArray.empty) 1 16 Tryz.underlying33 hi hz0 hz1 hz2 rfl (by decide) _ _ _ rfl (HO.out.alloc _) ⟨wr.heap.size,0,none⟩ 1 1 [.string yb] rfl rfl ?c1 ?c2 ?c3 ?c4 ?c5 ?_)
      | go_in)
     case c1 =>
      intro j u hj
      match j,hj with
      | 0,hj => simp at hj; subst hj; simp [Addr.add]
     case c2 => intro u hu; simp at hu; subst hu; rfl
     case c3 => have:=HA.out.1; unfold maxLen; omega
     case c4 => have:=HA.out.1; omega
     case c5 => have:=HB.out.size; simp; omega
     intro v' w1 hown' hgrow _
     have hb1 : Below B w w1:=Below.grown (HB.out.alloc (by have:=HB.out.size; omega) _) hgrow (by have:=HB.out.size; simp; omega) (own_ge HO.out)
     have HB1:=Lib.hid hb1
     have ho : w1.ownsRow B 9 1 v' (L ++ [y]).length ((L ++ [y]).map tx):=by
      rw [List.map_append,List.length_append]
      show w1.ownsRow B 9 1 v' _ (_ ++ [tx y])
      rw [HTY.out]
      exact hown'
     have HO1:=Lib.hid ho
     clear ho hb1 hgrow hown'
     go_wp2
     go_roundw
     case rel => exact ⟨k + 1,k + 1,L ++ [y],by omega,by go_num,by go_num,HM.out,HO1.out,HB1.out⟩
     case measure => simp [intOf]; omega
    ·rw [show [y].filter Tp.some? = [] by simp [hso],List.append_nil] at HM
     clear hso
     go_wp2
     go_roundw
     case rel => exact ⟨k + 1,k + 1,L,by omega,by go_num,by go_num,HM.out,HO.out,HB.out⟩
     case measure => simp [intOf]; omega
   ·have hc1 : (x == 44) = false:=beq_eq_false_iff_ne.2 hc
    have HM:=Lib.hid (itAt_more HA.out (by simpa using hlt) (by intro e; apply hc; rw [← HX.out,← hcl,e]; rfl))
    clear hc hcl
    go_wp2_with (simp only [hix])
    go_roundw
    case rel => exact ⟨k + 1,a,L,by omega,by go_num,rfl,HM.out,HO.out,HB.out⟩
    case measure => simp [intOf]; omega
  ·by_cases hlt2 : k = s.size
   ·have HM:=Lib.hid (itAt_cut HA.out (by simp; omega) (fun hh => absurd (show k < s.size by simpa using hh) hlt))
    have ha : a ≤ k:=by rcases HA.out.2 with ⟨_,h,_⟩ | ⟨h,_⟩; exact h; simp at h; omega
    have hsl:=HSL.out a k ha (by omega)
    obtain ⟨z,hz⟩ : ∃ z,s.extract a k = z:=⟨_,rfl⟩
    have hzl : z.size ≤ 9223372036854775807:=by rw [← hz,ByteArray.size_extract]; omega
    have hzd : (s.data.toList.drop a).take (k - a) = z.data.toList:=by rw [← hz,Lib.extract_data]
    rw [hzd] at HM
    rw [hz] at hsl
    have K:=Lib.hid (rtk_trim z wr hzl)
    clear hzd hzl hz
    obtain ⟨y,hy⟩ : ∃ y,Tp.trim z.data.toList = y:=⟨_,rfl⟩
    rw [hy] at HM K
    clear hy
    have hle : k ≤ s.size:=by omega
    clear hlt2
    go_wp2_with (simp only [hsl])
    refine K.out.mono ?_
    rintro e w' ⟨rfl,rfl⟩
    obtain ⟨yb,hyb⟩ : ∃ z : ByteArray,(⟨y.toArray⟩ : ByteArray) = z:=⟨_,rfl⟩
    rw [hyb]
    have HTY:=Lib.hid (show tx y = .string yb by unfold tx; rw [hyb])
    obtain ⟨d,hd⟩ : ∃ d,y.isEmpty = d:=⟨_,rfl⟩
    have hq : yb.toList.isEmpty = d:=by rw [← hyb,ByteArray.toList_eq]; exact hd
    have hso : Tp.some? y = !d:=by unfold Tp.some?; rw [hd]
    clear hyb hd
    cases d
    ·rw [show [y].filter Tp.some? = [y] by simp [hso]] at HM
     clear hso
     go_wp2_with (first
      | (at_builtin; refine wpList_append_own _ rfl _ _ 33 rfl B 9 i0 (.string ByteArray.empty) 1 16 Tryz.underlying33 hi hz0 hz1 hz2 rfl (by decide) _ _ _ rfl (HO.out.alloc _) ⟨wr.heap.size,0,none⟩ 1 1 [.string yb] rfl rfl ?c1 ?c2 ?c3 ?c4 ?c5 ?_)
      | go_in)
     case c1 =>
      intro j u hj
      match j,hj with
      | 0,hj => simp at hj; subst hj; simp [Addr.add]
     case c2 => intro u hu; simp at hu; subst hu; rfl
     case c3 => have:=HA.out.1; unfold maxLen; omega
     case c4 => have:=HA.out.1; omega
     case c5 => have:=HB.out.size; simp; omega
     intro v' w1 hown' hgrow _
     have hb1 : Below B w w1:=Below.grown (HB.out.alloc (by have:=HB.out.size; omega) _) hgrow (by have:=HB.out.size; simp; omega) (own_ge HO.out)
     have HB1:=Lib.hid hb1
     have ho : w1.ownsRow B 9 1 v' (L ++ [y]).length ((L ++ [y]).map tx):=by
      rw [List.map_append,List.length_append]
      show w1.ownsRow B 9 1 v' _ (_ ++ [tx y])
      rw [HTY.out]
      exact hown'
     have HO1:=Lib.hid ho
     clear ho hb1 hgrow hown'
     go_wp2
     go_roundw
     case rel => exact ⟨k + 1,k + 1,L ++ [y],by omega,by go_num,by go_num,HM.out,HO1.out,HB1.out⟩
     case measure => simp [intOf]; omega
    ·rw [show [y].filter Tp.some? = [] by simp [hso],List.append_nil] at HM
     clear hso
     go_wp2
     go_roundw
     case rel => exact ⟨k + 1,k + 1,L,by omega,by go_num,by go_num,HM.out,HO.out,HB.out⟩
     case measure => simp [intOf]; omega
   ·have hk2 : k = s.size + 1:=by omega
    have hL : L = Tp.items s.data.toList:=by
     rcases HA.out.2 with ⟨h,_⟩ | ⟨_,h⟩
     ·simp at h; omega
     ·exact h
    have hle : ¬ k ≤ s.size:=by omega
    have HL:=Lib.hid hL
    clear hk2 hlt2 hL
    go_wp2
    go_ret
    exact ⟨_,rfl,strRow_own (by rw [← HL.out]; exact HO.out),HB.out⟩
end Go.Proofs.YtfacmnooklljnaaGreatDoor
namespace Go.Proofs.YtfacmnooklljnaaGreatDoor
open Go.RowKit Go.Shelf Go.Sort
set_option maxHeartbeats 1000000
namespace Tp
def cutAt (by_ : Int) : Bool → Bool → List UInt8 → Option Nat
 | _,_,[] => none
 | q,b,c :: l => if !q && ((c.toNat : Int) == by_) then some 0 else (cutAt by_ (stQ q b c.toNat) (stB q b c.toNat) l).map (· + 1)
def cut (l : List UInt8) (by_ : Int) : List UInt8 × List UInt8 × Bool :=
 match cutAt by_ false false l with
 | some k => (trim (l.take k),trim (l.drop (k + 1)),true)
 | none => (trim l,[],false)
def CutSt (l : List UInt8) (by_ : Int) (q b : Bool) (k : Nat) : Prop:=cutAt by_ false false l = (cutAt by_ q b (l.drop k)).map (· + k)
theorem cutSt_start (l : List UInt8) (by_ : Int) : CutSt l by_ false false 0:=by
 unfold CutSt
 rw [List.drop_zero]
 cases cutAt by_ false false l <;> rfl
theorem cutSt_next {l : List UInt8} {by_ : Int} {q b : Bool} {k : Nat} (h : CutSt l by_ q b k) (hk : k < l.length) (hn : (!q && ((l[k].toNat : Int) == by_)) = false) : CutSt l by_ (stQ q b l[k].toNat) (stB q b l[k].toNat) (k + 1):=by
 unfold CutSt at *
 rw [h,List.drop_eq_getElem_cons hk,cutAt,hn]
 cases cutAt by_ (stQ q b l[k].toNat) (stB q b l[k].toNat) (l.drop (k + 1)) with
 | none => rfl
 | some x => simp; omega
theorem cutSt_hit {l : List UInt8} {by_ : Int} {q b : Bool} {k : Nat} (h : CutSt l by_ q b k) (hk : k < l.length) (hn : (!q && ((l[k].toNat : Int) == by_)) = true) : cut l by_ = (trim (l.take k),trim (l.drop (k + 1)),true):=by
 unfold CutSt at h
 rw [List.drop_eq_getElem_cons hk,cutAt,hn] at h
 unfold cut
 rw [h]
 simp
theorem cutSt_end {l : List UInt8} {by_ : Int} {q b : Bool} {k : Nat} (h : CutSt l by_ q b k) (hk : k = l.length) : cut l by_ = (trim l,[],false):=by
 unfold CutSt at h
 rw [hk,List.drop_length] at h
 unfold cut
 rw [h]
 rfl
end Tp
theorem slice_to (u : ByteArray) (w : World) (k : Nat) (hk : k ≤ u.size) (hu : u.size ≤ 9223372036854775807) : (Instr.slice 9 (.string u) none (some (.int .i64 (k : Int))) none).run Tryz.prog w = .ok (.string (u.extract 0 k)) w:=by
 have h2 : (k : Int) ≤ u.size:=by omega
 simp [go_sem,Tryz.underlying9,h2]
theorem slice_from (u : ByteArray) (w : World) (k : Nat) (hk : k < u.size) (hu : u.size ≤ 9223372036854775807) : (Instr.slice 9 (.string u) (some (.int .i64 ((k : Int) + 1))) none none).run Tryz.prog w = .ok (.string (u.extract (k + 1) u.size)) w:=by
 have h2 : (k : Int) + 1 ≤ u.size:=by omega
 have h3 : (0 : Int) ≤ (k : Int) + 1:=by omega
 have h4 : ((k : Int) + 1).toNat = k + 1:=by omega
 simp [go_sem,Tryz.underlying9,h2,h3,h4]
set_option maxRecDepth 100000 in
theorem tok_cut (s : ByteArray) (by_ : Int) (w : World) (h0 : 0 ≤ by_) (h1 : by_ < 256) (hs : s.size ≤ 1000000) :
  Calls Tryz.prog 201 #[.string s,.int .u8 by_] w fun e w' =>
   e = .returned (.tuple #[tx (Tp.cut s.data.toList by_).1,tx (Tp.cut s.data.toList by_).2.1,.bool (Tp.cut s.data.toList by_).2.2]) ∧ Below w.heap.size w w':=by
 have HIX:=Lib.hid (fun k h W => index_at s W k h)
 go_enter Tryz.func201,Tryz.ntmps201
 go_wp2_with fail
 have hbl : Below w.heap.size w (w.alloc (.cells #[.string s,.bool false,.bool false] 232)):=(Below.refl _ _).alloc (Nat.le_refl _) _
 have HB0:=Lib.hid hbl
 clear hbl
 go_loopw [8,9,20] (fun _ _ i wr => ∃ (k : Nat) (q b : Bool),k ≤ s.size ∧ i = .int .i64 k ∧ Tp.CutSt s.data.toList by_ q b k ∧ RS wr w.heap.size s q b ∧ Below w.heap.size w wr ∧ w.heap.size < wr.heap.size) (fun _ _ i _ => s.size - (intOf i).toNat)
 case atStart => exact ⟨0,false,false,Nat.zero_le _,rfl,Tp.cutSt_start _ _,by simp [RS,World.alloc,-World.alloc_eq],HB0.out,by simp⟩
 case round =>
  clear HB0
  obtain ⟨k,q,b,hk,rfl,hst,hrs,hb,hlen⟩:=hrel
  have HS:=Lib.hid hst
  have HR:=Lib.hid hrs
  have HB:=Lib.hid hb
  have HL:=Lib.hid hlen
  clear hst hrs hb hlen
  by_cases hlt : k < s.size
  ·have hix:=HIX.out k hlt
   have hc1:=HR.out.c1
   have hr1 : (0 : Int) ≤ ((s[k]).toNat : Int):=by omega
   have hr2 : ((s[k]).toNat : Int) < 256:=by have:=(s[k]).toNat_lt; omega
   have hkl : k < s.data.toList.length:=by simpa using hlt
   have HN:=Lib.hid (Tp.cutSt_next HS.out hkl)
   have HH:=Lib.hid (Tp.cutSt_hit HS.out hkl)
   rw [show s.data.toList[k] = s[k] from rfl] at HN HH
   obtain ⟨x,hx⟩ : ∃ x : Int,((s[k]).toNat : Int) = x:=⟨_,rfl⟩
   rw [hx] at hix hr1 hr2 HN HH
   have K:=Lib.hid (tok_open w.heap.size s q b x wr hr1 hr2 HR.out)
   clear hx hkl hr1 hr2
   go_wp2_with (simp only [hix])
   refine K.out.mono ?_
   rintro e w2 ⟨rfl,hrs2,htc⟩
   obtain ⟨r,hr⟩ : ∃ r,Tp.stR q b x = r:=⟨_,rfl⟩
   rw [hr]
   clear hr hc1
   have HR2:=Lib.hid hrs2
   have HB2:=Lib.hid (HB.out.trans (htc.below (Nat.le_refl _)))
   have HL2:=Lib.hid (show w.heap.size < w2.heap.size by rw [htc.size]; exact HL.out)
   clear hrs2 htc K
   cases q
   ·by_cases hxb : x = by_
    ·have e1 : (x == by_) = true:=beq_iff_eq.2 hxb
     have HC:=Lib.hid (HH.out (by rw [e1]; rfl))
     clear HN HH HR HB HL hxb HS
     have hsl1:=fun W => slice_to s W k (by omega) (by omega)
     have hsl2:=fun W => slice_from s W k hlt (by omega)
     have hz1 : (s.extract 0 k).size ≤ 9223372036854775807:=by rw [ByteArray.size_extract]; omega
     have hz2 : (s.extract (k + 1) s.size).size ≤ 9223372036854775807:=by rw [ByteArray.size_extract]; omega
     have hd1 : (s.extract 0 k).data.toList = s.data.toList.take k:=Lib.extract_from_zero s k
     have hd2 : (s.extract (k + 1) s.size).data.toList = s.data.toList.drop (k + 1):=Lib.extract_to_end s (k + 1)
     have c1:=fun d os => Calls.regrown_of (tok_trim (s.extract 0 k) (grow (redrawn w2 d) os) hz1)
     have c2:=fun d os => Calls.regrown_of (tok_trim (s.extract (k + 1) s.size) (grow (redrawn w2 d) os) hz2)
     rw [hd1] at c1
     rw [hd2] at c2
     clear hz1 hz2 hd1 hd2
     obtain ⟨z1,hz1⟩ : ∃ z,s.extract 0 k = z:=⟨_,rfl⟩
     obtain ⟨z2,hz2⟩ : ∃ z,s.extract (k + 1) s.size = z:=⟨_,rfl⟩
     rw [hz1] at hsl1 c1
     rw [hz2] at hsl2 c2
     clear hz1 hz2
     have C1:=Lib.hid c1
     have C2:=Lib.hid c2
     clear c1 c2
     have hw : IntKind.i64.wrap ((k : Int) + 1) = (k : Int) + 1:=IntWalk.i64_in _ (by omega)
     have hk1 : (0 : Int) ≤ (k : Int) + 1:=by omega
     go_wp2_with (simp only [hix])
     refine wp_region_quiet_below (by kernel_rfl) (by kernel_rfl) ?_
     repeat (quiet_step (first | exact C1.out _ _ | exact C2.out _ _))
     refine wpQuiet_nil ?_
     intro _ hw'
     obtain ⟨⟨dq,osq⟩,hw''⟩:=hw'
     subst hw''
     go_wp2
     refine bodyPost_ret (v:=.tuple #[.string ⟨(Tp.trim (s.data.toList.take k)).toArray⟩,.string ⟨(Tp.trim (s.data.toList.drop (k + 1))).toArray⟩,.bool true]) (by simp [results,Tryz.results201,go_sem]) rfl ⟨?_,?_⟩
     ·rw [HC.out]
      rfl
     ·exact HB2.out.trans ((below_regrown _ _ _).mono HB2.out.size)
    ·have e1 : (x == by_) = false:=beq_eq_false_iff_ne.2 hxb
     have HN2:=Lib.hid (HN.out (by rw [e1]; rfl))
     clear HN HH hxb
     go_wp2_with (simp only [hix])
     go_roundw
     case rel => exact ⟨k + 1,_,_,by omega,by go_num,HN2.out,HR2.out,HB2.out,HL2.out⟩
     case measure => simp [intOf]; omega
   ·have HN2:=Lib.hid (HN.out rfl)
    clear HN HH
    go_wp2_with (simp only [hix])
    go_roundw
    case rel => exact ⟨k + 1,_,_,by omega,by go_num,HN2.out,HR2.out,HB2.out,HL2.out⟩
    case measure => simp [intOf]; omega
  ·have hks : k = s.size:=by omega
   have HE:=Lib.hid (Tp.cutSt_end HS.out (by rw [hks]; rfl))
   have hks2 : ¬ k < s.size:=hlt
   clear hks
   have T:=Lib.hid (tok_trim s wr (by omega))
   go_wp2_with fail
   refine T.out.mono ?_
   rintro e w2 ⟨rfl,hb2⟩
   go_wp2
   refine bodyPost_ret (v:=.tuple #[.string ⟨(Tp.trim s.data.toList).toArray⟩,.string ⟨#[]⟩,.bool false]) (by simp [results,Tryz.results201,go_sem]) rfl ⟨?_,HB.out.trans (hb2.mono HB.out.size)⟩
   rw [HE.out]
   rfl
end Go.Proofs.YtfacmnooklljnaaGreatDoor
namespace Go.Proofs.YtfacmnooklljnaaGreatDoor
namespace Tp
def qr : List UInt8 → List UInt8 → Option (List UInt8)
 | _,[] => none
 | acc,[c] => if c = 34 then some acc else none
 | acc,c :: d :: l => if c = 34 then none else if c = 92 then (if valB d.toNat then qr (acc ++ [d]) l else none) else if valB c.toNat then qr (acc ++ [c]) (d :: l) else none
def quoted : List UInt8 → Option (List UInt8)
 | [] => none
 | c :: l => if c = 34 then qr [] l else none
def pq : Bool → List UInt8 → List UInt8 → Option (List UInt8)
 | _,_,[] => none
 | b,acc,c :: l => if b then pq false (acc ++ [c]) l else if c = 34 then (if l.isEmpty then some acc else none) else if c = 92 then pq true acc l else pq false (acc ++ [c]) l
theorem pq_nil (b : Bool) (acc : List UInt8) : pq b acc [] = none:=by unfold pq; rfl
theorem pq_b (acc : List UInt8) (c : UInt8) (l : List UInt8) : pq true acc (c :: l) = pq false (acc ++ [c]) l:=by rw [pq,if_pos rfl]
theorem pq_quote (acc l : List UInt8) : pq false acc (34 :: l) = if l.isEmpty then some acc else none:=by rw [pq,if_neg (by decide),if_pos rfl]
theorem pq_back (acc l : List UInt8) : pq false acc (92 :: l) = pq true acc l:=by rw [pq,if_neg (by decide),if_neg (by decide),if_pos rfl]
theorem pq_more (acc : List UInt8) (c : UInt8) (l : List UInt8) (h : c ≠ 34) (h2 : c ≠ 92) : pq false acc (c :: l) = pq false (acc ++ [c]) l:=by rw [pq,if_neg (by decide),if_neg h,if_neg h2]
theorem quoted_cons (c : UInt8) (l : List UInt8) : quoted (c :: l) = if c = 34 then qr [] l else none:=rfl
theorem allT_cons (f : Int → Bool) (c : UInt8) (l : List UInt8) : allT f (c :: l) = (f c.toNat && allT f l):=rfl
theorem valB_quote : valB ((34 : UInt8).toNat : Int) = true:=by decide
theorem valB_back : valB ((92 : UInt8).toNat : Int) = true:=by decide
theorem qr_is : ∀ (n : Nat) (l acc : List UInt8),l.length ≤ n → qr acc l = if allT valB l then pq false acc l else none
 | _,[],acc,_ => by unfold qr pq; split <;> rfl
 | n,[c],acc,_ => by
  unfold qr
  by_cases h : c = 34
  ·subst h; rfl
  ·rw [if_neg h]
   by_cases h2 : c = 92
   ·subst h2; rfl
   ·rw [pq_more _ _ _ h h2,pq_nil]
    split <;> rfl
 | 0,c :: d :: l,acc,hn => by simp at hn
 | n + 1,c :: d :: l,acc,hn => by
  unfold qr
  by_cases h : c = 34
  ·subst h
   rw [if_pos rfl,pq_quote]
   simp
  ·rw [if_neg h]
   by_cases h2 : c = 92
   ·subst h2
    rw [if_pos rfl,qr_is n l (acc ++ [d]) (by simp only [List.length_cons] at hn; omega),allT_cons,allT_cons,valB_back,Bool.true_and]
    rw [pq_back,pq_b]
    by_cases hv : valB (d.toNat : Int) = true
    ·rw [if_pos hv,hv,Bool.true_and]
    ·have hv' : valB (d.toNat : Int) = false:=by simpa using hv
     rw [if_neg hv,hv',Bool.false_and]; rfl
   ·rw [if_neg h2,qr_is n (d :: l) (acc ++ [c]) (by simp only [List.length_cons] at hn ⊢; omega),allT_cons valB c]
    rw [pq_more _ _ _ h h2]
    by_cases hv : valB (c.toNat : Int) = true
    ·rw [if_pos hv,hv,Bool.true_and]
    ·have hv' : valB (c.toNat : Int) = false:=by simpa using hv
     rw [if_neg hv,hv',Bool.false_and]; rfl
theorem quoted_none {l : List UInt8} (h : ∀ c t,l = c :: t → c ≠ 34) : quoted l = none:=by
 cases l with
 | nil => rfl
 | cons c t => rw [quoted_cons,if_neg (h c t rfl)]
theorem quoted_some {t : List UInt8} (h : allT valB (34 :: t) = true) : quoted (34 :: t) = pq false [] t:=by
 rw [allT_cons,valB_quote,Bool.true_and] at h
 rw [quoted_cons,if_pos rfl,qr_is t.length t [] (Nat.le_refl _),if_pos h]
theorem quoted_bad {l : List UInt8} (h : allT valB l = false) : quoted l = none:=by
 cases l with
 | nil => rfl
 | cons c t =>
  rw [quoted_cons]
  by_cases hc : c = 34
  ·subst hc
   rw [allT_cons,valB_quote,Bool.true_and] at h
   rw [if_pos rfl,qr_is t.length t [] (Nat.le_refl _),h]
   rfl
  ·rw [if_neg hc]
def quotedS (l : List UInt8) : List UInt8:=(quoted l).getD []
def quotedE (l : List UInt8) : Int:=if (quoted l).isSome then 0 else 110
end Tp
end Go.Proofs.YtfacmnooklljnaaGreatDoor
namespace Go.Proofs.YtfacmnooklljnaaGreatDoor
namespace Ap
def cutB (c : UInt8) : List UInt8 → List UInt8 × List UInt8 × Bool
 | [] => ([],[],false)
 | x :: l => if x = c then ([],l,true) else (x :: (cutB c l).1,(cutB c l).2)
theorem cutB_cons (c x : UInt8) (l : List UInt8) : cutB c (x :: l) = if x = c then ([],l,true) else (x :: (cutB c l).1,(cutB c l).2):=rfl
theorem cutB_len (c : UInt8) : ∀ l : List UInt8,(cutB c l).1.length + (cutB c l).2.1.length ≤ l.length
 | [] => Nat.le_refl _
 | x :: l => by
  have h:=cutB_len c l
  rw [cutB_cons]
  by_cases hx : x = c
  ·rw [if_pos hx]; simp
  ·rw [if_neg hx]; simp only [List.length_cons]; omega
def allN : Nat → List UInt8 → Int → List (List UInt8)
 | 0,_,_ => []
 | n + 1,l,b => (Tp.cut l b).1 :: (if (Tp.cut l b).2.2 = true then allN n (Tp.cut l b).2.1 b else [])
def all (l : List UInt8) (b : Int) : List (List UInt8):=allN (l.length + 1) l b
theorem trim_le (l : List UInt8) : (Tp.trim l).length ≤ l.length:=by
 unfold Tp.trim Tp.trimR Tp.trimL
 rw [List.length_reverse]
 refine Nat.le_trans (List.dropWhile_sublist _).length_le ?_
 rw [List.length_reverse]
 exact (List.dropWhile_sublist _).length_le
theorem cut_lt {l : List UInt8} {b : Int} (h : (Tp.cut l b).2.2 = true) : (Tp.cut l b).2.1.length < l.length:=by
 unfold Tp.cut at h ⊢
 cases hk : Tp.cutAt b false false l with
 | none => rw [hk] at h; cases h
 | some k =>
  simp only
  have hlt : ∀ (l : List UInt8) (q z : Bool) (k : Nat),Tp.cutAt b q z l = some k → k < l.length:=by
   intro l
   induction l with
   | nil => intro q z k h; simp [Tp.cutAt] at h
   | cons c l ih =>
    intro q z k h
    rw [Tp.cutAt] at h
    split at h
    ·cases h; simp
    ·cases hc : Tp.cutAt b (Tp.stQ q z c.toNat) (Tp.stB q z c.toNat) l with
     | none => rw [hc] at h; cases h
     | some j =>
      rw [hc] at h
      cases h
      have:=ih _ _ _ hc
      simp; omega
  have h2:=hlt l false false k hk
  refine Nat.lt_of_le_of_lt (trim_le _) ?_
  rw [List.length_drop]; omega
theorem cut_fst_le (l : List UInt8) (b : Int) : (Tp.cut l b).1.length ≤ l.length:=by
 unfold Tp.cut
 split
 ·refine Nat.le_trans (trim_le _) ?_
  rw [List.length_take]; omega
 ·exact trim_le _
theorem allN_more : ∀ (n m : Nat) (l : List UInt8) (b : Int),l.length < n → l.length < m → allN n l b = allN m l b
 | 0,_,_,_,h,_ => absurd h (by omega)
 | _,0,_,_,_,h => absurd h (by omega)
 | n + 1,m + 1,l,b,h1,h2 => by
  unfold allN
  by_cases hf : (Tp.cut l b).2.2 = true
  ·have h3:=cut_lt hf
   rw [if_pos hf,if_pos hf,allN_more n m _ b (by omega) (by omega)]
  ·rw [if_neg hf,if_neg hf]
theorem all_eq (l : List UInt8) (b : Int) : all l b = (Tp.cut l b).1 :: (if (Tp.cut l b).2.2 = true then all (Tp.cut l b).2.1 b else []):=by
 unfold all
 conv => lhs; unfold allN
 by_cases hf : (Tp.cut l b).2.2 = true
 ·have h3:=cut_lt hf
  rw [if_pos hf,if_pos hf,allN_more _ ((Tp.cut l b).2.1.length + 1) _ b (by omega) (by omega)]
 ·rw [if_neg hf,if_neg hf]
theorem all_len_pos (l : List UInt8) (b : Int) : 0 < (all l b).length:=by rw [all_eq]; simp
theorem allN_len : ∀ (n : Nat) (l : List UInt8) (b : Int),(allN n l b).length ≤ l.length + 1
 | 0,_,_ => by simp [allN]
 | n + 1,l,b => by
  unfold allN
  by_cases hf : (Tp.cut l b).2.2 = true
  ·have h3:=cut_lt hf
   have h4:=allN_len n (Tp.cut l b).2.1 b
   rw [if_pos hf,List.length_cons]; omega
  ·rw [if_neg hf]; simp
theorem all_len (l : List UInt8) (b : Int) : (all l b).length ≤ l.length + 1:=allN_len _ _ _
theorem allN_mem : ∀ (n : Nat) (l : List UInt8) (b : Int),∀ p ∈ allN n l b,p.length ≤ l.length
 | 0,_,_,p,hp => by simp [allN] at hp
 | n + 1,l,b,p,hp => by
  unfold allN at hp
  rcases List.mem_cons.1 hp with rfl | hp
  ·exact cut_fst_le l b
  ·by_cases hf : (Tp.cut l b).2.2 = true
   ·rw [if_pos hf] at hp
    have:=allN_mem n _ b p hp
    have:=cut_lt hf
    omega
   ·rw [if_neg hf] at hp; cases hp
theorem all_mem {l : List UInt8} {b : Int} {p : List UInt8} (h : p ∈ all l b) : p.length ≤ l.length:=allN_mem _ _ _ p h
def restA : Nat → List UInt8 → Int → List UInt8
 | 0,l,_ => l
 | k + 1,l,b => restA k (Tp.cut l b).2.1 b
theorem restA_succ : ∀ (k : Nat) (l : List UInt8) (b : Int),restA (k + 1) l b = (Tp.cut (restA k l b) b).2.1
 | 0,_,_ => rfl
 | k + 1,l,b => by
  show restA (k + 1) (Tp.cut l b).2.1 b = (Tp.cut (restA k (Tp.cut l b).2.1 b) b).2.1
  exact restA_succ k _ b
theorem all_at : ∀ (k : Nat) (l : List UInt8) (b : Int),k < (all l b).length → (all l b).getD k [] = (Tp.cut (restA k l b) b).1 ∧ ((Tp.cut (restA k l b) b).2.2 = true ↔ k + 1 < (all l b).length) ∧ (restA k l b).length ≤ l.length
 | 0,l,b,_ => by
  rw [all_eq]
  refine ⟨rfl,?_,Nat.le_refl _⟩
  show (Tp.cut l b).2.2 = true ↔ _
  by_cases hf : (Tp.cut l b).2.2 = true
  ·rw [if_pos hf]
   have:=all_len_pos (Tp.cut l b).2.1 b
   simp only [hf,List.length_cons,true_iff]; omega
  ·rw [if_neg hf]; simp [hf]
 | k + 1,l,b,h => by
  rw [all_eq] at h ⊢
  by_cases hf : (Tp.cut l b).2.2 = true
  ·rw [if_pos hf] at h ⊢
   obtain ⟨h1,h2,h3⟩:=all_at k (Tp.cut l b).2.1 b (by simpa using h)
   have:=cut_lt hf
   refine ⟨by show ((Tp.cut l b).1 :: all (Tp.cut l b).2.1 b).getD (k + 1) [] = (Tp.cut (restA k (Tp.cut l b).2.1 b) b).1; simpa using h1,?_,by show (restA k (Tp.cut l b).2.1 b).length ≤ _; omega⟩
   show (Tp.cut (restA k (Tp.cut l b).2.1 b) b).2.2 = true ↔ _
   rw [h2,List.length_cons]; omega
  ·rw [if_neg hf] at h; simp at h
abbrev Ra:=List UInt8 × List UInt8 × Nat × Int
def fig (c : UInt8) : Bool:=decide (48 ≤ (c.toNat : Int) ∧ (c.toNat : Int) ≤ 57)
def num (l : List UInt8) : Int:=l.foldl (fun n c => 10 * n + ((c.toNat : Int) - 48)) 0
def thou (s : List UInt8) : Option Int :=
 if ((cutB 46 s).1 = [48] ∨ (cutB 46 s).1 = [49]) ∧ (cutB 46 s).2.1.length ≤ 3 ∧ ((cutB 46 s).2.1 ++ ([48,48,48] : List UInt8).drop (cutB 46 s).2.1.length).all fig = true then
  (if (cutB 46 s).1 = [49] then (if num ((cutB 46 s).2.1 ++ ([48,48,48] : List UInt8).drop (cutB 46 s).2.1.length) = 0 then some 1000 else none) else some (num ((cutB 46 s).2.1 ++ ([48,48,48] : List UInt8).drop (cutB 46 s).2.1.length)))
 else none
def par (s : List UInt8) : Option (List UInt8 × List UInt8) :=
 if Tp.isTok (Tp.lower (Tp.trim (cutB 61 s).1)) = true then
  (if (cutB 61 s).2.2 = true ∧ Tp.isTok (Tp.trim (cutB 61 s).2.1) = false then (Tp.quoted (Tp.trim (cutB 61 s).2.1)).map fun v => (Tp.lower (Tp.trim (cutB 61 s).1),v)
   else some (Tp.lower (Tp.trim (cutB 61 s).1),Tp.trim (cutB 61 s).2.1))
 else none
def take1 (st : Nat × Int × Bool) (s : List UInt8) : Option (Nat × Int × Bool) :=
 if s = [] then some st else
 (par s).bind fun nv => if st.2.2 = true then some st else if nv.1 = [113] then (thou nv.2).map fun q => (st.1,q,true) else some (st.1 + 1,st.2.1,false)
def takes : List (List UInt8) → Nat × Int × Bool → Option (Nat × Int × Bool)
 | [],st => some st
 | s :: l,st => (take1 st s).bind (takes l)
def one (s : List UInt8) : Option Ra :=
 if (cutB 47 (Tp.lower ((all s 59).getD 0 []))).2.2 = true ∧ Tp.isTok (cutB 47 (Tp.lower ((all s 59).getD 0 []))).1 = true ∧ Tp.isTok (cutB 47 (Tp.lower ((all s 59).getD 0 []))).2.1 = true ∧
   ((cutB 47 (Tp.lower ((all s 59).getD 0 []))).1 = [42] → (cutB 47 (Tp.lower ((all s 59).getD 0 []))).2.1 = [42]) then
  (takes ((all s 59).drop 1) (0,1000,false)).map fun st => ((cutB 47 (Tp.lower ((all s 59).getD 0 []))).1,(cutB 47 (Tp.lower ((all s 59).getD 0 []))).2.1,st.1,st.2.1)
 else none
def rd : List (List UInt8) → List Ra → Option (List Ra)
 | [],acc => some acc
 | p :: l,acc => if p = [] then rd l acc else (one p).bind fun r => rd l (acc ++ [r])
def parse (s : List UInt8) : Option (List Ra):=if Tp.isVal s = true then rd (all s 44) [] else none
def fits (r : Ra) (k u : List UInt8) : Int :=
 if 0 < r.2.2.1 then 0 else if r.1 = [42] ∧ r.2.1 = [42] then 1 else if r.1 = k ∧ r.2.1 = [42] then 2 else if r.1 = k ∧ r.2.1 = u then 3 else 0
def best1 (f : Ra → Int) (st : Option Ra × Int) (r : Ra) : Option Ra × Int:=if st.2 < f r then (some r,f r) else st
def best (f : Ra → Int) (l : List Ra) : Option Ra × Int:=l.foldl (best1 f) (none,0)
def qual (s k u : List UInt8) : Option Int:=(parse s).map fun l => if l = [] then 1000 else match (best (fun r => fits r k u) l).1 with
 | none => 0
 | some r => r.2.2.2
end Ap
end Go.Proofs.YtfacmnooklljnaaGreatDoor
namespace Go.Proofs.YtfacmnooklljnaaGreatDoor
namespace Rq
abbrev Tg:=List (List UInt8) × List (List UInt8 × List UInt8)
def v11 : List UInt8:=[72,84,84,80,47,49,46,49]
def v10 : List UInt8:=[72,84,84,80,47,49,46,48]
def nGET : List UInt8:=[71,69,84]
def nHost : List UInt8:=[104,111,115,116]
def nTE : List UInt8:=[116,114,97,110,115,102,101,114,45,101,110,99,111,100,105,110,103]
def nCL : List UInt8:=[99,111,110,116,101,110,116,45,108,101,110,103,116,104]
def nId : List UInt8:=[108,97,115,116,45,101,118,101,110,116,45,105,100]
def nAcc : List UInt8:=[97,99,99,101,112,116]
def nCon : List UInt8:=[99,111,110,110,101,99,116,105,111,110]
def tTx : List UInt8:=[116,101,120,116]
def tEv : List UInt8:=[101,118,101,110,116,45,115,116,114,101,97,109]
def pHealth : List UInt8:=[47,104,101,97,108,116,104]
def ver (v : List UInt8) : Nat :=
 if v = v11 ∨ v = v10 then 1 else if v.take 5 = [72,84,84,80,47] ∧ v.length = 8 ∧ v.getD 6 0 = 46 ∧ Ap.fig (v.getD 5 0) = true ∧ Ap.fig (v.getD 7 0) = true then 2 else 0
def line3 : List (List UInt8) → Option (List UInt8 × Tg × List UInt8)
 | [m,t,v] => if Tp.isTok m = true then (Gt.parse t).bind fun g => if ver v = 0 then none else some (m,g,v) else none
 | _ => none
def line (F : List UInt8) : Option (List UInt8 × Tg × List UInt8):=line3 (Gs.parts 32 [] F)
def many (n : List UInt8) (fs : List Hp.Hd) : Nat:=(Hg.vals n fs).length
def joined (n : List UInt8) (fs : List Hp.Hd) : List UInt8:=Lib.join (Hg.vals n fs) [44,32]
def takes (o : Option Int) : Bool:=match o with
 | some q => decide (0 < q)
 | none => false
def stat3 (l : List UInt8 × Tg × List UInt8) (fs : List Hp.Hd) : Int :=
 if ¬ (l.2.2 = v10 ∨ many nHost fs = 1) then 400 else if many nTE fs ≠ 0 then 400 else if ¬ (many nCL fs = 0 ∨ joined nCL fs = [48]) then 400 else if 1 < many nId fs then 400
 else if ver l.2.2 = 2 then 505 else if l.1 ≠ nGET then 405 else if takes (Ap.qual (joined nAcc fs) tTx tEv) = true ∨ l.2.1.1.flatMap (fun p => 47 :: p) = pHealth then 200 else 406
def status (F : List UInt8) (fs : List Hp.Hd) : Int:=match line F with
 | none => 400
 | some l => stat3 l fs
end Rq
end Go.Proofs.YtfacmnooklljnaaGreatDoor
namespace Go.Proofs.YtfacmnooklljnaaGreatDoor
namespace Rq
def pH : List UInt8:=[72,84,84,80,47]
theorem drop_getD (v : List UInt8) (n i : Nat) : (v.drop n).getD i 0 = v.getD (n + i) 0:=by
 rw [List.getD_eq_getElem?_getD,List.getD_eq_getElem?_getD,List.getElem?_drop]
theorem ver_ne (v : List UInt8) : ver v ≠ 0 ↔ (v.take 5 = pH ∧ (v.drop 5).length = 3 ∧ (v.drop 5).getD 1 0 = 46 ∧ Ap.fig ((v.drop 5).getD 0 0) = true ∧ Ap.fig ((v.drop 5).getD 2 0) = true):=by
 unfold ver
 by_cases h : v = v11 ∨ v = v10
 ·rw [if_pos h]
  rcases h with rfl | rfl
  ·exact ⟨fun _ => by decide,fun _ => by decide⟩
  ·exact ⟨fun _ => by decide,fun _ => by decide⟩
 ·rw [if_neg h]
  rw [drop_getD,drop_getD,drop_getD,List.length_drop]
  by_cases h2 : v.take 5 = [72,84,84,80,47] ∧ v.length = 8 ∧ v.getD 6 0 = 46 ∧ Ap.fig (v.getD 5 0) = true ∧ Ap.fig (v.getD 7 0) = true
  ·rw [if_pos h2]
   exact ⟨fun _ => ⟨h2.1,by omega,h2.2.2⟩,fun _ => by decide⟩
  ·rw [if_neg h2]
   exact ⟨fun h3 => absurd rfl h3,fun h3 => absurd ⟨h3.1,by omega,h3.2.2⟩ h2⟩
theorem line3_len {L : List (List UInt8)} (h : L.length ≠ 3) : line3 L = none:=by
 match L,h with
 | [],_ | [_],_ | [_,_],_ | _ :: _ :: _ :: _ :: _,_ => rfl
 | [_,_,_],h => exact absurd rfl h
theorem line3_tok {m t v : List UInt8} (h : Tp.isTok m = false) : line3 [m,t,v] = none:=by
 show (if Tp.isTok m = true then (Gt.parse t).bind fun g => if ver v = 0 then none else some (m,g,v) else none) = none
 rw [if_neg (by rw [h]; decide)]
theorem line3_par {m t v : List UInt8} (h : Gt.parse t = none) : line3 [m,t,v] = none:=by
 show (if Tp.isTok m = true then (Gt.parse t).bind fun g => if ver v = 0 then none else some (m,g,v) else none) = none
 split
 ·rw [h]; rfl
 ·rfl
theorem line3_ver {m t v : List UInt8} (h : ver v = 0) : line3 [m,t,v] = none:=by
 show (if Tp.isTok m = true then (Gt.parse t).bind fun g => if ver v = 0 then none else some (m,g,v) else none) = none
 split
 ·cases Gt.parse t with
  | none => rfl
  | some g => simp [h]
 ·rfl
theorem line3_yes {m t v : List UInt8} {g : Tg} (h1 : Tp.isTok m = true) (h2 : Gt.parse t = some g) (h3 : ver v ≠ 0) : line3 [m,t,v] = some (m,g,v):=by
 show (if Tp.isTok m = true then (Gt.parse t).bind fun g => if ver v = 0 then none else some (m,g,v) else none) = _
 rw [if_pos h1,h2]
 show (if ver v = 0 then none else some (m,g,v)) = _
 rw [if_neg h3]
end Rq
end Go.Proofs.YtfacmnooklljnaaGreatDoor
namespace Go.Proofs.YtfacmnooklljnaaGreatDoor
open Go.RowKit
set_option maxHeartbeats 1000000
def errno (n : Int) : Value:=.iface 26 (.int .i64 n)
theorem tg_must (n : Int) (w : World) :
  Calls Tryz.prog 47 #[.bool true,.int .i64 n] w fun e w' => e = .returned (.tuple #[]) ∧ w' = w:=by
 go_enter Tryz.func47,Tryz.ntmps47
 go_wp2
 all_goals first | contradiction | simp [bodyPost,results,Tryz.results47,go_sem]
theorem tg_must_no (n : Int) (w : World) :
  Calls Tryz.prog 47 #[.bool false,.int .i64 n] w fun e w' => e = .panicked [{ v:=errno n,recovered:=false }] ∧ w' = w:=by
 go_enter Tryz.func47,Tryz.ntmps47
 go_wp2
 all_goals first | contradiction | simp [errno,bodyPost]
theorem tg_caught_idle (p : Addr) (cl : Value) (w : World) :
  CallsD Tryz.prog 44 #[.pointer (some p),cl] .returning w fun e u' w' => e = .returned (.tuple #[]) ∧ u' = .returning ∧ w' = w:=by
 refine callsD_of_wpS Tryz.func44 rfl fun c₀ cs hu => ?_
 apply wpS_seq
 apply wpS_region
 simp [wpOpsS,go_sem,recoverD,hu,Tryz.ntmps44,Exit.thenS]
 apply wpS_seq
 apply wpS_region
 simp [wpOpsS,go_sem,recoverD,hu,Exit.thenS]
 refine wpS_cond (t:=false) (by simp [Act.eval,Array.replicate]) ?_
 simp only [Bool.false_eq_true,if_false]
 refine wpS_of_wp (wp_skip ?_)
 cases c₀
 simp_all [bodyPostS,results,Tryz.results44]
theorem errno_is (v : Value) (W : World) : (Instr.typeAssert (.iface 26 v) 20 26 true).run Tryz.prog W = .ok (.tuple #[v,.bool true]) W:=by
 simp [Instr.typeAssert,go_sem,Tryz.underlying26,Result.andThen]
set_option maxRecDepth 100000 in
theorem tg_caught (p : Addr) (f : FuncId) (cap : Array Value) (n : Int) (older : List PanicEntry) (w w1 : World)
  (hf : ∀ W,(callFunc f cap).run Tryz.prog W = .ok (.enter f cap) W) (hC : Calls Tryz.prog f cap w (fun e w' => e = .returned (.tuple #[]) ∧ w' = w1)) (old : Value) (hc : w1.cell? p = some old) (hz : w1.frozen? p = false) :
  CallsD Tryz.prog 44 #[.pointer (some p),.func (.func f) #[] cap] (.panicking ({ v:=errno n,recovered:=false } :: older)) w fun e u' w' =>
   e = .returned (.tuple #[]) ∧ u' = .panicking ({ v:=errno n,recovered:=true } :: older) ∧ w' = w1.setCell p (.int .i64 n):=by
 have K:=Lib.hid hC
 refine callsD_of_wpS Tryz.func44 rfl fun c₀ cs hu => ?_
 apply wpS_seq
 apply wpS_region
 simp [wpOpsS,go_sem,recoverD,hu,Tryz.ntmps44,Exit.thenS]
 apply wpS_seq
 apply wpS_region
 simp [wpOpsS,go_sem,recoverD,hu,Exit.thenS,errno]
 refine wpS_cond (t:=true) (by simp [Act.eval,Array.replicate]) ?_
 simp only [if_true]
 refine wpS_of_wp ?_
 simp [Array.replicate,List.replicate,List.setIfInBounds_toArray]
 have hta : ∀ (v : Value) (W : World),(Instr.typeAssert (.iface 26 v) 20 26 true).run Tryz.prog W = .ok (.tuple #[v,.bool true]) W:=errno_is
 go_wp2_with fail
 refine K.out.mono ?_
 rintro e w' ⟨rfl,rfl⟩
 go_wp2
 simp [bodyPostS,results,Tryz.results44,go_sem]
end Go.Proofs.YtfacmnooklljnaaGreatDoor
namespace Go.Proofs.YtfacmnooklljnaaGreatDoor
open Go.RowKit Go.Shelf
set_option maxHeartbeats 4000000
set_option maxRecDepth 100000
namespace Ap
theorem ix_no {l : List UInt8} {c : UInt8} (h : (cutB c l).2.2 = false) : Lib.indexByte l c = -1 ∧ cutB c l = (l,[],false):=by
 induction l with
 | nil => exact ⟨rfl,rfl⟩
 | cons b l ih =>
  rw [cutB_cons] at h ⊢
  by_cases hb : b = c
  ·rw [if_pos hb] at h; cases h
  ·rw [if_neg hb] at h ⊢
   obtain ⟨h1,h2⟩:=ih h
   unfold Lib.indexByte
   rw [h1,if_neg (by simpa using hb),h2]
   exact ⟨rfl,rfl⟩
theorem ix_yes {l : List UInt8} {c : UInt8} (h : (cutB c l).2.2 = true) : ∃ k : Nat,Lib.indexByte l c = (k : Int) ∧ k < l.length ∧ cutB c l = (l.take k,l.drop (k + 1),true):=by
 induction l with
 | nil => cases h
 | cons b l ih =>
  rw [cutB_cons] at h ⊢
  by_cases hb : b = c
  ·subst hb
   rw [if_pos rfl]
   exact ⟨0,by unfold Lib.indexByte; simp,by simp,rfl⟩
  ·rw [if_neg hb] at h ⊢
   obtain ⟨k,h1,h2,h3⟩:=ih h
   refine ⟨k + 1,?_,by simpa using h2,?_⟩
   ·unfold Lib.indexByte
    rw [if_neg (by simpa using hb),h1,if_neg (by simp)]
    push_cast
    rfl
   ·rw [h3]; rfl
end Ap
theorem sl_CutB (s : ByteArray) (c : UInt8) (w : World) (hs : s.size ≤ 1000000) :
  Calls Tryz.prog 91 #[.string s,.string ⟨#[c]⟩] w fun e w' => e = .returned (.tuple #[tx (Ap.cutB c s.data.toList).1,tx (Ap.cutB c s.data.toList).2.1,.bool (Ap.cutB c s.data.toList).2.2]) ∧ Below w.heap.size w w':=by
 have K:=Lib.hid (fun W => Tryz.stringslite_Index_one s c W)
 have hsz : s.size = s.data.toList.length:=rfl
 cases h : (Ap.cutB c s.data.toList).2.2 with
 | true =>
  obtain ⟨k,h1,h2,h3⟩:=Ap.ix_yes h
  rw [h1] at K
  have hk2 : k < s.size:=by rw [hsz]; exact h2
  have HT:=Lib.hid (show tx (Ap.cutB c s.data.toList).1 = .string (s.extract 0 k) by
   rw [h3]; unfold tx; congr 1; apply ByteArray.ext; apply Array.ext'; rw [Lib.extract_data]; simp)
  have HD:=Lib.hid (show tx (Ap.cutB c s.data.toList).2.1 = .string (s.extract (k + 1) s.size) by
   rw [h3]; unfold tx; congr 1; apply ByteArray.ext; apply Array.ext'
   rw [Lib.extract_to_end s (k + 1)])
  have hw : IntKind.i64.wrap ((k : Int) + 1) = (k : Int) + 1:=by simp [IntKind.wrap,IntKind.bits,IntKind.signed]; omega
  clear h h1 h2 h3 hsz
  go_enter Tryz.func91,Tryz.ntmps91
  go_wp2_with fail
  refine (K.out w).mono ?_
  rintro e w' ⟨rfl,rfl⟩
  go_wp2_with fail
  go_quiet (fail)
  go_wp2_with fail
  simp [bodyPost,results,Tryz.results91,go_sem]
  rw [HT.out,HD.out]
  exact ⟨⟨rfl,rfl⟩,⟨rfl,rfl,rfl,Nat.le_refl _,fun _ _ => rfl⟩⟩
 | false =>
  obtain ⟨h1,h3⟩:=Ap.ix_no h
  rw [h1] at K
  have HT:=Lib.hid (show tx (Ap.cutB c s.data.toList).1 = .string s by rw [h3]; rfl)
  have HD:=Lib.hid (show tx (Ap.cutB c s.data.toList).2.1 = .string ⟨#[]⟩ by rw [h3]; rfl)
  clear h h1 h3 hsz
  go_enter Tryz.func91,Tryz.ntmps91
  go_wp2_with fail
  refine (K.out w).mono ?_
  rintro e w' ⟨rfl,rfl⟩
  go_wp2_with fail
  simp [bodyPost,results,Tryz.results91,go_sem]
  rw [HT.out,HD.out]
  exact ⟨⟨rfl,rfl⟩,Below.refl _ _⟩
theorem str_CutB (s : ByteArray) (c : UInt8) (w : World) (hs : s.size ≤ 1000000) :
  Calls Tryz.prog 48 #[.string s,.string ⟨#[c]⟩] w fun e w' => e = .returned (.tuple #[tx (Ap.cutB c s.data.toList).1,tx (Ap.cutB c s.data.toList).2.1,.bool (Ap.cutB c s.data.toList).2.2]) ∧ Below w.heap.size w w':=by
 have K0:=sl_CutB s c w hs
 unfold tx at K0 ⊢
 obtain ⟨x,hx⟩ : ∃ z : ByteArray,(⟨(Ap.cutB c s.data.toList).1.toArray⟩ : ByteArray) = z:=⟨_,rfl⟩
 obtain ⟨y,hy⟩ : ∃ z : ByteArray,(⟨(Ap.cutB c s.data.toList).2.1.toArray⟩ : ByteArray) = z:=⟨_,rfl⟩
 obtain ⟨b,hb⟩ : ∃ z,(Ap.cutB c s.data.toList).2.2 = z:=⟨_,rfl⟩
 rw [hx,hy,hb] at K0 ⊢
 have K:=Lib.hid K0
 clear hx hy hb K0
 go_enter Tryz.func48,Tryz.ntmps48
 go_wp2_with fail
 refine K.out.mono ?_
 rintro e w' ⟨rfl,hbb⟩
 have HBB:=Lib.hid hbb
 clear hbb
 go_wp2_with fail
 simp [bodyPost,results,Tryz.results48,go_sem]
 exact HBB.out
end Go.Proofs.YtfacmnooklljnaaGreatDoor
namespace Go.Proofs.YtfacmnooklljnaaGreatDoor
open Go.RowKit
set_option maxHeartbeats 8000000
set_option maxRecDepth 100000
theorem callsDInW_of_wpS {P : Program} {f : FuncId} {fn : Func} {c : Code} {args : Array Value} {u : FrameMode} {w : World} {R : Ending → FrameMode → World → Prop} (m : Nat)
  (hf : P.funcs[f]? = some fn) (hb : fn.body = some c)
  (h : ∀ (c₀ : Frame) (cs : List Frame),c₀.mode = u →
   c.wpS P (bodyPostS P fn c₀ cs R) { tmps:=args ++ Array.replicate (fn.ntmps - args.size) undef,defers:=[] } (c₀ :: cs) w) :
  CallsDIn Fence.wide m P f args u w R:=by
 refine ⟨trivial,fun c₀ cs hu _ => ?_⟩
 let b : Frame:={ (default : Frame) with fn:=f,kind:=.deferred }
 have henter : Frame.enter P f args .deferred =
   b.at { tmps:=args ++ Array.replicate (fn.ntmps - args.size) undef,defers:=[] } [.code c]:=by
  simp [Frame.enter,Frame.at,hf,hb,b]
 obtain ⟨e,a',cs',w',hq,harr⟩:=h c₀ cs hu b [] rfl rfl
 rw [← henter] at harr
 cases e with
 | normal =>
  obtain ⟨hd,u',rfl,v,hr,hR⟩:=hq
  exact ⟨.returned v,u',w',_,hR,comesIn_wide.2 (Steps.trans harr (.one step_end)),rfl,rfl,rfl,hd,fn,hf,hr⟩
 | ret =>
  obtain ⟨hd,u',rfl,v,hr,hR⟩:=hq
  obtain ⟨todo,hs⟩:=harr
  exact ⟨.returned v,u',w',_,hR,comesIn_wide.2 hs,rfl,rfl,rfl,hd,fn,hf,hr⟩
 | panic chain =>
  obtain ⟨hd,u',rfl,hR⟩:=hq
  obtain ⟨todo,hs⟩:=harr
  exact ⟨.panicked chain,u',w',_,hR,comesIn_wide.2 hs,rfl,rfl,rfl,hd,fn,hf⟩
 | exit id => exact hq.elim
 | goto l => exact hq.elim
 | outgrown =>
  obtain ⟨u',hR⟩:=hq
  exact ⟨.outgrown,u',w',b,hR,comesIn_wide.2 (harr.resolve_left (by simp [b])),rfl,rfl,trivial⟩
theorem ac_must (n : Int) (w : World) :
  Calls Tryz.prog 190 #[.bool true,.int .i64 n] w fun e w' => e = .returned (.tuple #[]) ∧ w' = w:=by
 go_enter Tryz.func190,Tryz.ntmps190
 go_wp2
 all_goals first | contradiction | simp [bodyPost,results,Tryz.results190,go_sem]
theorem ac_must_no (n : Int) (w : World) :
  Calls Tryz.prog 190 #[.bool false,.int .i64 n] w fun e w' => e = .panicked [{ v:=errno n,recovered:=false }] ∧ w' = w:=by
 go_enter Tryz.func190,Tryz.ntmps190
 go_wp2
 all_goals first | contradiction | simp [errno,bodyPost]
theorem ac_caught_idle (m : Nat) (p : Addr) (w : World) :
  CallsDIn Fence.wide m Tryz.prog 189 #[.pointer (some p)] .returning w fun e u' w' => e = .returned (.tuple #[]) ∧ u' = .returning ∧ w' = w:=by
 refine callsDInW_of_wpS m Tryz.func189 rfl fun c₀ cs hu => ?_
 apply wpS_seq
 apply wpS_region
 simp [wpOpsS,go_sem,recoverD,hu,Tryz.ntmps189,Exit.thenS]
 apply wpS_seq
 apply wpS_region
 simp [wpOpsS,go_sem,recoverD,hu,Exit.thenS]
 refine wpS_cond (t:=false) (by simp [Act.eval,Array.replicate]) ?_
 simp only [Bool.false_eq_true,if_false]
 refine wpS_of_wp (wp_skip ?_)
 cases c₀
 simp_all [bodyPostS,results,Tryz.results189]
theorem ac_caught (m : Nat) (p : Addr) (n : Int) (older : List PanicEntry) (w : World) (old : Value) (hc : w.cell? p = some old) (hz : w.frozen? p = false) :
  CallsDIn Fence.wide m Tryz.prog 189 #[.pointer (some p)] (.panicking ({ v:=errno n,recovered:=false } :: older)) w fun e u' w' =>
   e = .returned (.tuple #[]) ∧ u' = .panicking ({ v:=errno n,recovered:=true } :: older) ∧ w' = w.setCell p (.int .i64 n):=by
 refine callsDInW_of_wpS m Tryz.func189 rfl fun c₀ cs hu => ?_
 apply wpS_seq
 apply wpS_region
 simp [wpOpsS,go_sem,recoverD,hu,Tryz.ntmps189,Exit.thenS]
 apply wpS_seq
 apply wpS_region
 simp [wpOpsS,go_sem,recoverD,hu,Exit.thenS,errno]
 refine wpS_cond (t:=true) (by simp [Act.eval,Array.replicate]) ?_
 simp only [if_true]
 refine wpS_of_wp ?_
 simp [Array.replicate,List.replicate,List.setIfInBounds_toArray]
 have hta : ∀ (v : Value) (W : World),(Instr.typeAssert (.iface 26 v) 20 26 true).run Tryz.prog W = .ok (.tuple #[v,.bool true]) W:=errno_is
 go_wp2_with fail
 simp [bodyPostS,results,Tryz.results189,go_sem]
end Go.Proofs.YtfacmnooklljnaaGreatDoor
namespace Go.Proofs.YtfacmnooklljnaaGreatDoor
open Go.RowKit
set_option maxHeartbeats 8000000
set_option maxRecDepth 100000
def stat (n : Int) : Value:=.iface 3 (.int .i64 n)
theorem stat_is (v : Value) (w : World) : (Instr.typeAssert (.iface 3 v) 20 3 true).run Tryz.prog w = .ok (.tuple #[v,.bool true]) w:=by
 simp [Instr.typeAssert,go_sem,Tryz.underlying3,Result.andThen]
theorem rq_must (n : Int) (w : World) :
  Calls Tryz.prog 73 #[.bool true,.int .i64 n] w fun e w' => e = .returned (.tuple #[]) ∧ w' = w:=by
 go_enter Tryz.func73,Tryz.ntmps73
 go_wp2
 all_goals first | contradiction | simp [bodyPost,results,Tryz.results73,go_sem]
theorem rq_must_no (n : Int) (w : World) :
  Calls Tryz.prog 73 #[.bool false,.int .i64 n] w fun e w' => e = .panicked [{ v:=stat n,recovered:=false }] ∧ w' = w:=by
 go_enter Tryz.func73,Tryz.ntmps73
 go_wp2
 all_goals first | contradiction | simp [stat,bodyPost]
end Go.Proofs.YtfacmnooklljnaaGreatDoor
namespace Go.Proofs.YtfacmnooklljnaaGreatDoor
open Go.RowKit Go.Shelf
attribute [local go_sem] Oper.semAt_some
set_option maxHeartbeats 8000000
set_option maxRecDepth 100000
def KI (X Y : World) : Prop:=∀ (b : Nat) (cs : Array Value),X.heap[b]? = some (.cells cs 3 (0,0)) → Y.heap[b]? = some (.cells cs 3 (0,0))
theorem KI.refl (X : World) : KI X X:=fun _ _ h => h
theorem KI.trans {X Y Z : World} (h : KI X Y) (k : KI Y Z) : KI X Z:=fun b cs hb => k b cs (h b cs hb)
theorem KI.below {X Y : World} (h : Below X.heap.size X Y) : KI X Y:=fun b cs hb => (h.block b (Array.getElem?_eq_some_iff.1 hb).1).trans hb
theorem KI.row {X Y : World} (h : KI X Y) {B n : Nat} {v : Value} {xs : List Value} (ho : X.ownsRow B 3 1 v n xs) : Y.ownsRow B 3 1 v n xs :=
 ⟨ho.1,ho.2.imp id (fun ⟨g,cap,cur,k1,k2,k3,k4⟩ => ⟨g,cap,cur,k1,k2,h g cur k3,k4⟩)⟩
theorem KI.putObj {W : World} {l : Nat} {o : Obj} (o' : Obj) (h : W.heap[l]? = some o) (hc : o.isCells = false) : KI W (W.putObj l o'):=fun b cs hb => (World.putObj_heap_other (fun e => by
 subst e
 rw [h] at hb
 cases hb
 cases hc)).trans hb
theorem every1_enter (args : Array Value) (W : World) : (callFunc 141 args).run Tryz.prog W = .ok (.enter 141 args) W:=by
 simp [callFunc,go_sem,Tryz.func141]
 rw [if_neg (by decide),if_neg (by decide)]
theorem turn_belQ {B : Nat} {own : Nat → Prop} {X Y : World} (hb : Below X.heap.size X Y) : Turn B own X Y:=⟨hb.os,hb.tape,hb.output,hb.size,fun k hk _ _ => hb.block k hk⟩
theorem hd_every_it (m HB NB : Nat) (F nb : ByteArray) (v : Value) (fs : List Hp.Hd) (own : Nat → Prop) (Kp : World → World → Prop) (S : World → Prop) (hl : fs.length ≤ 1000) (hs : ∀ f ∈ fs,f.1.length ≤ 100000) (hn : nb.size ≤ 100000) (W : World)
  (hS : ∀ X,S X → X.heap[HB]? = some (.cells #[.string F,v] 25 (0,0)) ∧ X.cell? ⟨NB,0,none⟩ = some (.string nb) ∧ HS X v fs) (hKp : ∀ X Y,Kp X Y → S X → S Y) (hKi : ∀ X Y,Kp X Y → KI X Y) (hTu : ∀ X Y,Turn W.heap.size own X Y → S X → S Y) (hv : S W) :
  IterAt Fence.wide m Tryz.prog 139 #[.pointer (some ⟨HB,0,none⟩),.pointer (some ⟨NB,0,none⟩)] (fun j => #[.int .i64 ((Hg.selN (Hg.isNm nb.data.toList) fs fs.length).getD j 0 : Nat),Hp.sx (fs.getD ((Hg.selN (Hg.isNm nb.data.toList) fs fs.length).getD j 0) ([],[])).2]) (Hg.selN (Hg.isNm nb.data.toList) fs fs.length).length own Kp W:=by
 intro l J Jx hJ hJx hY h0
 obtain ⟨h1,h2,h3⟩:=hS W hv
 obtain ⟨p,c,rfl⟩:=h3.slice
 obtain ⟨n,hn2⟩ : ∃ n,fs.length = n:=⟨_,rfl⟩
 have c1 : W.cell? ⟨HB,1,none⟩ = some (.slice p n c):=by rw [← hn2]; simp [World.cell?,h1]
 obtain ⟨sel,hsel⟩ : ∃ z,Hg.selN (Hg.isNm nb.data.toList) fs fs.length = z:=⟨_,rfl⟩
 have HSL:=Lib.hid (show ∀ j,j < sel.length → sel.getD j 0 < fs.length from fun j hj => by rw [← hsel] at hj ⊢; exact Hg.selN_mem hj)
 obtain ⟨N,hN⟩ : ∃ z,sel.length = z:=⟨_,rfl⟩
 have hN1 : N ≤ 1000:=by rw [← hN,← hsel]; exact Nat.le_trans (Hg.selN_len _ _ _) hl
 have KS:=Lib.hid ((callsIn_wide (n:=m - 1)).2 (hd_sifted 141 #[.pointer (some ⟨NB,0,none⟩)] (Hg.isNm nb.data.toList) (.slice p fs.length c) fs W h3 hl every1_enter (fun x hx W' hb => hd_e1 x NB nb W' ((hb.cell (p:=⟨NB,0,none⟩) (lt_of_cell h2)).trans h2) (hs x hx) hn)))
 rw [hsel] at KS hY ⊢
 rw [hN] at KS hY ⊢
 rw [hn2] at KS
 have HN2:=Lib.hid hn2
 have HN:=Lib.hid hN
 have HV:=Lib.hid hv
 have HSS:=Lib.hid hS
 have HTU:=Lib.hid hTu
 have HKP:=Lib.hid hKp
 have HKI:=Lib.hid hKi
 have HJ:=Lib.hid hJ
 have HY:=Lib.hid hY
 have HJ0:=Lib.hid h0
 clear hn2 hN hv h1 h2 h3 hS hTu hKp hKi hJ hY hsel h0 hs
 refine callsIn_of_wp Tryz.func139 rfl trivial ?_ rfl
 simp only [Tryz.ntmps139,List.size_toArray,List.length_cons,List.length_nil,Nat.reduceAdd,Nat.reduceSub,Array.replicate_succ,Array.replicate_zero,List.push_toArray,List.append_toArray,List.nil_append,List.cons_append]
 gi_wp2_with fail
 refine ⟨trivial,(fun h => by cases h),KS.out.mono ?_⟩
 rintro e w2 ⟨r,rfl,hrow,hb⟩
 obtain ⟨rp,rc,rfl⟩:=own_slQ hrow
 have HROW:=Lib.hid hrow
 have HJ2:=Lib.hid (HJ.out _ _ _ HJ0.out (turn_belQ hb))
 have HS2:=Lib.hid (HTU.out _ _ (turn_belQ hb) HV.out)
 clear hrow hb KS c1
 gi_wp2_with fail
 gi_loopw [11] (fun i wr => ∃ k : Nat,k ≤ N ∧ i = .int .i64 k ∧ J k wr ∧ S wr ∧ wr.ownsRow W.heap.size 3 1 (.slice rp N rc) N (natv sel)) (fun i _ => N - (intOf i).toNat)
 case atStart => exact ⟨0,Nat.zero_le _,rfl,HJ2.out,HS2.out,HROW.out⟩
 case round =>
  obtain ⟨k,hk,rfl,hj,hs,hrow⟩:=hrel
  have HJK:=Lib.hid hj
  have HSW:=Lib.hid hs
  have HRW:=Lib.hid hrow
  clear hj hs hrow
  by_cases hlt : k < N
  ·have hI1 : ((k : Int) < (N : Int)):=by omega
   obtain ⟨s0,hs0⟩ : ∃ z,sel.getD k 0 = z:=⟨_,rfl⟩
   have HSK:=Lib.hid (show s0 < fs.length by rw [← hs0]; exact HSL.out k (by rw [HN.out]; exact hlt))
   obtain ⟨h1,h2,h3⟩:=HSS.out wr HSW.out
   have hsn : s0 < n:=by rw [← HN2.out]; exact HSK.out
   have hI2 : ((s0 : Int) < (n : Int)):=by omega
   have y1 : wr.cell? ⟨HB,1,none⟩ = some (.slice p n c):=by rw [← HN2.out]; simp [World.cell?,h1]
   obtain ⟨b,off,rfl,hc⟩:=h3.cells HSK.out
   have y2:=(hc s0 HSK.out).2
   obtain ⟨g,cap,cur,he,_,hg,hnc,_,_,htk⟩ : ∃ (g cap : Nat) (cur : Array Value),Value.slice rp N rc = .slice (some ⟨g,0,none⟩) N cap ∧ W.heap.size ≤ g ∧ wr.heap[g]? = some (.cells cur 3 (0,0)) ∧ N ≤ cap ∧ cap ≤ maxLen ∧ cur.size = cap * 1 ∧ cur.toList.take (N * 1) = natv sel:=by
    rcases HRW.out.2 with ⟨_,h0⟩ | h
    ·omega
    ·exact h
   simp only [Value.slice.injEq,true_and] at he
   obtain ⟨rfl,rfl⟩:=he
   have y3 : wr.cell? ⟨g,k,none⟩ = some (.int .i64 (s0 : Int)):=by
    have h5 : (cur.toList.take (N * 1))[k]? = (natv sel)[k]?:=by rw [htk]
    rw [List.getElem?_take_of_lt (by omega)] at h5
    have h6 : (natv sel)[k]? = some (.int .i64 (s0 : Int)):=by
     unfold natv
     rw [List.getElem?_map,List.getElem?_eq_getElem (by rw [HN.out]; exact hlt),← hs0,List.getD_eq_getElem?_getD,List.getElem?_eq_getElem (by rw [HN.out]; exact hlt)]
     rfl
    simp only [World.cell?,hg,Option.isSome_none,Bool.false_eq_true,if_false]
    rw [← Array.getElem?_toList,h5,h6]
   obtain ⟨fn,tmps,assign,body,hy,hR⟩:=HY.out k wr hlt HJK.out
   try simp only at hy
   rw [hs0] at hy
   obtain ⟨vb,hvb⟩ : ∃ z,Hp.sx (fs.getD s0 ([],[])).2 = z:=⟨_,rfl⟩
   unfold Hp.sx at hvb
   obtain ⟨vbb,hvbb⟩ : ∃ z : ByteArray,(⟨(fs.getD s0 ([],[])).2.toArray⟩ : ByteArray) = z:=⟨_,rfl⟩
   unfold Hp.sx at y2 hy
   rw [hvbb] at y2 hy
   clear h1 h2 h3 hc hg htk hvb hvbb hs0 hnc
   gi_wp2_with fail
   refine ⟨(fun h => by cases h),hR.mono ?_⟩
   rintro z Y (⟨rfl,hj',hkp,_⟩ | ⟨rfl,hjx,_⟩)
   ·have HSZ:=Lib.hid (HKP.out _ _ hkp HSW.out)
    have HRZ:=Lib.hid ((HKI.out _ _ hkp).row HRW.out)
    have HJ4:=Lib.hid hj'
    clear hy hR hj' hkp y1 y2 y3
    gi_wp2
    try go_roundw
    case rel => exact ⟨k + 1,hlt,by go_num,HJ4.out,HSZ.out,HRZ.out⟩
    case measure => simp [intOf]; omega
   ·clear hy hR y1 y2 y3
    gi_wp2
    simp [bodyPost,results,Tryz.results139,go_sem]
    exact .inr hjx
  ·have hI1 : ¬ ((k : Int) < (N : Int)):=by omega
   have HKN:=Lib.hid (show k = N by omega)
   gi_wp2
   try rw [Exit.noGoto_normal]
   go_end0
   exact ⟨⟨_,rfl⟩,.inl (by rw [← HKN.out]; exact HJK.out)⟩
end Go.Proofs.YtfacmnooklljnaaGreatDoor
namespace Go.Proofs.YtfacmnooklljnaaGreatDoor
open Go.RowKit Go.Shelf
attribute [local go_sem] Oper.semAt_some
set_option maxHeartbeats 8000000
set_option maxRecDepth 100000
theorem join_row {w : World} {B n : Nat} {v : Value} (sb : ByteArray) (L : List (List UInt8)) (h : w.ownsRow B 9 1 v n (L.map Hp.sx)) (hj : (Lib.join L sb.data.toList).length ≤ 140737488355328) (hl : L.length ≤ 100000) :
  Calls Tryz.prog 115 #[v,.string sb] w fun e w' => e = .returned (.string ⟨(Lib.join L sb.data.toList).toArray⟩) ∧ Below w.heap.size w w':=by
 have hn : n = L.length:=by have:=h.1; simp at this; omega
 subst hn
 rcases Nat.eq_zero_or_pos L.length with h0 | hp
 ·have hL : L = []:=List.length_eq_zero_iff.1 h0
  subst hL
  obtain ⟨p,c,rfl⟩:=own_slQ h
  refine (Tryz.strings_Join_none p c sb w).mono ?_
  rintro e w' ⟨rfl,rfl⟩
  exact ⟨rfl,Below.refl _ _⟩
 rcases h.2 with ⟨rfl,h0⟩ | ⟨g,cap,cur,rfl,hBg,hg,hnc,_,hcs,htk⟩
 ·omega
 ·have hlt : g < w.heap.size:=(Array.getElem?_eq_some_iff.1 hg).1
  have hm : (L.map fbx).map (·.data.toList) = L:=by
   rw [List.map_map]
   conv => rhs; rw [← List.map_id L]
   refine List.map_congr_left (fun l _ => ?_)
   simp [fbx]
  have K:=Tryz.strings_Join g 0 cap (L.map fbx) sb w (fun j x hx => by
   rw [List.getElem?_map] at hx
   cases hLj : L[j]? with
   | none => rw [hLj] at hx; cases hx
   | some l =>
    rw [hLj] at hx
    cases hx
    have hjl : j < L.length:=(List.getElem?_eq_some_iff.1 hLj).1
    have h1 : cur.toList[j]? = some (Hp.sx l):=by
     have h2 : (cur.toList.take (L.length * 1))[j]? = some (Hp.sx l):=by rw [htk,List.getElem?_map,hLj]; rfl
     rwa [List.getElem?_take_of_lt (by omega)] at h2
    rw [Nat.zero_add]
    simp only [World.cell?,hg,Option.isSome_none,Bool.false_eq_true,if_false]
    rw [Array.getElem?_toList] at h1
    exact h1) hlt (by rw [List.length_map]; omega) (by rw [List.length_map]; exact hnc) (by rw [hm]; exact hj)
  rw [hm,List.length_map] at K
  exact K
theorem join_len (z : List UInt8) : ∀ (L : List (List UInt8)),(∀ s ∈ L,s.length ≤ 100000) → (Lib.join L z).length ≤ L.length * (100000 + z.length)
 | [],_ => Nat.zero_le _
 | [s],h => by
  have:=h s List.mem_cons_self
  rw [Lib.join_one]
  simp; omega
 | s :: t :: L,h => by
  have h1:=join_len z (t :: L) (fun u hu => h u (List.mem_cons_of_mem _ hu))
  have h2:=h s List.mem_cons_self
  have h3 : Lib.join (s :: t :: L) z = s ++ z ++ Lib.join (t :: L) z:=by rw [Lib.join_cons,Lib.join_cons]; simp [Lib.joinTail]
  have h4 : (s :: t :: L).length = (t :: L).length + 1:=rfl
  rw [h3,List.length_append,List.length_append,h4,Nat.add_mul]
  omega
theorem hd_every (fb nb : ByteArray) (p : Option Addr) (n c : Nat) (w : World) :
  Calls Tryz.prog 114 #[.agg #[.string fb,.slice p n c],.string nb] w fun e w' => e = .returned (.func (.func 139) #[] #[.pointer (some ⟨w.heap.size,0,none⟩),.pointer (some ⟨w.heap.size + 1,0,none⟩)]) ∧ w' = (w.alloc (.cells #[.string fb,.slice p n c] 25)).alloc (.cells #[.string nb] 9):=by
 have hmf : ∀ (fn : Fn) (first cap : Array Value) (w : World),(Instr.makeFunc fn first cap).run Tryz.prog w = .ok (.func fn first cap) w:=fun _ _ _ _ => rfl
 go_enter Tryz.func114,Tryz.ntmps114
 go_wp2_with fail
 go_ret
 exact ⟨rfl,rfl⟩
theorem HS.of_blocks {w X : World} {v : Value} {L : List Hp.Hd} (h : HS w v L) (k : ∀ b,b < w.heap.size → X.heap[b]? = w.heap[b]?) : HS X v L:=by
 rcases h with h | ⟨b,off,cap,h1,h3⟩
 ·exact .inl h
 ·exact .inr ⟨b,off,cap,h1,fun j hj => ⟨(World.cell?_of_block (a:=⟨b,off + j * 2,none⟩) (k b (lt_of_cell (h3 j hj).1))).trans (h3 j hj).1,(World.cell?_of_block (a:=⟨b,off + j * 2 + 1,none⟩) (k b (lt_of_cell (h3 j hj).2))).trans (h3 j hj).2⟩⟩
theorem own_low {w : World} {B C : Nat} {e : TypeId} {s : Nat} {v : Value} {n : Nat} {xs : List Value} (h : w.ownsRow B e s v n xs) (hC : C ≤ B) : w.ownsRow C e s v n xs :=
 ⟨h.1,h.2.imp id (fun ⟨g,cap,cur,k1,k2,k3⟩ => ⟨g,cap,cur,k1,Nat.le_trans hC k2,k3⟩)⟩
theorem own_turn {B C n : Nat} {own : Nat → Prop} {X Y : World} {e : TypeId} {s : Nat} {v : Value} {xs : List Value} (h : X.ownsRow C e s v n xs) (ht : Turn B own X Y) (ho : ∀ b,¬ own b) : Y.ownsRow C e s v n xs :=
 ⟨h.1,h.2.imp id (fun ⟨g,cap,cur,k1,k2,k3,k4⟩ => ⟨g,cap,cur,k1,k2,ht.cells k3 rfl (ho g),k4⟩)⟩
def KQ (Vs LB : Nat) (X Y : World) : Prop:=KI X Y ∧ (∀ b,b < Vs → b ≠ LB → Y.heap[b]? = X.heap[b]?)
theorem KQ.trans {Vs LB : Nat} {X Y Z : World} (h : KQ Vs LB X Y) (k : KQ Vs LB Y Z) : KQ Vs LB X Z:=⟨h.1.trans k.1,fun b h1 h2 => (k.2 b h1 h2).trans (h.2 b h1 h2)⟩
end Go.Proofs.YtfacmnooklljnaaGreatDoor
namespace Go.Proofs.YtfacmnooklljnaaGreatDoor
open Go.RowKit
set_option maxHeartbeats 2000000
section
variable {F : Fence} {n : Nat} {P : Program}
theorem rf_outerE {g : Operand} {ps : Array Tmp} {assign body : Code} {Q : Exit → Act → World → Prop} {a : Act} {w : World}
  (hro : F.round = none) (h1 : 1 ≤ n) {gf : Nat} {lb : Array Value} (hg : a.eval g = .func (.func gf) #[] lb) (hFg : F.fn gf) (eg : ∀ args w,(callFunc gf args).run P w = .ok (.enter gf args) w)
  {encs : Nat → Array Value} {N : Nat} {own : Nat → Prop} {Kp : World → World → Prop} (hps : ∀ k,(encs k).size = ps.size) (hrow : ∀ b,own b → b ≠ w.heap.size ∧ b ≠ w.heap.size + 1)
  (hit : ∀ W,Below w.heap.size w W → W.heap.size = w.heap.size + 2 → IterAt F (n - 1) P gf lb encs N own Kp W)
  (hKt : ∀ {A B C : World},Kp A B → Kp B C → Kp A C) (hKb : ∀ (W : World) (o o' : Obj),W.heap[w.heap.size + 1]? = some o → o.isCells = false → Kp W (W.putObj (w.heap.size + 1) o'))
  (I : Nat → World → Prop) (Ix : Code → World → Prop) (hI : ∀ k X Y,I k X → Turn w.heap.size own X Y → I k Y) (hIx : ∀ c X Y,Ix c X → Turn w.heap.size own X Y → Ix c Y) (h0 : I 0 w)
  (hE : ∃ A2 : Nat → Act,(∀ (l k : Nat) (W : World) (K : Act → World → Prop),k < N → I k W → (∀ W',KeepsFrom w.heap.size W W' → Kp W W' → I k W' → K (A2 k) W') →
    assign.wpIn (F.inRound l) (n - 1 - 1) P (Exit.then K (fun _ _ _ => False)) { tmps:=(ps.zip (encs k)).foldl (fun t (p,v) => t.setIfInBounds p v) a.tmps,defers:=[] } W) ∧
   (∀ (l k : Nat) (W : World),w.heap.size ≤ l → (∃ r,W.heap[l]? = some (.loop r)) → k < N → I k W → body.wpIn (F.inRound l) (n - 1 - 1) P (rfPost w.heap.size Kp (I (k + 1)) Ix W) (A2 k) W) ∧ (∀ (D : Nat) (W : World),w.heap.size ≤ D → I N W → W.heap[D]? = some (.deferred (some [])) → Q .normal { a with defers:={ target:=.collected D,args:=#[] } :: a.defers } W) ∧ (∀ (D : Nat) (c : Code) (W : World),w.heap.size ≤ D → Ix c W → W.heap[D]? = some (.deferred (some [])) → c.wpIn F n P Q { a with defers:={ target:=.collected D,args:=#[] } :: a.defers } W)) :
  (Code.rangeFunc g ps assign body).wpIn F n P Q a w:=by
 obtain ⟨A2,h1',h2',h3',h4'⟩:=hE
 exact rf_outer hro h1 hg hFg eg hps hrow hit hKt hKb I Ix hI hIx h0 (fun k b _ => b = A2 k) (fun _ _ _ _ h _ => h) (fun l k W K hk hi hK => h1' l k W K hk hi (fun W' a b c => hK _ W' a b c rfl)) (fun l k b W hl hr hk hi hb => by subst hb; exact h2' l k W hl hr hk hi) h3' h4'
theorem rf_breakE {g : Operand} {ps : Array Tmp} {assign body : Code} {Q : Exit → Act → World → Prop} {id : Nat} {a : Act} {w : World}
  (hro : F.round = none) (h1 : 1 ≤ n) {gf : Nat} {lb : Array Value} (hg : a.eval g = .func (.func gf) #[] lb) (hFg : F.fn gf) (eg : ∀ args w,(callFunc gf args).run P w = .ok (.enter gf args) w)
  {encs : Nat → Array Value} {N : Nat} {own : Nat → Prop} {Kp : World → World → Prop} (hps : ∀ k,(encs k).size = ps.size) (hrow : ∀ b,own b → b ≠ w.heap.size ∧ b ≠ w.heap.size + 1)
  (hit : ∀ W,Below w.heap.size w W → W.heap.size = w.heap.size + 2 → IterAt F (n - 1) P gf lb encs N own Kp W)
  (hKt : ∀ {A B C : World},Kp A B → Kp B C → Kp A C) (hKb : ∀ (W : World) (o o' : Obj),W.heap[w.heap.size + 1]? = some o → o.isCells = false → Kp W (W.putObj (w.heap.size + 1) o'))
  (I : Nat → World → Prop) (IE : World → Prop) (hI : ∀ k X Y,I k X → Turn w.heap.size own X Y → I k Y) (hIE : ∀ X Y,IE X → Turn w.heap.size own X Y → IE Y) (h0 : I 0 w)
  (hE : ∃ A2 : Nat → Act,(∀ (l k : Nat) (W : World) (K : Act → World → Prop),k < N → I k W → (∀ W',KeepsFrom w.heap.size W W' → Kp W W' → I k W' → K (A2 k) W') →
    assign.wpIn (F.inRound l) (n - 1 - 1) P (Exit.then K (fun _ _ _ => False)) { tmps:=(ps.zip (encs k)).foldl (fun t (p,v) => t.setIfInBounds p v) a.tmps,defers:=[] } W) ∧
   (∀ (l k : Nat) (W : World),w.heap.size ≤ l → (∃ r,W.heap[l]? = some (.loop r)) → k < N → I k W → body.wpIn (F.inRound l) (n - 1 - 1) P (rfPost w.heap.size Kp (I (k + 1)) (fun c X => c = .exit id ∧ IE X) W) (A2 k) W) ∧ (∀ W,I N W → IE W) ∧ (∀ (D : Nat) (W : World),w.heap.size ≤ D → IE W → W.heap[D]? = some (.deferred (some [])) → Q .normal { a with defers:={ target:=.collected D,args:=#[] } :: a.defers } W)) :
  (Code.rangeFunc g ps assign body).wpIn F n P (Exit.inBlock id Q) a w:=by
 obtain ⟨A2,h1',h2',h3',h4'⟩:=hE
 exact rf_break hro h1 hg hFg eg hps hrow hit hKt hKb I IE hI hIE h0 (fun k b _ => b = A2 k) (fun _ _ _ _ h _ => h) (fun l k W K hk hi hK => h1' l k W K hk hi (fun W' a b c => hK _ W' a b c rfl)) (fun l k b W hl hr hk hi hb => by subst hb; exact h2' l k W hl hr hk hi) h3' h4'
end
end Go.Proofs.YtfacmnooklljnaaGreatDoor
namespace Go.Proofs.YtfacmnooklljnaaGreatDoor
open Go.RowKit Go.Shelf
attribute [local go_sem] Oper.semAt_some
set_option maxHeartbeats 8000000
set_option maxRecDepth 100000
theorem own_cellsQ {w : World} {B : Nat} {e : TypeId} {s : Nat} {v : Value} {n : Nat} {xs : List Value} (h : w.ownsRow B e s v n xs) {k : Nat} {cs : Array Value} {t : TypeId} {fr : Nat × Nat} (ht : t ≠ e) (hk : w.heap[k]? = some (.cells cs t fr)) : some k ≠ v.ownBlock:=by
 rcases h.2 with ⟨rfl,_⟩ | ⟨g,cap,cur,rfl,_,hg,_⟩
 ·simp [Value.ownBlock]
 ·intro e2
  have : k = g:=by simpa [Value.ownBlock] using e2
  subst this
  rw [hk] at hg
  cases hg
  exact ht rfl
def gtF (lp : Option Addr) (N lc : Nat) (jb : ByteArray) : Nat → World → Value → Prop
 | 0,_,v => v = .slice lp N lc
 | 1,_,v => v = .string jb
 | 2,_,v => v = .slice lp N lc
 | 3,_,v => v = .int .i64 (N : Int)
 | 4,_,v => v = .string jb
 | 5,_,v => v = .int .i64 (N : Int)
 | _,_,_ => False
theorem gt_lt : ∀ i,([18,19,20,21,4,5] : List Nat).getD i 21 < 22
 | 0 | 1 | 2 | 3 | 4 | 5 => by decide
 | n + 6 => by show 21 < 22; decide
theorem gt_inj : ∀ i < 6,∀ j < 6,([18,19,20,21,4,5] : List Nat).getD i 21 = ([18,19,20,21,4,5] : List Nat).getD j 21 → i = j:=by decide
theorem hd_Get (fb nb : ByteArray) (v : Value) (fs : List Hp.Hd) (w : World) (hv : HS w v fs) (hl : fs.length ≤ 1000) (hs : ∀ f ∈ fs,f.1.length ≤ 100000 ∧ f.2.length ≤ 100000) (hn : nb.size ≤ 100000) :
  Calls Tryz.prog 74 #[.agg #[.string fb,v],.string nb] w fun e w' => e = .returned (.tuple #[.string ⟨(Lib.join (Hg.vals nb.data.toList fs) [44,32]).toArray⟩,.int .i64 ((Hg.vals nb.data.toList fs).length : Nat)]) ∧ Below w.heap.size w w':=by
 obtain ⟨i0,hi,hz0,hz1,hz2⟩:=info_parts (show (Tryz.prog.info? 9).map (fun i => (i.zero,i.size,i.bytes)) = some (some (.string ByteArray.empty),1,16) by kernel_rfl)
 obtain ⟨p,c,rfl⟩:=hv.slice
 obtain ⟨n,hn2⟩ : ∃ n,fs.length = n:=⟨_,rfl⟩
 have hvals : (Hg.selN (Hg.isNm nb.data.toList) fs fs.length).map (fun j => (fs.getD j ([],[])).2) = Hg.vals nb.data.toList fs:=by
  rw [Hg.selN_vals _ _ _ (Nat.le_refl _),List.take_length]; rfl
 obtain ⟨sel,hsel⟩ : ∃ z,Hg.selN (Hg.isNm nb.data.toList) fs fs.length = z:=⟨_,rfl⟩
 have hsl : ∀ j,j < sel.length → sel.getD j 0 < fs.length:=fun j hj => by rw [← hsel] at hj ⊢; exact Hg.selN_mem hj
 have hsz : sel.length ≤ 1000:=by rw [← hsel]; exact Nat.le_trans (Hg.selN_len _ _ _) hl
 obtain ⟨vs,hvs⟩ : ∃ z,Hg.vals nb.data.toList fs = z:=⟨_,rfl⟩
 rw [hsel,hvs] at hvals
 rw [hvs]
 have hvl : vs.length = sel.length:=by rw [← hvals,List.length_map]
 obtain ⟨N,hN⟩ : ∃ z,sel.length = z:=⟨_,rfl⟩
 have hvat : ∀ k,k < N → vs.getD k [] = (fs.getD (sel.getD k 0) ([],[])).2 ∧ (vs.getD k []).length ≤ 100000:=by
  intro k hk
  have e : vs.getD k [] = (fs.getD (sel.getD k 0) ([],[])).2:=by
   have hks : k < sel.length:=by rw [hN]; exact hk
   have h0 : sel.getD k 0 = sel[k]'hks:=by rw [List.getD_eq_getElem?_getD,List.getElem?_eq_getElem hks]; rfl
   rw [h0,← hvals,List.getD_eq_getElem?_getD,List.getElem?_map,List.getElem?_eq_getElem hks]
   rfl
  refine ⟨e,?_⟩
  rw [e]
  have h1:=hsl k (by omega)
  rw [List.getD_eq_getElem?_getD,List.getElem?_eq_getElem h1]
  exact (hs _ (List.getElem_mem h1)).2
 obtain ⟨jb,hjb⟩ : ∃ z : ByteArray,(⟨(Lib.join vs [44,32]).toArray⟩ : ByteArray) = z:=⟨_,rfl⟩
 rw [show vs.length = N by rw [hvl,hN],hjb]
 have HJB:=Lib.hid hjb
 clear hjb
 obtain ⟨B,hB⟩ : ∃ B,w.heap.size = B:=⟨_,rfl⟩
 obtain ⟨w1,hw1⟩ : ∃ z,(w.alloc (.cells #[.string fb,.slice p n c] 25)).alloc (.cells #[.slice none 0 0] 33) = z:=⟨_,rfl⟩
 obtain ⟨V,hV⟩ : ∃ z,(w1.alloc (.cells #[.string fb,.slice p n c] 25)).alloc (.cells #[.string nb] 9) = z:=⟨_,rfl⟩
 have hb1 : Below w.heap.size w w1:=by rw [← hw1]; exact ((Below.refl _ _).alloc (Nat.le_refl _) _).alloc (by simp) _
 have hz1' : w1.heap.size = B + 2:=by rw [← hw1,← hB]; simp
 have hbV : Below w1.heap.size w1 V:=by rw [← hV]; exact ((Below.refl _ _).alloc (Nat.le_refl _) _).alloc (by simp) _
 have hzV : V.heap.size = B + 4:=by rw [← hV]; simp [hz1']
 have hBl : Boxed V (B + 1) 33 (.slice none 0 0):=by
  have h:=Boxed.new (w.alloc (.cells #[.string fb,.slice p n c] 25)) 33 (.slice none 0 0)
  simp only [World.size_alloc,hB] at h
  rw [hw1] at h
  exact (hbV.block _ h.lt).trans h
 have hHB : V.heap[B + 2]? = some (.cells #[.string fb,.slice p n c] 25 (0,0)):=by
  have h:=World.alloc_heap_new w1 (.cells #[.string fb,.slice p n c] 25)
  rw [hz1'] at h
  rw [← hV,Below.heap_alloc _ _ _ (by simp [hz1'])]
  exact h
 have hNB : V.heap[B + 3]? = some (.cells #[.string nb] 9 (0,0)):=by
  have h:=World.alloc_heap_new (w1.alloc (.cells #[.string fb,.slice p n c] 25)) (.cells #[.string nb] 9)
  rw [hV] at h
  simpa [hz1'] using h
 have HV0:=Lib.hid (show Below w.heap.size w V from hb1.trans (hbV.mono hb1.size))
 have KE:=Lib.hid (hd_every fb nb p n c w1)
 rw [hV,hz1'] at KE
 have y0 : w1.cell? ⟨B,0,none⟩ = some (.string fb) ∧ w1.cell? ⟨B,1,none⟩ = some (.slice p n c):=by
  have h:=World.alloc_heap_new w (.cells #[.string fb,.slice p n c] 25)
  rw [hB] at h
  have h2 : w1.heap[B]? = some (.cells #[.string fb,.slice p n c] 25 (0,0)):=by rw [← hw1,Below.heap_alloc _ _ _ (by simp [hB])]; exact h
  exact ⟨by simp [World.cell?,h2],by simp [World.cell?,h2]⟩
 obtain ⟨ya,yb⟩:=y0
 have HVV:=Lib.hid hv
 have HHS:=Lib.hid hs
 have HNN:=Lib.hid hN
 have HN2:=Lib.hid hn2
 have HSEL:=Lib.hid hsel
 have HVAT:=Lib.hid hvat
 have HVL:=Lib.hid (show vs.length = N by rw [hvl,hN])
 have HBB:=Lib.hid hB
 have HW1:=Lib.hid hw1
 have HZV:=Lib.hid hzV
 have HBL:=Lib.hid hBl
 have HHB:=Lib.hid hHB
 have HNB:=Lib.hid hNB
 have hN1000 : N ≤ 1000:=by rw [← hN]; exact hsz
 rw [hn2]
 clear hv hs hN hn2 hsel hvat hvl hB hw1 hzV hBl hHB hNB hb1 hbV hz1' hV hvals hvs hsl hsz
 refine callsIn_wide.1 (callsIn_of_wp_marks (F:=Fence.wide) (n:=9) Tryz.func74 rfl trivial ?_ rfl)
 simp only [Tryz.ntmps74,List.size_toArray,List.length_cons,List.length_nil,Nat.reduceAdd,Nat.reduceSub,Array.replicate_succ,Array.replicate_zero,List.push_toArray,List.append_toArray,List.nil_append,List.cons_append]
 refine wpIn_wide.2 ?_
 go_wp2_with fail
 rw [HW1.out,HBB.out]
 refine KE.out.mono ?_
 rintro e wx ⟨rfl,hwx⟩
 subst wx
 clear ya yb
 go_wp2_with fail
 refine (wpIn_wide (n:=9)).1 ?_
 have hVz : V.heap.size = B + 4:=HZV.out
 refine rf_outerE (N:=N) (own:=fun _ => False) (Kp:=KQ (B + 4) (B + 1)) (encs:=fun j => #[.int .i64 ((sel.getD j 0 : Nat) : Int),Hp.sx (fs.getD (sel.getD j 0) ([],[])).2]) rfl (by omega) (gf:=139) (lb:=#[.pointer (some ⟨B + 2,0,none⟩),.pointer (some ⟨B + 3,0,none⟩)]) rfl trivial (enters_of Tryz.func139 (by kernel_rfl) rfl)
  (fun _ => rfl) (fun b hb => hb.elim) ?iter KQ.trans (fun X o o' h2 h3 => ⟨KI.putObj _ h2 h3,fun b h1 _ => World.putObj_heap_other (by omega)⟩)
  (fun k X => Below w.heap.size w X ∧ (∀ b,b < B + 4 → b ≠ B + 1 → X.heap[b]? = V.heap[b]?) ∧ B + 4 ≤ X.heap.size ∧ ∃ lv,Boxed X (B + 1) 33 lv ∧ X.ownsRow (B + 4) 9 1 lv k ((vs.take k).map Hp.sx)) (fun c X => False)
  (fun k X Y hs ht => by
   obtain ⟨h1,h2,h3,lv,h4,h5⟩:=hs
   have hbt:=ht.below (N:=B + 4) (by omega) (by omega) (fun b hb => hb.elim)
   exact ⟨h1.trans (hbt.mono (by have:=HBB.out; omega)),fun b hb hne => (hbt.block b hb).trans (h2 b hb hne),Nat.le_trans h3 hbt.size,lv,ht.boxed h4 id,own_turn h5 ht (fun _ h => h)⟩) (fun c X Y hs ht => hs)
  ⟨HV0.out,fun _ _ _ => rfl,by omega,_,HBL.out,by rw [List.take_zero]; exact World.ownsRow_nil _ _ _ _⟩ ?E
 case iter =>
  intro X hX hs
  have h:=hd_every_it (9 - 1) (B + 2) (B + 3) fb nb (.slice p n c) fs (fun _ => False) (KQ (B + 4) (B + 1)) (fun Y => ∀ b,b < B + 4 → b ≠ B + 1 → Y.heap[b]? = V.heap[b]?) hl (fun f hf => (HHS.out f hf).1) hn X
   (fun Y hY => ⟨(hY (B + 2) (by omega) (by omega)).trans HHB.out,(by have h:=(hY (B + 3) (by omega) (by omega)).trans HNB.out; simp [World.cell?,h]),by
    have h:=HVV.out
    rw [HN2.out] at h
    exact h.of_blocks (fun b hb => (hY b (by have:=HBB.out; omega) (by have:=HBB.out; omega)).trans (HV0.out.block b hb))⟩)
   (fun Y Z hk hy b h1 h2 => (hk.2 b h1 h2).trans (hy b h1 h2)) (fun Y Z hk => hk.1)
   (fun Y Z ht hy b h1 h2 => (ht.low ((hy b h1 h2).trans (Array.getElem?_eq_getElem (by omega))) (by omega) id).trans (Array.getElem?_eq_getElem (by omega)).symm)
   (fun b h1 h2 => hX.block b (by omega))
  rw [HSEL.out,HNN.out] at h
  exact h
 case E =>
  apply Exists.intro
  refine ⟨?asg,?bod,?don,?stp⟩
  case asg =>
   intro l' k X K hk hi hK
   have HKK:=Lib.hid hK
   clear hK hk
   gi_wp2
   exact HKK.out _ (KeepsFrom.refl _ _) ⟨KI.refl _,fun _ _ _ => rfl⟩ hi
  case stp => exact fun D c X hD hf => hf.elim
  case bod =>
   rintro l' k X hl' ⟨r,hr⟩ hk ⟨hb,hold,hsz,lv,hbx,hrow⟩
   obtain ⟨lp,lc,rfl⟩:=own_slQ hrow
   obtain ⟨e1,e2⟩:=HVAT.out k hk
   rw [List.getD_eq_getElem?_getD (l:=fs),List.getD_eq_getElem?_getD (l:=sel)] at e1
   rw [← e1]
   unfold Hp.sx
   obtain ⟨qb,hqb⟩ : ∃ z : ByteArray,(⟨(vs.getD k []).toArray⟩ : ByteArray) = z:=⟨_,rfl⟩
   rw [hqb]
   have cl:=hbx.cell
   have HB:=Lib.hid hb
   have HOLD:=Lib.hid hold
   have HSZ:=Lib.hid hsz
   have HBX:=Lib.hid hbx
   have HROW:=Lib.hid hrow
   have HQB:=Lib.hid hqb
   have hkN : k ≤ 1000:=by omega
   clear hb hold hsz hbx hrow hqb e1 e2
   gi_wp2_with (gi_at_builtin; refine wpListIn_append_own _ rfl _ _ 33 rfl (B + 4) 9 i0 (.string ByteArray.empty) 1 16 Tryz.underlying33 hi hz0 hz1 hz2 rfl (by decide) _ _ _ rfl (HROW.out.alloc _) ⟨X.heap.size,0,none⟩ 1 1 [.string qb] rfl rfl ?d1 ?d2 ?d3 ?d4 ?d5 ?_)
   try (case d1 =>
    intro j u hj
    match j,hj with
    | 0,hj => simp at hj; subst hj; simp [Addr.add])
   try (case d2 => first | rfl | (intro u hu; simp at hu; subst hu; rfl))
   try (case d3 => unfold maxLen; omega)
   try (case d4 => omega)
   try (case d5 => have:=HSZ.out; simp; omega)
   intro v' W3 hown' hgrow _
   have hapx:=Boxed.appended HBX.out (by decide : 33 ≠ 9) (own_low HROW.out (Nat.le_succ_of_le (Nat.le_succ_of_le (Nat.le_succ _)) : B + 1 ≤ B + 4)) (by have:=HSZ.out; omega) (Nat.le_refl _) (own_low hown' (by omega)) hgrow
   obtain ⟨a1,a2,a3,a4,a5⟩:=hapx
   have cl3:=a1.cell
   have fl3:=a1.frozen
   obtain ⟨p',c',rfl⟩:=own_slQ hown'
   have hr4:=hown'.kept (grownBy_setCell' W3 (B + 1) (.slice p' (k + 1) c')) (.inr (a1.not_row (by decide) hown').symm)
   have HR4:=Lib.hid (show (W3.setCell ⟨B + 1,0,none⟩ (.slice p' (k + 1) c')).ownsRow (B + 4) 9 1 (.slice p' (k + 1) c') (k + 1) ((vs.take (k + 1)).map Hp.sx) by
    have hkv : k < vs.length:=by rw [HVL.out]; exact hk
    rw [List.take_succ_eq_append_getElem hkv,List.map_append,show [vs[k]].map Hp.sx = [Value.string qb] by
     rw [← HQB.out,List.getD_eq_getElem?_getD,List.getElem?_eq_getElem hkv]; rfl,List.map_take]
    exact hr4)
   have HKI:=Lib.hid (show KI X (W3.setCell ⟨B + 1,0,none⟩ (.slice p' (k + 1) c')) from fun b cs hbc => by
    have hne : b ≠ B + 1:=fun e => by
     subst e
     have h:=HBX.out
     unfold Boxed at h
     rw [h] at hbc
     simp at hbc
    refine (Below.heap_setCell _ _ _ _ (by show b ≠ B + 1; exact hne)).trans ((hgrow.block b (by have:=(Array.getElem?_eq_some_iff.1 hbc).1; simp; omega) (own_cellsQ HROW.out (by decide) hbc)).trans ((Below.heap_alloc _ _ _ (Array.getElem?_eq_some_iff.1 hbc).1).trans hbc)))
   have HOL:=Lib.hid (show ∀ b,b < B + 4 → b ≠ B + 1 → (W3.setCell ⟨B + 1,0,none⟩ (.slice p' (k + 1) c')).heap[b]? = X.heap[b]? from fun b h1 h2 =>
    (Below.heap_setCell _ _ _ _ (by show b ≠ B + 1; exact h2)).trans ((hgrow.block b (by have:=HSZ.out; simp; omega) (fun e => by have:=own_geH HROW.out b e.symm; omega)).trans (Below.heap_alloc _ _ _ (by have:=HSZ.out; omega))))
   have HA2:=Lib.hid a2
   have HA4:=Lib.hid a4
   have HA5:=Lib.hid a5
   clear hown' hgrow a1 a2 a3 a4 a5 hr4
   gi_wp2
   change KeepsFrom _ _ _ ∧ _ ∧ _
   exact ⟨HA4.out.from _,⟨HKI.out,HOL.out⟩,HB.out.trans (HA5.out.mono (by have:=HBB.out; omega)),fun b h1 h2 => (HOL.out b h1 h2).trans (HOLD.out b h1 h2),Nat.le_trans HSZ.out HA5.out.size,_,HA2.out,HR4.out⟩
  case don =>
   rintro D X hD ⟨hb,hold,hsz,lv,hbx,hrow⟩ hKD
   rw [List.take_of_length_le (by rw [HVL.out]; exact Nat.le_refl _)] at hrow
   obtain ⟨lp,lc,rfl⟩:=own_slQ hrow
   have HB:=Lib.hid hb
   have HROW:=Lib.hid hrow
   have HKD:=Lib.hid (show X.heap[D]? = some (.deferred (some [])) from hKD)
   have HBX:=Lib.hid hbx
   have HVM:=Lib.hid (show ∀ s ∈ vs,s.length ≤ 100000 from fun s hs => by
    obtain ⟨j,hj,rfl⟩:=List.mem_iff_getElem.1 hs
    have h:=(HVAT.out j (by rw [← HVL.out]; exact hj)).2
    rwa [List.getD_eq_getElem?_getD,List.getElem?_eq_getElem hj] at h)
   have HJL:=Lib.hid (show (Lib.join vs (⟨#[44,32]⟩ : ByteArray).data.toList).length ≤ 140737488355328 by
    refine Nat.le_trans (join_len _ _ HVM.out) ?_
    rw [HVL.out]
    have : N * (100000 + 2) ≤ 1000 * (100000 + 2):=Nat.mul_le_mul_right _ hN1000
    show N * (100000 + 2) ≤ _
    omega)
   have KJ:=Lib.hid (fun W (h : Below X.heap.size X W) => join_row ⟨#[44,32]⟩ vs (own_bel HROW.out h) HJL.out (by rw [HVL.out]; omega))
   have HCL:=Lib.hid (show ∀ W,Below X.heap.size X W → W.cell? ⟨B + 1,0,none⟩ = some (.slice lp N lc) from fun W h => (show Boxed W (B + 1) _ _ from (h.block _ HBX.out.lt).trans HBX.out).cell)
   rw [show (⟨(Lib.join vs (⟨#[44,32]⟩ : ByteArray).data.toList).toArray⟩ : ByteArray) = jb from HJB.out] at KJ
   have cl:=hbx.cell
   have HDD:=Lib.hid (show B + 4 ≤ D by rw [← hVz]; exact hD)
   have HLL:=Lib.hid (fun (h : lc = lc) => hbx.lt)
   clear hb hold hsz hbx hrow hKD
   go_wp2_with fail
   refine region_slotsG (fun i => ([18,19,20,21,4,5] : List Nat).getD i 21) (gtF lp N lc jb) (fun _ => true) (by kernel_rfl) (by kernel_rfl) (fun i => gt_lt i) (fun i j hi hj h => gt_inj i hi j hj h) ?mono ?dst ?gu ?ng ?skip ?step ?done
   case mono =>
    intro i W W' v h hbw
    match i,h with
    | 0,h | 1,h | 2,h | 3,h | 4,h | 5,h => exact h
    | n + 6,h => exact h.elim
   case dst =>
    intro i o ho
    match i,ho with
    | 0,ho | 1,ho | 2,ho | 3,ho | 4,ho | 5,ho => cases ho; rfl
    | n + 6,ho => exact absurd ho (by simp)
   case gu =>
    intro i o g b ho hgd W v hv
    match i,ho with
    | 0,ho | 1,ho | 2,ho | 3,ho | 4,ho | 5,ho => cases ho; cases hgd
    | n + 6,ho => exact absurd ho (by simp)
   case ng => exact fun _ _ _ _ => rfl
   case skip => exact fun i W hi hsel => absurd hsel (by decide)
   case step =>
    intro f a' W i o ho hsel hpre hbel hrest
    match i,ho with
    | 0,ho =>
     cases ho
     have q6 : a'.tmps.getD 6 undef = .pointer (some ⟨B + 1,0,none⟩):=(hrest 6 (by intro i hi; show ([18,19,20,21,4,5] : List Nat).getD i 21 ≠ _; match i,hi with | 0,_ | 1,_ | 2,_ | 3,_ | 4,_ | 5,_ => decide | n + 6,hi => exact absurd hi (by show ¬ n + 6 < 6; omega)))
     have x0:=HCL.out W hbel
     have e6:=rg_ev q6
     exact rg_same (.slice lp N lc) (by unfold Oper.wp execOp; go_simp; all_goals ((try simp only [e6]); (try go_simp); first | done | rfl | exact ⟨rfl,rfl⟩ | trivial)) rfl
    | 1,ho =>
     cases ho
     have q18 : a'.tmps.getD 18 undef = .slice lp N lc:=(hpre { on:=0,ground:=.data } (by simp) rfl)
     exact rg_callc 18 115 _ _ _ _ rfl q18 (enters_of Tryz.func115 (by kernel_rfl) rfl) (KJ.out W hbel) (fun e w' h => by
      obtain ⟨rfl,hb⟩:=h
      exact ⟨_,rfl,_,rfl,rfl,hb⟩)
    | 2,ho =>
     cases ho
     have q6 : a'.tmps.getD 6 undef = .pointer (some ⟨B + 1,0,none⟩):=(hrest 6 (by intro i hi; show ([18,19,20,21,4,5] : List Nat).getD i 21 ≠ _; match i,hi with | 0,_ | 1,_ | 2,_ | 3,_ | 4,_ | 5,_ => decide | n + 6,hi => exact absurd hi (by show ¬ n + 6 < 6; omega)))
     have x0:=HCL.out W hbel
     have e6:=rg_ev q6
     exact rg_same (.slice lp N lc) (by unfold Oper.wp execOp; go_simp; all_goals ((try simp only [e6]); (try go_simp); first | done | rfl | exact ⟨rfl,rfl⟩ | trivial)) rfl
    | 3,ho =>
     cases ho
     have q20 : a'.tmps.getD 20 undef = .slice lp N lc:=(hpre { on:=2,ground:=.data } (by simp) rfl)
     have e20:=rg_ev q20
     exact rg_same (.int .i64 (N : Int)) (by unfold Oper.wp execOp; go_simp; all_goals ((try simp only [e20]); (try go_simp); first | done | rfl | exact ⟨rfl,rfl⟩ | trivial)) rfl
    | 4,ho =>
     cases ho
     have q19 : a'.tmps.getD 19 undef = .string jb:=(hpre { on:=1,ground:=.data } (by simp) rfl)
     have e19:=rg_ev q19
     exact rg_same (.string jb) (by unfold Oper.wp execOp; go_simp; all_goals ((try simp only [e19]); (try go_simp); first | done | rfl | exact ⟨rfl,rfl⟩ | trivial)) rfl
    | 5,ho =>
     cases ho
     have q21 : a'.tmps.getD 21 undef = .int .i64 (N : Int):=(hpre { on:=3,ground:=.data } (by simp) rfl)
     have e21:=rg_ev q21
     exact rg_same (.int .i64 (N : Int)) (by unfold Oper.wp execOp; go_simp; all_goals ((try simp only [e21]); (try go_simp); first | done | rfl | exact ⟨rfl,rfl⟩ | trivial)) rfl
    | n + 6,ho => exact absurd ho (by simp)
   case done =>
    intro us W hbel hus
    have v0 : us 0 = .slice lp N lc:=hus 0 (by decide)
    have v1 : us 1 = .string jb:=hus 1 (by decide)
    have v2 : us 2 = .slice lp N lc:=hus 2 (by decide)
    have v3 : us 3 = .int .i64 (N : Int):=hus 3 (by decide)
    have v4 : us 4 = .string jb:=hus 4 (by decide)
    have v5 : us 5 = .int .i64 (N : Int):=hus 5 (by decide)
    have HBR:=Lib.hid hbel
    simp only [fillN,List.size_toArray,List.length_cons,List.length_nil,Nat.reduceAdd,show List.range 6 = [0,1,2,3,4,5] from rfl,List.foldl_cons,List.foldl_nil,show ([18,19,20,21,4,5] : List Nat).getD 0 21 = 18 from rfl,show ([18,19,20,21,4,5] : List Nat).getD 1 21 = 19 from rfl,show ([18,19,20,21,4,5] : List Nat).getD 2 21 = 20 from rfl,show ([18,19,20,21,4,5] : List Nat).getD 3 21 = 21 from rfl,show ([18,19,20,21,4,5] : List Nat).getD 4 21 = 4 from rfl,show ([18,19,20,21,4,5] : List Nat).getD 5 21 = 5 from rfl,v0,v1,v2,v3,v4,v5]
    clear v0 v1 v2 v3 v4 v5 hus hbel
    go_simp
    first | go_wp2_with fail | skip
    have L9 : W.heap[D]? = some (.deferred (some [])):=(HBR.out.block D (Array.getElem?_eq_some_iff.1 HKD.out).1).trans HKD.out
    refine ⟨by simp,.inl ⟨_,_,rfl,run_takeDeferred L9,?_⟩⟩
    refine ⟨.tuple #[.string jb,.int .i64 (N : Int)],?_,rfl,?_⟩
    ·simp [results,Tryz.results74,go_sem]
    ·exact (HB.out.trans (HBR.out.mono HB.out.size)).trans (belowK_b (w:=w) (Nat.le_refl _) _ D _ _ (by have:=HDD.out; have:=HBB.out; omega) L9 rfl rfl)
end Go.Proofs.YtfacmnooklljnaaGreatDoor
namespace Go.Proofs.YtfacmnooklljnaaGreatDoor
open Go.RowKit
set_option maxHeartbeats 2000000
section
variable {P : Program} {ops : Array Oper} {Q : Exit → Act → World → Prop} {l n : Nat} {md : Region.Mode}
theorem wpAnyR_invG (hd : noDefer ops = true) (hb : backG md ops = true) (Inv : (Nat → Bool) → Act → World → Prop)
  (hstep : ∀ (f : Nat → Bool) (a : Act) (w : World) (i : Nat) (o : Oper),ops[i]? = some o → f i = false → (∀ e ∈ o.after,Region.binds md e = true → f e.on = true) → Inv f a w →
   if Region.wanted o (yielded ops a.tmps) then o.wp P a w (Inv (fun j => if j = i then true else f j)) Q else Inv (fun j => if j = i then true else f j) (a.put o.dst undef) w)
  (hdone : ∀ (f : Nat → Bool) (a : Act) (w : World),(∀ i,i < ops.size → f i = true) → Inv f a w → Q .normal a w) :
  ∀ (fuel : Nat) (listed : Array Bool) (a : Act) (w : World),listed.size = ops.size → listed.toList.count false ≤ fuel → Inv (fun i => listed.getD i false) a w → wpAnyIn (Fence.wide.inRound l) n P md ops Q fuel listed a w:=by
 intro fuel
 induction fuel with
 | zero =>
  intro listed a w hs hc hI
  have hr : Region.ready md ops listed = []:=by
   cases hr : Region.ready md ops listed with
   | nil => rfl
   | cons i r =>
    obtain ⟨o,ho,hl,hi,_⟩:=ready_mem (md:=md) hs (i:=i) (by rw [hr]; exact List.mem_cons_self)
    have h1 : false ∈ listed.toList:=by
     simp only [Array.getD,hi,dite_true] at hl
     have h2 : listed[i] ∈ listed.toList:=Array.mem_toList_iff.2 (Array.getElem_mem hi)
     have h3 : listed[i] = false:=hl
     rwa [h3] at h2
    have:=List.count_pos_iff.2 h1
    omega
  exact ⟨hr,hdone _ a w (ready_allG hb hs hr) hI⟩
 | succ fuel ih =>
  intro listed a w hs hc hI
  refine ⟨fun hr => hdone _ a w (ready_allG hb hs hr) hI,fun i hi => ?_⟩
  obtain ⟨o,ho,hl,hil,hpre⟩:=ready_mem hs hi
  have h1:=hstep _ a w i o ho hl hpre hI
  have hnext : ∀ a' w',Inv (fun j => if j = i then true else listed.getD j false) a' w' → wpAnyIn (Fence.wide.inRound l) n P md ops Q fuel (listed.setIfInBounds i true) a' w':=by
   intro a' w' hI'
   refine ih _ a' w' (by simp [hs]) ?_ ?_
   ·have h3 : listed.toList[i]'(by simpa using hil) = false:=by
     simp only [Array.getD,hil,dite_true] at hl
     simpa using hl
    rw [Array.toList_setIfInBounds,List.count_set (h:=by simpa using hil),h3]
    have h4 : 0 < listed.toList.count false:=List.count_pos_iff.2 (by rw [← h3]; exact List.getElem_mem _)
    rw [if_pos (by rfl),if_neg (by decide)]
    omega
   ·refine cast (congrArg (fun g => Inv g a' w') (funext fun j => ?_)) hI'
    by_cases hj : j = i
    ·subst hj
     simp [Array.getD,hil]
    ·rw [if_neg hj]
     simp only [Array.getD,Array.size_setIfInBounds]
     by_cases hjl : j < listed.size
     ·simp [hjl,Array.getElem_setIfInBounds,Ne.symm hj]
     ·simp [hjl]
  unfold wpOpIn
  simp only [ho]
  split
  ·rename_i hw
   rw [if_pos hw] at h1
   exact opR (noDefer_at hd ho) (Oper.wp_mono (fun a' w' hI' => hnext a' w' hI') h1)
  ·rename_i hw
   rw [if_neg hw] at h1
   exact ⟨fun _ _ => trivial,hnext _ _ h1⟩
theorem region_invR {id : Nat} {a : Act} {w : World} (hd : noDefer ops = true) (hm : P.follows .mixedOrders = true) (hb : backG .any ops = true) (Inv : (Nat → Bool) → Act → World → Prop) (h0 : Inv (fun _ => false) a w.drew)
  (hstep : ∀ (f : Nat → Bool) (a : Act) (w : World) (i : Nat) (o : Oper),ops[i]? = some o → f i = false → (∀ e ∈ o.after,Region.binds .any e = true → f e.on = true) → Inv f a w →
   if Region.wanted o (yielded ops a.tmps) then o.wp P a w (Inv (fun j => if j = i then true else f j)) Q else Inv (fun j => if j = i then true else f j) (a.put o.dst undef) w)
  (hdone : ∀ (f : Nat → Bool) (a : Act) (w : World),(∀ i,i < ops.size → f i = true) → Inv f a w → Q .normal a w) : (Code.region id ops true).wpIn (Fence.wide.inRound l) n P Q a w:=by
 refine wpIn_region_any hm (wpAnyR_invG hd hb Inv hstep hdone _ _ a _ (by simp) ?_ ?_)
 ·refine Nat.le_trans List.count_le_length ?_
  simp
 ·refine cast (congrArg (fun g => Inv g a w.drew) (funext fun j => ?_)) h0
  by_cases hj : j < ops.size <;> simp [Array.getD,hj]
end
end Go.Proofs.YtfacmnooklljnaaGreatDoor
namespace Go.Proofs.YtfacmnooklljnaaGreatDoor
open Go.RowKit
set_option maxHeartbeats 2000000
section
variable {F : Fence} {n : Nat} {P : Program}
def WpAt (f : FuncId) (F : Fence) (n : Nat) (P : Program) (c : Code) (Q : Exit → Act → World → Prop) (a : Act) (w : World) : Prop :=
 ∀ (b : Frame) (k : List Item) (cs : List Frame),b.roundOf = F.round → b.fn = f → F.fn f → F.room (cs.length + 1 + n) →
  ∃ e a' w',Q e a' w' ∧ ArrivesIn (Machine.fenced P F) P (lone (b.atR a (.code c :: k)) cs w) b k cs e a' w'
theorem wpAt_of {f : FuncId} {c : Code} {Q : Exit → Act → World → Prop} {a : Act} {w : World} (h : c.wpIn F n P Q a w) : WpAt f F n P c Q a w :=
 fun b k cs hro hb hF hr => h b k cs hro (hb ▸ hF) hr
theorem wpAt_seq {f : FuncId} {x y : Code} {Q : Exit → Act → World → Prop} {a : Act} {w : World} (h : WpAt f F n P x (Exit.then (WpAt f F n P y Q) Q) a w) : WpAt f F n P (Code.seq x y) Q a w:=by
 intro b k cs hro hb hF hr
 have h0 : (lone (b.atR a (.code (.seq x y) :: k)) cs w).fenced P F:=fenced_calm (fr:=b.atR a (.code (.seq x y) :: k)) (hb ▸ hF : F.fn b.fn) hr rfl
 obtain ⟨e,a₁,w₁,hq,harr⟩:=h b (.code y :: k) cs hro hb hF hr
 cases e with
 | normal =>
  obtain ⟨e₂,a₂,w₂,hq₂,harr₂⟩:=hq b k cs hro hb hF hr
  exact ⟨e₂,a₂,w₂,hq₂,.of_steps (.head h0 stepR_seq harr) harr₂⟩
 | exit id => exact ⟨_,a₁,w₁,hq,.of_steps (.one h0 stepR_seq) (.pass (x:=.code y) rfl (fun _ _ => .inl (by simp)) harr)⟩
 | goto l => exact ⟨_,a₁,w₁,hq,.of_steps (.one h0 stepR_seq) (.pass (x:=.code y) rfl (fun _ _ => .inl (by simp)) harr)⟩
 | ret => exact ⟨_,a₁,w₁,hq,.of_steps (.one h0 stepR_seq) (.pass (x:=.code y) rfl (fun _ _ => .inl (by simp)) harr)⟩
 | panic ch => exact ⟨_,a₁,w₁,hq,.of_steps (.one h0 stepR_seq) (.pass (x:=.code y) rfl (fun _ _ => .inl (by simp)) harr)⟩
 | outgrown => exact ⟨_,a₁,w₁,hq,.of_steps (.one h0 stepR_seq) (.pass (x:=.code y) rfl (fun _ _ => .inl (by simp)) harr)⟩
theorem wpAt_rangeFunc {fn : FuncId} (hfn : F.fn fn) {g : Operand} {ps : Array Tmp} {assign body : Code} {Q : Exit → Act → World → Prop} {a : Act} {w : World}
  (h : ∃ (l : Nat) (mark : List Deferred) (w₁ : World) (d : Deferred) (w₁' : World) (f : FuncId) (args : Array Value) (w₂ : World),
   (Instr.enterLoop fn a.tmps ps assign body F.round).run P w = .ok (l,mark) w₁ ∧
   (resolve a.eval (rangeCall g l) 0).run P w₁ = .ok d w₁' ∧
   (∀ f',Target.leads P w₁' d.target d.args = some f' → F.fn f') ∧
   (invoke d.target d.args).run P w₁' = .ok (.enter f args) w₂ ∧
   (F.depth.isSome = true → 1 ≤ n) ∧
   CallsIn F (n - 1) P f args w₂ (rangePost F n P l Q { a with defers:=mark ++ a.defers })) :
  WpAt fn F n P (Code.rangeFunc g ps assign body) Q a w:=by
 intro b k cs hro hbf _ hr
 have hb : F.fn b.fn:=hbf ▸ hfn
 obtain ⟨l,mark,w₁,d,w₁',f,args,w₂,he,hres,hlead,hinv,hn,hF,hcall⟩:=h
 rw [← hro,← hbf] at he
 have h0 : (lone (b.atR a (.code (.rangeFunc g ps assign body) :: k)) cs w).fenced P F:=by
  refine fenced_lone (.inl hb) (fun f' hf' => hlead f' ?_) (Fence.room_le hr (by omega))
  have hev:=Frame.eval_atR b a (.code (.rangeFunc g ps assign body) :: k)
  simp only [Frame.atR] at hev
  simp only [Frame.about,Frame.atR,he,hev,hres] at hf'
  exact hf'
 have henter:=stepR_rangeFunc (P:=P) (b:=b) (a:=a) (k:=k) (cs:=cs) (w:=w) he hres hinv
 have hroom : F.room ((b.atR { a with defers:=mark ++ a.defers } (.inRangeFunc l :: k) :: cs).length + 1 + (n - 1)):=Fence.room_enter hr hn
 obtain ⟨e,w₃,fr,hR,hsteps,hfn',hleave⟩:=hcall (b.atR { a with defers:=mark ++ a.defers } (.inRangeFunc l :: k) :: cs) hroom
 cases e with
 | outgrown =>
  obtain ⟨a₀,w₀,hq⟩:=hR
  exact ⟨.outgrown,a₀,w₀,hq,.inr (Outgrown.of_steps (.one henter) hsteps)⟩
 | returned v =>
  have hl : (lone fr (b.atR { a with defers:=mark ++ a.defers } (.inRangeFunc l :: k) :: cs) w₃).fenced P F:=fenced_leaving (hfn' ▸ hF) hroom hleave
  obtain ⟨jump,w₄,hend,hj⟩:=hR
  have sback : StepsIn (Machine.fenced P F) P (lone (b.atR a (.code (.rangeFunc g ps assign body) :: k)) cs w) (lone (b.atR { a with defers:=mark ++ a.defers } ((jump.map Item.code).toList ++ k)) cs w₄):=by
   refine .head h0 henter (StepsIn.trans hsteps (.head hl ?_ (.one (fenced_calm (fr:=b.atR { a with defers:=mark ++ a.defers } (.endRangeFunc l :: k)) hb hr rfl) (stepR_endRangeFunc hend))))
   rw [← finish_atR_inRangeFunc l v]; exact step_leave_returned hleave
  cases jump with
  | none => exact ⟨.normal,_,w₄,hj,sback⟩
  | some c =>
   obtain ⟨e',a'',w₅,hq,harr⟩:=hj b k cs hro hb hr
   exact ⟨e',a'',w₅,hq,.of_steps sback harr⟩
 | panicked chain =>
  have hl : (lone fr (b.atR { a with defers:=mark ++ a.defers } (.inRangeFunc l :: k) :: cs) w₃).fenced P F:=fenced_leaving (hfn' ▸ hF) hroom hleave
  refine ⟨.panic chain,_,w₃,hR,.inRangeFunc l :: k,.head h0 henter (StepsIn.trans hsteps (.one hl ?_))⟩
  rw [← Frame.raise_atR]; exact step_leave_panicked hleave
theorem callsIn_of_wpAt_marks {f : FuncId} {fn : Func} {c : Code} {args : Array Value} {w : World} {R : Ending → World → Prop}
  (hf : P.funcs[f]? = some fn) (hb : fn.body = some c) (hF : F.fn f)
  (h : WpAt f F n P c (bodyPostM F n P fn R) { tmps:=args ++ Array.replicate (fn.ntmps - args.size) undef,defers:=[] } w) (hro : F.round = none:=by rfl) : CallsIn F n P f args w R:=by
 refine ⟨hF,fun cs hr => ?_⟩
 let b : Frame:={ (default : Frame) with fn:=f,kind:=.normal,roundOf:=none }
 have henter : Frame.enter P f args .normal =
   b.atR { tmps:=args ++ Array.replicate (fn.ntmps - args.size) undef,defers:=[] } [.code c]:=by
  simp [Frame.enter,Frame.atR,hf,hb,b]
 obtain ⟨e,a',w',hq,harr⟩:=h b [] cs hro.symm rfl hF hr
 rw [← henter] at harr
 cases e with
 | normal =>
  obtain ⟨e',w'',fr',hR,hs,hfn,hl⟩:=leaves_stepsInM a'.defers .returning w' { b.atR a' [] with mode:=.returning } cs rfl rfl rfl hf rfl hF hr hq
  exact ⟨e',w'',fr',hR,ComesIn.of_steps (StepsIn.trans harr (.one (fenced_calm (fr:=b.atR a' []) hF hr rfl) (stepR_end rfl))) hs,hfn,hl⟩
 | ret =>
  obtain ⟨todo,hs₀⟩:=harr.1 rfl
  obtain ⟨e',w'',fr',hR,hs,hfn,hl⟩:=leaves_stepsInM a'.defers .returning w' { b.atR a' todo with mode:=.returning } cs rfl rfl rfl hf rfl hF hr hq
  exact ⟨e',w'',fr',hR,ComesIn.of_steps hs₀ hs,hfn,hl⟩
 | panic chain =>
  obtain ⟨todo,hs₀⟩:=harr
  obtain ⟨e',w'',fr',hR,hs,hfn,hl⟩:=leaves_stepsInM a'.defers (.panicking chain) w' { b.atR a' todo with mode:=.panicking chain } cs rfl rfl rfl hf rfl hF hr hq
  exact ⟨e',w'',fr',hR,ComesIn.of_steps hs₀ hs,hfn,hl⟩
 | exit id => exact hq.elim
 | goto l => exact hq.elim
 | outgrown => exact ⟨.outgrown,w',b,hq,harr.resolve_left (by simp [b]),rfl,trivial⟩
def roundPostP (P : Program) (l : Nat) (R : Ending → World → Prop) : Exit → Act → World → Prop
 | .panic ch,a,w => a.defers = [] ∧ R (.panicked ch) w
 | e,a,w => roundPost P l R e a w
theorem roundIn_of_wpInP {l : Nat} {f : FuncId} {tmps : Array Value} {assign body : Code} {w : World} {R : Ending → World → Prop} (hF : F.fn f) (hfd : ∃ x,P.funcs[f]? = some x)
  (h : assign.wpIn (F.inRound l) n P (Exit.then (fun a₁ w₁ => ∃ w₂,(Instr.beginRound l).run P w₁ = .ok () w₂ ∧ body.wpIn (F.inRound l) n P (roundPostP P l R) a₁ w₂) (fun _ _ _ => False))
   { tmps:=tmps,defers:=[] } w) :
  RoundIn F n P l f tmps assign body w R:=by
 refine ⟨hF,fun c cs hr => ?_⟩
 let b : Frame:={ (default : Frame) with fn:=f,kind:=.normal,roundOf:=some l }
 have hb0 : Frame.round l f tmps assign body .normal = b.atR { tmps:=tmps,defers:=[] } [.code assign,.beginRound,.code body]:=by
  simp [Frame.round,Frame.atR,b]
 have hr' : (F.inRound l).room ((c :: cs).length + 1 + n):=hr
 have hF' : (F.inRound l).fn b.fn:=hF
 obtain ⟨e,a₁,w₁,hq,harr⟩:=h b [.beginRound,.code body] (c :: cs) rfl hF' hr'
 rw [← hb0] at harr
 cases e with
 | normal =>
  obtain ⟨w₂,hbr,hbody⟩:=hq
  have s1 : StepsIn (Machine.fenced P (F.inRound l)) P (lone (b.atR a₁ [.beginRound,.code body]) (c :: cs) w₁) (lone (b.atR a₁ [.code body]) (c :: cs) w₂) :=
   .one (fenced_calm (fr:=b.atR a₁ [.beginRound,.code body]) hF' hr' rfl) (stepR_beginRound rfl hbr)
  obtain ⟨e₂,a₂,w₃,hq₂,harr₂⟩:=hbody b [] (c :: cs) rfl hF' hr'
  cases e₂ with
  | normal =>
   obtain ⟨v,w₄,hend,hR⟩:=hq₂
   exact ⟨.returned v,w₄,hR,(StepsIn.trans harr s1).trans (StepsIn.trans harr₂ (.one (fenced_calm (fr:=b.atR a₂ []) hF' hr' rfl) (stepR_round_end rfl rfl hend)))⟩
  | ret =>
   obtain ⟨v,w₄,hend,hR⟩:=hq₂
   obtain ⟨k₁,hs⟩:=harr₂.2 rfl
   exact ⟨.returned v,w₄,hR,(StepsIn.trans harr s1).trans (StepsIn.trans hs (.one (fenced_calm (fr:=b.atR a₂ (.code .ret :: k₁)) hF' hr' rfl) (stepR_round_ret rfl rfl hend)))⟩
  | exit id =>
   obtain ⟨v,w₄,hend,hR⟩:=hq₂
   obtain ⟨k₁,hk,hs⟩:=harr₂.2 rfl rfl
   exact ⟨.returned v,w₄,hR,(StepsIn.trans harr s1).trans (StepsIn.trans hs (.one (fenced_calm (fr:=b.atR a₂ (.code (.exit id) :: k₁)) hF' hr' rfl) (stepR_round_exit rfl rfl hk hend)))⟩
  | goto t =>
   obtain ⟨v,w₄,hend,hR⟩:=hq₂
   obtain ⟨k₁,hk,hs⟩:=harr₂.2 rfl rfl
   exact ⟨.returned v,w₄,hR,(StepsIn.trans harr s1).trans (StepsIn.trans hs (.one (fenced_calm (fr:=b.atR a₂ (.code (.goto t) :: k₁)) hF' hr' rfl) (stepR_round_goto rfl rfl hk hend)))⟩
  | panic chain =>
   obtain ⟨hd,hR⟩:=hq₂
   obtain ⟨todo,hs⟩:=harr₂
   have hl : ({ b.atR a₂ todo with mode:=.panicking chain } : Frame).leaving P w₃ (.panicked chain):=⟨rfl,hd,hfd⟩
   refine ⟨.panicked chain,w₃,hR,(StepsIn.trans harr s1).trans (StepsIn.trans hs (.one (fenced_leaving (F:=F.inRound l) (n:=n) hF' hr' hl) (step_leave_panicked hl)))⟩
  | outgrown => exact hq₂.elim
 | exit id => exact hq.elim
 | goto t => exact hq.elim
 | ret => exact hq.elim
 | panic chain => exact hq.elim
 | outgrown => exact hq.elim
def IterAtP (F : Fence) (n : Nat) (P : Program) (gf : Nat) (lb : Array Value) (encs : Nat → Array Value) (N M : Nat) (own : Nat → Prop) (Kp : World → World → Prop) (W : World) : Prop :=
 ∀ (l : Nat) (J : Nat → World → Prop) (Jx : World → Prop) (Jp : List PanicEntry → World → Prop),
  (∀ k X Y,J k X → Turn W.heap.size own X Y → J k Y) → (∀ X Y,Jx X → Turn W.heap.size own X Y → Jx Y) → (∀ c X Y,Jp c X → Turn W.heap.size own X Y → Jp c Y) →
  (∀ k X,k < N → J k X → M ≤ X.heap.size → YieldAt F (n - 1) P l (encs k) X fun e Y => (e = .returned (.bool true) ∧ J (k + 1) Y ∧ Kp X Y ∧ KeepsFrom W.heap.size X Y) ∨ (e = .returned (.bool false) ∧ Jx Y ∧ KeepsFrom W.heap.size X Y) ∨ (∃ ch,e = .panicked ch ∧ Jp ch Y ∧ KeepsFrom W.heap.size X Y)) →
  J 0 W → CallsIn F n P gf (#[.func (.yield l) #[] #[]] ++ lb) W fun e Y => ((∃ v,e = .returned v) ∧ (J N Y ∨ Jx Y)) ∨ (∃ ch,e = .panicked ch ∧ Jp ch Y)
def rpPost (B : Nat) (Kp : World → World → Prop) (I : World → Prop) (Ix : Code → World → Prop) (Ip : List PanicEntry → World → Prop) (W : World) : Exit → Act → World → Prop
 | .panic ch,a,W' => a.defers = [] ∧ KeepsFrom B W W' ∧ Ip ch W'
 | .normal,_,W' => KeepsFrom B W W' ∧ Kp W W' ∧ I W'
 | .ret,_,W' => KeepsFrom B W W' ∧ Ix .ret W'
 | .exit id,_,W' => KeepsFrom B W W' ∧ Ix (.exit id) W'
 | .goto t,_,W' => KeepsFrom B W W' ∧ Ix (.goto t) W'
 | .outgrown,_,_ => False
theorem rp_core {fn : FuncId} {tmps : Array Value} {dfr : Nat} {ps : Array Tmp} {assign body : Code} {Q : Exit → Act → World → Prop} {a' : Act} {B l : Nat} {W1 : World} {rec : LoopState → Option Code → Loop}
  (hrec : rec = fun st pe => { state:=st,pending:=pe,fn,tmps,params:=ps,assign,body,defers:=dfr }) (hfn : F.fn fn) (hfd : ∃ x,P.funcs[fn]? = some x)
  {gf : Nat} {lb : Array Value} {encs : Nat → Array Value} {N M : Nat} {own : Nat → Prop} {Kp : World → World → Prop} (hps : ∀ k,(encs k).size = ps.size)
  (hBl : B ≤ l) (hrow : ¬ own l) (hL1 : W1.heap[l]? = some (.loop (rec .ready none)))
  (hit : IterAtP F (n - 1) P gf lb encs N M own Kp W1)
  (hKt : ∀ {A B C : World},Kp A B → Kp B C → Kp A C) (hKb : ∀ (W : World) (o o' : Obj),W.heap[l]? = some o → o.isCells = false → Kp W (W.putObj l o'))
  (I : Nat → World → Prop) (Ix : Code → World → Prop) (Ip : List PanicEntry → World → Prop) (hIg : ∀ k X Y,I k X → Turn W1.heap.size own X Y → I k Y) (hIp : ∀ k X r o,I k X → X.heap[l]? = some (.loop r) → I k (X.putObj l o))
  (hXg : ∀ c X Y,Ix c X → Turn W1.heap.size own X Y → Ix c Y) (hXp : ∀ c X r o,Ix c X → X.heap[l]? = some (.loop r) → Ix c (X.putObj l o)) (hPg : ∀ ch X Y,Ip ch X → Turn W1.heap.size own X Y → Ip ch Y) (h0 : I 0 W1)
  (Ax : Nat → Act → World → Prop) (hAp : ∀ k b X r o,Ax k b X → X.heap[l]? = some (.loop r) → Ax k b (X.putObj l o))
  (hassign : ∀ (k : Nat) (W : World) (K : Act → World → Prop),k < N → I k W → M ≤ W.heap.size → (∀ b W',KeepsFrom B W W' → Kp W W' → I k W' → Ax k b W' → K b W') →
   assign.wpIn (F.inRound l) (n - 1 - 1) P (Exit.then K (fun _ _ _ => False)) { tmps:=(ps.zip (encs k)).foldl (fun t (p,v) => t.setIfInBounds p v) tmps,defers:=[] } W)
  (hbody : ∀ (k : Nat) (b : Act) (W : World),(∃ r,W.heap[l]? = some (.loop r)) → k < N → I k W → M ≤ W.heap.size → Ax k b W → body.wpIn (F.inRound l) (n - 1 - 1) P (rpPost B Kp (I (k + 1)) Ix Ip W) b W)
  (hdone : ∀ (W : World),I N W → Q .normal a' W) (hstop : ∀ (c : Code) (W : World),Ix c W → c.wpIn F n P Q a' W) (hpan : ∀ (ch : List PanicEntry) (W : World),Ip ch W → Q (.panic ch) a' W) :
  CallsIn F (n - 1) P gf (#[.func (.yield l) #[] #[]] ++ lb) W1 (rangePost F n P l Q a'):=by
 refine (hit l (fun k W => I k W ∧ W.heap[l]? = some (.loop (rec .ready none))) (fun W => ∃ c,Ix c W ∧ W.heap[l]? = some (.loop (rec .done (some c)))) Ip
  (fun k X Y hs hg => ⟨hIg k X Y hs.1 hg,hg.low hs.2 (Array.getElem?_eq_some_iff.1 hL1).1 hrow⟩)
  (fun X Y hs hg => by obtain ⟨c,hc,hl⟩:=hs; exact ⟨c,hXg c X Y hc hg,hg.low hl (Array.getElem?_eq_some_iff.1 hL1).1 hrow⟩) hPg ?_ ⟨h0,hL1⟩).mono ?_
 ·rintro k W hkN ⟨hi,hl⟩ hM
  have hy:=run_yield (P:=P) (args:=encs k) hl (by rw [hrec]; exact hps k)
  rw [hrec] at hy
  refine ⟨fn,_,assign,body,hy,roundIn_of_wpInP hfn hfd (hassign k W _ hkN hi hM ?_)⟩
  clear hy
  intro b Wa hkfa hkpa hia hax
  have hla:=hkfa.same _ _ hBl hl rfl
  have hlt : l < Wa.heap.size:=(Array.getElem?_eq_some_iff.1 hla).1
  refine ⟨_,run_beginRound hla (by rw [hrec]),?_⟩
  have hl2 : (Wa.putObj l (.loop { rec .ready none with state:=.busy })).heap[l]? = some (.loop { rec .ready none with state:=.busy }):=World.putObj_heap_same hlt
  have hw2 : Kp Wa (Wa.putObj l (.loop { rec .ready none with state:=.busy })):=hKb _ _ _ hla rfl
  refine wpIn_mono (hbody k b _ ⟨_,hl2⟩ hkN (hIp k _ _ _ hia hla) (Nat.le_trans hM (Nat.le_trans hkfa.size (by simp))) (hAp k b _ _ _ hax hla)) ?_
  have fin : ∀ (jump : Option Code) (W3 : World),KeepsFrom B (Wa.putObj l (.loop { rec .ready none with state:=.busy })) W3 →
    (Instr.endRound l jump).run P W3 = .ok (.bool jump.isNone) (W3.putObj l (.loop (rec (if jump.isNone then .ready else .done) jump))) ∧
    W3.heap[l]? = some (.loop { rec .ready none with state:=.busy }) ∧
    (W3.putObj l (.loop (rec (if jump.isNone then .ready else .done) jump))).heap[l]? = some (.loop (rec (if jump.isNone then .ready else .done) jump)):=fun jump W3 hk3 => by
   have hl3:=hk3.same _ _ hBl hl2 rfl
   have:=run_endRound (P:=P) jump hl3
   rw [hrec] at this ⊢
   exact ⟨this,by rw [hrec] at hl3; exact hl3,World.putObj_heap_same (Array.getElem?_eq_some_iff.1 hl3).1⟩
  have hsl : l < W1.heap.size:=(Array.getElem?_eq_some_iff.1 hL1).1
  have kp : ∀ (X : World) (o : Obj),KeepsFrom W1.heap.size X (X.putObj l o):=fun X o => ⟨by simp,fun k o' hk h1 _ => (World.putObj_heap_other (by omega)).trans h1⟩
  have hBW : B ≤ W1.heap.size:=by omega
  have up : ∀ {X Y : World},KeepsFrom B X Y → KeepsFrom W1.heap.size X Y:=fun h => ⟨h.size,fun k o hk h1 h2 => h.same k o (by omega) h1 h2⟩
  have kall : ∀ {W3 : World} (o : Obj),KeepsFrom B (Wa.putObj l (.loop { rec .ready none with state:=.busy })) W3 → KeepsFrom W1.heap.size W (W3.putObj l o):=fun o h => (up hkfa).trans ((kp _ _).trans ((up h).trans (kp _ _)))
  rintro e a3 W3 hp
  cases e with
  | normal =>
   obtain ⟨hk3,hkp3,hi3⟩:=hp
   obtain ⟨hr,hl3,hl4⟩:=fin none W3 hk3
   exact ⟨_,_,hr,.inl ⟨rfl,⟨hIp _ _ _ _ hi3 hl3,hl4⟩,hKt hkpa (hKt (hKt hw2 hkp3) (hKb _ _ _ hl3 rfl)),kall _ hk3⟩⟩
  | ret =>
   obtain ⟨hk3,hi3⟩:=hp
   obtain ⟨hr,hl3,hl4⟩:=fin (some .ret) W3 hk3
   exact ⟨_,_,hr,.inr (.inl ⟨rfl,⟨.ret,hXp _ _ _ _ hi3 hl3,hl4⟩,kall _ hk3⟩)⟩
  | exit id =>
   obtain ⟨hk3,hi3⟩:=hp
   obtain ⟨hr,hl3,hl4⟩:=fin (some (.exit id)) W3 hk3
   exact ⟨_,_,hr,.inr (.inl ⟨rfl,⟨.exit id,hXp _ _ _ _ hi3 hl3,hl4⟩,kall _ hk3⟩)⟩
  | goto t =>
   obtain ⟨hk3,hi3⟩:=hp
   obtain ⟨hr,hl3,hl4⟩:=fin (some (.goto t)) W3 hk3
   exact ⟨_,_,hr,.inr (.inl ⟨rfl,⟨.goto t,hXp _ _ _ _ hi3 hl3,hl4⟩,kall _ hk3⟩)⟩
  | panic ch =>
   obtain ⟨hd,hk3,hi3⟩:=hp
   exact ⟨hd,.inr (.inr ⟨ch,rfl,hi3,(up hkfa).trans ((kp _ _).trans (up hk3))⟩)⟩
  | outgrown => exact hp.elim
 ·rintro e W2 (⟨⟨v,rfl⟩,(⟨hi,hl⟩ | ⟨c,hi,hl⟩)⟩ | ⟨ch,rfl,hi⟩)
  ·exact ⟨none,_,by have:=run_endLoop (P:=P) hl (by rw [hrec]; simp); rw [hrec] at this; exact this,hdone _ (hIp _ _ _ _ hi hl)⟩
  ·exact ⟨some c,_,by have:=run_endLoop (P:=P) hl (by rw [hrec]; simp); rw [hrec] at this; exact this,hstop c _ (hXp _ _ _ _ hi hl)⟩
  ·exact hpan ch _ hi
theorem rp_outer {g : Operand} {ps : Array Tmp} {assign body : Code} {Q : Exit → Act → World → Prop} {a : Act} {w : World}
  {fn : FuncId} (hfn : F.fn fn) (hro : F.round = none) (hfd : ∃ x,P.funcs[fn]? = some x) (h1 : 1 ≤ n) {gf : Nat} {lb : Array Value} (hg : a.eval g = .func (.func gf) #[] lb) (hFg : F.fn gf) (eg : ∀ args w,(callFunc gf args).run P w = .ok (.enter gf args) w)
  {encs : Nat → Array Value} {N M : Nat} {own : Nat → Prop} {Kp : World → World → Prop} (hps : ∀ k,(encs k).size = ps.size) (hrow : ∀ b,own b → b ≠ w.heap.size ∧ b ≠ w.heap.size + 1)
  (hit : ∀ W,Below w.heap.size w W → W.heap.size = w.heap.size + 2 → IterAtP F (n - 1) P gf lb encs N M own Kp W)
  (hKt : ∀ {A B C : World},Kp A B → Kp B C → Kp A C) (hKb : ∀ (W : World) (o o' : Obj),W.heap[w.heap.size + 1]? = some o → o.isCells = false → Kp W (W.putObj (w.heap.size + 1) o'))
  (I : Nat → World → Prop) (Ix : Code → World → Prop) (Ip : List PanicEntry → World → Prop) (hI : ∀ k X Y,I k X → Turn w.heap.size own X Y → I k Y) (hIx : ∀ c X Y,Ix c X → Turn w.heap.size own X Y → Ix c Y) (hIp : ∀ c X Y,Ip c X → Turn w.heap.size own X Y → Ip c Y) (h0 : I 0 w)
  (Ax : Nat → Act → World → Prop) (hAx : ∀ k b X Y,Ax k b X → Turn w.heap.size own X Y → Ax k b Y)
  (hassign : ∀ (l k : Nat) (W : World) (K : Act → World → Prop),k < N → I k W → M ≤ W.heap.size → (∀ b W',KeepsFrom w.heap.size W W' → Kp W W' → I k W' → Ax k b W' → K b W') →
   assign.wpIn (F.inRound l) (n - 1 - 1) P (Exit.then K (fun _ _ _ => False)) { tmps:=(ps.zip (encs k)).foldl (fun t (p,v) => t.setIfInBounds p v) a.tmps,defers:=[] } W)
  (hbody : ∀ (l k : Nat) (b : Act) (W : World),w.heap.size ≤ l → (∃ r,W.heap[l]? = some (.loop r)) → k < N → I k W → M ≤ W.heap.size → Ax k b W → body.wpIn (F.inRound l) (n - 1 - 1) P (rpPost w.heap.size Kp (I (k + 1)) Ix Ip W) b W)
  (hdone : ∀ (D : Nat) (W : World),w.heap.size ≤ D → I N W → W.heap[D]? = some (.deferred (some [])) → Q .normal { a with defers:={ target:=.collected D,args:=#[] } :: a.defers } W)
  (hstop : ∀ (D : Nat) (c : Code) (W : World),w.heap.size ≤ D → Ix c W → W.heap[D]? = some (.deferred (some [])) → c.wpIn F n P Q { a with defers:={ target:=.collected D,args:=#[] } :: a.defers } W)
  (hpan : ∀ (D : Nat) (ch : List PanicEntry) (W : World),w.heap.size ≤ D → Ip ch W → W.heap[D]? = some (.deferred (some [])) → Q (.panic ch) { a with defers:={ target:=.collected D,args:=#[] } :: a.defers } W) :
  WpAt fn F n P (Code.rangeFunc g ps assign body) Q a w:=by
 refine wpAt_rangeFunc hfn ?_
 rw [hro]
 obtain ⟨rec,hrec⟩ : ∃ rec : LoopState → Option Code → Loop,rec = fun st pe => { state:=st,pending:=pe,fn,tmps:=a.tmps,params:=ps,assign,body,defers:=w.heap.size }:=⟨_,rfl⟩
 obtain ⟨W1,hW1⟩ : ∃ W1,(w.alloc (.deferred (some []))).alloc (.loop (rec .ready none)) = W1:=⟨_,rfl⟩
 have hL1 : W1.heap[w.heap.size + 1]? = some (.loop (rec .ready none)):=by
  rw [← hW1]; have:=World.alloc_heap_new (w.alloc (.deferred (some []))) (.loop (rec .ready none)); rwa [World.size_alloc] at this
 have hK1 : W1.heap[w.heap.size]? = some (.deferred (some [])):=by
  rw [← hW1]; exact (Below.heap_alloc _ _ _ (by simp)).trans (World.alloc_heap_new w _)
 have hI1 : I 0 W1:=by rw [← hW1]; exact hI _ _ _ (hI _ _ _ h0 (.alloc _ _)) (.alloc _ _)
 have hb1 : Below w.heap.size w W1:=by
  rw [← hW1]; exact ((Below.refl _ w).alloc (Nat.le_refl _) _).alloc (by simp) _
 have hs1 : W1.heap.size = w.heap.size + 2:=by rw [← hW1]; simp
 have hr0 : ¬ own w.heap.size:=fun e => (hrow _ e).1 rfl
 have hr1 : ¬ own (w.heap.size + 1):=fun e => (hrow _ e).2 rfl
 refine ⟨w.heap.size + 1,[{ target:=.collected w.heap.size,args:=#[] }],W1,{ target:=.fn (.func gf) lb,args:=#[.func (.yield (w.heap.size + 1)) #[] #[]] },W1,gf,
  #[.func (.yield (w.heap.size + 1)) #[] #[]] ++ lb,W1,?_,?_,?_,?_,fun _ => h1,?_⟩
 ·rw [← hW1,hrec]; exact run_enterLoop_outer _ _ _ _ _
 ·simp only [resolve,hg]
  simp [go_sem]
 ·intro f' hf'; simp [Target.leads] at hf'; subst hf'; exact hFg
 ·simp [invoke,go_sem,eg]
 ·have hne : w.heap.size ≠ w.heap.size + 1:=by omega
  refine rp_core hrec hfn hfd (B:=w.heap.size) hps (by omega) hr1 hL1 (hit W1 hb1 hs1) hKt hKb
   (fun k W => I k W ∧ W.heap[w.heap.size]? = some (.deferred (some []))) (fun c W => Ix c W ∧ W.heap[w.heap.size]? = some (.deferred (some []))) (fun c W => Ip c W ∧ W.heap[w.heap.size]? = some (.deferred (some [])))
   (fun k X Y hs hg => ⟨hI _ _ _ hs.1 (hg.mono (by omega) fun _ h => h),hg.low hs.2 (by omega) hr0⟩)
   (fun k X r o hs hl => ⟨hI _ _ _ hs.1 (.putObj _ (by omega) hl rfl),(World.putObj_heap_other hne).trans hs.2⟩)
   (fun c X Y hs hg => ⟨hIx _ _ _ hs.1 (hg.mono (by omega) fun _ h => h),hg.low hs.2 (by omega) hr0⟩)
   (fun c X r o hs hl => ⟨hIx _ _ _ hs.1 (.putObj _ (by omega) hl rfl),(World.putObj_heap_other hne).trans hs.2⟩)
   (fun c X Y hs hg => ⟨hIp _ _ _ hs.1 (hg.mono (by omega) fun _ h => h),hg.low hs.2 (by omega) hr0⟩)
   ⟨hI1,hK1⟩ Ax (fun k b X r o hs hl => hAx _ _ _ _ hs (.putObj _ (by omega) hl rfl)) ?_ ?_ ?_ ?_ ?_
  ·intro k W K hk hi hM hK
   exact hassign _ k W K hk hi.1 hM (fun b W' h1 h2 h3 h4 => hK b W' h1 h2 ⟨h3,h1.same _ _ (Nat.le_refl _) hi.2 rfl⟩ h4)
  ·intro k b W hr hk hi hM ha
   refine wpIn_mono (hbody _ k b W (by omega) hr hk hi.1 hM ha) ?_
   intro e a3 W3 hp
   cases e with
   | normal => exact ⟨hp.1,hp.2.1,hp.2.2,hp.1.same _ _ (Nat.le_refl _) hi.2 rfl⟩
   | ret => exact ⟨hp.1,hp.2,hp.1.same _ _ (Nat.le_refl _) hi.2 rfl⟩
   | exit id => exact ⟨hp.1,hp.2,hp.1.same _ _ (Nat.le_refl _) hi.2 rfl⟩
   | goto t => exact ⟨hp.1,hp.2,hp.1.same _ _ (Nat.le_refl _) hi.2 rfl⟩
   | panic ch => exact ⟨hp.1,hp.2.1,hp.2.2,hp.2.1.same _ _ (Nat.le_refl _) hi.2 rfl⟩
   | outgrown => exact hp
  ·exact fun W hi => hdone _ W (Nat.le_refl _) hi.1 hi.2
  ·exact fun c W hi => hstop _ c W (Nat.le_refl _) hi.1 hi.2
  ·exact fun ch W hi => hpan _ ch W (Nat.le_refl _) hi.1 hi.2
theorem rp_outerE {fn : FuncId} {g : Operand} {ps : Array Tmp} {assign body : Code} {Q : Exit → Act → World → Prop} {a : Act} {w : World}
  (hfn : F.fn fn) (hro : F.round = none) (hfd : ∃ x,P.funcs[fn]? = some x) (h1 : 1 ≤ n) {gf : Nat} {lb : Array Value} (hg : a.eval g = .func (.func gf) #[] lb) (hFg : F.fn gf) (eg : ∀ args w,(callFunc gf args).run P w = .ok (.enter gf args) w)
  {encs : Nat → Array Value} {N M : Nat} {own : Nat → Prop} {Kp : World → World → Prop} (hps : ∀ k,(encs k).size = ps.size) (hrow : ∀ b,own b → b ≠ w.heap.size ∧ b ≠ w.heap.size + 1)
  (hit : ∀ W,Below w.heap.size w W → W.heap.size = w.heap.size + 2 → IterAtP F (n - 1) P gf lb encs N M own Kp W)
  (hKt : ∀ {A B C : World},Kp A B → Kp B C → Kp A C) (hKb : ∀ (W : World) (o o' : Obj),W.heap[w.heap.size + 1]? = some o → o.isCells = false → Kp W (W.putObj (w.heap.size + 1) o'))
  (I : Nat → World → Prop) (Ix : Code → World → Prop) (Ip : List PanicEntry → World → Prop) (hI : ∀ k X Y,I k X → Turn w.heap.size own X Y → I k Y) (hIx : ∀ c X Y,Ix c X → Turn w.heap.size own X Y → Ix c Y) (hIp : ∀ c X Y,Ip c X → Turn w.heap.size own X Y → Ip c Y) (h0 : I 0 w)
  (hE : ∃ A2 : Nat → Act,(∀ (l k : Nat) (W : World) (K : Act → World → Prop),k < N → I k W → M ≤ W.heap.size → (∀ W',KeepsFrom w.heap.size W W' → Kp W W' → I k W' → K (A2 k) W') →
    assign.wpIn (F.inRound l) (n - 1 - 1) P (Exit.then K (fun _ _ _ => False)) { tmps:=(ps.zip (encs k)).foldl (fun t (p,v) => t.setIfInBounds p v) a.tmps,defers:=[] } W) ∧
   (∀ (l k : Nat) (W : World),w.heap.size ≤ l → (∃ r,W.heap[l]? = some (.loop r)) → k < N → I k W → M ≤ W.heap.size → body.wpIn (F.inRound l) (n - 1 - 1) P (rpPost w.heap.size Kp (I (k + 1)) Ix Ip W) (A2 k) W) ∧ (∀ (D : Nat) (W : World),w.heap.size ≤ D → I N W → W.heap[D]? = some (.deferred (some [])) → Q .normal { a with defers:={ target:=.collected D,args:=#[] } :: a.defers } W) ∧ (∀ (D : Nat) (c : Code) (W : World),w.heap.size ≤ D → Ix c W → W.heap[D]? = some (.deferred (some [])) → c.wpIn F n P Q { a with defers:={ target:=.collected D,args:=#[] } :: a.defers } W) ∧
   (∀ (D : Nat) (ch : List PanicEntry) (W : World),w.heap.size ≤ D → Ip ch W → W.heap[D]? = some (.deferred (some [])) → Q (.panic ch) { a with defers:={ target:=.collected D,args:=#[] } :: a.defers } W)) :
  WpAt fn F n P (Code.rangeFunc g ps assign body) Q a w:=by
 obtain ⟨A2,h1',h2',h3',h4',h5'⟩:=hE
 exact rp_outer hfn hro hfd h1 hg hFg eg hps hrow hit hKt hKb I Ix Ip hI hIx hIp h0 (fun k b _ => b = A2 k) (fun _ _ _ _ h _ => h) (fun l k W K hk hi hM hK => h1' l k W K hk hi hM (fun W' a b c => hK _ W' a b c rfl)) (fun l k b W hl hr hk hi hM hb => by subst hb; exact h2' l k W hl hr hk hi hM) h3' h4' h5'
end
end Go.Proofs.YtfacmnooklljnaaGreatDoor
namespace Go.Proofs.YtfacmnooklljnaaGreatDoor
open Go.RowKit
set_option maxHeartbeats 4000000
set_option maxRecDepth 100000
section
variable {P : Program} {ops : Array Oper} {Q : Exit → Act → World → Prop} {l n : Nat}
theorem region_last6R {id : Nat} {a0 : Act} {w0 : World} (m : Nat) (slot : Nat → Nat) (F : (Nat → Bool) → Nat → World → Value → Prop) (T : (Nat → Bool) → World → Prop) (hm : P.follows .mixedOrders = true) (hb : backB .any ops = true) (hbG : backG .any ops = true) (hnd : noDefer ops = true) (hng : ∀ (i : Nat) (o : Oper),ops[i]? = some o → o.guard = none)
  (hsz : ops.size = m + 1) (hanc : ((List.range m).all fun j => (ancOf .any ops m m).contains j) = true)
  (hs : ∀ i,slot i < a0.tmps.size) (hinj : ∀ i j,i < m → j < m → slot i = slot j → i = j) (h0 : T (fun _ => false) w0.drew)
  (hdst : ∀ i o,i < m → ops[i]? = some o → o.dst = some (slot i))
  (hstep : ∀ (f : Nat → Bool) (a : Act) (w : World) (i : Nat) (o : Oper),i < m → ops[i]? = some o → f i = false → (∀ e ∈ o.after,Region.binds .any e = true → f e.on = true ∧ F f e.on w (a.tmps.getD (slot e.on) undef)) → T f w →
   (∀ j,(∀ i,i < m → slot i ≠ j) → a.tmps.getD j undef = a0.tmps.getD j undef) → a.defers = a0.defers →
   o.wp P a w (fun a' w' => ∃ v,a' = a.put o.dst v ∧ F (fun j => if j = i then true else f j) i w' v ∧ T (fun j => if j = i then true else f j) w' ∧ ∀ j v',f j = true → F f j w v' → F (fun j => if j = i then true else f j) j w' v') Q)
  (hlast : ∀ (f : Nat → Bool) (vs : Nat → Value) (w : World) (o : Oper),ops[m]? = some o → (∀ i,i < m → f i = true) → T f w → (∀ i,i < m → F f i w (vs i)) →
   o.wp P { a0 with tmps:=fillN slot vs m a0.tmps } w (fun a' w' => Q .normal a' w') Q) :
  (Code.region id ops true).wpIn (Fence.wide.inRound l) n P Q a0 w0:=by
 refine region_invR hnd hm hbG (fun f a w => ShutF .any ops f ∧ (f m = false → Stand3 a0 m slot F T f a w) ∧ (f m = true → Q .normal a w))
  ⟨(fun i h => by cases h),(fun _ => ⟨rfl,rfl,(fun _ _ => rfl),(fun _ _ _ => rfl),h0,(fun _ _ h => by cases h)⟩),(fun h => by cases h)⟩ ?_ ?_
 ·rintro f a w i o ho hf hpre ⟨hc,h1,h2⟩
  rw [if_pos (by unfold Region.wanted; rw [hng i o ho])]
  have hi:=(Array.getElem?_eq_some_iff.1 ho).1
  have hee:=edges_of ho hpre
  have hc' : ShutF .any ops (fun j => if j = i then true else f j):=by
   intro x hx y hy
   show (if y = i then true else f y) = true
   by_cases hyi : y = i
   ·rw [if_pos hyi]
   ·rw [if_neg hyi]
    by_cases hxi : x = i
    ·subst hxi; exact hee y hy
    ·exact hc x (by simpa [hxi] using hx) y hy
  have hpres : ∀ {g : Nat → Bool},ShutF .any ops g → (∀ j ∈ edgesOf .any ops m,g j = true) → ∀ j,j < m → g j = true:=fun hg he j hj => by
   have h4:=List.all_eq_true.1 hanc j (List.mem_range.2 hj)
   exact anc_true hg m m he j (by simpa using h4)
  by_cases him : i = m
  ·subst him
   have hI:=h1 hf
   have hall:=hpres hc hee
   have e : a = { a0 with tmps:=fillN slot (fun j => a.tmps.getD (slot j) undef) i a0.tmps }:=by
    have h5 : a.tmps = fillN slot (fun j => a.tmps.getD (slot j) undef) i a0.tmps:=by
     refine ext_getD (by rw [fillN_size,hI.size]) (fun j => ?_)
     by_cases hj : ∃ k,k < i ∧ slot k = j
     ·obtain ⟨k,hk,rfl⟩:=hj
      rw [fillN_at slot _ _ hs _ hinj k hk]
     ·rw [fillN_get slot _ _ hs _ j (fun k hk e => hj ⟨k,hk,e⟩),hI.rest j (fun k hk e => hj ⟨k,hk,e⟩)]
    obtain ⟨t,d⟩:=a
    have h6:=hI.defers
    simp only at h5 h6
    rw [← h5,h6]
   have h7:=hlast f (fun j => a.tmps.getD (slot j) undef) w o ho hall hI.told (fun j hj => hI.have_ j hj (hall j hj))
   rw [← e] at h7
   exact Oper.wp_mono (fun a' w' hT => ⟨hc',fun h => by simp at h,fun _ => hT⟩) h7
  ·have hlt : i < m:=by omega
   have hfm : f m = false:=by
    cases hfm : f m with
    | false => rfl
    | true =>
     have:=hpres hc (hc m hfm) i hlt
     rw [hf] at this
     cases this
   have hI:=h1 hfm
   refine Oper.wp_mono ?_ (hstep f a w i o hlt ho hf (fun e he hbd => ⟨hpre e he hbd,hI.have_ e.on (by have:=(back_of hb ho).2 e he hbd; omega) (hpre e he hbd)⟩) hI.told hI.rest hI.defers)
   rintro a' w' ⟨v,rfl,hv,ht,hst⟩
   rw [hdst i o hlt ho]
   have hsl : slot i < a.tmps.size:=by rw [hI.size]; exact hs i
   refine ⟨hc',fun _ => ⟨hI.defers,by rw [← hI.size]; exact Array.size_setIfInBounds ..,fun j hj => ?_,fun j hj hfj => ?_,ht,fun j hj hfj => ?_⟩,fun h => ?_⟩
   ·show (a.tmps.setIfInBounds (slot i) v).getD j undef = _
    rw [getD_set _ _ _ _ hsl,if_neg (Ne.symm (hj i hlt))]
    exact hI.rest j hj
   ·show (a.tmps.setIfInBounds (slot i) v).getD (slot j) undef = _
    have hji : j ≠ i:=fun e => by simp [e] at hfj
    rw [getD_set _ _ _ _ hsl,if_neg (fun e => hji (hinj j i hj hlt e))]
    exact hI.yet j hj (by simpa [hji] using hfj)
   ·show F (fun j => if j = i then true else f j) j w' ((a.tmps.setIfInBounds (slot i) v).getD (slot j) undef)
    rw [getD_set _ _ _ _ hsl]
    by_cases hji : j = i
    ·subst hji; rw [if_pos rfl]; exact hv
    ·rw [if_neg (fun e => hji (hinj j i hj hlt e))]
     have h2 : f j = true:=by simpa [hji] using hfj
     exact hst j _ h2 (hI.have_ j hj h2)
   ·have h' : (if m = i then true else f m) = true:=h
    rw [if_neg (Ne.symm him),hfm] at h'; cases h'
 ·rintro f a w hall ⟨_,_,h3⟩
  exact h3 (hall m (by omega))
end
section
variable {F : Fence} {n : Nat} {P : Program} {Q : Exit → Act → World → Prop} {a : Act} {w : World} {f : FuncId}
theorem wpAt_block {id : Nat} {c : Code} (h : WpAt f F n P c (Exit.inBlock id Q) a w) : WpAt f F n P (Code.block id c) Q a w:=by
 intro b k cs hro hbf hF hr
 have hb : F.fn b.fn:=hbf ▸ hF
 have h0 : (lone (b.atR a (.code (.block id c) :: k)) cs w).fenced P F:=fenced_calm (fr:=b.atR a (.code (.block id c) :: k)) hb hr rfl
 obtain ⟨e,a₁,w₁,hq,harr⟩:=h b (.inBlock id :: k) cs hro hbf hF hr
 cases e with
 | normal => exact ⟨.normal,a₁,w₁,hq,.head h0 stepR_block (StepsIn.trans harr (.one (fenced_calm (fr:=b.atR a₁ (.inBlock id :: k)) hb hr rfl) stepR_inBlock))⟩
 | exit id' =>
  by_cases hid : id' = id
  ·simp only [Exit.inBlock,hid,if_true] at hq
   exact ⟨.normal,a₁,w₁,hq,.head h0 stepR_block (harr.1 k (by simp [exitTo,hid]))⟩
  ·simp only [Exit.inBlock,hid,if_false] at hq
   have this : (id == id') = false:=by simp; exact fun h => hid h.symm
   have hx : exitTo id' (.inBlock id :: k) = exitTo id' k:=by simp [exitTo,this]
   exact ⟨.exit id',a₁,w₁,hq,fun k' hk => .head h0 stepR_block (harr.1 k' (by rw [hx]; exact hk)),
    fun hr' hk => let ⟨k₁,h1,h2⟩:=harr.2 hr' (by rw [hx]; exact hk); ⟨k₁,h1,.head h0 stepR_block h2⟩⟩
 | goto l =>
  have hx : gotoIn l (.inBlock id :: k) = gotoIn l k:=by simp [gotoIn]
  exact ⟨_,a₁,w₁,hq,fun k' hk => .head h0 stepR_block (harr.1 k' (by rw [hx]; exact hk)),
   fun hr' hk => let ⟨k₁,h1,h2⟩:=harr.2 hr' (by rw [hx]; exact hk); ⟨k₁,h1,.head h0 stepR_block h2⟩⟩
 | ret => exact ⟨_,a₁,w₁,hq,.of_steps (.one h0 stepR_block) harr⟩
 | panic ch => exact ⟨_,a₁,w₁,hq,.of_steps (.one h0 stepR_block) harr⟩
 | outgrown => exact ⟨_,a₁,w₁,hq,.of_steps (.one h0 stepR_block) harr⟩
theorem stepR_scopeC {b : Frame} {k : List Item} {cs : List Frame} {c : Code} : step P (lone (b.atR a (.code (.scope c) :: k)) cs w) = .next (lone (b.atR a (.code c :: .inScope c :: k)) cs w) :=
 step_lone_go (by simp [stepG,stepG.exec,Frame.atR])
theorem stepR_inScopeC {b : Frame} {k : List Item} {cs : List Frame} {c : Code} : step P (lone (b.atR a (.inScope c :: k)) cs w) = .next (lone (b.atR a k) cs w) :=
 step_lone_go (by simp [stepG,stepG.exec,Frame.atR])
theorem wpAt_scope {c : Code} (hro : F.round = none) (h : WpAt f F n P c (Exit.noGoto Q) a w) : WpAt f F n P (Code.scope c) Q a w:=by
 intro b k cs hrb hbf hF hr
 have hb : F.fn b.fn:=hbf ▸ hF
 have hbr : b.roundOf = none:=hrb.trans hro
 have h0 : (lone (b.atR a (.code (.scope c) :: k)) cs w).fenced P F:=fenced_calm (fr:=b.atR a (.code (.scope c) :: k)) hb hr rfl
 obtain ⟨e,a₁,w₁,hq,harr⟩:=h b (.inScope c :: k) cs hrb hbf hF hr
 cases e with
 | normal => exact ⟨.normal,a₁,w₁,hq,.head h0 stepR_scopeC (StepsIn.trans harr (.one (fenced_calm (fr:=b.atR a₁ (.inScope c :: k)) hb hr rfl) stepR_inScopeC))⟩
 | exit id => exact ⟨.exit id,a₁,w₁,hq,fun k' hk => .head h0 stepR_scopeC (harr.1 k' (by simp [exitTo,hk])),fun hs => by rw [hbr] at hs; cases hs⟩
 | goto l => exact hq.elim
 | ret => exact ⟨_,a₁,w₁,hq,.of_steps (.one h0 stepR_scopeC) harr⟩
 | panic ch => exact ⟨_,a₁,w₁,hq,.of_steps (.one h0 stepR_scopeC) harr⟩
 | outgrown => exact ⟨_,a₁,w₁,hq,.of_steps (.one h0 stepR_scopeC) harr⟩
end
end Go.Proofs.YtfacmnooklljnaaGreatDoor
namespace Go.Proofs.YtfacmnooklljnaaGreatDoor
open Go.RowKit Go.Shelf
attribute [local go_sem] Oper.semAt_some
set_option maxHeartbeats 8000000
set_option maxRecDepth 100000
theorem turn_belowY {B : Nat} {own : Nat → Prop} {W W' : World} (h : Below W.heap.size W W') : Turn B own W W' :=
 ⟨h.os,h.tape,h.output,h.size,fun k hk _ _ => h.block k hk⟩
theorem boxed_below {W W' : World} {B : Nat} {t : TypeId} {v : Value} (h : Boxed W B t v) (hb : Below W.heap.size W W') : Boxed W' B t v:=(hb.block _ h.lt).trans h
theorem every1_it (m S C : Nat) (by_ : Int) (l : List UInt8) (hby : 0 ≤ by_ ∧ by_ < 256) (hl : l.length ≤ 100000) (own : Nat → Prop) (Kp : World → World → Prop) (W : World) (hSC : S ≠ C) (hoS : own S) (hoC : ¬ own C)
  (hKS : ∀ X Y v,Kp X Y → Boxed X S 9 v → Boxed Y S 9 v) (hKC : ∀ X Y v,Kp X Y → Boxed X C 5 v → Boxed Y C 5 v)
  (hS : Boxed W S 9 (tx l)) (hC : Boxed W C 5 (.int .u8 by_)) (M : Nat) (hM : M ≤ W.heap.size) :
  IterAtP Fence.wide m Tryz.prog 200 #[.pointer (some ⟨S,0,none⟩),.pointer (some ⟨C,0,none⟩)] (fun k => #[.int .i64 k,tx ((Ap.all l by_).getD k [])]) (Ap.all l by_).length M own Kp W:=by
 intro q J Jx Jp hJ hJx hJp hY h0
 have HL:=Lib.hid hl
 have HBY:=Lib.hid hby
 have HS:=Lib.hid hS
 have HC:=Lib.hid hC
 have HLN:=Lib.hid (Ap.all_len l by_)
 have HPOS:=Lib.hid (Ap.all_len_pos l by_)
 obtain ⟨N,hN⟩ : ∃ z,(Ap.all l by_).length = z:=⟨_,rfl⟩
 rw [hN] at hY HLN HPOS ⊢
 have HN:=Lib.hid hN
 have TC:=Lib.hid (fun (s : List UInt8) W (h : s.length ≤ 100000) => tok_cut ⟨s.toArray⟩ by_ W hby.1 hby.2 (by simp [ByteArray.size]; omega))
 have hNb : N ≤ 100001:=by have:=HLN.out; omega
 clear hS hC hN hl hby
 refine callsIn_of_wp Tryz.func200 rfl trivial ?_ rfl
 simp only [Tryz.ntmps200,List.size_toArray,List.length_cons,List.length_nil,Nat.reduceAdd,Nat.reduceSub,Array.replicate_succ,Array.replicate_zero,List.push_toArray,List.append_toArray,List.nil_append,List.cons_append]
 gi_wp2
 gi_loopw [4] (fun i wr => ∃ k : Nat,k < N ∧ i = .int .i64 k ∧ J k wr ∧ Boxed wr S 9 (tx (Ap.restA k l by_)) ∧ Boxed wr C 5 (.int .u8 by_) ∧ M ≤ wr.heap.size) (fun i _ => N - (intOf i).toNat)
 case atStart => exact ⟨0,HPOS.out,rfl,h0,HS.out,HC.out,hM⟩
 case round =>
  obtain ⟨k,hk,rfl,hj,hs,hc,hmr⟩:=hrel
  obtain ⟨a1,a2,a3⟩:=Ap.all_at k l by_ (by rw [HN.out]; exact hk)
  rw [HN.out] at a2
  obtain ⟨r,hr⟩ : ∃ r,Ap.restA k l by_ = r:=⟨_,rfl⟩
  have hsucc:=Ap.restA_succ k l by_
  rw [hr] at a1 a2 a3 hs hsucc
  have KT:=TC.out r wr (by have:=HL.out; omega)
  obtain ⟨c1,hc1⟩ : ∃ z,(Tp.cut r by_).1 = z:=⟨_,rfl⟩
  obtain ⟨c2,hc2⟩ : ∃ z,(Tp.cut r by_).2.1 = z:=⟨_,rfl⟩
  obtain ⟨f,hf⟩ : ∃ z,(Tp.cut r by_).2.2 = z:=⟨_,rfl⟩
  rw [hc1,hc2,hf] at KT
  rw [hc1] at a1
  rw [hf] at a2
  rw [hc2] at hsucc
  have YK:=fun X hj hm => hY k X hk hj hm
  rw [a1] at YK
  unfold tx at hs KT YK
  obtain ⟨rb,hrb⟩ : ∃ z : ByteArray,(⟨r.toArray⟩ : ByteArray) = z:=⟨_,rfl⟩
  obtain ⟨b1,hb1⟩ : ∃ z : ByteArray,(⟨c1.toArray⟩ : ByteArray) = z:=⟨_,rfl⟩
  obtain ⟨b2,hb2⟩ : ∃ z : ByteArray,(⟨c2.toArray⟩ : ByteArray) = z:=⟨_,rfl⟩
  rw [hrb] at hs KT
  rw [hb1] at KT YK
  rw [hb2] at KT
  have HT2:=Lib.hid (show tx (Ap.restA (k + 1) l by_) = .string b2 by rw [hsucc]; unfold tx; rw [hb2])
  have KTH:=Lib.hid KT
  have HA2:=Lib.hid a2
  have HJ:=Lib.hid hj
  have HS2:=Lib.hid hs
  have HC2:=Lib.hid hc
  have cS:=hs.cell
  have cC:=hc.cell
  clear KT a1 a2 a3 hj hs hc hr hsucc hc1 hc2 hf hrb hb1 hb2
  gi_wp2_with fail
  refine ⟨trivial,(fun h => by cases h),(callsIn_wide.2 KTH.out).mono ?_⟩
  rintro e w1 ⟨rfl,hb⟩
  have hj1:=hJ _ _ _ HJ.out (turn_belowY (B:=W.heap.size) (own:=own) hb)
  have HS3:=Lib.hid (boxed_below HS2.out hb)
  have HC3:=Lib.hid (boxed_below HC2.out hb)
  have fS:=HS3.out.frozen
  have hm1 : M ≤ w1.heap.size:=Nat.le_trans hmr hb.size
  obtain ⟨fn,tmps,assign,body,hy,hR⟩:=YK w1 hj1 hm1
  clear hb cS cC
  gi_wp2
  refine ⟨(fun h => by cases h),hR.mono ?_⟩
  rintro z Y (⟨rfl,hj',hkp,hkf⟩ | ⟨rfl,hjx,hkf⟩ | ⟨ch,rfl,hjp,hkf⟩)
  ·have HS4:=Lib.hid (hKS _ _ _ hkp HS3.out)
   have HC4:=Lib.hid (hKC _ _ _ hkp HC3.out)
   have fS4:=HS4.out.frozen
   have cS4:=HS4.out.cell
   clear hy fS hj1
   cases f with
   | true =>
    have hk1 : k + 1 < N:=HA2.out.1 rfl
    have hadd : IntKind.i64.wrap ((k : Int) + 1) = (k : Int) + 1:=by simp [IntKind.wrap,IntKind.bits,IntKind.signed]; omega
    have HJ5:=Lib.hid (hJ _ _ _ hj' (Turn.setCell (B:=W.heap.size) Y S 0 (.string b2) hoS))
    gi_wp2
    go_roundw
    case rel => exact ⟨k + 1,hk1,by go_num,HJ5.out,by rw [HT2.out]; exact HS4.out.set _,HC4.out.other (Ne.symm hSC) _,Nat.le_trans hm1 (Nat.le_trans hkf.size (KeepsWalks.setCell Y ⟨S,0,none⟩ (.string b2)).size)⟩
    case measure => simp [intOf]; omega
   | false =>
    have hk1 : k + 1 = N:=by
     have h : ¬ (k + 1 < N):=fun h => by have:=HA2.out.2 h; cases this
     omega
    rw [hk1] at hj'
    gi_wp2
    refine bodyPost_ret (results_none rfl _ _ _) rfl ?_
    exact .inl ⟨⟨_,rfl⟩,.inl hj'⟩
  ·gi_wp2
   refine bodyPost_ret (results_none rfl _ _ _) rfl ?_
   exact .inl ⟨⟨_,rfl⟩,.inr hjx⟩
  ·exact ⟨rfl,.inr ⟨ch,rfl,hjp⟩⟩
theorem tk_every (F : Fence) (n : Nat) (h : F.fn 198) (hro : F.round = none) (s : ByteArray) (by_ : Int) (w : World) :
  CallsIn F n Tryz.prog 198 #[.string s,.int .u8 by_] w fun e w' => e = .returned (.func (.func 200) #[] #[.pointer (some ⟨w.heap.size,0,none⟩),.pointer (some ⟨w.heap.size + 1,0,none⟩)]) ∧
   w' = (w.alloc (.cells #[.string s] 9)).alloc (.cells #[.int .u8 by_] 5):=by
 refine callsIn_of_wp Tryz.func198 rfl h ?_ hro
 simp only [Tryz.ntmps198,List.size_toArray,List.length_cons,List.length_nil,Nat.reduceAdd,Nat.reduceSub,Array.replicate_succ,Array.replicate_zero,List.push_toArray,List.append_toArray,List.nil_append,List.cons_append]
 gi_wp2
 go_ret
 exact ⟨by simp,rfl⟩
theorem tk_Each (s : ByteArray) (by_ : Int) (w : World) :
  Calls Tryz.prog 191 #[.string s,.int .u8 by_] w fun e w' => e = .returned (.func (.func 197) #[] #[.pointer (some ⟨w.heap.size,0,none⟩),.pointer (some ⟨w.heap.size + 1,0,none⟩)]) ∧
   w' = (w.alloc (.cells #[.string s] 9)).alloc (.cells #[.int .u8 by_] 5):=by
 go_enter Tryz.func191,Tryz.ntmps191
 go_wp2
 go_ret
 exact ⟨by simp,rfl⟩
end Go.Proofs.YtfacmnooklljnaaGreatDoor
namespace Go.Proofs.YtfacmnooklljnaaGreatDoor
open Go.RowKit Go.Shelf
attribute [local go_sem] Oper.semAt_some
set_option maxHeartbeats 8000000
set_option maxRecDepth 100000
def lkC (F : ByteArray) (V : Value) (m v : ByteArray) (P Q : Value) : Obj:=.cells #[.string F,V,.string m,.string v,P,Q] 71 (0,0)
structure LkW (w : World) (A : Nat) (F : ByteArray) (V : Value) (fs : List Hp.Hd) (m v : ByteArray) (P Q : Value) : Prop where
 c : w.heap[A]? = some (lkC F V m v P Q)
 hs : HS w V fs
 hl : fs.length ≤ 1000
 hf : ∀ f ∈ fs,f.1.length ≤ 100000 ∧ f.2.length ≤ 100000
theorem LkW.below {w w' : World} {A : Nat} {F : ByteArray} {V : Value} {fs : List Hp.Hd} {m v : ByteArray} {P Q : Value} (h : LkW w A F V fs m v P Q) (hb : Below w.heap.size w w') : LkW w' A F V fs m v P Q :=
 ⟨(hb.block A (Array.getElem?_eq_some_iff.1 h.c).1).trans h.c,h.hs.below hb,h.hl,h.hf⟩
theorem lk_cells {w : World} {A : Nat} {F : ByteArray} {V : Value} {m v : ByteArray} {P Q : Value} (h : w.heap[A]? = some (lkC F V m v P Q)) :
  w.cell? ⟨A,0,none⟩ = some (.string F) ∧ w.cell? ⟨A,1,none⟩ = some V ∧ w.cell? ⟨A,2,none⟩ = some (.string m) ∧ w.cell? ⟨A,3,none⟩ = some (.string v) ∧ w.cell? ⟨A,4,none⟩ = some P ∧ w.cell? ⟨A,5,none⟩ = some Q:=by
 unfold lkC at h
 refine ⟨?_,?_,?_,?_,?_,?_⟩ <;> simp [World.cell?,h]
def getV (n : List UInt8) (fs : List Hp.Hd) : Value:=.tuple #[.string ⟨(Rq.joined n fs).toArray⟩,.int .i64 ((Rq.many n fs : Nat) : Int)]
theorem rq_get (A : Nat) (F nb : ByteArray) (V : Value) (fs : List Hp.Hd) (m v : ByteArray) (P Q : Value) (w : World) (h : LkW w A F V fs m v P Q) (hn : nb.size ≤ 100000) :
  Calls Tryz.prog 27 #[.pointer (some ⟨A,0,none⟩),.string nb] w fun e w' => e = .returned (getV nb.data.toList fs) ∧ Below w.heap.size w w':=by
 obtain ⟨c0,c1,c2,c3,c4,c5⟩:=lk_cells h.c
 have KG:=Lib.hid (hd_Get F nb V fs w h.hs h.hl h.hf hn)
 unfold getV Rq.joined Rq.many
 obtain ⟨p,c,rfl⟩:=h.hs.slice
 obtain ⟨jb,hjb⟩ : ∃ y : ByteArray,(⟨(Lib.join (Hg.vals nb.data.toList fs) [44,32]).toArray⟩ : ByteArray) = y:=⟨_,rfl⟩
 obtain ⟨k,hk⟩ : ∃ k,(Hg.vals nb.data.toList fs).length = k:=⟨_,rfl⟩
 rw [hjb,hk] at KG ⊢
 clear hjb hk h
 go_enter Tryz.func27,Tryz.ntmps27
 go_wp2_with fail
 refine KG.out.mono ?_
 rintro e w2 ⟨rfl,hb⟩
 have HB:=Lib.hid hb
 clear hb KG c0 c1 c2 c3 c4 c5
 go_wp2_with fail
 exact bodyPost_ret (v:=.tuple #[.string jb,.int .i64 (k : Int)]) (by simp [results,Tryz.results27,go_sem]) rfl ⟨rfl,HB.out⟩
theorem rq_old (A : Nat) (F : ByteArray) (V : Value) (m v : ByteArray) (P Q : Value) (w : World) (h : w.heap[A]? = some (lkC F V m v P Q)) :
  Calls Tryz.prog 32 #[.pointer (some ⟨A,0,none⟩)] w fun e w' => e = .returned (.bool (v.toList == ([72,84,84,80,47,49,46,48] : List UInt8))) ∧ w' = w:=by
 obtain ⟨c0,c1,c2,c3,c4,c5⟩:=lk_cells h
 obtain ⟨x,hx⟩ : ∃ x,(v.toList == ([72,84,84,80,47,49,46,48] : List UInt8)) = x:=⟨_,rfl⟩
 rw [hx]
 clear h
 go_enter Tryz.func32,Tryz.ntmps32
 go_wp2_with fail
 exact bodyPost_ret (v:=.bool x) (by simp [results,Tryz.results32,go_sem]) rfl ⟨rfl,rfl⟩
theorem rq_r5 (A : Nat) (F : ByteArray) (V : Value) (m v : ByteArray) (P Q : Value) (w : World) (h : w.heap[A]? = some (lkC F V m v P Q)) :
  Calls Tryz.prog 110 #[.pointer (some ⟨A,0,none⟩)] w fun e w' => e = .returned (.bool (m.toList == ([71,69,84] : List UInt8))) ∧ w' = w:=by
 obtain ⟨c0,c1,c2,c3,c4,c5⟩:=lk_cells h
 obtain ⟨x,hx⟩ : ∃ x,(m.toList == ([71,69,84] : List UInt8)) = x:=⟨_,rfl⟩
 rw [hx]
 clear h
 go_enter Tryz.func110,Tryz.ntmps110
 go_wp2_with fail
 exact bodyPost_ret (v:=.bool x) (by simp [results,Tryz.results110,go_sem]) rfl ⟨rfl,rfl⟩
theorem rq_lone1 (A C D : Nat) (F nb : ByteArray) (least : Int) (V : Value) (fs : List Hp.Hd) (m v : ByteArray) (P Q : Value) (w : World) (h : LkW w A F V fs m v P Q) (hn : nb.size ≤ 100000) (hC : Boxed w C 9 (.string nb)) (hD : Boxed w D 3 (.int .i64 least)) :
  Calls Tryz.prog 136 #[.pointer (some ⟨A,0,none⟩),.pointer (some ⟨C,0,none⟩),.pointer (some ⟨D,0,none⟩)] w fun e w' => e = .returned (.bool (decide (least ≤ (Rq.many nb.data.toList fs : Int) ∧ (Rq.many nb.data.toList fs : Int) ≤ 1))) ∧ Below w.heap.size w w':=by
 have KG:=Lib.hid (rq_get A F nb V fs m v P Q w h hn)
 unfold getV at KG
 obtain ⟨jb,hjb⟩ : ∃ y : ByteArray,(⟨(Rq.joined nb.data.toList fs).toArray⟩ : ByteArray) = y:=⟨_,rfl⟩
 obtain ⟨k,hk⟩ : ∃ k,Rq.many nb.data.toList fs = k:=⟨_,rfl⟩
 rw [hjb,hk] at KG
 rw [hk]
 have cC:=hC.cell
 have zC:=hC.frozen
 have lC:=hC.lt
 have HD:=Lib.hid hD
 clear hjb hk h hD hC
 go_enter Tryz.func136,Tryz.ntmps136
 go_wp2_with fail
 refine KG.out.mono ?_
 rintro e w2 ⟨rfl,hb⟩
 have HB:=Lib.hid hb
 have cD:=(boxed_below HD.out hb).cell
 clear hb KG cC zC lC
 by_cases h1 : least ≤ (k : Int)
 ·have HE:=Lib.hid (show decide (least ≤ (k : Int) ∧ (k : Int) ≤ 1) = decide ((k : Int) ≤ 1) by simp [h1])
  go_wp2_with fail
  first | rw [HE.out] | skip
  exact bodyPost_ret (v:=.bool (decide ((k : Int) ≤ 1))) (by simp [results,Tryz.results136,go_sem]) rfl ⟨by simp [h1],HB.out⟩
 ·have HE:=Lib.hid h1
  go_wp2_with fail
  exact bodyPost_ret (v:=.bool false) (by simp [results,Tryz.results136,go_sem]) rfl ⟨by simp; intro h; have:=HE.out; omega,HB.out⟩
end Go.Proofs.YtfacmnooklljnaaGreatDoor
namespace Go.Proofs.YtfacmnooklljnaaGreatDoor
open Go.RowKit Go.Shelf
attribute [local go_sem] Oper.semAt_some
set_option maxHeartbeats 8000000
set_option maxRecDepth 100000
theorem rq_lone (nb : ByteArray) (least : Int) (w : World) :
  Calls Tryz.prog 106 #[.string nb,.int .i64 least] w fun e w' => ∃ C D,e = .returned (.func (.func 136) #[] #[.pointer (some ⟨C,0,none⟩),.pointer (some ⟨D,0,none⟩)]) ∧ Boxed w' C 9 (.string nb) ∧ Boxed w' D 3 (.int .i64 least) ∧ Below w.heap.size w w':=by
 obtain ⟨V,hV⟩ : ∃ z,(w.alloc (.cells #[.string nb] 9)).alloc (.cells #[.int .i64 least] 3) = z:=⟨_,rfl⟩
 have hC : Boxed V w.heap.size 9 (.string nb):=by rw [← hV]; exact (Boxed.new _ _ _).alloc _
 have hD : Boxed V (w.heap.size + 1) 3 (.int .i64 least):=by
  have h:=Boxed.new (w.alloc (.cells #[.string nb] 9)) 3 (.int .i64 least)
  rw [hV] at h
  simpa using h
 have hb : Below w.heap.size w V:=by rw [← hV]; exact ((Below.refl _ _).alloc (Nat.le_refl _) _).alloc (by simp) _
 have HV:=Lib.hid hV
 have HC:=Lib.hid hC
 have HD:=Lib.hid hD
 have HB:=Lib.hid hb
 clear hV hC hD hb
 go_enter Tryz.func106,Tryz.ntmps106
 go_wp2_with fail
 rw [HV.out]
 exact bodyPost_ret (v:=.func (.func 136) #[] #[.pointer (some ⟨w.heap.size,0,none⟩),.pointer (some ⟨w.heap.size + 1,0,none⟩)]) (by simp [results,Tryz.results106,go_sem]) rfl ⟨_,_,rfl,HC.out,HD.out,HB.out⟩
theorem rq_r2 (A : Nat) (F : ByteArray) (V : Value) (fs : List Hp.Hd) (m v : ByteArray) (P Q : Value) (w : World) (h : LkW w A F V fs m v P Q) :
  Calls Tryz.prog 107 #[.pointer (some ⟨A,0,none⟩)] w fun e w' => e = .returned (.bool (decide (Rq.many Rq.nTE fs = 0))) ∧ Below w.heap.size w w':=by
 have KG:=Lib.hid (rq_get A F ⟨#[116,114,97,110,115,102,101,114,45,101,110,99,111,100,105,110,103]⟩ V fs m v P Q w h (by decide))
 unfold getV at KG
 obtain ⟨jb,hjb⟩ : ∃ y : ByteArray,(⟨(Rq.joined Rq.nTE fs).toArray⟩ : ByteArray) = y:=⟨_,rfl⟩
 obtain ⟨k,hk⟩ : ∃ k,Rq.many Rq.nTE fs = k:=⟨_,rfl⟩
 rw [show (⟨#[116,114,97,110,115,102,101,114,45,101,110,99,111,100,105,110,103]⟩ : ByteArray).data.toList = Rq.nTE from rfl,hjb,hk] at KG
 rw [hk]
 clear hjb hk h
 go_enter Tryz.func107,Tryz.ntmps107
 go_wp2_with fail
 refine KG.out.mono ?_
 rintro e w2 ⟨rfl,hb⟩
 have HB:=Lib.hid hb
 clear hb KG
 go_wp2_with fail
 refine bodyPost_ret (v:=.bool ((k : Int) == 0)) (by simp [results,Tryz.results107,go_sem]) rfl ⟨?_,HB.out⟩
 by_cases h : k = 0
 ·subst h; rfl
 ·rw [decide_eq_false h,beq_eq_false_iff_ne.2 (by omega)]
theorem rq_r4 (A : Nat) (F : ByteArray) (V : Value) (m v : ByteArray) (P Q : Value) (w : World) (h : w.heap[A]? = some (lkC F V m v P Q)) :
  Calls Tryz.prog 109 #[.pointer (some ⟨A,0,none⟩)] w fun e w' => e = .returned (.bool ((v.toList == ([72,84,84,80,47,49,46,48] : List UInt8)) || (v.toList == ([72,84,84,80,47,49,46,49] : List UInt8)))) ∧ w' = w:=by
 have KO:=Lib.hid (rq_old A F V m v P Q w h)
 obtain ⟨c0,c1,c2,c3,c4,c5⟩:=lk_cells h
 obtain ⟨x,hx⟩ : ∃ x,(v.toList == ([72,84,84,80,47,49,46,48] : List UInt8)) = x:=⟨_,rfl⟩
 obtain ⟨y,hy⟩ : ∃ x,(v.toList == ([72,84,84,80,47,49,46,49] : List UInt8)) = x:=⟨_,rfl⟩
 rw [hx] at KO
 rw [hx,hy]
 clear h hx
 go_enter Tryz.func109,Tryz.ntmps109
 go_wp2_with fail
 refine KO.out.mono ?_
 rintro e w2 ⟨rfl,rfl⟩
 cases x with
 | true =>
  go_wp2_with fail
  exact bodyPost_ret (v:=.bool true) (by simp [results,Tryz.results109,go_sem]) rfl ⟨by simp,rfl⟩
 | false =>
  go_wp2_with fail
  exact bodyPost_ret (v:=.bool y) (by simp [results,Tryz.results109,go_sem]) rfl ⟨by simp,rfl⟩
end Go.Proofs.YtfacmnooklljnaaGreatDoor
namespace Go.Proofs.YtfacmnooklljnaaGreatDoor
open Go.RowKit
set_option maxHeartbeats 2000000
set_option maxRecDepth 100000
theorem get_atY (s : ByteArray) (i : Nat) (h : i < s.size) : s.get! i = s[i]'h:=by
 simp [ByteArray.get!,getElem!_pos,h]
 rfl
theorem decodeN_hiY (n b0 b1 b2 b3 : Nat) (hn : 1 ≤ n) (h0 : 128 ≤ b0) (h0' : b0 < 256) (h1 : b1 < 256) (h2 : b2 < 256) (h3 : b3 < 256) :
  128 ≤ (Lib.decodeN n b0 b1 b2 b3).1 ∧ (Lib.decodeN n b0 b1 b2 b3).1 ≤ 1114111 ∧ 1 ≤ (Lib.decodeN n b0 b1 b2 b3).2 ∧ (Lib.decodeN n b0 b1 b2 b3).2 ≤ n ∧ (Lib.decodeN n b0 b1 b2 b3).2 ≤ 4 ∧
   (2 ≤ (Lib.decodeN n b0 b1 b2 b3).2 → 128 ≤ b1) ∧ (3 ≤ (Lib.decodeN n b0 b1 b2 b3).2 → 128 ≤ b2) ∧ (4 ≤ (Lib.decodeN n b0 b1 b2 b3).2 → 128 ≤ b3):=by
 unfold Lib.decodeN
 repeat' split
 all_goals (simp only; refine ⟨?_,?_,?_,?_,?_,?_,?_,?_⟩ <;> first | omega | (intro; omega))
theorem decode_hiY (s : ByteArray) (i : Nat) (h : i < s.size) (hb : 128 ≤ (s[i]'h).toNat) :
  ∃ r k : Nat,Utf8.decode s i = (r,k) ∧ 128 ≤ r ∧ r ≤ 1114111 ∧ 1 ≤ k ∧ i + k ≤ s.size ∧ ∀ j,i ≤ j → j < i + k → ∀ hj : j < s.size,128 ≤ (s[j]'hj).toNat:=by
 have g0:=get_atY s i h
 have hd:=decodeN_hiY (s.size - i) (s.get! i).toNat (s.get! (i + 1)).toNat (s.get! (i + 2)).toNat (s.get! (i + 3)).toNat (by omega) (by rw [g0]; exact hb) (UInt8.toNat_lt _) (UInt8.toNat_lt _) (UInt8.toNat_lt _) (UInt8.toNat_lt _)
 rw [← Lib.decode_at] at hd
 refine ⟨(Utf8.decode s i).1,(Utf8.decode s i).2,rfl,hd.1,hd.2.1,hd.2.2.1,by omega,?_⟩
 intro j hj hk hs
 obtain ⟨_,_,_,h4,h5,hb1,hb2,hb3⟩:=hd
 rcases (show j = i ∨ j = i + 1 ∨ j = i + 2 ∨ j = i + 3 by omega) with e | e | e | e <;> subst e
 ·exact hb
 ·have:=hb1 (by omega); rwa [get_atY _ _ hs] at this
 ·have:=hb2 (by omega); rwa [get_atY _ _ hs] at this
 ·have:=hb3 (by omega); rwa [get_atY _ _ hs] at this
def setIterY (w : World) (b : Nat) (s : ByteArray) (p : Nat) : World:={ w with heap:=w.heap.setIfInBounds b (.stringIter s p) }
theorem setIter_atY {w : World} {b : Nat} {s t : ByteArray} {p q : Nat} (h : w.heap[b]? = some (.stringIter t q)) : (setIterY w b s p).heap[b]? = some (.stringIter s p):=by
 have hb : b < w.heap.size:=by
  rcases Nat.lt_or_ge b w.heap.size with h' | h'
  ·exact h'
  ·rw [Array.getElem?_eq_none h'] at h; simp at h
 simp [setIterY,hb]
theorem setIter_belowY (w : World) (b B : Nat) (s : ByteArray) (p : Nat) (hB : B ≤ b) : Below B w (setIterY w b s p) :=
 ⟨rfl,rfl,rfl,by simp [setIterY],fun k hk => by simp only [setIterY]; rw [Array.getElem?_setIfInBounds_ne]; omega⟩
theorem next_atY (w : World) (b : Nat) (s : ByteArray) (pos : Nat) (ty : TypeId) (hb : w.heap[b]? = some (.stringIter s pos)) (h : pos < s.size) :
  (Instr.next (.pointer (some ⟨b,0,none⟩)) true ty).run Tryz.prog w = .ok (.tuple #[.bool true,.int .i64 pos,.int .i32 (Utf8.decode s pos).1]) (setIterY w b s (pos + (Utf8.decode s pos).2)):=by
 simp only [Instr.next,getObj,setObj,Sem.run_bind,Sem.run,hb,Result.andThen,h,if_true]
 simp [goInt,Sem.run,hb,setIterY]
theorem next_overY (w : World) (b : Nat) (s : ByteArray) (pos : Nat) (ty : TypeId) (hb : w.heap[b]? = some (.stringIter s pos)) (h : ¬ pos < s.size) :
  (Instr.next (.pointer (some ⟨b,0,none⟩)) true ty).run Tryz.prog w = .ok (.tuple #[.bool false]) w:=by
 simp [Instr.next,getObj,Sem.run,hb,h]
def iterPosY (w : World) (b : Nat) : Nat:=match w.heap[b]? with
 | some (.stringIter _ p) => p
 | _ => 0
theorem iterPos_isY {w : World} {b : Nat} {s : ByteArray} {p : Nat} (h : w.heap[b]? = some (.stringIter s p)) : iterPosY w b = p:=by unfold iterPosY; rw [h]
theorem fig_decode (s : ByteArray) (k : Nat) (h : k < s.size) : ∃ r n : Nat,Utf8.decode s k = (r,n) ∧ ((Ap.fig (s.data.toList[k]'h) = true ∧ n = 1 ∧ r = (s.data.toList[k]'h).toNat ∧ 48 ≤ r ∧ r ≤ 57) ∨ (Ap.fig (s.data.toList[k]'h) = false ∧ (r < 48 ∨ 57 < r) ∧ r ≤ 1114111)):=by
 have hc : s.data.toList[k]'h = s[k]'h:=rfl
 rw [hc]
 by_cases ha : (s[k]'h).toNat < 128
 ·refine ⟨_,_,decode_ascii s k h ha,?_⟩
  unfold Ap.fig
  by_cases hf : 48 ≤ ((s[k]'h).toNat : Int) ∧ ((s[k]'h).toNat : Int) ≤ 57
  ·left
   rw [decide_eq_true hf]
   exact ⟨rfl,rfl,rfl,by omega,by omega⟩
  ·right
   rw [decide_eq_false hf]
   exact ⟨rfl,by omega,by omega⟩
 ·obtain ⟨r,n,hd,h1,h2,_⟩:=decode_hiY s k h (by omega)
  refine ⟨r,n,hd,.inr ⟨?_,by omega,h2⟩⟩
  unfold Ap.fig
  exact decide_eq_false (by omega)
end Go.Proofs.YtfacmnooklljnaaGreatDoor
namespace Go.Proofs.YtfacmnooklljnaaGreatDoor
open Go.RowKit Go.Shelf
set_option maxHeartbeats 8000000
set_option maxRecDepth 100000
def acNo : Ending:=.panicked [{ v:=errno 220,recovered:=false }]
def thOut (o : Option Int) : Ending:=match o with
 | some n => .returned (.int .i64 n)
 | none => acNo
theorem num_snoc (l : List UInt8) (c : UInt8) : Ap.num (l ++ [c]) = 10 * Ap.num l + ((c.toNat : Int) - 48):=by
 unfold Ap.num; rw [List.foldl_append]; rfl
theorem num_bound : ∀ (k : Nat) (l : List UInt8),l.length = k → l.all Ap.fig = true → 0 ≤ Ap.num l ∧ Ap.num l < 10 ^ k:=by
 intro k
 induction k with
 | zero => intro l h _; obtain rfl:=List.length_eq_zero_iff.1 h; exact ⟨by decide,by decide⟩
 | succ k ih =>
  intro l h ha
  obtain ⟨l',c,rfl⟩ : ∃ l' c,l = l' ++ [c]:=⟨l.dropLast,l.getLast (by intro e; rw [e] at h; cases h),(List.dropLast_concat_getLast _).symm⟩
  rw [List.length_append,List.length_singleton] at h
  rw [List.all_append,Bool.and_eq_true] at ha
  have h1:=ih l' (by omega) ha.1
  have h2 : Ap.fig c = true:=by simpa using ha.2
  unfold Ap.fig at h2
  have h3:=of_decide_eq_true h2
  rw [num_snoc]
  have e : (10 : Int) ^ (k + 1) = 10 * 10 ^ k:=by rw [Int.pow_succ]; omega
  omega
theorem ac_thou (s : ByteArray) (w : World) (hs : s.size ≤ 100000) :
  Calls Tryz.prog 203 #[.string s] w fun e w' => e = thOut (Ap.thou s.data.toList) ∧ Below w.heap.size w w':=by
 have KC:=str_CutB s 46 w (by omega)
 unfold Ap.thou
 have hlen:=Ap.cutB_len 46 s.data.toList
 have hsl : s.data.toList.length = s.size:=rfl
 have hdot : (Ap.cutB 46 s.data.toList).2.2 = false → (Ap.cutB 46 s.data.toList).2.1 = []:=fun h => by rw [(Ap.ix_no h).2]
 obtain ⟨wh,hwh⟩ : ∃ z,(Ap.cutB 46 s.data.toList).1 = z:=⟨_,rfl⟩
 obtain ⟨pa,hpa⟩ : ∃ z,(Ap.cutB 46 s.data.toList).2.1 = z:=⟨_,rfl⟩
 obtain ⟨d,hd⟩ : ∃ z,(Ap.cutB 46 s.data.toList).2.2 = z:=⟨_,rfl⟩
 rw [hwh,hpa,hd] at KC
 rw [hwh,hpa] at hlen ⊢
 rw [hpa,hd] at hdot
 unfold tx at KC
 obtain ⟨wb,hwb⟩ : ∃ z : ByteArray,(⟨wh.toArray⟩ : ByteArray) = z:=⟨_,rfl⟩
 obtain ⟨pb,hpb⟩ : ∃ z : ByteArray,(⟨pa.toArray⟩ : ByteArray) = z:=⟨_,rfl⟩
 rw [hwb,hpb] at KC
 have hwl : wb.toList = wh:=by rw [ByteArray.toList_eq,← hwb]
 have hpl : pb.toList = pa:=by rw [ByteArray.toList_eq,← hpb]
 have hpz : pb.size = pa.length:=by rw [← hpb]; simp [ByteArray.size]
 have hpd : pb.data.toList = pa:=by rw [← hpb]
 have K:=Lib.hid KC
 obtain ⟨b0,hb0⟩ : ∃ z,(wh == ([48] : List UInt8)) = z:=⟨_,rfl⟩
 obtain ⟨b1,hb1⟩ : ∃ z,(wh == ([49] : List UInt8)) = z:=⟨_,rfl⟩
 have g0 : (wb.toList == ([48] : List UInt8)) = b0:=by rw [hwl]; exact hb0
 have g1 : (wb.toList == ([49] : List UInt8)) = b1:=by rw [hwl]; exact hb1
 obtain ⟨o,ho⟩ : ∃ o : Option Int,(if (wh = [48] ∨ wh = [49]) ∧ pa.length ≤ 3 ∧ (pa ++ ([48,48,48] : List UInt8).drop pa.length).all Ap.fig = true then
  (if wh = [49] then (if Ap.num (pa ++ ([48,48,48] : List UInt8).drop pa.length) = 0 then some 1000 else none) else some (Ap.num (pa ++ ([48,48,48] : List UInt8).drop pa.length)))
  else none) = o:=⟨_,rfl⟩
 rw [ho]
 have HO:=Lib.hid ho
 have HB0:=Lib.hid hb0
 have HB1:=Lib.hid hb1
 by_cases hno : b0 = false ∧ b1 = false
 ·have HN:=Lib.hid (show o = none by
   rw [← HO.out,if_neg]
   rintro ⟨h | h,_⟩
   ·rw [h] at hb0; rw [hno.1] at hb0; cases hb0
   ·rw [h] at hb1; rw [hno.2] at hb1; cases hb1)
  obtain ⟨rfl,rfl⟩:=hno
  clear hlen hsl hdot hwh hpa hd hwb hpb hwl hpl hpz hpd KC hb0 hb1 ho
  go_enter Tryz.func203,Tryz.ntmps203
  go_wp2_with fail
  refine K.out.mono ?_
  rintro e w1 ⟨rfl,hb⟩
  have HB:=Lib.hid hb
  clear hb
  go_wp2_with fail
  refine (ac_must_no 220 w1).mono ?_
  rintro e w2 ⟨rfl,hw⟩
  subst hw
  exact ⟨rfl,by rw [HN.out]; rfl,HB.out⟩
 by_cases h3 : 3 < pa.length
 ·have HN:=Lib.hid (show o = none by rw [← HO.out,if_neg (fun h => by omega)])
  have hsz : ¬ ((pb.size : Int) ≤ 3):=by omega
  clear hlen hsl hdot hwh hpa hd hwb hpb hwl hpl hpz hpd KC hb0 hb1 ho h3
  cases b0 <;> cases b1 <;> first | exact absurd ⟨rfl,rfl⟩ hno | skip
  all_goals
   clear hno
   go_enter Tryz.func203,Tryz.ntmps203
   go_wp2_with fail
   refine K.out.mono ?_
   rintro e w1 ⟨rfl,hb⟩
   have HB:=Lib.hid hb
   clear hb
   go_wp2_with fail
   refine (ac_must_no 220 w1).mono ?_
   rintro e w2 ⟨rfl,hw⟩
   subst hw
   exact ⟨rfl,by rw [HN.out]; rfl,HB.out⟩
 have h3' : pa.length ≤ 3:=by omega
 obtain ⟨D,hD⟩ : ∃ z,pa ++ ([48,48,48] : List UInt8).drop pa.length = z:=⟨_,rfl⟩
 rw [hD] at ho
 have hDl : D.length = 3:=by rw [← hD,List.length_append,List.length_drop]; simp; omega
 obtain ⟨zb,hzb⟩ : ∃ z : ByteArray,(⟨#[48,48,48]⟩ : ByteArray).extract pb.size 3 = z:=⟨_,rfl⟩
 have hsl3 : ∀ W,(Instr.slice 9 (.string ⟨#[48,48,48]⟩) (some (.int .i64 (pb.size : Int))) none none).run Tryz.prog W = .ok (.string zb) W:=fun W => by
  have q1 : (pb.size : Int) ≤ 3:=by omega
  have q2 : (⟨#[48,48,48]⟩ : ByteArray).size = 3:=rfl
  simp [go_sem,Tryz.underlying9,q2,q1]
  all_goals exact hzb
 have hzd : zb.data.toList = ([48,48,48] : List UInt8).drop pa.length:=by
  rw [← hzb,Lib.extract_data,hpz]
  simp
  try rw [List.take_of_length_le]
  all_goals (try simp)
  all_goals (try omega)
 obtain ⟨tb,htb⟩ : ∃ z : ByteArray,pb ++ zb = z:=⟨_,rfl⟩
 have htd : tb.data.toList = D:=by rw [← htb,ByteArray.data_append,Array.toList_append,hpd,hzd,hD]
 have htz : tb.size = 3:=by rw [← hDl,← htd]; rfl
 have hbt : pb.size + zb.size ≤ 3:=by rw [← ByteArray.size_append,htb,htz]; exact Nat.le_refl _
 have hbt2 : (pb ++ zb).size ≤ 3:=by rw [htb,htz]; exact Nat.le_refl _
 have hp3 : (pb.size : Int) ≤ 3:=by omega
 have HTB:=Lib.hid htb
 have HI:=Lib.hid (fun W => (World.iter_heap W tb 0))
 have HTD:=Lib.hid htd
 have HTZ:=Lib.hid htz
 have HDL:=Lib.hid hDl
 have HOD:=Lib.hid (show o = if D.all Ap.fig = true then (if wh = [49] then (if Ap.num D = 0 then some 1000 else none) else some (Ap.num D)) else none by
  rw [← ho]
  by_cases hf : D.all Ap.fig = true
  ·rw [if_pos ⟨by
    cases hc0 : b0 with
    | true => left; rw [hc0] at hb0; simpa using hb0
    | false =>
     cases hc1 : b1 with
     | true => right; rw [hc1] at hb1; simpa using hb1
     | false => exact absurd ⟨hc0,hc1⟩ hno,h3',hf⟩,if_pos hf]
  ·rw [if_neg (fun h => hf h.2.2),if_neg hf])
 have hpe : d = false → (pb.toList == ([] : List UInt8)) = true:=fun h => by rw [hpl,hdot h]; rfl
 have HPE:=Lib.hid hpe
 have hw1 : wh = [49] ↔ b1 = true:=by rw [← hb1]; simp
 have HW1:=Lib.hid hw1
 have H01:=Lib.hid (show b0 = true ∨ b1 = true by
  cases b0 <;> cases b1 <;> first | exact absurd ⟨rfl,rfl⟩ hno | exact .inl rfl | exact .inr rfl)
 clear hlen hsl hdot hwh hpa hd hwb hpb hwl hpl hpz hpd KC hb0 hb1 ho h3 h3' hD hDl hzb hzd htd htz hpe hw1 hno HO HB0 HB1 htb
 have main : ∀ (c0 c1 c2 : Bool),c0 = b0 → c1 = b1 → c2 = d → Calls Tryz.prog 203 #[.string s] w fun e w' => e = thOut o ∧ Below w.heap.size w w':=by
  intro c0 c1 c2 e0 e1 e2
  subst e0 e1 e2
  go_enter Tryz.func203,Tryz.ntmps203
  go_wp2_with fail
  refine K.out.mono ?_
  rintro e w1 ⟨rfl,hb⟩
  have HB:=Lib.hid hb
  clear hb
  go_upto_region 2 with (fail)
  go_cut [] from 14 (fun wx => Below w.heap.size w wx)
  case first =>
   have hc : c0 = true ∨ c1 = true:=H01.out
   have hm:=ac_must 220 w1
   have HM:=Lib.hid hm
   have HP:=HPE.out
   cases c2 with
   | true =>
    clear HP
    cases c0 with
    | true =>
     go_wp2_with fail
     refine HM.out.mono ?_
     rintro e w2 ⟨rfl,hw⟩
     subst hw
     go_wp2_with fail
     go_meet
     exact HB.out
    | false =>
     obtain rfl : c1 = true:=hc.resolve_left (by decide)
     clear hc
     go_wp2_with fail
     refine HM.out.mono ?_
     rintro e w2 ⟨rfl,hw⟩
     subst hw
     go_wp2_with fail
     go_meet
     exact HB.out
   | false =>
    have hpe:=HP rfl
    clear HP
    cases c0 with
    | true =>
     go_wp2_with fail
     refine HM.out.mono ?_
     rintro e w2 ⟨rfl,hw⟩
     subst hw
     go_wp2_with fail
     go_meet
     exact HB.out
    | false =>
     obtain rfl : c1 = true:=hc.resolve_left (by decide)
     clear hc
     go_wp2_with fail
     refine HM.out.mono ?_
     rintro e w2 ⟨rfl,hw⟩
     subst hw
     go_wp2_with fail
     go_meet
     exact HB.out
  case rest =>
   have HBC:=Lib.hid hcut
   obtain ⟨wd,rfl⟩ : ∃ z,z = wc:=⟨_,rfl⟩
   clear hcut g0
   obtain ⟨H,hH⟩ : ∃ z,wd.heap.size = z:=⟨_,rfl⟩
   have HI2:=Lib.hid (show (wd.iter tb 0).heap[H]? = some (.stringIter tb 0) by rw [← hH]; exact HI.out wd)
   have HBW:=Lib.hid (show Below w.heap.size w (wd.iter tb 0) from HBC.out.alloc HBC.out.size _)
   have HHB:=Lib.hid (show w.heap.size ≤ H by rw [← hH]; exact HBC.out.size)
   have HH:=Lib.hid hH
   clear hH
   go_upto_region 4 with (fail)
   rw [HTB.out,HH.out]
   go_loopw [2,7] (fun v _ wr => ∃ k : Nat,k ≤ 3 ∧ v = .int .i64 (Ap.num (D.take k)) ∧ wr.heap[H]? = some (.stringIter tb k) ∧ Below w.heap.size w wr ∧ (D.take k).all Ap.fig = true) (fun _ _ wr => 3 - iterPosY wr H)
   case atStart => exact ⟨0,Nat.zero_le _,rfl,HI2.out,HBW.out,rfl⟩
   case round =>
    obtain ⟨k,hk,rfl,hit,hbl,hal⟩:=hrel
    have hnb:=num_bound (D.take k).length (D.take k) rfl hal
    have hkl : (D.take k).length = k:=by rw [List.length_take,HDL.out]; omega
    rw [hkl] at hnb
    have HIK:=Lib.hid (iterPos_isY hit)
    have HBL:=Lib.hid hbl
    have HAL:=Lib.hid hal
    by_cases hlt : k < 3
    ·have hlt2 : k < tb.size:=by rw [HTZ.out]; exact hlt
     have hn:=fun ty => next_atY wr H tb k ty hit hlt2
     obtain ⟨r,n,hdec,hor⟩:=fig_decode tb k hlt2
     rw [hdec] at hn
     have HS2:=Lib.hid (setIter_atY (s:=tb) (p:=k + n) hit)
     have HB2:=Lib.hid (hbl.trans (setIter_belowY wr H w.heap.size tb (k + n) HHB.out))
     have hgk : tb.data.toList[k]'hlt2 = D[k]'(by rw [HDL.out]; exact hlt):=by simp only [HTD.out]
     rw [hgk] at hor
     have HTK:=Lib.hid (show D.take (k + 1) = D.take k ++ [D[k]'(by rw [HDL.out]; exact hlt)] from List.take_succ_eq_append_getElem (by rw [HDL.out]; exact hlt))
     have hmem : D[k]'(by rw [HDL.out]; exact hlt) ∈ D:=List.getElem_mem _
     obtain ⟨x,hx⟩ : ∃ z,D[k]'(by rw [HDL.out]; exact hlt) = z:=⟨_,rfl⟩
     rw [hx] at hor hmem
     have HTK:=Lib.hid (show D.take (k + 1) = D.take k ++ [x] by rw [HTK.out,hx])
     obtain ⟨m,hm⟩ : ∃ z,Ap.num (D.take k) = z:=⟨_,rfl⟩
     have hm3 : 0 ≤ m ∧ m < 1000:=by
      rw [hm] at hnb
      have h1 : (10 : Int) ^ k ≤ 10 ^ 3:=by
       match k,hlt with
       | 0,_ => decide
       | 1,_ => decide
       | 2,_ => decide
      have e : (10 : Int) ^ 3 = 1000:=by decide
      omega
     rw [hm]
     have HM:=Lib.hid hm
     rcases hor with ⟨hok,h1,h2,h3,h4⟩ | ⟨hok,hbad,hr4⟩
     ·subst h1
      have i1 : (48 : Int) ≤ (r : Int):=by omega
      have i2 : (r : Int) ≤ 57:=by omega
      have w1 : IntKind.i32.wrap ((r : Int) - 48) = (r : Int) - 48:=by simp [IntKind.wrap,IntKind.bits,IntKind.signed]; omega
      have w2 : IntKind.i64.wrap (10 * m) = 10 * m:=by simp [IntKind.wrap,IntKind.bits,IntKind.signed]; omega
      have w3 : IntKind.i64.wrap (10 * m + ((r : Int) - 48)) = 10 * m + ((r : Int) - 48):=by simp [IntKind.wrap,IntKind.bits,IntKind.signed]; omega
      have w4 : IntKind.i64.wrap ((r : Int) - 48) = (r : Int) - 48:=by simp [IntKind.wrap,IntKind.bits,IntKind.signed]; omega
      have HNX:=Lib.hid (show Ap.num (D.take (k + 1)) = 10 * m + ((r : Int) - 48) by rw [HTK.out,num_snoc,HM.out,h2])
      have HAX:=Lib.hid (show (D.take (k + 1)).all Ap.fig = true by rw [HTK.out,List.all_append,HAL.out]; simp [hok])
      have MU:=Lib.hid (fun W => ac_must 220 W)
      clear hnb hkl hit hbl hal hdec hgk hmem hx hm hok h2 h3 h4
      go_wp2_with fail
      refine (MU.out _).mono ?_
      rintro e w5 ⟨rfl,hw⟩
      subst hw
      go_wp2_with fail
      go_roundw
      case rel => exact ⟨k + 1,hlt,by rw [HNX.out],HS2.out,HB2.out,HAX.out⟩
      case measure => rw [iterPos_isY HS2.out,HIK.out]; omega
     ·have HN:=Lib.hid (show o = none by
       rw [HOD.out,if_neg]
       intro h
       have h2:=List.all_eq_true.1 h x hmem
       rw [hok] at h2; cases h2)
      have MU:=Lib.hid (fun W => ac_must_no 220 W)
      have HBD:=Lib.hid hbad
      by_cases h48 : r < 48
      ·have i1 : ¬ (48 : Int) ≤ (r : Int):=by omega
       clear hnb hkl hit hbl hal hdec hgk hmem hx hm hok hbad h48
       go_wp2_with fail
       refine (MU.out _).mono ?_
       rintro e w5 ⟨rfl,hw⟩
       subst hw
       exact ⟨rfl,by rw [HN.out]; rfl,HB2.out⟩
      ·have i1 : (48 : Int) ≤ (r : Int):=by omega
       have i2 : ¬ (r : Int) ≤ 57:=by omega
       clear hnb hkl hit hbl hal hdec hgk hmem hx hm hok hbad h48
       go_wp2_with fail
       refine (MU.out _).mono ?_
       rintro e w5 ⟨rfl,hw⟩
       subst hw
       exact ⟨rfl,by rw [HN.out]; rfl,HB2.out⟩
    ·obtain rfl : k = 3:=by omega
     have hn:=fun ty => next_overY wr H tb 3 ty hit (by rw [HTZ.out]; omega)
     rw [List.take_of_length_le (by rw [HDL.out]; exact Nat.le_refl _)] at hal ⊢
     have HOE:=Lib.hid (show o = if wh = [49] then (if Ap.num D = 0 then some 1000 else none) else some (Ap.num D) by rw [HOD.out,if_pos hal])
     obtain ⟨m,hm⟩ : ∃ z,Ap.num D = z:=⟨_,rfl⟩
     rw [hm] at HOE ⊢
     clear hnb hkl hit hbl hal hm
     cases c1 with
     | false =>
      have HE:=Lib.hid (show o = some m by rw [HOE.out,if_neg (fun h => by have:=HW1.out.1 h; cases this)])
      go_wp2_with fail
      go_ret
      exact ⟨by rw [HE.out]; rfl,HBL.out⟩
     | true =>
      have h49:=HW1.out.2 rfl
      by_cases h0 : m = 0
      ·subst h0
       have HE:=Lib.hid (show o = some 1000 by rw [HOE.out,if_pos h49,if_pos rfl])
       have MU:=Lib.hid (fun W => ac_must 220 W)
       clear h49
       go_wp2_with fail
       refine (MU.out _).mono ?_
       rintro e w5 ⟨rfl,hw⟩
       subst hw
       go_wp2_with fail
       go_ret
       exact ⟨by rw [HE.out]; rfl,HBL.out⟩
      ·have HE:=Lib.hid (show o = none by rw [HOE.out,if_pos h49,if_neg h0])
       have hm0 : (m == 0) = false:=beq_eq_false_iff_ne.2 h0
       have MU:=Lib.hid (fun W => ac_must_no 220 W)
       clear h49 h0
       go_wp2_with fail
       refine (MU.out _).mono ?_
       rintro e w5 ⟨rfl,hw⟩
       subst hw
       exact ⟨rfl,by rw [HE.out]; rfl,HBL.out⟩
 exact main b0 b1 d rfl rfl rfl
end Go.Proofs.YtfacmnooklljnaaGreatDoor