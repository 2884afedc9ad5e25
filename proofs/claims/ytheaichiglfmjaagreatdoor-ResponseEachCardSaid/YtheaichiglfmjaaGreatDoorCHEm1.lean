/- Texts of this claim, one behind the other: Va, Vb, Vc, Ve, Rp, Qu. -/
import Derived.Test.YtheaichiglfmjaaGreatDoorQtm3
import Derived.Test.YtheaichiglfmjaaGreatDoorQtm2
import Derived.Deep.QuietTactic
import Derived.BigQuiet
import Derived.Scope
import Derived.IntWalk
import Derived.Lib.QuietBelow
import Derived.Test.YtheaichiglfmjaaGreatDoorQtm4
import Derived.Test.YtheaichiglfmjaaGreatDoorQtm1
/- response, plainly: the reference's status and Get tell what the program's do. -/
namespace Go.Proofs.YtheaichiglfmjaaGreatDoor
set_option linter.unusedVariables false
set_option linter.unusedSimpArgs false
open Go.RowKit Go.Shelf
set_option maxHeartbeats 2000000
namespace Rs
/-- is it a figure? -/
def fig (c : UInt8) : Bool := decide (48 ≤ (c.toNat : Int) ∧ (c.toNat : Int) ≤ 57)
def three (a b c : UInt8) : Int := ((a.toNat : Int) - 48) * 100 + ((b.toNat : Int) - 48) * 10 + ((c.toNat : Int) - 48)
/-- the status behind the version, 0: it is none -/
def stB : List UInt8 → Int
  | a :: b :: c :: r => if (r = [] ∨ r.head? = some 32) ∧ fig a = true ∧ fig b = true ∧ fig c = true ∧ 100 ≤ three a b c ∧ three a b c ≤ 599 then three a b c else 0
  | _ => 0
def stW (F : List UInt8) : Int := match rest F with
  | none => 0
  | some r => stB r
theorem code_nil : code [] = [] := by decide
theorem code_cons (c : UInt8) (l : List UInt8) : code (c :: l) = if c = 32 then [] else c :: code l := by
  have hg := Lib.index_ge l [32]
  have hx : Lib.index (c :: l) [32] = if c = 32 then 0 else if Lib.index l [32] = -1 then -1 else Lib.index l [32] + 1 := by
    show (if ([32] : List UInt8).isPrefixOf (c :: l) then (0 : Int) else _) = _
    by_cases h : c = 32
    · rw [if_pos h, if_pos (by rw [h]; simp [List.isPrefixOf])]
    · rw [if_neg h, if_neg (by simp [List.isPrefixOf]; exact fun e => h e.symm)]
      show (if (Lib.index l [32] == -1) = true then (-1 : Int) else Lib.index l [32] + 1) = _
      by_cases e : Lib.index l [32] = -1
      · rw [if_pos e, if_pos (beq_iff_eq.2 e)]
      · rw [if_neg e, if_neg (fun h => e (beq_iff_eq.1 h))]
  unfold code Lib.cut
  rw [hx]
  by_cases h : c = 32
  · rw [if_pos h, if_pos h, if_pos (Int.le_refl 0)]
    rfl
  · rw [if_neg h, if_neg h]
    by_cases e : Lib.index l [32] = -1
    · rw [if_pos e, if_neg (by decide), if_neg (by omega)]
    · have hg2 : 0 ≤ Lib.index l [32] := by omega
      have hg3 : 0 ≤ Lib.index l [32] + 1 := by omega
      rw [if_neg e, if_pos hg3, if_pos hg2]
      have h2 : (Lib.index l [32] + 1).toNat = (Lib.index l [32]).toNat + 1 := by omega
      rw [h2]
      rfl
theorem code_len (l : List UInt8) : (code l).length ≤ l.length := by
  induction l with
  | nil => rw [code_nil]; exact Nat.le_refl _
  | cons c l ih =>
    rw [code_cons]
    split
    · exact Nat.zero_le _
    · simp only [List.length_cons]; omega
theorem code_none (r : List UInt8) : code r = [] ↔ (r = [] ∨ r.head? = some 32) := by
  cases r with
  | nil => rw [code_nil]; simp
  | cons c l =>
    rw [code_cons]
    by_cases h : c = 32
    · rw [if_pos h]; simp [h]
    · rw [if_neg h]; simp [h]
theorem fig_is (c : UInt8) : fig c = decide (Dp.digV c.toNat < 10) := by
  unfold fig Dp.digV
  by_cases h : 48 ≤ (c.toNat : Int) ∧ (c.toNat : Int) ≤ 57
  · rw [decide_eq_true h, if_pos h]; symm; apply decide_eq_true; omega
  · rw [decide_eq_false h, if_neg h]; symm; apply decide_eq_false
    split
    · omega
    · split <;> omega
theorem fig_val {c : UInt8} (h : fig c = true) : Dp.digV c.toNat = (c.toNat : Int) - 48 := by
  have h := of_decide_eq_true h
  unfold Dp.digV
  rw [if_pos h]
theorem rd_next {c : UInt8} {l : List UInt8} {n : Int} (h0 : 0 ≤ n) (h1 : n ≤ 1000) (h : fig c = true) : Dp.rd 10 (c :: l) n = Dp.rd 10 l (n * 10 + ((c.toNat : Int) - 48)) := by
  have hv := fig_val h
  have h2 := of_decide_eq_true h
  have e1 : Dp.mulE n 10 = 0 := by unfold Dp.mulE; rw [if_pos (by omega)]
  have e2 : Dp.mulN n 10 = n * 10 := by unfold Dp.mulN; rw [if_pos (by omega)]
  have e3 : Dp.addE (n * 10) (Dp.digV c.toNat) = 0 := by unfold Dp.addE; rw [hv, if_pos (by omega)]
  have e4 : Dp.addN (n * 10) (Dp.digV c.toNat) = n * 10 + ((c.toNat : Int) - 48) := by unfold Dp.addN; rw [hv, if_pos (by omega)]
  simp only [Dp.rd]
  rw [if_neg (by rw [e1]; decide), e2, if_neg (by rw [e3]; decide), e4]
theorem num_fig (a b c : UInt8) : (Dp.numE 10 [a, b, c] = 0 ↔ fig a = true ∧ fig b = true ∧ fig c = true) ∧ (fig a = true → fig b = true → fig c = true → Dp.numN 10 [a, b, c] = three a b c) := by
  have hall : Dp.allD 10 [a, b, c] = (fig a && fig b && fig c) := by
    unfold Dp.allD
    simp only [List.all_cons, List.all_nil, fig_is, Bool.and_true, Bool.and_assoc]
  have hrd : fig a = true → fig b = true → fig c = true → Dp.rd 10 [a, b, c] 0 = (three a b c, 0) := fun ha hb hc => by
    have h1 := of_decide_eq_true ha
    have h2 := of_decide_eq_true hb
    have h3 := of_decide_eq_true hc
    rw [rd_next (by omega) (by omega) ha, rd_next (by omega) (by omega) hb, rd_next (by omega) (by omega) hc]
    show (_, _) = _
    unfold three
    congr 1
    omega
  refine ⟨⟨fun h => ?_, fun ⟨ha, hb, hc⟩ => ?_⟩, fun ha hb hc => ?_⟩
  · unfold Dp.numE at h
    rw [hall] at h
    by_cases e : [a, b, c] = [] ∨ (fig a && fig b && fig c) = false
    · rw [if_pos e] at h; exact absurd h (by decide)
    · have e2 : (fig a && fig b && fig c) = true := by
        cases h3 : (fig a && fig b && fig c) with
        | true => rfl
        | false => exact absurd (.inr h3) e
      simp only [Bool.and_eq_true] at e2
      exact ⟨e2.1.1, e2.1.2, e2.2⟩
  · unfold Dp.numE
    rw [hall, ha, hb, hc, if_neg (by simp), hrd ha hb hc]
  · unfold Dp.numN
    rw [hall, ha, hb, hc, if_neg (by simp), hrd ha hb hc]
theorem stB_three (a b c : UInt8) (r : List UInt8) : stB (a :: b :: c :: r) = if (r = [] ∨ r.head? = some 32) ∧ fig a = true ∧ fig b = true ∧ fig c = true ∧ 100 ≤ three a b c ∧ three a b c ≤ 599 then three a b c else 0 := rfl
theorem stB_is (r : List UInt8) : (if (code r).length = 3 ∧ Dp.numE 10 (code r) = 0 ∧ 100 ≤ Dp.numN 10 (code r) ∧ Dp.numN 10 (code r) ≤ 599 then some (Dp.numN 10 (code r)) else none).getD 0 = stB r := by
  match r with
  | [] => rw [if_neg (fun h => by rw [code_nil] at h; exact absurd h.1 (by decide))]; rfl
  | [a] => rw [if_neg (fun h => by have := code_len [a]; have := h.1; simp at *; omega)]; rfl
  | [a, b] => rw [if_neg (fun h => by have := code_len [a, b]; have := h.1; simp at *; omega)]; rfl
  | a :: b :: c :: r =>
    by_cases hs : a = 32 ∨ b = 32 ∨ c = 32
    · have h3 : (code (a :: b :: c :: r)).length ≠ 3 := by
        rw [code_cons, code_cons, code_cons]
        rcases hs with h | h | h
        · rw [if_pos h]; decide
        · by_cases h1 : a = 32
          · rw [if_pos h1]; decide
          · rw [if_neg h1, if_pos h]; simp
        · by_cases h1 : a = 32
          · rw [if_pos h1]; decide
          · by_cases h2 : b = 32
            · rw [if_neg h1, if_pos h2]; simp
            · rw [if_neg h1, if_neg h2, if_pos h]; simp
      rw [if_neg (fun h => h3 h.1)]
      rw [stB_three]
      have h32 : fig 32 = false := by decide
      rw [if_neg (fun h => by
        rcases hs with e | e | e
        · rw [e, h32] at h; exact absurd h.2.1 (by decide)
        · rw [e, h32] at h; exact absurd h.2.2.1 (by decide)
        · rw [e, h32] at h; exact absurd h.2.2.2.1 (by decide))]
      rfl
    · have h1 : ¬ a = 32 := fun e => hs (.inl e)
      have h2 : ¬ b = 32 := fun e => hs (.inr (.inl e))
      have h3 : ¬ c = 32 := fun e => hs (.inr (.inr e))
      have hc : code (a :: b :: c :: r) = a :: b :: c :: code r := by rw [code_cons, code_cons, code_cons, if_neg h1, if_neg h2, if_neg h3]
      rw [hc]
      rw [stB_three]
      by_cases hr : code r = []
      · obtain ⟨n1, n2⟩ := num_fig a b c
        rw [hr]
        by_cases hf : fig a = true ∧ fig b = true ∧ fig c = true
        · rw [n2 hf.1 hf.2.1 hf.2.2]
          by_cases hv : 100 ≤ three a b c ∧ three a b c ≤ 599
          · rw [if_pos ⟨rfl, n1.2 hf, hv.1, hv.2⟩, if_pos ⟨(code_none r).1 hr, hf.1, hf.2.1, hf.2.2, hv.1, hv.2⟩]; rfl
          · rw [if_neg (fun h => hv ⟨h.2.2.1, h.2.2.2⟩), if_neg (fun h => hv ⟨h.2.2.2.2.1, h.2.2.2.2.2⟩)]; rfl
        · rw [if_neg (fun h => hf (n1.1 h.2.1)), if_neg (fun h => hf ⟨h.2.1, h.2.2.1, h.2.2.2.1⟩)]; rfl
      · rw [if_neg (fun h => hr (by
          have := h.1
          simp only [List.length_cons] at this
          exact List.length_eq_zero_iff.1 (by omega))), if_neg (fun h => hr ((code_none r).2 h.1))]
        rfl
theorem status_is (F : List UInt8) : (status F).getD 0 = stW F := by
  unfold status stW
  cases rest F with
  | none => rfl
  | some r => exact stB_is r
/-- a status is from 100 to 599 -/
theorem status_in {F : List UInt8} {n : Int} (h : status F = some n) : 100 ≤ n ∧ n ≤ 599 := by
  unfold status at h
  cases hr : rest F with
  | none => rw [hr] at h; cases h
  | some r =>
    rw [hr] at h
    dsimp only at h
    split at h
    · rename_i h2
      cases h
      exact h2.2.2
    · cases h
end Rs
namespace Hr
def get1 (nm : List UInt8) (st : List UInt8 × Nat) (f : Hp.Hd) : List UInt8 × Nat := if Tp.lower f.1 = Tp.lower nm then ((if 0 < st.2 then st.1 ++ [44, 32] else st.1) ++ f.2, st.2 + 1) else st
/-- the values of a name's fields, and how many -/
def get (nm : List UInt8) (fs : List Hp.Hd) : List UInt8 × Nat := fs.foldl (get1 nm) ([], 0)
theorem join_snoc (vs : List (List UInt8)) (x z : List UInt8) : Lib.join (vs ++ [x]) z = (if 0 < vs.length then Lib.join vs z ++ z else Lib.join vs z) ++ x := by
  cases vs with
  | nil => rw [List.nil_append, Lib.join_one, if_neg (by decide), Lib.join_nil, List.nil_append]
  | cons y r =>
    rw [List.cons_append, Lib.join_cons, Lib.join_cons, if_pos (by simp)]
    unfold Lib.joinTail
    simp [List.append_assoc]
theorem get_go (nm : List UInt8) : ∀ (fs : List Hp.Hd) (vs : List (List UInt8)), fs.foldl (get1 nm) (Lib.join vs [44, 32], vs.length) = (Lib.join (vs ++ Hg.vals nm fs) [44, 32], (vs ++ Hg.vals nm fs).length) := by
  intro fs
  induction fs with
  | nil => intro vs; show (_, _) = _; unfold Hg.vals; simp
  | cons f fs ih =>
    intro vs
    rw [List.foldl_cons]
    by_cases h : Tp.lower f.1 = Tp.lower nm
    · have h1 : get1 nm (Lib.join vs [44, 32], vs.length) f = (Lib.join (vs ++ [f.2]) [44, 32], (vs ++ [f.2]).length) := by
        unfold get1
        rw [if_pos h, join_snoc]
        simp
      have h2 : Hg.vals nm (f :: fs) = f.2 :: Hg.vals nm fs := by
        unfold Hg.vals
        rw [List.filter_cons_of_pos (by unfold Hg.isNm; simpa using h)]
        rfl
      rw [h1, ih, h2]
      simp [List.append_assoc]
    · have h1 : get1 nm (Lib.join vs [44, 32], vs.length) f = (Lib.join vs [44, 32], vs.length) := by unfold get1; rw [if_neg h]
      have h2 : Hg.vals nm (f :: fs) = Hg.vals nm fs := by
        unfold Hg.vals
        rw [List.filter_cons_of_neg (by unfold Hg.isNm; simpa using h)]
      rw [h1, ih, h2]
theorem get_is (nm : List UInt8) (fs : List Hp.Hd) : get nm fs = (Rs.joined nm fs, (Hg.vals nm fs).length) := by
  have h := get_go nm fs []
  rw [List.nil_append] at h
  exact h
end Hr
end Go.Proofs.YtheaichiglfmjaaGreatDoor

/- response: the reference's Get (XJg's proof). No conditions but those that the law states. -/
namespace Go.Proofs.YtheaichiglfmjaaGreatDoor
set_option linter.unusedVariables false
set_option linter.unusedSimpArgs false
open Go.RowKit Go.Shelf
set_option maxHeartbeats 8000000
set_option maxRecDepth 100000
def bx (l : List UInt8) : ByteArray := ⟨l.toArray⟩
theorem bx_size (l : List UInt8) : (bx l).size = l.length := by simp [bx, ByteArray.size]
theorem bx_beq (a b : List UInt8) : ((bx a).toList == (bx b).toList) = (a == b) := by
  rw [ByteArray.toList_eq, ByteArray.toList_eq]; simp [bx]
theorem ref_Get (F nm : List UInt8) (V : Value) (fs : List Hp.Hd) (w : World) (hv : HS w V fs) (hl : fs.length ≤ 1000) (hs : ∀ f ∈ fs, f.1.length ≤ 100000 ∧ f.2.length ≤ 100000) (hnm : nm.length ≤ 100000) :
    Calls Tryz.prog 22 #[.agg #[Hp.sx F, V], .string (bx nm)] w fun e w' => e = .returned (.tuple #[.string (bx (Hr.get nm fs).1), .int .i64 ((Hr.get nm fs).2 : Nat)]) ∧ Below w.heap.size w w' := by
  obtain ⟨p, c, rfl⟩ := hv.slice
  obtain ⟨N, hN⟩ : ∃ N, fs.length = N := ⟨_, rfl⟩
  rw [hN] at hv hl ⊢
  unfold Hp.sx
  obtain ⟨fb, hfb⟩ : ∃ z : ByteArray, (⟨F.toArray⟩ : ByteArray) = z := ⟨_, rfl⟩
  rw [hfb]
  obtain ⟨nb, hnb⟩ : ∃ z : ByteArray, bx nm = z := ⟨_, rfl⟩
  have hns : nb.size ≤ 100000 := by rw [← hnb, bx_size]; exact hnm
  have KN0 := fun W => rtk_lower nb W (by omega)
  rw [show nb.data.toList = nm by rw [← hnb]; simp [bx], show (⟨(Tp.lower nm).toArray⟩ : ByteArray) = bx (Tp.lower nm) from rfl] at KN0
  obtain ⟨ln, hln⟩ : ∃ z : ByteArray, bx (Tp.lower nm) = z := ⟨_, rfl⟩
  rw [hln] at KN0
  have KN := Lib.hid KN0
  have HLN := Lib.hid hln
  rw [hnb]
  obtain ⟨H, hH⟩ : ∃ H, w.heap.size = H := ⟨_, rfl⟩
  obtain ⟨W1, hW1⟩ : ∃ Z, w.alloc (.cells #[.string fb, .slice p N c] 28) = Z := ⟨_, rfl⟩
  have HB1 := Lib.hid (show Below H w W1 by rw [← hW1, ← hH]; exact (Below.refl _ _).alloc (Nat.le_refl _) _)
  have HG1 := Lib.hid (show W1.heap[H]? = some (.cells #[.string fb, .slice p N c] 28 (0, 0)) by rw [← hW1, ← hH]; exact World.alloc_heap_new _ _)
  have HV := Lib.hid hv
  have HW1 := Lib.hid hW1
  have HHH := Lib.hid hH
  have HNN := Lib.hid hN
  have HSZ := Lib.hid hs
  clear hv hs hN hfb hnb hH hW1 KN0 hln
  go_enter Tryz.func22, Tryz.ntmps22
  go_wp2_with fail
  rw [HHH.out, HW1.out]
  go_wp2_with fail
  go_loopw [6, 7, 8] (fun v6 v7 i wr => ∃ (k : Nat) (st : List UInt8 × Nat), k ≤ N ∧ i = .int .i64 k ∧ v6 = .string (bx st.1) ∧ v7 = .int .i64 (st.2 : Nat) ∧ Hr.get nm fs = (fs.drop k).foldl (Hr.get1 nm) st ∧ st.2 ≤ k ∧ st.1.length ≤ k * 100002 ∧
      wr.heap[H]? = some (.cells #[.string fb, .slice p N c] 28 (0, 0)) ∧ Below H w wr) (fun _ _ i _ => N - (intOf i).toNat)
  case atStart => exact ⟨0, ([], 0), Nat.zero_le _, rfl, rfl, rfl, rfl, Nat.le_refl _, Nat.le_refl _, HG1.out, HB1.out⟩
  case round =>
    obtain ⟨k, ⟨sl, m⟩, hk, rfl, rfl, rfl, hgt, hm, hsl, hg, hbl⟩ := hrel
    simp only at hm hsl hgt ⊢
    have HGT := Lib.hid hgt
    have HG := Lib.hid hg
    have HBL := Lib.hid hbl
    have a1 : wr.cell? ⟨H, 1, none⟩ = some (.slice p N c) := by simp [World.cell?, hg]
    have HM := Lib.hid hm
    have HSL := Lib.hid hsl
    clear hgt hg hbl hm hsl
    by_cases hlt : k < N
    · have HLK := Lib.hid (show fs.drop k = fs.getD k ([], []) :: fs.drop (k + 1) by
        rw [List.drop_eq_getElem_cons (by rw [HNN.out]; exact hlt), List.getD_eq_getElem?_getD, List.getElem?_eq_getElem (by rw [HNN.out]; exact hlt)]; rfl)
      have hszf := HSZ.out (fs.getD k ([], [])) (by rw [List.getD_eq_getElem?_getD, List.getElem?_eq_getElem (by rw [HNN.out]; exact hlt)]; exact List.getElem_mem _)
      have HVR := Lib.hid (HV.out.below (by rw [HHH.out]; exact HBL.out))
      obtain ⟨g1, o1, rfl, hc1⟩ := HVR.out.cells (k := k) (by rw [HNN.out]; exact hlt)
      obtain ⟨hx, hy⟩ := hc1 k (by rw [HNN.out]; exact hlt)
      obtain ⟨⟨n0, v0⟩, hf⟩ : ∃ x, fs.getD k ([], []) = x := ⟨_, rfl⟩
      rw [hf] at hx hy HLK hszf
      simp only at hx hy hszf
      rw [show Hp.sx n0 = .string (bx n0) from rfl] at hx
      rw [show Hp.sx v0 = .string (bx v0) from rfl] at hy
      have KL0 := fun W => rtk_lower (bx n0) W (by rw [bx_size]; omega)
      rw [show (bx n0).data.toList = n0 by simp [bx], show (⟨(Tp.lower n0).toArray⟩ : ByteArray) = bx (Tp.lower n0) from rfl] at KL0
      have hbq := bx_beq (Tp.lower n0) (Tp.lower nm)
      rw [HLN.out] at hbq
      obtain ⟨lo, hlo⟩ : ∃ z : ByteArray, bx (Tp.lower n0) = z := ⟨_, rfl⟩
      rw [hlo] at KL0 hbq
      have KL := Lib.hid KL0
      have HX := Lib.hid hx
      have HY := Lib.hid hy
      have hvl : (bx v0).size ≤ 100000 := by rw [bx_size]; omega
      have hsl2 : (bx sl).size ≤ 100100000 := by rw [bx_size]; have := HSL.out; have : k * 100002 ≤ 1000 * 100002 := Nat.mul_le_mul_right _ (by omega); omega
      have hsj := (show (bx sl ++ (⟨#[44, 32]⟩ : ByteArray)).size ≤ 100100002 by rw [ByteArray.size_append]; have : (⟨#[44, 32]⟩ : ByteArray).size = 2 := rfl; omega)
      have HJ := Lib.hid (show bx sl ++ (⟨#[44, 32]⟩ : ByteArray) ++ bx v0 = bx (sl ++ [44, 32] ++ v0) by apply ByteArray.ext; apply Array.ext'; simp [bx])
      have HJ0 := Lib.hid (show bx sl ++ bx v0 = bx (sl ++ v0) by apply ByteArray.ext; apply Array.ext'; simp [bx])
      obtain ⟨q, hq⟩ : ∃ q, (Tp.lower n0 == Tp.lower nm) = q := ⟨_, rfl⟩
      rw [hq] at hbq
      have HQ := Lib.hid hq
      have HSV := Lib.hid hszf
      clear hc1 hf KL0 hlo hq hszf hy
      go_wp2_with fail
      refine (KL.out wr).mono ?_
      rintro e w1 ⟨rfl, hb1⟩
      go_wp2_with fail
      refine (KN.out w1).mono ?_
      rintro e w2 ⟨rfl, hb2⟩
      have hb12 := hb1.trans (hb2.mono hb1.size)
      have hg2 := (hb12.block H (Array.getElem?_eq_some_iff.1 HG.out).1).trans HG.out
      have HB2 := Lib.hid (show Below H w w2 from HBL.out.trans (hb12.mono (Nat.le_of_lt (Array.getElem?_eq_some_iff.1 HG.out).1)))
      have b1 : w2.cell? ⟨H, 1, none⟩ = some (.slice (some ⟨g1, o1, none⟩) N c) := by simp [World.cell?, hg2]
      have hy2 := (hb12.cell (p := ⟨g1, o1 + k * 2 + 1, none⟩) (lt_of_cell HY.out)).trans HY.out
      have HG2 := Lib.hid hg2
      clear a1 hx hb1 hb2 hb12 hg2
      cases q with
      | false =>
        go_wp2_with fail
        go_roundw
        case rel =>
          refine ⟨k + 1, (sl, m), hlt, by go_num, rfl, rfl, ?_, by have := HM.out; simp only; omega, Nat.le_trans HSL.out (Nat.mul_le_mul_right _ (Nat.le_succ k)), HG2.out, HB2.out⟩
          rw [HGT.out, HLK.out, List.foldl_cons]
          unfold Hr.get1
          simp only
          rw [if_neg (by have := HQ.out; simpa using this)]
        case measure => simp [intOf]; omega
      | true =>
        have HGS := Lib.hid (show Hr.get nm fs = (fs.drop (k + 1)).foldl (Hr.get1 nm) ((if 0 < m then sl ++ [44, 32] else sl) ++ v0, m + 1) by
          rw [HGT.out, HLK.out, List.foldl_cons]
          conv => lhs; rw [show Hr.get1 nm (sl, m) (n0, v0) = ((if 0 < m then sl ++ [44, 32] else sl) ++ v0, m + 1) by unfold Hr.get1; simp only; rw [if_pos (by have := HQ.out; simpa using this)]])
        by_cases hm0 : 0 < m
        · have HM0 := Lib.hid hm0
          have hm1 : 0 < (m : Int) := by omega
          have hm2 : (m : Int) ≤ 1000 := by have := HM.out; omega
          clear hm0
          go_wp2_with fail
          go_roundw
          case rel =>
            refine ⟨k + 1, (sl ++ [44, 32] ++ v0, m + 1), hlt, by go_num, by rw [← HJ.out], by go_num, ?_, Nat.succ_le_succ HM.out, ?_, HG2.out, HB2.out⟩
            · rw [HGS.out, if_pos HM0.out]
            · have h1 := HSL.out; have h2 := HSV.out; simp only [List.length_append, List.length_cons, List.length_nil]; omega
          case measure => simp [intOf]; omega
        · have HM0 := Lib.hid hm0
          have hm1 : m = 0 := by omega
          subst hm1
          clear hm0
          go_wp2_with fail
          go_roundw
          case rel =>
            refine ⟨k + 1, (sl ++ v0, 1), hlt, by go_num, by rw [← HJ0.out], by go_num, ?_, Nat.succ_le_succ HM.out, ?_, HG2.out, HB2.out⟩
            · rw [HGS.out, if_neg HM0.out]
            · have h1 := HSL.out; have h2 := HSV.out; simp only [List.length_append]; omega
          case measure => simp [intOf]; omega
    · have HRE := Lib.hid (show Hr.get nm fs = (sl, m) by rw [HGT.out, List.drop_eq_nil_of_le (by rw [HNN.out]; omega)]; rfl)
      go_wp2_with fail
      simp [bodyPost, results, Tryz.results22, go_sem]
      rw [HRE.out]
      exact ⟨⟨rfl, rfl⟩, by rw [HHH.out]; exact HBL.out⟩
end Go.Proofs.YtheaichiglfmjaaGreatDoor

/- response: the reference's Cut (token). No conditions but those that the law states. -/
namespace Go.Proofs.YtheaichiglfmjaaGreatDoor
set_option linter.unusedVariables false
set_option linter.unusedSimpArgs false
open Go.RowKit Go.Shelf Go.Sort
set_option maxHeartbeats 4000000
set_option maxRecDepth 100000
namespace Tp
/-- a backslash within quotes, and the byte behind it -/
theorem cutSt_esc {l : List UInt8} {by_ : Int} {k : Nat} (h : CutSt l by_ true false k) (hk : k < l.length) (hc : (l[k].toNat : Int) = 92) :
    (k + 1 < l.length → CutSt l by_ true false (k + 2)) ∧ (k + 1 = l.length → cut l by_ = (trim l, [], false)) := by
  have h1 := cutSt_next h hk rfl
  rw [hc] at h1
  have h2 : CutSt l by_ true true (k + 1) := h1
  refine ⟨fun hk2 => ?_, fun hk2 => cutSt_end h2 hk2⟩
  exact cutSt_next h2 hk2 rfl
theorem cutSt_quote {l : List UInt8} {by_ : Int} {q : Bool} {k : Nat} (h : CutSt l by_ q false k) (hk : k < l.length) (hn : (!q && ((l[k].toNat : Int) == by_)) = false) (h92 : (q && ((l[k].toNat : Int) == 92)) = false) :
    CutSt l by_ (if (l[k].toNat : Int) == 34 then !q else q) false (k + 1) := by
  have h1 := cutSt_next h hk hn
  unfold stQ stB at h1
  simp only [h92, Bool.false_eq_true, if_false] at h1
  exact h1
end Tp
def cuF (s : ByteArray) (k : Nat) (z1 z2 t1 t2 : ByteArray) : Nat → World → Value → Prop
  | 0, _, v => v = .string s
  | 1, _, v => v = .int .i64 (k : Int)
  | 2, _, v => v = .string z1
  | 3, _, v => v = .string t1
  | 4, _, v => v = .string s
  | 5, _, v => v = .int .i64 (k : Int)
  | 6, _, v => v = .int .i64 ((k : Int) + 1)
  | 7, _, v => v = .string z2
  | 8, _, v => v = .string t2
  | 9, _, v => v = .string t1
  | 10, _, v => v = .string t2
  | 11, _, v => v = .bool true
  | _, _, _ => False
theorem cuF_lt : ∀ i, ([35, 36, 37, 38, 39, 40, 41, 42, 43, 4, 5, 6] : List Nat).getD i 6 < 53
  | 0 | 1 | 2 | 3 | 4 | 5 | 6 | 7 | 8 | 9 | 10 | 11 => by decide
  | n + 12 => by show 6 < 53; decide
theorem cuF_inj : ∀ i < 12, ∀ j < 12, ([35, 36, 37, 38, 39, 40, 41, 42, 43, 4, 5, 6] : List Nat).getD i 6 = ([35, 36, 37, 38, 39, 40, 41, 42, 43, 4, 5, 6] : List Nat).getD j 6 → i = j := by decide
theorem rtk_cut (s : ByteArray) (by_ : Int) (w : World) (hs : s.size ≤ 1000000) :
    Calls Tryz.prog 23 #[.string s, .int .u8 by_] w fun e w' =>
      e = .returned (.tuple #[tx (Tp.cut s.data.toList by_).1, tx (Tp.cut s.data.toList by_).2.1, .bool (Tp.cut s.data.toList by_).2.2]) ∧ Below w.heap.size w w' := by
  have HIX := Lib.hid (fun k h W => index_at s W k h)
  obtain ⟨n, hn⟩ : ∃ z, s.size = z := ⟨_, rfl⟩
  have HN := Lib.hid hn
  have HSL := Lib.hid (show s.data.toList.length = n by rw [← hn]; rfl)
  rw [hn] at hs
  go_enter Tryz.func23, Tryz.ntmps23
  go_wp2_with fail
  go_loopw [7, 8] (fun q i wr => ∃ (k : Nat) (b : Bool), k ≤ n + 1 ∧ i = .int .i64 k ∧ q = .bool b ∧ (k ≤ n → Tp.CutSt s.data.toList by_ b false k) ∧ (k = n + 1 → Tp.cut s.data.toList by_ = (Tp.trim s.data.toList, [], false)) ∧ wr = w) (fun _ i _ => n + 1 - (intOf i).toNat)
  case atStart => exact ⟨0, false, Nat.zero_le _, rfl, rfl, fun _ => Tp.cutSt_start _ _, fun h => absurd h (by omega), rfl⟩
  case round =>
    obtain ⟨k, b, hk, rfl, rfl, hst, hen, hw⟩ := hrel
    subst hw
    have HST := Lib.hid hst
    have HEN := Lib.hid hen
    clear hst hen
    by_cases hlt : k < n
    · have hlt2 : k < s.size := by rw [hn]; exact hlt
      have hkl : k < s.data.toList.length := by rw [HSL.out]; exact hlt
      have hI : (k : Int) < (n : Int) := by omega
      have hix := HIX.out k hlt2
      have HS := Lib.hid (HST.out (by omega))
      have HE1 := Lib.hid (fun (e : b = true) (hc : ((s.data.toList[k]).toNat : Int) = 92) => Tp.cutSt_esc (by have h := HS.out; rw [e] at h; exact h) hkl hc)
      have HQ1 := Lib.hid (Tp.cutSt_quote HS.out hkl)
      have HH := Lib.hid (Tp.cutSt_hit HS.out hkl)
      rw [show s.data.toList[k] = s[k] from rfl] at HE1 HQ1 HH
      obtain ⟨x, hx⟩ : ∃ x : Int, ((s[k]).toNat : Int) = x := ⟨_, rfl⟩
      rw [hx] at hix HE1 HQ1 HH
      clear hx hkl
      have hk6 : k ≤ 1000000 := by omega
      cases b with
      | true =>
        by_cases h92 : x = 92
        · subst h92
          have e1 : ((92 : Int) == 92) = true := rfl
          have HE2 := Lib.hid (HE1.out rfl rfl)
          clear HE1 HQ1 HH
          go_wp2_with (simp only [hix])
          go_roundw
          case rel =>
            refine ⟨k + 2, true, by omega, by go_num, rfl, fun h => HE2.out.1 (by rw [HSL.out]; omega), fun h => HE2.out.2 (by rw [HSL.out]; omega), by first | trivial | rfl⟩
          case measure => simp [intOf]; omega
        · have e1 : (x == 92) = false := beq_eq_false_iff_ne.2 h92
          have HQ2 := Lib.hid (HQ1.out rfl (by rw [e1]; rfl))
          clear HE1 HQ1 HH h92
          cases e9 : (x == by_) with
          | true =>
            by_cases h34 : x = 34
            · have e2 : (x == 34) = true := beq_iff_eq.2 h34
              clear h34
              rw [e2] at HQ2
              go_wp2_with (simp only [hix])
              go_roundw
              case rel => exact ⟨k + 1, false, by omega, by go_num, rfl, fun h => HQ2.out, fun h => absurd h (by omega), by first | trivial | rfl⟩
              case measure => simp [intOf]; omega
            · have e2 : (x == 34) = false := beq_eq_false_iff_ne.2 h34
              clear h34
              rw [e2] at HQ2
              go_wp2_with (simp only [hix])
              go_roundw
              case rel => exact ⟨k + 1, true, by omega, by go_num, rfl, fun h => HQ2.out, fun h => absurd h (by omega), by first | trivial | rfl⟩
              case measure => simp [intOf]; omega
          | false =>
            by_cases h34 : x = 34
            · have e2 : (x == 34) = true := beq_iff_eq.2 h34
              clear h34
              rw [e2] at HQ2
              go_wp2_with (simp only [hix])
              go_roundw
              case rel => exact ⟨k + 1, false, by omega, by go_num, rfl, fun h => HQ2.out, fun h => absurd h (by omega), by first | trivial | rfl⟩
              case measure => simp [intOf]; omega
            · have e2 : (x == 34) = false := beq_eq_false_iff_ne.2 h34
              clear h34
              rw [e2] at HQ2
              go_wp2_with (simp only [hix])
              go_roundw
              case rel => exact ⟨k + 1, true, by omega, by go_num, rfl, fun h => HQ2.out, fun h => absurd h (by omega), by first | trivial | rfl⟩
              case measure => simp [intOf]; omega
      | false =>
        by_cases hby : x = by_
        · have e0 : (x == by_) = true := beq_iff_eq.2 hby
          have HC := Lib.hid (HH.out (by rw [e0]; rfl))
          clear HE1 HQ1 HH hby
          have hsl1 := fun W => slice_to s W k (by omega) (by omega)
          have hsl2 := fun W => slice_from s W k hlt2 (by omega)
          have hz1 : (s.extract 0 k).size ≤ 9223372036854775807 := by rw [ByteArray.size_extract]; omega
          have hz2 : (s.extract (k + 1) s.size).size ≤ 9223372036854775807 := by rw [ByteArray.size_extract]; omega
          have hd1 : (s.extract 0 k).data.toList = s.data.toList.take k := Lib.extract_from_zero s k
          have hd2 : (s.extract (k + 1) s.size).data.toList = s.data.toList.drop (k + 1) := Lib.extract_to_end s (k + 1)
          have c1 := fun W => rtk_trim (s.extract 0 k) W hz1
          have c2 := fun W => rtk_trim (s.extract (k + 1) s.size) W hz2
          rw [hd1] at c1
          rw [hd2] at c2
          clear hz1 hz2 hd1 hd2
          obtain ⟨z1, hz1⟩ : ∃ z, s.extract 0 k = z := ⟨_, rfl⟩
          obtain ⟨z2, hz2⟩ : ∃ z, s.extract (k + 1) s.size = z := ⟨_, rfl⟩
          rw [hz1] at hsl1 c1
          rw [hz2] at hsl2 c2
          clear hz1 hz2
          obtain ⟨t1, ht1⟩ : ∃ z : ByteArray, (⟨(Tp.trim (s.data.toList.take k)).toArray⟩ : ByteArray) = z := ⟨_, rfl⟩
          obtain ⟨t2, ht2⟩ : ∃ z : ByteArray, (⟨(Tp.trim (s.data.toList.drop (k + 1))).toArray⟩ : ByteArray) = z := ⟨_, rfl⟩
          simp only [ht1] at c1
          simp only [ht2] at c2
          have HT1 := Lib.hid ht1
          have HT2 := Lib.hid ht2
          clear ht1 ht2
          have C1 := Lib.hid c1
          have C2 := Lib.hid c2
          clear c1 c2
          have hw : IntKind.i64.wrap ((k : Int) + 1) = (k : Int) + 1 := IntWalk.i64_in _ (by omega)
          have hk1 : (0 : Int) ≤ (k : Int) + 1 := by omega
          go_wp2_with (simp only [hix])
          refine region_slotsG (fun i => ([35, 36, 37, 38, 39, 40, 41, 42, 43, 4, 5, 6] : List Nat).getD i 6) (cuF s k z1 z2 t1 t2) (fun _ => true) (by kernel_rfl) (by kernel_rfl) (fun i => cuF_lt i) (fun i j hi hj h => cuF_inj i hi j hj h) ?mono ?dst ?gu ?ng ?skip ?step ?done
          case mono =>
            intro i W W' v h hbw
            match i, h with
            | 0, h | 1, h | 2, h | 3, h | 4, h | 5, h | 6, h | 7, h | 8, h | 9, h | 10, h | 11, h => exact h
            | n + 12, h => exact h.elim
          case dst =>
            intro i o ho
            match i, ho with
            | 0, ho | 1, ho | 2, ho | 3, ho | 4, ho | 5, ho | 6, ho | 7, ho | 8, ho | 9, ho | 10, ho | 11, ho => cases ho; rfl
            | n + 12, ho => exact absurd ho (by simp)
          case gu =>
            intro i o g b ho hgd W v hv
            match i, ho with
            | 0, ho => cases ho; cases hgd
            | 1, ho => cases ho; cases hgd
            | 2, ho => cases ho; cases hgd
            | 3, ho => cases ho; cases hgd
            | 4, ho => cases ho; cases hgd
            | 5, ho => cases ho; cases hgd
            | 6, ho => cases ho; cases hgd
            | 7, ho => cases ho; cases hgd
            | 8, ho => cases ho; cases hgd
            | 9, ho => cases ho; cases hgd
            | 10, ho => cases ho; cases hgd
            | 11, ho => cases ho; cases hgd
            | n + 12, ho => exact absurd ho (by simp)
          case ng =>
            intro i o ho hgd
            match i, ho with
            | 0, ho => cases ho; first | rfl | cases hgd
            | 1, ho => cases ho; first | rfl | cases hgd
            | 2, ho => cases ho; first | rfl | cases hgd
            | 3, ho => cases ho; first | rfl | cases hgd
            | 4, ho => cases ho; first | rfl | cases hgd
            | 5, ho => cases ho; first | rfl | cases hgd
            | 6, ho => cases ho; first | rfl | cases hgd
            | 7, ho => cases ho; first | rfl | cases hgd
            | 8, ho => cases ho; first | rfl | cases hgd
            | 9, ho => cases ho; first | rfl | cases hgd
            | 10, ho => cases ho; first | rfl | cases hgd
            | 11, ho => cases ho; first | rfl | cases hgd
            | n + 12, ho => exact absurd ho (by simp)
          case skip =>
            intro i W hi hsel
            match i, hi, hsel with
            | 0, _, hsel => first | exact absurd hsel (by decide) | rfl
            | 1, _, hsel => first | exact absurd hsel (by decide) | rfl
            | 2, _, hsel => first | exact absurd hsel (by decide) | rfl
            | 3, _, hsel => first | exact absurd hsel (by decide) | rfl
            | 4, _, hsel => first | exact absurd hsel (by decide) | rfl
            | 5, _, hsel => first | exact absurd hsel (by decide) | rfl
            | 6, _, hsel => first | exact absurd hsel (by decide) | rfl
            | 7, _, hsel => first | exact absurd hsel (by decide) | rfl
            | 8, _, hsel => first | exact absurd hsel (by decide) | rfl
            | 9, _, hsel => first | exact absurd hsel (by decide) | rfl
            | 10, _, hsel => first | exact absurd hsel (by decide) | rfl
            | 11, _, hsel => first | exact absurd hsel (by decide) | rfl
            | n + 12, hi, _ => exact absurd hi (by simp)
          case step =>
            intro f a' W i o ho hsel hpre hbel hrest
            match i, ho, hsel with
            | 0, ho, _ =>
              cases ho
              have q0 : a'.tmps.getD 0 undef = .string s := (hrest 0 (by intro i hi; have hi : i < 12 := hi; show ([35, 36, 37, 38, 39, 40, 41, 42, 43, 4, 5, 6] : List Nat).getD i 6 ≠ _; revert i; decide))
              have e0 := rg_ev q0
              exact rg_same (.string s) (by unfold Oper.wp execOp; go_simp; all_goals ((try simp only [e0]); (try go_simp); (try rw [if_pos (by omega)]); (try rw [if_neg (by omega)]); first | done | rfl | exact ⟨rfl, rfl⟩ | trivial)) rfl
            | 1, ho, _ =>
              cases ho
              have q8 : a'.tmps.getD 8 undef = .int .i64 (k : Int) := (hrest 8 (by intro i hi; have hi : i < 12 := hi; show ([35, 36, 37, 38, 39, 40, 41, 42, 43, 4, 5, 6] : List Nat).getD i 6 ≠ _; revert i; decide))
              have e8 := rg_ev q8
              exact rg_same (.int .i64 (k : Int)) (by unfold Oper.wp execOp; go_simp; all_goals ((try simp only [e8]); (try go_simp); (try rw [if_pos (by omega)]); (try rw [if_neg (by omega)]); first | done | rfl | exact ⟨rfl, rfl⟩ | trivial)) rfl
            | 2, ho, _ =>
              cases ho
              have q35 : a'.tmps.getD 35 undef = .string s := (hpre { on := 0, ground := .data } (by simp) rfl)
              have q36 : a'.tmps.getD 36 undef = .int .i64 (k : Int) := (hpre { on := 1, ground := .data } (by simp) rfl)
              have e35 := rg_ev q35
              have e36 := rg_ev q36
              exact rg_same (.string z1) (by unfold Oper.wp execOp; go_simp; all_goals ((try simp only [e35, e36]); (try go_simp); (try rw [if_pos (by omega)]); (try rw [if_neg (by omega)]); first | done | rfl | exact ⟨rfl, rfl⟩ | trivial)) rfl
            | 3, ho, _ =>
              cases ho
              have q37 : a'.tmps.getD 37 undef = .string z1 := (hpre { on := 2, ground := .data } (by simp) rfl)
              exact rg_call 37 48 _ _ _ rfl q37 (enters_of Tryz.func48 (by kernel_rfl) rfl) (C1.out W) (fun e w' h => ⟨_, h.1, _, rfl, rfl, by rw [← h.2]; exact Below.refl _ _⟩)
            | 4, ho, _ =>
              cases ho
              have q0 : a'.tmps.getD 0 undef = .string s := (hrest 0 (by intro i hi; have hi : i < 12 := hi; show ([35, 36, 37, 38, 39, 40, 41, 42, 43, 4, 5, 6] : List Nat).getD i 6 ≠ _; revert i; decide))
              have e0 := rg_ev q0
              exact rg_same (.string s) (by unfold Oper.wp execOp; go_simp; all_goals ((try simp only [e0]); (try go_simp); (try rw [if_pos (by omega)]); (try rw [if_neg (by omega)]); first | done | rfl | exact ⟨rfl, rfl⟩ | trivial)) rfl
            | 5, ho, _ =>
              cases ho
              have q8 : a'.tmps.getD 8 undef = .int .i64 (k : Int) := (hrest 8 (by intro i hi; have hi : i < 12 := hi; show ([35, 36, 37, 38, 39, 40, 41, 42, 43, 4, 5, 6] : List Nat).getD i 6 ≠ _; revert i; decide))
              have e8 := rg_ev q8
              exact rg_same (.int .i64 (k : Int)) (by unfold Oper.wp execOp; go_simp; all_goals ((try simp only [e8]); (try go_simp); (try rw [if_pos (by omega)]); (try rw [if_neg (by omega)]); first | done | rfl | exact ⟨rfl, rfl⟩ | trivial)) rfl
            | 6, ho, _ =>
              cases ho
              have q40 : a'.tmps.getD 40 undef = .int .i64 (k : Int) := (hpre { on := 5, ground := .data } (by simp) rfl)
              have e40 := rg_ev q40
              exact rg_same (.int .i64 ((k : Int) + 1)) (by unfold Oper.wp execOp; go_simp; all_goals ((try simp only [e40]); (try go_simp); (try rw [if_pos (by omega)]); (try rw [if_neg (by omega)]); first | done | rfl | exact ⟨rfl, rfl⟩ | trivial)) rfl
            | 7, ho, _ =>
              cases ho
              have q39 : a'.tmps.getD 39 undef = .string s := (hpre { on := 4, ground := .data } (by simp) rfl)
              have q41 : a'.tmps.getD 41 undef = .int .i64 ((k : Int) + 1) := (hpre { on := 6, ground := .data } (by simp) rfl)
              have e39 := rg_ev q39
              have e41 := rg_ev q41
              exact rg_same (.string z2) (by unfold Oper.wp execOp; go_simp; all_goals ((try simp only [e39, e41]); (try go_simp); (try rw [if_pos (by omega)]); (try rw [if_neg (by omega)]); first | done | rfl | exact ⟨rfl, rfl⟩ | trivial)) rfl
            | 8, ho, _ =>
              cases ho
              have q42 : a'.tmps.getD 42 undef = .string z2 := (hpre { on := 7, ground := .data } (by simp) rfl)
              exact rg_call 42 48 _ _ _ rfl q42 (enters_of Tryz.func48 (by kernel_rfl) rfl) (C2.out W) (fun e w' h => ⟨_, h.1, _, rfl, rfl, by rw [← h.2]; exact Below.refl _ _⟩)
            | 9, ho, _ =>
              cases ho
              have q38 : a'.tmps.getD 38 undef = .string t1 := (hpre { on := 3, ground := .data } (by simp) rfl)
              have e38 := rg_ev q38
              exact rg_same (.string t1) (by unfold Oper.wp execOp; go_simp; all_goals ((try simp only [e38]); (try go_simp); (try rw [if_pos (by omega)]); (try rw [if_neg (by omega)]); first | done | rfl | exact ⟨rfl, rfl⟩ | trivial)) rfl
            | 10, ho, _ =>
              cases ho
              have q43 : a'.tmps.getD 43 undef = .string t2 := (hpre { on := 8, ground := .data } (by simp) rfl)
              have e43 := rg_ev q43
              exact rg_same (.string t2) (by unfold Oper.wp execOp; go_simp; all_goals ((try simp only [e43]); (try go_simp); (try rw [if_pos (by omega)]); (try rw [if_neg (by omega)]); first | done | rfl | exact ⟨rfl, rfl⟩ | trivial)) rfl
            | 11, ho, _ =>
              cases ho
              exact rg_same (.bool true) (by unfold Oper.wp execOp; go_simp; all_goals ((try simp only []); (try go_simp); (try rw [if_pos (by omega)]); (try rw [if_neg (by omega)]); first | done | rfl | exact ⟨rfl, rfl⟩ | trivial)) rfl
            | n + 12, ho, _ => exact absurd ho (by simp)
          case done =>
            intro vs W hbel hvs
            have v0 : vs 0 = .string s := hvs 0 (by decide)
            have v1 : vs 1 = .int .i64 (k : Int) := hvs 1 (by decide)
            have v2 : vs 2 = .string z1 := hvs 2 (by decide)
            have v3 : vs 3 = .string t1 := hvs 3 (by decide)
            have v4 : vs 4 = .string s := hvs 4 (by decide)
            have v5 : vs 5 = .int .i64 (k : Int) := hvs 5 (by decide)
            have v6 : vs 6 = .int .i64 ((k : Int) + 1) := hvs 6 (by decide)
            have v7 : vs 7 = .string z2 := hvs 7 (by decide)
            have v8 : vs 8 = .string t2 := hvs 8 (by decide)
            have v9 : vs 9 = .string t1 := hvs 9 (by decide)
            have v10 : vs 10 = .string t2 := hvs 10 (by decide)
            have v11 : vs 11 = .bool true := hvs 11 (by decide)
            have HBR := Lib.hid hbel
            simp only [fillN, List.size_toArray, List.length_cons, List.length_nil, Nat.reduceAdd, show List.range 12 = [0, 1, 2, 3, 4, 5, 6, 7, 8, 9, 10, 11] from rfl, List.foldl_cons, List.foldl_nil, show ([35, 36, 37, 38, 39, 40, 41, 42, 43, 4, 5, 6] : List Nat).getD 0 6 = 35 from rfl, show ([35, 36, 37, 38, 39, 40, 41, 42, 43, 4, 5, 6] : List Nat).getD 1 6 = 36 from rfl, show ([35, 36, 37, 38, 39, 40, 41, 42, 43, 4, 5, 6] : List Nat).getD 2 6 = 37 from rfl, show ([35, 36, 37, 38, 39, 40, 41, 42, 43, 4, 5, 6] : List Nat).getD 3 6 = 38 from rfl, show ([35, 36, 37, 38, 39, 40, 41, 42, 43, 4, 5, 6] : List Nat).getD 4 6 = 39 from rfl, show ([35, 36, 37, 38, 39, 40, 41, 42, 43, 4, 5, 6] : List Nat).getD 5 6 = 40 from rfl, show ([35, 36, 37, 38, 39, 40, 41, 42, 43, 4, 5, 6] : List Nat).getD 6 6 = 41 from rfl, show ([35, 36, 37, 38, 39, 40, 41, 42, 43, 4, 5, 6] : List Nat).getD 7 6 = 42 from rfl, show ([35, 36, 37, 38, 39, 40, 41, 42, 43, 4, 5, 6] : List Nat).getD 8 6 = 43 from rfl, show ([35, 36, 37, 38, 39, 40, 41, 42, 43, 4, 5, 6] : List Nat).getD 9 6 = 4 from rfl, show ([35, 36, 37, 38, 39, 40, 41, 42, 43, 4, 5, 6] : List Nat).getD 10 6 = 5 from rfl, show ([35, 36, 37, 38, 39, 40, 41, 42, 43, 4, 5, 6] : List Nat).getD 11 6 = 6 from rfl, v0, v1, v2, v3, v4, v5, v6, v7, v8, v9, v10, v11]
            clear v0 v1 v2 v3 v4 v5 v6 v7 v8 v9 v10 v11 hvs hbel
            go_simp
            go_wp2_with fail
            refine bodyPost_ret (v := .tuple #[.string t1, .string t2, .bool true]) (by simp [results, Tryz.results23, go_sem]) rfl ⟨?_, ?_⟩
            · rw [HC.out, ← HT1.out, ← HT2.out]; rfl
            · exact HBR.out
        · have e0 : (x == by_) = false := beq_eq_false_iff_ne.2 hby
          have HQ2 := Lib.hid (HQ1.out (by rw [e0]; rfl) rfl)
          clear HE1 HQ1 HH hby
          by_cases h34 : x = 34
          · have e2 : (x == 34) = true := beq_iff_eq.2 h34
            clear h34
            rw [e2] at HQ2
            go_wp2_with (simp only [hix])
            go_roundw
            case rel => exact ⟨k + 1, true, by omega, by go_num, rfl, fun h => HQ2.out, fun h => absurd h (by omega), by first | trivial | rfl⟩
            case measure => simp [intOf]; omega
          · have e2 : (x == 34) = false := beq_eq_false_iff_ne.2 h34
            clear h34
            rw [e2] at HQ2
            go_wp2_with (simp only [hix])
            go_roundw
            case rel => exact ⟨k + 1, false, by omega, by go_num, rfl, fun h => HQ2.out, fun h => absurd h (by omega), by first | trivial | rfl⟩
            case measure => simp [intOf]; omega
    · have hI : ¬ (k : Int) < (n : Int) := by omega
      have HC := Lib.hid (show Tp.cut s.data.toList by_ = (Tp.trim s.data.toList, [], false) from by
        by_cases h : k = n
        · exact Tp.cutSt_end (HST.out (by omega)) (by rw [HSL.out]; exact h)
        · exact HEN.out (by omega))
      have c1 := rtk_trim s wr (by omega)
      have C1 := Lib.hid c1
      clear c1
      go_wp2_with fail
      refine C1.out.mono ?_
      rintro e w' ⟨rfl, hw⟩
      subst hw
      go_wp2_with fail
      refine bodyPost_ret (v := .tuple #[.string ⟨(Tp.trim s.data.toList).toArray⟩, .string ⟨#[]⟩, .bool false]) (by simp [results, Tryz.results23, go_sem]) rfl ⟨?_, Below.refl _ _⟩
      rw [HC.out]; rfl
end Go.Proofs.YtheaichiglfmjaaGreatDoor

/- response: the reference's status. No conditions but those that the law states. -/
namespace Go.Proofs.YtheaichiglfmjaaGreatDoor
set_option linter.unusedVariables false
set_option linter.unusedSimpArgs false
open Go.RowKit Go.Shelf
set_option maxHeartbeats 4000000
set_option maxRecDepth 100000
namespace Rs
theorem stW_no {F : List UInt8} (h0 : ¬ F.take 9 = pre0) (h1 : ¬ F.take 9 = Hp.http) : stW F = 0 := by
  unfold stW rest
  rw [if_neg h0, if_neg h1]
theorem stW_rest {F : List UInt8} (h : F.take 9 = pre0 ∨ F.take 9 = Hp.http) : stW F = stB (F.drop 9) := by
  unfold stW rest
  by_cases h0 : F.take 9 = pre0
  · rw [if_pos h0]
  · rw [if_neg h0, if_pos (h.resolve_left h0)]
theorem stB_short {r : List UInt8} (h : r.length < 3) : stB r = 0 := by
  match r, h with
  | [], _ => rfl
  | [a], _ => rfl
  | [a, b], _ => rfl
theorem stW_short {F : List UInt8} (h : F.length < 12) : stW F = 0 := by
  by_cases hp : F.take 9 = pre0 ∨ F.take 9 = Hp.http
  · rw [stW_rest hp]
    exact stB_short (by rw [List.length_drop]; omega)
  · exact stW_no (fun e => hp (.inl e)) (fun e => hp (.inr e))
theorem stW_long {F : List UInt8} (hp : F.take 9 = pre0 ∨ F.take 9 = Hp.http) (h : 12 ≤ F.length) :
    stW F = if (F.drop 12 = [] ∨ (F.drop 12).head? = some 32) ∧ fig (F[9]'(by omega)) = true ∧ fig (F[10]'(by omega)) = true ∧ fig (F[11]'(by omega)) = true ∧ (100 : Int) ≤ three (F[9]'(by omega)) (F[10]'(by omega)) (F[11]'(by omega)) ∧ three (F[9]'(by omega)) (F[10]'(by omega)) (F[11]'(by omega)) ≤ 599 then three (F[9]'(by omega)) (F[10]'(by omega)) (F[11]'(by omega)) else 0 := by
  rw [stW_rest hp, List.drop_eq_getElem_cons (show 9 < F.length by omega), List.drop_eq_getElem_cons (show 10 < F.length by omega), List.drop_eq_getElem_cons (show 11 < F.length by omega), stB_three]
theorem fig_no {c : UInt8} {x : Int} (hx : (c.toNat : Int) = x) (h : ¬ (48 ≤ x ∧ x ≤ 57)) : ¬ fig c = true := fun e => h (by rw [← hx]; exact of_decide_eq_true e)
end Rs
theorem rf_status (s : ByteArray) (w : World) (hs : s.size ≤ 1000000) :
    Calls Tryz.prog 21 #[.string s] w fun e w' => e = .returned (.int .i64 (Rs.stW s.data.toList)) ∧ w' = w := by
  obtain ⟨n, hn⟩ : ∃ z, s.size = z := ⟨_, rfl⟩
  have hl : s.data.toList.length = n := by rw [← hn]; rfl
  by_cases h12 : n < 12
  · rw [Rs.stW_short (by rw [hl]; exact h12)]
    have hI : (n : Int) < 12 := by omega
    go_enter Tryz.func21, Tryz.ntmps21
    go_wp2_with fail
    go_ret
    exact ⟨rfl, rfl⟩
  have hI : ¬ (n : Int) < 12 := by omega
  have hsl : ∀ W, (Instr.slice 9 (.string s) none (some (.int .i64 9)) none).run Tryz.prog W = .ok (.string (s.extract 0 9)) W := fun W => slice_to s W 9 (by omega) (by omega)
  have hxd : (s.extract 0 9).data.toList = s.data.toList.take 9 := Lib.extract_from_zero s 9
  have d1 : (s.extract 0 9).toList = [72, 84, 84, 80, 47, 49, 46, 49, 32] ↔ s.data.toList.take 9 = Hp.http := by rw [ByteArray.toList_eq, hxd]; exact Iff.rfl
  have d0 : (s.extract 0 9).toList = [72, 84, 84, 80, 47, 49, 46, 48, 32] ↔ s.data.toList.take 9 = Rs.pre0 := by rw [ByteArray.toList_eq, hxd]; exact Iff.rfl
  have D1 := Lib.hid d1
  have D0 := Lib.hid d0
  clear d1 d0 hxd hsl
  by_cases hp : ¬ s.data.toList.take 9 = Rs.pre0 ∧ ¬ s.data.toList.take 9 = Hp.http
  · rw [Rs.stW_no hp.1 hp.2]
    have b0 : ¬ (s.extract 0 9).toList = [72, 84, 84, 80, 47, 49, 46, 48, 32] := fun e => hp.1 (D0.out.1 e)
    have b1 : ¬ (s.extract 0 9).toList = [72, 84, 84, 80, 47, 49, 46, 49, 32] := fun e => hp.2 (D1.out.1 e)
    clear hp hl
    go_enter Tryz.func21, Tryz.ntmps21
    go_wp2_with fail
    go_ret
    exact ⟨rfl, rfl⟩
  have hp2 : s.data.toList.take 9 = Rs.pre0 ∨ s.data.toList.take 9 = Hp.http := by
    by_cases e : s.data.toList.take 9 = Rs.pre0
    · exact .inl e
    · exact .inr (Classical.byContradiction fun e2 => hp ⟨e, e2⟩)
  have hW := Rs.stW_long hp2 (by rw [hl]; omega)
  have hpq : decide (s.data.toList.take 9 = Hp.http) = true ∨ (decide (s.data.toList.take 9 = Hp.http) = false ∧ decide (s.data.toList.take 9 = Rs.pre0) = true) := by
    by_cases e : s.data.toList.take 9 = Hp.http
    · exact .inl (decide_eq_true e)
    · exact .inr ⟨decide_eq_false e, decide_eq_true (hp2.resolve_right e)⟩
  have h9 : ∀ W, (Instr.index 9 (.string s) (.int .i64 9)).run Tryz.prog W = .ok (.int .u8 ((s[9]'(by omega)).toNat : Int)) W := fun W => index_at s W 9 (by omega)
  have h10 : ∀ W, (Instr.index 9 (.string s) (.int .i64 10)).run Tryz.prog W = .ok (.int .u8 ((s[10]'(by omega)).toNat : Int)) W := fun W => index_at s W 10 (by omega)
  have h11 : ∀ W, (Instr.index 9 (.string s) (.int .i64 11)).run Tryz.prog W = .ok (.int .u8 ((s[11]'(by omega)).toNat : Int)) W := fun W => index_at s W 11 (by omega)
  rw [show s.data.toList[9] = s[9] from rfl, show s.data.toList[10] = s[10] from rfl, show s.data.toList[11] = s[11] from rfl] at hW
  obtain ⟨a, ha⟩ : ∃ z, s[9] = z := ⟨_, rfl⟩
  obtain ⟨b, hb⟩ : ∃ z, s[10] = z := ⟨_, rfl⟩
  obtain ⟨c, hc⟩ : ∃ z, s[11] = z := ⟨_, rfl⟩
  simp only [ha] at hW h9
  simp only [hb] at hW h10
  simp only [hc] at hW h11
  clear ha hb hc
  -- what stands behind the figures
  have htl : (12 < n ∧ ∃ d : UInt8, (∀ W, (Instr.index 9 (.string s) (.int .i64 12)).run Tryz.prog W = .ok (.int .u8 (d.toNat : Int)) W) ∧ (s.data.toList.drop 12 = [] ∨ (s.data.toList.drop 12).head? = some 32 ↔ d = 32)) ∨ (n = 12 ∧ s.data.toList.drop 12 = []) := by
    by_cases h : 12 < n
    · have h13 : 12 < s.size := by omega
      refine .inl ⟨h, s[12], fun W => index_at s W 12 h13, ?_⟩
      rw [List.drop_eq_getElem_cons (show 12 < s.data.toList.length by omega)]
      simp only [List.head?_cons, Option.some.injEq, reduceCtorEq, false_or]
      exact Iff.rfl
    · exact .inr ⟨by omega, List.drop_eq_nil_of_le (by omega)⟩
  clear hp hp2 hl
  have hP : ((s.extract 0 9).toList = [72, 84, 84, 80, 47, 49, 46, 49, 32]) ∨ (¬ (s.extract 0 9).toList = [72, 84, 84, 80, 47, 49, 46, 49, 32] ∧ (s.extract 0 9).toList = [72, 84, 84, 80, 47, 49, 46, 48, 32]) := by
    rcases hpq with h | ⟨h1, h2⟩
    · exact .inl (D1.out.2 (of_decide_eq_true h))
    · exact .inr ⟨fun e => of_decide_eq_false h1 (D1.out.1 e), D0.out.2 (of_decide_eq_true h2)⟩
  clear hpq
  have HW := Lib.hid hW
  obtain ⟨tl, htl2⟩ : ∃ t : Bool, decide (s.data.toList.drop 12 = [] ∨ (s.data.toList.drop 12).head? = some 32) = t := ⟨_, rfl⟩
  have HTT := Lib.hid (show (s.data.toList.drop 12 = [] ∨ (s.data.toList.drop 12).head? = some 32) ↔ tl = true by rw [← htl2]; exact decide_eq_true_iff.symm)
  have hends : (12 < n ∧ ∃ d : UInt8, (∀ W, (Instr.index 9 (.string s) (.int .i64 12)).run Tryz.prog W = .ok (.int .u8 (d.toNat : Int)) W) ∧ (tl = true ↔ d = 32)) ∨ (n = 12 ∧ tl = true) := by
    rw [← HTT.out]
    rcases htl with ⟨h1, d, h2, h3⟩ | ⟨h1, h2⟩
    · exact .inl ⟨h1, d, h2, h3⟩
    · exact .inr ⟨h1, .inl h2⟩
  clear htl htl2 hW
  have hA : ∃ x : Int, (a.toNat : Int) = x ∧ 0 ≤ x ∧ x < 256 := ⟨_, rfl, by omega, by have := a.toNat_lt; omega⟩
  have hBB : ∃ x : Int, (b.toNat : Int) = x ∧ 0 ≤ x ∧ x < 256 := ⟨_, rfl, by omega, by have := b.toNat_lt; omega⟩
  have hCC : ∃ x : Int, (c.toNat : Int) = x ∧ 0 ≤ x ∧ x < 256 := ⟨_, rfl, by omega, by have := c.toNat_lt; omega⟩
  obtain ⟨xa, ha, a0, a1⟩ := hA
  obtain ⟨xb, hb, b0, b1⟩ := hBB
  obtain ⟨xc, hc, c0, c1⟩ := hCC
  have hno : ∀ {c : UInt8} {x : Int}, (c.toNat : Int) = x → (Rs.fig c = true ↔ 48 ≤ x ∧ x ≤ 57) := fun h => ⟨fun e => by rw [← h]; exact of_decide_eq_true e, fun e => decide_eq_true (by rw [h]; exact e)⟩
  have HT := Lib.hid (show Rs.stW s.data.toList = if tl = true ∧ (48 ≤ xa ∧ xa ≤ 57) ∧ (48 ≤ xb ∧ xb ≤ 57) ∧ (48 ≤ xc ∧ xc ≤ 57) ∧ 100 ≤ (xa - 48) * 100 + (xb - 48) * 10 + (xc - 48) ∧ (xa - 48) * 100 + (xb - 48) * 10 + (xc - 48) ≤ 599 then (xa - 48) * 100 + (xb - 48) * 10 + (xc - 48) else 0 by
    rw [HW.out]
    unfold Rs.three
    simp only [HTT.out, hno ha, hno hb, hno hc, ha, hb, hc])
  rw [ha] at h9
  rw [hb] at h10
  rw [hc] at h11
  clear ha hb hc hno HW D0 D1 HTT
  rcases hP with e1 | ⟨e1, e2⟩
  · rcases hends with ⟨h13, d, h12i, hd⟩ | ⟨h13, htl⟩
    · by_cases h32 : d = 32
      · subst h32
        have htl := hd.2 rfl
        have q32 : ((32 : UInt8).toNat : Int) = 32 := rfl
        rw [q32] at h12i
        have hi13 : (12 : Int) < (n : Int) := by omega
        clear hd
        go_enter Tryz.func21, Tryz.ntmps21
        go_wp2_with fail
        refine wp_loop_rounds 4 ?_
        rw [rounds_succ]
        by_cases fa : 48 ≤ xa ∧ xa ≤ 57
        · have p1 : ¬ xa < 48 := by omega
          have p2 : ¬ 57 < xa := by omega
          go_wp2_with (simp only [h9])
          rw [rounds_succ]
          by_cases fb : 48 ≤ xb ∧ xb ≤ 57
          · have p1 : ¬ xb < 48 := by omega
            have p2 : ¬ 57 < xb := by omega
            go_wp2_with (simp only [h10])
            rw [rounds_succ]
            by_cases fc : 48 ≤ xc ∧ xc ≤ 57
            · have p1 : ¬ xc < 48 := by omega
              have p2 : ¬ 57 < xc := by omega
              go_wp2_with (simp only [h11])
              rw [rounds_succ]
              obtain ⟨v, hv⟩ : ∃ z, (xa - 48) * 100 + (xb - 48) * 10 + (xc - 48) = z := ⟨_, rfl⟩
              rw [hv] at HT
              by_cases r1 : v < 100
              · have ht0 : Rs.stW s.data.toList = 0 := by rw [HT.out, if_neg (by omega)]
                have HT0 := Lib.hid ht0
                clear ht0
                go_wp2_with fail
                go_ret
                exact ⟨by rw [HT0.out]; rfl, rfl⟩
              · by_cases r2 : 599 < v
                · have ht0 : Rs.stW s.data.toList = 0 := by rw [HT.out, if_neg (by omega)]
                  have HT0 := Lib.hid ht0
                  clear ht0
                  go_wp2_with fail
                  go_ret
                  exact ⟨by rw [HT0.out]; rfl, rfl⟩
                · have ht0 : Rs.stW s.data.toList = v := by rw [HT.out, if_pos ⟨htl, fa, fb, fc, by omega, by omega⟩]
                  have HT0 := Lib.hid ht0
                  clear ht0
                  go_wp2_with fail
                  go_ret
                  exact ⟨by rw [HT0.out, ← hv]; show Ending.returned (.int .i64 (10 * (10 * (xa - 48) + (xb - 48)) + (xc - 48))) = _; congr 2; omega, rfl⟩
            · have ht0 : Rs.stW s.data.toList = 0 := by rw [HT.out, if_neg (by omega)]
              have HT0 := Lib.hid ht0
              clear ht0
              by_cases p1 : xc < 48
              · go_wp2_with (simp only [h11])
                go_ret
                exact ⟨by rw [HT0.out]; rfl, rfl⟩
              · have p2 : 57 < xc := by omega
                go_wp2_with (simp only [h11])
                go_ret
                exact ⟨by rw [HT0.out]; rfl, rfl⟩
          · have ht0 : Rs.stW s.data.toList = 0 := by rw [HT.out, if_neg (by omega)]
            have HT0 := Lib.hid ht0
            clear ht0
            by_cases p1 : xb < 48
            · go_wp2_with (simp only [h10])
              go_ret
              exact ⟨by rw [HT0.out]; rfl, rfl⟩
            · have p2 : 57 < xb := by omega
              go_wp2_with (simp only [h10])
              go_ret
              exact ⟨by rw [HT0.out]; rfl, rfl⟩
        · have ht0 : Rs.stW s.data.toList = 0 := by rw [HT.out, if_neg (by omega)]
          have HT0 := Lib.hid ht0
          clear ht0
          by_cases p1 : xa < 48
          · go_wp2_with (simp only [h9])
            go_ret
            exact ⟨by rw [HT0.out]; rfl, rfl⟩
          · have p2 : 57 < xa := by omega
            go_wp2_with (simp only [h9])
            go_ret
            exact ⟨by rw [HT0.out]; rfl, rfl⟩
      · have q32 : ((d.toNat : Int) != 32) = true := by
          rw [bne_iff_ne]
          exact fun e => h32 (UInt8.toNat_inj.1 (by have : d.toNat = 32 := by omega
                                                    rw [this]; rfl))
        have ht0 : Rs.stW s.data.toList = 0 := by rw [HT.out, if_neg (fun h => h32 (hd.1 h.1))]
        have HT0 := Lib.hid ht0
        have hi13 : (12 : Int) < (n : Int) := by omega
        clear ht0
        go_enter Tryz.func21, Tryz.ntmps21
        go_wp2_with (simp only [h12i])
        go_ret
        exact ⟨by rw [HT0.out]; rfl, rfl⟩
    · subst h13
      go_enter Tryz.func21, Tryz.ntmps21
      go_wp2_with fail
      refine wp_loop_rounds 4 ?_
      rw [rounds_succ]
      by_cases fa : 48 ≤ xa ∧ xa ≤ 57
      · have p1 : ¬ xa < 48 := by omega
        have p2 : ¬ 57 < xa := by omega
        go_wp2_with (simp only [h9])
        rw [rounds_succ]
        by_cases fb : 48 ≤ xb ∧ xb ≤ 57
        · have p1 : ¬ xb < 48 := by omega
          have p2 : ¬ 57 < xb := by omega
          go_wp2_with (simp only [h10])
          rw [rounds_succ]
          by_cases fc : 48 ≤ xc ∧ xc ≤ 57
          · have p1 : ¬ xc < 48 := by omega
            have p2 : ¬ 57 < xc := by omega
            go_wp2_with (simp only [h11])
            rw [rounds_succ]
            obtain ⟨v, hv⟩ : ∃ z, (xa - 48) * 100 + (xb - 48) * 10 + (xc - 48) = z := ⟨_, rfl⟩
            rw [hv] at HT
            by_cases r1 : v < 100
            · have ht0 : Rs.stW s.data.toList = 0 := by rw [HT.out, if_neg (by omega)]
              have HT0 := Lib.hid ht0
              clear ht0
              go_wp2_with fail
              go_ret
              exact ⟨by rw [HT0.out]; rfl, rfl⟩
            · by_cases r2 : 599 < v
              · have ht0 : Rs.stW s.data.toList = 0 := by rw [HT.out, if_neg (by omega)]
                have HT0 := Lib.hid ht0
                clear ht0
                go_wp2_with fail
                go_ret
                exact ⟨by rw [HT0.out]; rfl, rfl⟩
              · have ht0 : Rs.stW s.data.toList = v := by rw [HT.out, if_pos ⟨htl, fa, fb, fc, by omega, by omega⟩]
                have HT0 := Lib.hid ht0
                clear ht0
                go_wp2_with fail
                go_ret
                exact ⟨by rw [HT0.out, ← hv]; show Ending.returned (.int .i64 (10 * (10 * (xa - 48) + (xb - 48)) + (xc - 48))) = _; congr 2; omega, rfl⟩
          · have ht0 : Rs.stW s.data.toList = 0 := by rw [HT.out, if_neg (by omega)]
            have HT0 := Lib.hid ht0
            clear ht0
            by_cases p1 : xc < 48
            · go_wp2_with (simp only [h11])
              go_ret
              exact ⟨by rw [HT0.out]; rfl, rfl⟩
            · have p2 : 57 < xc := by omega
              go_wp2_with (simp only [h11])
              go_ret
              exact ⟨by rw [HT0.out]; rfl, rfl⟩
        · have ht0 : Rs.stW s.data.toList = 0 := by rw [HT.out, if_neg (by omega)]
          have HT0 := Lib.hid ht0
          clear ht0
          by_cases p1 : xb < 48
          · go_wp2_with (simp only [h10])
            go_ret
            exact ⟨by rw [HT0.out]; rfl, rfl⟩
          · have p2 : 57 < xb := by omega
            go_wp2_with (simp only [h10])
            go_ret
            exact ⟨by rw [HT0.out]; rfl, rfl⟩
      · have ht0 : Rs.stW s.data.toList = 0 := by rw [HT.out, if_neg (by omega)]
        have HT0 := Lib.hid ht0
        clear ht0
        by_cases p1 : xa < 48
        · go_wp2_with (simp only [h9])
          go_ret
          exact ⟨by rw [HT0.out]; rfl, rfl⟩
        · have p2 : 57 < xa := by omega
          go_wp2_with (simp only [h9])
          go_ret
          exact ⟨by rw [HT0.out]; rfl, rfl⟩
  · rcases hends with ⟨h13, d, h12i, hd⟩ | ⟨h13, htl⟩
    · by_cases h32 : d = 32
      · subst h32
        have htl := hd.2 rfl
        have q32 : ((32 : UInt8).toNat : Int) = 32 := rfl
        rw [q32] at h12i
        have hi13 : (12 : Int) < (n : Int) := by omega
        clear hd
        go_enter Tryz.func21, Tryz.ntmps21
        go_wp2_with fail
        refine wp_loop_rounds 4 ?_
        rw [rounds_succ]
        by_cases fa : 48 ≤ xa ∧ xa ≤ 57
        · have p1 : ¬ xa < 48 := by omega
          have p2 : ¬ 57 < xa := by omega
          go_wp2_with (simp only [h9])
          rw [rounds_succ]
          by_cases fb : 48 ≤ xb ∧ xb ≤ 57
          · have p1 : ¬ xb < 48 := by omega
            have p2 : ¬ 57 < xb := by omega
            go_wp2_with (simp only [h10])
            rw [rounds_succ]
            by_cases fc : 48 ≤ xc ∧ xc ≤ 57
            · have p1 : ¬ xc < 48 := by omega
              have p2 : ¬ 57 < xc := by omega
              go_wp2_with (simp only [h11])
              rw [rounds_succ]
              obtain ⟨v, hv⟩ : ∃ z, (xa - 48) * 100 + (xb - 48) * 10 + (xc - 48) = z := ⟨_, rfl⟩
              rw [hv] at HT
              by_cases r1 : v < 100
              · have ht0 : Rs.stW s.data.toList = 0 := by rw [HT.out, if_neg (by omega)]
                have HT0 := Lib.hid ht0
                clear ht0
                go_wp2_with fail
                go_ret
                exact ⟨by rw [HT0.out]; rfl, rfl⟩
              · by_cases r2 : 599 < v
                · have ht0 : Rs.stW s.data.toList = 0 := by rw [HT.out, if_neg (by omega)]
                  have HT0 := Lib.hid ht0
                  clear ht0
                  go_wp2_with fail
                  go_ret
                  exact ⟨by rw [HT0.out]; rfl, rfl⟩
                · have ht0 : Rs.stW s.data.toList = v := by rw [HT.out, if_pos ⟨htl, fa, fb, fc, by omega, by omega⟩]
                  have HT0 := Lib.hid ht0
                  clear ht0
                  go_wp2_with fail
                  go_ret
                  exact ⟨by rw [HT0.out, ← hv]; show Ending.returned (.int .i64 (10 * (10 * (xa - 48) + (xb - 48)) + (xc - 48))) = _; congr 2; omega, rfl⟩
            · have ht0 : Rs.stW s.data.toList = 0 := by rw [HT.out, if_neg (by omega)]
              have HT0 := Lib.hid ht0
              clear ht0
              by_cases p1 : xc < 48
              · go_wp2_with (simp only [h11])
                go_ret
                exact ⟨by rw [HT0.out]; rfl, rfl⟩
              · have p2 : 57 < xc := by omega
                go_wp2_with (simp only [h11])
                go_ret
                exact ⟨by rw [HT0.out]; rfl, rfl⟩
          · have ht0 : Rs.stW s.data.toList = 0 := by rw [HT.out, if_neg (by omega)]
            have HT0 := Lib.hid ht0
            clear ht0
            by_cases p1 : xb < 48
            · go_wp2_with (simp only [h10])
              go_ret
              exact ⟨by rw [HT0.out]; rfl, rfl⟩
            · have p2 : 57 < xb := by omega
              go_wp2_with (simp only [h10])
              go_ret
              exact ⟨by rw [HT0.out]; rfl, rfl⟩
        · have ht0 : Rs.stW s.data.toList = 0 := by rw [HT.out, if_neg (by omega)]
          have HT0 := Lib.hid ht0
          clear ht0
          by_cases p1 : xa < 48
          · go_wp2_with (simp only [h9])
            go_ret
            exact ⟨by rw [HT0.out]; rfl, rfl⟩
          · have p2 : 57 < xa := by omega
            go_wp2_with (simp only [h9])
            go_ret
            exact ⟨by rw [HT0.out]; rfl, rfl⟩
      · have q32 : ((d.toNat : Int) != 32) = true := by
          rw [bne_iff_ne]
          exact fun e => h32 (UInt8.toNat_inj.1 (by have : d.toNat = 32 := by omega
                                                    rw [this]; rfl))
        have ht0 : Rs.stW s.data.toList = 0 := by rw [HT.out, if_neg (fun h => h32 (hd.1 h.1))]
        have HT0 := Lib.hid ht0
        have hi13 : (12 : Int) < (n : Int) := by omega
        clear ht0
        go_enter Tryz.func21, Tryz.ntmps21
        go_wp2_with (simp only [h12i])
        go_ret
        exact ⟨by rw [HT0.out]; rfl, rfl⟩
    · subst h13
      go_enter Tryz.func21, Tryz.ntmps21
      go_wp2_with fail
      refine wp_loop_rounds 4 ?_
      rw [rounds_succ]
      by_cases fa : 48 ≤ xa ∧ xa ≤ 57
      · have p1 : ¬ xa < 48 := by omega
        have p2 : ¬ 57 < xa := by omega
        go_wp2_with (simp only [h9])
        rw [rounds_succ]
        by_cases fb : 48 ≤ xb ∧ xb ≤ 57
        · have p1 : ¬ xb < 48 := by omega
          have p2 : ¬ 57 < xb := by omega
          go_wp2_with (simp only [h10])
          rw [rounds_succ]
          by_cases fc : 48 ≤ xc ∧ xc ≤ 57
          · have p1 : ¬ xc < 48 := by omega
            have p2 : ¬ 57 < xc := by omega
            go_wp2_with (simp only [h11])
            rw [rounds_succ]
            obtain ⟨v, hv⟩ : ∃ z, (xa - 48) * 100 + (xb - 48) * 10 + (xc - 48) = z := ⟨_, rfl⟩
            rw [hv] at HT
            by_cases r1 : v < 100
            · have ht0 : Rs.stW s.data.toList = 0 := by rw [HT.out, if_neg (by omega)]
              have HT0 := Lib.hid ht0
              clear ht0
              go_wp2_with fail
              go_ret
              exact ⟨by rw [HT0.out]; rfl, rfl⟩
            · by_cases r2 : 599 < v
              · have ht0 : Rs.stW s.data.toList = 0 := by rw [HT.out, if_neg (by omega)]
                have HT0 := Lib.hid ht0
                clear ht0
                go_wp2_with fail
                go_ret
                exact ⟨by rw [HT0.out]; rfl, rfl⟩
              · have ht0 : Rs.stW s.data.toList = v := by rw [HT.out, if_pos ⟨htl, fa, fb, fc, by omega, by omega⟩]
                have HT0 := Lib.hid ht0
                clear ht0
                go_wp2_with fail
                go_ret
                exact ⟨by rw [HT0.out, ← hv]; show Ending.returned (.int .i64 (10 * (10 * (xa - 48) + (xb - 48)) + (xc - 48))) = _; congr 2; omega, rfl⟩
          · have ht0 : Rs.stW s.data.toList = 0 := by rw [HT.out, if_neg (by omega)]
            have HT0 := Lib.hid ht0
            clear ht0
            by_cases p1 : xc < 48
            · go_wp2_with (simp only [h11])
              go_ret
              exact ⟨by rw [HT0.out]; rfl, rfl⟩
            · have p2 : 57 < xc := by omega
              go_wp2_with (simp only [h11])
              go_ret
              exact ⟨by rw [HT0.out]; rfl, rfl⟩
        · have ht0 : Rs.stW s.data.toList = 0 := by rw [HT.out, if_neg (by omega)]
          have HT0 := Lib.hid ht0
          clear ht0
          by_cases p1 : xb < 48
          · go_wp2_with (simp only [h10])
            go_ret
            exact ⟨by rw [HT0.out]; rfl, rfl⟩
          · have p2 : 57 < xb := by omega
            go_wp2_with (simp only [h10])
            go_ret
            exact ⟨by rw [HT0.out]; rfl, rfl⟩
      · have ht0 : Rs.stW s.data.toList = 0 := by rw [HT.out, if_neg (by omega)]
        have HT0 := Lib.hid ht0
        clear ht0
        by_cases p1 : xa < 48
        · go_wp2_with (simp only [h9])
          go_ret
          exact ⟨by rw [HT0.out]; rfl, rfl⟩
        · have p2 : 57 < xa := by omega
          go_wp2_with (simp only [h9])
          go_ret
          exact ⟨by rw [HT0.out]; rfl, rfl⟩
end Go.Proofs.YtheaichiglfmjaaGreatDoor

/- A region that draws its order and has guarded operations: by what its slots hold; which operations stand is decided ahead; a guard may hang on an operation that does not stand; a step knows the frame's calls put off (it may panic). -/
namespace Go.Proofs.YtheaichiglfmjaaGreatDoor
set_option linter.unusedVariables false
set_option linter.unusedSimpArgs false
open Go.RowKit
set_option maxHeartbeats 2000000
section
variable {P : Program} {ops : Array Oper} {Q : Exit → Act → World → Prop}
theorem region_slotsP {id : Nat} {a0 : Act} {w0 : World} (slot : Nat → Nat) (F : Nat → World → Value → Prop) (sel : Nat → Bool) (hm : P.follows .mixedOrders = true) (hb : backG .any ops = true)
    (hs : ∀ i, slot i < a0.tmps.size) (hinj : ∀ i j, i < ops.size → j < ops.size → slot i = slot j → i = j) (hF : ∀ i w w' v, F i w v → Below w.heap.size w w' → F i w' v)
    (hdst : ∀ i o, ops[i]? = some o → o.dst = some (slot i))
    (hgu : ∀ i o g b, ops[i]? = some o → o.guard = some (g, b) → ∀ w v, F g w v → v = .bool (if sel i then b else !b) ∨ (sel i = false ∧ v = undef))
    (hng : ∀ i o, ops[i]? = some o → o.guard = none → sel i = true)
    (hskip : ∀ i w, i < ops.size → sel i = false → F i w undef)
    (hstep : ∀ (f : Nat → Bool) (a : Act) (w : World) (i : Nat) (o : Oper), ops[i]? = some o → sel i = true → (∀ e ∈ o.after, Region.binds .any e = true → F e.on w (a.tmps.getD (slot e.on) undef)) → Below w0.heap.size w0 w →
      (∀ j, (∀ i, i < ops.size → slot i ≠ j) → a.tmps.getD j undef = a0.tmps.getD j undef) → a.defers = a0.defers → o.wp P a w (fun a' w' => ∃ v, a' = a.put o.dst v ∧ F i w' v ∧ Below w.heap.size w w') Q)
    (hdone : ∀ (vs : Nat → Value) (w : World), Below w0.heap.size w0 w → (∀ i, i < ops.size → F i w (vs i)) → Q .normal { a0 with tmps := fillN slot vs ops.size a0.tmps } w) : (Code.region id ops true).wp P Q a0 w0 := by
  refine region_invG hm hb (Stand a0 w0 ops.size slot F) ⟨rfl, rfl, fun _ _ => rfl, ⟨rfl, rfl, rfl, Nat.le_refl _, fun _ _ => rfl⟩, fun _ _ h => by cases h⟩ ?_ ?_
  · intro f a w i o ho hf hpre hI
    have hi := (Array.getElem?_eq_some_iff.1 ho).1
    have hsl : slot i < a.tmps.size := by rw [hI.size]; exact hs i
    have hput : ∀ w' v, F i w' v → Below w.heap.size w w' → Stand a0 w0 ops.size slot F (fun j => if j = i then true else f j) (a.put o.dst v) w' := by
      intro w' v hv hbw
      rw [hdst i o ho]
      refine ⟨hI.defers, by rw [← hI.size]; exact Array.size_setIfInBounds .., fun j hj => ?_, hI.bel.trans (hbw.mono hI.bel.size), fun j hj hfj => ?_⟩
      · show (a.tmps.setIfInBounds (slot i) v).getD j undef = _
        rw [getD_set _ _ _ _ hsl, if_neg (Ne.symm (hj i hi))]
        exact hI.rest j hj
      · show F j w' ((a.tmps.setIfInBounds (slot i) v).getD (slot j) undef)
        rw [getD_set _ _ _ _ hsl]
        by_cases hji : j = i
        · subst hji; rw [if_pos rfl]; exact hv
        · rw [if_neg (fun e => hji (hinj j i hj hi e))]
          have h2 : f j = true := by simpa [hji] using hfj
          exact hF j w w' _ (hI.have_ j hj h2) hbw
    have hwant : Region.wanted o (yielded ops a.tmps) = sel i := by
      unfold Region.wanted
      cases hg : o.guard with
      | none => exact (hng i o ho hg).symm
      | some gb =>
        obtain ⟨g, b⟩ := gb
        obtain ⟨e, he, heg, hbd⟩ := (back_ofG hb ho).1 g b hg
        have hgi : g < i := by rw [← heg]; exact (back_ofG hb ho).2 e he hbd
        have hfg : f g = true := by rw [← heg]; exact hpre e he hbd
        have hv := hgu i o g b ho hg w _ (hI.have_ g (by omega) hfg)
        have hsg : slot g < a.tmps.size := by rw [hI.size]; exact hs g
        have hy : yielded ops a.tmps g = (match a.tmps.getD (slot g) undef with | .bool x => some x | _ => none) := by
          unfold yielded
          rw [Array.getElem?_eq_getElem (show g < ops.size by omega), Option.bind_some, hdst g _ (Array.getElem?_eq_getElem (by omega)), Option.bind_some, Array.getElem?_eq_getElem hsg]
          rw [Array.getD_eq_getD_getElem?, Array.getElem?_eq_getElem hsg, Option.getD_some]
          cases a.tmps[slot g] <;> rfl
        show (yielded ops a.tmps g == some b) = sel i
        rw [hy]
        rcases hv with hv | ⟨hsi, hv⟩
        · rw [hv]
          cases sel i <;> cases b <;> rfl
        · rw [hv, hsi]; rfl
    rw [hwant]
    cases hsel : sel i with
    | true =>
      rw [if_pos rfl]
      refine Oper.wp_mono ?_ (hstep f a w i o ho hsel (fun e he hbd => hI.have_ e.on (by have := (back_ofG hb ho).2 e he hbd; omega) (hpre e he hbd)) hI.bel hI.rest hI.defers)
      rintro a' w' ⟨v, rfl, hv, hbw⟩
      exact hput w' v hv hbw
    | false =>
      rw [if_neg (by decide)]
      exact hput w undef (hskip i w hi hsel) (Below.refl _ _)
  · intro f a w hall hI
    have e : a = { a0 with tmps := fillN slot (fun i => a.tmps.getD (slot i) undef) ops.size a0.tmps } := by
      have h1 : a.tmps = fillN slot (fun i => a.tmps.getD (slot i) undef) ops.size a0.tmps := by
        refine ext_getD (by rw [fillN_size, hI.size]) (fun j => ?_)
        by_cases hj : ∃ i, i < ops.size ∧ slot i = j
        · obtain ⟨i, hi, rfl⟩ := hj
          rw [fillN_at slot _ _ hs _ hinj i hi]
        · rw [fillN_get slot _ _ hs _ j (fun i hi e => hj ⟨i, hi, e⟩), hI.rest j (fun i hi e => hj ⟨i, hi, e⟩)]
      obtain ⟨t, d⟩ := a
      have h2 := hI.defers
      simp only at h1 h2
      rw [← h1, h2]
    rw [e]
    exact hdone _ w hI.bel (fun i hi => hI.have_ i hi (hall i hi))
end
end Go.Proofs.YtheaichiglfmjaaGreatDoor

/- The reference's heads: Right, of any head. -/
namespace Go.Proofs.YtheaichiglfmjaaGreatDoor
set_option linter.unusedVariables false
set_option linter.unusedSimpArgs false
open Go.RowKit Go.Shelf
set_option maxHeartbeats 8000000
set_option maxRecDepth 100000
namespace Hr
def fldB (f : Hp.Hd) : Bool := Tp.isTok f.1 && (Tp.lower f.1 == f.1) && Tp.isVal f.2
/-- may a head be? -/
def okB (F : List UInt8) (fs : List Hp.Hd) : Bool := (match F with | [] => false | c :: _ => !(decide ((c.toNat : Int) = 9) || decide ((c.toNat : Int) = 32))) && Tp.isVal (120 :: F ++ [120]) && fs.all fldB
theorem okB_of {F : List UInt8} {fs : List Hp.Hd} (h : Hp.HOk F fs) : okB F fs = true := by
  obtain ⟨h1, h2, h3, h4⟩ := h
  unfold okB
  rw [h3, Bool.and_true, Bool.and_eq_true, List.all_eq_true]
  refine ⟨?_, fun f hf => ?_⟩
  · match F, h1, h2 with
    | c :: l, _, h2 =>
      have h5 : Tp.trim [c] ≠ [] := h2
      by_cases h : (c.toNat : Int) = 9 ∨ (c.toNat : Int) = 32
      · exfalso
        apply h5
        have : c = 9 ∨ c = 32 := h.imp (fun h => UInt8.toNat_inj.1 (by have : (9 : UInt8).toNat = 9 := rfl; omega)) (fun h => UInt8.toNat_inj.1 (by have : (32 : UInt8).toNat = 32 := rfl; omega))
        rcases this with rfl | rfl <;> decide
      · rw [not_or] at h
        simp [h.1, h.2]
  · obtain ⟨a, b, c⟩ := h4 f hf
    unfold fldB
    rw [a, b, c]
    simp
theorem hok_of {F : List UInt8} {fs : List Hp.Hd} (h : okB F fs = true) : Hp.HOk F fs := by
  unfold okB at h
  rw [Bool.and_eq_true, Bool.and_eq_true, List.all_eq_true] at h
  obtain ⟨⟨h1, h2⟩, h3⟩ := h
  match F, h1 with
  | c :: l, h1 =>
    refine ⟨by simp, ?_, h2, fun f hf => ?_⟩
    · show Tp.trim [c] ≠ []
      simp at h1
      have hb : Tp.blankB c = false := by
        unfold Tp.blankB Tp.blank
        simp
        omega
      unfold Tp.trim
      rw [Hp.trimL_no hb, show [c] = [] ++ [c] from rfl, Hp.trimR_no hb]
      simp
    · have := h3 f hf
      unfold fldB at this
      simp at this
      exact ⟨this.1.1, this.1.2, this.2⟩
end Hr
def rrA (C : Nat) (nb vb lb : ByteArray) (q3 : Bool) : Nat → World → Value → Prop
  | 0, _, v => v = .pointer (some ⟨C, 0, none⟩)
  | 1, _, v => v = .string nb
  | 2, _, v => v = .bool false
  | 3, _, v => v = .bool true
  | 4, _, v => v = .bool true
  | 5, _, v => v = undef
  | 6, _, v => v = undef
  | 7, _, v => v = undef
  | 8, _, v => v = undef
  | 9, _, v => v = undef
  | 10, _, v => v = undef
  | 11, _, v => v = .bool true
  | 12, _, v => v = .bool true
  | 13, _, v => v = undef
  | 14, _, v => v = undef
  | 15, _, v => v = undef
  | 16, _, v => v = undef
  | 17, _, v => v = .bool true
  | _, _, _ => False
def rrB (C : Nat) (nb vb lb : ByteArray) (q3 : Bool) : Nat → World → Value → Prop
  | 0, _, v => v = .pointer (some ⟨C, 0, none⟩)
  | 1, _, v => v = .string nb
  | 2, _, v => v = .bool true
  | 3, _, v => v = .bool false
  | 4, _, v => v = .bool false
  | 5, _, v => v = .pointer (some ⟨C, 0, none⟩)
  | 6, _, v => v = .string nb
  | 7, _, v => v = .string lb
  | 8, _, v => v = .pointer (some ⟨C, 0, none⟩)
  | 9, _, v => v = .string nb
  | 10, _, v => v = .bool true
  | 11, _, v => v = .bool true
  | 12, _, v => v = .bool true
  | 13, _, v => v = undef
  | 14, _, v => v = undef
  | 15, _, v => v = undef
  | 16, _, v => v = undef
  | 17, _, v => v = .bool true
  | _, _, _ => False
def rrC (C : Nat) (nb vb lb : ByteArray) (q3 : Bool) : Nat → World → Value → Prop
  | 0, _, v => v = .pointer (some ⟨C, 0, none⟩)
  | 1, _, v => v = .string nb
  | 2, _, v => v = .bool true
  | 3, _, v => v = .bool false
  | 4, _, v => v = .bool false
  | 5, _, v => v = .pointer (some ⟨C, 0, none⟩)
  | 6, _, v => v = .string nb
  | 7, _, v => v = .string lb
  | 8, _, v => v = .pointer (some ⟨C, 0, none⟩)
  | 9, _, v => v = .string nb
  | 10, _, v => v = .bool false
  | 11, _, v => v = .bool false
  | 12, _, v => v = .bool false
  | 13, _, v => v = .pointer (some ⟨C, 1, none⟩)
  | 14, _, v => v = .string vb
  | 15, _, v => v = .bool q3
  | 16, _, v => v = .bool (!q3)
  | 17, _, v => v = .bool (!q3)
  | _, _, _ => False
theorem rf_Right (F : List UInt8) (V : Value) (fs : List Hp.Hd) (w : World) (hv : HS w V fs) (hF : F.length ≤ 100000) (hl : fs.length ≤ 1000) (hs : ∀ f ∈ fs, f.1.length ≤ 100000 ∧ f.2.length ≤ 100000) :
    Calls Tryz.prog 14 #[.agg #[Hp.sx F, V]] w fun e w' => e = .returned (.bool (Hr.okB F fs)) ∧ Below w.heap.size w w' := by
  obtain ⟨p, c, rfl⟩ := hv.slice
  obtain ⟨N, hN⟩ : ∃ N, fs.length = N := ⟨_, rfl⟩
  rw [hN] at hv hl ⊢
  unfold Hp.sx
  obtain ⟨fb, hfb⟩ : ∃ z : ByteArray, (⟨F.toArray⟩ : ByteArray) = z := ⟨_, rfl⟩
  rw [hfb]
  have hfs : fb.size ≤ 100000 := by rw [← hfb]; exact hF
  obtain ⟨H, hH⟩ : ∃ H, w.heap.size = H := ⟨_, rfl⟩
  obtain ⟨W1, hW1⟩ : ∃ Z, w.alloc (.cells #[.string fb, .slice p N c] 28) = Z := ⟨_, rfl⟩
  have HB1 := Lib.hid (show Below H w W1 by rw [← hW1, ← hH]; exact (Below.refl _ _).alloc (Nat.le_refl _) _)
  have HG1 := Lib.hid (show W1.heap[H]? = some (.cells #[.string fb, .slice p N c] 28 (0, 0)) by rw [← hW1, ← hH]; exact World.alloc_heap_new _ _)
  have hc0 : W1.cell? ⟨H, 0, none⟩ = some (.string fb) := by simp [World.cell?, HG1.out]
  have HC0 := Lib.hid hc0
  have HV := Lib.hid hv
  have HW1 := Lib.hid hW1
  have HHH := Lib.hid hH
  have HNN := Lib.hid hN
  have HSZ := Lib.hid hs
  have HFB := Lib.hid hfb
  clear hv hs hN hfb hH hW1 hc0
  by_cases h0 : fb.size = 0
  · have hF0 : F = [] := by rw [← List.length_eq_zero_iff]; rw [← HFB.out] at h0; exact h0
    subst hF0
    have hf0 : fb = ⟨#[]⟩ := HFB.out.symm
    subst hf0
    have hc0 := HC0.out
    go_enter Tryz.func14, Tryz.ntmps14
    go_wp2_with fail
    rw [HHH.out, HW1.out]
    go_wp2_with fail
    go_ret
    exact ⟨rfl, HB1.out⟩
  · have hpos : 0 < fb.size := Nat.pos_of_ne_zero h0
    obtain ⟨c0, F', hFF⟩ : ∃ c0 F', F = c0 :: F' := by
      match F, HFB.out with
      | [], h => exfalso; apply h0; rw [← h]; rfl
      | c0 :: F', _ => exact ⟨c0, F', rfl⟩
    have hc : (fb[0]).toNat = c0.toNat := by
      have h := HFB.out
      subst h
      subst hFF
      rfl
    have HOB := Lib.hid (show Hr.okB F fs = (!(decide (((fb[0]).toNat : Int) = 9) || decide (((fb[0]).toNat : Int) = 32)) && Tp.isVal (120 :: F ++ [120]) && fs.all Hr.fldB) by rw [hc, hFF]; rfl)
    have e0 : (fb.toList == []) = false := by
      rw [ByteArray.toList_eq, beq_eq_false_iff_ne]
      intro h
      apply h0
      show fb.data.size = 0
      rw [← Array.length_toList, h]; rfl
    clear hc hFF
    by_cases h9 : ((fb[0]).toNat : Int) = 9
    · have hc0 := HC0.out
      have HO2 := Lib.hid (show Hr.okB F fs = false by rw [HOB.out, decide_eq_true h9]; rfl)
      go_enter Tryz.func14, Tryz.ntmps14
      go_wp2_with fail
      rw [HHH.out, HW1.out]
      go_wp2_with fail
      go_ret
      exact ⟨by rw [HO2.out]; rfl, by first | exact HB1.out | (rw [HHH.out]; exact HB1.out)⟩
    · by_cases h32 : ((fb[0]).toNat : Int) = 32
      · have hc0 := HC0.out
        have HO2 := Lib.hid (show Hr.okB F fs = false by rw [HOB.out, decide_eq_true h32, Bool.or_true]; rfl)
        go_enter Tryz.func14, Tryz.ntmps14
        go_wp2_with fail
        rw [HHH.out, HW1.out]
        go_wp2_with fail
        go_ret
        exact ⟨by rw [HO2.out]; rfl, by first | exact HB1.out | (rw [HHH.out]; exact HB1.out)⟩
      · have HO2 := Lib.hid (show Hr.okB F fs = (Tp.isVal (120 :: F ++ [120]) && fs.all Hr.fldB) by rw [HOB.out, decide_eq_false h9, decide_eq_false h32]; rfl)
        have hc0 := HC0.out
        have K1 := rtk_value ((⟨#[120]⟩ : ByteArray) ++ fb ++ (⟨#[120]⟩ : ByteArray)) W1 (by rw [ByteArray.size_append, ByteArray.size_append]; have : (⟨#[120]⟩ : ByteArray).size = 1 := rfl; omega)
        rw [show ((⟨#[120]⟩ : ByteArray) ++ fb ++ (⟨#[120]⟩ : ByteArray)).data.toList = 120 :: F ++ [120] by rw [← HFB.out]; simp] at K1
        have K1 := Lib.hid K1
        obtain ⟨bv, hbv⟩ : ∃ z, Tp.isVal (120 :: F ++ [120]) = z := ⟨_, rfl⟩
        rw [hbv] at K1 HO2
        have h9b : (((fb[0]).toNat : Int) == 9) = false := by simpa using h9
        have h32b : (((fb[0]).toNat : Int) == 32) = false := by simpa using h32
        clear hbv HOB h9 h32
        go_enter Tryz.func14, Tryz.ntmps14
        go_wp2_with fail
        rw [HHH.out, HW1.out]
        go_wp2_with fail
        refine K1.out.mono ?_
        rintro e w1 ⟨rfl, hw⟩
        subst w1
        cases bv
        · go_wp2_with fail
          go_ret
          exact ⟨by rw [HO2.out]; rfl, by first | exact HB1.out | (rw [HHH.out]; exact HB1.out)⟩
        · go_wp2_with fail
          clear h9b h32b e0
          go_loopw [3] (fun i wr => ∃ k : Nat, k ≤ N ∧ i = .int .i64 k ∧ (fs.take k).all Hr.fldB = true ∧ wr.heap[H]? = some (.cells #[.string fb, .slice p N c] 28 (0, 0)) ∧ Below H w wr) (fun i _ => N - (intOf i).toNat)
          case atStart => exact ⟨0, Nat.zero_le _, rfl, rfl, HG1.out, HB1.out⟩
          case round =>
            obtain ⟨k, hk, rfl, hall, hg, hbl⟩ := hrel
            have HALL := Lib.hid hall
            have HG := Lib.hid hg
            have HBL := Lib.hid hbl
            have a1 : wr.cell? ⟨H, 1, none⟩ = some (.slice p N c) := by simp [World.cell?, hg]
            clear hall hg hbl
            by_cases hlt : k < N
            · have HTK := Lib.hid (show fs.take (k + 1) = fs.take k ++ [fs.getD k ([], [])] by
                rw [List.take_add_one, List.getElem?_eq_getElem (by rw [HNN.out]; exact hlt), List.getD_eq_getElem?_getD, List.getElem?_eq_getElem (by rw [HNN.out]; exact hlt)]; rfl)
              have HMM := Lib.hid (show fs.getD k ([], []) ∈ fs by rw [List.getD_eq_getElem?_getD, List.getElem?_eq_getElem (by rw [HNN.out]; exact hlt)]; exact List.getElem_mem _)
              have hszf := HSZ.out _ HMM.out
              have HVR := Lib.hid (HV.out.below (by rw [HHH.out]; exact HBL.out))
              obtain ⟨g1, o1, rfl, hc1⟩ := HVR.out.cells (k := k) (by rw [HNN.out]; exact hlt)
              obtain ⟨hx, hy⟩ := hc1 k (by rw [HNN.out]; exact hlt)
              obtain ⟨⟨n0, v0⟩, hf⟩ : ∃ x, fs.getD k ([], []) = x := ⟨_, rfl⟩
              rw [hf] at hx hy HTK HMM hszf
              simp only at hx hy hszf
              obtain ⟨nb, hnb⟩ : ∃ z : ByteArray, (⟨n0.toArray⟩ : ByteArray) = z := ⟨_, rfl⟩
              obtain ⟨vb, hvb⟩ : ∃ z : ByteArray, (⟨v0.toArray⟩ : ByteArray) = z := ⟨_, rfl⟩
              rw [show Hp.sx n0 = .string nb by rw [← hnb]; rfl] at hx
              rw [show Hp.sx v0 = .string vb by rw [← hvb]; rfl] at hy
              have hns : nb.size ≤ 100000 := by rw [← hnb]; exact hszf.1
              have hvs : vb.size ≤ 100000 := by rw [← hvb]; exact hszf.2
              have KT0 := fun W => rtk_token nb W (by omega)
              have KL0 := fun W => rtk_lower nb W (by omega)
              have KV0 := fun W => rtk_value vb W (by omega)
              rw [show nb.data.toList = n0 by rw [← hnb]] at KT0 KL0
              rw [show vb.data.toList = v0 by rw [← hvb]] at KV0
              obtain ⟨lb, hlb⟩ : ∃ z : ByteArray, (⟨(Tp.lower n0).toArray⟩ : ByteArray) = z := ⟨_, rfl⟩
              rw [hlb] at KL0
              have hq : (lb.toList == nb.toList) = (Tp.lower n0 == n0) := by
                rw [← hlb, ← hnb, ByteArray.toList_eq, ByteArray.toList_eq]
              obtain ⟨q1, hq1⟩ : ∃ z, Tp.isTok n0 = z := ⟨_, rfl⟩
              obtain ⟨q2, hq2⟩ : ∃ z, (Tp.lower n0 == n0) = z := ⟨_, rfl⟩
              obtain ⟨q3, hq3⟩ : ∃ z, Tp.isVal v0 = z := ⟨_, rfl⟩
              rw [hq1] at KT0
              rw [hq2] at hq
              rw [hq3] at KV0
              have HFB2 := Lib.hid (show Hr.fldB (n0, v0) = (q1 && q2 && q3) by rw [← hq1, ← hq2, ← hq3]; rfl)
              have KT := Lib.hid KT0
              have KL := Lib.hid KL0
              have KV := Lib.hid KV0
              have HQ := Lib.hid hq
              clear hc1 hf hszf hnb hvb KT0 KL0 KV0 hlb hq hq1 hq2 hq3 hns hvs
              go_upto_region 7 with (fail)
              obtain ⟨C, hC⟩ : ∃ z, wr.heap.size = z := ⟨_, rfl⟩
              obtain ⟨w0, hw0⟩ : ∃ z, wr.alloc (.cells #[.string nb, .string vb] 56) = z := ⟨_, rfl⟩
              have hb : Below wr.heap.size wr w0 := by rw [← hw0]; exact (Below.refl _ _).alloc (Nat.le_refl _) _
              have hh : w0.heap[C]? = some (.cells #[.string nb, .string vb] 56 (0, 0)) := by rw [← hw0, ← hC]; exact World.alloc_heap_new _ _
              have HCE := Lib.hid (show ∀ W, Below w0.heap.size w0 W → W.cell? ⟨C, 0, none⟩ = some (.string nb) ∧ W.cell? ⟨C, 1, none⟩ = some (.string vb) from fun W h => by
                have h2 := (h.block _ (Array.getElem?_eq_some_iff.1 hh).1).trans hh
                constructor <;> simp [World.cell?, h2])
              have HG := Lib.hid ((hb.block _ (Array.getElem?_eq_some_iff.1 HG.out).1).trans HG.out)
              have HB0 := Lib.hid (show Below H w w0 from HBL.out.trans (hb.mono (HHH.out ▸ HBL.out.size)))
              have HZ := Lib.hid (show H ≤ w0.heap.size from HHH.out ▸ HB0.out.size)
              rw [hC, hw0]
              clear hb hh hC hw0 a1 hx hy
              cases q1
              · refine region_slotsG (fun i => 40 + min i 17) (rrA C nb vb lb q3) (fun i => ([true, true, true, true, true, false, false, false, false, false, false, true, true, false, false, false, false, true] : List Bool).getD i true) (by kernel_rfl) (by kernel_rfl) (fun i => by show 40 + min i 17 < _; simp; omega) (fun i j hi hj h => by have hi : i < 18 := hi; have hj : j < 18 := hj; omega) ?mono ?dst ?gu ?ng ?skip ?step ?done
                case mono =>
                  intro i W W' v h hbw
                  match i, h with
                  | 0, h | 1, h | 2, h | 3, h | 4, h | 5, h | 6, h | 7, h | 8, h | 9, h | 10, h | 11, h | 12, h | 13, h | 14, h | 15, h | 16, h | 17, h => exact h
                  | n + 18, h => exact h.elim
                case dst =>
                  intro i o ho
                  match i, ho with
                  | 0, ho | 1, ho | 2, ho | 3, ho | 4, ho | 5, ho | 6, ho | 7, ho | 8, ho | 9, ho | 10, ho | 11, ho | 12, ho | 13, ho | 14, ho | 15, ho | 16, ho | 17, ho => cases ho; rfl
                  | n + 18, ho => exact absurd ho (by simp)
                case gu =>
                  intro i o g b ho hgd W v hv
                  match i, ho with
                  | 0, ho => cases ho; cases hgd
                  | 1, ho => cases ho; cases hgd
                  | 2, ho => cases ho; cases hgd
                  | 3, ho => cases ho; cases hgd
                  | 4, ho => cases ho; cases hgd
                  | 5, ho => cases ho; cases hgd; exact hv
                  | 6, ho => cases ho; cases hgd; exact hv
                  | 7, ho => cases ho; cases hgd; exact hv
                  | 8, ho => cases ho; cases hgd; exact hv
                  | 9, ho => cases ho; cases hgd; exact hv
                  | 10, ho => cases ho; cases hgd; exact hv
                  | 11, ho => cases ho; cases hgd
                  | 12, ho => cases ho; cases hgd
                  | 13, ho => cases ho; cases hgd; exact hv
                  | 14, ho => cases ho; cases hgd; exact hv
                  | 15, ho => cases ho; cases hgd; exact hv
                  | 16, ho => cases ho; cases hgd; exact hv
                  | 17, ho => cases ho; cases hgd
                  | n + 18, ho => exact absurd ho (by simp)
                case ng =>
                  intro i o ho hgd
                  match i, ho with
                  | 0, ho => cases ho; first | rfl | cases hgd
                  | 1, ho => cases ho; first | rfl | cases hgd
                  | 2, ho => cases ho; first | rfl | cases hgd
                  | 3, ho => cases ho; first | rfl | cases hgd
                  | 4, ho => cases ho; first | rfl | cases hgd
                  | 5, ho => cases ho; first | rfl | cases hgd
                  | 6, ho => cases ho; first | rfl | cases hgd
                  | 7, ho => cases ho; first | rfl | cases hgd
                  | 8, ho => cases ho; first | rfl | cases hgd
                  | 9, ho => cases ho; first | rfl | cases hgd
                  | 10, ho => cases ho; first | rfl | cases hgd
                  | 11, ho => cases ho; first | rfl | cases hgd
                  | 12, ho => cases ho; first | rfl | cases hgd
                  | 13, ho => cases ho; first | rfl | cases hgd
                  | 14, ho => cases ho; first | rfl | cases hgd
                  | 15, ho => cases ho; first | rfl | cases hgd
                  | 16, ho => cases ho; first | rfl | cases hgd
                  | 17, ho => cases ho; first | rfl | cases hgd
                  | n + 18, ho => exact absurd ho (by simp)
                case skip =>
                  intro i W hi hsel
                  match i, hi, hsel with
                  | 0, _, hsel => first | exact absurd hsel (by decide) | rfl
                  | 1, _, hsel => first | exact absurd hsel (by decide) | rfl
                  | 2, _, hsel => first | exact absurd hsel (by decide) | rfl
                  | 3, _, hsel => first | exact absurd hsel (by decide) | rfl
                  | 4, _, hsel => first | exact absurd hsel (by decide) | rfl
                  | 5, _, hsel => first | exact absurd hsel (by decide) | rfl
                  | 6, _, hsel => first | exact absurd hsel (by decide) | rfl
                  | 7, _, hsel => first | exact absurd hsel (by decide) | rfl
                  | 8, _, hsel => first | exact absurd hsel (by decide) | rfl
                  | 9, _, hsel => first | exact absurd hsel (by decide) | rfl
                  | 10, _, hsel => first | exact absurd hsel (by decide) | rfl
                  | 11, _, hsel => first | exact absurd hsel (by decide) | rfl
                  | 12, _, hsel => first | exact absurd hsel (by decide) | rfl
                  | 13, _, hsel => first | exact absurd hsel (by decide) | rfl
                  | 14, _, hsel => first | exact absurd hsel (by decide) | rfl
                  | 15, _, hsel => first | exact absurd hsel (by decide) | rfl
                  | 16, _, hsel => first | exact absurd hsel (by decide) | rfl
                  | 17, _, hsel => first | exact absurd hsel (by decide) | rfl
                  | n + 18, hi, _ => exact absurd hi (by simp)
                case step =>
                  intro f a' W i o ho hsel hpre hbel hrest
                  match i, ho, hsel with
                  | 0, ho, _ =>
                    cases ho
                    have q4 : a'.tmps.getD 4 undef = .pointer (some ⟨C, 0, none⟩) := (hrest 4 (by intro i hi; have hi : i < 18 := hi; show 40 + min i 17 ≠ _; omega))
                    have e4 := rg_ev q4
                    exact rg_same (.pointer (some ⟨C, 0, none⟩)) (by unfold Oper.wp execOp; go_simp; all_goals ((try simp only [e4]); (try go_simp); (try rw [if_pos (by omega)]); (try rw [if_neg (by omega)]); first | done | rfl | exact ⟨rfl, rfl⟩ | trivial)) rfl
                  | 1, ho, _ =>
                    cases ho
                    have q40 : a'.tmps.getD 40 undef = .pointer (some ⟨C, 0, none⟩) := (hpre { on := 0, ground := .data } (by simp) rfl)
                    have ce := HCE.out W hbel
                    have c0 := ce.1
                    have c1 := ce.2
                    have e40 := rg_ev q40
                    exact rg_same (.string nb) (by unfold Oper.wp execOp; go_simp; all_goals ((try simp only [e40]); (try go_simp); (try rw [if_pos (by omega)]); (try rw [if_neg (by omega)]); first | done | rfl | exact ⟨rfl, rfl⟩ | trivial)) rfl
                  | 2, ho, _ =>
                    cases ho
                    have q41 : a'.tmps.getD 41 undef = .string nb := (hpre { on := 1, ground := .data } (by simp) rfl)
                    exact rg_call 41 44 _ _ _ rfl q41 (enters_of Tryz.func44 (by kernel_rfl) rfl) (KT.out W) (fun e w' h => ⟨_, h.1, _, rfl, rfl, by rw [h.2]; exact Below.refl _ _⟩)
                  | 3, ho, _ =>
                    cases ho
                    have q42 : a'.tmps.getD 42 undef = .bool false := (hpre { on := 2, ground := .data } (by simp) rfl)
                    have e42 := rg_ev q42
                    exact rg_same (.bool true) (by unfold Oper.wp execOp; go_simp; all_goals ((try simp only [e42]); (try go_simp); (try rw [if_pos (by omega)]); (try rw [if_neg (by omega)]); first | done | rfl | exact ⟨rfl, rfl⟩ | trivial)) rfl
                  | 4, ho, _ =>
                    cases ho
                    have q43 : a'.tmps.getD 43 undef = .bool true := (hpre { on := 3, ground := .data } (by simp) rfl)
                    have e43 := rg_ev q43
                    exact rg_same (.bool true) (by unfold Oper.wp execOp; go_simp; all_goals ((try simp only [e43]); (try go_simp); (try rw [if_pos (by omega)]); (try rw [if_neg (by omega)]); first | done | rfl | exact ⟨rfl, rfl⟩ | trivial)) rfl
                  | 5, ho, hsel => exact absurd hsel (by decide)
                  | 6, ho, hsel => exact absurd hsel (by decide)
                  | 7, ho, hsel => exact absurd hsel (by decide)
                  | 8, ho, hsel => exact absurd hsel (by decide)
                  | 9, ho, hsel => exact absurd hsel (by decide)
                  | 10, ho, hsel => exact absurd hsel (by decide)
                  | 11, ho, _ =>
                    cases ho
                    have q44 : a'.tmps.getD 44 undef = .bool true := (hpre { on := 4, ground := .data } (by simp) rfl)
                    have q50 : a'.tmps.getD 50 undef = undef := (hpre { on := 10, ground := .data } (by simp) rfl)
                    have e44 := rg_ev q44
                    have e50 := rg_ev q50
                    exact rg_same (.bool true) (by unfold Oper.wp execOp; go_simp; all_goals ((try simp only [e44, e50]); (try go_simp); (try rw [if_pos (by omega)]); (try rw [if_neg (by omega)]); first | done | rfl | exact ⟨rfl, rfl⟩ | trivial)) rfl
                  | 12, ho, _ =>
                    cases ho
                    have q51 : a'.tmps.getD 51 undef = .bool true := (hpre { on := 11, ground := .data } (by simp) rfl)
                    have e51 := rg_ev q51
                    exact rg_same (.bool true) (by unfold Oper.wp execOp; go_simp; all_goals ((try simp only [e51]); (try go_simp); (try rw [if_pos (by omega)]); (try rw [if_neg (by omega)]); first | done | rfl | exact ⟨rfl, rfl⟩ | trivial)) rfl
                  | 13, ho, hsel => exact absurd hsel (by decide)
                  | 14, ho, hsel => exact absurd hsel (by decide)
                  | 15, ho, hsel => exact absurd hsel (by decide)
                  | 16, ho, hsel => exact absurd hsel (by decide)
                  | 17, ho, _ =>
                    cases ho
                    have q52 : a'.tmps.getD 52 undef = .bool true := (hpre { on := 12, ground := .data } (by simp) rfl)
                    have q56 : a'.tmps.getD 56 undef = undef := (hpre { on := 16, ground := .data } (by simp) rfl)
                    have e52 := rg_ev q52
                    have e56 := rg_ev q56
                    exact rg_same (.bool true) (by unfold Oper.wp execOp; go_simp; all_goals ((try simp only [e52, e56]); (try go_simp); (try rw [if_pos (by omega)]); (try rw [if_neg (by omega)]); first | done | rfl | exact ⟨rfl, rfl⟩ | trivial)) rfl
                  | n + 18, ho, _ => exact absurd ho (by simp)
                case done =>
                  intro vs W hbel hvs
                  have v0 : vs 0 = .pointer (some ⟨C, 0, none⟩) := hvs 0 (by decide)
                  have v1 : vs 1 = .string nb := hvs 1 (by decide)
                  have v2 : vs 2 = .bool false := hvs 2 (by decide)
                  have v3 : vs 3 = .bool true := hvs 3 (by decide)
                  have v4 : vs 4 = .bool true := hvs 4 (by decide)
                  have v5 : vs 5 = undef := hvs 5 (by decide)
                  have v6 : vs 6 = undef := hvs 6 (by decide)
                  have v7 : vs 7 = undef := hvs 7 (by decide)
                  have v8 : vs 8 = undef := hvs 8 (by decide)
                  have v9 : vs 9 = undef := hvs 9 (by decide)
                  have v10 : vs 10 = undef := hvs 10 (by decide)
                  have v11 : vs 11 = .bool true := hvs 11 (by decide)
                  have v12 : vs 12 = .bool true := hvs 12 (by decide)
                  have v13 : vs 13 = undef := hvs 13 (by decide)
                  have v14 : vs 14 = undef := hvs 14 (by decide)
                  have v15 : vs 15 = undef := hvs 15 (by decide)
                  have v16 : vs 16 = undef := hvs 16 (by decide)
                  have v17 : vs 17 = .bool true := hvs 17 (by decide)
                  have HBR := Lib.hid hbel
                  simp only [fillN, List.size_toArray, List.length_cons, List.length_nil, Nat.reduceAdd, show List.range 18 = [0, 1, 2, 3, 4, 5, 6, 7, 8, 9, 10, 11, 12, 13, 14, 15, 16, 17] from rfl, List.foldl_cons, List.foldl_nil, show 40 + min 0 17 = 40 from rfl, show 40 + min 1 17 = 41 from rfl, show 40 + min 2 17 = 42 from rfl, show 40 + min 3 17 = 43 from rfl, show 40 + min 4 17 = 44 from rfl, show 40 + min 5 17 = 45 from rfl, show 40 + min 6 17 = 46 from rfl, show 40 + min 7 17 = 47 from rfl, show 40 + min 8 17 = 48 from rfl, show 40 + min 9 17 = 49 from rfl, show 40 + min 10 17 = 50 from rfl, show 40 + min 11 17 = 51 from rfl, show 40 + min 12 17 = 52 from rfl, show 40 + min 13 17 = 53 from rfl, show 40 + min 14 17 = 54 from rfl, show 40 + min 15 17 = 55 from rfl, show 40 + min 16 17 = 56 from rfl, show 40 + min 17 17 = 57 from rfl, v0, v1, v2, v3, v4, v5, v6, v7, v8, v9, v10, v11, v12, v13, v14, v15, v16, v17]
                  clear v0 v1 v2 v3 v4 v5 v6 v7 v8 v9 v10 v11 v12 v13 v14 v15 v16 v17 hvs hbel
                  go_simp
                  go_wp2_with fail
                  go_ret
                  refine ⟨?_, ?_⟩
                  · rw [HO2.out, Bool.true_and, show fs.all Hr.fldB = false from List.all_eq_false.2 ⟨_, HMM.out, by rw [HFB2.out]; simp⟩]; rfl
                  · first | exact HB0.out.trans (HBR.out.mono HZ.out) | (rw [HHH.out]; exact HB0.out.trans (HBR.out.mono HZ.out))
              · cases q2
                · have hn : (lb.toList == nb.toList) = false := HQ.out
                  have hn2 : (lb.toList != nb.toList) = true := by simp [bne, hn]
                  refine region_slotsG (fun i => 40 + min i 17) (rrB C nb vb lb q3) (fun i => ([true, true, true, true, true, true, true, true, true, true, true, true, true, false, false, false, false, true] : List Bool).getD i true) (by kernel_rfl) (by kernel_rfl) (fun i => by show 40 + min i 17 < _; simp; omega) (fun i j hi hj h => by have hi : i < 18 := hi; have hj : j < 18 := hj; omega) ?mono ?dst ?gu ?ng ?skip ?step ?done
                  case mono =>
                    intro i W W' v h hbw
                    match i, h with
                    | 0, h | 1, h | 2, h | 3, h | 4, h | 5, h | 6, h | 7, h | 8, h | 9, h | 10, h | 11, h | 12, h | 13, h | 14, h | 15, h | 16, h | 17, h => exact h
                    | n + 18, h => exact h.elim
                  case dst =>
                    intro i o ho
                    match i, ho with
                    | 0, ho | 1, ho | 2, ho | 3, ho | 4, ho | 5, ho | 6, ho | 7, ho | 8, ho | 9, ho | 10, ho | 11, ho | 12, ho | 13, ho | 14, ho | 15, ho | 16, ho | 17, ho => cases ho; rfl
                    | n + 18, ho => exact absurd ho (by simp)
                  case gu =>
                    intro i o g b ho hgd W v hv
                    match i, ho with
                    | 0, ho => cases ho; cases hgd
                    | 1, ho => cases ho; cases hgd
                    | 2, ho => cases ho; cases hgd
                    | 3, ho => cases ho; cases hgd
                    | 4, ho => cases ho; cases hgd
                    | 5, ho => cases ho; cases hgd; exact hv
                    | 6, ho => cases ho; cases hgd; exact hv
                    | 7, ho => cases ho; cases hgd; exact hv
                    | 8, ho => cases ho; cases hgd; exact hv
                    | 9, ho => cases ho; cases hgd; exact hv
                    | 10, ho => cases ho; cases hgd; exact hv
                    | 11, ho => cases ho; cases hgd
                    | 12, ho => cases ho; cases hgd
                    | 13, ho => cases ho; cases hgd; exact hv
                    | 14, ho => cases ho; cases hgd; exact hv
                    | 15, ho => cases ho; cases hgd; exact hv
                    | 16, ho => cases ho; cases hgd; exact hv
                    | 17, ho => cases ho; cases hgd
                    | n + 18, ho => exact absurd ho (by simp)
                  case ng =>
                    intro i o ho hgd
                    match i, ho with
                    | 0, ho => cases ho; first | rfl | cases hgd
                    | 1, ho => cases ho; first | rfl | cases hgd
                    | 2, ho => cases ho; first | rfl | cases hgd
                    | 3, ho => cases ho; first | rfl | cases hgd
                    | 4, ho => cases ho; first | rfl | cases hgd
                    | 5, ho => cases ho; first | rfl | cases hgd
                    | 6, ho => cases ho; first | rfl | cases hgd
                    | 7, ho => cases ho; first | rfl | cases hgd
                    | 8, ho => cases ho; first | rfl | cases hgd
                    | 9, ho => cases ho; first | rfl | cases hgd
                    | 10, ho => cases ho; first | rfl | cases hgd
                    | 11, ho => cases ho; first | rfl | cases hgd
                    | 12, ho => cases ho; first | rfl | cases hgd
                    | 13, ho => cases ho; first | rfl | cases hgd
                    | 14, ho => cases ho; first | rfl | cases hgd
                    | 15, ho => cases ho; first | rfl | cases hgd
                    | 16, ho => cases ho; first | rfl | cases hgd
                    | 17, ho => cases ho; first | rfl | cases hgd
                    | n + 18, ho => exact absurd ho (by simp)
                  case skip =>
                    intro i W hi hsel
                    match i, hi, hsel with
                    | 0, _, hsel => first | exact absurd hsel (by decide) | rfl
                    | 1, _, hsel => first | exact absurd hsel (by decide) | rfl
                    | 2, _, hsel => first | exact absurd hsel (by decide) | rfl
                    | 3, _, hsel => first | exact absurd hsel (by decide) | rfl
                    | 4, _, hsel => first | exact absurd hsel (by decide) | rfl
                    | 5, _, hsel => first | exact absurd hsel (by decide) | rfl
                    | 6, _, hsel => first | exact absurd hsel (by decide) | rfl
                    | 7, _, hsel => first | exact absurd hsel (by decide) | rfl
                    | 8, _, hsel => first | exact absurd hsel (by decide) | rfl
                    | 9, _, hsel => first | exact absurd hsel (by decide) | rfl
                    | 10, _, hsel => first | exact absurd hsel (by decide) | rfl
                    | 11, _, hsel => first | exact absurd hsel (by decide) | rfl
                    | 12, _, hsel => first | exact absurd hsel (by decide) | rfl
                    | 13, _, hsel => first | exact absurd hsel (by decide) | rfl
                    | 14, _, hsel => first | exact absurd hsel (by decide) | rfl
                    | 15, _, hsel => first | exact absurd hsel (by decide) | rfl
                    | 16, _, hsel => first | exact absurd hsel (by decide) | rfl
                    | 17, _, hsel => first | exact absurd hsel (by decide) | rfl
                    | n + 18, hi, _ => exact absurd hi (by simp)
                  case step =>
                    intro f a' W i o ho hsel hpre hbel hrest
                    match i, ho, hsel with
                    | 0, ho, _ =>
                      cases ho
                      have q4 : a'.tmps.getD 4 undef = .pointer (some ⟨C, 0, none⟩) := (hrest 4 (by intro i hi; have hi : i < 18 := hi; show 40 + min i 17 ≠ _; omega))
                      have e4 := rg_ev q4
                      exact rg_same (.pointer (some ⟨C, 0, none⟩)) (by unfold Oper.wp execOp; go_simp; all_goals ((try simp only [e4]); (try go_simp); (try rw [if_pos (by omega)]); (try rw [if_neg (by omega)]); first | done | rfl | exact ⟨rfl, rfl⟩ | trivial)) rfl
                    | 1, ho, _ =>
                      cases ho
                      have q40 : a'.tmps.getD 40 undef = .pointer (some ⟨C, 0, none⟩) := (hpre { on := 0, ground := .data } (by simp) rfl)
                      have ce := HCE.out W hbel
                      have c0 := ce.1
                      have c1 := ce.2
                      have e40 := rg_ev q40
                      exact rg_same (.string nb) (by unfold Oper.wp execOp; go_simp; all_goals ((try simp only [e40]); (try go_simp); (try rw [if_pos (by omega)]); (try rw [if_neg (by omega)]); first | done | rfl | exact ⟨rfl, rfl⟩ | trivial)) rfl
                    | 2, ho, _ =>
                      cases ho
                      have q41 : a'.tmps.getD 41 undef = .string nb := (hpre { on := 1, ground := .data } (by simp) rfl)
                      exact rg_call 41 44 _ _ _ rfl q41 (enters_of Tryz.func44 (by kernel_rfl) rfl) (KT.out W) (fun e w' h => ⟨_, h.1, _, rfl, rfl, by rw [h.2]; exact Below.refl _ _⟩)
                    | 3, ho, _ =>
                      cases ho
                      have q42 : a'.tmps.getD 42 undef = .bool true := (hpre { on := 2, ground := .data } (by simp) rfl)
                      have e42 := rg_ev q42
                      exact rg_same (.bool false) (by unfold Oper.wp execOp; go_simp; all_goals ((try simp only [e42]); (try go_simp); (try rw [if_pos (by omega)]); (try rw [if_neg (by omega)]); first | done | rfl | exact ⟨rfl, rfl⟩ | trivial)) rfl
                    | 4, ho, _ =>
                      cases ho
                      have q43 : a'.tmps.getD 43 undef = .bool false := (hpre { on := 3, ground := .data } (by simp) rfl)
                      have e43 := rg_ev q43
                      exact rg_same (.bool false) (by unfold Oper.wp execOp; go_simp; all_goals ((try simp only [e43]); (try go_simp); (try rw [if_pos (by omega)]); (try rw [if_neg (by omega)]); first | done | rfl | exact ⟨rfl, rfl⟩ | trivial)) rfl
                    | 5, ho, _ =>
                      cases ho
                      have q4 : a'.tmps.getD 4 undef = .pointer (some ⟨C, 0, none⟩) := (hrest 4 (by intro i hi; have hi : i < 18 := hi; show 40 + min i 17 ≠ _; omega))
                      have e4 := rg_ev q4
                      exact rg_same (.pointer (some ⟨C, 0, none⟩)) (by unfold Oper.wp execOp; go_simp; all_goals ((try simp only [e4]); (try go_simp); (try rw [if_pos (by omega)]); (try rw [if_neg (by omega)]); first | done | rfl | exact ⟨rfl, rfl⟩ | trivial)) rfl
                    | 6, ho, _ =>
                      cases ho
                      have q45 : a'.tmps.getD 45 undef = .pointer (some ⟨C, 0, none⟩) := (hpre { on := 5, ground := .data } (by simp) rfl)
                      have ce := HCE.out W hbel
                      have c0 := ce.1
                      have c1 := ce.2
                      have e45 := rg_ev q45
                      exact rg_same (.string nb) (by unfold Oper.wp execOp; go_simp; all_goals ((try simp only [e45]); (try go_simp); (try rw [if_pos (by omega)]); (try rw [if_neg (by omega)]); first | done | rfl | exact ⟨rfl, rfl⟩ | trivial)) rfl
                    | 7, ho, _ =>
                      cases ho
                      have q46 : a'.tmps.getD 46 undef = .string nb := (hpre { on := 6, ground := .data } (by simp) rfl)
                      exact rg_call 46 24 _ _ _ rfl q46 (enters_of Tryz.func24 (by kernel_rfl) rfl) (KL.out W) (fun e w' h => ⟨_, h.1, _, rfl, rfl, h.2⟩)
                    | 8, ho, _ =>
                      cases ho
                      have q4 : a'.tmps.getD 4 undef = .pointer (some ⟨C, 0, none⟩) := (hrest 4 (by intro i hi; have hi : i < 18 := hi; show 40 + min i 17 ≠ _; omega))
                      have e4 := rg_ev q4
                      exact rg_same (.pointer (some ⟨C, 0, none⟩)) (by unfold Oper.wp execOp; go_simp; all_goals ((try simp only [e4]); (try go_simp); (try rw [if_pos (by omega)]); (try rw [if_neg (by omega)]); first | done | rfl | exact ⟨rfl, rfl⟩ | trivial)) rfl
                    | 9, ho, _ =>
                      cases ho
                      have q48 : a'.tmps.getD 48 undef = .pointer (some ⟨C, 0, none⟩) := (hpre { on := 8, ground := .data } (by simp) rfl)
                      have ce := HCE.out W hbel
                      have c0 := ce.1
                      have c1 := ce.2
                      have e48 := rg_ev q48
                      exact rg_same (.string nb) (by unfold Oper.wp execOp; go_simp; all_goals ((try simp only [e48]); (try go_simp); (try rw [if_pos (by omega)]); (try rw [if_neg (by omega)]); first | done | rfl | exact ⟨rfl, rfl⟩ | trivial)) rfl
                    | 10, ho, _ =>
                      cases ho
                      have q47 : a'.tmps.getD 47 undef = .string lb := (hpre { on := 7, ground := .data } (by simp) rfl)
                      have q49 : a'.tmps.getD 49 undef = .string nb := (hpre { on := 9, ground := .data } (by simp) rfl)
                      have e47 := rg_ev q47
                      have e49 := rg_ev q49
                      exact rg_same (.bool true) (by unfold Oper.wp execOp; go_simp; all_goals ((try simp only [e47, e49]); (try go_simp); (try rw [if_pos (by omega)]); (try rw [if_neg (by omega)]); first | done | rfl | exact ⟨rfl, rfl⟩ | trivial)) rfl
                    | 11, ho, _ =>
                      cases ho
                      have q44 : a'.tmps.getD 44 undef = .bool false := (hpre { on := 4, ground := .data } (by simp) rfl)
                      have q50 : a'.tmps.getD 50 undef = .bool true := (hpre { on := 10, ground := .data } (by simp) rfl)
                      have e44 := rg_ev q44
                      have e50 := rg_ev q50
                      exact rg_same (.bool true) (by unfold Oper.wp execOp; go_simp; all_goals ((try simp only [e44, e50]); (try go_simp); (try rw [if_pos (by omega)]); (try rw [if_neg (by omega)]); first | done | rfl | exact ⟨rfl, rfl⟩ | trivial)) rfl
                    | 12, ho, _ =>
                      cases ho
                      have q51 : a'.tmps.getD 51 undef = .bool true := (hpre { on := 11, ground := .data } (by simp) rfl)
                      have e51 := rg_ev q51
                      exact rg_same (.bool true) (by unfold Oper.wp execOp; go_simp; all_goals ((try simp only [e51]); (try go_simp); (try rw [if_pos (by omega)]); (try rw [if_neg (by omega)]); first | done | rfl | exact ⟨rfl, rfl⟩ | trivial)) rfl
                    | 13, ho, hsel => exact absurd hsel (by decide)
                    | 14, ho, hsel => exact absurd hsel (by decide)
                    | 15, ho, hsel => exact absurd hsel (by decide)
                    | 16, ho, hsel => exact absurd hsel (by decide)
                    | 17, ho, _ =>
                      cases ho
                      have q52 : a'.tmps.getD 52 undef = .bool true := (hpre { on := 12, ground := .data } (by simp) rfl)
                      have q56 : a'.tmps.getD 56 undef = undef := (hpre { on := 16, ground := .data } (by simp) rfl)
                      have e52 := rg_ev q52
                      have e56 := rg_ev q56
                      exact rg_same (.bool true) (by unfold Oper.wp execOp; go_simp; all_goals ((try simp only [e52, e56]); (try go_simp); (try rw [if_pos (by omega)]); (try rw [if_neg (by omega)]); first | done | rfl | exact ⟨rfl, rfl⟩ | trivial)) rfl
                    | n + 18, ho, _ => exact absurd ho (by simp)
                  case done =>
                    intro vs W hbel hvs
                    have v0 : vs 0 = .pointer (some ⟨C, 0, none⟩) := hvs 0 (by decide)
                    have v1 : vs 1 = .string nb := hvs 1 (by decide)
                    have v2 : vs 2 = .bool true := hvs 2 (by decide)
                    have v3 : vs 3 = .bool false := hvs 3 (by decide)
                    have v4 : vs 4 = .bool false := hvs 4 (by decide)
                    have v5 : vs 5 = .pointer (some ⟨C, 0, none⟩) := hvs 5 (by decide)
                    have v6 : vs 6 = .string nb := hvs 6 (by decide)
                    have v7 : vs 7 = .string lb := hvs 7 (by decide)
                    have v8 : vs 8 = .pointer (some ⟨C, 0, none⟩) := hvs 8 (by decide)
                    have v9 : vs 9 = .string nb := hvs 9 (by decide)
                    have v10 : vs 10 = .bool true := hvs 10 (by decide)
                    have v11 : vs 11 = .bool true := hvs 11 (by decide)
                    have v12 : vs 12 = .bool true := hvs 12 (by decide)
                    have v13 : vs 13 = undef := hvs 13 (by decide)
                    have v14 : vs 14 = undef := hvs 14 (by decide)
                    have v15 : vs 15 = undef := hvs 15 (by decide)
                    have v16 : vs 16 = undef := hvs 16 (by decide)
                    have v17 : vs 17 = .bool true := hvs 17 (by decide)
                    have HBR := Lib.hid hbel
                    simp only [fillN, List.size_toArray, List.length_cons, List.length_nil, Nat.reduceAdd, show List.range 18 = [0, 1, 2, 3, 4, 5, 6, 7, 8, 9, 10, 11, 12, 13, 14, 15, 16, 17] from rfl, List.foldl_cons, List.foldl_nil, show 40 + min 0 17 = 40 from rfl, show 40 + min 1 17 = 41 from rfl, show 40 + min 2 17 = 42 from rfl, show 40 + min 3 17 = 43 from rfl, show 40 + min 4 17 = 44 from rfl, show 40 + min 5 17 = 45 from rfl, show 40 + min 6 17 = 46 from rfl, show 40 + min 7 17 = 47 from rfl, show 40 + min 8 17 = 48 from rfl, show 40 + min 9 17 = 49 from rfl, show 40 + min 10 17 = 50 from rfl, show 40 + min 11 17 = 51 from rfl, show 40 + min 12 17 = 52 from rfl, show 40 + min 13 17 = 53 from rfl, show 40 + min 14 17 = 54 from rfl, show 40 + min 15 17 = 55 from rfl, show 40 + min 16 17 = 56 from rfl, show 40 + min 17 17 = 57 from rfl, v0, v1, v2, v3, v4, v5, v6, v7, v8, v9, v10, v11, v12, v13, v14, v15, v16, v17]
                    clear v0 v1 v2 v3 v4 v5 v6 v7 v8 v9 v10 v11 v12 v13 v14 v15 v16 v17 hvs hbel
                    go_simp
                    go_wp2_with fail
                    go_ret
                    refine ⟨?_, ?_⟩
                    · rw [HO2.out, Bool.true_and, show fs.all Hr.fldB = false from List.all_eq_false.2 ⟨_, HMM.out, by rw [HFB2.out]; simp⟩]; rfl
                    · first | exact HB0.out.trans (HBR.out.mono HZ.out) | (rw [HHH.out]; exact HB0.out.trans (HBR.out.mono HZ.out))
                · have hn : (lb.toList == nb.toList) = true := HQ.out
                  have hn2 : (lb.toList != nb.toList) = false := by simp [bne, hn]
                  refine region_slotsG (fun i => 40 + min i 17) (rrC C nb vb lb q3) (fun _ => true) (by kernel_rfl) (by kernel_rfl) (fun i => by show 40 + min i 17 < _; simp; omega) (fun i j hi hj h => by have hi : i < 18 := hi; have hj : j < 18 := hj; omega) ?mono ?dst ?gu ?ng ?skip ?step ?done
                  case mono =>
                    intro i W W' v h hbw
                    match i, h with
                    | 0, h | 1, h | 2, h | 3, h | 4, h | 5, h | 6, h | 7, h | 8, h | 9, h | 10, h | 11, h | 12, h | 13, h | 14, h | 15, h | 16, h | 17, h => exact h
                    | n + 18, h => exact h.elim
                  case dst =>
                    intro i o ho
                    match i, ho with
                    | 0, ho | 1, ho | 2, ho | 3, ho | 4, ho | 5, ho | 6, ho | 7, ho | 8, ho | 9, ho | 10, ho | 11, ho | 12, ho | 13, ho | 14, ho | 15, ho | 16, ho | 17, ho => cases ho; rfl
                    | n + 18, ho => exact absurd ho (by simp)
                  case gu =>
                    intro i o g b ho hgd W v hv
                    match i, ho with
                    | 0, ho => cases ho; cases hgd
                    | 1, ho => cases ho; cases hgd
                    | 2, ho => cases ho; cases hgd
                    | 3, ho => cases ho; cases hgd
                    | 4, ho => cases ho; cases hgd
                    | 5, ho => cases ho; cases hgd; exact hv
                    | 6, ho => cases ho; cases hgd; exact hv
                    | 7, ho => cases ho; cases hgd; exact hv
                    | 8, ho => cases ho; cases hgd; exact hv
                    | 9, ho => cases ho; cases hgd; exact hv
                    | 10, ho => cases ho; cases hgd; exact hv
                    | 11, ho => cases ho; cases hgd
                    | 12, ho => cases ho; cases hgd
                    | 13, ho => cases ho; cases hgd; exact hv
                    | 14, ho => cases ho; cases hgd; exact hv
                    | 15, ho => cases ho; cases hgd; exact hv
                    | 16, ho => cases ho; cases hgd; exact hv
                    | 17, ho => cases ho; cases hgd
                    | n + 18, ho => exact absurd ho (by simp)
                  case ng =>
                    intro i o ho hgd
                    match i, ho with
                    | 0, ho => cases ho; first | rfl | cases hgd
                    | 1, ho => cases ho; first | rfl | cases hgd
                    | 2, ho => cases ho; first | rfl | cases hgd
                    | 3, ho => cases ho; first | rfl | cases hgd
                    | 4, ho => cases ho; first | rfl | cases hgd
                    | 5, ho => cases ho; first | rfl | cases hgd
                    | 6, ho => cases ho; first | rfl | cases hgd
                    | 7, ho => cases ho; first | rfl | cases hgd
                    | 8, ho => cases ho; first | rfl | cases hgd
                    | 9, ho => cases ho; first | rfl | cases hgd
                    | 10, ho => cases ho; first | rfl | cases hgd
                    | 11, ho => cases ho; first | rfl | cases hgd
                    | 12, ho => cases ho; first | rfl | cases hgd
                    | 13, ho => cases ho; first | rfl | cases hgd
                    | 14, ho => cases ho; first | rfl | cases hgd
                    | 15, ho => cases ho; first | rfl | cases hgd
                    | 16, ho => cases ho; first | rfl | cases hgd
                    | 17, ho => cases ho; first | rfl | cases hgd
                    | n + 18, ho => exact absurd ho (by simp)
                  case skip =>
                    intro i W hi hsel
                    match i, hi, hsel with
                    | 0, _, hsel => first | exact absurd hsel (by decide) | rfl
                    | 1, _, hsel => first | exact absurd hsel (by decide) | rfl
                    | 2, _, hsel => first | exact absurd hsel (by decide) | rfl
                    | 3, _, hsel => first | exact absurd hsel (by decide) | rfl
                    | 4, _, hsel => first | exact absurd hsel (by decide) | rfl
                    | 5, _, hsel => first | exact absurd hsel (by decide) | rfl
                    | 6, _, hsel => first | exact absurd hsel (by decide) | rfl
                    | 7, _, hsel => first | exact absurd hsel (by decide) | rfl
                    | 8, _, hsel => first | exact absurd hsel (by decide) | rfl
                    | 9, _, hsel => first | exact absurd hsel (by decide) | rfl
                    | 10, _, hsel => first | exact absurd hsel (by decide) | rfl
                    | 11, _, hsel => first | exact absurd hsel (by decide) | rfl
                    | 12, _, hsel => first | exact absurd hsel (by decide) | rfl
                    | 13, _, hsel => first | exact absurd hsel (by decide) | rfl
                    | 14, _, hsel => first | exact absurd hsel (by decide) | rfl
                    | 15, _, hsel => first | exact absurd hsel (by decide) | rfl
                    | 16, _, hsel => first | exact absurd hsel (by decide) | rfl
                    | 17, _, hsel => first | exact absurd hsel (by decide) | rfl
                    | n + 18, hi, _ => exact absurd hi (by simp)
                  case step =>
                    intro f a' W i o ho hsel hpre hbel hrest
                    match i, ho, hsel with
                    | 0, ho, _ =>
                      cases ho
                      have q4 : a'.tmps.getD 4 undef = .pointer (some ⟨C, 0, none⟩) := (hrest 4 (by intro i hi; have hi : i < 18 := hi; show 40 + min i 17 ≠ _; omega))
                      have e4 := rg_ev q4
                      exact rg_same (.pointer (some ⟨C, 0, none⟩)) (by unfold Oper.wp execOp; go_simp; all_goals ((try simp only [e4]); (try go_simp); (try rw [if_pos (by omega)]); (try rw [if_neg (by omega)]); first | done | rfl | exact ⟨rfl, rfl⟩ | trivial)) rfl
                    | 1, ho, _ =>
                      cases ho
                      have q40 : a'.tmps.getD 40 undef = .pointer (some ⟨C, 0, none⟩) := (hpre { on := 0, ground := .data } (by simp) rfl)
                      have ce := HCE.out W hbel
                      have c0 := ce.1
                      have c1 := ce.2
                      have e40 := rg_ev q40
                      exact rg_same (.string nb) (by unfold Oper.wp execOp; go_simp; all_goals ((try simp only [e40]); (try go_simp); (try rw [if_pos (by omega)]); (try rw [if_neg (by omega)]); first | done | rfl | exact ⟨rfl, rfl⟩ | trivial)) rfl
                    | 2, ho, _ =>
                      cases ho
                      have q41 : a'.tmps.getD 41 undef = .string nb := (hpre { on := 1, ground := .data } (by simp) rfl)
                      exact rg_call 41 44 _ _ _ rfl q41 (enters_of Tryz.func44 (by kernel_rfl) rfl) (KT.out W) (fun e w' h => ⟨_, h.1, _, rfl, rfl, by rw [h.2]; exact Below.refl _ _⟩)
                    | 3, ho, _ =>
                      cases ho
                      have q42 : a'.tmps.getD 42 undef = .bool true := (hpre { on := 2, ground := .data } (by simp) rfl)
                      have e42 := rg_ev q42
                      exact rg_same (.bool false) (by unfold Oper.wp execOp; go_simp; all_goals ((try simp only [e42]); (try go_simp); (try rw [if_pos (by omega)]); (try rw [if_neg (by omega)]); first | done | rfl | exact ⟨rfl, rfl⟩ | trivial)) rfl
                    | 4, ho, _ =>
                      cases ho
                      have q43 : a'.tmps.getD 43 undef = .bool false := (hpre { on := 3, ground := .data } (by simp) rfl)
                      have e43 := rg_ev q43
                      exact rg_same (.bool false) (by unfold Oper.wp execOp; go_simp; all_goals ((try simp only [e43]); (try go_simp); (try rw [if_pos (by omega)]); (try rw [if_neg (by omega)]); first | done | rfl | exact ⟨rfl, rfl⟩ | trivial)) rfl
                    | 5, ho, _ =>
                      cases ho
                      have q4 : a'.tmps.getD 4 undef = .pointer (some ⟨C, 0, none⟩) := (hrest 4 (by intro i hi; have hi : i < 18 := hi; show 40 + min i 17 ≠ _; omega))
                      have e4 := rg_ev q4
                      exact rg_same (.pointer (some ⟨C, 0, none⟩)) (by unfold Oper.wp execOp; go_simp; all_goals ((try simp only [e4]); (try go_simp); (try rw [if_pos (by omega)]); (try rw [if_neg (by omega)]); first | done | rfl | exact ⟨rfl, rfl⟩ | trivial)) rfl
                    | 6, ho, _ =>
                      cases ho
                      have q45 : a'.tmps.getD 45 undef = .pointer (some ⟨C, 0, none⟩) := (hpre { on := 5, ground := .data } (by simp) rfl)
                      have ce := HCE.out W hbel
                      have c0 := ce.1
                      have c1 := ce.2
                      have e45 := rg_ev q45
                      exact rg_same (.string nb) (by unfold Oper.wp execOp; go_simp; all_goals ((try simp only [e45]); (try go_simp); (try rw [if_pos (by omega)]); (try rw [if_neg (by omega)]); first | done | rfl | exact ⟨rfl, rfl⟩ | trivial)) rfl
                    | 7, ho, _ =>
                      cases ho
                      have q46 : a'.tmps.getD 46 undef = .string nb := (hpre { on := 6, ground := .data } (by simp) rfl)
                      exact rg_call 46 24 _ _ _ rfl q46 (enters_of Tryz.func24 (by kernel_rfl) rfl) (KL.out W) (fun e w' h => ⟨_, h.1, _, rfl, rfl, h.2⟩)
                    | 8, ho, _ =>
                      cases ho
                      have q4 : a'.tmps.getD 4 undef = .pointer (some ⟨C, 0, none⟩) := (hrest 4 (by intro i hi; have hi : i < 18 := hi; show 40 + min i 17 ≠ _; omega))
                      have e4 := rg_ev q4
                      exact rg_same (.pointer (some ⟨C, 0, none⟩)) (by unfold Oper.wp execOp; go_simp; all_goals ((try simp only [e4]); (try go_simp); (try rw [if_pos (by omega)]); (try rw [if_neg (by omega)]); first | done | rfl | exact ⟨rfl, rfl⟩ | trivial)) rfl
                    | 9, ho, _ =>
                      cases ho
                      have q48 : a'.tmps.getD 48 undef = .pointer (some ⟨C, 0, none⟩) := (hpre { on := 8, ground := .data } (by simp) rfl)
                      have ce := HCE.out W hbel
                      have c0 := ce.1
                      have c1 := ce.2
                      have e48 := rg_ev q48
                      exact rg_same (.string nb) (by unfold Oper.wp execOp; go_simp; all_goals ((try simp only [e48]); (try go_simp); (try rw [if_pos (by omega)]); (try rw [if_neg (by omega)]); first | done | rfl | exact ⟨rfl, rfl⟩ | trivial)) rfl
                    | 10, ho, _ =>
                      cases ho
                      have q47 : a'.tmps.getD 47 undef = .string lb := (hpre { on := 7, ground := .data } (by simp) rfl)
                      have q49 : a'.tmps.getD 49 undef = .string nb := (hpre { on := 9, ground := .data } (by simp) rfl)
                      have e47 := rg_ev q47
                      have e49 := rg_ev q49
                      exact rg_same (.bool false) (by unfold Oper.wp execOp; go_simp; all_goals ((try simp only [e47, e49]); (try go_simp); (try rw [if_pos (by omega)]); (try rw [if_neg (by omega)]); first | done | rfl | exact ⟨rfl, rfl⟩ | trivial)) rfl
                    | 11, ho, _ =>
                      cases ho
                      have q44 : a'.tmps.getD 44 undef = .bool false := (hpre { on := 4, ground := .data } (by simp) rfl)
                      have q50 : a'.tmps.getD 50 undef = .bool false := (hpre { on := 10, ground := .data } (by simp) rfl)
                      have e44 := rg_ev q44
                      have e50 := rg_ev q50
                      exact rg_same (.bool false) (by unfold Oper.wp execOp; go_simp; all_goals ((try simp only [e44, e50]); (try go_simp); (try rw [if_pos (by omega)]); (try rw [if_neg (by omega)]); first | done | rfl | exact ⟨rfl, rfl⟩ | trivial)) rfl
                    | 12, ho, _ =>
                      cases ho
                      have q51 : a'.tmps.getD 51 undef = .bool false := (hpre { on := 11, ground := .data } (by simp) rfl)
                      have e51 := rg_ev q51
                      exact rg_same (.bool false) (by unfold Oper.wp execOp; go_simp; all_goals ((try simp only [e51]); (try go_simp); (try rw [if_pos (by omega)]); (try rw [if_neg (by omega)]); first | done | rfl | exact ⟨rfl, rfl⟩ | trivial)) rfl
                    | 13, ho, _ =>
                      cases ho
                      have q4 : a'.tmps.getD 4 undef = .pointer (some ⟨C, 0, none⟩) := (hrest 4 (by intro i hi; have hi : i < 18 := hi; show 40 + min i 17 ≠ _; omega))
                      have e4 := rg_ev q4
                      exact rg_same (.pointer (some ⟨C, 1, none⟩)) (by unfold Oper.wp execOp; go_simp; all_goals ((try simp only [e4]); (try go_simp); (try rw [if_pos (by omega)]); (try rw [if_neg (by omega)]); first | done | rfl | exact ⟨rfl, rfl⟩ | trivial)) rfl
                    | 14, ho, _ =>
                      cases ho
                      have q53 : a'.tmps.getD 53 undef = .pointer (some ⟨C, 1, none⟩) := (hpre { on := 13, ground := .data } (by simp) rfl)
                      have ce := HCE.out W hbel
                      have c0 := ce.1
                      have c1 := ce.2
                      have e53 := rg_ev q53
                      exact rg_same (.string vb) (by unfold Oper.wp execOp; go_simp; all_goals ((try simp only [e53]); (try go_simp); (try rw [if_pos (by omega)]); (try rw [if_neg (by omega)]); first | done | rfl | exact ⟨rfl, rfl⟩ | trivial)) rfl
                    | 15, ho, _ =>
                      cases ho
                      have q54 : a'.tmps.getD 54 undef = .string vb := (hpre { on := 14, ground := .data } (by simp) rfl)
                      exact rg_call 54 43 _ _ _ rfl q54 (enters_of Tryz.func43 (by kernel_rfl) rfl) (KV.out W) (fun e w' h => ⟨_, h.1, _, rfl, rfl, by rw [h.2]; exact Below.refl _ _⟩)
                    | 16, ho, _ =>
                      cases ho
                      have q55 : a'.tmps.getD 55 undef = .bool q3 := (hpre { on := 15, ground := .data } (by simp) rfl)
                      have e55 := rg_ev q55
                      exact rg_same (.bool (!q3)) (by unfold Oper.wp execOp; go_simp; all_goals ((try simp only [e55]); (try go_simp); (try rw [if_pos (by omega)]); (try rw [if_neg (by omega)]); first | done | rfl | exact ⟨rfl, rfl⟩ | trivial)) rfl
                    | 17, ho, _ =>
                      cases ho
                      have q52 : a'.tmps.getD 52 undef = .bool false := (hpre { on := 12, ground := .data } (by simp) rfl)
                      have q56 : a'.tmps.getD 56 undef = .bool (!q3) := (hpre { on := 16, ground := .data } (by simp) rfl)
                      have e52 := rg_ev q52
                      have e56 := rg_ev q56
                      exact rg_same (.bool (!q3)) (by unfold Oper.wp execOp; go_simp; all_goals ((try simp only [e52, e56]); (try go_simp); (try rw [if_pos (by omega)]); (try rw [if_neg (by omega)]); first | done | rfl | exact ⟨rfl, rfl⟩ | trivial)) rfl
                    | n + 18, ho, _ => exact absurd ho (by simp)
                  case done =>
                    intro vs W hbel hvs
                    have v0 : vs 0 = .pointer (some ⟨C, 0, none⟩) := hvs 0 (by decide)
                    have v1 : vs 1 = .string nb := hvs 1 (by decide)
                    have v2 : vs 2 = .bool true := hvs 2 (by decide)
                    have v3 : vs 3 = .bool false := hvs 3 (by decide)
                    have v4 : vs 4 = .bool false := hvs 4 (by decide)
                    have v5 : vs 5 = .pointer (some ⟨C, 0, none⟩) := hvs 5 (by decide)
                    have v6 : vs 6 = .string nb := hvs 6 (by decide)
                    have v7 : vs 7 = .string lb := hvs 7 (by decide)
                    have v8 : vs 8 = .pointer (some ⟨C, 0, none⟩) := hvs 8 (by decide)
                    have v9 : vs 9 = .string nb := hvs 9 (by decide)
                    have v10 : vs 10 = .bool false := hvs 10 (by decide)
                    have v11 : vs 11 = .bool false := hvs 11 (by decide)
                    have v12 : vs 12 = .bool false := hvs 12 (by decide)
                    have v13 : vs 13 = .pointer (some ⟨C, 1, none⟩) := hvs 13 (by decide)
                    have v14 : vs 14 = .string vb := hvs 14 (by decide)
                    have v15 : vs 15 = .bool q3 := hvs 15 (by decide)
                    have v16 : vs 16 = .bool (!q3) := hvs 16 (by decide)
                    have v17 : vs 17 = .bool (!q3) := hvs 17 (by decide)
                    have HBR := Lib.hid hbel
                    simp only [fillN, List.size_toArray, List.length_cons, List.length_nil, Nat.reduceAdd, show List.range 18 = [0, 1, 2, 3, 4, 5, 6, 7, 8, 9, 10, 11, 12, 13, 14, 15, 16, 17] from rfl, List.foldl_cons, List.foldl_nil, show 40 + min 0 17 = 40 from rfl, show 40 + min 1 17 = 41 from rfl, show 40 + min 2 17 = 42 from rfl, show 40 + min 3 17 = 43 from rfl, show 40 + min 4 17 = 44 from rfl, show 40 + min 5 17 = 45 from rfl, show 40 + min 6 17 = 46 from rfl, show 40 + min 7 17 = 47 from rfl, show 40 + min 8 17 = 48 from rfl, show 40 + min 9 17 = 49 from rfl, show 40 + min 10 17 = 50 from rfl, show 40 + min 11 17 = 51 from rfl, show 40 + min 12 17 = 52 from rfl, show 40 + min 13 17 = 53 from rfl, show 40 + min 14 17 = 54 from rfl, show 40 + min 15 17 = 55 from rfl, show 40 + min 16 17 = 56 from rfl, show 40 + min 17 17 = 57 from rfl, v0, v1, v2, v3, v4, v5, v6, v7, v8, v9, v10, v11, v12, v13, v14, v15, v16, v17]
                    clear v0 v1 v2 v3 v4 v5 v6 v7 v8 v9 v10 v11 v12 v13 v14 v15 v16 v17 hvs hbel
                    go_simp
                    cases q3
                    · go_wp2_with fail
                      go_ret
                      refine ⟨?_, ?_⟩
                      · rw [HO2.out, Bool.true_and, show fs.all Hr.fldB = false from List.all_eq_false.2 ⟨_, HMM.out, by rw [HFB2.out]; simp⟩]; rfl
                      · first | exact HB0.out.trans (HBR.out.mono HZ.out) | (rw [HHH.out]; exact HB0.out.trans (HBR.out.mono HZ.out))
                    · go_wp2_with fail
                      go_roundw
                      case rel =>
                        refine ⟨k + 1, hlt, by go_num, ?_, (HBR.out.block _ (Array.getElem?_eq_some_iff.1 HG.out).1).trans HG.out, HB0.out.trans (HBR.out.mono HZ.out)⟩
                        rw [HTK.out, List.all_append, HALL.out, List.all_cons, HFB2.out]; rfl
                      case measure => simp [intOf]; omega
            · obtain rfl : k = N := by omega
              go_wp2_with fail
              go_ret
              refine ⟨?_, ?_⟩
              · have h := HALL.out
                rw [List.take_of_length_le (by rw [HNN.out]; omega)] at h
                rw [HO2.out, h]; rfl
              · first | exact HBL.out | (rw [HHH.out]; exact HBL.out)
end Go.Proofs.YtheaichiglfmjaaGreatDoor
